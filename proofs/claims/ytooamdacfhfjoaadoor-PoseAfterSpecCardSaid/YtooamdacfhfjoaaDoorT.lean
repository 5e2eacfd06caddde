/-
  The program's functions as plain functions: by a tool; each follows the interpreter.
-/
import Derived.Test.YtooamdacfhfjoaaDoorT3
import Derived.KernelRfl
namespace Go.Proofs.YtooamdacfhfjoaaDoor
set_option linter.unusedVariables false
set_option linter.unusedSimpArgs false
set_option maxHeartbeats 4000000
set_option maxRecDepth 100000
def F35 (n : Nat) (a0 : Int) (a1 : Int) (a2 : Int) (a3 : Int) (a4 : Int) (a5 : Int) : Option Bool :=
  Option.bind (G61 a0 1 3) fun y1 => bif (!y1) then (some false) else (bif (a1 == 1) then (Option.bind (G61 a2 1 2) fun y4 => Option.bind (bif y4 then (Option.bind (G61 a3 1 8) fun y6 => some y6) else (some false)) fun y7 => Option.bind (bif y7 then (some (a4 == 0)) else (some false)) fun y11 => Option.bind (bif y11 then (Option.bind (G61 a5 1 16) fun y15 => some y15) else (some false)) fun y16 => some y16) else (bif (a1 == 2) then (Option.bind (bif (a2 == 0) then (Option.bind (G61 a3 1 8) fun y21 => some y21) else (some false)) fun y22 => Option.bind (bif y22 then (some (a4 == 0)) else (some false)) fun y26 => Option.bind (bif y26 then (Option.bind (G61 a5 1 16) fun y30 => some y30) else (some false)) fun y31 => some y31) else (bif (a1 == 3) then (Option.bind (G61 a2 1 2) fun y35 => Option.bind (bif y35 then (Option.bind (G61 a3 0 8) fun y37 => some y37) else (some false)) fun y38 => Option.bind (bif y38 then (Option.bind (G61 a4 1 3) fun y42 => some y42) else (some false)) fun y43 => Option.bind (bif y43 then (some (a5 == 0)) else (some false)) fun y47 => some y47) else (bif (a1 == 4) then (Option.bind (G61 a2 1 2) fun y51 => Option.bind (bif y51 then (Option.bind (G61 a3 0 8) fun y53 => some y53) else (some false)) fun y54 => Option.bind (bif y54 then (Option.bind (G61 a4 1 3) fun y58 => some y58) else (some false)) fun y59 => Option.bind (bif y59 then (some (a5 == 0)) else (some false)) fun y63 => some y63) else (bif (a1 == 5) then (Option.bind (bif (a2 == 0) then (Option.bind (G61 a3 0 8) fun y68 => some y68) else (some false)) fun y69 => Option.bind (bif y69 then (Option.bind (G61 a4 1 3) fun y73 => some y73) else (some false)) fun y74 => Option.bind (bif y74 then (some (a5 == 0)) else (some false)) fun y78 => some y78) else (bif (a1 == 6) then (Option.bind (bif (a2 == 0) then (some (a3 == 0)) else (some false)) fun y83 => Option.bind (bif y83 then (some (a4 == 0)) else (some false)) fun y87 => Option.bind (bif y87 then (Option.bind (G61 a5 1 7) fun y91 => some y91) else (some false)) fun y92 => some y92) else (bif (a1 == 7) then (Option.bind (bif (a2 == 0) then (some (a3 == 0)) else (some false)) fun y97 => Option.bind (bif y97 then (some (a4 == 0)) else (some false)) fun y101 => Option.bind (bif y101 then (some (a5 == 0)) else (some false)) fun y105 => some y105) else (bif (a1 == 8) then (Option.bind (bif (a2 == 0) then (some (a3 == 0)) else (some false)) fun y110 => Option.bind (bif y110 then (some (a4 == 0)) else (some false)) fun y114 => Option.bind (bif y114 then (some (a5 == 0)) else (some false)) fun y118 => some y118) else (bif (a1 == 9) then (Option.bind (G61 a2 1 2) fun y122 => Option.bind (bif y122 then (some (a3 == 0)) else (some false)) fun y124 => Option.bind (bif y124 then (Option.bind (G61 a4 1 3) fun y128 => some y128) else (some false)) fun y129 => Option.bind (bif y129 then (some (a5 == 0)) else (some false)) fun y133 => some y133) else (some false))))))))))
theorem T35 (C : Nat → List A → Option A) (n : Nat) (h61 : Orc61 C) (a0 : Int) (a1 : Int) (a2 : Int) (a3 : Int) (a4 : Int) (a5 : Int) : J (fun (o : R) y => ∃ v, o.1 = .ret v ∧ snapE o.2 v = (bA y)) (evCall1 (cx C) (evCall (cx C) (n+8)) (evCallY (cx C) (n+8)) (n+8) 35 [(iA a0), (iA a1), (iA a2), (iA a3), (iA a4), (iA a5)] [] 0) some (F35 n a0 a1 a2 a3 a4 a5) some := by
  refine .lp (e35 ..) ?_
  unfold F35
  refine .bd (g := fun (y : Bool) => (bA y)) (h61 a0 1 3) fun y1 => ?_
  refine .s (bA (!y1)) ?_
  refine .biHN (fun hk2 => ?_) (fun hk2 => ?_)
  · exact .lf rfl rfl ⟨_, rfl, rfl⟩
  refine .st (v := (bA (a1 == 1))) (aBin_eql ..) ?_
  refine .biHN (fun hk3 => ?_) (fun hk3 => ?_)
  · refine .bd (g := fun (y : Bool) => (bA y)) (h61 a2 1 2) fun y4 => ?_
    refine .bg (fun t (y : Bool) => ∃ j8 j9 : A, t = [(bA y), j8, j9]) ?_ ?_
    · refine .biH (fun hk5 => ?_) (fun hk5 => ?_)
      · refine .bd (g := fun (y : Bool) => (bA y)) (h61 a3 1 8) fun y6 => ?_
        exact .lg ⟨_, _, rfl⟩
      exact .lg ⟨_, _, rfl⟩
    rintro _ y7 ⟨j8, j9, rfl⟩
    iterate 3 refine .uc ?_
    refine .bg (fun t (y : Bool) => ∃ j12 j13 : A, t = [(bA y), j12, j13]) ?_ ?_
    · refine .biH (fun hk10 => ?_) (fun hk10 => ?_)
      · refine .st (v := (bA (a4 == 0))) (aBin_eql ..) ?_
        exact .lg ⟨_, _, rfl⟩
      exact .lg ⟨_, _, rfl⟩
    rintro _ y11 ⟨j12, j13, rfl⟩
    iterate 3 refine .uc ?_
    refine .bg (fun t (y : Bool) => ∃ j17 j18 : A, t = [(bA y), j17, j18]) ?_ ?_
    · refine .biH (fun hk14 => ?_) (fun hk14 => ?_)
      · refine .bd (g := fun (y : Bool) => (bA y)) (h61 a5 1 16) fun y15 => ?_
        exact .lg ⟨_, _, rfl⟩
      exact .lg ⟨_, _, rfl⟩
    rintro _ y16 ⟨j17, j18, rfl⟩
    iterate 3 refine .uc ?_
    exact .lf rfl rfl ⟨_, rfl, rfl⟩
  refine .st (v := (bA (a1 == 2))) (aBin_eql ..) ?_
  refine .biHN (fun hk19 => ?_) (fun hk19 => ?_)
  · refine .st (v := (bA (a2 == 0))) (aBin_eql ..) ?_
    refine .bg (fun t (y : Bool) => ∃ j23 j24 : A, t = [(bA y), j23, j24]) ?_ ?_
    · refine .biH (fun hk20 => ?_) (fun hk20 => ?_)
      · refine .bd (g := fun (y : Bool) => (bA y)) (h61 a3 1 8) fun y21 => ?_
        exact .lg ⟨_, _, rfl⟩
      exact .lg ⟨_, _, rfl⟩
    rintro _ y22 ⟨j23, j24, rfl⟩
    iterate 3 refine .uc ?_
    refine .bg (fun t (y : Bool) => ∃ j27 j28 : A, t = [(bA y), j27, j28]) ?_ ?_
    · refine .biH (fun hk25 => ?_) (fun hk25 => ?_)
      · refine .st (v := (bA (a4 == 0))) (aBin_eql ..) ?_
        exact .lg ⟨_, _, rfl⟩
      exact .lg ⟨_, _, rfl⟩
    rintro _ y26 ⟨j27, j28, rfl⟩
    iterate 3 refine .uc ?_
    refine .bg (fun t (y : Bool) => ∃ j32 j33 : A, t = [(bA y), j32, j33]) ?_ ?_
    · refine .biH (fun hk29 => ?_) (fun hk29 => ?_)
      · refine .bd (g := fun (y : Bool) => (bA y)) (h61 a5 1 16) fun y30 => ?_
        exact .lg ⟨_, _, rfl⟩
      exact .lg ⟨_, _, rfl⟩
    rintro _ y31 ⟨j32, j33, rfl⟩
    iterate 3 refine .uc ?_
    exact .lf rfl rfl ⟨_, rfl, rfl⟩
  refine .st (v := (bA (a1 == 3))) (aBin_eql ..) ?_
  refine .biHN (fun hk34 => ?_) (fun hk34 => ?_)
  · refine .bd (g := fun (y : Bool) => (bA y)) (h61 a2 1 2) fun y35 => ?_
    refine .bg (fun t (y : Bool) => ∃ j39 j40 : A, t = [(bA y), j39, j40]) ?_ ?_
    · refine .biH (fun hk36 => ?_) (fun hk36 => ?_)
      · refine .bd (g := fun (y : Bool) => (bA y)) (h61 a3 0 8) fun y37 => ?_
        exact .lg ⟨_, _, rfl⟩
      exact .lg ⟨_, _, rfl⟩
    rintro _ y38 ⟨j39, j40, rfl⟩
    iterate 3 refine .uc ?_
    refine .bg (fun t (y : Bool) => ∃ j44 j45 : A, t = [(bA y), j44, j45]) ?_ ?_
    · refine .biH (fun hk41 => ?_) (fun hk41 => ?_)
      · refine .bd (g := fun (y : Bool) => (bA y)) (h61 a4 1 3) fun y42 => ?_
        exact .lg ⟨_, _, rfl⟩
      exact .lg ⟨_, _, rfl⟩
    rintro _ y43 ⟨j44, j45, rfl⟩
    iterate 3 refine .uc ?_
    refine .bg (fun t (y : Bool) => ∃ j48 j49 : A, t = [(bA y), j48, j49]) ?_ ?_
    · refine .biH (fun hk46 => ?_) (fun hk46 => ?_)
      · refine .st (v := (bA (a5 == 0))) (aBin_eql ..) ?_
        exact .lg ⟨_, _, rfl⟩
      exact .lg ⟨_, _, rfl⟩
    rintro _ y47 ⟨j48, j49, rfl⟩
    iterate 3 refine .uc ?_
    exact .lf rfl rfl ⟨_, rfl, rfl⟩
  refine .st (v := (bA (a1 == 4))) (aBin_eql ..) ?_
  refine .biHN (fun hk50 => ?_) (fun hk50 => ?_)
  · refine .bd (g := fun (y : Bool) => (bA y)) (h61 a2 1 2) fun y51 => ?_
    refine .bg (fun t (y : Bool) => ∃ j55 j56 : A, t = [(bA y), j55, j56]) ?_ ?_
    · refine .biH (fun hk52 => ?_) (fun hk52 => ?_)
      · refine .bd (g := fun (y : Bool) => (bA y)) (h61 a3 0 8) fun y53 => ?_
        exact .lg ⟨_, _, rfl⟩
      exact .lg ⟨_, _, rfl⟩
    rintro _ y54 ⟨j55, j56, rfl⟩
    iterate 3 refine .uc ?_
    refine .bg (fun t (y : Bool) => ∃ j60 j61 : A, t = [(bA y), j60, j61]) ?_ ?_
    · refine .biH (fun hk57 => ?_) (fun hk57 => ?_)
      · refine .bd (g := fun (y : Bool) => (bA y)) (h61 a4 1 3) fun y58 => ?_
        exact .lg ⟨_, _, rfl⟩
      exact .lg ⟨_, _, rfl⟩
    rintro _ y59 ⟨j60, j61, rfl⟩
    iterate 3 refine .uc ?_
    refine .bg (fun t (y : Bool) => ∃ j64 j65 : A, t = [(bA y), j64, j65]) ?_ ?_
    · refine .biH (fun hk62 => ?_) (fun hk62 => ?_)
      · refine .st (v := (bA (a5 == 0))) (aBin_eql ..) ?_
        exact .lg ⟨_, _, rfl⟩
      exact .lg ⟨_, _, rfl⟩
    rintro _ y63 ⟨j64, j65, rfl⟩
    iterate 3 refine .uc ?_
    exact .lf rfl rfl ⟨_, rfl, rfl⟩
  refine .st (v := (bA (a1 == 5))) (aBin_eql ..) ?_
  refine .biHN (fun hk66 => ?_) (fun hk66 => ?_)
  · refine .st (v := (bA (a2 == 0))) (aBin_eql ..) ?_
    refine .bg (fun t (y : Bool) => ∃ j70 j71 : A, t = [(bA y), j70, j71]) ?_ ?_
    · refine .biH (fun hk67 => ?_) (fun hk67 => ?_)
      · refine .bd (g := fun (y : Bool) => (bA y)) (h61 a3 0 8) fun y68 => ?_
        exact .lg ⟨_, _, rfl⟩
      exact .lg ⟨_, _, rfl⟩
    rintro _ y69 ⟨j70, j71, rfl⟩
    iterate 3 refine .uc ?_
    refine .bg (fun t (y : Bool) => ∃ j75 j76 : A, t = [(bA y), j75, j76]) ?_ ?_
    · refine .biH (fun hk72 => ?_) (fun hk72 => ?_)
      · refine .bd (g := fun (y : Bool) => (bA y)) (h61 a4 1 3) fun y73 => ?_
        exact .lg ⟨_, _, rfl⟩
      exact .lg ⟨_, _, rfl⟩
    rintro _ y74 ⟨j75, j76, rfl⟩
    iterate 3 refine .uc ?_
    refine .bg (fun t (y : Bool) => ∃ j79 j80 : A, t = [(bA y), j79, j80]) ?_ ?_
    · refine .biH (fun hk77 => ?_) (fun hk77 => ?_)
      · refine .st (v := (bA (a5 == 0))) (aBin_eql ..) ?_
        exact .lg ⟨_, _, rfl⟩
      exact .lg ⟨_, _, rfl⟩
    rintro _ y78 ⟨j79, j80, rfl⟩
    iterate 3 refine .uc ?_
    exact .lf rfl rfl ⟨_, rfl, rfl⟩
  refine .st (v := (bA (a1 == 6))) (aBin_eql ..) ?_
  refine .biHN (fun hk81 => ?_) (fun hk81 => ?_)
  · refine .st (v := (bA (a2 == 0))) (aBin_eql ..) ?_
    refine .bg (fun t (y : Bool) => ∃ j84 j85 : A, t = [(bA y), j84, j85]) ?_ ?_
    · refine .biH (fun hk82 => ?_) (fun hk82 => ?_)
      · refine .st (v := (bA (a3 == 0))) (aBin_eql ..) ?_
        exact .lg ⟨_, _, rfl⟩
      exact .lg ⟨_, _, rfl⟩
    rintro _ y83 ⟨j84, j85, rfl⟩
    iterate 3 refine .uc ?_
    refine .bg (fun t (y : Bool) => ∃ j88 j89 : A, t = [(bA y), j88, j89]) ?_ ?_
    · refine .biH (fun hk86 => ?_) (fun hk86 => ?_)
      · refine .st (v := (bA (a4 == 0))) (aBin_eql ..) ?_
        exact .lg ⟨_, _, rfl⟩
      exact .lg ⟨_, _, rfl⟩
    rintro _ y87 ⟨j88, j89, rfl⟩
    iterate 3 refine .uc ?_
    refine .bg (fun t (y : Bool) => ∃ j93 j94 : A, t = [(bA y), j93, j94]) ?_ ?_
    · refine .biH (fun hk90 => ?_) (fun hk90 => ?_)
      · refine .bd (g := fun (y : Bool) => (bA y)) (h61 a5 1 7) fun y91 => ?_
        exact .lg ⟨_, _, rfl⟩
      exact .lg ⟨_, _, rfl⟩
    rintro _ y92 ⟨j93, j94, rfl⟩
    iterate 3 refine .uc ?_
    exact .lf rfl rfl ⟨_, rfl, rfl⟩
  refine .st (v := (bA (a1 == 7))) (aBin_eql ..) ?_
  refine .biHN (fun hk95 => ?_) (fun hk95 => ?_)
  · refine .st (v := (bA (a2 == 0))) (aBin_eql ..) ?_
    refine .bg (fun t (y : Bool) => ∃ j98 j99 : A, t = [(bA y), j98, j99]) ?_ ?_
    · refine .biH (fun hk96 => ?_) (fun hk96 => ?_)
      · refine .st (v := (bA (a3 == 0))) (aBin_eql ..) ?_
        exact .lg ⟨_, _, rfl⟩
      exact .lg ⟨_, _, rfl⟩
    rintro _ y97 ⟨j98, j99, rfl⟩
    iterate 3 refine .uc ?_
    refine .bg (fun t (y : Bool) => ∃ j102 j103 : A, t = [(bA y), j102, j103]) ?_ ?_
    · refine .biH (fun hk100 => ?_) (fun hk100 => ?_)
      · refine .st (v := (bA (a4 == 0))) (aBin_eql ..) ?_
        exact .lg ⟨_, _, rfl⟩
      exact .lg ⟨_, _, rfl⟩
    rintro _ y101 ⟨j102, j103, rfl⟩
    iterate 3 refine .uc ?_
    refine .bg (fun t (y : Bool) => ∃ j106 j107 : A, t = [(bA y), j106, j107]) ?_ ?_
    · refine .biH (fun hk104 => ?_) (fun hk104 => ?_)
      · refine .st (v := (bA (a5 == 0))) (aBin_eql ..) ?_
        exact .lg ⟨_, _, rfl⟩
      exact .lg ⟨_, _, rfl⟩
    rintro _ y105 ⟨j106, j107, rfl⟩
    iterate 3 refine .uc ?_
    exact .lf rfl rfl ⟨_, rfl, rfl⟩
  refine .st (v := (bA (a1 == 8))) (aBin_eql ..) ?_
  refine .biHN (fun hk108 => ?_) (fun hk108 => ?_)
  · refine .st (v := (bA (a2 == 0))) (aBin_eql ..) ?_
    refine .bg (fun t (y : Bool) => ∃ j111 j112 : A, t = [(bA y), j111, j112]) ?_ ?_
    · refine .biH (fun hk109 => ?_) (fun hk109 => ?_)
      · refine .st (v := (bA (a3 == 0))) (aBin_eql ..) ?_
        exact .lg ⟨_, _, rfl⟩
      exact .lg ⟨_, _, rfl⟩
    rintro _ y110 ⟨j111, j112, rfl⟩
    iterate 3 refine .uc ?_
    refine .bg (fun t (y : Bool) => ∃ j115 j116 : A, t = [(bA y), j115, j116]) ?_ ?_
    · refine .biH (fun hk113 => ?_) (fun hk113 => ?_)
      · refine .st (v := (bA (a4 == 0))) (aBin_eql ..) ?_
        exact .lg ⟨_, _, rfl⟩
      exact .lg ⟨_, _, rfl⟩
    rintro _ y114 ⟨j115, j116, rfl⟩
    iterate 3 refine .uc ?_
    refine .bg (fun t (y : Bool) => ∃ j119 j120 : A, t = [(bA y), j119, j120]) ?_ ?_
    · refine .biH (fun hk117 => ?_) (fun hk117 => ?_)
      · refine .st (v := (bA (a5 == 0))) (aBin_eql ..) ?_
        exact .lg ⟨_, _, rfl⟩
      exact .lg ⟨_, _, rfl⟩
    rintro _ y118 ⟨j119, j120, rfl⟩
    iterate 3 refine .uc ?_
    exact .lf rfl rfl ⟨_, rfl, rfl⟩
  refine .st (v := (bA (a1 == 9))) (aBin_eql ..) ?_
  refine .biHN (fun hk121 => ?_) (fun hk121 => ?_)
  · refine .bd (g := fun (y : Bool) => (bA y)) (h61 a2 1 2) fun y122 => ?_
    refine .bg (fun t (y : Bool) => ∃ j125 j126 : A, t = [(bA y), j125, j126]) ?_ ?_
    · refine .biH (fun hk123 => ?_) (fun hk123 => ?_)
      · refine .st (v := (bA (a3 == 0))) (aBin_eql ..) ?_
        exact .lg ⟨_, _, rfl⟩
      exact .lg ⟨_, _, rfl⟩
    rintro _ y124 ⟨j125, j126, rfl⟩
    iterate 3 refine .uc ?_
    refine .bg (fun t (y : Bool) => ∃ j130 j131 : A, t = [(bA y), j130, j131]) ?_ ?_
    · refine .biH (fun hk127 => ?_) (fun hk127 => ?_)
      · refine .bd (g := fun (y : Bool) => (bA y)) (h61 a4 1 3) fun y128 => ?_
        exact .lg ⟨_, _, rfl⟩
      exact .lg ⟨_, _, rfl⟩
    rintro _ y129 ⟨j130, j131, rfl⟩
    iterate 3 refine .uc ?_
    refine .bg (fun t (y : Bool) => ∃ j134 j135 : A, t = [(bA y), j134, j135]) ?_ ?_
    · refine .biH (fun hk132 => ?_) (fun hk132 => ?_)
      · refine .st (v := (bA (a5 == 0))) (aBin_eql ..) ?_
        exact .lg ⟨_, _, rfl⟩
      exact .lg ⟨_, _, rfl⟩
    rintro _ y133 ⟨j134, j135, rfl⟩
    iterate 3 refine .uc ?_
    exact .lf rfl rfl ⟨_, rfl, rfl⟩
  exact .lf rfl rfl ⟨_, rfl, rfl⟩
def G35 (a0 : Int) (a1 : Int) (a2 : Int) (a3 : Int) (a4 : Int) (a5 : Int) : Option Bool := F35 fuel0 a0 a1 a2 a3 a4 a5
def Orc35 (C : Nat → List A → Option A) : Prop := ∀ (a0 : Int) (a1 : Int) (a2 : Int) (a3 : Int) (a4 : Int) (a5 : Int), C 35 [(iA a0), (iA a1), (iA a2), (iA a3), (iA a4), (iA a5)] = (G35 a0 a1 a2 a3 a4 a5).map fun y => (bA y)
def F36 (n : Nat) (a0 : S_Sign) (a1 : S_Real) : Option Bool :=
  bif (a1.Sign != a0.ID) then (some false) else (bif a1.Drop then (Option.bind (bif (a1.Dir == 0) then (some (a1.Level == 0)) else (some false)) fun y4 => some y4) else (bif (a0.Kind == 3) then (Option.bind (G30 a1.Dir 0 8) fun y9 => Option.bind (bif y9 then (Option.bind (G30 a1.Level 1 3) fun y11 => some y11) else (some false)) fun y12 => some y12) else (bif (a0.Kind == 4) then (Option.bind (G30 a1.Dir 0 8) fun y17 => Option.bind (bif y17 then (Option.bind (G30 a1.Level 1 3) fun y19 => some y19) else (some false)) fun y20 => some y20) else (bif (a0.Kind == 5) then (Option.bind (G30 a1.Dir 0 8) fun y25 => Option.bind (bif y25 then (Option.bind (G30 a1.Level 1 3) fun y27 => some y27) else (some false)) fun y28 => some y28) else (bif (a0.Kind == 9) then (Option.bind (bif (a1.Dir == 0) then (Option.bind (G30 a1.Level 1 3) fun y34 => some y34) else (some false)) fun y35 => some y35) else (Option.bind (bif (a1.Dir == 0) then (some (a1.Level == 0)) else (some false)) fun y40 => some y40))))))
theorem T36 (C : Nat → List A → Option A) (n : Nat) (h30 : Orc30 C) (a0 : S_Sign) (a1 : S_Real) : J (fun (o : R) y => ∃ v, o.1 = .ret v ∧ snapE o.2 v = (bA y)) (evCall1 (cx C) (evCall (cx C) (n+8)) (evCallY (cx C) (n+8)) (n+8) 36 [(A.agg (c_S_Sign a0)), (A.agg (c_S_Real a1))] [] 0) some (F36 n a0 a1) some := by
  refine .lp (e36 ..) ?_
  unfold F36
  refine .s ((A.ptr 0 0), [Blk.box (c_S_Sign a0)]) (.s ((A.ptr 1 0), [Blk.box (c_S_Sign a0), Blk.box (c_S_Real a1)]) (.s (A.ptr 1 0) (.s (iA a1.Sign) (.s (A.ptr 0 0) (.s (iA a0.ID) ?_)))))
  refine .st (v := (bA (a1.Sign != a0.ID))) (aBin_neq ..) ?_
  refine .biHN (fun hk1 => ?_) (fun hk1 => ?_)
  · exact .lf rfl rfl ⟨_, rfl, rfl⟩
  refine .s (A.ptr 1 3) (.s (bA a1.Drop) ?_)
  refine .biHN (fun hk2 => ?_) (fun hk2 => ?_)
  · refine .s (A.ptr 1 1) (.s (iA a1.Dir) ?_)
    refine .st (v := (bA (a1.Dir == 0))) (aBin_eql ..) ?_
    refine .bg (fun t (y : Bool) => ∃ j5 j6 j7 : A, t = [(bA y), j5, j6, j7]) ?_ ?_
    · refine .biH (fun hk3 => ?_) (fun hk3 => ?_)
      · refine .s (A.ptr 1 2) (.s (iA a1.Level) ?_)
        refine .st (v := (bA (a1.Level == 0))) (aBin_eql ..) ?_
        exact .lg ⟨_, _, _, rfl⟩
      exact .lg ⟨_, _, _, rfl⟩
    rintro _ y4 ⟨j5, j6, j7, rfl⟩
    iterate 4 refine .uc ?_
    exact .lf rfl rfl ⟨_, rfl, rfl⟩
  refine .s (A.ptr 0 4) (.s (iA a0.Kind) ?_)
  refine .st (v := (bA (a0.Kind == 3))) (aBin_eql ..) ?_
  refine .biHN (fun hk8 => ?_) (fun hk8 => ?_)
  · refine .s (A.ptr 1 1) (.s (iA a1.Dir) ?_)
    refine .bd (g := fun (y : Bool) => (bA y)) (h30 a1.Dir 0 8) fun y9 => ?_
    refine .bg (fun t (y : Bool) => ∃ j13 j14 j15 : A, t = [(bA y), j13, j14, j15]) ?_ ?_
    · refine .biH (fun hk10 => ?_) (fun hk10 => ?_)
      · refine .s (A.ptr 1 2) (.s (iA a1.Level) ?_)
        refine .bd (g := fun (y : Bool) => (bA y)) (h30 a1.Level 1 3) fun y11 => ?_
        exact .lg ⟨_, _, _, rfl⟩
      exact .lg ⟨_, _, _, rfl⟩
    rintro _ y12 ⟨j13, j14, j15, rfl⟩
    iterate 4 refine .uc ?_
    exact .lf rfl rfl ⟨_, rfl, rfl⟩
  refine .st (v := (bA (a0.Kind == 4))) (aBin_eql ..) ?_
  refine .biHN (fun hk16 => ?_) (fun hk16 => ?_)
  · refine .s (A.ptr 1 1) (.s (iA a1.Dir) ?_)
    refine .bd (g := fun (y : Bool) => (bA y)) (h30 a1.Dir 0 8) fun y17 => ?_
    refine .bg (fun t (y : Bool) => ∃ j21 j22 j23 : A, t = [(bA y), j21, j22, j23]) ?_ ?_
    · refine .biH (fun hk18 => ?_) (fun hk18 => ?_)
      · refine .s (A.ptr 1 2) (.s (iA a1.Level) ?_)
        refine .bd (g := fun (y : Bool) => (bA y)) (h30 a1.Level 1 3) fun y19 => ?_
        exact .lg ⟨_, _, _, rfl⟩
      exact .lg ⟨_, _, _, rfl⟩
    rintro _ y20 ⟨j21, j22, j23, rfl⟩
    iterate 4 refine .uc ?_
    exact .lf rfl rfl ⟨_, rfl, rfl⟩
  refine .st (v := (bA (a0.Kind == 5))) (aBin_eql ..) ?_
  refine .biHN (fun hk24 => ?_) (fun hk24 => ?_)
  · refine .s (A.ptr 1 1) (.s (iA a1.Dir) ?_)
    refine .bd (g := fun (y : Bool) => (bA y)) (h30 a1.Dir 0 8) fun y25 => ?_
    refine .bg (fun t (y : Bool) => ∃ j29 j30 j31 : A, t = [(bA y), j29, j30, j31]) ?_ ?_
    · refine .biH (fun hk26 => ?_) (fun hk26 => ?_)
      · refine .s (A.ptr 1 2) (.s (iA a1.Level) ?_)
        refine .bd (g := fun (y : Bool) => (bA y)) (h30 a1.Level 1 3) fun y27 => ?_
        exact .lg ⟨_, _, _, rfl⟩
      exact .lg ⟨_, _, _, rfl⟩
    rintro _ y28 ⟨j29, j30, j31, rfl⟩
    iterate 4 refine .uc ?_
    exact .lf rfl rfl ⟨_, rfl, rfl⟩
  refine .st (v := (bA (a0.Kind == 9))) (aBin_eql ..) ?_
  refine .biHN (fun hk32 => ?_) (fun hk32 => ?_)
  · refine .s (A.ptr 1 1) (.s (iA a1.Dir) ?_)
    refine .st (v := (bA (a1.Dir == 0))) (aBin_eql ..) ?_
    refine .bg (fun t (y : Bool) => ∃ j36 j37 j38 : A, t = [(bA y), j36, j37, j38]) ?_ ?_
    · refine .biH (fun hk33 => ?_) (fun hk33 => ?_)
      · refine .s (A.ptr 1 2) (.s (iA a1.Level) ?_)
        refine .bd (g := fun (y : Bool) => (bA y)) (h30 a1.Level 1 3) fun y34 => ?_
        exact .lg ⟨_, _, _, rfl⟩
      exact .lg ⟨_, _, _, rfl⟩
    rintro _ y35 ⟨j36, j37, j38, rfl⟩
    iterate 4 refine .uc ?_
    exact .lf rfl rfl ⟨_, rfl, rfl⟩
  refine .s (A.ptr 1 1) (.s (iA a1.Dir) ?_)
  refine .st (v := (bA (a1.Dir == 0))) (aBin_eql ..) ?_
  refine .bg (fun t (y : Bool) => ∃ j41 j42 j43 : A, t = [(bA y), j41, j42, j43]) ?_ ?_
  · refine .biH (fun hk39 => ?_) (fun hk39 => ?_)
    · refine .s (A.ptr 1 2) (.s (iA a1.Level) ?_)
      refine .st (v := (bA (a1.Level == 0))) (aBin_eql ..) ?_
      exact .lg ⟨_, _, _, rfl⟩
    exact .lg ⟨_, _, _, rfl⟩
  rintro _ y40 ⟨j41, j42, j43, rfl⟩
  iterate 4 refine .uc ?_
  exact .lf rfl rfl ⟨_, rfl, rfl⟩
def G36 (a0 : S_Sign) (a1 : S_Real) : Option Bool := F36 fuel0 a0 a1
def Orc36 (C : Nat → List A → Option A) : Prop := ∀ (a0 : S_Sign) (a1 : S_Real), C 36 [(A.agg (c_S_Sign a0)), (A.agg (c_S_Real a1))] = (G36 a0 a1).map fun y => (bA y)
def F62 (n : Nat) (a0 : Int) (a1 : Int) : Option (Int × Int) :=
  Option.bind (bif (decide (a0 < 0)) then (some true) else (some (decide (8 < a0)))) fun y2 => Option.bind (bif y2 then (some true) else (some (decide (a1 < 0)))) fun y6 => Option.bind (bif y6 then (some true) else (some (decide (7 < a1)))) fun y10 => bif y10 then (some ((0, 150))) else (bif (a0 == 0) then (some ((0, 0))) else (some ((wr .i64 ((Int.tmod (wr .i64 ((wr .i64 (a0 - 1)) + a1)) 8) + 1), 0))))
theorem T62 (C : Nat → List A → Option A) (n : Nat) (a0 : Int) (a1 : Int) : J (fun (o : R) y => ∃ v, o.1 = .ret v ∧ snapE o.2 v = (A.tup [(iA y.1), (iA y.2)])) (evCall1 (cx C) (evCall (cx C) (n+8)) (evCallY (cx C) (n+8)) (n+8) 62 [(iA a0), (iA a1)] [] 0) some (F62 n a0 a1) some := by
  refine .lp (e62 ..) ?_
  unfold F62
  refine .st (v := (bA (decide (a0 < 0)))) (aBin_lss ..) ?_
  refine .bg (fun t (y : Bool) => ∃ j3 j4 : A, t = [(bA y), j3, j4]) ?_ ?_
  · refine .biH (fun hk1 => ?_) (fun hk1 => ?_)
    · exact .lg ⟨_, _, rfl⟩
    refine .st (v := (bA (decide (8 < a0)))) (aBin_gtr ..) ?_
    exact .lg ⟨_, _, rfl⟩
  rintro _ y2 ⟨j3, j4, rfl⟩
  iterate 3 refine .uc ?_
  refine .bg (fun t (y : Bool) => ∃ j7 j8 : A, t = [(bA y), j7, j8]) ?_ ?_
  · refine .biH (fun hk5 => ?_) (fun hk5 => ?_)
    · exact .lg ⟨_, _, rfl⟩
    refine .st (v := (bA (decide (a1 < 0)))) (aBin_lss ..) ?_
    exact .lg ⟨_, _, rfl⟩
  rintro _ y6 ⟨j7, j8, rfl⟩
  iterate 3 refine .uc ?_
  refine .bg (fun t (y : Bool) => ∃ j11 j12 : A, t = [(bA y), j11, j12]) ?_ ?_
  · refine .biH (fun hk9 => ?_) (fun hk9 => ?_)
    · exact .lg ⟨_, _, rfl⟩
    refine .st (v := (bA (decide (7 < a1)))) (aBin_gtr ..) ?_
    exact .lg ⟨_, _, rfl⟩
  rintro _ y10 ⟨j11, j12, rfl⟩
  iterate 3 refine .uc ?_
  refine .biHN (fun hk13 => ?_) (fun hk13 => ?_)
  · exact .lf rfl rfl ⟨_, rfl, rfl⟩
  refine .st (v := (bA (a0 == 0))) (aBin_eql ..) ?_
  refine .biHN (fun hk14 => ?_) (fun hk14 => ?_)
  · exact .lf rfl rfl ⟨_, rfl, rfl⟩
  refine .st (v := (iA (wr .i64 (a0 - 1)))) (aBin_sub ..) ?_
  refine .st (v := (iA (wr .i64 ((wr .i64 (a0 - 1)) + a1)))) (aBin_add ..) ?_
  refine .st (v := (iA (Int.tmod (wr .i64 ((wr .i64 (a0 - 1)) + a1)) 8))) (aBin_rem (hb := by decide) ..) ?_
  refine .st (v := (iA (wr .i64 ((Int.tmod (wr .i64 ((wr .i64 (a0 - 1)) + a1)) 8) + 1)))) (aBin_add ..) ?_
  exact .lf rfl rfl ⟨_, rfl, rfl⟩
def G62 (a0 : Int) (a1 : Int) : Option (Int × Int) := F62 fuel0 a0 a1
def Orc62 (C : Nat → List A → Option A) : Prop := ∀ (a0 : Int) (a1 : Int), C 62 [(iA a0), (iA a1)] = (G62 a0 a1).map fun y => (A.tup [(iA y.1), (iA y.2)])
def F63 (n : Nat) (a0 : Int) : Option (Int × Int × Int) :=
  bif (a0 == 1) then (some ((0, 29, 0))) else (bif (a0 == 2) then (some ((20, 21, 0))) else (bif (a0 == 3) then (some ((29, 0, 0))) else (bif (a0 == 4) then (some ((20, -21, 0))) else (bif (a0 == 5) then (some ((0, -29, 0))) else (bif (a0 == 6) then (some ((-20, -21, 0))) else (bif (a0 == 7) then (some ((-29, 0, 0))) else (bif (a0 == 8) then (some ((-20, 21, 0))) else (some ((0, 0, 150))))))))))
theorem T63 (C : Nat → List A → Option A) (n : Nat) (a0 : Int) : J (fun (o : R) y => ∃ v, o.1 = .ret v ∧ snapE o.2 v = (A.tup [(iA y.1), (iA y.2.1), (iA y.2.2)])) (evCall1 (cx C) (evCall (cx C) (n+8)) (evCallY (cx C) (n+8)) (n+8) 63 [(iA a0)] [] 0) some (F63 n a0) some := by
  refine .lp (e63 ..) ?_
  unfold F63
  refine .st (v := (bA (a0 == 1))) (aBin_eql ..) ?_
  refine .biHN (fun hk1 => ?_) (fun hk1 => ?_)
  · exact .lf rfl rfl ⟨_, rfl, rfl⟩
  refine .st (v := (bA (a0 == 2))) (aBin_eql ..) ?_
  refine .biHN (fun hk2 => ?_) (fun hk2 => ?_)
  · exact .lf rfl rfl ⟨_, rfl, rfl⟩
  refine .st (v := (bA (a0 == 3))) (aBin_eql ..) ?_
  refine .biHN (fun hk3 => ?_) (fun hk3 => ?_)
  · exact .lf rfl rfl ⟨_, rfl, rfl⟩
  refine .st (v := (bA (a0 == 4))) (aBin_eql ..) ?_
  refine .biHN (fun hk4 => ?_) (fun hk4 => ?_)
  · exact .lf rfl rfl ⟨_, rfl, rfl⟩
  refine .st (v := (bA (a0 == 5))) (aBin_eql ..) ?_
  refine .biHN (fun hk5 => ?_) (fun hk5 => ?_)
  · exact .lf rfl rfl ⟨_, rfl, rfl⟩
  refine .st (v := (bA (a0 == 6))) (aBin_eql ..) ?_
  refine .biHN (fun hk6 => ?_) (fun hk6 => ?_)
  · exact .lf rfl rfl ⟨_, rfl, rfl⟩
  refine .st (v := (bA (a0 == 7))) (aBin_eql ..) ?_
  refine .biHN (fun hk7 => ?_) (fun hk7 => ?_)
  · exact .lf rfl rfl ⟨_, rfl, rfl⟩
  refine .st (v := (bA (a0 == 8))) (aBin_eql ..) ?_
  refine .biHN (fun hk8 => ?_) (fun hk8 => ?_)
  · exact .lf rfl rfl ⟨_, rfl, rfl⟩
  exact .lf rfl rfl ⟨_, rfl, rfl⟩
def G63 (a0 : Int) : Option (Int × Int × Int) := F63 fuel0 a0
def Orc63 (C : Nat → List A → Option A) : Prop := ∀ (a0 : Int), C 63 [(iA a0)] = (G63 a0).map fun y => (A.tup [(iA y.1), (iA y.2.1), (iA y.2.2)])
def hk37_1 (a0 : S_State) (a2 : Int) (y2 : (Int × Int × Int)) : Blk := Blk.box [(iA (wr .i64 (a0.X + (wr .i64 (a2 * y2.1))))), (iA (wr .i64 (a0.Y + (wr .i64 (a2 * y2.2.1))))), (iA a0.Face), (iA a0.Limbs.1.Dir), (iA a0.Limbs.1.Level), (iA a0.Limbs.2.1.Dir), (iA a0.Limbs.2.1.Level), (iA a0.Limbs.2.2.1.Dir), (iA a0.Limbs.2.2.1.Level), (iA a0.Limbs.2.2.2.1.Dir), (iA a0.Limbs.2.2.2.1.Level), (iA a0.Limbs.2.2.2.2.Dir), (iA a0.Limbs.2.2.2.2.Level)]
def F37 (n : Nat) (a0 : S_State) (a1 : Int) (a2 : Int) : Option S_State :=
  Option.bind (G62 a1 a0.Face) fun y1 => Option.bind (G63 y1.1) fun y2 => some ((S_State.mk (wr .i64 (a0.X + (wr .i64 (a2 * y2.1)))) (wr .i64 (a0.Y + (wr .i64 (a2 * y2.2.1)))) a0.Face a0.Limbs))
theorem T37 (C : Nat → List A → Option A) (n : Nat) (h62 : Orc62 C) (h63 : Orc63 C) (a0 : S_State) (a1 : Int) (a2 : Int) : J (fun (o : R) y => ∃ v, o.1 = .ret v ∧ snapE o.2 v = (A.agg [(iA y.X), (iA y.Y), (iA y.Face), (iA y.Limbs.1.Dir), (iA y.Limbs.1.Level), (iA y.Limbs.2.1.Dir), (iA y.Limbs.2.1.Level), (iA y.Limbs.2.2.1.Dir), (iA y.Limbs.2.2.1.Level), (iA y.Limbs.2.2.2.1.Dir), (iA y.Limbs.2.2.2.1.Level), (iA y.Limbs.2.2.2.2.Dir), (iA y.Limbs.2.2.2.2.Level)])) (evCall1 (cx C) (evCall (cx C) (n+8)) (evCallY (cx C) (n+8)) (n+8) 37 [(A.agg (c_S_State a0)), (iA a1), (iA a2)] [] 0) some (F37 n a0 a1 a2) some := by
  refine .lp (e37 ..) ?_
  unfold F37
  refine .s ((A.ptr 0 0), [Blk.box (c_S_State a0)]) (.s ((A.ptr 1 0), [Blk.box (c_S_State a0), Blk.box [(iA 0), (iA 0), (iA 0), (iA 0), (iA 0), (iA 0), (iA 0), (iA 0), (iA 0), (iA 0), (iA 0), (iA 0), (iA 0)]]) (.s (A.ptr 0 2) (.s (iA a0.Face) ?_)))
  refine .bd (g := fun (y : (Int × Int)) => (A.tup [(iA y.1), (iA y.2)])) (h62 a1 a0.Face) fun y1 => ?_
  refine .s (iA y1.1) (.s (iA y1.2) ?_)
  refine .bd (g := fun (y : (Int × Int × Int)) => (A.tup [(iA y.1), (iA y.2.1), (iA y.2.2)])) (h63 y1.1) fun y2 => ?_
  refine .s (iA y2.1) (.s (iA y2.2.1) (.s (iA y2.2.2) (.s (A.ptr 0 0) (.s (iA a0.X) ?_))))
  refine .st (v := (iA (wr .i64 (a2 * y2.1)))) (aBin_mul ..) ?_
  refine .st (v := (iA (wr .i64 (a0.X + (wr .i64 (a2 * y2.1)))))) (aBin_add ..) ?_
  refine .s (A.ptr 0 0) (.s [Blk.box [(iA (wr .i64 (a0.X + (wr .i64 (a2 * y2.1))))), (iA a0.Y), (iA a0.Face), (iA a0.Limbs.1.Dir), (iA a0.Limbs.1.Level), (iA a0.Limbs.2.1.Dir), (iA a0.Limbs.2.1.Level), (iA a0.Limbs.2.2.1.Dir), (iA a0.Limbs.2.2.1.Level), (iA a0.Limbs.2.2.2.1.Dir), (iA a0.Limbs.2.2.2.1.Level), (iA a0.Limbs.2.2.2.2.Dir), (iA a0.Limbs.2.2.2.2.Level)], Blk.box [(iA 0), (iA 0), (iA 0), (iA 0), (iA 0), (iA 0), (iA 0), (iA 0), (iA 0), (iA 0), (iA 0), (iA 0), (iA 0)]] (.s (A.ptr 0 1) (.s (iA a0.Y) ?_)))
  refine .st (v := (iA (wr .i64 (a2 * y2.2.1)))) (aBin_mul ..) ?_
  refine .st (v := (iA (wr .i64 (a0.Y + (wr .i64 (a2 * y2.2.1)))))) (aBin_add ..) ?_
  refine .s (A.ptr 0 1) (.s [(hk37_1 a0 a2 y2), Blk.box [(iA 0), (iA 0), (iA 0), (iA 0), (iA 0), (iA 0), (iA 0), (iA 0), (iA 0), (iA 0), (iA 0), (iA 0), (iA 0)]] (.s (A.agg [(iA (wr .i64 (a0.X + (wr .i64 (a2 * y2.1))))), (iA (wr .i64 (a0.Y + (wr .i64 (a2 * y2.2.1))))), (iA a0.Face), (iA a0.Limbs.1.Dir), (iA a0.Limbs.1.Level), (iA a0.Limbs.2.1.Dir), (iA a0.Limbs.2.1.Level), (iA a0.Limbs.2.2.1.Dir), (iA a0.Limbs.2.2.1.Level), (iA a0.Limbs.2.2.2.1.Dir), (iA a0.Limbs.2.2.2.1.Level), (iA a0.Limbs.2.2.2.2.Dir), (iA a0.Limbs.2.2.2.2.Level)]) (.s [(hk37_1 a0 a2 y2), (hk37_1 a0 a2 y2)] (.s (A.agg [(iA (wr .i64 (a0.X + (wr .i64 (a2 * y2.1))))), (iA (wr .i64 (a0.Y + (wr .i64 (a2 * y2.2.1))))), (iA a0.Face), (iA a0.Limbs.1.Dir), (iA a0.Limbs.1.Level), (iA a0.Limbs.2.1.Dir), (iA a0.Limbs.2.1.Level), (iA a0.Limbs.2.2.1.Dir), (iA a0.Limbs.2.2.1.Level), (iA a0.Limbs.2.2.2.1.Dir), (iA a0.Limbs.2.2.2.1.Level), (iA a0.Limbs.2.2.2.2.Dir), (iA a0.Limbs.2.2.2.2.Level)]) ?_))))
  exact .lf rfl rfl ⟨_, rfl, rfl⟩
def G37 (a0 : S_State) (a1 : Int) (a2 : Int) : Option S_State := F37 fuel0 a0 a1 a2
def Orc37 (C : Nat → List A → Option A) : Prop := ∀ (a0 : S_State) (a1 : Int) (a2 : Int), C 37 [(A.agg (c_S_State a0)), (iA a1), (iA a2)] = (G37 a0 a1 a2).map fun y => (A.agg [(iA y.X), (iA y.Y), (iA y.Face), (iA y.Limbs.1.Dir), (iA y.Limbs.1.Level), (iA y.Limbs.2.1.Dir), (iA y.Limbs.2.1.Level), (iA y.Limbs.2.2.1.Dir), (iA y.Limbs.2.2.1.Level), (iA y.Limbs.2.2.2.1.Dir), (iA y.Limbs.2.2.2.1.Level), (iA y.Limbs.2.2.2.2.Dir), (iA y.Limbs.2.2.2.2.Level)])
def hk19_3 (a0 : S_State) (a2 : S_Real) : Blk := Blk.box [(iA a0.X), (iA a0.Y), (iA a0.Face), (iA a2.Dir), (iA a2.Level), (iA a0.Limbs.2.1.Dir), (iA a0.Limbs.2.1.Level), (iA a0.Limbs.2.2.1.Dir), (iA a0.Limbs.2.2.1.Level), (iA a0.Limbs.2.2.2.1.Dir), (iA a0.Limbs.2.2.2.1.Level), (iA a0.Limbs.2.2.2.2.Dir), (iA a0.Limbs.2.2.2.2.Level)]
def hk19_4 (a0 : S_State) (a2 : S_Real) : Blk := Blk.box [(iA a0.X), (iA a0.Y), (iA a0.Face), (iA a0.Limbs.1.Dir), (iA a0.Limbs.1.Level), (iA a2.Dir), (iA a2.Level), (iA a0.Limbs.2.2.1.Dir), (iA a0.Limbs.2.2.1.Level), (iA a0.Limbs.2.2.2.1.Dir), (iA a0.Limbs.2.2.2.1.Level), (iA a0.Limbs.2.2.2.2.Dir), (iA a0.Limbs.2.2.2.2.Level)]
def hk19_5 (a0 : S_State) (a2 : S_Real) : Blk := Blk.box [(iA a0.X), (iA a0.Y), (iA a0.Face), (iA a0.Limbs.1.Dir), (iA a0.Limbs.1.Level), (iA a0.Limbs.2.1.Dir), (iA a0.Limbs.2.1.Level), (iA a2.Dir), (iA a2.Level), (iA a0.Limbs.2.2.2.1.Dir), (iA a0.Limbs.2.2.2.1.Level), (iA a0.Limbs.2.2.2.2.Dir), (iA a0.Limbs.2.2.2.2.Level)]
def hk19_6 (a0 : S_State) (a2 : S_Real) : Blk := Blk.box [(iA a0.X), (iA a0.Y), (iA a0.Face), (iA a0.Limbs.1.Dir), (iA a0.Limbs.1.Level), (iA a0.Limbs.2.1.Dir), (iA a0.Limbs.2.1.Level), (iA a0.Limbs.2.2.1.Dir), (iA a0.Limbs.2.2.1.Level), (iA a2.Dir), (iA a2.Level), (iA a0.Limbs.2.2.2.2.Dir), (iA a0.Limbs.2.2.2.2.Level)]
def hk19_7 (a0 : S_State) : Blk := Blk.box [(iA a0.X), (iA a0.Y), (iA a0.Face), (iA 0), (iA 0), (iA a0.Limbs.2.1.Dir), (iA a0.Limbs.2.1.Level), (iA a0.Limbs.2.2.1.Dir), (iA a0.Limbs.2.2.1.Level), (iA a0.Limbs.2.2.2.1.Dir), (iA a0.Limbs.2.2.2.1.Level), (iA a0.Limbs.2.2.2.2.Dir), (iA a0.Limbs.2.2.2.2.Level)]
def hk19_8 (a0 : S_State) (a1 : S_Sign) : Blk := Blk.box [(iA a0.X), (iA a0.Y), (iA (Int.tmod (wr .i64 (a0.Face + a1.Size)) 8)), (iA a0.Limbs.1.Dir), (iA a0.Limbs.1.Level), (iA a0.Limbs.2.1.Dir), (iA a0.Limbs.2.1.Level), (iA a0.Limbs.2.2.1.Dir), (iA a0.Limbs.2.2.1.Level), (iA a0.Limbs.2.2.2.1.Dir), (iA a0.Limbs.2.2.2.1.Level), (iA a0.Limbs.2.2.2.2.Dir), (iA a0.Limbs.2.2.2.2.Level)]
def hk19_9 (a0 : S_State) : Blk := Blk.box [(iA a0.X), (iA a0.Y), (iA a0.Face), (iA a0.Limbs.1.Dir), (iA a0.Limbs.1.Level), (iA a0.Limbs.2.1.Dir), (iA a0.Limbs.2.1.Level), (iA 0), (iA 0), (iA a0.Limbs.2.2.2.1.Dir), (iA a0.Limbs.2.2.2.1.Level), (iA a0.Limbs.2.2.2.2.Dir), (iA a0.Limbs.2.2.2.2.Level)]
def hk19_10 (y14 : S_State) : Blk := Blk.box [(iA y14.X), (iA y14.Y), (iA y14.Face), (iA 0), (iA 0), (iA y14.Limbs.2.1.Dir), (iA y14.Limbs.2.1.Level), (iA y14.Limbs.2.2.1.Dir), (iA y14.Limbs.2.2.1.Level), (iA y14.Limbs.2.2.2.1.Dir), (iA y14.Limbs.2.2.2.1.Level), (iA y14.Limbs.2.2.2.2.Dir), (iA y14.Limbs.2.2.2.2.Level)]
def hk19_11 (y14 : S_State) : Blk := Blk.box [(iA y14.X), (iA y14.Y), (iA y14.Face), (iA y14.Limbs.1.Dir), (iA y14.Limbs.1.Level), (iA 0), (iA 0), (iA y14.Limbs.2.2.1.Dir), (iA y14.Limbs.2.2.1.Level), (iA y14.Limbs.2.2.2.1.Dir), (iA y14.Limbs.2.2.2.1.Level), (iA y14.Limbs.2.2.2.2.Dir), (iA y14.Limbs.2.2.2.2.Level)]
def hk19_12 (y14 : S_State) : Blk := Blk.box [(iA y14.X), (iA y14.Y), (iA y14.Face), (iA y14.Limbs.1.Dir), (iA y14.Limbs.1.Level), (iA y14.Limbs.2.1.Dir), (iA y14.Limbs.2.1.Level), (iA 0), (iA 0), (iA y14.Limbs.2.2.2.1.Dir), (iA y14.Limbs.2.2.2.1.Level), (iA y14.Limbs.2.2.2.2.Dir), (iA y14.Limbs.2.2.2.2.Level)]
def hk19_13 (y14 : S_State) : Blk := Blk.box [(iA y14.X), (iA y14.Y), (iA y14.Face), (iA y14.Limbs.1.Dir), (iA y14.Limbs.1.Level), (iA y14.Limbs.2.1.Dir), (iA y14.Limbs.2.1.Level), (iA y14.Limbs.2.2.1.Dir), (iA y14.Limbs.2.2.1.Level), (iA 0), (iA 0), (iA y14.Limbs.2.2.2.2.Dir), (iA y14.Limbs.2.2.2.2.Level)]
def hk19_14 (y14 : S_State) : Blk := Blk.box [(iA y14.X), (iA y14.Y), (iA y14.Face), (iA y14.Limbs.1.Dir), (iA y14.Limbs.1.Level), (iA y14.Limbs.2.1.Dir), (iA y14.Limbs.2.1.Level), (iA y14.Limbs.2.2.1.Dir), (iA y14.Limbs.2.2.1.Level), (iA y14.Limbs.2.2.2.1.Dir), (iA y14.Limbs.2.2.2.1.Level), (iA 0), (iA 0)]
def hk19_15 (a0 : S_State) : Blk := Blk.box [(iA a0.X), (iA a0.Y), (iA a0.Face), (iA a0.Limbs.1.Dir), (iA a0.Limbs.1.Level), (iA 0), (iA 0), (iA a0.Limbs.2.2.1.Dir), (iA a0.Limbs.2.2.1.Level), (iA a0.Limbs.2.2.2.1.Dir), (iA a0.Limbs.2.2.2.1.Level), (iA a0.Limbs.2.2.2.2.Dir), (iA a0.Limbs.2.2.2.2.Level)]
def hk19_16 (a0 : S_State) : Blk := Blk.box [(iA a0.X), (iA a0.Y), (iA a0.Face), (iA a0.Limbs.1.Dir), (iA a0.Limbs.1.Level), (iA a0.Limbs.2.1.Dir), (iA a0.Limbs.2.1.Level), (iA a0.Limbs.2.2.1.Dir), (iA a0.Limbs.2.2.1.Level), (iA 0), (iA 0), (iA a0.Limbs.2.2.2.2.Dir), (iA a0.Limbs.2.2.2.2.Level)]
def hk19_17 (a0 : S_State) : Blk := Blk.box [(iA a0.X), (iA a0.Y), (iA a0.Face), (iA a0.Limbs.1.Dir), (iA a0.Limbs.1.Level), (iA a0.Limbs.2.1.Dir), (iA a0.Limbs.2.1.Level), (iA a0.Limbs.2.2.1.Dir), (iA a0.Limbs.2.2.1.Level), (iA a0.Limbs.2.2.2.1.Dir), (iA a0.Limbs.2.2.2.1.Level), (iA 0), (iA 0)]
def hk19_18 (y31 : S_State) : Blk := Blk.box [(iA y31.X), (iA y31.Y), (iA y31.Face), (iA 0), (iA 0), (iA 0), (iA 0), (iA y31.Limbs.2.2.1.Dir), (iA y31.Limbs.2.2.1.Level), (iA y31.Limbs.2.2.2.1.Dir), (iA y31.Limbs.2.2.2.1.Level), (iA y31.Limbs.2.2.2.2.Dir), (iA y31.Limbs.2.2.2.2.Level)]
def hk19_19 (a0 : S_State) : Blk := Blk.box [(iA a0.X), (iA a0.Y), (iA a0.Face), (iA 0), (iA 0), (iA 0), (iA 0), (iA a0.Limbs.2.2.1.Dir), (iA a0.Limbs.2.2.1.Level), (iA a0.Limbs.2.2.2.1.Dir), (iA a0.Limbs.2.2.2.1.Level), (iA a0.Limbs.2.2.2.2.Dir), (iA a0.Limbs.2.2.2.2.Level)]
def hk19_20 (a0 : S_State) : Blk := Blk.box [(iA a0.X), (iA a0.Y), (iA a0.Face), (iA a0.Limbs.1.Dir), (iA a0.Limbs.1.Level), (iA a0.Limbs.2.1.Dir), (iA a0.Limbs.2.1.Level), (iA 0), (iA 0), (iA 0), (iA 0), (iA a0.Limbs.2.2.2.2.Dir), (iA a0.Limbs.2.2.2.2.Level)]
def F19 (n : Nat) (a0 : S_State) (a1 : S_Sign) (a2 : S_Real) : Option (S_State × Int) :=
  Option.bind (G17 a0) fun y1 => bif (y1 != 0) then (some (((S_State.mk 0 0 0 (((S_Limb.mk 0 0), (S_Limb.mk 0 0), (S_Limb.mk 0 0), (S_Limb.mk 0 0), (S_Limb.mk 0 0)))), 260))) else (Option.bind (G35 a1.Mark a1.Kind a1.Side a1.Dir a1.Level a1.Size) fun y3 => Option.bind (bif (!y3) then (some true) else (Option.bind (G36 a1 a2) fun y5 => some (!y5))) fun y6 => bif y6 then (some (((S_State.mk 0 0 0 (((S_Limb.mk 0 0), (S_Limb.mk 0 0), (S_Limb.mk 0 0), (S_Limb.mk 0 0), (S_Limb.mk 0 0)))), 1))) else (bif a2.Drop then (some ((a0, 0))) else (bif (a1.Kind == 1) then (Option.bind (G37 a0 a1.Dir a1.Size) fun y14 => bif decide ((wr .i64 (a1.Side - 1)) = 0) then (Option.bind (G17 ((S_State.mk y14.X y14.Y y14.Face (((S_Limb.mk 0 0), y14.Limbs.2.1, y14.Limbs.2.2.1, y14.Limbs.2.2.2.1, y14.Limbs.2.2.2.2))))) fun y16 => bif (y16 != 0) then (some (((S_State.mk 0 0 0 (((S_Limb.mk 0 0), (S_Limb.mk 0 0), (S_Limb.mk 0 0), (S_Limb.mk 0 0), (S_Limb.mk 0 0)))), 2))) else (some (((S_State.mk y14.X y14.Y y14.Face (((S_Limb.mk 0 0), y14.Limbs.2.1, y14.Limbs.2.2.1, y14.Limbs.2.2.2.1, y14.Limbs.2.2.2.2))), 0)))) else bif decide ((wr .i64 (a1.Side - 1)) = 1) then (Option.bind (G17 ((S_State.mk y14.X y14.Y y14.Face ((y14.Limbs.1, (S_Limb.mk 0 0), y14.Limbs.2.2.1, y14.Limbs.2.2.2.1, y14.Limbs.2.2.2.2))))) fun y19 => bif (y19 != 0) then (some (((S_State.mk 0 0 0 (((S_Limb.mk 0 0), (S_Limb.mk 0 0), (S_Limb.mk 0 0), (S_Limb.mk 0 0), (S_Limb.mk 0 0)))), 2))) else (some (((S_State.mk y14.X y14.Y y14.Face ((y14.Limbs.1, (S_Limb.mk 0 0), y14.Limbs.2.2.1, y14.Limbs.2.2.2.1, y14.Limbs.2.2.2.2))), 0)))) else bif decide ((wr .i64 (a1.Side - 1)) = 2) then (Option.bind (G17 ((S_State.mk y14.X y14.Y y14.Face ((y14.Limbs.1, y14.Limbs.2.1, (S_Limb.mk 0 0), y14.Limbs.2.2.2.1, y14.Limbs.2.2.2.2))))) fun y22 => bif (y22 != 0) then (some (((S_State.mk 0 0 0 (((S_Limb.mk 0 0), (S_Limb.mk 0 0), (S_Limb.mk 0 0), (S_Limb.mk 0 0), (S_Limb.mk 0 0)))), 2))) else (some (((S_State.mk y14.X y14.Y y14.Face ((y14.Limbs.1, y14.Limbs.2.1, (S_Limb.mk 0 0), y14.Limbs.2.2.2.1, y14.Limbs.2.2.2.2))), 0)))) else bif decide ((wr .i64 (a1.Side - 1)) = 3) then (Option.bind (G17 ((S_State.mk y14.X y14.Y y14.Face ((y14.Limbs.1, y14.Limbs.2.1, y14.Limbs.2.2.1, (S_Limb.mk 0 0), y14.Limbs.2.2.2.2))))) fun y25 => bif (y25 != 0) then (some (((S_State.mk 0 0 0 (((S_Limb.mk 0 0), (S_Limb.mk 0 0), (S_Limb.mk 0 0), (S_Limb.mk 0 0), (S_Limb.mk 0 0)))), 2))) else (some (((S_State.mk y14.X y14.Y y14.Face ((y14.Limbs.1, y14.Limbs.2.1, y14.Limbs.2.2.1, (S_Limb.mk 0 0), y14.Limbs.2.2.2.2))), 0)))) else bif decide ((wr .i64 (a1.Side - 1)) = 4) then (Option.bind (G17 ((S_State.mk y14.X y14.Y y14.Face ((y14.Limbs.1, y14.Limbs.2.1, y14.Limbs.2.2.1, y14.Limbs.2.2.2.1, (S_Limb.mk 0 0)))))) fun y28 => bif (y28 != 0) then (some (((S_State.mk 0 0 0 (((S_Limb.mk 0 0), (S_Limb.mk 0 0), (S_Limb.mk 0 0), (S_Limb.mk 0 0), (S_Limb.mk 0 0)))), 2))) else (some (((S_State.mk y14.X y14.Y y14.Face ((y14.Limbs.1, y14.Limbs.2.1, y14.Limbs.2.2.1, y14.Limbs.2.2.2.1, (S_Limb.mk 0 0)))), 0)))) else none) else (bif (a1.Kind == 2) then (Option.bind (G37 a0 a1.Dir a1.Size) fun y31 => Option.bind (G17 ((S_State.mk y31.X y31.Y y31.Face (((S_Limb.mk 0 0), (S_Limb.mk 0 0), y31.Limbs.2.2.1, y31.Limbs.2.2.2.1, y31.Limbs.2.2.2.2))))) fun y32 => bif (y32 != 0) then (some (((S_State.mk 0 0 0 (((S_Limb.mk 0 0), (S_Limb.mk 0 0), (S_Limb.mk 0 0), (S_Limb.mk 0 0), (S_Limb.mk 0 0)))), 2))) else (some (((S_State.mk y31.X y31.Y y31.Face (((S_Limb.mk 0 0), (S_Limb.mk 0 0), y31.Limbs.2.2.1, y31.Limbs.2.2.2.1, y31.Limbs.2.2.2.2))), 0)))) else (bif (a1.Kind == 3) then (bif decide ((wr .i64 (a1.Side - 1)) = 0) then (Option.bind (G17 ((S_State.mk a0.X a0.Y a0.Face (((S_Limb.mk a2.Dir a2.Level), a0.Limbs.2.1, a0.Limbs.2.2.1, a0.Limbs.2.2.2.1, a0.Limbs.2.2.2.2))))) fun y36 => bif (y36 != 0) then (some (((S_State.mk 0 0 0 (((S_Limb.mk 0 0), (S_Limb.mk 0 0), (S_Limb.mk 0 0), (S_Limb.mk 0 0), (S_Limb.mk 0 0)))), 2))) else (some (((S_State.mk a0.X a0.Y a0.Face (((S_Limb.mk a2.Dir a2.Level), a0.Limbs.2.1, a0.Limbs.2.2.1, a0.Limbs.2.2.2.1, a0.Limbs.2.2.2.2))), 0)))) else bif decide ((wr .i64 (a1.Side - 1)) = 1) then (Option.bind (G17 ((S_State.mk a0.X a0.Y a0.Face ((a0.Limbs.1, (S_Limb.mk a2.Dir a2.Level), a0.Limbs.2.2.1, a0.Limbs.2.2.2.1, a0.Limbs.2.2.2.2))))) fun y39 => bif (y39 != 0) then (some (((S_State.mk 0 0 0 (((S_Limb.mk 0 0), (S_Limb.mk 0 0), (S_Limb.mk 0 0), (S_Limb.mk 0 0), (S_Limb.mk 0 0)))), 2))) else (some (((S_State.mk a0.X a0.Y a0.Face ((a0.Limbs.1, (S_Limb.mk a2.Dir a2.Level), a0.Limbs.2.2.1, a0.Limbs.2.2.2.1, a0.Limbs.2.2.2.2))), 0)))) else bif decide ((wr .i64 (a1.Side - 1)) = 2) then (Option.bind (G17 ((S_State.mk a0.X a0.Y a0.Face ((a0.Limbs.1, a0.Limbs.2.1, (S_Limb.mk a2.Dir a2.Level), a0.Limbs.2.2.2.1, a0.Limbs.2.2.2.2))))) fun y42 => bif (y42 != 0) then (some (((S_State.mk 0 0 0 (((S_Limb.mk 0 0), (S_Limb.mk 0 0), (S_Limb.mk 0 0), (S_Limb.mk 0 0), (S_Limb.mk 0 0)))), 2))) else (some (((S_State.mk a0.X a0.Y a0.Face ((a0.Limbs.1, a0.Limbs.2.1, (S_Limb.mk a2.Dir a2.Level), a0.Limbs.2.2.2.1, a0.Limbs.2.2.2.2))), 0)))) else bif decide ((wr .i64 (a1.Side - 1)) = 3) then (Option.bind (G17 ((S_State.mk a0.X a0.Y a0.Face ((a0.Limbs.1, a0.Limbs.2.1, a0.Limbs.2.2.1, (S_Limb.mk a2.Dir a2.Level), a0.Limbs.2.2.2.2))))) fun y45 => bif (y45 != 0) then (some (((S_State.mk 0 0 0 (((S_Limb.mk 0 0), (S_Limb.mk 0 0), (S_Limb.mk 0 0), (S_Limb.mk 0 0), (S_Limb.mk 0 0)))), 2))) else (some (((S_State.mk a0.X a0.Y a0.Face ((a0.Limbs.1, a0.Limbs.2.1, a0.Limbs.2.2.1, (S_Limb.mk a2.Dir a2.Level), a0.Limbs.2.2.2.2))), 0)))) else bif decide ((wr .i64 (a1.Side - 1)) = 4) then (Option.bind (G17 ((S_State.mk a0.X a0.Y a0.Face ((a0.Limbs.1, a0.Limbs.2.1, a0.Limbs.2.2.1, a0.Limbs.2.2.2.1, (S_Limb.mk a2.Dir a2.Level)))))) fun y48 => bif (y48 != 0) then (some (((S_State.mk 0 0 0 (((S_Limb.mk 0 0), (S_Limb.mk 0 0), (S_Limb.mk 0 0), (S_Limb.mk 0 0), (S_Limb.mk 0 0)))), 2))) else (some (((S_State.mk a0.X a0.Y a0.Face ((a0.Limbs.1, a0.Limbs.2.1, a0.Limbs.2.2.1, a0.Limbs.2.2.2.1, (S_Limb.mk a2.Dir a2.Level)))), 0)))) else none) else (bif (a1.Kind == 4) then (bif decide ((wr .i64 (a1.Side + 1)) = 0) then (Option.bind (G17 ((S_State.mk a0.X a0.Y a0.Face (((S_Limb.mk a2.Dir a2.Level), a0.Limbs.2.1, a0.Limbs.2.2.1, a0.Limbs.2.2.2.1, a0.Limbs.2.2.2.2))))) fun y52 => bif (y52 != 0) then (some (((S_State.mk 0 0 0 (((S_Limb.mk 0 0), (S_Limb.mk 0 0), (S_Limb.mk 0 0), (S_Limb.mk 0 0), (S_Limb.mk 0 0)))), 2))) else (some (((S_State.mk a0.X a0.Y a0.Face (((S_Limb.mk a2.Dir a2.Level), a0.Limbs.2.1, a0.Limbs.2.2.1, a0.Limbs.2.2.2.1, a0.Limbs.2.2.2.2))), 0)))) else bif decide ((wr .i64 (a1.Side + 1)) = 1) then (Option.bind (G17 ((S_State.mk a0.X a0.Y a0.Face ((a0.Limbs.1, (S_Limb.mk a2.Dir a2.Level), a0.Limbs.2.2.1, a0.Limbs.2.2.2.1, a0.Limbs.2.2.2.2))))) fun y55 => bif (y55 != 0) then (some (((S_State.mk 0 0 0 (((S_Limb.mk 0 0), (S_Limb.mk 0 0), (S_Limb.mk 0 0), (S_Limb.mk 0 0), (S_Limb.mk 0 0)))), 2))) else (some (((S_State.mk a0.X a0.Y a0.Face ((a0.Limbs.1, (S_Limb.mk a2.Dir a2.Level), a0.Limbs.2.2.1, a0.Limbs.2.2.2.1, a0.Limbs.2.2.2.2))), 0)))) else bif decide ((wr .i64 (a1.Side + 1)) = 2) then (Option.bind (G17 ((S_State.mk a0.X a0.Y a0.Face ((a0.Limbs.1, a0.Limbs.2.1, (S_Limb.mk a2.Dir a2.Level), a0.Limbs.2.2.2.1, a0.Limbs.2.2.2.2))))) fun y58 => bif (y58 != 0) then (some (((S_State.mk 0 0 0 (((S_Limb.mk 0 0), (S_Limb.mk 0 0), (S_Limb.mk 0 0), (S_Limb.mk 0 0), (S_Limb.mk 0 0)))), 2))) else (some (((S_State.mk a0.X a0.Y a0.Face ((a0.Limbs.1, a0.Limbs.2.1, (S_Limb.mk a2.Dir a2.Level), a0.Limbs.2.2.2.1, a0.Limbs.2.2.2.2))), 0)))) else bif decide ((wr .i64 (a1.Side + 1)) = 3) then (Option.bind (G17 ((S_State.mk a0.X a0.Y a0.Face ((a0.Limbs.1, a0.Limbs.2.1, a0.Limbs.2.2.1, (S_Limb.mk a2.Dir a2.Level), a0.Limbs.2.2.2.2))))) fun y61 => bif (y61 != 0) then (some (((S_State.mk 0 0 0 (((S_Limb.mk 0 0), (S_Limb.mk 0 0), (S_Limb.mk 0 0), (S_Limb.mk 0 0), (S_Limb.mk 0 0)))), 2))) else (some (((S_State.mk a0.X a0.Y a0.Face ((a0.Limbs.1, a0.Limbs.2.1, a0.Limbs.2.2.1, (S_Limb.mk a2.Dir a2.Level), a0.Limbs.2.2.2.2))), 0)))) else bif decide ((wr .i64 (a1.Side + 1)) = 4) then (Option.bind (G17 ((S_State.mk a0.X a0.Y a0.Face ((a0.Limbs.1, a0.Limbs.2.1, a0.Limbs.2.2.1, a0.Limbs.2.2.2.1, (S_Limb.mk a2.Dir a2.Level)))))) fun y64 => bif (y64 != 0) then (some (((S_State.mk 0 0 0 (((S_Limb.mk 0 0), (S_Limb.mk 0 0), (S_Limb.mk 0 0), (S_Limb.mk 0 0), (S_Limb.mk 0 0)))), 2))) else (some (((S_State.mk a0.X a0.Y a0.Face ((a0.Limbs.1, a0.Limbs.2.1, a0.Limbs.2.2.1, a0.Limbs.2.2.2.1, (S_Limb.mk a2.Dir a2.Level)))), 0)))) else none) else (bif (a1.Kind == 5) then (Option.bind (G17 ((S_State.mk a0.X a0.Y a0.Face ((a0.Limbs.1, a0.Limbs.2.1, a0.Limbs.2.2.1, a0.Limbs.2.2.2.1, (S_Limb.mk a2.Dir a2.Level)))))) fun y67 => bif (y67 != 0) then (some (((S_State.mk 0 0 0 (((S_Limb.mk 0 0), (S_Limb.mk 0 0), (S_Limb.mk 0 0), (S_Limb.mk 0 0), (S_Limb.mk 0 0)))), 2))) else (some (((S_State.mk a0.X a0.Y a0.Face ((a0.Limbs.1, a0.Limbs.2.1, a0.Limbs.2.2.1, a0.Limbs.2.2.2.1, (S_Limb.mk a2.Dir a2.Level)))), 0)))) else (bif (a1.Kind == 6) then (Option.bind (G17 ((S_State.mk a0.X a0.Y (Int.tmod (wr .i64 (a0.Face + a1.Size)) 8) a0.Limbs))) fun y70 => bif (y70 != 0) then (some (((S_State.mk 0 0 0 (((S_Limb.mk 0 0), (S_Limb.mk 0 0), (S_Limb.mk 0 0), (S_Limb.mk 0 0), (S_Limb.mk 0 0)))), 2))) else (some (((S_State.mk a0.X a0.Y (Int.tmod (wr .i64 (a0.Face + a1.Size)) 8) a0.Limbs), 0)))) else (bif (a1.Kind == 7) then (Option.bind (G17 ((S_State.mk a0.X a0.Y a0.Face ((a0.Limbs.1, a0.Limbs.2.1, (S_Limb.mk 0 0), (S_Limb.mk 0 0), a0.Limbs.2.2.2.2))))) fun y73 => bif (y73 != 0) then (some (((S_State.mk 0 0 0 (((S_Limb.mk 0 0), (S_Limb.mk 0 0), (S_Limb.mk 0 0), (S_Limb.mk 0 0), (S_Limb.mk 0 0)))), 2))) else (some (((S_State.mk a0.X a0.Y a0.Face ((a0.Limbs.1, a0.Limbs.2.1, (S_Limb.mk 0 0), (S_Limb.mk 0 0), a0.Limbs.2.2.2.2))), 0)))) else (bif (a1.Kind == 8) then (Option.bind (G17 ((S_State.mk a0.X a0.Y a0.Face (((S_Limb.mk 0 0), (S_Limb.mk 0 0), a0.Limbs.2.2.1, a0.Limbs.2.2.2.1, a0.Limbs.2.2.2.2))))) fun y76 => bif (y76 != 0) then (some (((S_State.mk 0 0 0 (((S_Limb.mk 0 0), (S_Limb.mk 0 0), (S_Limb.mk 0 0), (S_Limb.mk 0 0), (S_Limb.mk 0 0)))), 2))) else (some (((S_State.mk a0.X a0.Y a0.Face (((S_Limb.mk 0 0), (S_Limb.mk 0 0), a0.Limbs.2.2.1, a0.Limbs.2.2.2.1, a0.Limbs.2.2.2.2))), 0)))) else (bif (a1.Kind == 9) then (bif decide ((wr .i64 (a1.Side + 1)) = 0) then (Option.bind (G17 ((S_State.mk a0.X a0.Y a0.Face (((S_Limb.mk 0 0), a0.Limbs.2.1, a0.Limbs.2.2.1, a0.Limbs.2.2.2.1, a0.Limbs.2.2.2.2))))) fun y80 => bif (y80 != 0) then (some (((S_State.mk 0 0 0 (((S_Limb.mk 0 0), (S_Limb.mk 0 0), (S_Limb.mk 0 0), (S_Limb.mk 0 0), (S_Limb.mk 0 0)))), 2))) else (some (((S_State.mk a0.X a0.Y a0.Face (((S_Limb.mk 0 0), a0.Limbs.2.1, a0.Limbs.2.2.1, a0.Limbs.2.2.2.1, a0.Limbs.2.2.2.2))), 0)))) else bif decide ((wr .i64 (a1.Side + 1)) = 1) then (Option.bind (G17 ((S_State.mk a0.X a0.Y a0.Face ((a0.Limbs.1, (S_Limb.mk 0 0), a0.Limbs.2.2.1, a0.Limbs.2.2.2.1, a0.Limbs.2.2.2.2))))) fun y83 => bif (y83 != 0) then (some (((S_State.mk 0 0 0 (((S_Limb.mk 0 0), (S_Limb.mk 0 0), (S_Limb.mk 0 0), (S_Limb.mk 0 0), (S_Limb.mk 0 0)))), 2))) else (some (((S_State.mk a0.X a0.Y a0.Face ((a0.Limbs.1, (S_Limb.mk 0 0), a0.Limbs.2.2.1, a0.Limbs.2.2.2.1, a0.Limbs.2.2.2.2))), 0)))) else bif decide ((wr .i64 (a1.Side + 1)) = 2) then (Option.bind (G17 ((S_State.mk a0.X a0.Y a0.Face ((a0.Limbs.1, a0.Limbs.2.1, (S_Limb.mk 0 0), a0.Limbs.2.2.2.1, a0.Limbs.2.2.2.2))))) fun y86 => bif (y86 != 0) then (some (((S_State.mk 0 0 0 (((S_Limb.mk 0 0), (S_Limb.mk 0 0), (S_Limb.mk 0 0), (S_Limb.mk 0 0), (S_Limb.mk 0 0)))), 2))) else (some (((S_State.mk a0.X a0.Y a0.Face ((a0.Limbs.1, a0.Limbs.2.1, (S_Limb.mk 0 0), a0.Limbs.2.2.2.1, a0.Limbs.2.2.2.2))), 0)))) else bif decide ((wr .i64 (a1.Side + 1)) = 3) then (Option.bind (G17 ((S_State.mk a0.X a0.Y a0.Face ((a0.Limbs.1, a0.Limbs.2.1, a0.Limbs.2.2.1, (S_Limb.mk 0 0), a0.Limbs.2.2.2.2))))) fun y89 => bif (y89 != 0) then (some (((S_State.mk 0 0 0 (((S_Limb.mk 0 0), (S_Limb.mk 0 0), (S_Limb.mk 0 0), (S_Limb.mk 0 0), (S_Limb.mk 0 0)))), 2))) else (some (((S_State.mk a0.X a0.Y a0.Face ((a0.Limbs.1, a0.Limbs.2.1, a0.Limbs.2.2.1, (S_Limb.mk 0 0), a0.Limbs.2.2.2.2))), 0)))) else bif decide ((wr .i64 (a1.Side + 1)) = 4) then (Option.bind (G17 ((S_State.mk a0.X a0.Y a0.Face ((a0.Limbs.1, a0.Limbs.2.1, a0.Limbs.2.2.1, a0.Limbs.2.2.2.1, (S_Limb.mk 0 0)))))) fun y92 => bif (y92 != 0) then (some (((S_State.mk 0 0 0 (((S_Limb.mk 0 0), (S_Limb.mk 0 0), (S_Limb.mk 0 0), (S_Limb.mk 0 0), (S_Limb.mk 0 0)))), 2))) else (some (((S_State.mk a0.X a0.Y a0.Face ((a0.Limbs.1, a0.Limbs.2.1, a0.Limbs.2.2.1, a0.Limbs.2.2.2.1, (S_Limb.mk 0 0)))), 0)))) else none) else (Option.bind (G17 a0) fun y94 => bif (y94 != 0) then (some (((S_State.mk 0 0 0 (((S_Limb.mk 0 0), (S_Limb.mk 0 0), (S_Limb.mk 0 0), (S_Limb.mk 0 0), (S_Limb.mk 0 0)))), 2))) else (some ((a0, 0)))))))))))))))
theorem T19 (C : Nat → List A → Option A) (n : Nat) (h17 : Orc17 C) (h35 : Orc35 C) (h36 : Orc36 C) (h37 : Orc37 C) (a0 : S_State) (a1 : S_Sign) (a2 : S_Real) : J (fun (o : R) y => ∃ v, o.1 = .ret v ∧ snapE o.2 v = (A.tup [(A.agg [(iA y.1.X), (iA y.1.Y), (iA y.1.Face), (iA y.1.Limbs.1.Dir), (iA y.1.Limbs.1.Level), (iA y.1.Limbs.2.1.Dir), (iA y.1.Limbs.2.1.Level), (iA y.1.Limbs.2.2.1.Dir), (iA y.1.Limbs.2.2.1.Level), (iA y.1.Limbs.2.2.2.1.Dir), (iA y.1.Limbs.2.2.2.1.Level), (iA y.1.Limbs.2.2.2.2.Dir), (iA y.1.Limbs.2.2.2.2.Level)]), (iA y.2)])) (evCall1 (cx C) (evCall (cx C) (n+8)) (evCallY (cx C) (n+8)) (n+8) 19 [(A.agg (c_S_State a0)), (A.agg (c_S_Sign a1)), (A.agg (c_S_Real a2))] [] 0) some (F19 n a0 a1 a2) some := by
  refine .lp (e19 ..) ?_
  unfold F19
  refine .s ((A.ptr 0 0), [Blk.box (c_S_State a0)]) (.s ((A.ptr 1 0), [Blk.box (c_S_State a0), Blk.box (c_S_Sign a1)]) (.s ((A.ptr 2 0), [Blk.box (c_S_State a0), Blk.box (c_S_Sign a1), Blk.box (c_S_Real a2)]) (.s ((A.ptr 3 0), [Blk.box (c_S_State a0), Blk.box (c_S_Sign a1), Blk.box (c_S_Real a2), hk18_2]) (.s (A.agg (c_S_State a0)) ?_))))
  refine .bd (g := fun (y : Int) => (iA y)) (h17 a0) fun y1 => ?_
  refine .st (v := (bA (y1 != 0))) (aBin_neq ..) ?_
  refine .biHN (fun hk2 => ?_) (fun hk2 => ?_)
  · refine .s (A.agg [(iA 0), (iA 0), (iA 0), (iA 0), (iA 0), (iA 0), (iA 0), (iA 0), (iA 0), (iA 0), (iA 0), (iA 0), (iA 0)]) (.s [Blk.box (c_S_State a0), Blk.box (c_S_Sign a1), Blk.box (c_S_Real a2), hk18_2] (.s (A.agg [(iA 0), (iA 0), (iA 0), (iA 0), (iA 0), (iA 0), (iA 0), (iA 0), (iA 0), (iA 0), (iA 0), (iA 0), (iA 0)]) ?_))
    exact .lf rfl rfl ⟨_, rfl, rfl⟩
  refine .s (A.ptr 1 3) (.s (iA a1.Mark) (.s (A.ptr 1 4) (.s (iA a1.Kind) (.s (A.ptr 1 5) (.s (iA a1.Side) (.s (A.ptr 1 6) (.s (iA a1.Dir) (.s (A.ptr 1 7) (.s (iA a1.Level) (.s (A.ptr 1 8) (.s (iA a1.Size) ?_)))))))))))
  refine .bd (g := fun (y : Bool) => (bA y)) (h35 a1.Mark a1.Kind a1.Side a1.Dir a1.Level a1.Size) fun y3 => ?_
  refine .s (bA (!y3)) ?_
  refine .bg (fun t (y : Bool) => ∃ j7 j8 j9 j10 : A, t = [(bA y), j7, j8, j9, j10]) ?_ ?_
  · refine .biH (fun hk4 => ?_) (fun hk4 => ?_)
    · exact .lg ⟨_, _, _, _, rfl⟩
    refine .s (A.agg (c_S_Sign a1)) (.s (A.agg (c_S_Real a2)) ?_)
    refine .bd (g := fun (y : Bool) => (bA y)) (h36 a1 a2) fun y5 => ?_
    refine .s (bA (!y5)) ?_
    exact .lg ⟨_, _, _, _, rfl⟩
  rintro _ y6 ⟨j7, j8, j9, j10, rfl⟩
  iterate 5 refine .uc ?_
  refine .biHN (fun hk11 => ?_) (fun hk11 => ?_)
  · refine .s (A.agg [(iA 0), (iA 0), (iA 0), (iA 0), (iA 0), (iA 0), (iA 0), (iA 0), (iA 0), (iA 0), (iA 0), (iA 0), (iA 0)]) (.s [Blk.box (c_S_State a0), Blk.box (c_S_Sign a1), Blk.box (c_S_Real a2), hk18_2] (.s (A.agg [(iA 0), (iA 0), (iA 0), (iA 0), (iA 0), (iA 0), (iA 0), (iA 0), (iA 0), (iA 0), (iA 0), (iA 0), (iA 0)]) ?_))
    exact .lf rfl rfl ⟨_, rfl, rfl⟩
  refine .s (A.ptr 2 3) (.s (bA a2.Drop) ?_)
  refine .biHN (fun hk12 => ?_) (fun hk12 => ?_)
  · refine .s (A.agg (c_S_State a0)) (.s [Blk.box (c_S_State a0), Blk.box (c_S_Sign a1), Blk.box (c_S_Real a2), Blk.box (c_S_State a0)] (.s (A.agg (c_S_State a0)) ?_))
    exact .lf rfl rfl ⟨_, rfl, rfl⟩
  refine .s (A.agg [(iA 0), (iA 0)]) (.s ((A.ptr 4 0), [Blk.box (c_S_State a0), Blk.box (c_S_Sign a1), Blk.box (c_S_Real a2), hk18_2, Blk.box [(iA 0), (iA 0)]]) (.s [Blk.box (c_S_State a0), Blk.box (c_S_Sign a1), Blk.box (c_S_Real a2), hk18_2, Blk.box [(iA 0), (iA 0)]] (.s (A.ptr 2 1) (.s (iA a2.Dir) (.s (A.ptr 2 2) (.s (iA a2.Level) (.s (A.agg [(iA a2.Dir), (iA a2.Level)]) (.s ((A.ptr 5 0), [Blk.box (c_S_State a0), Blk.box (c_S_Sign a1), Blk.box (c_S_Real a2), hk18_2, Blk.box [(iA 0), (iA 0)], Blk.box [(iA 0), (iA 0)]]) (.s [Blk.box (c_S_State a0), Blk.box (c_S_Sign a1), Blk.box (c_S_Real a2), hk18_2, Blk.box [(iA 0), (iA 0)], Blk.box [(iA a2.Dir), (iA a2.Level)]] (.s (A.ptr 1 4) (.s (iA a1.Kind) ?_)))))))))))
  refine .st (v := (bA (a1.Kind == 1))) (aBin_eql ..) ?_
  refine .biHN (fun hk13 => ?_) (fun hk13 => ?_)
  · refine .s (A.agg (c_S_State a0)) (.s (A.ptr 1 6) (.s (iA a1.Dir) (.s (A.ptr 1 8) (.s (iA a1.Size) ?_))))
    refine .bd (g := fun (y : S_State) => (A.agg [(iA y.X), (iA y.Y), (iA y.Face), (iA y.Limbs.1.Dir), (iA y.Limbs.1.Level), (iA y.Limbs.2.1.Dir), (iA y.Limbs.2.1.Level), (iA y.Limbs.2.2.1.Dir), (iA y.Limbs.2.2.1.Level), (iA y.Limbs.2.2.2.1.Dir), (iA y.Limbs.2.2.2.1.Level), (iA y.Limbs.2.2.2.2.Dir), (iA y.Limbs.2.2.2.2.Level)])) (h37 a0 a1.Dir a1.Size) fun y14 => ?_
    refine .s [Blk.box (c_S_State y14), Blk.box (c_S_Sign a1), Blk.box (c_S_Real a2), hk18_2, Blk.box [(iA 0), (iA 0)], Blk.box [(iA a2.Dir), (iA a2.Level)]] (.s (A.ptr 1 5) (.s (iA a1.Side) ?_))
    refine .st (v := (iA (wr .i64 (a1.Side - 1)))) (aBin_sub ..) ?_
    refine .s (A.agg [(iA 0), (iA 0)]) (.s (A.ptr 0 3) ?_)
    refine .sp (fun hb15 => ?_) (fun _ => ?_)
    · refine .st (v := (A.ptr 0 3)) (by rw [of_decide_eq_true hb15]; kernel_rfl) ?_
      refine .s [(hk19_10 y14), Blk.box (c_S_Sign a1), Blk.box (c_S_Real a2), hk18_2, Blk.box [(iA 0), (iA 0)], Blk.box [(iA a2.Dir), (iA a2.Level)]] (.s (A.agg [(iA y14.X), (iA y14.Y), (iA y14.Face), (iA 0), (iA 0), (iA y14.Limbs.2.1.Dir), (iA y14.Limbs.2.1.Level), (iA y14.Limbs.2.2.1.Dir), (iA y14.Limbs.2.2.1.Level), (iA y14.Limbs.2.2.2.1.Dir), (iA y14.Limbs.2.2.2.1.Level), (iA y14.Limbs.2.2.2.2.Dir), (iA y14.Limbs.2.2.2.2.Level)]) ?_)
      refine .bd (g := fun (y : Int) => (iA y)) (h17 ((S_State.mk y14.X y14.Y y14.Face (((S_Limb.mk 0 0), y14.Limbs.2.1, y14.Limbs.2.2.1, y14.Limbs.2.2.2.1, y14.Limbs.2.2.2.2))))) fun y16 => ?_
      refine .st (v := (bA (y16 != 0))) (aBin_neq ..) ?_
      refine .biHN (fun hk17 => ?_) (fun hk17 => ?_)
      · refine .s (A.agg [(iA 0), (iA 0), (iA 0), (iA 0), (iA 0), (iA 0), (iA 0), (iA 0), (iA 0), (iA 0), (iA 0), (iA 0), (iA 0)]) (.s [(hk19_10 y14), Blk.box (c_S_Sign a1), Blk.box (c_S_Real a2), hk18_2, Blk.box [(iA 0), (iA 0)], Blk.box [(iA a2.Dir), (iA a2.Level)]] (.s (A.agg [(iA 0), (iA 0), (iA 0), (iA 0), (iA 0), (iA 0), (iA 0), (iA 0), (iA 0), (iA 0), (iA 0), (iA 0), (iA 0)]) ?_))
        exact .lf rfl rfl ⟨_, rfl, rfl⟩
      refine .s (A.agg [(iA y14.X), (iA y14.Y), (iA y14.Face), (iA 0), (iA 0), (iA y14.Limbs.2.1.Dir), (iA y14.Limbs.2.1.Level), (iA y14.Limbs.2.2.1.Dir), (iA y14.Limbs.2.2.1.Level), (iA y14.Limbs.2.2.2.1.Dir), (iA y14.Limbs.2.2.2.1.Level), (iA y14.Limbs.2.2.2.2.Dir), (iA y14.Limbs.2.2.2.2.Level)]) (.s [(hk19_10 y14), Blk.box (c_S_Sign a1), Blk.box (c_S_Real a2), (hk19_10 y14), Blk.box [(iA 0), (iA 0)], Blk.box [(iA a2.Dir), (iA a2.Level)]] (.s (A.agg [(iA y14.X), (iA y14.Y), (iA y14.Face), (iA 0), (iA 0), (iA y14.Limbs.2.1.Dir), (iA y14.Limbs.2.1.Level), (iA y14.Limbs.2.2.1.Dir), (iA y14.Limbs.2.2.1.Level), (iA y14.Limbs.2.2.2.1.Dir), (iA y14.Limbs.2.2.2.1.Level), (iA y14.Limbs.2.2.2.2.Dir), (iA y14.Limbs.2.2.2.2.Level)]) ?_))
      exact .lf rfl rfl ⟨_, rfl, rfl⟩
    refine .sp (fun hb18 => ?_) (fun _ => ?_)
    · refine .st (v := (A.ptr 0 5)) (by rw [of_decide_eq_true hb18]; kernel_rfl) ?_
      refine .s [(hk19_11 y14), Blk.box (c_S_Sign a1), Blk.box (c_S_Real a2), hk18_2, Blk.box [(iA 0), (iA 0)], Blk.box [(iA a2.Dir), (iA a2.Level)]] (.s (A.agg [(iA y14.X), (iA y14.Y), (iA y14.Face), (iA y14.Limbs.1.Dir), (iA y14.Limbs.1.Level), (iA 0), (iA 0), (iA y14.Limbs.2.2.1.Dir), (iA y14.Limbs.2.2.1.Level), (iA y14.Limbs.2.2.2.1.Dir), (iA y14.Limbs.2.2.2.1.Level), (iA y14.Limbs.2.2.2.2.Dir), (iA y14.Limbs.2.2.2.2.Level)]) ?_)
      refine .bd (g := fun (y : Int) => (iA y)) (h17 ((S_State.mk y14.X y14.Y y14.Face ((y14.Limbs.1, (S_Limb.mk 0 0), y14.Limbs.2.2.1, y14.Limbs.2.2.2.1, y14.Limbs.2.2.2.2))))) fun y19 => ?_
      refine .st (v := (bA (y19 != 0))) (aBin_neq ..) ?_
      refine .biHN (fun hk20 => ?_) (fun hk20 => ?_)
      · refine .s (A.agg [(iA 0), (iA 0), (iA 0), (iA 0), (iA 0), (iA 0), (iA 0), (iA 0), (iA 0), (iA 0), (iA 0), (iA 0), (iA 0)]) (.s [(hk19_11 y14), Blk.box (c_S_Sign a1), Blk.box (c_S_Real a2), hk18_2, Blk.box [(iA 0), (iA 0)], Blk.box [(iA a2.Dir), (iA a2.Level)]] (.s (A.agg [(iA 0), (iA 0), (iA 0), (iA 0), (iA 0), (iA 0), (iA 0), (iA 0), (iA 0), (iA 0), (iA 0), (iA 0), (iA 0)]) ?_))
        exact .lf rfl rfl ⟨_, rfl, rfl⟩
      refine .s (A.agg [(iA y14.X), (iA y14.Y), (iA y14.Face), (iA y14.Limbs.1.Dir), (iA y14.Limbs.1.Level), (iA 0), (iA 0), (iA y14.Limbs.2.2.1.Dir), (iA y14.Limbs.2.2.1.Level), (iA y14.Limbs.2.2.2.1.Dir), (iA y14.Limbs.2.2.2.1.Level), (iA y14.Limbs.2.2.2.2.Dir), (iA y14.Limbs.2.2.2.2.Level)]) (.s [(hk19_11 y14), Blk.box (c_S_Sign a1), Blk.box (c_S_Real a2), (hk19_11 y14), Blk.box [(iA 0), (iA 0)], Blk.box [(iA a2.Dir), (iA a2.Level)]] (.s (A.agg [(iA y14.X), (iA y14.Y), (iA y14.Face), (iA y14.Limbs.1.Dir), (iA y14.Limbs.1.Level), (iA 0), (iA 0), (iA y14.Limbs.2.2.1.Dir), (iA y14.Limbs.2.2.1.Level), (iA y14.Limbs.2.2.2.1.Dir), (iA y14.Limbs.2.2.2.1.Level), (iA y14.Limbs.2.2.2.2.Dir), (iA y14.Limbs.2.2.2.2.Level)]) ?_))
      exact .lf rfl rfl ⟨_, rfl, rfl⟩
    refine .sp (fun hb21 => ?_) (fun _ => ?_)
    · refine .st (v := (A.ptr 0 7)) (by rw [of_decide_eq_true hb21]; kernel_rfl) ?_
      refine .s [(hk19_12 y14), Blk.box (c_S_Sign a1), Blk.box (c_S_Real a2), hk18_2, Blk.box [(iA 0), (iA 0)], Blk.box [(iA a2.Dir), (iA a2.Level)]] (.s (A.agg [(iA y14.X), (iA y14.Y), (iA y14.Face), (iA y14.Limbs.1.Dir), (iA y14.Limbs.1.Level), (iA y14.Limbs.2.1.Dir), (iA y14.Limbs.2.1.Level), (iA 0), (iA 0), (iA y14.Limbs.2.2.2.1.Dir), (iA y14.Limbs.2.2.2.1.Level), (iA y14.Limbs.2.2.2.2.Dir), (iA y14.Limbs.2.2.2.2.Level)]) ?_)
      refine .bd (g := fun (y : Int) => (iA y)) (h17 ((S_State.mk y14.X y14.Y y14.Face ((y14.Limbs.1, y14.Limbs.2.1, (S_Limb.mk 0 0), y14.Limbs.2.2.2.1, y14.Limbs.2.2.2.2))))) fun y22 => ?_
      refine .st (v := (bA (y22 != 0))) (aBin_neq ..) ?_
      refine .biHN (fun hk23 => ?_) (fun hk23 => ?_)
      · refine .s (A.agg [(iA 0), (iA 0), (iA 0), (iA 0), (iA 0), (iA 0), (iA 0), (iA 0), (iA 0), (iA 0), (iA 0), (iA 0), (iA 0)]) (.s [(hk19_12 y14), Blk.box (c_S_Sign a1), Blk.box (c_S_Real a2), hk18_2, Blk.box [(iA 0), (iA 0)], Blk.box [(iA a2.Dir), (iA a2.Level)]] (.s (A.agg [(iA 0), (iA 0), (iA 0), (iA 0), (iA 0), (iA 0), (iA 0), (iA 0), (iA 0), (iA 0), (iA 0), (iA 0), (iA 0)]) ?_))
        exact .lf rfl rfl ⟨_, rfl, rfl⟩
      refine .s (A.agg [(iA y14.X), (iA y14.Y), (iA y14.Face), (iA y14.Limbs.1.Dir), (iA y14.Limbs.1.Level), (iA y14.Limbs.2.1.Dir), (iA y14.Limbs.2.1.Level), (iA 0), (iA 0), (iA y14.Limbs.2.2.2.1.Dir), (iA y14.Limbs.2.2.2.1.Level), (iA y14.Limbs.2.2.2.2.Dir), (iA y14.Limbs.2.2.2.2.Level)]) (.s [(hk19_12 y14), Blk.box (c_S_Sign a1), Blk.box (c_S_Real a2), (hk19_12 y14), Blk.box [(iA 0), (iA 0)], Blk.box [(iA a2.Dir), (iA a2.Level)]] (.s (A.agg [(iA y14.X), (iA y14.Y), (iA y14.Face), (iA y14.Limbs.1.Dir), (iA y14.Limbs.1.Level), (iA y14.Limbs.2.1.Dir), (iA y14.Limbs.2.1.Level), (iA 0), (iA 0), (iA y14.Limbs.2.2.2.1.Dir), (iA y14.Limbs.2.2.2.1.Level), (iA y14.Limbs.2.2.2.2.Dir), (iA y14.Limbs.2.2.2.2.Level)]) ?_))
      exact .lf rfl rfl ⟨_, rfl, rfl⟩
    refine .sp (fun hb24 => ?_) (fun _ => ?_)
    · refine .st (v := (A.ptr 0 9)) (by rw [of_decide_eq_true hb24]; kernel_rfl) ?_
      refine .s [(hk19_13 y14), Blk.box (c_S_Sign a1), Blk.box (c_S_Real a2), hk18_2, Blk.box [(iA 0), (iA 0)], Blk.box [(iA a2.Dir), (iA a2.Level)]] (.s (A.agg [(iA y14.X), (iA y14.Y), (iA y14.Face), (iA y14.Limbs.1.Dir), (iA y14.Limbs.1.Level), (iA y14.Limbs.2.1.Dir), (iA y14.Limbs.2.1.Level), (iA y14.Limbs.2.2.1.Dir), (iA y14.Limbs.2.2.1.Level), (iA 0), (iA 0), (iA y14.Limbs.2.2.2.2.Dir), (iA y14.Limbs.2.2.2.2.Level)]) ?_)
      refine .bd (g := fun (y : Int) => (iA y)) (h17 ((S_State.mk y14.X y14.Y y14.Face ((y14.Limbs.1, y14.Limbs.2.1, y14.Limbs.2.2.1, (S_Limb.mk 0 0), y14.Limbs.2.2.2.2))))) fun y25 => ?_
      refine .st (v := (bA (y25 != 0))) (aBin_neq ..) ?_
      refine .biHN (fun hk26 => ?_) (fun hk26 => ?_)
      · refine .s (A.agg [(iA 0), (iA 0), (iA 0), (iA 0), (iA 0), (iA 0), (iA 0), (iA 0), (iA 0), (iA 0), (iA 0), (iA 0), (iA 0)]) (.s [(hk19_13 y14), Blk.box (c_S_Sign a1), Blk.box (c_S_Real a2), hk18_2, Blk.box [(iA 0), (iA 0)], Blk.box [(iA a2.Dir), (iA a2.Level)]] (.s (A.agg [(iA 0), (iA 0), (iA 0), (iA 0), (iA 0), (iA 0), (iA 0), (iA 0), (iA 0), (iA 0), (iA 0), (iA 0), (iA 0)]) ?_))
        exact .lf rfl rfl ⟨_, rfl, rfl⟩
      refine .s (A.agg [(iA y14.X), (iA y14.Y), (iA y14.Face), (iA y14.Limbs.1.Dir), (iA y14.Limbs.1.Level), (iA y14.Limbs.2.1.Dir), (iA y14.Limbs.2.1.Level), (iA y14.Limbs.2.2.1.Dir), (iA y14.Limbs.2.2.1.Level), (iA 0), (iA 0), (iA y14.Limbs.2.2.2.2.Dir), (iA y14.Limbs.2.2.2.2.Level)]) (.s [(hk19_13 y14), Blk.box (c_S_Sign a1), Blk.box (c_S_Real a2), (hk19_13 y14), Blk.box [(iA 0), (iA 0)], Blk.box [(iA a2.Dir), (iA a2.Level)]] (.s (A.agg [(iA y14.X), (iA y14.Y), (iA y14.Face), (iA y14.Limbs.1.Dir), (iA y14.Limbs.1.Level), (iA y14.Limbs.2.1.Dir), (iA y14.Limbs.2.1.Level), (iA y14.Limbs.2.2.1.Dir), (iA y14.Limbs.2.2.1.Level), (iA 0), (iA 0), (iA y14.Limbs.2.2.2.2.Dir), (iA y14.Limbs.2.2.2.2.Level)]) ?_))
      exact .lf rfl rfl ⟨_, rfl, rfl⟩
    refine .sp (fun hb27 => ?_) (fun _ => ?_)
    · refine .st (v := (A.ptr 0 11)) (by rw [of_decide_eq_true hb27]; kernel_rfl) ?_
      refine .s [(hk19_14 y14), Blk.box (c_S_Sign a1), Blk.box (c_S_Real a2), hk18_2, Blk.box [(iA 0), (iA 0)], Blk.box [(iA a2.Dir), (iA a2.Level)]] (.s (A.agg [(iA y14.X), (iA y14.Y), (iA y14.Face), (iA y14.Limbs.1.Dir), (iA y14.Limbs.1.Level), (iA y14.Limbs.2.1.Dir), (iA y14.Limbs.2.1.Level), (iA y14.Limbs.2.2.1.Dir), (iA y14.Limbs.2.2.1.Level), (iA y14.Limbs.2.2.2.1.Dir), (iA y14.Limbs.2.2.2.1.Level), (iA 0), (iA 0)]) ?_)
      refine .bd (g := fun (y : Int) => (iA y)) (h17 ((S_State.mk y14.X y14.Y y14.Face ((y14.Limbs.1, y14.Limbs.2.1, y14.Limbs.2.2.1, y14.Limbs.2.2.2.1, (S_Limb.mk 0 0)))))) fun y28 => ?_
      refine .st (v := (bA (y28 != 0))) (aBin_neq ..) ?_
      refine .biHN (fun hk29 => ?_) (fun hk29 => ?_)
      · refine .s (A.agg [(iA 0), (iA 0), (iA 0), (iA 0), (iA 0), (iA 0), (iA 0), (iA 0), (iA 0), (iA 0), (iA 0), (iA 0), (iA 0)]) (.s [(hk19_14 y14), Blk.box (c_S_Sign a1), Blk.box (c_S_Real a2), hk18_2, Blk.box [(iA 0), (iA 0)], Blk.box [(iA a2.Dir), (iA a2.Level)]] (.s (A.agg [(iA 0), (iA 0), (iA 0), (iA 0), (iA 0), (iA 0), (iA 0), (iA 0), (iA 0), (iA 0), (iA 0), (iA 0), (iA 0)]) ?_))
        exact .lf rfl rfl ⟨_, rfl, rfl⟩
      refine .s (A.agg [(iA y14.X), (iA y14.Y), (iA y14.Face), (iA y14.Limbs.1.Dir), (iA y14.Limbs.1.Level), (iA y14.Limbs.2.1.Dir), (iA y14.Limbs.2.1.Level), (iA y14.Limbs.2.2.1.Dir), (iA y14.Limbs.2.2.1.Level), (iA y14.Limbs.2.2.2.1.Dir), (iA y14.Limbs.2.2.2.1.Level), (iA 0), (iA 0)]) (.s [(hk19_14 y14), Blk.box (c_S_Sign a1), Blk.box (c_S_Real a2), (hk19_14 y14), Blk.box [(iA 0), (iA 0)], Blk.box [(iA a2.Dir), (iA a2.Level)]] (.s (A.agg [(iA y14.X), (iA y14.Y), (iA y14.Face), (iA y14.Limbs.1.Dir), (iA y14.Limbs.1.Level), (iA y14.Limbs.2.1.Dir), (iA y14.Limbs.2.1.Level), (iA y14.Limbs.2.2.1.Dir), (iA y14.Limbs.2.2.1.Level), (iA y14.Limbs.2.2.2.1.Dir), (iA y14.Limbs.2.2.2.1.Level), (iA 0), (iA 0)]) ?_))
      exact .lf rfl rfl ⟨_, rfl, rfl⟩
    exact .nn
  refine .st (v := (bA (a1.Kind == 2))) (aBin_eql ..) ?_
  refine .biHN (fun hk30 => ?_) (fun hk30 => ?_)
  · refine .s (A.agg (c_S_State a0)) (.s (A.ptr 1 6) (.s (iA a1.Dir) (.s (A.ptr 1 8) (.s (iA a1.Size) ?_))))
    refine .bd (g := fun (y : S_State) => (A.agg [(iA y.X), (iA y.Y), (iA y.Face), (iA y.Limbs.1.Dir), (iA y.Limbs.1.Level), (iA y.Limbs.2.1.Dir), (iA y.Limbs.2.1.Level), (iA y.Limbs.2.2.1.Dir), (iA y.Limbs.2.2.1.Level), (iA y.Limbs.2.2.2.1.Dir), (iA y.Limbs.2.2.2.1.Level), (iA y.Limbs.2.2.2.2.Dir), (iA y.Limbs.2.2.2.2.Level)])) (h37 a0 a1.Dir a1.Size) fun y31 => ?_
    refine .s [Blk.box (c_S_State y31), Blk.box (c_S_Sign a1), Blk.box (c_S_Real a2), hk18_2, Blk.box [(iA 0), (iA 0)], Blk.box [(iA a2.Dir), (iA a2.Level)]] (.s (A.agg [(iA 0), (iA 0)]) (.s (A.ptr 0 3) (.s (A.ptr 0 3) (.s [Blk.box [(iA y31.X), (iA y31.Y), (iA y31.Face), (iA 0), (iA 0), (iA y31.Limbs.2.1.Dir), (iA y31.Limbs.2.1.Level), (iA y31.Limbs.2.2.1.Dir), (iA y31.Limbs.2.2.1.Level), (iA y31.Limbs.2.2.2.1.Dir), (iA y31.Limbs.2.2.2.1.Level), (iA y31.Limbs.2.2.2.2.Dir), (iA y31.Limbs.2.2.2.2.Level)], Blk.box (c_S_Sign a1), Blk.box (c_S_Real a2), hk18_2, Blk.box [(iA 0), (iA 0)], Blk.box [(iA a2.Dir), (iA a2.Level)]] (.s (A.agg [(iA 0), (iA 0)]) (.s (A.ptr 0 3) (.s (A.ptr 0 5) (.s [(hk19_18 y31), Blk.box (c_S_Sign a1), Blk.box (c_S_Real a2), hk18_2, Blk.box [(iA 0), (iA 0)], Blk.box [(iA a2.Dir), (iA a2.Level)]] (.s (A.agg [(iA y31.X), (iA y31.Y), (iA y31.Face), (iA 0), (iA 0), (iA 0), (iA 0), (iA y31.Limbs.2.2.1.Dir), (iA y31.Limbs.2.2.1.Level), (iA y31.Limbs.2.2.2.1.Dir), (iA y31.Limbs.2.2.2.1.Level), (iA y31.Limbs.2.2.2.2.Dir), (iA y31.Limbs.2.2.2.2.Level)]) ?_)))))))))
    refine .bd (g := fun (y : Int) => (iA y)) (h17 ((S_State.mk y31.X y31.Y y31.Face (((S_Limb.mk 0 0), (S_Limb.mk 0 0), y31.Limbs.2.2.1, y31.Limbs.2.2.2.1, y31.Limbs.2.2.2.2))))) fun y32 => ?_
    refine .st (v := (bA (y32 != 0))) (aBin_neq ..) ?_
    refine .biHN (fun hk33 => ?_) (fun hk33 => ?_)
    · refine .s (A.agg [(iA 0), (iA 0), (iA 0), (iA 0), (iA 0), (iA 0), (iA 0), (iA 0), (iA 0), (iA 0), (iA 0), (iA 0), (iA 0)]) (.s [(hk19_18 y31), Blk.box (c_S_Sign a1), Blk.box (c_S_Real a2), hk18_2, Blk.box [(iA 0), (iA 0)], Blk.box [(iA a2.Dir), (iA a2.Level)]] (.s (A.agg [(iA 0), (iA 0), (iA 0), (iA 0), (iA 0), (iA 0), (iA 0), (iA 0), (iA 0), (iA 0), (iA 0), (iA 0), (iA 0)]) ?_))
      exact .lf rfl rfl ⟨_, rfl, rfl⟩
    refine .s (A.agg [(iA y31.X), (iA y31.Y), (iA y31.Face), (iA 0), (iA 0), (iA 0), (iA 0), (iA y31.Limbs.2.2.1.Dir), (iA y31.Limbs.2.2.1.Level), (iA y31.Limbs.2.2.2.1.Dir), (iA y31.Limbs.2.2.2.1.Level), (iA y31.Limbs.2.2.2.2.Dir), (iA y31.Limbs.2.2.2.2.Level)]) (.s [(hk19_18 y31), Blk.box (c_S_Sign a1), Blk.box (c_S_Real a2), (hk19_18 y31), Blk.box [(iA 0), (iA 0)], Blk.box [(iA a2.Dir), (iA a2.Level)]] (.s (A.agg [(iA y31.X), (iA y31.Y), (iA y31.Face), (iA 0), (iA 0), (iA 0), (iA 0), (iA y31.Limbs.2.2.1.Dir), (iA y31.Limbs.2.2.1.Level), (iA y31.Limbs.2.2.2.1.Dir), (iA y31.Limbs.2.2.2.1.Level), (iA y31.Limbs.2.2.2.2.Dir), (iA y31.Limbs.2.2.2.2.Level)]) ?_))
    exact .lf rfl rfl ⟨_, rfl, rfl⟩
  refine .st (v := (bA (a1.Kind == 3))) (aBin_eql ..) ?_
  refine .biHN (fun hk34 => ?_) (fun hk34 => ?_)
  · refine .s (A.ptr 1 5) (.s (iA a1.Side) ?_)
    refine .st (v := (iA (wr .i64 (a1.Side - 1)))) (aBin_sub ..) ?_
    refine .s (A.agg [(iA a2.Dir), (iA a2.Level)]) (.s (A.ptr 0 3) ?_)
    refine .sp (fun hb35 => ?_) (fun _ => ?_)
    · refine .st (v := (A.ptr 0 3)) (by rw [of_decide_eq_true hb35]; kernel_rfl) ?_
      refine .s [(hk19_3 a0 a2), Blk.box (c_S_Sign a1), Blk.box (c_S_Real a2), hk18_2, Blk.box [(iA 0), (iA 0)], Blk.box [(iA a2.Dir), (iA a2.Level)]] (.s (A.agg [(iA a0.X), (iA a0.Y), (iA a0.Face), (iA a2.Dir), (iA a2.Level), (iA a0.Limbs.2.1.Dir), (iA a0.Limbs.2.1.Level), (iA a0.Limbs.2.2.1.Dir), (iA a0.Limbs.2.2.1.Level), (iA a0.Limbs.2.2.2.1.Dir), (iA a0.Limbs.2.2.2.1.Level), (iA a0.Limbs.2.2.2.2.Dir), (iA a0.Limbs.2.2.2.2.Level)]) ?_)
      refine .bd (g := fun (y : Int) => (iA y)) (h17 ((S_State.mk a0.X a0.Y a0.Face (((S_Limb.mk a2.Dir a2.Level), a0.Limbs.2.1, a0.Limbs.2.2.1, a0.Limbs.2.2.2.1, a0.Limbs.2.2.2.2))))) fun y36 => ?_
      refine .st (v := (bA (y36 != 0))) (aBin_neq ..) ?_
      refine .biHN (fun hk37 => ?_) (fun hk37 => ?_)
      · refine .s (A.agg [(iA 0), (iA 0), (iA 0), (iA 0), (iA 0), (iA 0), (iA 0), (iA 0), (iA 0), (iA 0), (iA 0), (iA 0), (iA 0)]) (.s [(hk19_3 a0 a2), Blk.box (c_S_Sign a1), Blk.box (c_S_Real a2), hk18_2, Blk.box [(iA 0), (iA 0)], Blk.box [(iA a2.Dir), (iA a2.Level)]] (.s (A.agg [(iA 0), (iA 0), (iA 0), (iA 0), (iA 0), (iA 0), (iA 0), (iA 0), (iA 0), (iA 0), (iA 0), (iA 0), (iA 0)]) ?_))
        exact .lf rfl rfl ⟨_, rfl, rfl⟩
      refine .s (A.agg [(iA a0.X), (iA a0.Y), (iA a0.Face), (iA a2.Dir), (iA a2.Level), (iA a0.Limbs.2.1.Dir), (iA a0.Limbs.2.1.Level), (iA a0.Limbs.2.2.1.Dir), (iA a0.Limbs.2.2.1.Level), (iA a0.Limbs.2.2.2.1.Dir), (iA a0.Limbs.2.2.2.1.Level), (iA a0.Limbs.2.2.2.2.Dir), (iA a0.Limbs.2.2.2.2.Level)]) (.s [(hk19_3 a0 a2), Blk.box (c_S_Sign a1), Blk.box (c_S_Real a2), (hk19_3 a0 a2), Blk.box [(iA 0), (iA 0)], Blk.box [(iA a2.Dir), (iA a2.Level)]] (.s (A.agg [(iA a0.X), (iA a0.Y), (iA a0.Face), (iA a2.Dir), (iA a2.Level), (iA a0.Limbs.2.1.Dir), (iA a0.Limbs.2.1.Level), (iA a0.Limbs.2.2.1.Dir), (iA a0.Limbs.2.2.1.Level), (iA a0.Limbs.2.2.2.1.Dir), (iA a0.Limbs.2.2.2.1.Level), (iA a0.Limbs.2.2.2.2.Dir), (iA a0.Limbs.2.2.2.2.Level)]) ?_))
      exact .lf rfl rfl ⟨_, rfl, rfl⟩
    refine .sp (fun hb38 => ?_) (fun _ => ?_)
    · refine .st (v := (A.ptr 0 5)) (by rw [of_decide_eq_true hb38]; kernel_rfl) ?_
      refine .s [(hk19_4 a0 a2), Blk.box (c_S_Sign a1), Blk.box (c_S_Real a2), hk18_2, Blk.box [(iA 0), (iA 0)], Blk.box [(iA a2.Dir), (iA a2.Level)]] (.s (A.agg [(iA a0.X), (iA a0.Y), (iA a0.Face), (iA a0.Limbs.1.Dir), (iA a0.Limbs.1.Level), (iA a2.Dir), (iA a2.Level), (iA a0.Limbs.2.2.1.Dir), (iA a0.Limbs.2.2.1.Level), (iA a0.Limbs.2.2.2.1.Dir), (iA a0.Limbs.2.2.2.1.Level), (iA a0.Limbs.2.2.2.2.Dir), (iA a0.Limbs.2.2.2.2.Level)]) ?_)
      refine .bd (g := fun (y : Int) => (iA y)) (h17 ((S_State.mk a0.X a0.Y a0.Face ((a0.Limbs.1, (S_Limb.mk a2.Dir a2.Level), a0.Limbs.2.2.1, a0.Limbs.2.2.2.1, a0.Limbs.2.2.2.2))))) fun y39 => ?_
      refine .st (v := (bA (y39 != 0))) (aBin_neq ..) ?_
      refine .biHN (fun hk40 => ?_) (fun hk40 => ?_)
      · refine .s (A.agg [(iA 0), (iA 0), (iA 0), (iA 0), (iA 0), (iA 0), (iA 0), (iA 0), (iA 0), (iA 0), (iA 0), (iA 0), (iA 0)]) (.s [(hk19_4 a0 a2), Blk.box (c_S_Sign a1), Blk.box (c_S_Real a2), hk18_2, Blk.box [(iA 0), (iA 0)], Blk.box [(iA a2.Dir), (iA a2.Level)]] (.s (A.agg [(iA 0), (iA 0), (iA 0), (iA 0), (iA 0), (iA 0), (iA 0), (iA 0), (iA 0), (iA 0), (iA 0), (iA 0), (iA 0)]) ?_))
        exact .lf rfl rfl ⟨_, rfl, rfl⟩
      refine .s (A.agg [(iA a0.X), (iA a0.Y), (iA a0.Face), (iA a0.Limbs.1.Dir), (iA a0.Limbs.1.Level), (iA a2.Dir), (iA a2.Level), (iA a0.Limbs.2.2.1.Dir), (iA a0.Limbs.2.2.1.Level), (iA a0.Limbs.2.2.2.1.Dir), (iA a0.Limbs.2.2.2.1.Level), (iA a0.Limbs.2.2.2.2.Dir), (iA a0.Limbs.2.2.2.2.Level)]) (.s [(hk19_4 a0 a2), Blk.box (c_S_Sign a1), Blk.box (c_S_Real a2), (hk19_4 a0 a2), Blk.box [(iA 0), (iA 0)], Blk.box [(iA a2.Dir), (iA a2.Level)]] (.s (A.agg [(iA a0.X), (iA a0.Y), (iA a0.Face), (iA a0.Limbs.1.Dir), (iA a0.Limbs.1.Level), (iA a2.Dir), (iA a2.Level), (iA a0.Limbs.2.2.1.Dir), (iA a0.Limbs.2.2.1.Level), (iA a0.Limbs.2.2.2.1.Dir), (iA a0.Limbs.2.2.2.1.Level), (iA a0.Limbs.2.2.2.2.Dir), (iA a0.Limbs.2.2.2.2.Level)]) ?_))
      exact .lf rfl rfl ⟨_, rfl, rfl⟩
    refine .sp (fun hb41 => ?_) (fun _ => ?_)
    · refine .st (v := (A.ptr 0 7)) (by rw [of_decide_eq_true hb41]; kernel_rfl) ?_
      refine .s [(hk19_5 a0 a2), Blk.box (c_S_Sign a1), Blk.box (c_S_Real a2), hk18_2, Blk.box [(iA 0), (iA 0)], Blk.box [(iA a2.Dir), (iA a2.Level)]] (.s (A.agg [(iA a0.X), (iA a0.Y), (iA a0.Face), (iA a0.Limbs.1.Dir), (iA a0.Limbs.1.Level), (iA a0.Limbs.2.1.Dir), (iA a0.Limbs.2.1.Level), (iA a2.Dir), (iA a2.Level), (iA a0.Limbs.2.2.2.1.Dir), (iA a0.Limbs.2.2.2.1.Level), (iA a0.Limbs.2.2.2.2.Dir), (iA a0.Limbs.2.2.2.2.Level)]) ?_)
      refine .bd (g := fun (y : Int) => (iA y)) (h17 ((S_State.mk a0.X a0.Y a0.Face ((a0.Limbs.1, a0.Limbs.2.1, (S_Limb.mk a2.Dir a2.Level), a0.Limbs.2.2.2.1, a0.Limbs.2.2.2.2))))) fun y42 => ?_
      refine .st (v := (bA (y42 != 0))) (aBin_neq ..) ?_
      refine .biHN (fun hk43 => ?_) (fun hk43 => ?_)
      · refine .s (A.agg [(iA 0), (iA 0), (iA 0), (iA 0), (iA 0), (iA 0), (iA 0), (iA 0), (iA 0), (iA 0), (iA 0), (iA 0), (iA 0)]) (.s [(hk19_5 a0 a2), Blk.box (c_S_Sign a1), Blk.box (c_S_Real a2), hk18_2, Blk.box [(iA 0), (iA 0)], Blk.box [(iA a2.Dir), (iA a2.Level)]] (.s (A.agg [(iA 0), (iA 0), (iA 0), (iA 0), (iA 0), (iA 0), (iA 0), (iA 0), (iA 0), (iA 0), (iA 0), (iA 0), (iA 0)]) ?_))
        exact .lf rfl rfl ⟨_, rfl, rfl⟩
      refine .s (A.agg [(iA a0.X), (iA a0.Y), (iA a0.Face), (iA a0.Limbs.1.Dir), (iA a0.Limbs.1.Level), (iA a0.Limbs.2.1.Dir), (iA a0.Limbs.2.1.Level), (iA a2.Dir), (iA a2.Level), (iA a0.Limbs.2.2.2.1.Dir), (iA a0.Limbs.2.2.2.1.Level), (iA a0.Limbs.2.2.2.2.Dir), (iA a0.Limbs.2.2.2.2.Level)]) (.s [(hk19_5 a0 a2), Blk.box (c_S_Sign a1), Blk.box (c_S_Real a2), (hk19_5 a0 a2), Blk.box [(iA 0), (iA 0)], Blk.box [(iA a2.Dir), (iA a2.Level)]] (.s (A.agg [(iA a0.X), (iA a0.Y), (iA a0.Face), (iA a0.Limbs.1.Dir), (iA a0.Limbs.1.Level), (iA a0.Limbs.2.1.Dir), (iA a0.Limbs.2.1.Level), (iA a2.Dir), (iA a2.Level), (iA a0.Limbs.2.2.2.1.Dir), (iA a0.Limbs.2.2.2.1.Level), (iA a0.Limbs.2.2.2.2.Dir), (iA a0.Limbs.2.2.2.2.Level)]) ?_))
      exact .lf rfl rfl ⟨_, rfl, rfl⟩
    refine .sp (fun hb44 => ?_) (fun _ => ?_)
    · refine .st (v := (A.ptr 0 9)) (by rw [of_decide_eq_true hb44]; kernel_rfl) ?_
      refine .s [(hk19_6 a0 a2), Blk.box (c_S_Sign a1), Blk.box (c_S_Real a2), hk18_2, Blk.box [(iA 0), (iA 0)], Blk.box [(iA a2.Dir), (iA a2.Level)]] (.s (A.agg [(iA a0.X), (iA a0.Y), (iA a0.Face), (iA a0.Limbs.1.Dir), (iA a0.Limbs.1.Level), (iA a0.Limbs.2.1.Dir), (iA a0.Limbs.2.1.Level), (iA a0.Limbs.2.2.1.Dir), (iA a0.Limbs.2.2.1.Level), (iA a2.Dir), (iA a2.Level), (iA a0.Limbs.2.2.2.2.Dir), (iA a0.Limbs.2.2.2.2.Level)]) ?_)
      refine .bd (g := fun (y : Int) => (iA y)) (h17 ((S_State.mk a0.X a0.Y a0.Face ((a0.Limbs.1, a0.Limbs.2.1, a0.Limbs.2.2.1, (S_Limb.mk a2.Dir a2.Level), a0.Limbs.2.2.2.2))))) fun y45 => ?_
      refine .st (v := (bA (y45 != 0))) (aBin_neq ..) ?_
      refine .biHN (fun hk46 => ?_) (fun hk46 => ?_)
      · refine .s (A.agg [(iA 0), (iA 0), (iA 0), (iA 0), (iA 0), (iA 0), (iA 0), (iA 0), (iA 0), (iA 0), (iA 0), (iA 0), (iA 0)]) (.s [(hk19_6 a0 a2), Blk.box (c_S_Sign a1), Blk.box (c_S_Real a2), hk18_2, Blk.box [(iA 0), (iA 0)], Blk.box [(iA a2.Dir), (iA a2.Level)]] (.s (A.agg [(iA 0), (iA 0), (iA 0), (iA 0), (iA 0), (iA 0), (iA 0), (iA 0), (iA 0), (iA 0), (iA 0), (iA 0), (iA 0)]) ?_))
        exact .lf rfl rfl ⟨_, rfl, rfl⟩
      refine .s (A.agg [(iA a0.X), (iA a0.Y), (iA a0.Face), (iA a0.Limbs.1.Dir), (iA a0.Limbs.1.Level), (iA a0.Limbs.2.1.Dir), (iA a0.Limbs.2.1.Level), (iA a0.Limbs.2.2.1.Dir), (iA a0.Limbs.2.2.1.Level), (iA a2.Dir), (iA a2.Level), (iA a0.Limbs.2.2.2.2.Dir), (iA a0.Limbs.2.2.2.2.Level)]) (.s [(hk19_6 a0 a2), Blk.box (c_S_Sign a1), Blk.box (c_S_Real a2), (hk19_6 a0 a2), Blk.box [(iA 0), (iA 0)], Blk.box [(iA a2.Dir), (iA a2.Level)]] (.s (A.agg [(iA a0.X), (iA a0.Y), (iA a0.Face), (iA a0.Limbs.1.Dir), (iA a0.Limbs.1.Level), (iA a0.Limbs.2.1.Dir), (iA a0.Limbs.2.1.Level), (iA a0.Limbs.2.2.1.Dir), (iA a0.Limbs.2.2.1.Level), (iA a2.Dir), (iA a2.Level), (iA a0.Limbs.2.2.2.2.Dir), (iA a0.Limbs.2.2.2.2.Level)]) ?_))
      exact .lf rfl rfl ⟨_, rfl, rfl⟩
    refine .sp (fun hb47 => ?_) (fun _ => ?_)
    · refine .st (v := (A.ptr 0 11)) (by rw [of_decide_eq_true hb47]; kernel_rfl) ?_
      refine .s [(hk18_24 a0 a2), Blk.box (c_S_Sign a1), Blk.box (c_S_Real a2), hk18_2, Blk.box [(iA 0), (iA 0)], Blk.box [(iA a2.Dir), (iA a2.Level)]] (.s (A.agg [(iA a0.X), (iA a0.Y), (iA a0.Face), (iA a0.Limbs.1.Dir), (iA a0.Limbs.1.Level), (iA a0.Limbs.2.1.Dir), (iA a0.Limbs.2.1.Level), (iA a0.Limbs.2.2.1.Dir), (iA a0.Limbs.2.2.1.Level), (iA a0.Limbs.2.2.2.1.Dir), (iA a0.Limbs.2.2.2.1.Level), (iA a2.Dir), (iA a2.Level)]) ?_)
      refine .bd (g := fun (y : Int) => (iA y)) (h17 ((S_State.mk a0.X a0.Y a0.Face ((a0.Limbs.1, a0.Limbs.2.1, a0.Limbs.2.2.1, a0.Limbs.2.2.2.1, (S_Limb.mk a2.Dir a2.Level)))))) fun y48 => ?_
      refine .st (v := (bA (y48 != 0))) (aBin_neq ..) ?_
      refine .biHN (fun hk49 => ?_) (fun hk49 => ?_)
      · refine .s (A.agg [(iA 0), (iA 0), (iA 0), (iA 0), (iA 0), (iA 0), (iA 0), (iA 0), (iA 0), (iA 0), (iA 0), (iA 0), (iA 0)]) (.s [(hk18_24 a0 a2), Blk.box (c_S_Sign a1), Blk.box (c_S_Real a2), hk18_2, Blk.box [(iA 0), (iA 0)], Blk.box [(iA a2.Dir), (iA a2.Level)]] (.s (A.agg [(iA 0), (iA 0), (iA 0), (iA 0), (iA 0), (iA 0), (iA 0), (iA 0), (iA 0), (iA 0), (iA 0), (iA 0), (iA 0)]) ?_))
        exact .lf rfl rfl ⟨_, rfl, rfl⟩
      refine .s (A.agg [(iA a0.X), (iA a0.Y), (iA a0.Face), (iA a0.Limbs.1.Dir), (iA a0.Limbs.1.Level), (iA a0.Limbs.2.1.Dir), (iA a0.Limbs.2.1.Level), (iA a0.Limbs.2.2.1.Dir), (iA a0.Limbs.2.2.1.Level), (iA a0.Limbs.2.2.2.1.Dir), (iA a0.Limbs.2.2.2.1.Level), (iA a2.Dir), (iA a2.Level)]) (.s [(hk18_24 a0 a2), Blk.box (c_S_Sign a1), Blk.box (c_S_Real a2), (hk18_24 a0 a2), Blk.box [(iA 0), (iA 0)], Blk.box [(iA a2.Dir), (iA a2.Level)]] (.s (A.agg [(iA a0.X), (iA a0.Y), (iA a0.Face), (iA a0.Limbs.1.Dir), (iA a0.Limbs.1.Level), (iA a0.Limbs.2.1.Dir), (iA a0.Limbs.2.1.Level), (iA a0.Limbs.2.2.1.Dir), (iA a0.Limbs.2.2.1.Level), (iA a0.Limbs.2.2.2.1.Dir), (iA a0.Limbs.2.2.2.1.Level), (iA a2.Dir), (iA a2.Level)]) ?_))
      exact .lf rfl rfl ⟨_, rfl, rfl⟩
    exact .nn
  refine .st (v := (bA (a1.Kind == 4))) (aBin_eql ..) ?_
  refine .biHN (fun hk50 => ?_) (fun hk50 => ?_)
  · refine .s (A.ptr 1 5) (.s (iA a1.Side) ?_)
    refine .st (v := (iA (wr .i64 (a1.Side + 1)))) (aBin_add ..) ?_
    refine .s (A.agg [(iA a2.Dir), (iA a2.Level)]) (.s (A.ptr 0 3) ?_)
    refine .sp (fun hb51 => ?_) (fun _ => ?_)
    · refine .st (v := (A.ptr 0 3)) (by rw [of_decide_eq_true hb51]; kernel_rfl) ?_
      refine .s [(hk19_3 a0 a2), Blk.box (c_S_Sign a1), Blk.box (c_S_Real a2), hk18_2, Blk.box [(iA 0), (iA 0)], Blk.box [(iA a2.Dir), (iA a2.Level)]] (.s (A.agg [(iA a0.X), (iA a0.Y), (iA a0.Face), (iA a2.Dir), (iA a2.Level), (iA a0.Limbs.2.1.Dir), (iA a0.Limbs.2.1.Level), (iA a0.Limbs.2.2.1.Dir), (iA a0.Limbs.2.2.1.Level), (iA a0.Limbs.2.2.2.1.Dir), (iA a0.Limbs.2.2.2.1.Level), (iA a0.Limbs.2.2.2.2.Dir), (iA a0.Limbs.2.2.2.2.Level)]) ?_)
      refine .bd (g := fun (y : Int) => (iA y)) (h17 ((S_State.mk a0.X a0.Y a0.Face (((S_Limb.mk a2.Dir a2.Level), a0.Limbs.2.1, a0.Limbs.2.2.1, a0.Limbs.2.2.2.1, a0.Limbs.2.2.2.2))))) fun y52 => ?_
      refine .st (v := (bA (y52 != 0))) (aBin_neq ..) ?_
      refine .biHN (fun hk53 => ?_) (fun hk53 => ?_)
      · refine .s (A.agg [(iA 0), (iA 0), (iA 0), (iA 0), (iA 0), (iA 0), (iA 0), (iA 0), (iA 0), (iA 0), (iA 0), (iA 0), (iA 0)]) (.s [(hk19_3 a0 a2), Blk.box (c_S_Sign a1), Blk.box (c_S_Real a2), hk18_2, Blk.box [(iA 0), (iA 0)], Blk.box [(iA a2.Dir), (iA a2.Level)]] (.s (A.agg [(iA 0), (iA 0), (iA 0), (iA 0), (iA 0), (iA 0), (iA 0), (iA 0), (iA 0), (iA 0), (iA 0), (iA 0), (iA 0)]) ?_))
        exact .lf rfl rfl ⟨_, rfl, rfl⟩
      refine .s (A.agg [(iA a0.X), (iA a0.Y), (iA a0.Face), (iA a2.Dir), (iA a2.Level), (iA a0.Limbs.2.1.Dir), (iA a0.Limbs.2.1.Level), (iA a0.Limbs.2.2.1.Dir), (iA a0.Limbs.2.2.1.Level), (iA a0.Limbs.2.2.2.1.Dir), (iA a0.Limbs.2.2.2.1.Level), (iA a0.Limbs.2.2.2.2.Dir), (iA a0.Limbs.2.2.2.2.Level)]) (.s [(hk19_3 a0 a2), Blk.box (c_S_Sign a1), Blk.box (c_S_Real a2), (hk19_3 a0 a2), Blk.box [(iA 0), (iA 0)], Blk.box [(iA a2.Dir), (iA a2.Level)]] (.s (A.agg [(iA a0.X), (iA a0.Y), (iA a0.Face), (iA a2.Dir), (iA a2.Level), (iA a0.Limbs.2.1.Dir), (iA a0.Limbs.2.1.Level), (iA a0.Limbs.2.2.1.Dir), (iA a0.Limbs.2.2.1.Level), (iA a0.Limbs.2.2.2.1.Dir), (iA a0.Limbs.2.2.2.1.Level), (iA a0.Limbs.2.2.2.2.Dir), (iA a0.Limbs.2.2.2.2.Level)]) ?_))
      exact .lf rfl rfl ⟨_, rfl, rfl⟩
    refine .sp (fun hb54 => ?_) (fun _ => ?_)
    · refine .st (v := (A.ptr 0 5)) (by rw [of_decide_eq_true hb54]; kernel_rfl) ?_
      refine .s [(hk19_4 a0 a2), Blk.box (c_S_Sign a1), Blk.box (c_S_Real a2), hk18_2, Blk.box [(iA 0), (iA 0)], Blk.box [(iA a2.Dir), (iA a2.Level)]] (.s (A.agg [(iA a0.X), (iA a0.Y), (iA a0.Face), (iA a0.Limbs.1.Dir), (iA a0.Limbs.1.Level), (iA a2.Dir), (iA a2.Level), (iA a0.Limbs.2.2.1.Dir), (iA a0.Limbs.2.2.1.Level), (iA a0.Limbs.2.2.2.1.Dir), (iA a0.Limbs.2.2.2.1.Level), (iA a0.Limbs.2.2.2.2.Dir), (iA a0.Limbs.2.2.2.2.Level)]) ?_)
      refine .bd (g := fun (y : Int) => (iA y)) (h17 ((S_State.mk a0.X a0.Y a0.Face ((a0.Limbs.1, (S_Limb.mk a2.Dir a2.Level), a0.Limbs.2.2.1, a0.Limbs.2.2.2.1, a0.Limbs.2.2.2.2))))) fun y55 => ?_
      refine .st (v := (bA (y55 != 0))) (aBin_neq ..) ?_
      refine .biHN (fun hk56 => ?_) (fun hk56 => ?_)
      · refine .s (A.agg [(iA 0), (iA 0), (iA 0), (iA 0), (iA 0), (iA 0), (iA 0), (iA 0), (iA 0), (iA 0), (iA 0), (iA 0), (iA 0)]) (.s [(hk19_4 a0 a2), Blk.box (c_S_Sign a1), Blk.box (c_S_Real a2), hk18_2, Blk.box [(iA 0), (iA 0)], Blk.box [(iA a2.Dir), (iA a2.Level)]] (.s (A.agg [(iA 0), (iA 0), (iA 0), (iA 0), (iA 0), (iA 0), (iA 0), (iA 0), (iA 0), (iA 0), (iA 0), (iA 0), (iA 0)]) ?_))
        exact .lf rfl rfl ⟨_, rfl, rfl⟩
      refine .s (A.agg [(iA a0.X), (iA a0.Y), (iA a0.Face), (iA a0.Limbs.1.Dir), (iA a0.Limbs.1.Level), (iA a2.Dir), (iA a2.Level), (iA a0.Limbs.2.2.1.Dir), (iA a0.Limbs.2.2.1.Level), (iA a0.Limbs.2.2.2.1.Dir), (iA a0.Limbs.2.2.2.1.Level), (iA a0.Limbs.2.2.2.2.Dir), (iA a0.Limbs.2.2.2.2.Level)]) (.s [(hk19_4 a0 a2), Blk.box (c_S_Sign a1), Blk.box (c_S_Real a2), (hk19_4 a0 a2), Blk.box [(iA 0), (iA 0)], Blk.box [(iA a2.Dir), (iA a2.Level)]] (.s (A.agg [(iA a0.X), (iA a0.Y), (iA a0.Face), (iA a0.Limbs.1.Dir), (iA a0.Limbs.1.Level), (iA a2.Dir), (iA a2.Level), (iA a0.Limbs.2.2.1.Dir), (iA a0.Limbs.2.2.1.Level), (iA a0.Limbs.2.2.2.1.Dir), (iA a0.Limbs.2.2.2.1.Level), (iA a0.Limbs.2.2.2.2.Dir), (iA a0.Limbs.2.2.2.2.Level)]) ?_))
      exact .lf rfl rfl ⟨_, rfl, rfl⟩
    refine .sp (fun hb57 => ?_) (fun _ => ?_)
    · refine .st (v := (A.ptr 0 7)) (by rw [of_decide_eq_true hb57]; kernel_rfl) ?_
      refine .s [(hk19_5 a0 a2), Blk.box (c_S_Sign a1), Blk.box (c_S_Real a2), hk18_2, Blk.box [(iA 0), (iA 0)], Blk.box [(iA a2.Dir), (iA a2.Level)]] (.s (A.agg [(iA a0.X), (iA a0.Y), (iA a0.Face), (iA a0.Limbs.1.Dir), (iA a0.Limbs.1.Level), (iA a0.Limbs.2.1.Dir), (iA a0.Limbs.2.1.Level), (iA a2.Dir), (iA a2.Level), (iA a0.Limbs.2.2.2.1.Dir), (iA a0.Limbs.2.2.2.1.Level), (iA a0.Limbs.2.2.2.2.Dir), (iA a0.Limbs.2.2.2.2.Level)]) ?_)
      refine .bd (g := fun (y : Int) => (iA y)) (h17 ((S_State.mk a0.X a0.Y a0.Face ((a0.Limbs.1, a0.Limbs.2.1, (S_Limb.mk a2.Dir a2.Level), a0.Limbs.2.2.2.1, a0.Limbs.2.2.2.2))))) fun y58 => ?_
      refine .st (v := (bA (y58 != 0))) (aBin_neq ..) ?_
      refine .biHN (fun hk59 => ?_) (fun hk59 => ?_)
      · refine .s (A.agg [(iA 0), (iA 0), (iA 0), (iA 0), (iA 0), (iA 0), (iA 0), (iA 0), (iA 0), (iA 0), (iA 0), (iA 0), (iA 0)]) (.s [(hk19_5 a0 a2), Blk.box (c_S_Sign a1), Blk.box (c_S_Real a2), hk18_2, Blk.box [(iA 0), (iA 0)], Blk.box [(iA a2.Dir), (iA a2.Level)]] (.s (A.agg [(iA 0), (iA 0), (iA 0), (iA 0), (iA 0), (iA 0), (iA 0), (iA 0), (iA 0), (iA 0), (iA 0), (iA 0), (iA 0)]) ?_))
        exact .lf rfl rfl ⟨_, rfl, rfl⟩
      refine .s (A.agg [(iA a0.X), (iA a0.Y), (iA a0.Face), (iA a0.Limbs.1.Dir), (iA a0.Limbs.1.Level), (iA a0.Limbs.2.1.Dir), (iA a0.Limbs.2.1.Level), (iA a2.Dir), (iA a2.Level), (iA a0.Limbs.2.2.2.1.Dir), (iA a0.Limbs.2.2.2.1.Level), (iA a0.Limbs.2.2.2.2.Dir), (iA a0.Limbs.2.2.2.2.Level)]) (.s [(hk19_5 a0 a2), Blk.box (c_S_Sign a1), Blk.box (c_S_Real a2), (hk19_5 a0 a2), Blk.box [(iA 0), (iA 0)], Blk.box [(iA a2.Dir), (iA a2.Level)]] (.s (A.agg [(iA a0.X), (iA a0.Y), (iA a0.Face), (iA a0.Limbs.1.Dir), (iA a0.Limbs.1.Level), (iA a0.Limbs.2.1.Dir), (iA a0.Limbs.2.1.Level), (iA a2.Dir), (iA a2.Level), (iA a0.Limbs.2.2.2.1.Dir), (iA a0.Limbs.2.2.2.1.Level), (iA a0.Limbs.2.2.2.2.Dir), (iA a0.Limbs.2.2.2.2.Level)]) ?_))
      exact .lf rfl rfl ⟨_, rfl, rfl⟩
    refine .sp (fun hb60 => ?_) (fun _ => ?_)
    · refine .st (v := (A.ptr 0 9)) (by rw [of_decide_eq_true hb60]; kernel_rfl) ?_
      refine .s [(hk19_6 a0 a2), Blk.box (c_S_Sign a1), Blk.box (c_S_Real a2), hk18_2, Blk.box [(iA 0), (iA 0)], Blk.box [(iA a2.Dir), (iA a2.Level)]] (.s (A.agg [(iA a0.X), (iA a0.Y), (iA a0.Face), (iA a0.Limbs.1.Dir), (iA a0.Limbs.1.Level), (iA a0.Limbs.2.1.Dir), (iA a0.Limbs.2.1.Level), (iA a0.Limbs.2.2.1.Dir), (iA a0.Limbs.2.2.1.Level), (iA a2.Dir), (iA a2.Level), (iA a0.Limbs.2.2.2.2.Dir), (iA a0.Limbs.2.2.2.2.Level)]) ?_)
      refine .bd (g := fun (y : Int) => (iA y)) (h17 ((S_State.mk a0.X a0.Y a0.Face ((a0.Limbs.1, a0.Limbs.2.1, a0.Limbs.2.2.1, (S_Limb.mk a2.Dir a2.Level), a0.Limbs.2.2.2.2))))) fun y61 => ?_
      refine .st (v := (bA (y61 != 0))) (aBin_neq ..) ?_
      refine .biHN (fun hk62 => ?_) (fun hk62 => ?_)
      · refine .s (A.agg [(iA 0), (iA 0), (iA 0), (iA 0), (iA 0), (iA 0), (iA 0), (iA 0), (iA 0), (iA 0), (iA 0), (iA 0), (iA 0)]) (.s [(hk19_6 a0 a2), Blk.box (c_S_Sign a1), Blk.box (c_S_Real a2), hk18_2, Blk.box [(iA 0), (iA 0)], Blk.box [(iA a2.Dir), (iA a2.Level)]] (.s (A.agg [(iA 0), (iA 0), (iA 0), (iA 0), (iA 0), (iA 0), (iA 0), (iA 0), (iA 0), (iA 0), (iA 0), (iA 0), (iA 0)]) ?_))
        exact .lf rfl rfl ⟨_, rfl, rfl⟩
      refine .s (A.agg [(iA a0.X), (iA a0.Y), (iA a0.Face), (iA a0.Limbs.1.Dir), (iA a0.Limbs.1.Level), (iA a0.Limbs.2.1.Dir), (iA a0.Limbs.2.1.Level), (iA a0.Limbs.2.2.1.Dir), (iA a0.Limbs.2.2.1.Level), (iA a2.Dir), (iA a2.Level), (iA a0.Limbs.2.2.2.2.Dir), (iA a0.Limbs.2.2.2.2.Level)]) (.s [(hk19_6 a0 a2), Blk.box (c_S_Sign a1), Blk.box (c_S_Real a2), (hk19_6 a0 a2), Blk.box [(iA 0), (iA 0)], Blk.box [(iA a2.Dir), (iA a2.Level)]] (.s (A.agg [(iA a0.X), (iA a0.Y), (iA a0.Face), (iA a0.Limbs.1.Dir), (iA a0.Limbs.1.Level), (iA a0.Limbs.2.1.Dir), (iA a0.Limbs.2.1.Level), (iA a0.Limbs.2.2.1.Dir), (iA a0.Limbs.2.2.1.Level), (iA a2.Dir), (iA a2.Level), (iA a0.Limbs.2.2.2.2.Dir), (iA a0.Limbs.2.2.2.2.Level)]) ?_))
      exact .lf rfl rfl ⟨_, rfl, rfl⟩
    refine .sp (fun hb63 => ?_) (fun _ => ?_)
    · refine .st (v := (A.ptr 0 11)) (by rw [of_decide_eq_true hb63]; kernel_rfl) ?_
      refine .s [(hk18_24 a0 a2), Blk.box (c_S_Sign a1), Blk.box (c_S_Real a2), hk18_2, Blk.box [(iA 0), (iA 0)], Blk.box [(iA a2.Dir), (iA a2.Level)]] (.s (A.agg [(iA a0.X), (iA a0.Y), (iA a0.Face), (iA a0.Limbs.1.Dir), (iA a0.Limbs.1.Level), (iA a0.Limbs.2.1.Dir), (iA a0.Limbs.2.1.Level), (iA a0.Limbs.2.2.1.Dir), (iA a0.Limbs.2.2.1.Level), (iA a0.Limbs.2.2.2.1.Dir), (iA a0.Limbs.2.2.2.1.Level), (iA a2.Dir), (iA a2.Level)]) ?_)
      refine .bd (g := fun (y : Int) => (iA y)) (h17 ((S_State.mk a0.X a0.Y a0.Face ((a0.Limbs.1, a0.Limbs.2.1, a0.Limbs.2.2.1, a0.Limbs.2.2.2.1, (S_Limb.mk a2.Dir a2.Level)))))) fun y64 => ?_
      refine .st (v := (bA (y64 != 0))) (aBin_neq ..) ?_
      refine .biHN (fun hk65 => ?_) (fun hk65 => ?_)
      · refine .s (A.agg [(iA 0), (iA 0), (iA 0), (iA 0), (iA 0), (iA 0), (iA 0), (iA 0), (iA 0), (iA 0), (iA 0), (iA 0), (iA 0)]) (.s [(hk18_24 a0 a2), Blk.box (c_S_Sign a1), Blk.box (c_S_Real a2), hk18_2, Blk.box [(iA 0), (iA 0)], Blk.box [(iA a2.Dir), (iA a2.Level)]] (.s (A.agg [(iA 0), (iA 0), (iA 0), (iA 0), (iA 0), (iA 0), (iA 0), (iA 0), (iA 0), (iA 0), (iA 0), (iA 0), (iA 0)]) ?_))
        exact .lf rfl rfl ⟨_, rfl, rfl⟩
      refine .s (A.agg [(iA a0.X), (iA a0.Y), (iA a0.Face), (iA a0.Limbs.1.Dir), (iA a0.Limbs.1.Level), (iA a0.Limbs.2.1.Dir), (iA a0.Limbs.2.1.Level), (iA a0.Limbs.2.2.1.Dir), (iA a0.Limbs.2.2.1.Level), (iA a0.Limbs.2.2.2.1.Dir), (iA a0.Limbs.2.2.2.1.Level), (iA a2.Dir), (iA a2.Level)]) (.s [(hk18_24 a0 a2), Blk.box (c_S_Sign a1), Blk.box (c_S_Real a2), (hk18_24 a0 a2), Blk.box [(iA 0), (iA 0)], Blk.box [(iA a2.Dir), (iA a2.Level)]] (.s (A.agg [(iA a0.X), (iA a0.Y), (iA a0.Face), (iA a0.Limbs.1.Dir), (iA a0.Limbs.1.Level), (iA a0.Limbs.2.1.Dir), (iA a0.Limbs.2.1.Level), (iA a0.Limbs.2.2.1.Dir), (iA a0.Limbs.2.2.1.Level), (iA a0.Limbs.2.2.2.1.Dir), (iA a0.Limbs.2.2.2.1.Level), (iA a2.Dir), (iA a2.Level)]) ?_))
      exact .lf rfl rfl ⟨_, rfl, rfl⟩
    exact .nn
  refine .st (v := (bA (a1.Kind == 5))) (aBin_eql ..) ?_
  refine .biHN (fun hk66 => ?_) (fun hk66 => ?_)
  · refine .s (A.agg [(iA a2.Dir), (iA a2.Level)]) (.s (A.ptr 0 3) (.s (A.ptr 0 11) (.s [(hk18_24 a0 a2), Blk.box (c_S_Sign a1), Blk.box (c_S_Real a2), hk18_2, Blk.box [(iA 0), (iA 0)], Blk.box [(iA a2.Dir), (iA a2.Level)]] (.s (A.agg [(iA a0.X), (iA a0.Y), (iA a0.Face), (iA a0.Limbs.1.Dir), (iA a0.Limbs.1.Level), (iA a0.Limbs.2.1.Dir), (iA a0.Limbs.2.1.Level), (iA a0.Limbs.2.2.1.Dir), (iA a0.Limbs.2.2.1.Level), (iA a0.Limbs.2.2.2.1.Dir), (iA a0.Limbs.2.2.2.1.Level), (iA a2.Dir), (iA a2.Level)]) ?_))))
    refine .bd (g := fun (y : Int) => (iA y)) (h17 ((S_State.mk a0.X a0.Y a0.Face ((a0.Limbs.1, a0.Limbs.2.1, a0.Limbs.2.2.1, a0.Limbs.2.2.2.1, (S_Limb.mk a2.Dir a2.Level)))))) fun y67 => ?_
    refine .st (v := (bA (y67 != 0))) (aBin_neq ..) ?_
    refine .biHN (fun hk68 => ?_) (fun hk68 => ?_)
    · refine .s (A.agg [(iA 0), (iA 0), (iA 0), (iA 0), (iA 0), (iA 0), (iA 0), (iA 0), (iA 0), (iA 0), (iA 0), (iA 0), (iA 0)]) (.s [(hk18_24 a0 a2), Blk.box (c_S_Sign a1), Blk.box (c_S_Real a2), hk18_2, Blk.box [(iA 0), (iA 0)], Blk.box [(iA a2.Dir), (iA a2.Level)]] (.s (A.agg [(iA 0), (iA 0), (iA 0), (iA 0), (iA 0), (iA 0), (iA 0), (iA 0), (iA 0), (iA 0), (iA 0), (iA 0), (iA 0)]) ?_))
      exact .lf rfl rfl ⟨_, rfl, rfl⟩
    refine .s (A.agg [(iA a0.X), (iA a0.Y), (iA a0.Face), (iA a0.Limbs.1.Dir), (iA a0.Limbs.1.Level), (iA a0.Limbs.2.1.Dir), (iA a0.Limbs.2.1.Level), (iA a0.Limbs.2.2.1.Dir), (iA a0.Limbs.2.2.1.Level), (iA a0.Limbs.2.2.2.1.Dir), (iA a0.Limbs.2.2.2.1.Level), (iA a2.Dir), (iA a2.Level)]) (.s [(hk18_24 a0 a2), Blk.box (c_S_Sign a1), Blk.box (c_S_Real a2), (hk18_24 a0 a2), Blk.box [(iA 0), (iA 0)], Blk.box [(iA a2.Dir), (iA a2.Level)]] (.s (A.agg [(iA a0.X), (iA a0.Y), (iA a0.Face), (iA a0.Limbs.1.Dir), (iA a0.Limbs.1.Level), (iA a0.Limbs.2.1.Dir), (iA a0.Limbs.2.1.Level), (iA a0.Limbs.2.2.1.Dir), (iA a0.Limbs.2.2.1.Level), (iA a0.Limbs.2.2.2.1.Dir), (iA a0.Limbs.2.2.2.1.Level), (iA a2.Dir), (iA a2.Level)]) ?_))
    exact .lf rfl rfl ⟨_, rfl, rfl⟩
  refine .st (v := (bA (a1.Kind == 6))) (aBin_eql ..) ?_
  refine .biHN (fun hk69 => ?_) (fun hk69 => ?_)
  · refine .s (A.ptr 0 2) (.s (iA a0.Face) (.s (A.ptr 1 8) (.s (iA a1.Size) ?_)))
    refine .st (v := (iA (wr .i64 (a0.Face + a1.Size)))) (aBin_add ..) ?_
    refine .st (v := (iA (Int.tmod (wr .i64 (a0.Face + a1.Size)) 8))) (aBin_rem (hb := by decide) ..) ?_
    refine .s (A.ptr 0 2) (.s [(hk19_8 a0 a1), Blk.box (c_S_Sign a1), Blk.box (c_S_Real a2), hk18_2, Blk.box [(iA 0), (iA 0)], Blk.box [(iA a2.Dir), (iA a2.Level)]] (.s (A.agg [(iA a0.X), (iA a0.Y), (iA (Int.tmod (wr .i64 (a0.Face + a1.Size)) 8)), (iA a0.Limbs.1.Dir), (iA a0.Limbs.1.Level), (iA a0.Limbs.2.1.Dir), (iA a0.Limbs.2.1.Level), (iA a0.Limbs.2.2.1.Dir), (iA a0.Limbs.2.2.1.Level), (iA a0.Limbs.2.2.2.1.Dir), (iA a0.Limbs.2.2.2.1.Level), (iA a0.Limbs.2.2.2.2.Dir), (iA a0.Limbs.2.2.2.2.Level)]) ?_))
    refine .bd (g := fun (y : Int) => (iA y)) (h17 ((S_State.mk a0.X a0.Y (Int.tmod (wr .i64 (a0.Face + a1.Size)) 8) a0.Limbs))) fun y70 => ?_
    refine .st (v := (bA (y70 != 0))) (aBin_neq ..) ?_
    refine .biHN (fun hk71 => ?_) (fun hk71 => ?_)
    · refine .s (A.agg [(iA 0), (iA 0), (iA 0), (iA 0), (iA 0), (iA 0), (iA 0), (iA 0), (iA 0), (iA 0), (iA 0), (iA 0), (iA 0)]) (.s [(hk19_8 a0 a1), Blk.box (c_S_Sign a1), Blk.box (c_S_Real a2), hk18_2, Blk.box [(iA 0), (iA 0)], Blk.box [(iA a2.Dir), (iA a2.Level)]] (.s (A.agg [(iA 0), (iA 0), (iA 0), (iA 0), (iA 0), (iA 0), (iA 0), (iA 0), (iA 0), (iA 0), (iA 0), (iA 0), (iA 0)]) ?_))
      exact .lf rfl rfl ⟨_, rfl, rfl⟩
    refine .s (A.agg [(iA a0.X), (iA a0.Y), (iA (Int.tmod (wr .i64 (a0.Face + a1.Size)) 8)), (iA a0.Limbs.1.Dir), (iA a0.Limbs.1.Level), (iA a0.Limbs.2.1.Dir), (iA a0.Limbs.2.1.Level), (iA a0.Limbs.2.2.1.Dir), (iA a0.Limbs.2.2.1.Level), (iA a0.Limbs.2.2.2.1.Dir), (iA a0.Limbs.2.2.2.1.Level), (iA a0.Limbs.2.2.2.2.Dir), (iA a0.Limbs.2.2.2.2.Level)]) (.s [(hk19_8 a0 a1), Blk.box (c_S_Sign a1), Blk.box (c_S_Real a2), (hk19_8 a0 a1), Blk.box [(iA 0), (iA 0)], Blk.box [(iA a2.Dir), (iA a2.Level)]] (.s (A.agg [(iA a0.X), (iA a0.Y), (iA (Int.tmod (wr .i64 (a0.Face + a1.Size)) 8)), (iA a0.Limbs.1.Dir), (iA a0.Limbs.1.Level), (iA a0.Limbs.2.1.Dir), (iA a0.Limbs.2.1.Level), (iA a0.Limbs.2.2.1.Dir), (iA a0.Limbs.2.2.1.Level), (iA a0.Limbs.2.2.2.1.Dir), (iA a0.Limbs.2.2.2.1.Level), (iA a0.Limbs.2.2.2.2.Dir), (iA a0.Limbs.2.2.2.2.Level)]) ?_))
    exact .lf rfl rfl ⟨_, rfl, rfl⟩
  refine .st (v := (bA (a1.Kind == 7))) (aBin_eql ..) ?_
  refine .biHN (fun hk72 => ?_) (fun hk72 => ?_)
  · refine .s (A.agg [(iA 0), (iA 0)]) (.s (A.ptr 0 3) (.s (A.ptr 0 7) (.s [(hk19_9 a0), Blk.box (c_S_Sign a1), Blk.box (c_S_Real a2), hk18_2, Blk.box [(iA 0), (iA 0)], Blk.box [(iA a2.Dir), (iA a2.Level)]] (.s (A.agg [(iA 0), (iA 0)]) (.s (A.ptr 0 3) (.s (A.ptr 0 9) (.s [(hk19_20 a0), Blk.box (c_S_Sign a1), Blk.box (c_S_Real a2), hk18_2, Blk.box [(iA 0), (iA 0)], Blk.box [(iA a2.Dir), (iA a2.Level)]] (.s (A.agg [(iA a0.X), (iA a0.Y), (iA a0.Face), (iA a0.Limbs.1.Dir), (iA a0.Limbs.1.Level), (iA a0.Limbs.2.1.Dir), (iA a0.Limbs.2.1.Level), (iA 0), (iA 0), (iA 0), (iA 0), (iA a0.Limbs.2.2.2.2.Dir), (iA a0.Limbs.2.2.2.2.Level)]) ?_))))))))
    refine .bd (g := fun (y : Int) => (iA y)) (h17 ((S_State.mk a0.X a0.Y a0.Face ((a0.Limbs.1, a0.Limbs.2.1, (S_Limb.mk 0 0), (S_Limb.mk 0 0), a0.Limbs.2.2.2.2))))) fun y73 => ?_
    refine .st (v := (bA (y73 != 0))) (aBin_neq ..) ?_
    refine .biHN (fun hk74 => ?_) (fun hk74 => ?_)
    · refine .s (A.agg [(iA 0), (iA 0), (iA 0), (iA 0), (iA 0), (iA 0), (iA 0), (iA 0), (iA 0), (iA 0), (iA 0), (iA 0), (iA 0)]) (.s [(hk19_20 a0), Blk.box (c_S_Sign a1), Blk.box (c_S_Real a2), hk18_2, Blk.box [(iA 0), (iA 0)], Blk.box [(iA a2.Dir), (iA a2.Level)]] (.s (A.agg [(iA 0), (iA 0), (iA 0), (iA 0), (iA 0), (iA 0), (iA 0), (iA 0), (iA 0), (iA 0), (iA 0), (iA 0), (iA 0)]) ?_))
      exact .lf rfl rfl ⟨_, rfl, rfl⟩
    refine .s (A.agg [(iA a0.X), (iA a0.Y), (iA a0.Face), (iA a0.Limbs.1.Dir), (iA a0.Limbs.1.Level), (iA a0.Limbs.2.1.Dir), (iA a0.Limbs.2.1.Level), (iA 0), (iA 0), (iA 0), (iA 0), (iA a0.Limbs.2.2.2.2.Dir), (iA a0.Limbs.2.2.2.2.Level)]) (.s [(hk19_20 a0), Blk.box (c_S_Sign a1), Blk.box (c_S_Real a2), (hk19_20 a0), Blk.box [(iA 0), (iA 0)], Blk.box [(iA a2.Dir), (iA a2.Level)]] (.s (A.agg [(iA a0.X), (iA a0.Y), (iA a0.Face), (iA a0.Limbs.1.Dir), (iA a0.Limbs.1.Level), (iA a0.Limbs.2.1.Dir), (iA a0.Limbs.2.1.Level), (iA 0), (iA 0), (iA 0), (iA 0), (iA a0.Limbs.2.2.2.2.Dir), (iA a0.Limbs.2.2.2.2.Level)]) ?_))
    exact .lf rfl rfl ⟨_, rfl, rfl⟩
  refine .st (v := (bA (a1.Kind == 8))) (aBin_eql ..) ?_
  refine .biHN (fun hk75 => ?_) (fun hk75 => ?_)
  · refine .s (A.agg [(iA 0), (iA 0)]) (.s (A.ptr 0 3) (.s (A.ptr 0 3) (.s [(hk19_7 a0), Blk.box (c_S_Sign a1), Blk.box (c_S_Real a2), hk18_2, Blk.box [(iA 0), (iA 0)], Blk.box [(iA a2.Dir), (iA a2.Level)]] (.s (A.agg [(iA 0), (iA 0)]) (.s (A.ptr 0 3) (.s (A.ptr 0 5) (.s [(hk19_19 a0), Blk.box (c_S_Sign a1), Blk.box (c_S_Real a2), hk18_2, Blk.box [(iA 0), (iA 0)], Blk.box [(iA a2.Dir), (iA a2.Level)]] (.s (A.agg [(iA a0.X), (iA a0.Y), (iA a0.Face), (iA 0), (iA 0), (iA 0), (iA 0), (iA a0.Limbs.2.2.1.Dir), (iA a0.Limbs.2.2.1.Level), (iA a0.Limbs.2.2.2.1.Dir), (iA a0.Limbs.2.2.2.1.Level), (iA a0.Limbs.2.2.2.2.Dir), (iA a0.Limbs.2.2.2.2.Level)]) ?_))))))))
    refine .bd (g := fun (y : Int) => (iA y)) (h17 ((S_State.mk a0.X a0.Y a0.Face (((S_Limb.mk 0 0), (S_Limb.mk 0 0), a0.Limbs.2.2.1, a0.Limbs.2.2.2.1, a0.Limbs.2.2.2.2))))) fun y76 => ?_
    refine .st (v := (bA (y76 != 0))) (aBin_neq ..) ?_
    refine .biHN (fun hk77 => ?_) (fun hk77 => ?_)
    · refine .s (A.agg [(iA 0), (iA 0), (iA 0), (iA 0), (iA 0), (iA 0), (iA 0), (iA 0), (iA 0), (iA 0), (iA 0), (iA 0), (iA 0)]) (.s [(hk19_19 a0), Blk.box (c_S_Sign a1), Blk.box (c_S_Real a2), hk18_2, Blk.box [(iA 0), (iA 0)], Blk.box [(iA a2.Dir), (iA a2.Level)]] (.s (A.agg [(iA 0), (iA 0), (iA 0), (iA 0), (iA 0), (iA 0), (iA 0), (iA 0), (iA 0), (iA 0), (iA 0), (iA 0), (iA 0)]) ?_))
      exact .lf rfl rfl ⟨_, rfl, rfl⟩
    refine .s (A.agg [(iA a0.X), (iA a0.Y), (iA a0.Face), (iA 0), (iA 0), (iA 0), (iA 0), (iA a0.Limbs.2.2.1.Dir), (iA a0.Limbs.2.2.1.Level), (iA a0.Limbs.2.2.2.1.Dir), (iA a0.Limbs.2.2.2.1.Level), (iA a0.Limbs.2.2.2.2.Dir), (iA a0.Limbs.2.2.2.2.Level)]) (.s [(hk19_19 a0), Blk.box (c_S_Sign a1), Blk.box (c_S_Real a2), (hk19_19 a0), Blk.box [(iA 0), (iA 0)], Blk.box [(iA a2.Dir), (iA a2.Level)]] (.s (A.agg [(iA a0.X), (iA a0.Y), (iA a0.Face), (iA 0), (iA 0), (iA 0), (iA 0), (iA a0.Limbs.2.2.1.Dir), (iA a0.Limbs.2.2.1.Level), (iA a0.Limbs.2.2.2.1.Dir), (iA a0.Limbs.2.2.2.1.Level), (iA a0.Limbs.2.2.2.2.Dir), (iA a0.Limbs.2.2.2.2.Level)]) ?_))
    exact .lf rfl rfl ⟨_, rfl, rfl⟩
  refine .st (v := (bA (a1.Kind == 9))) (aBin_eql ..) ?_
  refine .biHN (fun hk78 => ?_) (fun hk78 => ?_)
  · refine .s (A.ptr 1 5) (.s (iA a1.Side) ?_)
    refine .st (v := (iA (wr .i64 (a1.Side + 1)))) (aBin_add ..) ?_
    refine .s (A.agg [(iA 0), (iA 0)]) (.s (A.ptr 0 3) ?_)
    refine .sp (fun hb79 => ?_) (fun _ => ?_)
    · refine .st (v := (A.ptr 0 3)) (by rw [of_decide_eq_true hb79]; kernel_rfl) ?_
      refine .s [(hk19_7 a0), Blk.box (c_S_Sign a1), Blk.box (c_S_Real a2), hk18_2, Blk.box [(iA 0), (iA 0)], Blk.box [(iA a2.Dir), (iA a2.Level)]] (.s (A.agg [(iA a0.X), (iA a0.Y), (iA a0.Face), (iA 0), (iA 0), (iA a0.Limbs.2.1.Dir), (iA a0.Limbs.2.1.Level), (iA a0.Limbs.2.2.1.Dir), (iA a0.Limbs.2.2.1.Level), (iA a0.Limbs.2.2.2.1.Dir), (iA a0.Limbs.2.2.2.1.Level), (iA a0.Limbs.2.2.2.2.Dir), (iA a0.Limbs.2.2.2.2.Level)]) ?_)
      refine .bd (g := fun (y : Int) => (iA y)) (h17 ((S_State.mk a0.X a0.Y a0.Face (((S_Limb.mk 0 0), a0.Limbs.2.1, a0.Limbs.2.2.1, a0.Limbs.2.2.2.1, a0.Limbs.2.2.2.2))))) fun y80 => ?_
      refine .st (v := (bA (y80 != 0))) (aBin_neq ..) ?_
      refine .biHN (fun hk81 => ?_) (fun hk81 => ?_)
      · refine .s (A.agg [(iA 0), (iA 0), (iA 0), (iA 0), (iA 0), (iA 0), (iA 0), (iA 0), (iA 0), (iA 0), (iA 0), (iA 0), (iA 0)]) (.s [(hk19_7 a0), Blk.box (c_S_Sign a1), Blk.box (c_S_Real a2), hk18_2, Blk.box [(iA 0), (iA 0)], Blk.box [(iA a2.Dir), (iA a2.Level)]] (.s (A.agg [(iA 0), (iA 0), (iA 0), (iA 0), (iA 0), (iA 0), (iA 0), (iA 0), (iA 0), (iA 0), (iA 0), (iA 0), (iA 0)]) ?_))
        exact .lf rfl rfl ⟨_, rfl, rfl⟩
      refine .s (A.agg [(iA a0.X), (iA a0.Y), (iA a0.Face), (iA 0), (iA 0), (iA a0.Limbs.2.1.Dir), (iA a0.Limbs.2.1.Level), (iA a0.Limbs.2.2.1.Dir), (iA a0.Limbs.2.2.1.Level), (iA a0.Limbs.2.2.2.1.Dir), (iA a0.Limbs.2.2.2.1.Level), (iA a0.Limbs.2.2.2.2.Dir), (iA a0.Limbs.2.2.2.2.Level)]) (.s [(hk19_7 a0), Blk.box (c_S_Sign a1), Blk.box (c_S_Real a2), (hk19_7 a0), Blk.box [(iA 0), (iA 0)], Blk.box [(iA a2.Dir), (iA a2.Level)]] (.s (A.agg [(iA a0.X), (iA a0.Y), (iA a0.Face), (iA 0), (iA 0), (iA a0.Limbs.2.1.Dir), (iA a0.Limbs.2.1.Level), (iA a0.Limbs.2.2.1.Dir), (iA a0.Limbs.2.2.1.Level), (iA a0.Limbs.2.2.2.1.Dir), (iA a0.Limbs.2.2.2.1.Level), (iA a0.Limbs.2.2.2.2.Dir), (iA a0.Limbs.2.2.2.2.Level)]) ?_))
      exact .lf rfl rfl ⟨_, rfl, rfl⟩
    refine .sp (fun hb82 => ?_) (fun _ => ?_)
    · refine .st (v := (A.ptr 0 5)) (by rw [of_decide_eq_true hb82]; kernel_rfl) ?_
      refine .s [(hk19_15 a0), Blk.box (c_S_Sign a1), Blk.box (c_S_Real a2), hk18_2, Blk.box [(iA 0), (iA 0)], Blk.box [(iA a2.Dir), (iA a2.Level)]] (.s (A.agg [(iA a0.X), (iA a0.Y), (iA a0.Face), (iA a0.Limbs.1.Dir), (iA a0.Limbs.1.Level), (iA 0), (iA 0), (iA a0.Limbs.2.2.1.Dir), (iA a0.Limbs.2.2.1.Level), (iA a0.Limbs.2.2.2.1.Dir), (iA a0.Limbs.2.2.2.1.Level), (iA a0.Limbs.2.2.2.2.Dir), (iA a0.Limbs.2.2.2.2.Level)]) ?_)
      refine .bd (g := fun (y : Int) => (iA y)) (h17 ((S_State.mk a0.X a0.Y a0.Face ((a0.Limbs.1, (S_Limb.mk 0 0), a0.Limbs.2.2.1, a0.Limbs.2.2.2.1, a0.Limbs.2.2.2.2))))) fun y83 => ?_
      refine .st (v := (bA (y83 != 0))) (aBin_neq ..) ?_
      refine .biHN (fun hk84 => ?_) (fun hk84 => ?_)
      · refine .s (A.agg [(iA 0), (iA 0), (iA 0), (iA 0), (iA 0), (iA 0), (iA 0), (iA 0), (iA 0), (iA 0), (iA 0), (iA 0), (iA 0)]) (.s [(hk19_15 a0), Blk.box (c_S_Sign a1), Blk.box (c_S_Real a2), hk18_2, Blk.box [(iA 0), (iA 0)], Blk.box [(iA a2.Dir), (iA a2.Level)]] (.s (A.agg [(iA 0), (iA 0), (iA 0), (iA 0), (iA 0), (iA 0), (iA 0), (iA 0), (iA 0), (iA 0), (iA 0), (iA 0), (iA 0)]) ?_))
        exact .lf rfl rfl ⟨_, rfl, rfl⟩
      refine .s (A.agg [(iA a0.X), (iA a0.Y), (iA a0.Face), (iA a0.Limbs.1.Dir), (iA a0.Limbs.1.Level), (iA 0), (iA 0), (iA a0.Limbs.2.2.1.Dir), (iA a0.Limbs.2.2.1.Level), (iA a0.Limbs.2.2.2.1.Dir), (iA a0.Limbs.2.2.2.1.Level), (iA a0.Limbs.2.2.2.2.Dir), (iA a0.Limbs.2.2.2.2.Level)]) (.s [(hk19_15 a0), Blk.box (c_S_Sign a1), Blk.box (c_S_Real a2), (hk19_15 a0), Blk.box [(iA 0), (iA 0)], Blk.box [(iA a2.Dir), (iA a2.Level)]] (.s (A.agg [(iA a0.X), (iA a0.Y), (iA a0.Face), (iA a0.Limbs.1.Dir), (iA a0.Limbs.1.Level), (iA 0), (iA 0), (iA a0.Limbs.2.2.1.Dir), (iA a0.Limbs.2.2.1.Level), (iA a0.Limbs.2.2.2.1.Dir), (iA a0.Limbs.2.2.2.1.Level), (iA a0.Limbs.2.2.2.2.Dir), (iA a0.Limbs.2.2.2.2.Level)]) ?_))
      exact .lf rfl rfl ⟨_, rfl, rfl⟩
    refine .sp (fun hb85 => ?_) (fun _ => ?_)
    · refine .st (v := (A.ptr 0 7)) (by rw [of_decide_eq_true hb85]; kernel_rfl) ?_
      refine .s [(hk19_9 a0), Blk.box (c_S_Sign a1), Blk.box (c_S_Real a2), hk18_2, Blk.box [(iA 0), (iA 0)], Blk.box [(iA a2.Dir), (iA a2.Level)]] (.s (A.agg [(iA a0.X), (iA a0.Y), (iA a0.Face), (iA a0.Limbs.1.Dir), (iA a0.Limbs.1.Level), (iA a0.Limbs.2.1.Dir), (iA a0.Limbs.2.1.Level), (iA 0), (iA 0), (iA a0.Limbs.2.2.2.1.Dir), (iA a0.Limbs.2.2.2.1.Level), (iA a0.Limbs.2.2.2.2.Dir), (iA a0.Limbs.2.2.2.2.Level)]) ?_)
      refine .bd (g := fun (y : Int) => (iA y)) (h17 ((S_State.mk a0.X a0.Y a0.Face ((a0.Limbs.1, a0.Limbs.2.1, (S_Limb.mk 0 0), a0.Limbs.2.2.2.1, a0.Limbs.2.2.2.2))))) fun y86 => ?_
      refine .st (v := (bA (y86 != 0))) (aBin_neq ..) ?_
      refine .biHN (fun hk87 => ?_) (fun hk87 => ?_)
      · refine .s (A.agg [(iA 0), (iA 0), (iA 0), (iA 0), (iA 0), (iA 0), (iA 0), (iA 0), (iA 0), (iA 0), (iA 0), (iA 0), (iA 0)]) (.s [(hk19_9 a0), Blk.box (c_S_Sign a1), Blk.box (c_S_Real a2), hk18_2, Blk.box [(iA 0), (iA 0)], Blk.box [(iA a2.Dir), (iA a2.Level)]] (.s (A.agg [(iA 0), (iA 0), (iA 0), (iA 0), (iA 0), (iA 0), (iA 0), (iA 0), (iA 0), (iA 0), (iA 0), (iA 0), (iA 0)]) ?_))
        exact .lf rfl rfl ⟨_, rfl, rfl⟩
      refine .s (A.agg [(iA a0.X), (iA a0.Y), (iA a0.Face), (iA a0.Limbs.1.Dir), (iA a0.Limbs.1.Level), (iA a0.Limbs.2.1.Dir), (iA a0.Limbs.2.1.Level), (iA 0), (iA 0), (iA a0.Limbs.2.2.2.1.Dir), (iA a0.Limbs.2.2.2.1.Level), (iA a0.Limbs.2.2.2.2.Dir), (iA a0.Limbs.2.2.2.2.Level)]) (.s [(hk19_9 a0), Blk.box (c_S_Sign a1), Blk.box (c_S_Real a2), (hk19_9 a0), Blk.box [(iA 0), (iA 0)], Blk.box [(iA a2.Dir), (iA a2.Level)]] (.s (A.agg [(iA a0.X), (iA a0.Y), (iA a0.Face), (iA a0.Limbs.1.Dir), (iA a0.Limbs.1.Level), (iA a0.Limbs.2.1.Dir), (iA a0.Limbs.2.1.Level), (iA 0), (iA 0), (iA a0.Limbs.2.2.2.1.Dir), (iA a0.Limbs.2.2.2.1.Level), (iA a0.Limbs.2.2.2.2.Dir), (iA a0.Limbs.2.2.2.2.Level)]) ?_))
      exact .lf rfl rfl ⟨_, rfl, rfl⟩
    refine .sp (fun hb88 => ?_) (fun _ => ?_)
    · refine .st (v := (A.ptr 0 9)) (by rw [of_decide_eq_true hb88]; kernel_rfl) ?_
      refine .s [(hk19_16 a0), Blk.box (c_S_Sign a1), Blk.box (c_S_Real a2), hk18_2, Blk.box [(iA 0), (iA 0)], Blk.box [(iA a2.Dir), (iA a2.Level)]] (.s (A.agg [(iA a0.X), (iA a0.Y), (iA a0.Face), (iA a0.Limbs.1.Dir), (iA a0.Limbs.1.Level), (iA a0.Limbs.2.1.Dir), (iA a0.Limbs.2.1.Level), (iA a0.Limbs.2.2.1.Dir), (iA a0.Limbs.2.2.1.Level), (iA 0), (iA 0), (iA a0.Limbs.2.2.2.2.Dir), (iA a0.Limbs.2.2.2.2.Level)]) ?_)
      refine .bd (g := fun (y : Int) => (iA y)) (h17 ((S_State.mk a0.X a0.Y a0.Face ((a0.Limbs.1, a0.Limbs.2.1, a0.Limbs.2.2.1, (S_Limb.mk 0 0), a0.Limbs.2.2.2.2))))) fun y89 => ?_
      refine .st (v := (bA (y89 != 0))) (aBin_neq ..) ?_
      refine .biHN (fun hk90 => ?_) (fun hk90 => ?_)
      · refine .s (A.agg [(iA 0), (iA 0), (iA 0), (iA 0), (iA 0), (iA 0), (iA 0), (iA 0), (iA 0), (iA 0), (iA 0), (iA 0), (iA 0)]) (.s [(hk19_16 a0), Blk.box (c_S_Sign a1), Blk.box (c_S_Real a2), hk18_2, Blk.box [(iA 0), (iA 0)], Blk.box [(iA a2.Dir), (iA a2.Level)]] (.s (A.agg [(iA 0), (iA 0), (iA 0), (iA 0), (iA 0), (iA 0), (iA 0), (iA 0), (iA 0), (iA 0), (iA 0), (iA 0), (iA 0)]) ?_))
        exact .lf rfl rfl ⟨_, rfl, rfl⟩
      refine .s (A.agg [(iA a0.X), (iA a0.Y), (iA a0.Face), (iA a0.Limbs.1.Dir), (iA a0.Limbs.1.Level), (iA a0.Limbs.2.1.Dir), (iA a0.Limbs.2.1.Level), (iA a0.Limbs.2.2.1.Dir), (iA a0.Limbs.2.2.1.Level), (iA 0), (iA 0), (iA a0.Limbs.2.2.2.2.Dir), (iA a0.Limbs.2.2.2.2.Level)]) (.s [(hk19_16 a0), Blk.box (c_S_Sign a1), Blk.box (c_S_Real a2), (hk19_16 a0), Blk.box [(iA 0), (iA 0)], Blk.box [(iA a2.Dir), (iA a2.Level)]] (.s (A.agg [(iA a0.X), (iA a0.Y), (iA a0.Face), (iA a0.Limbs.1.Dir), (iA a0.Limbs.1.Level), (iA a0.Limbs.2.1.Dir), (iA a0.Limbs.2.1.Level), (iA a0.Limbs.2.2.1.Dir), (iA a0.Limbs.2.2.1.Level), (iA 0), (iA 0), (iA a0.Limbs.2.2.2.2.Dir), (iA a0.Limbs.2.2.2.2.Level)]) ?_))
      exact .lf rfl rfl ⟨_, rfl, rfl⟩
    refine .sp (fun hb91 => ?_) (fun _ => ?_)
    · refine .st (v := (A.ptr 0 11)) (by rw [of_decide_eq_true hb91]; kernel_rfl) ?_
      refine .s [(hk19_17 a0), Blk.box (c_S_Sign a1), Blk.box (c_S_Real a2), hk18_2, Blk.box [(iA 0), (iA 0)], Blk.box [(iA a2.Dir), (iA a2.Level)]] (.s (A.agg [(iA a0.X), (iA a0.Y), (iA a0.Face), (iA a0.Limbs.1.Dir), (iA a0.Limbs.1.Level), (iA a0.Limbs.2.1.Dir), (iA a0.Limbs.2.1.Level), (iA a0.Limbs.2.2.1.Dir), (iA a0.Limbs.2.2.1.Level), (iA a0.Limbs.2.2.2.1.Dir), (iA a0.Limbs.2.2.2.1.Level), (iA 0), (iA 0)]) ?_)
      refine .bd (g := fun (y : Int) => (iA y)) (h17 ((S_State.mk a0.X a0.Y a0.Face ((a0.Limbs.1, a0.Limbs.2.1, a0.Limbs.2.2.1, a0.Limbs.2.2.2.1, (S_Limb.mk 0 0)))))) fun y92 => ?_
      refine .st (v := (bA (y92 != 0))) (aBin_neq ..) ?_
      refine .biHN (fun hk93 => ?_) (fun hk93 => ?_)
      · refine .s (A.agg [(iA 0), (iA 0), (iA 0), (iA 0), (iA 0), (iA 0), (iA 0), (iA 0), (iA 0), (iA 0), (iA 0), (iA 0), (iA 0)]) (.s [(hk19_17 a0), Blk.box (c_S_Sign a1), Blk.box (c_S_Real a2), hk18_2, Blk.box [(iA 0), (iA 0)], Blk.box [(iA a2.Dir), (iA a2.Level)]] (.s (A.agg [(iA 0), (iA 0), (iA 0), (iA 0), (iA 0), (iA 0), (iA 0), (iA 0), (iA 0), (iA 0), (iA 0), (iA 0), (iA 0)]) ?_))
        exact .lf rfl rfl ⟨_, rfl, rfl⟩
      refine .s (A.agg [(iA a0.X), (iA a0.Y), (iA a0.Face), (iA a0.Limbs.1.Dir), (iA a0.Limbs.1.Level), (iA a0.Limbs.2.1.Dir), (iA a0.Limbs.2.1.Level), (iA a0.Limbs.2.2.1.Dir), (iA a0.Limbs.2.2.1.Level), (iA a0.Limbs.2.2.2.1.Dir), (iA a0.Limbs.2.2.2.1.Level), (iA 0), (iA 0)]) (.s [(hk19_17 a0), Blk.box (c_S_Sign a1), Blk.box (c_S_Real a2), (hk19_17 a0), Blk.box [(iA 0), (iA 0)], Blk.box [(iA a2.Dir), (iA a2.Level)]] (.s (A.agg [(iA a0.X), (iA a0.Y), (iA a0.Face), (iA a0.Limbs.1.Dir), (iA a0.Limbs.1.Level), (iA a0.Limbs.2.1.Dir), (iA a0.Limbs.2.1.Level), (iA a0.Limbs.2.2.1.Dir), (iA a0.Limbs.2.2.1.Level), (iA a0.Limbs.2.2.2.1.Dir), (iA a0.Limbs.2.2.2.1.Level), (iA 0), (iA 0)]) ?_))
      exact .lf rfl rfl ⟨_, rfl, rfl⟩
    exact .nn
  refine .s (A.agg (c_S_State a0)) ?_
  refine .bd (g := fun (y : Int) => (iA y)) (h17 a0) fun y94 => ?_
  refine .st (v := (bA (y94 != 0))) (aBin_neq ..) ?_
  refine .biHN (fun hk95 => ?_) (fun hk95 => ?_)
  · refine .s (A.agg [(iA 0), (iA 0), (iA 0), (iA 0), (iA 0), (iA 0), (iA 0), (iA 0), (iA 0), (iA 0), (iA 0), (iA 0), (iA 0)]) (.s [Blk.box (c_S_State a0), Blk.box (c_S_Sign a1), Blk.box (c_S_Real a2), hk18_2, Blk.box [(iA 0), (iA 0)], Blk.box [(iA a2.Dir), (iA a2.Level)]] (.s (A.agg [(iA 0), (iA 0), (iA 0), (iA 0), (iA 0), (iA 0), (iA 0), (iA 0), (iA 0), (iA 0), (iA 0), (iA 0), (iA 0)]) ?_))
    exact .lf rfl rfl ⟨_, rfl, rfl⟩
  refine .s (A.agg (c_S_State a0)) (.s [Blk.box (c_S_State a0), Blk.box (c_S_Sign a1), Blk.box (c_S_Real a2), Blk.box (c_S_State a0), Blk.box [(iA 0), (iA 0)], Blk.box [(iA a2.Dir), (iA a2.Level)]] (.s (A.agg (c_S_State a0)) ?_))
  exact .lf rfl rfl ⟨_, rfl, rfl⟩
def G19 (a0 : S_State) (a1 : S_Sign) (a2 : S_Real) : Option (S_State × Int) := F19 fuel0 a0 a1 a2
def Orc19 (C : Nat → List A → Option A) : Prop := ∀ (a0 : S_State) (a1 : S_Sign) (a2 : S_Real), C 19 [(A.agg (c_S_State a0)), (A.agg (c_S_Sign a1)), (A.agg (c_S_Real a2))] = (G19 a0 a1 a2).map fun y => (A.tup [(A.agg [(iA y.1.X), (iA y.1.Y), (iA y.1.Face), (iA y.1.Limbs.1.Dir), (iA y.1.Limbs.1.Level), (iA y.1.Limbs.2.1.Dir), (iA y.1.Limbs.2.1.Level), (iA y.1.Limbs.2.2.1.Dir), (iA y.1.Limbs.2.2.1.Level), (iA y.1.Limbs.2.2.2.1.Dir), (iA y.1.Limbs.2.2.2.1.Level), (iA y.1.Limbs.2.2.2.2.Dir), (iA y.1.Limbs.2.2.2.2.Level)]), (iA y.2)])
def F4 (n : Nat) (a0 : S_State) (a1 : S_Sign) (a2 : S_Real) : Option Bool :=
  Option.bind (G11 ) fun y1 => bif (!y1) then (some false) else (Option.bind (G18 a0 a1 a2) fun y3 => Option.bind (G19 a0 a1 a2) fun y4 => Option.bind (bif (((y3.1.X == y4.1.X) && ((y3.1.Y == y4.1.Y) && ((y3.1.Face == y4.1.Face) && (((y3.1.Limbs.1.Dir == y4.1.Limbs.1.Dir) && (y3.1.Limbs.1.Level == y4.1.Limbs.1.Level)) && (((y3.1.Limbs.2.1.Dir == y4.1.Limbs.2.1.Dir) && (y3.1.Limbs.2.1.Level == y4.1.Limbs.2.1.Level)) && (((y3.1.Limbs.2.2.1.Dir == y4.1.Limbs.2.2.1.Dir) && (y3.1.Limbs.2.2.1.Level == y4.1.Limbs.2.2.1.Level)) && (((y3.1.Limbs.2.2.2.1.Dir == y4.1.Limbs.2.2.2.1.Dir) && (y3.1.Limbs.2.2.2.1.Level == y4.1.Limbs.2.2.2.1.Level)) && ((y3.1.Limbs.2.2.2.2.Dir == y4.1.Limbs.2.2.2.2.Dir) && (y3.1.Limbs.2.2.2.2.Level == y4.1.Limbs.2.2.2.2.Level)))))))))) then (some (y3.2 == y4.2)) else (some false)) fun y6 => some y6)
theorem T4 (C : Nat → List A → Option A) (n : Nat) (h11 : Orc11 C) (h18 : Orc18 C) (h19 : Orc19 C) (a0 : S_State) (a1 : S_Sign) (a2 : S_Real) : J (fun (o : R) y => ∃ v, o.1 = .ret v ∧ snapE o.2 v = (bA y)) (evCall1 (cx C) (evCall (cx C) (n+8)) (evCallY (cx C) (n+8)) (n+8) 4 [(A.agg (c_S_State a0)), (A.agg (c_S_Sign a1)), (A.agg (c_S_Real a2))] [] 0) some (F4 n a0 a1 a2) some := by
  refine .lp (e4 ..) ?_
  unfold F4
  refine .s ((A.ptr 0 0), [Blk.box (c_S_State a0)]) (.s ((A.ptr 1 0), [Blk.box (c_S_State a0), Blk.box (c_S_Sign a1)]) (.s ((A.ptr 2 0), [Blk.box (c_S_State a0), Blk.box (c_S_Sign a1), Blk.box (c_S_Real a2)]) ?_))
  refine .bd (g := fun (y : Bool) => (bA y)) (h11 ()) fun y1 => ?_
  refine .s (bA (!y1)) ?_
  refine .biHN (fun hk2 => ?_) (fun hk2 => ?_)
  · exact .lf rfl rfl ⟨_, rfl, rfl⟩
  refine .s (A.agg (c_S_State a0)) (.s (A.agg (c_S_Sign a1)) (.s (A.agg (c_S_Real a2)) ?_))
  refine .bd (g := fun (y : (S_State × Int)) => (A.tup [(A.agg [(iA y.1.X), (iA y.1.Y), (iA y.1.Face), (iA y.1.Limbs.1.Dir), (iA y.1.Limbs.1.Level), (iA y.1.Limbs.2.1.Dir), (iA y.1.Limbs.2.1.Level), (iA y.1.Limbs.2.2.1.Dir), (iA y.1.Limbs.2.2.1.Level), (iA y.1.Limbs.2.2.2.1.Dir), (iA y.1.Limbs.2.2.2.1.Level), (iA y.1.Limbs.2.2.2.2.Dir), (iA y.1.Limbs.2.2.2.2.Level)]), (iA y.2)])) (h18 a0 a1 a2) fun y3 => ?_
  refine .s (A.agg (c_S_State y3.1)) (.s (iA y3.2) (.s ((A.ptr 3 0), [Blk.box (c_S_State a0), Blk.box (c_S_Sign a1), Blk.box (c_S_Real a2), Blk.box [(iA 0), (iA 0), (iA 0), (iA 0), (iA 0), (iA 0), (iA 0), (iA 0), (iA 0), (iA 0), (iA 0), (iA 0), (iA 0)]]) (.s [Blk.box (c_S_State a0), Blk.box (c_S_Sign a1), Blk.box (c_S_Real a2), Blk.box (c_S_State y3.1)] (.s (A.agg (c_S_State a0)) (.s (A.agg (c_S_Sign a1)) (.s (A.agg (c_S_Real a2)) ?_))))))
  refine .bd (g := fun (y : (S_State × Int)) => (A.tup [(A.agg [(iA y.1.X), (iA y.1.Y), (iA y.1.Face), (iA y.1.Limbs.1.Dir), (iA y.1.Limbs.1.Level), (iA y.1.Limbs.2.1.Dir), (iA y.1.Limbs.2.1.Level), (iA y.1.Limbs.2.2.1.Dir), (iA y.1.Limbs.2.2.1.Level), (iA y.1.Limbs.2.2.2.1.Dir), (iA y.1.Limbs.2.2.2.1.Level), (iA y.1.Limbs.2.2.2.2.Dir), (iA y.1.Limbs.2.2.2.2.Level)]), (iA y.2)])) (h19 a0 a1 a2) fun y4 => ?_
  refine .s (A.agg (c_S_State y4.1)) (.s (iA y4.2) (.s ((A.ptr 4 0), [Blk.box (c_S_State a0), Blk.box (c_S_Sign a1), Blk.box (c_S_Real a2), Blk.box (c_S_State y3.1), Blk.box [(iA 0), (iA 0), (iA 0), (iA 0), (iA 0), (iA 0), (iA 0), (iA 0), (iA 0), (iA 0), (iA 0), (iA 0), (iA 0)]]) (.s [Blk.box (c_S_State a0), Blk.box (c_S_Sign a1), Blk.box (c_S_Real a2), Blk.box (c_S_State y3.1), Blk.box (c_S_State y4.1)] (.s (A.agg (c_S_State y3.1)) (.s (A.agg (c_S_State y4.1)) (.s (bA (((y3.1.X == y4.1.X) && ((y3.1.Y == y4.1.Y) && ((y3.1.Face == y4.1.Face) && (((y3.1.Limbs.1.Dir == y4.1.Limbs.1.Dir) && (y3.1.Limbs.1.Level == y4.1.Limbs.1.Level)) && (((y3.1.Limbs.2.1.Dir == y4.1.Limbs.2.1.Dir) && (y3.1.Limbs.2.1.Level == y4.1.Limbs.2.1.Level)) && (((y3.1.Limbs.2.2.1.Dir == y4.1.Limbs.2.2.1.Dir) && (y3.1.Limbs.2.2.1.Level == y4.1.Limbs.2.2.1.Level)) && (((y3.1.Limbs.2.2.2.1.Dir == y4.1.Limbs.2.2.2.1.Dir) && (y3.1.Limbs.2.2.2.1.Level == y4.1.Limbs.2.2.2.1.Level)) && ((y3.1.Limbs.2.2.2.2.Dir == y4.1.Limbs.2.2.2.2.Dir) && (y3.1.Limbs.2.2.2.2.Level == y4.1.Limbs.2.2.2.2.Level))))))))))) ?_))))))
  refine .bg (fun t (y : Bool) => ∃ j7 j8 j9 : A, t = [(bA y), j7, j8, j9]) ?_ ?_
  · refine .biH (fun hk5 => ?_) (fun hk5 => ?_)
    · refine .st (v := (bA (y3.2 == y4.2))) (aBin_eql ..) ?_
      exact .lg ⟨_, _, _, rfl⟩
    exact .lg ⟨_, _, _, rfl⟩
  rintro _ y6 ⟨j7, j8, j9, rfl⟩
  iterate 4 refine .uc ?_
  exact .lf rfl rfl ⟨_, rfl, rfl⟩
def G4 (a0 : S_State) (a1 : S_Sign) (a2 : S_Real) : Option Bool := F4 fuel0 a0 a1 a2
end Go.Proofs.YtooamdacfhfjoaaDoor
