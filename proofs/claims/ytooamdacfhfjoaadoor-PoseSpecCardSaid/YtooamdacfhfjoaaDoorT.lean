/-
  The program's functions as plain functions: by a tool; each follows the interpreter.
-/
import Derived.Test.YtooamdacfhfjoaaDoorT3
import Derived.KernelRfl
namespace Go.Proofs.YtooamdacfhfjoaaDoor
set_option linter.unusedVariables false
set_option linter.unusedSimpArgs false
set_option maxHeartbeats 4000000
set_option maxRecDepth 100000
def F17_17_0 (n : Nat) (v17 : Int) (v19 : S_State) : Nat → Int → Option ((Int) ⊕ ((Int) ⊕ ((Int) ⊕ ((Int) ⊕ ((Int) ⊕ (Unit))))))
  | 0, _ => none
  | m + 1, v18 => bif (decide (v18 < 5)) then (bif decide (v18 = 0) then (Option.bind (bif (v19.Limbs.1.Dir == 0) then (some (v19.Limbs.1.Level == 0)) else (some false)) fun y23 => Option.bind (bif y23 then (some true) else (Option.bind (G30 v19.Limbs.1.Dir 0 8) fun y28 => Option.bind (bif y28 then (Option.bind (G30 v19.Limbs.1.Level 1 3) fun y30 => some y30) else (some false)) fun y31 => some y31)) fun y35 => bif (!y35) then (some ((Sum.inl 260))) else (F17_17_0 n v17 v19 m (wr .i64 (v18 + 1)))) else bif decide (v18 = 1) then (Option.bind (bif (v19.Limbs.2.1.Dir == 0) then (some (v19.Limbs.2.1.Level == 0)) else (some false)) fun y47 => Option.bind (bif y47 then (some true) else (Option.bind (G30 v19.Limbs.2.1.Dir 0 8) fun y52 => Option.bind (bif y52 then (Option.bind (G30 v19.Limbs.2.1.Level 1 3) fun y54 => some y54) else (some false)) fun y55 => some y55)) fun y59 => bif (!y59) then (some ((Sum.inr ((Sum.inl 260))))) else (F17_17_0 n v17 v19 m (wr .i64 (v18 + 1)))) else bif decide (v18 = 2) then (Option.bind (bif (v19.Limbs.2.2.1.Dir == 0) then (some (v19.Limbs.2.2.1.Level == 0)) else (some false)) fun y71 => Option.bind (bif y71 then (some true) else (Option.bind (G30 v19.Limbs.2.2.1.Dir 0 8) fun y76 => Option.bind (bif y76 then (Option.bind (G30 v19.Limbs.2.2.1.Level 1 3) fun y78 => some y78) else (some false)) fun y79 => some y79)) fun y83 => bif (!y83) then (some ((Sum.inr ((Sum.inr ((Sum.inl 260))))))) else (F17_17_0 n v17 v19 m (wr .i64 (v18 + 1)))) else bif decide (v18 = 3) then (Option.bind (bif (v19.Limbs.2.2.2.1.Dir == 0) then (some (v19.Limbs.2.2.2.1.Level == 0)) else (some false)) fun y95 => Option.bind (bif y95 then (some true) else (Option.bind (G30 v19.Limbs.2.2.2.1.Dir 0 8) fun y100 => Option.bind (bif y100 then (Option.bind (G30 v19.Limbs.2.2.2.1.Level 1 3) fun y102 => some y102) else (some false)) fun y103 => some y103)) fun y107 => bif (!y107) then (some ((Sum.inr ((Sum.inr ((Sum.inr ((Sum.inl 260))))))))) else (F17_17_0 n v17 v19 m (wr .i64 (v18 + 1)))) else bif decide (v18 = 4) then (Option.bind (bif (v19.Limbs.2.2.2.2.Dir == 0) then (some (v19.Limbs.2.2.2.2.Level == 0)) else (some false)) fun y119 => Option.bind (bif y119 then (some true) else (Option.bind (G30 v19.Limbs.2.2.2.2.Dir 0 8) fun y124 => Option.bind (bif y124 then (Option.bind (G30 v19.Limbs.2.2.2.2.Level 1 3) fun y126 => some y126) else (some false)) fun y127 => some y127)) fun y131 => bif (!y131) then (some ((Sum.inr ((Sum.inr ((Sum.inr ((Sum.inr ((Sum.inl 260))))))))))) else (F17_17_0 n v17 v19 m (wr .i64 (v18 + 1)))) else none) else (some ((Sum.inr ((Sum.inr ((Sum.inr ((Sum.inr ((Sum.inr (()))))))))))))

theorem T17_17_0 (C : Nat → List A → Option A) (n : Nat) (h30 : Orc30 C) (v17 : Int) (v19 : S_State) {ρ γ : Type} {φ : ρ → γ → Prop} {kL : R → Option ρ} {K : ((Int) ⊕ ((Int) ⊕ ((Int) ⊕ ((Int) ⊕ ((Int) ⊕ (Unit)))))) → Option γ} (kx kg : Nat → St → Option R) (kr : St → Option R) (kp : A → St → Option R) (x0 : ∀ (o0 : Int) (s1 : A) (s3 : A), J φ (kr (St.mk [(1, s1), (2, (iA o0)), (3, s3)] [Blk.box (c_S_State v19), Blk.box [(iA v19.Limbs.1.Dir), (iA v19.Limbs.1.Level)]])) kL (K (Sum.inl o0)) some) (x1 : ∀ (o0 : Int) (s1 : A) (s3 : A), J φ (kr (St.mk [(1, s1), (2, (iA o0)), (3, s3)] [Blk.box (c_S_State v19), Blk.box [(iA v19.Limbs.2.1.Dir), (iA v19.Limbs.2.1.Level)]])) kL (K (Sum.inr ((Sum.inl o0)))) some) (x2 : ∀ (o0 : Int) (s1 : A) (s3 : A), J φ (kr (St.mk [(1, s1), (2, (iA o0)), (3, s3)] [Blk.box (c_S_State v19), Blk.box [(iA v19.Limbs.2.2.1.Dir), (iA v19.Limbs.2.2.1.Level)]])) kL (K (Sum.inr ((Sum.inr ((Sum.inl o0)))))) some) (x3 : ∀ (o0 : Int) (s1 : A) (s3 : A), J φ (kr (St.mk [(1, s1), (2, (iA o0)), (3, s3)] [Blk.box (c_S_State v19), Blk.box [(iA v19.Limbs.2.2.2.1.Dir), (iA v19.Limbs.2.2.2.1.Level)]])) kL (K (Sum.inr ((Sum.inr ((Sum.inr ((Sum.inl o0)))))))) some) (x4 : ∀ (o0 : Int) (s1 : A) (s3 : A), J φ (kr (St.mk [(1, s1), (2, (iA o0)), (3, s3)] [Blk.box (c_S_State v19), Blk.box [(iA v19.Limbs.2.2.2.2.Dir), (iA v19.Limbs.2.2.2.2.Level)]])) kL (K (Sum.inr ((Sum.inr ((Sum.inr ((Sum.inr ((Sum.inl o0)))))))))) some) (x5 : ∀ (s1 : A) (s2 : A) (s3 : A), J φ (kx 0 (St.mk [(1, s1), (2, s2), (3, s3)] [Blk.box (c_S_State v19)])) kL (K (Sum.inr ((Sum.inr ((Sum.inr ((Sum.inr ((Sum.inr (()))))))))))) some) :
    ∀ (m : Nat) (v18 : Int), J φ (loopR (cx C) (evCall (cx C) (n+8)) (evCallY (cx C) (n+8)) (n+8) 17 0 0 1 kx kg kr kp m (St.mk [(1, (A.ptr 0 0)), (2, (iA v17)), (3, (iA v18))] [Blk.box (c_S_State v19)])) kL (F17_17_0 n v17 v19 m v18) K := by
  intro m
  induction m with
  | zero => intros; exact .nn
  | succ m ih =>
    intro v18
    refine .lp (e17_0 ..) ?_
    unfold F17_17_0
    refine .st (v := (bA (decide (v18 < 5)))) (aBin_lss ..) ?_
    refine .biHN (fun hk20 => ?_) (fun hk20 => ?_)
    · refine .s (A.ptr 0 3) ?_
      refine .sp (fun hb21 => ?_) (fun _ => ?_)
      · refine .st (v := (A.ptr 0 3)) (by rw [of_decide_eq_true hb21]; kernel_rfl) ?_
        refine .s (A.agg [(iA v19.Limbs.1.Dir), (iA v19.Limbs.1.Level)]) (.s ((A.ptr 1 0), [Blk.box (c_S_State v19), Blk.box [(iA 0), (iA 0)]]) (.s [Blk.box (c_S_State v19), Blk.box [(iA v19.Limbs.1.Dir), (iA v19.Limbs.1.Level)]] (.s (A.ptr 1 0) (.s (iA v19.Limbs.1.Dir) ?_))))
        refine .st (v := (bA (v19.Limbs.1.Dir == 0))) (aBin_eql ..) ?_
        refine .bg (fun t (y : Bool) => ∃ j24 j25 j26 : A, t = [(bA y), j24, j25, j26]) ?_ ?_
        · refine .biH (fun hk22 => ?_) (fun hk22 => ?_)
          · refine .s (A.ptr 1 1) (.s (iA v19.Limbs.1.Level) ?_)
            refine .st (v := (bA (v19.Limbs.1.Level == 0))) (aBin_eql ..) ?_
            exact .lg ⟨_, _, _, rfl⟩
          exact .lg ⟨_, _, _, rfl⟩
        rintro _ y23 ⟨j24, j25, j26, rfl⟩
        iterate 4 refine .uc ?_
        refine .bg (fun t (y : Bool) => ∃ j36 j37 j38 j39 j40 j41 j42 j43 : A, t = [(bA y), j36, j37, j38, j39, j40, j41, j42, j43]) ?_ ?_
        · refine .biH (fun hk27 => ?_) (fun hk27 => ?_)
          · exact .lg ⟨_, _, _, _, _, _, _, _, rfl⟩
          refine .s (A.ptr 1 0) (.s (iA v19.Limbs.1.Dir) ?_)
          refine .bd (g := fun (y : Bool) => (bA y)) (h30 v19.Limbs.1.Dir 0 8) fun y28 => ?_
          refine .bg (fun t (y : Bool) => ∃ j32 j33 j34 : A, t = [(bA y), j32, j33, j34]) ?_ ?_
          · refine .biH (fun hk29 => ?_) (fun hk29 => ?_)
            · refine .s (A.ptr 1 1) (.s (iA v19.Limbs.1.Level) ?_)
              refine .bd (g := fun (y : Bool) => (bA y)) (h30 v19.Limbs.1.Level 1 3) fun y30 => ?_
              exact .lg ⟨_, _, _, rfl⟩
            exact .lg ⟨_, _, _, rfl⟩
          rintro _ y31 ⟨j32, j33, j34, rfl⟩
          iterate 4 refine .uc ?_
          exact .lg ⟨_, _, _, _, _, _, _, _, rfl⟩
        rintro _ y35 ⟨j36, j37, j38, j39, j40, j41, j42, j43, rfl⟩
        iterate 9 refine .uc ?_
        refine .s (bA (!y35)) ?_
        refine .biHN (fun hk44 => ?_) (fun hk44 => ?_)
        · exact .ex (x0 _ _ _)
        refine .st (v := (iA (wr .i64 (v18 + 1)))) (aBin_add ..) ?_
        refine .s [Blk.box (c_S_State v19)] ?_
        refine .cT (by kernel_rfl) ?_
        exact ih _
      refine .sp (fun hb45 => ?_) (fun _ => ?_)
      · refine .st (v := (A.ptr 0 5)) (by rw [of_decide_eq_true hb45]; kernel_rfl) ?_
        refine .s (A.agg [(iA v19.Limbs.2.1.Dir), (iA v19.Limbs.2.1.Level)]) (.s ((A.ptr 1 0), [Blk.box (c_S_State v19), Blk.box [(iA 0), (iA 0)]]) (.s [Blk.box (c_S_State v19), Blk.box [(iA v19.Limbs.2.1.Dir), (iA v19.Limbs.2.1.Level)]] (.s (A.ptr 1 0) (.s (iA v19.Limbs.2.1.Dir) ?_))))
        refine .st (v := (bA (v19.Limbs.2.1.Dir == 0))) (aBin_eql ..) ?_
        refine .bg (fun t (y : Bool) => ∃ j48 j49 j50 : A, t = [(bA y), j48, j49, j50]) ?_ ?_
        · refine .biH (fun hk46 => ?_) (fun hk46 => ?_)
          · refine .s (A.ptr 1 1) (.s (iA v19.Limbs.2.1.Level) ?_)
            refine .st (v := (bA (v19.Limbs.2.1.Level == 0))) (aBin_eql ..) ?_
            exact .lg ⟨_, _, _, rfl⟩
          exact .lg ⟨_, _, _, rfl⟩
        rintro _ y47 ⟨j48, j49, j50, rfl⟩
        iterate 4 refine .uc ?_
        refine .bg (fun t (y : Bool) => ∃ j60 j61 j62 j63 j64 j65 j66 j67 : A, t = [(bA y), j60, j61, j62, j63, j64, j65, j66, j67]) ?_ ?_
        · refine .biH (fun hk51 => ?_) (fun hk51 => ?_)
          · exact .lg ⟨_, _, _, _, _, _, _, _, rfl⟩
          refine .s (A.ptr 1 0) (.s (iA v19.Limbs.2.1.Dir) ?_)
          refine .bd (g := fun (y : Bool) => (bA y)) (h30 v19.Limbs.2.1.Dir 0 8) fun y52 => ?_
          refine .bg (fun t (y : Bool) => ∃ j56 j57 j58 : A, t = [(bA y), j56, j57, j58]) ?_ ?_
          · refine .biH (fun hk53 => ?_) (fun hk53 => ?_)
            · refine .s (A.ptr 1 1) (.s (iA v19.Limbs.2.1.Level) ?_)
              refine .bd (g := fun (y : Bool) => (bA y)) (h30 v19.Limbs.2.1.Level 1 3) fun y54 => ?_
              exact .lg ⟨_, _, _, rfl⟩
            exact .lg ⟨_, _, _, rfl⟩
          rintro _ y55 ⟨j56, j57, j58, rfl⟩
          iterate 4 refine .uc ?_
          exact .lg ⟨_, _, _, _, _, _, _, _, rfl⟩
        rintro _ y59 ⟨j60, j61, j62, j63, j64, j65, j66, j67, rfl⟩
        iterate 9 refine .uc ?_
        refine .s (bA (!y59)) ?_
        refine .biHN (fun hk68 => ?_) (fun hk68 => ?_)
        · exact .ex (x1 _ _ _)
        refine .st (v := (iA (wr .i64 (v18 + 1)))) (aBin_add ..) ?_
        refine .s [Blk.box (c_S_State v19)] ?_
        refine .cT (by kernel_rfl) ?_
        exact ih _
      refine .sp (fun hb69 => ?_) (fun _ => ?_)
      · refine .st (v := (A.ptr 0 7)) (by rw [of_decide_eq_true hb69]; kernel_rfl) ?_
        refine .s (A.agg [(iA v19.Limbs.2.2.1.Dir), (iA v19.Limbs.2.2.1.Level)]) (.s ((A.ptr 1 0), [Blk.box (c_S_State v19), Blk.box [(iA 0), (iA 0)]]) (.s [Blk.box (c_S_State v19), Blk.box [(iA v19.Limbs.2.2.1.Dir), (iA v19.Limbs.2.2.1.Level)]] (.s (A.ptr 1 0) (.s (iA v19.Limbs.2.2.1.Dir) ?_))))
        refine .st (v := (bA (v19.Limbs.2.2.1.Dir == 0))) (aBin_eql ..) ?_
        refine .bg (fun t (y : Bool) => ∃ j72 j73 j74 : A, t = [(bA y), j72, j73, j74]) ?_ ?_
        · refine .biH (fun hk70 => ?_) (fun hk70 => ?_)
          · refine .s (A.ptr 1 1) (.s (iA v19.Limbs.2.2.1.Level) ?_)
            refine .st (v := (bA (v19.Limbs.2.2.1.Level == 0))) (aBin_eql ..) ?_
            exact .lg ⟨_, _, _, rfl⟩
          exact .lg ⟨_, _, _, rfl⟩
        rintro _ y71 ⟨j72, j73, j74, rfl⟩
        iterate 4 refine .uc ?_
        refine .bg (fun t (y : Bool) => ∃ j84 j85 j86 j87 j88 j89 j90 j91 : A, t = [(bA y), j84, j85, j86, j87, j88, j89, j90, j91]) ?_ ?_
        · refine .biH (fun hk75 => ?_) (fun hk75 => ?_)
          · exact .lg ⟨_, _, _, _, _, _, _, _, rfl⟩
          refine .s (A.ptr 1 0) (.s (iA v19.Limbs.2.2.1.Dir) ?_)
          refine .bd (g := fun (y : Bool) => (bA y)) (h30 v19.Limbs.2.2.1.Dir 0 8) fun y76 => ?_
          refine .bg (fun t (y : Bool) => ∃ j80 j81 j82 : A, t = [(bA y), j80, j81, j82]) ?_ ?_
          · refine .biH (fun hk77 => ?_) (fun hk77 => ?_)
            · refine .s (A.ptr 1 1) (.s (iA v19.Limbs.2.2.1.Level) ?_)
              refine .bd (g := fun (y : Bool) => (bA y)) (h30 v19.Limbs.2.2.1.Level 1 3) fun y78 => ?_
              exact .lg ⟨_, _, _, rfl⟩
            exact .lg ⟨_, _, _, rfl⟩
          rintro _ y79 ⟨j80, j81, j82, rfl⟩
          iterate 4 refine .uc ?_
          exact .lg ⟨_, _, _, _, _, _, _, _, rfl⟩
        rintro _ y83 ⟨j84, j85, j86, j87, j88, j89, j90, j91, rfl⟩
        iterate 9 refine .uc ?_
        refine .s (bA (!y83)) ?_
        refine .biHN (fun hk92 => ?_) (fun hk92 => ?_)
        · exact .ex (x2 _ _ _)
        refine .st (v := (iA (wr .i64 (v18 + 1)))) (aBin_add ..) ?_
        refine .s [Blk.box (c_S_State v19)] ?_
        refine .cT (by kernel_rfl) ?_
        exact ih _
      refine .sp (fun hb93 => ?_) (fun _ => ?_)
      · refine .st (v := (A.ptr 0 9)) (by rw [of_decide_eq_true hb93]; kernel_rfl) ?_
        refine .s (A.agg [(iA v19.Limbs.2.2.2.1.Dir), (iA v19.Limbs.2.2.2.1.Level)]) (.s ((A.ptr 1 0), [Blk.box (c_S_State v19), Blk.box [(iA 0), (iA 0)]]) (.s [Blk.box (c_S_State v19), Blk.box [(iA v19.Limbs.2.2.2.1.Dir), (iA v19.Limbs.2.2.2.1.Level)]] (.s (A.ptr 1 0) (.s (iA v19.Limbs.2.2.2.1.Dir) ?_))))
        refine .st (v := (bA (v19.Limbs.2.2.2.1.Dir == 0))) (aBin_eql ..) ?_
        refine .bg (fun t (y : Bool) => ∃ j96 j97 j98 : A, t = [(bA y), j96, j97, j98]) ?_ ?_
        · refine .biH (fun hk94 => ?_) (fun hk94 => ?_)
          · refine .s (A.ptr 1 1) (.s (iA v19.Limbs.2.2.2.1.Level) ?_)
            refine .st (v := (bA (v19.Limbs.2.2.2.1.Level == 0))) (aBin_eql ..) ?_
            exact .lg ⟨_, _, _, rfl⟩
          exact .lg ⟨_, _, _, rfl⟩
        rintro _ y95 ⟨j96, j97, j98, rfl⟩
        iterate 4 refine .uc ?_
        refine .bg (fun t (y : Bool) => ∃ j108 j109 j110 j111 j112 j113 j114 j115 : A, t = [(bA y), j108, j109, j110, j111, j112, j113, j114, j115]) ?_ ?_
        · refine .biH (fun hk99 => ?_) (fun hk99 => ?_)
          · exact .lg ⟨_, _, _, _, _, _, _, _, rfl⟩
          refine .s (A.ptr 1 0) (.s (iA v19.Limbs.2.2.2.1.Dir) ?_)
          refine .bd (g := fun (y : Bool) => (bA y)) (h30 v19.Limbs.2.2.2.1.Dir 0 8) fun y100 => ?_
          refine .bg (fun t (y : Bool) => ∃ j104 j105 j106 : A, t = [(bA y), j104, j105, j106]) ?_ ?_
          · refine .biH (fun hk101 => ?_) (fun hk101 => ?_)
            · refine .s (A.ptr 1 1) (.s (iA v19.Limbs.2.2.2.1.Level) ?_)
              refine .bd (g := fun (y : Bool) => (bA y)) (h30 v19.Limbs.2.2.2.1.Level 1 3) fun y102 => ?_
              exact .lg ⟨_, _, _, rfl⟩
            exact .lg ⟨_, _, _, rfl⟩
          rintro _ y103 ⟨j104, j105, j106, rfl⟩
          iterate 4 refine .uc ?_
          exact .lg ⟨_, _, _, _, _, _, _, _, rfl⟩
        rintro _ y107 ⟨j108, j109, j110, j111, j112, j113, j114, j115, rfl⟩
        iterate 9 refine .uc ?_
        refine .s (bA (!y107)) ?_
        refine .biHN (fun hk116 => ?_) (fun hk116 => ?_)
        · exact .ex (x3 _ _ _)
        refine .st (v := (iA (wr .i64 (v18 + 1)))) (aBin_add ..) ?_
        refine .s [Blk.box (c_S_State v19)] ?_
        refine .cT (by kernel_rfl) ?_
        exact ih _
      refine .sp (fun hb117 => ?_) (fun _ => ?_)
      · refine .st (v := (A.ptr 0 11)) (by rw [of_decide_eq_true hb117]; kernel_rfl) ?_
        refine .s (A.agg [(iA v19.Limbs.2.2.2.2.Dir), (iA v19.Limbs.2.2.2.2.Level)]) (.s ((A.ptr 1 0), [Blk.box (c_S_State v19), Blk.box [(iA 0), (iA 0)]]) (.s [Blk.box (c_S_State v19), Blk.box [(iA v19.Limbs.2.2.2.2.Dir), (iA v19.Limbs.2.2.2.2.Level)]] (.s (A.ptr 1 0) (.s (iA v19.Limbs.2.2.2.2.Dir) ?_))))
        refine .st (v := (bA (v19.Limbs.2.2.2.2.Dir == 0))) (aBin_eql ..) ?_
        refine .bg (fun t (y : Bool) => ∃ j120 j121 j122 : A, t = [(bA y), j120, j121, j122]) ?_ ?_
        · refine .biH (fun hk118 => ?_) (fun hk118 => ?_)
          · refine .s (A.ptr 1 1) (.s (iA v19.Limbs.2.2.2.2.Level) ?_)
            refine .st (v := (bA (v19.Limbs.2.2.2.2.Level == 0))) (aBin_eql ..) ?_
            exact .lg ⟨_, _, _, rfl⟩
          exact .lg ⟨_, _, _, rfl⟩
        rintro _ y119 ⟨j120, j121, j122, rfl⟩
        iterate 4 refine .uc ?_
        refine .bg (fun t (y : Bool) => ∃ j132 j133 j134 j135 j136 j137 j138 j139 : A, t = [(bA y), j132, j133, j134, j135, j136, j137, j138, j139]) ?_ ?_
        · refine .biH (fun hk123 => ?_) (fun hk123 => ?_)
          · exact .lg ⟨_, _, _, _, _, _, _, _, rfl⟩
          refine .s (A.ptr 1 0) (.s (iA v19.Limbs.2.2.2.2.Dir) ?_)
          refine .bd (g := fun (y : Bool) => (bA y)) (h30 v19.Limbs.2.2.2.2.Dir 0 8) fun y124 => ?_
          refine .bg (fun t (y : Bool) => ∃ j128 j129 j130 : A, t = [(bA y), j128, j129, j130]) ?_ ?_
          · refine .biH (fun hk125 => ?_) (fun hk125 => ?_)
            · refine .s (A.ptr 1 1) (.s (iA v19.Limbs.2.2.2.2.Level) ?_)
              refine .bd (g := fun (y : Bool) => (bA y)) (h30 v19.Limbs.2.2.2.2.Level 1 3) fun y126 => ?_
              exact .lg ⟨_, _, _, rfl⟩
            exact .lg ⟨_, _, _, rfl⟩
          rintro _ y127 ⟨j128, j129, j130, rfl⟩
          iterate 4 refine .uc ?_
          exact .lg ⟨_, _, _, _, _, _, _, _, rfl⟩
        rintro _ y131 ⟨j132, j133, j134, j135, j136, j137, j138, j139, rfl⟩
        iterate 9 refine .uc ?_
        refine .s (bA (!y131)) ?_
        refine .biHN (fun hk140 => ?_) (fun hk140 => ?_)
        · exact .ex (x4 _ _ _)
        refine .st (v := (iA (wr .i64 (v18 + 1)))) (aBin_add ..) ?_
        refine .s [Blk.box (c_S_State v19)] ?_
        refine .cT (by kernel_rfl) ?_
        exact ih _
      exact .nn
    exact .ex (x5 _ _ _)

def F17 (n : Nat) (a0 : S_State) : Option Int :=
  Option.bind (G30 a0.X (-1073741824) 1073741824) fun y1 => Option.bind (bif (!y1) then (some true) else (Option.bind (G30 a0.Y (-1073741824) 1073741824) fun y3 => some (!y3))) fun y4 => Option.bind (bif y4 then (some true) else (Option.bind (G30 a0.Face 0 7) fun y10 => some (!y10))) fun y11 => bif y11 then (some 260) else (Option.bind (F17_17_0 n 0 a0 (n+8) 0) fun o141 => match o141 with | (Sum.inl y142) => some y142 | (Sum.inr ((Sum.inl y145))) => some y145 | (Sum.inr ((Sum.inr ((Sum.inl y148))))) => some y148 | (Sum.inr ((Sum.inr ((Sum.inr ((Sum.inl y151))))))) => some y151 | (Sum.inr ((Sum.inr ((Sum.inr ((Sum.inr ((Sum.inl y154))))))))) => some y154 | (Sum.inr ((Sum.inr ((Sum.inr ((Sum.inr ((Sum.inr _))))))))) => some 0)

theorem T17 (C : Nat → List A → Option A) (n : Nat) (h30 : Orc30 C) (a0 : S_State) : J (fun (o : R) y => ∃ v, o.1 = .ret v ∧ snapE o.2 v = (iA y)) (evCall1 (cx C) (evCall (cx C) (n+8)) (evCallY (cx C) (n+8)) (n+8) 17 [(A.agg (c_S_State a0))] [] 0) some (F17 n a0) some := by
  refine .lp (e17 ..) ?_
  unfold F17
  refine .s ((A.ptr 0 0), [Blk.box (c_S_State a0)]) (.s (A.ptr 0 0) (.s (iA a0.X) ?_))
  refine .bd (g := fun (y : Bool) => (bA y)) (h30 a0.X (-1073741824) 1073741824) fun y1 => ?_
  refine .s (bA (!y1)) ?_
  refine .bg (fun t (y : Bool) => ∃ j5 j6 j7 j8 : A, t = [(bA y), j5, j6, j7, j8]) ?_ ?_
  · refine .biH (fun hk2 => ?_) (fun hk2 => ?_)
    · exact .lg ⟨_, _, _, _, rfl⟩
    refine .s (A.ptr 0 1) (.s (iA a0.Y) ?_)
    refine .bd (g := fun (y : Bool) => (bA y)) (h30 a0.Y (-1073741824) 1073741824) fun y3 => ?_
    refine .s (bA (!y3)) ?_
    exact .lg ⟨_, _, _, _, rfl⟩
  rintro _ y4 ⟨j5, j6, j7, j8, rfl⟩
  iterate 5 refine .uc ?_
  refine .bg (fun t (y : Bool) => ∃ j12 j13 j14 j15 : A, t = [(bA y), j12, j13, j14, j15]) ?_ ?_
  · refine .biH (fun hk9 => ?_) (fun hk9 => ?_)
    · exact .lg ⟨_, _, _, _, rfl⟩
    refine .s (A.ptr 0 2) (.s (iA a0.Face) ?_)
    refine .bd (g := fun (y : Bool) => (bA y)) (h30 a0.Face 0 7) fun y10 => ?_
    refine .s (bA (!y10)) ?_
    exact .lg ⟨_, _, _, _, rfl⟩
  rintro _ y11 ⟨j12, j13, j14, j15, rfl⟩
  iterate 5 refine .uc ?_
  refine .biHN (fun hk16 => ?_) (fun hk16 => ?_)
  · exact .lf rfl rfl ⟨_, rfl, rfl⟩
  refine .as (T17_17_0 C n h30 0 a0 _ _ _ _ ?_ ?_ ?_ ?_ ?_ ?_ _ 0)
  · intro y142 j143 j144
    refine .un rfl ?_
    exact .lf rfl rfl ⟨_, rfl, rfl⟩
  · intro y145 j146 j147
    refine .un rfl ?_
    exact .lf rfl rfl ⟨_, rfl, rfl⟩
  · intro y148 j149 j150
    refine .un rfl ?_
    exact .lf rfl rfl ⟨_, rfl, rfl⟩
  · intro y151 j152 j153
    refine .un rfl ?_
    exact .lf rfl rfl ⟨_, rfl, rfl⟩
  · intro y154 j155 j156
    refine .un rfl ?_
    exact .lf rfl rfl ⟨_, rfl, rfl⟩
  · intro j157 j158 j159
    refine .un rfl ?_
    refine .cT (by kernel_rfl) ?_
    exact .lf rfl rfl ⟨_, rfl, rfl⟩

def G17 (a0 : S_State) : Option Int := F17 fuel0 a0

def Orc17 (C : Nat → List A → Option A) : Prop := ∀ (a0 : S_State), C 17 [(A.agg (c_S_State a0))] = (G17 a0).map fun y => (iA y)

def F51 (n : Nat) (a0 : Int) : Option (Int × Int) :=
  Option.bind (bif (decide (a0 < 0)) then (some true) else (some (decide (8 < a0)))) fun y2 => bif y2 then (some ((0, 150))) else (bif (decide (a0 < 2)) then (some ((a0, 0))) else (some ((wr .i64 (10 - a0), 0))))

theorem T51 (C : Nat → List A → Option A) (n : Nat) (a0 : Int) : J (fun (o : R) y => ∃ v, o.1 = .ret v ∧ snapE o.2 v = (A.tup [(iA y.1), (iA y.2)])) (evCall1 (cx C) (evCall (cx C) (n+8)) (evCallY (cx C) (n+8)) (n+8) 51 [(iA a0)] [] 0) some (F51 n a0) some := by
  refine .lp (e51 ..) ?_
  unfold F51
  refine .st (v := (bA (decide (a0 < 0)))) (aBin_lss ..) ?_
  refine .bg (fun t (y : Bool) => ∃ j3 j4 : A, t = [(bA y), j3, j4]) ?_ ?_
  · refine .biH (fun hk1 => ?_) (fun hk1 => ?_)
    · exact .lg ⟨_, _, rfl⟩
    refine .st (v := (bA (decide (8 < a0)))) (aBin_gtr ..) ?_
    exact .lg ⟨_, _, rfl⟩
  rintro _ y2 ⟨j3, j4, rfl⟩
  iterate 3 refine .uc ?_
  refine .biHN (fun hk5 => ?_) (fun hk5 => ?_)
  · exact .lf rfl rfl ⟨_, rfl, rfl⟩
  refine .st (v := (bA (decide (a0 < 2)))) (aBin_lss ..) ?_
  refine .biHN (fun hk6 => ?_) (fun hk6 => ?_)
  · exact .lf rfl rfl ⟨_, rfl, rfl⟩
  refine .st (v := (iA (wr .i64 (10 - a0)))) (aBin_sub ..) ?_
  exact .lf rfl rfl ⟨_, rfl, rfl⟩

def G51 (a0 : Int) : Option (Int × Int) := F51 fuel0 a0

def Orc51 (C : Nat → List A → Option A) : Prop := ∀ (a0 : Int), C 51 [(iA a0)] = (G51 a0).map fun y => (A.tup [(iA y.1), (iA y.2)])

def F32 (n : Nat) (a0 : S_Limb) : Option S_Limb :=
  Option.bind (G51 a0.Dir) fun y1 => some ((S_Limb.mk y1.1 a0.Level))

theorem T32 (C : Nat → List A → Option A) (n : Nat) (h51 : Orc51 C) (a0 : S_Limb) : J (fun (o : R) y => ∃ v, o.1 = .ret v ∧ snapE o.2 v = (A.agg [(iA y.Dir), (iA y.Level)])) (evCall1 (cx C) (evCall (cx C) (n+8)) (evCallY (cx C) (n+8)) (n+8) 32 [(A.agg [(iA a0.Dir), (iA a0.Level)])] [] 0) some (F32 n a0) some := by
  refine .lp (e32 ..) ?_
  unfold F32
  refine .s ((A.ptr 0 0), [Blk.box [(iA a0.Dir), (iA a0.Level)]]) (.s ((A.ptr 1 0), [Blk.box [(iA a0.Dir), (iA a0.Level)], Blk.box [(iA 0), (iA 0)]]) (.s (A.ptr 0 0) (.s (iA a0.Dir) ?_)))
  refine .bd (g := fun (y : (Int × Int)) => (A.tup [(iA y.1), (iA y.2)])) (h51 a0.Dir) fun y1 => ?_
  refine .s (iA y1.1) (.s (iA y1.2) (.s (A.ptr 0 0) (.s [Blk.box [(iA y1.1), (iA a0.Level)], Blk.box [(iA 0), (iA 0)]] (.s (A.agg [(iA y1.1), (iA a0.Level)]) (.s [Blk.box [(iA y1.1), (iA a0.Level)], Blk.box [(iA y1.1), (iA a0.Level)]] (.s (A.agg [(iA y1.1), (iA a0.Level)]) ?_))))))
  exact .lf rfl rfl ⟨_, rfl, rfl⟩

def G32 (a0 : S_Limb) : Option S_Limb := F32 fuel0 a0

def Orc32 (C : Nat → List A → Option A) : Prop := ∀ (a0 : S_Limb), C 32 [(A.agg [(iA a0.Dir), (iA a0.Level)])] = (G32 a0).map fun y => (A.agg [(iA y.Dir), (iA y.Level)])

def hk15_1 : Blk := Blk.box [(iA 0), (iA 0), (iA 0), (iA 0), (iA 0), (iA 0), (iA 0), (iA 0), (iA 0), (iA 0), (iA 0), (iA 0), (iA 0)]

def hk15_2 (a1 : Int) (a0 : S_State) (y5 : S_Limb) (y6 : S_Limb) (y7 : S_Limb) (y8 : S_Limb) (y9 : S_Limb) : Blk := Blk.box [(iA (wr .i64 ((wr .i64 (29 * a1)) - a0.X))), (iA a0.Y), (iA (Int.tmod (wr .i64 (8 - a0.Face)) 8)), (iA y5.Dir), (iA y5.Level), (iA y6.Dir), (iA y6.Level), (iA y7.Dir), (iA y7.Level), (iA y8.Dir), (iA y8.Level), (iA y9.Dir), (iA y9.Level)]

def F15 (n : Nat) (a0 : S_State) (a1 : Int) : Option (S_State × Int) :=
  Option.bind (G17 a0) fun y1 => bif (y1 != 0) then (some (((S_State.mk 0 0 0 (((S_Limb.mk 0 0), (S_Limb.mk 0 0), (S_Limb.mk 0 0), (S_Limb.mk 0 0), (S_Limb.mk 0 0)))), 260))) else (Option.bind (G30 a1 1 1000) fun y3 => bif (!y3) then (some (((S_State.mk 0 0 0 (((S_Limb.mk 0 0), (S_Limb.mk 0 0), (S_Limb.mk 0 0), (S_Limb.mk 0 0), (S_Limb.mk 0 0)))), 1))) else (Option.bind (G32 a0.Limbs.2.1) fun y5 => Option.bind (G32 a0.Limbs.1) fun y6 => Option.bind (G32 a0.Limbs.2.2.2.1) fun y7 => Option.bind (G32 a0.Limbs.2.2.1) fun y8 => Option.bind (G32 a0.Limbs.2.2.2.2) fun y9 => Option.bind (G17 ((S_State.mk (wr .i64 ((wr .i64 (29 * a1)) - a0.X)) a0.Y (Int.tmod (wr .i64 (8 - a0.Face)) 8) ((y5, y6, y7, y8, y9))))) fun y10 => bif (y10 != 0) then (some (((S_State.mk 0 0 0 (((S_Limb.mk 0 0), (S_Limb.mk 0 0), (S_Limb.mk 0 0), (S_Limb.mk 0 0), (S_Limb.mk 0 0)))), 2))) else (some (((S_State.mk (wr .i64 ((wr .i64 (29 * a1)) - a0.X)) a0.Y (Int.tmod (wr .i64 (8 - a0.Face)) 8) ((y5, y6, y7, y8, y9))), 0)))))

theorem T15 (C : Nat → List A → Option A) (n : Nat) (h17 : Orc17 C) (h30 : Orc30 C) (h32 : Orc32 C) (a0 : S_State) (a1 : Int) : J (fun (o : R) y => ∃ v, o.1 = .ret v ∧ snapE o.2 v = (A.tup [(A.agg [(iA y.1.X), (iA y.1.Y), (iA y.1.Face), (iA y.1.Limbs.1.Dir), (iA y.1.Limbs.1.Level), (iA y.1.Limbs.2.1.Dir), (iA y.1.Limbs.2.1.Level), (iA y.1.Limbs.2.2.1.Dir), (iA y.1.Limbs.2.2.1.Level), (iA y.1.Limbs.2.2.2.1.Dir), (iA y.1.Limbs.2.2.2.1.Level), (iA y.1.Limbs.2.2.2.2.Dir), (iA y.1.Limbs.2.2.2.2.Level)]), (iA y.2)])) (evCall1 (cx C) (evCall (cx C) (n+8)) (evCallY (cx C) (n+8)) (n+8) 15 [(A.agg (c_S_State a0)), (iA a1)] [] 0) some (F15 n a0 a1) some := by
  refine .lp (e15 ..) ?_
  unfold F15
  refine .s ((A.ptr 0 0), [Blk.box (c_S_State a0)]) (.s ((A.ptr 1 0), [Blk.box (c_S_State a0), hk15_1]) (.s (A.agg (c_S_State a0)) ?_))
  refine .bd (g := fun (y : Int) => (iA y)) (h17 a0) fun y1 => ?_
  refine .st (v := (bA (y1 != 0))) (aBin_neq ..) ?_
  refine .biHN (fun hk2 => ?_) (fun hk2 => ?_)
  · refine .s (A.agg [(iA 0), (iA 0), (iA 0), (iA 0), (iA 0), (iA 0), (iA 0), (iA 0), (iA 0), (iA 0), (iA 0), (iA 0), (iA 0)]) (.s [Blk.box (c_S_State a0), hk15_1] (.s (A.agg [(iA 0), (iA 0), (iA 0), (iA 0), (iA 0), (iA 0), (iA 0), (iA 0), (iA 0), (iA 0), (iA 0), (iA 0), (iA 0)]) ?_))
    exact .lf rfl rfl ⟨_, rfl, rfl⟩
  refine .bd (g := fun (y : Bool) => (bA y)) (h30 a1 1 1000) fun y3 => ?_
  refine .s (bA (!y3)) ?_
  refine .biHN (fun hk4 => ?_) (fun hk4 => ?_)
  · refine .s (A.agg [(iA 0), (iA 0), (iA 0), (iA 0), (iA 0), (iA 0), (iA 0), (iA 0), (iA 0), (iA 0), (iA 0), (iA 0), (iA 0)]) (.s [Blk.box (c_S_State a0), hk15_1] (.s (A.agg [(iA 0), (iA 0), (iA 0), (iA 0), (iA 0), (iA 0), (iA 0), (iA 0), (iA 0), (iA 0), (iA 0), (iA 0), (iA 0)]) ?_))
    exact .lf rfl rfl ⟨_, rfl, rfl⟩
  refine .st (v := (iA (wr .i64 (29 * a1)))) (aBin_mul ..) ?_
  refine .s (A.ptr 0 0) (.s (iA a0.X) ?_)
  refine .st (v := (iA (wr .i64 ((wr .i64 (29 * a1)) - a0.X)))) (aBin_sub ..) ?_
  refine .s (A.ptr 0 1) (.s (iA a0.Y) (.s (A.ptr 0 2) (.s (iA a0.Face) ?_)))
  refine .st (v := (iA (wr .i64 (8 - a0.Face)))) (aBin_sub ..) ?_
  refine .st (v := (iA (Int.tmod (wr .i64 (8 - a0.Face)) 8))) (aBin_rem (hb := by decide) ..) ?_
  refine .s (A.agg [(iA (wr .i64 ((wr .i64 (29 * a1)) - a0.X))), (iA a0.Y), (iA (Int.tmod (wr .i64 (8 - a0.Face)) 8)), (iA 0), (iA 0), (iA 0), (iA 0), (iA 0), (iA 0), (iA 0), (iA 0), (iA 0), (iA 0)]) (.s ((A.ptr 2 0), [Blk.box (c_S_State a0), hk15_1, hk15_1]) (.s [Blk.box (c_S_State a0), hk15_1, Blk.box [(iA (wr .i64 ((wr .i64 (29 * a1)) - a0.X))), (iA a0.Y), (iA (Int.tmod (wr .i64 (8 - a0.Face)) 8)), (iA 0), (iA 0), (iA 0), (iA 0), (iA 0), (iA 0), (iA 0), (iA 0), (iA 0), (iA 0)]] (.s (A.ptr 0 3) (.s (A.ptr 0 5) (.s (A.agg [(iA a0.Limbs.2.1.Dir), (iA a0.Limbs.2.1.Level)]) ?_)))))
  refine .bd (g := fun (y : S_Limb) => (A.agg [(iA y.Dir), (iA y.Level)])) (h32 a0.Limbs.2.1) fun y5 => ?_
  refine .s (A.ptr 2 3) (.s (A.ptr 2 3) (.s [Blk.box (c_S_State a0), hk15_1, Blk.box [(iA (wr .i64 ((wr .i64 (29 * a1)) - a0.X))), (iA a0.Y), (iA (Int.tmod (wr .i64 (8 - a0.Face)) 8)), (iA y5.Dir), (iA y5.Level), (iA 0), (iA 0), (iA 0), (iA 0), (iA 0), (iA 0), (iA 0), (iA 0)]] (.s (A.ptr 0 3) (.s (A.ptr 0 3) (.s (A.agg [(iA a0.Limbs.1.Dir), (iA a0.Limbs.1.Level)]) ?_)))))
  refine .bd (g := fun (y : S_Limb) => (A.agg [(iA y.Dir), (iA y.Level)])) (h32 a0.Limbs.1) fun y6 => ?_
  refine .s (A.ptr 2 3) (.s (A.ptr 2 5) (.s [Blk.box (c_S_State a0), hk15_1, Blk.box [(iA (wr .i64 ((wr .i64 (29 * a1)) - a0.X))), (iA a0.Y), (iA (Int.tmod (wr .i64 (8 - a0.Face)) 8)), (iA y5.Dir), (iA y5.Level), (iA y6.Dir), (iA y6.Level), (iA 0), (iA 0), (iA 0), (iA 0), (iA 0), (iA 0)]] (.s (A.ptr 0 3) (.s (A.ptr 0 9) (.s (A.agg [(iA a0.Limbs.2.2.2.1.Dir), (iA a0.Limbs.2.2.2.1.Level)]) ?_)))))
  refine .bd (g := fun (y : S_Limb) => (A.agg [(iA y.Dir), (iA y.Level)])) (h32 a0.Limbs.2.2.2.1) fun y7 => ?_
  refine .s (A.ptr 2 3) (.s (A.ptr 2 7) (.s [Blk.box (c_S_State a0), hk15_1, Blk.box [(iA (wr .i64 ((wr .i64 (29 * a1)) - a0.X))), (iA a0.Y), (iA (Int.tmod (wr .i64 (8 - a0.Face)) 8)), (iA y5.Dir), (iA y5.Level), (iA y6.Dir), (iA y6.Level), (iA y7.Dir), (iA y7.Level), (iA 0), (iA 0), (iA 0), (iA 0)]] (.s (A.ptr 0 3) (.s (A.ptr 0 7) (.s (A.agg [(iA a0.Limbs.2.2.1.Dir), (iA a0.Limbs.2.2.1.Level)]) ?_)))))
  refine .bd (g := fun (y : S_Limb) => (A.agg [(iA y.Dir), (iA y.Level)])) (h32 a0.Limbs.2.2.1) fun y8 => ?_
  refine .s (A.ptr 2 3) (.s (A.ptr 2 9) (.s [Blk.box (c_S_State a0), hk15_1, Blk.box [(iA (wr .i64 ((wr .i64 (29 * a1)) - a0.X))), (iA a0.Y), (iA (Int.tmod (wr .i64 (8 - a0.Face)) 8)), (iA y5.Dir), (iA y5.Level), (iA y6.Dir), (iA y6.Level), (iA y7.Dir), (iA y7.Level), (iA y8.Dir), (iA y8.Level), (iA 0), (iA 0)]] (.s (A.ptr 0 3) (.s (A.ptr 0 11) (.s (A.agg [(iA a0.Limbs.2.2.2.2.Dir), (iA a0.Limbs.2.2.2.2.Level)]) ?_)))))
  refine .bd (g := fun (y : S_Limb) => (A.agg [(iA y.Dir), (iA y.Level)])) (h32 a0.Limbs.2.2.2.2) fun y9 => ?_
  refine .s (A.ptr 2 3) (.s (A.ptr 2 11) (.s [Blk.box (c_S_State a0), hk15_1, (hk15_2 a1 a0 y5 y6 y7 y8 y9)] (.s (A.agg [(iA (wr .i64 ((wr .i64 (29 * a1)) - a0.X))), (iA a0.Y), (iA (Int.tmod (wr .i64 (8 - a0.Face)) 8)), (iA y5.Dir), (iA y5.Level), (iA y6.Dir), (iA y6.Level), (iA y7.Dir), (iA y7.Level), (iA y8.Dir), (iA y8.Level), (iA y9.Dir), (iA y9.Level)]) ?_)))
  refine .bd (g := fun (y : Int) => (iA y)) (h17 ((S_State.mk (wr .i64 ((wr .i64 (29 * a1)) - a0.X)) a0.Y (Int.tmod (wr .i64 (8 - a0.Face)) 8) ((y5, y6, y7, y8, y9))))) fun y10 => ?_
  refine .st (v := (bA (y10 != 0))) (aBin_neq ..) ?_
  refine .biHN (fun hk11 => ?_) (fun hk11 => ?_)
  · refine .s (A.agg [(iA 0), (iA 0), (iA 0), (iA 0), (iA 0), (iA 0), (iA 0), (iA 0), (iA 0), (iA 0), (iA 0), (iA 0), (iA 0)]) (.s [Blk.box (c_S_State a0), hk15_1, (hk15_2 a1 a0 y5 y6 y7 y8 y9)] (.s (A.agg [(iA 0), (iA 0), (iA 0), (iA 0), (iA 0), (iA 0), (iA 0), (iA 0), (iA 0), (iA 0), (iA 0), (iA 0), (iA 0)]) ?_))
    exact .lf rfl rfl ⟨_, rfl, rfl⟩
  refine .s (A.agg [(iA (wr .i64 ((wr .i64 (29 * a1)) - a0.X))), (iA a0.Y), (iA (Int.tmod (wr .i64 (8 - a0.Face)) 8)), (iA y5.Dir), (iA y5.Level), (iA y6.Dir), (iA y6.Level), (iA y7.Dir), (iA y7.Level), (iA y8.Dir), (iA y8.Level), (iA y9.Dir), (iA y9.Level)]) (.s [Blk.box (c_S_State a0), (hk15_2 a1 a0 y5 y6 y7 y8 y9), (hk15_2 a1 a0 y5 y6 y7 y8 y9)] (.s (A.agg [(iA (wr .i64 ((wr .i64 (29 * a1)) - a0.X))), (iA a0.Y), (iA (Int.tmod (wr .i64 (8 - a0.Face)) 8)), (iA y5.Dir), (iA y5.Level), (iA y6.Dir), (iA y6.Level), (iA y7.Dir), (iA y7.Level), (iA y8.Dir), (iA y8.Level), (iA y9.Dir), (iA y9.Level)]) ?_))
  exact .lf rfl rfl ⟨_, rfl, rfl⟩

def G15 (a0 : S_State) (a1 : Int) : Option (S_State × Int) := F15 fuel0 a0 a1

def Orc15 (C : Nat → List A → Option A) : Prop := ∀ (a0 : S_State) (a1 : Int), C 15 [(A.agg (c_S_State a0)), (iA a1)] = (G15 a0 a1).map fun y => (A.tup [(A.agg [(iA y.1.X), (iA y.1.Y), (iA y.1.Face), (iA y.1.Limbs.1.Dir), (iA y.1.Limbs.1.Level), (iA y.1.Limbs.2.1.Dir), (iA y.1.Limbs.2.1.Level), (iA y.1.Limbs.2.2.1.Dir), (iA y.1.Limbs.2.2.1.Level), (iA y.1.Limbs.2.2.2.1.Dir), (iA y.1.Limbs.2.2.2.1.Level), (iA y.1.Limbs.2.2.2.2.Dir), (iA y.1.Limbs.2.2.2.2.Level)]), (iA y.2)])

def F3 (n : Nat) (a0 : S_State) (a1 : S_Role) (a2 : Int) : Option Bool :=
  Option.bind (G11 ) fun y1 => bif (!y1) then (some false) else (Option.bind (G12 a1) fun y3 => Option.bind (G13 a1) fun y4 => Option.bind (G14 a0 a2) fun y5 => Option.bind (G15 a0 a2) fun y6 => Option.bind (G16 a0) fun y7 => Option.bind (G17 a0) fun y8 => Option.bind (bif (y7 == y8) then (some (((y3.1.X == y4.1.X) && ((y3.1.Y == y4.1.Y) && ((y3.1.Face == y4.1.Face) && (((y3.1.Limbs.1.Dir == y4.1.Limbs.1.Dir) && (y3.1.Limbs.1.Level == y4.1.Limbs.1.Level)) && (((y3.1.Limbs.2.1.Dir == y4.1.Limbs.2.1.Dir) && (y3.1.Limbs.2.1.Level == y4.1.Limbs.2.1.Level)) && (((y3.1.Limbs.2.2.1.Dir == y4.1.Limbs.2.2.1.Dir) && (y3.1.Limbs.2.2.1.Level == y4.1.Limbs.2.2.1.Level)) && (((y3.1.Limbs.2.2.2.1.Dir == y4.1.Limbs.2.2.2.1.Dir) && (y3.1.Limbs.2.2.2.1.Level == y4.1.Limbs.2.2.2.1.Level)) && ((y3.1.Limbs.2.2.2.2.Dir == y4.1.Limbs.2.2.2.2.Dir) && (y3.1.Limbs.2.2.2.2.Level == y4.1.Limbs.2.2.2.2.Level))))))))))) else (some false)) fun y10 => Option.bind (bif y10 then (some (y3.2 == y4.2)) else (some false)) fun y15 => Option.bind (bif y15 then (some (((y5.1.X == y6.1.X) && ((y5.1.Y == y6.1.Y) && ((y5.1.Face == y6.1.Face) && (((y5.1.Limbs.1.Dir == y6.1.Limbs.1.Dir) && (y5.1.Limbs.1.Level == y6.1.Limbs.1.Level)) && (((y5.1.Limbs.2.1.Dir == y6.1.Limbs.2.1.Dir) && (y5.1.Limbs.2.1.Level == y6.1.Limbs.2.1.Level)) && (((y5.1.Limbs.2.2.1.Dir == y6.1.Limbs.2.2.1.Dir) && (y5.1.Limbs.2.2.1.Level == y6.1.Limbs.2.2.1.Level)) && (((y5.1.Limbs.2.2.2.1.Dir == y6.1.Limbs.2.2.2.1.Dir) && (y5.1.Limbs.2.2.2.1.Level == y6.1.Limbs.2.2.2.1.Level)) && ((y5.1.Limbs.2.2.2.2.Dir == y6.1.Limbs.2.2.2.2.Dir) && (y5.1.Limbs.2.2.2.2.Level == y6.1.Limbs.2.2.2.2.Level))))))))))) else (some false)) fun y20 => bif y20 then (Option.bind (some (y5.2 == y6.2)) fun y25 => some y25) else (Option.bind (some false) fun y27 => some y27))

theorem T3 (C : Nat → List A → Option A) (n : Nat) (h11 : Orc11 C) (h12 : Orc12 C) (h13 : Orc13 C) (h14 : Orc14 C) (h15 : Orc15 C) (h16 : Orc16 C) (h17 : Orc17 C) (a0 : S_State) (a1 : S_Role) (a2 : Int) : J (fun (o : R) y => ∃ v, o.1 = .ret v ∧ snapE o.2 v = (bA y)) (evCall1 (cx C) (evCall (cx C) (n+8)) (evCallY (cx C) (n+8)) (n+8) 3 [(A.agg (c_S_State a0)), (A.agg (c_S_Role a1)), (iA a2)] [] 0) some (F3 n a0 a1 a2) some := by
  refine .lp (e3 ..) ?_
  unfold F3
  refine .s ((A.ptr 0 0), [Blk.box (c_S_State a0)]) (.s ((A.ptr 1 0), [Blk.box (c_S_State a0), Blk.box (c_S_Role a1)]) ?_)
  refine .bd (g := fun (y : Bool) => (bA y)) (h11 ()) fun y1 => ?_
  refine .s (bA (!y1)) ?_
  refine .biHN (fun hk2 => ?_) (fun hk2 => ?_)
  · exact .lf rfl rfl ⟨_, rfl, rfl⟩
  refine .s (A.agg (c_S_Role a1)) ?_
  refine .bd (g := fun (y : (S_State × Int)) => (A.tup [(A.agg [(iA y.1.X), (iA y.1.Y), (iA y.1.Face), (iA y.1.Limbs.1.Dir), (iA y.1.Limbs.1.Level), (iA y.1.Limbs.2.1.Dir), (iA y.1.Limbs.2.1.Level), (iA y.1.Limbs.2.2.1.Dir), (iA y.1.Limbs.2.2.1.Level), (iA y.1.Limbs.2.2.2.1.Dir), (iA y.1.Limbs.2.2.2.1.Level), (iA y.1.Limbs.2.2.2.2.Dir), (iA y.1.Limbs.2.2.2.2.Level)]), (iA y.2)])) (h12 a1) fun y3 => ?_
  refine .s (A.agg (c_S_State y3.1)) (.s (iA y3.2) (.s ((A.ptr 2 0), [Blk.box (c_S_State a0), Blk.box (c_S_Role a1), Blk.box [(iA 0), (iA 0), (iA 0), (iA 0), (iA 0), (iA 0), (iA 0), (iA 0), (iA 0), (iA 0), (iA 0), (iA 0), (iA 0)]]) (.s [Blk.box (c_S_State a0), Blk.box (c_S_Role a1), Blk.box (c_S_State y3.1)] (.s (A.agg (c_S_Role a1)) ?_))))
  refine .bd (g := fun (y : (S_State × Int)) => (A.tup [(A.agg [(iA y.1.X), (iA y.1.Y), (iA y.1.Face), (iA y.1.Limbs.1.Dir), (iA y.1.Limbs.1.Level), (iA y.1.Limbs.2.1.Dir), (iA y.1.Limbs.2.1.Level), (iA y.1.Limbs.2.2.1.Dir), (iA y.1.Limbs.2.2.1.Level), (iA y.1.Limbs.2.2.2.1.Dir), (iA y.1.Limbs.2.2.2.1.Level), (iA y.1.Limbs.2.2.2.2.Dir), (iA y.1.Limbs.2.2.2.2.Level)]), (iA y.2)])) (h13 a1) fun y4 => ?_
  refine .s (A.agg (c_S_State y4.1)) (.s (iA y4.2) (.s ((A.ptr 3 0), [Blk.box (c_S_State a0), Blk.box (c_S_Role a1), Blk.box (c_S_State y3.1), Blk.box [(iA 0), (iA 0), (iA 0), (iA 0), (iA 0), (iA 0), (iA 0), (iA 0), (iA 0), (iA 0), (iA 0), (iA 0), (iA 0)]]) (.s [Blk.box (c_S_State a0), Blk.box (c_S_Role a1), Blk.box (c_S_State y3.1), Blk.box (c_S_State y4.1)] (.s (A.agg (c_S_State a0)) ?_))))
  refine .bd (g := fun (y : (S_State × Int)) => (A.tup [(A.agg [(iA y.1.X), (iA y.1.Y), (iA y.1.Face), (iA y.1.Limbs.1.Dir), (iA y.1.Limbs.1.Level), (iA y.1.Limbs.2.1.Dir), (iA y.1.Limbs.2.1.Level), (iA y.1.Limbs.2.2.1.Dir), (iA y.1.Limbs.2.2.1.Level), (iA y.1.Limbs.2.2.2.1.Dir), (iA y.1.Limbs.2.2.2.1.Level), (iA y.1.Limbs.2.2.2.2.Dir), (iA y.1.Limbs.2.2.2.2.Level)]), (iA y.2)])) (h14 a0 a2) fun y5 => ?_
  refine .s (A.agg (c_S_State y5.1)) (.s (iA y5.2) (.s ((A.ptr 4 0), [Blk.box (c_S_State a0), Blk.box (c_S_Role a1), Blk.box (c_S_State y3.1), Blk.box (c_S_State y4.1), Blk.box [(iA 0), (iA 0), (iA 0), (iA 0), (iA 0), (iA 0), (iA 0), (iA 0), (iA 0), (iA 0), (iA 0), (iA 0), (iA 0)]]) (.s [Blk.box (c_S_State a0), Blk.box (c_S_Role a1), Blk.box (c_S_State y3.1), Blk.box (c_S_State y4.1), Blk.box (c_S_State y5.1)] (.s (A.agg (c_S_State a0)) ?_))))
  refine .bd (g := fun (y : (S_State × Int)) => (A.tup [(A.agg [(iA y.1.X), (iA y.1.Y), (iA y.1.Face), (iA y.1.Limbs.1.Dir), (iA y.1.Limbs.1.Level), (iA y.1.Limbs.2.1.Dir), (iA y.1.Limbs.2.1.Level), (iA y.1.Limbs.2.2.1.Dir), (iA y.1.Limbs.2.2.1.Level), (iA y.1.Limbs.2.2.2.1.Dir), (iA y.1.Limbs.2.2.2.1.Level), (iA y.1.Limbs.2.2.2.2.Dir), (iA y.1.Limbs.2.2.2.2.Level)]), (iA y.2)])) (h15 a0 a2) fun y6 => ?_
  refine .s (A.agg (c_S_State y6.1)) (.s (iA y6.2) (.s ((A.ptr 5 0), [Blk.box (c_S_State a0), Blk.box (c_S_Role a1), Blk.box (c_S_State y3.1), Blk.box (c_S_State y4.1), Blk.box (c_S_State y5.1), Blk.box [(iA 0), (iA 0), (iA 0), (iA 0), (iA 0), (iA 0), (iA 0), (iA 0), (iA 0), (iA 0), (iA 0), (iA 0), (iA 0)]]) (.s [Blk.box (c_S_State a0), Blk.box (c_S_Role a1), Blk.box (c_S_State y3.1), Blk.box (c_S_State y4.1), Blk.box (c_S_State y5.1), Blk.box (c_S_State y6.1)] (.s (A.agg (c_S_State a0)) ?_))))
  refine .bd (g := fun (y : Int) => (iA y)) (h16 a0) fun y7 => ?_
  refine .s (A.agg (c_S_State a0)) ?_
  refine .bd (g := fun (y : Int) => (iA y)) (h17 a0) fun y8 => ?_
  refine .st (v := (bA (y7 == y8))) (aBin_eql ..) ?_
  refine .bg (fun t (y : Bool) => ∃ j11 j12 j13 : A, t = [(bA y), j11, j12, j13]) ?_ ?_
  · refine .biH (fun hk9 => ?_) (fun hk9 => ?_)
    · refine .s (A.agg (c_S_State y3.1)) (.s (A.agg (c_S_State y4.1)) (.s (bA (((y3.1.X == y4.1.X) && ((y3.1.Y == y4.1.Y) && ((y3.1.Face == y4.1.Face) && (((y3.1.Limbs.1.Dir == y4.1.Limbs.1.Dir) && (y3.1.Limbs.1.Level == y4.1.Limbs.1.Level)) && (((y3.1.Limbs.2.1.Dir == y4.1.Limbs.2.1.Dir) && (y3.1.Limbs.2.1.Level == y4.1.Limbs.2.1.Level)) && (((y3.1.Limbs.2.2.1.Dir == y4.1.Limbs.2.2.1.Dir) && (y3.1.Limbs.2.2.1.Level == y4.1.Limbs.2.2.1.Level)) && (((y3.1.Limbs.2.2.2.1.Dir == y4.1.Limbs.2.2.2.1.Dir) && (y3.1.Limbs.2.2.2.1.Level == y4.1.Limbs.2.2.2.1.Level)) && ((y3.1.Limbs.2.2.2.2.Dir == y4.1.Limbs.2.2.2.2.Dir) && (y3.1.Limbs.2.2.2.2.Level == y4.1.Limbs.2.2.2.2.Level))))))))))) ?_))
      exact .lg ⟨_, _, _, rfl⟩
    exact .lg ⟨_, _, _, rfl⟩
  rintro _ y10 ⟨j11, j12, j13, rfl⟩
  iterate 4 refine .uc ?_
  refine .bg (fun t (y : Bool) => ∃ j16 j17 j18 : A, t = [(bA y), j16, j17, j18]) ?_ ?_
  · refine .biH (fun hk14 => ?_) (fun hk14 => ?_)
    · refine .st (v := (bA (y3.2 == y4.2))) (aBin_eql ..) ?_
      exact .lg ⟨_, _, _, rfl⟩
    exact .lg ⟨_, _, _, rfl⟩
  rintro _ y15 ⟨j16, j17, j18, rfl⟩
  iterate 4 refine .uc ?_
  refine .bg (fun t (y : Bool) => ∃ j21 j22 j23 : A, t = [(bA y), j21, j22, j23]) ?_ ?_
  · refine .biH (fun hk19 => ?_) (fun hk19 => ?_)
    · refine .s (A.agg (c_S_State y5.1)) (.s (A.agg (c_S_State y6.1)) (.s (bA (((y5.1.X == y6.1.X) && ((y5.1.Y == y6.1.Y) && ((y5.1.Face == y6.1.Face) && (((y5.1.Limbs.1.Dir == y6.1.Limbs.1.Dir) && (y5.1.Limbs.1.Level == y6.1.Limbs.1.Level)) && (((y5.1.Limbs.2.1.Dir == y6.1.Limbs.2.1.Dir) && (y5.1.Limbs.2.1.Level == y6.1.Limbs.2.1.Level)) && (((y5.1.Limbs.2.2.1.Dir == y6.1.Limbs.2.2.1.Dir) && (y5.1.Limbs.2.2.1.Level == y6.1.Limbs.2.2.1.Level)) && (((y5.1.Limbs.2.2.2.1.Dir == y6.1.Limbs.2.2.2.1.Dir) && (y5.1.Limbs.2.2.2.1.Level == y6.1.Limbs.2.2.2.1.Level)) && ((y5.1.Limbs.2.2.2.2.Dir == y6.1.Limbs.2.2.2.2.Dir) && (y5.1.Limbs.2.2.2.2.Level == y6.1.Limbs.2.2.2.2.Level))))))))))) ?_))
      exact .lg ⟨_, _, _, rfl⟩
    exact .lg ⟨_, _, _, rfl⟩
  rintro _ y20 ⟨j21, j22, j23, rfl⟩
  iterate 4 refine .uc ?_
  refine .gst (fun hc24 => ?_) (fun hc24 => ?_)
  · refine .bb ?_
    refine .cr ?_
    iterate 2 refine .uc ?_
    refine .bg (fun t (y : Bool) => ∃ j26 : A, t = [(bA y), j26]) ?_ ?_
    · refine .bKT hc24 ?_
      refine .st (v := (bA (y5.2 == y6.2))) (aBin_eql ..) ?_
      exact .lg ⟨_, rfl⟩
    rintro _ y25 ⟨j26, rfl⟩
    iterate 2 refine .uc ?_
    exact .lf rfl rfl ⟨_, rfl, rfl⟩
  refine .bb ?_
  refine .cr ?_
  iterate 2 refine .uc ?_
  refine .bg (fun t (y : Bool) => ∃ j28 : A, t = [(bA y), j28]) ?_ ?_
  · refine .bKF hc24 ?_
    exact .lg ⟨_, rfl⟩
  rintro _ y27 ⟨j28, rfl⟩
  iterate 2 refine .uc ?_
  exact .lf rfl rfl ⟨_, rfl, rfl⟩

def G3 (a0 : S_State) (a1 : S_Role) (a2 : Int) : Option Bool := F3 fuel0 a0 a1 a2

def Orc3 (C : Nat → List A → Option A) : Prop := ∀ (a0 : S_State) (a1 : S_Role) (a2 : Int), C 3 [(A.agg (c_S_State a0)), (A.agg (c_S_Role a1)), (iA a2)] = (G3 a0 a1 a2).map fun y => (bA y)
end Go.Proofs.YtooamdacfhfjoaaDoor
