/-
  The program's functions as plain functions: by a tool; each follows the interpreter.
-/
import Derived.Test.YtooamdacfhfjoaaDoorT3
import Derived.KernelRfl
namespace Go.Proofs.YtooamdacfhfjoaaDoor
set_option linter.unusedVariables false
set_option linter.unusedSimpArgs false
set_option maxHeartbeats 4000000
set_option maxRecDepth 100000
def F8_8_0 (n : Nat) (v53 : S_State) (v54 : S_Sign) (v55 : S_Real) (v56 : S_State) : Nat → Bool → Int → Option ((Bool) ⊕ ((Bool × Int × Int) ⊕ ((Bool) ⊕ ((Bool) ⊕ ((Bool) ⊕ ((Bool) ⊕ ((Bool) ⊕ (Unit))))))))
  | 0, _, _ => none
  | m + 1, v51, v52 => bif (decide (v52 < 5)) then (Option.bind (bif (v52 == 2) then (some true) else (some (v52 == 3))) fun y59 => Option.bind (bif (v54.Kind == 1) then (Option.bind (bif (decide (v52 < 2)) then (some (v54.Side == (wr .i64 ((Int.tmod v52 2) + 1)))) else (some false)) fun y64 => some ((v51, v52, y64, v52))) else (bif (v54.Kind == 3) then (Option.bind (bif (decide (v52 < 2)) then (some (v54.Side == (wr .i64 ((Int.tmod v52 2) + 1)))) else (some false)) fun y68 => some ((v51, v52, y68, v52))) else (bif (v54.Kind == 2) then (some ((v51, v52, decide (v52 < 2), v52))) else (bif (v54.Kind == 8) then (some ((v51, v52, decide (v52 < 2), v52))) else (bif (v54.Kind == 4) then (Option.bind (bif y59 then (some (v54.Side == (wr .i64 ((Int.tmod v52 2) + 1)))) else (some false)) fun y74 => some ((v51, v52, y74, v52))) else (bif (v54.Kind == 9) then (Option.bind (bif y59 then (some (v54.Side == (wr .i64 ((Int.tmod v52 2) + 1)))) else (some false)) fun y78 => some ((v51, v52, y78, v52))) else (bif (v54.Kind == 7) then (some ((v51, v52, y59, v52))) else (bif (v54.Kind == 5) then (some ((v51, v52, v52 == 4, v52))) else (some ((v51, v52, false, v52))))))))))) fun y82 => bif decide (y82.2.1 = 0) then (Option.bind (bif y82.2.2.1 then (some (!v55.Drop)) else (some false)) fun y85 => bif y85 then (Option.bind (bif (v54.Kind == 3) then (some true) else (some (v54.Kind == 4))) fun y91 => Option.bind (bif y91 then (some true) else (some (v54.Kind == 5))) fun y96 => bif y96 then (bif (!((v56.Limbs.1.Dir == v55.Dir) && (v56.Limbs.1.Level == v55.Level))) then (some ((Sum.inl false))) else (F8_8_0 n v53 v54 v55 v56 m y82.1 (wr .i64 (y82.2.2.2 + 1)))) else (bif (!((v56.Limbs.1.Dir == 0) && (v56.Limbs.1.Level == 0))) then (some ((Sum.inr ((Sum.inl ((false, 0, 0))))))) else (F8_8_0 n v53 v54 v55 v56 m y82.1 (wr .i64 (y82.2.2.2 + 1))))) else (bif (!((v56.Limbs.1.Dir == v53.Limbs.1.Dir) && (v56.Limbs.1.Level == v53.Limbs.1.Level))) then (some ((Sum.inr ((Sum.inr ((Sum.inl false))))))) else (F8_8_0 n v53 v54 v55 v56 m y82.1 (wr .i64 (y82.2.2.2 + 1))))) else bif decide (y82.2.1 = 1) then (Option.bind (bif y82.2.2.1 then (some (!v55.Drop)) else (some false)) fun y106 => bif y106 then (Option.bind (bif (v54.Kind == 3) then (some true) else (some (v54.Kind == 4))) fun y112 => Option.bind (bif y112 then (some true) else (some (v54.Kind == 5))) fun y117 => bif y117 then (bif (!((v56.Limbs.2.1.Dir == v55.Dir) && (v56.Limbs.2.1.Level == v55.Level))) then (some ((Sum.inl false))) else (F8_8_0 n v53 v54 v55 v56 m y82.1 (wr .i64 (y82.2.2.2 + 1)))) else (bif (!((v56.Limbs.2.1.Dir == 0) && (v56.Limbs.2.1.Level == 0))) then (some ((Sum.inr ((Sum.inl ((false, 0, 0))))))) else (F8_8_0 n v53 v54 v55 v56 m y82.1 (wr .i64 (y82.2.2.2 + 1))))) else (bif (!((v56.Limbs.2.1.Dir == v53.Limbs.2.1.Dir) && (v56.Limbs.2.1.Level == v53.Limbs.2.1.Level))) then (some ((Sum.inr ((Sum.inr ((Sum.inr ((Sum.inl false))))))))) else (F8_8_0 n v53 v54 v55 v56 m y82.1 (wr .i64 (y82.2.2.2 + 1))))) else bif decide (y82.2.1 = 2) then (Option.bind (bif y82.2.2.1 then (some (!v55.Drop)) else (some false)) fun y127 => bif y127 then (Option.bind (bif (v54.Kind == 3) then (some true) else (some (v54.Kind == 4))) fun y133 => Option.bind (bif y133 then (some true) else (some (v54.Kind == 5))) fun y138 => bif y138 then (bif (!((v56.Limbs.2.2.1.Dir == v55.Dir) && (v56.Limbs.2.2.1.Level == v55.Level))) then (some ((Sum.inl false))) else (F8_8_0 n v53 v54 v55 v56 m y82.1 (wr .i64 (y82.2.2.2 + 1)))) else (bif (!((v56.Limbs.2.2.1.Dir == 0) && (v56.Limbs.2.2.1.Level == 0))) then (some ((Sum.inr ((Sum.inl ((false, 0, 0))))))) else (F8_8_0 n v53 v54 v55 v56 m y82.1 (wr .i64 (y82.2.2.2 + 1))))) else (bif (!((v56.Limbs.2.2.1.Dir == v53.Limbs.2.2.1.Dir) && (v56.Limbs.2.2.1.Level == v53.Limbs.2.2.1.Level))) then (some ((Sum.inr ((Sum.inr ((Sum.inr ((Sum.inr ((Sum.inl false))))))))))) else (F8_8_0 n v53 v54 v55 v56 m y82.1 (wr .i64 (y82.2.2.2 + 1))))) else bif decide (y82.2.1 = 3) then (Option.bind (bif y82.2.2.1 then (some (!v55.Drop)) else (some false)) fun y148 => bif y148 then (Option.bind (bif (v54.Kind == 3) then (some true) else (some (v54.Kind == 4))) fun y154 => Option.bind (bif y154 then (some true) else (some (v54.Kind == 5))) fun y159 => bif y159 then (bif (!((v56.Limbs.2.2.2.1.Dir == v55.Dir) && (v56.Limbs.2.2.2.1.Level == v55.Level))) then (some ((Sum.inl false))) else (F8_8_0 n v53 v54 v55 v56 m y82.1 (wr .i64 (y82.2.2.2 + 1)))) else (bif (!((v56.Limbs.2.2.2.1.Dir == 0) && (v56.Limbs.2.2.2.1.Level == 0))) then (some ((Sum.inr ((Sum.inl ((false, 0, 0))))))) else (F8_8_0 n v53 v54 v55 v56 m y82.1 (wr .i64 (y82.2.2.2 + 1))))) else (bif (!((v56.Limbs.2.2.2.1.Dir == v53.Limbs.2.2.2.1.Dir) && (v56.Limbs.2.2.2.1.Level == v53.Limbs.2.2.2.1.Level))) then (some ((Sum.inr ((Sum.inr ((Sum.inr ((Sum.inr ((Sum.inr ((Sum.inl false))))))))))))) else (F8_8_0 n v53 v54 v55 v56 m y82.1 (wr .i64 (y82.2.2.2 + 1))))) else bif decide (y82.2.1 = 4) then (Option.bind (bif y82.2.2.1 then (some (!v55.Drop)) else (some false)) fun y169 => bif y169 then (Option.bind (bif (v54.Kind == 3) then (some true) else (some (v54.Kind == 4))) fun y175 => Option.bind (bif y175 then (some true) else (some (v54.Kind == 5))) fun y180 => bif y180 then (bif (!((v56.Limbs.2.2.2.2.Dir == v55.Dir) && (v56.Limbs.2.2.2.2.Level == v55.Level))) then (some ((Sum.inl false))) else (F8_8_0 n v53 v54 v55 v56 m y82.1 (wr .i64 (y82.2.2.2 + 1)))) else (bif (!((v56.Limbs.2.2.2.2.Dir == 0) && (v56.Limbs.2.2.2.2.Level == 0))) then (some ((Sum.inr ((Sum.inl ((false, 0, 0))))))) else (F8_8_0 n v53 v54 v55 v56 m y82.1 (wr .i64 (y82.2.2.2 + 1))))) else (bif (!((v56.Limbs.2.2.2.2.Dir == v53.Limbs.2.2.2.2.Dir) && (v56.Limbs.2.2.2.2.Level == v53.Limbs.2.2.2.2.Level))) then (some ((Sum.inr ((Sum.inr ((Sum.inr ((Sum.inr ((Sum.inr ((Sum.inr ((Sum.inl false))))))))))))))) else (F8_8_0 n v53 v54 v55 v56 m y82.1 (wr .i64 (y82.2.2.2 + 1))))) else none) else (some ((Sum.inr ((Sum.inr ((Sum.inr ((Sum.inr ((Sum.inr ((Sum.inr ((Sum.inr (()))))))))))))))))
theorem T8_8_0 (C : Nat → List A → Option A) (n : Nat) (h11 : Orc11 C) (h18 : Orc18 C) (v53 : S_State) (v54 : S_Sign) (v55 : S_Real) (v56 : S_State) {ρ γ : Type} {φ : ρ → γ → Prop} {kL : R → Option ρ} {K : ((Bool) ⊕ ((Bool × Int × Int) ⊕ ((Bool) ⊕ ((Bool) ⊕ ((Bool) ⊕ ((Bool) ⊕ ((Bool) ⊕ (Unit)))))))) → Option γ} (kx kg : Nat → St → Option R) (kr : St → Option R) (kp : A → St → Option R) (x0 : ∀ (o0 : Bool) (s3 : A) (s4 : A) (s5 : A) (s7 : A) (s60 : A), J φ (kr (St.mk [(3, s3), (4, s4), (5, s5), (6, (bA o0)), (7, s7), (60, s60)] [Blk.box (c_S_State v53), Blk.box (c_S_Sign v54), Blk.box (c_S_Real v55), Blk.box (c_S_State v56), Blk.box [(iA v55.Dir), (iA v55.Level)]])) kL (K (Sum.inl o0)) some) (x1 : ∀ (o0 : Bool) (o1 : Int) (o2 : Int) (s3 : A) (s4 : A) (s5 : A) (s7 : A) (s60 : A), J φ (kr (St.mk [(3, s3), (4, s4), (5, s5), (6, (bA o0)), (7, s7), (60, s60)] [Blk.box (c_S_State v53), Blk.box (c_S_Sign v54), Blk.box (c_S_Real v55), Blk.box (c_S_State v56), Blk.box [(iA o1), (iA o2)]])) kL (K (Sum.inr ((Sum.inl ((o0, o1, o2)))))) some) (x2 : ∀ (o0 : Bool) (s3 : A) (s4 : A) (s5 : A) (s7 : A) (s60 : A), J φ (kr (St.mk [(3, s3), (4, s4), (5, s5), (6, (bA o0)), (7, s7), (60, s60)] [Blk.box (c_S_State v53), Blk.box (c_S_Sign v54), Blk.box (c_S_Real v55), Blk.box (c_S_State v56), Blk.box [(iA v53.Limbs.1.Dir), (iA v53.Limbs.1.Level)]])) kL (K (Sum.inr ((Sum.inr ((Sum.inl o0)))))) some) (x3 : ∀ (o0 : Bool) (s3 : A) (s4 : A) (s5 : A) (s7 : A) (s60 : A), J φ (kr (St.mk [(3, s3), (4, s4), (5, s5), (6, (bA o0)), (7, s7), (60, s60)] [Blk.box (c_S_State v53), Blk.box (c_S_Sign v54), Blk.box (c_S_Real v55), Blk.box (c_S_State v56), Blk.box [(iA v53.Limbs.2.1.Dir), (iA v53.Limbs.2.1.Level)]])) kL (K (Sum.inr ((Sum.inr ((Sum.inr ((Sum.inl o0)))))))) some) (x4 : ∀ (o0 : Bool) (s3 : A) (s4 : A) (s5 : A) (s7 : A) (s60 : A), J φ (kr (St.mk [(3, s3), (4, s4), (5, s5), (6, (bA o0)), (7, s7), (60, s60)] [Blk.box (c_S_State v53), Blk.box (c_S_Sign v54), Blk.box (c_S_Real v55), Blk.box (c_S_State v56), Blk.box [(iA v53.Limbs.2.2.1.Dir), (iA v53.Limbs.2.2.1.Level)]])) kL (K (Sum.inr ((Sum.inr ((Sum.inr ((Sum.inr ((Sum.inl o0)))))))))) some) (x5 : ∀ (o0 : Bool) (s3 : A) (s4 : A) (s5 : A) (s7 : A) (s60 : A), J φ (kr (St.mk [(3, s3), (4, s4), (5, s5), (6, (bA o0)), (7, s7), (60, s60)] [Blk.box (c_S_State v53), Blk.box (c_S_Sign v54), Blk.box (c_S_Real v55), Blk.box (c_S_State v56), Blk.box [(iA v53.Limbs.2.2.2.1.Dir), (iA v53.Limbs.2.2.2.1.Level)]])) kL (K (Sum.inr ((Sum.inr ((Sum.inr ((Sum.inr ((Sum.inr ((Sum.inl o0)))))))))))) some) (x6 : ∀ (o0 : Bool) (s3 : A) (s4 : A) (s5 : A) (s7 : A) (s60 : A), J φ (kr (St.mk [(3, s3), (4, s4), (5, s5), (6, (bA o0)), (7, s7), (60, s60)] [Blk.box (c_S_State v53), Blk.box (c_S_Sign v54), Blk.box (c_S_Real v55), Blk.box (c_S_State v56), Blk.box [(iA v53.Limbs.2.2.2.2.Dir), (iA v53.Limbs.2.2.2.2.Level)]])) kL (K (Sum.inr ((Sum.inr ((Sum.inr ((Sum.inr ((Sum.inr ((Sum.inr ((Sum.inl o0)))))))))))))) some) (x7 : ∀ (s3 : A) (s4 : A) (s5 : A) (s6 : A) (s7 : A) (s60 : A), J φ (kx 0 (St.mk [(3, s3), (4, s4), (5, s5), (6, s6), (7, s7), (60, s60)] [Blk.box (c_S_State v53), Blk.box (c_S_Sign v54), Blk.box (c_S_Real v55), Blk.box (c_S_State v56)])) kL (K (Sum.inr ((Sum.inr ((Sum.inr ((Sum.inr ((Sum.inr ((Sum.inr ((Sum.inr (()))))))))))))))) some) :
    ∀ (m : Nat) (v51 : Bool) (v52 : Int), J φ (loopR (cx C) (evCall (cx C) (n+8)) (evCallY (cx C) (n+8)) (n+8) 8 0 0 4 kx kg kr kp m (St.mk [(3, (A.ptr 0 0)), (4, (A.ptr 1 0)), (5, (A.ptr 2 0)), (6, (bA v51)), (7, (A.ptr 3 0)), (60, (iA v52))] [Blk.box (c_S_State v53), Blk.box (c_S_Sign v54), Blk.box (c_S_Real v55), Blk.box (c_S_State v56)])) kL (F8_8_0 n v53 v54 v55 v56 m v51 v52) K := by
  intro m
  induction m with
  | zero => intros; exact .nn
  | succ m ih =>
    intro v51 v52
    refine .lp (e8_0 ..) ?_
    unfold F8_8_0
    refine .st (v := (bA (decide (v52 < 5)))) (aBin_lss ..) ?_
    refine .biHN (fun hk57 => ?_) (fun hk57 => ?_)
    · refine .st (v := (bA (decide (v52 < 2)))) (aBin_lss ..) ?_
      refine .st (v := (bA (v52 == 2))) (aBin_eql ..) ?_
      refine .bg (fun t (y : Bool) => ∃ j60 j61 : A, t = [(bA y), j60, j61]) ?_ ?_
      · refine .biH (fun hk58 => ?_) (fun hk58 => ?_)
        · exact .lg ⟨_, _, rfl⟩
        refine .st (v := (bA (v52 == 3))) (aBin_eql ..) ?_
        exact .lg ⟨_, _, rfl⟩
      rintro _ y59 ⟨j60, j61, rfl⟩
      iterate 3 refine .uc ?_
      refine .s (A.ptr 1 5) (.s (iA v54.Side) ?_)
      refine .st (v := (iA (Int.tmod v52 2))) (aBin_rem (hb := by decide) ..) ?_
      refine .st (v := (iA (wr .i64 ((Int.tmod v52 2) + 1)))) (aBin_add ..) ?_
      refine .st (v := (bA (v54.Side == (wr .i64 ((Int.tmod v52 2) + 1))))) (aBin_eql ..) ?_
      refine .bg (fun t (y : Bool × Int × Bool × Int) =>  t = (Out.ret (A.tup [(A.ptr 0 0), (A.ptr 1 0), (A.ptr 2 0), (bA y.1), (A.ptr 3 0), (iA y.2.1), (bA y.2.2.1), (iA y.2.2.2)]), [Blk.box (c_S_State v53), Blk.box (c_S_Sign v54), Blk.box (c_S_Real v55), Blk.box (c_S_State v56)])) ?_ ?_
      · refine .s (A.ptr 1 4) (.s (iA v54.Kind) ?_)
        refine .st (v := (bA (v54.Kind == 1))) (aBin_eql ..) ?_
        refine .biHN (fun hk62 => ?_) (fun hk62 => ?_)
        · refine .bKTN hk62 ?_
          refine .bg (fun t (y : Bool) => ∃ j65 : A, t = [(bA y), j65]) ?_ ?_
          · refine .biH (fun hk63 => ?_) (fun hk63 => ?_)
            · exact .lg ⟨_, rfl⟩
            exact .lg ⟨_, rfl⟩
          rintro _ y64 ⟨j65, rfl⟩
          iterate 2 refine .uc ?_
          exact .lg rfl
        refine .st (v := (bA (v54.Kind == 3))) (aBin_eql ..) ?_
        refine .biHN (fun hk66 => ?_) (fun hk66 => ?_)
        · refine .bg (fun t (y : Bool) => ∃ j69 : A, t = [(bA y), j69]) ?_ ?_
          · refine .biH (fun hk67 => ?_) (fun hk67 => ?_)
            · exact .lg ⟨_, rfl⟩
            exact .lg ⟨_, rfl⟩
          rintro _ y68 ⟨j69, rfl⟩
          iterate 2 refine .uc ?_
          exact .lg rfl
        refine .st (v := (bA (v54.Kind == 2))) (aBin_eql ..) ?_
        refine .biHN (fun hk70 => ?_) (fun hk70 => ?_)
        · refine .bKTN hk70 ?_
          exact .lg rfl
        refine .st (v := (bA (v54.Kind == 8))) (aBin_eql ..) ?_
        refine .biHN (fun hk71 => ?_) (fun hk71 => ?_)
        · exact .lg rfl
        refine .st (v := (bA (v54.Kind == 4))) (aBin_eql ..) ?_
        refine .biHN (fun hk72 => ?_) (fun hk72 => ?_)
        · refine .bKTN hk72 ?_
          refine .bg (fun t (y : Bool) => ∃ j75 : A, t = [(bA y), j75]) ?_ ?_
          · refine .biH (fun hk73 => ?_) (fun hk73 => ?_)
            · exact .lg ⟨_, rfl⟩
            exact .lg ⟨_, rfl⟩
          rintro _ y74 ⟨j75, rfl⟩
          iterate 2 refine .uc ?_
          exact .lg rfl
        refine .st (v := (bA (v54.Kind == 9))) (aBin_eql ..) ?_
        refine .biHN (fun hk76 => ?_) (fun hk76 => ?_)
        · refine .bg (fun t (y : Bool) => ∃ j79 : A, t = [(bA y), j79]) ?_ ?_
          · refine .biH (fun hk77 => ?_) (fun hk77 => ?_)
            · exact .lg ⟨_, rfl⟩
            exact .lg ⟨_, rfl⟩
          rintro _ y78 ⟨j79, rfl⟩
          iterate 2 refine .uc ?_
          exact .lg rfl
        refine .st (v := (bA (v54.Kind == 7))) (aBin_eql ..) ?_
        refine .biHN (fun hk80 => ?_) (fun hk80 => ?_)
        · exact .lg rfl
        refine .st (v := (bA (v54.Kind == 5))) (aBin_eql ..) ?_
        refine .biHN (fun hk81 => ?_) (fun hk81 => ?_)
        · refine .st (v := (bA (v52 == 4))) (aBin_eql ..) ?_
          exact .lg rfl
        exact .lg rfl
      rintro _ y82 rfl
      refine .rj ?_
      iterate 8 refine .uc ?_
      refine .s (A.ptr 0 3) ?_
      refine .sp (fun hb83 => ?_) (fun _ => ?_)
      · refine .st (v := (A.ptr 0 3)) (by rw [of_decide_eq_true hb83]; kernel_rfl) ?_
        refine .s (A.agg [(iA v53.Limbs.1.Dir), (iA v53.Limbs.1.Level)]) (.s ((A.ptr 4 0), [Blk.box (c_S_State v53), Blk.box (c_S_Sign v54), Blk.box (c_S_Real v55), Blk.box (c_S_State v56), Blk.box [(iA 0), (iA 0)]]) (.s [Blk.box (c_S_State v53), Blk.box (c_S_Sign v54), Blk.box (c_S_Real v55), Blk.box (c_S_State v56), Blk.box [(iA v53.Limbs.1.Dir), (iA v53.Limbs.1.Level)]] ?_))
        refine .bg (fun t (y : Bool) => ∃ j86 j87 j88 : A, t = [(bA y), j86, j87, j88]) ?_ ?_
        · refine .biH (fun hk84 => ?_) (fun hk84 => ?_)
          · refine .s (A.ptr 2 3) (.s (bA v55.Drop) (.s (bA (!v55.Drop)) ?_))
            exact .lg ⟨_, _, _, rfl⟩
          exact .lg ⟨_, _, _, rfl⟩
        rintro _ y85 ⟨j86, j87, j88, rfl⟩
        iterate 4 refine .uc ?_
        refine .biHN (fun hk89 => ?_) (fun hk89 => ?_)
        · refine .s (A.agg [(iA 0), (iA 0)]) (.s [Blk.box (c_S_State v53), Blk.box (c_S_Sign v54), Blk.box (c_S_Real v55), Blk.box (c_S_State v56), Blk.box [(iA 0), (iA 0)]] (.s (A.ptr 1 4) (.s (iA v54.Kind) ?_)))
          refine .st (v := (bA (v54.Kind == 3))) (aBin_eql ..) ?_
          refine .bg (fun t (y : Bool) => ∃ j92 j93 j94 : A, t = [(bA y), j92, j93, j94]) ?_ ?_
          · refine .biH (fun hk90 => ?_) (fun hk90 => ?_)
            · exact .lg ⟨_, _, _, rfl⟩
            refine .s (A.ptr 1 4) (.s (iA v54.Kind) ?_)
            refine .st (v := (bA (v54.Kind == 4))) (aBin_eql ..) ?_
            exact .lg ⟨_, _, _, rfl⟩
          rintro _ y91 ⟨j92, j93, j94, rfl⟩
          iterate 4 refine .uc ?_
          refine .bg (fun t (y : Bool) => ∃ j97 j98 j99 : A, t = [(bA y), j97, j98, j99]) ?_ ?_
          · refine .biH (fun hk95 => ?_) (fun hk95 => ?_)
            · exact .lg ⟨_, _, _, rfl⟩
            refine .s (A.ptr 1 4) (.s (iA v54.Kind) ?_)
            refine .st (v := (bA (v54.Kind == 5))) (aBin_eql ..) ?_
            exact .lg ⟨_, _, _, rfl⟩
          rintro _ y96 ⟨j97, j98, j99, rfl⟩
          iterate 4 refine .uc ?_
          refine .biHN (fun hk100 => ?_) (fun hk100 => ?_)
          · refine .s (A.ptr 2 1) (.s (iA v55.Dir) (.s (A.ptr 2 2) (.s (iA v55.Level) (.s (A.agg [(iA v55.Dir), (iA v55.Level)]) (.s [Blk.box (c_S_State v53), Blk.box (c_S_Sign v54), Blk.box (c_S_Real v55), Blk.box (c_S_State v56), Blk.box [(iA v55.Dir), (iA v55.Level)]] (.s (A.ptr 3 3) ?_))))))
            refine .st (v := (A.ptr 3 3)) (by rw [of_decide_eq_true hb83]; kernel_rfl) ?_
            refine .s (A.agg [(iA v56.Limbs.1.Dir), (iA v56.Limbs.1.Level)]) (.s (A.agg [(iA v55.Dir), (iA v55.Level)]) (.s (bA (!((v56.Limbs.1.Dir == v55.Dir) && (v56.Limbs.1.Level == v55.Level)))) ?_))
            refine .biHN (fun hk101 => ?_) (fun hk101 => ?_)
            · exact .ex (x0 _ _ _ _ _ _)
            refine .st (v := (iA (wr .i64 (y82.2.2.2 + 1)))) (aBin_add ..) ?_
            refine .s [Blk.box (c_S_State v53), Blk.box (c_S_Sign v54), Blk.box (c_S_Real v55), Blk.box (c_S_State v56)] ?_
            refine .cT (by kernel_rfl) ?_
            exact ih _ _
          refine .s (A.ptr 3 3) ?_
          refine .st (v := (A.ptr 3 3)) (by rw [of_decide_eq_true hb83]; kernel_rfl) ?_
          refine .s (A.agg [(iA v56.Limbs.1.Dir), (iA v56.Limbs.1.Level)]) (.s (A.agg [(iA 0), (iA 0)]) (.s (bA (!((v56.Limbs.1.Dir == 0) && (v56.Limbs.1.Level == 0)))) ?_))
          refine .biHN (fun hk102 => ?_) (fun hk102 => ?_)
          · exact .ex (x1 _ _ _ _ _ _ _ _)
          refine .st (v := (iA (wr .i64 (y82.2.2.2 + 1)))) (aBin_add ..) ?_
          refine .s [Blk.box (c_S_State v53), Blk.box (c_S_Sign v54), Blk.box (c_S_Real v55), Blk.box (c_S_State v56)] ?_
          refine .cT (by kernel_rfl) ?_
          exact ih _ _
        refine .s (A.ptr 3 3) ?_
        refine .st (v := (A.ptr 3 3)) (by rw [of_decide_eq_true hb83]; kernel_rfl) ?_
        refine .s (A.agg [(iA v56.Limbs.1.Dir), (iA v56.Limbs.1.Level)]) (.s (A.agg [(iA v53.Limbs.1.Dir), (iA v53.Limbs.1.Level)]) (.s (bA (!((v56.Limbs.1.Dir == v53.Limbs.1.Dir) && (v56.Limbs.1.Level == v53.Limbs.1.Level)))) ?_))
        refine .biHN (fun hk103 => ?_) (fun hk103 => ?_)
        · exact .ex (x2 _ _ _ _ _ _)
        refine .st (v := (iA (wr .i64 (y82.2.2.2 + 1)))) (aBin_add ..) ?_
        refine .s [Blk.box (c_S_State v53), Blk.box (c_S_Sign v54), Blk.box (c_S_Real v55), Blk.box (c_S_State v56)] ?_
        refine .cT (by kernel_rfl) ?_
        exact ih _ _
      refine .sp (fun hb104 => ?_) (fun _ => ?_)
      · refine .st (v := (A.ptr 0 5)) (by rw [of_decide_eq_true hb104]; kernel_rfl) ?_
        refine .s (A.agg [(iA v53.Limbs.2.1.Dir), (iA v53.Limbs.2.1.Level)]) (.s ((A.ptr 4 0), [Blk.box (c_S_State v53), Blk.box (c_S_Sign v54), Blk.box (c_S_Real v55), Blk.box (c_S_State v56), Blk.box [(iA 0), (iA 0)]]) (.s [Blk.box (c_S_State v53), Blk.box (c_S_Sign v54), Blk.box (c_S_Real v55), Blk.box (c_S_State v56), Blk.box [(iA v53.Limbs.2.1.Dir), (iA v53.Limbs.2.1.Level)]] ?_))
        refine .bg (fun t (y : Bool) => ∃ j107 j108 j109 : A, t = [(bA y), j107, j108, j109]) ?_ ?_
        · refine .biH (fun hk105 => ?_) (fun hk105 => ?_)
          · refine .s (A.ptr 2 3) (.s (bA v55.Drop) (.s (bA (!v55.Drop)) ?_))
            exact .lg ⟨_, _, _, rfl⟩
          exact .lg ⟨_, _, _, rfl⟩
        rintro _ y106 ⟨j107, j108, j109, rfl⟩
        iterate 4 refine .uc ?_
        refine .biHN (fun hk110 => ?_) (fun hk110 => ?_)
        · refine .s (A.agg [(iA 0), (iA 0)]) (.s [Blk.box (c_S_State v53), Blk.box (c_S_Sign v54), Blk.box (c_S_Real v55), Blk.box (c_S_State v56), Blk.box [(iA 0), (iA 0)]] (.s (A.ptr 1 4) (.s (iA v54.Kind) ?_)))
          refine .st (v := (bA (v54.Kind == 3))) (aBin_eql ..) ?_
          refine .bg (fun t (y : Bool) => ∃ j113 j114 j115 : A, t = [(bA y), j113, j114, j115]) ?_ ?_
          · refine .biH (fun hk111 => ?_) (fun hk111 => ?_)
            · exact .lg ⟨_, _, _, rfl⟩
            refine .s (A.ptr 1 4) (.s (iA v54.Kind) ?_)
            refine .st (v := (bA (v54.Kind == 4))) (aBin_eql ..) ?_
            exact .lg ⟨_, _, _, rfl⟩
          rintro _ y112 ⟨j113, j114, j115, rfl⟩
          iterate 4 refine .uc ?_
          refine .bg (fun t (y : Bool) => ∃ j118 j119 j120 : A, t = [(bA y), j118, j119, j120]) ?_ ?_
          · refine .biH (fun hk116 => ?_) (fun hk116 => ?_)
            · exact .lg ⟨_, _, _, rfl⟩
            refine .s (A.ptr 1 4) (.s (iA v54.Kind) ?_)
            refine .st (v := (bA (v54.Kind == 5))) (aBin_eql ..) ?_
            exact .lg ⟨_, _, _, rfl⟩
          rintro _ y117 ⟨j118, j119, j120, rfl⟩
          iterate 4 refine .uc ?_
          refine .biHN (fun hk121 => ?_) (fun hk121 => ?_)
          · refine .s (A.ptr 2 1) (.s (iA v55.Dir) (.s (A.ptr 2 2) (.s (iA v55.Level) (.s (A.agg [(iA v55.Dir), (iA v55.Level)]) (.s [Blk.box (c_S_State v53), Blk.box (c_S_Sign v54), Blk.box (c_S_Real v55), Blk.box (c_S_State v56), Blk.box [(iA v55.Dir), (iA v55.Level)]] (.s (A.ptr 3 3) ?_))))))
            refine .st (v := (A.ptr 3 5)) (by rw [of_decide_eq_true hb104]; kernel_rfl) ?_
            refine .s (A.agg [(iA v56.Limbs.2.1.Dir), (iA v56.Limbs.2.1.Level)]) (.s (A.agg [(iA v55.Dir), (iA v55.Level)]) (.s (bA (!((v56.Limbs.2.1.Dir == v55.Dir) && (v56.Limbs.2.1.Level == v55.Level)))) ?_))
            refine .biHN (fun hk122 => ?_) (fun hk122 => ?_)
            · exact .ex (x0 _ _ _ _ _ _)
            refine .st (v := (iA (wr .i64 (y82.2.2.2 + 1)))) (aBin_add ..) ?_
            refine .s [Blk.box (c_S_State v53), Blk.box (c_S_Sign v54), Blk.box (c_S_Real v55), Blk.box (c_S_State v56)] ?_
            refine .cT (by kernel_rfl) ?_
            exact ih _ _
          refine .s (A.ptr 3 3) ?_
          refine .st (v := (A.ptr 3 5)) (by rw [of_decide_eq_true hb104]; kernel_rfl) ?_
          refine .s (A.agg [(iA v56.Limbs.2.1.Dir), (iA v56.Limbs.2.1.Level)]) (.s (A.agg [(iA 0), (iA 0)]) (.s (bA (!((v56.Limbs.2.1.Dir == 0) && (v56.Limbs.2.1.Level == 0)))) ?_))
          refine .biHN (fun hk123 => ?_) (fun hk123 => ?_)
          · exact .ex (x1 _ _ _ _ _ _ _ _)
          refine .st (v := (iA (wr .i64 (y82.2.2.2 + 1)))) (aBin_add ..) ?_
          refine .s [Blk.box (c_S_State v53), Blk.box (c_S_Sign v54), Blk.box (c_S_Real v55), Blk.box (c_S_State v56)] ?_
          refine .cT (by kernel_rfl) ?_
          exact ih _ _
        refine .s (A.ptr 3 3) ?_
        refine .st (v := (A.ptr 3 5)) (by rw [of_decide_eq_true hb104]; kernel_rfl) ?_
        refine .s (A.agg [(iA v56.Limbs.2.1.Dir), (iA v56.Limbs.2.1.Level)]) (.s (A.agg [(iA v53.Limbs.2.1.Dir), (iA v53.Limbs.2.1.Level)]) (.s (bA (!((v56.Limbs.2.1.Dir == v53.Limbs.2.1.Dir) && (v56.Limbs.2.1.Level == v53.Limbs.2.1.Level)))) ?_))
        refine .biHN (fun hk124 => ?_) (fun hk124 => ?_)
        · exact .ex (x3 _ _ _ _ _ _)
        refine .st (v := (iA (wr .i64 (y82.2.2.2 + 1)))) (aBin_add ..) ?_
        refine .s [Blk.box (c_S_State v53), Blk.box (c_S_Sign v54), Blk.box (c_S_Real v55), Blk.box (c_S_State v56)] ?_
        refine .cT (by kernel_rfl) ?_
        exact ih _ _
      refine .sp (fun hb125 => ?_) (fun _ => ?_)
      · refine .st (v := (A.ptr 0 7)) (by rw [of_decide_eq_true hb125]; kernel_rfl) ?_
        refine .s (A.agg [(iA v53.Limbs.2.2.1.Dir), (iA v53.Limbs.2.2.1.Level)]) (.s ((A.ptr 4 0), [Blk.box (c_S_State v53), Blk.box (c_S_Sign v54), Blk.box (c_S_Real v55), Blk.box (c_S_State v56), Blk.box [(iA 0), (iA 0)]]) (.s [Blk.box (c_S_State v53), Blk.box (c_S_Sign v54), Blk.box (c_S_Real v55), Blk.box (c_S_State v56), Blk.box [(iA v53.Limbs.2.2.1.Dir), (iA v53.Limbs.2.2.1.Level)]] ?_))
        refine .bg (fun t (y : Bool) => ∃ j128 j129 j130 : A, t = [(bA y), j128, j129, j130]) ?_ ?_
        · refine .biH (fun hk126 => ?_) (fun hk126 => ?_)
          · refine .s (A.ptr 2 3) (.s (bA v55.Drop) (.s (bA (!v55.Drop)) ?_))
            exact .lg ⟨_, _, _, rfl⟩
          exact .lg ⟨_, _, _, rfl⟩
        rintro _ y127 ⟨j128, j129, j130, rfl⟩
        iterate 4 refine .uc ?_
        refine .biHN (fun hk131 => ?_) (fun hk131 => ?_)
        · refine .s (A.agg [(iA 0), (iA 0)]) (.s [Blk.box (c_S_State v53), Blk.box (c_S_Sign v54), Blk.box (c_S_Real v55), Blk.box (c_S_State v56), Blk.box [(iA 0), (iA 0)]] (.s (A.ptr 1 4) (.s (iA v54.Kind) ?_)))
          refine .st (v := (bA (v54.Kind == 3))) (aBin_eql ..) ?_
          refine .bg (fun t (y : Bool) => ∃ j134 j135 j136 : A, t = [(bA y), j134, j135, j136]) ?_ ?_
          · refine .biH (fun hk132 => ?_) (fun hk132 => ?_)
            · exact .lg ⟨_, _, _, rfl⟩
            refine .s (A.ptr 1 4) (.s (iA v54.Kind) ?_)
            refine .st (v := (bA (v54.Kind == 4))) (aBin_eql ..) ?_
            exact .lg ⟨_, _, _, rfl⟩
          rintro _ y133 ⟨j134, j135, j136, rfl⟩
          iterate 4 refine .uc ?_
          refine .bg (fun t (y : Bool) => ∃ j139 j140 j141 : A, t = [(bA y), j139, j140, j141]) ?_ ?_
          · refine .biH (fun hk137 => ?_) (fun hk137 => ?_)
            · exact .lg ⟨_, _, _, rfl⟩
            refine .s (A.ptr 1 4) (.s (iA v54.Kind) ?_)
            refine .st (v := (bA (v54.Kind == 5))) (aBin_eql ..) ?_
            exact .lg ⟨_, _, _, rfl⟩
          rintro _ y138 ⟨j139, j140, j141, rfl⟩
          iterate 4 refine .uc ?_
          refine .biHN (fun hk142 => ?_) (fun hk142 => ?_)
          · refine .s (A.ptr 2 1) (.s (iA v55.Dir) (.s (A.ptr 2 2) (.s (iA v55.Level) (.s (A.agg [(iA v55.Dir), (iA v55.Level)]) (.s [Blk.box (c_S_State v53), Blk.box (c_S_Sign v54), Blk.box (c_S_Real v55), Blk.box (c_S_State v56), Blk.box [(iA v55.Dir), (iA v55.Level)]] (.s (A.ptr 3 3) ?_))))))
            refine .st (v := (A.ptr 3 7)) (by rw [of_decide_eq_true hb125]; kernel_rfl) ?_
            refine .s (A.agg [(iA v56.Limbs.2.2.1.Dir), (iA v56.Limbs.2.2.1.Level)]) (.s (A.agg [(iA v55.Dir), (iA v55.Level)]) (.s (bA (!((v56.Limbs.2.2.1.Dir == v55.Dir) && (v56.Limbs.2.2.1.Level == v55.Level)))) ?_))
            refine .biHN (fun hk143 => ?_) (fun hk143 => ?_)
            · exact .ex (x0 _ _ _ _ _ _)
            refine .st (v := (iA (wr .i64 (y82.2.2.2 + 1)))) (aBin_add ..) ?_
            refine .s [Blk.box (c_S_State v53), Blk.box (c_S_Sign v54), Blk.box (c_S_Real v55), Blk.box (c_S_State v56)] ?_
            refine .cT (by kernel_rfl) ?_
            exact ih _ _
          refine .s (A.ptr 3 3) ?_
          refine .st (v := (A.ptr 3 7)) (by rw [of_decide_eq_true hb125]; kernel_rfl) ?_
          refine .s (A.agg [(iA v56.Limbs.2.2.1.Dir), (iA v56.Limbs.2.2.1.Level)]) (.s (A.agg [(iA 0), (iA 0)]) (.s (bA (!((v56.Limbs.2.2.1.Dir == 0) && (v56.Limbs.2.2.1.Level == 0)))) ?_))
          refine .biHN (fun hk144 => ?_) (fun hk144 => ?_)
          · exact .ex (x1 _ _ _ _ _ _ _ _)
          refine .st (v := (iA (wr .i64 (y82.2.2.2 + 1)))) (aBin_add ..) ?_
          refine .s [Blk.box (c_S_State v53), Blk.box (c_S_Sign v54), Blk.box (c_S_Real v55), Blk.box (c_S_State v56)] ?_
          refine .cT (by kernel_rfl) ?_
          exact ih _ _
        refine .s (A.ptr 3 3) ?_
        refine .st (v := (A.ptr 3 7)) (by rw [of_decide_eq_true hb125]; kernel_rfl) ?_
        refine .s (A.agg [(iA v56.Limbs.2.2.1.Dir), (iA v56.Limbs.2.2.1.Level)]) (.s (A.agg [(iA v53.Limbs.2.2.1.Dir), (iA v53.Limbs.2.2.1.Level)]) (.s (bA (!((v56.Limbs.2.2.1.Dir == v53.Limbs.2.2.1.Dir) && (v56.Limbs.2.2.1.Level == v53.Limbs.2.2.1.Level)))) ?_))
        refine .biHN (fun hk145 => ?_) (fun hk145 => ?_)
        · exact .ex (x4 _ _ _ _ _ _)
        refine .st (v := (iA (wr .i64 (y82.2.2.2 + 1)))) (aBin_add ..) ?_
        refine .s [Blk.box (c_S_State v53), Blk.box (c_S_Sign v54), Blk.box (c_S_Real v55), Blk.box (c_S_State v56)] ?_
        refine .cT (by kernel_rfl) ?_
        exact ih _ _
      refine .sp (fun hb146 => ?_) (fun _ => ?_)
      · refine .st (v := (A.ptr 0 9)) (by rw [of_decide_eq_true hb146]; kernel_rfl) ?_
        refine .s (A.agg [(iA v53.Limbs.2.2.2.1.Dir), (iA v53.Limbs.2.2.2.1.Level)]) (.s ((A.ptr 4 0), [Blk.box (c_S_State v53), Blk.box (c_S_Sign v54), Blk.box (c_S_Real v55), Blk.box (c_S_State v56), Blk.box [(iA 0), (iA 0)]]) (.s [Blk.box (c_S_State v53), Blk.box (c_S_Sign v54), Blk.box (c_S_Real v55), Blk.box (c_S_State v56), Blk.box [(iA v53.Limbs.2.2.2.1.Dir), (iA v53.Limbs.2.2.2.1.Level)]] ?_))
        refine .bg (fun t (y : Bool) => ∃ j149 j150 j151 : A, t = [(bA y), j149, j150, j151]) ?_ ?_
        · refine .biH (fun hk147 => ?_) (fun hk147 => ?_)
          · refine .s (A.ptr 2 3) (.s (bA v55.Drop) (.s (bA (!v55.Drop)) ?_))
            exact .lg ⟨_, _, _, rfl⟩
          exact .lg ⟨_, _, _, rfl⟩
        rintro _ y148 ⟨j149, j150, j151, rfl⟩
        iterate 4 refine .uc ?_
        refine .biHN (fun hk152 => ?_) (fun hk152 => ?_)
        · refine .s (A.agg [(iA 0), (iA 0)]) (.s [Blk.box (c_S_State v53), Blk.box (c_S_Sign v54), Blk.box (c_S_Real v55), Blk.box (c_S_State v56), Blk.box [(iA 0), (iA 0)]] (.s (A.ptr 1 4) (.s (iA v54.Kind) ?_)))
          refine .st (v := (bA (v54.Kind == 3))) (aBin_eql ..) ?_
          refine .bg (fun t (y : Bool) => ∃ j155 j156 j157 : A, t = [(bA y), j155, j156, j157]) ?_ ?_
          · refine .biH (fun hk153 => ?_) (fun hk153 => ?_)
            · exact .lg ⟨_, _, _, rfl⟩
            refine .s (A.ptr 1 4) (.s (iA v54.Kind) ?_)
            refine .st (v := (bA (v54.Kind == 4))) (aBin_eql ..) ?_
            exact .lg ⟨_, _, _, rfl⟩
          rintro _ y154 ⟨j155, j156, j157, rfl⟩
          iterate 4 refine .uc ?_
          refine .bg (fun t (y : Bool) => ∃ j160 j161 j162 : A, t = [(bA y), j160, j161, j162]) ?_ ?_
          · refine .biH (fun hk158 => ?_) (fun hk158 => ?_)
            · exact .lg ⟨_, _, _, rfl⟩
            refine .s (A.ptr 1 4) (.s (iA v54.Kind) ?_)
            refine .st (v := (bA (v54.Kind == 5))) (aBin_eql ..) ?_
            exact .lg ⟨_, _, _, rfl⟩
          rintro _ y159 ⟨j160, j161, j162, rfl⟩
          iterate 4 refine .uc ?_
          refine .biHN (fun hk163 => ?_) (fun hk163 => ?_)
          · refine .s (A.ptr 2 1) (.s (iA v55.Dir) (.s (A.ptr 2 2) (.s (iA v55.Level) (.s (A.agg [(iA v55.Dir), (iA v55.Level)]) (.s [Blk.box (c_S_State v53), Blk.box (c_S_Sign v54), Blk.box (c_S_Real v55), Blk.box (c_S_State v56), Blk.box [(iA v55.Dir), (iA v55.Level)]] (.s (A.ptr 3 3) ?_))))))
            refine .st (v := (A.ptr 3 9)) (by rw [of_decide_eq_true hb146]; kernel_rfl) ?_
            refine .s (A.agg [(iA v56.Limbs.2.2.2.1.Dir), (iA v56.Limbs.2.2.2.1.Level)]) (.s (A.agg [(iA v55.Dir), (iA v55.Level)]) (.s (bA (!((v56.Limbs.2.2.2.1.Dir == v55.Dir) && (v56.Limbs.2.2.2.1.Level == v55.Level)))) ?_))
            refine .biHN (fun hk164 => ?_) (fun hk164 => ?_)
            · exact .ex (x0 _ _ _ _ _ _)
            refine .st (v := (iA (wr .i64 (y82.2.2.2 + 1)))) (aBin_add ..) ?_
            refine .s [Blk.box (c_S_State v53), Blk.box (c_S_Sign v54), Blk.box (c_S_Real v55), Blk.box (c_S_State v56)] ?_
            refine .cT (by kernel_rfl) ?_
            exact ih _ _
          refine .s (A.ptr 3 3) ?_
          refine .st (v := (A.ptr 3 9)) (by rw [of_decide_eq_true hb146]; kernel_rfl) ?_
          refine .s (A.agg [(iA v56.Limbs.2.2.2.1.Dir), (iA v56.Limbs.2.2.2.1.Level)]) (.s (A.agg [(iA 0), (iA 0)]) (.s (bA (!((v56.Limbs.2.2.2.1.Dir == 0) && (v56.Limbs.2.2.2.1.Level == 0)))) ?_))
          refine .biHN (fun hk165 => ?_) (fun hk165 => ?_)
          · exact .ex (x1 _ _ _ _ _ _ _ _)
          refine .st (v := (iA (wr .i64 (y82.2.2.2 + 1)))) (aBin_add ..) ?_
          refine .s [Blk.box (c_S_State v53), Blk.box (c_S_Sign v54), Blk.box (c_S_Real v55), Blk.box (c_S_State v56)] ?_
          refine .cT (by kernel_rfl) ?_
          exact ih _ _
        refine .s (A.ptr 3 3) ?_
        refine .st (v := (A.ptr 3 9)) (by rw [of_decide_eq_true hb146]; kernel_rfl) ?_
        refine .s (A.agg [(iA v56.Limbs.2.2.2.1.Dir), (iA v56.Limbs.2.2.2.1.Level)]) (.s (A.agg [(iA v53.Limbs.2.2.2.1.Dir), (iA v53.Limbs.2.2.2.1.Level)]) (.s (bA (!((v56.Limbs.2.2.2.1.Dir == v53.Limbs.2.2.2.1.Dir) && (v56.Limbs.2.2.2.1.Level == v53.Limbs.2.2.2.1.Level)))) ?_))
        refine .biHN (fun hk166 => ?_) (fun hk166 => ?_)
        · exact .ex (x5 _ _ _ _ _ _)
        refine .st (v := (iA (wr .i64 (y82.2.2.2 + 1)))) (aBin_add ..) ?_
        refine .s [Blk.box (c_S_State v53), Blk.box (c_S_Sign v54), Blk.box (c_S_Real v55), Blk.box (c_S_State v56)] ?_
        refine .cT (by kernel_rfl) ?_
        exact ih _ _
      refine .sp (fun hb167 => ?_) (fun _ => ?_)
      · refine .st (v := (A.ptr 0 11)) (by rw [of_decide_eq_true hb167]; kernel_rfl) ?_
        refine .s (A.agg [(iA v53.Limbs.2.2.2.2.Dir), (iA v53.Limbs.2.2.2.2.Level)]) (.s ((A.ptr 4 0), [Blk.box (c_S_State v53), Blk.box (c_S_Sign v54), Blk.box (c_S_Real v55), Blk.box (c_S_State v56), Blk.box [(iA 0), (iA 0)]]) (.s [Blk.box (c_S_State v53), Blk.box (c_S_Sign v54), Blk.box (c_S_Real v55), Blk.box (c_S_State v56), Blk.box [(iA v53.Limbs.2.2.2.2.Dir), (iA v53.Limbs.2.2.2.2.Level)]] ?_))
        refine .bg (fun t (y : Bool) => ∃ j170 j171 j172 : A, t = [(bA y), j170, j171, j172]) ?_ ?_
        · refine .biH (fun hk168 => ?_) (fun hk168 => ?_)
          · refine .s (A.ptr 2 3) (.s (bA v55.Drop) (.s (bA (!v55.Drop)) ?_))
            exact .lg ⟨_, _, _, rfl⟩
          exact .lg ⟨_, _, _, rfl⟩
        rintro _ y169 ⟨j170, j171, j172, rfl⟩
        iterate 4 refine .uc ?_
        refine .biHN (fun hk173 => ?_) (fun hk173 => ?_)
        · refine .s (A.agg [(iA 0), (iA 0)]) (.s [Blk.box (c_S_State v53), Blk.box (c_S_Sign v54), Blk.box (c_S_Real v55), Blk.box (c_S_State v56), Blk.box [(iA 0), (iA 0)]] (.s (A.ptr 1 4) (.s (iA v54.Kind) ?_)))
          refine .st (v := (bA (v54.Kind == 3))) (aBin_eql ..) ?_
          refine .bg (fun t (y : Bool) => ∃ j176 j177 j178 : A, t = [(bA y), j176, j177, j178]) ?_ ?_
          · refine .biH (fun hk174 => ?_) (fun hk174 => ?_)
            · exact .lg ⟨_, _, _, rfl⟩
            refine .s (A.ptr 1 4) (.s (iA v54.Kind) ?_)
            refine .st (v := (bA (v54.Kind == 4))) (aBin_eql ..) ?_
            exact .lg ⟨_, _, _, rfl⟩
          rintro _ y175 ⟨j176, j177, j178, rfl⟩
          iterate 4 refine .uc ?_
          refine .bg (fun t (y : Bool) => ∃ j181 j182 j183 : A, t = [(bA y), j181, j182, j183]) ?_ ?_
          · refine .biH (fun hk179 => ?_) (fun hk179 => ?_)
            · exact .lg ⟨_, _, _, rfl⟩
            refine .s (A.ptr 1 4) (.s (iA v54.Kind) ?_)
            refine .st (v := (bA (v54.Kind == 5))) (aBin_eql ..) ?_
            exact .lg ⟨_, _, _, rfl⟩
          rintro _ y180 ⟨j181, j182, j183, rfl⟩
          iterate 4 refine .uc ?_
          refine .biHN (fun hk184 => ?_) (fun hk184 => ?_)
          · refine .s (A.ptr 2 1) (.s (iA v55.Dir) (.s (A.ptr 2 2) (.s (iA v55.Level) (.s (A.agg [(iA v55.Dir), (iA v55.Level)]) (.s [Blk.box (c_S_State v53), Blk.box (c_S_Sign v54), Blk.box (c_S_Real v55), Blk.box (c_S_State v56), Blk.box [(iA v55.Dir), (iA v55.Level)]] (.s (A.ptr 3 3) ?_))))))
            refine .st (v := (A.ptr 3 11)) (by rw [of_decide_eq_true hb167]; kernel_rfl) ?_
            refine .s (A.agg [(iA v56.Limbs.2.2.2.2.Dir), (iA v56.Limbs.2.2.2.2.Level)]) (.s (A.agg [(iA v55.Dir), (iA v55.Level)]) (.s (bA (!((v56.Limbs.2.2.2.2.Dir == v55.Dir) && (v56.Limbs.2.2.2.2.Level == v55.Level)))) ?_))
            refine .biHN (fun hk185 => ?_) (fun hk185 => ?_)
            · exact .ex (x0 _ _ _ _ _ _)
            refine .st (v := (iA (wr .i64 (y82.2.2.2 + 1)))) (aBin_add ..) ?_
            refine .s [Blk.box (c_S_State v53), Blk.box (c_S_Sign v54), Blk.box (c_S_Real v55), Blk.box (c_S_State v56)] ?_
            refine .cT (by kernel_rfl) ?_
            exact ih _ _
          refine .s (A.ptr 3 3) ?_
          refine .st (v := (A.ptr 3 11)) (by rw [of_decide_eq_true hb167]; kernel_rfl) ?_
          refine .s (A.agg [(iA v56.Limbs.2.2.2.2.Dir), (iA v56.Limbs.2.2.2.2.Level)]) (.s (A.agg [(iA 0), (iA 0)]) (.s (bA (!((v56.Limbs.2.2.2.2.Dir == 0) && (v56.Limbs.2.2.2.2.Level == 0)))) ?_))
          refine .biHN (fun hk186 => ?_) (fun hk186 => ?_)
          · exact .ex (x1 _ _ _ _ _ _ _ _)
          refine .st (v := (iA (wr .i64 (y82.2.2.2 + 1)))) (aBin_add ..) ?_
          refine .s [Blk.box (c_S_State v53), Blk.box (c_S_Sign v54), Blk.box (c_S_Real v55), Blk.box (c_S_State v56)] ?_
          refine .cT (by kernel_rfl) ?_
          exact ih _ _
        refine .s (A.ptr 3 3) ?_
        refine .st (v := (A.ptr 3 11)) (by rw [of_decide_eq_true hb167]; kernel_rfl) ?_
        refine .s (A.agg [(iA v56.Limbs.2.2.2.2.Dir), (iA v56.Limbs.2.2.2.2.Level)]) (.s (A.agg [(iA v53.Limbs.2.2.2.2.Dir), (iA v53.Limbs.2.2.2.2.Level)]) (.s (bA (!((v56.Limbs.2.2.2.2.Dir == v53.Limbs.2.2.2.2.Dir) && (v56.Limbs.2.2.2.2.Level == v53.Limbs.2.2.2.2.Level)))) ?_))
        refine .biHN (fun hk187 => ?_) (fun hk187 => ?_)
        · exact .ex (x6 _ _ _ _ _ _)
        refine .st (v := (iA (wr .i64 (y82.2.2.2 + 1)))) (aBin_add ..) ?_
        refine .s [Blk.box (c_S_State v53), Blk.box (c_S_Sign v54), Blk.box (c_S_Real v55), Blk.box (c_S_State v56)] ?_
        refine .cT (by kernel_rfl) ?_
        exact ih _ _
      exact .nn
    exact .ex (x7 _ _ _ _ _ _)
def F8 (n : Nat) (a0 : S_State) (a1 : S_Sign) (a2 : S_Real) : Option Bool :=
  Option.bind (G11 ) fun y1 => bif (!y1) then (some false) else (Option.bind (G18 a0 a1 a2) fun y3 => bif (y3.2 != 0) then (some true) else (Option.bind (bif (a1.Kind != 1) then (some (a1.Kind != 2)) else (some false)) fun y6 => Option.bind (bif y6 then (Option.bind (bif (y3.1.X != a0.X) then (some true) else (some (y3.1.Y != a0.Y))) fun y12 => some y12) else (some false)) fun y18 => Option.bind (bif y18 then (some true) else (Option.bind (bif (a1.Kind != 6) then (some (y3.1.Face != a0.Face)) else (some false)) fun y33 => some y33)) fun y39 => bif y39 then (some false) else (Option.bind (F8_8_0 n a0 a1 a2 y3.1 (n+8) false 0) fun o188 => match o188 with | (Sum.inl y189) => some y189 | (Sum.inr ((Sum.inl ((y195, y196, y197))))) => some y195 | (Sum.inr ((Sum.inr ((Sum.inl y203))))) => some y203 | (Sum.inr ((Sum.inr ((Sum.inr ((Sum.inl y209))))))) => some y209 | (Sum.inr ((Sum.inr ((Sum.inr ((Sum.inr ((Sum.inl y215))))))))) => some y215 | (Sum.inr ((Sum.inr ((Sum.inr ((Sum.inr ((Sum.inr ((Sum.inl y221))))))))))) => some y221 | (Sum.inr ((Sum.inr ((Sum.inr ((Sum.inr ((Sum.inr ((Sum.inr ((Sum.inl y227))))))))))))) => some y227 | (Sum.inr ((Sum.inr ((Sum.inr ((Sum.inr ((Sum.inr ((Sum.inr ((Sum.inr _))))))))))))) => some true)))
theorem T8 (C : Nat → List A → Option A) (n : Nat) (h11 : Orc11 C) (h18 : Orc18 C) (a0 : S_State) (a1 : S_Sign) (a2 : S_Real) : J (fun (o : R) y => ∃ v, o.1 = .ret v ∧ snapE o.2 v = (bA y)) (evCall1 (cx C) (evCall (cx C) (n+8)) (evCallY (cx C) (n+8)) (n+8) 8 [(A.agg (c_S_State a0)), (A.agg (c_S_Sign a1)), (A.agg (c_S_Real a2))] [] 0) some (F8 n a0 a1 a2) some := by
  refine .lp (e8 ..) ?_
  unfold F8
  refine .s ((A.ptr 0 0), [Blk.box (c_S_State a0)]) (.s ((A.ptr 1 0), [Blk.box (c_S_State a0), Blk.box (c_S_Sign a1)]) (.s ((A.ptr 2 0), [Blk.box (c_S_State a0), Blk.box (c_S_Sign a1), Blk.box (c_S_Real a2)]) ?_))
  refine .bd (g := fun (y : Bool) => (bA y)) (h11 ()) fun y1 => ?_
  refine .s (bA (!y1)) ?_
  refine .biHN (fun hk2 => ?_) (fun hk2 => ?_)
  · exact .lf rfl rfl ⟨_, rfl, rfl⟩
  refine .s (A.agg (c_S_State a0)) (.s (A.agg (c_S_Sign a1)) (.s (A.agg (c_S_Real a2)) ?_))
  refine .bd (g := fun (y : (S_State × Int)) => (A.tup [(A.agg [(iA y.1.X), (iA y.1.Y), (iA y.1.Face), (iA y.1.Limbs.1.Dir), (iA y.1.Limbs.1.Level), (iA y.1.Limbs.2.1.Dir), (iA y.1.Limbs.2.1.Level), (iA y.1.Limbs.2.2.1.Dir), (iA y.1.Limbs.2.2.1.Level), (iA y.1.Limbs.2.2.2.1.Dir), (iA y.1.Limbs.2.2.2.1.Level), (iA y.1.Limbs.2.2.2.2.Dir), (iA y.1.Limbs.2.2.2.2.Level)]), (iA y.2)])) (h18 a0 a1 a2) fun y3 => ?_
  refine .s (A.agg (c_S_State y3.1)) (.s (iA y3.2) (.s ((A.ptr 3 0), [Blk.box (c_S_State a0), Blk.box (c_S_Sign a1), Blk.box (c_S_Real a2), Blk.box [(iA 0), (iA 0), (iA 0), (iA 0), (iA 0), (iA 0), (iA 0), (iA 0), (iA 0), (iA 0), (iA 0), (iA 0), (iA 0)]]) (.s [Blk.box (c_S_State a0), Blk.box (c_S_Sign a1), Blk.box (c_S_Real a2), Blk.box (c_S_State y3.1)] ?_)))
  refine .st (v := (bA (y3.2 != 0))) (aBin_neq ..) ?_
  refine .biHN (fun hk4 => ?_) (fun hk4 => ?_)
  · exact .lf rfl rfl ⟨_, rfl, rfl⟩
  refine .s (A.ptr 1 4) (.s (iA a1.Kind) ?_)
  refine .st (v := (bA (a1.Kind != 1))) (aBin_neq ..) ?_
  refine .bg (fun t (y : Bool) => ∃ j7 j8 j9 : A, t = [(bA y), j7, j8, j9]) ?_ ?_
  · refine .biH (fun hk5 => ?_) (fun hk5 => ?_)
    · refine .s (A.ptr 1 4) (.s (iA a1.Kind) ?_)
      refine .st (v := (bA (a1.Kind != 2))) (aBin_neq ..) ?_
      exact .lg ⟨_, _, _, rfl⟩
    exact .lg ⟨_, _, _, rfl⟩
  rintro _ y6 ⟨j7, j8, j9, rfl⟩
  iterate 4 refine .uc ?_
  refine .bg (fun t (y : Bool) => ∃ j19 j20 j21 j22 j23 j24 j25 j26 j27 j28 j29 j30 : A, t = [(bA y), j19, j20, j21, j22, j23, j24, j25, j26, j27, j28, j29, j30]) ?_ ?_
  · refine .biH (fun hk10 => ?_) (fun hk10 => ?_)
    · refine .s (A.ptr 3 0) (.s (iA y3.1.X) (.s (A.ptr 0 0) (.s (iA a0.X) ?_)))
      refine .st (v := (bA (y3.1.X != a0.X))) (aBin_neq ..) ?_
      refine .bg (fun t (y : Bool) => ∃ j13 j14 j15 j16 j17 : A, t = [(bA y), j13, j14, j15, j16, j17]) ?_ ?_
      · refine .biH (fun hk11 => ?_) (fun hk11 => ?_)
        · exact .lg ⟨_, _, _, _, _, rfl⟩
        refine .s (A.ptr 3 1) (.s (iA y3.1.Y) (.s (A.ptr 0 1) (.s (iA a0.Y) ?_)))
        refine .st (v := (bA (y3.1.Y != a0.Y))) (aBin_neq ..) ?_
        exact .lg ⟨_, _, _, _, _, rfl⟩
      rintro _ y12 ⟨j13, j14, j15, j16, j17, rfl⟩
      iterate 6 refine .uc ?_
      exact .lg ⟨_, _, _, _, _, _, _, _, _, _, _, _, rfl⟩
    exact .lg ⟨_, _, _, _, _, _, _, _, _, _, _, _, rfl⟩
  rintro _ y18 ⟨j19, j20, j21, j22, j23, j24, j25, j26, j27, j28, j29, j30, rfl⟩
  iterate 13 refine .uc ?_
  refine .bg (fun t (y : Bool) => ∃ j40 j41 j42 j43 j44 j45 j46 j47 j48 j49 : A, t = [(bA y), j40, j41, j42, j43, j44, j45, j46, j47, j48, j49]) ?_ ?_
  · refine .biH (fun hk31 => ?_) (fun hk31 => ?_)
    · exact .lg ⟨_, _, _, _, _, _, _, _, _, _, rfl⟩
    refine .s (A.ptr 1 4) (.s (iA a1.Kind) ?_)
    refine .st (v := (bA (a1.Kind != 6))) (aBin_neq ..) ?_
    refine .bg (fun t (y : Bool) => ∃ j34 j35 j36 j37 j38 : A, t = [(bA y), j34, j35, j36, j37, j38]) ?_ ?_
    · refine .biH (fun hk32 => ?_) (fun hk32 => ?_)
      · refine .s (A.ptr 3 2) (.s (iA y3.1.Face) (.s (A.ptr 0 2) (.s (iA a0.Face) ?_)))
        refine .st (v := (bA (y3.1.Face != a0.Face))) (aBin_neq ..) ?_
        exact .lg ⟨_, _, _, _, _, rfl⟩
      exact .lg ⟨_, _, _, _, _, rfl⟩
    rintro _ y33 ⟨j34, j35, j36, j37, j38, rfl⟩
    iterate 6 refine .uc ?_
    exact .lg ⟨_, _, _, _, _, _, _, _, _, _, rfl⟩
  rintro _ y39 ⟨j40, j41, j42, j43, j44, j45, j46, j47, j48, j49, rfl⟩
  iterate 11 refine .uc ?_
  refine .biHN (fun hk50 => ?_) (fun hk50 => ?_)
  · exact .lf rfl rfl ⟨_, rfl, rfl⟩
  refine .as (T8_8_0 C n h11 h18 a0 a1 a2 y3.1 _ _ _ _ ?_ ?_ ?_ ?_ ?_ ?_ ?_ ?_ _ false 0)
  · intro y189 j190 j191 j192 j193 j194
    refine .un rfl ?_
    exact .lf rfl rfl ⟨_, rfl, rfl⟩
  · intro y195 y196 y197 j198 j199 j200 j201 j202
    refine .un rfl ?_
    exact .lf rfl rfl ⟨_, rfl, rfl⟩
  · intro y203 j204 j205 j206 j207 j208
    refine .un rfl ?_
    exact .lf rfl rfl ⟨_, rfl, rfl⟩
  · intro y209 j210 j211 j212 j213 j214
    refine .un rfl ?_
    exact .lf rfl rfl ⟨_, rfl, rfl⟩
  · intro y215 j216 j217 j218 j219 j220
    refine .un rfl ?_
    exact .lf rfl rfl ⟨_, rfl, rfl⟩
  · intro y221 j222 j223 j224 j225 j226
    refine .un rfl ?_
    exact .lf rfl rfl ⟨_, rfl, rfl⟩
  · intro y227 j228 j229 j230 j231 j232
    refine .un rfl ?_
    exact .lf rfl rfl ⟨_, rfl, rfl⟩
  · intro j233 j234 j235 j236 j237 j238
    refine .un rfl ?_
    refine .cT (by kernel_rfl) ?_
    exact .lf rfl rfl ⟨_, rfl, rfl⟩
def G8 (a0 : S_State) (a1 : S_Sign) (a2 : S_Real) : Option Bool := F8 fuel0 a0 a1 a2
end Go.Proofs.YtooamdacfhfjoaaDoor
