/-
  The program's functions as plain functions: by a tool; each follows the interpreter.
-/
import Derived.Test.YtooamdacfhfjoaaDoorT3
import Derived.KernelRfl
import Derived.Lib.Strings
import Derived.Lib.Bytealg
namespace Go.Proofs.YtooamdacfhfjoaaDoor
set_option linter.unusedVariables false
set_option linter.unusedSimpArgs false
set_option maxHeartbeats 4000000
set_option maxRecDepth 100000
def F65_65_0 (n : Nat) (v15 : ByteArray) (v16 : Bool) : Nat → Int → Option ((Bool) ⊕ (Unit))
  | 0, _ => none
  | m + 1, v17 => bif (decide (v17 < ((v15.size : Int)))) then (Option.bind (getI (bstrL v15) v17) fun y19 => Option.bind (G83 ((y19.toNat : Int))) fun y20 => bif (!y20) then (some ((Sum.inl false))) else (F65_65_0 n v15 v16 m (wr .i64 (v17 + 1)))) else (some ((Sum.inr (()))))
theorem T65_65_0 (C : Nat → List A → Option A) (n : Nat) (h82 : Orc82 C) (h83 : Orc83 C) (v15 : ByteArray) (v16 : Bool) {ρ γ : Type} {φ : ρ → γ → Prop} {kL : R → Option ρ} {K : ((Bool) ⊕ (Unit)) → Option γ} (kx kg : Nat → St → Option R) (kr : St → Option R) (kp : A → St → Option R) (x0 : ∀ (o0 : Bool) (s0 : A) (s3 : A), J φ (kr (St.mk [(0, s0), (2, (bA o0)), (3, s3)] [])) kL (K (Sum.inl o0)) some) (x1 : ∀ (s0 : A) (s2 : A) (s3 : A), J φ (kx 0 (St.mk [(0, s0), (2, s2), (3, s3)] [])) kL (K (Sum.inr (()))) some) :
    ∀ (m : Nat) (v17 : Int), J φ (loopR (cx C) (evCall (cx C) (n+8)) (evCallY (cx C) (n+8)) (n+8) 65 0 0 0 kx kg kr kp m (St.mk [(0, (A.v (Value.string v15))), (2, (bA v16)), (3, (iA v17))] [])) kL (F65_65_0 n v15 v16 m v17) K := by
  intro m
  induction m with
  | zero => intros; exact .nn
  | succ m ih =>
    intro v17
    refine .lp (e65_0 ..) ?_
    unfold F65_65_0
    refine .s (iA ((v15.size : Int))) ?_
    refine .st (v := (bA (decide (v17 < ((v15.size : Int)))))) (aBin_lss ..) ?_
    refine .biHN (fun hk18 => ?_) (fun hk18 => ?_)
    · refine .bd (g := fun (y : UInt8) => A.v (Value.int .u8 (y.toNat : Int))) (idx_str (by kernel_rfl)) fun y19 => ?_
      refine .bd (g := fun (y : Bool) => (bA y)) (h83 ((y19.toNat : Int))) fun y20 => ?_
      refine .s (bA (!y20)) ?_
      refine .biHN (fun hk21 => ?_) (fun hk21 => ?_)
      · exact .ex (x0 _ _ _)
      refine .st (v := (iA (wr .i64 (v17 + 1)))) (aBin_add ..) ?_
      refine .s [] ?_
      refine .cT (by kernel_rfl) ?_
      exact ih _
    exact .ex (x1 _ _ _)
def F65 (n : Nat) (a0 : ByteArray) : Option Bool :=
  Option.bind (bif (decide (((a0.size : Int)) < 1)) then (some true) else (some (decide (32 < ((a0.size : Int)))))) fun y2 => Option.bind (bif y2 then (some true) else (Option.bind (getI (bstrL a0) 0) fun y7 => Option.bind (G82 ((y7.toNat : Int))) fun y8 => some (!y8))) fun y9 => bif y9 then (some false) else (Option.bind (F65_65_0 n a0 false (n+8) 0) fun o22 => match o22 with | (Sum.inl y23) => some y23 | (Sum.inr _) => some true)
theorem T65 (C : Nat → List A → Option A) (n : Nat) (h82 : Orc82 C) (h83 : Orc83 C) (a0 : ByteArray) : J (fun (o : R) y => ∃ v, o.1 = .ret v ∧ snapE o.2 v = (bA y)) (evCall1 (cx C) (evCall (cx C) (n+8)) (evCallY (cx C) (n+8)) (n+8) 65 [(A.v (Value.string a0))] [] 0) some (F65 n a0) some := by
  refine .lp (e65 ..) ?_
  unfold F65
  refine .s (iA ((a0.size : Int))) ?_
  refine .st (v := (bA (decide (((a0.size : Int)) < 1)))) (aBin_lss ..) ?_
  refine .bg (fun t (y : Bool) => ∃ j3 j4 j5 : A, t = [(bA y), j3, j4, j5]) ?_ ?_
  · refine .biH (fun hk1 => ?_) (fun hk1 => ?_)
    · exact .lg ⟨_, _, _, rfl⟩
    refine .s (iA ((a0.size : Int))) ?_
    refine .st (v := (bA (decide (32 < ((a0.size : Int)))))) (aBin_gtr ..) ?_
    exact .lg ⟨_, _, _, rfl⟩
  rintro _ y2 ⟨j3, j4, j5, rfl⟩
  iterate 4 refine .uc ?_
  refine .bg (fun t (y : Bool) => ∃ j10 j11 j12 j13 : A, t = [(bA y), j10, j11, j12, j13]) ?_ ?_
  · refine .biH (fun hk6 => ?_) (fun hk6 => ?_)
    · exact .lg ⟨_, _, _, _, rfl⟩
    refine .bd (g := fun (y : UInt8) => A.v (Value.int .u8 (y.toNat : Int))) (idx_str (by kernel_rfl)) fun y7 => ?_
    refine .bd (g := fun (y : Bool) => (bA y)) (h82 ((y7.toNat : Int))) fun y8 => ?_
    refine .s (bA (!y8)) ?_
    exact .lg ⟨_, _, _, _, rfl⟩
  rintro _ y9 ⟨j10, j11, j12, j13, rfl⟩
  iterate 5 refine .uc ?_
  refine .biHN (fun hk14 => ?_) (fun hk14 => ?_)
  · exact .lf rfl rfl ⟨_, rfl, rfl⟩
  refine .as (T65_65_0 C n h82 h83 a0 false _ _ _ _ ?_ ?_ _ 0)
  · intro y23 j24 j25
    refine .un rfl ?_
    exact .lf rfl rfl ⟨_, rfl, rfl⟩
  · intro j26 j27 j28
    refine .un rfl ?_
    refine .cT (by kernel_rfl) ?_
    exact .lf rfl rfl ⟨_, rfl, rfl⟩
def G65 (a0 : ByteArray) : Option Bool := F65 fuel0 a0
def Orc65 (C : Nat → List A → Option A) : Prop := ∀ (a0 : ByteArray), C 65 [(A.v (Value.string a0))] = (G65 a0).map fun y => (bA y)
def F66 (n : Nat) (a0 : Int) (a1 : Int) (a2 : Int) : Option Bool :=
  Option.bind (bif (decide (a1 ≤ a0)) then (some (decide (a0 ≤ a2))) else (some false)) fun y2 => some y2
theorem T66 (C : Nat → List A → Option A) (n : Nat) (a0 : Int) (a1 : Int) (a2 : Int) : J (fun (o : R) y => ∃ v, o.1 = .ret v ∧ snapE o.2 v = (bA y)) (evCall1 (cx C) (evCall (cx C) (n+8)) (evCallY (cx C) (n+8)) (n+8) 66 [(iA a0), (iA a1), (iA a2)] [] 0) some (F66 n a0 a1 a2) some := by
  refine .lp (e66 ..) ?_
  unfold F66
  refine .st (v := (bA (decide (a1 ≤ a0)))) (aBin_geq ..) ?_
  refine .bg (fun t (y : Bool) => ∃ j3 j4 j5 : A, t = [(bA y), j3, j4, j5]) ?_ ?_
  · refine .biH (fun hk1 => ?_) (fun hk1 => ?_)
    · refine .st (v := (bA (decide (a0 ≤ a2)))) (aBin_leq ..) ?_
      exact .lg ⟨_, _, _, rfl⟩
    exact .lg ⟨_, _, _, rfl⟩
  rintro _ y2 ⟨j3, j4, j5, rfl⟩
  iterate 4 refine .uc ?_
  exact .lf rfl rfl ⟨_, rfl, rfl⟩
def G66 (a0 : Int) (a1 : Int) (a2 : Int) : Option Bool := F66 fuel0 a0 a1 a2
def Orc66 (C : Nat → List A → Option A) : Prop := ∀ (a0 : Int) (a1 : Int) (a2 : Int), C 66 [(iA a0), (iA a1), (iA a2)] = (G66 a0 a1 a2).map fun y => (bA y)
def F67 (n : Nat) (a0 : (Int × Int × Int)) (a1 : Int) : Option Bool :=
  Option.bind (G66 a0.1 1 a1) fun y1 => Option.bind (bif y1 then (Option.bind (G66 a0.2.1 1 a1) fun y3 => some y3) else (some false)) fun y4 => Option.bind (bif y4 then (Option.bind (G66 a0.2.2 1 a1) fun y10 => some y10) else (some false)) fun y11 => some y11
theorem T67 (C : Nat → List A → Option A) (n : Nat) (h66 : Orc66 C) (a0 : (Int × Int × Int)) (a1 : Int) : J (fun (o : R) y => ∃ v, o.1 = .ret v ∧ snapE o.2 v = (bA y)) (evCall1 (cx C) (evCall (cx C) (n+8)) (evCallY (cx C) (n+8)) (n+8) 67 [(A.agg [(iA a0.1), (iA a0.2.1), (iA a0.2.2)]), (iA a1)] [] 0) some (F67 n a0 a1) some := by
  refine .lp (e67 ..) ?_
  unfold F67
  refine .s ((A.ptr 0 0), [Blk.box [(iA a0.1), (iA a0.2.1), (iA a0.2.2)]]) (.s (A.ptr 0 0) (.s (iA a0.1) ?_))
  refine .bd (g := fun (y : Bool) => (bA y)) (h66 a0.1 1 a1) fun y1 => ?_
  refine .bg (fun t (y : Bool) => ∃ j5 j6 j7 j8 : A, t = [(bA y), j5, j6, j7, j8]) ?_ ?_
  · refine .biH (fun hk2 => ?_) (fun hk2 => ?_)
    · refine .s (A.ptr 0 1) (.s (iA a0.2.1) ?_)
      refine .bd (g := fun (y : Bool) => (bA y)) (h66 a0.2.1 1 a1) fun y3 => ?_
      exact .lg ⟨_, _, _, _, rfl⟩
    exact .lg ⟨_, _, _, _, rfl⟩
  rintro _ y4 ⟨j5, j6, j7, j8, rfl⟩
  iterate 5 refine .uc ?_
  refine .bg (fun t (y : Bool) => ∃ j12 j13 j14 j15 : A, t = [(bA y), j12, j13, j14, j15]) ?_ ?_
  · refine .biH (fun hk9 => ?_) (fun hk9 => ?_)
    · refine .s (A.ptr 0 2) (.s (iA a0.2.2) ?_)
      refine .bd (g := fun (y : Bool) => (bA y)) (h66 a0.2.2 1 a1) fun y10 => ?_
      exact .lg ⟨_, _, _, _, rfl⟩
    exact .lg ⟨_, _, _, _, rfl⟩
  rintro _ y11 ⟨j12, j13, j14, j15, rfl⟩
  iterate 5 refine .uc ?_
  exact .lf rfl rfl ⟨_, rfl, rfl⟩
def G67 (a0 : (Int × Int × Int)) (a1 : Int) : Option Bool := F67 fuel0 a0 a1
def Orc67 (C : Nat → List A → Option A) : Prop := ∀ (a0 : (Int × Int × Int)) (a1 : Int), C 67 [(A.agg [(iA a0.1), (iA a0.2.1), (iA a0.2.2)]), (iA a1)] = (G67 a0 a1).map fun y => (bA y)
def F39 (n : Nat) (a0 : S_Body) : Option Int :=
  Option.bind (G65 a0.Name) fun y1 => Option.bind (bif (!y1) then (some true) else (Option.bind (G66 a0.Weight 1 500) fun y3 => some (!y3))) fun y4 => Option.bind (bif y4 then (some true) else (Option.bind (G66 a0.Lift 0 500) fun y10 => some (!y10))) fun y11 => Option.bind (bif y11 then (some true) else (Option.bind (G66 a0.Girth 1 4) fun y17 => some (!y17))) fun y18 => Option.bind (bif y18 then (some true) else (Option.bind (G66 a0.Step 1 16) fun y24 => some (!y24))) fun y25 => Option.bind (bif y25 then (some true) else (Option.bind (G66 a0.Jump 0 16) fun y31 => some (!y31))) fun y32 => bif y32 then (some 250) else (Option.bind (G67 a0.Reach 8) fun y38 => Option.bind (bif (!y38) then (some true) else (Option.bind (G67 a0.Speed 1048576) fun y40 => some (!y40))) fun y41 => Option.bind (bif y41 then (some true) else (Option.bind (G67 a0.Top 3) fun y47 => some (!y47))) fun y48 => Option.bind (bif y48 then (some true) else (Option.bind (G66 a0.Effort 0 1048576) fun y54 => some (!y54))) fun y55 => Option.bind (bif y55 then (some true) else (Option.bind (G66 a0.Recover 0 1048576) fun y61 => some (!y61))) fun y62 => bif y62 then (some 250) else (some 0))
theorem T39 (C : Nat → List A → Option A) (n : Nat) (h65 : Orc65 C) (h66 : Orc66 C) (h67 : Orc67 C) (a0 : S_Body) : J (fun (o : R) y => ∃ v, o.1 = .ret v ∧ snapE o.2 v = (iA y)) (evCall1 (cx C) (evCall (cx C) (n+8)) (evCallY (cx C) (n+8)) (n+8) 39 [(A.agg (c_S_Body a0))] [] 0) some (F39 n a0) some := by
  refine .lp (e39 ..) ?_
  unfold F39
  refine .s ((A.ptr 0 0), [Blk.box (c_S_Body a0)]) (.s (A.ptr 0 0) (.s (A.v (Value.string a0.Name)) ?_))
  refine .bd (g := fun (y : Bool) => (bA y)) (h65 a0.Name) fun y1 => ?_
  refine .s (bA (!y1)) ?_
  refine .bg (fun t (y : Bool) => ∃ j5 j6 j7 j8 : A, t = [(bA y), j5, j6, j7, j8]) ?_ ?_
  · refine .biH (fun hk2 => ?_) (fun hk2 => ?_)
    · exact .lg ⟨_, _, _, _, rfl⟩
    refine .s (A.ptr 0 1) (.s (iA a0.Weight) ?_)
    refine .bd (g := fun (y : Bool) => (bA y)) (h66 a0.Weight 1 500) fun y3 => ?_
    refine .s (bA (!y3)) ?_
    exact .lg ⟨_, _, _, _, rfl⟩
  rintro _ y4 ⟨j5, j6, j7, j8, rfl⟩
  iterate 5 refine .uc ?_
  refine .bg (fun t (y : Bool) => ∃ j12 j13 j14 j15 : A, t = [(bA y), j12, j13, j14, j15]) ?_ ?_
  · refine .biH (fun hk9 => ?_) (fun hk9 => ?_)
    · exact .lg ⟨_, _, _, _, rfl⟩
    refine .s (A.ptr 0 2) (.s (iA a0.Lift) ?_)
    refine .bd (g := fun (y : Bool) => (bA y)) (h66 a0.Lift 0 500) fun y10 => ?_
    refine .s (bA (!y10)) ?_
    exact .lg ⟨_, _, _, _, rfl⟩
  rintro _ y11 ⟨j12, j13, j14, j15, rfl⟩
  iterate 5 refine .uc ?_
  refine .bg (fun t (y : Bool) => ∃ j19 j20 j21 j22 : A, t = [(bA y), j19, j20, j21, j22]) ?_ ?_
  · refine .biH (fun hk16 => ?_) (fun hk16 => ?_)
    · exact .lg ⟨_, _, _, _, rfl⟩
    refine .s (A.ptr 0 3) (.s (iA a0.Girth) ?_)
    refine .bd (g := fun (y : Bool) => (bA y)) (h66 a0.Girth 1 4) fun y17 => ?_
    refine .s (bA (!y17)) ?_
    exact .lg ⟨_, _, _, _, rfl⟩
  rintro _ y18 ⟨j19, j20, j21, j22, rfl⟩
  iterate 5 refine .uc ?_
  refine .bg (fun t (y : Bool) => ∃ j26 j27 j28 j29 : A, t = [(bA y), j26, j27, j28, j29]) ?_ ?_
  · refine .biH (fun hk23 => ?_) (fun hk23 => ?_)
    · exact .lg ⟨_, _, _, _, rfl⟩
    refine .s (A.ptr 0 4) (.s (iA a0.Step) ?_)
    refine .bd (g := fun (y : Bool) => (bA y)) (h66 a0.Step 1 16) fun y24 => ?_
    refine .s (bA (!y24)) ?_
    exact .lg ⟨_, _, _, _, rfl⟩
  rintro _ y25 ⟨j26, j27, j28, j29, rfl⟩
  iterate 5 refine .uc ?_
  refine .bg (fun t (y : Bool) => ∃ j33 j34 j35 j36 : A, t = [(bA y), j33, j34, j35, j36]) ?_ ?_
  · refine .biH (fun hk30 => ?_) (fun hk30 => ?_)
    · exact .lg ⟨_, _, _, _, rfl⟩
    refine .s (A.ptr 0 5) (.s (iA a0.Jump) ?_)
    refine .bd (g := fun (y : Bool) => (bA y)) (h66 a0.Jump 0 16) fun y31 => ?_
    refine .s (bA (!y31)) ?_
    exact .lg ⟨_, _, _, _, rfl⟩
  rintro _ y32 ⟨j33, j34, j35, j36, rfl⟩
  iterate 5 refine .uc ?_
  refine .biHN (fun hk37 => ?_) (fun hk37 => ?_)
  · exact .lf rfl rfl ⟨_, rfl, rfl⟩
  refine .s (A.ptr 0 6) (.s (A.agg [(iA a0.Reach.1), (iA a0.Reach.2.1), (iA a0.Reach.2.2)]) ?_)
  refine .bd (g := fun (y : Bool) => (bA y)) (h67 a0.Reach 8) fun y38 => ?_
  refine .s (bA (!y38)) ?_
  refine .bg (fun t (y : Bool) => ∃ j42 j43 j44 j45 : A, t = [(bA y), j42, j43, j44, j45]) ?_ ?_
  · refine .biH (fun hk39 => ?_) (fun hk39 => ?_)
    · exact .lg ⟨_, _, _, _, rfl⟩
    refine .s (A.ptr 0 9) (.s (A.agg [(iA a0.Speed.1), (iA a0.Speed.2.1), (iA a0.Speed.2.2)]) ?_)
    refine .bd (g := fun (y : Bool) => (bA y)) (h67 a0.Speed 1048576) fun y40 => ?_
    refine .s (bA (!y40)) ?_
    exact .lg ⟨_, _, _, _, rfl⟩
  rintro _ y41 ⟨j42, j43, j44, j45, rfl⟩
  iterate 5 refine .uc ?_
  refine .bg (fun t (y : Bool) => ∃ j49 j50 j51 j52 : A, t = [(bA y), j49, j50, j51, j52]) ?_ ?_
  · refine .biH (fun hk46 => ?_) (fun hk46 => ?_)
    · exact .lg ⟨_, _, _, _, rfl⟩
    refine .s (A.ptr 0 12) (.s (A.agg [(iA a0.Top.1), (iA a0.Top.2.1), (iA a0.Top.2.2)]) ?_)
    refine .bd (g := fun (y : Bool) => (bA y)) (h67 a0.Top 3) fun y47 => ?_
    refine .s (bA (!y47)) ?_
    exact .lg ⟨_, _, _, _, rfl⟩
  rintro _ y48 ⟨j49, j50, j51, j52, rfl⟩
  iterate 5 refine .uc ?_
  refine .bg (fun t (y : Bool) => ∃ j56 j57 j58 j59 : A, t = [(bA y), j56, j57, j58, j59]) ?_ ?_
  · refine .biH (fun hk53 => ?_) (fun hk53 => ?_)
    · exact .lg ⟨_, _, _, _, rfl⟩
    refine .s (A.ptr 0 15) (.s (iA a0.Effort) ?_)
    refine .bd (g := fun (y : Bool) => (bA y)) (h66 a0.Effort 0 1048576) fun y54 => ?_
    refine .s (bA (!y54)) ?_
    exact .lg ⟨_, _, _, _, rfl⟩
  rintro _ y55 ⟨j56, j57, j58, j59, rfl⟩
  iterate 5 refine .uc ?_
  refine .bg (fun t (y : Bool) => ∃ j63 j64 j65 j66 : A, t = [(bA y), j63, j64, j65, j66]) ?_ ?_
  · refine .biH (fun hk60 => ?_) (fun hk60 => ?_)
    · exact .lg ⟨_, _, _, _, rfl⟩
    refine .s (A.ptr 0 16) (.s (iA a0.Recover) ?_)
    refine .bd (g := fun (y : Bool) => (bA y)) (h66 a0.Recover 0 1048576) fun y61 => ?_
    refine .s (bA (!y61)) ?_
    exact .lg ⟨_, _, _, _, rfl⟩
  rintro _ y62 ⟨j63, j64, j65, j66, rfl⟩
  iterate 5 refine .uc ?_
  refine .biHN (fun hk67 => ?_) (fun hk67 => ?_)
  · exact .lf rfl rfl ⟨_, rfl, rfl⟩
  exact .lf rfl rfl ⟨_, rfl, rfl⟩
def G39 (a0 : S_Body) : Option Int := F39 fuel0 a0
def Orc39 (C : Nat → List A → Option A) : Prop := ∀ (a0 : S_Body), C 39 [(A.agg (c_S_Body a0))] = (G39 a0).map fun y => (iA y)
def F40 (n : Nat) (a0 : Int) (a1 : Int) (a2 : Int) : Option S_Box :=
  some ((S_Box.mk ((S_Range.mk (wr .i64 (a0 - a2)) (wr .i64 (a0 + a2)))) ((S_Range.mk (wr .i64 (a1 - a2)) (wr .i64 (a1 + a2))))))
theorem T40 (C : Nat → List A → Option A) (n : Nat) (a0 : Int) (a1 : Int) (a2 : Int) : J (fun (o : R) y => ∃ v, o.1 = .ret v ∧ snapE o.2 v = (A.agg [(iA y.X.Lo), (iA y.X.Hi), (iA y.Y.Lo), (iA y.Y.Hi)])) (evCall1 (cx C) (evCall (cx C) (n+8)) (evCallY (cx C) (n+8)) (n+8) 40 [(iA a0), (iA a1), (iA a2)] [] 0) some (F40 n a0 a1 a2) some := by
  refine .lp (e40 ..) ?_
  unfold F40
  refine .s ((A.ptr 0 0), [Blk.box [(iA 0), (iA 0), (iA 0), (iA 0)]]) ?_
  refine .st (v := (iA (wr .i64 (a0 - a2)))) (aBin_sub ..) ?_
  refine .st (v := (iA (wr .i64 (a0 + a2)))) (aBin_add ..) ?_
  refine .s (A.agg [(iA (wr .i64 (a0 - a2))), (iA (wr .i64 (a0 + a2)))]) ?_
  refine .st (v := (iA (wr .i64 (a1 - a2)))) (aBin_sub ..) ?_
  refine .st (v := (iA (wr .i64 (a1 + a2)))) (aBin_add ..) ?_
  refine .s (A.agg [(iA (wr .i64 (a1 - a2))), (iA (wr .i64 (a1 + a2)))]) (.s (A.agg [(iA (wr .i64 (a0 - a2))), (iA (wr .i64 (a0 + a2))), (iA (wr .i64 (a1 - a2))), (iA (wr .i64 (a1 + a2)))]) (.s [Blk.box [(iA (wr .i64 (a0 - a2))), (iA (wr .i64 (a0 + a2))), (iA (wr .i64 (a1 - a2))), (iA (wr .i64 (a1 + a2)))]] (.s (A.agg [(iA (wr .i64 (a0 - a2))), (iA (wr .i64 (a0 + a2))), (iA (wr .i64 (a1 - a2))), (iA (wr .i64 (a1 + a2)))]) ?_)))
  exact .lf rfl rfl ⟨_, rfl, rfl⟩
def G40 (a0 : Int) (a1 : Int) (a2 : Int) : Option S_Box := F40 fuel0 a0 a1 a2
def Orc40 (C : Nat → List A → Option A) : Prop := ∀ (a0 : Int) (a1 : Int) (a2 : Int), C 40 [(iA a0), (iA a1), (iA a2)] = (G40 a0 a1 a2).map fun y => (A.agg [(iA y.X.Lo), (iA y.X.Hi), (iA y.Y.Lo), (iA y.Y.Hi)])
def F62 (n : Nat) (a0 : Int) (a1 : Int) : Option (Int × Int) :=
  Option.bind (bif (decide (a0 < 0)) then (some true) else (some (decide (8 < a0)))) fun y2 => Option.bind (bif y2 then (some true) else (some (decide (a1 < 0)))) fun y6 => Option.bind (bif y6 then (some true) else (some (decide (7 < a1)))) fun y10 => bif y10 then (some ((0, 150))) else (bif (a0 == 0) then (some ((0, 0))) else (some ((wr .i64 ((Int.tmod (wr .i64 ((wr .i64 (a0 - 1)) + a1)) 8) + 1), 0))))
theorem T62 (C : Nat → List A → Option A) (n : Nat) (a0 : Int) (a1 : Int) : J (fun (o : R) y => ∃ v, o.1 = .ret v ∧ snapE o.2 v = (A.tup [(iA y.1), (iA y.2)])) (evCall1 (cx C) (evCall (cx C) (n+8)) (evCallY (cx C) (n+8)) (n+8) 62 [(iA a0), (iA a1)] [] 0) some (F62 n a0 a1) some := by
  refine .lp (e62 ..) ?_
  unfold F62
  refine .st (v := (bA (decide (a0 < 0)))) (aBin_lss ..) ?_
  refine .bg (fun t (y : Bool) => ∃ j3 j4 : A, t = [(bA y), j3, j4]) ?_ ?_
  · refine .biH (fun hk1 => ?_) (fun hk1 => ?_)
    · exact .lg ⟨_, _, rfl⟩
    refine .st (v := (bA (decide (8 < a0)))) (aBin_gtr ..) ?_
    exact .lg ⟨_, _, rfl⟩
  rintro _ y2 ⟨j3, j4, rfl⟩
  iterate 3 refine .uc ?_
  refine .bg (fun t (y : Bool) => ∃ j7 j8 : A, t = [(bA y), j7, j8]) ?_ ?_
  · refine .biH (fun hk5 => ?_) (fun hk5 => ?_)
    · exact .lg ⟨_, _, rfl⟩
    refine .st (v := (bA (decide (a1 < 0)))) (aBin_lss ..) ?_
    exact .lg ⟨_, _, rfl⟩
  rintro _ y6 ⟨j7, j8, rfl⟩
  iterate 3 refine .uc ?_
  refine .bg (fun t (y : Bool) => ∃ j11 j12 : A, t = [(bA y), j11, j12]) ?_ ?_
  · refine .biH (fun hk9 => ?_) (fun hk9 => ?_)
    · exact .lg ⟨_, _, rfl⟩
    refine .st (v := (bA (decide (7 < a1)))) (aBin_gtr ..) ?_
    exact .lg ⟨_, _, rfl⟩
  rintro _ y10 ⟨j11, j12, rfl⟩
  iterate 3 refine .uc ?_
  refine .biHN (fun hk13 => ?_) (fun hk13 => ?_)
  · exact .lf rfl rfl ⟨_, rfl, rfl⟩
  refine .st (v := (bA (a0 == 0))) (aBin_eql ..) ?_
  refine .biHN (fun hk14 => ?_) (fun hk14 => ?_)
  · exact .lf rfl rfl ⟨_, rfl, rfl⟩
  refine .st (v := (iA (wr .i64 (a0 - 1)))) (aBin_sub ..) ?_
  refine .st (v := (iA (wr .i64 ((wr .i64 (a0 - 1)) + a1)))) (aBin_add ..) ?_
  refine .st (v := (iA (Int.tmod (wr .i64 ((wr .i64 (a0 - 1)) + a1)) 8))) (aBin_rem (hb := by decide) ..) ?_
  refine .st (v := (iA (wr .i64 ((Int.tmod (wr .i64 ((wr .i64 (a0 - 1)) + a1)) 8) + 1)))) (aBin_add ..) ?_
  exact .lf rfl rfl ⟨_, rfl, rfl⟩
def G62 (a0 : Int) (a1 : Int) : Option (Int × Int) := F62 fuel0 a0 a1
def Orc62 (C : Nat → List A → Option A) : Prop := ∀ (a0 : Int) (a1 : Int), C 62 [(iA a0), (iA a1)] = (G62 a0 a1).map fun y => (A.tup [(iA y.1), (iA y.2)])
def F63 (n : Nat) (a0 : Int) : Option (Int × Int × Int) :=
  bif (a0 == 1) then (some ((0, 29, 0))) else (bif (a0 == 2) then (some ((20, 21, 0))) else (bif (a0 == 3) then (some ((29, 0, 0))) else (bif (a0 == 4) then (some ((20, -21, 0))) else (bif (a0 == 5) then (some ((0, -29, 0))) else (bif (a0 == 6) then (some ((-20, -21, 0))) else (bif (a0 == 7) then (some ((-29, 0, 0))) else (bif (a0 == 8) then (some ((-20, 21, 0))) else (some ((0, 0, 150))))))))))
theorem T63 (C : Nat → List A → Option A) (n : Nat) (a0 : Int) : J (fun (o : R) y => ∃ v, o.1 = .ret v ∧ snapE o.2 v = (A.tup [(iA y.1), (iA y.2.1), (iA y.2.2)])) (evCall1 (cx C) (evCall (cx C) (n+8)) (evCallY (cx C) (n+8)) (n+8) 63 [(iA a0)] [] 0) some (F63 n a0) some := by
  refine .lp (e63 ..) ?_
  unfold F63
  refine .st (v := (bA (a0 == 1))) (aBin_eql ..) ?_
  refine .biHN (fun hk1 => ?_) (fun hk1 => ?_)
  · exact .lf rfl rfl ⟨_, rfl, rfl⟩
  refine .st (v := (bA (a0 == 2))) (aBin_eql ..) ?_
  refine .biHN (fun hk2 => ?_) (fun hk2 => ?_)
  · exact .lf rfl rfl ⟨_, rfl, rfl⟩
  refine .st (v := (bA (a0 == 3))) (aBin_eql ..) ?_
  refine .biHN (fun hk3 => ?_) (fun hk3 => ?_)
  · exact .lf rfl rfl ⟨_, rfl, rfl⟩
  refine .st (v := (bA (a0 == 4))) (aBin_eql ..) ?_
  refine .biHN (fun hk4 => ?_) (fun hk4 => ?_)
  · exact .lf rfl rfl ⟨_, rfl, rfl⟩
  refine .st (v := (bA (a0 == 5))) (aBin_eql ..) ?_
  refine .biHN (fun hk5 => ?_) (fun hk5 => ?_)
  · exact .lf rfl rfl ⟨_, rfl, rfl⟩
  refine .st (v := (bA (a0 == 6))) (aBin_eql ..) ?_
  refine .biHN (fun hk6 => ?_) (fun hk6 => ?_)
  · exact .lf rfl rfl ⟨_, rfl, rfl⟩
  refine .st (v := (bA (a0 == 7))) (aBin_eql ..) ?_
  refine .biHN (fun hk7 => ?_) (fun hk7 => ?_)
  · exact .lf rfl rfl ⟨_, rfl, rfl⟩
  refine .st (v := (bA (a0 == 8))) (aBin_eql ..) ?_
  refine .biHN (fun hk8 => ?_) (fun hk8 => ?_)
  · exact .lf rfl rfl ⟨_, rfl, rfl⟩
  exact .lf rfl rfl ⟨_, rfl, rfl⟩
def G63 (a0 : Int) : Option (Int × Int × Int) := F63 fuel0 a0
def Orc63 (C : Nat → List A → Option A) : Prop := ∀ (a0 : Int), C 63 [(iA a0)] = (G63 a0).map fun y => (A.tup [(iA y.1), (iA y.2.1), (iA y.2.2)])
def F68 (n : Nat) (a0 : Int) (a1 : Int) : Option (S_Vec × Int) :=
  Option.bind (bif (decide (a0 < 0)) then (some true) else (some (decide (8 < a0)))) fun y2 => Option.bind (bif y2 then (some true) else (some (decide (a1 < 1)))) fun y6 => Option.bind (bif y6 then (some true) else (some (decide (3 < a1)))) fun y10 => bif y10 then (some (((S_Vec.mk 0 0 0), 150))) else (bif (a0 == 0) then (some (((S_Vec.mk 0 0 (wr .i64 (841 * (wr .i64 (a1 - 2))))), 0))) else (Option.bind (G63 a0) fun y15 => bif (a1 == 2) then (some (((S_Vec.mk (wr .i64 (29 * y15.1)) (wr .i64 (29 * y15.2.1)) 0), 0))) else (some (((S_Vec.mk (wr .i64 (20 * y15.1)) (wr .i64 (20 * y15.2.1)) (wr .i64 (609 * (wr .i64 (a1 - 2))))), 0)))))
theorem T68 (C : Nat → List A → Option A) (n : Nat) (h63 : Orc63 C) (a0 : Int) (a1 : Int) : J (fun (o : R) y => ∃ v, o.1 = .ret v ∧ snapE o.2 v = (A.tup [(A.agg [(iA y.1.X), (iA y.1.Y), (iA y.1.Z)]), (iA y.2)])) (evCall1 (cx C) (evCall (cx C) (n+8)) (evCallY (cx C) (n+8)) (n+8) 68 [(iA a0), (iA a1)] [] 0) some (F68 n a0 a1) some := by
  refine .lp (e68 ..) ?_
  unfold F68
  refine .s ((A.ptr 0 0), [Blk.box [(iA 0), (iA 0), (iA 0)]]) ?_
  refine .st (v := (bA (decide (a0 < 0)))) (aBin_lss ..) ?_
  refine .bg (fun t (y : Bool) => ∃ j3 j4 : A, t = [(bA y), j3, j4]) ?_ ?_
  · refine .biH (fun hk1 => ?_) (fun hk1 => ?_)
    · exact .lg ⟨_, _, rfl⟩
    refine .st (v := (bA (decide (8 < a0)))) (aBin_gtr ..) ?_
    exact .lg ⟨_, _, rfl⟩
  rintro _ y2 ⟨j3, j4, rfl⟩
  iterate 3 refine .uc ?_
  refine .bg (fun t (y : Bool) => ∃ j7 j8 : A, t = [(bA y), j7, j8]) ?_ ?_
  · refine .biH (fun hk5 => ?_) (fun hk5 => ?_)
    · exact .lg ⟨_, _, rfl⟩
    refine .st (v := (bA (decide (a1 < 1)))) (aBin_lss ..) ?_
    exact .lg ⟨_, _, rfl⟩
  rintro _ y6 ⟨j7, j8, rfl⟩
  iterate 3 refine .uc ?_
  refine .bg (fun t (y : Bool) => ∃ j11 j12 : A, t = [(bA y), j11, j12]) ?_ ?_
  · refine .biH (fun hk9 => ?_) (fun hk9 => ?_)
    · exact .lg ⟨_, _, rfl⟩
    refine .st (v := (bA (decide (3 < a1)))) (aBin_gtr ..) ?_
    exact .lg ⟨_, _, rfl⟩
  rintro _ y10 ⟨j11, j12, rfl⟩
  iterate 3 refine .uc ?_
  refine .biHN (fun hk13 => ?_) (fun hk13 => ?_)
  · refine .s (A.agg [(iA 0), (iA 0), (iA 0)]) (.s [Blk.box [(iA 0), (iA 0), (iA 0)]] (.s (A.agg [(iA 0), (iA 0), (iA 0)]) ?_))
    exact .lf rfl rfl ⟨_, rfl, rfl⟩
  refine .st (v := (bA (a0 == 0))) (aBin_eql ..) ?_
  refine .biHN (fun hk14 => ?_) (fun hk14 => ?_)
  · refine .st (v := (iA (wr .i64 (a1 - 2)))) (aBin_sub ..) ?_
    refine .st (v := (iA (wr .i64 (841 * (wr .i64 (a1 - 2)))))) (aBin_mul ..) ?_
    refine .s (A.agg [(iA 0), (iA 0), (iA (wr .i64 (841 * (wr .i64 (a1 - 2)))))]) (.s [Blk.box [(iA 0), (iA 0), (iA (wr .i64 (841 * (wr .i64 (a1 - 2)))))]] (.s (A.agg [(iA 0), (iA 0), (iA (wr .i64 (841 * (wr .i64 (a1 - 2)))))]) ?_))
    exact .lf rfl rfl ⟨_, rfl, rfl⟩
  refine .bd (g := fun (y : (Int × Int × Int)) => (A.tup [(iA y.1), (iA y.2.1), (iA y.2.2)])) (h63 a0) fun y15 => ?_
  refine .s (iA y15.1) (.s (iA y15.2.1) (.s (iA y15.2.2) ?_))
  refine .st (v := (bA (a1 == 2))) (aBin_eql ..) ?_
  refine .biHN (fun hk16 => ?_) (fun hk16 => ?_)
  · refine .st (v := (iA (wr .i64 (29 * y15.1)))) (aBin_mul ..) ?_
    refine .st (v := (iA (wr .i64 (29 * y15.2.1)))) (aBin_mul ..) ?_
    refine .s (A.agg [(iA (wr .i64 (29 * y15.1))), (iA (wr .i64 (29 * y15.2.1))), (iA 0)]) (.s [Blk.box [(iA (wr .i64 (29 * y15.1))), (iA (wr .i64 (29 * y15.2.1))), (iA 0)]] (.s (A.agg [(iA (wr .i64 (29 * y15.1))), (iA (wr .i64 (29 * y15.2.1))), (iA 0)]) ?_))
    exact .lf rfl rfl ⟨_, rfl, rfl⟩
  refine .st (v := (iA (wr .i64 (20 * y15.1)))) (aBin_mul ..) ?_
  refine .st (v := (iA (wr .i64 (20 * y15.2.1)))) (aBin_mul ..) ?_
  refine .st (v := (iA (wr .i64 (a1 - 2)))) (aBin_sub ..) ?_
  refine .st (v := (iA (wr .i64 (609 * (wr .i64 (a1 - 2)))))) (aBin_mul ..) ?_
  refine .s (A.agg [(iA (wr .i64 (20 * y15.1))), (iA (wr .i64 (20 * y15.2.1))), (iA (wr .i64 (609 * (wr .i64 (a1 - 2)))))]) (.s [Blk.box [(iA (wr .i64 (20 * y15.1))), (iA (wr .i64 (20 * y15.2.1))), (iA (wr .i64 (609 * (wr .i64 (a1 - 2)))))]] (.s (A.agg [(iA (wr .i64 (20 * y15.1))), (iA (wr .i64 (20 * y15.2.1))), (iA (wr .i64 (609 * (wr .i64 (a1 - 2)))))]) ?_))
  exact .lf rfl rfl ⟨_, rfl, rfl⟩
def G68 (a0 : Int) (a1 : Int) : Option (S_Vec × Int) := F68 fuel0 a0 a1
def Orc68 (C : Nat → List A → Option A) : Prop := ∀ (a0 : Int) (a1 : Int), C 68 [(iA a0), (iA a1)] = (G68 a0 a1).map fun y => (A.tup [(A.agg [(iA y.1.X), (iA y.1.Y), (iA y.1.Z)]), (iA y.2)])
def F69 (n : Nat) (a0 : Int) : Option Int :=
  some (wr .i64 (Int.tdiv a0 2))
theorem T69 (C : Nat → List A → Option A) (n : Nat) (a0 : Int) : J (fun (o : R) y => ∃ v, o.1 = .ret v ∧ snapE o.2 v = (iA y)) (evCall1 (cx C) (evCall (cx C) (n+8)) (evCallY (cx C) (n+8)) (n+8) 69 [(iA a0)] [] 0) some (F69 n a0) some := by
  refine .lp (e69 ..) ?_
  unfold F69
  refine .st (v := (iA (wr .i64 (Int.tdiv a0 2)))) (aBin_quo (hb := by decide) ..) ?_
  exact .lf rfl rfl ⟨_, rfl, rfl⟩
def G69 (a0 : Int) : Option Int := F69 fuel0 a0
def Orc69 (C : Nat → List A → Option A) : Prop := ∀ (a0 : Int), C 69 [(iA a0)] = (G69 a0).map fun y => (iA y)
def F41 (n : Nat) (a0 : S_State) (a1 : Int) (a2 : S_Body) : Option (Int × Int) :=
  bif decide (a1 = 0) then (Option.bind (G62 a0.Limbs.1.Dir a0.Face) fun y2 => Option.bind (G68 y2.1 a0.Limbs.1.Level) fun y3 => Option.bind (G69 a1) fun y4 => bif decide (y4 = 0) then (some ((wr .i64 (a2.Reach.1 * y3.1.X), wr .i64 (a2.Reach.1 * y3.1.Y)))) else bif decide (y4 = 1) then (some ((wr .i64 (a2.Reach.2.1 * y3.1.X), wr .i64 (a2.Reach.2.1 * y3.1.Y)))) else bif decide (y4 = 2) then (some ((wr .i64 (a2.Reach.2.2 * y3.1.X), wr .i64 (a2.Reach.2.2 * y3.1.Y)))) else none) else bif decide (a1 = 1) then (Option.bind (G62 a0.Limbs.2.1.Dir a0.Face) fun y9 => Option.bind (G68 y9.1 a0.Limbs.2.1.Level) fun y10 => Option.bind (G69 a1) fun y11 => bif decide (y11 = 0) then (some ((wr .i64 (a2.Reach.1 * y10.1.X), wr .i64 (a2.Reach.1 * y10.1.Y)))) else bif decide (y11 = 1) then (some ((wr .i64 (a2.Reach.2.1 * y10.1.X), wr .i64 (a2.Reach.2.1 * y10.1.Y)))) else bif decide (y11 = 2) then (some ((wr .i64 (a2.Reach.2.2 * y10.1.X), wr .i64 (a2.Reach.2.2 * y10.1.Y)))) else none) else bif decide (a1 = 2) then (Option.bind (G62 a0.Limbs.2.2.1.Dir a0.Face) fun y16 => Option.bind (G68 y16.1 a0.Limbs.2.2.1.Level) fun y17 => Option.bind (G69 a1) fun y18 => bif decide (y18 = 0) then (some ((wr .i64 (a2.Reach.1 * y17.1.X), wr .i64 (a2.Reach.1 * y17.1.Y)))) else bif decide (y18 = 1) then (some ((wr .i64 (a2.Reach.2.1 * y17.1.X), wr .i64 (a2.Reach.2.1 * y17.1.Y)))) else bif decide (y18 = 2) then (some ((wr .i64 (a2.Reach.2.2 * y17.1.X), wr .i64 (a2.Reach.2.2 * y17.1.Y)))) else none) else bif decide (a1 = 3) then (Option.bind (G62 a0.Limbs.2.2.2.1.Dir a0.Face) fun y23 => Option.bind (G68 y23.1 a0.Limbs.2.2.2.1.Level) fun y24 => Option.bind (G69 a1) fun y25 => bif decide (y25 = 0) then (some ((wr .i64 (a2.Reach.1 * y24.1.X), wr .i64 (a2.Reach.1 * y24.1.Y)))) else bif decide (y25 = 1) then (some ((wr .i64 (a2.Reach.2.1 * y24.1.X), wr .i64 (a2.Reach.2.1 * y24.1.Y)))) else bif decide (y25 = 2) then (some ((wr .i64 (a2.Reach.2.2 * y24.1.X), wr .i64 (a2.Reach.2.2 * y24.1.Y)))) else none) else bif decide (a1 = 4) then (Option.bind (G62 a0.Limbs.2.2.2.2.Dir a0.Face) fun y30 => Option.bind (G68 y30.1 a0.Limbs.2.2.2.2.Level) fun y31 => Option.bind (G69 a1) fun y32 => bif decide (y32 = 0) then (some ((wr .i64 (a2.Reach.1 * y31.1.X), wr .i64 (a2.Reach.1 * y31.1.Y)))) else bif decide (y32 = 1) then (some ((wr .i64 (a2.Reach.2.1 * y31.1.X), wr .i64 (a2.Reach.2.1 * y31.1.Y)))) else bif decide (y32 = 2) then (some ((wr .i64 (a2.Reach.2.2 * y31.1.X), wr .i64 (a2.Reach.2.2 * y31.1.Y)))) else none) else none
theorem T41 (C : Nat → List A → Option A) (n : Nat) (h62 : Orc62 C) (h68 : Orc68 C) (h69 : Orc69 C) (a0 : S_State) (a1 : Int) (a2 : S_Body) : J (fun (o : R) y => ∃ v, o.1 = .ret v ∧ snapE o.2 v = (A.tup [(iA y.1), (iA y.2)])) (evCall1 (cx C) (evCall (cx C) (n+8)) (evCallY (cx C) (n+8)) (n+8) 41 [(A.agg (c_S_State a0)), (iA a1), (A.agg (c_S_Body a2))] [] 0) some (F41 n a0 a1 a2) some := by
  refine .lp (e41 ..) ?_
  unfold F41
  refine .s ((A.ptr 0 0), [Blk.box (c_S_State a0)]) (.s ((A.ptr 1 0), [Blk.box (c_S_State a0), Blk.box (c_S_Body a2)]) (.s (A.ptr 0 3) ?_))
  refine .sp (fun hb1 => ?_) (fun _ => ?_)
  · refine .st (v := (A.ptr 0 3)) (by rw [of_decide_eq_true hb1]; kernel_rfl) ?_
    refine .s (A.ptr 0 3) (.s (iA a0.Limbs.1.Dir) (.s (A.ptr 0 2) (.s (iA a0.Face) ?_)))
    refine .bd (g := fun (y : (Int × Int)) => (A.tup [(iA y.1), (iA y.2)])) (h62 a0.Limbs.1.Dir a0.Face) fun y2 => ?_
    refine .s (iA y2.1) (.s (iA y2.2) (.s (A.ptr 0 3) ?_))
    refine .st (v := (A.ptr 0 3)) (by rw [of_decide_eq_true hb1]; kernel_rfl) ?_
    refine .s (A.ptr 0 4) (.s (iA a0.Limbs.1.Level) ?_)
    refine .bd (g := fun (y : (S_Vec × Int)) => (A.tup [(A.agg [(iA y.1.X), (iA y.1.Y), (iA y.1.Z)]), (iA y.2)])) (h68 y2.1 a0.Limbs.1.Level) fun y3 => ?_
    refine .s (A.agg (c_S_Vec y3.1)) (.s (iA y3.2) (.s ((A.ptr 2 0), [Blk.box (c_S_State a0), Blk.box (c_S_Body a2), Blk.box [(iA 0), (iA 0), (iA 0)]]) (.s [Blk.box (c_S_State a0), Blk.box (c_S_Body a2), Blk.box (c_S_Vec y3.1)] ?_)))
    refine .bd (g := fun (y : Int) => (iA y)) (h69 a1) fun y4 => ?_
    refine .s (A.ptr 1 6) ?_
    refine .sp (fun hb5 => ?_) (fun _ => ?_)
    · refine .st (v := (A.ptr 1 6)) (by rw [of_decide_eq_true hb5]; kernel_rfl) ?_
      refine .s (iA a2.Reach.1) (.s (A.ptr 2 0) (.s (iA y3.1.X) ?_))
      refine .st (v := (iA (wr .i64 (a2.Reach.1 * y3.1.X)))) (aBin_mul ..) ?_
      refine .s (A.ptr 2 1) (.s (iA y3.1.Y) ?_)
      refine .st (v := (iA (wr .i64 (a2.Reach.1 * y3.1.Y)))) (aBin_mul ..) ?_
      exact .lf rfl rfl ⟨_, rfl, rfl⟩
    refine .sp (fun hb6 => ?_) (fun _ => ?_)
    · refine .st (v := (A.ptr 1 7)) (by rw [of_decide_eq_true hb6]; kernel_rfl) ?_
      refine .s (iA a2.Reach.2.1) (.s (A.ptr 2 0) (.s (iA y3.1.X) ?_))
      refine .st (v := (iA (wr .i64 (a2.Reach.2.1 * y3.1.X)))) (aBin_mul ..) ?_
      refine .s (A.ptr 2 1) (.s (iA y3.1.Y) ?_)
      refine .st (v := (iA (wr .i64 (a2.Reach.2.1 * y3.1.Y)))) (aBin_mul ..) ?_
      exact .lf rfl rfl ⟨_, rfl, rfl⟩
    refine .sp (fun hb7 => ?_) (fun _ => ?_)
    · refine .st (v := (A.ptr 1 8)) (by rw [of_decide_eq_true hb7]; kernel_rfl) ?_
      refine .s (iA a2.Reach.2.2) (.s (A.ptr 2 0) (.s (iA y3.1.X) ?_))
      refine .st (v := (iA (wr .i64 (a2.Reach.2.2 * y3.1.X)))) (aBin_mul ..) ?_
      refine .s (A.ptr 2 1) (.s (iA y3.1.Y) ?_)
      refine .st (v := (iA (wr .i64 (a2.Reach.2.2 * y3.1.Y)))) (aBin_mul ..) ?_
      exact .lf rfl rfl ⟨_, rfl, rfl⟩
    exact .nn
  refine .sp (fun hb8 => ?_) (fun _ => ?_)
  · refine .st (v := (A.ptr 0 5)) (by rw [of_decide_eq_true hb8]; kernel_rfl) ?_
    refine .s (A.ptr 0 5) (.s (iA a0.Limbs.2.1.Dir) (.s (A.ptr 0 2) (.s (iA a0.Face) ?_)))
    refine .bd (g := fun (y : (Int × Int)) => (A.tup [(iA y.1), (iA y.2)])) (h62 a0.Limbs.2.1.Dir a0.Face) fun y9 => ?_
    refine .s (iA y9.1) (.s (iA y9.2) (.s (A.ptr 0 3) ?_))
    refine .st (v := (A.ptr 0 5)) (by rw [of_decide_eq_true hb8]; kernel_rfl) ?_
    refine .s (A.ptr 0 6) (.s (iA a0.Limbs.2.1.Level) ?_)
    refine .bd (g := fun (y : (S_Vec × Int)) => (A.tup [(A.agg [(iA y.1.X), (iA y.1.Y), (iA y.1.Z)]), (iA y.2)])) (h68 y9.1 a0.Limbs.2.1.Level) fun y10 => ?_
    refine .s (A.agg (c_S_Vec y10.1)) (.s (iA y10.2) (.s ((A.ptr 2 0), [Blk.box (c_S_State a0), Blk.box (c_S_Body a2), Blk.box [(iA 0), (iA 0), (iA 0)]]) (.s [Blk.box (c_S_State a0), Blk.box (c_S_Body a2), Blk.box (c_S_Vec y10.1)] ?_)))
    refine .bd (g := fun (y : Int) => (iA y)) (h69 a1) fun y11 => ?_
    refine .s (A.ptr 1 6) ?_
    refine .sp (fun hb12 => ?_) (fun _ => ?_)
    · refine .st (v := (A.ptr 1 6)) (by rw [of_decide_eq_true hb12]; kernel_rfl) ?_
      refine .s (iA a2.Reach.1) (.s (A.ptr 2 0) (.s (iA y10.1.X) ?_))
      refine .st (v := (iA (wr .i64 (a2.Reach.1 * y10.1.X)))) (aBin_mul ..) ?_
      refine .s (A.ptr 2 1) (.s (iA y10.1.Y) ?_)
      refine .st (v := (iA (wr .i64 (a2.Reach.1 * y10.1.Y)))) (aBin_mul ..) ?_
      exact .lf rfl rfl ⟨_, rfl, rfl⟩
    refine .sp (fun hb13 => ?_) (fun _ => ?_)
    · refine .st (v := (A.ptr 1 7)) (by rw [of_decide_eq_true hb13]; kernel_rfl) ?_
      refine .s (iA a2.Reach.2.1) (.s (A.ptr 2 0) (.s (iA y10.1.X) ?_))
      refine .st (v := (iA (wr .i64 (a2.Reach.2.1 * y10.1.X)))) (aBin_mul ..) ?_
      refine .s (A.ptr 2 1) (.s (iA y10.1.Y) ?_)
      refine .st (v := (iA (wr .i64 (a2.Reach.2.1 * y10.1.Y)))) (aBin_mul ..) ?_
      exact .lf rfl rfl ⟨_, rfl, rfl⟩
    refine .sp (fun hb14 => ?_) (fun _ => ?_)
    · refine .st (v := (A.ptr 1 8)) (by rw [of_decide_eq_true hb14]; kernel_rfl) ?_
      refine .s (iA a2.Reach.2.2) (.s (A.ptr 2 0) (.s (iA y10.1.X) ?_))
      refine .st (v := (iA (wr .i64 (a2.Reach.2.2 * y10.1.X)))) (aBin_mul ..) ?_
      refine .s (A.ptr 2 1) (.s (iA y10.1.Y) ?_)
      refine .st (v := (iA (wr .i64 (a2.Reach.2.2 * y10.1.Y)))) (aBin_mul ..) ?_
      exact .lf rfl rfl ⟨_, rfl, rfl⟩
    exact .nn
  refine .sp (fun hb15 => ?_) (fun _ => ?_)
  · refine .st (v := (A.ptr 0 7)) (by rw [of_decide_eq_true hb15]; kernel_rfl) ?_
    refine .s (A.ptr 0 7) (.s (iA a0.Limbs.2.2.1.Dir) (.s (A.ptr 0 2) (.s (iA a0.Face) ?_)))
    refine .bd (g := fun (y : (Int × Int)) => (A.tup [(iA y.1), (iA y.2)])) (h62 a0.Limbs.2.2.1.Dir a0.Face) fun y16 => ?_
    refine .s (iA y16.1) (.s (iA y16.2) (.s (A.ptr 0 3) ?_))
    refine .st (v := (A.ptr 0 7)) (by rw [of_decide_eq_true hb15]; kernel_rfl) ?_
    refine .s (A.ptr 0 8) (.s (iA a0.Limbs.2.2.1.Level) ?_)
    refine .bd (g := fun (y : (S_Vec × Int)) => (A.tup [(A.agg [(iA y.1.X), (iA y.1.Y), (iA y.1.Z)]), (iA y.2)])) (h68 y16.1 a0.Limbs.2.2.1.Level) fun y17 => ?_
    refine .s (A.agg (c_S_Vec y17.1)) (.s (iA y17.2) (.s ((A.ptr 2 0), [Blk.box (c_S_State a0), Blk.box (c_S_Body a2), Blk.box [(iA 0), (iA 0), (iA 0)]]) (.s [Blk.box (c_S_State a0), Blk.box (c_S_Body a2), Blk.box (c_S_Vec y17.1)] ?_)))
    refine .bd (g := fun (y : Int) => (iA y)) (h69 a1) fun y18 => ?_
    refine .s (A.ptr 1 6) ?_
    refine .sp (fun hb19 => ?_) (fun _ => ?_)
    · refine .st (v := (A.ptr 1 6)) (by rw [of_decide_eq_true hb19]; kernel_rfl) ?_
      refine .s (iA a2.Reach.1) (.s (A.ptr 2 0) (.s (iA y17.1.X) ?_))
      refine .st (v := (iA (wr .i64 (a2.Reach.1 * y17.1.X)))) (aBin_mul ..) ?_
      refine .s (A.ptr 2 1) (.s (iA y17.1.Y) ?_)
      refine .st (v := (iA (wr .i64 (a2.Reach.1 * y17.1.Y)))) (aBin_mul ..) ?_
      exact .lf rfl rfl ⟨_, rfl, rfl⟩
    refine .sp (fun hb20 => ?_) (fun _ => ?_)
    · refine .st (v := (A.ptr 1 7)) (by rw [of_decide_eq_true hb20]; kernel_rfl) ?_
      refine .s (iA a2.Reach.2.1) (.s (A.ptr 2 0) (.s (iA y17.1.X) ?_))
      refine .st (v := (iA (wr .i64 (a2.Reach.2.1 * y17.1.X)))) (aBin_mul ..) ?_
      refine .s (A.ptr 2 1) (.s (iA y17.1.Y) ?_)
      refine .st (v := (iA (wr .i64 (a2.Reach.2.1 * y17.1.Y)))) (aBin_mul ..) ?_
      exact .lf rfl rfl ⟨_, rfl, rfl⟩
    refine .sp (fun hb21 => ?_) (fun _ => ?_)
    · refine .st (v := (A.ptr 1 8)) (by rw [of_decide_eq_true hb21]; kernel_rfl) ?_
      refine .s (iA a2.Reach.2.2) (.s (A.ptr 2 0) (.s (iA y17.1.X) ?_))
      refine .st (v := (iA (wr .i64 (a2.Reach.2.2 * y17.1.X)))) (aBin_mul ..) ?_
      refine .s (A.ptr 2 1) (.s (iA y17.1.Y) ?_)
      refine .st (v := (iA (wr .i64 (a2.Reach.2.2 * y17.1.Y)))) (aBin_mul ..) ?_
      exact .lf rfl rfl ⟨_, rfl, rfl⟩
    exact .nn
  refine .sp (fun hb22 => ?_) (fun _ => ?_)
  · refine .st (v := (A.ptr 0 9)) (by rw [of_decide_eq_true hb22]; kernel_rfl) ?_
    refine .s (A.ptr 0 9) (.s (iA a0.Limbs.2.2.2.1.Dir) (.s (A.ptr 0 2) (.s (iA a0.Face) ?_)))
    refine .bd (g := fun (y : (Int × Int)) => (A.tup [(iA y.1), (iA y.2)])) (h62 a0.Limbs.2.2.2.1.Dir a0.Face) fun y23 => ?_
    refine .s (iA y23.1) (.s (iA y23.2) (.s (A.ptr 0 3) ?_))
    refine .st (v := (A.ptr 0 9)) (by rw [of_decide_eq_true hb22]; kernel_rfl) ?_
    refine .s (A.ptr 0 10) (.s (iA a0.Limbs.2.2.2.1.Level) ?_)
    refine .bd (g := fun (y : (S_Vec × Int)) => (A.tup [(A.agg [(iA y.1.X), (iA y.1.Y), (iA y.1.Z)]), (iA y.2)])) (h68 y23.1 a0.Limbs.2.2.2.1.Level) fun y24 => ?_
    refine .s (A.agg (c_S_Vec y24.1)) (.s (iA y24.2) (.s ((A.ptr 2 0), [Blk.box (c_S_State a0), Blk.box (c_S_Body a2), Blk.box [(iA 0), (iA 0), (iA 0)]]) (.s [Blk.box (c_S_State a0), Blk.box (c_S_Body a2), Blk.box (c_S_Vec y24.1)] ?_)))
    refine .bd (g := fun (y : Int) => (iA y)) (h69 a1) fun y25 => ?_
    refine .s (A.ptr 1 6) ?_
    refine .sp (fun hb26 => ?_) (fun _ => ?_)
    · refine .st (v := (A.ptr 1 6)) (by rw [of_decide_eq_true hb26]; kernel_rfl) ?_
      refine .s (iA a2.Reach.1) (.s (A.ptr 2 0) (.s (iA y24.1.X) ?_))
      refine .st (v := (iA (wr .i64 (a2.Reach.1 * y24.1.X)))) (aBin_mul ..) ?_
      refine .s (A.ptr 2 1) (.s (iA y24.1.Y) ?_)
      refine .st (v := (iA (wr .i64 (a2.Reach.1 * y24.1.Y)))) (aBin_mul ..) ?_
      exact .lf rfl rfl ⟨_, rfl, rfl⟩
    refine .sp (fun hb27 => ?_) (fun _ => ?_)
    · refine .st (v := (A.ptr 1 7)) (by rw [of_decide_eq_true hb27]; kernel_rfl) ?_
      refine .s (iA a2.Reach.2.1) (.s (A.ptr 2 0) (.s (iA y24.1.X) ?_))
      refine .st (v := (iA (wr .i64 (a2.Reach.2.1 * y24.1.X)))) (aBin_mul ..) ?_
      refine .s (A.ptr 2 1) (.s (iA y24.1.Y) ?_)
      refine .st (v := (iA (wr .i64 (a2.Reach.2.1 * y24.1.Y)))) (aBin_mul ..) ?_
      exact .lf rfl rfl ⟨_, rfl, rfl⟩
    refine .sp (fun hb28 => ?_) (fun _ => ?_)
    · refine .st (v := (A.ptr 1 8)) (by rw [of_decide_eq_true hb28]; kernel_rfl) ?_
      refine .s (iA a2.Reach.2.2) (.s (A.ptr 2 0) (.s (iA y24.1.X) ?_))
      refine .st (v := (iA (wr .i64 (a2.Reach.2.2 * y24.1.X)))) (aBin_mul ..) ?_
      refine .s (A.ptr 2 1) (.s (iA y24.1.Y) ?_)
      refine .st (v := (iA (wr .i64 (a2.Reach.2.2 * y24.1.Y)))) (aBin_mul ..) ?_
      exact .lf rfl rfl ⟨_, rfl, rfl⟩
    exact .nn
  refine .sp (fun hb29 => ?_) (fun _ => ?_)
  · refine .st (v := (A.ptr 0 11)) (by rw [of_decide_eq_true hb29]; kernel_rfl) ?_
    refine .s (A.ptr 0 11) (.s (iA a0.Limbs.2.2.2.2.Dir) (.s (A.ptr 0 2) (.s (iA a0.Face) ?_)))
    refine .bd (g := fun (y : (Int × Int)) => (A.tup [(iA y.1), (iA y.2)])) (h62 a0.Limbs.2.2.2.2.Dir a0.Face) fun y30 => ?_
    refine .s (iA y30.1) (.s (iA y30.2) (.s (A.ptr 0 3) ?_))
    refine .st (v := (A.ptr 0 11)) (by rw [of_decide_eq_true hb29]; kernel_rfl) ?_
    refine .s (A.ptr 0 12) (.s (iA a0.Limbs.2.2.2.2.Level) ?_)
    refine .bd (g := fun (y : (S_Vec × Int)) => (A.tup [(A.agg [(iA y.1.X), (iA y.1.Y), (iA y.1.Z)]), (iA y.2)])) (h68 y30.1 a0.Limbs.2.2.2.2.Level) fun y31 => ?_
    refine .s (A.agg (c_S_Vec y31.1)) (.s (iA y31.2) (.s ((A.ptr 2 0), [Blk.box (c_S_State a0), Blk.box (c_S_Body a2), Blk.box [(iA 0), (iA 0), (iA 0)]]) (.s [Blk.box (c_S_State a0), Blk.box (c_S_Body a2), Blk.box (c_S_Vec y31.1)] ?_)))
    refine .bd (g := fun (y : Int) => (iA y)) (h69 a1) fun y32 => ?_
    refine .s (A.ptr 1 6) ?_
    refine .sp (fun hb33 => ?_) (fun _ => ?_)
    · refine .st (v := (A.ptr 1 6)) (by rw [of_decide_eq_true hb33]; kernel_rfl) ?_
      refine .s (iA a2.Reach.1) (.s (A.ptr 2 0) (.s (iA y31.1.X) ?_))
      refine .st (v := (iA (wr .i64 (a2.Reach.1 * y31.1.X)))) (aBin_mul ..) ?_
      refine .s (A.ptr 2 1) (.s (iA y31.1.Y) ?_)
      refine .st (v := (iA (wr .i64 (a2.Reach.1 * y31.1.Y)))) (aBin_mul ..) ?_
      exact .lf rfl rfl ⟨_, rfl, rfl⟩
    refine .sp (fun hb34 => ?_) (fun _ => ?_)
    · refine .st (v := (A.ptr 1 7)) (by rw [of_decide_eq_true hb34]; kernel_rfl) ?_
      refine .s (iA a2.Reach.2.1) (.s (A.ptr 2 0) (.s (iA y31.1.X) ?_))
      refine .st (v := (iA (wr .i64 (a2.Reach.2.1 * y31.1.X)))) (aBin_mul ..) ?_
      refine .s (A.ptr 2 1) (.s (iA y31.1.Y) ?_)
      refine .st (v := (iA (wr .i64 (a2.Reach.2.1 * y31.1.Y)))) (aBin_mul ..) ?_
      exact .lf rfl rfl ⟨_, rfl, rfl⟩
    refine .sp (fun hb35 => ?_) (fun _ => ?_)
    · refine .st (v := (A.ptr 1 8)) (by rw [of_decide_eq_true hb35]; kernel_rfl) ?_
      refine .s (iA a2.Reach.2.2) (.s (A.ptr 2 0) (.s (iA y31.1.X) ?_))
      refine .st (v := (iA (wr .i64 (a2.Reach.2.2 * y31.1.X)))) (aBin_mul ..) ?_
      refine .s (A.ptr 2 1) (.s (iA y31.1.Y) ?_)
      refine .st (v := (iA (wr .i64 (a2.Reach.2.2 * y31.1.Y)))) (aBin_mul ..) ?_
      exact .lf rfl rfl ⟨_, rfl, rfl⟩
    exact .nn
  exact .nn
def G41 (a0 : S_State) (a1 : Int) (a2 : S_Body) : Option (Int × Int) := F41 fuel0 a0 a1 a2
def Orc41 (C : Nat → List A → Option A) : Prop := ∀ (a0 : S_State) (a1 : Int) (a2 : S_Body), C 41 [(A.agg (c_S_State a0)), (iA a1), (A.agg (c_S_Body a2))] = (G41 a0 a1 a2).map fun y => (A.tup [(iA y.1), (iA y.2)])
def F84 (n : Nat) (a0 : S_Range) : Option Bool :=
  Option.bind (bif (decide ((-1099511627776) ≤ a0.Lo)) then (some (decide (a0.Lo ≤ a0.Hi))) else (some false)) fun y2 => Option.bind (bif y2 then (some (decide (a0.Hi ≤ 1099511627776))) else (some false)) fun y9 => some y9
theorem T84 (C : Nat → List A → Option A) (n : Nat) (a0 : S_Range) : J (fun (o : R) y => ∃ v, o.1 = .ret v ∧ snapE o.2 v = (bA y)) (evCall1 (cx C) (evCall (cx C) (n+8)) (evCallY (cx C) (n+8)) (n+8) 84 [(A.agg [(iA a0.Lo), (iA a0.Hi)])] [] 0) some (F84 n a0) some := by
  refine .lp (e84 ..) ?_
  unfold F84
  refine .s ((A.ptr 0 0), [Blk.box [(iA a0.Lo), (iA a0.Hi)]]) (.s (A.ptr 0 0) (.s (iA a0.Lo) ?_))
  refine .st (v := (bA (decide ((-1099511627776) ≤ a0.Lo)))) (aBin_geq ..) ?_
  refine .bg (fun t (y : Bool) => ∃ j3 j4 j5 j6 j7 : A, t = [(bA y), j3, j4, j5, j6, j7]) ?_ ?_
  · refine .biH (fun hk1 => ?_) (fun hk1 => ?_)
    · refine .s (A.ptr 0 0) (.s (iA a0.Lo) (.s (A.ptr 0 1) (.s (iA a0.Hi) ?_)))
      refine .st (v := (bA (decide (a0.Lo ≤ a0.Hi)))) (aBin_leq ..) ?_
      exact .lg ⟨_, _, _, _, _, rfl⟩
    exact .lg ⟨_, _, _, _, _, rfl⟩
  rintro _ y2 ⟨j3, j4, j5, j6, j7, rfl⟩
  iterate 6 refine .uc ?_
  refine .bg (fun t (y : Bool) => ∃ j10 j11 j12 : A, t = [(bA y), j10, j11, j12]) ?_ ?_
  · refine .biH (fun hk8 => ?_) (fun hk8 => ?_)
    · refine .s (A.ptr 0 1) (.s (iA a0.Hi) ?_)
      refine .st (v := (bA (decide (a0.Hi ≤ 1099511627776)))) (aBin_leq ..) ?_
      exact .lg ⟨_, _, _, rfl⟩
    exact .lg ⟨_, _, _, rfl⟩
  rintro _ y9 ⟨j10, j11, j12, rfl⟩
  iterate 4 refine .uc ?_
  exact .lf rfl rfl ⟨_, rfl, rfl⟩
def G84 (a0 : S_Range) : Option Bool := F84 fuel0 a0
def Orc84 (C : Nat → List A → Option A) : Prop := ∀ (a0 : S_Range), C 84 [(A.agg [(iA a0.Lo), (iA a0.Hi)])] = (G84 a0).map fun y => (bA y)
def F70 (n : Nat) (a0 : S_Box) : Option Bool :=
  Option.bind (G84 a0.X) fun y1 => Option.bind (bif y1 then (Option.bind (G84 a0.Y) fun y3 => some y3) else (some false)) fun y4 => some y4
theorem T70 (C : Nat → List A → Option A) (n : Nat) (h84 : Orc84 C) (a0 : S_Box) : J (fun (o : R) y => ∃ v, o.1 = .ret v ∧ snapE o.2 v = (bA y)) (evCall1 (cx C) (evCall (cx C) (n+8)) (evCallY (cx C) (n+8)) (n+8) 70 [(A.agg (c_S_Box a0))] [] 0) some (F70 n a0) some := by
  refine .lp (e70 ..) ?_
  unfold F70
  refine .s ((A.ptr 0 0), [Blk.box (c_S_Box a0)]) (.s (A.ptr 0 0) (.s (A.agg [(iA a0.X.Lo), (iA a0.X.Hi)]) ?_))
  refine .bd (g := fun (y : Bool) => (bA y)) (h84 a0.X) fun y1 => ?_
  refine .bg (fun t (y : Bool) => ∃ j5 j6 j7 : A, t = [(bA y), j5, j6, j7]) ?_ ?_
  · refine .biH (fun hk2 => ?_) (fun hk2 => ?_)
    · refine .s (A.ptr 0 2) (.s (A.agg [(iA a0.Y.Lo), (iA a0.Y.Hi)]) ?_)
      refine .bd (g := fun (y : Bool) => (bA y)) (h84 a0.Y) fun y3 => ?_
      exact .lg ⟨_, _, _, rfl⟩
    exact .lg ⟨_, _, _, rfl⟩
  rintro _ y4 ⟨j5, j6, j7, rfl⟩
  iterate 4 refine .uc ?_
  exact .lf rfl rfl ⟨_, rfl, rfl⟩
def G70 (a0 : S_Box) : Option Bool := F70 fuel0 a0
def Orc70 (C : Nat → List A → Option A) : Prop := ∀ (a0 : S_Box), C 70 [(A.agg (c_S_Box a0))] = (G70 a0).map fun y => (bA y)
def F71 (n : Nat) (a0 : S_Range) (a1 : S_Range) : Option S_Range :=
  some ((S_Range.mk ((if a1.Lo < a0.Lo then a1.Lo else a0.Lo)) ((if a0.Hi < a1.Hi then a1.Hi else a0.Hi))))
theorem T71 (C : Nat → List A → Option A) (n : Nat) (a0 : S_Range) (a1 : S_Range) : J (fun (o : R) y => ∃ v, o.1 = .ret v ∧ snapE o.2 v = (A.agg [(iA y.Lo), (iA y.Hi)])) (evCall1 (cx C) (evCall (cx C) (n+8)) (evCallY (cx C) (n+8)) (n+8) 71 [(A.agg [(iA a0.Lo), (iA a0.Hi)]), (A.agg [(iA a1.Lo), (iA a1.Hi)])] [] 0) some (F71 n a0 a1) some := by
  refine .lp (e71 ..) ?_
  unfold F71
  refine .s ((A.ptr 0 0), [Blk.box [(iA a0.Lo), (iA a0.Hi)]]) (.s ((A.ptr 1 0), [Blk.box [(iA a0.Lo), (iA a0.Hi)], Blk.box [(iA a1.Lo), (iA a1.Hi)]]) (.s ((A.ptr 2 0), [Blk.box [(iA a0.Lo), (iA a0.Hi)], Blk.box [(iA a1.Lo), (iA a1.Hi)], Blk.box [(iA 0), (iA 0)]]) (.s (A.ptr 0 0) (.s (iA a0.Lo) (.s (A.ptr 1 0) (.s (iA a1.Lo) (.s (iA ((if a1.Lo < a0.Lo then a1.Lo else a0.Lo))) (.s (A.ptr 0 1) (.s (iA a0.Hi) (.s (A.ptr 1 1) (.s (iA a1.Hi) (.s (iA ((if a0.Hi < a1.Hi then a1.Hi else a0.Hi))) ?_))))))))))))
  refine .s (A.agg [(iA ((if a1.Lo < a0.Lo then a1.Lo else a0.Lo))), (iA ((if a0.Hi < a1.Hi then a1.Hi else a0.Hi)))]) (.s [Blk.box [(iA a0.Lo), (iA a0.Hi)], Blk.box [(iA a1.Lo), (iA a1.Hi)], Blk.box [(iA ((if a1.Lo < a0.Lo then a1.Lo else a0.Lo))), (iA ((if a0.Hi < a1.Hi then a1.Hi else a0.Hi)))]] (.s (A.agg [(iA ((if a1.Lo < a0.Lo then a1.Lo else a0.Lo))), (iA ((if a0.Hi < a1.Hi then a1.Hi else a0.Hi)))]) ?_))
  exact .lf rfl rfl ⟨_, rfl, rfl⟩
def G71 (a0 : S_Range) (a1 : S_Range) : Option S_Range := F71 fuel0 a0 a1
def Orc71 (C : Nat → List A → Option A) : Prop := ∀ (a0 : S_Range) (a1 : S_Range), C 71 [(A.agg [(iA a0.Lo), (iA a0.Hi)]), (A.agg [(iA a1.Lo), (iA a1.Hi)])] = (G71 a0 a1).map fun y => (A.agg [(iA y.Lo), (iA y.Hi)])
def F42 (n : Nat) (a0 : S_Box) (a1 : S_Box) : Option (S_Box × Int) :=
  Option.bind (G70 a0) fun y1 => Option.bind (bif (!y1) then (some true) else (Option.bind (G70 a1) fun y3 => some (!y3))) fun y4 => bif y4 then (some (((S_Box.mk ((S_Range.mk 0 0)) ((S_Range.mk 0 0))), 150))) else (Option.bind (G71 a0.X a1.X) fun y9 => Option.bind (G71 a0.Y a1.Y) fun y10 => some (((S_Box.mk y9 y10), 0)))
theorem T42 (C : Nat → List A → Option A) (n : Nat) (h70 : Orc70 C) (h71 : Orc71 C) (a0 : S_Box) (a1 : S_Box) : J (fun (o : R) y => ∃ v, o.1 = .ret v ∧ snapE o.2 v = (A.tup [(A.agg [(iA y.1.X.Lo), (iA y.1.X.Hi), (iA y.1.Y.Lo), (iA y.1.Y.Hi)]), (iA y.2)])) (evCall1 (cx C) (evCall (cx C) (n+8)) (evCallY (cx C) (n+8)) (n+8) 42 [(A.agg (c_S_Box a0)), (A.agg (c_S_Box a1))] [] 0) some (F42 n a0 a1) some := by
  refine .lp (e42 ..) ?_
  unfold F42
  refine .s ((A.ptr 0 0), [Blk.box (c_S_Box a0)]) (.s ((A.ptr 1 0), [Blk.box (c_S_Box a0), Blk.box (c_S_Box a1)]) (.s ((A.ptr 2 0), [Blk.box (c_S_Box a0), Blk.box (c_S_Box a1), Blk.box [(iA 0), (iA 0), (iA 0), (iA 0)]]) (.s (A.agg (c_S_Box a0)) ?_)))
  refine .bd (g := fun (y : Bool) => (bA y)) (h70 a0) fun y1 => ?_
  refine .s (bA (!y1)) ?_
  refine .bg (fun t (y : Bool) => ∃ j5 j6 j7 : A, t = [(bA y), j5, j6, j7]) ?_ ?_
  · refine .biH (fun hk2 => ?_) (fun hk2 => ?_)
    · exact .lg ⟨_, _, _, rfl⟩
    refine .s (A.agg (c_S_Box a1)) ?_
    refine .bd (g := fun (y : Bool) => (bA y)) (h70 a1) fun y3 => ?_
    refine .s (bA (!y3)) ?_
    exact .lg ⟨_, _, _, rfl⟩
  rintro _ y4 ⟨j5, j6, j7, rfl⟩
  iterate 4 refine .uc ?_
  refine .biHN (fun hk8 => ?_) (fun hk8 => ?_)
  · refine .s (A.agg [(iA 0), (iA 0), (iA 0), (iA 0)]) (.s [Blk.box (c_S_Box a0), Blk.box (c_S_Box a1), Blk.box [(iA 0), (iA 0), (iA 0), (iA 0)]] (.s (A.agg [(iA 0), (iA 0), (iA 0), (iA 0)]) ?_))
    exact .lf rfl rfl ⟨_, rfl, rfl⟩
  refine .s (A.ptr 0 0) (.s (A.agg [(iA a0.X.Lo), (iA a0.X.Hi)]) (.s (A.ptr 1 0) (.s (A.agg [(iA a1.X.Lo), (iA a1.X.Hi)]) ?_)))
  refine .bd (g := fun (y : S_Range) => (A.agg [(iA y.Lo), (iA y.Hi)])) (h71 a0.X a1.X) fun y9 => ?_
  refine .s (A.ptr 0 2) (.s (A.agg [(iA a0.Y.Lo), (iA a0.Y.Hi)]) (.s (A.ptr 1 2) (.s (A.agg [(iA a1.Y.Lo), (iA a1.Y.Hi)]) ?_)))
  refine .bd (g := fun (y : S_Range) => (A.agg [(iA y.Lo), (iA y.Hi)])) (h71 a0.Y a1.Y) fun y10 => ?_
  refine .s (A.agg [(iA y9.Lo), (iA y9.Hi), (iA y10.Lo), (iA y10.Hi)]) (.s [Blk.box (c_S_Box a0), Blk.box (c_S_Box a1), Blk.box [(iA y9.Lo), (iA y9.Hi), (iA y10.Lo), (iA y10.Hi)]] (.s (A.agg [(iA y9.Lo), (iA y9.Hi), (iA y10.Lo), (iA y10.Hi)]) ?_))
  exact .lf rfl rfl ⟨_, rfl, rfl⟩
def G42 (a0 : S_Box) (a1 : S_Box) : Option (S_Box × Int) := F42 fuel0 a0 a1
def Orc42 (C : Nat → List A → Option A) : Prop := ∀ (a0 : S_Box) (a1 : S_Box), C 42 [(A.agg (c_S_Box a0)), (A.agg (c_S_Box a1))] = (G42 a0 a1).map fun y => (A.tup [(A.agg [(iA y.1.X.Lo), (iA y.1.X.Hi), (iA y.1.Y.Lo), (iA y.1.Y.Hi)]), (iA y.2)])
def F21_21_0 (n : Nat) (v6 : Int) (v8 : S_State) (v9 : S_Body) (v10 : Int) (v11 : Int) (v12 : Int) (v13 : Int) : Nat → Int → S_Box → Option (Int × Int × Int × Int)
  | 0, _, _ => none
  | m + 1, v7, v14 => bif (decide (v7 < 5)) then (bif decide (v7 = 0) then (bif (decide (0 < v8.Limbs.1.Level)) then (Option.bind (G41 v8 v7 v9) fun y18 => Option.bind (G40 (wr .i64 ((wr .i64 (29 * v8.X)) + y18.1)) (wr .i64 ((wr .i64 (29 * v8.Y)) + y18.2)) 0) fun y19 => Option.bind (G42 v14 y19) fun y20 => F21_21_0 n v6 v8 v9 v10 v11 v12 v13 m (wr .i64 (v7 + 1)) y20.1) else (F21_21_0 n v6 v8 v9 v10 v11 v12 v13 m (wr .i64 (v7 + 1)) v14)) else bif decide (v7 = 1) then (bif (decide (0 < v8.Limbs.2.1.Level)) then (Option.bind (G41 v8 v7 v9) fun y23 => Option.bind (G40 (wr .i64 ((wr .i64 (29 * v8.X)) + y23.1)) (wr .i64 ((wr .i64 (29 * v8.Y)) + y23.2)) 0) fun y24 => Option.bind (G42 v14 y24) fun y25 => F21_21_0 n v6 v8 v9 v10 v11 v12 v13 m (wr .i64 (v7 + 1)) y25.1) else (F21_21_0 n v6 v8 v9 v10 v11 v12 v13 m (wr .i64 (v7 + 1)) v14)) else bif decide (v7 = 2) then (bif (decide (0 < v8.Limbs.2.2.1.Level)) then (Option.bind (G41 v8 v7 v9) fun y28 => Option.bind (G40 (wr .i64 ((wr .i64 (29 * v8.X)) + y28.1)) (wr .i64 ((wr .i64 (29 * v8.Y)) + y28.2)) 0) fun y29 => Option.bind (G42 v14 y29) fun y30 => F21_21_0 n v6 v8 v9 v10 v11 v12 v13 m (wr .i64 (v7 + 1)) y30.1) else (F21_21_0 n v6 v8 v9 v10 v11 v12 v13 m (wr .i64 (v7 + 1)) v14)) else bif decide (v7 = 3) then (bif (decide (0 < v8.Limbs.2.2.2.1.Level)) then (Option.bind (G41 v8 v7 v9) fun y33 => Option.bind (G40 (wr .i64 ((wr .i64 (29 * v8.X)) + y33.1)) (wr .i64 ((wr .i64 (29 * v8.Y)) + y33.2)) 0) fun y34 => Option.bind (G42 v14 y34) fun y35 => F21_21_0 n v6 v8 v9 v10 v11 v12 v13 m (wr .i64 (v7 + 1)) y35.1) else (F21_21_0 n v6 v8 v9 v10 v11 v12 v13 m (wr .i64 (v7 + 1)) v14)) else bif decide (v7 = 4) then (bif (decide (0 < v8.Limbs.2.2.2.2.Level)) then (Option.bind (G41 v8 v7 v9) fun y38 => Option.bind (G40 (wr .i64 ((wr .i64 (29 * v8.X)) + y38.1)) (wr .i64 ((wr .i64 (29 * v8.Y)) + y38.2)) 0) fun y39 => Option.bind (G42 v14 y39) fun y40 => F21_21_0 n v6 v8 v9 v10 v11 v12 v13 m (wr .i64 (v7 + 1)) y40.1) else (F21_21_0 n v6 v8 v9 v10 v11 v12 v13 m (wr .i64 (v7 + 1)) v14)) else none) else (some ((v14.X.Lo, v14.X.Hi, v14.Y.Lo, v14.Y.Hi)))
theorem T21_21_0 (C : Nat → List A → Option A) (n : Nat) (h17 : Orc17 C) (h39 : Orc39 C) (h40 : Orc40 C) (h41 : Orc41 C) (h42 : Orc42 C) (v6 : Int) (v8 : S_State) (v9 : S_Body) (v10 : Int) (v11 : Int) (v12 : Int) (v13 : Int) {ρ γ : Type} {φ : ρ → γ → Prop} {kL : R → Option ρ} {K : (Int × Int × Int × Int) → Option γ} (kx kg : Nat → St → Option R) (kr : St → Option R) (kp : A → St → Option R) (x0 : ∀ (o0 : Int) (o1 : Int) (o2 : Int) (o3 : Int) (s2 : A) (s3 : A) (s5 : A) (s8 : A), J φ (kx 0 (St.mk [(2, s2), (3, s3), (4, (A.ptr 2 0)), (5, s5), (7, (A.ptr 3 0)), (8, s8)] [Blk.box (c_S_State v8), Blk.box (c_S_Body v9), Blk.box [(iA v10), (iA v11), (iA v12), (iA v13)], Blk.box [(iA o0), (iA o1), (iA o2), (iA o3)]])) kL (K (o0, o1, o2, o3)) some) :
    ∀ (m : Nat) (v7 : Int) (v14 : S_Box), J φ (loopR (cx C) (evCall (cx C) (n+8)) (evCallY (cx C) (n+8)) (n+8) 21 0 0 4 kx kg kr kp m (St.mk [(2, (A.ptr 0 0)), (3, (A.ptr 1 0)), (4, (A.ptr 2 0)), (5, (iA v6)), (7, (A.ptr 3 0)), (8, (iA v7))] [Blk.box (c_S_State v8), Blk.box (c_S_Body v9), Blk.box [(iA v10), (iA v11), (iA v12), (iA v13)], Blk.box (c_S_Box v14)])) kL (F21_21_0 n v6 v8 v9 v10 v11 v12 v13 m v7 v14) K := by
  intro m
  induction m with
  | zero => intros; exact .nn
  | succ m ih =>
    intro v7 v14
    refine .lp (e21_0 ..) ?_
    unfold F21_21_0
    refine .st (v := (bA (decide (v7 < 5)))) (aBin_lss ..) ?_
    refine .biHN (fun hk15 => ?_) (fun hk15 => ?_)
    · refine .s (A.ptr 0 3) ?_
      refine .sp (fun hb16 => ?_) (fun _ => ?_)
      · refine .st (v := (A.ptr 0 3)) (by rw [of_decide_eq_true hb16]; kernel_rfl) ?_
        refine .s (A.ptr 0 4) (.s (iA v8.Limbs.1.Level) ?_)
        refine .st (v := (bA (decide (0 < v8.Limbs.1.Level)))) (aBin_gtr ..) ?_
        refine .biHN (fun hk17 => ?_) (fun hk17 => ?_)
        · refine .s (A.agg (c_S_State v8)) (.s (A.agg (c_S_Body v9)) ?_)
          refine .bd (g := fun (y : (Int × Int)) => (A.tup [(iA y.1), (iA y.2)])) (h41 v8 v7 v9) fun y18 => ?_
          refine .s (iA y18.1) (.s (iA y18.2) (.s (A.agg (c_S_Box v14)) (.s (A.ptr 0 0) (.s (iA v8.X) ?_))))
          refine .st (v := (iA (wr .i64 (29 * v8.X)))) (aBin_mul ..) ?_
          refine .st (v := (iA (wr .i64 ((wr .i64 (29 * v8.X)) + y18.1)))) (aBin_add ..) ?_
          refine .s (A.ptr 0 1) (.s (iA v8.Y) ?_)
          refine .st (v := (iA (wr .i64 (29 * v8.Y)))) (aBin_mul ..) ?_
          refine .st (v := (iA (wr .i64 ((wr .i64 (29 * v8.Y)) + y18.2)))) (aBin_add ..) ?_
          refine .bd (g := fun (y : S_Box) => (A.agg [(iA y.X.Lo), (iA y.X.Hi), (iA y.Y.Lo), (iA y.Y.Hi)])) (h40 (wr .i64 ((wr .i64 (29 * v8.X)) + y18.1)) (wr .i64 ((wr .i64 (29 * v8.Y)) + y18.2)) 0) fun y19 => ?_
          refine .bd (g := fun (y : (S_Box × Int)) => (A.tup [(A.agg [(iA y.1.X.Lo), (iA y.1.X.Hi), (iA y.1.Y.Lo), (iA y.1.Y.Hi)]), (iA y.2)])) (h42 v14 y19) fun y20 => ?_
          refine .s (A.agg (c_S_Box y20.1)) (.s (iA y20.2) (.s [Blk.box (c_S_State v8), Blk.box (c_S_Body v9), Blk.box [(iA v10), (iA v11), (iA v12), (iA v13)], Blk.box (c_S_Box y20.1)] ?_))
          refine .st (v := (iA (wr .i64 (v7 + 1)))) (aBin_add ..) ?_
          refine .s [Blk.box (c_S_State v8), Blk.box (c_S_Body v9), Blk.box [(iA v10), (iA v11), (iA v12), (iA v13)], Blk.box (c_S_Box y20.1)] ?_
          refine .cT (by kernel_rfl) ?_
          exact ih _ _
        refine .st (v := (iA (wr .i64 (v7 + 1)))) (aBin_add ..) ?_
        refine .s [Blk.box (c_S_State v8), Blk.box (c_S_Body v9), Blk.box [(iA v10), (iA v11), (iA v12), (iA v13)], Blk.box (c_S_Box v14)] ?_
        refine .cT (by kernel_rfl) ?_
        exact ih _ _
      refine .sp (fun hb21 => ?_) (fun _ => ?_)
      · refine .st (v := (A.ptr 0 5)) (by rw [of_decide_eq_true hb21]; kernel_rfl) ?_
        refine .s (A.ptr 0 6) (.s (iA v8.Limbs.2.1.Level) ?_)
        refine .st (v := (bA (decide (0 < v8.Limbs.2.1.Level)))) (aBin_gtr ..) ?_
        refine .biHN (fun hk22 => ?_) (fun hk22 => ?_)
        · refine .s (A.agg (c_S_State v8)) (.s (A.agg (c_S_Body v9)) ?_)
          refine .bd (g := fun (y : (Int × Int)) => (A.tup [(iA y.1), (iA y.2)])) (h41 v8 v7 v9) fun y23 => ?_
          refine .s (iA y23.1) (.s (iA y23.2) (.s (A.agg (c_S_Box v14)) (.s (A.ptr 0 0) (.s (iA v8.X) ?_))))
          refine .st (v := (iA (wr .i64 (29 * v8.X)))) (aBin_mul ..) ?_
          refine .st (v := (iA (wr .i64 ((wr .i64 (29 * v8.X)) + y23.1)))) (aBin_add ..) ?_
          refine .s (A.ptr 0 1) (.s (iA v8.Y) ?_)
          refine .st (v := (iA (wr .i64 (29 * v8.Y)))) (aBin_mul ..) ?_
          refine .st (v := (iA (wr .i64 ((wr .i64 (29 * v8.Y)) + y23.2)))) (aBin_add ..) ?_
          refine .bd (g := fun (y : S_Box) => (A.agg [(iA y.X.Lo), (iA y.X.Hi), (iA y.Y.Lo), (iA y.Y.Hi)])) (h40 (wr .i64 ((wr .i64 (29 * v8.X)) + y23.1)) (wr .i64 ((wr .i64 (29 * v8.Y)) + y23.2)) 0) fun y24 => ?_
          refine .bd (g := fun (y : (S_Box × Int)) => (A.tup [(A.agg [(iA y.1.X.Lo), (iA y.1.X.Hi), (iA y.1.Y.Lo), (iA y.1.Y.Hi)]), (iA y.2)])) (h42 v14 y24) fun y25 => ?_
          refine .s (A.agg (c_S_Box y25.1)) (.s (iA y25.2) (.s [Blk.box (c_S_State v8), Blk.box (c_S_Body v9), Blk.box [(iA v10), (iA v11), (iA v12), (iA v13)], Blk.box (c_S_Box y25.1)] ?_))
          refine .st (v := (iA (wr .i64 (v7 + 1)))) (aBin_add ..) ?_
          refine .s [Blk.box (c_S_State v8), Blk.box (c_S_Body v9), Blk.box [(iA v10), (iA v11), (iA v12), (iA v13)], Blk.box (c_S_Box y25.1)] ?_
          refine .cT (by kernel_rfl) ?_
          exact ih _ _
        refine .st (v := (iA (wr .i64 (v7 + 1)))) (aBin_add ..) ?_
        refine .s [Blk.box (c_S_State v8), Blk.box (c_S_Body v9), Blk.box [(iA v10), (iA v11), (iA v12), (iA v13)], Blk.box (c_S_Box v14)] ?_
        refine .cT (by kernel_rfl) ?_
        exact ih _ _
      refine .sp (fun hb26 => ?_) (fun _ => ?_)
      · refine .st (v := (A.ptr 0 7)) (by rw [of_decide_eq_true hb26]; kernel_rfl) ?_
        refine .s (A.ptr 0 8) (.s (iA v8.Limbs.2.2.1.Level) ?_)
        refine .st (v := (bA (decide (0 < v8.Limbs.2.2.1.Level)))) (aBin_gtr ..) ?_
        refine .biHN (fun hk27 => ?_) (fun hk27 => ?_)
        · refine .s (A.agg (c_S_State v8)) (.s (A.agg (c_S_Body v9)) ?_)
          refine .bd (g := fun (y : (Int × Int)) => (A.tup [(iA y.1), (iA y.2)])) (h41 v8 v7 v9) fun y28 => ?_
          refine .s (iA y28.1) (.s (iA y28.2) (.s (A.agg (c_S_Box v14)) (.s (A.ptr 0 0) (.s (iA v8.X) ?_))))
          refine .st (v := (iA (wr .i64 (29 * v8.X)))) (aBin_mul ..) ?_
          refine .st (v := (iA (wr .i64 ((wr .i64 (29 * v8.X)) + y28.1)))) (aBin_add ..) ?_
          refine .s (A.ptr 0 1) (.s (iA v8.Y) ?_)
          refine .st (v := (iA (wr .i64 (29 * v8.Y)))) (aBin_mul ..) ?_
          refine .st (v := (iA (wr .i64 ((wr .i64 (29 * v8.Y)) + y28.2)))) (aBin_add ..) ?_
          refine .bd (g := fun (y : S_Box) => (A.agg [(iA y.X.Lo), (iA y.X.Hi), (iA y.Y.Lo), (iA y.Y.Hi)])) (h40 (wr .i64 ((wr .i64 (29 * v8.X)) + y28.1)) (wr .i64 ((wr .i64 (29 * v8.Y)) + y28.2)) 0) fun y29 => ?_
          refine .bd (g := fun (y : (S_Box × Int)) => (A.tup [(A.agg [(iA y.1.X.Lo), (iA y.1.X.Hi), (iA y.1.Y.Lo), (iA y.1.Y.Hi)]), (iA y.2)])) (h42 v14 y29) fun y30 => ?_
          refine .s (A.agg (c_S_Box y30.1)) (.s (iA y30.2) (.s [Blk.box (c_S_State v8), Blk.box (c_S_Body v9), Blk.box [(iA v10), (iA v11), (iA v12), (iA v13)], Blk.box (c_S_Box y30.1)] ?_))
          refine .st (v := (iA (wr .i64 (v7 + 1)))) (aBin_add ..) ?_
          refine .s [Blk.box (c_S_State v8), Blk.box (c_S_Body v9), Blk.box [(iA v10), (iA v11), (iA v12), (iA v13)], Blk.box (c_S_Box y30.1)] ?_
          refine .cT (by kernel_rfl) ?_
          exact ih _ _
        refine .st (v := (iA (wr .i64 (v7 + 1)))) (aBin_add ..) ?_
        refine .s [Blk.box (c_S_State v8), Blk.box (c_S_Body v9), Blk.box [(iA v10), (iA v11), (iA v12), (iA v13)], Blk.box (c_S_Box v14)] ?_
        refine .cT (by kernel_rfl) ?_
        exact ih _ _
      refine .sp (fun hb31 => ?_) (fun _ => ?_)
      · refine .st (v := (A.ptr 0 9)) (by rw [of_decide_eq_true hb31]; kernel_rfl) ?_
        refine .s (A.ptr 0 10) (.s (iA v8.Limbs.2.2.2.1.Level) ?_)
        refine .st (v := (bA (decide (0 < v8.Limbs.2.2.2.1.Level)))) (aBin_gtr ..) ?_
        refine .biHN (fun hk32 => ?_) (fun hk32 => ?_)
        · refine .s (A.agg (c_S_State v8)) (.s (A.agg (c_S_Body v9)) ?_)
          refine .bd (g := fun (y : (Int × Int)) => (A.tup [(iA y.1), (iA y.2)])) (h41 v8 v7 v9) fun y33 => ?_
          refine .s (iA y33.1) (.s (iA y33.2) (.s (A.agg (c_S_Box v14)) (.s (A.ptr 0 0) (.s (iA v8.X) ?_))))
          refine .st (v := (iA (wr .i64 (29 * v8.X)))) (aBin_mul ..) ?_
          refine .st (v := (iA (wr .i64 ((wr .i64 (29 * v8.X)) + y33.1)))) (aBin_add ..) ?_
          refine .s (A.ptr 0 1) (.s (iA v8.Y) ?_)
          refine .st (v := (iA (wr .i64 (29 * v8.Y)))) (aBin_mul ..) ?_
          refine .st (v := (iA (wr .i64 ((wr .i64 (29 * v8.Y)) + y33.2)))) (aBin_add ..) ?_
          refine .bd (g := fun (y : S_Box) => (A.agg [(iA y.X.Lo), (iA y.X.Hi), (iA y.Y.Lo), (iA y.Y.Hi)])) (h40 (wr .i64 ((wr .i64 (29 * v8.X)) + y33.1)) (wr .i64 ((wr .i64 (29 * v8.Y)) + y33.2)) 0) fun y34 => ?_
          refine .bd (g := fun (y : (S_Box × Int)) => (A.tup [(A.agg [(iA y.1.X.Lo), (iA y.1.X.Hi), (iA y.1.Y.Lo), (iA y.1.Y.Hi)]), (iA y.2)])) (h42 v14 y34) fun y35 => ?_
          refine .s (A.agg (c_S_Box y35.1)) (.s (iA y35.2) (.s [Blk.box (c_S_State v8), Blk.box (c_S_Body v9), Blk.box [(iA v10), (iA v11), (iA v12), (iA v13)], Blk.box (c_S_Box y35.1)] ?_))
          refine .st (v := (iA (wr .i64 (v7 + 1)))) (aBin_add ..) ?_
          refine .s [Blk.box (c_S_State v8), Blk.box (c_S_Body v9), Blk.box [(iA v10), (iA v11), (iA v12), (iA v13)], Blk.box (c_S_Box y35.1)] ?_
          refine .cT (by kernel_rfl) ?_
          exact ih _ _
        refine .st (v := (iA (wr .i64 (v7 + 1)))) (aBin_add ..) ?_
        refine .s [Blk.box (c_S_State v8), Blk.box (c_S_Body v9), Blk.box [(iA v10), (iA v11), (iA v12), (iA v13)], Blk.box (c_S_Box v14)] ?_
        refine .cT (by kernel_rfl) ?_
        exact ih _ _
      refine .sp (fun hb36 => ?_) (fun _ => ?_)
      · refine .st (v := (A.ptr 0 11)) (by rw [of_decide_eq_true hb36]; kernel_rfl) ?_
        refine .s (A.ptr 0 12) (.s (iA v8.Limbs.2.2.2.2.Level) ?_)
        refine .st (v := (bA (decide (0 < v8.Limbs.2.2.2.2.Level)))) (aBin_gtr ..) ?_
        refine .biHN (fun hk37 => ?_) (fun hk37 => ?_)
        · refine .s (A.agg (c_S_State v8)) (.s (A.agg (c_S_Body v9)) ?_)
          refine .bd (g := fun (y : (Int × Int)) => (A.tup [(iA y.1), (iA y.2)])) (h41 v8 v7 v9) fun y38 => ?_
          refine .s (iA y38.1) (.s (iA y38.2) (.s (A.agg (c_S_Box v14)) (.s (A.ptr 0 0) (.s (iA v8.X) ?_))))
          refine .st (v := (iA (wr .i64 (29 * v8.X)))) (aBin_mul ..) ?_
          refine .st (v := (iA (wr .i64 ((wr .i64 (29 * v8.X)) + y38.1)))) (aBin_add ..) ?_
          refine .s (A.ptr 0 1) (.s (iA v8.Y) ?_)
          refine .st (v := (iA (wr .i64 (29 * v8.Y)))) (aBin_mul ..) ?_
          refine .st (v := (iA (wr .i64 ((wr .i64 (29 * v8.Y)) + y38.2)))) (aBin_add ..) ?_
          refine .bd (g := fun (y : S_Box) => (A.agg [(iA y.X.Lo), (iA y.X.Hi), (iA y.Y.Lo), (iA y.Y.Hi)])) (h40 (wr .i64 ((wr .i64 (29 * v8.X)) + y38.1)) (wr .i64 ((wr .i64 (29 * v8.Y)) + y38.2)) 0) fun y39 => ?_
          refine .bd (g := fun (y : (S_Box × Int)) => (A.tup [(A.agg [(iA y.1.X.Lo), (iA y.1.X.Hi), (iA y.1.Y.Lo), (iA y.1.Y.Hi)]), (iA y.2)])) (h42 v14 y39) fun y40 => ?_
          refine .s (A.agg (c_S_Box y40.1)) (.s (iA y40.2) (.s [Blk.box (c_S_State v8), Blk.box (c_S_Body v9), Blk.box [(iA v10), (iA v11), (iA v12), (iA v13)], Blk.box (c_S_Box y40.1)] ?_))
          refine .st (v := (iA (wr .i64 (v7 + 1)))) (aBin_add ..) ?_
          refine .s [Blk.box (c_S_State v8), Blk.box (c_S_Body v9), Blk.box [(iA v10), (iA v11), (iA v12), (iA v13)], Blk.box (c_S_Box y40.1)] ?_
          refine .cT (by kernel_rfl) ?_
          exact ih _ _
        refine .st (v := (iA (wr .i64 (v7 + 1)))) (aBin_add ..) ?_
        refine .s [Blk.box (c_S_State v8), Blk.box (c_S_Body v9), Blk.box [(iA v10), (iA v11), (iA v12), (iA v13)], Blk.box (c_S_Box v14)] ?_
        refine .cT (by kernel_rfl) ?_
        exact ih _ _
      exact .nn
    exact .ex (x0 _ _ _ _ _ _ _ _)
def F21 (n : Nat) (a0 : S_State) (a1 : S_Body) : Option (S_Box × Int) :=
  Option.bind (G17 a0) fun y1 => bif (y1 != 0) then (some (((S_Box.mk ((S_Range.mk 0 0)) ((S_Range.mk 0 0))), 260))) else (Option.bind (G39 a1) fun y3 => bif (y3 != 0) then (some (((S_Box.mk ((S_Range.mk 0 0)) ((S_Range.mk 0 0))), y3))) else (Option.bind (G40 (wr .i64 (29 * a0.X)) (wr .i64 (29 * a0.Y)) (wr .i64 (841 * a1.Girth))) fun y5 => Option.bind (F21_21_0 n 0 a0 a1 0 0 0 0 (n+8) 0 y5) fun o41 => match o41 with | (y42, y43, y44, y45) => some (((S_Box.mk ((S_Range.mk y42 y43)) ((S_Range.mk y44 y45))), 0))))
theorem T21 (C : Nat → List A → Option A) (n : Nat) (h17 : Orc17 C) (h39 : Orc39 C) (h40 : Orc40 C) (h41 : Orc41 C) (h42 : Orc42 C) (a0 : S_State) (a1 : S_Body) : J (fun (o : R) y => ∃ v, o.1 = .ret v ∧ snapE o.2 v = (A.tup [(A.agg [(iA y.1.X.Lo), (iA y.1.X.Hi), (iA y.1.Y.Lo), (iA y.1.Y.Hi)]), (iA y.2)])) (evCall1 (cx C) (evCall (cx C) (n+8)) (evCallY (cx C) (n+8)) (n+8) 21 [(A.agg (c_S_State a0)), (A.agg (c_S_Body a1))] [] 0) some (F21 n a0 a1) some := by
  refine .lp (e21 ..) ?_
  unfold F21
  refine .s ((A.ptr 0 0), [Blk.box (c_S_State a0)]) (.s ((A.ptr 1 0), [Blk.box (c_S_State a0), Blk.box (c_S_Body a1)]) (.s ((A.ptr 2 0), [Blk.box (c_S_State a0), Blk.box (c_S_Body a1), Blk.box [(iA 0), (iA 0), (iA 0), (iA 0)]]) (.s (A.agg (c_S_State a0)) ?_)))
  refine .bd (g := fun (y : Int) => (iA y)) (h17 a0) fun y1 => ?_
  refine .st (v := (bA (y1 != 0))) (aBin_neq ..) ?_
  refine .biHN (fun hk2 => ?_) (fun hk2 => ?_)
  · refine .s (A.agg [(iA 0), (iA 0), (iA 0), (iA 0)]) (.s [Blk.box (c_S_State a0), Blk.box (c_S_Body a1), Blk.box [(iA 0), (iA 0), (iA 0), (iA 0)]] (.s (A.agg [(iA 0), (iA 0), (iA 0), (iA 0)]) ?_))
    exact .lf rfl rfl ⟨_, rfl, rfl⟩
  refine .s (A.agg (c_S_Body a1)) ?_
  refine .bd (g := fun (y : Int) => (iA y)) (h39 a1) fun y3 => ?_
  refine .st (v := (bA (y3 != 0))) (aBin_neq ..) ?_
  refine .biHN (fun hk4 => ?_) (fun hk4 => ?_)
  · refine .s (A.agg [(iA 0), (iA 0), (iA 0), (iA 0)]) (.s [Blk.box (c_S_State a0), Blk.box (c_S_Body a1), Blk.box [(iA 0), (iA 0), (iA 0), (iA 0)]] (.s (A.agg [(iA 0), (iA 0), (iA 0), (iA 0)]) ?_))
    exact .lf rfl rfl ⟨_, rfl, rfl⟩
  refine .s (A.ptr 0 0) (.s (iA a0.X) ?_)
  refine .st (v := (iA (wr .i64 (29 * a0.X)))) (aBin_mul ..) ?_
  refine .s (A.ptr 0 1) (.s (iA a0.Y) ?_)
  refine .st (v := (iA (wr .i64 (29 * a0.Y)))) (aBin_mul ..) ?_
  refine .s (A.ptr 1 3) (.s (iA a1.Girth) ?_)
  refine .st (v := (iA (wr .i64 (841 * a1.Girth)))) (aBin_mul ..) ?_
  refine .bd (g := fun (y : S_Box) => (A.agg [(iA y.X.Lo), (iA y.X.Hi), (iA y.Y.Lo), (iA y.Y.Hi)])) (h40 (wr .i64 (29 * a0.X)) (wr .i64 (29 * a0.Y)) (wr .i64 (841 * a1.Girth))) fun y5 => ?_
  refine .s ((A.ptr 3 0), [Blk.box (c_S_State a0), Blk.box (c_S_Body a1), Blk.box [(iA 0), (iA 0), (iA 0), (iA 0)], Blk.box [(iA 0), (iA 0), (iA 0), (iA 0)]]) (.s [Blk.box (c_S_State a0), Blk.box (c_S_Body a1), Blk.box [(iA 0), (iA 0), (iA 0), (iA 0)], Blk.box (c_S_Box y5)] ?_)
  refine .as (T21_21_0 C n h17 h39 h40 h41 h42 0 a0 a1 0 0 0 0 _ _ _ _ ?_ _ 0 y5)
  · intro y42 y43 y44 y45 j46 j47 j48 j49
    refine .un rfl ?_
    refine .cT (by kernel_rfl) ?_
    refine .s (A.agg [(iA y42), (iA y43), (iA y44), (iA y45)]) (.s [Blk.box (c_S_State a0), Blk.box (c_S_Body a1), Blk.box [(iA y42), (iA y43), (iA y44), (iA y45)], Blk.box [(iA y42), (iA y43), (iA y44), (iA y45)]] (.s (A.agg [(iA y42), (iA y43), (iA y44), (iA y45)]) ?_))
    exact .lf rfl rfl ⟨_, rfl, rfl⟩
def G21 (a0 : S_State) (a1 : S_Body) : Option (S_Box × Int) := F21 fuel0 a0 a1
def Orc21 (C : Nat → List A → Option A) : Prop := ∀ (a0 : S_State) (a1 : S_Body), C 21 [(A.agg (c_S_State a0)), (A.agg (c_S_Body a1))] = (G21 a0 a1).map fun y => (A.tup [(A.agg [(iA y.1.X.Lo), (iA y.1.X.Hi), (iA y.1.Y.Lo), (iA y.1.Y.Hi)]), (iA y.2)])
def F5 (n : Nat) (a0 : S_State) (a1 : S_Body) : Option Bool :=
  Option.bind (G11 ) fun y1 => bif (!y1) then (some false) else (Option.bind (G20 a0 a1) fun y3 => Option.bind (G21 a0 a1) fun y4 => Option.bind (bif ((((y3.1.X.Lo == y4.1.X.Lo) && (y3.1.X.Hi == y4.1.X.Hi)) && ((y3.1.Y.Lo == y4.1.Y.Lo) && (y3.1.Y.Hi == y4.1.Y.Hi)))) then (some (y3.2 == y4.2)) else (some false)) fun y6 => some y6)
theorem T5 (C : Nat → List A → Option A) (n : Nat) (h11 : Orc11 C) (h20 : Orc20 C) (h21 : Orc21 C) (a0 : S_State) (a1 : S_Body) : J (fun (o : R) y => ∃ v, o.1 = .ret v ∧ snapE o.2 v = (bA y)) (evCall1 (cx C) (evCall (cx C) (n+8)) (evCallY (cx C) (n+8)) (n+8) 5 [(A.agg (c_S_State a0)), (A.agg (c_S_Body a1))] [] 0) some (F5 n a0 a1) some := by
  refine .lp (e5 ..) ?_
  unfold F5
  refine .s ((A.ptr 0 0), [Blk.box (c_S_State a0)]) (.s ((A.ptr 1 0), [Blk.box (c_S_State a0), Blk.box (c_S_Body a1)]) ?_)
  refine .bd (g := fun (y : Bool) => (bA y)) (h11 ()) fun y1 => ?_
  refine .s (bA (!y1)) ?_
  refine .biHN (fun hk2 => ?_) (fun hk2 => ?_)
  · exact .lf rfl rfl ⟨_, rfl, rfl⟩
  refine .s (A.agg (c_S_State a0)) (.s (A.agg (c_S_Body a1)) ?_)
  refine .bd (g := fun (y : (S_Box × Int)) => (A.tup [(A.agg [(iA y.1.X.Lo), (iA y.1.X.Hi), (iA y.1.Y.Lo), (iA y.1.Y.Hi)]), (iA y.2)])) (h20 a0 a1) fun y3 => ?_
  refine .s (A.agg (c_S_Box y3.1)) (.s (iA y3.2) (.s ((A.ptr 2 0), [Blk.box (c_S_State a0), Blk.box (c_S_Body a1), Blk.box [(iA 0), (iA 0), (iA 0), (iA 0)]]) (.s [Blk.box (c_S_State a0), Blk.box (c_S_Body a1), Blk.box (c_S_Box y3.1)] (.s (A.agg (c_S_State a0)) (.s (A.agg (c_S_Body a1)) ?_)))))
  refine .bd (g := fun (y : (S_Box × Int)) => (A.tup [(A.agg [(iA y.1.X.Lo), (iA y.1.X.Hi), (iA y.1.Y.Lo), (iA y.1.Y.Hi)]), (iA y.2)])) (h21 a0 a1) fun y4 => ?_
  refine .s (A.agg (c_S_Box y4.1)) (.s (iA y4.2) (.s ((A.ptr 3 0), [Blk.box (c_S_State a0), Blk.box (c_S_Body a1), Blk.box (c_S_Box y3.1), Blk.box [(iA 0), (iA 0), (iA 0), (iA 0)]]) (.s [Blk.box (c_S_State a0), Blk.box (c_S_Body a1), Blk.box (c_S_Box y3.1), Blk.box (c_S_Box y4.1)] (.s (A.agg (c_S_Box y3.1)) (.s (A.agg (c_S_Box y4.1)) (.s (bA ((((y3.1.X.Lo == y4.1.X.Lo) && (y3.1.X.Hi == y4.1.X.Hi)) && ((y3.1.Y.Lo == y4.1.Y.Lo) && (y3.1.Y.Hi == y4.1.Y.Hi))))) ?_))))))
  refine .bg (fun t (y : Bool) => ∃ j7 j8 j9 : A, t = [(bA y), j7, j8, j9]) ?_ ?_
  · refine .biH (fun hk5 => ?_) (fun hk5 => ?_)
    · refine .st (v := (bA (y3.2 == y4.2))) (aBin_eql ..) ?_
      exact .lg ⟨_, _, _, rfl⟩
    exact .lg ⟨_, _, _, rfl⟩
  rintro _ y6 ⟨j7, j8, j9, rfl⟩
  iterate 4 refine .uc ?_
  exact .lf rfl rfl ⟨_, rfl, rfl⟩
def G5 (a0 : S_State) (a1 : S_Body) : Option Bool := F5 fuel0 a0 a1
end Go.Proofs.YtooamdacfhfjoaaDoor
