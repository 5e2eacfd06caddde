/-
 The program's functions as plain functions: by a tool; each follows the interpreter.
-/
import Derived.Test.YtmjaehondldaaaaT1
import Derived.KernelRfl
namespace Go.Proofs.Ytmjaehondldaaaa
open Go.Proofs.Try (prog)
set_option linter.unusedVariables false
set_option linter.unusedSimpArgs false
set_option maxHeartbeats 4000000
set_option maxRecDepth 100000
def OrcS29 (C : Nat -> List A -> Option A) (self : S_Value -> Option Bool) : Prop := ∀ (a0 : S_Value), C 29 [(A.agg [(iA a0.Kind), (iA a0.N), (A.v (Value.string a0.S)), (A.imm (List.map c_S_Value a0.L) false)])] = (self a0).map fun y => (bA y)
def F29_29_0 (self : S_Value -> Option Bool) (n : Nat) (v16 : Bool) (v18 : S_Value) : Nat -> Int -> Option ((Bool) ⊕ (Unit))
 | 0, _ => none
 | m + 1, v17 => bif (decide (v17 < ((v18.L.length : Int)))) then ((getI v18.L v17).bind fun y20 => (self y20).bind fun y21 => bif (!y21) then (some ((Sum.inl false))) else (F29_29_0 self n v16 v18 m (wr .i64 (v17 + 1)))) else (some ((Sum.inr (()))))
theorem T29_29_0 (C : Nat -> List A -> Option A) (n : Nat) (self : S_Value -> Option Bool) (hS : OrcS29 C self) (v16 : Bool) (v18 : S_Value) {ρ γ : Type} {φ : ρ -> γ -> Prop} {kL : R -> Option ρ} {K : ((Bool) ⊕ (Unit)) -> Option γ} (kx kg : Nat -> St -> Option R) (kr : St -> Option R) (kp : A -> St -> Option R) (x0 : ∀ (o0 : Bool) (s1 : A) (s3 : A), J φ (kr (St.mk [(1, s1), (2, (bA o0)), (3, s3)] [Blk.box [(iA v18.Kind), (iA v18.N), (A.v (Value.string v18.S)), (A.imm (List.map c_S_Value v18.L) false)]])) kL (K (Sum.inl o0)) some) (x1 : ∀ (s2 : A) (s3 : A), J φ (kx 1 (St.mk [(1, (A.ptr 0 0)), (2, s2), (3, s3)] [Blk.box [(iA v18.Kind), (iA v18.N), (A.v (Value.string v18.S)), (A.imm (List.map c_S_Value v18.L) false)]])) kL (K (Sum.inr (()))) some) :
  ∀ (m : Nat) (v17 : Int), J φ (loopR (cx C) (ec C n 8) (ey C n 8) (n+8) 29 0 0 1 kx kg kr kp m (St.mk [(1, (A.ptr 0 0)), (2, (bA v16)), (3, (iA v17))] [Blk.box [(iA v18.Kind), (iA v18.N), (A.v (Value.string v18.S)), (A.imm (List.map c_S_Value v18.L) false)]])) kL (F29_29_0 self n v16 v18 m v17) K := by
 intro m
 induction m with
 | zero => intros; exact .nn
 | succ m ih =>
  intro v17
  refine .lp (e29_0 ..) ?_
  unfold F29_29_0
  refine .s (A.ptr 0 3) (.s (A.imm (List.map c_S_Value v18.L) false) ?_)
  refine .st (v := (iA ((v18.L.length : Int)))) (len_imm (e := 24) (h1 := by kernel_rfl) ..) ?_
  refine .st (v := (bA (decide (v17 < ((v18.L.length : Int)))))) (aBin_lss ..) ?_
  refine .biHN (fun hk19 => ?_) (fun hk19 => ?_)
  ·refine .s (A.ptr 0 3) (.s (A.imm (List.map c_S_Value v18.L) false) ?_)
   refine .bd (g := fun (y : S_Value) => (A.ip [(iA y.Kind), (iA y.N), (A.v (Value.string y.S)), (A.imm (List.map c_S_Value y.L) false)])) ((idx_imm (e := 24) (es := 4) (h1 := by kernel_rfl) (h2 := by kernel_rfl) (h3 := fun _ => rfl) ..).trans (ci_S_Value _)) fun y20 => ?_
   refine .s (A.agg [(iA y20.Kind), (iA y20.N), (A.v (Value.string y20.S)), (A.imm (List.map c_S_Value y20.L) false)]) ?_
   refine .bd (g := fun (y : Bool) => (bA y)) (by show C 29 [snap _ (A.agg [(iA y20.Kind), (iA y20.N), (A.v (Value.string y20.S)), (A.imm (List.map c_S_Value y20.L) false)])] = _; simp only [sn0, snM]; exact hS y20) fun y21 => ?_
   refine .s (bA (!y21)) ?_
   refine .biHN (fun hk22 => ?_) (fun hk22 => ?_)
   ·exact .ex (x0 _ _ _)
   refine .st (v := (iA (wr .i64 (v17 + 1)))) (aBin_add ..) ?_
   refine .s [Blk.box [(iA v18.Kind), (iA v18.N), (A.v (Value.string v18.S)), (A.imm (List.map c_S_Value v18.L) false)]] ?_
   refine .cT (by kernel_rfl) ?_
   exact ih _
  exact .ex (x1 _ _)
def F29 (self : S_Value -> Option Bool) (n : Nat) (a0 : S_Value) : Option Bool :=
 bif (a0.Kind == 1) then ((bif (strEq a0.S ((ByteArray.mk #[]))) then (some (((a0.L.length : Int)) == 0)) else (some false)).bind fun y3 => some y3) else (bif (a0.Kind == 2) then ((bif (a0.N == 0) then (some (((a0.L.length : Int)) == 0)) else (some false)).bind fun y10 => some y10) else (bif (a0.Kind == 3) then ((F29_29_0 self n false a0 (n+8) 0).bind fun o23 => match o23 with | (Sum.inl y24) => some y24 | (Sum.inr _) => (bif (a0.N == 0) then (some (strEq a0.S ((ByteArray.mk #[])))) else (some false)).bind fun y30 => some y30) else (some false)))
theorem T29 (C : Nat -> List A -> Option A) (n : Nat) (self : S_Value -> Option Bool) (hS : OrcS29 C self) (a0 : S_Value) : J (fun (o : R) y => ∃ v, o.1 = .ret v /\ snapE o.2 v = (bA y)) (evCall1 (cx C) (ec C n 8) (ey C n 8) (n+8) 29 [(A.agg [(iA a0.Kind), (iA a0.N), (A.v (Value.string a0.S)), (A.imm (List.map c_S_Value a0.L) false)])] [] 0) some (F29 self n a0) some := by
 refine .lp (e29 ..) ?_
 unfold F29
 refine .s ((A.ptr 0 0), [Blk.box [(iA a0.Kind), (iA a0.N), (A.v (Value.string a0.S)), (A.imm (List.map c_S_Value a0.L) false)]]) (.s (A.ptr 0 0) (.s (iA a0.Kind) ?_))
 refine .st (v := (bA (a0.Kind == 1))) (aBin_eql ..) ?_
 refine .biHN (fun hk1 => ?_) (fun hk1 => ?_)
 ·refine .s (A.ptr 0 2) (.s (A.v (Value.string a0.S)) ?_)
  refine .st (v := (bA (strEq a0.S ((ByteArray.mk #[]))))) (aBin_eql_s ..) ?_
  refine .bg (fun t (y : Bool) => ∃ j4 j5 j6 j7 : A, t = [(bA y), j4, j5, j6, j7]) ?_ ?_
  ·refine .biH (fun hk2 => ?_) (fun hk2 => ?_)
   ·refine .s (A.ptr 0 3) (.s (A.imm (List.map c_S_Value a0.L) false) ?_)
    refine .st (v := (iA ((a0.L.length : Int)))) (len_imm (e := 24) (h1 := by kernel_rfl) ..) ?_
    refine .st (v := (bA (((a0.L.length : Int)) == 0))) (aBin_eql ..) ?_
    exact .lg ⟨_, _, _, _, rfl⟩
   exact .lg ⟨_, _, _, _, rfl⟩
  rintro _ y3 ⟨j4, j5, j6, j7, rfl⟩
  iterate 5 refine .uc ?_
  exact .lf rfl rfl ⟨_, rfl, rfl⟩
 refine .st (v := (bA (a0.Kind == 2))) (aBin_eql ..) ?_
 refine .biHN (fun hk8 => ?_) (fun hk8 => ?_)
 ·refine .s (A.ptr 0 1) (.s (iA a0.N) ?_)
  refine .st (v := (bA (a0.N == 0))) (aBin_eql ..) ?_
  refine .bg (fun t (y : Bool) => ∃ j11 j12 j13 j14 : A, t = [(bA y), j11, j12, j13, j14]) ?_ ?_
  ·refine .biH (fun hk9 => ?_) (fun hk9 => ?_)
   ·refine .s (A.ptr 0 3) (.s (A.imm (List.map c_S_Value a0.L) false) ?_)
    refine .st (v := (iA ((a0.L.length : Int)))) (len_imm (e := 24) (h1 := by kernel_rfl) ..) ?_
    refine .st (v := (bA (((a0.L.length : Int)) == 0))) (aBin_eql ..) ?_
    exact .lg ⟨_, _, _, _, rfl⟩
   exact .lg ⟨_, _, _, _, rfl⟩
  rintro _ y10 ⟨j11, j12, j13, j14, rfl⟩
  iterate 5 refine .uc ?_
  exact .lf rfl rfl ⟨_, rfl, rfl⟩
 refine .st (v := (bA (a0.Kind == 3))) (aBin_eql ..) ?_
 refine .biHN (fun hk15 => ?_) (fun hk15 => ?_)
 ·refine .as (T29_29_0 C n  self hS false a0 _ _ _ _ ?_ ?_ _ 0)
  ·intro y24 j25 j26
   refine .un rfl ?_
   exact .lf rfl rfl ⟨_, rfl, rfl⟩
  ·intro j27 j28
   refine .un rfl ?_
   refine .cT (by kernel_rfl) ?_
   refine .s (A.ptr 0 1) (.s (iA a0.N) ?_)
   refine .st (v := (bA (a0.N == 0))) (aBin_eql ..) ?_
   refine .bg (fun t (y : Bool) => ∃ j31 j32 j33 : A, t = [(bA y), j31, j32, j33]) ?_ ?_
   ·refine .biH (fun hk29 => ?_) (fun hk29 => ?_)
    ·refine .s (A.ptr 0 2) (.s (A.v (Value.string a0.S)) ?_)
     refine .st (v := (bA (strEq a0.S ((ByteArray.mk #[]))))) (aBin_eql_s ..) ?_
     exact .lg ⟨_, _, _, rfl⟩
    exact .lg ⟨_, _, _, rfl⟩
   rintro _ y30 ⟨j31, j32, j33, rfl⟩
   iterate 4 refine .uc ?_
   exact .lf rfl rfl ⟨_, rfl, rfl⟩
 exact .lf rfl rfl ⟨_, rfl, rfl⟩
def R29 : Nat -> S_Value -> Option Bool
 | 0 => fun _ => none
 | q + 1 => fun a0 => F29 (R29 q) fuel0 a0
def G29 (a0 : S_Value) : Option Bool := R29 fuel0 a0
def Orc29 (C : Nat -> List A -> Option A) : Prop := ∀ (a0 : S_Value), C 29 [(A.agg [(iA a0.Kind), (iA a0.N), (A.v (Value.string a0.S)), (A.imm (List.map c_S_Value a0.L) false)])] = (G29 a0).map fun y => (bA y)
def OrcS30 (C : Nat -> List A -> Option A) (self : S_Value -> Option Int) : Prop := ∀ (a0 : S_Value), C 30 [(A.agg [(iA a0.Kind), (iA a0.N), (A.v (Value.string a0.S)), (A.imm (List.map c_S_Value a0.L) false)])] = (self a0).map fun y => (iA y)
def F30_30_0 (self : S_Value -> Option Int) (n : Nat) (v2 : Int) (v5 : S_Value) : Nat -> Int -> Int -> Option (Int)
 | 0, _, _ => none
 | m + 1, v3, v4 => bif (decide (v4 < ((v5.L.length : Int)))) then ((getI v5.L v4).bind fun y7 => (self y7).bind fun y8 => F30_30_0 self n v2 v5 m ((if v3 < y8 then y8 else v3)) (wr .i64 (v4 + 1))) else (some v3)
theorem T30_30_0 (C : Nat -> List A -> Option A) (n : Nat) (self : S_Value -> Option Int) (hS : OrcS30 C self) (v2 : Int) (v5 : S_Value) {ρ γ : Type} {φ : ρ -> γ -> Prop} {kL : R -> Option ρ} {K : (Int) -> Option γ} (kx kg : Nat -> St -> Option R) (kr : St -> Option R) (kp : A -> St -> Option R) (x0 : ∀ (o0 : Int) (s1 : A) (s2 : A) (s4 : A), J φ (kx 0 (St.mk [(1, s1), (2, s2), (3, (iA o0)), (4, s4)] [Blk.box [(iA v5.Kind), (iA v5.N), (A.v (Value.string v5.S)), (A.imm (List.map c_S_Value v5.L) false)]])) kL (K o0) some) :
  ∀ (m : Nat) (v3 : Int) (v4 : Int), J φ (loopR (cx C) (ec C n 8) (ey C n 8) (n+8) 30 0 0 1 kx kg kr kp m (St.mk [(1, (A.ptr 0 0)), (2, (iA v2)), (3, (iA v3)), (4, (iA v4))] [Blk.box [(iA v5.Kind), (iA v5.N), (A.v (Value.string v5.S)), (A.imm (List.map c_S_Value v5.L) false)]])) kL (F30_30_0 self n v2 v5 m v3 v4) K := by
 intro m
 induction m with
 | zero => intros; exact .nn
 | succ m ih =>
  intro v3 v4
  refine .lp (e30_0 ..) ?_
  unfold F30_30_0
  refine .s (A.ptr 0 3) (.s (A.imm (List.map c_S_Value v5.L) false) ?_)
  refine .st (v := (iA ((v5.L.length : Int)))) (len_imm (e := 24) (h1 := by kernel_rfl) ..) ?_
  refine .st (v := (bA (decide (v4 < ((v5.L.length : Int)))))) (aBin_lss ..) ?_
  refine .biHN (fun hk6 => ?_) (fun hk6 => ?_)
  ·refine .s (A.ptr 0 3) (.s (A.imm (List.map c_S_Value v5.L) false) ?_)
   refine .bd (g := fun (y : S_Value) => (A.ip [(iA y.Kind), (iA y.N), (A.v (Value.string y.S)), (A.imm (List.map c_S_Value y.L) false)])) ((idx_imm (e := 24) (es := 4) (h1 := by kernel_rfl) (h2 := by kernel_rfl) (h3 := fun _ => rfl) ..).trans (ci_S_Value _)) fun y7 => ?_
   refine .s (A.agg [(iA y7.Kind), (iA y7.N), (A.v (Value.string y7.S)), (A.imm (List.map c_S_Value y7.L) false)]) ?_
   refine .bd (g := fun (y : Int) => (iA y)) (by show C 30 [snap _ (A.agg [(iA y7.Kind), (iA y7.N), (A.v (Value.string y7.S)), (A.imm (List.map c_S_Value y7.L) false)])] = _; simp only [sn0, snM]; exact hS y7) fun y8 => ?_
   refine .s (iA ((if v3 < y8 then y8 else v3))) ?_
   refine .st (v := (iA (wr .i64 (v4 + 1)))) (aBin_add ..) ?_
   refine .s [Blk.box [(iA v5.Kind), (iA v5.N), (A.v (Value.string v5.S)), (A.imm (List.map c_S_Value v5.L) false)]] ?_
   refine .cT (by kernel_rfl) ?_
   exact ih _ _
  exact .ex (x0 _ _ _ _)
def F30 (self : S_Value -> Option Int) (n : Nat) (a0 : S_Value) : Option Int :=
 bif (a0.Kind != 3) then (some 0) else ((F30_30_0 self n 0 a0 (n+8) 0 0).bind fun o9 => match o9 with | y10 => some (wr .i64 (y10 + 1)))
theorem T30 (C : Nat -> List A -> Option A) (n : Nat) (self : S_Value -> Option Int) (hS : OrcS30 C self) (a0 : S_Value) : J (fun (o : R) y => ∃ v, o.1 = .ret v /\ snapE o.2 v = (iA y)) (evCall1 (cx C) (ec C n 8) (ey C n 8) (n+8) 30 [(A.agg [(iA a0.Kind), (iA a0.N), (A.v (Value.string a0.S)), (A.imm (List.map c_S_Value a0.L) false)])] [] 0) some (F30 self n a0) some := by
 refine .lp (e30 ..) ?_
 unfold F30
 refine .s ((A.ptr 0 0), [Blk.box [(iA a0.Kind), (iA a0.N), (A.v (Value.string a0.S)), (A.imm (List.map c_S_Value a0.L) false)]]) (.s (A.ptr 0 0) (.s (iA a0.Kind) ?_))
 refine .st (v := (bA (a0.Kind != 3))) (aBin_neq ..) ?_
 refine .biHN (fun hk1 => ?_) (fun hk1 => ?_)
 ·exact .lf rfl rfl ⟨_, rfl, rfl⟩
 refine .as (T30_30_0 C n  self hS 0 a0 _ _ _ _ ?_ _ 0 0)
 ·intro y10 j11 j12 j13
  refine .un rfl ?_
  refine .cT (by kernel_rfl) ?_
  refine .st (v := (iA (wr .i64 (y10 + 1)))) (aBin_add ..) ?_
  exact .lf rfl rfl ⟨_, rfl, rfl⟩
def R30 : Nat -> S_Value -> Option Int
 | 0 => fun _ => none
 | q + 1 => fun a0 => F30 (R30 q) fuel0 a0
def G30 (a0 : S_Value) : Option Int := R30 fuel0 a0
def Orc30 (C : Nat -> List A -> Option A) : Prop := ∀ (a0 : S_Value), C 30 [(A.agg [(iA a0.Kind), (iA a0.N), (A.v (Value.string a0.S)), (A.imm (List.map c_S_Value a0.L) false)])] = (G30 a0).map fun y => (iA y)
def F17 (n : Nat) (a0 : S_Value) : Option Int :=
 (G29 a0).bind fun y1 => bif (!y1) then (some 1) else ((G30 a0).bind fun y3 => bif (decide (16 < y3)) then (some 2) else (some 0))
theorem T17 (C : Nat -> List A -> Option A) (n : Nat) (h29 : Orc29 C) (h30 : Orc30 C) (a0 : S_Value) : J (fun (o : R) y => ∃ v, o.1 = .ret v /\ snapE o.2 v = (iA y)) (evCall1 (cx C) (ec C n 8) (ey C n 8) (n+8) 17 [(A.agg [(iA a0.Kind), (iA a0.N), (A.v (Value.string a0.S)), (A.imm (List.map c_S_Value a0.L) false)])] [] 0) some (F17 n a0) some := by
 refine .lp (e17 ..) ?_
 unfold F17
 refine .s ((A.ptr 0 0), [Blk.box [(iA a0.Kind), (iA a0.N), (A.v (Value.string a0.S)), (A.imm (List.map c_S_Value a0.L) false)]]) (.s (A.agg [(iA a0.Kind), (iA a0.N), (A.v (Value.string a0.S)), (A.imm (List.map c_S_Value a0.L) false)]) ?_)
 refine .bd (g := fun (y : Bool) => (bA y)) (by show C 29 [snap _ (A.agg [(iA a0.Kind), (iA a0.N), (A.v (Value.string a0.S)), (A.imm (List.map c_S_Value a0.L) false)])] = _; simp only [sn0, snM]; exact h29 a0) fun y1 => ?_
 refine .s (bA (!y1)) ?_
 refine .biHN (fun hk2 => ?_) (fun hk2 => ?_)
 ·exact .lf rfl rfl ⟨_, rfl, rfl⟩
 refine .s (A.agg [(iA a0.Kind), (iA a0.N), (A.v (Value.string a0.S)), (A.imm (List.map c_S_Value a0.L) false)]) ?_
 refine .bd (g := fun (y : Int) => (iA y)) (by show C 30 [snap _ (A.agg [(iA a0.Kind), (iA a0.N), (A.v (Value.string a0.S)), (A.imm (List.map c_S_Value a0.L) false)])] = _; simp only [sn0, snM]; exact h30 a0) fun y3 => ?_
 refine .st (v := (bA (decide (16 < y3)))) (aBin_gtr ..) ?_
 refine .biHN (fun hk4 => ?_) (fun hk4 => ?_)
 ·exact .lf rfl rfl ⟨_, rfl, rfl⟩
 exact .lf rfl rfl ⟨_, rfl, rfl⟩
def G17 (a0 : S_Value) : Option Int := F17 fuel0 a0
def Orc17 (C : Nat -> List A -> Option A) : Prop := ∀ (a0 : S_Value), C 17 [(A.agg [(iA a0.Kind), (iA a0.N), (A.v (Value.string a0.S)), (A.imm (List.map c_S_Value a0.L) false)])] = (G17 a0).map fun y => (iA y)
def F43 (n : Nat) (a0 : Int) : Option Int :=
 bif (decide (0 <= a0)) then (some (wr .u64 (2 * (wr .u64 (a0))))) else (some (wr .u64 ((wr .u64 (2 * (wr .u64 (wr .i64 (0 - (wr .i64 (a0 + 1))))))) + 1)))
theorem T43 (C : Nat -> List A -> Option A) (n : Nat) (a0 : Int) : J (fun (o : R) y => ∃ v, o.1 = .ret v /\ snapE o.2 v = (A.v (.int .u64 y))) (evCall1 (cx C) (ec C n 8) (ey C n 8) (n+8) 43 [(iA a0)] [] 0) some (F43 n a0) some := by
 refine .lp (e43 ..) ?_
 unfold F43
 refine .st (v := (bA (decide (0 <= a0)))) (aBin_geq ..) ?_
 refine .biHN (fun hk1 => ?_) (fun hk1 => ?_)
 ·refine .st (v := (A.v (.int .u64 (wr .u64 (a0))))) (aConvert_int (hs := by kernel_rfl) (hd := by kernel_rfl) ..) ?_
  refine .st (v := (A.v (.int .u64 (wr .u64 (2 * (wr .u64 (a0))))))) (aBin_mul ..) ?_
  exact .lf rfl rfl ⟨_, rfl, rfl⟩
 refine .st (v := (iA (wr .i64 (a0 + 1)))) (aBin_add ..) ?_
 refine .s (iA (wr .i64 (0 - (wr .i64 (a0 + 1))))) ?_
 refine .st (v := (A.v (.int .u64 (wr .u64 (wr .i64 (0 - (wr .i64 (a0 + 1)))))))) (aConvert_int (hs := by kernel_rfl) (hd := by kernel_rfl) ..) ?_
 refine .st (v := (A.v (.int .u64 (wr .u64 (2 * (wr .u64 (wr .i64 (0 - (wr .i64 (a0 + 1)))))))))) (aBin_mul ..) ?_
 refine .st (v := (A.v (.int .u64 (wr .u64 ((wr .u64 (2 * (wr .u64 (wr .i64 (0 - (wr .i64 (a0 + 1))))))) + 1))))) (aBin_add ..) ?_
 exact .lf rfl rfl ⟨_, rfl, rfl⟩
def G43 (a0 : Int) : Option Int := F43 fuel0 a0
def Orc43 (C : Nat -> List A -> Option A) : Prop := ∀ (a0 : Int), C 43 [(iA a0)] = (G43 a0).map fun y => (A.v (.int .u64 y))
def OrcS42 (C : Nat -> List A -> Option A) (self : Int -> Option (List UInt8)) : Prop := ∀ (a0 : Int), C 42 [(A.v (.int .u64 a0))] = (self a0).map fun y => (A.imm (List.map c8 y) false)
def F42 (self : Int -> Option (List UInt8)) (n : Nat) (a0 : Int) : Option (List UInt8) :=
 bif (decide (a0 < 128)) then (bif (decide (0 <= (wr .u8 (a0))) && decide ((wr .u8 (a0)) < 256)) then (some ([(UInt8.ofNat (Int.toNat (wr .u8 (a0))))])) else none) else (bif (decide (0 <= (wr .u8 (wr .u64 ((Int.tmod a0 128) + 128)))) && decide ((wr .u8 (wr .u64 ((Int.tmod a0 128) + 128))) < 256)) then ((self (wr .u64 (Int.tdiv a0 128))).bind fun y2 => (appI 1 ([(UInt8.ofNat (Int.toNat (wr .u8 (wr .u64 ((Int.tmod a0 128) + 128)))))]) y2).bind fun y3 => some y3) else none)
theorem T42 (C : Nat -> List A -> Option A) (n : Nat) (self : Int -> Option (List UInt8)) (hS : OrcS42 C self) (a0 : Int) : J (fun (o : R) y => ∃ v, o.1 = .ret v /\ snapE o.2 v = (A.imm (List.map c8 y) false)) (evCall1 (cx C) (ec C n 8) (ey C n 8) (n+8) 42 [(A.v (.int .u64 a0))] [] 0) some (F42 self n a0) some := by
 refine .lp (e42 ..) ?_
 unfold F42
 refine .st (v := (bA (decide (a0 < 128)))) (aBin_lss ..) ?_
 refine .biHN (fun hk1 => ?_) (fun hk1 => ?_)
 ·refine .st (v := (uA (wr .u8 (a0)))) (aConvert_int (hs := by kernel_rfl) (hd := by kernel_rfl) ..) ?_
  refine .gd fun hg => ?_
  refine .st (v := (A.imm [[(uA (((UInt8.ofNat (Int.toNat (wr .u8 (a0)))).toNat : Int)))]] true)) (by rw [u8_back hg]; kernel_rfl) ?_
  exact .lf rfl rfl ⟨_, rfl, by show snapE _ (A.imm [[(uA (((UInt8.ofNat (Int.toNat (wr .u8 (a0)))).toNat : Int)))]] true) = _; first | (simp only [sn0, snM, snapE]; done) | (simp only [sn0, snS, snapE]; first | done | rfl)⟩
 refine .st (v := (A.v (.int .u64 (Int.tmod a0 128)))) (aBin_rem (hb := by decide) ..) ?_
 refine .st (v := (A.v (.int .u64 (wr .u64 ((Int.tmod a0 128) + 128))))) (aBin_add ..) ?_
 refine .st (v := (uA (wr .u8 (wr .u64 ((Int.tmod a0 128) + 128))))) (aConvert_int (hs := by kernel_rfl) (hd := by kernel_rfl) ..) ?_
 refine .gd fun hg => ?_
 refine .st (v := (A.imm [[(uA (((UInt8.ofNat (Int.toNat (wr .u8 (wr .u64 ((Int.tmod a0 128) + 128))))).toNat : Int)))]] true)) (by rw [u8_back hg]; kernel_rfl) ?_
 refine .st (v := (A.v (.int .u64 (wr .u64 (Int.tdiv a0 128))))) (aBin_quo (hb := by decide) ..) ?_
 refine .bd (g := fun (y : (List UInt8)) => (A.imm (List.map c8 y) false)) (hS (wr .u64 (Int.tdiv a0 128))) fun y2 => ?_
 refine .bd (g := fun (y : List UInt8) => ((A.sl 0 0 y.length false), [Blk.row false 1 (List.map c8 y)])) (app_imm (e := 5) (es := 1) (by_ := 1) (z := [(uA 0)]) (by kernel_rfl) (by kernel_rfl) (by kernel_rfl) (by kernel_rfl) rfl (by decide) (by decide) (by kernel_rfl) (f := c8) (fun _ => rfl) ce_c8 (l := [(UInt8.ofNat (Int.toNat (wr .u8 (wr .u64 ((Int.tmod a0 128) + 128)))))]) (l2 := y2) (els_imm ..)) fun y3 => ?_
 exact .lf rfl rfl ⟨_, rfl, by show snapE [Blk.row false 1 (List.map c8 y3)] (A.sl 0 0 y3.length false) = _; first | (simp only [sn0, snM, snapE, snapGE_row (H := [Blk.row false 1 (List.map c8 y3)]) (b := 0) (es := 1) (wr := false) (l := y3) fl_c8 rfl]; done) | (simp only [sn0, snS, snapE, snapGE_row (H := [Blk.row false 1 (List.map c8 y3)]) (b := 0) (es := 1) (wr := false) (l := y3) fl_c8 rfl]; first | done | rfl)⟩
def R42 : Nat -> Int -> Option (List UInt8)
 | 0 => fun _ => none
 | q + 1 => fun a0 => F42 (R42 q) fuel0 a0
def G42 (a0 : Int) : Option (List UInt8) := R42 fuel0 a0
def Orc42 (C : Nat -> List A -> Option A) : Prop := ∀ (a0 : Int), C 42 [(A.v (.int .u64 a0))] = (G42 a0).map fun y => (A.imm (List.map c8 y) false)
def OrcS27 (C : Nat -> List A -> Option A) (self : S_Value -> Option (List UInt8)) : Prop := ∀ (a0 : S_Value), C 27 [(A.agg [(iA a0.Kind), (iA a0.N), (A.v (Value.string a0.S)), (A.imm (List.map c_S_Value a0.L) false)])] = (self a0).map fun y => (A.imm (List.map c8 y) false)
def F27_27_0 (self : S_Value -> Option (List UInt8)) (n : Nat) (v11 : (List UInt8)) (v13 : S_Value) : Nat -> Int -> (List UInt8) -> Option ((List UInt8))
 | 0, _, _ => none
 | m + 1, v12, v14 => bif (decide (v12 < ((v13.L.length : Int)))) then ((getI v13.L v12).bind fun y16 => (self y16).bind fun y17 => (appI 1 v14 y17).bind fun y18 => F27_27_0 self n v11 v13 m (wr .i64 (v12 + 1)) y18) else (some v14)
theorem T27_27_0 (C : Nat -> List A -> Option A) (n : Nat) (h42 : Orc42 C) (h43 : Orc43 C) (self : S_Value -> Option (List UInt8)) (hS : OrcS27 C self) (v11 : (List UInt8)) (v13 : S_Value) {ρ γ : Type} {φ : ρ -> γ -> Prop} {kL : R -> Option ρ} {K : ((List UInt8)) -> Option γ} (kx kg : Nat -> St -> Option R) (kr : St -> Option R) (kp : A -> St -> Option R) (x0 : ∀ (o0 : (List UInt8)) (s1 : A) (s2 : A) (s4 : A), J φ (kx 1 (St.mk [(1, s1), (2, s2), (3, (A.sl 1 0 o0.length false)), (4, s4)] [(hk28_1 v13), Blk.row false 1 (List.map c8 o0)])) kL (K o0) some) :
  ∀ (m : Nat) (v12 : Int) (v14 : (List UInt8)), J φ (loopR (cx C) (ec C n 8) (ey C n 8) (n+8) 27 0 0 2 kx kg kr kp m (St.mk [(1, (A.ptr 0 0)), (2, (A.imm (List.map c8 v11) true)), (3, (A.sl 1 0 v14.length false)), (4, (iA v12))] [(hk28_1 v13), Blk.row false 1 (List.map c8 v14)])) kL (F27_27_0 self n v11 v13 m v12 v14) K := by
 intro m
 induction m with
 | zero => intros; exact .nn
 | succ m ih =>
  intro v12 v14
  refine .lp (e27_0 ..) ?_
  unfold F27_27_0
  refine .s (A.ptr 0 3) (.s (A.imm (List.map c_S_Value v13.L) false) ?_)
  refine .st (v := (iA ((v13.L.length : Int)))) (len_imm (e := 24) (h1 := by kernel_rfl) ..) ?_
  refine .st (v := (bA (decide (v12 < ((v13.L.length : Int)))))) (aBin_lss ..) ?_
  refine .biHN (fun hk15 => ?_) (fun hk15 => ?_)
  ·refine .s (A.ptr 0 3) (.s (A.imm (List.map c_S_Value v13.L) false) ?_)
   refine .bd (g := fun (y : S_Value) => (A.ip [(iA y.Kind), (iA y.N), (A.v (Value.string y.S)), (A.imm (List.map c_S_Value y.L) false)])) ((idx_imm (e := 24) (es := 4) (h1 := by kernel_rfl) (h2 := by kernel_rfl) (h3 := fun _ => rfl) ..).trans (ci_S_Value _)) fun y16 => ?_
   refine .s (A.agg [(iA y16.Kind), (iA y16.N), (A.v (Value.string y16.S)), (A.imm (List.map c_S_Value y16.L) false)]) ?_
   refine .bd (g := fun (y : (List UInt8)) => (A.imm (List.map c8 y) false)) (by show C 27 [snap _ (A.agg [(iA y16.Kind), (iA y16.N), (A.v (Value.string y16.S)), (A.imm (List.map c_S_Value y16.L) false)])] = _; simp only [sn0, snM, snapG_row (H := [(hk28_1 v13), Blk.row false 1 (List.map c8 v14)]) (b := 1) (es := 1) (l := v14) fl_c8 rfl]; exact hS y16) fun y17 => ?_
   refine .bd (g := fun (y : List UInt8) => ((A.sl 1 0 y.length false), [(hk28_1 v13), Blk.row false 1 (List.map c8 y)])) (app_row (e := 5) (es := 1) (by_ := 1) (z := [(uA 0)]) (by kernel_rfl) (by kernel_rfl) (by kernel_rfl) (by kernel_rfl) rfl (by decide) (by decide) (by kernel_rfl) (f := c8) (fun _ => rfl) ce_c8 (l := v14) (l2 := y17) (b := 1) rfl (by decide) (els_imm ..)) fun y18 => ?_
   refine .st (v := (iA (wr .i64 (v12 + 1)))) (aBin_add ..) ?_
   refine .s [(hk28_1 v13), Blk.row false 1 (List.map c8 y18)] ?_
   refine .cT (by kernel_rfl) ?_
   exact ih _ _
  exact .ex (x0 _ _ _ _)
def F27 (self : S_Value -> Option (List UInt8)) (n : Nat) (a0 : S_Value) : Option (List UInt8) :=
 bif (a0.Kind == 1) then ((G43 a0.N).bind fun y2 => (G42 y2).bind fun y3 => (appI 1 ([(1 : UInt8)]) y3).bind fun y4 => some y4) else (bif (a0.Kind == 2) then ((G42 (wr .u64 ((a0.S.size : Int)))).bind fun y6 => (appI 1 ([(2 : UInt8)]) y6).bind fun y7 => (appI 1 y7 (bstrL a0.S)).bind fun y8 => some y8) else ((G42 (wr .u64 ((a0.L.length : Int)))).bind fun y9 => (appI 1 ([(3 : UInt8)]) y9).bind fun y10 => (F27_27_0 self n ([]) a0 (n+8) 0 y10).bind fun o19 => match o19 with | y20 => some y20))
theorem T27 (C : Nat -> List A -> Option A) (n : Nat) (h42 : Orc42 C) (h43 : Orc43 C) (self : S_Value -> Option (List UInt8)) (hS : OrcS27 C self) (a0 : S_Value) : J (fun (o : R) y => ∃ v, o.1 = .ret v /\ snapE o.2 v = (A.imm (List.map c8 y) false)) (evCall1 (cx C) (ec C n 8) (ey C n 8) (n+8) 27 [(A.agg [(iA a0.Kind), (iA a0.N), (A.v (Value.string a0.S)), (A.imm (List.map c_S_Value a0.L) false)])] [] 0) some (F27 self n a0) some := by
 refine .lp (e27 ..) ?_
 unfold F27
 refine .s ((A.ptr 0 0), [(hk12_2 a0)]) (.s (A.ptr 0 0) (.s (iA a0.Kind) ?_))
 refine .st (v := (bA (a0.Kind == 1))) (aBin_eql ..) ?_
 refine .biHN (fun hk1 => ?_) (fun hk1 => ?_)
 ·refine .s (A.imm [[(uA 1)]] true) (.s (A.ptr 0 1) (.s (iA a0.N) ?_))
  refine .bd (g := fun (y : Int) => (A.v (.int .u64 y))) (h43 a0.N) fun y2 => ?_
  refine .bd (g := fun (y : (List UInt8)) => (A.imm (List.map c8 y) false)) (h42 y2) fun y3 => ?_
  refine .bd (g := fun (y : List UInt8) => ((A.sl 1 0 y.length false), [(hk12_2 a0), Blk.row false 1 (List.map c8 y)])) (app_imm (e := 5) (es := 1) (by_ := 1) (z := [(uA 0)]) (by kernel_rfl) (by kernel_rfl) (by kernel_rfl) (by kernel_rfl) rfl (by decide) (by decide) (by kernel_rfl) (f := c8) (fun _ => rfl) ce_c8 (l := [(1 : UInt8)]) (l2 := y3) (els_imm ..)) fun y4 => ?_
  exact .lf rfl rfl ⟨_, rfl, by show snapE [(hk12_2 a0), Blk.row false 1 (List.map c8 y4)] (A.sl 1 0 y4.length false) = _; first | (simp only [sn0, snM, snapE, snapGE_row (H := [(hk12_2 a0), Blk.row false 1 (List.map c8 y4)]) (b := 1) (es := 1) (wr := false) (l := y4) fl_c8 rfl]; done) | (simp only [sn0, snS, snapE, snapGE_row (H := [(hk12_2 a0), Blk.row false 1 (List.map c8 y4)]) (b := 1) (es := 1) (wr := false) (l := y4) fl_c8 rfl]; first | done | rfl)⟩
 refine .st (v := (bA (a0.Kind == 2))) (aBin_eql ..) ?_
 refine .biHN (fun hk5 => ?_) (fun hk5 => ?_)
 ·refine .s (A.imm [[(uA 2)]] true) (.s (A.ptr 0 2) (.s (A.v (Value.string a0.S)) (.s (iA ((a0.S.size : Int))) ?_)))
  refine .st (v := (A.v (.int .u64 (wr .u64 ((a0.S.size : Int)))))) (aConvert_int (hs := by kernel_rfl) (hd := by kernel_rfl) ..) ?_
  refine .bd (g := fun (y : (List UInt8)) => (A.imm (List.map c8 y) false)) (h42 (wr .u64 ((a0.S.size : Int)))) fun y6 => ?_
  refine .bd (g := fun (y : List UInt8) => ((A.sl 1 0 y.length false), [(hk12_2 a0), Blk.row false 1 (List.map c8 y)])) (app_imm (e := 5) (es := 1) (by_ := 1) (z := [(uA 0)]) (by kernel_rfl) (by kernel_rfl) (by kernel_rfl) (by kernel_rfl) rfl (by decide) (by decide) (by kernel_rfl) (f := c8) (fun _ => rfl) ce_c8 (l := [(2 : UInt8)]) (l2 := y6) (els_imm ..)) fun y7 => ?_
  refine .cT (by kernel_rfl) ?_
  refine .s (A.ptr 0 2) ?_
  refine .cT (by kernel_rfl) ?_
  refine .s (A.v (Value.string a0.S)) ?_
  refine .bd (g := fun (y : List UInt8) => ((A.sl 1 0 y.length false), [(hk12_2 a0), Blk.row false 1 (List.map c8 y)])) (app_row (e := 5) (es := 1) (by_ := 1) (z := [(uA 0)]) (by kernel_rfl) (by kernel_rfl) (by kernel_rfl) (by kernel_rfl) rfl (by decide) (by decide) (by kernel_rfl) (f := c8) (fun _ => rfl) ce_c8 (l := y7) (l2 := bstrL a0.S) (b := 1) rfl (by decide) (els_str ..)) fun y8 => ?_
  exact .lf rfl rfl ⟨_, rfl, by show snapE [(hk12_2 a0), Blk.row false 1 (List.map c8 y8)] (A.sl 1 0 y8.length false) = _; first | (simp only [sn0, snM, snapE, snapGE_row (H := [(hk12_2 a0), Blk.row false 1 (List.map c8 y8)]) (b := 1) (es := 1) (wr := false) (l := y8) fl_c8 rfl]; done) | (simp only [sn0, snS, snapE, snapGE_row (H := [(hk12_2 a0), Blk.row false 1 (List.map c8 y8)]) (b := 1) (es := 1) (wr := false) (l := y8) fl_c8 rfl]; first | done | rfl)⟩
 refine .s (A.imm [[(uA 3)]] true) (.s (A.ptr 0 3) (.s (A.imm (List.map c_S_Value a0.L) false) ?_))
 refine .st (v := (iA ((a0.L.length : Int)))) (len_imm (e := 24) (h1 := by kernel_rfl) ..) ?_
 refine .st (v := (A.v (.int .u64 (wr .u64 ((a0.L.length : Int)))))) (aConvert_int (hs := by kernel_rfl) (hd := by kernel_rfl) ..) ?_
 refine .bd (g := fun (y : (List UInt8)) => (A.imm (List.map c8 y) false)) (h42 (wr .u64 ((a0.L.length : Int)))) fun y9 => ?_
 refine .bd (g := fun (y : List UInt8) => ((A.sl 1 0 y.length false), [(hk12_2 a0), Blk.row false 1 (List.map c8 y)])) (app_imm (e := 5) (es := 1) (by_ := 1) (z := [(uA 0)]) (by kernel_rfl) (by kernel_rfl) (by kernel_rfl) (by kernel_rfl) rfl (by decide) (by decide) (by kernel_rfl) (f := c8) (fun _ => rfl) ce_c8 (l := [(3 : UInt8)]) (l2 := y9) (els_imm ..)) fun y10 => ?_
 refine .as (T27_27_0 C n h42 h43 self hS ([]) a0 _ _ _ _ ?_ _ 0 y10)
 ·intro y20 j21 j22 j23
  refine .un rfl ?_
  refine .cT (by kernel_rfl) ?_
  exact .lf rfl rfl ⟨_, rfl, by show snapE [(hk12_2 a0), Blk.row false 1 (List.map c8 y20)] (A.sl 1 0 y20.length false) = _; first | (simp only [sn0, snM, snapE, snapGE_row (H := [(hk12_2 a0), Blk.row false 1 (List.map c8 y20)]) (b := 1) (es := 1) (wr := false) (l := y20) fl_c8 rfl]; done) | (simp only [sn0, snS, snapE, snapGE_row (H := [(hk12_2 a0), Blk.row false 1 (List.map c8 y20)]) (b := 1) (es := 1) (wr := false) (l := y20) fl_c8 rfl]; first | done | rfl)⟩
def R27 : Nat -> S_Value -> Option (List UInt8)
 | 0 => fun _ => none
 | q + 1 => fun a0 => F27 (R27 q) fuel0 a0
def G27 (a0 : S_Value) : Option (List UInt8) := R27 fuel0 a0
def Orc27 (C : Nat -> List A -> Option A) : Prop := ∀ (a0 : S_Value), C 27 [(A.agg [(iA a0.Kind), (iA a0.N), (A.v (Value.string a0.S)), (A.imm (List.map c_S_Value a0.L) false)])] = (G27 a0).map fun y => (A.imm (List.map c8 y) false)
def F13 (n : Nat) (a0 : S_Value) : Option ((List UInt8) × Int) :=
 (G17 a0).bind fun y1 => bif (y1 != 0) then (some (([], y1))) else ((G27 a0).bind fun y3 => some ((y3, 0)))
theorem T13 (C : Nat -> List A -> Option A) (n : Nat) (h17 : Orc17 C) (h27 : Orc27 C) (a0 : S_Value) : J (fun (o : R) y => ∃ v, o.1 = .ret v /\ snapE o.2 v = (A.tup [(A.imm (List.map c8 y.1) false), (iA y.2)])) (evCall1 (cx C) (ec C n 8) (ey C n 8) (n+8) 13 [(A.agg [(iA a0.Kind), (iA a0.N), (A.v (Value.string a0.S)), (A.imm (List.map c_S_Value a0.L) false)])] [] 0) some (F13 n a0) some := by
 refine .lp (e13 ..) ?_
 unfold F13
 refine .s ((A.ptr 0 0), [Blk.box [(iA a0.Kind), (iA a0.N), (A.v (Value.string a0.S)), (A.imm (List.map c_S_Value a0.L) false)]]) (.s (A.agg [(iA a0.Kind), (iA a0.N), (A.v (Value.string a0.S)), (A.imm (List.map c_S_Value a0.L) false)]) ?_)
 refine .bd (g := fun (y : Int) => (iA y)) (by show C 17 [snap _ (A.agg [(iA a0.Kind), (iA a0.N), (A.v (Value.string a0.S)), (A.imm (List.map c_S_Value a0.L) false)])] = _; simp only [sn0, snM]; exact h17 a0) fun y1 => ?_
 refine .st (v := (bA (y1 != 0))) (aBin_neq ..) ?_
 refine .biHN (fun hk2 => ?_) (fun hk2 => ?_)
 ·exact .lf rfl rfl ⟨_, rfl, by show snapE _ (A.tup [(A.imm [] true), (iA y1)]) = _; first | (simp only [sn0, snM, snapE]; done) | (simp only [sn0, snS, snapE]; first | done | rfl)⟩
 refine .s (A.agg [(iA a0.Kind), (iA a0.N), (A.v (Value.string a0.S)), (A.imm (List.map c_S_Value a0.L) false)]) ?_
 refine .bd (g := fun (y : (List UInt8)) => (A.imm (List.map c8 y) false)) (by show C 27 [snap _ (A.agg [(iA a0.Kind), (iA a0.N), (A.v (Value.string a0.S)), (A.imm (List.map c_S_Value a0.L) false)])] = _; simp only [sn0, snM]; exact h27 a0) fun y3 => ?_
 exact .lf rfl rfl ⟨_, rfl, by show snapE _ (A.tup [(A.imm (List.map c8 y3) false), (iA 0)]) = _; first | (simp only [sn0, snM, snapE]; done) | (simp only [sn0, snS, snapE]; first | done | rfl)⟩
def G13 (a0 : S_Value) : Option ((List UInt8) × Int) := F13 fuel0 a0
def Orc13 (C : Nat -> List A -> Option A) : Prop := ∀ (a0 : S_Value), C 13 [(A.agg [(iA a0.Kind), (iA a0.N), (A.v (Value.string a0.S)), (A.imm (List.map c_S_Value a0.L) false)])] = (G13 a0).map fun y => (A.tup [(A.imm (List.map c8 y.1) false), (iA y.2)])
def F15 (n : Nat) (a0 : S_Value) : Option (Int × Int) :=
 (G13 a0).bind fun y1 => some (((y1.1.length : Int), y1.2))
theorem T15 (C : Nat -> List A -> Option A) (n : Nat) (h13 : Orc13 C) (a0 : S_Value) : J (fun (o : R) y => ∃ v, o.1 = .ret v /\ snapE o.2 v = (A.tup [(iA y.1), (iA y.2)])) (evCall1 (cx C) (ec C n 8) (ey C n 8) (n+8) 15 [(A.agg [(iA a0.Kind), (iA a0.N), (A.v (Value.string a0.S)), (A.imm (List.map c_S_Value a0.L) false)])] [] 0) some (F15 n a0) some := by
 refine .lp (e15 ..) ?_
 unfold F15
 refine .s ((A.ptr 0 0), [Blk.box [(iA a0.Kind), (iA a0.N), (A.v (Value.string a0.S)), (A.imm (List.map c_S_Value a0.L) false)]]) (.s (A.agg [(iA a0.Kind), (iA a0.N), (A.v (Value.string a0.S)), (A.imm (List.map c_S_Value a0.L) false)]) ?_)
 refine .bd (g := fun (y : ((List UInt8) × Int)) => (A.tup [(A.imm (List.map c8 y.1) false), (iA y.2)])) (by show C 13 [snap _ (A.agg [(iA a0.Kind), (iA a0.N), (A.v (Value.string a0.S)), (A.imm (List.map c_S_Value a0.L) false)])] = _; simp only [sn0, snM]; exact h13 a0) fun y1 => ?_
 refine .s (A.imm (List.map c8 y1.1) false) (.s (iA y1.2) ?_)
 refine .st (v := (iA ((y1.1.length : Int)))) (len_imm (e := 5) (h1 := by kernel_rfl) ..) ?_
 exact .lf rfl rfl ⟨_, rfl, rfl⟩
def G15 (a0 : S_Value) : Option (Int × Int) := F15 fuel0 a0
def Orc15 (C : Nat -> List A -> Option A) : Prop := ∀ (a0 : S_Value), C 15 [(A.agg [(iA a0.Kind), (iA a0.N), (A.v (Value.string a0.S)), (A.imm (List.map c_S_Value a0.L) false)])] = (G15 a0).map fun y => (A.tup [(iA y.1), (iA y.2)])
def F3 (n : Nat) (a0 : S_Value) : Option Bool :=
 (G10 ).bind fun y1 => bif (!y1) then (some false) else ((G11 ([a0])).bind fun y3 => bif (!y3) then (some true) else ((G12 a0).bind fun y5 => (G13 a0).bind fun y6 => (G14 a0).bind fun y7 => (G15 a0).bind fun y8 => (bif (strEq (bstr y5.1) (bstr y6.1)) then (some (y5.2 == y6.2)) else (some false)).bind fun y10 => (bif y10 then (some (y7.1 == y8.1)) else (some false)).bind fun y15 => (bif y15 then (some (y7.2 == y8.2)) else (some false)).bind fun y20 => bif y20 then ((G16 a0).bind fun y25 => ((G17 a0).bind fun y26 => some (y25 == y26)).bind fun y27 => some y27) else ((some false).bind fun y30 => some y30)))
theorem T3 (C : Nat -> List A -> Option A) (n : Nat) (h10 : Orc10 C) (h11 : Orc11 C) (h12 : Orc12 C) (h13 : Orc13 C) (h14 : Orc14 C) (h15 : Orc15 C) (h16 : Orc16 C) (h17 : Orc17 C) (a0 : S_Value) : J (fun (o : R) y => ∃ v, o.1 = .ret v /\ snapE o.2 v = (bA y)) (evCall1 (cx C) (ec C n 8) (ey C n 8) (n+8) 3 [(A.agg [(iA a0.Kind), (iA a0.N), (A.v (Value.string a0.S)), (A.imm (List.map c_S_Value a0.L) false)])] [] 0) some (F3 n a0) some := by
 refine .lp (e3 ..) ?_
 unfold F3
 refine .s ((A.ptr 0 0), [Blk.box [(iA a0.Kind), (iA a0.N), (A.v (Value.string a0.S)), (A.imm (List.map c_S_Value a0.L) false)]]) ?_
 refine .bd (g := fun (y : Bool) => (bA y)) (h10 ()) fun y1 => ?_
 refine .s (bA (!y1)) ?_
 refine .biHN (fun hk2 => ?_) (fun hk2 => ?_)
 ·exact .lf rfl rfl ⟨_, rfl, rfl⟩
 refine .s (A.agg [(iA a0.Kind), (iA a0.N), (A.v (Value.string a0.S)), (A.imm (List.map c_S_Value a0.L) false)]) (.s (A.imm [[(iA a0.Kind), (iA a0.N), (A.v (Value.string a0.S)), (A.imm (List.map c_S_Value a0.L) false)]] true) ?_)
 refine .bd (g := fun (y : Bool) => (bA y)) (by show C 11 [snap _ (A.imm [[(iA a0.Kind), (iA a0.N), (A.v (Value.string a0.S)), (A.imm (List.map c_S_Value a0.L) false)]] true)] = _; simp only [sn0, snM]; have q := h11 ([a0]); simp only [List.map_cons, List.map_nil, cq_S_Value] at q; exact q) fun y3 => ?_
 refine .s (bA (!y3)) ?_
 refine .biHN (fun hk4 => ?_) (fun hk4 => ?_)
 ·exact .lf rfl rfl ⟨_, rfl, rfl⟩
 refine .s (A.agg [(iA a0.Kind), (iA a0.N), (A.v (Value.string a0.S)), (A.imm (List.map c_S_Value a0.L) false)]) ?_
 refine .bd (g := fun (y : ((List UInt8) × Int)) => (A.tup [(A.imm (List.map c8 y.1) false), (iA y.2)])) (by show C 12 [snap _ (A.agg [(iA a0.Kind), (iA a0.N), (A.v (Value.string a0.S)), (A.imm (List.map c_S_Value a0.L) false)])] = _; simp only [sn0, snM]; exact h12 a0) fun y5 => ?_
 refine .s (A.imm (List.map c8 y5.1) false) (.s (iA y5.2) (.s (A.agg [(iA a0.Kind), (iA a0.N), (A.v (Value.string a0.S)), (A.imm (List.map c_S_Value a0.L) false)]) ?_))
 refine .bd (g := fun (y : ((List UInt8) × Int)) => (A.tup [(A.imm (List.map c8 y.1) false), (iA y.2)])) (by show C 13 [snap _ (A.agg [(iA a0.Kind), (iA a0.N), (A.v (Value.string a0.S)), (A.imm (List.map c_S_Value a0.L) false)])] = _; simp only [sn0, snM]; exact h13 a0) fun y6 => ?_
 refine .s (A.imm (List.map c8 y6.1) false) (.s (iA y6.2) (.s (A.agg [(iA a0.Kind), (iA a0.N), (A.v (Value.string a0.S)), (A.imm (List.map c_S_Value a0.L) false)]) ?_))
 refine .bd (g := fun (y : (Int × Int)) => (A.tup [(iA y.1), (iA y.2)])) (by show C 14 [snap _ (A.agg [(iA a0.Kind), (iA a0.N), (A.v (Value.string a0.S)), (A.imm (List.map c_S_Value a0.L) false)])] = _; simp only [sn0, snM]; exact h14 a0) fun y7 => ?_
 refine .s (iA y7.1) (.s (iA y7.2) (.s (A.agg [(iA a0.Kind), (iA a0.N), (A.v (Value.string a0.S)), (A.imm (List.map c_S_Value a0.L) false)]) ?_))
 refine .bd (g := fun (y : (Int × Int)) => (A.tup [(iA y.1), (iA y.2)])) (by show C 15 [snap _ (A.agg [(iA a0.Kind), (iA a0.N), (A.v (Value.string a0.S)), (A.imm (List.map c_S_Value a0.L) false)])] = _; simp only [sn0, snM]; exact h15 a0) fun y8 => ?_
 refine .s (iA y8.1) (.s (iA y8.2) ?_)
 refine .st (v := (A.v (Value.string (bstr y5.1)))) (conv_bs (e := 5) (l := y5.1) (by kernel_rfl) (by kernel_rfl) (by kernel_rfl) (by kernel_rfl) (els_imm ..) rfl) ?_
 refine .st (v := (A.v (Value.string (bstr y6.1)))) (conv_bs (e := 5) (l := y6.1) (by kernel_rfl) (by kernel_rfl) (by kernel_rfl) (by kernel_rfl) (els_imm ..) rfl) ?_
 refine .st (v := (bA (strEq (bstr y5.1) (bstr y6.1)))) (aBin_eql_s ..) ?_
 refine .bg (fun t (y : Bool) => ∃ j11 j12 j13 : A, t = [(bA y), j11, j12, j13]) ?_ ?_
 ·refine .biH (fun hk9 => ?_) (fun hk9 => ?_)
  ·refine .st (v := (bA (y5.2 == y6.2))) (aBin_eql ..) ?_
   exact .lg ⟨_, _, _, rfl⟩
  exact .lg ⟨_, _, _, rfl⟩
 rintro _ y10 ⟨j11, j12, j13, rfl⟩
 iterate 4 refine .uc ?_
 refine .bg (fun t (y : Bool) => ∃ j16 j17 j18 : A, t = [(bA y), j16, j17, j18]) ?_ ?_
 ·refine .biH (fun hk14 => ?_) (fun hk14 => ?_)
  ·refine .st (v := (bA (y7.1 == y8.1))) (aBin_eql ..) ?_
   exact .lg ⟨_, _, _, rfl⟩
  exact .lg ⟨_, _, _, rfl⟩
 rintro _ y15 ⟨j16, j17, j18, rfl⟩
 iterate 4 refine .uc ?_
 refine .bg (fun t (y : Bool) => ∃ j21 j22 j23 : A, t = [(bA y), j21, j22, j23]) ?_ ?_
 ·refine .biH (fun hk19 => ?_) (fun hk19 => ?_)
  ·refine .st (v := (bA (y7.2 == y8.2))) (aBin_eql ..) ?_
   exact .lg ⟨_, _, _, rfl⟩
  exact .lg ⟨_, _, _, rfl⟩
 rintro _ y20 ⟨j21, j22, j23, rfl⟩
 iterate 4 refine .uc ?_
 refine .gst (fun hc24 => ?_) (fun hc24 => ?_)
 ·refine .bb ?_
  refine .s (A.agg [(iA a0.Kind), (iA a0.N), (A.v (Value.string a0.S)), (A.imm (List.map c_S_Value a0.L) false)]) ?_
  refine .bd (g := fun (y : Int) => (iA y)) (by show C 16 [snap _ (A.agg [(iA a0.Kind), (iA a0.N), (A.v (Value.string a0.S)), (A.imm (List.map c_S_Value a0.L) false)])] = _; simp only [sn0, snM]; exact h16 a0) fun y25 => ?_
  refine .s (A.agg [(iA a0.Kind), (iA a0.N), (A.v (Value.string a0.S)), (A.imm (List.map c_S_Value a0.L) false)]) ?_
  refine .cr ?_
  iterate 3 refine .uc ?_
  refine .bg (fun t (y : Bool) => ∃ j28 j29 : A, t = [(bA y), j28, j29]) ?_ ?_
  ·refine .bKT hc24 ?_
   refine .bd (g := fun (y : Int) => (iA y)) (by show C 17 [snap _ (A.agg [(iA a0.Kind), (iA a0.N), (A.v (Value.string a0.S)), (A.imm (List.map c_S_Value a0.L) false)])] = _; simp only [sn0, snM]; exact h17 a0) fun y26 => ?_
   refine .st (v := (bA (y25 == y26))) (aBin_eql ..) ?_
   exact .lg ⟨_, _, rfl⟩
  rintro _ y27 ⟨j28, j29, rfl⟩
  iterate 3 refine .uc ?_
  exact .lf rfl rfl ⟨_, rfl, rfl⟩
 refine .bb ?_
 refine .cr ?_
 iterate 3 refine .uc ?_
 refine .bg (fun t (y : Bool) => ∃ j31 j32 : A, t = [(bA y), j31, j32]) ?_ ?_
 ·refine .bKF hc24 ?_
  exact .lg ⟨_, _, rfl⟩
 rintro _ y30 ⟨j31, j32, rfl⟩
 iterate 3 refine .uc ?_
 exact .lf rfl rfl ⟨_, rfl, rfl⟩
def G3 (a0 : S_Value) : Option Bool := F3 fuel0 a0
end Go.Proofs.Ytmjaehondldaaaa
