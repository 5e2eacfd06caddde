/-
 The program's functions as plain functions: by a tool; each follows the interpreter.
-/
import Derived.Test.YtmjaehondldaaaaT1
import Derived.KernelRfl
namespace Go.Proofs.Ytmjaehondldaaaa
open Go.Proofs.Try (prog)
set_option linter.unusedVariables false
set_option linter.unusedSimpArgs false
set_option maxHeartbeats 4000000
set_option maxRecDepth 100000
def OrcS20 (C : Nat -> List A -> Option A) (self : S_Value -> S_Value -> Option Bool) : Prop := ∀ (a0 : S_Value) (a1 : S_Value), C 20 [(A.agg [(iA a0.Kind), (iA a0.N), (A.v (Value.string a0.S)), (A.imm (List.map c_S_Value a0.L) false)]), (A.agg [(iA a1.Kind), (iA a1.N), (A.v (Value.string a1.S)), (A.imm (List.map c_S_Value a1.L) false)])] = (self a0 a1).map fun y => (bA y)
def F20_20_0 (self : S_Value -> S_Value -> Option Bool) (n : Nat) (v25 : Bool) (v27 : S_Value) (v28 : S_Value) : Nat -> Int -> Option ((Bool) ⊕ (Unit))
 | 0, _ => none
 | m + 1, v26 => bif (decide (v26 < ((v27.L.length : Int)))) then ((getI v27.L v26).bind fun y30 => (getI v28.L v26).bind fun y31 => (self y30 y31).bind fun y32 => bif (!y32) then (some ((Sum.inl false))) else (F20_20_0 self n v25 v27 v28 m (wr .i64 (v26 + 1)))) else (some ((Sum.inr (()))))
theorem T20_20_0 (C : Nat -> List A -> Option A) (n : Nat) (self : S_Value -> S_Value -> Option Bool) (hS : OrcS20 C self) (v25 : Bool) (v27 : S_Value) (v28 : S_Value) {ρ γ : Type} {φ : ρ -> γ -> Prop} {kL : R -> Option ρ} {K : ((Bool) ⊕ (Unit)) -> Option γ} (kx kg : Nat -> St -> Option R) (kr : St -> Option R) (kp : A -> St -> Option R) (x0 : ∀ (o0 : Bool) (s2 : A) (s3 : A) (s5 : A), J φ (kr (St.mk [(2, s2), (3, s3), (4, (bA o0)), (5, s5)] [Blk.box [(iA v27.Kind), (iA v27.N), (A.v (Value.string v27.S)), (A.imm (List.map c_S_Value v27.L) false)], Blk.box [(iA v28.Kind), (iA v28.N), (A.v (Value.string v28.S)), (A.imm (List.map c_S_Value v28.L) false)]])) kL (K (Sum.inl o0)) some) (x1 : ∀ (s2 : A) (s3 : A) (s4 : A) (s5 : A), J φ (kx 0 (St.mk [(2, s2), (3, s3), (4, s4), (5, s5)] [Blk.box [(iA v27.Kind), (iA v27.N), (A.v (Value.string v27.S)), (A.imm (List.map c_S_Value v27.L) false)], Blk.box [(iA v28.Kind), (iA v28.N), (A.v (Value.string v28.S)), (A.imm (List.map c_S_Value v28.L) false)]])) kL (K (Sum.inr (()))) some) :
  ∀ (m : Nat) (v26 : Int), J φ (loopR (cx C) (ec C n 8) (ey C n 8) (n+8) 20 0 0 2 kx kg kr kp m (St.mk [(2, (A.ptr 0 0)), (3, (A.ptr 1 0)), (4, (bA v25)), (5, (iA v26))] [Blk.box [(iA v27.Kind), (iA v27.N), (A.v (Value.string v27.S)), (A.imm (List.map c_S_Value v27.L) false)], Blk.box [(iA v28.Kind), (iA v28.N), (A.v (Value.string v28.S)), (A.imm (List.map c_S_Value v28.L) false)]])) kL (F20_20_0 self n v25 v27 v28 m v26) K := by
 intro m
 induction m with
 | zero => intros; exact .nn
 | succ m ih =>
  intro v26
  refine .lp (e20_0 ..) ?_
  unfold F20_20_0
  refine .s (A.ptr 0 3) (.s (A.imm (List.map c_S_Value v27.L) false) ?_)
  refine .st (v := (iA ((v27.L.length : Int)))) (len_imm (e := 24) (h1 := by kernel_rfl) ..) ?_
  refine .st (v := (bA (decide (v26 < ((v27.L.length : Int)))))) (aBin_lss ..) ?_
  refine .biHN (fun hk29 => ?_) (fun hk29 => ?_)
  ·refine .s (A.ptr 0 3) (.s (A.imm (List.map c_S_Value v27.L) false) ?_)
   refine .bd (g := fun (y : S_Value) => (A.ip [(iA y.Kind), (iA y.N), (A.v (Value.string y.S)), (A.imm (List.map c_S_Value y.L) false)])) ((idx_imm (e := 24) (es := 4) (h1 := by kernel_rfl) (h2 := by kernel_rfl) (h3 := fun _ => rfl) ..).trans (ci_S_Value _)) fun y30 => ?_
   refine .s (A.agg [(iA y30.Kind), (iA y30.N), (A.v (Value.string y30.S)), (A.imm (List.map c_S_Value y30.L) false)]) (.s (A.ptr 1 3) (.s (A.imm (List.map c_S_Value v28.L) false) ?_))
   refine .bd (g := fun (y : S_Value) => (A.ip [(iA y.Kind), (iA y.N), (A.v (Value.string y.S)), (A.imm (List.map c_S_Value y.L) false)])) ((idx_imm (e := 24) (es := 4) (h1 := by kernel_rfl) (h2 := by kernel_rfl) (h3 := fun _ => rfl) ..).trans (ci_S_Value _)) fun y31 => ?_
   refine .s (A.agg [(iA y31.Kind), (iA y31.N), (A.v (Value.string y31.S)), (A.imm (List.map c_S_Value y31.L) false)]) ?_
   refine .bd (g := fun (y : Bool) => (bA y)) (by show C 20 [snap _ (A.agg [(iA y30.Kind), (iA y30.N), (A.v (Value.string y30.S)), (A.imm (List.map c_S_Value y30.L) false)]), snap _ (A.agg [(iA y31.Kind), (iA y31.N), (A.v (Value.string y31.S)), (A.imm (List.map c_S_Value y31.L) false)])] = _; simp only [sn0, snM]; exact hS y30 y31) fun y32 => ?_
   refine .s (bA (!y32)) ?_
   refine .biHN (fun hk33 => ?_) (fun hk33 => ?_)
   ·exact .ex (x0 _ _ _ _)
   refine .st (v := (iA (wr .i64 (v26 + 1)))) (aBin_add ..) ?_
   refine .s [Blk.box [(iA v27.Kind), (iA v27.N), (A.v (Value.string v27.S)), (A.imm (List.map c_S_Value v27.L) false)], Blk.box [(iA v28.Kind), (iA v28.N), (A.v (Value.string v28.S)), (A.imm (List.map c_S_Value v28.L) false)]] ?_
   refine .cT (by kernel_rfl) ?_
   exact ih _
  exact .ex (x1 _ _ _ _)
def F20 (self : S_Value -> S_Value -> Option Bool) (n : Nat) (a0 : S_Value) (a1 : S_Value) : Option Bool :=
 (bif (a0.Kind != a1.Kind) then (some true) else (some (a0.N != a1.N))).bind fun y2 => (bif y2 then (some true) else (some (!strEq a0.S a1.S))).bind fun y9 => (bif y9 then (some true) else (some (((a0.L.length : Int)) != ((a1.L.length : Int))))).bind fun y16 => bif y16 then (some false) else ((F20_20_0 self n false a0 a1 (n+8) 0).bind fun o34 => match o34 with | (Sum.inl y35) => some y35 | (Sum.inr _) => some true)
theorem T20 (C : Nat -> List A -> Option A) (n : Nat) (self : S_Value -> S_Value -> Option Bool) (hS : OrcS20 C self) (a0 : S_Value) (a1 : S_Value) : J (fun (o : R) y => ∃ v, o.1 = .ret v /\ snapE o.2 v = (bA y)) (evCall1 (cx C) (ec C n 8) (ey C n 8) (n+8) 20 [(A.agg [(iA a0.Kind), (iA a0.N), (A.v (Value.string a0.S)), (A.imm (List.map c_S_Value a0.L) false)]), (A.agg [(iA a1.Kind), (iA a1.N), (A.v (Value.string a1.S)), (A.imm (List.map c_S_Value a1.L) false)])] [] 0) some (F20 self n a0 a1) some := by
 refine .lp (e20 ..) ?_
 unfold F20
 refine .s ((A.ptr 0 0), [Blk.box [(iA a0.Kind), (iA a0.N), (A.v (Value.string a0.S)), (A.imm (List.map c_S_Value a0.L) false)]]) (.s ((A.ptr 1 0), [Blk.box [(iA a0.Kind), (iA a0.N), (A.v (Value.string a0.S)), (A.imm (List.map c_S_Value a0.L) false)], Blk.box [(iA a1.Kind), (iA a1.N), (A.v (Value.string a1.S)), (A.imm (List.map c_S_Value a1.L) false)]]) (.s (A.ptr 0 0) (.s (iA a0.Kind) (.s (A.ptr 1 0) (.s (iA a1.Kind) ?_)))))
 refine .st (v := (bA (a0.Kind != a1.Kind))) (aBin_neq ..) ?_
 refine .bg (fun t (y : Bool) => ∃ j3 j4 j5 j6 j7 : A, t = [(bA y), j3, j4, j5, j6, j7]) ?_ ?_
 ·refine .biH (fun hk1 => ?_) (fun hk1 => ?_)
  ·exact .lg ⟨_, _, _, _, _, rfl⟩
  refine .s (A.ptr 0 1) (.s (iA a0.N) (.s (A.ptr 1 1) (.s (iA a1.N) ?_)))
  refine .st (v := (bA (a0.N != a1.N))) (aBin_neq ..) ?_
  exact .lg ⟨_, _, _, _, _, rfl⟩
 rintro _ y2 ⟨j3, j4, j5, j6, j7, rfl⟩
 iterate 6 refine .uc ?_
 refine .bg (fun t (y : Bool) => ∃ j10 j11 j12 j13 j14 : A, t = [(bA y), j10, j11, j12, j13, j14]) ?_ ?_
 ·refine .biH (fun hk8 => ?_) (fun hk8 => ?_)
  ·exact .lg ⟨_, _, _, _, _, rfl⟩
  refine .s (A.ptr 0 2) (.s (A.v (Value.string a0.S)) (.s (A.ptr 1 2) (.s (A.v (Value.string a1.S)) ?_)))
  refine .st (v := (bA (!strEq a0.S a1.S))) (aBin_neq_s ..) ?_
  exact .lg ⟨_, _, _, _, _, rfl⟩
 rintro _ y9 ⟨j10, j11, j12, j13, j14, rfl⟩
 iterate 6 refine .uc ?_
 refine .bg (fun t (y : Bool) => ∃ j17 j18 j19 j20 j21 j22 j23 : A, t = [(bA y), j17, j18, j19, j20, j21, j22, j23]) ?_ ?_
 ·refine .biH (fun hk15 => ?_) (fun hk15 => ?_)
  ·exact .lg ⟨_, _, _, _, _, _, _, rfl⟩
  refine .s (A.ptr 0 3) (.s (A.imm (List.map c_S_Value a0.L) false) ?_)
  refine .st (v := (iA ((a0.L.length : Int)))) (len_imm (e := 24) (h1 := by kernel_rfl) ..) ?_
  refine .s (A.ptr 1 3) (.s (A.imm (List.map c_S_Value a1.L) false) ?_)
  refine .st (v := (iA ((a1.L.length : Int)))) (len_imm (e := 24) (h1 := by kernel_rfl) ..) ?_
  refine .st (v := (bA (((a0.L.length : Int)) != ((a1.L.length : Int))))) (aBin_neq ..) ?_
  exact .lg ⟨_, _, _, _, _, _, _, rfl⟩
 rintro _ y16 ⟨j17, j18, j19, j20, j21, j22, j23, rfl⟩
 iterate 8 refine .uc ?_
 refine .biHN (fun hk24 => ?_) (fun hk24 => ?_)
 ·exact .lf rfl rfl ⟨_, rfl, rfl⟩
 refine .as (T20_20_0 C n  self hS false a0 a1 _ _ _ _ ?_ ?_ _ 0)
 ·intro y35 j36 j37 j38
  refine .un rfl ?_
  exact .lf rfl rfl ⟨_, rfl, rfl⟩
 ·intro j39 j40 j41 j42
  refine .un rfl ?_
  refine .cT (by kernel_rfl) ?_
  exact .lf rfl rfl ⟨_, rfl, rfl⟩
def R20 : Nat -> S_Value -> S_Value -> Option Bool
 | 0 => fun _ _ => none
 | q + 1 => fun a0 a1 => F20 (R20 q) fuel0 a0 a1
def G20 (a0 : S_Value) (a1 : S_Value) : Option Bool := R20 fuel0 a0 a1
def Orc20 (C : Nat -> List A -> Option A) : Prop := ∀ (a0 : S_Value) (a1 : S_Value), C 20 [(A.agg [(iA a0.Kind), (iA a0.N), (A.v (Value.string a0.S)), (A.imm (List.map c_S_Value a0.L) false)]), (A.agg [(iA a1.Kind), (iA a1.N), (A.v (Value.string a1.S)), (A.imm (List.map c_S_Value a1.L) false)])] = (G20 a0 a1).map fun y => (bA y)
def F6 (n : Nat) (a0 : S_Value) (a1 : (List UInt8)) : Option Bool :=
 (G10 ).bind fun y1 => bif (!y1) then (some false) else ((G11 ([a0])).bind fun y3 => (bif (!y3) then (some true) else (some (decide (2000 < ((a1.length : Int)))))).bind fun y5 => bif y5 then (some true) else ((G12 a0).bind fun y10 => (G16 a0).bind fun y11 => bif (y10.2 != y11) then (some false) else (bif (y10.2 == 0) then ((G18 y10.1).bind fun y14 => (bif (y14.2 != 0) then (some true) else ((G21 a0 y14.1).bind fun y16 => some (!y16))).bind fun y17 => (bif y17 then (some true) else ((G20 a0 y14.1).bind fun y23 => some (!y23))).bind fun y24 => bif y24 then (some false) else ((G18 a1).bind fun y30 => bif (y30.2 != 0) then ((bif (y30.2 == 10) then ((G21 y30.1 ((S_Value.mk 0 0 ByteArray.empty ([])))).bind fun y33 => some y33) else (some false)).bind fun y34 => some y34) else ((G12 y30.1).bind fun y38 => (bif (y38.2 == 0) then (some (strEq (bstr y38.1) (bstr a1))) else (some false)).bind fun y40 => (bif y40 then ((G16 y30.1).bind fun y47 => some (y47 == 0)) else (some false)).bind fun y48 => some y48))) else ((G18 a1).bind fun y52 => bif (y52.2 != 0) then ((bif (y52.2 == 10) then ((G21 y52.1 ((S_Value.mk 0 0 ByteArray.empty ([])))).bind fun y55 => some y55) else (some false)).bind fun y56 => some y56) else ((G12 y52.1).bind fun y60 => (bif (y60.2 == 0) then (some (strEq (bstr y60.1) (bstr a1))) else (some false)).bind fun y62 => (bif y62 then ((G16 y52.1).bind fun y69 => some (y69 == 0)) else (some false)).bind fun y70 => some y70)))))
theorem T6 (C : Nat -> List A -> Option A) (n : Nat) (h10 : Orc10 C) (h11 : Orc11 C) (h12 : Orc12 C) (h16 : Orc16 C) (h18 : Orc18 C) (h20 : Orc20 C) (h21 : Orc21 C) (a0 : S_Value) (a1 : (List UInt8)) : J (fun (o : R) y => ∃ v, o.1 = .ret v /\ snapE o.2 v = (bA y)) (evCall1 (cx C) (ec C n 8) (ey C n 8) (n+8) 6 [(A.agg [(iA a0.Kind), (iA a0.N), (A.v (Value.string a0.S)), (A.imm (List.map c_S_Value a0.L) false)]), (A.imm (List.map c8 a1) false)] [] 0) some (F6 n a0 a1) some := by
 refine .lp (e6 ..) ?_
 unfold F6
 refine .s ((A.ptr 0 0), [(hk12_2 a0)]) ?_
 refine .bd (g := fun (y : Bool) => (bA y)) (h10 ()) fun y1 => ?_
 refine .s (bA (!y1)) ?_
 refine .biHN (fun hk2 => ?_) (fun hk2 => ?_)
 ·exact .lf rfl rfl ⟨_, rfl, rfl⟩
 refine .s (A.agg [(iA a0.Kind), (iA a0.N), (A.v (Value.string a0.S)), (A.imm (List.map c_S_Value a0.L) false)]) (.s (A.imm [[(iA a0.Kind), (iA a0.N), (A.v (Value.string a0.S)), (A.imm (List.map c_S_Value a0.L) false)]] true) ?_)
 refine .bd (g := fun (y : Bool) => (bA y)) (by show C 11 [snap _ (A.imm [[(iA a0.Kind), (iA a0.N), (A.v (Value.string a0.S)), (A.imm (List.map c_S_Value a0.L) false)]] true)] = _; simp only [sn0, snM]; have q := h11 ([a0]); simp only [List.map_cons, List.map_nil, cq_S_Value] at q; exact q) fun y3 => ?_
 refine .s (bA (!y3)) ?_
 refine .bg (fun t (y : Bool) => ∃ j6 j7 j8 : A, t = [(bA y), j6, j7, j8]) ?_ ?_
 ·refine .biH (fun hk4 => ?_) (fun hk4 => ?_)
  ·exact .lg ⟨_, _, _, rfl⟩
  refine .st (v := (iA ((a1.length : Int)))) (len_imm (e := 5) (h1 := by kernel_rfl) ..) ?_
  refine .st (v := (bA (decide (2000 < ((a1.length : Int)))))) (aBin_gtr ..) ?_
  exact .lg ⟨_, _, _, rfl⟩
 rintro _ y5 ⟨j6, j7, j8, rfl⟩
 iterate 4 refine .uc ?_
 refine .biHN (fun hk9 => ?_) (fun hk9 => ?_)
 ·exact .lf rfl rfl ⟨_, rfl, rfl⟩
 refine .s (A.agg [(iA a0.Kind), (iA a0.N), (A.v (Value.string a0.S)), (A.imm (List.map c_S_Value a0.L) false)]) ?_
 refine .bd (g := fun (y : ((List UInt8) × Int)) => (A.tup [(A.imm (List.map c8 y.1) false), (iA y.2)])) (by show C 12 [snap _ (A.agg [(iA a0.Kind), (iA a0.N), (A.v (Value.string a0.S)), (A.imm (List.map c_S_Value a0.L) false)])] = _; simp only [sn0, snM]; exact h12 a0) fun y10 => ?_
 refine .s (A.imm (List.map c8 y10.1) false) (.s (iA y10.2) (.s (A.agg [(iA a0.Kind), (iA a0.N), (A.v (Value.string a0.S)), (A.imm (List.map c_S_Value a0.L) false)]) ?_))
 refine .bd (g := fun (y : Int) => (iA y)) (by show C 16 [snap _ (A.agg [(iA a0.Kind), (iA a0.N), (A.v (Value.string a0.S)), (A.imm (List.map c_S_Value a0.L) false)])] = _; simp only [sn0, snM]; exact h16 a0) fun y11 => ?_
 refine .st (v := (bA (y10.2 != y11))) (aBin_neq ..) ?_
 refine .biHN (fun hk12 => ?_) (fun hk12 => ?_)
 ·exact .lf rfl rfl ⟨_, rfl, rfl⟩
 refine .st (v := (bA (y10.2 == 0))) (aBin_eql ..) ?_
 refine .biHN (fun hk13 => ?_) (fun hk13 => ?_)
 ·refine .bd (g := fun (y : (S_Value × Int)) => (A.tup [(A.agg [(iA y.1.Kind), (iA y.1.N), (A.v (Value.string y.1.S)), (A.imm (List.map c_S_Value y.1.L) false)]), (iA y.2)])) (by show C 18 [snap _ (A.imm (List.map c8 y10.1) false)] = _; simp only [sn0, snM]; exact h18 y10.1) fun y14 => ?_
  refine .s (A.agg [(iA y14.1.Kind), (iA y14.1.N), (A.v (Value.string y14.1.S)), (A.imm (List.map c_S_Value y14.1.L) false)]) (.s (iA y14.2) (.s ((A.ptr 1 0), [(hk12_2 a0), Blk.box [(iA 0), (iA 0), (A.v (Value.string ByteArray.empty)), (A.imm [] true)]]) (.s [(hk12_2 a0), Blk.box [(iA y14.1.Kind), (iA y14.1.N), (A.v (Value.string y14.1.S)), (A.imm (List.map c_S_Value y14.1.L) false)]] ?_)))
  refine .st (v := (bA (y14.2 != 0))) (aBin_neq ..) ?_
  refine .bg (fun t (y : Bool) => ∃ j18 j19 j20 j21 : A, t = [(bA y), j18, j19, j20, j21]) ?_ ?_
  ·refine .biH (fun hk15 => ?_) (fun hk15 => ?_)
   ·exact .lg ⟨_, _, _, _, rfl⟩
   refine .s (A.agg [(iA a0.Kind), (iA a0.N), (A.v (Value.string a0.S)), (A.imm (List.map c_S_Value a0.L) false)]) (.s (A.agg [(iA y14.1.Kind), (iA y14.1.N), (A.v (Value.string y14.1.S)), (A.imm (List.map c_S_Value y14.1.L) false)]) ?_)
   refine .bd (g := fun (y : Bool) => (bA y)) (by show C 21 [snap _ (A.agg [(iA a0.Kind), (iA a0.N), (A.v (Value.string a0.S)), (A.imm (List.map c_S_Value a0.L) false)]), snap _ (A.agg [(iA y14.1.Kind), (iA y14.1.N), (A.v (Value.string y14.1.S)), (A.imm (List.map c_S_Value y14.1.L) false)])] = _; simp only [sn0, snM]; exact h21 a0 y14.1) fun y16 => ?_
   refine .s (bA (!y16)) ?_
   exact .lg ⟨_, _, _, _, rfl⟩
  rintro _ y17 ⟨j18, j19, j20, j21, rfl⟩
  iterate 5 refine .uc ?_
  refine .bg (fun t (y : Bool) => ∃ j25 j26 j27 j28 : A, t = [(bA y), j25, j26, j27, j28]) ?_ ?_
  ·refine .biH (fun hk22 => ?_) (fun hk22 => ?_)
   ·exact .lg ⟨_, _, _, _, rfl⟩
   refine .s (A.agg [(iA a0.Kind), (iA a0.N), (A.v (Value.string a0.S)), (A.imm (List.map c_S_Value a0.L) false)]) (.s (A.agg [(iA y14.1.Kind), (iA y14.1.N), (A.v (Value.string y14.1.S)), (A.imm (List.map c_S_Value y14.1.L) false)]) ?_)
   refine .bd (g := fun (y : Bool) => (bA y)) (by show C 20 [snap _ (A.agg [(iA a0.Kind), (iA a0.N), (A.v (Value.string a0.S)), (A.imm (List.map c_S_Value a0.L) false)]), snap _ (A.agg [(iA y14.1.Kind), (iA y14.1.N), (A.v (Value.string y14.1.S)), (A.imm (List.map c_S_Value y14.1.L) false)])] = _; simp only [sn0, snM]; exact h20 a0 y14.1) fun y23 => ?_
   refine .s (bA (!y23)) ?_
   exact .lg ⟨_, _, _, _, rfl⟩
  rintro _ y24 ⟨j25, j26, j27, j28, rfl⟩
  iterate 5 refine .uc ?_
  refine .biHN (fun hk29 => ?_) (fun hk29 => ?_)
  ·exact .lf rfl rfl ⟨_, rfl, rfl⟩
  refine .bd (g := fun (y : (S_Value × Int)) => (A.tup [(A.agg [(iA y.1.Kind), (iA y.1.N), (A.v (Value.string y.1.S)), (A.imm (List.map c_S_Value y.1.L) false)]), (iA y.2)])) (by show C 18 [snap _ (A.imm (List.map c8 a1) false)] = _; simp only [sn0, snM]; exact h18 a1) fun y30 => ?_
  refine .s (A.agg [(iA y30.1.Kind), (iA y30.1.N), (A.v (Value.string y30.1.S)), (A.imm (List.map c_S_Value y30.1.L) false)]) (.s (iA y30.2) (.s ((A.ptr 2 0), [(hk12_2 a0), Blk.box [(iA y14.1.Kind), (iA y14.1.N), (A.v (Value.string y14.1.S)), (A.imm (List.map c_S_Value y14.1.L) false)], Blk.box [(iA 0), (iA 0), (A.v (Value.string ByteArray.empty)), (A.imm [] true)]]) (.s [(hk12_2 a0), Blk.box [(iA y14.1.Kind), (iA y14.1.N), (A.v (Value.string y14.1.S)), (A.imm (List.map c_S_Value y14.1.L) false)], Blk.box [(iA y30.1.Kind), (iA y30.1.N), (A.v (Value.string y30.1.S)), (A.imm (List.map c_S_Value y30.1.L) false)]] ?_)))
  refine .st (v := (bA (y30.2 != 0))) (aBin_neq ..) ?_
  refine .biHN (fun hk31 => ?_) (fun hk31 => ?_)
  ·refine .st (v := (bA (y30.2 == 10))) (aBin_eql ..) ?_
   refine .bg (fun t (y : Bool) => ∃ j35 j36 j37 : A, t = [(bA y), j35, j36, j37]) ?_ ?_
   ·refine .biH (fun hk32 => ?_) (fun hk32 => ?_)
    ·refine .s (A.agg [(iA y30.1.Kind), (iA y30.1.N), (A.v (Value.string y30.1.S)), (A.imm (List.map c_S_Value y30.1.L) false)]) (.s (A.agg [(iA 0), (iA 0), (A.v (Value.string ByteArray.empty)), (A.imm [] true)]) ?_)
     refine .bd (g := fun (y : Bool) => (bA y)) (by show C 21 [snap _ (A.agg [(iA y30.1.Kind), (iA y30.1.N), (A.v (Value.string y30.1.S)), (A.imm (List.map c_S_Value y30.1.L) false)]), snap _ (A.agg [(iA 0), (iA 0), (A.v (Value.string ByteArray.empty)), (A.imm [] true)])] = _; simp only [sn0, snM]; exact h21 y30.1 ((S_Value.mk 0 0 ByteArray.empty ([])))) fun y33 => ?_
     exact .lg ⟨_, _, _, rfl⟩
    exact .lg ⟨_, _, _, rfl⟩
   rintro _ y34 ⟨j35, j36, j37, rfl⟩
   iterate 4 refine .uc ?_
   exact .lf rfl rfl ⟨_, rfl, rfl⟩
  refine .s (A.agg [(iA y30.1.Kind), (iA y30.1.N), (A.v (Value.string y30.1.S)), (A.imm (List.map c_S_Value y30.1.L) false)]) ?_
  refine .bd (g := fun (y : ((List UInt8) × Int)) => (A.tup [(A.imm (List.map c8 y.1) false), (iA y.2)])) (by show C 12 [snap _ (A.agg [(iA y30.1.Kind), (iA y30.1.N), (A.v (Value.string y30.1.S)), (A.imm (List.map c_S_Value y30.1.L) false)])] = _; simp only [sn0, snM]; exact h12 y30.1) fun y38 => ?_
  refine .s (A.imm (List.map c8 y38.1) false) (.s (iA y38.2) ?_)
  refine .st (v := (bA (y38.2 == 0))) (aBin_eql ..) ?_
  refine .bg (fun t (y : Bool) => ∃ j41 j42 j43 j44 j45 : A, t = [(bA y), j41, j42, j43, j44, j45]) ?_ ?_
  ·refine .biH (fun hk39 => ?_) (fun hk39 => ?_)
   ·refine .st (v := (A.v (Value.string (bstr y38.1)))) (conv_bs (e := 5) (l := y38.1) (by kernel_rfl) (by kernel_rfl) (by kernel_rfl) (by kernel_rfl) (els_imm ..) rfl) ?_
    refine .st (v := (A.v (Value.string (bstr a1)))) (conv_bs (e := 5) (l := a1) (by kernel_rfl) (by kernel_rfl) (by kernel_rfl) (by kernel_rfl) (els_imm ..) rfl) ?_
    refine .st (v := (bA (strEq (bstr y38.1) (bstr a1)))) (aBin_eql_s ..) ?_
    exact .lg ⟨_, _, _, _, _, rfl⟩
   exact .lg ⟨_, _, _, _, _, rfl⟩
  rintro _ y40 ⟨j41, j42, j43, j44, j45, rfl⟩
  iterate 6 refine .uc ?_
  refine .bg (fun t (y : Bool) => ∃ j49 j50 j51 : A, t = [(bA y), j49, j50, j51]) ?_ ?_
  ·refine .biH (fun hk46 => ?_) (fun hk46 => ?_)
   ·refine .s (A.agg [(iA y30.1.Kind), (iA y30.1.N), (A.v (Value.string y30.1.S)), (A.imm (List.map c_S_Value y30.1.L) false)]) ?_
    refine .bd (g := fun (y : Int) => (iA y)) (by show C 16 [snap _ (A.agg [(iA y30.1.Kind), (iA y30.1.N), (A.v (Value.string y30.1.S)), (A.imm (List.map c_S_Value y30.1.L) false)])] = _; simp only [sn0, snM]; exact h16 y30.1) fun y47 => ?_
    refine .st (v := (bA (y47 == 0))) (aBin_eql ..) ?_
    exact .lg ⟨_, _, _, rfl⟩
   exact .lg ⟨_, _, _, rfl⟩
  rintro _ y48 ⟨j49, j50, j51, rfl⟩
  iterate 4 refine .uc ?_
  exact .lf rfl rfl ⟨_, rfl, rfl⟩
 refine .bd (g := fun (y : (S_Value × Int)) => (A.tup [(A.agg [(iA y.1.Kind), (iA y.1.N), (A.v (Value.string y.1.S)), (A.imm (List.map c_S_Value y.1.L) false)]), (iA y.2)])) (by show C 18 [snap _ (A.imm (List.map c8 a1) false)] = _; simp only [sn0, snM]; exact h18 a1) fun y52 => ?_
 refine .s (A.agg [(iA y52.1.Kind), (iA y52.1.N), (A.v (Value.string y52.1.S)), (A.imm (List.map c_S_Value y52.1.L) false)]) (.s (iA y52.2) (.s ((A.ptr 1 0), [(hk12_2 a0), Blk.box [(iA 0), (iA 0), (A.v (Value.string ByteArray.empty)), (A.imm [] true)]]) (.s [(hk12_2 a0), Blk.box [(iA y52.1.Kind), (iA y52.1.N), (A.v (Value.string y52.1.S)), (A.imm (List.map c_S_Value y52.1.L) false)]] ?_)))
 refine .st (v := (bA (y52.2 != 0))) (aBin_neq ..) ?_
 refine .biHN (fun hk53 => ?_) (fun hk53 => ?_)
 ·refine .st (v := (bA (y52.2 == 10))) (aBin_eql ..) ?_
  refine .bg (fun t (y : Bool) => ∃ j57 j58 j59 : A, t = [(bA y), j57, j58, j59]) ?_ ?_
  ·refine .biH (fun hk54 => ?_) (fun hk54 => ?_)
   ·refine .s (A.agg [(iA y52.1.Kind), (iA y52.1.N), (A.v (Value.string y52.1.S)), (A.imm (List.map c_S_Value y52.1.L) false)]) (.s (A.agg [(iA 0), (iA 0), (A.v (Value.string ByteArray.empty)), (A.imm [] true)]) ?_)
    refine .bd (g := fun (y : Bool) => (bA y)) (by show C 21 [snap _ (A.agg [(iA y52.1.Kind), (iA y52.1.N), (A.v (Value.string y52.1.S)), (A.imm (List.map c_S_Value y52.1.L) false)]), snap _ (A.agg [(iA 0), (iA 0), (A.v (Value.string ByteArray.empty)), (A.imm [] true)])] = _; simp only [sn0, snM]; exact h21 y52.1 ((S_Value.mk 0 0 ByteArray.empty ([])))) fun y55 => ?_
    exact .lg ⟨_, _, _, rfl⟩
   exact .lg ⟨_, _, _, rfl⟩
  rintro _ y56 ⟨j57, j58, j59, rfl⟩
  iterate 4 refine .uc ?_
  exact .lf rfl rfl ⟨_, rfl, rfl⟩
 refine .s (A.agg [(iA y52.1.Kind), (iA y52.1.N), (A.v (Value.string y52.1.S)), (A.imm (List.map c_S_Value y52.1.L) false)]) ?_
 refine .bd (g := fun (y : ((List UInt8) × Int)) => (A.tup [(A.imm (List.map c8 y.1) false), (iA y.2)])) (by show C 12 [snap _ (A.agg [(iA y52.1.Kind), (iA y52.1.N), (A.v (Value.string y52.1.S)), (A.imm (List.map c_S_Value y52.1.L) false)])] = _; simp only [sn0, snM]; exact h12 y52.1) fun y60 => ?_
 refine .s (A.imm (List.map c8 y60.1) false) (.s (iA y60.2) ?_)
 refine .st (v := (bA (y60.2 == 0))) (aBin_eql ..) ?_
 refine .bg (fun t (y : Bool) => ∃ j63 j64 j65 j66 j67 : A, t = [(bA y), j63, j64, j65, j66, j67]) ?_ ?_
 ·refine .biH (fun hk61 => ?_) (fun hk61 => ?_)
  ·refine .st (v := (A.v (Value.string (bstr y60.1)))) (conv_bs (e := 5) (l := y60.1) (by kernel_rfl) (by kernel_rfl) (by kernel_rfl) (by kernel_rfl) (els_imm ..) rfl) ?_
   refine .st (v := (A.v (Value.string (bstr a1)))) (conv_bs (e := 5) (l := a1) (by kernel_rfl) (by kernel_rfl) (by kernel_rfl) (by kernel_rfl) (els_imm ..) rfl) ?_
   refine .st (v := (bA (strEq (bstr y60.1) (bstr a1)))) (aBin_eql_s ..) ?_
   exact .lg ⟨_, _, _, _, _, rfl⟩
  exact .lg ⟨_, _, _, _, _, rfl⟩
 rintro _ y62 ⟨j63, j64, j65, j66, j67, rfl⟩
 iterate 6 refine .uc ?_
 refine .bg (fun t (y : Bool) => ∃ j71 j72 j73 : A, t = [(bA y), j71, j72, j73]) ?_ ?_
 ·refine .biH (fun hk68 => ?_) (fun hk68 => ?_)
  ·refine .s (A.agg [(iA y52.1.Kind), (iA y52.1.N), (A.v (Value.string y52.1.S)), (A.imm (List.map c_S_Value y52.1.L) false)]) ?_
   refine .bd (g := fun (y : Int) => (iA y)) (by show C 16 [snap _ (A.agg [(iA y52.1.Kind), (iA y52.1.N), (A.v (Value.string y52.1.S)), (A.imm (List.map c_S_Value y52.1.L) false)])] = _; simp only [sn0, snM]; exact h16 y52.1) fun y69 => ?_
   refine .st (v := (bA (y69 == 0))) (aBin_eql ..) ?_
   exact .lg ⟨_, _, _, rfl⟩
  exact .lg ⟨_, _, _, rfl⟩
 rintro _ y70 ⟨j71, j72, j73, rfl⟩
 iterate 4 refine .uc ?_
 exact .lf rfl rfl ⟨_, rfl, rfl⟩
def G6 (a0 : S_Value) (a1 : (List UInt8)) : Option Bool := F6 fuel0 a0 a1
end Go.Proofs.Ytmjaehondldaaaa
