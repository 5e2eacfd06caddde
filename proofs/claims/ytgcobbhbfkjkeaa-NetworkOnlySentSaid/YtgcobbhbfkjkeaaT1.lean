/-
  The program's functions as plain functions: by a tool; each follows the interpreter.
-/
import Derived.Test.YtgcobbhbfkjkeaaE
import Derived.KernelRfl
namespace Go.Proofs.Ytgcobbhbfkjkeaa
set_option linter.unusedVariables false
set_option linter.unusedSimpArgs false
set_option maxHeartbeats 4000000
set_option maxRecDepth 100000
structure S_kinespherelaw06_Move where
  Kind : Int
  At : Int
  A : Int
  B : Int
  Data : Int
  deriving DecidableEq, Inhabited
def c_S_kinespherelaw06_Move (x : S_kinespherelaw06_Move) : List A := [(A.v (Value.int .u8 x.Kind)), (A.v (Value.int .u8 x.At)), (A.v (Value.int .u8 x.A)), (A.v (Value.int .u8 x.B)), (A.v (Value.int .u8 x.Data))]
theorem ce_S_kinespherelaw06_Move : CellF c_S_kinespherelaw06_Move := fun _ => rfl
theorem fu_S_kinespherelaw06_Move : FlatU c_S_kinespherelaw06_Move := fun _ _ => by simp only [c_S_kinespherelaw06_Move, unders, A.under, underss_map, fu_cI, fu_c8, fu_cB, fu_cS, fu_cL, Bool.and_true, Bool.true_and]
theorem fl_S_kinespherelaw06_Move : FlatS c_S_kinespherelaw06_Move := fun _ _ => by simp only [c_S_kinespherelaw06_Move, snapW, snapWs, snapWss_map, fl_cI, fl_c8, fl_cB, fl_cS, fl_cL]
structure S_Packet where
  From : Int
  To : Int
  Data : (List UInt8)
  deriving DecidableEq, Inhabited
def c_S_Packet (x : S_Packet) : List A := [(A.v (Value.int .i64 x.From)), (A.v (Value.int .i64 x.To)), (A.imm (List.map c8 x.Data) false)]
theorem ce_S_Packet : CellF c_S_Packet := fun _ => rfl
theorem fu_S_Packet : FlatU c_S_Packet := fun _ _ => by simp only [c_S_Packet, unders, A.under, underss_map, fu_cI, fu_c8, fu_cB, fu_cS, fu_cL, Bool.and_true, Bool.true_and, fu_S_kinespherelaw06_Move]
theorem fl_S_Packet : FlatS c_S_Packet := fun _ _ => by simp only [c_S_Packet, snapW, snapWs, snapWss_map, fl_cI, fl_c8, fl_cB, fl_cS, fl_cL, fl_S_kinespherelaw06_Move]
def c_A2_int_i64 (x : (Int × Int)) : List A := [(A.v (Value.int .i64 x.1)), (A.v (Value.int .i64 x.2))]
theorem fu_A2_int_i64 : FlatU c_A2_int_i64 := fun _ _ => by simp only [c_A2_int_i64, unders, A.under, underss_map, fu_cI, fu_c8, fu_cB, fu_cS, fu_cL, Bool.and_true, Bool.true_and, fu_S_kinespherelaw06_Move, fu_S_Packet]
theorem fl_A2_int_i64 : FlatS c_A2_int_i64 := fun _ _ => by simp only [c_A2_int_i64, snapW, snapWs, snapWss_map, fl_cI, fl_c8, fl_cB, fl_cS, fl_cL, fl_S_kinespherelaw06_Move, fl_S_Packet]
theorem ce_A2_int_i64 : CellF c_A2_int_i64 := fun _ => rfl
structure S_Net where
  Queue : (List S_Packet)
  Apart : (List (Int × Int))
  deriving DecidableEq, Inhabited
def c_S_Net (x : S_Net) : List A := [(A.imm (List.map c_S_Packet x.Queue) false), (A.imm (List.map c_A2_int_i64 x.Apart) false)]
theorem ce_S_Net : CellF c_S_Net := fun _ => rfl
theorem fu_S_Net : FlatU c_S_Net := fun _ _ => by simp only [c_S_Net, unders, A.under, underss_map, fu_cI, fu_c8, fu_cB, fu_cS, fu_cL, Bool.and_true, Bool.true_and, fu_S_kinespherelaw06_Move, fu_S_Packet, fu_A2_int_i64]
theorem fl_S_Net : FlatS c_S_Net := fun _ _ => by simp only [c_S_Net, snapW, snapWs, snapWss_map, fl_cI, fl_c8, fl_cB, fl_cS, fl_cL, fl_S_kinespherelaw06_Move, fl_S_Packet, fl_A2_int_i64]

def F16 (n : Nat)  : Option S_Net :=
  some ((S_Net.mk ([]) ([])))

theorem T16 (C : Nat → List A → Option A) (n : Nat) : J (fun (o : R) y => ∃ v, o.1 = .ret v ∧ snapE o.2 v = (A.agg [(A.imm (List.map c_S_Packet y.Queue) false), (A.imm (List.map c_A2_int_i64 y.Apart) false)])) (evCall1 (cx C) (evCall (cx C) (n+8)) (evCallY (cx C) (n+8)) (n+8) 16 [] [] 0) some (F16 n ) some := by
  refine .lp (e16 ..) ?_
  unfold F16
  refine .st (v := ((A.ptr 0 0), [Blk.box [(A.imm [] true), (A.imm [] true)]])) (by kernel_rfl) ?_
  refine .st (v := (A.agg [(A.imm [] true), (A.imm [] true)])) (by kernel_rfl) ?_
  refine .st (v := [Blk.box [(A.imm [] true), (A.imm [] true)]]) (by kernel_rfl) ?_
  refine .st (v := (A.agg [(A.imm [] true), (A.imm [] true)])) (by kernel_rfl) ?_
  exact .lf rfl rfl ⟨_, rfl, by simp only [snap, snapW, snapWs, snapWss, snapWss_map, trim, List.map_cons, List.map_nil, fl_cI, fl_c8, fl_cB, fl_cS, fl_cL, fl_S_kinespherelaw06_Move, fl_S_Packet, fl_A2_int_i64, fl_S_Net, snapE]⟩

def G16  : Option S_Net := F16 fuel0 

def Orc16 (C : Nat → List A → Option A) : Prop := ∀ (_ : Unit), C 16 [] = (G16 ).map fun y => (A.agg [(A.imm (List.map c_S_Packet y.Queue) false), (A.imm (List.map c_A2_int_i64 y.Apart) false)])

def F37 (n : Nat) (a0 : Int) (a1 : Int) : Option (Int × Int) :=
  some (((if a1 < a0 then a1 else a0), (if a0 < a1 then a1 else a0)))

theorem T37 (C : Nat → List A → Option A) (n : Nat) (a0 : Int) (a1 : Int) : J (fun (o : R) y => ∃ v, o.1 = .ret v ∧ snapE o.2 v = (A.agg [(A.v (Value.int .i64 y.1)), (A.v (Value.int .i64 y.2))])) (evCall1 (cx C) (evCall (cx C) (n+8)) (evCallY (cx C) (n+8)) (n+8) 37 [(A.v (Value.int .i64 a0)), (A.v (Value.int .i64 a1))] [] 0) some (F37 n a0 a1) some := by
  refine .lp (e37 ..) ?_
  unfold F37
  refine .st (v := ((A.ptr 0 0), [Blk.box [(A.v (Value.int .i64 0)), (A.v (Value.int .i64 0))]])) (by kernel_rfl) ?_
  refine .st (v := (A.v (Value.int .i64 ((if a1 < a0 then a1 else a0))))) (by kernel_rfl) ?_
  refine .st (v := (A.v (Value.int .i64 ((if a0 < a1 then a1 else a0))))) (by kernel_rfl) ?_
  refine .st (v := (A.agg [(A.v (Value.int .i64 ((if a1 < a0 then a1 else a0)))), (A.v (Value.int .i64 ((if a0 < a1 then a1 else a0))))])) (by kernel_rfl) ?_
  refine .st (v := [Blk.box [(A.v (Value.int .i64 ((if a1 < a0 then a1 else a0)))), (A.v (Value.int .i64 ((if a0 < a1 then a1 else a0))))]]) (by kernel_rfl) ?_
  refine .st (v := (A.agg [(A.v (Value.int .i64 ((if a1 < a0 then a1 else a0)))), (A.v (Value.int .i64 ((if a0 < a1 then a1 else a0))))])) (by kernel_rfl) ?_
  exact .lf rfl rfl ⟨_, rfl, rfl⟩

def G37 (a0 : Int) (a1 : Int) : Option (Int × Int) := F37 fuel0 a0 a1

def Orc37 (C : Nat → List A → Option A) : Prop := ∀ (a0 : Int) (a1 : Int), C 37 [(A.v (Value.int .i64 a0)), (A.v (Value.int .i64 a1))] = (G37 a0 a1).map fun y => (A.agg [(A.v (Value.int .i64 y.1)), (A.v (Value.int .i64 y.2))])

def F32 (n : Nat) (a0 : (Int × Int)) : Option Bool :=
  Option.bind (bif (decide (0 ≤ a0.1)) then (some (decide (a0.1 < a0.2))) else (some false)) fun y2 => Option.bind (bif y2 then (some (decide (a0.2 < 24))) else (some false)) fun y9 => some y9

theorem T32 (C : Nat → List A → Option A) (n : Nat) (a0 : (Int × Int)) : J (fun (o : R) y => ∃ v, o.1 = .ret v ∧ snapE o.2 v = (A.v (Value.bool y))) (evCall1 (cx C) (evCall (cx C) (n+8)) (evCallY (cx C) (n+8)) (n+8) 32 [(A.agg [(A.v (Value.int .i64 a0.1)), (A.v (Value.int .i64 a0.2))])] [] 0) some (F32 n a0) some := by
  refine .lp (e32 ..) ?_
  unfold F32
  refine .st (v := ((A.ptr 0 0), [Blk.box [(A.v (Value.int .i64 a0.1)), (A.v (Value.int .i64 a0.2))]])) (by kernel_rfl) ?_
  refine .st (v := (A.ptr 0 0)) (by kernel_rfl) ?_
  refine .st (v := (A.v (Value.int .i64 a0.1))) (by kernel_rfl) ?_
  refine .st (v := (A.v (Value.bool (decide (0 ≤ a0.1))))) (aBin_geq ..) ?_
  refine .bg (fun t (y : Bool) => ∃ j3 j4 j5 j6 j7 : A, t = [(A.v (Value.bool y)), j3, j4, j5, j6, j7]) ?_ ?_
  · refine .biH (fun hk1 => ?_) (fun hk1 => ?_)
    · refine .st (v := (A.ptr 0 0)) (by kernel_rfl) ?_
      refine .st (v := (A.v (Value.int .i64 a0.1))) (by kernel_rfl) ?_
      refine .st (v := (A.ptr 0 1)) (by kernel_rfl) ?_
      refine .st (v := (A.v (Value.int .i64 a0.2))) (by kernel_rfl) ?_
      refine .st (v := (A.v (Value.bool (decide (a0.1 < a0.2))))) (aBin_lss ..) ?_
      exact .lg ⟨_, _, _, _, _, rfl⟩
    · exact .lg ⟨_, _, _, _, _, rfl⟩
  rintro _ y2 ⟨j3, j4, j5, j6, j7, rfl⟩
  iterate 6 refine .uc ?_
  refine .bg (fun t (y : Bool) => ∃ j10 j11 j12 : A, t = [(A.v (Value.bool y)), j10, j11, j12]) ?_ ?_
  · refine .biH (fun hk8 => ?_) (fun hk8 => ?_)
    · refine .st (v := (A.ptr 0 1)) (by kernel_rfl) ?_
      refine .st (v := (A.v (Value.int .i64 a0.2))) (by kernel_rfl) ?_
      refine .st (v := (A.v (Value.bool (decide (a0.2 < 24))))) (aBin_lss ..) ?_
      exact .lg ⟨_, _, _, rfl⟩
    · exact .lg ⟨_, _, _, rfl⟩
  rintro _ y9 ⟨j10, j11, j12, rfl⟩
  iterate 4 refine .uc ?_
  exact .lf rfl rfl ⟨_, rfl, rfl⟩

def G32 (a0 : (Int × Int)) : Option Bool := F32 fuel0 a0

def Orc32 (C : Nat → List A → Option A) : Prop := ∀ (a0 : (Int × Int)), C 32 [(A.agg [(A.v (Value.int .i64 a0.1)), (A.v (Value.int .i64 a0.2))])] = (G32 a0).map fun y => (A.v (Value.bool y))

def F28 (n : Nat) (a0 : S_Packet) : Option Bool :=
  Option.bind (G37 a0.From a0.To) fun y1 => Option.bind (G32 ((y1.1, y1.2))) fun y2 => Option.bind (bif y2 then (some (decide (((a0.Data.length : Int)) ≤ 1048576))) else (some false)) fun y4 => some y4

theorem T28 (C : Nat → List A → Option A) (n : Nat) (h32 : Orc32 C) (h37 : Orc37 C) (a0 : S_Packet) : J (fun (o : R) y => ∃ v, o.1 = .ret v ∧ snapE o.2 v = (A.v (Value.bool y))) (evCall1 (cx C) (evCall (cx C) (n+8)) (evCallY (cx C) (n+8)) (n+8) 28 [(A.agg [(A.v (Value.int .i64 a0.From)), (A.v (Value.int .i64 a0.To)), (A.imm (List.map c8 a0.Data) false)])] [] 0) some (F28 n a0) some := by
  refine .lp (e28 ..) ?_
  unfold F28
  refine .st (v := ((A.ptr 0 0), [Blk.box [(A.v (Value.int .i64 a0.From)), (A.v (Value.int .i64 a0.To)), (A.imm (List.map c8 a0.Data) false)]])) (by kernel_rfl) ?_
  refine .st (v := (A.ptr 0 0)) (by kernel_rfl) ?_
  refine .st (v := (A.v (Value.int .i64 a0.From))) (by kernel_rfl) ?_
  refine .st (v := (A.ptr 0 1)) (by kernel_rfl) ?_
  refine .st (v := (A.v (Value.int .i64 a0.To))) (by kernel_rfl) ?_
  refine .bd (g := fun (y : (Int × Int)) => (A.agg [(A.v (Value.int .i64 y.1)), (A.v (Value.int .i64 y.2))])) (h37 a0.From a0.To) fun y1 => ?_
  refine .bd (g := fun (y : Bool) => (A.v (Value.bool y))) (h32 ((y1.1, y1.2))) fun y2 => ?_
  refine .bg (fun t (y : Bool) => ∃ j5 j6 j7 j8 : A, t = [(A.v (Value.bool y)), j5, j6, j7, j8]) ?_ ?_
  · refine .biH (fun hk3 => ?_) (fun hk3 => ?_)
    · refine .st (v := (A.ptr 0 2)) (by kernel_rfl) ?_
      refine .st (v := (A.imm (List.map c8 a0.Data) false)) (by kernel_rfl) ?_
      refine .st (v := (A.v (Value.int .i64 ((a0.Data.length : Int))))) (len_imm (e := 5) (h1 := by kernel_rfl) ..) ?_
      refine .st (v := (A.v (Value.bool (decide (((a0.Data.length : Int)) ≤ 1048576))))) (aBin_leq ..) ?_
      exact .lg ⟨_, _, _, _, rfl⟩
    · exact .lg ⟨_, _, _, _, rfl⟩
  rintro _ y4 ⟨j5, j6, j7, j8, rfl⟩
  iterate 5 refine .uc ?_
  exact .lf rfl rfl ⟨_, rfl, rfl⟩

def G28 (a0 : S_Packet) : Option Bool := F28 fuel0 a0

def Orc28 (C : Nat → List A → Option A) : Prop := ∀ (a0 : S_Packet), C 28 [(A.agg [(A.v (Value.int .i64 a0.From)), (A.v (Value.int .i64 a0.To)), (A.imm (List.map c8 a0.Data) false)])] = (G28 a0).map fun y => (A.v (Value.bool y))

def F31 (n : Nat) (a0 : S_Packet) : Option Bool :=
  Option.bind (G28 a0) fun y1 => some (!y1)

theorem T31 (C : Nat → List A → Option A) (n : Nat) (h28 : Orc28 C) (a0 : S_Packet) : J (fun (o : R) y => ∃ v, o.1 = .ret v ∧ snapE o.2 v = (A.v (Value.bool y))) (evCall1 (cx C) (evCall (cx C) (n+8)) (evCallY (cx C) (n+8)) (n+8) 31 [(A.agg [(A.v (Value.int .i64 a0.From)), (A.v (Value.int .i64 a0.To)), (A.imm (List.map c8 a0.Data) false)])] [] 0) some (F31 n a0) some := by
  refine .lp (e31 ..) ?_
  unfold F31
  refine .st (v := ((A.ptr 0 0), [Blk.box [(A.v (Value.int .i64 a0.From)), (A.v (Value.int .i64 a0.To)), (A.imm (List.map c8 a0.Data) false)]])) (by kernel_rfl) ?_
  refine .st (v := (A.agg [(A.v (Value.int .i64 a0.From)), (A.v (Value.int .i64 a0.To)), (A.imm (List.map c8 a0.Data) false)])) (by kernel_rfl) ?_
  refine .bd (g := fun (y : Bool) => (A.v (Value.bool y))) (by simp only [snap, snapW, snapWs, snapWss, snapWss_map, trim, List.map_cons, List.map_nil, fl_cI, fl_c8, fl_cB, fl_cS, fl_cL, fl_S_kinespherelaw06_Move, fl_S_Packet, fl_A2_int_i64, fl_S_Net]; exact h28 a0) fun y1 => ?_
  refine .st (v := (A.v (Value.bool (!y1)))) (by kernel_rfl) ?_
  exact .lf rfl rfl ⟨_, rfl, rfl⟩

def G31 (a0 : S_Packet) : Option Bool := F31 fuel0 a0

def Orc31 (C : Nat → List A → Option A) : Prop := ∀ (a0 : S_Packet), C 31 [(A.agg [(A.v (Value.int .i64 a0.From)), (A.v (Value.int .i64 a0.To)), (A.imm (List.map c8 a0.Data) false)])] = (G31 a0).map fun y => (A.v (Value.bool y))

def F43_31_43_0 (n : Nat) (v1 : (List S_Packet)) (v2 : Int) (v3 : Int) : Nat → Int → Option ((Int) ⊕ (Unit))
  | 0, _ => none
  | m + 1, v4 => bif (decide (v4 < v3)) then (Option.bind (getI v1 v4) fun y6 => Option.bind (G31 y6) fun y7 => bif y7 then (some ((Sum.inl v4))) else (F43_31_43_0 n v1 v2 v3 m (wr .i64 (v4 + 1)))) else (some ((Sum.inr (()))))

theorem T43_31_43_0 (C : Nat → List A → Option A) (n : Nat) (h31 : Orc31 C) (v1 : (List S_Packet)) (v2 : Int) (v3 : Int) {ρ γ : Type} {φ : ρ → γ → Prop} {kL : R → Option ρ} {K : ((Int) ⊕ (Unit)) → Option γ} (kx kg : Nat → St → Option R) (kr : St → Option R) (kp : A → St → Option R) (x0 : ∀ (o0 : Int) (s0 : A) (s1 : A) (s7 : A) (s8 : A), J φ (kr (St.mk [(0, s0), (1, s1), (4, (A.v (Value.int .i64 o0))), (7, s7), (8, s8)] [])) kL (K (Sum.inl o0)) some) (x1 : ∀ (s0 : A) (s1 : A) (s4 : A) (s7 : A) (s8 : A), J φ (kx 0 (St.mk [(0, s0), (1, s1), (4, s4), (7, s7), (8, s8)] [])) kL (K (Sum.inr (()))) some) :
    ∀ (m : Nat) (v4 : Int), J φ (loopR (cx C) (evCall (cx C) (n+8)) (evCallY (cx C) (n+8)) (n+8) 43 0 0 0 kx kg kr kp m (St.mk [(0, (A.imm (List.map c_S_Packet v1) false)), (1, (A.fn (Fn.func 31) [] [])), (4, (A.v (Value.int .i64 v2))), (7, (A.v (Value.int .i64 v3))), (8, (A.v (Value.int .i64 v4)))] [])) kL (F43_31_43_0 n v1 v2 v3 m v4) K := by
  intro m
  induction m with
  | zero => intros; exact .nn
  | succ m ih =>
    intro v4
    refine .lp (e43_0 ..) ?_
    unfold F43_31_43_0
    refine .st (v := (A.v (Value.bool (decide (v4 < v3))))) (aBin_lss ..) ?_
    refine .biH (fun hk5 => ?_) (fun hk5 => ?_)
    · refine .bd (g := fun (y : S_Packet) => A.ip (c_S_Packet y)) (idx_imm (e := 28) (es := 3) (h1 := by kernel_rfl) (h2 := by kernel_rfl) (h3 := fun _ => rfl) ..) fun y6 => ?_
      refine .st (v := (A.agg [(A.v (Value.int .i64 y6.From)), (A.v (Value.int .i64 y6.To)), (A.imm (List.map c8 y6.Data) false)])) (by kernel_rfl) ?_
      refine .dO (by kernel_rfl) (by kernel_rfl) ?_
      refine .bd (g := fun (y : Bool) => (A.v (Value.bool y))) (by simp only [List.nil_append, List.cons_append, List.append_nil, snap, snapW, snapWs, snapWss, snapWss_map, trim, List.map_cons, List.map_nil, fl_cI, fl_c8, fl_cB, fl_cS, fl_cL, fl_S_kinespherelaw06_Move, fl_S_Packet, fl_A2_int_i64, fl_S_Net]; exact h31 y6) fun y7 => ?_
      refine .biH (fun hk8 => ?_) (fun hk8 => ?_)
      · exact .ex (x0 _ _ _ _ _)
      · refine .st (v := (A.v (Value.int .i64 (wr .i64 (v4 + 1))))) (aBin_add ..) ?_
        refine .st (v := []) (by kernel_rfl) ?_
        refine .cT (by kernel_rfl) ?_
        exact ih _
    · exact .ex (x1 _ _ _ _ _)

def F43_31 (n : Nat) (a0 : (List S_Packet)) : Option Int :=
  Option.bind (F43_31_43_0 n a0 0 ((a0.length : Int)) (n+8) 0) fun o9 => match o9 with | (Sum.inl y10) => some y10 | (Sum.inr _) => some (-1)

theorem T43_31 (C : Nat → List A → Option A) (n : Nat) (h31 : Orc31 C) (a0 : (List S_Packet)) : J (fun (o : R) y => ∃ v, o.1 = .ret v ∧ snapE o.2 v = (A.v (Value.int .i64 y))) (evCall1 (cx C) (evCall (cx C) (n+8)) (evCallY (cx C) (n+8)) (n+8) 43 [(A.imm (List.map c_S_Packet a0) false), (A.fn (Fn.func 31) [] [])] [] 0) some (F43_31 n a0) some := by
  refine .lp (e43 ..) ?_
  unfold F43_31
  refine .st (v := (A.v (Value.int .i64 ((a0.length : Int))))) (len_imm (e := 28) (h1 := by kernel_rfl) ..) ?_
  refine .as (T43_31_43_0 C n h31 a0 0 ((a0.length : Int)) _ _ _ _ ?_ ?_ _ 0)
  · intro y10 j11 j12 j13 j14
    refine .un rfl ?_
    exact .lf rfl rfl ⟨_, rfl, rfl⟩
  · intro j15 j16 j17 j18 j19
    refine .un rfl ?_
    refine .cT (by kernel_rfl) ?_
    exact .lf rfl rfl ⟨_, rfl, rfl⟩

def G43_31 (a0 : (List S_Packet)) : Option Int := F43_31 fuel0 a0

def Orc43_31 (C : Nat → List A → Option A) : Prop := ∀ (a0 : (List S_Packet)), C 43 [(A.imm (List.map c_S_Packet a0) false), (A.fn (Fn.func 31) [] [])] = (G43_31 a0).map fun y => (A.v (Value.int .i64 y))

def F30_31 (n : Nat) (a0 : (List S_Packet)) : Option Bool :=
  Option.bind (G43_31 a0) fun y1 => some (decide (0 ≤ y1))

theorem T30_31 (C : Nat → List A → Option A) (n : Nat) (h43_31 : Orc43_31 C) (a0 : (List S_Packet)) : J (fun (o : R) y => ∃ v, o.1 = .ret v ∧ snapE o.2 v = (A.v (Value.bool y))) (evCall1 (cx C) (evCall (cx C) (n+8)) (evCallY (cx C) (n+8)) (n+8) 30 [(A.imm (List.map c_S_Packet a0) false), (A.fn (Fn.func 31) [] [])] [] 0) some (F30_31 n a0) some := by
  refine .lp (e30 ..) ?_
  unfold F30_31
  refine .bd (g := fun (y : Int) => (A.v (Value.int .i64 y))) (by simp only [snap, snapW, snapWs, snapWss, snapWss_map, trim, List.map_cons, List.map_nil, fl_cI, fl_c8, fl_cB, fl_cS, fl_cL, fl_S_kinespherelaw06_Move, fl_S_Packet, fl_A2_int_i64, fl_S_Net]; exact h43_31 a0) fun y1 => ?_
  refine .st (v := (A.v (Value.bool (decide (0 ≤ y1))))) (aBin_geq ..) ?_
  exact .lf rfl rfl ⟨_, rfl, rfl⟩

def G30_31 (a0 : (List S_Packet)) : Option Bool := F30_31 fuel0 a0

def Orc30_31 (C : Nat → List A → Option A) : Prop := ∀ (a0 : (List S_Packet)), C 30 [(A.imm (List.map c_S_Packet a0) false), (A.fn (Fn.func 31) [] [])] = (G30_31 a0).map fun y => (A.v (Value.bool y))

def F47 (n : Nat) (a0 : Int) : Option Bool :=
  some (a0 != a0)

theorem T47 (C : Nat → List A → Option A) (n : Nat) (a0 : Int) : J (fun (o : R) y => ∃ v, o.1 = .ret v ∧ snapE o.2 v = (A.v (Value.bool y))) (evCall1 (cx C) (evCall (cx C) (n+8)) (evCallY (cx C) (n+8)) (n+8) 47 [(A.v (Value.int .i64 a0))] [] 0) some (F47 n a0) some := by
  refine .lp (e47 ..) ?_
  unfold F47
  refine .st (v := (A.v (Value.bool (a0 != a0)))) (aBin_neq ..) ?_
  exact .lf rfl rfl ⟨_, rfl, rfl⟩

def G47 (a0 : Int) : Option Bool := F47 fuel0 a0

def Orc47 (C : Nat → List A → Option A) : Prop := ∀ (a0 : Int), C 47 [(A.v (Value.int .i64 a0))] = (G47 a0).map fun y => (A.v (Value.bool y))

def F13_33_0 (n : Nat) (v20 : (List Int)) (v21 : Int) (v22 : (List Int)) (v23 : Int) (v25 : (List S_Packet)) (v26 : (List (Int × Int))) (v27 : Int) (v28 : Int) : Nat → Int → Option ((Int) ⊕ (Unit))
  | 0, _ => none
  | m + 1, v24 => bif (decide (v24 < v23)) then (Option.bind (getI v22 v24) fun y30 => bif (decide (2 ≤ v24)) then (some ((Sum.inl 1))) else (bif decide (v24 = 0) then (Option.bind (G47 y30) fun y33 => Option.bind (G47 v27) fun y34 => bif y33 then (bif y34 then (F13_33_0 n v20 v21 v22 v23 v25 v26 v27 v28 m (wr .i64 (v24 + 1))) else (some ((Sum.inl (-1))))) else (bif y34 then (some ((Sum.inl 1))) else (bif (decide (y30 < v27)) then (some ((Sum.inl (-1)))) else (bif (decide (v27 < y30)) then (some ((Sum.inl 1))) else (F13_33_0 n v20 v21 v22 v23 v25 v26 v27 v28 m (wr .i64 (v24 + 1))))))) else bif decide (v24 = 1) then (Option.bind (G47 y30) fun y41 => Option.bind (G47 v28) fun y42 => bif y41 then (bif y42 then (F13_33_0 n v20 v21 v22 v23 v25 v26 v27 v28 m (wr .i64 (v24 + 1))) else (some ((Sum.inl (-1))))) else (bif y42 then (some ((Sum.inl 1))) else (bif (decide (y30 < v28)) then (some ((Sum.inl (-1)))) else (bif (decide (v28 < y30)) then (some ((Sum.inl 1))) else (F13_33_0 n v20 v21 v22 v23 v25 v26 v27 v28 m (wr .i64 (v24 + 1))))))) else none)) else (some ((Sum.inr (()))))

theorem T13_33_0 (C : Nat → List A → Option A) (n : Nat) (h30_31 : Orc30_31 C) (h32 : Orc32 C) (h47 : Orc47 C) (v20 : (List Int)) (v21 : Int) (v22 : (List Int)) (v23 : Int) (v25 : (List S_Packet)) (v26 : (List (Int × Int))) (v27 : Int) (v28 : Int) {ρ γ : Type} {φ : ρ → γ → Prop} {kL : R → Option ρ} {K : ((Int) ⊕ (Unit)) → Option γ} (kx kg : Nat → St → Option R) (kr : St → Option R) (kp : A → St → Option R) (x0 : ∀ (o0 : Int) (s0 : A) (s1 : A) (s9 : A) (s10 : A) (s11 : A), J φ (kr (St.mk [(0, s0), (1, s1), (4, (A.v (Value.int .i64 o0))), (9, s9), (10, s10), (11, s11)] [Blk.box [(A.imm (List.map c_S_Packet v25) false), (A.imm (List.map c_A2_int_i64 v26) false)], Blk.row true 1 [[(A.v (Value.int .i64 v27))], [(A.v (Value.int .i64 v28))]]])) kL (K (Sum.inl o0)) some) (x1 : ∀ (s4 : A) (s9 : A) (s10 : A) (s11 : A), J φ (kx 0 (St.mk [(0, (A.imm (List.map (cI .i64) v20) true)), (1, (A.sl 1 0 2 true)), (4, s4), (9, s9), (10, s10), (11, s11)] [Blk.box [(A.imm (List.map c_S_Packet v25) false), (A.imm (List.map c_A2_int_i64 v26) false)], Blk.row true 1 [[(A.v (Value.int .i64 v27))], [(A.v (Value.int .i64 v28))]]])) kL (K (Sum.inr (()))) some) :
    ∀ (m : Nat) (v24 : Int), J φ (loopR (cx C) (evCall (cx C) (n+7)) (evCallY (cx C) (n+7)) (n+7) 33 0 0 2 kx kg kr kp m (St.mk [(0, (A.imm (List.map (cI .i64) v20) true)), (1, (A.sl 1 0 2 true)), (4, (A.v (Value.int .i64 v21))), (9, (A.imm (List.map (cI .i64) v22) true)), (10, (A.v (Value.int .i64 v23))), (11, (A.v (Value.int .i64 v24)))] [Blk.box [(A.imm (List.map c_S_Packet v25) false), (A.imm (List.map c_A2_int_i64 v26) false)], Blk.row true 1 [[(A.v (Value.int .i64 v27))], [(A.v (Value.int .i64 v28))]]])) kL (F13_33_0 n v20 v21 v22 v23 v25 v26 v27 v28 m v24) K := by
  intro m
  induction m with
  | zero => intros; exact .nn
  | succ m ih =>
    intro v24
    refine .lp (e33_0 ..) ?_
    unfold F13_33_0
    refine .st (v := (A.v (Value.bool (decide (v24 < v23))))) (aBin_lss ..) ?_
    refine .biH (fun hk29 => ?_) (fun hk29 => ?_)
    · refine .bd (g := fun (y : Int) => A.ip ((cI .i64) y)) (idx_imm (e := 3) (es := 1) (h1 := by kernel_rfl) (h2 := by kernel_rfl) (h3 := fun _ => rfl) ..) fun y30 => ?_
      refine .st (v := (A.v (Value.int .i64 y30))) (by kernel_rfl) ?_
      refine .st (v := (A.v (Value.int .i64 2))) (by kernel_rfl) ?_
      refine .st (v := (A.v (Value.bool (decide (2 ≤ v24))))) (aBin_geq ..) ?_
      refine .biH (fun hk31 => ?_) (fun hk31 => ?_)
      · exact .ex (x0 _ _ _ _ _ _)
      · refine .sp (fun hb32 => ?_) (fun _ => ?_)
        · refine .st (v := (A.ep 1 0 0)) (by rw [of_decide_eq_true hb32]; kernel_rfl) ?_
          refine .st (v := (A.v (Value.int .i64 v27))) (by kernel_rfl) ?_
          refine .cl ((evCall_in lt_44).trans (e44 C (evCall (cx C) (n+6)) (evCallY (cx C) (n+6)) (n+6) _ _ _ _)) ?_
          refine .bd (g := fun (y : Bool) => (A.v (Value.bool y))) (h47 y30) fun y33 => ?_
          refine .bd (g := fun (y : Bool) => (A.v (Value.bool y))) (h47 v27) fun y34 => ?_
          refine .biH (fun hk35 => ?_) (fun hk35 => ?_)
          · refine .biH (fun hk36 => ?_) (fun hk36 => ?_)
            · refine .cr ?_
              refine .ok ?_
              refine .st (v := (A.v (Value.bool false))) (by kernel_rfl) ?_
              refine .bF ?_
              refine .st (v := (A.v (Value.int .i64 (wr .i64 (v24 + 1))))) (aBin_add ..) ?_
              refine .st (v := [Blk.box [(A.imm (List.map c_S_Packet v25) false), (A.imm (List.map c_A2_int_i64 v26) false)], Blk.row true 1 [[(A.v (Value.int .i64 v27))], [(A.v (Value.int .i64 v28))]]]) (by kernel_rfl) ?_
              refine .cT (by kernel_rfl) ?_
              exact ih _
            · refine .cr ?_
              refine .ok ?_
              refine .st (v := (A.v (Value.bool true))) (by kernel_rfl) ?_
              refine .bT ?_
              exact .ex (x0 _ _ _ _ _ _)
          · refine .biH (fun hk37 => ?_) (fun hk37 => ?_)
            · refine .cr ?_
              refine .ok ?_
              refine .st (v := (A.v (Value.bool true))) (by kernel_rfl) ?_
              refine .bT ?_
              exact .ex (x0 _ _ _ _ _ _)
            · refine .st (v := (A.v (Value.bool (decide (y30 < v27))))) (aBin_lss ..) ?_
              refine .biH (fun hk38 => ?_) (fun hk38 => ?_)
              · refine .cr ?_
                refine .ok ?_
                refine .st (v := (A.v (Value.bool true))) (by kernel_rfl) ?_
                refine .bT ?_
                exact .ex (x0 _ _ _ _ _ _)
              · refine .st (v := (A.v (Value.bool (decide (v27 < y30))))) (aBin_gtr ..) ?_
                refine .biH (fun hk39 => ?_) (fun hk39 => ?_)
                · refine .cr ?_
                  refine .ok ?_
                  refine .st (v := (A.v (Value.bool true))) (by kernel_rfl) ?_
                  refine .bT ?_
                  exact .ex (x0 _ _ _ _ _ _)
                · refine .cr ?_
                  refine .ok ?_
                  refine .st (v := (A.v (Value.bool false))) (by kernel_rfl) ?_
                  refine .bF ?_
                  refine .st (v := (A.v (Value.int .i64 (wr .i64 (v24 + 1))))) (aBin_add ..) ?_
                  refine .st (v := [Blk.box [(A.imm (List.map c_S_Packet v25) false), (A.imm (List.map c_A2_int_i64 v26) false)], Blk.row true 1 [[(A.v (Value.int .i64 v27))], [(A.v (Value.int .i64 v28))]]]) (by kernel_rfl) ?_
                  refine .cT (by kernel_rfl) ?_
                  exact ih _
        · skip
          refine .sp (fun hb40 => ?_) (fun _ => ?_)
          · refine .st (v := (A.ep 1 1 0)) (by rw [of_decide_eq_true hb40]; kernel_rfl) ?_
            refine .st (v := (A.v (Value.int .i64 v28))) (by kernel_rfl) ?_
            refine .cl ((evCall_in lt_44).trans (e44 C (evCall (cx C) (n+6)) (evCallY (cx C) (n+6)) (n+6) _ _ _ _)) ?_
            refine .bd (g := fun (y : Bool) => (A.v (Value.bool y))) (h47 y30) fun y41 => ?_
            refine .bd (g := fun (y : Bool) => (A.v (Value.bool y))) (h47 v28) fun y42 => ?_
            refine .biH (fun hk43 => ?_) (fun hk43 => ?_)
            · refine .biH (fun hk44 => ?_) (fun hk44 => ?_)
              · refine .cr ?_
                refine .ok ?_
                refine .st (v := (A.v (Value.bool false))) (by kernel_rfl) ?_
                refine .bF ?_
                refine .st (v := (A.v (Value.int .i64 (wr .i64 (v24 + 1))))) (aBin_add ..) ?_
                refine .st (v := [Blk.box [(A.imm (List.map c_S_Packet v25) false), (A.imm (List.map c_A2_int_i64 v26) false)], Blk.row true 1 [[(A.v (Value.int .i64 v27))], [(A.v (Value.int .i64 v28))]]]) (by kernel_rfl) ?_
                refine .cT (by kernel_rfl) ?_
                exact ih _
              · refine .cr ?_
                refine .ok ?_
                refine .st (v := (A.v (Value.bool true))) (by kernel_rfl) ?_
                refine .bT ?_
                exact .ex (x0 _ _ _ _ _ _)
            · refine .biH (fun hk45 => ?_) (fun hk45 => ?_)
              · refine .cr ?_
                refine .ok ?_
                refine .st (v := (A.v (Value.bool true))) (by kernel_rfl) ?_
                refine .bT ?_
                exact .ex (x0 _ _ _ _ _ _)
              · refine .st (v := (A.v (Value.bool (decide (y30 < v28))))) (aBin_lss ..) ?_
                refine .biH (fun hk46 => ?_) (fun hk46 => ?_)
                · refine .cr ?_
                  refine .ok ?_
                  refine .st (v := (A.v (Value.bool true))) (by kernel_rfl) ?_
                  refine .bT ?_
                  exact .ex (x0 _ _ _ _ _ _)
                · refine .st (v := (A.v (Value.bool (decide (v28 < y30))))) (aBin_gtr ..) ?_
                  refine .biH (fun hk47 => ?_) (fun hk47 => ?_)
                  · refine .cr ?_
                    refine .ok ?_
                    refine .st (v := (A.v (Value.bool true))) (by kernel_rfl) ?_
                    refine .bT ?_
                    exact .ex (x0 _ _ _ _ _ _)
                  · refine .cr ?_
                    refine .ok ?_
                    refine .st (v := (A.v (Value.bool false))) (by kernel_rfl) ?_
                    refine .bF ?_
                    refine .st (v := (A.v (Value.int .i64 (wr .i64 (v24 + 1))))) (aBin_add ..) ?_
                    refine .st (v := [Blk.box [(A.imm (List.map c_S_Packet v25) false), (A.imm (List.map c_A2_int_i64 v26) false)], Blk.row true 1 [[(A.v (Value.int .i64 v27))], [(A.v (Value.int .i64 v28))]]]) (by kernel_rfl) ?_
                    refine .cT (by kernel_rfl) ?_
                    exact ih _
          · skip
            exact .nn
    · exact .ex (x1 _ _ _ _)

def F13_13_0 (n : Nat) (v8 : Int) (v9 : (List (Int × Int))) (v10 : Int) (v12 : (List S_Packet)) (v13 : (List (Int × Int))) : Nat → Int → Option ((Int × Int × Int) ⊕ (Unit))
  | 0, _ => none
  | m + 1, v11 => bif (decide (v11 < v10)) then (Option.bind (getI v9 v11) fun y15 => Option.bind (G32 ((y15.1, y15.2))) fun y16 => bif (!y16) then (Option.bind (some (())) fun y76 => Option.bind (some true) fun y77 => bif y77 then (some ((Sum.inl ((60, y15.1, y15.2))))) else (F13_13_0 n v8 v9 v10 v12 v13 m (wr .i64 (v11 + 1)))) else (bif (decide (0 < v11)) then (Option.bind (getI v13 (wr .i64 (v11 - 1))) fun y19 => Option.bind (F13_33_0 n ([y19.1, y19.2]) 0 ([y19.1, y19.2]) 2 v12 v13 y15.1 y15.2 (n+7) 0) fun o48 => match o48 with | (Sum.inl y49) => Option.bind (Option.bind (some (decide (0 ≤ y49))) fun y55 => some y55) fun y56 => bif y56 then (some ((Sum.inl ((60, y15.1, y15.2))))) else (F13_13_0 n v8 v9 v10 v12 v13 m (wr .i64 (v11 + 1))) | (Sum.inr _) => bif (decide (((([y19.1, y19.2]).length : Int)) < 2)) then (Option.bind (Option.bind (some false) fun y64 => some y64) fun y65 => bif y65 then (some ((Sum.inl ((60, y15.1, y15.2))))) else (F13_13_0 n v8 v9 v10 v12 v13 m (wr .i64 (v11 + 1)))) else (Option.bind (Option.bind (some true) fun y68 => some y68) fun y69 => bif y69 then (some ((Sum.inl ((60, y15.1, y15.2))))) else (F13_13_0 n v8 v9 v10 v12 v13 m (wr .i64 (v11 + 1))))) else (Option.bind (Option.bind (some false) fun y72 => some y72) fun y73 => bif y73 then (some ((Sum.inl ((60, y15.1, y15.2))))) else (F13_13_0 n v8 v9 v10 v12 v13 m (wr .i64 (v11 + 1)))))) else (some ((Sum.inr (()))))

theorem T13_13_0 (C : Nat → List A → Option A) (n : Nat) (h30_31 : Orc30_31 C) (h32 : Orc32 C) (h47 : Orc47 C) (v8 : Int) (v9 : (List (Int × Int))) (v10 : Int) (v12 : (List S_Packet)) (v13 : (List (Int × Int))) {ρ γ : Type} {φ : ρ → γ → Prop} {kL : R → Option ρ} {K : ((Int × Int × Int) ⊕ (Unit)) → Option γ} (kx kg : Nat → St → Option R) (kr : St → Option R) (kp : A → St → Option R) (x0 : ∀ (o0 : Int) (o1 : Int) (o2 : Int) (s1 : A) (s15 : A) (s16 : A) (s17 : A), J φ (kr (St.mk [(1, s1), (2, (A.v (Value.int .i64 o0))), (15, s15), (16, s16), (17, s17)] [Blk.box [(A.imm (List.map c_S_Packet v12) false), (A.imm (List.map c_A2_int_i64 v13) false)], Blk.row true 1 [[(A.v (Value.int .i64 o1))], [(A.v (Value.int .i64 o2))]]])) kL (K (Sum.inl ((o0, o1, o2)))) some) (x1 : ∀ (s1 : A) (s2 : A) (s15 : A) (s16 : A) (s17 : A), J φ (kx 0 (St.mk [(1, s1), (2, s2), (15, s15), (16, s16), (17, s17)] [Blk.box [(A.imm (List.map c_S_Packet v12) false), (A.imm (List.map c_A2_int_i64 v13) false)]])) kL (K (Sum.inr (()))) some) :
    ∀ (m : Nat) (v11 : Int), J φ (loopR (cx C) (evCall (cx C) (n+8)) (evCallY (cx C) (n+8)) (n+8) 13 0 0 1 kx kg kr kp m (St.mk [(1, (A.ptr 0 0)), (2, (A.v (Value.int .i64 v8))), (15, (A.imm (List.map c_A2_int_i64 v9) false)), (16, (A.v (Value.int .i64 v10))), (17, (A.v (Value.int .i64 v11)))] [Blk.box [(A.imm (List.map c_S_Packet v12) false), (A.imm (List.map c_A2_int_i64 v13) false)]])) kL (F13_13_0 n v8 v9 v10 v12 v13 m v11) K := by
  intro m
  induction m with
  | zero => intros; exact .nn
  | succ m ih =>
    intro v11
    refine .lp (e13_0 ..) ?_
    unfold F13_13_0
    refine .st (v := (A.v (Value.bool (decide (v11 < v10))))) (aBin_lss ..) ?_
    refine .biH (fun hk14 => ?_) (fun hk14 => ?_)
    · refine .bd (g := fun (y : (Int × Int)) => A.ip (c_A2_int_i64 y)) (idx_imm (e := 55) (es := 2) (h1 := by kernel_rfl) (h2 := by kernel_rfl) (h3 := fun _ => rfl) ..) fun y15 => ?_
      refine .st (v := (A.agg [(A.v (Value.int .i64 y15.1)), (A.v (Value.int .i64 y15.2))])) (by kernel_rfl) ?_
      refine .st (v := ((A.ep 1 0 0), [Blk.box [(A.imm (List.map c_S_Packet v12) false), (A.imm (List.map c_A2_int_i64 v13) false)], Blk.row true 1 [[(A.v (Value.int .i64 0))], [(A.v (Value.int .i64 0))]]])) (by kernel_rfl) ?_
      refine .st (v := [Blk.box [(A.imm (List.map c_S_Packet v12) false), (A.imm (List.map c_A2_int_i64 v13) false)], Blk.row true 1 [[(A.v (Value.int .i64 y15.1))], [(A.v (Value.int .i64 y15.2))]]]) (by kernel_rfl) ?_
      refine .st (v := (A.agg [(A.v (Value.int .i64 y15.1)), (A.v (Value.int .i64 y15.2))])) (by kernel_rfl) ?_
      refine .bd (g := fun (y : Bool) => (A.v (Value.bool y))) (h32 ((y15.1, y15.2))) fun y16 => ?_
      refine .st (v := (A.v (Value.bool (!y16)))) (by kernel_rfl) ?_
      refine .gsf (fun hc17 => ?_) (fun hc17 => ?_)
      · refine .bb ?_
        refine .st (v := (A.v (Value.bool (decide (0 < v11))))) (aBin_gtr ..) ?_
        refine .gst (fun hc18 => ?_) (fun hc18 => ?_)
        · refine .bb ?_
          refine .st (v := (A.ptr 0 1)) (by kernel_rfl) ?_
          refine .st (v := (A.imm (List.map c_A2_int_i64 v13) false)) (by kernel_rfl) ?_
          refine .st (v := (A.v (Value.int .i64 (wr .i64 (v11 - 1))))) (aBin_sub ..) ?_
          refine .bd (g := fun (y : (Int × Int)) => A.ip (c_A2_int_i64 y)) (idx_imm (e := 55) (es := 2) (h1 := by kernel_rfl) (h2 := by kernel_rfl) (h3 := fun _ => rfl) ..) fun y19 => ?_
          refine .st (v := (A.imm [[(A.v (Value.int .i64 y19.1))], [(A.v (Value.int .i64 y19.2))]] true)) (by kernel_rfl) ?_
          refine .st (v := (A.sl 1 0 2 true)) (by kernel_rfl) ?_
          refine .cr ?_
          iterate 7 refine .uc ?_
          refine .cr ?_
          iterate 10 refine .uc ?_
          refine .lp (gIf_knownTT hc18) ?_
          refine .cl ((evCall_in lt_33).trans (e33 C (evCall (cx C) (n+7)) (evCallY (cx C) (n+7)) (n+7) _ _ _ _)) ?_
          refine .st (v := (A.v (Value.int .i64 2))) (by kernel_rfl) ?_
          refine .as (T13_33_0 C n h30_31 h32 h47 ([y19.1, y19.2]) 0 ([y19.1, y19.2]) 2 v12 v13 y15.1 y15.2 _ _ _ _ ?_ ?_ _ 0)
          · intro y49 j50 j51 j52 j53 j54
            refine .un rfl ?_
            refine .cr ?_
            refine .ok ?_
            refine .lp (congrArg (fun z => Option.bind z _) (gIf_knownTT hc18)) ?_
            refine .bb ?_
            refine .st (v := (A.v (Value.bool (decide (0 ≤ y49))))) (aBin_geq ..) ?_
            refine .cr ?_
            refine .uc ?_
            refine .bg (fun t (y : Bool) => ∃ j57 : A, t = [(A.v (Value.bool y)), j57]) ?_ ?_
            · refine .bKF hc17 ?_
              refine .bg (fun t (y : Bool) =>  t = (A.v (Value.bool y))) ?_ ?_
              · refine .bKT hc18 ?_
                exact .lg rfl
              rintro _ y55 rfl
              exact .lg ⟨_, rfl⟩
            rintro _ y56 ⟨j57, rfl⟩
            iterate 2 refine .uc ?_
            refine .biH (fun hk58 => ?_) (fun hk58 => ?_)
            · exact .ex (x0 _ _ _ _ _ _ _)
            · refine .st (v := (A.v (Value.int .i64 (wr .i64 (v11 + 1))))) (aBin_add ..) ?_
              refine .st (v := [Blk.box [(A.imm (List.map c_S_Packet v12) false), (A.imm (List.map c_A2_int_i64 v13) false)]]) ((by kernel_rfl : _ = (bif ((((underss 1 (List.map c_S_Packet v12)) && ((underss 1 (List.map c_A2_int_i64 v13)) && true))) && true) then some [Blk.box [(A.imm (List.map c_S_Packet v12) false), (A.imm (List.map c_A2_int_i64 v13) false)]] else none)).trans (by simp only [underss_map, fu_cI, fu_c8, fu_cB, fu_cS, fu_cL, fu_S_kinespherelaw06_Move, fu_S_Packet, fu_A2_int_i64, fu_S_Net,  Bool.and_true, Bool.true_and, cond_true])) ?_
              refine .cT ((by kernel_rfl : _ = (bif underss 1 (List.map c_A2_int_i64 v9) then true else false)).trans (by simp only [underss_map, fu_cI, fu_c8, fu_cB, fu_cS, fu_cL, fu_S_kinespherelaw06_Move, fu_S_Packet, fu_A2_int_i64, fu_S_Net,  Bool.and_true, Bool.true_and, cond_true])) ?_
              exact ih _
          · intro j59 j60 j61 j62
            refine .un rfl ?_
            refine .cT (by kernel_rfl) ?_
            refine .st (v := (A.v (Value.int .i64 ((([y19.1, y19.2]).length : Int))))) (len_imm (e := 3) (h1 := by kernel_rfl) ..) ?_
            refine .st (v := (A.v (Value.int .i64 2))) (by kernel_rfl) ?_
            refine .st (v := (A.v (Value.bool (decide (((([y19.1, y19.2]).length : Int)) < 2))))) (aBin_lss ..) ?_
            refine .biH (fun hk63 => ?_) (fun hk63 => ?_)
            · refine .cr ?_
              refine .ok ?_
              refine .lp (congrArg (fun z => Option.bind z _) (gIf_knownTT hc18)) ?_
              refine .bb ?_
              refine .st (v := (A.v (Value.bool false))) (by kernel_rfl) ?_
              refine .cr ?_
              refine .uc ?_
              refine .bg (fun t (y : Bool) => ∃ j66 : A, t = [(A.v (Value.bool y)), j66]) ?_ ?_
              · refine .bKF hc17 ?_
                refine .bg (fun t (y : Bool) =>  t = (A.v (Value.bool y))) ?_ ?_
                · refine .bKT hc18 ?_
                  exact .lg rfl
                rintro _ y64 rfl
                exact .lg ⟨_, rfl⟩
              rintro _ y65 ⟨j66, rfl⟩
              iterate 2 refine .uc ?_
              refine .biH (fun hk67 => ?_) (fun hk67 => ?_)
              · exact .ex (x0 _ _ _ _ _ _ _)
              · refine .st (v := (A.v (Value.int .i64 (wr .i64 (v11 + 1))))) (aBin_add ..) ?_
                refine .st (v := [Blk.box [(A.imm (List.map c_S_Packet v12) false), (A.imm (List.map c_A2_int_i64 v13) false)]]) ((by kernel_rfl : _ = (bif ((((underss 1 (List.map c_S_Packet v12)) && ((underss 1 (List.map c_A2_int_i64 v13)) && true))) && true) then some [Blk.box [(A.imm (List.map c_S_Packet v12) false), (A.imm (List.map c_A2_int_i64 v13) false)]] else none)).trans (by simp only [underss_map, fu_cI, fu_c8, fu_cB, fu_cS, fu_cL, fu_S_kinespherelaw06_Move, fu_S_Packet, fu_A2_int_i64, fu_S_Net,  Bool.and_true, Bool.true_and, cond_true])) ?_
                refine .cT ((by kernel_rfl : _ = (bif underss 1 (List.map c_A2_int_i64 v9) then true else false)).trans (by simp only [underss_map, fu_cI, fu_c8, fu_cB, fu_cS, fu_cL, fu_S_kinespherelaw06_Move, fu_S_Packet, fu_A2_int_i64, fu_S_Net,  Bool.and_true, Bool.true_and, cond_true])) ?_
                exact ih _
            · refine .cr ?_
              refine .ok ?_
              refine .lp (congrArg (fun z => Option.bind z _) (gIf_knownTT hc18)) ?_
              refine .bb ?_
              refine .st (v := (A.v (Value.bool true))) (by kernel_rfl) ?_
              refine .cr ?_
              refine .uc ?_
              refine .bg (fun t (y : Bool) => ∃ j70 : A, t = [(A.v (Value.bool y)), j70]) ?_ ?_
              · refine .bKF hc17 ?_
                refine .bg (fun t (y : Bool) =>  t = (A.v (Value.bool y))) ?_ ?_
                · refine .bKT hc18 ?_
                  exact .lg rfl
                rintro _ y68 rfl
                exact .lg ⟨_, rfl⟩
              rintro _ y69 ⟨j70, rfl⟩
              iterate 2 refine .uc ?_
              refine .biH (fun hk71 => ?_) (fun hk71 => ?_)
              · exact .ex (x0 _ _ _ _ _ _ _)
              · refine .st (v := (A.v (Value.int .i64 (wr .i64 (v11 + 1))))) (aBin_add ..) ?_
                refine .st (v := [Blk.box [(A.imm (List.map c_S_Packet v12) false), (A.imm (List.map c_A2_int_i64 v13) false)]]) ((by kernel_rfl : _ = (bif ((((underss 1 (List.map c_S_Packet v12)) && ((underss 1 (List.map c_A2_int_i64 v13)) && true))) && true) then some [Blk.box [(A.imm (List.map c_S_Packet v12) false), (A.imm (List.map c_A2_int_i64 v13) false)]] else none)).trans (by simp only [underss_map, fu_cI, fu_c8, fu_cB, fu_cS, fu_cL, fu_S_kinespherelaw06_Move, fu_S_Packet, fu_A2_int_i64, fu_S_Net,  Bool.and_true, Bool.true_and, cond_true])) ?_
                refine .cT ((by kernel_rfl : _ = (bif underss 1 (List.map c_A2_int_i64 v9) then true else false)).trans (by simp only [underss_map, fu_cI, fu_c8, fu_cB, fu_cS, fu_cL, fu_S_kinespherelaw06_Move, fu_S_Packet, fu_A2_int_i64, fu_S_Net,  Bool.and_true, Bool.true_and, cond_true])) ?_
                exact ih _
        · refine .bb ?_
          refine .cr ?_
          iterate 7 refine .uc ?_
          refine .cr ?_
          iterate 10 refine .uc ?_
          refine .lp (gIf_knownTF hc18) ?_
          refine .lp (congrArg (fun z => Option.bind z _) (gIf_knownTF hc18)) ?_
          refine .bb ?_
          refine .cr ?_
          refine .uc ?_
          refine .bg (fun t (y : Bool) => ∃ j74 : A, t = [(A.v (Value.bool y)), j74]) ?_ ?_
          · refine .bKF hc17 ?_
            refine .bg (fun t (y : Bool) =>  t = (A.v (Value.bool y))) ?_ ?_
            · refine .bKF hc18 ?_
              exact .lg rfl
            rintro _ y72 rfl
            exact .lg ⟨_, rfl⟩
          rintro _ y73 ⟨j74, rfl⟩
          iterate 2 refine .uc ?_
          refine .biH (fun hk75 => ?_) (fun hk75 => ?_)
          · exact .ex (x0 _ _ _ _ _ _ _)
          · refine .st (v := (A.v (Value.int .i64 (wr .i64 (v11 + 1))))) (aBin_add ..) ?_
            refine .st (v := [Blk.box [(A.imm (List.map c_S_Packet v12) false), (A.imm (List.map c_A2_int_i64 v13) false)]]) ((by kernel_rfl : _ = (bif ((((underss 1 (List.map c_S_Packet v12)) && ((underss 1 (List.map c_A2_int_i64 v13)) && true))) && true) then some [Blk.box [(A.imm (List.map c_S_Packet v12) false), (A.imm (List.map c_A2_int_i64 v13) false)]] else none)).trans (by simp only [underss_map, fu_cI, fu_c8, fu_cB, fu_cS, fu_cL, fu_S_kinespherelaw06_Move, fu_S_Packet, fu_A2_int_i64, fu_S_Net,  Bool.and_true, Bool.true_and, cond_true])) ?_
            refine .cT ((by kernel_rfl : _ = (bif underss 1 (List.map c_A2_int_i64 v9) then true else false)).trans (by simp only [underss_map, fu_cI, fu_c8, fu_cB, fu_cS, fu_cL, fu_S_kinespherelaw06_Move, fu_S_Packet, fu_A2_int_i64, fu_S_Net,  Bool.and_true, Bool.true_and, cond_true])) ?_
            exact ih _
      · refine .bb ?_
        refine .cr ?_
        iterate 10 refine .uc ?_
        refine .gU ?_
        refine .bg (fun t (y : Unit) =>  t = [(A.v undef)]) ?_ ?_
        · refine .gU ?_
          exact .lg rfl
        rintro _ y76 rfl
        refine .uc ?_
        refine .bg (fun t (y : Bool) => ∃ j78 : A, t = [(A.v (Value.bool y)), j78]) ?_ ?_
        · refine .bKT hc17 ?_
          exact .lg ⟨_, rfl⟩
        rintro _ y77 ⟨j78, rfl⟩
        iterate 2 refine .uc ?_
        refine .biH (fun hk79 => ?_) (fun hk79 => ?_)
        · exact .ex (x0 _ _ _ _ _ _ _)
        · refine .st (v := (A.v (Value.int .i64 (wr .i64 (v11 + 1))))) (aBin_add ..) ?_
          refine .st (v := [Blk.box [(A.imm (List.map c_S_Packet v12) false), (A.imm (List.map c_A2_int_i64 v13) false)]]) ((by kernel_rfl : _ = (bif ((((underss 1 (List.map c_S_Packet v12)) && ((underss 1 (List.map c_A2_int_i64 v13)) && true))) && true) then some [Blk.box [(A.imm (List.map c_S_Packet v12) false), (A.imm (List.map c_A2_int_i64 v13) false)]] else none)).trans (by simp only [underss_map, fu_cI, fu_c8, fu_cB, fu_cS, fu_cL, fu_S_kinespherelaw06_Move, fu_S_Packet, fu_A2_int_i64, fu_S_Net,  Bool.and_true, Bool.true_and, cond_true])) ?_
          refine .cT ((by kernel_rfl : _ = (bif underss 1 (List.map c_A2_int_i64 v9) then true else false)).trans (by simp only [underss_map, fu_cI, fu_c8, fu_cB, fu_cS, fu_cL, fu_S_kinespherelaw06_Move, fu_S_Packet, fu_A2_int_i64, fu_S_Net,  Bool.and_true, Bool.true_and, cond_true])) ?_
          exact ih _
    · exact .ex (x1 _ _ _ _ _)

def F13 (n : Nat) (a0 : S_Net) : Option Int :=
  Option.bind (bif (decide (4096 < ((a0.Queue.length : Int)))) then (some true) else (Option.bind (G30_31 a0.Queue) fun y2 => some y2)) fun y3 => bif y3 then (some 60) else (Option.bind (F13_13_0 n 0 a0.Apart ((a0.Apart.length : Int)) a0.Queue a0.Apart (n+8) 0) fun o80 => match o80 with | (Sum.inl ((y81, y82, y83))) => some y81 | (Sum.inr _) => some 0)

theorem T13 (C : Nat → List A → Option A) (n : Nat) (h30_31 : Orc30_31 C) (h32 : Orc32 C) (h47 : Orc47 C) (a0 : S_Net) : J (fun (o : R) y => ∃ v, o.1 = .ret v ∧ snapE o.2 v = (A.v (Value.int .i64 y))) (evCall1 (cx C) (evCall (cx C) (n+8)) (evCallY (cx C) (n+8)) (n+8) 13 [(A.agg [(A.imm (List.map c_S_Packet a0.Queue) false), (A.imm (List.map c_A2_int_i64 a0.Apart) false)])] [] 0) some (F13 n a0) some := by
  refine .lp (e13 ..) ?_
  unfold F13
  refine .st (v := ((A.ptr 0 0), [Blk.box [(A.imm (List.map c_S_Packet a0.Queue) false), (A.imm (List.map c_A2_int_i64 a0.Apart) false)]])) (by kernel_rfl) ?_
  refine .st (v := (A.ptr 0 0)) (by kernel_rfl) ?_
  refine .st (v := (A.imm (List.map c_S_Packet a0.Queue) false)) (by kernel_rfl) ?_
  refine .st (v := (A.v (Value.int .i64 ((a0.Queue.length : Int))))) (len_imm (e := 28) (h1 := by kernel_rfl) ..) ?_
  refine .st (v := (A.v (Value.bool (decide (4096 < ((a0.Queue.length : Int))))))) (aBin_gtr ..) ?_
  refine .bg (fun t (y : Bool) => ∃ j4 j5 j6 : A, t = [(A.v (Value.bool y)), j4, j5, j6]) ?_ ?_
  · refine .biH (fun hk1 => ?_) (fun hk1 => ?_)
    · exact .lg ⟨_, _, _, rfl⟩
    · refine .st (v := (A.ptr 0 0)) (by kernel_rfl) ?_
      refine .st (v := (A.imm (List.map c_S_Packet a0.Queue) false)) (by kernel_rfl) ?_
      refine .bd (g := fun (y : Bool) => (A.v (Value.bool y))) (by simp only [snap, snapW, snapWs, snapWss, snapWss_map, trim, List.map_cons, List.map_nil, fl_cI, fl_c8, fl_cB, fl_cS, fl_cL, fl_S_kinespherelaw06_Move, fl_S_Packet, fl_A2_int_i64, fl_S_Net]; exact h30_31 a0.Queue) fun y2 => ?_
      exact .lg ⟨_, _, _, rfl⟩
  rintro _ y3 ⟨j4, j5, j6, rfl⟩
  iterate 4 refine .uc ?_
  refine .biH (fun hk7 => ?_) (fun hk7 => ?_)
  · exact .lf rfl rfl ⟨_, rfl, rfl⟩
  · refine .st (v := (A.ptr 0 1)) (by kernel_rfl) ?_
    refine .st (v := (A.imm (List.map c_A2_int_i64 a0.Apart) false)) (by kernel_rfl) ?_
    refine .st (v := (A.v (Value.int .i64 ((a0.Apart.length : Int))))) (len_imm (e := 55) (h1 := by kernel_rfl) ..) ?_
    refine .as (T13_13_0 C n h30_31 h32 h47 0 a0.Apart ((a0.Apart.length : Int)) a0.Queue a0.Apart _ _ _ _ ?_ ?_ _ 0)
    · intro y81 y82 y83 j84 j85 j86 j87
      refine .un rfl ?_
      exact .lf rfl rfl ⟨_, rfl, rfl⟩
    · intro j88 j89 j90 j91 j92
      refine .un rfl ?_
      refine .cT (by kernel_rfl) ?_
      exact .lf rfl rfl ⟨_, rfl, rfl⟩

def G13 (a0 : S_Net) : Option Int := F13 fuel0 a0

def Orc13 (C : Nat → List A → Option A) : Prop := ∀ (a0 : S_Net), C 13 [(A.agg [(A.imm (List.map c_S_Packet a0.Queue) false), (A.imm (List.map c_A2_int_i64 a0.Apart) false)])] = (G13 a0).map fun y => (A.v (Value.int .i64 y))

def F35 (n : Nat) (a0 : S_Net) (a1 : Int) : Option (S_Packet × Int) :=
  Option.bind (G13 a0) fun y1 => bif (y1 != 0) then (some (((S_Packet.mk 0 0 ([])), 60))) else (Option.bind (bif (decide (a1 < 0)) then (some true) else (some (decide (((a0.Queue.length : Int)) ≤ a1)))) fun y4 => bif y4 then (some (((S_Packet.mk 0 0 ([])), 1))) else (Option.bind (getI a0.Queue a1) fun y11 => some ((y11, 0))))

theorem T35 (C : Nat → List A → Option A) (n : Nat) (h13 : Orc13 C) (a0 : S_Net) (a1 : Int) : J (fun (o : R) y => ∃ v, o.1 = .ret v ∧ snapE o.2 v = (A.tup [(A.agg [(A.v (Value.int .i64 y.1.From)), (A.v (Value.int .i64 y.1.To)), (A.imm (List.map c8 y.1.Data) false)]), (A.v (Value.int .i64 y.2))])) (evCall1 (cx C) (evCall (cx C) (n+8)) (evCallY (cx C) (n+8)) (n+8) 35 [(A.agg [(A.imm (List.map c_S_Packet a0.Queue) false), (A.imm (List.map c_A2_int_i64 a0.Apart) false)]), (A.v (Value.int .i64 a1))] [] 0) some (F35 n a0 a1) some := by
  refine .lp (e35 ..) ?_
  unfold F35
  refine .st (v := ((A.ptr 0 0), [Blk.box [(A.imm (List.map c_S_Packet a0.Queue) false), (A.imm (List.map c_A2_int_i64 a0.Apart) false)]])) (by kernel_rfl) ?_
  refine .st (v := ((A.ptr 1 0), [Blk.box [(A.imm (List.map c_S_Packet a0.Queue) false), (A.imm (List.map c_A2_int_i64 a0.Apart) false)], Blk.box [(A.v (Value.int .i64 0)), (A.v (Value.int .i64 0)), (A.imm [] true)]])) (by kernel_rfl) ?_
  refine .st (v := (A.agg [(A.imm (List.map c_S_Packet a0.Queue) false), (A.imm (List.map c_A2_int_i64 a0.Apart) false)])) (by kernel_rfl) ?_
  refine .bd (g := fun (y : Int) => (A.v (Value.int .i64 y))) (by simp only [snap, snapW, snapWs, snapWss, snapWss_map, trim, List.map_cons, List.map_nil, fl_cI, fl_c8, fl_cB, fl_cS, fl_cL, fl_S_kinespherelaw06_Move, fl_S_Packet, fl_A2_int_i64, fl_S_Net]; exact h13 a0) fun y1 => ?_
  refine .st (v := (A.v (Value.bool (y1 != 0)))) (aBin_neq ..) ?_
  refine .biH (fun hk2 => ?_) (fun hk2 => ?_)
  · refine .st (v := (A.agg [(A.v (Value.int .i64 0)), (A.v (Value.int .i64 0)), (A.imm [] true)])) (by kernel_rfl) ?_
    refine .st (v := [Blk.box [(A.imm (List.map c_S_Packet a0.Queue) false), (A.imm (List.map c_A2_int_i64 a0.Apart) false)], Blk.box [(A.v (Value.int .i64 0)), (A.v (Value.int .i64 0)), (A.imm [] true)]]) (by kernel_rfl) ?_
    refine .st (v := (A.agg [(A.v (Value.int .i64 0)), (A.v (Value.int .i64 0)), (A.imm [] true)])) (by kernel_rfl) ?_
    exact .lf rfl rfl ⟨_, rfl, by simp only [snap, snapW, snapWs, snapWss, snapWss_map, trim, List.map_cons, List.map_nil, fl_cI, fl_c8, fl_cB, fl_cS, fl_cL, fl_S_kinespherelaw06_Move, fl_S_Packet, fl_A2_int_i64, fl_S_Net, snapE]⟩
  · refine .st (v := (A.v (Value.bool (decide (a1 < 0))))) (aBin_lss ..) ?_
    refine .bg (fun t (y : Bool) => ∃ j5 j6 j7 j8 j9 : A, t = [(A.v (Value.bool y)), j5, j6, j7, j8, j9]) ?_ ?_
    · refine .biH (fun hk3 => ?_) (fun hk3 => ?_)
      · exact .lg ⟨_, _, _, _, _, rfl⟩
      · refine .st (v := (A.ptr 0 0)) (by kernel_rfl) ?_
        refine .st (v := (A.imm (List.map c_S_Packet a0.Queue) false)) (by kernel_rfl) ?_
        refine .st (v := (A.v (Value.int .i64 ((a0.Queue.length : Int))))) (len_imm (e := 28) (h1 := by kernel_rfl) ..) ?_
        refine .st (v := (A.v (Value.bool (decide (((a0.Queue.length : Int)) ≤ a1))))) (aBin_geq ..) ?_
        exact .lg ⟨_, _, _, _, _, rfl⟩
    rintro _ y4 ⟨j5, j6, j7, j8, j9, rfl⟩
    iterate 6 refine .uc ?_
    refine .biH (fun hk10 => ?_) (fun hk10 => ?_)
    · refine .st (v := (A.agg [(A.v (Value.int .i64 0)), (A.v (Value.int .i64 0)), (A.imm [] true)])) (by kernel_rfl) ?_
      refine .st (v := [Blk.box [(A.imm (List.map c_S_Packet a0.Queue) false), (A.imm (List.map c_A2_int_i64 a0.Apart) false)], Blk.box [(A.v (Value.int .i64 0)), (A.v (Value.int .i64 0)), (A.imm [] true)]]) (by kernel_rfl) ?_
      refine .st (v := (A.agg [(A.v (Value.int .i64 0)), (A.v (Value.int .i64 0)), (A.imm [] true)])) (by kernel_rfl) ?_
      exact .lf rfl rfl ⟨_, rfl, by simp only [snap, snapW, snapWs, snapWss, snapWss_map, trim, List.map_cons, List.map_nil, fl_cI, fl_c8, fl_cB, fl_cS, fl_cL, fl_S_kinespherelaw06_Move, fl_S_Packet, fl_A2_int_i64, fl_S_Net, snapE]⟩
    · refine .st (v := (A.ptr 0 0)) (by kernel_rfl) ?_
      refine .st (v := (A.imm (List.map c_S_Packet a0.Queue) false)) (by kernel_rfl) ?_
      refine .bd (g := fun (y : S_Packet) => A.ip (c_S_Packet y)) (idx_imm (e := 28) (es := 3) (h1 := by kernel_rfl) (h2 := by kernel_rfl) (h3 := fun _ => rfl) ..) fun y11 => ?_
      refine .st (v := (A.agg [(A.v (Value.int .i64 y11.From)), (A.v (Value.int .i64 y11.To)), (A.imm (List.map c8 y11.Data) false)])) (by kernel_rfl) ?_
      refine .st (v := [Blk.box [(A.imm (List.map c_S_Packet a0.Queue) false), (A.imm (List.map c_A2_int_i64 a0.Apart) false)], Blk.box [(A.v (Value.int .i64 y11.From)), (A.v (Value.int .i64 y11.To)), (A.imm (List.map c8 y11.Data) false)]]) (by kernel_rfl) ?_
      refine .st (v := (A.agg [(A.v (Value.int .i64 y11.From)), (A.v (Value.int .i64 y11.To)), (A.imm (List.map c8 y11.Data) false)])) (by kernel_rfl) ?_
      exact .lf rfl rfl ⟨_, rfl, by simp only [snap, snapW, snapWs, snapWss, snapWss_map, trim, List.map_cons, List.map_nil, fl_cI, fl_c8, fl_cB, fl_cS, fl_cL, fl_S_kinespherelaw06_Move, fl_S_Packet, fl_A2_int_i64, fl_S_Net, snapE]⟩

def G35 (a0 : S_Net) (a1 : Int) : Option (S_Packet × Int) := F35 fuel0 a0 a1

def Orc35 (C : Nat → List A → Option A) : Prop := ∀ (a0 : S_Net) (a1 : Int), C 35 [(A.agg [(A.imm (List.map c_S_Packet a0.Queue) false), (A.imm (List.map c_A2_int_i64 a0.Apart) false)]), (A.v (Value.int .i64 a1))] = (G35 a0 a1).map fun y => (A.tup [(A.agg [(A.v (Value.int .i64 y.1.From)), (A.v (Value.int .i64 y.1.To)), (A.imm (List.map c8 y.1.Data) false)]), (A.v (Value.int .i64 y.2))])

def F45_45_0 (n : Nat) (v1 : (List (Int × Int))) (v2 : Int) (v3 : Int) (v5 : Int) (v6 : Int) : Nat → Int → Option ((Int) ⊕ (Unit))
  | 0, _ => none
  | m + 1, v4 => bif (decide (v4 < v3)) then (Option.bind (getI v1 v4) fun y8 => bif (((v5 == y8.1) && (v6 == y8.2))) then (some ((Sum.inl v4))) else (F45_45_0 n v1 v2 v3 v5 v6 m (wr .i64 (v4 + 1)))) else (some ((Sum.inr (()))))

theorem T45_45_0 (C : Nat → List A → Option A) (n : Nat) (v1 : (List (Int × Int))) (v2 : Int) (v3 : Int) (v5 : Int) (v6 : Int) {ρ γ : Type} {φ : ρ → γ → Prop} {kL : R → Option ρ} {K : ((Int) ⊕ (Unit)) → Option γ} (kx kg : Nat → St → Option R) (kr : St → Option R) (kp : A → St → Option R) (x0 : ∀ (o0 : Int) (s0 : A) (s3 : A) (s7 : A) (s8 : A), J φ (kr (St.mk [(0, s0), (3, s3), (4, (A.v (Value.int .i64 o0))), (7, s7), (8, s8)] [Blk.box [(A.v (Value.int .i64 v5)), (A.v (Value.int .i64 v6))]])) kL (K (Sum.inl o0)) some) (x1 : ∀ (s0 : A) (s3 : A) (s4 : A) (s7 : A) (s8 : A), J φ (kx 0 (St.mk [(0, s0), (3, s3), (4, s4), (7, s7), (8, s8)] [Blk.box [(A.v (Value.int .i64 v5)), (A.v (Value.int .i64 v6))]])) kL (K (Sum.inr (()))) some) :
    ∀ (m : Nat) (v4 : Int), J φ (loopR (cx C) (evCall (cx C) (n+8)) (evCallY (cx C) (n+8)) (n+8) 45 0 0 1 kx kg kr kp m (St.mk [(0, (A.imm (List.map c_A2_int_i64 v1) false)), (3, (A.ptr 0 0)), (4, (A.v (Value.int .i64 v2))), (7, (A.v (Value.int .i64 v3))), (8, (A.v (Value.int .i64 v4)))] [Blk.box [(A.v (Value.int .i64 v5)), (A.v (Value.int .i64 v6))]])) kL (F45_45_0 n v1 v2 v3 v5 v6 m v4) K := by
  intro m
  induction m with
  | zero => intros; exact .nn
  | succ m ih =>
    intro v4
    refine .lp (e45_0 ..) ?_
    unfold F45_45_0
    refine .st (v := (A.v (Value.bool (decide (v4 < v3))))) (aBin_lss ..) ?_
    refine .biH (fun hk7 => ?_) (fun hk7 => ?_)
    · refine .st (v := (A.agg [(A.v (Value.int .i64 v5)), (A.v (Value.int .i64 v6))])) (by kernel_rfl) ?_
      refine .bd (g := fun (y : (Int × Int)) => A.ip (c_A2_int_i64 y)) (idx_imm (e := 55) (es := 2) (h1 := by kernel_rfl) (h2 := by kernel_rfl) (h3 := fun _ => rfl) ..) fun y8 => ?_
      refine .st (v := (A.agg [(A.v (Value.int .i64 y8.1)), (A.v (Value.int .i64 y8.2))])) (by kernel_rfl) ?_
      refine .st (v := (A.v (Value.bool (((v5 == y8.1) && (v6 == y8.2)))))) (by kernel_rfl) ?_
      refine .biH (fun hk9 => ?_) (fun hk9 => ?_)
      · exact .ex (x0 _ _ _ _ _)
      · refine .st (v := (A.v (Value.int .i64 (wr .i64 (v4 + 1))))) (aBin_add ..) ?_
        refine .st (v := [Blk.box [(A.v (Value.int .i64 v5)), (A.v (Value.int .i64 v6))]]) (by kernel_rfl) ?_
        refine .cT (by kernel_rfl) ?_
        exact ih _
    · exact .ex (x1 _ _ _ _ _)

def F45 (n : Nat) (a0 : (List (Int × Int))) (a1 : (Int × Int)) : Option Int :=
  Option.bind (F45_45_0 n a0 0 ((a0.length : Int)) a1.1 a1.2 (n+8) 0) fun o10 => match o10 with | (Sum.inl y11) => some y11 | (Sum.inr _) => some (-1)

theorem T45 (C : Nat → List A → Option A) (n : Nat) (a0 : (List (Int × Int))) (a1 : (Int × Int)) : J (fun (o : R) y => ∃ v, o.1 = .ret v ∧ snapE o.2 v = (A.v (Value.int .i64 y))) (evCall1 (cx C) (evCall (cx C) (n+8)) (evCallY (cx C) (n+8)) (n+8) 45 [(A.imm (List.map c_A2_int_i64 a0) false), (A.agg [(A.v (Value.int .i64 a1.1)), (A.v (Value.int .i64 a1.2))])] [] 0) some (F45 n a0 a1) some := by
  refine .lp (e45 ..) ?_
  unfold F45
  refine .st (v := ((A.ptr 0 0), [Blk.box [(A.v (Value.int .i64 a1.1)), (A.v (Value.int .i64 a1.2))]])) (by kernel_rfl) ?_
  refine .st (v := (A.v (Value.int .i64 ((a0.length : Int))))) (len_imm (e := 55) (h1 := by kernel_rfl) ..) ?_
  refine .as (T45_45_0 C n  a0 0 ((a0.length : Int)) a1.1 a1.2 _ _ _ _ ?_ ?_ _ 0)
  · intro y11 j12 j13 j14 j15
    refine .un rfl ?_
    exact .lf rfl rfl ⟨_, rfl, rfl⟩
  · intro j16 j17 j18 j19 j20
    refine .un rfl ?_
    refine .cT (by kernel_rfl) ?_
    exact .lf rfl rfl ⟨_, rfl, rfl⟩

def G45 (a0 : (List (Int × Int))) (a1 : (Int × Int)) : Option Int := F45 fuel0 a0 a1

def Orc45 (C : Nat → List A → Option A) : Prop := ∀ (a0 : (List (Int × Int))) (a1 : (Int × Int)), C 45 [(A.imm (List.map c_A2_int_i64 a0) false), (A.agg [(A.v (Value.int .i64 a1.1)), (A.v (Value.int .i64 a1.2))])] = (G45 a0 a1).map fun y => (A.v (Value.int .i64 y))

def F36 (n : Nat) (a0 : (List (Int × Int))) (a1 : (Int × Int)) : Option Bool :=
  Option.bind (G45 a0 ((a1.1, a1.2))) fun y1 => some (decide (0 ≤ y1))

theorem T36 (C : Nat → List A → Option A) (n : Nat) (h45 : Orc45 C) (a0 : (List (Int × Int))) (a1 : (Int × Int)) : J (fun (o : R) y => ∃ v, o.1 = .ret v ∧ snapE o.2 v = (A.v (Value.bool y))) (evCall1 (cx C) (evCall (cx C) (n+8)) (evCallY (cx C) (n+8)) (n+8) 36 [(A.imm (List.map c_A2_int_i64 a0) false), (A.agg [(A.v (Value.int .i64 a1.1)), (A.v (Value.int .i64 a1.2))])] [] 0) some (F36 n a0 a1) some := by
  refine .lp (e36 ..) ?_
  unfold F36
  refine .st (v := ((A.ptr 0 0), [Blk.box [(A.v (Value.int .i64 a1.1)), (A.v (Value.int .i64 a1.2))]])) (by kernel_rfl) ?_
  refine .st (v := (A.agg [(A.v (Value.int .i64 a1.1)), (A.v (Value.int .i64 a1.2))])) (by kernel_rfl) ?_
  refine .bd (g := fun (y : Int) => (A.v (Value.int .i64 y))) (by simp only [snap, snapW, snapWs, snapWss, snapWss_map, trim, List.map_cons, List.map_nil, fl_cI, fl_c8, fl_cB, fl_cS, fl_cL, fl_S_kinespherelaw06_Move, fl_S_Packet, fl_A2_int_i64, fl_S_Net]; exact h45 a0 ((a1.1, a1.2))) fun y1 => ?_
  refine .st (v := (A.v (Value.bool (decide (0 ≤ y1))))) (aBin_geq ..) ?_
  exact .lf rfl rfl ⟨_, rfl, rfl⟩

def G36 (a0 : (List (Int × Int))) (a1 : (Int × Int)) : Option Bool := F36 fuel0 a0 a1

def Orc36 (C : Nat → List A → Option A) : Prop := ∀ (a0 : (List (Int × Int))) (a1 : (Int × Int)), C 36 [(A.imm (List.map c_A2_int_i64 a0) false), (A.agg [(A.v (Value.int .i64 a1.1)), (A.v (Value.int .i64 a1.2))])] = (G36 a0 a1).map fun y => (A.v (Value.bool y))

def F38 (n : Nat) (a0 : S_Net) (a1 : Int) : Option S_Net :=
  Option.bind (subI a0.Queue 0 a1) fun y1 => Option.bind (subI a0.Queue (wr .i64 (a1 + 1)) ((a0.Queue.length : Int))) fun y2 => Option.bind (appI 40 y1 y2) fun y3 => some ((S_Net.mk y3 a0.Apart))

theorem T38 (C : Nat → List A → Option A) (n : Nat) (a0 : S_Net) (a1 : Int) : J (fun (o : R) y => ∃ v, o.1 = .ret v ∧ snapE o.2 v = (A.agg [(A.imm (List.map c_S_Packet y.Queue) false), (A.imm (List.map c_A2_int_i64 y.Apart) false)])) (evCall1 (cx C) (evCall (cx C) (n+8)) (evCallY (cx C) (n+8)) (n+8) 38 [(A.agg [(A.imm (List.map c_S_Packet a0.Queue) false), (A.imm (List.map c_A2_int_i64 a0.Apart) false)]), (A.v (Value.int .i64 a1))] [] 0) some (F38 n a0 a1) some := by
  refine .lp (e38 ..) ?_
  unfold F38
  refine .st (v := ((A.ptr 0 0), [Blk.box [(A.imm (List.map c_S_Packet a0.Queue) false), (A.imm (List.map c_A2_int_i64 a0.Apart) false)]])) (by kernel_rfl) ?_
  refine .st (v := ((A.ptr 1 0), [Blk.box [(A.imm (List.map c_S_Packet a0.Queue) false), (A.imm (List.map c_A2_int_i64 a0.Apart) false)], Blk.box [(A.imm [] true), (A.imm [] true)]])) (by kernel_rfl) ?_
  refine .st (v := (A.ptr 0 0)) (by kernel_rfl) ?_
  refine .st (v := (A.imm (List.map c_S_Packet a0.Queue) false)) (by kernel_rfl) ?_
  refine .bd (g := fun (y : List S_Packet) => (A.imm (List.map c_S_Packet y) true)) (cut_imm3 (e := 28) (es := 3) (f := c_S_Packet) (l := a0.Queue) (a := 0) (b := a1) (by kernel_rfl) (by kernel_rfl) (fun _ => rfl) (.inl ⟨rfl, rfl⟩)) fun y1 => ?_
  refine .st (v := (A.ptr 0 0)) (by kernel_rfl) ?_
  refine .st (v := (A.imm (List.map c_S_Packet a0.Queue) false)) (by kernel_rfl) ?_
  refine .st (v := (A.v (Value.int .i64 (wr .i64 (a1 + 1))))) (aBin_add ..) ?_
  refine .bd (g := fun (y : List S_Packet) => (A.imm (List.map c_S_Packet y) false)) (cut_imm (e := 28) (es := 3) (f := c_S_Packet) (l := a0.Queue) (a := wr .i64 (a1 + 1)) (b := (a0.Queue.length : Int)) (by kernel_rfl) (by kernel_rfl) (fun _ => rfl) (.inr ⟨_, rfl⟩) (.inl ⟨rfl, rfl⟩)) fun y2 => ?_
  refine .bd (g := fun (y : List S_Packet) => ((A.sl 2 0 y.length false), [Blk.box [(A.imm (List.map c_S_Packet a0.Queue) false), (A.imm (List.map c_A2_int_i64 a0.Apart) false)], Blk.box [(A.imm [] true), (A.imm [] true)], Blk.row false 3 (List.map c_S_Packet y)])) (app_imm (e := 28) (es := 3) (by_ := 40) (z := [(A.v (Value.int .i64 0)), (A.v (Value.int .i64 0)), (A.imm [] true)]) (by kernel_rfl) (by kernel_rfl) (by kernel_rfl) (by kernel_rfl) rfl (by decide) (by decide) (by kernel_rfl) (f := c_S_Packet) (fun _ => rfl) ce_S_Packet (l := y1) (l2 := y2) (els_imm ..)) fun y3 => ?_
  refine .st (v := (A.ptr 0 0)) (by kernel_rfl) ?_
  refine .st (v := [Blk.box [(A.sl 2 0 y3.length false), (A.imm (List.map c_A2_int_i64 a0.Apart) false)], Blk.box [(A.imm [] true), (A.imm [] true)], Blk.row false 3 (List.map c_S_Packet y3)]) (by kernel_rfl) ?_
  refine .st (v := (A.agg [(A.sl 2 0 y3.length false), (A.imm (List.map c_A2_int_i64 a0.Apart) false)])) (by kernel_rfl) ?_
  refine .st (v := [Blk.box [(A.sl 2 0 y3.length false), (A.imm (List.map c_A2_int_i64 a0.Apart) false)], Blk.box [(A.sl 2 0 y3.length false), (A.imm (List.map c_A2_int_i64 a0.Apart) false)], Blk.row false 3 (List.map c_S_Packet y3)]) (by kernel_rfl) ?_
  refine .st (v := (A.agg [(A.sl 2 0 y3.length false), (A.imm (List.map c_A2_int_i64 a0.Apart) false)])) (by kernel_rfl) ?_
  exact .lf rfl rfl ⟨_, rfl, by simp only [snap, snapW, snapWs, snapWss, snapWss_map, trim, List.map_cons, List.map_nil, fl_cI, fl_c8, fl_cB, fl_cS, fl_cL, fl_S_kinespherelaw06_Move, fl_S_Packet, fl_A2_int_i64, fl_S_Net, snapE, snapGE_row (H := [Blk.box [(A.sl 2 0 y3.length false), (A.imm (List.map c_A2_int_i64 a0.Apart) false)], Blk.box [(A.sl 2 0 y3.length false), (A.imm (List.map c_A2_int_i64 a0.Apart) false)], Blk.row false 3 (List.map c_S_Packet y3)]) (b := 2) (es := 3) (wr := false) (l := y3) fl_S_Packet rfl]⟩

def G38 (a0 : S_Net) (a1 : Int) : Option S_Net := F38 fuel0 a0 a1

def Orc38 (C : Nat → List A → Option A) : Prop := ∀ (a0 : S_Net) (a1 : Int), C 38 [(A.agg [(A.imm (List.map c_S_Packet a0.Queue) false), (A.imm (List.map c_A2_int_i64 a0.Apart) false)]), (A.v (Value.int .i64 a1))] = (G38 a0 a1).map fun y => (A.agg [(A.imm (List.map c_S_Packet y.Queue) false), (A.imm (List.map c_A2_int_i64 y.Apart) false)])

def F18 (n : Nat) (a0 : S_Net) (a1 : Int) : Option (S_Packet × S_Net × Int) :=
  Option.bind (G35 a0 a1) fun y1 => bif (y1.2 != 0) then (some ((y1.1, (S_Net.mk ([]) ([])), y1.2))) else (Option.bind (G37 y1.1.From y1.1.To) fun y3 => Option.bind (G36 a0.Apart ((y3.1, y3.2))) fun y4 => bif y4 then (Option.bind (G38 a0 a1) fun y6 => some (((S_Packet.mk 0 0 ([])), y6, 0))) else (Option.bind (G38 a0 a1) fun y7 => some ((y1.1, y7, 0))))

theorem T18 (C : Nat → List A → Option A) (n : Nat) (h35 : Orc35 C) (h36 : Orc36 C) (h37 : Orc37 C) (h38 : Orc38 C) (a0 : S_Net) (a1 : Int) : J (fun (o : R) y => ∃ v, o.1 = .ret v ∧ snapE o.2 v = (A.tup [(A.agg [(A.v (Value.int .i64 y.1.From)), (A.v (Value.int .i64 y.1.To)), (A.imm (List.map c8 y.1.Data) false)]), (A.agg [(A.imm (List.map c_S_Packet y.2.1.Queue) false), (A.imm (List.map c_A2_int_i64 y.2.1.Apart) false)]), (A.v (Value.int .i64 y.2.2))])) (evCall1 (cx C) (evCall (cx C) (n+8)) (evCallY (cx C) (n+8)) (n+8) 18 [(A.agg [(A.imm (List.map c_S_Packet a0.Queue) false), (A.imm (List.map c_A2_int_i64 a0.Apart) false)]), (A.v (Value.int .i64 a1))] [] 0) some (F18 n a0 a1) some := by
  refine .lp (e18 ..) ?_
  unfold F18
  refine .st (v := ((A.ptr 0 0), [Blk.box [(A.imm (List.map c_S_Packet a0.Queue) false), (A.imm (List.map c_A2_int_i64 a0.Apart) false)]])) (by kernel_rfl) ?_
  refine .st (v := ((A.ptr 1 0), [Blk.box [(A.imm (List.map c_S_Packet a0.Queue) false), (A.imm (List.map c_A2_int_i64 a0.Apart) false)], Blk.box [(A.v (Value.int .i64 0)), (A.v (Value.int .i64 0)), (A.imm [] true)]])) (by kernel_rfl) ?_
  refine .st (v := ((A.ptr 2 0), [Blk.box [(A.imm (List.map c_S_Packet a0.Queue) false), (A.imm (List.map c_A2_int_i64 a0.Apart) false)], Blk.box [(A.v (Value.int .i64 0)), (A.v (Value.int .i64 0)), (A.imm [] true)], Blk.box [(A.imm [] true), (A.imm [] true)]])) (by kernel_rfl) ?_
  refine .st (v := (A.agg [(A.imm (List.map c_S_Packet a0.Queue) false), (A.imm (List.map c_A2_int_i64 a0.Apart) false)])) (by kernel_rfl) ?_
  refine .bd (g := fun (y : (S_Packet × Int)) => (A.tup [(A.agg [(A.v (Value.int .i64 y.1.From)), (A.v (Value.int .i64 y.1.To)), (A.imm (List.map c8 y.1.Data) false)]), (A.v (Value.int .i64 y.2))])) (by simp only [snap, snapW, snapWs, snapWss, snapWss_map, trim, List.map_cons, List.map_nil, fl_cI, fl_c8, fl_cB, fl_cS, fl_cL, fl_S_kinespherelaw06_Move, fl_S_Packet, fl_A2_int_i64, fl_S_Net]; exact h35 a0 a1) fun y1 => ?_
  refine .st (v := (A.agg [(A.v (Value.int .i64 y1.1.From)), (A.v (Value.int .i64 y1.1.To)), (A.imm (List.map c8 y1.1.Data) false)])) (by kernel_rfl) ?_
  refine .st (v := (A.v (Value.int .i64 y1.2))) (by kernel_rfl) ?_
  refine .st (v := [Blk.box [(A.imm (List.map c_S_Packet a0.Queue) false), (A.imm (List.map c_A2_int_i64 a0.Apart) false)], Blk.box [(A.v (Value.int .i64 y1.1.From)), (A.v (Value.int .i64 y1.1.To)), (A.imm (List.map c8 y1.1.Data) false)], Blk.box [(A.imm [] true), (A.imm [] true)]]) (by kernel_rfl) ?_
  refine .st (v := (A.v (Value.bool (y1.2 != 0)))) (aBin_neq ..) ?_
  refine .biH (fun hk2 => ?_) (fun hk2 => ?_)
  · refine .st (v := (A.agg [(A.v (Value.int .i64 y1.1.From)), (A.v (Value.int .i64 y1.1.To)), (A.imm (List.map c8 y1.1.Data) false)])) (by kernel_rfl) ?_
    refine .st (v := (A.agg [(A.imm [] true), (A.imm [] true)])) (by kernel_rfl) ?_
    refine .cT (by kernel_rfl) ?_
    refine .st (v := [Blk.box [(A.imm (List.map c_S_Packet a0.Queue) false), (A.imm (List.map c_A2_int_i64 a0.Apart) false)], Blk.box [(A.v (Value.int .i64 y1.1.From)), (A.v (Value.int .i64 y1.1.To)), (A.imm (List.map c8 y1.1.Data) false)], Blk.box [(A.imm [] true), (A.imm [] true)]]) (by kernel_rfl) ?_
    refine .st (v := [Blk.box [(A.imm (List.map c_S_Packet a0.Queue) false), (A.imm (List.map c_A2_int_i64 a0.Apart) false)], Blk.box [(A.v (Value.int .i64 y1.1.From)), (A.v (Value.int .i64 y1.1.To)), (A.imm (List.map c8 y1.1.Data) false)], Blk.box [(A.imm [] true), (A.imm [] true)]]) (by kernel_rfl) ?_
    refine .st (v := (A.agg [(A.v (Value.int .i64 y1.1.From)), (A.v (Value.int .i64 y1.1.To)), (A.imm (List.map c8 y1.1.Data) false)])) (by kernel_rfl) ?_
    refine .st (v := (A.agg [(A.imm [] true), (A.imm [] true)])) (by kernel_rfl) ?_
    exact .lf rfl rfl ⟨_, rfl, by simp only [snap, snapW, snapWs, snapWss, snapWss_map, trim, List.map_cons, List.map_nil, fl_cI, fl_c8, fl_cB, fl_cS, fl_cL, fl_S_kinespherelaw06_Move, fl_S_Packet, fl_A2_int_i64, fl_S_Net, snapE]⟩
  · refine .st (v := (A.ptr 0 1)) (by kernel_rfl) ?_
    refine .st (v := (A.imm (List.map c_A2_int_i64 a0.Apart) false)) (by kernel_rfl) ?_
    refine .st (v := (A.ptr 1 0)) (by kernel_rfl) ?_
    refine .st (v := (A.v (Value.int .i64 y1.1.From))) (by kernel_rfl) ?_
    refine .st (v := (A.ptr 1 1)) (by kernel_rfl) ?_
    refine .st (v := (A.v (Value.int .i64 y1.1.To))) (by kernel_rfl) ?_
    refine .bd (g := fun (y : (Int × Int)) => (A.agg [(A.v (Value.int .i64 y.1)), (A.v (Value.int .i64 y.2))])) (h37 y1.1.From y1.1.To) fun y3 => ?_
    refine .bd (g := fun (y : Bool) => (A.v (Value.bool y))) (by simp only [snap, snapW, snapWs, snapWss, snapWss_map, trim, List.map_cons, List.map_nil, fl_cI, fl_c8, fl_cB, fl_cS, fl_cL, fl_S_kinespherelaw06_Move, fl_S_Packet, fl_A2_int_i64, fl_S_Net]; exact h36 a0.Apart ((y3.1, y3.2))) fun y4 => ?_
    refine .biH (fun hk5 => ?_) (fun hk5 => ?_)
    · refine .st (v := (A.agg [(A.v (Value.int .i64 0)), (A.v (Value.int .i64 0)), (A.imm [] true)])) (by kernel_rfl) ?_
      refine .st (v := [Blk.box [(A.imm (List.map c_S_Packet a0.Queue) false), (A.imm (List.map c_A2_int_i64 a0.Apart) false)], Blk.box [(A.v (Value.int .i64 0)), (A.v (Value.int .i64 0)), (A.imm [] true)], Blk.box [(A.imm [] true), (A.imm [] true)]]) (by kernel_rfl) ?_
      refine .st (v := (A.agg [(A.v (Value.int .i64 0)), (A.v (Value.int .i64 0)), (A.imm [] true)])) (by kernel_rfl) ?_
      refine .st (v := (A.agg [(A.imm (List.map c_S_Packet a0.Queue) false), (A.imm (List.map c_A2_int_i64 a0.Apart) false)])) (by kernel_rfl) ?_
      refine .bd (g := fun (y : S_Net) => (A.agg [(A.imm (List.map c_S_Packet y.Queue) false), (A.imm (List.map c_A2_int_i64 y.Apart) false)])) (by simp only [snap, snapW, snapWs, snapWss, snapWss_map, trim, List.map_cons, List.map_nil, fl_cI, fl_c8, fl_cB, fl_cS, fl_cL, fl_S_kinespherelaw06_Move, fl_S_Packet, fl_A2_int_i64, fl_S_Net]; exact h38 a0 a1) fun y6 => ?_
      refine .st (v := [Blk.box [(A.imm (List.map c_S_Packet a0.Queue) false), (A.imm (List.map c_A2_int_i64 a0.Apart) false)], Blk.box [(A.v (Value.int .i64 0)), (A.v (Value.int .i64 0)), (A.imm [] true)], Blk.box [(A.imm [] true), (A.imm [] true)]]) (by kernel_rfl) ?_
      refine .st (v := [Blk.box [(A.imm (List.map c_S_Packet a0.Queue) false), (A.imm (List.map c_A2_int_i64 a0.Apart) false)], Blk.box [(A.v (Value.int .i64 0)), (A.v (Value.int .i64 0)), (A.imm [] true)], Blk.box [(A.imm (List.map c_S_Packet y6.Queue) false), (A.imm (List.map c_A2_int_i64 y6.Apart) false)]]) (by kernel_rfl) ?_
      refine .st (v := (A.agg [(A.v (Value.int .i64 0)), (A.v (Value.int .i64 0)), (A.imm [] true)])) (by kernel_rfl) ?_
      refine .st (v := (A.agg [(A.imm (List.map c_S_Packet y6.Queue) false), (A.imm (List.map c_A2_int_i64 y6.Apart) false)])) (by kernel_rfl) ?_
      exact .lf rfl rfl ⟨_, rfl, by simp only [snap, snapW, snapWs, snapWss, snapWss_map, trim, List.map_cons, List.map_nil, fl_cI, fl_c8, fl_cB, fl_cS, fl_cL, fl_S_kinespherelaw06_Move, fl_S_Packet, fl_A2_int_i64, fl_S_Net, snapE]⟩
    · refine .st (v := (A.agg [(A.v (Value.int .i64 y1.1.From)), (A.v (Value.int .i64 y1.1.To)), (A.imm (List.map c8 y1.1.Data) false)])) (by kernel_rfl) ?_
      refine .st (v := (A.agg [(A.imm (List.map c_S_Packet a0.Queue) false), (A.imm (List.map c_A2_int_i64 a0.Apart) false)])) (by kernel_rfl) ?_
      refine .bd (g := fun (y : S_Net) => (A.agg [(A.imm (List.map c_S_Packet y.Queue) false), (A.imm (List.map c_A2_int_i64 y.Apart) false)])) (by simp only [snap, snapW, snapWs, snapWss, snapWss_map, trim, List.map_cons, List.map_nil, fl_cI, fl_c8, fl_cB, fl_cS, fl_cL, fl_S_kinespherelaw06_Move, fl_S_Packet, fl_A2_int_i64, fl_S_Net]; exact h38 a0 a1) fun y7 => ?_
      refine .st (v := [Blk.box [(A.imm (List.map c_S_Packet a0.Queue) false), (A.imm (List.map c_A2_int_i64 a0.Apart) false)], Blk.box [(A.v (Value.int .i64 y1.1.From)), (A.v (Value.int .i64 y1.1.To)), (A.imm (List.map c8 y1.1.Data) false)], Blk.box [(A.imm [] true), (A.imm [] true)]]) (by kernel_rfl) ?_
      refine .st (v := [Blk.box [(A.imm (List.map c_S_Packet a0.Queue) false), (A.imm (List.map c_A2_int_i64 a0.Apart) false)], Blk.box [(A.v (Value.int .i64 y1.1.From)), (A.v (Value.int .i64 y1.1.To)), (A.imm (List.map c8 y1.1.Data) false)], Blk.box [(A.imm (List.map c_S_Packet y7.Queue) false), (A.imm (List.map c_A2_int_i64 y7.Apart) false)]]) (by kernel_rfl) ?_
      refine .st (v := (A.agg [(A.v (Value.int .i64 y1.1.From)), (A.v (Value.int .i64 y1.1.To)), (A.imm (List.map c8 y1.1.Data) false)])) (by kernel_rfl) ?_
      refine .st (v := (A.agg [(A.imm (List.map c_S_Packet y7.Queue) false), (A.imm (List.map c_A2_int_i64 y7.Apart) false)])) (by kernel_rfl) ?_
      exact .lf rfl rfl ⟨_, rfl, by simp only [snap, snapW, snapWs, snapWss, snapWss_map, trim, List.map_cons, List.map_nil, fl_cI, fl_c8, fl_cB, fl_cS, fl_cL, fl_S_kinespherelaw06_Move, fl_S_Packet, fl_A2_int_i64, fl_S_Net, snapE]⟩

def G18 (a0 : S_Net) (a1 : Int) : Option (S_Packet × S_Net × Int) := F18 fuel0 a0 a1

def Orc18 (C : Nat → List A → Option A) : Prop := ∀ (a0 : S_Net) (a1 : Int), C 18 [(A.agg [(A.imm (List.map c_S_Packet a0.Queue) false), (A.imm (List.map c_A2_int_i64 a0.Apart) false)]), (A.v (Value.int .i64 a1))] = (G18 a0 a1).map fun y => (A.tup [(A.agg [(A.v (Value.int .i64 y.1.From)), (A.v (Value.int .i64 y.1.To)), (A.imm (List.map c8 y.1.Data) false)]), (A.agg [(A.imm (List.map c_S_Packet y.2.1.Queue) false), (A.imm (List.map c_A2_int_i64 y.2.1.Apart) false)]), (A.v (Value.int .i64 y.2.2))])

def F11 (n : Nat) (a0 : S_Net) (a1 : S_Packet) : Option (S_Net × Int) :=
  Option.bind (G13 a0) fun y1 => Option.bind (bif (y1 != 0) then (some true) else (Option.bind (G28 a1) fun y3 => some (!y3))) fun y4 => bif y4 then (some (((S_Net.mk ([]) ([])), 60))) else (bif (((a0.Queue.length : Int)) == 4096) then (some (((S_Net.mk ([]) ([])), 2))) else (Option.bind (subI a0.Queue 0 ((a0.Queue.length : Int))) fun y10 => Option.bind (appI 40 y10 ([a1])) fun y11 => some (((S_Net.mk y11 a0.Apart), 0))))

theorem T11 (C : Nat → List A → Option A) (n : Nat) (h13 : Orc13 C) (h28 : Orc28 C) (a0 : S_Net) (a1 : S_Packet) : J (fun (o : R) y => ∃ v, o.1 = .ret v ∧ snapE o.2 v = (A.tup [(A.agg [(A.imm (List.map c_S_Packet y.1.Queue) false), (A.imm (List.map c_A2_int_i64 y.1.Apart) false)]), (A.v (Value.int .i64 y.2))])) (evCall1 (cx C) (evCall (cx C) (n+8)) (evCallY (cx C) (n+8)) (n+8) 11 [(A.agg [(A.imm (List.map c_S_Packet a0.Queue) false), (A.imm (List.map c_A2_int_i64 a0.Apart) false)]), (A.agg [(A.v (Value.int .i64 a1.From)), (A.v (Value.int .i64 a1.To)), (A.imm (List.map c8 a1.Data) false)])] [] 0) some (F11 n a0 a1) some := by
  refine .lp (e11 ..) ?_
  unfold F11
  refine .st (v := ((A.ptr 0 0), [Blk.box [(A.imm (List.map c_S_Packet a0.Queue) false), (A.imm (List.map c_A2_int_i64 a0.Apart) false)]])) (by kernel_rfl) ?_
  refine .st (v := ((A.ptr 1 0), [Blk.box [(A.imm (List.map c_S_Packet a0.Queue) false), (A.imm (List.map c_A2_int_i64 a0.Apart) false)], Blk.box [(A.v (Value.int .i64 a1.From)), (A.v (Value.int .i64 a1.To)), (A.imm (List.map c8 a1.Data) false)]])) (by kernel_rfl) ?_
  refine .st (v := ((A.ptr 2 0), [Blk.box [(A.imm (List.map c_S_Packet a0.Queue) false), (A.imm (List.map c_A2_int_i64 a0.Apart) false)], Blk.box [(A.v (Value.int .i64 a1.From)), (A.v (Value.int .i64 a1.To)), (A.imm (List.map c8 a1.Data) false)], Blk.box [(A.imm [] true), (A.imm [] true)]])) (by kernel_rfl) ?_
  refine .st (v := (A.agg [(A.imm (List.map c_S_Packet a0.Queue) false), (A.imm (List.map c_A2_int_i64 a0.Apart) false)])) (by kernel_rfl) ?_
  refine .bd (g := fun (y : Int) => (A.v (Value.int .i64 y))) (by simp only [snap, snapW, snapWs, snapWss, snapWss_map, trim, List.map_cons, List.map_nil, fl_cI, fl_c8, fl_cB, fl_cS, fl_cL, fl_S_kinespherelaw06_Move, fl_S_Packet, fl_A2_int_i64, fl_S_Net]; exact h13 a0) fun y1 => ?_
  refine .st (v := (A.v (Value.bool (y1 != 0)))) (aBin_neq ..) ?_
  refine .bg (fun t (y : Bool) => ∃ j5 j6 j7 : A, t = [(A.v (Value.bool y)), j5, j6, j7]) ?_ ?_
  · refine .biH (fun hk2 => ?_) (fun hk2 => ?_)
    · exact .lg ⟨_, _, _, rfl⟩
    · refine .st (v := (A.agg [(A.v (Value.int .i64 a1.From)), (A.v (Value.int .i64 a1.To)), (A.imm (List.map c8 a1.Data) false)])) (by kernel_rfl) ?_
      refine .bd (g := fun (y : Bool) => (A.v (Value.bool y))) (by simp only [snap, snapW, snapWs, snapWss, snapWss_map, trim, List.map_cons, List.map_nil, fl_cI, fl_c8, fl_cB, fl_cS, fl_cL, fl_S_kinespherelaw06_Move, fl_S_Packet, fl_A2_int_i64, fl_S_Net]; exact h28 a1) fun y3 => ?_
      refine .st (v := (A.v (Value.bool (!y3)))) (by kernel_rfl) ?_
      exact .lg ⟨_, _, _, rfl⟩
  rintro _ y4 ⟨j5, j6, j7, rfl⟩
  iterate 4 refine .uc ?_
  refine .biH (fun hk8 => ?_) (fun hk8 => ?_)
  · refine .st (v := (A.agg [(A.imm [] true), (A.imm [] true)])) (by kernel_rfl) ?_
    refine .st (v := [Blk.box [(A.imm (List.map c_S_Packet a0.Queue) false), (A.imm (List.map c_A2_int_i64 a0.Apart) false)], Blk.box [(A.v (Value.int .i64 a1.From)), (A.v (Value.int .i64 a1.To)), (A.imm (List.map c8 a1.Data) false)], Blk.box [(A.imm [] true), (A.imm [] true)]]) (by kernel_rfl) ?_
    refine .st (v := (A.agg [(A.imm [] true), (A.imm [] true)])) (by kernel_rfl) ?_
    exact .lf rfl rfl ⟨_, rfl, by simp only [snap, snapW, snapWs, snapWss, snapWss_map, trim, List.map_cons, List.map_nil, fl_cI, fl_c8, fl_cB, fl_cS, fl_cL, fl_S_kinespherelaw06_Move, fl_S_Packet, fl_A2_int_i64, fl_S_Net, snapE]⟩
  · refine .st (v := (A.ptr 0 0)) (by kernel_rfl) ?_
    refine .st (v := (A.imm (List.map c_S_Packet a0.Queue) false)) (by kernel_rfl) ?_
    refine .st (v := (A.v (Value.int .i64 ((a0.Queue.length : Int))))) (len_imm (e := 28) (h1 := by kernel_rfl) ..) ?_
    refine .st (v := (A.v (Value.bool (((a0.Queue.length : Int)) == 4096)))) (aBin_eql ..) ?_
    refine .biH (fun hk9 => ?_) (fun hk9 => ?_)
    · refine .st (v := (A.agg [(A.imm [] true), (A.imm [] true)])) (by kernel_rfl) ?_
      refine .st (v := [Blk.box [(A.imm (List.map c_S_Packet a0.Queue) false), (A.imm (List.map c_A2_int_i64 a0.Apart) false)], Blk.box [(A.v (Value.int .i64 a1.From)), (A.v (Value.int .i64 a1.To)), (A.imm (List.map c8 a1.Data) false)], Blk.box [(A.imm [] true), (A.imm [] true)]]) (by kernel_rfl) ?_
      refine .st (v := (A.agg [(A.imm [] true), (A.imm [] true)])) (by kernel_rfl) ?_
      exact .lf rfl rfl ⟨_, rfl, by simp only [snap, snapW, snapWs, snapWss, snapWss_map, trim, List.map_cons, List.map_nil, fl_cI, fl_c8, fl_cB, fl_cS, fl_cL, fl_S_kinespherelaw06_Move, fl_S_Packet, fl_A2_int_i64, fl_S_Net, snapE]⟩
    · refine .st (v := (A.ptr 0 0)) (by kernel_rfl) ?_
      refine .st (v := (A.imm (List.map c_S_Packet a0.Queue) false)) (by kernel_rfl) ?_
      refine .st (v := (A.ptr 0 0)) (by kernel_rfl) ?_
      refine .st (v := (A.imm (List.map c_S_Packet a0.Queue) false)) (by kernel_rfl) ?_
      refine .st (v := (A.v (Value.int .i64 ((a0.Queue.length : Int))))) (len_imm (e := 28) (h1 := by kernel_rfl) ..) ?_
      refine .st (v := (A.ptr 0 0)) (by kernel_rfl) ?_
      refine .st (v := (A.imm (List.map c_S_Packet a0.Queue) false)) (by kernel_rfl) ?_
      refine .st (v := (A.v (Value.int .i64 ((a0.Queue.length : Int))))) (len_imm (e := 28) (h1 := by kernel_rfl) ..) ?_
      refine .bd (g := fun (y : List S_Packet) => (A.imm (List.map c_S_Packet y) true)) (cut_imm3 (e := 28) (es := 3) (f := c_S_Packet) (l := a0.Queue) (a := 0) (b := (a0.Queue.length : Int)) (by kernel_rfl) (by kernel_rfl) (fun _ => rfl) (.inl ⟨rfl, rfl⟩)) fun y10 => ?_
      refine .st (v := (A.agg [(A.v (Value.int .i64 a1.From)), (A.v (Value.int .i64 a1.To)), (A.imm (List.map c8 a1.Data) false)])) (by kernel_rfl) ?_
      refine .st (v := (A.imm [[(A.v (Value.int .i64 a1.From)), (A.v (Value.int .i64 a1.To)), (A.imm (List.map c8 a1.Data) false)]] true)) (by kernel_rfl) ?_
      refine .bd (g := fun (y : List S_Packet) => ((A.sl 3 0 y.length false), [Blk.box [(A.imm (List.map c_S_Packet a0.Queue) false), (A.imm (List.map c_A2_int_i64 a0.Apart) false)], Blk.box [(A.v (Value.int .i64 a1.From)), (A.v (Value.int .i64 a1.To)), (A.imm (List.map c8 a1.Data) false)], Blk.box [(A.imm [] true), (A.imm [] true)], Blk.row false 3 (List.map c_S_Packet y)])) (app_imm (e := 28) (es := 3) (by_ := 40) (z := [(A.v (Value.int .i64 0)), (A.v (Value.int .i64 0)), (A.imm [] true)]) (by kernel_rfl) (by kernel_rfl) (by kernel_rfl) (by kernel_rfl) rfl (by decide) (by decide) (by kernel_rfl) (f := c_S_Packet) (fun _ => rfl) ce_S_Packet (l := y10) (l2 := [a1]) (els_imm (f := c_S_Packet) ([a1] : List S_Packet) _ _)) fun y11 => ?_
      refine .st (v := (A.ptr 0 0)) (by kernel_rfl) ?_
      refine .st (v := [Blk.box [(A.sl 3 0 y11.length false), (A.imm (List.map c_A2_int_i64 a0.Apart) false)], Blk.box [(A.v (Value.int .i64 a1.From)), (A.v (Value.int .i64 a1.To)), (A.imm (List.map c8 a1.Data) false)], Blk.box [(A.imm [] true), (A.imm [] true)], Blk.row false 3 (List.map c_S_Packet y11)]) (by kernel_rfl) ?_
      refine .st (v := (A.agg [(A.sl 3 0 y11.length false), (A.imm (List.map c_A2_int_i64 a0.Apart) false)])) (by kernel_rfl) ?_
      refine .st (v := [Blk.box [(A.sl 3 0 y11.length false), (A.imm (List.map c_A2_int_i64 a0.Apart) false)], Blk.box [(A.v (Value.int .i64 a1.From)), (A.v (Value.int .i64 a1.To)), (A.imm (List.map c8 a1.Data) false)], Blk.box [(A.sl 3 0 y11.length false), (A.imm (List.map c_A2_int_i64 a0.Apart) false)], Blk.row false 3 (List.map c_S_Packet y11)]) (by kernel_rfl) ?_
      refine .st (v := (A.agg [(A.sl 3 0 y11.length false), (A.imm (List.map c_A2_int_i64 a0.Apart) false)])) (by kernel_rfl) ?_
      exact .lf rfl rfl ⟨_, rfl, by simp only [snap, snapW, snapWs, snapWss, snapWss_map, trim, List.map_cons, List.map_nil, fl_cI, fl_c8, fl_cB, fl_cS, fl_cL, fl_S_kinespherelaw06_Move, fl_S_Packet, fl_A2_int_i64, fl_S_Net, snapE, snapGE_row (H := [Blk.box [(A.sl 3 0 y11.length false), (A.imm (List.map c_A2_int_i64 a0.Apart) false)], Blk.box [(A.v (Value.int .i64 a1.From)), (A.v (Value.int .i64 a1.To)), (A.imm (List.map c8 a1.Data) false)], Blk.box [(A.sl 3 0 y11.length false), (A.imm (List.map c_A2_int_i64 a0.Apart) false)], Blk.row false 3 (List.map c_S_Packet y11)]) (b := 3) (es := 3) (wr := false) (l := y11) fl_S_Packet rfl]⟩

def G11 (a0 : S_Net) (a1 : S_Packet) : Option (S_Net × Int) := F11 fuel0 a0 a1

def Orc11 (C : Nat → List A → Option A) : Prop := ∀ (a0 : S_Net) (a1 : S_Packet), C 11 [(A.agg [(A.imm (List.map c_S_Packet a0.Queue) false), (A.imm (List.map c_A2_int_i64 a0.Apart) false)]), (A.agg [(A.v (Value.int .i64 a1.From)), (A.v (Value.int .i64 a1.To)), (A.imm (List.map c8 a1.Data) false)])] = (G11 a0 a1).map fun y => (A.tup [(A.agg [(A.imm (List.map c_S_Packet y.1.Queue) false), (A.imm (List.map c_A2_int_i64 y.1.Apart) false)]), (A.v (Value.int .i64 y.2))])

def F20_46_1 (n : Nat) (v18 : Int) (v20 : Int) (v21 : (List S_Packet)) (v22 : (List (Int × Int))) (v23 : (List S_Packet)) (v24 : Int) (v25 : Int) (v26 : (List (Int × Int))) (v27 : Int) (v28 : Int) (v29 : Bool) : Nat → Int → (List (Int × Int)) → Option ((List (Int × Int)))
  | 0, _, _ => none
  | m + 1, v19, v30 => bif (decide (v19 < 24)) then (Option.bind (bif (((v18 == v27) && (v19 == v28))) then (some (!v29)) else (some false)) fun y33 => Option.bind (bif y33 then (some true) else (Option.bind (bif (!((v18 == v27) && (v19 == v28))) then (Option.bind (G36 v26 ((v18, v19))) fun y38 => some (!y38)) else (some false)) fun y39 => some y39)) fun y44 => bif y44 then (F20_46_1 n v18 v20 v21 v22 v23 v24 v25 v26 v27 v28 v29 m (wr .i64 (v19 + 1)) v30) else (Option.bind (appI 16 v30 ([(v18, v19)])) fun y55 => F20_46_1 n v18 v20 v21 v22 v23 v24 v25 v26 v27 v28 v29 m (wr .i64 (v19 + 1)) y55)) else (some v30)

theorem T20_46_1 (C : Nat → List A → Option A) (n : Nat) (h13 : Orc13 C) (h32 : Orc32 C) (h36 : Orc36 C) (h37 : Orc37 C) (v18 : Int) (v20 : Int) (v21 : (List S_Packet)) (v22 : (List (Int × Int))) (v23 : (List S_Packet)) (v24 : Int) (v25 : Int) (v26 : (List (Int × Int))) (v27 : Int) (v28 : Int) (v29 : Bool) {ρ γ : Type} {φ : ρ → γ → Prop} {kL : R → Option ρ} {K : ((List (Int × Int))) → Option γ} (kx kg : Nat → St → Option R) (kr : St → Option R) (kp : A → St → Option R) (x0 : ∀ (o0 : (List (Int × Int))) (s5 : A) (s6 : A), J φ (kx 2 (St.mk [(0, (A.yld 7)), (1, (A.ptr 4 0)), (2, (A.ptr 5 0)), (3, (A.ptr 3 0)), (5, s5), (6, s6), (8, (A.v (Value.int .i64 v20)))] [Blk.box [(A.imm (List.map c_S_Packet v21) false), (A.imm (List.map c_A2_int_i64 v22) false)], Blk.box [(A.imm (List.map c_S_Packet v23) false), (A.sl 6 0 o0.length false)], Blk.box [(A.v (Value.int .i64 v24)), (A.v (Value.int .i64 v25))], Blk.box [(A.imm (List.map c_A2_int_i64 v26) false)], Blk.box [(A.v (Value.int .i64 v27)), (A.v (Value.int .i64 v28))], Blk.box [(A.v (Value.bool v29))], Blk.row false 2 (List.map c_A2_int_i64 o0), Blk.rng RSt.ready])) kL (K o0) some) :
    ∀ (m : Nat) (v19 : Int) (v30 : (List (Int × Int))), J φ (loopR (cx C) (evCallY (cx C) (n+7) (yext 64 (evCall (cx C) (n+8)) 7 (roundR (cx C) (evCall (cx C) (n+8)) (evCallY (cx C) (n+8)) (n+8) 20 0 0 7 [(8, (A.ptr 1 0))]))) (evCallY (cx C) (n+7)) (n+7) 46 0 1 8 kx kg kr kp m (St.mk [(0, (A.yld 7)), (1, (A.ptr 4 0)), (2, (A.ptr 5 0)), (3, (A.ptr 3 0)), (5, (A.v (Value.int .i64 v18))), (6, (A.v (Value.int .i64 v19))), (8, (A.v (Value.int .i64 v20)))] [Blk.box [(A.imm (List.map c_S_Packet v21) false), (A.imm (List.map c_A2_int_i64 v22) false)], Blk.box [(A.imm (List.map c_S_Packet v23) false), (A.sl 6 0 v30.length false)], Blk.box [(A.v (Value.int .i64 v24)), (A.v (Value.int .i64 v25))], Blk.box [(A.imm (List.map c_A2_int_i64 v26) false)], Blk.box [(A.v (Value.int .i64 v27)), (A.v (Value.int .i64 v28))], Blk.box [(A.v (Value.bool v29))], Blk.row false 2 (List.map c_A2_int_i64 v30), Blk.rng RSt.ready])) kL (F20_46_1 n v18 v20 v21 v22 v23 v24 v25 v26 v27 v28 v29 m v19 v30) K := by
  intro m
  induction m with
  | zero => intros; exact .nn
  | succ m ih =>
    intro v19 v30
    refine .lp (e46_1 ..) ?_
    unfold F20_46_1
    refine .st (v := (A.v (Value.bool (decide (v19 < 24))))) (aBin_lss ..) ?_
    refine .biH (fun hk31 => ?_) (fun hk31 => ?_)
    · refine .st (v := (A.agg [(A.v (Value.int .i64 v18)), (A.v (Value.int .i64 v19))])) (by kernel_rfl) ?_
      refine .st (v := ((A.ptr 8 0), [Blk.box [(A.imm (List.map c_S_Packet v21) false), (A.imm (List.map c_A2_int_i64 v22) false)], Blk.box [(A.imm (List.map c_S_Packet v23) false), (A.sl 6 0 v30.length false)], Blk.box [(A.v (Value.int .i64 v24)), (A.v (Value.int .i64 v25))], Blk.box [(A.imm (List.map c_A2_int_i64 v26) false)], Blk.box [(A.v (Value.int .i64 v27)), (A.v (Value.int .i64 v28))], Blk.box [(A.v (Value.bool v29))], Blk.row false 2 (List.map c_A2_int_i64 v30), Blk.rng RSt.ready, Blk.box [(A.v (Value.int .i64 0)), (A.v (Value.int .i64 0))]])) (by kernel_rfl) ?_
      refine .st (v := [Blk.box [(A.imm (List.map c_S_Packet v21) false), (A.imm (List.map c_A2_int_i64 v22) false)], Blk.box [(A.imm (List.map c_S_Packet v23) false), (A.sl 6 0 v30.length false)], Blk.box [(A.v (Value.int .i64 v24)), (A.v (Value.int .i64 v25))], Blk.box [(A.imm (List.map c_A2_int_i64 v26) false)], Blk.box [(A.v (Value.int .i64 v27)), (A.v (Value.int .i64 v28))], Blk.box [(A.v (Value.bool v29))], Blk.row false 2 (List.map c_A2_int_i64 v30), Blk.rng RSt.ready, Blk.box [(A.v (Value.int .i64 v18)), (A.v (Value.int .i64 v19))]]) (by kernel_rfl) ?_
      refine .st (v := (A.agg [(A.v (Value.int .i64 v18)), (A.v (Value.int .i64 v19))])) (by kernel_rfl) ?_
      refine .st (v := (A.agg [(A.v (Value.int .i64 v27)), (A.v (Value.int .i64 v28))])) (by kernel_rfl) ?_
      refine .st (v := (A.v (Value.bool (((v18 == v27) && (v19 == v28)))))) (by kernel_rfl) ?_
      refine .bg (fun t (y : Bool) => ∃ j34 j35 : A, t = [(A.v (Value.bool y)), j34, j35]) ?_ ?_
      · refine .biH (fun hk32 => ?_) (fun hk32 => ?_)
        · refine .st (v := (A.v (Value.bool v29))) (by kernel_rfl) ?_
          refine .st (v := (A.v (Value.bool (!v29)))) (by kernel_rfl) ?_
          exact .lg ⟨_, _, rfl⟩
        · exact .lg ⟨_, _, rfl⟩
      rintro _ y33 ⟨j34, j35, rfl⟩
      iterate 3 refine .uc ?_
      refine .bg (fun t (y : Bool) => ∃ j45 j46 j47 j48 j49 j50 j51 j52 j53 : A, t = [(A.v (Value.bool y)), j45, j46, j47, j48, j49, j50, j51, j52, j53]) ?_ ?_
      · refine .biH (fun hk36 => ?_) (fun hk36 => ?_)
        · exact .lg ⟨_, _, _, _, _, _, _, _, _, rfl⟩
        · refine .st (v := (A.agg [(A.v (Value.int .i64 v18)), (A.v (Value.int .i64 v19))])) (by kernel_rfl) ?_
          refine .st (v := (A.agg [(A.v (Value.int .i64 v27)), (A.v (Value.int .i64 v28))])) (by kernel_rfl) ?_
          refine .st (v := (A.v (Value.bool (!((v18 == v27) && (v19 == v28)))))) (by kernel_rfl) ?_
          refine .bg (fun t (y : Bool) => ∃ j40 j41 j42 j43 : A, t = [(A.v (Value.bool y)), j40, j41, j42, j43]) ?_ ?_
          · refine .biH (fun hk37 => ?_) (fun hk37 => ?_)
            · refine .st (v := (A.imm (List.map c_A2_int_i64 v26) false)) (by kernel_rfl) ?_
              refine .st (v := (A.agg [(A.v (Value.int .i64 v18)), (A.v (Value.int .i64 v19))])) (by kernel_rfl) ?_
              refine .bd (g := fun (y : Bool) => (A.v (Value.bool y))) (by simp only [snap, snapW, snapWs, snapWss, snapWss_map, trim, List.map_cons, List.map_nil, fl_cI, fl_c8, fl_cB, fl_cS, fl_cL, fl_S_kinespherelaw06_Move, fl_S_Packet, fl_A2_int_i64, fl_S_Net, snapG_row (H := [Blk.box [(A.imm (List.map c_S_Packet v21) false), (A.imm (List.map c_A2_int_i64 v22) false)], Blk.box [(A.imm (List.map c_S_Packet v23) false), (A.sl 6 0 v30.length false)], Blk.box [(A.v (Value.int .i64 v24)), (A.v (Value.int .i64 v25))], Blk.box [(A.imm (List.map c_A2_int_i64 v26) false)], Blk.box [(A.v (Value.int .i64 v27)), (A.v (Value.int .i64 v28))], Blk.box [(A.v (Value.bool v29))], Blk.row false 2 (List.map c_A2_int_i64 v30), Blk.rng RSt.ready, Blk.box [(A.v (Value.int .i64 v18)), (A.v (Value.int .i64 v19))]]) (b := 6) (es := 2) (l := v30) fl_A2_int_i64 rfl]; exact h36 v26 ((v18, v19))) fun y38 => ?_
              refine .st (v := (A.v (Value.bool (!y38)))) (by kernel_rfl) ?_
              exact .lg ⟨_, _, _, _, rfl⟩
            · exact .lg ⟨_, _, _, _, rfl⟩
          rintro _ y39 ⟨j40, j41, j42, j43, rfl⟩
          iterate 5 refine .uc ?_
          exact .lg ⟨_, _, _, _, _, _, _, _, _, rfl⟩
      rintro _ y44 ⟨j45, j46, j47, j48, j49, j50, j51, j52, j53, rfl⟩
      iterate 10 refine .uc ?_
      refine .biH (fun hk54 => ?_) (fun hk54 => ?_)
      · refine .st (v := (A.v (Value.int .i64 (wr .i64 (v19 + 1))))) (aBin_add ..) ?_
        refine .st (v := [Blk.box [(A.imm (List.map c_S_Packet v21) false), (A.imm (List.map c_A2_int_i64 v22) false)], Blk.box [(A.imm (List.map c_S_Packet v23) false), (A.sl 6 0 v30.length false)], Blk.box [(A.v (Value.int .i64 v24)), (A.v (Value.int .i64 v25))], Blk.box [(A.imm (List.map c_A2_int_i64 v26) false)], Blk.box [(A.v (Value.int .i64 v27)), (A.v (Value.int .i64 v28))], Blk.box [(A.v (Value.bool v29))], Blk.row false 2 (List.map c_A2_int_i64 v30), Blk.rng RSt.ready]) ((by kernel_rfl : _ = (bif ((((underss 8 (List.map c_S_Packet v21)) && ((underss 8 (List.map c_A2_int_i64 v22)) && true))) && ((((underss 8 (List.map c_S_Packet v23)) && true)) && ((((underss 8 (List.map c_A2_int_i64 v26)) && true)) && ((underss 8 (List.map c_A2_int_i64 v30)) && true)))) then some [Blk.box [(A.imm (List.map c_S_Packet v21) false), (A.imm (List.map c_A2_int_i64 v22) false)], Blk.box [(A.imm (List.map c_S_Packet v23) false), (A.sl 6 0 v30.length false)], Blk.box [(A.v (Value.int .i64 v24)), (A.v (Value.int .i64 v25))], Blk.box [(A.imm (List.map c_A2_int_i64 v26) false)], Blk.box [(A.v (Value.int .i64 v27)), (A.v (Value.int .i64 v28))], Blk.box [(A.v (Value.bool v29))], Blk.row false 2 (List.map c_A2_int_i64 v30), Blk.rng RSt.ready] else none)).trans (by simp only [underss_map, fu_cI, fu_c8, fu_cB, fu_cS, fu_cL, fu_S_kinespherelaw06_Move, fu_S_Packet, fu_A2_int_i64, fu_S_Net,  Bool.and_true, Bool.true_and, cond_true])) ?_
        refine .cT (by kernel_rfl) ?_
        exact ih _ _
      · refine .st (v := (A.agg [(A.v (Value.int .i64 v18)), (A.v (Value.int .i64 v19))])) (by kernel_rfl) ?_
        refine .dY rfl ?_
        refine .cl (yq.trans (yext_at.trans (e20_r0 C (evCall (cx C) (n+8)) (evCallY (cx C) (n+8)) (n+8) _ _ _ _ _ _))) ?_
        refine .cT (by kernel_rfl) ?_
        refine .lp (rdy_at rfl) ?_
        refine .st (v := ((A.ptr 9 0), [Blk.box [(A.imm (List.map c_S_Packet v21) false), (A.imm (List.map c_A2_int_i64 v22) false)], Blk.box [(A.imm (List.map c_S_Packet v23) false), (A.sl 6 0 v30.length false)], Blk.box [(A.v (Value.int .i64 v24)), (A.v (Value.int .i64 v25))], Blk.box [(A.imm (List.map c_A2_int_i64 v26) false)], Blk.box [(A.v (Value.int .i64 v27)), (A.v (Value.int .i64 v28))], Blk.box [(A.v (Value.bool v29))], Blk.row false 2 (List.map c_A2_int_i64 v30), Blk.rng RSt.ready, Blk.box [(A.v (Value.int .i64 v18)), (A.v (Value.int .i64 v19))], Blk.box [(A.v (Value.int .i64 0)), (A.v (Value.int .i64 0))]])) (by kernel_rfl) ?_
        refine .st (v := [Blk.box [(A.imm (List.map c_S_Packet v21) false), (A.imm (List.map c_A2_int_i64 v22) false)], Blk.box [(A.imm (List.map c_S_Packet v23) false), (A.sl 6 0 v30.length false)], Blk.box [(A.v (Value.int .i64 v24)), (A.v (Value.int .i64 v25))], Blk.box [(A.imm (List.map c_A2_int_i64 v26) false)], Blk.box [(A.v (Value.int .i64 v27)), (A.v (Value.int .i64 v28))], Blk.box [(A.v (Value.bool v29))], Blk.row false 2 (List.map c_A2_int_i64 v30), Blk.rng RSt.ready, Blk.box [(A.v (Value.int .i64 v18)), (A.v (Value.int .i64 v19))], Blk.box [(A.v (Value.int .i64 v18)), (A.v (Value.int .i64 v19))]]) (by kernel_rfl) ?_
        refine .lp (rdy_at rfl) ?_
        refine .st (v := (A.ptr 1 1)) (by kernel_rfl) ?_
        refine .st (v := (A.sl 6 0 v30.length false)) (by kernel_rfl) ?_
        refine .st (v := (A.agg [(A.v (Value.int .i64 v18)), (A.v (Value.int .i64 v19))])) (by kernel_rfl) ?_
        refine .st (v := (A.imm [[(A.v (Value.int .i64 v18)), (A.v (Value.int .i64 v19))]] true)) (by kernel_rfl) ?_
        refine .bd (g := fun (y : List (Int × Int)) => ((A.sl 6 0 y.length false), [Blk.box [(A.imm (List.map c_S_Packet v21) false), (A.imm (List.map c_A2_int_i64 v22) false)], Blk.box [(A.imm (List.map c_S_Packet v23) false), (A.sl 6 0 v30.length false)], Blk.box [(A.v (Value.int .i64 v24)), (A.v (Value.int .i64 v25))], Blk.box [(A.imm (List.map c_A2_int_i64 v26) false)], Blk.box [(A.v (Value.int .i64 v27)), (A.v (Value.int .i64 v28))], Blk.box [(A.v (Value.bool v29))], Blk.row false 2 (List.map c_A2_int_i64 y), Blk.rng RSt.busy, Blk.box [(A.v (Value.int .i64 v18)), (A.v (Value.int .i64 v19))], Blk.box [(A.v (Value.int .i64 v18)), (A.v (Value.int .i64 v19))]])) (app_row (e := 55) (es := 2) (by_ := 16) (z := [(A.v (Value.int .i64 0)), (A.v (Value.int .i64 0))]) (by kernel_rfl) (by kernel_rfl) (by kernel_rfl) (by kernel_rfl) rfl (by decide) (by decide) (by kernel_rfl) (f := c_A2_int_i64) (fun _ => rfl) ce_A2_int_i64 (l := v30) (l2 := [(v18, v19)]) (b := 6) rfl (by decide) (els_imm (f := c_A2_int_i64) ([(v18, v19)] : List (Int × Int)) _ _)) fun y55 => ?_
        refine .st (v := (A.ptr 1 1)) (by kernel_rfl) ?_
        refine .st (v := [Blk.box [(A.imm (List.map c_S_Packet v21) false), (A.imm (List.map c_A2_int_i64 v22) false)], Blk.box [(A.imm (List.map c_S_Packet v23) false), (A.sl 6 0 y55.length false)], Blk.box [(A.v (Value.int .i64 v24)), (A.v (Value.int .i64 v25))], Blk.box [(A.imm (List.map c_A2_int_i64 v26) false)], Blk.box [(A.v (Value.int .i64 v27)), (A.v (Value.int .i64 v28))], Blk.box [(A.v (Value.bool v29))], Blk.row false 2 (List.map c_A2_int_i64 y55), Blk.rng RSt.busy, Blk.box [(A.v (Value.int .i64 v18)), (A.v (Value.int .i64 v19))], Blk.box [(A.v (Value.int .i64 v18)), (A.v (Value.int .i64 v19))]]) (by kernel_rfl) ?_
        refine .lp (bsy_at rfl) ?_
        refine .cr ?_
        refine .ok ?_
        refine .st (v := (A.v (Value.bool false))) (by kernel_rfl) ?_
        refine .bF ?_
        refine .st (v := (A.v (Value.int .i64 (wr .i64 (v19 + 1))))) (aBin_add ..) ?_
        refine .st (v := [Blk.box [(A.imm (List.map c_S_Packet v21) false), (A.imm (List.map c_A2_int_i64 v22) false)], Blk.box [(A.imm (List.map c_S_Packet v23) false), (A.sl 6 0 y55.length false)], Blk.box [(A.v (Value.int .i64 v24)), (A.v (Value.int .i64 v25))], Blk.box [(A.imm (List.map c_A2_int_i64 v26) false)], Blk.box [(A.v (Value.int .i64 v27)), (A.v (Value.int .i64 v28))], Blk.box [(A.v (Value.bool v29))], Blk.row false 2 (List.map c_A2_int_i64 y55), Blk.rng RSt.ready]) ((by kernel_rfl : _ = (bif ((((underss 8 (List.map c_S_Packet v21)) && ((underss 8 (List.map c_A2_int_i64 v22)) && true))) && ((((underss 8 (List.map c_S_Packet v23)) && true)) && ((((underss 8 (List.map c_A2_int_i64 v26)) && true)) && ((underss 8 (List.map c_A2_int_i64 y55)) && true)))) then some [Blk.box [(A.imm (List.map c_S_Packet v21) false), (A.imm (List.map c_A2_int_i64 v22) false)], Blk.box [(A.imm (List.map c_S_Packet v23) false), (A.sl 6 0 y55.length false)], Blk.box [(A.v (Value.int .i64 v24)), (A.v (Value.int .i64 v25))], Blk.box [(A.imm (List.map c_A2_int_i64 v26) false)], Blk.box [(A.v (Value.int .i64 v27)), (A.v (Value.int .i64 v28))], Blk.box [(A.v (Value.bool v29))], Blk.row false 2 (List.map c_A2_int_i64 y55), Blk.rng RSt.ready] else none)).trans (by simp only [underss_map, fu_cI, fu_c8, fu_cB, fu_cS, fu_cL, fu_S_kinespherelaw06_Move, fu_S_Packet, fu_A2_int_i64, fu_S_Net,  Bool.and_true, Bool.true_and, cond_true])) ?_
        refine .cT (by kernel_rfl) ?_
        exact ih _ _
    · exact .ex (x0 _ _ _)

def F20_46_0 (n : Nat) (v7 : (List S_Packet)) (v8 : (List (Int × Int))) (v9 : (List S_Packet)) (v10 : Int) (v11 : Int) (v12 : (List (Int × Int))) (v13 : Int) (v14 : Int) (v15 : Bool) : Nat → Int → (List (Int × Int)) → Option ((List (Int × Int)))
  | 0, _, _ => none
  | m + 1, v6, v16 => bif (decide (v6 < 24)) then (Option.bind (F20_46_1 n v6 v6 v7 v8 v9 v10 v11 v12 v13 v14 v15 (n+7) (wr .i64 (v6 + 1)) v16) fun o56 => match o56 with | y57 => F20_46_0 n v7 v8 v9 v10 v11 v12 v13 v14 v15 m (wr .i64 (v6 + 1)) y57) else (some v16)

theorem T20_46_0 (C : Nat → List A → Option A) (n : Nat) (h13 : Orc13 C) (h32 : Orc32 C) (h36 : Orc36 C) (h37 : Orc37 C) (v7 : (List S_Packet)) (v8 : (List (Int × Int))) (v9 : (List S_Packet)) (v10 : Int) (v11 : Int) (v12 : (List (Int × Int))) (v13 : Int) (v14 : Int) (v15 : Bool) {ρ γ : Type} {φ : ρ → γ → Prop} {kL : R → Option ρ} {K : ((List (Int × Int))) → Option γ} (kx kg : Nat → St → Option R) (kr : St → Option R) (kp : A → St → Option R) (x0 : ∀ (o0 : (List (Int × Int))) (s0 : A) (s1 : A) (s2 : A) (s3 : A) (s8 : A), J φ (kx 0 (St.mk [(0, s0), (1, s1), (2, s2), (3, s3), (8, s8)] [Blk.box [(A.imm (List.map c_S_Packet v7) false), (A.imm (List.map c_A2_int_i64 v8) false)], Blk.box [(A.imm (List.map c_S_Packet v9) false), (A.sl 6 0 o0.length false)], Blk.box [(A.v (Value.int .i64 v10)), (A.v (Value.int .i64 v11))], Blk.box [(A.imm (List.map c_A2_int_i64 v12) false)], Blk.box [(A.v (Value.int .i64 v13)), (A.v (Value.int .i64 v14))], Blk.box [(A.v (Value.bool v15))], Blk.row false 2 (List.map c_A2_int_i64 o0), Blk.rng RSt.ready])) kL (K o0) some) :
    ∀ (m : Nat) (v6 : Int) (v16 : (List (Int × Int))), J φ (loopR (cx C) (evCallY (cx C) (n+7) (yext 64 (evCall (cx C) (n+8)) 7 (roundR (cx C) (evCall (cx C) (n+8)) (evCallY (cx C) (n+8)) (n+8) 20 0 0 7 [(8, (A.ptr 1 0))]))) (evCallY (cx C) (n+7)) (n+7) 46 0 0 8 kx kg kr kp m (St.mk [(0, (A.yld 7)), (1, (A.ptr 4 0)), (2, (A.ptr 5 0)), (3, (A.ptr 3 0)), (8, (A.v (Value.int .i64 v6)))] [Blk.box [(A.imm (List.map c_S_Packet v7) false), (A.imm (List.map c_A2_int_i64 v8) false)], Blk.box [(A.imm (List.map c_S_Packet v9) false), (A.sl 6 0 v16.length false)], Blk.box [(A.v (Value.int .i64 v10)), (A.v (Value.int .i64 v11))], Blk.box [(A.imm (List.map c_A2_int_i64 v12) false)], Blk.box [(A.v (Value.int .i64 v13)), (A.v (Value.int .i64 v14))], Blk.box [(A.v (Value.bool v15))], Blk.row false 2 (List.map c_A2_int_i64 v16), Blk.rng RSt.ready])) kL (F20_46_0 n v7 v8 v9 v10 v11 v12 v13 v14 v15 m v6 v16) K := by
  intro m
  induction m with
  | zero => intros; exact .nn
  | succ m ih =>
    intro v6 v16
    refine .lp (e46_0 ..) ?_
    unfold F20_46_0
    refine .st (v := (A.v (Value.bool (decide (v6 < 24))))) (aBin_lss ..) ?_
    refine .biH (fun hk17 => ?_) (fun hk17 => ?_)
    · refine .st (v := (A.v (Value.int .i64 (wr .i64 (v6 + 1))))) (aBin_add ..) ?_
      refine .as (T20_46_1 C n h13 h32 h36 h37 v6 v6 v7 v8 v9 v10 v11 v12 v13 v14 v15 _ _ _ _ ?_ _ (wr .i64 (v6 + 1)) v16)
      · intro y57 j58 j59
        refine .un rfl ?_
        refine .cT (by kernel_rfl) ?_
        refine .st (v := (A.v (Value.int .i64 (wr .i64 (v6 + 1))))) (aBin_add ..) ?_
        refine .st (v := [Blk.box [(A.imm (List.map c_S_Packet v7) false), (A.imm (List.map c_A2_int_i64 v8) false)], Blk.box [(A.imm (List.map c_S_Packet v9) false), (A.sl 6 0 y57.length false)], Blk.box [(A.v (Value.int .i64 v10)), (A.v (Value.int .i64 v11))], Blk.box [(A.imm (List.map c_A2_int_i64 v12) false)], Blk.box [(A.v (Value.int .i64 v13)), (A.v (Value.int .i64 v14))], Blk.box [(A.v (Value.bool v15))], Blk.row false 2 (List.map c_A2_int_i64 y57), Blk.rng RSt.ready]) (by kernel_rfl) ?_
        refine .cT (by kernel_rfl) ?_
        exact ih _ _
    · exact .ex (x0 _ _ _ _ _ _)

def F20 (n : Nat) (a0 : S_Net) (a1 : Int) (a2 : Int) (a3 : Bool) : Option (S_Net × Int) :=
  Option.bind (G13 a0) fun y1 => bif (y1 != 0) then (some (((S_Net.mk ([]) ([])), 60))) else (Option.bind (G37 a1 a2) fun y3 => Option.bind (G32 ((y3.1, y3.2))) fun y4 => bif (!y4) then (some (((S_Net.mk ([]) ([])), 1))) else (Option.bind (F20_46_0 n a0.Queue a0.Apart a0.Queue y3.1 y3.2 a0.Apart y3.1 y3.2 a3 (n+7) 0 (([] : List (Int × Int)))) fun o60 => match o60 with | y61 => some (((S_Net.mk a0.Queue y61), 0))))

theorem T20 (C : Nat → List A → Option A) (n : Nat) (h13 : Orc13 C) (h32 : Orc32 C) (h36 : Orc36 C) (h37 : Orc37 C) (a0 : S_Net) (a1 : Int) (a2 : Int) (a3 : Bool) : J (fun (o : R) y => ∃ v, o.1 = .ret v ∧ snapE o.2 v = (A.tup [(A.agg [(A.imm (List.map c_S_Packet y.1.Queue) false), (A.imm (List.map c_A2_int_i64 y.1.Apart) false)]), (A.v (Value.int .i64 y.2))])) (evCall1 (cx C) (evCall (cx C) (n+8)) (evCallY (cx C) (n+8)) (n+8) 20 [(A.agg [(A.imm (List.map c_S_Packet a0.Queue) false), (A.imm (List.map c_A2_int_i64 a0.Apart) false)]), (A.v (Value.int .i64 a1)), (A.v (Value.int .i64 a2)), (A.v (Value.bool a3))] [] 0) some (F20 n a0 a1 a2 a3) some := by
  refine .lp (e20 ..) ?_
  unfold F20
  refine .st (v := ((A.ptr 0 0), [Blk.box [(A.imm (List.map c_S_Packet a0.Queue) false), (A.imm (List.map c_A2_int_i64 a0.Apart) false)]])) (by kernel_rfl) ?_
  refine .st (v := ((A.ptr 1 0), [Blk.box [(A.imm (List.map c_S_Packet a0.Queue) false), (A.imm (List.map c_A2_int_i64 a0.Apart) false)], Blk.box [(A.imm [] true), (A.imm [] true)]])) (by kernel_rfl) ?_
  refine .st (v := (A.agg [(A.imm (List.map c_S_Packet a0.Queue) false), (A.imm (List.map c_A2_int_i64 a0.Apart) false)])) (by kernel_rfl) ?_
  refine .bd (g := fun (y : Int) => (A.v (Value.int .i64 y))) (by simp only [snap, snapW, snapWs, snapWss, snapWss_map, trim, List.map_cons, List.map_nil, fl_cI, fl_c8, fl_cB, fl_cS, fl_cL, fl_S_kinespherelaw06_Move, fl_S_Packet, fl_A2_int_i64, fl_S_Net]; exact h13 a0) fun y1 => ?_
  refine .st (v := (A.v (Value.bool (y1 != 0)))) (aBin_neq ..) ?_
  refine .biH (fun hk2 => ?_) (fun hk2 => ?_)
  · refine .st (v := (A.agg [(A.imm [] true), (A.imm [] true)])) (by kernel_rfl) ?_
    refine .st (v := [Blk.box [(A.imm (List.map c_S_Packet a0.Queue) false), (A.imm (List.map c_A2_int_i64 a0.Apart) false)], Blk.box [(A.imm [] true), (A.imm [] true)]]) (by kernel_rfl) ?_
    refine .st (v := (A.agg [(A.imm [] true), (A.imm [] true)])) (by kernel_rfl) ?_
    exact .lf rfl rfl ⟨_, rfl, by simp only [snap, snapW, snapWs, snapWss, snapWss_map, trim, List.map_cons, List.map_nil, fl_cI, fl_c8, fl_cB, fl_cS, fl_cL, fl_S_kinespherelaw06_Move, fl_S_Packet, fl_A2_int_i64, fl_S_Net, snapE]⟩
  · refine .bd (g := fun (y : (Int × Int)) => (A.agg [(A.v (Value.int .i64 y.1)), (A.v (Value.int .i64 y.2))])) (h37 a1 a2) fun y3 => ?_
    refine .st (v := ((A.ptr 2 0), [Blk.box [(A.imm (List.map c_S_Packet a0.Queue) false), (A.imm (List.map c_A2_int_i64 a0.Apart) false)], Blk.box [(A.imm [] true), (A.imm [] true)], Blk.box [(A.v (Value.int .i64 0)), (A.v (Value.int .i64 0))]])) (by kernel_rfl) ?_
    refine .st (v := [Blk.box [(A.imm (List.map c_S_Packet a0.Queue) false), (A.imm (List.map c_A2_int_i64 a0.Apart) false)], Blk.box [(A.imm [] true), (A.imm [] true)], Blk.box [(A.v (Value.int .i64 y3.1)), (A.v (Value.int .i64 y3.2))]]) (by kernel_rfl) ?_
    refine .st (v := (A.agg [(A.v (Value.int .i64 y3.1)), (A.v (Value.int .i64 y3.2))])) (by kernel_rfl) ?_
    refine .bd (g := fun (y : Bool) => (A.v (Value.bool y))) (h32 ((y3.1, y3.2))) fun y4 => ?_
    refine .st (v := (A.v (Value.bool (!y4)))) (by kernel_rfl) ?_
    refine .biH (fun hk5 => ?_) (fun hk5 => ?_)
    · refine .st (v := (A.agg [(A.imm [] true), (A.imm [] true)])) (by kernel_rfl) ?_
      refine .st (v := [Blk.box [(A.imm (List.map c_S_Packet a0.Queue) false), (A.imm (List.map c_A2_int_i64 a0.Apart) false)], Blk.box [(A.imm [] true), (A.imm [] true)], Blk.box [(A.v (Value.int .i64 y3.1)), (A.v (Value.int .i64 y3.2))]]) (by kernel_rfl) ?_
      refine .st (v := (A.agg [(A.imm [] true), (A.imm [] true)])) (by kernel_rfl) ?_
      exact .lf rfl rfl ⟨_, rfl, by simp only [snap, snapW, snapWs, snapWss, snapWss_map, trim, List.map_cons, List.map_nil, fl_cI, fl_c8, fl_cB, fl_cS, fl_cL, fl_S_kinespherelaw06_Move, fl_S_Packet, fl_A2_int_i64, fl_S_Net, snapE]⟩
    · refine .st (v := (A.ptr 0 0)) (by kernel_rfl) ?_
      refine .st (v := (A.imm (List.map c_S_Packet a0.Queue) false)) (by kernel_rfl) ?_
      refine .st (v := (A.agg [(A.imm (List.map c_S_Packet a0.Queue) false), (A.imm [] true)])) (by kernel_rfl) ?_
      refine .st (v := [Blk.box [(A.imm (List.map c_S_Packet a0.Queue) false), (A.imm (List.map c_A2_int_i64 a0.Apart) false)], Blk.box [(A.imm (List.map c_S_Packet a0.Queue) false), (A.imm [] true)], Blk.box [(A.v (Value.int .i64 y3.1)), (A.v (Value.int .i64 y3.2))]]) (by kernel_rfl) ?_
      refine .st (v := (A.ptr 0 1)) (by kernel_rfl) ?_
      refine .st (v := (A.imm (List.map c_A2_int_i64 a0.Apart) false)) (by kernel_rfl) ?_
      refine .st (v := (A.agg [(A.v (Value.int .i64 y3.1)), (A.v (Value.int .i64 y3.2))])) (by kernel_rfl) ?_
      refine .cl ((evCall_in lt_39).trans (e39 C (evCall (cx C) (n+7)) (evCallY (cx C) (n+7)) (n+7) _ _ _ _ _)) ?_
      refine .st (v := ((A.ptr 3 0), [Blk.box [(A.imm (List.map c_S_Packet a0.Queue) false), (A.imm (List.map c_A2_int_i64 a0.Apart) false)], Blk.box [(A.imm (List.map c_S_Packet a0.Queue) false), (A.imm [] true)], Blk.box [(A.v (Value.int .i64 y3.1)), (A.v (Value.int .i64 y3.2))], Blk.box [(A.imm (List.map c_A2_int_i64 a0.Apart) false)]])) (by kernel_rfl) ?_
      refine .st (v := ((A.ptr 4 0), [Blk.box [(A.imm (List.map c_S_Packet a0.Queue) false), (A.imm (List.map c_A2_int_i64 a0.Apart) false)], Blk.box [(A.imm (List.map c_S_Packet a0.Queue) false), (A.imm [] true)], Blk.box [(A.v (Value.int .i64 y3.1)), (A.v (Value.int .i64 y3.2))], Blk.box [(A.imm (List.map c_A2_int_i64 a0.Apart) false)], Blk.box [(A.v (Value.int .i64 y3.1)), (A.v (Value.int .i64 y3.2))]])) (by kernel_rfl) ?_
      refine .st (v := ((A.ptr 5 0), [Blk.box [(A.imm (List.map c_S_Packet a0.Queue) false), (A.imm (List.map c_A2_int_i64 a0.Apart) false)], Blk.box [(A.imm (List.map c_S_Packet a0.Queue) false), (A.imm [] true)], Blk.box [(A.v (Value.int .i64 y3.1)), (A.v (Value.int .i64 y3.2))], Blk.box [(A.imm (List.map c_A2_int_i64 a0.Apart) false)], Blk.box [(A.v (Value.int .i64 y3.1)), (A.v (Value.int .i64 y3.2))], Blk.box [(A.v (Value.bool a3))]])) (by kernel_rfl) ?_
      refine .cr ?_
      refine .ok ?_
      refine .st (v := (46, [(A.ptr 4 0), (A.ptr 5 0), (A.ptr 3 0)])) (by kernel_rfl) ?_
      refine .cT (by kernel_rfl) ?_
      refine .cl ((evCallY_in lt_46).trans (e46 C (evCallY (cx C) (n+7) (yext 64 (evCall (cx C) (n+8)) 7 (roundR (cx C) (evCall (cx C) (n+8)) (evCallY (cx C) (n+8)) (n+8) 20 0 0 7 [(8, (A.ptr 1 0))]))) (evCallY (cx C) (n+7)) (n+7) _ _ _ _ _ _)) ?_
      refine .as (T20_46_0 C n h13 h32 h36 h37 a0.Queue a0.Apart a0.Queue y3.1 y3.2 a0.Apart y3.1 y3.2 a3 _ _ _ _ ?_ _ 0 (([] : List (Int × Int))))
      · intro y61 j62 j63 j64 j65 j66
        refine .un rfl ?_
        refine .cT (by kernel_rfl) ?_
        refine .cr ?_
        refine .ok ?_
        refine .lp (rs_n rfl) ?_
        refine .st (v := (A.agg [(A.imm (List.map c_S_Packet a0.Queue) false), (A.sl 6 0 y61.length false)])) (by kernel_rfl) ?_
        refine .st (v := [Blk.box [(A.imm (List.map c_S_Packet a0.Queue) false), (A.imm (List.map c_A2_int_i64 a0.Apart) false)], Blk.box [(A.imm (List.map c_S_Packet a0.Queue) false), (A.sl 6 0 y61.length false)], Blk.box [(A.v (Value.int .i64 y3.1)), (A.v (Value.int .i64 y3.2))], Blk.box [(A.imm (List.map c_A2_int_i64 a0.Apart) false)], Blk.box [(A.v (Value.int .i64 y3.1)), (A.v (Value.int .i64 y3.2))], Blk.box [(A.v (Value.bool a3))], Blk.row false 2 (List.map c_A2_int_i64 y61), Blk.dead]) (by kernel_rfl) ?_
        refine .st (v := (A.agg [(A.imm (List.map c_S_Packet a0.Queue) false), (A.sl 6 0 y61.length false)])) (by kernel_rfl) ?_
        exact .lf rfl rfl ⟨_, rfl, by simp only [snap, snapW, snapWs, snapWss, snapWss_map, trim, List.map_cons, List.map_nil, fl_cI, fl_c8, fl_cB, fl_cS, fl_cL, fl_S_kinespherelaw06_Move, fl_S_Packet, fl_A2_int_i64, fl_S_Net, snapE, snapGE_row (H := [Blk.box [(A.imm (List.map c_S_Packet a0.Queue) false), (A.imm (List.map c_A2_int_i64 a0.Apart) false)], Blk.box [(A.imm (List.map c_S_Packet a0.Queue) false), (A.sl 6 0 y61.length false)], Blk.box [(A.v (Value.int .i64 y3.1)), (A.v (Value.int .i64 y3.2))], Blk.box [(A.imm (List.map c_A2_int_i64 a0.Apart) false)], Blk.box [(A.v (Value.int .i64 y3.1)), (A.v (Value.int .i64 y3.2))], Blk.box [(A.v (Value.bool a3))], Blk.row false 2 (List.map c_A2_int_i64 y61), Blk.dead]) (b := 6) (es := 2) (wr := false) (l := y61) fl_A2_int_i64 rfl]⟩

def G20 (a0 : S_Net) (a1 : Int) (a2 : Int) (a3 : Bool) : Option (S_Net × Int) := F20 fuel0 a0 a1 a2 a3

def Orc20 (C : Nat → List A → Option A) : Prop := ∀ (a0 : S_Net) (a1 : Int) (a2 : Int) (a3 : Bool), C 20 [(A.agg [(A.imm (List.map c_S_Packet a0.Queue) false), (A.imm (List.map c_A2_int_i64 a0.Apart) false)]), (A.v (Value.int .i64 a1)), (A.v (Value.int .i64 a2)), (A.v (Value.bool a3))] = (G20 a0 a1 a2 a3).map fun y => (A.tup [(A.agg [(A.imm (List.map c_S_Packet y.1.Queue) false), (A.imm (List.map c_A2_int_i64 y.1.Apart) false)]), (A.v (Value.int .i64 y.2))])

def F25 (n : Nat) (a0 : S_Net) (a1 : Int) : Option (S_Net × Int) :=
  Option.bind (G35 a0 a1) fun y1 => bif (y1.2 != 0) then (some (((S_Net.mk ([]) ([])), y1.2))) else (Option.bind (G11 a0 y1.1) fun y3 => some ((y3.1, y3.2)))

theorem T25 (C : Nat → List A → Option A) (n : Nat) (h11 : Orc11 C) (h35 : Orc35 C) (a0 : S_Net) (a1 : Int) : J (fun (o : R) y => ∃ v, o.1 = .ret v ∧ snapE o.2 v = (A.tup [(A.agg [(A.imm (List.map c_S_Packet y.1.Queue) false), (A.imm (List.map c_A2_int_i64 y.1.Apart) false)]), (A.v (Value.int .i64 y.2))])) (evCall1 (cx C) (evCall (cx C) (n+8)) (evCallY (cx C) (n+8)) (n+8) 25 [(A.agg [(A.imm (List.map c_S_Packet a0.Queue) false), (A.imm (List.map c_A2_int_i64 a0.Apart) false)]), (A.v (Value.int .i64 a1))] [] 0) some (F25 n a0 a1) some := by
  refine .lp (e25 ..) ?_
  unfold F25
  refine .st (v := ((A.ptr 0 0), [Blk.box [(A.imm (List.map c_S_Packet a0.Queue) false), (A.imm (List.map c_A2_int_i64 a0.Apart) false)]])) (by kernel_rfl) ?_
  refine .st (v := ((A.ptr 1 0), [Blk.box [(A.imm (List.map c_S_Packet a0.Queue) false), (A.imm (List.map c_A2_int_i64 a0.Apart) false)], Blk.box [(A.imm [] true), (A.imm [] true)]])) (by kernel_rfl) ?_
  refine .st (v := (A.agg [(A.imm (List.map c_S_Packet a0.Queue) false), (A.imm (List.map c_A2_int_i64 a0.Apart) false)])) (by kernel_rfl) ?_
  refine .bd (g := fun (y : (S_Packet × Int)) => (A.tup [(A.agg [(A.v (Value.int .i64 y.1.From)), (A.v (Value.int .i64 y.1.To)), (A.imm (List.map c8 y.1.Data) false)]), (A.v (Value.int .i64 y.2))])) (by simp only [snap, snapW, snapWs, snapWss, snapWss_map, trim, List.map_cons, List.map_nil, fl_cI, fl_c8, fl_cB, fl_cS, fl_cL, fl_S_kinespherelaw06_Move, fl_S_Packet, fl_A2_int_i64, fl_S_Net]; exact h35 a0 a1) fun y1 => ?_
  refine .st (v := (A.agg [(A.v (Value.int .i64 y1.1.From)), (A.v (Value.int .i64 y1.1.To)), (A.imm (List.map c8 y1.1.Data) false)])) (by kernel_rfl) ?_
  refine .st (v := (A.v (Value.int .i64 y1.2))) (by kernel_rfl) ?_
  refine .st (v := ((A.ptr 2 0), [Blk.box [(A.imm (List.map c_S_Packet a0.Queue) false), (A.imm (List.map c_A2_int_i64 a0.Apart) false)], Blk.box [(A.imm [] true), (A.imm [] true)], Blk.box [(A.v (Value.int .i64 0)), (A.v (Value.int .i64 0)), (A.imm [] true)]])) (by kernel_rfl) ?_
  refine .st (v := [Blk.box [(A.imm (List.map c_S_Packet a0.Queue) false), (A.imm (List.map c_A2_int_i64 a0.Apart) false)], Blk.box [(A.imm [] true), (A.imm [] true)], Blk.box [(A.v (Value.int .i64 y1.1.From)), (A.v (Value.int .i64 y1.1.To)), (A.imm (List.map c8 y1.1.Data) false)]]) (by kernel_rfl) ?_
  refine .st (v := (A.v (Value.bool (y1.2 != 0)))) (aBin_neq ..) ?_
  refine .biH (fun hk2 => ?_) (fun hk2 => ?_)
  · refine .st (v := (A.agg [(A.imm [] true), (A.imm [] true)])) (by kernel_rfl) ?_
    refine .st (v := [Blk.box [(A.imm (List.map c_S_Packet a0.Queue) false), (A.imm (List.map c_A2_int_i64 a0.Apart) false)], Blk.box [(A.imm [] true), (A.imm [] true)], Blk.box [(A.v (Value.int .i64 y1.1.From)), (A.v (Value.int .i64 y1.1.To)), (A.imm (List.map c8 y1.1.Data) false)]]) (by kernel_rfl) ?_
    refine .st (v := (A.agg [(A.imm [] true), (A.imm [] true)])) (by kernel_rfl) ?_
    exact .lf rfl rfl ⟨_, rfl, by simp only [snap, snapW, snapWs, snapWss, snapWss_map, trim, List.map_cons, List.map_nil, fl_cI, fl_c8, fl_cB, fl_cS, fl_cL, fl_S_kinespherelaw06_Move, fl_S_Packet, fl_A2_int_i64, fl_S_Net, snapE]⟩
  · refine .st (v := (A.agg [(A.imm (List.map c_S_Packet a0.Queue) false), (A.imm (List.map c_A2_int_i64 a0.Apart) false)])) (by kernel_rfl) ?_
    refine .st (v := (A.agg [(A.v (Value.int .i64 y1.1.From)), (A.v (Value.int .i64 y1.1.To)), (A.imm (List.map c8 y1.1.Data) false)])) (by kernel_rfl) ?_
    refine .bd (g := fun (y : (S_Net × Int)) => (A.tup [(A.agg [(A.imm (List.map c_S_Packet y.1.Queue) false), (A.imm (List.map c_A2_int_i64 y.1.Apart) false)]), (A.v (Value.int .i64 y.2))])) (by simp only [snap, snapW, snapWs, snapWss, snapWss_map, trim, List.map_cons, List.map_nil, fl_cI, fl_c8, fl_cB, fl_cS, fl_cL, fl_S_kinespherelaw06_Move, fl_S_Packet, fl_A2_int_i64, fl_S_Net]; exact h11 a0 y1.1) fun y3 => ?_
    refine .st (v := (A.agg [(A.imm (List.map c_S_Packet y3.1.Queue) false), (A.imm (List.map c_A2_int_i64 y3.1.Apart) false)])) (by kernel_rfl) ?_
    refine .st (v := (A.v (Value.int .i64 y3.2))) (by kernel_rfl) ?_
    refine .st (v := [Blk.box [(A.imm (List.map c_S_Packet a0.Queue) false), (A.imm (List.map c_A2_int_i64 a0.Apart) false)], Blk.box [(A.imm (List.map c_S_Packet y3.1.Queue) false), (A.imm (List.map c_A2_int_i64 y3.1.Apart) false)], Blk.box [(A.v (Value.int .i64 y1.1.From)), (A.v (Value.int .i64 y1.1.To)), (A.imm (List.map c8 y1.1.Data) false)]]) (by kernel_rfl) ?_
    refine .st (v := (A.agg [(A.imm (List.map c_S_Packet y3.1.Queue) false), (A.imm (List.map c_A2_int_i64 y3.1.Apart) false)])) (by kernel_rfl) ?_
    exact .lf rfl rfl ⟨_, rfl, by simp only [snap, snapW, snapWs, snapWss, snapWss_map, trim, List.map_cons, List.map_nil, fl_cI, fl_c8, fl_cB, fl_cS, fl_cL, fl_S_kinespherelaw06_Move, fl_S_Packet, fl_A2_int_i64, fl_S_Net, snapE]⟩

def G25 (a0 : S_Net) (a1 : Int) : Option (S_Net × Int) := F25 fuel0 a0 a1

def Orc25 (C : Nat → List A → Option A) : Prop := ∀ (a0 : S_Net) (a1 : Int), C 25 [(A.agg [(A.imm (List.map c_S_Packet a0.Queue) false), (A.imm (List.map c_A2_int_i64 a0.Apart) false)]), (A.v (Value.int .i64 a1))] = (G25 a0 a1).map fun y => (A.tup [(A.agg [(A.imm (List.map c_S_Packet y.1.Queue) false), (A.imm (List.map c_A2_int_i64 y.1.Apart) false)]), (A.v (Value.int .i64 y.2))])

def F19 (n : Nat) (a0 : S_Packet) (a1 : S_Packet) : Option Bool :=
  Option.bind (bif (a0.From == a1.From) then (some (a0.To == a1.To)) else (some false)) fun y2 => Option.bind (bif y2 then (some (strEq (bstr a0.Data) (bstr a1.Data))) else (some false)) fun y9 => some y9

theorem T19 (C : Nat → List A → Option A) (n : Nat) (a0 : S_Packet) (a1 : S_Packet) : J (fun (o : R) y => ∃ v, o.1 = .ret v ∧ snapE o.2 v = (A.v (Value.bool y))) (evCall1 (cx C) (evCall (cx C) (n+8)) (evCallY (cx C) (n+8)) (n+8) 19 [(A.agg [(A.v (Value.int .i64 a0.From)), (A.v (Value.int .i64 a0.To)), (A.imm (List.map c8 a0.Data) false)]), (A.agg [(A.v (Value.int .i64 a1.From)), (A.v (Value.int .i64 a1.To)), (A.imm (List.map c8 a1.Data) false)])] [] 0) some (F19 n a0 a1) some := by
  refine .lp (e19 ..) ?_
  unfold F19
  refine .st (v := ((A.ptr 0 0), [Blk.box [(A.v (Value.int .i64 a0.From)), (A.v (Value.int .i64 a0.To)), (A.imm (List.map c8 a0.Data) false)]])) (by kernel_rfl) ?_
  refine .st (v := ((A.ptr 1 0), [Blk.box [(A.v (Value.int .i64 a0.From)), (A.v (Value.int .i64 a0.To)), (A.imm (List.map c8 a0.Data) false)], Blk.box [(A.v (Value.int .i64 a1.From)), (A.v (Value.int .i64 a1.To)), (A.imm (List.map c8 a1.Data) false)]])) (by kernel_rfl) ?_
  refine .st (v := (A.ptr 0 0)) (by kernel_rfl) ?_
  refine .st (v := (A.v (Value.int .i64 a0.From))) (by kernel_rfl) ?_
  refine .st (v := (A.ptr 1 0)) (by kernel_rfl) ?_
  refine .st (v := (A.v (Value.int .i64 a1.From))) (by kernel_rfl) ?_
  refine .st (v := (A.v (Value.bool (a0.From == a1.From)))) (aBin_eql ..) ?_
  refine .bg (fun t (y : Bool) => ∃ j3 j4 j5 j6 j7 : A, t = [(A.v (Value.bool y)), j3, j4, j5, j6, j7]) ?_ ?_
  · refine .biH (fun hk1 => ?_) (fun hk1 => ?_)
    · refine .st (v := (A.ptr 0 1)) (by kernel_rfl) ?_
      refine .st (v := (A.v (Value.int .i64 a0.To))) (by kernel_rfl) ?_
      refine .st (v := (A.ptr 1 1)) (by kernel_rfl) ?_
      refine .st (v := (A.v (Value.int .i64 a1.To))) (by kernel_rfl) ?_
      refine .st (v := (A.v (Value.bool (a0.To == a1.To)))) (aBin_eql ..) ?_
      exact .lg ⟨_, _, _, _, _, rfl⟩
    · exact .lg ⟨_, _, _, _, _, rfl⟩
  rintro _ y2 ⟨j3, j4, j5, j6, j7, rfl⟩
  iterate 6 refine .uc ?_
  refine .bg (fun t (y : Bool) => ∃ j10 j11 j12 j13 j14 j15 j16 : A, t = [(A.v (Value.bool y)), j10, j11, j12, j13, j14, j15, j16]) ?_ ?_
  · refine .biH (fun hk8 => ?_) (fun hk8 => ?_)
    · refine .st (v := (A.ptr 0 2)) (by kernel_rfl) ?_
      refine .st (v := (A.imm (List.map c8 a0.Data) false)) (by kernel_rfl) ?_
      refine .st (v := (A.v (Value.string (bstr a0.Data)))) (conv_bs (e := 5) (l := a0.Data) (by kernel_rfl) (by kernel_rfl) (by kernel_rfl) (by kernel_rfl) (els_imm ..) rfl) ?_
      refine .st (v := (A.ptr 1 2)) (by kernel_rfl) ?_
      refine .st (v := (A.imm (List.map c8 a1.Data) false)) (by kernel_rfl) ?_
      refine .st (v := (A.v (Value.string (bstr a1.Data)))) (conv_bs (e := 5) (l := a1.Data) (by kernel_rfl) (by kernel_rfl) (by kernel_rfl) (by kernel_rfl) (els_imm ..) rfl) ?_
      refine .st (v := (A.v (Value.bool (strEq (bstr a0.Data) (bstr a1.Data))))) (aBin_eql_s ..) ?_
      exact .lg ⟨_, _, _, _, _, _, _, rfl⟩
    · exact .lg ⟨_, _, _, _, _, _, _, rfl⟩
  rintro _ y9 ⟨j10, j11, j12, j13, j14, j15, j16, rfl⟩
  iterate 8 refine .uc ?_
  exact .lf rfl rfl ⟨_, rfl, rfl⟩

def G19 (a0 : S_Packet) (a1 : S_Packet) : Option Bool := F19 fuel0 a0 a1

def Orc19 (C : Nat → List A → Option A) : Prop := ∀ (a0 : S_Packet) (a1 : S_Packet), C 19 [(A.agg [(A.v (Value.int .i64 a0.From)), (A.v (Value.int .i64 a0.To)), (A.imm (List.map c8 a0.Data) false)]), (A.agg [(A.v (Value.int .i64 a1.From)), (A.v (Value.int .i64 a1.To)), (A.imm (List.map c8 a1.Data) false)])] = (G19 a0 a1).map fun y => (A.v (Value.bool y))

def F15_15_0 (n : Nat) (v11 : Bool) (v13 : (List S_Packet)) (v14 : (List (Int × Int))) (v15 : (List S_Packet)) (v16 : (List (Int × Int))) : Nat → Int → Option ((Bool) ⊕ (Unit))
  | 0, _ => none
  | m + 1, v12 => bif (decide (v12 < ((v13.length : Int)))) then (Option.bind (getI v13 v12) fun y18 => Option.bind (getI v15 v12) fun y19 => Option.bind (G19 y18 y19) fun y20 => bif (!y20) then (some ((Sum.inl false))) else (F15_15_0 n v11 v13 v14 v15 v16 m (wr .i64 (v12 + 1)))) else (some ((Sum.inr (()))))

theorem T15_15_0 (C : Nat → List A → Option A) (n : Nat) (h19 : Orc19 C) (v11 : Bool) (v13 : (List S_Packet)) (v14 : (List (Int × Int))) (v15 : (List S_Packet)) (v16 : (List (Int × Int))) {ρ γ : Type} {φ : ρ → γ → Prop} {kL : R → Option ρ} {K : ((Bool) ⊕ (Unit)) → Option γ} (kx kg : Nat → St → Option R) (kr : St → Option R) (kp : A → St → Option R) (x0 : ∀ (o0 : Bool) (s2 : A) (s3 : A) (s5 : A), J φ (kr (St.mk [(2, s2), (3, s3), (4, (A.v (Value.bool o0))), (5, s5)] [Blk.box [(A.imm (List.map c_S_Packet v13) false), (A.imm (List.map c_A2_int_i64 v14) false)], Blk.box [(A.imm (List.map c_S_Packet v15) false), (A.imm (List.map c_A2_int_i64 v16) false)]])) kL (K (Sum.inl o0)) some) (x1 : ∀ (s5 : A), J φ (kx 0 (St.mk [(2, (A.ptr 0 0)), (3, (A.ptr 1 0)), (4, (A.v (Value.bool v11))), (5, s5)] [Blk.box [(A.imm (List.map c_S_Packet v13) false), (A.imm (List.map c_A2_int_i64 v14) false)], Blk.box [(A.imm (List.map c_S_Packet v15) false), (A.imm (List.map c_A2_int_i64 v16) false)]])) kL (K (Sum.inr (()))) some) :
    ∀ (m : Nat) (v12 : Int), J φ (loopR (cx C) (evCall (cx C) (n+8)) (evCallY (cx C) (n+8)) (n+8) 15 0 0 2 kx kg kr kp m (St.mk [(2, (A.ptr 0 0)), (3, (A.ptr 1 0)), (4, (A.v (Value.bool v11))), (5, (A.v (Value.int .i64 v12)))] [Blk.box [(A.imm (List.map c_S_Packet v13) false), (A.imm (List.map c_A2_int_i64 v14) false)], Blk.box [(A.imm (List.map c_S_Packet v15) false), (A.imm (List.map c_A2_int_i64 v16) false)]])) kL (F15_15_0 n v11 v13 v14 v15 v16 m v12) K := by
  intro m
  induction m with
  | zero => intros; exact .nn
  | succ m ih =>
    intro v12
    refine .lp (e15_0 ..) ?_
    unfold F15_15_0
    refine .st (v := (A.ptr 0 0)) (by kernel_rfl) ?_
    refine .st (v := (A.imm (List.map c_S_Packet v13) false)) (by kernel_rfl) ?_
    refine .st (v := (A.v (Value.int .i64 ((v13.length : Int))))) (len_imm (e := 28) (h1 := by kernel_rfl) ..) ?_
    refine .st (v := (A.v (Value.bool (decide (v12 < ((v13.length : Int))))))) (aBin_lss ..) ?_
    refine .biH (fun hk17 => ?_) (fun hk17 => ?_)
    · refine .st (v := (A.ptr 0 0)) (by kernel_rfl) ?_
      refine .st (v := (A.imm (List.map c_S_Packet v13) false)) (by kernel_rfl) ?_
      refine .bd (g := fun (y : S_Packet) => A.ip (c_S_Packet y)) (idx_imm (e := 28) (es := 3) (h1 := by kernel_rfl) (h2 := by kernel_rfl) (h3 := fun _ => rfl) ..) fun y18 => ?_
      refine .st (v := (A.agg [(A.v (Value.int .i64 y18.From)), (A.v (Value.int .i64 y18.To)), (A.imm (List.map c8 y18.Data) false)])) (by kernel_rfl) ?_
      refine .st (v := (A.ptr 1 0)) (by kernel_rfl) ?_
      refine .st (v := (A.imm (List.map c_S_Packet v15) false)) (by kernel_rfl) ?_
      refine .bd (g := fun (y : S_Packet) => A.ip (c_S_Packet y)) (idx_imm (e := 28) (es := 3) (h1 := by kernel_rfl) (h2 := by kernel_rfl) (h3 := fun _ => rfl) ..) fun y19 => ?_
      refine .st (v := (A.agg [(A.v (Value.int .i64 y19.From)), (A.v (Value.int .i64 y19.To)), (A.imm (List.map c8 y19.Data) false)])) (by kernel_rfl) ?_
      refine .bd (g := fun (y : Bool) => (A.v (Value.bool y))) (by simp only [snap, snapW, snapWs, snapWss, snapWss_map, trim, List.map_cons, List.map_nil, fl_cI, fl_c8, fl_cB, fl_cS, fl_cL, fl_S_kinespherelaw06_Move, fl_S_Packet, fl_A2_int_i64, fl_S_Net]; exact h19 y18 y19) fun y20 => ?_
      refine .st (v := (A.v (Value.bool (!y20)))) (by kernel_rfl) ?_
      refine .biH (fun hk21 => ?_) (fun hk21 => ?_)
      · exact .ex (x0 _ _ _ _)
      · refine .st (v := (A.v (Value.int .i64 (wr .i64 (v12 + 1))))) (aBin_add ..) ?_
        refine .st (v := [Blk.box [(A.imm (List.map c_S_Packet v13) false), (A.imm (List.map c_A2_int_i64 v14) false)], Blk.box [(A.imm (List.map c_S_Packet v15) false), (A.imm (List.map c_A2_int_i64 v16) false)]]) (by kernel_rfl) ?_
        refine .cT (by kernel_rfl) ?_
        exact ih _
    · exact .ex (x1 _)

def F15_15_1 (n : Nat) (v28 : Bool) (v30 : (List S_Packet)) (v31 : (List (Int × Int))) (v32 : (List S_Packet)) (v33 : (List (Int × Int))) : Nat → Int → Option ((Bool) ⊕ (Unit))
  | 0, _ => none
  | m + 1, v29 => bif (decide (v29 < ((v31.length : Int)))) then (Option.bind (getI v31 v29) fun y35 => Option.bind (getI v33 v29) fun y36 => bif (!((y35.1 == y36.1) && (y35.2 == y36.2))) then (some ((Sum.inl false))) else (F15_15_1 n v28 v30 v31 v32 v33 m (wr .i64 (v29 + 1)))) else (some ((Sum.inr (()))))

theorem T15_15_1 (C : Nat → List A → Option A) (n : Nat) (h19 : Orc19 C) (v28 : Bool) (v30 : (List S_Packet)) (v31 : (List (Int × Int))) (v32 : (List S_Packet)) (v33 : (List (Int × Int))) {ρ γ : Type} {φ : ρ → γ → Prop} {kL : R → Option ρ} {K : ((Bool) ⊕ (Unit)) → Option γ} (kx kg : Nat → St → Option R) (kr : St → Option R) (kp : A → St → Option R) (x0 : ∀ (o0 : Bool) (s2 : A) (s3 : A) (s6 : A), J φ (kr (St.mk [(2, s2), (3, s3), (4, (A.v (Value.bool o0))), (6, s6)] [Blk.box [(A.imm (List.map c_S_Packet v30) false), (A.imm (List.map c_A2_int_i64 v31) false)], Blk.box [(A.imm (List.map c_S_Packet v32) false), (A.imm (List.map c_A2_int_i64 v33) false)]])) kL (K (Sum.inl o0)) some) (x1 : ∀ (s2 : A) (s3 : A) (s4 : A) (s6 : A), J φ (kx 2 (St.mk [(2, s2), (3, s3), (4, s4), (6, s6)] [Blk.box [(A.imm (List.map c_S_Packet v30) false), (A.imm (List.map c_A2_int_i64 v31) false)], Blk.box [(A.imm (List.map c_S_Packet v32) false), (A.imm (List.map c_A2_int_i64 v33) false)]])) kL (K (Sum.inr (()))) some) :
    ∀ (m : Nat) (v29 : Int), J φ (loopR (cx C) (evCall (cx C) (n+8)) (evCallY (cx C) (n+8)) (n+8) 15 0 1 2 kx kg kr kp m (St.mk [(2, (A.ptr 0 0)), (3, (A.ptr 1 0)), (4, (A.v (Value.bool v28))), (6, (A.v (Value.int .i64 v29)))] [Blk.box [(A.imm (List.map c_S_Packet v30) false), (A.imm (List.map c_A2_int_i64 v31) false)], Blk.box [(A.imm (List.map c_S_Packet v32) false), (A.imm (List.map c_A2_int_i64 v33) false)]])) kL (F15_15_1 n v28 v30 v31 v32 v33 m v29) K := by
  intro m
  induction m with
  | zero => intros; exact .nn
  | succ m ih =>
    intro v29
    refine .lp (e15_1 ..) ?_
    unfold F15_15_1
    refine .st (v := (A.ptr 0 1)) (by kernel_rfl) ?_
    refine .st (v := (A.imm (List.map c_A2_int_i64 v31) false)) (by kernel_rfl) ?_
    refine .st (v := (A.v (Value.int .i64 ((v31.length : Int))))) (len_imm (e := 55) (h1 := by kernel_rfl) ..) ?_
    refine .st (v := (A.v (Value.bool (decide (v29 < ((v31.length : Int))))))) (aBin_lss ..) ?_
    refine .biH (fun hk34 => ?_) (fun hk34 => ?_)
    · refine .st (v := (A.ptr 0 1)) (by kernel_rfl) ?_
      refine .st (v := (A.imm (List.map c_A2_int_i64 v31) false)) (by kernel_rfl) ?_
      refine .bd (g := fun (y : (Int × Int)) => A.ip (c_A2_int_i64 y)) (idx_imm (e := 55) (es := 2) (h1 := by kernel_rfl) (h2 := by kernel_rfl) (h3 := fun _ => rfl) ..) fun y35 => ?_
      refine .st (v := (A.agg [(A.v (Value.int .i64 y35.1)), (A.v (Value.int .i64 y35.2))])) (by kernel_rfl) ?_
      refine .st (v := (A.ptr 1 1)) (by kernel_rfl) ?_
      refine .st (v := (A.imm (List.map c_A2_int_i64 v33) false)) (by kernel_rfl) ?_
      refine .bd (g := fun (y : (Int × Int)) => A.ip (c_A2_int_i64 y)) (idx_imm (e := 55) (es := 2) (h1 := by kernel_rfl) (h2 := by kernel_rfl) (h3 := fun _ => rfl) ..) fun y36 => ?_
      refine .st (v := (A.agg [(A.v (Value.int .i64 y36.1)), (A.v (Value.int .i64 y36.2))])) (by kernel_rfl) ?_
      refine .st (v := (A.v (Value.bool (!((y35.1 == y36.1) && (y35.2 == y36.2)))))) (by kernel_rfl) ?_
      refine .biH (fun hk37 => ?_) (fun hk37 => ?_)
      · exact .ex (x0 _ _ _ _)
      · refine .st (v := (A.v (Value.int .i64 (wr .i64 (v29 + 1))))) (aBin_add ..) ?_
        refine .st (v := [Blk.box [(A.imm (List.map c_S_Packet v30) false), (A.imm (List.map c_A2_int_i64 v31) false)], Blk.box [(A.imm (List.map c_S_Packet v32) false), (A.imm (List.map c_A2_int_i64 v33) false)]]) (by kernel_rfl) ?_
        refine .cT (by kernel_rfl) ?_
        exact ih _
    · exact .ex (x1 _ _ _ _)

def F15 (n : Nat) (a0 : S_Net) (a1 : S_Net) : Option Bool :=
  Option.bind (bif (((a0.Queue.length : Int)) != ((a1.Queue.length : Int))) then (some true) else (some (((a0.Apart.length : Int)) != ((a1.Apart.length : Int))))) fun y2 => bif y2 then (some false) else (Option.bind (F15_15_0 n false a0.Queue a0.Apart a1.Queue a1.Apart (n+8) 0) fun o22 => match o22 with | (Sum.inl y23) => some y23 | (Sum.inr _) => Option.bind (F15_15_1 n false a0.Queue a0.Apart a1.Queue a1.Apart (n+8) 0) fun o38 => match o38 with | (Sum.inl y39) => some y39 | (Sum.inr _) => some true)

theorem T15 (C : Nat → List A → Option A) (n : Nat) (h19 : Orc19 C) (a0 : S_Net) (a1 : S_Net) : J (fun (o : R) y => ∃ v, o.1 = .ret v ∧ snapE o.2 v = (A.v (Value.bool y))) (evCall1 (cx C) (evCall (cx C) (n+8)) (evCallY (cx C) (n+8)) (n+8) 15 [(A.agg [(A.imm (List.map c_S_Packet a0.Queue) false), (A.imm (List.map c_A2_int_i64 a0.Apart) false)]), (A.agg [(A.imm (List.map c_S_Packet a1.Queue) false), (A.imm (List.map c_A2_int_i64 a1.Apart) false)])] [] 0) some (F15 n a0 a1) some := by
  refine .lp (e15 ..) ?_
  unfold F15
  refine .st (v := ((A.ptr 0 0), [Blk.box [(A.imm (List.map c_S_Packet a0.Queue) false), (A.imm (List.map c_A2_int_i64 a0.Apart) false)]])) (by kernel_rfl) ?_
  refine .st (v := ((A.ptr 1 0), [Blk.box [(A.imm (List.map c_S_Packet a0.Queue) false), (A.imm (List.map c_A2_int_i64 a0.Apart) false)], Blk.box [(A.imm (List.map c_S_Packet a1.Queue) false), (A.imm (List.map c_A2_int_i64 a1.Apart) false)]])) (by kernel_rfl) ?_
  refine .st (v := (A.ptr 0 0)) (by kernel_rfl) ?_
  refine .st (v := (A.imm (List.map c_S_Packet a0.Queue) false)) (by kernel_rfl) ?_
  refine .st (v := (A.v (Value.int .i64 ((a0.Queue.length : Int))))) (len_imm (e := 28) (h1 := by kernel_rfl) ..) ?_
  refine .st (v := (A.ptr 1 0)) (by kernel_rfl) ?_
  refine .st (v := (A.imm (List.map c_S_Packet a1.Queue) false)) (by kernel_rfl) ?_
  refine .st (v := (A.v (Value.int .i64 ((a1.Queue.length : Int))))) (len_imm (e := 28) (h1 := by kernel_rfl) ..) ?_
  refine .st (v := (A.v (Value.bool (((a0.Queue.length : Int)) != ((a1.Queue.length : Int)))))) (aBin_neq ..) ?_
  refine .bg (fun t (y : Bool) => ∃ j3 j4 j5 j6 j7 j8 j9 : A, t = [(A.v (Value.bool y)), j3, j4, j5, j6, j7, j8, j9]) ?_ ?_
  · refine .biH (fun hk1 => ?_) (fun hk1 => ?_)
    · exact .lg ⟨_, _, _, _, _, _, _, rfl⟩
    · refine .st (v := (A.ptr 0 1)) (by kernel_rfl) ?_
      refine .st (v := (A.imm (List.map c_A2_int_i64 a0.Apart) false)) (by kernel_rfl) ?_
      refine .st (v := (A.v (Value.int .i64 ((a0.Apart.length : Int))))) (len_imm (e := 55) (h1 := by kernel_rfl) ..) ?_
      refine .st (v := (A.ptr 1 1)) (by kernel_rfl) ?_
      refine .st (v := (A.imm (List.map c_A2_int_i64 a1.Apart) false)) (by kernel_rfl) ?_
      refine .st (v := (A.v (Value.int .i64 ((a1.Apart.length : Int))))) (len_imm (e := 55) (h1 := by kernel_rfl) ..) ?_
      refine .st (v := (A.v (Value.bool (((a0.Apart.length : Int)) != ((a1.Apart.length : Int)))))) (aBin_neq ..) ?_
      exact .lg ⟨_, _, _, _, _, _, _, rfl⟩
  rintro _ y2 ⟨j3, j4, j5, j6, j7, j8, j9, rfl⟩
  iterate 8 refine .uc ?_
  refine .biH (fun hk10 => ?_) (fun hk10 => ?_)
  · exact .lf rfl rfl ⟨_, rfl, rfl⟩
  · refine .as (T15_15_0 C n h19 false a0.Queue a0.Apart a1.Queue a1.Apart _ _ _ _ ?_ ?_ _ 0)
    · intro y23 j24 j25 j26
      refine .un rfl ?_
      exact .lf rfl rfl ⟨_, rfl, rfl⟩
    · intro j27
      refine .un rfl ?_
      refine .cT (by kernel_rfl) ?_
      refine .as (T15_15_1 C n h19 false a0.Queue a0.Apart a1.Queue a1.Apart _ _ _ _ ?_ ?_ _ 0)
      · intro y39 j40 j41 j42
        refine .un rfl ?_
        exact .lf rfl rfl ⟨_, rfl, rfl⟩
      · intro j43 j44 j45 j46
        refine .un rfl ?_
        refine .cT (by kernel_rfl) ?_
        exact .lf rfl rfl ⟨_, rfl, rfl⟩

def G15 (a0 : S_Net) (a1 : S_Net) : Option Bool := F15 fuel0 a0 a1

def Orc15 (C : Nat → List A → Option A) : Prop := ∀ (a0 : S_Net) (a1 : S_Net), C 15 [(A.agg [(A.imm (List.map c_S_Packet a0.Queue) false), (A.imm (List.map c_A2_int_i64 a0.Apart) false)]), (A.agg [(A.imm (List.map c_S_Packet a1.Queue) false), (A.imm (List.map c_A2_int_i64 a1.Apart) false)])] = (G15 a0 a1).map fun y => (A.v (Value.bool y))

def F9 (n : Nat)  : Option Bool :=
  Option.bind (G16 ) fun y1 => Option.bind (G18 y1 0) fun y2 => Option.bind (G11 y1 ((S_Packet.mk 3 3 ([])))) fun y3 => Option.bind (G20 y1 2 2 true) fun y4 => Option.bind (G11 y1 ((S_Packet.mk 1 3 ([(7 : UInt8)])))) fun y5 => Option.bind (G25 y5.1 0) fun y6 => Option.bind (G20 y6.1 3 1 true) fun y7 => Option.bind (G18 y6.1 0) fun y8 => Option.bind (G18 y7.1 1) fun y9 => Option.bind (G13 y1) fun y10 => Option.bind (bif (y10 == 0) then (some (y2.2.2 == 1)) else (some false)) fun y12 => Option.bind (bif y12 then (some (y3.2 == 60)) else (some false)) fun y16 => Option.bind (bif y16 then (some (y4.2 == 1)) else (some false)) fun y20 => Option.bind (bif y20 then (some (y5.2 == 0)) else (some false)) fun y24 => Option.bind (bif y24 then (some (y6.2 == 0)) else (some false)) fun y28 => Option.bind (bif y28 then (some (y7.2 == 0)) else (some false)) fun y32 => Option.bind (bif y32 then (some (y8.2.2 == 0)) else (some false)) fun y36 => Option.bind (bif y36 then (some (y9.2.2 == 0)) else (some false)) fun y40 => Option.bind (bif y40 then (Option.bind (G19 ((S_Packet.mk 1 3 ([(7 : UInt8)]))) y8.1) fun y44 => some y44) else (some false)) fun y45 => Option.bind (bif y45 then (Option.bind (G19 y9.1 ((S_Packet.mk 0 0 ([])))) fun y50 => some y50) else (some false)) fun y51 => Option.bind (bif y51 then (Option.bind (G15 y8.2.1 y5.1) fun y56 => some y56) else (some false)) fun y57 => Option.bind (bif y57 then (some (((y7.1.Apart.length : Int)) == 1)) else (some false)) fun y62 => Option.bind (bif y62 then (Option.bind (getI y7.1.Apart 0) fun y68 => some (((y68.1 == 1) && (y68.2 == 3)))) else (some false)) fun y69 => Option.bind (bif y69 then (some (((y7.1.Queue.length : Int)) == 2)) else (some false)) fun y77 => some y77

theorem T9 (C : Nat → List A → Option A) (n : Nat) (h11 : Orc11 C) (h13 : Orc13 C) (h15 : Orc15 C) (h16 : Orc16 C) (h18 : Orc18 C) (h19 : Orc19 C) (h20 : Orc20 C) (h25 : Orc25 C) : J (fun (o : R) y => ∃ v, o.1 = .ret v ∧ snapE o.2 v = (A.v (Value.bool y))) (evCall1 (cx C) (evCall (cx C) (n+8)) (evCallY (cx C) (n+8)) (n+8) 9 [] [] 0) some (F9 n ) some := by
  refine .lp (e9 ..) ?_
  unfold F9
  refine .bd (g := fun (y : S_Net) => (A.agg [(A.imm (List.map c_S_Packet y.Queue) false), (A.imm (List.map c_A2_int_i64 y.Apart) false)])) (h16 ()) fun y1 => ?_
  refine .st (v := ((A.ptr 0 0), [Blk.box [(A.imm [] true), (A.imm [] true)]])) (by kernel_rfl) ?_
  refine .st (v := [Blk.box [(A.imm (List.map c_S_Packet y1.Queue) false), (A.imm (List.map c_A2_int_i64 y1.Apart) false)]]) (by kernel_rfl) ?_
  refine .st (v := (A.agg [(A.imm (List.map c_S_Packet y1.Queue) false), (A.imm (List.map c_A2_int_i64 y1.Apart) false)])) (by kernel_rfl) ?_
  refine .bd (g := fun (y : (S_Packet × S_Net × Int)) => (A.tup [(A.agg [(A.v (Value.int .i64 y.1.From)), (A.v (Value.int .i64 y.1.To)), (A.imm (List.map c8 y.1.Data) false)]), (A.agg [(A.imm (List.map c_S_Packet y.2.1.Queue) false), (A.imm (List.map c_A2_int_i64 y.2.1.Apart) false)]), (A.v (Value.int .i64 y.2.2))])) (by simp only [snap, snapW, snapWs, snapWss, snapWss_map, trim, List.map_cons, List.map_nil, fl_cI, fl_c8, fl_cB, fl_cS, fl_cL, fl_S_kinespherelaw06_Move, fl_S_Packet, fl_A2_int_i64, fl_S_Net]; exact h18 y1 0) fun y2 => ?_
  refine .st (v := (A.agg [(A.v (Value.int .i64 y2.1.From)), (A.v (Value.int .i64 y2.1.To)), (A.imm (List.map c8 y2.1.Data) false)])) (by kernel_rfl) ?_
  refine .st (v := (A.agg [(A.imm (List.map c_S_Packet y2.2.1.Queue) false), (A.imm (List.map c_A2_int_i64 y2.2.1.Apart) false)])) (by kernel_rfl) ?_
  refine .st (v := (A.v (Value.int .i64 y2.2.2))) (by kernel_rfl) ?_
  refine .st (v := ((A.ptr 1 0), [Blk.box [(A.imm (List.map c_S_Packet y1.Queue) false), (A.imm (List.map c_A2_int_i64 y1.Apart) false)], Blk.box [(A.v (Value.int .i64 0)), (A.v (Value.int .i64 0)), (A.imm [] true)]])) (by kernel_rfl) ?_
  refine .st (v := ((A.ptr 2 0), [Blk.box [(A.imm (List.map c_S_Packet y1.Queue) false), (A.imm (List.map c_A2_int_i64 y1.Apart) false)], Blk.box [(A.v (Value.int .i64 0)), (A.v (Value.int .i64 0)), (A.imm [] true)], Blk.box [(A.imm [] true), (A.imm [] true)]])) (by kernel_rfl) ?_
  refine .st (v := [Blk.box [(A.imm (List.map c_S_Packet y1.Queue) false), (A.imm (List.map c_A2_int_i64 y1.Apart) false)], Blk.box [(A.v (Value.int .i64 y2.1.From)), (A.v (Value.int .i64 y2.1.To)), (A.imm (List.map c8 y2.1.Data) false)], Blk.box [(A.imm [] true), (A.imm [] true)]]) (by kernel_rfl) ?_
  refine .st (v := [Blk.box [(A.imm (List.map c_S_Packet y1.Queue) false), (A.imm (List.map c_A2_int_i64 y1.Apart) false)], Blk.box [(A.v (Value.int .i64 y2.1.From)), (A.v (Value.int .i64 y2.1.To)), (A.imm (List.map c8 y2.1.Data) false)], Blk.box [(A.imm (List.map c_S_Packet y2.2.1.Queue) false), (A.imm (List.map c_A2_int_i64 y2.2.1.Apart) false)]]) (by kernel_rfl) ?_
  refine .st (v := (A.agg [(A.imm (List.map c_S_Packet y1.Queue) false), (A.imm (List.map c_A2_int_i64 y1.Apart) false)])) (by kernel_rfl) ?_
  refine .st (v := (A.agg [(A.v (Value.int .i64 3)), (A.v (Value.int .i64 3)), (A.imm [] true)])) (by kernel_rfl) ?_
  refine .bd (g := fun (y : (S_Net × Int)) => (A.tup [(A.agg [(A.imm (List.map c_S_Packet y.1.Queue) false), (A.imm (List.map c_A2_int_i64 y.1.Apart) false)]), (A.v (Value.int .i64 y.2))])) (by simp only [snap, snapW, snapWs, snapWss, snapWss_map, trim, List.map_cons, List.map_nil, fl_cI, fl_c8, fl_cB, fl_cS, fl_cL, fl_S_kinespherelaw06_Move, fl_S_Packet, fl_A2_int_i64, fl_S_Net]; exact h11 y1 ((S_Packet.mk 3 3 ([])))) fun y3 => ?_
  refine .st (v := (A.agg [(A.imm (List.map c_S_Packet y3.1.Queue) false), (A.imm (List.map c_A2_int_i64 y3.1.Apart) false)])) (by kernel_rfl) ?_
  refine .st (v := (A.v (Value.int .i64 y3.2))) (by kernel_rfl) ?_
  refine .st (v := ((A.ptr 3 0), [Blk.box [(A.imm (List.map c_S_Packet y1.Queue) false), (A.imm (List.map c_A2_int_i64 y1.Apart) false)], Blk.box [(A.v (Value.int .i64 y2.1.From)), (A.v (Value.int .i64 y2.1.To)), (A.imm (List.map c8 y2.1.Data) false)], Blk.box [(A.imm (List.map c_S_Packet y2.2.1.Queue) false), (A.imm (List.map c_A2_int_i64 y2.2.1.Apart) false)], Blk.box [(A.imm [] true), (A.imm [] true)]])) (by kernel_rfl) ?_
  refine .st (v := [Blk.box [(A.imm (List.map c_S_Packet y1.Queue) false), (A.imm (List.map c_A2_int_i64 y1.Apart) false)], Blk.box [(A.v (Value.int .i64 y2.1.From)), (A.v (Value.int .i64 y2.1.To)), (A.imm (List.map c8 y2.1.Data) false)], Blk.box [(A.imm (List.map c_S_Packet y2.2.1.Queue) false), (A.imm (List.map c_A2_int_i64 y2.2.1.Apart) false)], Blk.box [(A.imm (List.map c_S_Packet y3.1.Queue) false), (A.imm (List.map c_A2_int_i64 y3.1.Apart) false)]]) (by kernel_rfl) ?_
  refine .st (v := (A.agg [(A.imm (List.map c_S_Packet y1.Queue) false), (A.imm (List.map c_A2_int_i64 y1.Apart) false)])) (by kernel_rfl) ?_
  refine .bd (g := fun (y : (S_Net × Int)) => (A.tup [(A.agg [(A.imm (List.map c_S_Packet y.1.Queue) false), (A.imm (List.map c_A2_int_i64 y.1.Apart) false)]), (A.v (Value.int .i64 y.2))])) (by simp only [snap, snapW, snapWs, snapWss, snapWss_map, trim, List.map_cons, List.map_nil, fl_cI, fl_c8, fl_cB, fl_cS, fl_cL, fl_S_kinespherelaw06_Move, fl_S_Packet, fl_A2_int_i64, fl_S_Net]; exact h20 y1 2 2 true) fun y4 => ?_
  refine .st (v := (A.agg [(A.imm (List.map c_S_Packet y4.1.Queue) false), (A.imm (List.map c_A2_int_i64 y4.1.Apart) false)])) (by kernel_rfl) ?_
  refine .st (v := (A.v (Value.int .i64 y4.2))) (by kernel_rfl) ?_
  refine .st (v := ((A.ptr 4 0), [Blk.box [(A.imm (List.map c_S_Packet y1.Queue) false), (A.imm (List.map c_A2_int_i64 y1.Apart) false)], Blk.box [(A.v (Value.int .i64 y2.1.From)), (A.v (Value.int .i64 y2.1.To)), (A.imm (List.map c8 y2.1.Data) false)], Blk.box [(A.imm (List.map c_S_Packet y2.2.1.Queue) false), (A.imm (List.map c_A2_int_i64 y2.2.1.Apart) false)], Blk.box [(A.imm (List.map c_S_Packet y3.1.Queue) false), (A.imm (List.map c_A2_int_i64 y3.1.Apart) false)], Blk.box [(A.imm [] true), (A.imm [] true)]])) (by kernel_rfl) ?_
  refine .st (v := [Blk.box [(A.imm (List.map c_S_Packet y1.Queue) false), (A.imm (List.map c_A2_int_i64 y1.Apart) false)], Blk.box [(A.v (Value.int .i64 y2.1.From)), (A.v (Value.int .i64 y2.1.To)), (A.imm (List.map c8 y2.1.Data) false)], Blk.box [(A.imm (List.map c_S_Packet y2.2.1.Queue) false), (A.imm (List.map c_A2_int_i64 y2.2.1.Apart) false)], Blk.box [(A.imm (List.map c_S_Packet y3.1.Queue) false), (A.imm (List.map c_A2_int_i64 y3.1.Apart) false)], Blk.box [(A.imm (List.map c_S_Packet y4.1.Queue) false), (A.imm (List.map c_A2_int_i64 y4.1.Apart) false)]]) (by kernel_rfl) ?_
  refine .st (v := (A.imm [[(A.v (Value.int .u8 7))]] true)) (by kernel_rfl) ?_
  refine .st (v := (A.agg [(A.v (Value.int .i64 1)), (A.v (Value.int .i64 3)), (A.imm [[(A.v (Value.int .u8 7))]] true)])) (by kernel_rfl) ?_
  refine .st (v := ((A.ptr 5 0), [Blk.box [(A.imm (List.map c_S_Packet y1.Queue) false), (A.imm (List.map c_A2_int_i64 y1.Apart) false)], Blk.box [(A.v (Value.int .i64 y2.1.From)), (A.v (Value.int .i64 y2.1.To)), (A.imm (List.map c8 y2.1.Data) false)], Blk.box [(A.imm (List.map c_S_Packet y2.2.1.Queue) false), (A.imm (List.map c_A2_int_i64 y2.2.1.Apart) false)], Blk.box [(A.imm (List.map c_S_Packet y3.1.Queue) false), (A.imm (List.map c_A2_int_i64 y3.1.Apart) false)], Blk.box [(A.imm (List.map c_S_Packet y4.1.Queue) false), (A.imm (List.map c_A2_int_i64 y4.1.Apart) false)], Blk.box [(A.v (Value.int .i64 0)), (A.v (Value.int .i64 0)), (A.imm [] true)]])) (by kernel_rfl) ?_
  refine .st (v := [Blk.box [(A.imm (List.map c_S_Packet y1.Queue) false), (A.imm (List.map c_A2_int_i64 y1.Apart) false)], Blk.box [(A.v (Value.int .i64 y2.1.From)), (A.v (Value.int .i64 y2.1.To)), (A.imm (List.map c8 y2.1.Data) false)], Blk.box [(A.imm (List.map c_S_Packet y2.2.1.Queue) false), (A.imm (List.map c_A2_int_i64 y2.2.1.Apart) false)], Blk.box [(A.imm (List.map c_S_Packet y3.1.Queue) false), (A.imm (List.map c_A2_int_i64 y3.1.Apart) false)], Blk.box [(A.imm (List.map c_S_Packet y4.1.Queue) false), (A.imm (List.map c_A2_int_i64 y4.1.Apart) false)], Blk.box [(A.v (Value.int .i64 1)), (A.v (Value.int .i64 3)), (A.imm [[(A.v (Value.int .u8 7))]] true)]]) (by kernel_rfl) ?_
  refine .st (v := (A.agg [(A.imm (List.map c_S_Packet y1.Queue) false), (A.imm (List.map c_A2_int_i64 y1.Apart) false)])) (by kernel_rfl) ?_
  refine .st (v := (A.agg [(A.v (Value.int .i64 1)), (A.v (Value.int .i64 3)), (A.imm [[(A.v (Value.int .u8 7))]] true)])) (by kernel_rfl) ?_
  refine .bd (g := fun (y : (S_Net × Int)) => (A.tup [(A.agg [(A.imm (List.map c_S_Packet y.1.Queue) false), (A.imm (List.map c_A2_int_i64 y.1.Apart) false)]), (A.v (Value.int .i64 y.2))])) (by simp only [snap, snapW, snapWs, snapWss, snapWss_map, trim, List.map_cons, List.map_nil, fl_cI, fl_c8, fl_cB, fl_cS, fl_cL, fl_S_kinespherelaw06_Move, fl_S_Packet, fl_A2_int_i64, fl_S_Net]; exact h11 y1 ((S_Packet.mk 1 3 ([(7 : UInt8)])))) fun y5 => ?_
  refine .st (v := (A.agg [(A.imm (List.map c_S_Packet y5.1.Queue) false), (A.imm (List.map c_A2_int_i64 y5.1.Apart) false)])) (by kernel_rfl) ?_
  refine .st (v := (A.v (Value.int .i64 y5.2))) (by kernel_rfl) ?_
  refine .st (v := ((A.ptr 6 0), [Blk.box [(A.imm (List.map c_S_Packet y1.Queue) false), (A.imm (List.map c_A2_int_i64 y1.Apart) false)], Blk.box [(A.v (Value.int .i64 y2.1.From)), (A.v (Value.int .i64 y2.1.To)), (A.imm (List.map c8 y2.1.Data) false)], Blk.box [(A.imm (List.map c_S_Packet y2.2.1.Queue) false), (A.imm (List.map c_A2_int_i64 y2.2.1.Apart) false)], Blk.box [(A.imm (List.map c_S_Packet y3.1.Queue) false), (A.imm (List.map c_A2_int_i64 y3.1.Apart) false)], Blk.box [(A.imm (List.map c_S_Packet y4.1.Queue) false), (A.imm (List.map c_A2_int_i64 y4.1.Apart) false)], Blk.box [(A.v (Value.int .i64 1)), (A.v (Value.int .i64 3)), (A.imm [[(A.v (Value.int .u8 7))]] true)], Blk.box [(A.imm [] true), (A.imm [] true)]])) (by kernel_rfl) ?_
  refine .st (v := [Blk.box [(A.imm (List.map c_S_Packet y1.Queue) false), (A.imm (List.map c_A2_int_i64 y1.Apart) false)], Blk.box [(A.v (Value.int .i64 y2.1.From)), (A.v (Value.int .i64 y2.1.To)), (A.imm (List.map c8 y2.1.Data) false)], Blk.box [(A.imm (List.map c_S_Packet y2.2.1.Queue) false), (A.imm (List.map c_A2_int_i64 y2.2.1.Apart) false)], Blk.box [(A.imm (List.map c_S_Packet y3.1.Queue) false), (A.imm (List.map c_A2_int_i64 y3.1.Apart) false)], Blk.box [(A.imm (List.map c_S_Packet y4.1.Queue) false), (A.imm (List.map c_A2_int_i64 y4.1.Apart) false)], Blk.box [(A.v (Value.int .i64 1)), (A.v (Value.int .i64 3)), (A.imm [[(A.v (Value.int .u8 7))]] true)], Blk.box [(A.imm (List.map c_S_Packet y5.1.Queue) false), (A.imm (List.map c_A2_int_i64 y5.1.Apart) false)]]) (by kernel_rfl) ?_
  refine .st (v := (A.agg [(A.imm (List.map c_S_Packet y5.1.Queue) false), (A.imm (List.map c_A2_int_i64 y5.1.Apart) false)])) (by kernel_rfl) ?_
  refine .bd (g := fun (y : (S_Net × Int)) => (A.tup [(A.agg [(A.imm (List.map c_S_Packet y.1.Queue) false), (A.imm (List.map c_A2_int_i64 y.1.Apart) false)]), (A.v (Value.int .i64 y.2))])) (by simp only [snap, snapW, snapWs, snapWss, snapWss_map, trim, List.map_cons, List.map_nil, fl_cI, fl_c8, fl_cB, fl_cS, fl_cL, fl_S_kinespherelaw06_Move, fl_S_Packet, fl_A2_int_i64, fl_S_Net]; exact h25 y5.1 0) fun y6 => ?_
  refine .st (v := (A.agg [(A.imm (List.map c_S_Packet y6.1.Queue) false), (A.imm (List.map c_A2_int_i64 y6.1.Apart) false)])) (by kernel_rfl) ?_
  refine .st (v := (A.v (Value.int .i64 y6.2))) (by kernel_rfl) ?_
  refine .st (v := ((A.ptr 7 0), [Blk.box [(A.imm (List.map c_S_Packet y1.Queue) false), (A.imm (List.map c_A2_int_i64 y1.Apart) false)], Blk.box [(A.v (Value.int .i64 y2.1.From)), (A.v (Value.int .i64 y2.1.To)), (A.imm (List.map c8 y2.1.Data) false)], Blk.box [(A.imm (List.map c_S_Packet y2.2.1.Queue) false), (A.imm (List.map c_A2_int_i64 y2.2.1.Apart) false)], Blk.box [(A.imm (List.map c_S_Packet y3.1.Queue) false), (A.imm (List.map c_A2_int_i64 y3.1.Apart) false)], Blk.box [(A.imm (List.map c_S_Packet y4.1.Queue) false), (A.imm (List.map c_A2_int_i64 y4.1.Apart) false)], Blk.box [(A.v (Value.int .i64 1)), (A.v (Value.int .i64 3)), (A.imm [[(A.v (Value.int .u8 7))]] true)], Blk.box [(A.imm (List.map c_S_Packet y5.1.Queue) false), (A.imm (List.map c_A2_int_i64 y5.1.Apart) false)], Blk.box [(A.imm [] true), (A.imm [] true)]])) (by kernel_rfl) ?_
  refine .st (v := [Blk.box [(A.imm (List.map c_S_Packet y1.Queue) false), (A.imm (List.map c_A2_int_i64 y1.Apart) false)], Blk.box [(A.v (Value.int .i64 y2.1.From)), (A.v (Value.int .i64 y2.1.To)), (A.imm (List.map c8 y2.1.Data) false)], Blk.box [(A.imm (List.map c_S_Packet y2.2.1.Queue) false), (A.imm (List.map c_A2_int_i64 y2.2.1.Apart) false)], Blk.box [(A.imm (List.map c_S_Packet y3.1.Queue) false), (A.imm (List.map c_A2_int_i64 y3.1.Apart) false)], Blk.box [(A.imm (List.map c_S_Packet y4.1.Queue) false), (A.imm (List.map c_A2_int_i64 y4.1.Apart) false)], Blk.box [(A.v (Value.int .i64 1)), (A.v (Value.int .i64 3)), (A.imm [[(A.v (Value.int .u8 7))]] true)], Blk.box [(A.imm (List.map c_S_Packet y5.1.Queue) false), (A.imm (List.map c_A2_int_i64 y5.1.Apart) false)], Blk.box [(A.imm (List.map c_S_Packet y6.1.Queue) false), (A.imm (List.map c_A2_int_i64 y6.1.Apart) false)]]) (by kernel_rfl) ?_
  refine .st (v := (A.agg [(A.imm (List.map c_S_Packet y6.1.Queue) false), (A.imm (List.map c_A2_int_i64 y6.1.Apart) false)])) (by kernel_rfl) ?_
  refine .bd (g := fun (y : (S_Net × Int)) => (A.tup [(A.agg [(A.imm (List.map c_S_Packet y.1.Queue) false), (A.imm (List.map c_A2_int_i64 y.1.Apart) false)]), (A.v (Value.int .i64 y.2))])) (by simp only [snap, snapW, snapWs, snapWss, snapWss_map, trim, List.map_cons, List.map_nil, fl_cI, fl_c8, fl_cB, fl_cS, fl_cL, fl_S_kinespherelaw06_Move, fl_S_Packet, fl_A2_int_i64, fl_S_Net]; exact h20 y6.1 3 1 true) fun y7 => ?_
  refine .st (v := (A.agg [(A.imm (List.map c_S_Packet y7.1.Queue) false), (A.imm (List.map c_A2_int_i64 y7.1.Apart) false)])) (by kernel_rfl) ?_
  refine .st (v := (A.v (Value.int .i64 y7.2))) (by kernel_rfl) ?_
  refine .st (v := ((A.ptr 8 0), [Blk.box [(A.imm (List.map c_S_Packet y1.Queue) false), (A.imm (List.map c_A2_int_i64 y1.Apart) false)], Blk.box [(A.v (Value.int .i64 y2.1.From)), (A.v (Value.int .i64 y2.1.To)), (A.imm (List.map c8 y2.1.Data) false)], Blk.box [(A.imm (List.map c_S_Packet y2.2.1.Queue) false), (A.imm (List.map c_A2_int_i64 y2.2.1.Apart) false)], Blk.box [(A.imm (List.map c_S_Packet y3.1.Queue) false), (A.imm (List.map c_A2_int_i64 y3.1.Apart) false)], Blk.box [(A.imm (List.map c_S_Packet y4.1.Queue) false), (A.imm (List.map c_A2_int_i64 y4.1.Apart) false)], Blk.box [(A.v (Value.int .i64 1)), (A.v (Value.int .i64 3)), (A.imm [[(A.v (Value.int .u8 7))]] true)], Blk.box [(A.imm (List.map c_S_Packet y5.1.Queue) false), (A.imm (List.map c_A2_int_i64 y5.1.Apart) false)], Blk.box [(A.imm (List.map c_S_Packet y6.1.Queue) false), (A.imm (List.map c_A2_int_i64 y6.1.Apart) false)], Blk.box [(A.imm [] true), (A.imm [] true)]])) (by kernel_rfl) ?_
  refine .st (v := [Blk.box [(A.imm (List.map c_S_Packet y1.Queue) false), (A.imm (List.map c_A2_int_i64 y1.Apart) false)], Blk.box [(A.v (Value.int .i64 y2.1.From)), (A.v (Value.int .i64 y2.1.To)), (A.imm (List.map c8 y2.1.Data) false)], Blk.box [(A.imm (List.map c_S_Packet y2.2.1.Queue) false), (A.imm (List.map c_A2_int_i64 y2.2.1.Apart) false)], Blk.box [(A.imm (List.map c_S_Packet y3.1.Queue) false), (A.imm (List.map c_A2_int_i64 y3.1.Apart) false)], Blk.box [(A.imm (List.map c_S_Packet y4.1.Queue) false), (A.imm (List.map c_A2_int_i64 y4.1.Apart) false)], Blk.box [(A.v (Value.int .i64 1)), (A.v (Value.int .i64 3)), (A.imm [[(A.v (Value.int .u8 7))]] true)], Blk.box [(A.imm (List.map c_S_Packet y5.1.Queue) false), (A.imm (List.map c_A2_int_i64 y5.1.Apart) false)], Blk.box [(A.imm (List.map c_S_Packet y6.1.Queue) false), (A.imm (List.map c_A2_int_i64 y6.1.Apart) false)], Blk.box [(A.imm (List.map c_S_Packet y7.1.Queue) false), (A.imm (List.map c_A2_int_i64 y7.1.Apart) false)]]) (by kernel_rfl) ?_
  refine .st (v := (A.agg [(A.imm (List.map c_S_Packet y6.1.Queue) false), (A.imm (List.map c_A2_int_i64 y6.1.Apart) false)])) (by kernel_rfl) ?_
  refine .bd (g := fun (y : (S_Packet × S_Net × Int)) => (A.tup [(A.agg [(A.v (Value.int .i64 y.1.From)), (A.v (Value.int .i64 y.1.To)), (A.imm (List.map c8 y.1.Data) false)]), (A.agg [(A.imm (List.map c_S_Packet y.2.1.Queue) false), (A.imm (List.map c_A2_int_i64 y.2.1.Apart) false)]), (A.v (Value.int .i64 y.2.2))])) (by simp only [snap, snapW, snapWs, snapWss, snapWss_map, trim, List.map_cons, List.map_nil, fl_cI, fl_c8, fl_cB, fl_cS, fl_cL, fl_S_kinespherelaw06_Move, fl_S_Packet, fl_A2_int_i64, fl_S_Net]; exact h18 y6.1 0) fun y8 => ?_
  refine .st (v := (A.agg [(A.v (Value.int .i64 y8.1.From)), (A.v (Value.int .i64 y8.1.To)), (A.imm (List.map c8 y8.1.Data) false)])) (by kernel_rfl) ?_
  refine .st (v := (A.agg [(A.imm (List.map c_S_Packet y8.2.1.Queue) false), (A.imm (List.map c_A2_int_i64 y8.2.1.Apart) false)])) (by kernel_rfl) ?_
  refine .st (v := (A.v (Value.int .i64 y8.2.2))) (by kernel_rfl) ?_
  refine .st (v := ((A.ptr 9 0), [Blk.box [(A.imm (List.map c_S_Packet y1.Queue) false), (A.imm (List.map c_A2_int_i64 y1.Apart) false)], Blk.box [(A.v (Value.int .i64 y2.1.From)), (A.v (Value.int .i64 y2.1.To)), (A.imm (List.map c8 y2.1.Data) false)], Blk.box [(A.imm (List.map c_S_Packet y2.2.1.Queue) false), (A.imm (List.map c_A2_int_i64 y2.2.1.Apart) false)], Blk.box [(A.imm (List.map c_S_Packet y3.1.Queue) false), (A.imm (List.map c_A2_int_i64 y3.1.Apart) false)], Blk.box [(A.imm (List.map c_S_Packet y4.1.Queue) false), (A.imm (List.map c_A2_int_i64 y4.1.Apart) false)], Blk.box [(A.v (Value.int .i64 1)), (A.v (Value.int .i64 3)), (A.imm [[(A.v (Value.int .u8 7))]] true)], Blk.box [(A.imm (List.map c_S_Packet y5.1.Queue) false), (A.imm (List.map c_A2_int_i64 y5.1.Apart) false)], Blk.box [(A.imm (List.map c_S_Packet y6.1.Queue) false), (A.imm (List.map c_A2_int_i64 y6.1.Apart) false)], Blk.box [(A.imm (List.map c_S_Packet y7.1.Queue) false), (A.imm (List.map c_A2_int_i64 y7.1.Apart) false)], Blk.box [(A.v (Value.int .i64 0)), (A.v (Value.int .i64 0)), (A.imm [] true)]])) (by kernel_rfl) ?_
  refine .st (v := ((A.ptr 10 0), [Blk.box [(A.imm (List.map c_S_Packet y1.Queue) false), (A.imm (List.map c_A2_int_i64 y1.Apart) false)], Blk.box [(A.v (Value.int .i64 y2.1.From)), (A.v (Value.int .i64 y2.1.To)), (A.imm (List.map c8 y2.1.Data) false)], Blk.box [(A.imm (List.map c_S_Packet y2.2.1.Queue) false), (A.imm (List.map c_A2_int_i64 y2.2.1.Apart) false)], Blk.box [(A.imm (List.map c_S_Packet y3.1.Queue) false), (A.imm (List.map c_A2_int_i64 y3.1.Apart) false)], Blk.box [(A.imm (List.map c_S_Packet y4.1.Queue) false), (A.imm (List.map c_A2_int_i64 y4.1.Apart) false)], Blk.box [(A.v (Value.int .i64 1)), (A.v (Value.int .i64 3)), (A.imm [[(A.v (Value.int .u8 7))]] true)], Blk.box [(A.imm (List.map c_S_Packet y5.1.Queue) false), (A.imm (List.map c_A2_int_i64 y5.1.Apart) false)], Blk.box [(A.imm (List.map c_S_Packet y6.1.Queue) false), (A.imm (List.map c_A2_int_i64 y6.1.Apart) false)], Blk.box [(A.imm (List.map c_S_Packet y7.1.Queue) false), (A.imm (List.map c_A2_int_i64 y7.1.Apart) false)], Blk.box [(A.v (Value.int .i64 0)), (A.v (Value.int .i64 0)), (A.imm [] true)], Blk.box [(A.imm [] true), (A.imm [] true)]])) (by kernel_rfl) ?_
  refine .st (v := [Blk.box [(A.imm (List.map c_S_Packet y1.Queue) false), (A.imm (List.map c_A2_int_i64 y1.Apart) false)], Blk.box [(A.v (Value.int .i64 y2.1.From)), (A.v (Value.int .i64 y2.1.To)), (A.imm (List.map c8 y2.1.Data) false)], Blk.box [(A.imm (List.map c_S_Packet y2.2.1.Queue) false), (A.imm (List.map c_A2_int_i64 y2.2.1.Apart) false)], Blk.box [(A.imm (List.map c_S_Packet y3.1.Queue) false), (A.imm (List.map c_A2_int_i64 y3.1.Apart) false)], Blk.box [(A.imm (List.map c_S_Packet y4.1.Queue) false), (A.imm (List.map c_A2_int_i64 y4.1.Apart) false)], Blk.box [(A.v (Value.int .i64 1)), (A.v (Value.int .i64 3)), (A.imm [[(A.v (Value.int .u8 7))]] true)], Blk.box [(A.imm (List.map c_S_Packet y5.1.Queue) false), (A.imm (List.map c_A2_int_i64 y5.1.Apart) false)], Blk.box [(A.imm (List.map c_S_Packet y6.1.Queue) false), (A.imm (List.map c_A2_int_i64 y6.1.Apart) false)], Blk.box [(A.imm (List.map c_S_Packet y7.1.Queue) false), (A.imm (List.map c_A2_int_i64 y7.1.Apart) false)], Blk.box [(A.v (Value.int .i64 y8.1.From)), (A.v (Value.int .i64 y8.1.To)), (A.imm (List.map c8 y8.1.Data) false)], Blk.box [(A.imm [] true), (A.imm [] true)]]) (by kernel_rfl) ?_
  refine .st (v := [Blk.box [(A.imm (List.map c_S_Packet y1.Queue) false), (A.imm (List.map c_A2_int_i64 y1.Apart) false)], Blk.box [(A.v (Value.int .i64 y2.1.From)), (A.v (Value.int .i64 y2.1.To)), (A.imm (List.map c8 y2.1.Data) false)], Blk.box [(A.imm (List.map c_S_Packet y2.2.1.Queue) false), (A.imm (List.map c_A2_int_i64 y2.2.1.Apart) false)], Blk.box [(A.imm (List.map c_S_Packet y3.1.Queue) false), (A.imm (List.map c_A2_int_i64 y3.1.Apart) false)], Blk.box [(A.imm (List.map c_S_Packet y4.1.Queue) false), (A.imm (List.map c_A2_int_i64 y4.1.Apart) false)], Blk.box [(A.v (Value.int .i64 1)), (A.v (Value.int .i64 3)), (A.imm [[(A.v (Value.int .u8 7))]] true)], Blk.box [(A.imm (List.map c_S_Packet y5.1.Queue) false), (A.imm (List.map c_A2_int_i64 y5.1.Apart) false)], Blk.box [(A.imm (List.map c_S_Packet y6.1.Queue) false), (A.imm (List.map c_A2_int_i64 y6.1.Apart) false)], Blk.box [(A.imm (List.map c_S_Packet y7.1.Queue) false), (A.imm (List.map c_A2_int_i64 y7.1.Apart) false)], Blk.box [(A.v (Value.int .i64 y8.1.From)), (A.v (Value.int .i64 y8.1.To)), (A.imm (List.map c8 y8.1.Data) false)], Blk.box [(A.imm (List.map c_S_Packet y8.2.1.Queue) false), (A.imm (List.map c_A2_int_i64 y8.2.1.Apart) false)]]) (by kernel_rfl) ?_
  refine .st (v := (A.agg [(A.imm (List.map c_S_Packet y7.1.Queue) false), (A.imm (List.map c_A2_int_i64 y7.1.Apart) false)])) (by kernel_rfl) ?_
  refine .bd (g := fun (y : (S_Packet × S_Net × Int)) => (A.tup [(A.agg [(A.v (Value.int .i64 y.1.From)), (A.v (Value.int .i64 y.1.To)), (A.imm (List.map c8 y.1.Data) false)]), (A.agg [(A.imm (List.map c_S_Packet y.2.1.Queue) false), (A.imm (List.map c_A2_int_i64 y.2.1.Apart) false)]), (A.v (Value.int .i64 y.2.2))])) (by simp only [snap, snapW, snapWs, snapWss, snapWss_map, trim, List.map_cons, List.map_nil, fl_cI, fl_c8, fl_cB, fl_cS, fl_cL, fl_S_kinespherelaw06_Move, fl_S_Packet, fl_A2_int_i64, fl_S_Net]; exact h18 y7.1 1) fun y9 => ?_
  refine .st (v := (A.agg [(A.v (Value.int .i64 y9.1.From)), (A.v (Value.int .i64 y9.1.To)), (A.imm (List.map c8 y9.1.Data) false)])) (by kernel_rfl) ?_
  refine .st (v := (A.agg [(A.imm (List.map c_S_Packet y9.2.1.Queue) false), (A.imm (List.map c_A2_int_i64 y9.2.1.Apart) false)])) (by kernel_rfl) ?_
  refine .st (v := (A.v (Value.int .i64 y9.2.2))) (by kernel_rfl) ?_
  refine .st (v := ((A.ptr 11 0), [Blk.box [(A.imm (List.map c_S_Packet y1.Queue) false), (A.imm (List.map c_A2_int_i64 y1.Apart) false)], Blk.box [(A.v (Value.int .i64 y2.1.From)), (A.v (Value.int .i64 y2.1.To)), (A.imm (List.map c8 y2.1.Data) false)], Blk.box [(A.imm (List.map c_S_Packet y2.2.1.Queue) false), (A.imm (List.map c_A2_int_i64 y2.2.1.Apart) false)], Blk.box [(A.imm (List.map c_S_Packet y3.1.Queue) false), (A.imm (List.map c_A2_int_i64 y3.1.Apart) false)], Blk.box [(A.imm (List.map c_S_Packet y4.1.Queue) false), (A.imm (List.map c_A2_int_i64 y4.1.Apart) false)], Blk.box [(A.v (Value.int .i64 1)), (A.v (Value.int .i64 3)), (A.imm [[(A.v (Value.int .u8 7))]] true)], Blk.box [(A.imm (List.map c_S_Packet y5.1.Queue) false), (A.imm (List.map c_A2_int_i64 y5.1.Apart) false)], Blk.box [(A.imm (List.map c_S_Packet y6.1.Queue) false), (A.imm (List.map c_A2_int_i64 y6.1.Apart) false)], Blk.box [(A.imm (List.map c_S_Packet y7.1.Queue) false), (A.imm (List.map c_A2_int_i64 y7.1.Apart) false)], Blk.box [(A.v (Value.int .i64 y8.1.From)), (A.v (Value.int .i64 y8.1.To)), (A.imm (List.map c8 y8.1.Data) false)], Blk.box [(A.imm (List.map c_S_Packet y8.2.1.Queue) false), (A.imm (List.map c_A2_int_i64 y8.2.1.Apart) false)], Blk.box [(A.v (Value.int .i64 0)), (A.v (Value.int .i64 0)), (A.imm [] true)]])) (by kernel_rfl) ?_
  refine .st (v := ((A.ptr 12 0), [Blk.box [(A.imm (List.map c_S_Packet y1.Queue) false), (A.imm (List.map c_A2_int_i64 y1.Apart) false)], Blk.box [(A.v (Value.int .i64 y2.1.From)), (A.v (Value.int .i64 y2.1.To)), (A.imm (List.map c8 y2.1.Data) false)], Blk.box [(A.imm (List.map c_S_Packet y2.2.1.Queue) false), (A.imm (List.map c_A2_int_i64 y2.2.1.Apart) false)], Blk.box [(A.imm (List.map c_S_Packet y3.1.Queue) false), (A.imm (List.map c_A2_int_i64 y3.1.Apart) false)], Blk.box [(A.imm (List.map c_S_Packet y4.1.Queue) false), (A.imm (List.map c_A2_int_i64 y4.1.Apart) false)], Blk.box [(A.v (Value.int .i64 1)), (A.v (Value.int .i64 3)), (A.imm [[(A.v (Value.int .u8 7))]] true)], Blk.box [(A.imm (List.map c_S_Packet y5.1.Queue) false), (A.imm (List.map c_A2_int_i64 y5.1.Apart) false)], Blk.box [(A.imm (List.map c_S_Packet y6.1.Queue) false), (A.imm (List.map c_A2_int_i64 y6.1.Apart) false)], Blk.box [(A.imm (List.map c_S_Packet y7.1.Queue) false), (A.imm (List.map c_A2_int_i64 y7.1.Apart) false)], Blk.box [(A.v (Value.int .i64 y8.1.From)), (A.v (Value.int .i64 y8.1.To)), (A.imm (List.map c8 y8.1.Data) false)], Blk.box [(A.imm (List.map c_S_Packet y8.2.1.Queue) false), (A.imm (List.map c_A2_int_i64 y8.2.1.Apart) false)], Blk.box [(A.v (Value.int .i64 0)), (A.v (Value.int .i64 0)), (A.imm [] true)], Blk.box [(A.imm [] true), (A.imm [] true)]])) (by kernel_rfl) ?_
  refine .st (v := [Blk.box [(A.imm (List.map c_S_Packet y1.Queue) false), (A.imm (List.map c_A2_int_i64 y1.Apart) false)], Blk.box [(A.v (Value.int .i64 y2.1.From)), (A.v (Value.int .i64 y2.1.To)), (A.imm (List.map c8 y2.1.Data) false)], Blk.box [(A.imm (List.map c_S_Packet y2.2.1.Queue) false), (A.imm (List.map c_A2_int_i64 y2.2.1.Apart) false)], Blk.box [(A.imm (List.map c_S_Packet y3.1.Queue) false), (A.imm (List.map c_A2_int_i64 y3.1.Apart) false)], Blk.box [(A.imm (List.map c_S_Packet y4.1.Queue) false), (A.imm (List.map c_A2_int_i64 y4.1.Apart) false)], Blk.box [(A.v (Value.int .i64 1)), (A.v (Value.int .i64 3)), (A.imm [[(A.v (Value.int .u8 7))]] true)], Blk.box [(A.imm (List.map c_S_Packet y5.1.Queue) false), (A.imm (List.map c_A2_int_i64 y5.1.Apart) false)], Blk.box [(A.imm (List.map c_S_Packet y6.1.Queue) false), (A.imm (List.map c_A2_int_i64 y6.1.Apart) false)], Blk.box [(A.imm (List.map c_S_Packet y7.1.Queue) false), (A.imm (List.map c_A2_int_i64 y7.1.Apart) false)], Blk.box [(A.v (Value.int .i64 y8.1.From)), (A.v (Value.int .i64 y8.1.To)), (A.imm (List.map c8 y8.1.Data) false)], Blk.box [(A.imm (List.map c_S_Packet y8.2.1.Queue) false), (A.imm (List.map c_A2_int_i64 y8.2.1.Apart) false)], Blk.box [(A.v (Value.int .i64 y9.1.From)), (A.v (Value.int .i64 y9.1.To)), (A.imm (List.map c8 y9.1.Data) false)], Blk.box [(A.imm [] true), (A.imm [] true)]]) (by kernel_rfl) ?_
  refine .st (v := [Blk.box [(A.imm (List.map c_S_Packet y1.Queue) false), (A.imm (List.map c_A2_int_i64 y1.Apart) false)], Blk.box [(A.v (Value.int .i64 y2.1.From)), (A.v (Value.int .i64 y2.1.To)), (A.imm (List.map c8 y2.1.Data) false)], Blk.box [(A.imm (List.map c_S_Packet y2.2.1.Queue) false), (A.imm (List.map c_A2_int_i64 y2.2.1.Apart) false)], Blk.box [(A.imm (List.map c_S_Packet y3.1.Queue) false), (A.imm (List.map c_A2_int_i64 y3.1.Apart) false)], Blk.box [(A.imm (List.map c_S_Packet y4.1.Queue) false), (A.imm (List.map c_A2_int_i64 y4.1.Apart) false)], Blk.box [(A.v (Value.int .i64 1)), (A.v (Value.int .i64 3)), (A.imm [[(A.v (Value.int .u8 7))]] true)], Blk.box [(A.imm (List.map c_S_Packet y5.1.Queue) false), (A.imm (List.map c_A2_int_i64 y5.1.Apart) false)], Blk.box [(A.imm (List.map c_S_Packet y6.1.Queue) false), (A.imm (List.map c_A2_int_i64 y6.1.Apart) false)], Blk.box [(A.imm (List.map c_S_Packet y7.1.Queue) false), (A.imm (List.map c_A2_int_i64 y7.1.Apart) false)], Blk.box [(A.v (Value.int .i64 y8.1.From)), (A.v (Value.int .i64 y8.1.To)), (A.imm (List.map c8 y8.1.Data) false)], Blk.box [(A.imm (List.map c_S_Packet y8.2.1.Queue) false), (A.imm (List.map c_A2_int_i64 y8.2.1.Apart) false)], Blk.box [(A.v (Value.int .i64 y9.1.From)), (A.v (Value.int .i64 y9.1.To)), (A.imm (List.map c8 y9.1.Data) false)], Blk.box [(A.imm (List.map c_S_Packet y9.2.1.Queue) false), (A.imm (List.map c_A2_int_i64 y9.2.1.Apart) false)]]) (by kernel_rfl) ?_
  refine .st (v := (A.agg [(A.imm (List.map c_S_Packet y1.Queue) false), (A.imm (List.map c_A2_int_i64 y1.Apart) false)])) (by kernel_rfl) ?_
  refine .bd (g := fun (y : Int) => (A.v (Value.int .i64 y))) (by simp only [snap, snapW, snapWs, snapWss, snapWss_map, trim, List.map_cons, List.map_nil, fl_cI, fl_c8, fl_cB, fl_cS, fl_cL, fl_S_kinespherelaw06_Move, fl_S_Packet, fl_A2_int_i64, fl_S_Net]; exact h13 y1) fun y10 => ?_
  refine .st (v := (A.v (Value.bool (y10 == 0)))) (aBin_eql ..) ?_
  refine .bg (fun t (y : Bool) => ∃ j13 j14 : A, t = [(A.v (Value.bool y)), j13, j14]) ?_ ?_
  · refine .biH (fun hk11 => ?_) (fun hk11 => ?_)
    · refine .st (v := (A.v (Value.bool (y2.2.2 == 1)))) (aBin_eql ..) ?_
      exact .lg ⟨_, _, rfl⟩
    · exact .lg ⟨_, _, rfl⟩
  rintro _ y12 ⟨j13, j14, rfl⟩
  iterate 3 refine .uc ?_
  refine .bg (fun t (y : Bool) => ∃ j17 j18 : A, t = [(A.v (Value.bool y)), j17, j18]) ?_ ?_
  · refine .biH (fun hk15 => ?_) (fun hk15 => ?_)
    · refine .st (v := (A.v (Value.bool (y3.2 == 60)))) (aBin_eql ..) ?_
      exact .lg ⟨_, _, rfl⟩
    · exact .lg ⟨_, _, rfl⟩
  rintro _ y16 ⟨j17, j18, rfl⟩
  iterate 3 refine .uc ?_
  refine .bg (fun t (y : Bool) => ∃ j21 j22 : A, t = [(A.v (Value.bool y)), j21, j22]) ?_ ?_
  · refine .biH (fun hk19 => ?_) (fun hk19 => ?_)
    · refine .st (v := (A.v (Value.bool (y4.2 == 1)))) (aBin_eql ..) ?_
      exact .lg ⟨_, _, rfl⟩
    · exact .lg ⟨_, _, rfl⟩
  rintro _ y20 ⟨j21, j22, rfl⟩
  iterate 3 refine .uc ?_
  refine .bg (fun t (y : Bool) => ∃ j25 j26 : A, t = [(A.v (Value.bool y)), j25, j26]) ?_ ?_
  · refine .biH (fun hk23 => ?_) (fun hk23 => ?_)
    · refine .st (v := (A.v (Value.bool (y5.2 == 0)))) (aBin_eql ..) ?_
      exact .lg ⟨_, _, rfl⟩
    · exact .lg ⟨_, _, rfl⟩
  rintro _ y24 ⟨j25, j26, rfl⟩
  iterate 3 refine .uc ?_
  refine .bg (fun t (y : Bool) => ∃ j29 j30 : A, t = [(A.v (Value.bool y)), j29, j30]) ?_ ?_
  · refine .biH (fun hk27 => ?_) (fun hk27 => ?_)
    · refine .st (v := (A.v (Value.bool (y6.2 == 0)))) (aBin_eql ..) ?_
      exact .lg ⟨_, _, rfl⟩
    · exact .lg ⟨_, _, rfl⟩
  rintro _ y28 ⟨j29, j30, rfl⟩
  iterate 3 refine .uc ?_
  refine .bg (fun t (y : Bool) => ∃ j33 j34 : A, t = [(A.v (Value.bool y)), j33, j34]) ?_ ?_
  · refine .biH (fun hk31 => ?_) (fun hk31 => ?_)
    · refine .st (v := (A.v (Value.bool (y7.2 == 0)))) (aBin_eql ..) ?_
      exact .lg ⟨_, _, rfl⟩
    · exact .lg ⟨_, _, rfl⟩
  rintro _ y32 ⟨j33, j34, rfl⟩
  iterate 3 refine .uc ?_
  refine .bg (fun t (y : Bool) => ∃ j37 j38 : A, t = [(A.v (Value.bool y)), j37, j38]) ?_ ?_
  · refine .biH (fun hk35 => ?_) (fun hk35 => ?_)
    · refine .st (v := (A.v (Value.bool (y8.2.2 == 0)))) (aBin_eql ..) ?_
      exact .lg ⟨_, _, rfl⟩
    · exact .lg ⟨_, _, rfl⟩
  rintro _ y36 ⟨j37, j38, rfl⟩
  iterate 3 refine .uc ?_
  refine .bg (fun t (y : Bool) => ∃ j41 j42 : A, t = [(A.v (Value.bool y)), j41, j42]) ?_ ?_
  · refine .biH (fun hk39 => ?_) (fun hk39 => ?_)
    · refine .st (v := (A.v (Value.bool (y9.2.2 == 0)))) (aBin_eql ..) ?_
      exact .lg ⟨_, _, rfl⟩
    · exact .lg ⟨_, _, rfl⟩
  rintro _ y40 ⟨j41, j42, rfl⟩
  iterate 3 refine .uc ?_
  refine .bg (fun t (y : Bool) => ∃ j46 j47 j48 : A, t = [(A.v (Value.bool y)), j46, j47, j48]) ?_ ?_
  · refine .biH (fun hk43 => ?_) (fun hk43 => ?_)
    · refine .st (v := (A.agg [(A.v (Value.int .i64 1)), (A.v (Value.int .i64 3)), (A.imm [[(A.v (Value.int .u8 7))]] true)])) (by kernel_rfl) ?_
      refine .st (v := (A.agg [(A.v (Value.int .i64 y8.1.From)), (A.v (Value.int .i64 y8.1.To)), (A.imm (List.map c8 y8.1.Data) false)])) (by kernel_rfl) ?_
      refine .bd (g := fun (y : Bool) => (A.v (Value.bool y))) (by simp only [snap, snapW, snapWs, snapWss, snapWss_map, trim, List.map_cons, List.map_nil, fl_cI, fl_c8, fl_cB, fl_cS, fl_cL, fl_S_kinespherelaw06_Move, fl_S_Packet, fl_A2_int_i64, fl_S_Net]; exact h19 ((S_Packet.mk 1 3 ([(7 : UInt8)]))) y8.1) fun y44 => ?_
      exact .lg ⟨_, _, _, rfl⟩
    · exact .lg ⟨_, _, _, rfl⟩
  rintro _ y45 ⟨j46, j47, j48, rfl⟩
  iterate 4 refine .uc ?_
  refine .bg (fun t (y : Bool) => ∃ j52 j53 j54 : A, t = [(A.v (Value.bool y)), j52, j53, j54]) ?_ ?_
  · refine .biH (fun hk49 => ?_) (fun hk49 => ?_)
    · refine .st (v := (A.agg [(A.v (Value.int .i64 y9.1.From)), (A.v (Value.int .i64 y9.1.To)), (A.imm (List.map c8 y9.1.Data) false)])) (by kernel_rfl) ?_
      refine .st (v := (A.agg [(A.v (Value.int .i64 0)), (A.v (Value.int .i64 0)), (A.imm [] true)])) (by kernel_rfl) ?_
      refine .bd (g := fun (y : Bool) => (A.v (Value.bool y))) (by simp only [snap, snapW, snapWs, snapWss, snapWss_map, trim, List.map_cons, List.map_nil, fl_cI, fl_c8, fl_cB, fl_cS, fl_cL, fl_S_kinespherelaw06_Move, fl_S_Packet, fl_A2_int_i64, fl_S_Net]; exact h19 y9.1 ((S_Packet.mk 0 0 ([])))) fun y50 => ?_
      exact .lg ⟨_, _, _, rfl⟩
    · exact .lg ⟨_, _, _, rfl⟩
  rintro _ y51 ⟨j52, j53, j54, rfl⟩
  iterate 4 refine .uc ?_
  refine .bg (fun t (y : Bool) => ∃ j58 j59 j60 : A, t = [(A.v (Value.bool y)), j58, j59, j60]) ?_ ?_
  · refine .biH (fun hk55 => ?_) (fun hk55 => ?_)
    · refine .st (v := (A.agg [(A.imm (List.map c_S_Packet y8.2.1.Queue) false), (A.imm (List.map c_A2_int_i64 y8.2.1.Apart) false)])) (by kernel_rfl) ?_
      refine .st (v := (A.agg [(A.imm (List.map c_S_Packet y5.1.Queue) false), (A.imm (List.map c_A2_int_i64 y5.1.Apart) false)])) (by kernel_rfl) ?_
      refine .bd (g := fun (y : Bool) => (A.v (Value.bool y))) (by simp only [snap, snapW, snapWs, snapWss, snapWss_map, trim, List.map_cons, List.map_nil, fl_cI, fl_c8, fl_cB, fl_cS, fl_cL, fl_S_kinespherelaw06_Move, fl_S_Packet, fl_A2_int_i64, fl_S_Net]; exact h15 y8.2.1 y5.1) fun y56 => ?_
      exact .lg ⟨_, _, _, rfl⟩
    · exact .lg ⟨_, _, _, rfl⟩
  rintro _ y57 ⟨j58, j59, j60, rfl⟩
  iterate 4 refine .uc ?_
  refine .bg (fun t (y : Bool) => ∃ j63 j64 j65 j66 : A, t = [(A.v (Value.bool y)), j63, j64, j65, j66]) ?_ ?_
  · refine .biH (fun hk61 => ?_) (fun hk61 => ?_)
    · refine .st (v := (A.ptr 8 1)) (by kernel_rfl) ?_
      refine .st (v := (A.imm (List.map c_A2_int_i64 y7.1.Apart) false)) (by kernel_rfl) ?_
      refine .st (v := (A.v (Value.int .i64 ((y7.1.Apart.length : Int))))) (len_imm (e := 55) (h1 := by kernel_rfl) ..) ?_
      refine .st (v := (A.v (Value.bool (((y7.1.Apart.length : Int)) == 1)))) (aBin_eql ..) ?_
      exact .lg ⟨_, _, _, _, rfl⟩
    · exact .lg ⟨_, _, _, _, rfl⟩
  rintro _ y62 ⟨j63, j64, j65, j66, rfl⟩
  iterate 5 refine .uc ?_
  refine .bg (fun t (y : Bool) => ∃ j70 j71 j72 j73 j74 j75 : A, t = [(A.v (Value.bool y)), j70, j71, j72, j73, j74, j75]) ?_ ?_
  · refine .biH (fun hk67 => ?_) (fun hk67 => ?_)
    · refine .st (v := (A.ptr 8 1)) (by kernel_rfl) ?_
      refine .st (v := (A.imm (List.map c_A2_int_i64 y7.1.Apart) false)) (by kernel_rfl) ?_
      refine .bd (g := fun (y : (Int × Int)) => A.ip (c_A2_int_i64 y)) (idx_imm (e := 55) (es := 2) (h1 := by kernel_rfl) (h2 := by kernel_rfl) (h3 := fun _ => rfl) ..) fun y68 => ?_
      refine .st (v := (A.agg [(A.v (Value.int .i64 y68.1)), (A.v (Value.int .i64 y68.2))])) (by kernel_rfl) ?_
      refine .st (v := (A.agg [(A.v (Value.int .i64 1)), (A.v (Value.int .i64 3))])) (by kernel_rfl) ?_
      refine .st (v := (A.v (Value.bool (((y68.1 == 1) && (y68.2 == 3)))))) (by kernel_rfl) ?_
      exact .lg ⟨_, _, _, _, _, _, rfl⟩
    · exact .lg ⟨_, _, _, _, _, _, rfl⟩
  rintro _ y69 ⟨j70, j71, j72, j73, j74, j75, rfl⟩
  iterate 7 refine .uc ?_
  refine .bg (fun t (y : Bool) => ∃ j78 j79 j80 j81 : A, t = [(A.v (Value.bool y)), j78, j79, j80, j81]) ?_ ?_
  · refine .biH (fun hk76 => ?_) (fun hk76 => ?_)
    · refine .st (v := (A.ptr 8 0)) (by kernel_rfl) ?_
      refine .st (v := (A.imm (List.map c_S_Packet y7.1.Queue) false)) (by kernel_rfl) ?_
      refine .st (v := (A.v (Value.int .i64 ((y7.1.Queue.length : Int))))) (len_imm (e := 28) (h1 := by kernel_rfl) ..) ?_
      refine .st (v := (A.v (Value.bool (((y7.1.Queue.length : Int)) == 2)))) (aBin_eql ..) ?_
      exact .lg ⟨_, _, _, _, rfl⟩
    · exact .lg ⟨_, _, _, _, rfl⟩
  rintro _ y77 ⟨j78, j79, j80, j81, rfl⟩
  iterate 5 refine .uc ?_
  exact .lf rfl rfl ⟨_, rfl, rfl⟩

def G9  : Option Bool := F9 fuel0 

def Orc9 (C : Nat → List A → Option A) : Prop := ∀ (_ : Unit), C 9 [] = (G9 ).map fun y => (A.v (Value.bool y))

def F23 (n : Nat) (a0 : S_Net) (a1 : Int) : Option (S_Net × Int) :=
  Option.bind (G35 a0 a1) fun y1 => bif (y1.2 != 0) then (some (((S_Net.mk ([]) ([])), y1.2))) else (Option.bind (G38 a0 a1) fun y3 => some ((y3, 0)))

theorem T23 (C : Nat → List A → Option A) (n : Nat) (h35 : Orc35 C) (h38 : Orc38 C) (a0 : S_Net) (a1 : Int) : J (fun (o : R) y => ∃ v, o.1 = .ret v ∧ snapE o.2 v = (A.tup [(A.agg [(A.imm (List.map c_S_Packet y.1.Queue) false), (A.imm (List.map c_A2_int_i64 y.1.Apart) false)]), (A.v (Value.int .i64 y.2))])) (evCall1 (cx C) (evCall (cx C) (n+8)) (evCallY (cx C) (n+8)) (n+8) 23 [(A.agg [(A.imm (List.map c_S_Packet a0.Queue) false), (A.imm (List.map c_A2_int_i64 a0.Apart) false)]), (A.v (Value.int .i64 a1))] [] 0) some (F23 n a0 a1) some := by
  refine .lp (e23 ..) ?_
  unfold F23
  refine .st (v := ((A.ptr 0 0), [Blk.box [(A.imm (List.map c_S_Packet a0.Queue) false), (A.imm (List.map c_A2_int_i64 a0.Apart) false)]])) (by kernel_rfl) ?_
  refine .st (v := ((A.ptr 1 0), [Blk.box [(A.imm (List.map c_S_Packet a0.Queue) false), (A.imm (List.map c_A2_int_i64 a0.Apart) false)], Blk.box [(A.imm [] true), (A.imm [] true)]])) (by kernel_rfl) ?_
  refine .st (v := (A.agg [(A.imm (List.map c_S_Packet a0.Queue) false), (A.imm (List.map c_A2_int_i64 a0.Apart) false)])) (by kernel_rfl) ?_
  refine .bd (g := fun (y : (S_Packet × Int)) => (A.tup [(A.agg [(A.v (Value.int .i64 y.1.From)), (A.v (Value.int .i64 y.1.To)), (A.imm (List.map c8 y.1.Data) false)]), (A.v (Value.int .i64 y.2))])) (by simp only [snap, snapW, snapWs, snapWss, snapWss_map, trim, List.map_cons, List.map_nil, fl_cI, fl_c8, fl_cB, fl_cS, fl_cL, fl_S_kinespherelaw06_Move, fl_S_Packet, fl_A2_int_i64, fl_S_Net]; exact h35 a0 a1) fun y1 => ?_
  refine .st (v := (A.agg [(A.v (Value.int .i64 y1.1.From)), (A.v (Value.int .i64 y1.1.To)), (A.imm (List.map c8 y1.1.Data) false)])) (by kernel_rfl) ?_
  refine .st (v := (A.v (Value.int .i64 y1.2))) (by kernel_rfl) ?_
  refine .st (v := (A.v (Value.bool (y1.2 != 0)))) (aBin_neq ..) ?_
  refine .biH (fun hk2 => ?_) (fun hk2 => ?_)
  · refine .st (v := (A.agg [(A.imm [] true), (A.imm [] true)])) (by kernel_rfl) ?_
    refine .st (v := [Blk.box [(A.imm (List.map c_S_Packet a0.Queue) false), (A.imm (List.map c_A2_int_i64 a0.Apart) false)], Blk.box [(A.imm [] true), (A.imm [] true)]]) (by kernel_rfl) ?_
    refine .st (v := (A.agg [(A.imm [] true), (A.imm [] true)])) (by kernel_rfl) ?_
    exact .lf rfl rfl ⟨_, rfl, by simp only [snap, snapW, snapWs, snapWss, snapWss_map, trim, List.map_cons, List.map_nil, fl_cI, fl_c8, fl_cB, fl_cS, fl_cL, fl_S_kinespherelaw06_Move, fl_S_Packet, fl_A2_int_i64, fl_S_Net, snapE]⟩
  · refine .st (v := (A.agg [(A.imm (List.map c_S_Packet a0.Queue) false), (A.imm (List.map c_A2_int_i64 a0.Apart) false)])) (by kernel_rfl) ?_
    refine .bd (g := fun (y : S_Net) => (A.agg [(A.imm (List.map c_S_Packet y.Queue) false), (A.imm (List.map c_A2_int_i64 y.Apart) false)])) (by simp only [snap, snapW, snapWs, snapWss, snapWss_map, trim, List.map_cons, List.map_nil, fl_cI, fl_c8, fl_cB, fl_cS, fl_cL, fl_S_kinespherelaw06_Move, fl_S_Packet, fl_A2_int_i64, fl_S_Net]; exact h38 a0 a1) fun y3 => ?_
    refine .st (v := [Blk.box [(A.imm (List.map c_S_Packet a0.Queue) false), (A.imm (List.map c_A2_int_i64 a0.Apart) false)], Blk.box [(A.imm (List.map c_S_Packet y3.Queue) false), (A.imm (List.map c_A2_int_i64 y3.Apart) false)]]) (by kernel_rfl) ?_
    refine .st (v := (A.agg [(A.imm (List.map c_S_Packet y3.Queue) false), (A.imm (List.map c_A2_int_i64 y3.Apart) false)])) (by kernel_rfl) ?_
    exact .lf rfl rfl ⟨_, rfl, by simp only [snap, snapW, snapWs, snapWss, snapWss_map, trim, List.map_cons, List.map_nil, fl_cI, fl_c8, fl_cB, fl_cS, fl_cL, fl_S_kinespherelaw06_Move, fl_S_Packet, fl_A2_int_i64, fl_S_Net, snapE]⟩

def G23 (a0 : S_Net) (a1 : Int) : Option (S_Net × Int) := F23 fuel0 a0 a1

def Orc23 (C : Nat → List A → Option A) : Prop := ∀ (a0 : S_Net) (a1 : Int), C 23 [(A.agg [(A.imm (List.map c_S_Packet a0.Queue) false), (A.imm (List.map c_A2_int_i64 a0.Apart) false)]), (A.v (Value.int .i64 a1))] = (G23 a0 a1).map fun y => (A.tup [(A.agg [(A.imm (List.map c_S_Packet y.1.Queue) false), (A.imm (List.map c_A2_int_i64 y.1.Apart) false)]), (A.v (Value.int .i64 y.2))])

end Go.Proofs.Ytgcobbhbfkjkeaa
