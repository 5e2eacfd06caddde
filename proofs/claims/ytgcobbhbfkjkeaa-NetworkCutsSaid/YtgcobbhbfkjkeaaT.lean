/-
  The program's functions as plain functions: by a tool; each follows the interpreter.
-/
import Derived.Test.YtgcobbhbfkjkeaaT2
import Derived.KernelRfl
namespace Go.Proofs.Ytgcobbhbfkjkeaa
set_option linter.unusedVariables false
set_option linter.unusedSimpArgs false
set_option maxHeartbeats 4000000
set_option maxRecDepth 100000
def F6_6_0 (n : Nat) (v14 : Bool) (v16 : (List S_Packet)) (v17 : (List (Int × Int))) (v18 : (List S_Packet)) (v19 : (List (Int × Int))) (v20 : (List S_Packet)) (v21 : (List (Int × Int))) : Nat → Int → (List Int) → Option ((List Int))
  | 0, _, _ => none
  | m + 1, v15, v22 => Option.bind (bif (decide (v15 < ((v16.length : Int)))) then (some (decide (v15 < 3))) else (some false)) fun y24 => bif y24 then (Option.bind (appI 8 v22 ([v15])) fun y28 => F6_6_0 n v14 v16 v17 v18 v19 v20 v21 m (wr .i64 (v15 + 1)) y28) else (some v22)

theorem T6_6_0 (C : Nat → List A → Option A) (n : Nat) (h10 : Orc10 C) (h15 : Orc15 C) (h18 : Orc18 C) (h19 : Orc19 C) (h20 : Orc20 C) (h21 : Orc21 C) (h22 : Orc22 C) (h23 : Orc23 C) (h24 : Orc24 C) (h25 : Orc25 C) (h26 : Orc26 C) (h9 : Orc9 C) (v14 : Bool) (v16 : (List S_Packet)) (v17 : (List (Int × Int))) (v18 : (List S_Packet)) (v19 : (List (Int × Int))) (v20 : (List S_Packet)) (v21 : (List (Int × Int))) {ρ γ : Type} {φ : ρ → γ → Prop} {kL : R → Option ρ} {K : ((List Int)) → Option γ} (kx kg : Nat → St → Option R) (kr : St → Option R) (kp : A → St → Option R) (x0 : ∀ (o0 : (List Int)) (s16 : A), J φ (kx 0 (St.mk [(5, (A.ptr 0 0)), (10, (A.v (Value.bool v14))), (15, (A.sl 3 0 o0.length false)), (16, s16)] [Blk.box [(A.imm (List.map c_S_Packet v16) false), (A.imm (List.map c_A2_int_i64 v17) false)], Blk.box [(A.imm (List.map c_S_Packet v18) false), (A.imm (List.map c_A2_int_i64 v19) false)], Blk.box [(A.imm (List.map c_S_Packet v20) false), (A.imm (List.map c_A2_int_i64 v21) false)], Blk.row false 1 (List.map (cI .i64) o0)])) kL (K o0) some) :
    ∀ (m : Nat) (v15 : Int) (v22 : (List Int)), J φ (loopR (cx C) (evCall (cx C) (n+8)) (evCallY (cx C) (n+8)) (n+8) 6 0 0 4 kx kg kr kp m (St.mk [(5, (A.ptr 0 0)), (10, (A.v (Value.bool v14))), (15, (A.sl 3 0 v22.length false)), (16, (A.v (Value.int .i64 v15)))] [Blk.box [(A.imm (List.map c_S_Packet v16) false), (A.imm (List.map c_A2_int_i64 v17) false)], Blk.box [(A.imm (List.map c_S_Packet v18) false), (A.imm (List.map c_A2_int_i64 v19) false)], Blk.box [(A.imm (List.map c_S_Packet v20) false), (A.imm (List.map c_A2_int_i64 v21) false)], Blk.row false 1 (List.map (cI .i64) v22)])) kL (F6_6_0 n v14 v16 v17 v18 v19 v20 v21 m v15 v22) K := by
  intro m
  induction m with
  | zero => intros; exact .nn
  | succ m ih =>
    intro v15 v22
    refine .lp (e6_0 ..) ?_
    unfold F6_6_0
    refine .st (v := (A.ptr 0 0)) (by kernel_rfl) ?_
    refine .st (v := (A.imm (List.map c_S_Packet v16) false)) (by kernel_rfl) ?_
    refine .st (v := (A.v (Value.int .i64 ((v16.length : Int))))) (len_imm (e := 28) (h1 := by kernel_rfl) ..) ?_
    refine .st (v := (A.v (Value.bool (decide (v15 < ((v16.length : Int))))))) (aBin_lss ..) ?_
    refine .bg (fun t (y : Bool) => ∃ j25 j26 : A, t = [(A.v (Value.bool y)), j25, j26]) ?_ ?_
    · refine .biH (fun hk23 => ?_) (fun hk23 => ?_)
      · refine .st (v := (A.v (Value.bool (decide (v15 < 3))))) (aBin_lss ..) ?_
        exact .lg ⟨_, _, rfl⟩
      · exact .lg ⟨_, _, rfl⟩
    rintro _ y24 ⟨j25, j26, rfl⟩
    iterate 3 refine .uc ?_
    refine .biH (fun hk27 => ?_) (fun hk27 => ?_)
    · refine .st (v := (A.imm [[(A.v (Value.int .i64 v15))]] true)) (by kernel_rfl) ?_
      refine .bd (g := fun (y : List Int) => ((A.sl 3 0 y.length false), [Blk.box [(A.imm (List.map c_S_Packet v16) false), (A.imm (List.map c_A2_int_i64 v17) false)], Blk.box [(A.imm (List.map c_S_Packet v18) false), (A.imm (List.map c_A2_int_i64 v19) false)], Blk.box [(A.imm (List.map c_S_Packet v20) false), (A.imm (List.map c_A2_int_i64 v21) false)], Blk.row false 1 (List.map (cI .i64) y)])) (app_row (e := 3) (es := 1) (by_ := 8) (z := [(A.v (Value.int .i64 0))]) (by kernel_rfl) (by kernel_rfl) (by kernel_rfl) (by kernel_rfl) rfl (by decide) (by decide) (by kernel_rfl) (f := (cI .i64)) (fun _ => rfl) (ce_cI _) (l := v22) (l2 := [v15]) (b := 3) rfl (by decide) (els_imm (f := (cI .i64)) ([v15] : List Int) _ _)) fun y28 => ?_
      refine .st (v := (A.v (Value.int .i64 (wr .i64 (v15 + 1))))) (aBin_add ..) ?_
      refine .st (v := [Blk.box [(A.imm (List.map c_S_Packet v16) false), (A.imm (List.map c_A2_int_i64 v17) false)], Blk.box [(A.imm (List.map c_S_Packet v18) false), (A.imm (List.map c_A2_int_i64 v19) false)], Blk.box [(A.imm (List.map c_S_Packet v20) false), (A.imm (List.map c_A2_int_i64 v21) false)], Blk.row false 1 (List.map (cI .i64) y28)]) (by kernel_rfl) ?_
      refine .cT (by kernel_rfl) ?_
      exact ih _ _
    · exact .ex (x0 _ _)

def F6_6_1 (n : Nat) (v32 : Bool) (v33 : Int) (v35 : (List S_Packet)) (v36 : (List (Int × Int))) (v37 : (List S_Packet)) (v38 : (List (Int × Int))) (v39 : (List S_Packet)) (v40 : (List (Int × Int))) (v41 : (List Int)) : Nat → Int → Option ((Bool × Int × Int × (List UInt8) × (List S_Packet) × (List (Int × Int)) × Int × Int × (List UInt8) × (List S_Packet) × (List (Int × Int))) ⊕ (Unit))
  | 0, _ => none
  | m + 1, v34 => bif (decide (v34 < v33)) then (Option.bind (getI v41 v34) fun y43 => Option.bind (G18 ((S_Net.mk v35 v36)) y43) fun y44 => Option.bind (G22 ((S_Net.mk v35 v36)) y43) fun y45 => Option.bind (G19 y44.1 y45.1) fun y46 => Option.bind (bif (!y46) then (some true) else (Option.bind (G15 y44.2.1 y45.2.1) fun y48 => some (!y48))) fun y49 => Option.bind (bif y49 then (some true) else (some (y44.2.2 != y45.2.2))) fun y55 => bif y55 then (some ((Sum.inl ((false, y44.1.From, y44.1.To, y44.1.Data, y44.2.1.Queue, y44.2.1.Apart, y45.1.From, y45.1.To, y45.1.Data, y45.2.1.Queue, y45.2.1.Apart))))) else (Option.bind (G23 ((S_Net.mk v35 v36)) y43) fun y60 => Option.bind (G24 ((S_Net.mk v35 v36)) y43) fun y61 => Option.bind (G15 y60.1 y61.1) fun y62 => Option.bind (bif (!y62) then (some true) else (some (y60.2 != y61.2))) fun y64 => bif y64 then (some ((Sum.inl ((false, y44.1.From, y44.1.To, y44.1.Data, y60.1.Queue, y60.1.Apart, y45.1.From, y45.1.To, y45.1.Data, y61.1.Queue, y61.1.Apart))))) else (Option.bind (G25 ((S_Net.mk v35 v36)) y43) fun y69 => Option.bind (G26 ((S_Net.mk v35 v36)) y43) fun y70 => Option.bind (G15 y69.1 y70.1) fun y71 => Option.bind (bif (!y71) then (some true) else (some (y69.2 != y70.2))) fun y73 => bif y73 then (some ((Sum.inl ((false, y44.1.From, y44.1.To, y44.1.Data, y69.1.Queue, y69.1.Apart, y45.1.From, y45.1.To, y45.1.Data, y70.1.Queue, y70.1.Apart))))) else (F6_6_1 n v32 v33 v35 v36 v37 v38 v39 v40 v41 m (wr .i64 (v34 + 1)))))) else (some ((Sum.inr (()))))

theorem T6_6_1 (C : Nat → List A → Option A) (n : Nat) (h10 : Orc10 C) (h15 : Orc15 C) (h18 : Orc18 C) (h19 : Orc19 C) (h20 : Orc20 C) (h21 : Orc21 C) (h22 : Orc22 C) (h23 : Orc23 C) (h24 : Orc24 C) (h25 : Orc25 C) (h26 : Orc26 C) (h9 : Orc9 C) (v32 : Bool) (v33 : Int) (v35 : (List S_Packet)) (v36 : (List (Int × Int))) (v37 : (List S_Packet)) (v38 : (List (Int × Int))) (v39 : (List S_Packet)) (v40 : (List (Int × Int))) (v41 : (List Int)) {ρ γ : Type} {φ : ρ → γ → Prop} {kL : R → Option ρ} {K : ((Bool × Int × Int × (List UInt8) × (List S_Packet) × (List (Int × Int)) × Int × Int × (List UInt8) × (List S_Packet) × (List (Int × Int))) ⊕ (Unit)) → Option γ} (kx kg : Nat → St → Option R) (kr : St → Option R) (kp : A → St → Option R) (x0 : ∀ (o0 : Bool) (o1 : Int) (o2 : Int) (o3 : (List UInt8)) (o4 : (List S_Packet)) (o5 : (List (Int × Int))) (o6 : Int) (o7 : Int) (o8 : (List UInt8)) (o9 : (List S_Packet)) (o10 : (List (Int × Int))) (s5 : A) (s72 : A) (s73 : A) (s74 : A), J φ (kr (St.mk [(5, s5), (10, (A.v (Value.bool o0))), (72, s72), (73, s73), (74, s74)] [Blk.box [(A.imm (List.map c_S_Packet v35) false), (A.imm (List.map c_A2_int_i64 v36) false)], Blk.box [(A.imm (List.map c_S_Packet v37) false), (A.imm (List.map c_A2_int_i64 v38) false)], Blk.box [(A.imm (List.map c_S_Packet v39) false), (A.imm (List.map c_A2_int_i64 v40) false)], Blk.row false 1 (List.map (cI .i64) v41), Blk.box [(A.v (Value.int .i64 o1)), (A.v (Value.int .i64 o2)), (A.imm (List.map c8 o3) false)], Blk.box [(A.imm (List.map c_S_Packet o4) false), (A.imm (List.map c_A2_int_i64 o5) false)], Blk.box [(A.v (Value.int .i64 o6)), (A.v (Value.int .i64 o7)), (A.imm (List.map c8 o8) false)], Blk.box [(A.imm (List.map c_S_Packet o9) false), (A.imm (List.map c_A2_int_i64 o10) false)]])) kL (K (Sum.inl ((o0, o1, o2, o3, o4, o5, o6, o7, o8, o9, o10)))) some) (x1 : ∀ (s5 : A) (s10 : A) (s72 : A) (s73 : A) (s74 : A), J φ (kx 2 (St.mk [(5, s5), (10, s10), (72, s72), (73, s73), (74, s74)] [Blk.box [(A.imm (List.map c_S_Packet v35) false), (A.imm (List.map c_A2_int_i64 v36) false)], Blk.box [(A.imm (List.map c_S_Packet v37) false), (A.imm (List.map c_A2_int_i64 v38) false)], Blk.box [(A.imm (List.map c_S_Packet v39) false), (A.imm (List.map c_A2_int_i64 v40) false)], Blk.row false 1 (List.map (cI .i64) v41)])) kL (K (Sum.inr (()))) some) :
    ∀ (m : Nat) (v34 : Int), J φ (loopR (cx C) (evCall (cx C) (n+8)) (evCallY (cx C) (n+8)) (n+8) 6 0 1 4 kx kg kr kp m (St.mk [(5, (A.ptr 0 0)), (10, (A.v (Value.bool v32))), (72, (A.sl 3 0 v41.length false)), (73, (A.v (Value.int .i64 v33))), (74, (A.v (Value.int .i64 v34)))] [Blk.box [(A.imm (List.map c_S_Packet v35) false), (A.imm (List.map c_A2_int_i64 v36) false)], Blk.box [(A.imm (List.map c_S_Packet v37) false), (A.imm (List.map c_A2_int_i64 v38) false)], Blk.box [(A.imm (List.map c_S_Packet v39) false), (A.imm (List.map c_A2_int_i64 v40) false)], Blk.row false 1 (List.map (cI .i64) v41)])) kL (F6_6_1 n v32 v33 v35 v36 v37 v38 v39 v40 v41 m v34) K := by
  intro m
  induction m with
  | zero => intros; exact .nn
  | succ m ih =>
    intro v34
    refine .lp (e6_1 ..) ?_
    unfold F6_6_1
    refine .st (v := (A.v (Value.bool (decide (v34 < v33))))) (aBin_lss ..) ?_
    refine .biH (fun hk42 => ?_) (fun hk42 => ?_)
    · refine .bd (g := fun (y : Int) => A.ip ((cI .i64) y)) (row_idx (e := 3) (es := 1) (l := v41) (by kernel_rfl) (by kernel_rfl) rfl) fun y43 => ?_
      refine .st (v := (A.v (Value.int .i64 y43))) (by kernel_rfl) ?_
      refine .st (v := (A.agg [(A.imm (List.map c_S_Packet v35) false), (A.imm (List.map c_A2_int_i64 v36) false)])) (by kernel_rfl) ?_
      refine .bd (g := fun (y : (S_Packet × S_Net × Int)) => (A.tup [(A.agg [(A.v (Value.int .i64 y.1.From)), (A.v (Value.int .i64 y.1.To)), (A.imm (List.map c8 y.1.Data) false)]), (A.agg [(A.imm (List.map c_S_Packet y.2.1.Queue) false), (A.imm (List.map c_A2_int_i64 y.2.1.Apart) false)]), (A.v (Value.int .i64 y.2.2))])) (by simp only [snap, snapW, snapWs, snapWss, snapWss_map, trim, List.map_cons, List.map_nil, fl_cI, fl_c8, fl_cB, fl_cS, fl_cL, fl_S_Packet, fl_A2_int_i64, fl_S_Net, fl_S_kinespherelaw06_Move, snapG_row (H := [Blk.box [(A.imm (List.map c_S_Packet v35) false), (A.imm (List.map c_A2_int_i64 v36) false)], Blk.box [(A.imm (List.map c_S_Packet v37) false), (A.imm (List.map c_A2_int_i64 v38) false)], Blk.box [(A.imm (List.map c_S_Packet v39) false), (A.imm (List.map c_A2_int_i64 v40) false)], Blk.row false 1 (List.map (cI .i64) v41)]) (b := 3) (es := 1) (l := v41) (fl_cI _) rfl]; exact h18 ((S_Net.mk v35 v36)) y43) fun y44 => ?_
      refine .st (v := (A.agg [(A.v (Value.int .i64 y44.1.From)), (A.v (Value.int .i64 y44.1.To)), (A.imm (List.map c8 y44.1.Data) false)])) (by kernel_rfl) ?_
      refine .st (v := (A.agg [(A.imm (List.map c_S_Packet y44.2.1.Queue) false), (A.imm (List.map c_A2_int_i64 y44.2.1.Apart) false)])) (by kernel_rfl) ?_
      refine .st (v := (A.v (Value.int .i64 y44.2.2))) (by kernel_rfl) ?_
      refine .st (v := ((A.ptr 4 0), [Blk.box [(A.imm (List.map c_S_Packet v35) false), (A.imm (List.map c_A2_int_i64 v36) false)], Blk.box [(A.imm (List.map c_S_Packet v37) false), (A.imm (List.map c_A2_int_i64 v38) false)], Blk.box [(A.imm (List.map c_S_Packet v39) false), (A.imm (List.map c_A2_int_i64 v40) false)], Blk.row false 1 (List.map (cI .i64) v41), Blk.box [(A.v (Value.int .i64 0)), (A.v (Value.int .i64 0)), (A.imm [] true)]])) (by kernel_rfl) ?_
      refine .st (v := ((A.ptr 5 0), [Blk.box [(A.imm (List.map c_S_Packet v35) false), (A.imm (List.map c_A2_int_i64 v36) false)], Blk.box [(A.imm (List.map c_S_Packet v37) false), (A.imm (List.map c_A2_int_i64 v38) false)], Blk.box [(A.imm (List.map c_S_Packet v39) false), (A.imm (List.map c_A2_int_i64 v40) false)], Blk.row false 1 (List.map (cI .i64) v41), Blk.box [(A.v (Value.int .i64 0)), (A.v (Value.int .i64 0)), (A.imm [] true)], Blk.box [(A.imm [] true), (A.imm [] true)]])) (by kernel_rfl) ?_
      refine .st (v := [Blk.box [(A.imm (List.map c_S_Packet v35) false), (A.imm (List.map c_A2_int_i64 v36) false)], Blk.box [(A.imm (List.map c_S_Packet v37) false), (A.imm (List.map c_A2_int_i64 v38) false)], Blk.box [(A.imm (List.map c_S_Packet v39) false), (A.imm (List.map c_A2_int_i64 v40) false)], Blk.row false 1 (List.map (cI .i64) v41), Blk.box [(A.v (Value.int .i64 y44.1.From)), (A.v (Value.int .i64 y44.1.To)), (A.imm (List.map c8 y44.1.Data) false)], Blk.box [(A.imm [] true), (A.imm [] true)]]) (by kernel_rfl) ?_
      refine .st (v := [Blk.box [(A.imm (List.map c_S_Packet v35) false), (A.imm (List.map c_A2_int_i64 v36) false)], Blk.box [(A.imm (List.map c_S_Packet v37) false), (A.imm (List.map c_A2_int_i64 v38) false)], Blk.box [(A.imm (List.map c_S_Packet v39) false), (A.imm (List.map c_A2_int_i64 v40) false)], Blk.row false 1 (List.map (cI .i64) v41), Blk.box [(A.v (Value.int .i64 y44.1.From)), (A.v (Value.int .i64 y44.1.To)), (A.imm (List.map c8 y44.1.Data) false)], Blk.box [(A.imm (List.map c_S_Packet y44.2.1.Queue) false), (A.imm (List.map c_A2_int_i64 y44.2.1.Apart) false)]]) (by kernel_rfl) ?_
      refine .st (v := (A.agg [(A.imm (List.map c_S_Packet v35) false), (A.imm (List.map c_A2_int_i64 v36) false)])) (by kernel_rfl) ?_
      refine .bd (g := fun (y : (S_Packet × S_Net × Int)) => (A.tup [(A.agg [(A.v (Value.int .i64 y.1.From)), (A.v (Value.int .i64 y.1.To)), (A.imm (List.map c8 y.1.Data) false)]), (A.agg [(A.imm (List.map c_S_Packet y.2.1.Queue) false), (A.imm (List.map c_A2_int_i64 y.2.1.Apart) false)]), (A.v (Value.int .i64 y.2.2))])) (by simp only [snap, snapW, snapWs, snapWss, snapWss_map, trim, List.map_cons, List.map_nil, fl_cI, fl_c8, fl_cB, fl_cS, fl_cL, fl_S_Packet, fl_A2_int_i64, fl_S_Net, fl_S_kinespherelaw06_Move, snapG_row (H := [Blk.box [(A.imm (List.map c_S_Packet v35) false), (A.imm (List.map c_A2_int_i64 v36) false)], Blk.box [(A.imm (List.map c_S_Packet v37) false), (A.imm (List.map c_A2_int_i64 v38) false)], Blk.box [(A.imm (List.map c_S_Packet v39) false), (A.imm (List.map c_A2_int_i64 v40) false)], Blk.row false 1 (List.map (cI .i64) v41), Blk.box [(A.v (Value.int .i64 y44.1.From)), (A.v (Value.int .i64 y44.1.To)), (A.imm (List.map c8 y44.1.Data) false)], Blk.box [(A.imm (List.map c_S_Packet y44.2.1.Queue) false), (A.imm (List.map c_A2_int_i64 y44.2.1.Apart) false)]]) (b := 3) (es := 1) (l := v41) (fl_cI _) rfl]; exact h22 ((S_Net.mk v35 v36)) y43) fun y45 => ?_
      refine .st (v := (A.agg [(A.v (Value.int .i64 y45.1.From)), (A.v (Value.int .i64 y45.1.To)), (A.imm (List.map c8 y45.1.Data) false)])) (by kernel_rfl) ?_
      refine .st (v := (A.agg [(A.imm (List.map c_S_Packet y45.2.1.Queue) false), (A.imm (List.map c_A2_int_i64 y45.2.1.Apart) false)])) (by kernel_rfl) ?_
      refine .st (v := (A.v (Value.int .i64 y45.2.2))) (by kernel_rfl) ?_
      refine .st (v := ((A.ptr 6 0), [Blk.box [(A.imm (List.map c_S_Packet v35) false), (A.imm (List.map c_A2_int_i64 v36) false)], Blk.box [(A.imm (List.map c_S_Packet v37) false), (A.imm (List.map c_A2_int_i64 v38) false)], Blk.box [(A.imm (List.map c_S_Packet v39) false), (A.imm (List.map c_A2_int_i64 v40) false)], Blk.row false 1 (List.map (cI .i64) v41), Blk.box [(A.v (Value.int .i64 y44.1.From)), (A.v (Value.int .i64 y44.1.To)), (A.imm (List.map c8 y44.1.Data) false)], Blk.box [(A.imm (List.map c_S_Packet y44.2.1.Queue) false), (A.imm (List.map c_A2_int_i64 y44.2.1.Apart) false)], Blk.box [(A.v (Value.int .i64 0)), (A.v (Value.int .i64 0)), (A.imm [] true)]])) (by kernel_rfl) ?_
      refine .st (v := ((A.ptr 7 0), [Blk.box [(A.imm (List.map c_S_Packet v35) false), (A.imm (List.map c_A2_int_i64 v36) false)], Blk.box [(A.imm (List.map c_S_Packet v37) false), (A.imm (List.map c_A2_int_i64 v38) false)], Blk.box [(A.imm (List.map c_S_Packet v39) false), (A.imm (List.map c_A2_int_i64 v40) false)], Blk.row false 1 (List.map (cI .i64) v41), Blk.box [(A.v (Value.int .i64 y44.1.From)), (A.v (Value.int .i64 y44.1.To)), (A.imm (List.map c8 y44.1.Data) false)], Blk.box [(A.imm (List.map c_S_Packet y44.2.1.Queue) false), (A.imm (List.map c_A2_int_i64 y44.2.1.Apart) false)], Blk.box [(A.v (Value.int .i64 0)), (A.v (Value.int .i64 0)), (A.imm [] true)], Blk.box [(A.imm [] true), (A.imm [] true)]])) (by kernel_rfl) ?_
      refine .st (v := [Blk.box [(A.imm (List.map c_S_Packet v35) false), (A.imm (List.map c_A2_int_i64 v36) false)], Blk.box [(A.imm (List.map c_S_Packet v37) false), (A.imm (List.map c_A2_int_i64 v38) false)], Blk.box [(A.imm (List.map c_S_Packet v39) false), (A.imm (List.map c_A2_int_i64 v40) false)], Blk.row false 1 (List.map (cI .i64) v41), Blk.box [(A.v (Value.int .i64 y44.1.From)), (A.v (Value.int .i64 y44.1.To)), (A.imm (List.map c8 y44.1.Data) false)], Blk.box [(A.imm (List.map c_S_Packet y44.2.1.Queue) false), (A.imm (List.map c_A2_int_i64 y44.2.1.Apart) false)], Blk.box [(A.v (Value.int .i64 y45.1.From)), (A.v (Value.int .i64 y45.1.To)), (A.imm (List.map c8 y45.1.Data) false)], Blk.box [(A.imm [] true), (A.imm [] true)]]) (by kernel_rfl) ?_
      refine .st (v := [Blk.box [(A.imm (List.map c_S_Packet v35) false), (A.imm (List.map c_A2_int_i64 v36) false)], Blk.box [(A.imm (List.map c_S_Packet v37) false), (A.imm (List.map c_A2_int_i64 v38) false)], Blk.box [(A.imm (List.map c_S_Packet v39) false), (A.imm (List.map c_A2_int_i64 v40) false)], Blk.row false 1 (List.map (cI .i64) v41), Blk.box [(A.v (Value.int .i64 y44.1.From)), (A.v (Value.int .i64 y44.1.To)), (A.imm (List.map c8 y44.1.Data) false)], Blk.box [(A.imm (List.map c_S_Packet y44.2.1.Queue) false), (A.imm (List.map c_A2_int_i64 y44.2.1.Apart) false)], Blk.box [(A.v (Value.int .i64 y45.1.From)), (A.v (Value.int .i64 y45.1.To)), (A.imm (List.map c8 y45.1.Data) false)], Blk.box [(A.imm (List.map c_S_Packet y45.2.1.Queue) false), (A.imm (List.map c_A2_int_i64 y45.2.1.Apart) false)]]) (by kernel_rfl) ?_
      refine .st (v := (A.agg [(A.v (Value.int .i64 y44.1.From)), (A.v (Value.int .i64 y44.1.To)), (A.imm (List.map c8 y44.1.Data) false)])) (by kernel_rfl) ?_
      refine .st (v := (A.agg [(A.v (Value.int .i64 y45.1.From)), (A.v (Value.int .i64 y45.1.To)), (A.imm (List.map c8 y45.1.Data) false)])) (by kernel_rfl) ?_
      refine .bd (g := fun (y : Bool) => (A.v (Value.bool y))) (by simp only [snap, snapW, snapWs, snapWss, snapWss_map, trim, List.map_cons, List.map_nil, fl_cI, fl_c8, fl_cB, fl_cS, fl_cL, fl_S_Packet, fl_A2_int_i64, fl_S_Net, fl_S_kinespherelaw06_Move, snapG_row (H := [Blk.box [(A.imm (List.map c_S_Packet v35) false), (A.imm (List.map c_A2_int_i64 v36) false)], Blk.box [(A.imm (List.map c_S_Packet v37) false), (A.imm (List.map c_A2_int_i64 v38) false)], Blk.box [(A.imm (List.map c_S_Packet v39) false), (A.imm (List.map c_A2_int_i64 v40) false)], Blk.row false 1 (List.map (cI .i64) v41), Blk.box [(A.v (Value.int .i64 y44.1.From)), (A.v (Value.int .i64 y44.1.To)), (A.imm (List.map c8 y44.1.Data) false)], Blk.box [(A.imm (List.map c_S_Packet y44.2.1.Queue) false), (A.imm (List.map c_A2_int_i64 y44.2.1.Apart) false)], Blk.box [(A.v (Value.int .i64 y45.1.From)), (A.v (Value.int .i64 y45.1.To)), (A.imm (List.map c8 y45.1.Data) false)], Blk.box [(A.imm (List.map c_S_Packet y45.2.1.Queue) false), (A.imm (List.map c_A2_int_i64 y45.2.1.Apart) false)]]) (b := 3) (es := 1) (l := v41) (fl_cI _) rfl]; exact h19 y44.1 y45.1) fun y46 => ?_
      refine .st (v := (A.v (Value.bool (!y46)))) (by kernel_rfl) ?_
      refine .bg (fun t (y : Bool) => ∃ j50 j51 j52 j53 : A, t = [(A.v (Value.bool y)), j50, j51, j52, j53]) ?_ ?_
      · refine .biH (fun hk47 => ?_) (fun hk47 => ?_)
        · exact .lg ⟨_, _, _, _, rfl⟩
        · refine .st (v := (A.agg [(A.imm (List.map c_S_Packet y44.2.1.Queue) false), (A.imm (List.map c_A2_int_i64 y44.2.1.Apart) false)])) (by kernel_rfl) ?_
          refine .st (v := (A.agg [(A.imm (List.map c_S_Packet y45.2.1.Queue) false), (A.imm (List.map c_A2_int_i64 y45.2.1.Apart) false)])) (by kernel_rfl) ?_
          refine .bd (g := fun (y : Bool) => (A.v (Value.bool y))) (by simp only [snap, snapW, snapWs, snapWss, snapWss_map, trim, List.map_cons, List.map_nil, fl_cI, fl_c8, fl_cB, fl_cS, fl_cL, fl_S_Packet, fl_A2_int_i64, fl_S_Net, fl_S_kinespherelaw06_Move, snapG_row (H := [Blk.box [(A.imm (List.map c_S_Packet v35) false), (A.imm (List.map c_A2_int_i64 v36) false)], Blk.box [(A.imm (List.map c_S_Packet v37) false), (A.imm (List.map c_A2_int_i64 v38) false)], Blk.box [(A.imm (List.map c_S_Packet v39) false), (A.imm (List.map c_A2_int_i64 v40) false)], Blk.row false 1 (List.map (cI .i64) v41), Blk.box [(A.v (Value.int .i64 y44.1.From)), (A.v (Value.int .i64 y44.1.To)), (A.imm (List.map c8 y44.1.Data) false)], Blk.box [(A.imm (List.map c_S_Packet y44.2.1.Queue) false), (A.imm (List.map c_A2_int_i64 y44.2.1.Apart) false)], Blk.box [(A.v (Value.int .i64 y45.1.From)), (A.v (Value.int .i64 y45.1.To)), (A.imm (List.map c8 y45.1.Data) false)], Blk.box [(A.imm (List.map c_S_Packet y45.2.1.Queue) false), (A.imm (List.map c_A2_int_i64 y45.2.1.Apart) false)]]) (b := 3) (es := 1) (l := v41) (fl_cI _) rfl]; exact h15 y44.2.1 y45.2.1) fun y48 => ?_
          refine .st (v := (A.v (Value.bool (!y48)))) (by kernel_rfl) ?_
          exact .lg ⟨_, _, _, _, rfl⟩
      rintro _ y49 ⟨j50, j51, j52, j53, rfl⟩
      iterate 5 refine .uc ?_
      refine .bg (fun t (y : Bool) => ∃ j56 j57 j58 : A, t = [(A.v (Value.bool y)), j56, j57, j58]) ?_ ?_
      · refine .biH (fun hk54 => ?_) (fun hk54 => ?_)
        · exact .lg ⟨_, _, _, rfl⟩
        · refine .st (v := (A.v (Value.bool (y44.2.2 != y45.2.2)))) (aBin_neq ..) ?_
          exact .lg ⟨_, _, _, rfl⟩
      rintro _ y55 ⟨j56, j57, j58, rfl⟩
      iterate 4 refine .uc ?_
      refine .biH (fun hk59 => ?_) (fun hk59 => ?_)
      · exact .ex (x0 _ _ _ _ _ _ _ _ _ _ _ _ _ _ _)
      · refine .st (v := (A.agg [(A.imm (List.map c_S_Packet v35) false), (A.imm (List.map c_A2_int_i64 v36) false)])) (by kernel_rfl) ?_
        refine .bd (g := fun (y : (S_Net × Int)) => (A.tup [(A.agg [(A.imm (List.map c_S_Packet y.1.Queue) false), (A.imm (List.map c_A2_int_i64 y.1.Apart) false)]), (A.v (Value.int .i64 y.2))])) (by simp only [snap, snapW, snapWs, snapWss, snapWss_map, trim, List.map_cons, List.map_nil, fl_cI, fl_c8, fl_cB, fl_cS, fl_cL, fl_S_Packet, fl_A2_int_i64, fl_S_Net, fl_S_kinespherelaw06_Move, snapG_row (H := [Blk.box [(A.imm (List.map c_S_Packet v35) false), (A.imm (List.map c_A2_int_i64 v36) false)], Blk.box [(A.imm (List.map c_S_Packet v37) false), (A.imm (List.map c_A2_int_i64 v38) false)], Blk.box [(A.imm (List.map c_S_Packet v39) false), (A.imm (List.map c_A2_int_i64 v40) false)], Blk.row false 1 (List.map (cI .i64) v41), Blk.box [(A.v (Value.int .i64 y44.1.From)), (A.v (Value.int .i64 y44.1.To)), (A.imm (List.map c8 y44.1.Data) false)], Blk.box [(A.imm (List.map c_S_Packet y44.2.1.Queue) false), (A.imm (List.map c_A2_int_i64 y44.2.1.Apart) false)], Blk.box [(A.v (Value.int .i64 y45.1.From)), (A.v (Value.int .i64 y45.1.To)), (A.imm (List.map c8 y45.1.Data) false)], Blk.box [(A.imm (List.map c_S_Packet y45.2.1.Queue) false), (A.imm (List.map c_A2_int_i64 y45.2.1.Apart) false)]]) (b := 3) (es := 1) (l := v41) (fl_cI _) rfl]; exact h23 ((S_Net.mk v35 v36)) y43) fun y60 => ?_
        refine .st (v := (A.agg [(A.imm (List.map c_S_Packet y60.1.Queue) false), (A.imm (List.map c_A2_int_i64 y60.1.Apart) false)])) (by kernel_rfl) ?_
        refine .st (v := (A.v (Value.int .i64 y60.2))) (by kernel_rfl) ?_
        refine .st (v := [Blk.box [(A.imm (List.map c_S_Packet v35) false), (A.imm (List.map c_A2_int_i64 v36) false)], Blk.box [(A.imm (List.map c_S_Packet v37) false), (A.imm (List.map c_A2_int_i64 v38) false)], Blk.box [(A.imm (List.map c_S_Packet v39) false), (A.imm (List.map c_A2_int_i64 v40) false)], Blk.row false 1 (List.map (cI .i64) v41), Blk.box [(A.v (Value.int .i64 y44.1.From)), (A.v (Value.int .i64 y44.1.To)), (A.imm (List.map c8 y44.1.Data) false)], Blk.box [(A.imm (List.map c_S_Packet y60.1.Queue) false), (A.imm (List.map c_A2_int_i64 y60.1.Apart) false)], Blk.box [(A.v (Value.int .i64 y45.1.From)), (A.v (Value.int .i64 y45.1.To)), (A.imm (List.map c8 y45.1.Data) false)], Blk.box [(A.imm (List.map c_S_Packet y45.2.1.Queue) false), (A.imm (List.map c_A2_int_i64 y45.2.1.Apart) false)]]) (by kernel_rfl) ?_
        refine .st (v := (A.agg [(A.imm (List.map c_S_Packet v35) false), (A.imm (List.map c_A2_int_i64 v36) false)])) (by kernel_rfl) ?_
        refine .bd (g := fun (y : (S_Net × Int)) => (A.tup [(A.agg [(A.imm (List.map c_S_Packet y.1.Queue) false), (A.imm (List.map c_A2_int_i64 y.1.Apart) false)]), (A.v (Value.int .i64 y.2))])) (by simp only [snap, snapW, snapWs, snapWss, snapWss_map, trim, List.map_cons, List.map_nil, fl_cI, fl_c8, fl_cB, fl_cS, fl_cL, fl_S_Packet, fl_A2_int_i64, fl_S_Net, fl_S_kinespherelaw06_Move, snapG_row (H := [Blk.box [(A.imm (List.map c_S_Packet v35) false), (A.imm (List.map c_A2_int_i64 v36) false)], Blk.box [(A.imm (List.map c_S_Packet v37) false), (A.imm (List.map c_A2_int_i64 v38) false)], Blk.box [(A.imm (List.map c_S_Packet v39) false), (A.imm (List.map c_A2_int_i64 v40) false)], Blk.row false 1 (List.map (cI .i64) v41), Blk.box [(A.v (Value.int .i64 y44.1.From)), (A.v (Value.int .i64 y44.1.To)), (A.imm (List.map c8 y44.1.Data) false)], Blk.box [(A.imm (List.map c_S_Packet y60.1.Queue) false), (A.imm (List.map c_A2_int_i64 y60.1.Apart) false)], Blk.box [(A.v (Value.int .i64 y45.1.From)), (A.v (Value.int .i64 y45.1.To)), (A.imm (List.map c8 y45.1.Data) false)], Blk.box [(A.imm (List.map c_S_Packet y45.2.1.Queue) false), (A.imm (List.map c_A2_int_i64 y45.2.1.Apart) false)]]) (b := 3) (es := 1) (l := v41) (fl_cI _) rfl]; exact h24 ((S_Net.mk v35 v36)) y43) fun y61 => ?_
        refine .st (v := (A.agg [(A.imm (List.map c_S_Packet y61.1.Queue) false), (A.imm (List.map c_A2_int_i64 y61.1.Apart) false)])) (by kernel_rfl) ?_
        refine .st (v := (A.v (Value.int .i64 y61.2))) (by kernel_rfl) ?_
        refine .st (v := [Blk.box [(A.imm (List.map c_S_Packet v35) false), (A.imm (List.map c_A2_int_i64 v36) false)], Blk.box [(A.imm (List.map c_S_Packet v37) false), (A.imm (List.map c_A2_int_i64 v38) false)], Blk.box [(A.imm (List.map c_S_Packet v39) false), (A.imm (List.map c_A2_int_i64 v40) false)], Blk.row false 1 (List.map (cI .i64) v41), Blk.box [(A.v (Value.int .i64 y44.1.From)), (A.v (Value.int .i64 y44.1.To)), (A.imm (List.map c8 y44.1.Data) false)], Blk.box [(A.imm (List.map c_S_Packet y60.1.Queue) false), (A.imm (List.map c_A2_int_i64 y60.1.Apart) false)], Blk.box [(A.v (Value.int .i64 y45.1.From)), (A.v (Value.int .i64 y45.1.To)), (A.imm (List.map c8 y45.1.Data) false)], Blk.box [(A.imm (List.map c_S_Packet y61.1.Queue) false), (A.imm (List.map c_A2_int_i64 y61.1.Apart) false)]]) (by kernel_rfl) ?_
        refine .st (v := (A.agg [(A.imm (List.map c_S_Packet y60.1.Queue) false), (A.imm (List.map c_A2_int_i64 y60.1.Apart) false)])) (by kernel_rfl) ?_
        refine .st (v := (A.agg [(A.imm (List.map c_S_Packet y61.1.Queue) false), (A.imm (List.map c_A2_int_i64 y61.1.Apart) false)])) (by kernel_rfl) ?_
        refine .bd (g := fun (y : Bool) => (A.v (Value.bool y))) (by simp only [snap, snapW, snapWs, snapWss, snapWss_map, trim, List.map_cons, List.map_nil, fl_cI, fl_c8, fl_cB, fl_cS, fl_cL, fl_S_Packet, fl_A2_int_i64, fl_S_Net, fl_S_kinespherelaw06_Move, snapG_row (H := [Blk.box [(A.imm (List.map c_S_Packet v35) false), (A.imm (List.map c_A2_int_i64 v36) false)], Blk.box [(A.imm (List.map c_S_Packet v37) false), (A.imm (List.map c_A2_int_i64 v38) false)], Blk.box [(A.imm (List.map c_S_Packet v39) false), (A.imm (List.map c_A2_int_i64 v40) false)], Blk.row false 1 (List.map (cI .i64) v41), Blk.box [(A.v (Value.int .i64 y44.1.From)), (A.v (Value.int .i64 y44.1.To)), (A.imm (List.map c8 y44.1.Data) false)], Blk.box [(A.imm (List.map c_S_Packet y60.1.Queue) false), (A.imm (List.map c_A2_int_i64 y60.1.Apart) false)], Blk.box [(A.v (Value.int .i64 y45.1.From)), (A.v (Value.int .i64 y45.1.To)), (A.imm (List.map c8 y45.1.Data) false)], Blk.box [(A.imm (List.map c_S_Packet y61.1.Queue) false), (A.imm (List.map c_A2_int_i64 y61.1.Apart) false)]]) (b := 3) (es := 1) (l := v41) (fl_cI _) rfl]; exact h15 y60.1 y61.1) fun y62 => ?_
        refine .st (v := (A.v (Value.bool (!y62)))) (by kernel_rfl) ?_
        refine .bg (fun t (y : Bool) => ∃ j65 j66 j67 : A, t = [(A.v (Value.bool y)), j65, j66, j67]) ?_ ?_
        · refine .biH (fun hk63 => ?_) (fun hk63 => ?_)
          · exact .lg ⟨_, _, _, rfl⟩
          · refine .st (v := (A.v (Value.bool (y60.2 != y61.2)))) (aBin_neq ..) ?_
            exact .lg ⟨_, _, _, rfl⟩
        rintro _ y64 ⟨j65, j66, j67, rfl⟩
        iterate 4 refine .uc ?_
        refine .biH (fun hk68 => ?_) (fun hk68 => ?_)
        · exact .ex (x0 _ _ _ _ _ _ _ _ _ _ _ _ _ _ _)
        · refine .st (v := (A.agg [(A.imm (List.map c_S_Packet v35) false), (A.imm (List.map c_A2_int_i64 v36) false)])) (by kernel_rfl) ?_
          refine .bd (g := fun (y : (S_Net × Int)) => (A.tup [(A.agg [(A.imm (List.map c_S_Packet y.1.Queue) false), (A.imm (List.map c_A2_int_i64 y.1.Apart) false)]), (A.v (Value.int .i64 y.2))])) (by simp only [snap, snapW, snapWs, snapWss, snapWss_map, trim, List.map_cons, List.map_nil, fl_cI, fl_c8, fl_cB, fl_cS, fl_cL, fl_S_Packet, fl_A2_int_i64, fl_S_Net, fl_S_kinespherelaw06_Move, snapG_row (H := [Blk.box [(A.imm (List.map c_S_Packet v35) false), (A.imm (List.map c_A2_int_i64 v36) false)], Blk.box [(A.imm (List.map c_S_Packet v37) false), (A.imm (List.map c_A2_int_i64 v38) false)], Blk.box [(A.imm (List.map c_S_Packet v39) false), (A.imm (List.map c_A2_int_i64 v40) false)], Blk.row false 1 (List.map (cI .i64) v41), Blk.box [(A.v (Value.int .i64 y44.1.From)), (A.v (Value.int .i64 y44.1.To)), (A.imm (List.map c8 y44.1.Data) false)], Blk.box [(A.imm (List.map c_S_Packet y60.1.Queue) false), (A.imm (List.map c_A2_int_i64 y60.1.Apart) false)], Blk.box [(A.v (Value.int .i64 y45.1.From)), (A.v (Value.int .i64 y45.1.To)), (A.imm (List.map c8 y45.1.Data) false)], Blk.box [(A.imm (List.map c_S_Packet y61.1.Queue) false), (A.imm (List.map c_A2_int_i64 y61.1.Apart) false)]]) (b := 3) (es := 1) (l := v41) (fl_cI _) rfl]; exact h25 ((S_Net.mk v35 v36)) y43) fun y69 => ?_
          refine .st (v := (A.agg [(A.imm (List.map c_S_Packet y69.1.Queue) false), (A.imm (List.map c_A2_int_i64 y69.1.Apart) false)])) (by kernel_rfl) ?_
          refine .st (v := (A.v (Value.int .i64 y69.2))) (by kernel_rfl) ?_
          refine .st (v := [Blk.box [(A.imm (List.map c_S_Packet v35) false), (A.imm (List.map c_A2_int_i64 v36) false)], Blk.box [(A.imm (List.map c_S_Packet v37) false), (A.imm (List.map c_A2_int_i64 v38) false)], Blk.box [(A.imm (List.map c_S_Packet v39) false), (A.imm (List.map c_A2_int_i64 v40) false)], Blk.row false 1 (List.map (cI .i64) v41), Blk.box [(A.v (Value.int .i64 y44.1.From)), (A.v (Value.int .i64 y44.1.To)), (A.imm (List.map c8 y44.1.Data) false)], Blk.box [(A.imm (List.map c_S_Packet y69.1.Queue) false), (A.imm (List.map c_A2_int_i64 y69.1.Apart) false)], Blk.box [(A.v (Value.int .i64 y45.1.From)), (A.v (Value.int .i64 y45.1.To)), (A.imm (List.map c8 y45.1.Data) false)], Blk.box [(A.imm (List.map c_S_Packet y61.1.Queue) false), (A.imm (List.map c_A2_int_i64 y61.1.Apart) false)]]) (by kernel_rfl) ?_
          refine .st (v := (A.agg [(A.imm (List.map c_S_Packet v35) false), (A.imm (List.map c_A2_int_i64 v36) false)])) (by kernel_rfl) ?_
          refine .bd (g := fun (y : (S_Net × Int)) => (A.tup [(A.agg [(A.imm (List.map c_S_Packet y.1.Queue) false), (A.imm (List.map c_A2_int_i64 y.1.Apart) false)]), (A.v (Value.int .i64 y.2))])) (by simp only [snap, snapW, snapWs, snapWss, snapWss_map, trim, List.map_cons, List.map_nil, fl_cI, fl_c8, fl_cB, fl_cS, fl_cL, fl_S_Packet, fl_A2_int_i64, fl_S_Net, fl_S_kinespherelaw06_Move, snapG_row (H := [Blk.box [(A.imm (List.map c_S_Packet v35) false), (A.imm (List.map c_A2_int_i64 v36) false)], Blk.box [(A.imm (List.map c_S_Packet v37) false), (A.imm (List.map c_A2_int_i64 v38) false)], Blk.box [(A.imm (List.map c_S_Packet v39) false), (A.imm (List.map c_A2_int_i64 v40) false)], Blk.row false 1 (List.map (cI .i64) v41), Blk.box [(A.v (Value.int .i64 y44.1.From)), (A.v (Value.int .i64 y44.1.To)), (A.imm (List.map c8 y44.1.Data) false)], Blk.box [(A.imm (List.map c_S_Packet y69.1.Queue) false), (A.imm (List.map c_A2_int_i64 y69.1.Apart) false)], Blk.box [(A.v (Value.int .i64 y45.1.From)), (A.v (Value.int .i64 y45.1.To)), (A.imm (List.map c8 y45.1.Data) false)], Blk.box [(A.imm (List.map c_S_Packet y61.1.Queue) false), (A.imm (List.map c_A2_int_i64 y61.1.Apart) false)]]) (b := 3) (es := 1) (l := v41) (fl_cI _) rfl]; exact h26 ((S_Net.mk v35 v36)) y43) fun y70 => ?_
          refine .st (v := (A.agg [(A.imm (List.map c_S_Packet y70.1.Queue) false), (A.imm (List.map c_A2_int_i64 y70.1.Apart) false)])) (by kernel_rfl) ?_
          refine .st (v := (A.v (Value.int .i64 y70.2))) (by kernel_rfl) ?_
          refine .st (v := [Blk.box [(A.imm (List.map c_S_Packet v35) false), (A.imm (List.map c_A2_int_i64 v36) false)], Blk.box [(A.imm (List.map c_S_Packet v37) false), (A.imm (List.map c_A2_int_i64 v38) false)], Blk.box [(A.imm (List.map c_S_Packet v39) false), (A.imm (List.map c_A2_int_i64 v40) false)], Blk.row false 1 (List.map (cI .i64) v41), Blk.box [(A.v (Value.int .i64 y44.1.From)), (A.v (Value.int .i64 y44.1.To)), (A.imm (List.map c8 y44.1.Data) false)], Blk.box [(A.imm (List.map c_S_Packet y69.1.Queue) false), (A.imm (List.map c_A2_int_i64 y69.1.Apart) false)], Blk.box [(A.v (Value.int .i64 y45.1.From)), (A.v (Value.int .i64 y45.1.To)), (A.imm (List.map c8 y45.1.Data) false)], Blk.box [(A.imm (List.map c_S_Packet y70.1.Queue) false), (A.imm (List.map c_A2_int_i64 y70.1.Apart) false)]]) (by kernel_rfl) ?_
          refine .st (v := (A.agg [(A.imm (List.map c_S_Packet y69.1.Queue) false), (A.imm (List.map c_A2_int_i64 y69.1.Apart) false)])) (by kernel_rfl) ?_
          refine .st (v := (A.agg [(A.imm (List.map c_S_Packet y70.1.Queue) false), (A.imm (List.map c_A2_int_i64 y70.1.Apart) false)])) (by kernel_rfl) ?_
          refine .bd (g := fun (y : Bool) => (A.v (Value.bool y))) (by simp only [snap, snapW, snapWs, snapWss, snapWss_map, trim, List.map_cons, List.map_nil, fl_cI, fl_c8, fl_cB, fl_cS, fl_cL, fl_S_Packet, fl_A2_int_i64, fl_S_Net, fl_S_kinespherelaw06_Move, snapG_row (H := [Blk.box [(A.imm (List.map c_S_Packet v35) false), (A.imm (List.map c_A2_int_i64 v36) false)], Blk.box [(A.imm (List.map c_S_Packet v37) false), (A.imm (List.map c_A2_int_i64 v38) false)], Blk.box [(A.imm (List.map c_S_Packet v39) false), (A.imm (List.map c_A2_int_i64 v40) false)], Blk.row false 1 (List.map (cI .i64) v41), Blk.box [(A.v (Value.int .i64 y44.1.From)), (A.v (Value.int .i64 y44.1.To)), (A.imm (List.map c8 y44.1.Data) false)], Blk.box [(A.imm (List.map c_S_Packet y69.1.Queue) false), (A.imm (List.map c_A2_int_i64 y69.1.Apart) false)], Blk.box [(A.v (Value.int .i64 y45.1.From)), (A.v (Value.int .i64 y45.1.To)), (A.imm (List.map c8 y45.1.Data) false)], Blk.box [(A.imm (List.map c_S_Packet y70.1.Queue) false), (A.imm (List.map c_A2_int_i64 y70.1.Apart) false)]]) (b := 3) (es := 1) (l := v41) (fl_cI _) rfl]; exact h15 y69.1 y70.1) fun y71 => ?_
          refine .st (v := (A.v (Value.bool (!y71)))) (by kernel_rfl) ?_
          refine .bg (fun t (y : Bool) => ∃ j74 j75 j76 : A, t = [(A.v (Value.bool y)), j74, j75, j76]) ?_ ?_
          · refine .biH (fun hk72 => ?_) (fun hk72 => ?_)
            · exact .lg ⟨_, _, _, rfl⟩
            · refine .st (v := (A.v (Value.bool (y69.2 != y70.2)))) (aBin_neq ..) ?_
              exact .lg ⟨_, _, _, rfl⟩
          rintro _ y73 ⟨j74, j75, j76, rfl⟩
          iterate 4 refine .uc ?_
          refine .biH (fun hk77 => ?_) (fun hk77 => ?_)
          · exact .ex (x0 _ _ _ _ _ _ _ _ _ _ _ _ _ _ _)
          · refine .st (v := (A.v (Value.int .i64 (wr .i64 (v34 + 1))))) (aBin_add ..) ?_
            refine .st (v := [Blk.box [(A.imm (List.map c_S_Packet v35) false), (A.imm (List.map c_A2_int_i64 v36) false)], Blk.box [(A.imm (List.map c_S_Packet v37) false), (A.imm (List.map c_A2_int_i64 v38) false)], Blk.box [(A.imm (List.map c_S_Packet v39) false), (A.imm (List.map c_A2_int_i64 v40) false)], Blk.row false 1 (List.map (cI .i64) v41)]) ((by kernel_rfl : _ = (bif ((((underss 4 (List.map c_S_Packet v35)) && ((underss 4 (List.map c_A2_int_i64 v36)) && true))) && ((((underss 4 (List.map c_S_Packet v37)) && ((underss 4 (List.map c_A2_int_i64 v38)) && true))) && ((((underss 4 (List.map c_S_Packet v39)) && ((underss 4 (List.map c_A2_int_i64 v40)) && true))) && ((underss 4 (List.map (cI .i64) v41)) && true)))) then some [Blk.box [(A.imm (List.map c_S_Packet v35) false), (A.imm (List.map c_A2_int_i64 v36) false)], Blk.box [(A.imm (List.map c_S_Packet v37) false), (A.imm (List.map c_A2_int_i64 v38) false)], Blk.box [(A.imm (List.map c_S_Packet v39) false), (A.imm (List.map c_A2_int_i64 v40) false)], Blk.row false 1 (List.map (cI .i64) v41)] else none)).trans (by simp only [underss_map, fu_cI, fu_c8, fu_cB, fu_cS, fu_cL, fu_S_Packet, fu_A2_int_i64, fu_S_Net, fu_S_kinespherelaw06_Move,  Bool.and_true, Bool.true_and, cond_true])) ?_
            refine .cT (by kernel_rfl) ?_
            exact ih _
    · exact .ex (x1 _ _ _ _ _)

def F6 (n : Nat) (a0 : S_Net) (a1 : Int) (a2 : Int) (a3 : Int) (a4 : Bool) : Option Bool :=
  Option.bind (G9 ) fun y1 => bif (!y1) then (some false) else (Option.bind (G10 a0) fun y3 => bif (!y3) then (some true) else (Option.bind (G20 a0 a2 a3 a4) fun y5 => Option.bind (G21 a0 a2 a3 a4) fun y6 => Option.bind (G15 y5.1 y6.1) fun y7 => Option.bind (bif (!y7) then (some true) else (some (y5.2 != y6.2))) fun y9 => bif y9 then (some false) else (Option.bind (F6_6_0 n false a0.Queue a0.Apart y5.1.Queue y5.1.Apart y6.1.Queue y6.1.Apart (n+8) 0 (([a1] : List Int))) fun o29 => match o29 with | y30 => Option.bind (F6_6_1 n false ((y30.length : Int)) a0.Queue a0.Apart y5.1.Queue y5.1.Apart y6.1.Queue y6.1.Apart y30 (n+8) 0) fun o78 => match o78 with | (Sum.inl ((y79, y80, y81, y82, y83, y84, y85, y86, y87, y88, y89))) => some y79 | (Sum.inr _) => some true)))

theorem T6 (C : Nat → List A → Option A) (n : Nat) (h10 : Orc10 C) (h15 : Orc15 C) (h18 : Orc18 C) (h19 : Orc19 C) (h20 : Orc20 C) (h21 : Orc21 C) (h22 : Orc22 C) (h23 : Orc23 C) (h24 : Orc24 C) (h25 : Orc25 C) (h26 : Orc26 C) (h9 : Orc9 C) (a0 : S_Net) (a1 : Int) (a2 : Int) (a3 : Int) (a4 : Bool) : J (fun (o : R) y => ∃ v, o.1 = .ret v ∧ snap o.2 v = (A.v (Value.bool y))) (evCall1 (cx C) (evCall (cx C) (n+8)) (evCallY (cx C) (n+8)) (n+8) 6 [(A.agg [(A.imm (List.map c_S_Packet a0.Queue) false), (A.imm (List.map c_A2_int_i64 a0.Apart) false)]), (A.v (Value.int .i64 a1)), (A.v (Value.int .i64 a2)), (A.v (Value.int .i64 a3)), (A.v (Value.bool a4))] [] 0) some (F6 n a0 a1 a2 a3 a4) some := by
  refine .lp (e6 ..) ?_
  unfold F6
  refine .st (v := ((A.ptr 0 0), [Blk.box [(A.imm (List.map c_S_Packet a0.Queue) false), (A.imm (List.map c_A2_int_i64 a0.Apart) false)]])) (by kernel_rfl) ?_
  refine .bd (g := fun (y : Bool) => (A.v (Value.bool y))) (h9 ()) fun y1 => ?_
  refine .st (v := (A.v (Value.bool (!y1)))) (by kernel_rfl) ?_
  refine .biH (fun hk2 => ?_) (fun hk2 => ?_)
  · exact .lf rfl rfl ⟨_, rfl, rfl⟩
  · refine .st (v := (A.agg [(A.imm (List.map c_S_Packet a0.Queue) false), (A.imm (List.map c_A2_int_i64 a0.Apart) false)])) (by kernel_rfl) ?_
    refine .bd (g := fun (y : Bool) => (A.v (Value.bool y))) (by simp only [snap, snapW, snapWs, snapWss, snapWss_map, trim, List.map_cons, List.map_nil, fl_cI, fl_c8, fl_cB, fl_cS, fl_cL, fl_S_Packet, fl_A2_int_i64, fl_S_Net, fl_S_kinespherelaw06_Move]; exact h10 a0) fun y3 => ?_
    refine .st (v := (A.v (Value.bool (!y3)))) (by kernel_rfl) ?_
    refine .biH (fun hk4 => ?_) (fun hk4 => ?_)
    · exact .lf rfl rfl ⟨_, rfl, rfl⟩
    · refine .st (v := (A.agg [(A.imm (List.map c_S_Packet a0.Queue) false), (A.imm (List.map c_A2_int_i64 a0.Apart) false)])) (by kernel_rfl) ?_
      refine .bd (g := fun (y : (S_Net × Int)) => (A.tup [(A.agg [(A.imm (List.map c_S_Packet y.1.Queue) false), (A.imm (List.map c_A2_int_i64 y.1.Apart) false)]), (A.v (Value.int .i64 y.2))])) (by simp only [snap, snapW, snapWs, snapWss, snapWss_map, trim, List.map_cons, List.map_nil, fl_cI, fl_c8, fl_cB, fl_cS, fl_cL, fl_S_Packet, fl_A2_int_i64, fl_S_Net, fl_S_kinespherelaw06_Move]; exact h20 a0 a2 a3 a4) fun y5 => ?_
      refine .st (v := (A.agg [(A.imm (List.map c_S_Packet y5.1.Queue) false), (A.imm (List.map c_A2_int_i64 y5.1.Apart) false)])) (by kernel_rfl) ?_
      refine .st (v := (A.v (Value.int .i64 y5.2))) (by kernel_rfl) ?_
      refine .st (v := ((A.ptr 1 0), [Blk.box [(A.imm (List.map c_S_Packet a0.Queue) false), (A.imm (List.map c_A2_int_i64 a0.Apart) false)], Blk.box [(A.imm [] true), (A.imm [] true)]])) (by kernel_rfl) ?_
      refine .st (v := [Blk.box [(A.imm (List.map c_S_Packet a0.Queue) false), (A.imm (List.map c_A2_int_i64 a0.Apart) false)], Blk.box [(A.imm (List.map c_S_Packet y5.1.Queue) false), (A.imm (List.map c_A2_int_i64 y5.1.Apart) false)]]) (by kernel_rfl) ?_
      refine .st (v := (A.agg [(A.imm (List.map c_S_Packet a0.Queue) false), (A.imm (List.map c_A2_int_i64 a0.Apart) false)])) (by kernel_rfl) ?_
      refine .bd (g := fun (y : (S_Net × Int)) => (A.tup [(A.agg [(A.imm (List.map c_S_Packet y.1.Queue) false), (A.imm (List.map c_A2_int_i64 y.1.Apart) false)]), (A.v (Value.int .i64 y.2))])) (by simp only [snap, snapW, snapWs, snapWss, snapWss_map, trim, List.map_cons, List.map_nil, fl_cI, fl_c8, fl_cB, fl_cS, fl_cL, fl_S_Packet, fl_A2_int_i64, fl_S_Net, fl_S_kinespherelaw06_Move]; exact h21 a0 a2 a3 a4) fun y6 => ?_
      refine .st (v := (A.agg [(A.imm (List.map c_S_Packet y6.1.Queue) false), (A.imm (List.map c_A2_int_i64 y6.1.Apart) false)])) (by kernel_rfl) ?_
      refine .st (v := (A.v (Value.int .i64 y6.2))) (by kernel_rfl) ?_
      refine .st (v := ((A.ptr 2 0), [Blk.box [(A.imm (List.map c_S_Packet a0.Queue) false), (A.imm (List.map c_A2_int_i64 a0.Apart) false)], Blk.box [(A.imm (List.map c_S_Packet y5.1.Queue) false), (A.imm (List.map c_A2_int_i64 y5.1.Apart) false)], Blk.box [(A.imm [] true), (A.imm [] true)]])) (by kernel_rfl) ?_
      refine .st (v := [Blk.box [(A.imm (List.map c_S_Packet a0.Queue) false), (A.imm (List.map c_A2_int_i64 a0.Apart) false)], Blk.box [(A.imm (List.map c_S_Packet y5.1.Queue) false), (A.imm (List.map c_A2_int_i64 y5.1.Apart) false)], Blk.box [(A.imm (List.map c_S_Packet y6.1.Queue) false), (A.imm (List.map c_A2_int_i64 y6.1.Apart) false)]]) (by kernel_rfl) ?_
      refine .st (v := (A.agg [(A.imm (List.map c_S_Packet y5.1.Queue) false), (A.imm (List.map c_A2_int_i64 y5.1.Apart) false)])) (by kernel_rfl) ?_
      refine .st (v := (A.agg [(A.imm (List.map c_S_Packet y6.1.Queue) false), (A.imm (List.map c_A2_int_i64 y6.1.Apart) false)])) (by kernel_rfl) ?_
      refine .bd (g := fun (y : Bool) => (A.v (Value.bool y))) (by simp only [snap, snapW, snapWs, snapWss, snapWss_map, trim, List.map_cons, List.map_nil, fl_cI, fl_c8, fl_cB, fl_cS, fl_cL, fl_S_Packet, fl_A2_int_i64, fl_S_Net, fl_S_kinespherelaw06_Move]; exact h15 y5.1 y6.1) fun y7 => ?_
      refine .st (v := (A.v (Value.bool (!y7)))) (by kernel_rfl) ?_
      refine .bg (fun t (y : Bool) => ∃ j10 j11 j12 : A, t = [(A.v (Value.bool y)), j10, j11, j12]) ?_ ?_
      · refine .biH (fun hk8 => ?_) (fun hk8 => ?_)
        · exact .lg ⟨_, _, _, rfl⟩
        · refine .st (v := (A.v (Value.bool (y5.2 != y6.2)))) (aBin_neq ..) ?_
          exact .lg ⟨_, _, _, rfl⟩
      rintro _ y9 ⟨j10, j11, j12, rfl⟩
      iterate 4 refine .uc ?_
      refine .biH (fun hk13 => ?_) (fun hk13 => ?_)
      · exact .lf rfl rfl ⟨_, rfl, rfl⟩
      · refine .st (v := (A.imm [[(A.v (Value.int .i64 a1))]] true)) (by kernel_rfl) ?_
        refine .as (T6_6_0 C n h10 h15 h18 h19 h20 h21 h22 h23 h24 h25 h26 h9 false a0.Queue a0.Apart y5.1.Queue y5.1.Apart y6.1.Queue y6.1.Apart _ _ _ _ ?_ _ 0 (([a1] : List Int)))
        · intro y30 j31
          refine .un rfl ?_
          refine .cT (by kernel_rfl) ?_
          refine .st (v := (A.v (Value.int .i64 ((y30.length : Int))))) (row_len (e := 3) (by kernel_rfl) rfl rfl) ?_
          refine .as (T6_6_1 C n h10 h15 h18 h19 h20 h21 h22 h23 h24 h25 h26 h9 false ((y30.length : Int)) a0.Queue a0.Apart y5.1.Queue y5.1.Apart y6.1.Queue y6.1.Apart y30 _ _ _ _ ?_ ?_ _ 0)
          · intro y79 y80 y81 y82 y83 y84 y85 y86 y87 y88 y89 j90 j91 j92 j93
            refine .un rfl ?_
            exact .lf rfl rfl ⟨_, rfl, rfl⟩
          · intro j94 j95 j96 j97 j98
            refine .un rfl ?_
            refine .cT (by kernel_rfl) ?_
            exact .lf rfl rfl ⟨_, rfl, rfl⟩

def G6 (a0 : S_Net) (a1 : Int) (a2 : Int) (a3 : Int) (a4 : Bool) : Option Bool := F6 fuel0 a0 a1 a2 a3 a4

def Orc6 (C : Nat → List A → Option A) : Prop := ∀ (a0 : S_Net) (a1 : Int) (a2 : Int) (a3 : Int) (a4 : Bool), C 6 [(A.agg [(A.imm (List.map c_S_Packet a0.Queue) false), (A.imm (List.map c_A2_int_i64 a0.Apart) false)]), (A.v (Value.int .i64 a1)), (A.v (Value.int .i64 a2)), (A.v (Value.int .i64 a3)), (A.v (Value.bool a4))] = (G6 a0 a1 a2 a3 a4).map fun y => (A.v (Value.bool y))

def F7_7_0 (n : Nat) (v5 : (List S_kinespherelaw06_Move)) (v6 : Bool) (v7 : (List S_Packet)) (v8 : Int) (v9 : Int) (v10 : (List S_Packet)) (v11 : (List (Int × Int))) : Nat → Option (Unit)
  | 0 => none
  | m + 1 => bif (decide (v9 < ((v5.length : Int)))) then (none) else (some (()))

theorem T7_7_0 (C : Nat → List A → Option A) (n : Nat) (h16 : Orc16 C) (h9 : Orc9 C) (v5 : (List S_kinespherelaw06_Move)) (v6 : Bool) (v7 : (List S_Packet)) (v8 : Int) (v9 : Int) (v10 : (List S_Packet)) (v11 : (List (Int × Int))) {ρ γ : Type} {φ : ρ → γ → Prop} {kL : R → Option ρ} {K : (Unit) → Option γ} (kx kg : Nat → St → Option R) (kr : St → Option R) (kp : A → St → Option R) (x0 : ∀ (s0 : A) (s2 : A) (s3 : A) (s4 : A) (s5 : A) (s6 : A), J φ (kx 0 (St.mk [(0, s0), (2, s2), (3, s3), (4, s4), (5, s5), (6, s6)] [Blk.box [(A.imm (List.map c_S_Packet v10) false), (A.imm (List.map c_A2_int_i64 v11) false)]])) kL (K ()) some) :
    ∀ (m : Nat), J φ (loopR (cx C) (evCall (cx C) (n+8)) (evCallY (cx C) (n+8)) (n+8) 7 0 0 1 kx kg kr kp m (St.mk [(0, (A.imm (List.map c_S_kinespherelaw06_Move v5) false)), (2, (A.v (Value.bool v6))), (3, (A.ptr 0 0)), (4, (A.imm (List.map c_S_Packet v7) true)), (5, (A.v (Value.int .i64 v8))), (6, (A.v (Value.int .i64 v9)))] [Blk.box [(A.imm (List.map c_S_Packet v10) false), (A.imm (List.map c_A2_int_i64 v11) false)]])) kL (F7_7_0 n v5 v6 v7 v8 v9 v10 v11 m ) K := by
  intro m
  induction m with
  | zero => exact .nn
  | succ m ih =>
    skip
    refine .lp (e7_0 ..) ?_
    unfold F7_7_0
    refine .st (v := (A.v (Value.int .i64 ((v5.length : Int))))) (len_imm (e := 52) (h1 := by kernel_rfl) ..) ?_
    refine .st (v := (A.v (Value.bool (decide (v9 < ((v5.length : Int))))))) (aBin_lss ..) ?_
    refine .biH (fun hk12 => ?_) (fun hk12 => ?_)
    · exact .nn
    · exact .ex (x0 _ _ _ _ _ _)

def F7 (n : Nat) (a0 : (List S_kinespherelaw06_Move)) : Option Bool :=
  Option.bind (G9 ) fun y1 => bif (!y1) then (some false) else (bif (decide (60 < ((a0.length : Int)))) then (some true) else (Option.bind (G16 ) fun y4 => Option.bind (F7_7_0 n a0 false ([]) 0 0 y4.Queue y4.Apart (n+8) ) fun o13 => match o13 with | _ => some true))

theorem T7 (C : Nat → List A → Option A) (n : Nat) (h16 : Orc16 C) (h9 : Orc9 C) (a0 : (List S_kinespherelaw06_Move)) : J (fun (o : R) y => ∃ v, o.1 = .ret v ∧ snap o.2 v = (A.v (Value.bool y))) (evCall1 (cx C) (evCall (cx C) (n+8)) (evCallY (cx C) (n+8)) (n+8) 7 [(A.imm (List.map c_S_kinespherelaw06_Move a0) false)] [] 0) some (F7 n a0) some := by
  refine .lp (e7 ..) ?_
  unfold F7
  refine .bd (g := fun (y : Bool) => (A.v (Value.bool y))) (h9 ()) fun y1 => ?_
  refine .st (v := (A.v (Value.bool (!y1)))) (by kernel_rfl) ?_
  refine .biH (fun hk2 => ?_) (fun hk2 => ?_)
  · exact .lf rfl rfl ⟨_, rfl, rfl⟩
  · refine .st (v := (A.v (Value.int .i64 ((a0.length : Int))))) (len_imm (e := 52) (h1 := by kernel_rfl) ..) ?_
    refine .st (v := (A.v (Value.bool (decide (60 < ((a0.length : Int))))))) (aBin_gtr ..) ?_
    refine .biH (fun hk3 => ?_) (fun hk3 => ?_)
    · exact .lf rfl rfl ⟨_, rfl, rfl⟩
    · refine .bd (g := fun (y : S_Net) => (A.agg [(A.imm (List.map c_S_Packet y.Queue) false), (A.imm (List.map c_A2_int_i64 y.Apart) false)])) (h16 ()) fun y4 => ?_
      refine .st (v := ((A.ptr 0 0), [Blk.box [(A.imm [] true), (A.imm [] true)]])) (by kernel_rfl) ?_
      refine .st (v := [Blk.box [(A.imm (List.map c_S_Packet y4.Queue) false), (A.imm (List.map c_A2_int_i64 y4.Apart) false)]]) (by kernel_rfl) ?_
      refine .as (T7_7_0 C n h16 h9 a0 false ([]) 0 0 y4.Queue y4.Apart _ _ _ _ ?_ _ )
      · intro j14 j15 j16 j17 j18 j19
        refine .un rfl ?_
        refine .cT (by kernel_rfl) ?_
        exact .lf rfl rfl ⟨_, rfl, rfl⟩

def G7 (a0 : (List S_kinespherelaw06_Move)) : Option Bool := F7 fuel0 a0

def Orc7 (C : Nat → List A → Option A) : Prop := ∀ (a0 : (List S_kinespherelaw06_Move)), C 7 [(A.imm (List.map c_S_kinespherelaw06_Move a0) false)] = (G7 a0).map fun y => (A.v (Value.bool y))

def F8 (n : Nat) (a0 : S_Net) (a1 : Int) : Option Bool :=
  Option.bind (G9 ) fun y1 => bif (!y1) then (some false) else (Option.bind (G10 a0) fun y3 => Option.bind (bif (!y3) then (some true) else (Option.bind (G13 a0) fun y5 => some (y5 != 0))) fun y6 => Option.bind (bif y6 then (some true) else (some (((a0.Queue.length : Int)) == 0))) fun y11 => bif y11 then (some true) else (bif decide ((wr .u64 ((a0.Queue.length : Int))) ≠ 0) then (Option.bind (G18 a0 (wr .i64 (Int.tmod a1 (wr .u64 ((a0.Queue.length : Int)))))) fun y17 => Option.bind (G23 a0 (wr .i64 (Int.tmod a1 (wr .u64 ((a0.Queue.length : Int)))))) fun y18 => Option.bind (G25 a0 (wr .i64 (Int.tmod a1 (wr .u64 ((a0.Queue.length : Int)))))) fun y19 => Option.bind (G23 y19.1 (wr .i64 (Int.tmod a1 (wr .u64 ((a0.Queue.length : Int)))))) fun y20 => Option.bind (getI a0.Queue (wr .i64 (Int.tmod a1 (wr .u64 ((a0.Queue.length : Int)))))) fun y21 => Option.bind (G11 y18.1 y21) fun y22 => Option.bind (bif (y17.2.2 == 0) then (some (y18.2 == 0)) else (some false)) fun y24 => Option.bind (bif y24 then (some (y19.2 == 0)) else (some false)) fun y28 => Option.bind (bif y28 then (some (y20.2 == 0)) else (some false)) fun y32 => Option.bind (bif y32 then (some (y22.2 == 0)) else (some false)) fun y36 => Option.bind (bif y36 then (Option.bind (G15 y17.2.1 y18.1) fun y40 => some y40) else (some false)) fun y41 => Option.bind (bif y41 then (Option.bind (G15 y20.1 y22.1) fun y46 => some y46) else (some false)) fun y47 => Option.bind (bif y47 then (some (((y19.1.Queue.length : Int)) == (wr .i64 (((a0.Queue.length : Int)) + 1)))) else (some false)) fun y52 => some y52) else none))

theorem T8 (C : Nat → List A → Option A) (n : Nat) (h10 : Orc10 C) (h11 : Orc11 C) (h13 : Orc13 C) (h15 : Orc15 C) (h18 : Orc18 C) (h23 : Orc23 C) (h25 : Orc25 C) (h9 : Orc9 C) (a0 : S_Net) (a1 : Int) : J (fun (o : R) y => ∃ v, o.1 = .ret v ∧ snap o.2 v = (A.v (Value.bool y))) (evCall1 (cx C) (evCall (cx C) (n+8)) (evCallY (cx C) (n+8)) (n+8) 8 [(A.agg [(A.imm (List.map c_S_Packet a0.Queue) false), (A.imm (List.map c_A2_int_i64 a0.Apart) false)]), (A.v (Value.int .u64 a1))] [] 0) some (F8 n a0 a1) some := by
  refine .lp (e8 ..) ?_
  unfold F8
  refine .st (v := ((A.ptr 0 0), [Blk.box [(A.imm (List.map c_S_Packet a0.Queue) false), (A.imm (List.map c_A2_int_i64 a0.Apart) false)]])) (by kernel_rfl) ?_
  refine .bd (g := fun (y : Bool) => (A.v (Value.bool y))) (h9 ()) fun y1 => ?_
  refine .st (v := (A.v (Value.bool (!y1)))) (by kernel_rfl) ?_
  refine .biH (fun hk2 => ?_) (fun hk2 => ?_)
  · exact .lf rfl rfl ⟨_, rfl, rfl⟩
  · refine .st (v := (A.agg [(A.imm (List.map c_S_Packet a0.Queue) false), (A.imm (List.map c_A2_int_i64 a0.Apart) false)])) (by kernel_rfl) ?_
    refine .bd (g := fun (y : Bool) => (A.v (Value.bool y))) (by simp only [snap, snapW, snapWs, snapWss, snapWss_map, trim, List.map_cons, List.map_nil, fl_cI, fl_c8, fl_cB, fl_cS, fl_cL, fl_S_Packet, fl_A2_int_i64, fl_S_Net, fl_S_kinespherelaw06_Move]; exact h10 a0) fun y3 => ?_
    refine .st (v := (A.v (Value.bool (!y3)))) (by kernel_rfl) ?_
    refine .bg (fun t (y : Bool) => ∃ j7 j8 j9 : A, t = [(A.v (Value.bool y)), j7, j8, j9]) ?_ ?_
    · refine .biH (fun hk4 => ?_) (fun hk4 => ?_)
      · exact .lg ⟨_, _, _, rfl⟩
      · refine .st (v := (A.agg [(A.imm (List.map c_S_Packet a0.Queue) false), (A.imm (List.map c_A2_int_i64 a0.Apart) false)])) (by kernel_rfl) ?_
        refine .bd (g := fun (y : Int) => (A.v (Value.int .i64 y))) (by simp only [snap, snapW, snapWs, snapWss, snapWss_map, trim, List.map_cons, List.map_nil, fl_cI, fl_c8, fl_cB, fl_cS, fl_cL, fl_S_Packet, fl_A2_int_i64, fl_S_Net, fl_S_kinespherelaw06_Move]; exact h13 a0) fun y5 => ?_
        refine .st (v := (A.v (Value.bool (y5 != 0)))) (aBin_neq ..) ?_
        exact .lg ⟨_, _, _, rfl⟩
    rintro _ y6 ⟨j7, j8, j9, rfl⟩
    iterate 4 refine .uc ?_
    refine .bg (fun t (y : Bool) => ∃ j12 j13 j14 j15 : A, t = [(A.v (Value.bool y)), j12, j13, j14, j15]) ?_ ?_
    · refine .biH (fun hk10 => ?_) (fun hk10 => ?_)
      · exact .lg ⟨_, _, _, _, rfl⟩
      · refine .st (v := (A.ptr 0 0)) (by kernel_rfl) ?_
        refine .st (v := (A.imm (List.map c_S_Packet a0.Queue) false)) (by kernel_rfl) ?_
        refine .st (v := (A.v (Value.int .i64 ((a0.Queue.length : Int))))) (len_imm (e := 28) (h1 := by kernel_rfl) ..) ?_
        refine .st (v := (A.v (Value.bool (((a0.Queue.length : Int)) == 0)))) (aBin_eql ..) ?_
        exact .lg ⟨_, _, _, _, rfl⟩
    rintro _ y11 ⟨j12, j13, j14, j15, rfl⟩
    iterate 5 refine .uc ?_
    refine .biH (fun hk16 => ?_) (fun hk16 => ?_)
    · exact .lf rfl rfl ⟨_, rfl, rfl⟩
    · refine .st (v := (A.ptr 0 0)) (by kernel_rfl) ?_
      refine .st (v := (A.imm (List.map c_S_Packet a0.Queue) false)) (by kernel_rfl) ?_
      refine .st (v := (A.v (Value.int .i64 ((a0.Queue.length : Int))))) (len_imm (e := 28) (h1 := by kernel_rfl) ..) ?_
      refine .st (v := (A.v (Value.int .u64 (wr .u64 ((a0.Queue.length : Int)))))) (aConvert_int (hs := by kernel_rfl) (hd := by kernel_rfl) ..) ?_
      refine .gd fun hg => ?_
      refine .st (v := (A.v (Value.int .u64 (Int.tmod a1 (wr .u64 ((a0.Queue.length : Int))))))) (aBin_rem (hb := of_decide_eq_true hg) ..) ?_
      refine .st (v := (A.v (Value.int .i64 (wr .i64 (Int.tmod a1 (wr .u64 ((a0.Queue.length : Int)))))))) (aConvert_int (hs := by kernel_rfl) (hd := by kernel_rfl) ..) ?_
      refine .st (v := (A.agg [(A.imm (List.map c_S_Packet a0.Queue) false), (A.imm (List.map c_A2_int_i64 a0.Apart) false)])) (by kernel_rfl) ?_
      refine .bd (g := fun (y : (S_Packet × S_Net × Int)) => (A.tup [(A.agg [(A.v (Value.int .i64 y.1.From)), (A.v (Value.int .i64 y.1.To)), (A.imm (List.map c8 y.1.Data) false)]), (A.agg [(A.imm (List.map c_S_Packet y.2.1.Queue) false), (A.imm (List.map c_A2_int_i64 y.2.1.Apart) false)]), (A.v (Value.int .i64 y.2.2))])) (by simp only [snap, snapW, snapWs, snapWss, snapWss_map, trim, List.map_cons, List.map_nil, fl_cI, fl_c8, fl_cB, fl_cS, fl_cL, fl_S_Packet, fl_A2_int_i64, fl_S_Net, fl_S_kinespherelaw06_Move]; exact h18 a0 (wr .i64 (Int.tmod a1 (wr .u64 ((a0.Queue.length : Int)))))) fun y17 => ?_
      refine .st (v := (A.agg [(A.v (Value.int .i64 y17.1.From)), (A.v (Value.int .i64 y17.1.To)), (A.imm (List.map c8 y17.1.Data) false)])) (by kernel_rfl) ?_
      refine .st (v := (A.agg [(A.imm (List.map c_S_Packet y17.2.1.Queue) false), (A.imm (List.map c_A2_int_i64 y17.2.1.Apart) false)])) (by kernel_rfl) ?_
      refine .st (v := (A.v (Value.int .i64 y17.2.2))) (by kernel_rfl) ?_
      refine .st (v := ((A.ptr 1 0), [Blk.box [(A.imm (List.map c_S_Packet a0.Queue) false), (A.imm (List.map c_A2_int_i64 a0.Apart) false)], Blk.box [(A.v (Value.int .i64 0)), (A.v (Value.int .i64 0)), (A.imm [] true)]])) (by kernel_rfl) ?_
      refine .st (v := ((A.ptr 2 0), [Blk.box [(A.imm (List.map c_S_Packet a0.Queue) false), (A.imm (List.map c_A2_int_i64 a0.Apart) false)], Blk.box [(A.v (Value.int .i64 0)), (A.v (Value.int .i64 0)), (A.imm [] true)], Blk.box [(A.imm [] true), (A.imm [] true)]])) (by kernel_rfl) ?_
      refine .st (v := [Blk.box [(A.imm (List.map c_S_Packet a0.Queue) false), (A.imm (List.map c_A2_int_i64 a0.Apart) false)], Blk.box [(A.v (Value.int .i64 y17.1.From)), (A.v (Value.int .i64 y17.1.To)), (A.imm (List.map c8 y17.1.Data) false)], Blk.box [(A.imm [] true), (A.imm [] true)]]) (by kernel_rfl) ?_
      refine .st (v := [Blk.box [(A.imm (List.map c_S_Packet a0.Queue) false), (A.imm (List.map c_A2_int_i64 a0.Apart) false)], Blk.box [(A.v (Value.int .i64 y17.1.From)), (A.v (Value.int .i64 y17.1.To)), (A.imm (List.map c8 y17.1.Data) false)], Blk.box [(A.imm (List.map c_S_Packet y17.2.1.Queue) false), (A.imm (List.map c_A2_int_i64 y17.2.1.Apart) false)]]) (by kernel_rfl) ?_
      refine .st (v := (A.agg [(A.imm (List.map c_S_Packet a0.Queue) false), (A.imm (List.map c_A2_int_i64 a0.Apart) false)])) (by kernel_rfl) ?_
      refine .bd (g := fun (y : (S_Net × Int)) => (A.tup [(A.agg [(A.imm (List.map c_S_Packet y.1.Queue) false), (A.imm (List.map c_A2_int_i64 y.1.Apart) false)]), (A.v (Value.int .i64 y.2))])) (by simp only [snap, snapW, snapWs, snapWss, snapWss_map, trim, List.map_cons, List.map_nil, fl_cI, fl_c8, fl_cB, fl_cS, fl_cL, fl_S_Packet, fl_A2_int_i64, fl_S_Net, fl_S_kinespherelaw06_Move]; exact h23 a0 (wr .i64 (Int.tmod a1 (wr .u64 ((a0.Queue.length : Int)))))) fun y18 => ?_
      refine .st (v := (A.agg [(A.imm (List.map c_S_Packet y18.1.Queue) false), (A.imm (List.map c_A2_int_i64 y18.1.Apart) false)])) (by kernel_rfl) ?_
      refine .st (v := (A.v (Value.int .i64 y18.2))) (by kernel_rfl) ?_
      refine .st (v := ((A.ptr 3 0), [Blk.box [(A.imm (List.map c_S_Packet a0.Queue) false), (A.imm (List.map c_A2_int_i64 a0.Apart) false)], Blk.box [(A.v (Value.int .i64 y17.1.From)), (A.v (Value.int .i64 y17.1.To)), (A.imm (List.map c8 y17.1.Data) false)], Blk.box [(A.imm (List.map c_S_Packet y17.2.1.Queue) false), (A.imm (List.map c_A2_int_i64 y17.2.1.Apart) false)], Blk.box [(A.imm [] true), (A.imm [] true)]])) (by kernel_rfl) ?_
      refine .st (v := [Blk.box [(A.imm (List.map c_S_Packet a0.Queue) false), (A.imm (List.map c_A2_int_i64 a0.Apart) false)], Blk.box [(A.v (Value.int .i64 y17.1.From)), (A.v (Value.int .i64 y17.1.To)), (A.imm (List.map c8 y17.1.Data) false)], Blk.box [(A.imm (List.map c_S_Packet y17.2.1.Queue) false), (A.imm (List.map c_A2_int_i64 y17.2.1.Apart) false)], Blk.box [(A.imm (List.map c_S_Packet y18.1.Queue) false), (A.imm (List.map c_A2_int_i64 y18.1.Apart) false)]]) (by kernel_rfl) ?_
      refine .st (v := (A.agg [(A.imm (List.map c_S_Packet a0.Queue) false), (A.imm (List.map c_A2_int_i64 a0.Apart) false)])) (by kernel_rfl) ?_
      refine .bd (g := fun (y : (S_Net × Int)) => (A.tup [(A.agg [(A.imm (List.map c_S_Packet y.1.Queue) false), (A.imm (List.map c_A2_int_i64 y.1.Apart) false)]), (A.v (Value.int .i64 y.2))])) (by simp only [snap, snapW, snapWs, snapWss, snapWss_map, trim, List.map_cons, List.map_nil, fl_cI, fl_c8, fl_cB, fl_cS, fl_cL, fl_S_Packet, fl_A2_int_i64, fl_S_Net, fl_S_kinespherelaw06_Move]; exact h25 a0 (wr .i64 (Int.tmod a1 (wr .u64 ((a0.Queue.length : Int)))))) fun y19 => ?_
      refine .st (v := (A.agg [(A.imm (List.map c_S_Packet y19.1.Queue) false), (A.imm (List.map c_A2_int_i64 y19.1.Apart) false)])) (by kernel_rfl) ?_
      refine .st (v := (A.v (Value.int .i64 y19.2))) (by kernel_rfl) ?_
      refine .st (v := ((A.ptr 4 0), [Blk.box [(A.imm (List.map c_S_Packet a0.Queue) false), (A.imm (List.map c_A2_int_i64 a0.Apart) false)], Blk.box [(A.v (Value.int .i64 y17.1.From)), (A.v (Value.int .i64 y17.1.To)), (A.imm (List.map c8 y17.1.Data) false)], Blk.box [(A.imm (List.map c_S_Packet y17.2.1.Queue) false), (A.imm (List.map c_A2_int_i64 y17.2.1.Apart) false)], Blk.box [(A.imm (List.map c_S_Packet y18.1.Queue) false), (A.imm (List.map c_A2_int_i64 y18.1.Apart) false)], Blk.box [(A.imm [] true), (A.imm [] true)]])) (by kernel_rfl) ?_
      refine .st (v := [Blk.box [(A.imm (List.map c_S_Packet a0.Queue) false), (A.imm (List.map c_A2_int_i64 a0.Apart) false)], Blk.box [(A.v (Value.int .i64 y17.1.From)), (A.v (Value.int .i64 y17.1.To)), (A.imm (List.map c8 y17.1.Data) false)], Blk.box [(A.imm (List.map c_S_Packet y17.2.1.Queue) false), (A.imm (List.map c_A2_int_i64 y17.2.1.Apart) false)], Blk.box [(A.imm (List.map c_S_Packet y18.1.Queue) false), (A.imm (List.map c_A2_int_i64 y18.1.Apart) false)], Blk.box [(A.imm (List.map c_S_Packet y19.1.Queue) false), (A.imm (List.map c_A2_int_i64 y19.1.Apart) false)]]) (by kernel_rfl) ?_
      refine .st (v := (A.agg [(A.imm (List.map c_S_Packet y19.1.Queue) false), (A.imm (List.map c_A2_int_i64 y19.1.Apart) false)])) (by kernel_rfl) ?_
      refine .bd (g := fun (y : (S_Net × Int)) => (A.tup [(A.agg [(A.imm (List.map c_S_Packet y.1.Queue) false), (A.imm (List.map c_A2_int_i64 y.1.Apart) false)]), (A.v (Value.int .i64 y.2))])) (by simp only [snap, snapW, snapWs, snapWss, snapWss_map, trim, List.map_cons, List.map_nil, fl_cI, fl_c8, fl_cB, fl_cS, fl_cL, fl_S_Packet, fl_A2_int_i64, fl_S_Net, fl_S_kinespherelaw06_Move]; exact h23 y19.1 (wr .i64 (Int.tmod a1 (wr .u64 ((a0.Queue.length : Int)))))) fun y20 => ?_
      refine .st (v := (A.agg [(A.imm (List.map c_S_Packet y20.1.Queue) false), (A.imm (List.map c_A2_int_i64 y20.1.Apart) false)])) (by kernel_rfl) ?_
      refine .st (v := (A.v (Value.int .i64 y20.2))) (by kernel_rfl) ?_
      refine .st (v := ((A.ptr 5 0), [Blk.box [(A.imm (List.map c_S_Packet a0.Queue) false), (A.imm (List.map c_A2_int_i64 a0.Apart) false)], Blk.box [(A.v (Value.int .i64 y17.1.From)), (A.v (Value.int .i64 y17.1.To)), (A.imm (List.map c8 y17.1.Data) false)], Blk.box [(A.imm (List.map c_S_Packet y17.2.1.Queue) false), (A.imm (List.map c_A2_int_i64 y17.2.1.Apart) false)], Blk.box [(A.imm (List.map c_S_Packet y18.1.Queue) false), (A.imm (List.map c_A2_int_i64 y18.1.Apart) false)], Blk.box [(A.imm (List.map c_S_Packet y19.1.Queue) false), (A.imm (List.map c_A2_int_i64 y19.1.Apart) false)], Blk.box [(A.imm [] true), (A.imm [] true)]])) (by kernel_rfl) ?_
      refine .st (v := [Blk.box [(A.imm (List.map c_S_Packet a0.Queue) false), (A.imm (List.map c_A2_int_i64 a0.Apart) false)], Blk.box [(A.v (Value.int .i64 y17.1.From)), (A.v (Value.int .i64 y17.1.To)), (A.imm (List.map c8 y17.1.Data) false)], Blk.box [(A.imm (List.map c_S_Packet y17.2.1.Queue) false), (A.imm (List.map c_A2_int_i64 y17.2.1.Apart) false)], Blk.box [(A.imm (List.map c_S_Packet y18.1.Queue) false), (A.imm (List.map c_A2_int_i64 y18.1.Apart) false)], Blk.box [(A.imm (List.map c_S_Packet y19.1.Queue) false), (A.imm (List.map c_A2_int_i64 y19.1.Apart) false)], Blk.box [(A.imm (List.map c_S_Packet y20.1.Queue) false), (A.imm (List.map c_A2_int_i64 y20.1.Apart) false)]]) (by kernel_rfl) ?_
      refine .st (v := (A.agg [(A.imm (List.map c_S_Packet y18.1.Queue) false), (A.imm (List.map c_A2_int_i64 y18.1.Apart) false)])) (by kernel_rfl) ?_
      refine .st (v := (A.ptr 0 0)) (by kernel_rfl) ?_
      refine .st (v := (A.imm (List.map c_S_Packet a0.Queue) false)) (by kernel_rfl) ?_
      refine .bd (g := fun (y : S_Packet) => A.ip (c_S_Packet y)) (idx_imm (e := 28) (es := 3) (h1 := by kernel_rfl) (h2 := by kernel_rfl) (h3 := fun _ => rfl) ..) fun y21 => ?_
      refine .st (v := (A.agg [(A.v (Value.int .i64 y21.From)), (A.v (Value.int .i64 y21.To)), (A.imm (List.map c8 y21.Data) false)])) (by kernel_rfl) ?_
      refine .bd (g := fun (y : (S_Net × Int)) => (A.tup [(A.agg [(A.imm (List.map c_S_Packet y.1.Queue) false), (A.imm (List.map c_A2_int_i64 y.1.Apart) false)]), (A.v (Value.int .i64 y.2))])) (by simp only [snap, snapW, snapWs, snapWss, snapWss_map, trim, List.map_cons, List.map_nil, fl_cI, fl_c8, fl_cB, fl_cS, fl_cL, fl_S_Packet, fl_A2_int_i64, fl_S_Net, fl_S_kinespherelaw06_Move]; exact h11 y18.1 y21) fun y22 => ?_
      refine .st (v := (A.agg [(A.imm (List.map c_S_Packet y22.1.Queue) false), (A.imm (List.map c_A2_int_i64 y22.1.Apart) false)])) (by kernel_rfl) ?_
      refine .st (v := (A.v (Value.int .i64 y22.2))) (by kernel_rfl) ?_
      refine .cT (by kernel_rfl) ?_
      refine .st (v := ((A.ptr 6 0), [Blk.box [(A.imm (List.map c_S_Packet a0.Queue) false), (A.imm (List.map c_A2_int_i64 a0.Apart) false)], Blk.box [(A.v (Value.int .i64 y17.1.From)), (A.v (Value.int .i64 y17.1.To)), (A.imm (List.map c8 y17.1.Data) false)], Blk.box [(A.imm (List.map c_S_Packet y17.2.1.Queue) false), (A.imm (List.map c_A2_int_i64 y17.2.1.Apart) false)], Blk.box [(A.imm (List.map c_S_Packet y18.1.Queue) false), (A.imm (List.map c_A2_int_i64 y18.1.Apart) false)], Blk.box [(A.imm (List.map c_S_Packet y19.1.Queue) false), (A.imm (List.map c_A2_int_i64 y19.1.Apart) false)], Blk.box [(A.imm (List.map c_S_Packet y20.1.Queue) false), (A.imm (List.map c_A2_int_i64 y20.1.Apart) false)], Blk.box [(A.imm [] true), (A.imm [] true)]])) (by kernel_rfl) ?_
      refine .st (v := [Blk.box [(A.imm (List.map c_S_Packet a0.Queue) false), (A.imm (List.map c_A2_int_i64 a0.Apart) false)], Blk.box [(A.v (Value.int .i64 y17.1.From)), (A.v (Value.int .i64 y17.1.To)), (A.imm (List.map c8 y17.1.Data) false)], Blk.box [(A.imm (List.map c_S_Packet y17.2.1.Queue) false), (A.imm (List.map c_A2_int_i64 y17.2.1.Apart) false)], Blk.box [(A.imm (List.map c_S_Packet y18.1.Queue) false), (A.imm (List.map c_A2_int_i64 y18.1.Apart) false)], Blk.box [(A.imm (List.map c_S_Packet y19.1.Queue) false), (A.imm (List.map c_A2_int_i64 y19.1.Apart) false)], Blk.box [(A.imm (List.map c_S_Packet y20.1.Queue) false), (A.imm (List.map c_A2_int_i64 y20.1.Apart) false)], Blk.box [(A.imm (List.map c_S_Packet y22.1.Queue) false), (A.imm (List.map c_A2_int_i64 y22.1.Apart) false)]]) (by kernel_rfl) ?_
      refine .st (v := (A.v (Value.bool (y17.2.2 == 0)))) (aBin_eql ..) ?_
      refine .bg (fun t (y : Bool) => ∃ j25 j26 : A, t = [(A.v (Value.bool y)), j25, j26]) ?_ ?_
      · refine .biH (fun hk23 => ?_) (fun hk23 => ?_)
        · refine .st (v := (A.v (Value.bool (y18.2 == 0)))) (aBin_eql ..) ?_
          exact .lg ⟨_, _, rfl⟩
        · exact .lg ⟨_, _, rfl⟩
      rintro _ y24 ⟨j25, j26, rfl⟩
      iterate 3 refine .uc ?_
      refine .bg (fun t (y : Bool) => ∃ j29 j30 : A, t = [(A.v (Value.bool y)), j29, j30]) ?_ ?_
      · refine .biH (fun hk27 => ?_) (fun hk27 => ?_)
        · refine .st (v := (A.v (Value.bool (y19.2 == 0)))) (aBin_eql ..) ?_
          exact .lg ⟨_, _, rfl⟩
        · exact .lg ⟨_, _, rfl⟩
      rintro _ y28 ⟨j29, j30, rfl⟩
      iterate 3 refine .uc ?_
      refine .bg (fun t (y : Bool) => ∃ j33 j34 : A, t = [(A.v (Value.bool y)), j33, j34]) ?_ ?_
      · refine .biH (fun hk31 => ?_) (fun hk31 => ?_)
        · refine .st (v := (A.v (Value.bool (y20.2 == 0)))) (aBin_eql ..) ?_
          exact .lg ⟨_, _, rfl⟩
        · exact .lg ⟨_, _, rfl⟩
      rintro _ y32 ⟨j33, j34, rfl⟩
      iterate 3 refine .uc ?_
      refine .bg (fun t (y : Bool) => ∃ j37 j38 : A, t = [(A.v (Value.bool y)), j37, j38]) ?_ ?_
      · refine .biH (fun hk35 => ?_) (fun hk35 => ?_)
        · refine .st (v := (A.v (Value.bool (y22.2 == 0)))) (aBin_eql ..) ?_
          exact .lg ⟨_, _, rfl⟩
        · exact .lg ⟨_, _, rfl⟩
      rintro _ y36 ⟨j37, j38, rfl⟩
      iterate 3 refine .uc ?_
      refine .bg (fun t (y : Bool) => ∃ j42 j43 j44 : A, t = [(A.v (Value.bool y)), j42, j43, j44]) ?_ ?_
      · refine .biH (fun hk39 => ?_) (fun hk39 => ?_)
        · refine .st (v := (A.agg [(A.imm (List.map c_S_Packet y17.2.1.Queue) false), (A.imm (List.map c_A2_int_i64 y17.2.1.Apart) false)])) (by kernel_rfl) ?_
          refine .st (v := (A.agg [(A.imm (List.map c_S_Packet y18.1.Queue) false), (A.imm (List.map c_A2_int_i64 y18.1.Apart) false)])) (by kernel_rfl) ?_
          refine .bd (g := fun (y : Bool) => (A.v (Value.bool y))) (by simp only [snap, snapW, snapWs, snapWss, snapWss_map, trim, List.map_cons, List.map_nil, fl_cI, fl_c8, fl_cB, fl_cS, fl_cL, fl_S_Packet, fl_A2_int_i64, fl_S_Net, fl_S_kinespherelaw06_Move]; exact h15 y17.2.1 y18.1) fun y40 => ?_
          exact .lg ⟨_, _, _, rfl⟩
        · exact .lg ⟨_, _, _, rfl⟩
      rintro _ y41 ⟨j42, j43, j44, rfl⟩
      iterate 4 refine .uc ?_
      refine .bg (fun t (y : Bool) => ∃ j48 j49 j50 : A, t = [(A.v (Value.bool y)), j48, j49, j50]) ?_ ?_
      · refine .biH (fun hk45 => ?_) (fun hk45 => ?_)
        · refine .st (v := (A.agg [(A.imm (List.map c_S_Packet y20.1.Queue) false), (A.imm (List.map c_A2_int_i64 y20.1.Apart) false)])) (by kernel_rfl) ?_
          refine .st (v := (A.agg [(A.imm (List.map c_S_Packet y22.1.Queue) false), (A.imm (List.map c_A2_int_i64 y22.1.Apart) false)])) (by kernel_rfl) ?_
          refine .bd (g := fun (y : Bool) => (A.v (Value.bool y))) (by simp only [snap, snapW, snapWs, snapWss, snapWss_map, trim, List.map_cons, List.map_nil, fl_cI, fl_c8, fl_cB, fl_cS, fl_cL, fl_S_Packet, fl_A2_int_i64, fl_S_Net, fl_S_kinespherelaw06_Move]; exact h15 y20.1 y22.1) fun y46 => ?_
          exact .lg ⟨_, _, _, rfl⟩
        · exact .lg ⟨_, _, _, rfl⟩
      rintro _ y47 ⟨j48, j49, j50, rfl⟩
      iterate 4 refine .uc ?_
      refine .bg (fun t (y : Bool) => ∃ j53 j54 j55 j56 j57 j58 j59 j60 : A, t = [(A.v (Value.bool y)), j53, j54, j55, j56, j57, j58, j59, j60]) ?_ ?_
      · refine .biH (fun hk51 => ?_) (fun hk51 => ?_)
        · refine .st (v := (A.ptr 4 0)) (by kernel_rfl) ?_
          refine .st (v := (A.imm (List.map c_S_Packet y19.1.Queue) false)) (by kernel_rfl) ?_
          refine .st (v := (A.v (Value.int .i64 ((y19.1.Queue.length : Int))))) (len_imm (e := 28) (h1 := by kernel_rfl) ..) ?_
          refine .st (v := (A.ptr 0 0)) (by kernel_rfl) ?_
          refine .st (v := (A.imm (List.map c_S_Packet a0.Queue) false)) (by kernel_rfl) ?_
          refine .st (v := (A.v (Value.int .i64 ((a0.Queue.length : Int))))) (len_imm (e := 28) (h1 := by kernel_rfl) ..) ?_
          refine .st (v := (A.v (Value.int .i64 (wr .i64 (((a0.Queue.length : Int)) + 1))))) (aBin_add ..) ?_
          refine .st (v := (A.v (Value.bool (((y19.1.Queue.length : Int)) == (wr .i64 (((a0.Queue.length : Int)) + 1)))))) (aBin_eql ..) ?_
          exact .lg ⟨_, _, _, _, _, _, _, _, rfl⟩
        · exact .lg ⟨_, _, _, _, _, _, _, _, rfl⟩
      rintro _ y52 ⟨j53, j54, j55, j56, j57, j58, j59, j60, rfl⟩
      iterate 9 refine .uc ?_
      exact .lf rfl rfl ⟨_, rfl, rfl⟩

def G8 (a0 : S_Net) (a1 : Int) : Option Bool := F8 fuel0 a0 a1

def Orc8 (C : Nat → List A → Option A) : Prop := ∀ (a0 : S_Net) (a1 : Int), C 8 [(A.agg [(A.imm (List.map c_S_Packet a0.Queue) false), (A.imm (List.map c_A2_int_i64 a0.Apart) false)]), (A.v (Value.int .u64 a1))] = (G8 a0 a1).map fun y => (A.v (Value.bool y))
end Go.Proofs.Ytgcobbhbfkjkeaa
