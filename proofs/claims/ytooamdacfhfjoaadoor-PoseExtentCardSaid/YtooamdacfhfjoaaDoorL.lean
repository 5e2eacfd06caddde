/-
  The laws' arguments, read: by a tool.
-/
import Derived.Test.YtooamdacfhfjoaaDoorAs
import Derived.Test.YtooamdacfhfjoaaDoorEvLaw
namespace Go.Proofs.YtooamdacfhfjoaaDoor
open Go.RowKit Go.ChangeShapes Go.WideShapes Go.ChangeAt Go.Deep
set_option linter.unusedVariables false
set_option linter.unusedSimpArgs false
set_option maxHeartbeats 4000000
set_option maxRecDepth 100000
theorem args_2 {args : Array Value} (h : args.size = 2) : ∃ a0 a1, args = #[a0, a1] := by
  match args, h with | ⟨[a0, a1]⟩, _ => exact ⟨a0, a1, rfl⟩
def ok_S_Limb (x : S_Limb) : Prop := In64 x.Dir ∧ In64 x.Level
def ok_S_State (x : S_State) : Prop := In64 x.X ∧ In64 x.Y ∧ In64 x.Face ∧ (ok_S_Limb x.Limbs.1 ∧ ok_S_Limb x.Limbs.2.1 ∧ ok_S_Limb x.Limbs.2.2.1 ∧ ok_S_Limb x.Limbs.2.2.2.1 ∧ ok_S_Limb x.Limbs.2.2.2.2)
def ok_S_Body (x : S_Body) : Prop := (x.Name.size ≤ maxL) ∧ In64 x.Weight ∧ In64 x.Lift ∧ In64 x.Girth ∧ In64 x.Step ∧ In64 x.Jump ∧ (In64 x.Reach.1 ∧ In64 x.Reach.2.1 ∧ In64 x.Reach.2.2) ∧ (In64 x.Speed.1 ∧ In64 x.Speed.2.1 ∧ In64 x.Speed.2.2) ∧ (In64 x.Top.1 ∧ In64 x.Top.2.1 ∧ In64 x.Top.2.2) ∧ In64 x.Effort ∧ In64 x.Recover
theorem rd_23 : RdT Tryd.prog 23 c_S_Limb ok_S_Limb := RdT.of (readsA_struct (fs := #[Field.mk "Dir" 3 0 false "" "" 0, Field.mk "Level" 3 1 false "" "" 8]) (Ts := [_, _]) (by kernel_rfl) (by kernel_rfl) ⟨(rd_int (by kernel_rfl)), (rd_int (by kernel_rfl)), trivial⟩) fun l h => by
  obtain ⟨_, _, rfl, ⟨x0, rfl, h0⟩, _, _, rfl, ⟨x1, rfl, h1⟩, rfl⟩ := h
  exact ⟨⟨x0, x1⟩, by simp [c_S_Limb, cI, cB, cS, cL, c_S_Limb, c_A5_struct_S_Limb, c_S_State, c_A3_int_i64, c_S_Body, c_S_Role, c_S_Ratio, c_S_Sign, c_S_Real, c_A2_int_i64, c_A4_arr_2_int_i64, c_A2_arr_2_int_i64, c_A4_int_i64, c_S_pose_change, c_S_Range, c_S_Box, c_S_body_contract, c_S_Vec, c_A5_int_i64, c_A4_bool], h0, h1⟩
theorem rd_24 : RdT Tryd.prog 24 c_A5_struct_S_Limb (fun x => (ok_S_Limb x.1 ∧ ok_S_Limb x.2.1 ∧ ok_S_Limb x.2.2.1 ∧ ok_S_Limb x.2.2.2.1 ∧ ok_S_Limb x.2.2.2.2)) := RdT.of (readsA_array (n := 5) (e := 23) (by kernel_rfl) (by kernel_rfl) rd_23) fun l h => by
  obtain ⟨_, _, rfl, ⟨x0, rfl, h0⟩, _, _, rfl, ⟨x1, rfl, h1⟩, _, _, rfl, ⟨x2, rfl, h2⟩, _, _, rfl, ⟨x3, rfl, h3⟩, _, _, rfl, ⟨x4, rfl, h4⟩, rfl⟩ := h
  exact ⟨(x0, x1, x2, x3, x4), by simp [cI, cB, cS, cL, c_S_Limb, c_A5_struct_S_Limb, c_S_State, c_A3_int_i64, c_S_Body, c_S_Role, c_S_Ratio, c_S_Sign, c_S_Real, c_A2_int_i64, c_A4_arr_2_int_i64, c_A2_arr_2_int_i64, c_A4_int_i64, c_S_pose_change, c_S_Range, c_S_Box, c_S_body_contract, c_S_Vec, c_A5_int_i64, c_A4_bool], h0, h1, h2, h3, h4⟩
theorem rd_26 : RdT Tryd.prog 26 c_S_State ok_S_State := RdT.of (readsA_struct (fs := #[Field.mk "X" 3 0 false "" "" 0, Field.mk "Y" 3 1 false "" "" 8, Field.mk "Face" 3 2 false "" "" 16, Field.mk "Limbs" 24 3 false "" "" 24]) (Ts := [_, _, _, _]) (by kernel_rfl) (by kernel_rfl) ⟨(rd_int (by kernel_rfl)), (rd_int (by kernel_rfl)), (rd_int (by kernel_rfl)), rd_24, trivial⟩) fun l h => by
  obtain ⟨_, _, rfl, ⟨x0, rfl, h0⟩, _, _, rfl, ⟨x1, rfl, h1⟩, _, _, rfl, ⟨x2, rfl, h2⟩, _, _, rfl, ⟨x3, rfl, h3⟩, rfl⟩ := h
  exact ⟨⟨x0, x1, x2, x3⟩, by simp [c_S_State, cI, cB, cS, cL, c_S_Limb, c_A5_struct_S_Limb, c_S_State, c_A3_int_i64, c_S_Body, c_S_Role, c_S_Ratio, c_S_Sign, c_S_Real, c_A2_int_i64, c_A4_arr_2_int_i64, c_A2_arr_2_int_i64, c_A4_int_i64, c_S_pose_change, c_S_Range, c_S_Box, c_S_body_contract, c_S_Vec, c_A5_int_i64, c_A4_bool], h0, h1, h2, h3⟩
theorem rd_44 : RdT Tryd.prog 44 c_A3_int_i64 (fun x => (In64 x.1 ∧ In64 x.2.1 ∧ In64 x.2.2)) := RdT.of (readsA_array (n := 3) (e := 3) (by kernel_rfl) (by kernel_rfl) (rd_int (by kernel_rfl))) fun l h => by
  obtain ⟨_, _, rfl, ⟨x0, rfl, h0⟩, _, _, rfl, ⟨x1, rfl, h1⟩, _, _, rfl, ⟨x2, rfl, h2⟩, rfl⟩ := h
  exact ⟨(x0, x1, x2), by simp [cI, cB, cS, cL, c_S_Limb, c_A5_struct_S_Limb, c_S_State, c_A3_int_i64, c_S_Body, c_S_Role, c_S_Ratio, c_S_Sign, c_S_Real, c_A2_int_i64, c_A4_arr_2_int_i64, c_A2_arr_2_int_i64, c_A4_int_i64, c_S_pose_change, c_S_Range, c_S_Box, c_S_body_contract, c_S_Vec, c_A5_int_i64, c_A4_bool], h0, h1, h2⟩
theorem rd_46 : RdT Tryd.prog 46 c_S_Body ok_S_Body := RdT.of (readsA_struct (fs := #[Field.mk "Name" 9 0 false "" "" 0, Field.mk "Weight" 3 1 false "" "" 16, Field.mk "Lift" 3 2 false "" "" 24, Field.mk "Girth" 3 3 false "" "" 32, Field.mk "Step" 3 4 false "" "" 40, Field.mk "Jump" 3 5 false "" "" 48, Field.mk "Reach" 44 6 false "" "" 56, Field.mk "Speed" 44 9 false "" "" 80, Field.mk "Top" 44 12 false "" "" 104, Field.mk "Effort" 3 15 false "" "" 128, Field.mk "Recover" 3 16 false "" "" 136]) (Ts := [_, _, _, _, _, _, _, _, _, _, _]) (by kernel_rfl) (by kernel_rfl) ⟨(rd_str (by kernel_rfl)), (rd_int (by kernel_rfl)), (rd_int (by kernel_rfl)), (rd_int (by kernel_rfl)), (rd_int (by kernel_rfl)), (rd_int (by kernel_rfl)), rd_44, rd_44, rd_44, (rd_int (by kernel_rfl)), (rd_int (by kernel_rfl)), trivial⟩) fun l h => by
  obtain ⟨_, _, rfl, ⟨x0, rfl, h0⟩, _, _, rfl, ⟨x1, rfl, h1⟩, _, _, rfl, ⟨x2, rfl, h2⟩, _, _, rfl, ⟨x3, rfl, h3⟩, _, _, rfl, ⟨x4, rfl, h4⟩, _, _, rfl, ⟨x5, rfl, h5⟩, _, _, rfl, ⟨x6, rfl, h6⟩, _, _, rfl, ⟨x7, rfl, h7⟩, _, _, rfl, ⟨x8, rfl, h8⟩, _, _, rfl, ⟨x9, rfl, h9⟩, _, _, rfl, ⟨x10, rfl, h10⟩, rfl⟩ := h
  exact ⟨⟨x0, x1, x2, x3, x4, x5, x6, x7, x8, x9, x10⟩, by simp [c_S_Body, cI, cB, cS, cL, c_S_Limb, c_A5_struct_S_Limb, c_S_State, c_A3_int_i64, c_S_Body, c_S_Role, c_S_Ratio, c_S_Sign, c_S_Real, c_A2_int_i64, c_A4_arr_2_int_i64, c_A2_arr_2_int_i64, c_A4_int_i64, c_S_pose_change, c_S_Range, c_S_Box, c_S_body_contract, c_S_Vec, c_A5_int_i64, c_A4_bool], h0, h1, h2, h3, h4, h5, h6, h7, h8, h9, h10⟩
def Pure9 : Prop := ∀ (a0 : S_State) (a1 : S_Body), ok_S_State a0 → ok_S_Body a1 → G9 a0 a1 = some true
theorem walk9 (hp : Pure9) (W : World) (base : Nat) (args : Array Value) {H : Type} {enc : TypeId × Value → H} (hg : Given enc Tryd.prog W base Tryd.f9.params args) (hl : ∀ (G : Nat) (vs : List Value), (cx C0).glob G = some vs → ∀ (j : Nat) (v : Value), vs[j]? = some v → W.cell? ⟨G, j, none⟩ = some v) :
    Calls Tryd.prog 9 args W fun e W' => e = .returned (.bool true) ∧ Below W.heap.size W W' := by
  obtain ⟨v0, v1, rfl⟩ := args_2 hg.1
  obtain ⟨a0, b0, w0⟩ := gv_struct hg 0 rfl rfl (fs := #[Field.mk "X" 3 0 false "" "" 0, Field.mk "Y" 3 1 false "" "" 8, Field.mk "Face" 3 2 false "" "" 16, Field.mk "Limbs" 24 3 false "" "" 24]) (by kernel_rfl) rd_26
  obtain ⟨a1, b1, w1⟩ := gv_struct hg 1 rfl rfl (fs := #[Field.mk "Name" 9 0 false "" "" 0, Field.mk "Weight" 3 1 false "" "" 16, Field.mk "Lift" 3 2 false "" "" 24, Field.mk "Girth" 3 3 false "" "" 32, Field.mk "Step" 3 4 false "" "" 40, Field.mk "Jump" 3 5 false "" "" 48, Field.mk "Reach" 44 6 false "" "" 56, Field.mk "Speed" 44 9 false "" "" 80, Field.mk "Top" 44 12 false "" "" 104, Field.mk "Effort" 3 15 false "" "" 128, Field.mk "Recover" 3 16 false "" "" 136]) (by kernel_rfl) rd_46
  refine law_ev (glob := (cx C0).glob) (ok9 _ _ ((orcOf_eq _ ix9 (a0, a1)).trans (by simp only [hp a0 a1 b0 b1]; rfl))) hl ?_
  exact VRs_cons w0 (VRs_cons w1 (by rw [VRs]))
end Go.Proofs.YtooamdacfhfjoaaDoor
