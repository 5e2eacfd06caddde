/-
  The laws' arguments, read: by a tool.
-/
import Derived.Test.YtooamdacfhfjoaaDoorAs
import Derived.Test.YtooamdacfhfjoaaDoorEvLaw
namespace Go.Proofs.YtooamdacfhfjoaaDoor
open Go.RowKit Go.ChangeShapes Go.WideShapes Go.ChangeAt Go.Deep
set_option linter.unusedVariables false
set_option linter.unusedSimpArgs false
set_option maxHeartbeats 4000000
set_option maxRecDepth 100000
theorem args_3 {args : Array Value} (h : args.size = 3) : ∃ a0 a1 a2, args = #[a0, a1, a2] := by
  match args, h with | ⟨[a0, a1, a2]⟩, _ => exact ⟨a0, a1, a2, rfl⟩
def ok_S_Limb (x : S_Limb) : Prop := In64 x.Dir ∧ In64 x.Level
def ok_S_State (x : S_State) : Prop := In64 x.X ∧ In64 x.Y ∧ In64 x.Face ∧ (ok_S_Limb x.Limbs.1 ∧ ok_S_Limb x.Limbs.2.1 ∧ ok_S_Limb x.Limbs.2.2.1 ∧ ok_S_Limb x.Limbs.2.2.2.1 ∧ ok_S_Limb x.Limbs.2.2.2.2)
def ok_S_Ratio (x : S_Ratio) : Prop := In64 x.N ∧ In64 x.D
def ok_S_Sign (x : S_Sign) : Prop := In64 x.ID ∧ In64 x.Role ∧ In64 x.Bar ∧ In64 x.Mark ∧ In64 x.Kind ∧ In64 x.Side ∧ In64 x.Dir ∧ In64 x.Level ∧ In64 x.Size ∧ In64 x.With ∧ ok_S_Ratio x.From ∧ ok_S_Ratio x.To
def ok_S_Real (x : S_Real) : Prop := In64 x.Sign ∧ In64 x.Dir ∧ In64 x.Level
theorem rd_23 : RdT Tryd.prog 23 c_S_Limb ok_S_Limb := RdT.of (readsA_struct (fs := #[Field.mk "Dir" 3 0 false "" "" 0, Field.mk "Level" 3 1 false "" "" 8]) (Ts := [_, _]) (by kernel_rfl) (by kernel_rfl) ⟨(rd_int (by kernel_rfl)), (rd_int (by kernel_rfl)), trivial⟩) fun l h => by
  obtain ⟨_, _, rfl, ⟨x0, rfl, h0⟩, _, _, rfl, ⟨x1, rfl, h1⟩, rfl⟩ := h
  exact ⟨⟨x0, x1⟩, by simp [c_S_Limb, cI, cB, cS, cL, c_S_Limb, c_A5_struct_S_Limb, c_S_State, c_S_Ratio, c_S_Sign, c_S_Real, c_S_Role, c_A2_int_i64, c_A4_arr_2_int_i64, c_A2_arr_2_int_i64, c_A4_int_i64, c_S_pose_change, c_A3_int_i64, c_S_Body, c_S_Range, c_S_Box, c_S_body_contract, c_S_Vec, c_A5_int_i64], h0, h1⟩
theorem rd_24 : RdT Tryd.prog 24 c_A5_struct_S_Limb (fun x => (ok_S_Limb x.1 ∧ ok_S_Limb x.2.1 ∧ ok_S_Limb x.2.2.1 ∧ ok_S_Limb x.2.2.2.1 ∧ ok_S_Limb x.2.2.2.2)) := RdT.of (readsA_array (n := 5) (e := 23) (by kernel_rfl) (by kernel_rfl) rd_23) fun l h => by
  obtain ⟨_, _, rfl, ⟨x0, rfl, h0⟩, _, _, rfl, ⟨x1, rfl, h1⟩, _, _, rfl, ⟨x2, rfl, h2⟩, _, _, rfl, ⟨x3, rfl, h3⟩, _, _, rfl, ⟨x4, rfl, h4⟩, rfl⟩ := h
  exact ⟨(x0, x1, x2, x3, x4), by simp [cI, cB, cS, cL, c_S_Limb, c_A5_struct_S_Limb, c_S_State, c_S_Ratio, c_S_Sign, c_S_Real, c_S_Role, c_A2_int_i64, c_A4_arr_2_int_i64, c_A2_arr_2_int_i64, c_A4_int_i64, c_S_pose_change, c_A3_int_i64, c_S_Body, c_S_Range, c_S_Box, c_S_body_contract, c_S_Vec, c_A5_int_i64], h0, h1, h2, h3, h4⟩
theorem rd_26 : RdT Tryd.prog 26 c_S_State ok_S_State := RdT.of (readsA_struct (fs := #[Field.mk "X" 3 0 false "" "" 0, Field.mk "Y" 3 1 false "" "" 8, Field.mk "Face" 3 2 false "" "" 16, Field.mk "Limbs" 24 3 false "" "" 24]) (Ts := [_, _, _, _]) (by kernel_rfl) (by kernel_rfl) ⟨(rd_int (by kernel_rfl)), (rd_int (by kernel_rfl)), (rd_int (by kernel_rfl)), rd_24, trivial⟩) fun l h => by
  obtain ⟨_, _, rfl, ⟨x0, rfl, h0⟩, _, _, rfl, ⟨x1, rfl, h1⟩, _, _, rfl, ⟨x2, rfl, h2⟩, _, _, rfl, ⟨x3, rfl, h3⟩, rfl⟩ := h
  exact ⟨⟨x0, x1, x2, x3⟩, by simp [c_S_State, cI, cB, cS, cL, c_S_Limb, c_A5_struct_S_Limb, c_S_State, c_S_Ratio, c_S_Sign, c_S_Real, c_S_Role, c_A2_int_i64, c_A4_arr_2_int_i64, c_A2_arr_2_int_i64, c_A4_int_i64, c_S_pose_change, c_A3_int_i64, c_S_Body, c_S_Range, c_S_Box, c_S_body_contract, c_S_Vec, c_A5_int_i64], h0, h1, h2, h3⟩
theorem rd_37 : RdT Tryd.prog 37 c_S_Ratio ok_S_Ratio := RdT.of (readsA_struct (fs := #[Field.mk "N" 3 0 false "" "" 0, Field.mk "D" 3 1 false "" "" 8]) (Ts := [_, _]) (by kernel_rfl) (by kernel_rfl) ⟨(rd_int (by kernel_rfl)), (rd_int (by kernel_rfl)), trivial⟩) fun l h => by
  obtain ⟨_, _, rfl, ⟨x0, rfl, h0⟩, _, _, rfl, ⟨x1, rfl, h1⟩, rfl⟩ := h
  exact ⟨⟨x0, x1⟩, by simp [c_S_Ratio, cI, cB, cS, cL, c_S_Limb, c_A5_struct_S_Limb, c_S_State, c_S_Ratio, c_S_Sign, c_S_Real, c_S_Role, c_A2_int_i64, c_A4_arr_2_int_i64, c_A2_arr_2_int_i64, c_A4_int_i64, c_S_pose_change, c_A3_int_i64, c_S_Body, c_S_Range, c_S_Box, c_S_body_contract, c_S_Vec, c_A5_int_i64], h0, h1⟩
theorem rd_39 : RdT Tryd.prog 39 c_S_Sign ok_S_Sign := RdT.of (readsA_struct (fs := #[Field.mk "ID" 3 0 false "" "" 0, Field.mk "Role" 3 1 false "" "" 8, Field.mk "Bar" 3 2 false "" "" 16, Field.mk "Mark" 3 3 false "" "" 24, Field.mk "Kind" 3 4 false "" "" 32, Field.mk "Side" 3 5 false "" "" 40, Field.mk "Dir" 3 6 false "" "" 48, Field.mk "Level" 3 7 false "" "" 56, Field.mk "Size" 3 8 false "" "" 64, Field.mk "With" 3 9 false "" "" 72, Field.mk "From" 37 10 false "" "" 80, Field.mk "To" 37 12 false "" "" 96]) (Ts := [_, _, _, _, _, _, _, _, _, _, _, _]) (by kernel_rfl) (by kernel_rfl) ⟨(rd_int (by kernel_rfl)), (rd_int (by kernel_rfl)), (rd_int (by kernel_rfl)), (rd_int (by kernel_rfl)), (rd_int (by kernel_rfl)), (rd_int (by kernel_rfl)), (rd_int (by kernel_rfl)), (rd_int (by kernel_rfl)), (rd_int (by kernel_rfl)), (rd_int (by kernel_rfl)), rd_37, rd_37, trivial⟩) fun l h => by
  obtain ⟨_, _, rfl, ⟨x0, rfl, h0⟩, _, _, rfl, ⟨x1, rfl, h1⟩, _, _, rfl, ⟨x2, rfl, h2⟩, _, _, rfl, ⟨x3, rfl, h3⟩, _, _, rfl, ⟨x4, rfl, h4⟩, _, _, rfl, ⟨x5, rfl, h5⟩, _, _, rfl, ⟨x6, rfl, h6⟩, _, _, rfl, ⟨x7, rfl, h7⟩, _, _, rfl, ⟨x8, rfl, h8⟩, _, _, rfl, ⟨x9, rfl, h9⟩, _, _, rfl, ⟨x10, rfl, h10⟩, _, _, rfl, ⟨x11, rfl, h11⟩, rfl⟩ := h
  exact ⟨⟨x0, x1, x2, x3, x4, x5, x6, x7, x8, x9, x10, x11⟩, by simp [c_S_Sign, cI, cB, cS, cL, c_S_Limb, c_A5_struct_S_Limb, c_S_State, c_S_Ratio, c_S_Sign, c_S_Real, c_S_Role, c_A2_int_i64, c_A4_arr_2_int_i64, c_A2_arr_2_int_i64, c_A4_int_i64, c_S_pose_change, c_A3_int_i64, c_S_Body, c_S_Range, c_S_Box, c_S_body_contract, c_S_Vec, c_A5_int_i64], h0, h1, h2, h3, h4, h5, h6, h7, h8, h9, h10, h11⟩
theorem rd_41 : RdT Tryd.prog 41 c_S_Real ok_S_Real := RdT.of (readsA_struct (fs := #[Field.mk "Sign" 3 0 false "" "" 0, Field.mk "Dir" 3 1 false "" "" 8, Field.mk "Level" 3 2 false "" "" 16, Field.mk "Drop" 4 3 false "" "" 24]) (Ts := [_, _, _, _]) (by kernel_rfl) (by kernel_rfl) ⟨(rd_int (by kernel_rfl)), (rd_int (by kernel_rfl)), (rd_int (by kernel_rfl)), (rd_bool (by kernel_rfl)), trivial⟩) fun l h => by
  obtain ⟨_, _, rfl, ⟨x0, rfl, h0⟩, _, _, rfl, ⟨x1, rfl, h1⟩, _, _, rfl, ⟨x2, rfl, h2⟩, _, _, rfl, ⟨x3, rfl, h3⟩, rfl⟩ := h
  exact ⟨⟨x0, x1, x2, x3⟩, by simp [c_S_Real, cI, cB, cS, cL, c_S_Limb, c_A5_struct_S_Limb, c_S_State, c_S_Ratio, c_S_Sign, c_S_Real, c_S_Role, c_A2_int_i64, c_A4_arr_2_int_i64, c_A2_arr_2_int_i64, c_A4_int_i64, c_S_pose_change, c_A3_int_i64, c_S_Body, c_S_Range, c_S_Box, c_S_body_contract, c_S_Vec, c_A5_int_i64], h0, h1, h2⟩
def Pure8 : Prop := ∀ (a0 : S_State) (a1 : S_Sign) (a2 : S_Real), ok_S_State a0 → ok_S_Sign a1 → ok_S_Real a2 → G8 a0 a1 a2 = some true
theorem walk8 (hp : Pure8) (W : World) (base : Nat) (args : Array Value) {H : Type} {enc : TypeId × Value → H} (hg : Given enc Tryd.prog W base Tryd.f8.params args) (hl : ∀ (G : Nat) (vs : List Value), (cx C0).glob G = some vs → ∀ (j : Nat) (v : Value), vs[j]? = some v → W.cell? ⟨G, j, none⟩ = some v) :
    Calls Tryd.prog 8 args W fun e W' => e = .returned (.bool true) ∧ Below W.heap.size W W' := by
  obtain ⟨v0, v1, v2, rfl⟩ := args_3 hg.1
  obtain ⟨a0, b0, w0⟩ := gv_struct hg 0 rfl rfl (fs := #[Field.mk "X" 3 0 false "" "" 0, Field.mk "Y" 3 1 false "" "" 8, Field.mk "Face" 3 2 false "" "" 16, Field.mk "Limbs" 24 3 false "" "" 24]) (by kernel_rfl) rd_26
  obtain ⟨a1, b1, w1⟩ := gv_struct hg 1 rfl rfl (fs := #[Field.mk "ID" 3 0 false "" "" 0, Field.mk "Role" 3 1 false "" "" 8, Field.mk "Bar" 3 2 false "" "" 16, Field.mk "Mark" 3 3 false "" "" 24, Field.mk "Kind" 3 4 false "" "" 32, Field.mk "Side" 3 5 false "" "" 40, Field.mk "Dir" 3 6 false "" "" 48, Field.mk "Level" 3 7 false "" "" 56, Field.mk "Size" 3 8 false "" "" 64, Field.mk "With" 3 9 false "" "" 72, Field.mk "From" 37 10 false "" "" 80, Field.mk "To" 37 12 false "" "" 96]) (by kernel_rfl) rd_39
  obtain ⟨a2, b2, w2⟩ := gv_struct hg 2 rfl rfl (fs := #[Field.mk "Sign" 3 0 false "" "" 0, Field.mk "Dir" 3 1 false "" "" 8, Field.mk "Level" 3 2 false "" "" 16, Field.mk "Drop" 4 3 false "" "" 24]) (by kernel_rfl) rd_41
  refine law_ev (glob := (cx C0).glob) (ok8 _ _ ((orcOf_eq _ ix8 (a0, a1, a2)).trans (by simp only [hp a0 a1 a2 b0 b1 b2]; rfl))) hl ?_
  exact VRs_cons w0 (VRs_cons w1 (VRs_cons w2 (by rw [VRs])))
end Go.Proofs.YtooamdacfhfjoaaDoor
