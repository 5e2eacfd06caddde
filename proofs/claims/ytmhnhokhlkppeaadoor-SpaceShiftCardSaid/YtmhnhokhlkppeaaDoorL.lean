/-
  The laws' arguments, read: by a tool.
-/
import Derived.Test.YtmhnhokhlkppeaaDoorAs
import Derived.Test.YtmhnhokhlkppeaaDoorEvLaw
namespace Go.Proofs.YtmhnhokhlkppeaaDoor
open Go.RowKit Go.ChangeShapes Go.WideShapes Go.ChangeAt Go.Deep
set_option linter.unusedVariables false
set_option linter.unusedSimpArgs false
set_option maxHeartbeats 4000000
set_option maxRecDepth 100000
theorem args_1 {args : Array Value} (h : args.size = 1) : ∃ a0, args = #[a0] := by
  match args, h with | ⟨[a0]⟩, _ => exact ⟨a0, rfl⟩
theorem args_2 {args : Array Value} (h : args.size = 2) : ∃ a0 a1, args = #[a0, a1] := by
  match args, h with | ⟨[a0, a1]⟩, _ => exact ⟨a0, a1, rfl⟩
theorem args_3 {args : Array Value} (h : args.size = 3) : ∃ a0 a1 a2, args = #[a0, a1, a2] := by
  match args, h with | ⟨[a0, a1, a2]⟩, _ => exact ⟨a0, a1, a2, rfl⟩
theorem args_4 {args : Array Value} (h : args.size = 4) : ∃ a0 a1 a2 a3, args = #[a0, a1, a2, a3] := by
  match args, h with | ⟨[a0, a1, a2, a3]⟩, _ => exact ⟨a0, a1, a2, a3, rfl⟩
theorem args_5 {args : Array Value} (h : args.size = 5) : ∃ a0 a1 a2 a3 a4, args = #[a0, a1, a2, a3, a4] := by
  match args, h with | ⟨[a0, a1, a2, a3, a4]⟩, _ => exact ⟨a0, a1, a2, a3, a4, rfl⟩
theorem args_6 {args : Array Value} (h : args.size = 6) : ∃ a0 a1 a2 a3 a4 a5, args = #[a0, a1, a2, a3, a4, a5] := by
  match args, h with | ⟨[a0, a1, a2, a3, a4, a5]⟩, _ => exact ⟨a0, a1, a2, a3, a4, a5, rfl⟩
theorem args_7 {args : Array Value} (h : args.size = 7) : ∃ a0 a1 a2 a3 a4 a5 a6, args = #[a0, a1, a2, a3, a4, a5, a6] := by
  match args, h with | ⟨[a0, a1, a2, a3, a4, a5, a6]⟩, _ => exact ⟨a0, a1, a2, a3, a4, a5, a6, rfl⟩
def ok_S_Vec (x : S_Vec) : Prop := In64 x.X ∧ In64 x.Y ∧ In64 x.Z
def ok_S_Range (x : S_Range) : Prop := In64 x.Lo ∧ In64 x.Hi
def ok_S_Box (x : S_Box) : Prop := ok_S_Range x.X ∧ ok_S_Range x.Y
theorem rd_24 : RdT Tryd.prog 24 c_S_Vec ok_S_Vec := RdT.of (readsA_struct (fs := #[Field.mk "X" 3 0 false "" "" 0, Field.mk "Y" 3 1 false "" "" 8, Field.mk "Z" 3 2 false "" "" 16]) (Ts := [_, _, _]) (by kernel_rfl) (by kernel_rfl) ⟨(rd_int (by kernel_rfl)), (rd_int (by kernel_rfl)), (rd_int (by kernel_rfl)), trivial⟩) fun l h => by
  obtain ⟨_, _, rfl, ⟨x0, rfl, h0⟩, _, _, rfl, ⟨x1, rfl, h1⟩, _, _, rfl, ⟨x2, rfl, h2⟩, rfl⟩ := h
  exact ⟨⟨x0, x1, x2⟩, by simp [c_S_Vec, cI, cB, cS, cL, c_S_Vec, c_S_Range, c_S_Box], h0, h1, h2⟩
theorem rd_35 : RdT Tryd.prog 35 c_S_Range ok_S_Range := RdT.of (readsA_struct (fs := #[Field.mk "Lo" 3 0 false "" "" 0, Field.mk "Hi" 3 1 false "" "" 8]) (Ts := [_, _]) (by kernel_rfl) (by kernel_rfl) ⟨(rd_int (by kernel_rfl)), (rd_int (by kernel_rfl)), trivial⟩) fun l h => by
  obtain ⟨_, _, rfl, ⟨x0, rfl, h0⟩, _, _, rfl, ⟨x1, rfl, h1⟩, rfl⟩ := h
  exact ⟨⟨x0, x1⟩, by simp [c_S_Range, cI, cB, cS, cL, c_S_Vec, c_S_Range, c_S_Box], h0, h1⟩
theorem rd_37 : RdT Tryd.prog 37 c_S_Box ok_S_Box := RdT.of (readsA_struct (fs := #[Field.mk "X" 35 0 false "" "" 0, Field.mk "Y" 35 2 false "" "" 16]) (Ts := [_, _]) (by kernel_rfl) (by kernel_rfl) ⟨rd_35, rd_35, trivial⟩) fun l h => by
  obtain ⟨_, _, rfl, ⟨x0, rfl, h0⟩, _, _, rfl, ⟨x1, rfl, h1⟩, rfl⟩ := h
  exact ⟨⟨x0, x1⟩, by simp [c_S_Box, cI, cB, cS, cL, c_S_Vec, c_S_Range, c_S_Box], h0, h1⟩
def Pure3 : Prop := ∀ (a0 : Int) (a1 : Int), In64 a0 → In64 a1 → G3 a0 a1 = some true
theorem walk3 (hp : Pure3) (W : World) (base : Nat) (args : Array Value) {H : Type} {enc : TypeId × Value → H} (hg : Given enc Tryd.prog W base Tryd.f3.params args) (hl : ∀ (G : Nat) (vs : List Value), (cx C0).glob G = some vs → ∀ (j : Nat) (v : Value), vs[j]? = some v → W.cell? ⟨G, j, none⟩ = some v) :
    Calls Tryd.prog 3 args W fun e W' => e = .returned (.bool true) ∧ Below W.heap.size W W' := by
  obtain ⟨v0, v1, rfl⟩ := args_2 hg.1
  obtain ⟨a0, b0, w0⟩ := gv_int hg 0 rfl rfl (by kernel_rfl)
  obtain ⟨a1, b1, w1⟩ := gv_int hg 1 rfl rfl (by kernel_rfl)
  refine law_ev (glob := (cx C0).glob) (ok3 _ _ ((orcOf_eq _ ix3 (a0, a1)).trans (by simp only [hp a0 a1 b0 b1]; rfl))) hl ?_
  exact VRs_cons w0 (VRs_cons w1 (by rw [VRs]))
def Pure4 : Prop := ∀ (a0 : S_Vec) (a1 : S_Vec) (a2 : S_Box) (a3 : S_Box) (a4 : Int) (a5 : Int), ok_S_Vec a0 → ok_S_Vec a1 → ok_S_Box a2 → ok_S_Box a3 → In64 a4 → In64 a5 → G4 a0 a1 a2 a3 a4 a5 = some true
theorem walk4 (hp : Pure4) (W : World) (base : Nat) (args : Array Value) {H : Type} {enc : TypeId × Value → H} (hg : Given enc Tryd.prog W base Tryd.f4.params args) (hl : ∀ (G : Nat) (vs : List Value), (cx C0).glob G = some vs → ∀ (j : Nat) (v : Value), vs[j]? = some v → W.cell? ⟨G, j, none⟩ = some v) :
    Calls Tryd.prog 4 args W fun e W' => e = .returned (.bool true) ∧ Below W.heap.size W W' := by
  obtain ⟨v0, v1, v2, v3, v4, v5, rfl⟩ := args_6 hg.1
  obtain ⟨a0, b0, w0⟩ := gv_struct hg 0 rfl rfl (fs := #[Field.mk "X" 3 0 false "" "" 0, Field.mk "Y" 3 1 false "" "" 8, Field.mk "Z" 3 2 false "" "" 16]) (by kernel_rfl) rd_24
  obtain ⟨a1, b1, w1⟩ := gv_struct hg 1 rfl rfl (fs := #[Field.mk "X" 3 0 false "" "" 0, Field.mk "Y" 3 1 false "" "" 8, Field.mk "Z" 3 2 false "" "" 16]) (by kernel_rfl) rd_24
  obtain ⟨a2, b2, w2⟩ := gv_struct hg 2 rfl rfl (fs := #[Field.mk "X" 35 0 false "" "" 0, Field.mk "Y" 35 2 false "" "" 16]) (by kernel_rfl) rd_37
  obtain ⟨a3, b3, w3⟩ := gv_struct hg 3 rfl rfl (fs := #[Field.mk "X" 35 0 false "" "" 0, Field.mk "Y" 35 2 false "" "" 16]) (by kernel_rfl) rd_37
  obtain ⟨a4, b4, w4⟩ := gv_int hg 4 rfl rfl (by kernel_rfl)
  obtain ⟨a5, b5, w5⟩ := gv_int hg 5 rfl rfl (by kernel_rfl)
  refine law_ev (glob := (cx C0).glob) (ok4 _ _ ((orcOf_eq _ ix4 (a0, a1, a2, a3, a4, a5)).trans (by simp only [hp a0 a1 a2 a3 a4 a5 b0 b1 b2 b3 b4 b5]; rfl))) hl ?_
  exact VRs_cons w0 (VRs_cons w1 (VRs_cons w2 (VRs_cons w3 (VRs_cons w4 (VRs_cons w5 (by rw [VRs]))))))
def Pure5 : Prop := ∀ (a0 : Int) (a1 : Int) (a2 : Int) (a3 : Int), InU8 a0 → InU8 a1 → InU8 a2 → InU8 a3 → G5 a0 a1 a2 a3 = some true
theorem walk5 (hp : Pure5) (W : World) (base : Nat) (args : Array Value) {H : Type} {enc : TypeId × Value → H} (hg : Given enc Tryd.prog W base Tryd.f5.params args) (hl : ∀ (G : Nat) (vs : List Value), (cx C0).glob G = some vs → ∀ (j : Nat) (v : Value), vs[j]? = some v → W.cell? ⟨G, j, none⟩ = some v) :
    Calls Tryd.prog 5 args W fun e W' => e = .returned (.bool true) ∧ Below W.heap.size W W' := by
  obtain ⟨v0, v1, v2, v3, rfl⟩ := args_4 hg.1
  obtain ⟨a0, b0, w0⟩ := gv_u8 hg 0 rfl rfl (by kernel_rfl)
  obtain ⟨a1, b1, w1⟩ := gv_u8 hg 1 rfl rfl (by kernel_rfl)
  obtain ⟨a2, b2, w2⟩ := gv_u8 hg 2 rfl rfl (by kernel_rfl)
  obtain ⟨a3, b3, w3⟩ := gv_u8 hg 3 rfl rfl (by kernel_rfl)
  refine law_ev (glob := (cx C0).glob) (ok5 _ _ ((orcOf_eq _ ix5 (a0, a1, a2, a3)).trans (by simp only [hp a0 a1 a2 a3 b0 b1 b2 b3]; rfl))) hl ?_
  exact VRs_cons w0 (VRs_cons w1 (VRs_cons w2 (VRs_cons w3 (by rw [VRs]))))
def Pure6 : Prop := ∀ (a0 : Int) (a1 : Int) (a2 : Int) (a3 : Int), InU8 a0 → InU8 a1 → InU8 a2 → InU8 a3 → G6 a0 a1 a2 a3 = some true
theorem walk6 (hp : Pure6) (W : World) (base : Nat) (args : Array Value) {H : Type} {enc : TypeId × Value → H} (hg : Given enc Tryd.prog W base Tryd.f6.params args) (hl : ∀ (G : Nat) (vs : List Value), (cx C0).glob G = some vs → ∀ (j : Nat) (v : Value), vs[j]? = some v → W.cell? ⟨G, j, none⟩ = some v) :
    Calls Tryd.prog 6 args W fun e W' => e = .returned (.bool true) ∧ Below W.heap.size W W' := by
  obtain ⟨v0, v1, v2, v3, rfl⟩ := args_4 hg.1
  obtain ⟨a0, b0, w0⟩ := gv_u8 hg 0 rfl rfl (by kernel_rfl)
  obtain ⟨a1, b1, w1⟩ := gv_u8 hg 1 rfl rfl (by kernel_rfl)
  obtain ⟨a2, b2, w2⟩ := gv_u8 hg 2 rfl rfl (by kernel_rfl)
  obtain ⟨a3, b3, w3⟩ := gv_u8 hg 3 rfl rfl (by kernel_rfl)
  refine law_ev (glob := (cx C0).glob) (ok6 _ _ ((orcOf_eq _ ix6 (a0, a1, a2, a3)).trans (by simp only [hp a0 a1 a2 a3 b0 b1 b2 b3]; rfl))) hl ?_
  exact VRs_cons w0 (VRs_cons w1 (VRs_cons w2 (VRs_cons w3 (by rw [VRs]))))
def Pure7 : Prop := ∀ (a0 : S_Vec) (a1 : S_Vec) (a2 : S_Vec) (a3 : Int) (a4 : Int) (a5 : Int) (a6 : Int), ok_S_Vec a0 → ok_S_Vec a1 → ok_S_Vec a2 → InU8 a3 → InU8 a4 → InU8 a5 → InU8 a6 → G7 a0 a1 a2 a3 a4 a5 a6 = some true
theorem walk7 (hp : Pure7) (W : World) (base : Nat) (args : Array Value) {H : Type} {enc : TypeId × Value → H} (hg : Given enc Tryd.prog W base Tryd.f7.params args) (hl : ∀ (G : Nat) (vs : List Value), (cx C0).glob G = some vs → ∀ (j : Nat) (v : Value), vs[j]? = some v → W.cell? ⟨G, j, none⟩ = some v) :
    Calls Tryd.prog 7 args W fun e W' => e = .returned (.bool true) ∧ Below W.heap.size W W' := by
  obtain ⟨v0, v1, v2, v3, v4, v5, v6, rfl⟩ := args_7 hg.1
  obtain ⟨a0, b0, w0⟩ := gv_struct hg 0 rfl rfl (fs := #[Field.mk "X" 3 0 false "" "" 0, Field.mk "Y" 3 1 false "" "" 8, Field.mk "Z" 3 2 false "" "" 16]) (by kernel_rfl) rd_24
  obtain ⟨a1, b1, w1⟩ := gv_struct hg 1 rfl rfl (fs := #[Field.mk "X" 3 0 false "" "" 0, Field.mk "Y" 3 1 false "" "" 8, Field.mk "Z" 3 2 false "" "" 16]) (by kernel_rfl) rd_24
  obtain ⟨a2, b2, w2⟩ := gv_struct hg 2 rfl rfl (fs := #[Field.mk "X" 3 0 false "" "" 0, Field.mk "Y" 3 1 false "" "" 8, Field.mk "Z" 3 2 false "" "" 16]) (by kernel_rfl) rd_24
  obtain ⟨a3, b3, w3⟩ := gv_u8 hg 3 rfl rfl (by kernel_rfl)
  obtain ⟨a4, b4, w4⟩ := gv_u8 hg 4 rfl rfl (by kernel_rfl)
  obtain ⟨a5, b5, w5⟩ := gv_u8 hg 5 rfl rfl (by kernel_rfl)
  obtain ⟨a6, b6, w6⟩ := gv_u8 hg 6 rfl rfl (by kernel_rfl)
  refine law_ev (glob := (cx C0).glob) (ok7 _ _ ((orcOf_eq _ ix7 (a0, a1, a2, a3, a4, a5, a6)).trans (by simp only [hp a0 a1 a2 a3 a4 a5 a6 b0 b1 b2 b3 b4 b5 b6]; rfl))) hl ?_
  exact VRs_cons w0 (VRs_cons w1 (VRs_cons w2 (VRs_cons w3 (VRs_cons w4 (VRs_cons w5 (VRs_cons w6 (by rw [VRs])))))))
def Pure8 : Prop := ∀ (a0 : S_Box) (a1 : S_Box) (a2 : S_Box), ok_S_Box a0 → ok_S_Box a1 → ok_S_Box a2 → G8 a0 a1 a2 = some true
theorem walk8 (hp : Pure8) (W : World) (base : Nat) (args : Array Value) {H : Type} {enc : TypeId × Value → H} (hg : Given enc Tryd.prog W base Tryd.f8.params args) (hl : ∀ (G : Nat) (vs : List Value), (cx C0).glob G = some vs → ∀ (j : Nat) (v : Value), vs[j]? = some v → W.cell? ⟨G, j, none⟩ = some v) :
    Calls Tryd.prog 8 args W fun e W' => e = .returned (.bool true) ∧ Below W.heap.size W W' := by
  obtain ⟨v0, v1, v2, rfl⟩ := args_3 hg.1
  obtain ⟨a0, b0, w0⟩ := gv_struct hg 0 rfl rfl (fs := #[Field.mk "X" 35 0 false "" "" 0, Field.mk "Y" 35 2 false "" "" 16]) (by kernel_rfl) rd_37
  obtain ⟨a1, b1, w1⟩ := gv_struct hg 1 rfl rfl (fs := #[Field.mk "X" 35 0 false "" "" 0, Field.mk "Y" 35 2 false "" "" 16]) (by kernel_rfl) rd_37
  obtain ⟨a2, b2, w2⟩ := gv_struct hg 2 rfl rfl (fs := #[Field.mk "X" 35 0 false "" "" 0, Field.mk "Y" 35 2 false "" "" 16]) (by kernel_rfl) rd_37
  refine law_ev (glob := (cx C0).glob) (ok8 _ _ ((orcOf_eq _ ix8 (a0, a1, a2)).trans (by simp only [hp a0 a1 a2 b0 b1 b2]; rfl))) hl ?_
  exact VRs_cons w0 (VRs_cons w1 (VRs_cons w2 (by rw [VRs])))
def Pure9 : Prop := ∀ (a0 : S_Box) (a1 : S_Box) (a2 : Int) (a3 : Int), ok_S_Box a0 → ok_S_Box a1 → In64 a2 → In64 a3 → G9 a0 a1 a2 a3 = some true
theorem walk9 (hp : Pure9) (W : World) (base : Nat) (args : Array Value) {H : Type} {enc : TypeId × Value → H} (hg : Given enc Tryd.prog W base Tryd.f9.params args) (hl : ∀ (G : Nat) (vs : List Value), (cx C0).glob G = some vs → ∀ (j : Nat) (v : Value), vs[j]? = some v → W.cell? ⟨G, j, none⟩ = some v) :
    Calls Tryd.prog 9 args W fun e W' => e = .returned (.bool true) ∧ Below W.heap.size W W' := by
  obtain ⟨v0, v1, v2, v3, rfl⟩ := args_4 hg.1
  obtain ⟨a0, b0, w0⟩ := gv_struct hg 0 rfl rfl (fs := #[Field.mk "X" 35 0 false "" "" 0, Field.mk "Y" 35 2 false "" "" 16]) (by kernel_rfl) rd_37
  obtain ⟨a1, b1, w1⟩ := gv_struct hg 1 rfl rfl (fs := #[Field.mk "X" 35 0 false "" "" 0, Field.mk "Y" 35 2 false "" "" 16]) (by kernel_rfl) rd_37
  obtain ⟨a2, b2, w2⟩ := gv_int hg 2 rfl rfl (by kernel_rfl)
  obtain ⟨a3, b3, w3⟩ := gv_int hg 3 rfl rfl (by kernel_rfl)
  refine law_ev (glob := (cx C0).glob) (ok9 _ _ ((orcOf_eq _ ix9 (a0, a1, a2, a3)).trans (by simp only [hp a0 a1 a2 a3 b0 b1 b2 b3]; rfl))) hl ?_
  exact VRs_cons w0 (VRs_cons w1 (VRs_cons w2 (VRs_cons w3 (by rw [VRs]))))
end Go.Proofs.YtmhnhokhlkppeaaDoor
