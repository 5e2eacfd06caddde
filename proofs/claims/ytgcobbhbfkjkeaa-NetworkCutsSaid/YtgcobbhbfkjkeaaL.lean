/-
  The laws' arguments, read: by a tool.
-/
import Derived.Test.YtgcobbhbfkjkeaaAs
import Derived.Test.YtgcobbhbfkjkeaaEvLaw
namespace Go.Proofs.Ytgcobbhbfkjkeaa
open Go.RowKit Go.ChangeShapes Go.WideShapes Go.ChangeAt Go.Deep
set_option linter.unusedVariables false
set_option linter.unusedSimpArgs false
set_option maxHeartbeats 4000000
set_option maxRecDepth 100000
theorem args_1 {args : Array Value} (h : args.size = 1) : ∃ a0, args = #[a0] := by
  match args, h with | ⟨[a0]⟩, _ => exact ⟨a0, rfl⟩
theorem args_2 {args : Array Value} (h : args.size = 2) : ∃ a0 a1, args = #[a0, a1] := by
  match args, h with | ⟨[a0, a1]⟩, _ => exact ⟨a0, a1, rfl⟩
theorem args_3 {args : Array Value} (h : args.size = 3) : ∃ a0 a1 a2, args = #[a0, a1, a2] := by
  match args, h with | ⟨[a0, a1, a2]⟩, _ => exact ⟨a0, a1, a2, rfl⟩
theorem args_4 {args : Array Value} (h : args.size = 4) : ∃ a0 a1 a2 a3, args = #[a0, a1, a2, a3] := by
  match args, h with | ⟨[a0, a1, a2, a3]⟩, _ => exact ⟨a0, a1, a2, a3, rfl⟩
theorem args_5 {args : Array Value} (h : args.size = 5) : ∃ a0 a1 a2 a3 a4, args = #[a0, a1, a2, a3, a4] := by
  match args, h with | ⟨[a0, a1, a2, a3, a4]⟩, _ => exact ⟨a0, a1, a2, a3, a4, rfl⟩
def ok_S_Packet (x : S_Packet) : Prop := In64 x.From ∧ In64 x.To ∧ (x.Data.length ≤ maxL)
def ok_S_Net (x : S_Net) : Prop := (x.Queue.length ≤ maxL ∧ ∀ z ∈ x.Queue, ok_S_Packet z) ∧ (x.Apart.length ≤ maxL ∧ ∀ z ∈ x.Apart, (In64 z.1 ∧ In64 z.2))
def ok_S_kinespherelaw06_Move (x : S_kinespherelaw06_Move) : Prop := InU8 x.Kind ∧ InU8 x.At ∧ InU8 x.A ∧ InU8 x.B ∧ InU8 x.Data
theorem rd_28 : RdT Try.prog 28 c_S_Packet ok_S_Packet := RdT.of (readsA_struct (fs := #[Field.mk "From" 3 0 false "" "" 0, Field.mk "To" 3 1 false "" "" 8, Field.mk "Data" 26 2 false "" "" 16]) (Ts := [_, _, _]) (by kernel_rfl) (by kernel_rfl) ⟨(rd_int (by kernel_rfl)), (rd_int (by kernel_rfl)), (rd_slice0 (e := 5) (es := 1) (c := c8) (by kernel_rfl) (by kernel_rfl) (by decide) (fun _ => rfl) (rd_c8 (by kernel_rfl))), trivial⟩) fun l h => by
  obtain ⟨_, _, rfl, ⟨x0, rfl, h0⟩, _, _, rfl, ⟨x1, rfl, h1⟩, _, _, rfl, ⟨x2, rfl, h2⟩, rfl⟩ := h
  exact ⟨⟨x0, x1, x2⟩, by simp [c_S_Packet, cI, cB, cS, cL, c_S_Packet, c_A2_int_i64, c_S_Net, c_S_kinespherelaw06_Move], h0, h1, h2⟩
theorem rd_55 : RdT Try.prog 55 c_A2_int_i64 (fun x => (In64 x.1 ∧ In64 x.2)) := RdT.of (readsA_array (n := 2) (e := 3) (by kernel_rfl) (by kernel_rfl) (rd_int (by kernel_rfl))) fun l h => by
  obtain ⟨_, _, rfl, ⟨x0, rfl, h0⟩, _, _, rfl, ⟨x1, rfl, h1⟩, rfl⟩ := h
  exact ⟨(x0, x1), by simp [cI, cB, cS, cL, c_S_Packet, c_A2_int_i64, c_S_Net, c_S_kinespherelaw06_Move], h0, h1⟩
theorem rd_25 : RdT Try.prog 25 c_S_Net ok_S_Net := RdT.of (readsA_struct (fs := #[Field.mk "Queue" 22 0 false "" "" 0, Field.mk "Apart" 23 1 false "" "" 24]) (Ts := [_, _]) (by kernel_rfl) (by kernel_rfl) ⟨(rd_slice (e := 28) (es := 3) (c := c_S_Packet) (by kernel_rfl) (by kernel_rfl) (by decide) (fun _ => rfl) rd_28), (rd_slice (e := 55) (es := 2) (c := c_A2_int_i64) (by kernel_rfl) (by kernel_rfl) (by decide) (fun _ => rfl) rd_55), trivial⟩) fun l h => by
  obtain ⟨_, _, rfl, ⟨x0, rfl, h0⟩, _, _, rfl, ⟨x1, rfl, h1⟩, rfl⟩ := h
  exact ⟨⟨x0, x1⟩, by simp [c_S_Net, cI, cB, cS, cL, c_S_Packet, c_A2_int_i64, c_S_Net, c_S_kinespherelaw06_Move], h0, h1⟩
theorem rd_52 : RdT Try.prog 52 c_S_kinespherelaw06_Move ok_S_kinespherelaw06_Move := RdT.of (readsA_struct (fs := #[Field.mk "Kind" 5 0 false "" "" 0, Field.mk "At" 5 1 false "" "" 1, Field.mk "A" 5 2 false "" "" 2, Field.mk "B" 5 3 false "" "" 3, Field.mk "Data" 5 4 false "" "" 4]) (Ts := [_, _, _, _, _]) (by kernel_rfl) (by kernel_rfl) ⟨(rd_u8 (by kernel_rfl)), (rd_u8 (by kernel_rfl)), (rd_u8 (by kernel_rfl)), (rd_u8 (by kernel_rfl)), (rd_u8 (by kernel_rfl)), trivial⟩) fun l h => by
  obtain ⟨_, _, rfl, ⟨x0, rfl, h0⟩, _, _, rfl, ⟨x1, rfl, h1⟩, _, _, rfl, ⟨x2, rfl, h2⟩, _, _, rfl, ⟨x3, rfl, h3⟩, _, _, rfl, ⟨x4, rfl, h4⟩, rfl⟩ := h
  exact ⟨⟨x0, x1, x2, x3, x4⟩, by simp [c_S_kinespherelaw06_Move, cI, cB, cS, cL, c_S_Packet, c_A2_int_i64, c_S_Net, c_S_kinespherelaw06_Move], h0, h1, h2, h3, h4⟩
def Pure3 : Prop := ∀ (a0 : S_Net) (a1 : S_Packet), ok_S_Net a0 → ok_S_Packet a1 → G3 a0 a1 = some true
theorem walk3 (hp : Pure3) (W : World) (base : Nat) (args : Array Value) {H : Type} {enc : TypeId × Value → H} (hg : Given enc Try.prog W base Try.f3.params args) (hl : ∀ (G : Nat) (vs : List Value), (cx C0).glob G = some vs → ∀ (j : Nat) (v : Value), vs[j]? = some v → W.cell? ⟨G, j, none⟩ = some v) :
    Calls Try.prog 3 args W fun e W' => e = .returned (.bool true) ∧ Below W.heap.size W W' := by
  obtain ⟨v0, v1, rfl⟩ := args_2 hg.1
  obtain ⟨a0, b0, w0⟩ := gv_struct hg 0 rfl rfl (fs := #[Field.mk "Queue" 22 0 false "" "" 0, Field.mk "Apart" 23 1 false "" "" 24]) (by kernel_rfl) rd_25
  obtain ⟨a1, b1, w1⟩ := gv_struct hg 1 rfl rfl (fs := #[Field.mk "From" 3 0 false "" "" 0, Field.mk "To" 3 1 false "" "" 8, Field.mk "Data" 26 2 false "" "" 16]) (by kernel_rfl) rd_28
  refine law_ev (glob := (cx C0).glob) (ok3 _ _ ((orcOf_eq _ ix3 (a0, a1)).trans (by simp only [hp a0 a1 b0 b1]; rfl))) hl ?_
  exact VRs_cons w0 (VRs_cons w1 (by rw [VRs]))
def Pure4 : Prop := ∀ (a0 : (List S_Packet)) (a1 : (List UInt8)), (a0.length ≤ maxL ∧ ∀ z ∈ a0, ok_S_Packet z) → (a1.length ≤ maxL) → G4 a0 a1 = some true
theorem walk4 (hp : Pure4) (W : World) (base : Nat) (args : Array Value) {H : Type} {enc : TypeId × Value → H} (hg : Given enc Try.prog W base Try.f4.params args) (hl : ∀ (G : Nat) (vs : List Value), (cx C0).glob G = some vs → ∀ (j : Nat) (v : Value), vs[j]? = some v → W.cell? ⟨G, j, none⟩ = some v) :
    Calls Try.prog 4 args W fun e W' => e = .returned (.bool true) ∧ Below W.heap.size W W' := by
  obtain ⟨v0, v1, rfl⟩ := args_2 hg.1
  obtain ⟨a0, b0, w0⟩ := gv_slice' hg 0 rfl rfl (e := 28) (by kernel_rfl) (rd_slice (e := 28) (es := 3) (c := c_S_Packet) (by kernel_rfl) (by kernel_rfl) (by decide) (fun _ => rfl) rd_28)
  obtain ⟨a1, b1, w1⟩ := gv_slice' hg 1 rfl rfl (e := 5) (by kernel_rfl) (rd_slice0 (e := 5) (es := 1) (c := c8) (by kernel_rfl) (by kernel_rfl) (by decide) (fun _ => rfl) (rd_c8 (by kernel_rfl)))
  refine law_ev (glob := (cx C0).glob) (ok4 _ _ ((orcOf_eq _ ix4 (a0, a1)).trans (by simp only [hp a0 a1 b0 b1]; rfl))) hl ?_
  exact VRs_cons w0 (VRs_cons w1 (by rw [VRs]))
def Pure5 : Prop := ∀ (a0 : S_Net) (a1 : Int) (a2 : Int) (a3 : Int), ok_S_Net a0 → In64 a1 → In64 a2 → InU64 a3 → G5 a0 a1 a2 a3 = some true
theorem walk5 (hp : Pure5) (W : World) (base : Nat) (args : Array Value) {H : Type} {enc : TypeId × Value → H} (hg : Given enc Try.prog W base Try.f5.params args) (hl : ∀ (G : Nat) (vs : List Value), (cx C0).glob G = some vs → ∀ (j : Nat) (v : Value), vs[j]? = some v → W.cell? ⟨G, j, none⟩ = some v) :
    Calls Try.prog 5 args W fun e W' => e = .returned (.bool true) ∧ Below W.heap.size W W' := by
  obtain ⟨v0, v1, v2, v3, rfl⟩ := args_4 hg.1
  obtain ⟨a0, b0, w0⟩ := gv_struct hg 0 rfl rfl (fs := #[Field.mk "Queue" 22 0 false "" "" 0, Field.mk "Apart" 23 1 false "" "" 24]) (by kernel_rfl) rd_25
  obtain ⟨a1, b1, w1⟩ := gv_int hg 1 rfl rfl (by kernel_rfl)
  obtain ⟨a2, b2, w2⟩ := gv_int hg 2 rfl rfl (by kernel_rfl)
  obtain ⟨a3, b3, w3⟩ := gv_u64 hg 3 rfl rfl (by kernel_rfl)
  refine law_ev (glob := (cx C0).glob) (ok5 _ _ ((orcOf_eq _ ix5 (a0, a1, a2, a3)).trans (by simp only [hp a0 a1 a2 a3 b0 b1 b2 b3]; rfl))) hl ?_
  exact VRs_cons w0 (VRs_cons w1 (VRs_cons w2 (VRs_cons w3 (by rw [VRs]))))
def Pure6 : Prop := ∀ (a0 : S_Net) (a1 : Int) (a2 : Int) (a3 : Int) (a4 : Bool), ok_S_Net a0 → In64 a1 → In64 a2 → In64 a3 → G6 a0 a1 a2 a3 a4 = some true
theorem walk6 (hp : Pure6) (W : World) (base : Nat) (args : Array Value) {H : Type} {enc : TypeId × Value → H} (hg : Given enc Try.prog W base Try.f6.params args) (hl : ∀ (G : Nat) (vs : List Value), (cx C0).glob G = some vs → ∀ (j : Nat) (v : Value), vs[j]? = some v → W.cell? ⟨G, j, none⟩ = some v) :
    Calls Try.prog 6 args W fun e W' => e = .returned (.bool true) ∧ Below W.heap.size W W' := by
  obtain ⟨v0, v1, v2, v3, v4, rfl⟩ := args_5 hg.1
  obtain ⟨a0, b0, w0⟩ := gv_struct hg 0 rfl rfl (fs := #[Field.mk "Queue" 22 0 false "" "" 0, Field.mk "Apart" 23 1 false "" "" 24]) (by kernel_rfl) rd_25
  obtain ⟨a1, b1, w1⟩ := gv_int hg 1 rfl rfl (by kernel_rfl)
  obtain ⟨a2, b2, w2⟩ := gv_int hg 2 rfl rfl (by kernel_rfl)
  obtain ⟨a3, b3, w3⟩ := gv_int hg 3 rfl rfl (by kernel_rfl)
  obtain ⟨a4, b4, w4⟩ := gv_bool hg 4 rfl rfl (by kernel_rfl)
  refine law_ev (glob := (cx C0).glob) (ok6 _ _ ((orcOf_eq _ ix6 (a0, a1, a2, a3, a4)).trans (by simp only [hp a0 a1 a2 a3 a4 b0 b1 b2 b3]; rfl))) hl ?_
  exact VRs_cons w0 (VRs_cons w1 (VRs_cons w2 (VRs_cons w3 (VRs_cons w4 (by rw [VRs])))))
def Pure7 : Prop := ∀ (a0 : (List S_kinespherelaw06_Move)), (a0.length ≤ maxL ∧ ∀ z ∈ a0, ok_S_kinespherelaw06_Move z) → G7 a0 = some true
theorem walk7 (hp : Pure7) (W : World) (base : Nat) (args : Array Value) {H : Type} {enc : TypeId × Value → H} (hg : Given enc Try.prog W base Try.f7.params args) (hl : ∀ (G : Nat) (vs : List Value), (cx C0).glob G = some vs → ∀ (j : Nat) (v : Value), vs[j]? = some v → W.cell? ⟨G, j, none⟩ = some v) :
    Calls Try.prog 7 args W fun e W' => e = .returned (.bool true) ∧ Below W.heap.size W W' := by
  obtain ⟨v0, rfl⟩ := args_1 hg.1
  obtain ⟨a0, b0, w0⟩ := gv_slice' hg 0 rfl rfl (e := 52) (by kernel_rfl) (rd_slice (e := 52) (es := 5) (c := c_S_kinespherelaw06_Move) (by kernel_rfl) (by kernel_rfl) (by decide) (fun _ => rfl) rd_52)
  refine law_ev (glob := (cx C0).glob) (ok7 _ _ ((orcOf_eq _ ix7 a0).trans (by simp only [hp a0 b0]; rfl))) hl ?_
  exact VRs_cons w0 (by rw [VRs])
def Pure8 : Prop := ∀ (a0 : S_Net) (a1 : Int), ok_S_Net a0 → InU64 a1 → G8 a0 a1 = some true
theorem walk8 (hp : Pure8) (W : World) (base : Nat) (args : Array Value) {H : Type} {enc : TypeId × Value → H} (hg : Given enc Try.prog W base Try.f8.params args) (hl : ∀ (G : Nat) (vs : List Value), (cx C0).glob G = some vs → ∀ (j : Nat) (v : Value), vs[j]? = some v → W.cell? ⟨G, j, none⟩ = some v) :
    Calls Try.prog 8 args W fun e W' => e = .returned (.bool true) ∧ Below W.heap.size W W' := by
  obtain ⟨v0, v1, rfl⟩ := args_2 hg.1
  obtain ⟨a0, b0, w0⟩ := gv_struct hg 0 rfl rfl (fs := #[Field.mk "Queue" 22 0 false "" "" 0, Field.mk "Apart" 23 1 false "" "" 24]) (by kernel_rfl) rd_25
  obtain ⟨a1, b1, w1⟩ := gv_u64 hg 1 rfl rfl (by kernel_rfl)
  refine law_ev (glob := (cx C0).glob) (ok8 _ _ ((orcOf_eq _ ix8 (a0, a1)).trans (by simp only [hp a0 a1 b0 b1]; rfl))) hl ?_
  exact VRs_cons w0 (VRs_cons w1 (by rw [VRs]))
end Go.Proofs.Ytgcobbhbfkjkeaa
