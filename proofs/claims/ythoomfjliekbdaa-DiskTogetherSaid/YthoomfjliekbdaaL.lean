/-
  The laws' arguments, read: by a tool.
-/
import Derived.Test.YthoomfjliekbdaaAs
import Derived.Test.YthoomfjliekbdaaEvLaw
namespace Go.Proofs.Ythoomfjliekbdaa
open Go.RowKit Go.ChangeShapes Go.WideShapes Go.ChangeAt Go.Deep
set_option linter.unusedVariables false
set_option linter.unusedSimpArgs false
set_option maxHeartbeats 4000000
set_option maxRecDepth 100000
theorem args_1 {args : Array Value} (h : args.size = 1) : ∃ a0, args = #[a0] := by
  match args, h with | ⟨[a0]⟩, _ => exact ⟨a0, rfl⟩
theorem args_2 {args : Array Value} (h : args.size = 2) : ∃ a0 a1, args = #[a0, a1] := by
  match args, h with | ⟨[a0, a1]⟩, _ => exact ⟨a0, a1, rfl⟩
theorem args_3 {args : Array Value} (h : args.size = 3) : ∃ a0 a1 a2, args = #[a0, a1, a2] := by
  match args, h with | ⟨[a0, a1, a2]⟩, _ => exact ⟨a0, a1, a2, rfl⟩
theorem args_4 {args : Array Value} (h : args.size = 4) : ∃ a0 a1 a2 a3, args = #[a0, a1, a2, a3] := by
  match args, h with | ⟨[a0, a1, a2, a3]⟩, _ => exact ⟨a0, a1, a2, a3, rfl⟩
theorem args_5 {args : Array Value} (h : args.size = 5) : ∃ a0 a1 a2 a3 a4, args = #[a0, a1, a2, a3, a4] := by
  match args, h with | ⟨[a0, a1, a2, a3, a4]⟩, _ => exact ⟨a0, a1, a2, a3, a4, rfl⟩
def ok_S_Write (x : S_Write) : Prop := In64 x.At ∧ (x.Data.length ≤ maxL)
def ok_S_Disk (x : S_Disk) : Prop := (x.Sectors.length ≤ maxL ∧ ∀ z ∈ x.Sectors, (z.length ≤ maxL)) ∧ (x.Pending.length ≤ maxL ∧ ∀ z ∈ x.Pending, ok_S_Write z) ∧ In64 x.Left
def ok_S_kinespherelaw04_Act (x : S_kinespherelaw04_Act) : Prop := InU8 x.At ∧ InU8 x.Byte
theorem rd_54 : RdT Try.prog 54 c_S_Write ok_S_Write := RdT.of (readsA_struct (fs := #[Field.mk "At" 3 0 false "" "" 0, Field.mk "Data" 35 1 false "" "" 8]) (Ts := [_, _]) (by kernel_rfl) (by kernel_rfl) ⟨(rd_int (by kernel_rfl)), (rd_slice0 (e := 5) (es := 1) (c := c8) (by kernel_rfl) (by kernel_rfl) (by decide) (fun _ => rfl) (rd_c8 (by kernel_rfl))), trivial⟩) fun l h => by
  obtain ⟨_, _, rfl, ⟨x0, rfl, h0⟩, _, _, rfl, ⟨x1, rfl, h1⟩, rfl⟩ := h
  exact ⟨⟨x0, x1⟩, by simp [c_S_Write, cI, cB, cS, cL, c_S_Write, c_S_Disk, c_S_kinespherelaw04_Act], h0, h1⟩
theorem rd_25 : RdT Try.prog 25 c_S_Disk ok_S_Disk := RdT.of (readsA_struct (fs := #[Field.mk "Sectors" 22 0 false "" "" 0, Field.mk "Pending" 23 1 false "" "" 24, Field.mk "Left" 3 2 false "" "" 48, Field.mk "Stopped" 4 3 false "" "" 56]) (Ts := [_, _, _, _]) (by kernel_rfl) (by kernel_rfl) ⟨(rd_slice (e := 35) (es := 1) (c := (cL c8)) (by kernel_rfl) (by kernel_rfl) (by decide) (fun _ => rfl) (rd_slice0 (e := 5) (es := 1) (c := c8) (by kernel_rfl) (by kernel_rfl) (by decide) (fun _ => rfl) (rd_c8 (by kernel_rfl)))), (rd_slice (e := 54) (es := 2) (c := c_S_Write) (by kernel_rfl) (by kernel_rfl) (by decide) (fun _ => rfl) rd_54), (rd_int (by kernel_rfl)), (rd_bool (by kernel_rfl)), trivial⟩) fun l h => by
  obtain ⟨_, _, rfl, ⟨x0, rfl, h0⟩, _, _, rfl, ⟨x1, rfl, h1⟩, _, _, rfl, ⟨x2, rfl, h2⟩, _, _, rfl, ⟨x3, rfl, h3⟩, rfl⟩ := h
  exact ⟨⟨x0, x1, x2, x3⟩, by simp [c_S_Disk, cI, cB, cS, cL, c_S_Write, c_S_Disk, c_S_kinespherelaw04_Act], h0, h1, h2⟩
theorem rd_46 : RdT Try.prog 46 c_S_kinespherelaw04_Act ok_S_kinespherelaw04_Act := RdT.of (readsA_struct (fs := #[Field.mk "Sync" 4 0 false "" "" 0, Field.mk "At" 5 1 false "" "" 1, Field.mk "Byte" 5 2 false "" "" 2]) (Ts := [_, _, _]) (by kernel_rfl) (by kernel_rfl) ⟨(rd_bool (by kernel_rfl)), (rd_u8 (by kernel_rfl)), (rd_u8 (by kernel_rfl)), trivial⟩) fun l h => by
  obtain ⟨_, _, rfl, ⟨x0, rfl, h0⟩, _, _, rfl, ⟨x1, rfl, h1⟩, _, _, rfl, ⟨x2, rfl, h2⟩, rfl⟩ := h
  exact ⟨⟨x0, x1, x2⟩, by simp [c_S_kinespherelaw04_Act, cI, cB, cS, cL, c_S_Write, c_S_Disk, c_S_kinespherelaw04_Act], h1, h2⟩
def Pure7 : Prop := ∀ (a0 : S_Disk) (a1 : Int) (a2 : Int) (a3 : (List UInt8)) (a4 : (List UInt8)), ok_S_Disk a0 → In64 a1 → In64 a2 → (a3.length ≤ maxL) → (a4.length ≤ maxL) → G7 a0 a1 a2 a3 a4 = some true
theorem walk7 (hp : Pure7) (W : World) (base : Nat) (args : Array Value) {H : Type} {enc : TypeId × Value → H} (hg : Given enc Try.prog W base Try.f7.params args) (hl : ∀ (G : Nat) (vs : List Value), (cx C0).glob G = some vs → ∀ (j : Nat) (v : Value), vs[j]? = some v → W.cell? ⟨G, j, none⟩ = some v) :
    Calls Try.prog 7 args W fun e W' => e = .returned (.bool true) ∧ Below W.heap.size W W' := by
  obtain ⟨v0, v1, v2, v3, v4, rfl⟩ := args_5 hg.1
  obtain ⟨a0, b0, w0⟩ := gv_struct hg 0 rfl rfl (fs := #[Field.mk "Sectors" 22 0 false "" "" 0, Field.mk "Pending" 23 1 false "" "" 24, Field.mk "Left" 3 2 false "" "" 48, Field.mk "Stopped" 4 3 false "" "" 56]) (by kernel_rfl) rd_25
  obtain ⟨a1, b1, w1⟩ := gv_int hg 1 rfl rfl (by kernel_rfl)
  obtain ⟨a2, b2, w2⟩ := gv_int hg 2 rfl rfl (by kernel_rfl)
  obtain ⟨a3, b3, w3⟩ := gv_slice' hg 3 rfl rfl (e := 5) (by kernel_rfl) (rd_slice0 (e := 5) (es := 1) (c := c8) (by kernel_rfl) (by kernel_rfl) (by decide) (fun _ => rfl) (rd_c8 (by kernel_rfl)))
  obtain ⟨a4, b4, w4⟩ := gv_slice' hg 4 rfl rfl (e := 5) (by kernel_rfl) (rd_slice0 (e := 5) (es := 1) (c := c8) (by kernel_rfl) (by kernel_rfl) (by decide) (fun _ => rfl) (rd_c8 (by kernel_rfl)))
  refine law_ev (glob := (cx C0).glob) (ok7 _ _ ((orcOf_eq _ ix7 (a0, a1, a2, a3, a4)).trans (by simp only [hp a0 a1 a2 a3 a4 b0 b1 b2 b3 b4]; rfl))) hl ?_
  exact VRs_cons w0 (VRs_cons w1 (VRs_cons w2 (VRs_cons w3 (VRs_cons w4 (by rw [VRs])))))
def Pure8 : Prop := ∀ (a0 : S_Disk) (a1 : (List S_kinespherelaw04_Act)), ok_S_Disk a0 → (a1.length ≤ maxL ∧ ∀ z ∈ a1, ok_S_kinespherelaw04_Act z) → G8 a0 a1 = some true
theorem walk8 (hp : Pure8) (W : World) (base : Nat) (args : Array Value) {H : Type} {enc : TypeId × Value → H} (hg : Given enc Try.prog W base Try.f8.params args) (hl : ∀ (G : Nat) (vs : List Value), (cx C0).glob G = some vs → ∀ (j : Nat) (v : Value), vs[j]? = some v → W.cell? ⟨G, j, none⟩ = some v) :
    Calls Try.prog 8 args W fun e W' => e = .returned (.bool true) ∧ Below W.heap.size W W' := by
  obtain ⟨v0, v1, rfl⟩ := args_2 hg.1
  obtain ⟨a0, b0, w0⟩ := gv_struct hg 0 rfl rfl (fs := #[Field.mk "Sectors" 22 0 false "" "" 0, Field.mk "Pending" 23 1 false "" "" 24, Field.mk "Left" 3 2 false "" "" 48, Field.mk "Stopped" 4 3 false "" "" 56]) (by kernel_rfl) rd_25
  obtain ⟨a1, b1, w1⟩ := gv_slice' hg 1 rfl rfl (e := 46) (by kernel_rfl) (rd_slice (e := 46) (es := 3) (c := c_S_kinespherelaw04_Act) (by kernel_rfl) (by kernel_rfl) (by decide) (fun _ => rfl) rd_46)
  refine law_ev (glob := (cx C0).glob) (ok8 _ _ ((orcOf_eq _ ix8 (a0, a1)).trans (by simp only [hp a0 a1 b0 b1]; rfl))) hl ?_
  exact VRs_cons w0 (VRs_cons w1 (by rw [VRs]))
def Pure9 : Prop := ∀ (a0 : S_Disk) (a1 : Int) (a2 : Int) (a3 : (List UInt8)), ok_S_Disk a0 → In64 a1 → In64 a2 → (a3.length ≤ maxL) → G9 a0 a1 a2 a3 = some true
theorem walk9 (hp : Pure9) (W : World) (base : Nat) (args : Array Value) {H : Type} {enc : TypeId × Value → H} (hg : Given enc Try.prog W base Try.f9.params args) (hl : ∀ (G : Nat) (vs : List Value), (cx C0).glob G = some vs → ∀ (j : Nat) (v : Value), vs[j]? = some v → W.cell? ⟨G, j, none⟩ = some v) :
    Calls Try.prog 9 args W fun e W' => e = .returned (.bool true) ∧ Below W.heap.size W W' := by
  obtain ⟨v0, v1, v2, v3, rfl⟩ := args_4 hg.1
  obtain ⟨a0, b0, w0⟩ := gv_struct hg 0 rfl rfl (fs := #[Field.mk "Sectors" 22 0 false "" "" 0, Field.mk "Pending" 23 1 false "" "" 24, Field.mk "Left" 3 2 false "" "" 48, Field.mk "Stopped" 4 3 false "" "" 56]) (by kernel_rfl) rd_25
  obtain ⟨a1, b1, w1⟩ := gv_int hg 1 rfl rfl (by kernel_rfl)
  obtain ⟨a2, b2, w2⟩ := gv_int hg 2 rfl rfl (by kernel_rfl)
  obtain ⟨a3, b3, w3⟩ := gv_slice' hg 3 rfl rfl (e := 5) (by kernel_rfl) (rd_slice0 (e := 5) (es := 1) (c := c8) (by kernel_rfl) (by kernel_rfl) (by decide) (fun _ => rfl) (rd_c8 (by kernel_rfl)))
  refine law_ev (glob := (cx C0).glob) (ok9 _ _ ((orcOf_eq _ ix9 (a0, a1, a2, a3)).trans (by simp only [hp a0 a1 a2 a3 b0 b1 b2 b3]; rfl))) hl ?_
  exact VRs_cons w0 (VRs_cons w1 (VRs_cons w2 (VRs_cons w3 (by rw [VRs]))))
end Go.Proofs.Ythoomfjliekbdaa
