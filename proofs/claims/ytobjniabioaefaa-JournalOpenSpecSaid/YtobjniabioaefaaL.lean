/-
  The laws' arguments, read: by a tool.
-/
import Derived.Test.YtobjniabioaefaaAs
import Derived.Test.YtobjniabioaefaaEvLaw
namespace Go.Proofs.Ytobjniabioaefaa
open Go.RowKit Go.ChangeShapes Go.WideShapes Go.ChangeAt Go.Deep
set_option linter.unusedVariables false
set_option linter.unusedSimpArgs false
set_option maxHeartbeats 4000000
set_option maxRecDepth 100000
theorem args_1 {args : Array Value} (h : args.size = 1) : ∃ a0, args = #[a0] := by
  match args, h with | ⟨[a0]⟩, _ => exact ⟨a0, rfl⟩
def ok_S_Write (x : S_Write) : Prop := In64 x.At ∧ (x.Data.length ≤ maxL)
def ok_S_Disk (x : S_Disk) : Prop := (x.Sectors.length ≤ maxL ∧ ∀ z ∈ x.Sectors, (z.length ≤ maxL)) ∧ (x.Pending.length ≤ maxL ∧ ∀ z ∈ x.Pending, ok_S_Write z) ∧ In64 x.Left
theorem rd_76 : RdT Try.prog 76 c_S_Write ok_S_Write := RdT.of (readsA_struct (fs := #[Field.mk "At" 3 0 false "" "" 0, Field.mk "Data" 35 1 false "" "" 8]) (Ts := [_, _]) (by kernel_rfl) (by kernel_rfl) ⟨(rd_int (by kernel_rfl)), (rd_slice0 (e := 5) (es := 1) (c := c8) (by kernel_rfl) (by kernel_rfl) (by decide) (fun _ => rfl) (rd_c8 (by kernel_rfl))), trivial⟩) fun l h => by
  obtain ⟨_, _, rfl, ⟨x0, rfl, h0⟩, _, _, rfl, ⟨x1, rfl, h1⟩, rfl⟩ := h
  exact ⟨⟨x0, x1⟩, by simp [c_S_Write, cI, cB, cS, cL, c_S_Write, c_S_Disk, c_S_Journal], h0, h1⟩
theorem rd_25 : RdT Try.prog 25 c_S_Disk ok_S_Disk := RdT.of (readsA_struct (fs := #[Field.mk "Sectors" 22 0 false "" "" 0, Field.mk "Pending" 23 1 false "" "" 24, Field.mk "Left" 3 2 false "" "" 48, Field.mk "Stopped" 4 3 false "" "" 56]) (Ts := [_, _, _, _]) (by kernel_rfl) (by kernel_rfl) ⟨(rd_slice (e := 35) (es := 1) (c := (cL c8)) (by kernel_rfl) (by kernel_rfl) (by decide) (fun _ => rfl) (rd_slice0 (e := 5) (es := 1) (c := c8) (by kernel_rfl) (by kernel_rfl) (by decide) (fun _ => rfl) (rd_c8 (by kernel_rfl)))), (rd_slice (e := 76) (es := 2) (c := c_S_Write) (by kernel_rfl) (by kernel_rfl) (by decide) (fun _ => rfl) rd_76), (rd_int (by kernel_rfl)), (rd_bool (by kernel_rfl)), trivial⟩) fun l h => by
  obtain ⟨_, _, rfl, ⟨x0, rfl, h0⟩, _, _, rfl, ⟨x1, rfl, h1⟩, _, _, rfl, ⟨x2, rfl, h2⟩, _, _, rfl, ⟨x3, rfl, h3⟩, rfl⟩ := h
  exact ⟨⟨x0, x1, x2, x3⟩, by simp [c_S_Disk, cI, cB, cS, cL, c_S_Write, c_S_Disk, c_S_Journal], h0, h1, h2⟩
def Pure3 : Prop := ∀ (a0 : S_Disk), ok_S_Disk a0 → G3 a0 = some true
theorem walk3 (hp : Pure3) (W : World) (base : Nat) (args : Array Value) {H : Type} {enc : TypeId × Value → H} (hg : Given enc Try.prog W base Try.f3.params args) (hl : ∀ (G : Nat) (vs : List Value), (cx C0).glob G = some vs → ∀ (j : Nat) (v : Value), vs[j]? = some v → W.cell? ⟨G, j, none⟩ = some v) :
    Calls Try.prog 3 args W fun e W' => e = .returned (.bool true) ∧ Below W.heap.size W W' := by
  obtain ⟨v0, rfl⟩ := args_1 hg.1
  obtain ⟨a0, b0, w0⟩ := gv_struct hg 0 rfl rfl (fs := #[Field.mk "Sectors" 22 0 false "" "" 0, Field.mk "Pending" 23 1 false "" "" 24, Field.mk "Left" 3 2 false "" "" 48, Field.mk "Stopped" 4 3 false "" "" 56]) (by kernel_rfl) rd_25
  refine law_ev (glob := (cx C0).glob) (ok3 _ _ ((orcOf_eq _ ix3 a0).trans (by simp only [hp a0 b0]; rfl))) hl ?_
  exact VRs_cons w0 (by rw [VRs])
end Go.Proofs.Ytobjniabioaefaa
