/-
 The laws' arguments, read: by a tool.
-/
import Derived.Test.YtobjniabioaefaaAs
import Derived.Test.YtobjniabioaefaaEvUpto
namespace Go.Proofs.Ytobjniabioaefaa
open Go.RowKit Go.ChangeShapes Go.WideShapes Go.ChangeAt Go.Deep
set_option linter.unusedVariables false
set_option linter.unusedSimpArgs false
set_option maxHeartbeats 4000000
set_option maxRecDepth 100000
theorem args_4 {args : Array Value} (h : args.size = 4) : ∃ a0 a1 a2 a3, args = #[a0, a1, a2, a3] := by
 match args, h with | ⟨[a0, a1, a2, a3]⟩, _ => exact ⟨a0, a1, a2, a3, rfl⟩
def Pure7 : Prop := ∀ (a0 : (List (List UInt8))) (a1 : Int) (a2 : Int) (a3 : Int), (a0.length <= maxL /\ ∀ z ∈ a0, (z.length <= maxL)) -> In64 a1 -> In64 a2 -> InU8 a3 -> (wtL (wtL wt1)) a0 <= 1048576 -> G7 a0 a1 a2 a3 = some true
theorem walk7 (hp : Pure7) (W : World) (base : Nat) (args : Array Value) {H : Type} {enc : TypeId × Value -> H} (hgU : GivenU enc Try.prog W base Try.f7.params args) (hl : ∀ (G : Nat) (vs : List Value), (cx C0).glob G = some vs -> ∀ (j : Nat) (v : Value), vs[j]? = some v -> W.cell? ⟨G, j, none⟩ = some v) :
  Calls Try.prog 7 args W fun e W' => e = .returned (.bool true) /\ Below W.heap.size W W' := by
 have hg := hgU.low
 obtain ⟨v0, v1, v2, v3, rfl⟩ := args_4 hg.1
 obtain ⟨a0, ⟨b0, bw0⟩, w0⟩ := gw_slice hgU 0 rfl rfl (e := 35) (by kernel_rfl) (rw_slice (e := 35) (es := 1) (c := (cL c8)) (by kernel_rfl) (by kernel_rfl) (by decide) (fun _ => rfl) (rw_slice0 (rw_slice (e := 5) (es := 1) (c := c8) (by kernel_rfl) (by kernel_rfl) (by decide) (fun _ => rfl) (rw_c8 (by kernel_rfl)))))
 obtain ⟨a1, b1, w1⟩ := gv_int hg 1 rfl rfl (by kernel_rfl)
 obtain ⟨a2, b2, w2⟩ := gv_int hg 2 rfl rfl (by kernel_rfl)
 obtain ⟨a3, b3, w3⟩ := gv_u8 hg 3 rfl rfl (by kernel_rfl)
 refine law_ev (glob := (cx C0).glob) (ok7 _ _ ((orcOf_eq _ ix7 (a0, a1, a2, a3)).trans (by simp only [hp a0 a1 a2 a3 b0 b1 b2 b3 bw0]; rfl))) hl ?_
 exact VRs_cons w0 (VRs_cons w1 (VRs_cons w2 (VRs_cons w3 (by rw [VRs]))))
end Go.Proofs.Ytobjniabioaefaa
