/-
 The laws' arguments, read: by a tool.
-/
import Derived.Test.YtobjniabioaefaaAs
import Derived.Test.YtobjniabioaefaaEvUpto
namespace Go.Proofs.Ytobjniabioaefaa
open Go.RowKit Go.ChangeShapes Go.WideShapes Go.ChangeAt Go.Deep
set_option linter.unusedVariables false
set_option linter.unusedSimpArgs false
set_option maxHeartbeats 4000000
set_option maxRecDepth 100000
theorem args_2 {args : Array Value} (h : args.size = 2) : ∃ a0 a1, args = #[a0, a1] := by
 match args, h with | ⟨[a0, a1]⟩, _ => exact ⟨a0, a1, rfl⟩
def Pure8 : Prop := ∀ (a0 : (List (List UInt8))) (a1 : (List (List UInt8))), (a0.length <= maxL /\ ∀ z ∈ a0, (z.length <= maxL)) -> (a1.length <= maxL /\ ∀ z ∈ a1, (z.length <= maxL)) -> (wtL (wtL wt1)) a0 <= 1048576 -> (wtL (wtL wt1)) a1 <= 1048576 -> G8 a0 a1 = some true
theorem walk8 (hp : Pure8) (W : World) (base : Nat) (args : Array Value) {H : Type} {enc : TypeId × Value -> H} (hgU : GivenU enc Try.prog W base Try.f8.params args) (hl : ∀ (G : Nat) (vs : List Value), (cx C0).glob G = some vs -> ∀ (j : Nat) (v : Value), vs[j]? = some v -> W.cell? ⟨G, j, none⟩ = some v) :
  Calls Try.prog 8 args W fun e W' => e = .returned (.bool true) /\ Below W.heap.size W W' := by
 have hg := hgU.low
 obtain ⟨v0, v1, rfl⟩ := args_2 hg.1
 obtain ⟨a0, ⟨b0, bw0⟩, w0⟩ := gw_slice hgU 0 rfl rfl (e := 35) (by kernel_rfl) (rw_slice (e := 35) (es := 1) (c := (cL c8)) (by kernel_rfl) (by kernel_rfl) (by decide) (fun _ => rfl) (rw_slice0 (rw_slice (e := 5) (es := 1) (c := c8) (by kernel_rfl) (by kernel_rfl) (by decide) (fun _ => rfl) (rw_c8 (by kernel_rfl)))))
 obtain ⟨a1, ⟨b1, bw1⟩, w1⟩ := gw_slice hgU 1 rfl rfl (e := 35) (by kernel_rfl) (rw_slice (e := 35) (es := 1) (c := (cL c8)) (by kernel_rfl) (by kernel_rfl) (by decide) (fun _ => rfl) (rw_slice0 (rw_slice (e := 5) (es := 1) (c := c8) (by kernel_rfl) (by kernel_rfl) (by decide) (fun _ => rfl) (rw_c8 (by kernel_rfl)))))
 refine law_ev (glob := (cx C0).glob) (ok8 _ _ ((orcOf_eq _ ix8 (a0, a1)).trans (by simp only [hp a0 a1 b0 b1 bw0 bw1]; rfl))) hl ?_
 exact VRs_cons w0 (VRs_cons w1 (by rw [VRs]))
end Go.Proofs.Ytobjniabioaefaa
