/-
 The laws' arguments, read: by a tool.
-/
import Derived.Test.YthoomfjliekbdaaAs
import Derived.Test.YthoomfjliekbdaaEvLaw
namespace Go.Proofs.Ythoomfjliekbdaa
open Go.RowKit Go.ChangeShapes Go.WideShapes Go.ChangeAt Go.Deep
set_option linter.unusedVariables false
set_option linter.unusedSimpArgs false
set_option maxHeartbeats 4000000
set_option maxRecDepth 100000
theorem args_2 {args : Array Value} (h : args.size = 2) : ∃ a0 a1, args = #[a0, a1] := by
 match args, h with | ⟨[a0, a1]⟩, _ => exact ⟨a0, a1, rfl⟩
def ok_S_kinespherelaw04_Act (x : S_kinespherelaw04_Act) : Prop := InU8 x.At /\ InU8 x.Byte
theorem rd_46 : RdT Try.prog 46 c_S_kinespherelaw04_Act ok_S_kinespherelaw04_Act := RdT.of (readsA_struct (fs := #[Field.mk "Sync" 4 0 false "" "" 0, Field.mk "At" 5 1 false "" "" 1, Field.mk "Byte" 5 2 false "" "" 2]) (Ts := [_, _, _]) (by kernel_rfl) (by kernel_rfl) ⟨(rd_bool (by kernel_rfl)), (rd_u8 (by kernel_rfl)), (rd_u8 (by kernel_rfl)), trivial⟩) fun l h => by
 obtain ⟨_, _, rfl, ⟨x0, rfl, h0⟩, _, _, rfl, ⟨x1, rfl, h1⟩, _, _, rfl, ⟨x2, rfl, h2⟩, rfl⟩ := h
 exact ⟨⟨x0, x1, x2⟩, by simp [c_S_kinespherelaw04_Act, cI, cB, cS, cL, c_S_kinespherelaw04_Act, c_S_Write, c_S_Disk, c_A4_int_u8], h1, h2⟩
def Pure6 : Prop := ∀ (a0 : (List S_kinespherelaw04_Act)) (a1 : Int), (a0.length <= maxL /\ ∀ z ∈ a0, ok_S_kinespherelaw04_Act z) -> InU8 a1 -> G6 a0 a1 = some true
theorem walk6 (hp : Pure6) (W : World) (base : Nat) (args : Array Value) {H : Type} {enc : TypeId × Value -> H} (hg : Given enc Try.prog W base Try.f6.params args) (hl : ∀ (G : Nat) (vs : List Value), (cx C0).glob G = some vs -> ∀ (j : Nat) (v : Value), vs[j]? = some v -> W.cell? ⟨G, j, none⟩ = some v) :
  Calls Try.prog 6 args W fun e W' => e = .returned (.bool true) /\ Below W.heap.size W W' := by
 obtain ⟨v0, v1, rfl⟩ := args_2 hg.1
 obtain ⟨a0, b0, w0⟩ := gv_slice' hg 0 rfl rfl (e := 46) (by kernel_rfl) (rd_slice (e := 46) (es := 3) (c := c_S_kinespherelaw04_Act) (by kernel_rfl) (by kernel_rfl) (by decide) (fun _ => rfl) rd_46)
 obtain ⟨a1, b1, w1⟩ := gv_u8 hg 1 rfl rfl (by kernel_rfl)
 refine law_ev (glob := (cx C0).glob) (ok6 _ _ ((orcOf_eq _ ix6 (a0, a1)).trans (by simp only [hp a0 a1 b0 b1]; rfl))) hl ?_
 exact VRs_cons w0 (VRs_cons w1 (by rw [VRs]))
end Go.Proofs.Ythoomfjliekbdaa
