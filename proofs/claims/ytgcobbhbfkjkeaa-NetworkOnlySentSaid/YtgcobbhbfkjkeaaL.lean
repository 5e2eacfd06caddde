/-
  The laws' arguments, read: by a tool.
-/
import Derived.Test.YtgcobbhbfkjkeaaAs
import Derived.Test.YtgcobbhbfkjkeaaEvLaw
namespace Go.Proofs.Ytgcobbhbfkjkeaa
open Go.RowKit Go.ChangeShapes Go.WideShapes Go.ChangeAt Go.Deep
set_option linter.unusedVariables false
set_option linter.unusedSimpArgs false
set_option maxHeartbeats 4000000
set_option maxRecDepth 100000
theorem args_1 {args : Array Value} (h : args.size = 1) : ∃ a0, args = #[a0] := by
  match args, h with | ⟨[a0]⟩, _ => exact ⟨a0, rfl⟩
def ok_S_kinespherelaw06_Move (x : S_kinespherelaw06_Move) : Prop := InU8 x.Kind ∧ InU8 x.At ∧ InU8 x.A ∧ InU8 x.B ∧ InU8 x.Data
def ok_S_Packet (x : S_Packet) : Prop := In64 x.From ∧ In64 x.To ∧ (x.Data.length ≤ maxL)
def ok_S_Net (x : S_Net) : Prop := (x.Queue.length ≤ maxL ∧ ∀ z ∈ x.Queue, ok_S_Packet z) ∧ (x.Apart.length ≤ maxL ∧ ∀ z ∈ x.Apart, (In64 z.1 ∧ In64 z.2))
theorem rd_52 : RdT Try.prog 52 c_S_kinespherelaw06_Move ok_S_kinespherelaw06_Move := RdT.of (readsA_struct (fs := #[Field.mk "Kind" 5 0 false "" "" 0, Field.mk "At" 5 1 false "" "" 1, Field.mk "A" 5 2 false "" "" 2, Field.mk "B" 5 3 false "" "" 3, Field.mk "Data" 5 4 false "" "" 4]) (Ts := [_, _, _, _, _]) (by kernel_rfl) (by kernel_rfl) ⟨(rd_u8 (by kernel_rfl)), (rd_u8 (by kernel_rfl)), (rd_u8 (by kernel_rfl)), (rd_u8 (by kernel_rfl)), (rd_u8 (by kernel_rfl)), trivial⟩) fun l h => by
  obtain ⟨_, _, rfl, ⟨x0, rfl, h0⟩, _, _, rfl, ⟨x1, rfl, h1⟩, _, _, rfl, ⟨x2, rfl, h2⟩, _, _, rfl, ⟨x3, rfl, h3⟩, _, _, rfl, ⟨x4, rfl, h4⟩, rfl⟩ := h
  exact ⟨⟨x0, x1, x2, x3, x4⟩, by simp [c_S_kinespherelaw06_Move, cI, cB, cS, cL, c_S_kinespherelaw06_Move, c_S_Packet, c_A2_int_i64, c_S_Net], h0, h1, h2, h3, h4⟩
def Pure7 : Prop := ∀ (a0 : (List S_kinespherelaw06_Move)), (a0.length ≤ maxL ∧ ∀ z ∈ a0, ok_S_kinespherelaw06_Move z) → G7 a0 = some true
theorem walk7 (hp : Pure7) (W : World) (base : Nat) (args : Array Value) {H : Type} {enc : TypeId × Value → H} (hg : Given enc Try.prog W base Try.f7.params args) (hl : ∀ (G : Nat) (vs : List Value), (cx C0).glob G = some vs → ∀ (j : Nat) (v : Value), vs[j]? = some v → W.cell? ⟨G, j, none⟩ = some v) :
    Calls Try.prog 7 args W fun e W' => e = .returned (.bool true) ∧ Below W.heap.size W W' := by
  obtain ⟨v0, rfl⟩ := args_1 hg.1
  obtain ⟨a0, b0, w0⟩ := gv_slice' hg 0 rfl rfl (e := 52) (by kernel_rfl) (rd_slice (e := 52) (es := 5) (c := c_S_kinespherelaw06_Move) (by kernel_rfl) (by kernel_rfl) (by decide) (fun _ => rfl) rd_52)
  refine law_ev (glob := (cx C0).glob) (ok7 _ _ ((orcOf_eq _ ix7 a0).trans (by simp only [hp a0 b0]; rfl))) hl ?_
  exact VRs_cons w0 (by rw [VRs])
end Go.Proofs.Ytgcobbhbfkjkeaa
