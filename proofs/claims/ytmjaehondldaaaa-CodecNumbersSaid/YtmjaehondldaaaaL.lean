/-
 The laws' arguments, read: by a tool.
-/
import Derived.Test.YtmjaehondldaaaaAs
import Derived.Test.YtmjaehondldaaaaEvLaw
namespace Go.Proofs.Ytmjaehondldaaaa
open Go.RowKit Go.ChangeShapes Go.WideShapes Go.ChangeAt Go.Deep
set_option linter.unusedVariables false
set_option linter.unusedSimpArgs false
set_option maxHeartbeats 4000000
set_option maxRecDepth 100000
theorem args_2 {args : Array Value} (h : args.size = 2) : ∃ a0 a1, args = #[a0, a1] := by
 match args, h with | ⟨[a0, a1]⟩, _ => exact ⟨a0, a1, rfl⟩
mutual
def ok_S_Value : S_Value -> Prop
 | .mk Kind N S L => (In64 Kind /\ In64 N /\ (S.size <= maxL) /\ L.length <= maxL) /\ oks_S_Value L
def oks_S_Value : List S_Value -> Prop
 | [] => True
 | x :: r => ok_S_Value x /\ oks_S_Value r
end
theorem oksq_S_Value : ∀ (l : List S_Value), oks_S_Value l ↔ ∀ z ∈ l, ok_S_Value z
 | [] => by rw [oks_S_Value]; simp
 | x :: r => by rw [oks_S_Value, oksq_S_Value r]; simp
theorem okq_S_Value (x : S_Value) : ok_S_Value x ↔ In64 x.Kind /\ In64 x.N /\ (x.S.size <= maxL) /\ (x.L.length <= maxL /\ ∀ z ∈ x.L, ok_S_Value z) := by
 cases x
 rw [ok_S_Value, oksq_S_Value]
 simp only [and_assoc]
def Pure9 : Prop := ∀ (a0 : Int) (a1 : Int), In64 a0 -> In64 a1 -> G9 a0 a1 = some true
theorem walk9 (hp : Pure9) (W : World) (base : Nat) (args : Array Value) {H : Type} {enc : TypeId × Value -> H} (hg : Given enc Try.prog W base Try.f9.params args) (hl : ∀ (G : Nat) (vs : List Value), (cx C0).glob G = some vs -> ∀ (j : Nat) (v : Value), vs[j]? = some v -> W.cell? ⟨G, j, none⟩ = some v) :
  Calls Try.prog 9 args W fun e W' => e = .returned (.bool true) /\ Below W.heap.size W W' := by
 obtain ⟨v0, v1, rfl⟩ := args_2 hg.1
 obtain ⟨a0, b0, w0⟩ := gv_int hg 0 rfl rfl (by kernel_rfl)
 obtain ⟨a1, b1, w1⟩ := gv_int hg 1 rfl rfl (by kernel_rfl)
 refine law_ev (glob := (cx C0).glob) (ok9 _ _ ((orcOf_eq _ ix9 (a0, a1)).trans (by simp only [hp a0 a1 b0 b1]; rfl))) hl ?_
 exact VRs_cons w0 (VRs_cons w1 (by rw [VRs]))
end Go.Proofs.Ytmjaehondldaaaa
