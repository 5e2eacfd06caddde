/-
 The laws' arguments, read: by a tool.
-/
import Derived.Test.YtmjaehondldaaaaAs
import Derived.Test.YtmjaehondldaaaaEvLawR
namespace Go.Proofs.Ytmjaehondldaaaa
open Go.RowKit Go.ChangeShapes Go.WideShapes Go.ChangeAt Go.Deep
set_option linter.unusedVariables false
set_option linter.unusedSimpArgs false
set_option maxHeartbeats 4000000
set_option maxRecDepth 100000
theorem args_1 {args : Array Value} (h : args.size = 1) : ∃ a0, args = #[a0] := by
 match args, h with | ⟨[a0]⟩, _ => exact ⟨a0, rfl⟩
mutual
def ok_S_Value : S_Value -> Prop
 | .mk Kind N S L => (In64 Kind /\ In64 N /\ (S.size <= maxL) /\ L.length <= maxL) /\ oks_S_Value L
def oks_S_Value : List S_Value -> Prop
 | [] => True
 | x :: r => ok_S_Value x /\ oks_S_Value r
end
theorem oksq_S_Value : ∀ (l : List S_Value), oks_S_Value l ↔ ∀ z ∈ l, ok_S_Value z
 | [] => by rw [oks_S_Value]; simp
 | x :: r => by rw [oks_S_Value, oksq_S_Value r]; simp
theorem okq_S_Value (x : S_Value) : ok_S_Value x ↔ In64 x.Kind /\ In64 x.N /\ (x.S.size <= maxL) /\ (x.L.length <= maxL /\ ∀ z ∈ x.L, ok_S_Value z) := by
 cases x
 rw [ok_S_Value, oksq_S_Value]
 simp only [and_assoc]
theorem rd_24 : RdT Try.prog 24 c_S_Value ok_S_Value := RdT.ofM fun m => by
 induction m with
 | zero => exact fun _ _ _ _ _ _ h => absurd h (Nat.not_lt_zero _)
 | succ m ih =>
  refine RdM.of (readsM_struct (m := m) (fs := #[Field.mk "Kind" 3 0 false "" "" 0, Field.mk "N" 3 1 false "" "" 8, Field.mk "S" 9 2 false "" "" 16, Field.mk "L" 22 3 false "" "" 32]) (Ts := [_, _, _, _]) (by kernel_rfl) (by kernel_rfl) ⟨RdT.m (rd_int (by kernel_rfl)), RdT.m (rd_int (by kernel_rfl)), RdT.m (rd_str (by kernel_rfl)), rdM_slice (e := 24) (es := 4) (c := c_S_Value) (by kernel_rfl) (by kernel_rfl) (by decide) (fun _ => rfl) ih, trivial⟩) fun l h => ?_
  obtain ⟨_, _, rfl, ⟨x0, rfl, h0⟩, _, _, rfl, ⟨x1, rfl, h1⟩, _, _, rfl, ⟨x2, rfl, h2⟩, _, _, rfl, ⟨x3, rfl, h3⟩, rfl⟩ := h
  exact ⟨⟨x0, x1, x2, x3⟩, by rw [cq_S_Value]; rfl, (okq_S_Value _).2 ⟨h0, h1, h2, h3⟩⟩
def Pure8 : Prop := ∀ (a0 : (List S_Value)), (a0.length <= maxL /\ ∀ z ∈ a0, ok_S_Value z) -> G8 a0 = some true
theorem walk8 (hp : Pure8) (W : World) (base : Nat) (args : Array Value) {H : Type} {enc : TypeId × Value -> H} (hg : Given enc Try.prog W base Try.f8.params args) (hl : ∀ (G : Nat) (vs : List Value), (cx C0).glob G = some vs -> ∀ (j : Nat) (v : Value), vs[j]? = some v -> W.cell? ⟨G, j, none⟩ = some v) :
  Calls Try.prog 8 args W fun e W' => e = .returned (.bool true) /\ Below W.heap.size W W' := by
 obtain ⟨v0, rfl⟩ := args_1 hg.1
 obtain ⟨a0, b0, w0⟩ := gv_slice' hg 0 rfl rfl (e := 24) (by kernel_rfl) (rd_slice (e := 24) (es := 4) (c := c_S_Value) (by kernel_rfl) (by kernel_rfl) (by decide) (fun _ => rfl) rd_24)
 refine law_ev (glob := (cx C0).glob) (ok8 _ _ ((orcOf_eq _ ix8 a0).trans (by simp only [hp a0 b0]; rfl))) hl ?_
 exact VRs_cons w0 (by rw [VRs])
end Go.Proofs.Ytmjaehondldaaaa
