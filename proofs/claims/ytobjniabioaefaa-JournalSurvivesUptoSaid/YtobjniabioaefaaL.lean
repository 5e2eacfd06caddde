/-
 The laws' arguments, read: by a tool.
-/
import Derived.Test.YtobjniabioaefaaAs
import Derived.Test.YtobjniabioaefaaEvUpto
namespace Go.Proofs.Ytobjniabioaefaa
open Go.RowKit Go.ChangeShapes Go.WideShapes Go.ChangeAt Go.Deep
set_option linter.unusedVariables false
set_option linter.unusedSimpArgs false
set_option maxHeartbeats 4000000
set_option maxRecDepth 100000
theorem args_2 {args : Array Value} (h : args.size = 2) : ∃ a0 a1, args = #[a0, a1] := by
 match args, h with | ⟨[a0, a1]⟩, _ => exact ⟨a0, a1, rfl⟩
def ok_S_kinespherelaw05_Crash (x : S_kinespherelaw05_Crash) : Prop := (x.Records.length <= maxL /\ ∀ z ∈ x.Records, (z.length <= maxL)) /\ InU8 x.Left
def wt_S_kinespherelaw05_Crash (x : S_kinespherelaw05_Crash) : Nat := (wtL (wtL wt1)) x.Records + wt1 x.Stop + wt1 x.Left + 1
theorem rw_55 : RdW Try.prog 55 c_S_kinespherelaw05_Crash ok_S_kinespherelaw05_Crash wt_S_kinespherelaw05_Crash := RdW.of (readsB_struct (fs := #[Field.mk "Records" 22 0 false "" "" 0, Field.mk "Stop" 4 1 false "" "" 24, Field.mk "Left" 5 2 false "" "" 25]) (Ts := [_, _, _]) (by kernel_rfl) (by kernel_rfl) ⟨(rw_slice (e := 35) (es := 1) (c := (cL c8)) (by kernel_rfl) (by kernel_rfl) (by decide) (fun _ => rfl) (rw_slice0 (rw_slice (e := 5) (es := 1) (c := c8) (by kernel_rfl) (by kernel_rfl) (by decide) (fun _ => rfl) (rw_c8 (by kernel_rfl))))), (rw_bool (by kernel_rfl)), (rw_int (okk := InU8) (by kernel_rfl) (fun _ h => bounds_u8 h)), trivial⟩) fun l n h => by
 obtain ⟨_, rfl, _, _, _, _, rfl, rfl, ⟨x0, rfl, h0, rfl⟩, _, _, _, _, rfl, rfl, ⟨x1, rfl, h1, rfl⟩, _, _, _, _, rfl, rfl, ⟨x2, rfl, h2, rfl⟩, rfl, rfl⟩ := h
 exact ⟨⟨x0, x1, x2⟩, by simp [c_S_kinespherelaw05_Crash, cI, cB, cS, cL, c_S_kinespherelaw05_Crash, c_S_Write, c_S_Disk, c_S_Journal], ⟨h0, h2⟩, by simp only [wt_S_kinespherelaw05_Crash]; omega⟩
def Pure9 : Prop := ∀ (a0 : Int) (a1 : (List S_kinespherelaw05_Crash)), InU8 a0 -> (a1.length <= maxL /\ ∀ z ∈ a1, ok_S_kinespherelaw05_Crash z) -> (wtL wt_S_kinespherelaw05_Crash) a1 <= 1048576 -> G9 a0 a1 = some true
theorem walk9 (hp : Pure9) (W : World) (base : Nat) (args : Array Value) {H : Type} {enc : TypeId × Value -> H} (hgU : GivenU enc Try.prog W base Try.f9.params args) (hl : ∀ (G : Nat) (vs : List Value), (cx C0).glob G = some vs -> ∀ (j : Nat) (v : Value), vs[j]? = some v -> W.cell? ⟨G, j, none⟩ = some v) :
  Calls Try.prog 9 args W fun e W' => e = .returned (.bool true) /\ Below W.heap.size W W' := by
 have hg := hgU.low
 obtain ⟨v0, v1, rfl⟩ := args_2 hg.1
 obtain ⟨a0, b0, w0⟩ := gv_u8 hg 0 rfl rfl (by kernel_rfl)
 obtain ⟨a1, ⟨b1, bw1⟩, w1⟩ := gw_slice hgU 1 rfl rfl (e := 55) (by kernel_rfl) (rw_slice (e := 55) (es := 3) (c := c_S_kinespherelaw05_Crash) (by kernel_rfl) (by kernel_rfl) (by decide) (fun _ => rfl) rw_55)
 refine law_ev (glob := (cx C0).glob) (ok9 _ _ ((orcOf_eq _ ix9 (a0, a1)).trans (by simp only [hp a0 a1 b0 b1 bw1]; rfl))) hl ?_
 exact VRs_cons w0 (VRs_cons w1 (by rw [VRs]))
end Go.Proofs.Ytobjniabioaefaa
