/-
 The laws' arguments, read: by a tool.
-/
import Derived.Test.YtobjniabioaefaaAs
import Derived.Test.YtobjniabioaefaaEvUpto
namespace Go.Proofs.Ytobjniabioaefaa
open Go.RowKit Go.ChangeShapes Go.WideShapes Go.ChangeAt Go.Deep
set_option linter.unusedVariables false
set_option linter.unusedSimpArgs false
set_option maxHeartbeats 4000000
set_option maxRecDepth 100000
theorem args_2 {args : Array Value} (h : args.size = 2) : ∃ a0 a1, args = #[a0, a1] := by
 match args, h with | ⟨[a0, a1]⟩, _ => exact ⟨a0, a1, rfl⟩
def ok_S_Journal (x : S_Journal) : Prop := (x.Records.length <= maxL /\ ∀ z ∈ x.Records, (z.length <= maxL)) /\ In64 x.Many /\ In64 x.Synced
def ok_S_Write (x : S_Write) : Prop := In64 x.At /\ (x.Data.length <= maxL)
def ok_S_Disk (x : S_Disk) : Prop := (x.Sectors.length <= maxL /\ ∀ z ∈ x.Sectors, (z.length <= maxL)) /\ (x.Pending.length <= maxL /\ ∀ z ∈ x.Pending, ok_S_Write z) /\ In64 x.Left
def wt_S_Journal (x : S_Journal) : Nat := (wtL (wtL wt1)) x.Records + wt1 x.Many + wt1 x.Synced + 1
def wt_S_Write (x : S_Write) : Nat := wt1 x.At + (wtL wt1) x.Data + 1
def wt_S_Disk (x : S_Disk) : Nat := (wtL (wtL wt1)) x.Sectors + (wtL wt_S_Write) x.Pending + wt1 x.Left + wt1 x.Stopped + 1
theorem rw_76 : RdW Try.prog 76 c_S_Write ok_S_Write wt_S_Write := RdW.of (readsB_struct (fs := #[Field.mk "At" 3 0 false "" "" 0, Field.mk "Data" 35 1 false "" "" 8]) (Ts := [_, _]) (by kernel_rfl) (by kernel_rfl) ⟨(rw_int (okk := In64) (by kernel_rfl) (fun _ h => bounds_i64 h)), (rw_slice0 (rw_slice (e := 5) (es := 1) (c := c8) (by kernel_rfl) (by kernel_rfl) (by decide) (fun _ => rfl) (rw_c8 (by kernel_rfl)))), trivial⟩) fun l n h => by
 obtain ⟨_, rfl, _, _, _, _, rfl, rfl, ⟨x0, rfl, h0, rfl⟩, _, _, _, _, rfl, rfl, ⟨x1, rfl, h1, rfl⟩, rfl, rfl⟩ := h
 exact ⟨⟨x0, x1⟩, by simp [c_S_Write, cI, cB, cS, cL, c_S_Journal, c_S_Write, c_S_Disk], ⟨h0, h1⟩, by simp only [wt_S_Write]; omega⟩
theorem rw_25 : RdW Try.prog 25 c_S_Disk ok_S_Disk wt_S_Disk := RdW.of (readsB_struct (fs := #[Field.mk "Sectors" 22 0 false "" "" 0, Field.mk "Pending" 23 1 false "" "" 24, Field.mk "Left" 3 2 false "" "" 48, Field.mk "Stopped" 4 3 false "" "" 56]) (Ts := [_, _, _, _]) (by kernel_rfl) (by kernel_rfl) ⟨(rw_slice (e := 35) (es := 1) (c := (cL c8)) (by kernel_rfl) (by kernel_rfl) (by decide) (fun _ => rfl) (rw_slice0 (rw_slice (e := 5) (es := 1) (c := c8) (by kernel_rfl) (by kernel_rfl) (by decide) (fun _ => rfl) (rw_c8 (by kernel_rfl))))), (rw_slice (e := 76) (es := 2) (c := c_S_Write) (by kernel_rfl) (by kernel_rfl) (by decide) (fun _ => rfl) rw_76), (rw_int (okk := In64) (by kernel_rfl) (fun _ h => bounds_i64 h)), (rw_bool (by kernel_rfl)), trivial⟩) fun l n h => by
 obtain ⟨_, rfl, _, _, _, _, rfl, rfl, ⟨x0, rfl, h0, rfl⟩, _, _, _, _, rfl, rfl, ⟨x1, rfl, h1, rfl⟩, _, _, _, _, rfl, rfl, ⟨x2, rfl, h2, rfl⟩, _, _, _, _, rfl, rfl, ⟨x3, rfl, h3, rfl⟩, rfl, rfl⟩ := h
 exact ⟨⟨x0, x1, x2, x3⟩, by simp [c_S_Disk, cI, cB, cS, cL, c_S_Journal, c_S_Write, c_S_Disk], ⟨h0, h1, h2⟩, by simp only [wt_S_Disk]; omega⟩
theorem rw_29 : RdW Try.prog 29 c_S_Journal ok_S_Journal wt_S_Journal := RdW.of (readsB_struct (fs := #[Field.mk "Records" 22 0 false "" "" 0, Field.mk "Many" 3 1 false "" "" 24, Field.mk "Synced" 3 2 false "" "" 32]) (Ts := [_, _, _]) (by kernel_rfl) (by kernel_rfl) ⟨(rw_slice (e := 35) (es := 1) (c := (cL c8)) (by kernel_rfl) (by kernel_rfl) (by decide) (fun _ => rfl) (rw_slice0 (rw_slice (e := 5) (es := 1) (c := c8) (by kernel_rfl) (by kernel_rfl) (by decide) (fun _ => rfl) (rw_c8 (by kernel_rfl))))), (rw_int (okk := In64) (by kernel_rfl) (fun _ h => bounds_i64 h)), (rw_int (okk := In64) (by kernel_rfl) (fun _ h => bounds_i64 h)), trivial⟩) fun l n h => by
 obtain ⟨_, rfl, _, _, _, _, rfl, rfl, ⟨x0, rfl, h0, rfl⟩, _, _, _, _, rfl, rfl, ⟨x1, rfl, h1, rfl⟩, _, _, _, _, rfl, rfl, ⟨x2, rfl, h2, rfl⟩, rfl, rfl⟩ := h
 exact ⟨⟨x0, x1, x2⟩, by simp [c_S_Journal, cI, cB, cS, cL, c_S_Journal, c_S_Write, c_S_Disk], ⟨h0, h1, h2⟩, by simp only [wt_S_Journal]; omega⟩
def Pure5 : Prop := ∀ (a0 : S_Journal) (a1 : S_Disk), ok_S_Journal a0 -> ok_S_Disk a1 -> wt_S_Journal a0 <= 1048576 -> wt_S_Disk a1 <= 1048576 -> G5 a0 a1 = some true
theorem walk5 (hp : Pure5) (W : World) (base : Nat) (args : Array Value) {H : Type} {enc : TypeId × Value -> H} (hgU : GivenU enc Try.prog W base Try.f5.params args) (hl : ∀ (G : Nat) (vs : List Value), (cx C0).glob G = some vs -> ∀ (j : Nat) (v : Value), vs[j]? = some v -> W.cell? ⟨G, j, none⟩ = some v) :
  Calls Try.prog 5 args W fun e W' => e = .returned (.bool true) /\ Below W.heap.size W W' := by
 have hg := hgU.low
 obtain ⟨v0, v1, rfl⟩ := args_2 hg.1
 obtain ⟨a0, ⟨b0, bw0⟩, w0⟩ := gw_struct hgU 0 rfl rfl (fs := #[Field.mk "Records" 22 0 false "" "" 0, Field.mk "Many" 3 1 false "" "" 24, Field.mk "Synced" 3 2 false "" "" 32]) (by kernel_rfl) rw_29
 obtain ⟨a1, ⟨b1, bw1⟩, w1⟩ := gw_struct hgU 1 rfl rfl (fs := #[Field.mk "Sectors" 22 0 false "" "" 0, Field.mk "Pending" 23 1 false "" "" 24, Field.mk "Left" 3 2 false "" "" 48, Field.mk "Stopped" 4 3 false "" "" 56]) (by kernel_rfl) rw_25
 refine law_ev (glob := (cx C0).glob) (ok5 _ _ ((orcOf_eq _ ix5 (a0, a1)).trans (by simp only [hp a0 a1 b0 b1 bw0 bw1]; rfl))) hl ?_
 exact VRs_cons w0 (VRs_cons w1 (by rw [VRs]))
end Go.Proofs.Ytobjniabioaefaa
