/-
  No cell of these rows narrows 'for every input' (looked for: loops, veiled, ifaces, maps, wideKeys, modest, calm, conditions, laid).
  DERIVED. THE GIVEN ROWS OF THIS SEAT. 7 by the template 'for every input the law returns true; each argument reads behind the call as it read before'; 0 by the template 'total and deterministic' (their statements: YthoomfjliekbdaaTotals.lean).
  GIVEN WITH THE SEED: the statements are not yours to turn. If you find one false, say at which input.
  Laid BY PROGRAM, IN A SANDBOX (cutbox-rows.mjs): the forced cells as the released guide's own fill.sh prints them over the translation c190180f600b569d… (all of the seat's roots in one cut). By AI agents, Wed Nov 11 2026. No macro, syntax, notation, axiom, sorry.
-/
import Derived.Test.YthoomfjliekbdaaChecked
import GoSem.Claim
import GoSem.ClaimJoined
import GoSem.ClaimMapViews
import Derived.JoinedTies
import Derived.KernelRfl
namespace Go.Proofs.Ythoomfjliekbdaa
/- THE CELL 'sum', in the pinned program and in every row, IS THE sha256 OF THE DUMP (.gsa) THAT YthoomfjliekbdaaProg.lean LOADS. Nothing in Lean hashes anything: it is a label: what it is worth is what the hold of that sum in a sandbox is worth. -/
noncomputable def Try.pinned : Pinned := { name := "ythoomfjliekbdaa", sum := "c190180f600b569d21445b20f98ae96a6f6acae18b0c455b663ee4a8d1384f69", checked := Try.checked }
namespace Rows
def none {H : Type} : Left H := { results := [], args := [] }

/-- 'kinespherelaw04.DiskNewSpec': WHATEVER THE INPUT: true; the input reads as it did. -/
def diskNewSpecSpec : ChangeSpec := { name := "diskNewSpec", fn := fun _ => fun
  | [d1, d2] => { results := [.lit (.bool true)], args := [d1, d2] }
  | _ => none }
def diskNewSpecRow : OpenClaim := { program := "ythoomfjliekbdaa", sum := "c190180f600b569d21445b20f98ae96a6f6acae18b0c455b663ee4a8d1384f69", func := "kinesphere/kinespherelaw04.DiskNewSpec", spec := "diskNewSpec", unfollowed := true, recurses := true, apart := false }
def DiskNewSpecSaid : Prop := diskNewSpecRow.holds Try.pinned (OpenSpec.ofChange diskNewSpecSpec)

/-- ITS FALSE NEIGHBOUR: 'it returns false'. Refute it at one input. -/
def diskNewSpecWrong : ChangeSpec := { name := "diskNewSpec", fn := fun _ => fun
  | [d1, d2] => { results := [.lit (.bool false)], args := [d1, d2] }
  | _ => none }
def DiskNewSpecWrongFalsely : Prop := diskNewSpecRow.holds Try.pinned (OpenSpec.ofChange diskNewSpecWrong)

/-- 'kinespherelaw04.DiskWriteSpec': WHATEVER THE INPUT: true; the input reads as it did. -/
def diskWriteSpecSpec : ChangeSpec := { name := "diskWriteSpec", fn := fun _ => fun
  | [d1, d2, d3] => { results := [.lit (.bool true)], args := [d1, d2, d3] }
  | _ => none }
def diskWriteSpecRow : OpenClaim := { program := "ythoomfjliekbdaa", sum := "c190180f600b569d21445b20f98ae96a6f6acae18b0c455b663ee4a8d1384f69", func := "kinesphere/kinespherelaw04.DiskWriteSpec", spec := "diskWriteSpec", unfollowed := true, recurses := true, apart := false }
def DiskWriteSpecSaid : Prop := diskWriteSpecRow.holds Try.pinned (OpenSpec.ofChange diskWriteSpecSpec)

/-- ITS FALSE NEIGHBOUR: 'it returns false'. Refute it at one input. -/
def diskWriteSpecWrong : ChangeSpec := { name := "diskWriteSpec", fn := fun _ => fun
  | [d1, d2, d3] => { results := [.lit (.bool false)], args := [d1, d2, d3] }
  | _ => none }
def DiskWriteSpecWrongFalsely : Prop := diskWriteSpecRow.holds Try.pinned (OpenSpec.ofChange diskWriteSpecWrong)

/-- 'kinespherelaw04.DiskSyncSpec': WHATEVER THE INPUT: true; the input reads as it did. -/
def diskSyncSpecSpec : ChangeSpec := { name := "diskSyncSpec", fn := fun _ => fun
  | [d1, d2] => { results := [.lit (.bool true)], args := [d1, d2] }
  | _ => none }
def diskSyncSpecRow : OpenClaim := { program := "ythoomfjliekbdaa", sum := "c190180f600b569d21445b20f98ae96a6f6acae18b0c455b663ee4a8d1384f69", func := "kinesphere/kinespherelaw04.DiskSyncSpec", spec := "diskSyncSpec", unfollowed := true, recurses := true, apart := false }
def DiskSyncSpecSaid : Prop := diskSyncSpecRow.holds Try.pinned (OpenSpec.ofChange diskSyncSpecSpec)

/-- ITS FALSE NEIGHBOUR: 'it returns false'. Refute it at one input. -/
def diskSyncSpecWrong : ChangeSpec := { name := "diskSyncSpec", fn := fun _ => fun
  | [d1, d2] => { results := [.lit (.bool false)], args := [d1, d2] }
  | _ => none }
def DiskSyncSpecWrongFalsely : Prop := diskSyncSpecRow.holds Try.pinned (OpenSpec.ofChange diskSyncSpecWrong)

/-- 'kinespherelaw04.DiskHistory': WHATEVER THE INPUT: true; the input reads as it did. -/
def diskHistorySpec : ChangeSpec := { name := "diskHistory", fn := fun _ => fun
  | [d1, d2] => { results := [.lit (.bool true)], args := [d1, d2] }
  | _ => none }
def diskHistoryRow : OpenClaim := { program := "ythoomfjliekbdaa", sum := "c190180f600b569d21445b20f98ae96a6f6acae18b0c455b663ee4a8d1384f69", func := "kinesphere/kinespherelaw04.DiskHistory", spec := "diskHistory", unfollowed := true, recurses := true, apart := false }
def DiskHistorySaid : Prop := diskHistoryRow.holds Try.pinned (OpenSpec.ofChange diskHistorySpec)

/-- ITS FALSE NEIGHBOUR: 'it returns false'. Refute it at one input. -/
def diskHistoryWrong : ChangeSpec := { name := "diskHistory", fn := fun _ => fun
  | [d1, d2] => { results := [.lit (.bool false)], args := [d1, d2] }
  | _ => none }
def DiskHistoryWrongFalsely : Prop := diskHistoryRow.holds Try.pinned (OpenSpec.ofChange diskHistoryWrong)

/-- 'kinespherelaw04.DiskReads': WHATEVER THE INPUT: true; the input reads as it did. -/
def diskReadsSpec : ChangeSpec := { name := "diskReads", fn := fun _ => fun
  | [d1, d2, d3, d4, d5] => { results := [.lit (.bool true)], args := [d1, d2, d3, d4, d5] }
  | _ => none }
def diskReadsRow : OpenClaim := { program := "ythoomfjliekbdaa", sum := "c190180f600b569d21445b20f98ae96a6f6acae18b0c455b663ee4a8d1384f69", func := "kinesphere/kinespherelaw04.DiskReads", spec := "diskReads", unfollowed := true, recurses := true, apart := false }
def DiskReadsSaid : Prop := diskReadsRow.holds Try.pinned (OpenSpec.ofChange diskReadsSpec)

/-- ITS FALSE NEIGHBOUR: 'it returns false'. Refute it at one input. -/
def diskReadsWrong : ChangeSpec := { name := "diskReads", fn := fun _ => fun
  | [d1, d2, d3, d4, d5] => { results := [.lit (.bool false)], args := [d1, d2, d3, d4, d5] }
  | _ => none }
def DiskReadsWrongFalsely : Prop := diskReadsRow.holds Try.pinned (OpenSpec.ofChange diskReadsWrong)

/-- 'kinespherelaw04.DiskTogether': WHATEVER THE INPUT: true; the input reads as it did. -/
def diskTogetherSpec : ChangeSpec := { name := "diskTogether", fn := fun _ => fun
  | [d1, d2] => { results := [.lit (.bool true)], args := [d1, d2] }
  | _ => none }
def diskTogetherRow : OpenClaim := { program := "ythoomfjliekbdaa", sum := "c190180f600b569d21445b20f98ae96a6f6acae18b0c455b663ee4a8d1384f69", func := "kinesphere/kinespherelaw04.DiskTogether", spec := "diskTogether", unfollowed := true, recurses := true, apart := false }
def DiskTogetherSaid : Prop := diskTogetherRow.holds Try.pinned (OpenSpec.ofChange diskTogetherSpec)

/-- ITS FALSE NEIGHBOUR: 'it returns false'. Refute it at one input. -/
def diskTogetherWrong : ChangeSpec := { name := "diskTogether", fn := fun _ => fun
  | [d1, d2] => { results := [.lit (.bool false)], args := [d1, d2] }
  | _ => none }
def DiskTogetherWrongFalsely : Prop := diskTogetherRow.holds Try.pinned (OpenSpec.ofChange diskTogetherWrong)

/-- 'kinespherelaw04.DiskStopped': WHATEVER THE INPUT: true; the input reads as it did. -/
def diskStoppedSpec : ChangeSpec := { name := "diskStopped", fn := fun _ => fun
  | [d1, d2, d3, d4] => { results := [.lit (.bool true)], args := [d1, d2, d3, d4] }
  | _ => none }
def diskStoppedRow : OpenClaim := { program := "ythoomfjliekbdaa", sum := "c190180f600b569d21445b20f98ae96a6f6acae18b0c455b663ee4a8d1384f69", func := "kinesphere/kinespherelaw04.DiskStopped", spec := "diskStopped", unfollowed := true, recurses := true, apart := false }
def DiskStoppedSaid : Prop := diskStoppedRow.holds Try.pinned (OpenSpec.ofChange diskStoppedSpec)

/-- ITS FALSE NEIGHBOUR: 'it returns false'. Refute it at one input. -/
def diskStoppedWrong : ChangeSpec := { name := "diskStopped", fn := fun _ => fun
  | [d1, d2, d3, d4] => { results := [.lit (.bool false)], args := [d1, d2, d3, d4] }
  | _ => none }
def DiskStoppedWrongFalsely : Prop := diskStoppedRow.holds Try.pinned (OpenSpec.ofChange diskStoppedWrong)

/- THE SECOND FORM. 'bulk': how many values and letters a reading holds, each counted each time it is reached (what is shared counts as often as it is met; a slice's spare places count too). A statement '..UptoSaid' is the law's where the arguments, and the package variables that the reading takes, are together of bulk at most 1048576: NARROWER than '..Said'. Prove '..Said' where nothing that the law and all that it calls make is longer than what came in: it says more and counts as full. Else prove '..UptoSaid'. A law counts once. -/
mutual
def uptoBulk {H : Type} : DataW H → Nat
  | .lit (.string bytes) => bytes.length + 1
  | .lit _ => 1
  | .nil => 1
  | .ptr d => uptoBulk d + 1
  | .slice elems spare => uptoBulkAll elems + uptoBulkAll spare + 1
  | .agg parts => uptoBulkAll parts + 1
  | .iface _ d => uptoBulk d + 1
  | .map entries => uptoBulkEntries entries + 1
  | .held _ => 1
def uptoBulkAll {H : Type} : List (DataW H) → Nat
  | [] => 0
  | d :: r => uptoBulk d + uptoBulkAll r
def uptoBulkEntries {H : Type} : List (Lit × DataW H) → Nat
  | [] => 0
  | x :: r => uptoBulkEntry x + uptoBulkEntries r
def uptoBulkEntry {H : Type} : Lit × DataW H → Nat
  | (.string bytes, d) => bytes.length + uptoBulk d + 1
  | (_, d) => uptoBulk d + 1
 end
def uptoSmall : (H : Type) → List (DataW H) → Bool := fun _ ds => decide (uptoBulkAll ds ≤ 1048576)
def OpenSpec.upto (s : _root_.Go.ChangeSpec) : _root_.Go.OpenSpec := { _root_.Go.OpenSpec.ofChange s with cond := some uptoSmall }

/-- 'kinespherelaw04.DiskNewSpec', WHERE WHAT IT READS IS OF BULK AT MOST 1048576: true; the input reads as it did. -/
def diskNewSpecUptoRow : OpenClaim := { program := "ythoomfjliekbdaa", sum := "c190180f600b569d21445b20f98ae96a6f6acae18b0c455b663ee4a8d1384f69", func := "kinesphere/kinespherelaw04.DiskNewSpec", spec := "diskNewSpec", unfollowed := true, recurses := true, apart := false, narrowed := true }
def DiskNewSpecUptoSaid : Prop := diskNewSpecUptoRow.holds Try.pinned (OpenSpec.upto diskNewSpecSpec)

/-- 'kinespherelaw04.DiskWriteSpec', WHERE WHAT IT READS IS OF BULK AT MOST 1048576: true; the input reads as it did. -/
def diskWriteSpecUptoRow : OpenClaim := { program := "ythoomfjliekbdaa", sum := "c190180f600b569d21445b20f98ae96a6f6acae18b0c455b663ee4a8d1384f69", func := "kinesphere/kinespherelaw04.DiskWriteSpec", spec := "diskWriteSpec", unfollowed := true, recurses := true, apart := false, narrowed := true }
def DiskWriteSpecUptoSaid : Prop := diskWriteSpecUptoRow.holds Try.pinned (OpenSpec.upto diskWriteSpecSpec)

/-- 'kinespherelaw04.DiskSyncSpec', WHERE WHAT IT READS IS OF BULK AT MOST 1048576: true; the input reads as it did. -/
def diskSyncSpecUptoRow : OpenClaim := { program := "ythoomfjliekbdaa", sum := "c190180f600b569d21445b20f98ae96a6f6acae18b0c455b663ee4a8d1384f69", func := "kinesphere/kinespherelaw04.DiskSyncSpec", spec := "diskSyncSpec", unfollowed := true, recurses := true, apart := false, narrowed := true }
def DiskSyncSpecUptoSaid : Prop := diskSyncSpecUptoRow.holds Try.pinned (OpenSpec.upto diskSyncSpecSpec)

/-- 'kinespherelaw04.DiskHistory', WHERE WHAT IT READS IS OF BULK AT MOST 1048576: true; the input reads as it did. -/
def diskHistoryUptoRow : OpenClaim := { program := "ythoomfjliekbdaa", sum := "c190180f600b569d21445b20f98ae96a6f6acae18b0c455b663ee4a8d1384f69", func := "kinesphere/kinespherelaw04.DiskHistory", spec := "diskHistory", unfollowed := true, recurses := true, apart := false, narrowed := true }
def DiskHistoryUptoSaid : Prop := diskHistoryUptoRow.holds Try.pinned (OpenSpec.upto diskHistorySpec)

/-- 'kinespherelaw04.DiskReads', WHERE WHAT IT READS IS OF BULK AT MOST 1048576: true; the input reads as it did. -/
def diskReadsUptoRow : OpenClaim := { program := "ythoomfjliekbdaa", sum := "c190180f600b569d21445b20f98ae96a6f6acae18b0c455b663ee4a8d1384f69", func := "kinesphere/kinespherelaw04.DiskReads", spec := "diskReads", unfollowed := true, recurses := true, apart := false, narrowed := true }
def DiskReadsUptoSaid : Prop := diskReadsUptoRow.holds Try.pinned (OpenSpec.upto diskReadsSpec)

/-- 'kinespherelaw04.DiskTogether', WHERE WHAT IT READS IS OF BULK AT MOST 1048576: true; the input reads as it did. -/
def diskTogetherUptoRow : OpenClaim := { program := "ythoomfjliekbdaa", sum := "c190180f600b569d21445b20f98ae96a6f6acae18b0c455b663ee4a8d1384f69", func := "kinesphere/kinespherelaw04.DiskTogether", spec := "diskTogether", unfollowed := true, recurses := true, apart := false, narrowed := true }
def DiskTogetherUptoSaid : Prop := diskTogetherUptoRow.holds Try.pinned (OpenSpec.upto diskTogetherSpec)

/-- 'kinespherelaw04.DiskStopped', WHERE WHAT IT READS IS OF BULK AT MOST 1048576: true; the input reads as it did. -/
def diskStoppedUptoRow : OpenClaim := { program := "ythoomfjliekbdaa", sum := "c190180f600b569d21445b20f98ae96a6f6acae18b0c455b663ee4a8d1384f69", func := "kinesphere/kinespherelaw04.DiskStopped", spec := "diskStopped", unfollowed := true, recurses := true, apart := false, narrowed := true }
def DiskStoppedUptoSaid : Prop := diskStoppedUptoRow.holds Try.pinned (OpenSpec.upto diskStoppedSpec)

end Rows
end Go.Proofs.Ythoomfjliekbdaa
