/-
  No cell of these rows narrows 'for every input' (looked for: loops, veiled, ifaces, maps, wideKeys, modest, calm, conditions, laid).
  DERIVED. THE GIVEN ROWS OF THIS SEAT. 4 by the template 'for every input the law returns true; each argument reads behind the call as it read before'; 0 by the template 'total and deterministic' (their statements: YtebkhfhcipnfgaaTotals.lean).
  GIVEN WITH THE SEED: the statements are not yours to turn. If you find one false, say at which input.
  Laid BY PROGRAM, IN A SANDBOX (cutbox-rows.mjs): the forced cells as the released guide's own fill.sh prints them over the translation 4376da18817c18a5… (all of the seat's roots in one cut). By AI agents, Wed Nov 11 2026. No macro, syntax, notation, axiom, sorry.
-/
import Derived.Test.YtebkhfhcipnfgaaChecked
import GoSem.Claim
import GoSem.ClaimJoined
import GoSem.ClaimMapViews
import Derived.JoinedTies
import Derived.KernelRfl
namespace Go.Proofs.Ytebkhfhcipnfgaa
/- THE CELL 'sum', in the pinned program and in every row, IS THE sha256 OF THE DUMP (.gsa) THAT YtebkhfhcipnfgaaProg.lean LOADS. Nothing in Lean hashes anything: it is a label: what it is worth is what the hold of that sum in a sandbox is worth. -/
noncomputable def Try.pinned : Pinned := { name := "ytebkhfhcipnfgaa", sum := "4376da18817c18a5b6036eb5cba33d2ae6f97998ce17ef7f213bc29279bf87d4", checked := Try.checked }
namespace Rows
def none {H : Type} : Left H := { results := [], args := [] }

/-- 'kinespherelaw49.WiresSpec': WHATEVER THE INPUT: true; the input reads as it did. -/
def wiresSpecSpec : ChangeSpec := { name := "wiresSpec", fn := fun _ => fun
  | [d1, d2, d3] => { results := [.lit (.bool true)], args := [d1, d2, d3] }
  | _ => none }
def wiresSpecRow : OpenClaim := { program := "ytebkhfhcipnfgaa", sum := "4376da18817c18a5b6036eb5cba33d2ae6f97998ce17ef7f213bc29279bf87d4", func := "kinesphere/kinespherelaw49.WiresSpec", spec := "wiresSpec", inPlace := ["slices.overlaps[kinesphere/api.Cue]"], unfollowed := true, recurses := true, apart := false }
def WiresSpecSaid : Prop := wiresSpecRow.holds Try.pinned (OpenSpec.ofChange wiresSpecSpec)

/-- ITS FALSE NEIGHBOUR: 'it returns false'. Refute it at one input. -/
def wiresSpecWrong : ChangeSpec := { name := "wiresSpec", fn := fun _ => fun
  | [d1, d2, d3] => { results := [.lit (.bool false)], args := [d1, d2, d3] }
  | _ => none }
def WiresSpecWrongFalsely : Prop := wiresSpecRow.holds Try.pinned (OpenSpec.ofChange wiresSpecWrong)

/-- 'kinespherelaw49.WiresOrder': WHATEVER THE INPUT: true; the input reads as it did. -/
def wiresOrderSpec : ChangeSpec := { name := "wiresOrder", fn := fun _ => fun
  | [d1, d2, d3] => { results := [.lit (.bool true)], args := [d1, d2, d3] }
  | _ => none }
def wiresOrderRow : OpenClaim := { program := "ytebkhfhcipnfgaa", sum := "4376da18817c18a5b6036eb5cba33d2ae6f97998ce17ef7f213bc29279bf87d4", func := "kinesphere/kinespherelaw49.WiresOrder", spec := "wiresOrder", inPlace := ["slices.overlaps[kinesphere/api.Cue]"], unfollowed := true, recurses := true, apart := false }
def WiresOrderSaid : Prop := wiresOrderRow.holds Try.pinned (OpenSpec.ofChange wiresOrderSpec)

/-- ITS FALSE NEIGHBOUR: 'it returns false'. Refute it at one input. -/
def wiresOrderWrong : ChangeSpec := { name := "wiresOrder", fn := fun _ => fun
  | [d1, d2, d3] => { results := [.lit (.bool false)], args := [d1, d2, d3] }
  | _ => none }
def WiresOrderWrongFalsely : Prop := wiresOrderRow.holds Try.pinned (OpenSpec.ofChange wiresOrderWrong)

/-- 'kinespherelaw49.WiresHold': WHATEVER THE INPUT: true; the input reads as it did. -/
def wiresHoldSpec : ChangeSpec := { name := "wiresHold", fn := fun _ => fun
  | [d1, d2, d3] => { results := [.lit (.bool true)], args := [d1, d2, d3] }
  | _ => none }
def wiresHoldRow : OpenClaim := { program := "ytebkhfhcipnfgaa", sum := "4376da18817c18a5b6036eb5cba33d2ae6f97998ce17ef7f213bc29279bf87d4", func := "kinesphere/kinespherelaw49.WiresHold", spec := "wiresHold", inPlace := ["slices.overlaps[kinesphere/api.Cue]"], unfollowed := true, recurses := true, apart := false }
def WiresHoldSaid : Prop := wiresHoldRow.holds Try.pinned (OpenSpec.ofChange wiresHoldSpec)

/-- ITS FALSE NEIGHBOUR: 'it returns false'. Refute it at one input. -/
def wiresHoldWrong : ChangeSpec := { name := "wiresHold", fn := fun _ => fun
  | [d1, d2, d3] => { results := [.lit (.bool false)], args := [d1, d2, d3] }
  | _ => none }
def WiresHoldWrongFalsely : Prop := wiresHoldRow.holds Try.pinned (OpenSpec.ofChange wiresHoldWrong)

/-- 'kinespherelaw49.WiresTold': WHATEVER THE INPUT: true; the input reads as it did. -/
def wiresToldSpec : ChangeSpec := { name := "wiresTold", fn := fun _ => fun
  | [d1, d2] => { results := [.lit (.bool true)], args := [d1, d2] }
  | _ => none }
def wiresToldRow : OpenClaim := { program := "ytebkhfhcipnfgaa", sum := "4376da18817c18a5b6036eb5cba33d2ae6f97998ce17ef7f213bc29279bf87d4", func := "kinesphere/kinespherelaw49.WiresTold", spec := "wiresTold", inPlace := ["slices.overlaps[kinesphere/api.Cue]"], unfollowed := true, recurses := true, apart := false }
def WiresToldSaid : Prop := wiresToldRow.holds Try.pinned (OpenSpec.ofChange wiresToldSpec)

/-- ITS FALSE NEIGHBOUR: 'it returns false'. Refute it at one input. -/
def wiresToldWrong : ChangeSpec := { name := "wiresTold", fn := fun _ => fun
  | [d1, d2] => { results := [.lit (.bool false)], args := [d1, d2] }
  | _ => none }
def WiresToldWrongFalsely : Prop := wiresToldRow.holds Try.pinned (OpenSpec.ofChange wiresToldWrong)

/- THE SECOND FORM. 'bulk': how many values and letters a reading holds, each counted each time it is reached (what is shared counts as often as it is met; a slice's spare places count too). A statement '..UptoSaid' is the law's where the arguments, and the package variables that the reading takes, are together of bulk at most 1048576: NARROWER than '..Said'. Prove '..Said' where nothing that the law and all that it calls make is longer than what came in: it says more and counts as full. Else prove '..UptoSaid'. A law counts once. -/
mutual
def uptoBulk {H : Type} : DataW H → Nat
  | .lit (.string bytes) => bytes.length + 1
  | .lit _ => 1
  | .nil => 1
  | .ptr d => uptoBulk d + 1
  | .slice elems spare => uptoBulkAll elems + uptoBulkAll spare + 1
  | .agg parts => uptoBulkAll parts + 1
  | .iface _ d => uptoBulk d + 1
  | .map entries => uptoBulkEntries entries + 1
  | .held _ => 1
def uptoBulkAll {H : Type} : List (DataW H) → Nat
  | [] => 0
  | d :: r => uptoBulk d + uptoBulkAll r
def uptoBulkEntries {H : Type} : List (Lit × DataW H) → Nat
  | [] => 0
  | x :: r => uptoBulkEntry x + uptoBulkEntries r
def uptoBulkEntry {H : Type} : Lit × DataW H → Nat
  | (.string bytes, d) => bytes.length + uptoBulk d + 1
  | (_, d) => uptoBulk d + 1
 end
def uptoSmall : (H : Type) → List (DataW H) → Bool := fun _ ds => decide (uptoBulkAll ds ≤ 1048576)
def OpenSpec.upto (s : _root_.Go.ChangeSpec) : _root_.Go.OpenSpec := { _root_.Go.OpenSpec.ofChange s with cond := some uptoSmall }

/-- 'kinespherelaw49.WiresSpec', WHERE WHAT IT READS IS OF BULK AT MOST 1048576: true; the input reads as it did. -/
def wiresSpecUptoRow : OpenClaim := { program := "ytebkhfhcipnfgaa", sum := "4376da18817c18a5b6036eb5cba33d2ae6f97998ce17ef7f213bc29279bf87d4", func := "kinesphere/kinespherelaw49.WiresSpec", spec := "wiresSpec", inPlace := ["slices.overlaps[kinesphere/api.Cue]"], unfollowed := true, recurses := true, apart := false, narrowed := true }
def WiresSpecUptoSaid : Prop := wiresSpecUptoRow.holds Try.pinned (OpenSpec.upto wiresSpecSpec)

/-- 'kinespherelaw49.WiresOrder', WHERE WHAT IT READS IS OF BULK AT MOST 1048576: true; the input reads as it did. -/
def wiresOrderUptoRow : OpenClaim := { program := "ytebkhfhcipnfgaa", sum := "4376da18817c18a5b6036eb5cba33d2ae6f97998ce17ef7f213bc29279bf87d4", func := "kinesphere/kinespherelaw49.WiresOrder", spec := "wiresOrder", inPlace := ["slices.overlaps[kinesphere/api.Cue]"], unfollowed := true, recurses := true, apart := false, narrowed := true }
def WiresOrderUptoSaid : Prop := wiresOrderUptoRow.holds Try.pinned (OpenSpec.upto wiresOrderSpec)

/-- 'kinespherelaw49.WiresHold', WHERE WHAT IT READS IS OF BULK AT MOST 1048576: true; the input reads as it did. -/
def wiresHoldUptoRow : OpenClaim := { program := "ytebkhfhcipnfgaa", sum := "4376da18817c18a5b6036eb5cba33d2ae6f97998ce17ef7f213bc29279bf87d4", func := "kinesphere/kinespherelaw49.WiresHold", spec := "wiresHold", inPlace := ["slices.overlaps[kinesphere/api.Cue]"], unfollowed := true, recurses := true, apart := false, narrowed := true }
def WiresHoldUptoSaid : Prop := wiresHoldUptoRow.holds Try.pinned (OpenSpec.upto wiresHoldSpec)

/-- 'kinespherelaw49.WiresTold', WHERE WHAT IT READS IS OF BULK AT MOST 1048576: true; the input reads as it did. -/
def wiresToldUptoRow : OpenClaim := { program := "ytebkhfhcipnfgaa", sum := "4376da18817c18a5b6036eb5cba33d2ae6f97998ce17ef7f213bc29279bf87d4", func := "kinesphere/kinespherelaw49.WiresTold", spec := "wiresTold", inPlace := ["slices.overlaps[kinesphere/api.Cue]"], unfollowed := true, recurses := true, apart := false, narrowed := true }
def WiresToldUptoSaid : Prop := wiresToldUptoRow.holds Try.pinned (OpenSpec.upto wiresToldSpec)

end Rows
end Go.Proofs.Ytebkhfhcipnfgaa
