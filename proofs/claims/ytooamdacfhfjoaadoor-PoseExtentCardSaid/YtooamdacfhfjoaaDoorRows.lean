/-
  NARROWER THAN 'FOR EVERY INPUT', by the rows' own cells (each row's printed sentence says how): PoseSpec: laid · PoseAfterSpec: laid · PoseExtentSpec: laid · PoseMirror: laid · PoseBack: laid · PoseOthers: laid · PoseExtent: laid · PoseWider: laid.
  DERIVED. THE GIVEN ROWS OF THIS SEAT. 8 by the template 'for every input the law returns true; each argument reads behind the call as it read before'; 0 by the template 'total and deterministic' (their statements: YtooamdacfhfjoaaDoorTotals.lean).
  GIVEN WITH THE SEED: the statements are not yours to turn. If you find one false, say at which input.
  Laid BY PROGRAM, IN A SANDBOX (cutbox-rows.mjs): the forced cells as the released guide's own fill.sh prints them over the translation 6725f6a1570688f0… (all of the seat's roots in one cut). By AI agents, Wed Nov 11 2026. No macro, syntax, notation, axiom, sorry.
-/
import Derived.Test.YtooamdacfhfjoaaDoorChecked
import GoSem.Claim
import GoSem.ClaimJoined
import GoSem.ClaimMapViews
import Derived.JoinedTies
import Derived.KernelRfl
namespace Go.Proofs.YtooamdacfhfjoaaDoor
/- THE CELL 'sum', in the pinned program and in every row, IS THE sha256 OF THE DUMP (.gsa) THAT YtooamdacfhfjoaaDoorProg.lean LOADS. Nothing in Lean hashes anything: it is a label: what it is worth is what the hold of that sum in a sandbox is worth. -/
noncomputable def Tryd.pinned : Pinned := { name := "ytooamdacfhfjoaadoor", sum := "6725f6a1570688f0fe16369f7c7e1f33b484372b2c0abd419d7edcea08c296a9", checked := Tryd.checked }
namespace Rows
def none {H : Type} : Left H := { results := [], args := [] }

/- WHAT THE LISTED PACKAGE-LEVEL VARIABLES READ AS WHEN THE CALL BEGINS. Each datum BY PROGRAM (the guide's laid-datum.mjs) off the statement by which the dump's own 'gosem.cut.vars' lays the variable. In a bare row this is a premise. The card (YtooamdacfhfjoaaDoorCards.lean) ties it to the program's text. -/
def laid_kinesphere_space_flat {H : Type} : DataW H := .agg [.agg [.lit (.int .i64 0), .lit (.int .i64 29)], .agg [.lit (.int .i64 20), .lit (.int .i64 21)], .agg [.lit (.int .i64 29), .lit (.int .i64 0)], .agg [.lit (.int .i64 20), .lit (.int .i64 (-21))], .agg [.lit (.int .i64 0), .lit (.int .i64 (-29))], .agg [.lit (.int .i64 (-20)), .lit (.int .i64 (-21))], .agg [.lit (.int .i64 (-29)), .lit (.int .i64 0)], .agg [.lit (.int .i64 (-20)), .lit (.int .i64 21)]]

/-- 'kinespherelaw26.PoseSpec': WHATEVER THE INPUT: true; the input reads as it did. -/
def poseSpecSpec : ChangeSpec := { name := "poseSpec", fn := fun _ => fun
  | [d1, d2, d3] => { results := [.lit (.bool true)], args := [d1, d2, d3] }
  | _ => none }
def poseSpecRow : OpenClaim := { program := "ytooamdacfhfjoaadoor", sum := "6725f6a1570688f0fe16369f7c7e1f33b484372b2c0abd419d7edcea08c296a9", func := "kinesphere/kinespherelaw26.PoseSpec", spec := "poseSpec", inPlace := ["internal/bytealg.IndexByteString"], unfollowed := true, recurses := true, named := ["kinesphere/space.flat"], apart := false, laid := [("kinesphere/space.flat", laid_kinesphere_space_flat)] }
def PoseSpecSaid : Prop := poseSpecRow.holds Tryd.pinned (OpenSpec.ofChange poseSpecSpec)

/-- ITS FALSE NEIGHBOUR: 'it returns false'. Refute it at one input. -/
def poseSpecWrong : ChangeSpec := { name := "poseSpec", fn := fun _ => fun
  | [d1, d2, d3] => { results := [.lit (.bool false)], args := [d1, d2, d3] }
  | _ => none }
def PoseSpecWrongFalsely : Prop := poseSpecRow.holds Tryd.pinned (OpenSpec.ofChange poseSpecWrong)

/-- 'kinespherelaw26.PoseAfterSpec': WHATEVER THE INPUT: true; the input reads as it did. -/
def poseAfterSpecSpec : ChangeSpec := { name := "poseAfterSpec", fn := fun _ => fun
  | [d1, d2, d3] => { results := [.lit (.bool true)], args := [d1, d2, d3] }
  | _ => none }
def poseAfterSpecRow : OpenClaim := { program := "ytooamdacfhfjoaadoor", sum := "6725f6a1570688f0fe16369f7c7e1f33b484372b2c0abd419d7edcea08c296a9", func := "kinesphere/kinespherelaw26.PoseAfterSpec", spec := "poseAfterSpec", inPlace := ["internal/bytealg.IndexByteString"], unfollowed := true, recurses := true, named := ["kinesphere/space.flat"], apart := false, laid := [("kinesphere/space.flat", laid_kinesphere_space_flat)] }
def PoseAfterSpecSaid : Prop := poseAfterSpecRow.holds Tryd.pinned (OpenSpec.ofChange poseAfterSpecSpec)

/-- ITS FALSE NEIGHBOUR: 'it returns false'. Refute it at one input. -/
def poseAfterSpecWrong : ChangeSpec := { name := "poseAfterSpec", fn := fun _ => fun
  | [d1, d2, d3] => { results := [.lit (.bool false)], args := [d1, d2, d3] }
  | _ => none }
def PoseAfterSpecWrongFalsely : Prop := poseAfterSpecRow.holds Tryd.pinned (OpenSpec.ofChange poseAfterSpecWrong)

/-- 'kinespherelaw26.PoseExtentSpec': WHATEVER THE INPUT: true; the input reads as it did. -/
def poseExtentSpecSpec : ChangeSpec := { name := "poseExtentSpec", fn := fun _ => fun
  | [d1, d2] => { results := [.lit (.bool true)], args := [d1, d2] }
  | _ => none }
def poseExtentSpecRow : OpenClaim := { program := "ytooamdacfhfjoaadoor", sum := "6725f6a1570688f0fe16369f7c7e1f33b484372b2c0abd419d7edcea08c296a9", func := "kinesphere/kinespherelaw26.PoseExtentSpec", spec := "poseExtentSpec", inPlace := ["internal/bytealg.IndexByteString"], unfollowed := true, recurses := true, named := ["kinesphere/space.flat"], apart := false, laid := [("kinesphere/space.flat", laid_kinesphere_space_flat)] }
def PoseExtentSpecSaid : Prop := poseExtentSpecRow.holds Tryd.pinned (OpenSpec.ofChange poseExtentSpecSpec)

/-- ITS FALSE NEIGHBOUR: 'it returns false'. Refute it at one input. -/
def poseExtentSpecWrong : ChangeSpec := { name := "poseExtentSpec", fn := fun _ => fun
  | [d1, d2] => { results := [.lit (.bool false)], args := [d1, d2] }
  | _ => none }
def PoseExtentSpecWrongFalsely : Prop := poseExtentSpecRow.holds Tryd.pinned (OpenSpec.ofChange poseExtentSpecWrong)

/-- 'kinespherelaw26.PoseMirror': WHATEVER THE INPUT: true; the input reads as it did. -/
def poseMirrorSpec : ChangeSpec := { name := "poseMirror", fn := fun _ => fun
  | [d1, d2, d3, d4] => { results := [.lit (.bool true)], args := [d1, d2, d3, d4] }
  | _ => none }
def poseMirrorRow : OpenClaim := { program := "ytooamdacfhfjoaadoor", sum := "6725f6a1570688f0fe16369f7c7e1f33b484372b2c0abd419d7edcea08c296a9", func := "kinesphere/kinespherelaw26.PoseMirror", spec := "poseMirror", inPlace := ["internal/bytealg.IndexByteString"], unfollowed := true, recurses := true, named := ["kinesphere/space.flat"], apart := false, laid := [("kinesphere/space.flat", laid_kinesphere_space_flat)] }
def PoseMirrorSaid : Prop := poseMirrorRow.holds Tryd.pinned (OpenSpec.ofChange poseMirrorSpec)

/-- ITS FALSE NEIGHBOUR: 'it returns false'. Refute it at one input. -/
def poseMirrorWrong : ChangeSpec := { name := "poseMirror", fn := fun _ => fun
  | [d1, d2, d3, d4] => { results := [.lit (.bool false)], args := [d1, d2, d3, d4] }
  | _ => none }
def PoseMirrorWrongFalsely : Prop := poseMirrorRow.holds Tryd.pinned (OpenSpec.ofChange poseMirrorWrong)

/-- 'kinespherelaw26.PoseBack': WHATEVER THE INPUT: true; the input reads as it did. -/
def poseBackSpec : ChangeSpec := { name := "poseBack", fn := fun _ => fun
  | [d1, d2, d3] => { results := [.lit (.bool true)], args := [d1, d2, d3] }
  | _ => none }
def poseBackRow : OpenClaim := { program := "ytooamdacfhfjoaadoor", sum := "6725f6a1570688f0fe16369f7c7e1f33b484372b2c0abd419d7edcea08c296a9", func := "kinesphere/kinespherelaw26.PoseBack", spec := "poseBack", inPlace := ["internal/bytealg.IndexByteString"], unfollowed := true, recurses := true, named := ["kinesphere/space.flat"], apart := false, laid := [("kinesphere/space.flat", laid_kinesphere_space_flat)] }
def PoseBackSaid : Prop := poseBackRow.holds Tryd.pinned (OpenSpec.ofChange poseBackSpec)

/-- ITS FALSE NEIGHBOUR: 'it returns false'. Refute it at one input. -/
def poseBackWrong : ChangeSpec := { name := "poseBack", fn := fun _ => fun
  | [d1, d2, d3] => { results := [.lit (.bool false)], args := [d1, d2, d3] }
  | _ => none }
def PoseBackWrongFalsely : Prop := poseBackRow.holds Tryd.pinned (OpenSpec.ofChange poseBackWrong)

/-- 'kinespherelaw26.PoseOthers': WHATEVER THE INPUT: true; the input reads as it did. -/
def poseOthersSpec : ChangeSpec := { name := "poseOthers", fn := fun _ => fun
  | [d1, d2, d3] => { results := [.lit (.bool true)], args := [d1, d2, d3] }
  | _ => none }
def poseOthersRow : OpenClaim := { program := "ytooamdacfhfjoaadoor", sum := "6725f6a1570688f0fe16369f7c7e1f33b484372b2c0abd419d7edcea08c296a9", func := "kinesphere/kinespherelaw26.PoseOthers", spec := "poseOthers", inPlace := ["internal/bytealg.IndexByteString"], unfollowed := true, recurses := true, named := ["kinesphere/space.flat"], apart := false, laid := [("kinesphere/space.flat", laid_kinesphere_space_flat)] }
def PoseOthersSaid : Prop := poseOthersRow.holds Tryd.pinned (OpenSpec.ofChange poseOthersSpec)

/-- ITS FALSE NEIGHBOUR: 'it returns false'. Refute it at one input. -/
def poseOthersWrong : ChangeSpec := { name := "poseOthers", fn := fun _ => fun
  | [d1, d2, d3] => { results := [.lit (.bool false)], args := [d1, d2, d3] }
  | _ => none }
def PoseOthersWrongFalsely : Prop := poseOthersRow.holds Tryd.pinned (OpenSpec.ofChange poseOthersWrong)

/-- 'kinespherelaw26.PoseExtent': WHATEVER THE INPUT: true; the input reads as it did. -/
def poseExtentSpec : ChangeSpec := { name := "poseExtent", fn := fun _ => fun
  | [d1, d2] => { results := [.lit (.bool true)], args := [d1, d2] }
  | _ => none }
def poseExtentRow : OpenClaim := { program := "ytooamdacfhfjoaadoor", sum := "6725f6a1570688f0fe16369f7c7e1f33b484372b2c0abd419d7edcea08c296a9", func := "kinesphere/kinespherelaw26.PoseExtent", spec := "poseExtent", inPlace := ["internal/bytealg.IndexByteString"], unfollowed := true, recurses := true, named := ["kinesphere/space.flat"], apart := false, laid := [("kinesphere/space.flat", laid_kinesphere_space_flat)] }
def PoseExtentSaid : Prop := poseExtentRow.holds Tryd.pinned (OpenSpec.ofChange poseExtentSpec)

/-- ITS FALSE NEIGHBOUR: 'it returns false'. Refute it at one input. -/
def poseExtentWrong : ChangeSpec := { name := "poseExtent", fn := fun _ => fun
  | [d1, d2] => { results := [.lit (.bool false)], args := [d1, d2] }
  | _ => none }
def PoseExtentWrongFalsely : Prop := poseExtentRow.holds Tryd.pinned (OpenSpec.ofChange poseExtentWrong)

/-- 'kinespherelaw26.PoseWider': WHATEVER THE INPUT: true; the input reads as it did. -/
def poseWiderSpec : ChangeSpec := { name := "poseWider", fn := fun _ => fun
  | [d1, d2, d3, d4, d5] => { results := [.lit (.bool true)], args := [d1, d2, d3, d4, d5] }
  | _ => none }
def poseWiderRow : OpenClaim := { program := "ytooamdacfhfjoaadoor", sum := "6725f6a1570688f0fe16369f7c7e1f33b484372b2c0abd419d7edcea08c296a9", func := "kinesphere/kinespherelaw26.PoseWider", spec := "poseWider", inPlace := ["internal/bytealg.IndexByteString"], unfollowed := true, recurses := true, named := ["kinesphere/space.flat"], apart := false, laid := [("kinesphere/space.flat", laid_kinesphere_space_flat)] }
def PoseWiderSaid : Prop := poseWiderRow.holds Tryd.pinned (OpenSpec.ofChange poseWiderSpec)

/-- ITS FALSE NEIGHBOUR: 'it returns false'. Refute it at one input. -/
def poseWiderWrong : ChangeSpec := { name := "poseWider", fn := fun _ => fun
  | [d1, d2, d3, d4, d5] => { results := [.lit (.bool false)], args := [d1, d2, d3, d4, d5] }
  | _ => none }
def PoseWiderWrongFalsely : Prop := poseWiderRow.holds Tryd.pinned (OpenSpec.ofChange poseWiderWrong)

/- THE SECOND FORM. 'bulk': how many values and letters a reading holds, each counted each time it is reached (what is shared counts as often as it is met; a slice's spare places count too). A statement '..UptoSaid' is the law's where the arguments, and the package variables that the reading takes, are together of bulk at most 1048576: NARROWER than '..Said'. Prove '..Said' where nothing that the law and all that it calls make is longer than what came in: it says more and counts as full. Else prove '..UptoSaid'. A law counts once. -/
mutual
def uptoBulk {H : Type} : DataW H → Nat
  | .lit (.string bytes) => bytes.length + 1
  | .lit _ => 1
  | .nil => 1
  | .ptr d => uptoBulk d + 1
  | .slice elems spare => uptoBulkAll elems + uptoBulkAll spare + 1
  | .agg parts => uptoBulkAll parts + 1
  | .iface _ d => uptoBulk d + 1
  | .map entries => uptoBulkEntries entries + 1
  | .held _ => 1
def uptoBulkAll {H : Type} : List (DataW H) → Nat
  | [] => 0
  | d :: r => uptoBulk d + uptoBulkAll r
def uptoBulkEntries {H : Type} : List (Lit × DataW H) → Nat
  | [] => 0
  | x :: r => uptoBulkEntry x + uptoBulkEntries r
def uptoBulkEntry {H : Type} : Lit × DataW H → Nat
  | (.string bytes, d) => bytes.length + uptoBulk d + 1
  | (_, d) => uptoBulk d + 1
 end
def uptoSmall : (H : Type) → List (DataW H) → Bool := fun _ ds => decide (uptoBulkAll ds ≤ 1048576)
def OpenSpec.upto (s : _root_.Go.ChangeSpec) : _root_.Go.OpenSpec := { _root_.Go.OpenSpec.ofChange s with cond := some uptoSmall }

/-- 'kinespherelaw26.PoseSpec', WHERE WHAT IT READS IS OF BULK AT MOST 1048576: true; the input reads as it did. -/
def poseSpecUptoRow : OpenClaim := { program := "ytooamdacfhfjoaadoor", sum := "6725f6a1570688f0fe16369f7c7e1f33b484372b2c0abd419d7edcea08c296a9", func := "kinesphere/kinespherelaw26.PoseSpec", spec := "poseSpec", inPlace := ["internal/bytealg.IndexByteString"], unfollowed := true, recurses := true, named := ["kinesphere/space.flat"], apart := false, laid := [("kinesphere/space.flat", laid_kinesphere_space_flat)], narrowed := true }
def PoseSpecUptoSaid : Prop := poseSpecUptoRow.holds Tryd.pinned (OpenSpec.upto poseSpecSpec)

/-- 'kinespherelaw26.PoseAfterSpec', WHERE WHAT IT READS IS OF BULK AT MOST 1048576: true; the input reads as it did. -/
def poseAfterSpecUptoRow : OpenClaim := { program := "ytooamdacfhfjoaadoor", sum := "6725f6a1570688f0fe16369f7c7e1f33b484372b2c0abd419d7edcea08c296a9", func := "kinesphere/kinespherelaw26.PoseAfterSpec", spec := "poseAfterSpec", inPlace := ["internal/bytealg.IndexByteString"], unfollowed := true, recurses := true, named := ["kinesphere/space.flat"], apart := false, laid := [("kinesphere/space.flat", laid_kinesphere_space_flat)], narrowed := true }
def PoseAfterSpecUptoSaid : Prop := poseAfterSpecUptoRow.holds Tryd.pinned (OpenSpec.upto poseAfterSpecSpec)

/-- 'kinespherelaw26.PoseExtentSpec', WHERE WHAT IT READS IS OF BULK AT MOST 1048576: true; the input reads as it did. -/
def poseExtentSpecUptoRow : OpenClaim := { program := "ytooamdacfhfjoaadoor", sum := "6725f6a1570688f0fe16369f7c7e1f33b484372b2c0abd419d7edcea08c296a9", func := "kinesphere/kinespherelaw26.PoseExtentSpec", spec := "poseExtentSpec", inPlace := ["internal/bytealg.IndexByteString"], unfollowed := true, recurses := true, named := ["kinesphere/space.flat"], apart := false, laid := [("kinesphere/space.flat", laid_kinesphere_space_flat)], narrowed := true }
def PoseExtentSpecUptoSaid : Prop := poseExtentSpecUptoRow.holds Tryd.pinned (OpenSpec.upto poseExtentSpecSpec)

/-- 'kinespherelaw26.PoseMirror', WHERE WHAT IT READS IS OF BULK AT MOST 1048576: true; the input reads as it did. -/
def poseMirrorUptoRow : OpenClaim := { program := "ytooamdacfhfjoaadoor", sum := "6725f6a1570688f0fe16369f7c7e1f33b484372b2c0abd419d7edcea08c296a9", func := "kinesphere/kinespherelaw26.PoseMirror", spec := "poseMirror", inPlace := ["internal/bytealg.IndexByteString"], unfollowed := true, recurses := true, named := ["kinesphere/space.flat"], apart := false, laid := [("kinesphere/space.flat", laid_kinesphere_space_flat)], narrowed := true }
def PoseMirrorUptoSaid : Prop := poseMirrorUptoRow.holds Tryd.pinned (OpenSpec.upto poseMirrorSpec)

/-- 'kinespherelaw26.PoseBack', WHERE WHAT IT READS IS OF BULK AT MOST 1048576: true; the input reads as it did. -/
def poseBackUptoRow : OpenClaim := { program := "ytooamdacfhfjoaadoor", sum := "6725f6a1570688f0fe16369f7c7e1f33b484372b2c0abd419d7edcea08c296a9", func := "kinesphere/kinespherelaw26.PoseBack", spec := "poseBack", inPlace := ["internal/bytealg.IndexByteString"], unfollowed := true, recurses := true, named := ["kinesphere/space.flat"], apart := false, laid := [("kinesphere/space.flat", laid_kinesphere_space_flat)], narrowed := true }
def PoseBackUptoSaid : Prop := poseBackUptoRow.holds Tryd.pinned (OpenSpec.upto poseBackSpec)

/-- 'kinespherelaw26.PoseOthers', WHERE WHAT IT READS IS OF BULK AT MOST 1048576: true; the input reads as it did. -/
def poseOthersUptoRow : OpenClaim := { program := "ytooamdacfhfjoaadoor", sum := "6725f6a1570688f0fe16369f7c7e1f33b484372b2c0abd419d7edcea08c296a9", func := "kinesphere/kinespherelaw26.PoseOthers", spec := "poseOthers", inPlace := ["internal/bytealg.IndexByteString"], unfollowed := true, recurses := true, named := ["kinesphere/space.flat"], apart := false, laid := [("kinesphere/space.flat", laid_kinesphere_space_flat)], narrowed := true }
def PoseOthersUptoSaid : Prop := poseOthersUptoRow.holds Tryd.pinned (OpenSpec.upto poseOthersSpec)

/-- 'kinespherelaw26.PoseExtent', WHERE WHAT IT READS IS OF BULK AT MOST 1048576: true; the input reads as it did. -/
def poseExtentUptoRow : OpenClaim := { program := "ytooamdacfhfjoaadoor", sum := "6725f6a1570688f0fe16369f7c7e1f33b484372b2c0abd419d7edcea08c296a9", func := "kinesphere/kinespherelaw26.PoseExtent", spec := "poseExtent", inPlace := ["internal/bytealg.IndexByteString"], unfollowed := true, recurses := true, named := ["kinesphere/space.flat"], apart := false, laid := [("kinesphere/space.flat", laid_kinesphere_space_flat)], narrowed := true }
def PoseExtentUptoSaid : Prop := poseExtentUptoRow.holds Tryd.pinned (OpenSpec.upto poseExtentSpec)

/-- 'kinespherelaw26.PoseWider', WHERE WHAT IT READS IS OF BULK AT MOST 1048576: true; the input reads as it did. -/
def poseWiderUptoRow : OpenClaim := { program := "ytooamdacfhfjoaadoor", sum := "6725f6a1570688f0fe16369f7c7e1f33b484372b2c0abd419d7edcea08c296a9", func := "kinesphere/kinespherelaw26.PoseWider", spec := "poseWider", inPlace := ["internal/bytealg.IndexByteString"], unfollowed := true, recurses := true, named := ["kinesphere/space.flat"], apart := false, laid := [("kinesphere/space.flat", laid_kinesphere_space_flat)], narrowed := true }
def PoseWiderUptoSaid : Prop := poseWiderUptoRow.holds Tryd.pinned (OpenSpec.upto poseWiderSpec)

end Rows
end Go.Proofs.YtooamdacfhfjoaaDoor
