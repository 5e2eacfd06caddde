/-
  No cell of these rows narrows 'for every input' (looked for: loops, veiled, ifaces, maps, wideKeys, modest, calm, conditions, laid).
  DERIVED. THE GIVEN ROWS OF THIS SEAT. 4 by the template 'for every input the law returns true; each argument reads behind the call as it read before'; 0 by the template 'total and deterministic' (their statements: YtdmgdjnadbakfaaTotals.lean).
  GIVEN WITH THE SEED: the statements are not yours to turn. If you find one false, say at which input.
  Laid BY PROGRAM, IN A SANDBOX (cutbox-rows.mjs): the forced cells as the released guide's own fill.sh prints them over the translation a0d2a1e8ad291178… (all of the seat's roots in one cut). By AI agents, Wed Nov 11 2026. No macro, syntax, notation, axiom, sorry.
-/
import Derived.Test.YtdmgdjnadbakfaaChecked
import GoSem.Claim
import GoSem.ClaimJoined
import GoSem.ClaimMapViews
import Derived.JoinedTies
import Derived.KernelRfl
namespace Go.Proofs.Ytdmgdjnadbakfaa
/- THE CELL 'sum', in the pinned program and in every row, IS THE sha256 OF THE DUMP (.gsa) THAT YtdmgdjnadbakfaaProg.lean LOADS. Nothing in Lean hashes anything: it is a label: what it is worth is what the hold of that sum in a sandbox is worth. -/
noncomputable def Try.pinned : Pinned := { name := "ytdmgdjnadbakfaa", sum := "a0d2a1e8ad291178360eaa38396db82c816175a790a44c05f01a26a4a8d99ddb", checked := Try.checked }
namespace Rows
def none {H : Type} : Left H := { results := [], args := [] }

/-- 'kinespherelaw53.ReplicaLoadSpec': WHATEVER THE INPUT: true; the input reads as it did. -/
def replicaLoadSpecSpec : ChangeSpec := { name := "replicaLoadSpec", fn := fun _ => fun
  | [d1, d2, d3] => { results := [.lit (.bool true)], args := [d1, d2, d3] }
  | _ => none }
def replicaLoadSpecRow : OpenClaim := { program := "ytdmgdjnadbakfaa", sum := "a0d2a1e8ad291178360eaa38396db82c816175a790a44c05f01a26a4a8d99ddb", func := "kinesphere/kinespherelaw53.ReplicaLoadSpec", spec := "replicaLoadSpec", unfollowed := true, recurses := true, apart := false }
def ReplicaLoadSpecSaid : Prop := replicaLoadSpecRow.holds Try.pinned (OpenSpec.ofChange replicaLoadSpecSpec)

/-- ITS FALSE NEIGHBOUR: 'it returns false'. Refute it at one input. -/
def replicaLoadSpecWrong : ChangeSpec := { name := "replicaLoadSpec", fn := fun _ => fun
  | [d1, d2, d3] => { results := [.lit (.bool false)], args := [d1, d2, d3] }
  | _ => none }
def ReplicaLoadSpecWrongFalsely : Prop := replicaLoadSpecRow.holds Try.pinned (OpenSpec.ofChange replicaLoadSpecWrong)

/-- 'kinespherelaw53.ReplicaNever': WHATEVER THE INPUT: true; the input reads as it did. -/
def replicaNeverSpec : ChangeSpec := { name := "replicaNever", fn := fun _ => fun
  | [d1, d2, d3] => { results := [.lit (.bool true)], args := [d1, d2, d3] }
  | _ => none }
def replicaNeverRow : OpenClaim := { program := "ytdmgdjnadbakfaa", sum := "a0d2a1e8ad291178360eaa38396db82c816175a790a44c05f01a26a4a8d99ddb", func := "kinesphere/kinespherelaw53.ReplicaNever", spec := "replicaNever", unfollowed := true, recurses := true, apart := false }
def ReplicaNeverSaid : Prop := replicaNeverRow.holds Try.pinned (OpenSpec.ofChange replicaNeverSpec)

/-- ITS FALSE NEIGHBOUR: 'it returns false'. Refute it at one input. -/
def replicaNeverWrong : ChangeSpec := { name := "replicaNever", fn := fun _ => fun
  | [d1, d2, d3] => { results := [.lit (.bool false)], args := [d1, d2, d3] }
  | _ => none }
def ReplicaNeverWrongFalsely : Prop := replicaNeverRow.holds Try.pinned (OpenSpec.ofChange replicaNeverWrong)

/-- 'kinespherelaw53.ReplicaBegins': WHATEVER THE INPUT: true; the input reads as it did. -/
def replicaBeginsSpec : ChangeSpec := { name := "replicaBegins", fn := fun _ => fun
  | [d1, d2] => { results := [.lit (.bool true)], args := [d1, d2] }
  | _ => none }
def replicaBeginsRow : OpenClaim := { program := "ytdmgdjnadbakfaa", sum := "a0d2a1e8ad291178360eaa38396db82c816175a790a44c05f01a26a4a8d99ddb", func := "kinesphere/kinespherelaw53.ReplicaBegins", spec := "replicaBegins", unfollowed := true, recurses := true, apart := false }
def ReplicaBeginsSaid : Prop := replicaBeginsRow.holds Try.pinned (OpenSpec.ofChange replicaBeginsSpec)

/-- ITS FALSE NEIGHBOUR: 'it returns false'. Refute it at one input. -/
def replicaBeginsWrong : ChangeSpec := { name := "replicaBegins", fn := fun _ => fun
  | [d1, d2] => { results := [.lit (.bool false)], args := [d1, d2] }
  | _ => none }
def ReplicaBeginsWrongFalsely : Prop := replicaBeginsRow.holds Try.pinned (OpenSpec.ofChange replicaBeginsWrong)

/-- 'kinespherelaw53.ReplicaMine': WHATEVER THE INPUT: true; the input reads as it did. -/
def replicaMineSpec : ChangeSpec := { name := "replicaMine", fn := fun _ => fun
  | [d1, d2] => { results := [.lit (.bool true)], args := [d1, d2] }
  | _ => none }
def replicaMineRow : OpenClaim := { program := "ytdmgdjnadbakfaa", sum := "a0d2a1e8ad291178360eaa38396db82c816175a790a44c05f01a26a4a8d99ddb", func := "kinesphere/kinespherelaw53.ReplicaMine", spec := "replicaMine", unfollowed := true, recurses := true, apart := false }
def ReplicaMineSaid : Prop := replicaMineRow.holds Try.pinned (OpenSpec.ofChange replicaMineSpec)

/-- ITS FALSE NEIGHBOUR: 'it returns false'. Refute it at one input. -/
def replicaMineWrong : ChangeSpec := { name := "replicaMine", fn := fun _ => fun
  | [d1, d2] => { results := [.lit (.bool false)], args := [d1, d2] }
  | _ => none }
def ReplicaMineWrongFalsely : Prop := replicaMineRow.holds Try.pinned (OpenSpec.ofChange replicaMineWrong)

/- THE SECOND FORM. 'bulk': how many values and letters a reading holds, each counted each time it is reached (what is shared counts as often as it is met; a slice's spare places count too). A statement '..UptoSaid' is the law's where the arguments, and the package variables that the reading takes, are together of bulk at most 1048576: NARROWER than '..Said'. Prove '..Said' where nothing that the law and all that it calls make is longer than what came in: it says more and counts as full. Else prove '..UptoSaid'. A law counts once. -/
mutual
def uptoBulk {H : Type} : DataW H → Nat
  | .lit (.string bytes) => bytes.length + 1
  | .lit _ => 1
  | .nil => 1
  | .ptr d => uptoBulk d + 1
  | .slice elems spare => uptoBulkAll elems + uptoBulkAll spare + 1
  | .agg parts => uptoBulkAll parts + 1
  | .iface _ d => uptoBulk d + 1
  | .map entries => uptoBulkEntries entries + 1
  | .held _ => 1
def uptoBulkAll {H : Type} : List (DataW H) → Nat
  | [] => 0
  | d :: r => uptoBulk d + uptoBulkAll r
def uptoBulkEntries {H : Type} : List (Lit × DataW H) → Nat
  | [] => 0
  | x :: r => uptoBulkEntry x + uptoBulkEntries r
def uptoBulkEntry {H : Type} : Lit × DataW H → Nat
  | (.string bytes, d) => bytes.length + uptoBulk d + 1
  | (_, d) => uptoBulk d + 1
 end
def uptoSmall : (H : Type) → List (DataW H) → Bool := fun _ ds => decide (uptoBulkAll ds ≤ 1048576)
def OpenSpec.upto (s : _root_.Go.ChangeSpec) : _root_.Go.OpenSpec := { _root_.Go.OpenSpec.ofChange s with cond := some uptoSmall }

/-- 'kinespherelaw53.ReplicaLoadSpec', WHERE WHAT IT READS IS OF BULK AT MOST 1048576: true; the input reads as it did. -/
def replicaLoadSpecUptoRow : OpenClaim := { program := "ytdmgdjnadbakfaa", sum := "a0d2a1e8ad291178360eaa38396db82c816175a790a44c05f01a26a4a8d99ddb", func := "kinesphere/kinespherelaw53.ReplicaLoadSpec", spec := "replicaLoadSpec", unfollowed := true, recurses := true, apart := false, narrowed := true }
def ReplicaLoadSpecUptoSaid : Prop := replicaLoadSpecUptoRow.holds Try.pinned (OpenSpec.upto replicaLoadSpecSpec)

/-- 'kinespherelaw53.ReplicaNever', WHERE WHAT IT READS IS OF BULK AT MOST 1048576: true; the input reads as it did. -/
def replicaNeverUptoRow : OpenClaim := { program := "ytdmgdjnadbakfaa", sum := "a0d2a1e8ad291178360eaa38396db82c816175a790a44c05f01a26a4a8d99ddb", func := "kinesphere/kinespherelaw53.ReplicaNever", spec := "replicaNever", unfollowed := true, recurses := true, apart := false, narrowed := true }
def ReplicaNeverUptoSaid : Prop := replicaNeverUptoRow.holds Try.pinned (OpenSpec.upto replicaNeverSpec)

/-- 'kinespherelaw53.ReplicaBegins', WHERE WHAT IT READS IS OF BULK AT MOST 1048576: true; the input reads as it did. -/
def replicaBeginsUptoRow : OpenClaim := { program := "ytdmgdjnadbakfaa", sum := "a0d2a1e8ad291178360eaa38396db82c816175a790a44c05f01a26a4a8d99ddb", func := "kinesphere/kinespherelaw53.ReplicaBegins", spec := "replicaBegins", unfollowed := true, recurses := true, apart := false, narrowed := true }
def ReplicaBeginsUptoSaid : Prop := replicaBeginsUptoRow.holds Try.pinned (OpenSpec.upto replicaBeginsSpec)

/-- 'kinespherelaw53.ReplicaMine', WHERE WHAT IT READS IS OF BULK AT MOST 1048576: true; the input reads as it did. -/
def replicaMineUptoRow : OpenClaim := { program := "ytdmgdjnadbakfaa", sum := "a0d2a1e8ad291178360eaa38396db82c816175a790a44c05f01a26a4a8d99ddb", func := "kinesphere/kinespherelaw53.ReplicaMine", spec := "replicaMine", unfollowed := true, recurses := true, apart := false, narrowed := true }
def ReplicaMineUptoSaid : Prop := replicaMineUptoRow.holds Try.pinned (OpenSpec.upto replicaMineSpec)

end Rows
end Go.Proofs.Ytdmgdjnadbakfaa
