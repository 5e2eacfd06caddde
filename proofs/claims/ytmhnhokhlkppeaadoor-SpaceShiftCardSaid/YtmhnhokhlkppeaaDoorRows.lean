/-
  NARROWER THAN 'FOR EVERY INPUT', by the rows' own cells (each row's printed sentence says how): SpaceSpec: laid · SpaceBoxSpec: laid · SpaceLength: laid · SpaceTurn: laid · SpaceNear: laid · SpaceJoin: laid · SpaceShift: laid.
  DERIVED. THE GIVEN ROWS OF THIS SEAT. 7 by the template 'for every input the law returns true; each argument reads behind the call as it read before'; 0 by the template 'total and deterministic' (their statements: YtmhnhokhlkppeaaDoorTotals.lean).
  GIVEN WITH THE SEED: the statements are not yours to turn. If you find one false, say at which input.
  Laid BY PROGRAM, IN A SANDBOX (cutbox-rows.mjs): the forced cells as the released guide's own fill.sh prints them over the translation 1294049e65be7b69… (all of the seat's roots in one cut). By AI agents, Wed Nov 11 2026. No macro, syntax, notation, axiom, sorry.
-/
import Derived.Test.YtmhnhokhlkppeaaDoorChecked
import GoSem.Claim
import GoSem.ClaimJoined
import GoSem.ClaimMapViews
import Derived.JoinedTies
import Derived.KernelRfl
namespace Go.Proofs.YtmhnhokhlkppeaaDoor
/- THE CELL 'sum', in the pinned program and in every row, IS THE sha256 OF THE DUMP (.gsa) THAT YtmhnhokhlkppeaaDoorProg.lean LOADS. Nothing in Lean hashes anything: it is a label: what it is worth is what the hold of that sum in a sandbox is worth. -/
noncomputable def Tryd.pinned : Pinned := { name := "ytmhnhokhlkppeaadoor", sum := "1294049e65be7b6940d91666fe3c7bc48d46850e21fdf8b44348adbed0e72eee", checked := Tryd.checked }
namespace Rows
def none {H : Type} : Left H := { results := [], args := [] }

/- WHAT THE LISTED PACKAGE-LEVEL VARIABLES READ AS WHEN THE CALL BEGINS. Each datum BY PROGRAM (the guide's laid-datum.mjs) off the statement by which the dump's own 'gosem.cut.vars' lays the variable. In a bare row this is a premise. The card (YtmhnhokhlkppeaaDoorCards.lean) ties it to the program's text. -/
def laid_kinesphere_space_flat {H : Type} : DataW H := .agg [.agg [.lit (.int .i64 0), .lit (.int .i64 29)], .agg [.lit (.int .i64 20), .lit (.int .i64 21)], .agg [.lit (.int .i64 29), .lit (.int .i64 0)], .agg [.lit (.int .i64 20), .lit (.int .i64 (-21))], .agg [.lit (.int .i64 0), .lit (.int .i64 (-29))], .agg [.lit (.int .i64 (-20)), .lit (.int .i64 (-21))], .agg [.lit (.int .i64 (-29)), .lit (.int .i64 0)], .agg [.lit (.int .i64 (-20)), .lit (.int .i64 21)]]

/-- 'kinespherelaw15.SpaceSpec': WHATEVER THE INPUT: true; the input reads as it did. -/
def spaceSpecSpec : ChangeSpec := { name := "spaceSpec", fn := fun _ => fun
  | [d1, d2] => { results := [.lit (.bool true)], args := [d1, d2] }
  | _ => none }
def spaceSpecRow : OpenClaim := { program := "ytmhnhokhlkppeaadoor", sum := "1294049e65be7b6940d91666fe3c7bc48d46850e21fdf8b44348adbed0e72eee", func := "kinesphere/kinespherelaw15.SpaceSpec", spec := "spaceSpec", unfollowed := true, recurses := true, named := ["kinesphere/space.flat"], apart := false, laid := [("kinesphere/space.flat", laid_kinesphere_space_flat)] }
def SpaceSpecSaid : Prop := spaceSpecRow.holds Tryd.pinned (OpenSpec.ofChange spaceSpecSpec)

/-- ITS FALSE NEIGHBOUR: 'it returns false'. Refute it at one input. -/
def spaceSpecWrong : ChangeSpec := { name := "spaceSpec", fn := fun _ => fun
  | [d1, d2] => { results := [.lit (.bool false)], args := [d1, d2] }
  | _ => none }
def SpaceSpecWrongFalsely : Prop := spaceSpecRow.holds Tryd.pinned (OpenSpec.ofChange spaceSpecWrong)

/-- 'kinespherelaw15.SpaceBoxSpec': WHATEVER THE INPUT: true; the input reads as it did. -/
def spaceBoxSpecSpec : ChangeSpec := { name := "spaceBoxSpec", fn := fun _ => fun
  | [d1, d2, d3, d4, d5, d6] => { results := [.lit (.bool true)], args := [d1, d2, d3, d4, d5, d6] }
  | _ => none }
def spaceBoxSpecRow : OpenClaim := { program := "ytmhnhokhlkppeaadoor", sum := "1294049e65be7b6940d91666fe3c7bc48d46850e21fdf8b44348adbed0e72eee", func := "kinesphere/kinespherelaw15.SpaceBoxSpec", spec := "spaceBoxSpec", unfollowed := true, recurses := true, named := ["kinesphere/space.flat"], apart := false, laid := [("kinesphere/space.flat", laid_kinesphere_space_flat)] }
def SpaceBoxSpecSaid : Prop := spaceBoxSpecRow.holds Tryd.pinned (OpenSpec.ofChange spaceBoxSpecSpec)

/-- ITS FALSE NEIGHBOUR: 'it returns false'. Refute it at one input. -/
def spaceBoxSpecWrong : ChangeSpec := { name := "spaceBoxSpec", fn := fun _ => fun
  | [d1, d2, d3, d4, d5, d6] => { results := [.lit (.bool false)], args := [d1, d2, d3, d4, d5, d6] }
  | _ => none }
def SpaceBoxSpecWrongFalsely : Prop := spaceBoxSpecRow.holds Tryd.pinned (OpenSpec.ofChange spaceBoxSpecWrong)

/-- 'kinespherelaw15.SpaceLength': WHATEVER THE INPUT: true; the input reads as it did. -/
def spaceLengthSpec : ChangeSpec := { name := "spaceLength", fn := fun _ => fun
  | [d1, d2, d3, d4] => { results := [.lit (.bool true)], args := [d1, d2, d3, d4] }
  | _ => none }
def spaceLengthRow : OpenClaim := { program := "ytmhnhokhlkppeaadoor", sum := "1294049e65be7b6940d91666fe3c7bc48d46850e21fdf8b44348adbed0e72eee", func := "kinesphere/kinespherelaw15.SpaceLength", spec := "spaceLength", unfollowed := true, recurses := true, named := ["kinesphere/space.flat"], apart := false, laid := [("kinesphere/space.flat", laid_kinesphere_space_flat)] }
def SpaceLengthSaid : Prop := spaceLengthRow.holds Tryd.pinned (OpenSpec.ofChange spaceLengthSpec)

/-- ITS FALSE NEIGHBOUR: 'it returns false'. Refute it at one input. -/
def spaceLengthWrong : ChangeSpec := { name := "spaceLength", fn := fun _ => fun
  | [d1, d2, d3, d4] => { results := [.lit (.bool false)], args := [d1, d2, d3, d4] }
  | _ => none }
def SpaceLengthWrongFalsely : Prop := spaceLengthRow.holds Tryd.pinned (OpenSpec.ofChange spaceLengthWrong)

/-- 'kinespherelaw15.SpaceTurn': WHATEVER THE INPUT: true; the input reads as it did. -/
def spaceTurnSpec : ChangeSpec := { name := "spaceTurn", fn := fun _ => fun
  | [d1, d2, d3, d4] => { results := [.lit (.bool true)], args := [d1, d2, d3, d4] }
  | _ => none }
def spaceTurnRow : OpenClaim := { program := "ytmhnhokhlkppeaadoor", sum := "1294049e65be7b6940d91666fe3c7bc48d46850e21fdf8b44348adbed0e72eee", func := "kinesphere/kinespherelaw15.SpaceTurn", spec := "spaceTurn", unfollowed := true, recurses := true, named := ["kinesphere/space.flat"], apart := false, laid := [("kinesphere/space.flat", laid_kinesphere_space_flat)] }
def SpaceTurnSaid : Prop := spaceTurnRow.holds Tryd.pinned (OpenSpec.ofChange spaceTurnSpec)

/-- ITS FALSE NEIGHBOUR: 'it returns false'. Refute it at one input. -/
def spaceTurnWrong : ChangeSpec := { name := "spaceTurn", fn := fun _ => fun
  | [d1, d2, d3, d4] => { results := [.lit (.bool false)], args := [d1, d2, d3, d4] }
  | _ => none }
def SpaceTurnWrongFalsely : Prop := spaceTurnRow.holds Tryd.pinned (OpenSpec.ofChange spaceTurnWrong)

/-- 'kinespherelaw15.SpaceNear': WHATEVER THE INPUT: true; the input reads as it did. -/
def spaceNearSpec : ChangeSpec := { name := "spaceNear", fn := fun _ => fun
  | [d1, d2, d3, d4, d5, d6, d7] => { results := [.lit (.bool true)], args := [d1, d2, d3, d4, d5, d6, d7] }
  | _ => none }
def spaceNearRow : OpenClaim := { program := "ytmhnhokhlkppeaadoor", sum := "1294049e65be7b6940d91666fe3c7bc48d46850e21fdf8b44348adbed0e72eee", func := "kinesphere/kinespherelaw15.SpaceNear", spec := "spaceNear", unfollowed := true, recurses := true, named := ["kinesphere/space.flat"], apart := false, laid := [("kinesphere/space.flat", laid_kinesphere_space_flat)] }
def SpaceNearSaid : Prop := spaceNearRow.holds Tryd.pinned (OpenSpec.ofChange spaceNearSpec)

/-- ITS FALSE NEIGHBOUR: 'it returns false'. Refute it at one input. -/
def spaceNearWrong : ChangeSpec := { name := "spaceNear", fn := fun _ => fun
  | [d1, d2, d3, d4, d5, d6, d7] => { results := [.lit (.bool false)], args := [d1, d2, d3, d4, d5, d6, d7] }
  | _ => none }
def SpaceNearWrongFalsely : Prop := spaceNearRow.holds Tryd.pinned (OpenSpec.ofChange spaceNearWrong)

/-- 'kinespherelaw15.SpaceJoin': WHATEVER THE INPUT: true; the input reads as it did. -/
def spaceJoinSpec : ChangeSpec := { name := "spaceJoin", fn := fun _ => fun
  | [d1, d2, d3] => { results := [.lit (.bool true)], args := [d1, d2, d3] }
  | _ => none }
def spaceJoinRow : OpenClaim := { program := "ytmhnhokhlkppeaadoor", sum := "1294049e65be7b6940d91666fe3c7bc48d46850e21fdf8b44348adbed0e72eee", func := "kinesphere/kinespherelaw15.SpaceJoin", spec := "spaceJoin", unfollowed := true, recurses := true, named := ["kinesphere/space.flat"], apart := false, laid := [("kinesphere/space.flat", laid_kinesphere_space_flat)] }
def SpaceJoinSaid : Prop := spaceJoinRow.holds Tryd.pinned (OpenSpec.ofChange spaceJoinSpec)

/-- ITS FALSE NEIGHBOUR: 'it returns false'. Refute it at one input. -/
def spaceJoinWrong : ChangeSpec := { name := "spaceJoin", fn := fun _ => fun
  | [d1, d2, d3] => { results := [.lit (.bool false)], args := [d1, d2, d3] }
  | _ => none }
def SpaceJoinWrongFalsely : Prop := spaceJoinRow.holds Tryd.pinned (OpenSpec.ofChange spaceJoinWrong)

/-- 'kinespherelaw15.SpaceShift': WHATEVER THE INPUT: true; the input reads as it did. -/
def spaceShiftSpec : ChangeSpec := { name := "spaceShift", fn := fun _ => fun
  | [d1, d2, d3, d4] => { results := [.lit (.bool true)], args := [d1, d2, d3, d4] }
  | _ => none }
def spaceShiftRow : OpenClaim := { program := "ytmhnhokhlkppeaadoor", sum := "1294049e65be7b6940d91666fe3c7bc48d46850e21fdf8b44348adbed0e72eee", func := "kinesphere/kinespherelaw15.SpaceShift", spec := "spaceShift", unfollowed := true, recurses := true, named := ["kinesphere/space.flat"], apart := false, laid := [("kinesphere/space.flat", laid_kinesphere_space_flat)] }
def SpaceShiftSaid : Prop := spaceShiftRow.holds Tryd.pinned (OpenSpec.ofChange spaceShiftSpec)

/-- ITS FALSE NEIGHBOUR: 'it returns false'. Refute it at one input. -/
def spaceShiftWrong : ChangeSpec := { name := "spaceShift", fn := fun _ => fun
  | [d1, d2, d3, d4] => { results := [.lit (.bool false)], args := [d1, d2, d3, d4] }
  | _ => none }
def SpaceShiftWrongFalsely : Prop := spaceShiftRow.holds Tryd.pinned (OpenSpec.ofChange spaceShiftWrong)

/- THE SECOND FORM. 'bulk': how many values and letters a reading holds, each counted each time it is reached (what is shared counts as often as it is met; a slice's spare places count too). A statement '..UptoSaid' is the law's where the arguments, and the package variables that the reading takes, are together of bulk at most 1048576: NARROWER than '..Said'. Prove '..Said' where nothing that the law and all that it calls make is longer than what came in: it says more and counts as full. Else prove '..UptoSaid'. A law counts once. -/
mutual
def uptoBulk {H : Type} : DataW H → Nat
  | .lit (.string bytes) => bytes.length + 1
  | .lit _ => 1
  | .nil => 1
  | .ptr d => uptoBulk d + 1
  | .slice elems spare => uptoBulkAll elems + uptoBulkAll spare + 1
  | .agg parts => uptoBulkAll parts + 1
  | .iface _ d => uptoBulk d + 1
  | .map entries => uptoBulkEntries entries + 1
  | .held _ => 1
def uptoBulkAll {H : Type} : List (DataW H) → Nat
  | [] => 0
  | d :: r => uptoBulk d + uptoBulkAll r
def uptoBulkEntries {H : Type} : List (Lit × DataW H) → Nat
  | [] => 0
  | x :: r => uptoBulkEntry x + uptoBulkEntries r
def uptoBulkEntry {H : Type} : Lit × DataW H → Nat
  | (.string bytes, d) => bytes.length + uptoBulk d + 1
  | (_, d) => uptoBulk d + 1
 end
def uptoSmall : (H : Type) → List (DataW H) → Bool := fun _ ds => decide (uptoBulkAll ds ≤ 1048576)
def OpenSpec.upto (s : _root_.Go.ChangeSpec) : _root_.Go.OpenSpec := { _root_.Go.OpenSpec.ofChange s with cond := some uptoSmall }

/-- 'kinespherelaw15.SpaceSpec', WHERE WHAT IT READS IS OF BULK AT MOST 1048576: true; the input reads as it did. -/
def spaceSpecUptoRow : OpenClaim := { program := "ytmhnhokhlkppeaadoor", sum := "1294049e65be7b6940d91666fe3c7bc48d46850e21fdf8b44348adbed0e72eee", func := "kinesphere/kinespherelaw15.SpaceSpec", spec := "spaceSpec", unfollowed := true, recurses := true, named := ["kinesphere/space.flat"], apart := false, laid := [("kinesphere/space.flat", laid_kinesphere_space_flat)], narrowed := true }
def SpaceSpecUptoSaid : Prop := spaceSpecUptoRow.holds Tryd.pinned (OpenSpec.upto spaceSpecSpec)

/-- 'kinespherelaw15.SpaceBoxSpec', WHERE WHAT IT READS IS OF BULK AT MOST 1048576: true; the input reads as it did. -/
def spaceBoxSpecUptoRow : OpenClaim := { program := "ytmhnhokhlkppeaadoor", sum := "1294049e65be7b6940d91666fe3c7bc48d46850e21fdf8b44348adbed0e72eee", func := "kinesphere/kinespherelaw15.SpaceBoxSpec", spec := "spaceBoxSpec", unfollowed := true, recurses := true, named := ["kinesphere/space.flat"], apart := false, laid := [("kinesphere/space.flat", laid_kinesphere_space_flat)], narrowed := true }
def SpaceBoxSpecUptoSaid : Prop := spaceBoxSpecUptoRow.holds Tryd.pinned (OpenSpec.upto spaceBoxSpecSpec)

/-- 'kinespherelaw15.SpaceLength', WHERE WHAT IT READS IS OF BULK AT MOST 1048576: true; the input reads as it did. -/
def spaceLengthUptoRow : OpenClaim := { program := "ytmhnhokhlkppeaadoor", sum := "1294049e65be7b6940d91666fe3c7bc48d46850e21fdf8b44348adbed0e72eee", func := "kinesphere/kinespherelaw15.SpaceLength", spec := "spaceLength", unfollowed := true, recurses := true, named := ["kinesphere/space.flat"], apart := false, laid := [("kinesphere/space.flat", laid_kinesphere_space_flat)], narrowed := true }
def SpaceLengthUptoSaid : Prop := spaceLengthUptoRow.holds Tryd.pinned (OpenSpec.upto spaceLengthSpec)

/-- 'kinespherelaw15.SpaceTurn', WHERE WHAT IT READS IS OF BULK AT MOST 1048576: true; the input reads as it did. -/
def spaceTurnUptoRow : OpenClaim := { program := "ytmhnhokhlkppeaadoor", sum := "1294049e65be7b6940d91666fe3c7bc48d46850e21fdf8b44348adbed0e72eee", func := "kinesphere/kinespherelaw15.SpaceTurn", spec := "spaceTurn", unfollowed := true, recurses := true, named := ["kinesphere/space.flat"], apart := false, laid := [("kinesphere/space.flat", laid_kinesphere_space_flat)], narrowed := true }
def SpaceTurnUptoSaid : Prop := spaceTurnUptoRow.holds Tryd.pinned (OpenSpec.upto spaceTurnSpec)

/-- 'kinespherelaw15.SpaceNear', WHERE WHAT IT READS IS OF BULK AT MOST 1048576: true; the input reads as it did. -/
def spaceNearUptoRow : OpenClaim := { program := "ytmhnhokhlkppeaadoor", sum := "1294049e65be7b6940d91666fe3c7bc48d46850e21fdf8b44348adbed0e72eee", func := "kinesphere/kinespherelaw15.SpaceNear", spec := "spaceNear", unfollowed := true, recurses := true, named := ["kinesphere/space.flat"], apart := false, laid := [("kinesphere/space.flat", laid_kinesphere_space_flat)], narrowed := true }
def SpaceNearUptoSaid : Prop := spaceNearUptoRow.holds Tryd.pinned (OpenSpec.upto spaceNearSpec)

/-- 'kinespherelaw15.SpaceJoin', WHERE WHAT IT READS IS OF BULK AT MOST 1048576: true; the input reads as it did. -/
def spaceJoinUptoRow : OpenClaim := { program := "ytmhnhokhlkppeaadoor", sum := "1294049e65be7b6940d91666fe3c7bc48d46850e21fdf8b44348adbed0e72eee", func := "kinesphere/kinespherelaw15.SpaceJoin", spec := "spaceJoin", unfollowed := true, recurses := true, named := ["kinesphere/space.flat"], apart := false, laid := [("kinesphere/space.flat", laid_kinesphere_space_flat)], narrowed := true }
def SpaceJoinUptoSaid : Prop := spaceJoinUptoRow.holds Tryd.pinned (OpenSpec.upto spaceJoinSpec)

/-- 'kinespherelaw15.SpaceShift', WHERE WHAT IT READS IS OF BULK AT MOST 1048576: true; the input reads as it did. -/
def spaceShiftUptoRow : OpenClaim := { program := "ytmhnhokhlkppeaadoor", sum := "1294049e65be7b6940d91666fe3c7bc48d46850e21fdf8b44348adbed0e72eee", func := "kinesphere/kinespherelaw15.SpaceShift", spec := "spaceShift", unfollowed := true, recurses := true, named := ["kinesphere/space.flat"], apart := false, laid := [("kinesphere/space.flat", laid_kinesphere_space_flat)], narrowed := true }
def SpaceShiftUptoSaid : Prop := spaceShiftUptoRow.holds Tryd.pinned (OpenSpec.upto spaceShiftSpec)

end Rows
end Go.Proofs.YtmhnhokhlkppeaaDoor
