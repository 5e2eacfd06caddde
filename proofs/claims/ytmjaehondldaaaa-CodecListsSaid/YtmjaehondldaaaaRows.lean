/-
  NARROWER THAN 'FOR EVERY INPUT', by the rows' own cells (each row's printed sentence says how): CodecEncodeSpec: loops · CodecSameSpec: loops · CodecRoundTrip: loops · CodecDifferent: loops · CodecLists: loops.
  DERIVED. THE GIVEN ROWS OF THIS SEAT. 7 by the template 'for every input the law returns true; each argument reads behind the call as it read before'; 0 by the template 'total and deterministic' (their statements: YtmjaehondldaaaaTotals.lean).
  GIVEN WITH THE SEED: the statements are not yours to turn. If you find one false, say at which input.
  Laid BY PROGRAM, IN A SANDBOX (cutbox-rows.mjs): the forced cells as the released guide's own fill.sh prints them over the translation 3c8b9403c7694ae8… (all of the seat's roots in one cut). By AI agents, Wed Nov 11 2026. No macro, syntax, notation, axiom, sorry.
-/
import Derived.Test.YtmjaehondldaaaaChecked
import GoSem.Claim
import GoSem.ClaimJoined
import GoSem.ClaimMapViews
import Derived.JoinedTies
import Derived.KernelRfl
namespace Go.Proofs.Ytmjaehondldaaaa
/- THE CELL 'sum', in the pinned program and in every row, IS THE sha256 OF THE DUMP (.gsa) THAT YtmjaehondldaaaaProg.lean LOADS. Nothing in Lean hashes anything: it is a label: what it is worth is what the hold of that sum in a sandbox is worth. -/
noncomputable def Try.pinned : Pinned := { name := "ytmjaehondldaaaa", sum := "3c8b9403c7694ae86cce68e8f9e3ad92a0e968a24f1e9da209384425526a5386", checked := Try.checked }
namespace Rows
def none {H : Type} : Left H := { results := [], args := [] }

/-- 'kinespherelaw01.CodecEncodeSpec': WHATEVER THE INPUT: true; the input reads as it did. -/
def codecEncodeSpecSpec : ChangeSpec := { name := "codecEncodeSpec", fn := fun _ => fun
  | [d] => { results := [.lit (.bool true)], args := [d] }
  | _ => none }
def codecEncodeSpecRow : OpenClaim := { program := "ytmjaehondldaaaa", sum := "3c8b9403c7694ae86cce68e8f9e3ad92a0e968a24f1e9da209384425526a5386", func := "kinesphere/kinespherelaw01.CodecEncodeSpec", spec := "codecEncodeSpec", unfollowed := true, recurses := true, loops := true, apart := false }
def CodecEncodeSpecSaid : Prop := codecEncodeSpecRow.holds Try.pinned (OpenSpec.ofChange codecEncodeSpecSpec)

/-- ITS FALSE NEIGHBOUR: 'it returns false'. Refute it at one input. -/
def codecEncodeSpecWrong : ChangeSpec := { name := "codecEncodeSpec", fn := fun _ => fun
  | [d] => { results := [.lit (.bool false)], args := [d] }
  | _ => none }
def CodecEncodeSpecWrongFalsely : Prop := codecEncodeSpecRow.holds Try.pinned (OpenSpec.ofChange codecEncodeSpecWrong)

/-- 'kinespherelaw01.CodecDecodeSpec': WHATEVER THE INPUT: true; the input reads as it did. -/
def codecDecodeSpecSpec : ChangeSpec := { name := "codecDecodeSpec", fn := fun _ => fun
  | [d] => { results := [.lit (.bool true)], args := [d] }
  | _ => none }
def codecDecodeSpecRow : OpenClaim := { program := "ytmjaehondldaaaa", sum := "3c8b9403c7694ae86cce68e8f9e3ad92a0e968a24f1e9da209384425526a5386", func := "kinesphere/kinespherelaw01.CodecDecodeSpec", spec := "codecDecodeSpec", unfollowed := true, recurses := true, apart := false }
def CodecDecodeSpecSaid : Prop := codecDecodeSpecRow.holds Try.pinned (OpenSpec.ofChange codecDecodeSpecSpec)

/-- ITS FALSE NEIGHBOUR: 'it returns false'. Refute it at one input. -/
def codecDecodeSpecWrong : ChangeSpec := { name := "codecDecodeSpec", fn := fun _ => fun
  | [d] => { results := [.lit (.bool false)], args := [d] }
  | _ => none }
def CodecDecodeSpecWrongFalsely : Prop := codecDecodeSpecRow.holds Try.pinned (OpenSpec.ofChange codecDecodeSpecWrong)

/-- 'kinespherelaw01.CodecSameSpec': WHATEVER THE INPUT: true; the input reads as it did. -/
def codecSameSpecSpec : ChangeSpec := { name := "codecSameSpec", fn := fun _ => fun
  | [d1, d2] => { results := [.lit (.bool true)], args := [d1, d2] }
  | _ => none }
def codecSameSpecRow : OpenClaim := { program := "ytmjaehondldaaaa", sum := "3c8b9403c7694ae86cce68e8f9e3ad92a0e968a24f1e9da209384425526a5386", func := "kinesphere/kinespherelaw01.CodecSameSpec", spec := "codecSameSpec", unfollowed := true, recurses := true, loops := true, apart := false }
def CodecSameSpecSaid : Prop := codecSameSpecRow.holds Try.pinned (OpenSpec.ofChange codecSameSpecSpec)

/-- ITS FALSE NEIGHBOUR: 'it returns false'. Refute it at one input. -/
def codecSameSpecWrong : ChangeSpec := { name := "codecSameSpec", fn := fun _ => fun
  | [d1, d2] => { results := [.lit (.bool false)], args := [d1, d2] }
  | _ => none }
def CodecSameSpecWrongFalsely : Prop := codecSameSpecRow.holds Try.pinned (OpenSpec.ofChange codecSameSpecWrong)

/-- 'kinespherelaw01.CodecRoundTrip': WHATEVER THE INPUT: true; the input reads as it did. -/
def codecRoundTripSpec : ChangeSpec := { name := "codecRoundTrip", fn := fun _ => fun
  | [d1, d2] => { results := [.lit (.bool true)], args := [d1, d2] }
  | _ => none }
def codecRoundTripRow : OpenClaim := { program := "ytmjaehondldaaaa", sum := "3c8b9403c7694ae86cce68e8f9e3ad92a0e968a24f1e9da209384425526a5386", func := "kinesphere/kinespherelaw01.CodecRoundTrip", spec := "codecRoundTrip", unfollowed := true, recurses := true, loops := true, apart := false }
def CodecRoundTripSaid : Prop := codecRoundTripRow.holds Try.pinned (OpenSpec.ofChange codecRoundTripSpec)

/-- ITS FALSE NEIGHBOUR: 'it returns false'. Refute it at one input. -/
def codecRoundTripWrong : ChangeSpec := { name := "codecRoundTrip", fn := fun _ => fun
  | [d1, d2] => { results := [.lit (.bool false)], args := [d1, d2] }
  | _ => none }
def CodecRoundTripWrongFalsely : Prop := codecRoundTripRow.holds Try.pinned (OpenSpec.ofChange codecRoundTripWrong)

/-- 'kinespherelaw01.CodecDifferent': WHATEVER THE INPUT: true; the input reads as it did. -/
def codecDifferentSpec : ChangeSpec := { name := "codecDifferent", fn := fun _ => fun
  | [d1, d2] => { results := [.lit (.bool true)], args := [d1, d2] }
  | _ => none }
def codecDifferentRow : OpenClaim := { program := "ytmjaehondldaaaa", sum := "3c8b9403c7694ae86cce68e8f9e3ad92a0e968a24f1e9da209384425526a5386", func := "kinesphere/kinespherelaw01.CodecDifferent", spec := "codecDifferent", unfollowed := true, recurses := true, loops := true, apart := false }
def CodecDifferentSaid : Prop := codecDifferentRow.holds Try.pinned (OpenSpec.ofChange codecDifferentSpec)

/-- ITS FALSE NEIGHBOUR: 'it returns false'. Refute it at one input. -/
def codecDifferentWrong : ChangeSpec := { name := "codecDifferent", fn := fun _ => fun
  | [d1, d2] => { results := [.lit (.bool false)], args := [d1, d2] }
  | _ => none }
def CodecDifferentWrongFalsely : Prop := codecDifferentRow.holds Try.pinned (OpenSpec.ofChange codecDifferentWrong)

/-- 'kinespherelaw01.CodecLists': WHATEVER THE INPUT: true; the input reads as it did. -/
def codecListsSpec : ChangeSpec := { name := "codecLists", fn := fun _ => fun
  | [d] => { results := [.lit (.bool true)], args := [d] }
  | _ => none }
def codecListsRow : OpenClaim := { program := "ytmjaehondldaaaa", sum := "3c8b9403c7694ae86cce68e8f9e3ad92a0e968a24f1e9da209384425526a5386", func := "kinesphere/kinespherelaw01.CodecLists", spec := "codecLists", unfollowed := true, recurses := true, loops := true, apart := false }
def CodecListsSaid : Prop := codecListsRow.holds Try.pinned (OpenSpec.ofChange codecListsSpec)

/-- ITS FALSE NEIGHBOUR: 'it returns false'. Refute it at one input. -/
def codecListsWrong : ChangeSpec := { name := "codecLists", fn := fun _ => fun
  | [d] => { results := [.lit (.bool false)], args := [d] }
  | _ => none }
def CodecListsWrongFalsely : Prop := codecListsRow.holds Try.pinned (OpenSpec.ofChange codecListsWrong)

/-- 'kinespherelaw01.CodecNumbers': WHATEVER THE INPUT: true; the input reads as it did. -/
def codecNumbersSpec : ChangeSpec := { name := "codecNumbers", fn := fun _ => fun
  | [d1, d2] => { results := [.lit (.bool true)], args := [d1, d2] }
  | _ => none }
def codecNumbersRow : OpenClaim := { program := "ytmjaehondldaaaa", sum := "3c8b9403c7694ae86cce68e8f9e3ad92a0e968a24f1e9da209384425526a5386", func := "kinesphere/kinespherelaw01.CodecNumbers", spec := "codecNumbers", unfollowed := true, recurses := true, apart := false }
def CodecNumbersSaid : Prop := codecNumbersRow.holds Try.pinned (OpenSpec.ofChange codecNumbersSpec)

/-- ITS FALSE NEIGHBOUR: 'it returns false'. Refute it at one input. -/
def codecNumbersWrong : ChangeSpec := { name := "codecNumbers", fn := fun _ => fun
  | [d1, d2] => { results := [.lit (.bool false)], args := [d1, d2] }
  | _ => none }
def CodecNumbersWrongFalsely : Prop := codecNumbersRow.holds Try.pinned (OpenSpec.ofChange codecNumbersWrong)

/- THE SECOND FORM. 'bulk': how many values and letters a reading holds, each counted each time it is reached (what is shared counts as often as it is met; a slice's spare places count too). A statement '..UptoSaid' is the law's where the arguments, and the package variables that the reading takes, are together of bulk at most 1048576: NARROWER than '..Said'. Prove '..Said' where nothing that the law and all that it calls make is longer than what came in: it says more and counts as full. Else prove '..UptoSaid'. A law counts once. -/
mutual
def uptoBulk {H : Type} : DataW H → Nat
  | .lit (.string bytes) => bytes.length + 1
  | .lit _ => 1
  | .nil => 1
  | .ptr d => uptoBulk d + 1
  | .slice elems spare => uptoBulkAll elems + uptoBulkAll spare + 1
  | .agg parts => uptoBulkAll parts + 1
  | .iface _ d => uptoBulk d + 1
  | .map entries => uptoBulkEntries entries + 1
  | .held _ => 1
def uptoBulkAll {H : Type} : List (DataW H) → Nat
  | [] => 0
  | d :: r => uptoBulk d + uptoBulkAll r
def uptoBulkEntries {H : Type} : List (Lit × DataW H) → Nat
  | [] => 0
  | x :: r => uptoBulkEntry x + uptoBulkEntries r
def uptoBulkEntry {H : Type} : Lit × DataW H → Nat
  | (.string bytes, d) => bytes.length + uptoBulk d + 1
  | (_, d) => uptoBulk d + 1
 end
def uptoSmall : (H : Type) → List (DataW H) → Bool := fun _ ds => decide (uptoBulkAll ds ≤ 1048576)
def OpenSpec.upto (s : _root_.Go.ChangeSpec) : _root_.Go.OpenSpec := { _root_.Go.OpenSpec.ofChange s with cond := some uptoSmall }

/-- 'kinespherelaw01.CodecEncodeSpec', WHERE WHAT IT READS IS OF BULK AT MOST 1048576: true; the input reads as it did. -/
def codecEncodeSpecUptoRow : OpenClaim := { program := "ytmjaehondldaaaa", sum := "3c8b9403c7694ae86cce68e8f9e3ad92a0e968a24f1e9da209384425526a5386", func := "kinesphere/kinespherelaw01.CodecEncodeSpec", spec := "codecEncodeSpec", unfollowed := true, recurses := true, loops := true, apart := false, narrowed := true }
def CodecEncodeSpecUptoSaid : Prop := codecEncodeSpecUptoRow.holds Try.pinned (OpenSpec.upto codecEncodeSpecSpec)

/-- 'kinespherelaw01.CodecDecodeSpec', WHERE WHAT IT READS IS OF BULK AT MOST 1048576: true; the input reads as it did. -/
def codecDecodeSpecUptoRow : OpenClaim := { program := "ytmjaehondldaaaa", sum := "3c8b9403c7694ae86cce68e8f9e3ad92a0e968a24f1e9da209384425526a5386", func := "kinesphere/kinespherelaw01.CodecDecodeSpec", spec := "codecDecodeSpec", unfollowed := true, recurses := true, apart := false, narrowed := true }
def CodecDecodeSpecUptoSaid : Prop := codecDecodeSpecUptoRow.holds Try.pinned (OpenSpec.upto codecDecodeSpecSpec)

/-- 'kinespherelaw01.CodecSameSpec', WHERE WHAT IT READS IS OF BULK AT MOST 1048576: true; the input reads as it did. -/
def codecSameSpecUptoRow : OpenClaim := { program := "ytmjaehondldaaaa", sum := "3c8b9403c7694ae86cce68e8f9e3ad92a0e968a24f1e9da209384425526a5386", func := "kinesphere/kinespherelaw01.CodecSameSpec", spec := "codecSameSpec", unfollowed := true, recurses := true, loops := true, apart := false, narrowed := true }
def CodecSameSpecUptoSaid : Prop := codecSameSpecUptoRow.holds Try.pinned (OpenSpec.upto codecSameSpecSpec)

/-- 'kinespherelaw01.CodecRoundTrip', WHERE WHAT IT READS IS OF BULK AT MOST 1048576: true; the input reads as it did. -/
def codecRoundTripUptoRow : OpenClaim := { program := "ytmjaehondldaaaa", sum := "3c8b9403c7694ae86cce68e8f9e3ad92a0e968a24f1e9da209384425526a5386", func := "kinesphere/kinespherelaw01.CodecRoundTrip", spec := "codecRoundTrip", unfollowed := true, recurses := true, loops := true, apart := false, narrowed := true }
def CodecRoundTripUptoSaid : Prop := codecRoundTripUptoRow.holds Try.pinned (OpenSpec.upto codecRoundTripSpec)

/-- 'kinespherelaw01.CodecDifferent', WHERE WHAT IT READS IS OF BULK AT MOST 1048576: true; the input reads as it did. -/
def codecDifferentUptoRow : OpenClaim := { program := "ytmjaehondldaaaa", sum := "3c8b9403c7694ae86cce68e8f9e3ad92a0e968a24f1e9da209384425526a5386", func := "kinesphere/kinespherelaw01.CodecDifferent", spec := "codecDifferent", unfollowed := true, recurses := true, loops := true, apart := false, narrowed := true }
def CodecDifferentUptoSaid : Prop := codecDifferentUptoRow.holds Try.pinned (OpenSpec.upto codecDifferentSpec)

/-- 'kinespherelaw01.CodecLists', WHERE WHAT IT READS IS OF BULK AT MOST 1048576: true; the input reads as it did. -/
def codecListsUptoRow : OpenClaim := { program := "ytmjaehondldaaaa", sum := "3c8b9403c7694ae86cce68e8f9e3ad92a0e968a24f1e9da209384425526a5386", func := "kinesphere/kinespherelaw01.CodecLists", spec := "codecLists", unfollowed := true, recurses := true, loops := true, apart := false, narrowed := true }
def CodecListsUptoSaid : Prop := codecListsUptoRow.holds Try.pinned (OpenSpec.upto codecListsSpec)

/-- 'kinespherelaw01.CodecNumbers', WHERE WHAT IT READS IS OF BULK AT MOST 1048576: true; the input reads as it did. -/
def codecNumbersUptoRow : OpenClaim := { program := "ytmjaehondldaaaa", sum := "3c8b9403c7694ae86cce68e8f9e3ad92a0e968a24f1e9da209384425526a5386", func := "kinesphere/kinespherelaw01.CodecNumbers", spec := "codecNumbers", unfollowed := true, recurses := true, apart := false, narrowed := true }
def CodecNumbersUptoSaid : Prop := codecNumbersUptoRow.holds Try.pinned (OpenSpec.upto codecNumbersSpec)

end Rows
end Go.Proofs.Ytmjaehondldaaaa
