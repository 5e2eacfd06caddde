/-
  DERIVED. GIVEN WITH THE SEED: THE CARDS: each row of YtmhnhokhlkppeaaDoorRows.lean that lists a variable, with what it lists TIED to the program's text (the seventh form; the later family's looks); each row that meets fmt, with fmt's text TOLD by the authors' own Lean function (tested against real Go, not proved from fmt's source: count such statements apart). THE CARD IS WHAT COUNTS. Prove the row's statement (the work); the ties are given (YtmhnhokhlkppeaaDoorTie.lean); close each card by the builder's one call (the guide's Derived/Test/ToyasCard.lean, 'card_holds'). Laid BY PROGRAM, IN A SANDBOX (cutbox-door.mjs). By AI agents, Wed Nov 11 2026. No macro, syntax, notation, axiom, sorry.
-/
import Derived.Test.YtmhnhokhlkppeaaDoorRows
import GoSem.ClaimSeven
namespace Go.Proofs.YtmhnhokhlkppeaaDoor
namespace Rows

/-- THE TIED CARD OF 'kinespherelaw15.SpaceSpec'. -/
def spaceSpecCard : Claim7 := { stood := { row := spaceSpecRow, standIns := [], harness := (true, "1732958d83548250cedee17130b47f033e23cf8563d0ade82e10da8930a4526a"), looks := false }, kinds := [], alts := [], laidByText := true, laidKinds := [.data], laidTests := true, laidLooks := .later }
def SpaceSpecCardSaid : Prop := Claim7.holds Tryd.pinned (.plain (OpenSpec.ofChange spaceSpecSpec)) spaceSpecCard

/-- THE TIED CARD OF 'kinespherelaw15.SpaceBoxSpec'. -/
def spaceBoxSpecCard : Claim7 := { stood := { row := spaceBoxSpecRow, standIns := [], harness := (true, "1732958d83548250cedee17130b47f033e23cf8563d0ade82e10da8930a4526a"), looks := false }, kinds := [], alts := [], laidByText := true, laidKinds := [.data], laidTests := true, laidLooks := .later }
def SpaceBoxSpecCardSaid : Prop := Claim7.holds Tryd.pinned (.plain (OpenSpec.ofChange spaceBoxSpecSpec)) spaceBoxSpecCard

/-- THE TIED CARD OF 'kinespherelaw15.SpaceLength'. -/
def spaceLengthCard : Claim7 := { stood := { row := spaceLengthRow, standIns := [], harness := (true, "1732958d83548250cedee17130b47f033e23cf8563d0ade82e10da8930a4526a"), looks := false }, kinds := [], alts := [], laidByText := true, laidKinds := [.data], laidTests := true, laidLooks := .later }
def SpaceLengthCardSaid : Prop := Claim7.holds Tryd.pinned (.plain (OpenSpec.ofChange spaceLengthSpec)) spaceLengthCard

/-- THE TIED CARD OF 'kinespherelaw15.SpaceTurn'. -/
def spaceTurnCard : Claim7 := { stood := { row := spaceTurnRow, standIns := [], harness := (true, "1732958d83548250cedee17130b47f033e23cf8563d0ade82e10da8930a4526a"), looks := false }, kinds := [], alts := [], laidByText := true, laidKinds := [.data], laidTests := true, laidLooks := .later }
def SpaceTurnCardSaid : Prop := Claim7.holds Tryd.pinned (.plain (OpenSpec.ofChange spaceTurnSpec)) spaceTurnCard

/-- THE TIED CARD OF 'kinespherelaw15.SpaceNear'. -/
def spaceNearCard : Claim7 := { stood := { row := spaceNearRow, standIns := [], harness := (true, "1732958d83548250cedee17130b47f033e23cf8563d0ade82e10da8930a4526a"), looks := false }, kinds := [], alts := [], laidByText := true, laidKinds := [.data], laidTests := true, laidLooks := .later }
def SpaceNearCardSaid : Prop := Claim7.holds Tryd.pinned (.plain (OpenSpec.ofChange spaceNearSpec)) spaceNearCard

/-- THE TIED CARD OF 'kinespherelaw15.SpaceJoin'. -/
def spaceJoinCard : Claim7 := { stood := { row := spaceJoinRow, standIns := [], harness := (true, "1732958d83548250cedee17130b47f033e23cf8563d0ade82e10da8930a4526a"), looks := false }, kinds := [], alts := [], laidByText := true, laidKinds := [.data], laidTests := true, laidLooks := .later }
def SpaceJoinCardSaid : Prop := Claim7.holds Tryd.pinned (.plain (OpenSpec.ofChange spaceJoinSpec)) spaceJoinCard

/-- THE TIED CARD OF 'kinespherelaw15.SpaceShift'. -/
def spaceShiftCard : Claim7 := { stood := { row := spaceShiftRow, standIns := [], harness := (true, "1732958d83548250cedee17130b47f033e23cf8563d0ade82e10da8930a4526a"), looks := false }, kinds := [], alts := [], laidByText := true, laidKinds := [.data], laidTests := true, laidLooks := .later }
def SpaceShiftCardSaid : Prop := Claim7.holds Tryd.pinned (.plain (OpenSpec.ofChange spaceShiftSpec)) spaceShiftCard

/-- THE SECOND FORM's CARD OF 'kinespherelaw15.SpaceSpec'. -/
def spaceSpecUptoCard : Claim7 := { stood := { row := spaceSpecUptoRow, standIns := [], harness := (true, "1732958d83548250cedee17130b47f033e23cf8563d0ade82e10da8930a4526a"), looks := false }, kinds := [], alts := [], laidByText := true, laidKinds := [.data], laidTests := true, laidLooks := .later }
def SpaceSpecUptoCardSaid : Prop := Claim7.holds Tryd.pinned (.plain (OpenSpec.upto spaceSpecSpec)) spaceSpecUptoCard

/-- THE SECOND FORM's CARD OF 'kinespherelaw15.SpaceBoxSpec'. -/
def spaceBoxSpecUptoCard : Claim7 := { stood := { row := spaceBoxSpecUptoRow, standIns := [], harness := (true, "1732958d83548250cedee17130b47f033e23cf8563d0ade82e10da8930a4526a"), looks := false }, kinds := [], alts := [], laidByText := true, laidKinds := [.data], laidTests := true, laidLooks := .later }
def SpaceBoxSpecUptoCardSaid : Prop := Claim7.holds Tryd.pinned (.plain (OpenSpec.upto spaceBoxSpecSpec)) spaceBoxSpecUptoCard

/-- THE SECOND FORM's CARD OF 'kinespherelaw15.SpaceLength'. -/
def spaceLengthUptoCard : Claim7 := { stood := { row := spaceLengthUptoRow, standIns := [], harness := (true, "1732958d83548250cedee17130b47f033e23cf8563d0ade82e10da8930a4526a"), looks := false }, kinds := [], alts := [], laidByText := true, laidKinds := [.data], laidTests := true, laidLooks := .later }
def SpaceLengthUptoCardSaid : Prop := Claim7.holds Tryd.pinned (.plain (OpenSpec.upto spaceLengthSpec)) spaceLengthUptoCard

/-- THE SECOND FORM's CARD OF 'kinespherelaw15.SpaceTurn'. -/
def spaceTurnUptoCard : Claim7 := { stood := { row := spaceTurnUptoRow, standIns := [], harness := (true, "1732958d83548250cedee17130b47f033e23cf8563d0ade82e10da8930a4526a"), looks := false }, kinds := [], alts := [], laidByText := true, laidKinds := [.data], laidTests := true, laidLooks := .later }
def SpaceTurnUptoCardSaid : Prop := Claim7.holds Tryd.pinned (.plain (OpenSpec.upto spaceTurnSpec)) spaceTurnUptoCard

/-- THE SECOND FORM's CARD OF 'kinespherelaw15.SpaceNear'. -/
def spaceNearUptoCard : Claim7 := { stood := { row := spaceNearUptoRow, standIns := [], harness := (true, "1732958d83548250cedee17130b47f033e23cf8563d0ade82e10da8930a4526a"), looks := false }, kinds := [], alts := [], laidByText := true, laidKinds := [.data], laidTests := true, laidLooks := .later }
def SpaceNearUptoCardSaid : Prop := Claim7.holds Tryd.pinned (.plain (OpenSpec.upto spaceNearSpec)) spaceNearUptoCard

/-- THE SECOND FORM's CARD OF 'kinespherelaw15.SpaceJoin'. -/
def spaceJoinUptoCard : Claim7 := { stood := { row := spaceJoinUptoRow, standIns := [], harness := (true, "1732958d83548250cedee17130b47f033e23cf8563d0ade82e10da8930a4526a"), looks := false }, kinds := [], alts := [], laidByText := true, laidKinds := [.data], laidTests := true, laidLooks := .later }
def SpaceJoinUptoCardSaid : Prop := Claim7.holds Tryd.pinned (.plain (OpenSpec.upto spaceJoinSpec)) spaceJoinUptoCard

/-- THE SECOND FORM's CARD OF 'kinespherelaw15.SpaceShift'. -/
def spaceShiftUptoCard : Claim7 := { stood := { row := spaceShiftUptoRow, standIns := [], harness := (true, "1732958d83548250cedee17130b47f033e23cf8563d0ade82e10da8930a4526a"), looks := false }, kinds := [], alts := [], laidByText := true, laidKinds := [.data], laidTests := true, laidLooks := .later }
def SpaceShiftUptoCardSaid : Prop := Claim7.holds Tryd.pinned (.plain (OpenSpec.upto spaceShiftSpec)) spaceShiftUptoCard
end Rows
end Go.Proofs.YtmhnhokhlkppeaaDoor
