/-
  DERIVED. GIVEN WITH THE SEED: THE CARDS: each row of YtooamdacfhfjoaaDoorRows.lean that lists a variable, with what it lists TIED to the program's text (the seventh form; the later family's looks); each row that meets fmt, with fmt's text TOLD by the authors' own Lean function (tested against real Go, not proved from fmt's source: count such statements apart). THE CARD IS WHAT COUNTS. Prove the row's statement (the work); the ties are given (YtooamdacfhfjoaaDoorTie.lean); close each card by the builder's one call (the guide's Derived/Test/ToyasCard.lean, 'card_holds'). Laid BY PROGRAM, IN A SANDBOX (cutbox-door.mjs). By AI agents, Wed Nov 11 2026. No macro, syntax, notation, axiom, sorry.
-/
import Derived.Test.YtooamdacfhfjoaaDoorRows
import GoSem.ClaimSeven
namespace Go.Proofs.YtooamdacfhfjoaaDoor
namespace Rows

/-- THE TIED CARD OF 'kinespherelaw26.PoseSpec'. -/
def poseSpecCard : Claim7 := { stood := { row := poseSpecRow, standIns := [], harness := (true, "db2d3e629726ef056b2f5b657f8ad319a8e0a5702a5810cffcd12ceb8311fcb0"), looks := false }, kinds := [], alts := [], laidByText := true, laidKinds := [.data], laidTests := true, laidLooks := .later }
def PoseSpecCardSaid : Prop := Claim7.holds Tryd.pinned (.plain (OpenSpec.ofChange poseSpecSpec)) poseSpecCard

/-- THE TIED CARD OF 'kinespherelaw26.PoseAfterSpec'. -/
def poseAfterSpecCard : Claim7 := { stood := { row := poseAfterSpecRow, standIns := [], harness := (true, "db2d3e629726ef056b2f5b657f8ad319a8e0a5702a5810cffcd12ceb8311fcb0"), looks := false }, kinds := [], alts := [], laidByText := true, laidKinds := [.data], laidTests := true, laidLooks := .later }
def PoseAfterSpecCardSaid : Prop := Claim7.holds Tryd.pinned (.plain (OpenSpec.ofChange poseAfterSpecSpec)) poseAfterSpecCard

/-- THE TIED CARD OF 'kinespherelaw26.PoseExtentSpec'. -/
def poseExtentSpecCard : Claim7 := { stood := { row := poseExtentSpecRow, standIns := [], harness := (true, "db2d3e629726ef056b2f5b657f8ad319a8e0a5702a5810cffcd12ceb8311fcb0"), looks := false }, kinds := [], alts := [], laidByText := true, laidKinds := [.data], laidTests := true, laidLooks := .later }
def PoseExtentSpecCardSaid : Prop := Claim7.holds Tryd.pinned (.plain (OpenSpec.ofChange poseExtentSpecSpec)) poseExtentSpecCard

/-- THE TIED CARD OF 'kinespherelaw26.PoseMirror'. -/
def poseMirrorCard : Claim7 := { stood := { row := poseMirrorRow, standIns := [], harness := (true, "db2d3e629726ef056b2f5b657f8ad319a8e0a5702a5810cffcd12ceb8311fcb0"), looks := false }, kinds := [], alts := [], laidByText := true, laidKinds := [.data], laidTests := true, laidLooks := .later }
def PoseMirrorCardSaid : Prop := Claim7.holds Tryd.pinned (.plain (OpenSpec.ofChange poseMirrorSpec)) poseMirrorCard

/-- THE TIED CARD OF 'kinespherelaw26.PoseBack'. -/
def poseBackCard : Claim7 := { stood := { row := poseBackRow, standIns := [], harness := (true, "db2d3e629726ef056b2f5b657f8ad319a8e0a5702a5810cffcd12ceb8311fcb0"), looks := false }, kinds := [], alts := [], laidByText := true, laidKinds := [.data], laidTests := true, laidLooks := .later }
def PoseBackCardSaid : Prop := Claim7.holds Tryd.pinned (.plain (OpenSpec.ofChange poseBackSpec)) poseBackCard

/-- THE TIED CARD OF 'kinespherelaw26.PoseOthers'. -/
def poseOthersCard : Claim7 := { stood := { row := poseOthersRow, standIns := [], harness := (true, "db2d3e629726ef056b2f5b657f8ad319a8e0a5702a5810cffcd12ceb8311fcb0"), looks := false }, kinds := [], alts := [], laidByText := true, laidKinds := [.data], laidTests := true, laidLooks := .later }
def PoseOthersCardSaid : Prop := Claim7.holds Tryd.pinned (.plain (OpenSpec.ofChange poseOthersSpec)) poseOthersCard

/-- THE TIED CARD OF 'kinespherelaw26.PoseExtent'. -/
def poseExtentCard : Claim7 := { stood := { row := poseExtentRow, standIns := [], harness := (true, "db2d3e629726ef056b2f5b657f8ad319a8e0a5702a5810cffcd12ceb8311fcb0"), looks := false }, kinds := [], alts := [], laidByText := true, laidKinds := [.data], laidTests := true, laidLooks := .later }
def PoseExtentCardSaid : Prop := Claim7.holds Tryd.pinned (.plain (OpenSpec.ofChange poseExtentSpec)) poseExtentCard

/-- THE TIED CARD OF 'kinespherelaw26.PoseWider'. -/
def poseWiderCard : Claim7 := { stood := { row := poseWiderRow, standIns := [], harness := (true, "db2d3e629726ef056b2f5b657f8ad319a8e0a5702a5810cffcd12ceb8311fcb0"), looks := false }, kinds := [], alts := [], laidByText := true, laidKinds := [.data], laidTests := true, laidLooks := .later }
def PoseWiderCardSaid : Prop := Claim7.holds Tryd.pinned (.plain (OpenSpec.ofChange poseWiderSpec)) poseWiderCard

/-- THE SECOND FORM's CARD OF 'kinespherelaw26.PoseSpec'. -/
def poseSpecUptoCard : Claim7 := { stood := { row := poseSpecUptoRow, standIns := [], harness := (true, "db2d3e629726ef056b2f5b657f8ad319a8e0a5702a5810cffcd12ceb8311fcb0"), looks := false }, kinds := [], alts := [], laidByText := true, laidKinds := [.data], laidTests := true, laidLooks := .later }
def PoseSpecUptoCardSaid : Prop := Claim7.holds Tryd.pinned (.plain (OpenSpec.upto poseSpecSpec)) poseSpecUptoCard

/-- THE SECOND FORM's CARD OF 'kinespherelaw26.PoseAfterSpec'. -/
def poseAfterSpecUptoCard : Claim7 := { stood := { row := poseAfterSpecUptoRow, standIns := [], harness := (true, "db2d3e629726ef056b2f5b657f8ad319a8e0a5702a5810cffcd12ceb8311fcb0"), looks := false }, kinds := [], alts := [], laidByText := true, laidKinds := [.data], laidTests := true, laidLooks := .later }
def PoseAfterSpecUptoCardSaid : Prop := Claim7.holds Tryd.pinned (.plain (OpenSpec.upto poseAfterSpecSpec)) poseAfterSpecUptoCard

/-- THE SECOND FORM's CARD OF 'kinespherelaw26.PoseExtentSpec'. -/
def poseExtentSpecUptoCard : Claim7 := { stood := { row := poseExtentSpecUptoRow, standIns := [], harness := (true, "db2d3e629726ef056b2f5b657f8ad319a8e0a5702a5810cffcd12ceb8311fcb0"), looks := false }, kinds := [], alts := [], laidByText := true, laidKinds := [.data], laidTests := true, laidLooks := .later }
def PoseExtentSpecUptoCardSaid : Prop := Claim7.holds Tryd.pinned (.plain (OpenSpec.upto poseExtentSpecSpec)) poseExtentSpecUptoCard

/-- THE SECOND FORM's CARD OF 'kinespherelaw26.PoseMirror'. -/
def poseMirrorUptoCard : Claim7 := { stood := { row := poseMirrorUptoRow, standIns := [], harness := (true, "db2d3e629726ef056b2f5b657f8ad319a8e0a5702a5810cffcd12ceb8311fcb0"), looks := false }, kinds := [], alts := [], laidByText := true, laidKinds := [.data], laidTests := true, laidLooks := .later }
def PoseMirrorUptoCardSaid : Prop := Claim7.holds Tryd.pinned (.plain (OpenSpec.upto poseMirrorSpec)) poseMirrorUptoCard

/-- THE SECOND FORM's CARD OF 'kinespherelaw26.PoseBack'. -/
def poseBackUptoCard : Claim7 := { stood := { row := poseBackUptoRow, standIns := [], harness := (true, "db2d3e629726ef056b2f5b657f8ad319a8e0a5702a5810cffcd12ceb8311fcb0"), looks := false }, kinds := [], alts := [], laidByText := true, laidKinds := [.data], laidTests := true, laidLooks := .later }
def PoseBackUptoCardSaid : Prop := Claim7.holds Tryd.pinned (.plain (OpenSpec.upto poseBackSpec)) poseBackUptoCard

/-- THE SECOND FORM's CARD OF 'kinespherelaw26.PoseOthers'. -/
def poseOthersUptoCard : Claim7 := { stood := { row := poseOthersUptoRow, standIns := [], harness := (true, "db2d3e629726ef056b2f5b657f8ad319a8e0a5702a5810cffcd12ceb8311fcb0"), looks := false }, kinds := [], alts := [], laidByText := true, laidKinds := [.data], laidTests := true, laidLooks := .later }
def PoseOthersUptoCardSaid : Prop := Claim7.holds Tryd.pinned (.plain (OpenSpec.upto poseOthersSpec)) poseOthersUptoCard

/-- THE SECOND FORM's CARD OF 'kinespherelaw26.PoseExtent'. -/
def poseExtentUptoCard : Claim7 := { stood := { row := poseExtentUptoRow, standIns := [], harness := (true, "db2d3e629726ef056b2f5b657f8ad319a8e0a5702a5810cffcd12ceb8311fcb0"), looks := false }, kinds := [], alts := [], laidByText := true, laidKinds := [.data], laidTests := true, laidLooks := .later }
def PoseExtentUptoCardSaid : Prop := Claim7.holds Tryd.pinned (.plain (OpenSpec.upto poseExtentSpec)) poseExtentUptoCard

/-- THE SECOND FORM's CARD OF 'kinespherelaw26.PoseWider'. -/
def poseWiderUptoCard : Claim7 := { stood := { row := poseWiderUptoRow, standIns := [], harness := (true, "db2d3e629726ef056b2f5b657f8ad319a8e0a5702a5810cffcd12ceb8311fcb0"), looks := false }, kinds := [], alts := [], laidByText := true, laidKinds := [.data], laidTests := true, laidLooks := .later }
def PoseWiderUptoCardSaid : Prop := Claim7.holds Tryd.pinned (.plain (OpenSpec.upto poseWiderSpec)) poseWiderUptoCard
end Rows
end Go.Proofs.YtooamdacfhfjoaaDoor
