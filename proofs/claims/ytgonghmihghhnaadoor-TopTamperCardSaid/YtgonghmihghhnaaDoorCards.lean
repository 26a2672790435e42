/-
  DERIVED. GIVEN WITH THE SEED: THE CARDS: each row of YtgonghmihghhnaaDoorRows.lean that lists a variable, with what it lists TIED to the program's text (the seventh form; the later family's looks); each row that meets fmt, with fmt's text TOLD by the authors' own Lean function (tested against real Go, not proved from fmt's source: count such statements apart). THE CARD IS WHAT COUNTS. Prove the row's statement (the work); the ties are given (YtgonghmihghhnaaDoorTie.lean); close each card by the builder's one call (the guide's Derived/Test/ToyasCard.lean, 'card_holds'). Laid BY PROGRAM, IN A SANDBOX (cutbox-door.mjs). By AI agents, Wed Nov 11 2026. No macro, syntax, notation, axiom, sorry.
-/
import Derived.Test.YtgonghmihghhnaaDoorRows
import GoSem.ClaimSeven
namespace Go.Proofs.YtgonghmihghhnaaDoor
namespace Rows

/-- THE TIED CARD OF 'sawmilltop.TopTamper'. -/
def topTamperCard : Claim7 := { stood := { row := topTamperRow, standIns := [], harness := (true, "d37fb476da7cbb428a73af3d89b61f0d1efe568dc2b211f43adb3b8ccc544aa6"), looks := true }, kinds := [], alts := [], laidByText := true, laidKinds := [.data, .data, .data, .sentinel, .sentinel], laidTests := true, laidLooks := .later }
def TopTamperCardSaid : Prop := Claim7.holds Tryd.pinned (.plain (OpenSpec.ofChange topTamperSpec)) topTamperCard

/-- THE TIED CARD OF 'sawmilllaw53.PermitCalls'. -/
def permitCallsCard : Claim7 := { stood := { row := permitCallsRow, standIns := [], harness := (true, "d37fb476da7cbb428a73af3d89b61f0d1efe568dc2b211f43adb3b8ccc544aa6"), looks := true }, kinds := [], alts := [], laidByText := true, laidKinds := [.data, .data, .data, .sentinel, .sentinel], laidTests := true, laidLooks := .later }
def PermitCallsCardSaid : Prop := Claim7.holds Tryd.pinned (.plain (OpenSpec.ofChange permitCallsSpec)) permitCallsCard

/-- THE TIED CARD OF 'sawmilltop.TopCustody'. -/
def topCustodyCard : Claim7 := { stood := { row := topCustodyRow, standIns := [], harness := (true, "d37fb476da7cbb428a73af3d89b61f0d1efe568dc2b211f43adb3b8ccc544aa6"), looks := true }, kinds := [], alts := [], laidByText := true, laidKinds := [.data, .data, .data, .sentinel, .sentinel], laidTests := true, laidLooks := .later }
def TopCustodyCardSaid : Prop := Claim7.holds Tryd.pinned (.plain (OpenSpec.ofChange topCustodySpec)) topCustodyCard

/-- THE TIED CARD OF 'sawmilllaw53.PermitQuotas'. -/
def permitQuotasCard : Claim7 := { stood := { row := permitQuotasRow, standIns := [], harness := (true, "d37fb476da7cbb428a73af3d89b61f0d1efe568dc2b211f43adb3b8ccc544aa6"), looks := true }, kinds := [], alts := [], laidByText := true, laidKinds := [.data, .data, .data, .sentinel, .sentinel], laidTests := true, laidLooks := .later }
def PermitQuotasCardSaid : Prop := Claim7.holds Tryd.pinned (.plain (OpenSpec.ofChange permitQuotasSpec)) permitQuotasCard

/-- THE TIED CARD OF 'sawmilllaw53.PermitTwice'. -/
def permitTwiceCard : Claim7 := { stood := { row := permitTwiceRow, standIns := [], harness := (true, "d37fb476da7cbb428a73af3d89b61f0d1efe568dc2b211f43adb3b8ccc544aa6"), looks := true }, kinds := [], alts := [], laidByText := true, laidKinds := [.data, .data, .data, .sentinel, .sentinel], laidTests := true, laidLooks := .later }
def PermitTwiceCardSaid : Prop := Claim7.holds Tryd.pinned (.plain (OpenSpec.ofChange permitTwiceSpec)) permitTwiceCard

/-- THE TIED CARD OF 'sawmilllaw53.PermitFells'. -/
def permitFellsCard : Claim7 := { stood := { row := permitFellsRow, standIns := [], harness := (true, "d37fb476da7cbb428a73af3d89b61f0d1efe568dc2b211f43adb3b8ccc544aa6"), looks := true }, kinds := [], alts := [], laidByText := true, laidKinds := [.data, .data, .data, .sentinel, .sentinel], laidTests := true, laidLooks := .later }
def PermitFellsCardSaid : Prop := Claim7.holds Tryd.pinned (.plain (OpenSpec.ofChange permitFellsSpec)) permitFellsCard

/-- THE TIED CARD OF 'sawmilllaw53.PermitNil'. -/
def permitNilCard : Claim7 := { stood := { row := permitNilRow, standIns := [], harness := (true, "d37fb476da7cbb428a73af3d89b61f0d1efe568dc2b211f43adb3b8ccc544aa6"), looks := true }, kinds := [], alts := [], laidByText := true, laidKinds := [.data, .data, .data, .sentinel, .sentinel], laidTests := true, laidLooks := .later }
def PermitNilCardSaid : Prop := Claim7.holds Tryd.pinned (.plain (OpenSpec.ofChange permitNilSpec)) permitNilCard

/-- THE SECOND FORM's CARD OF 'sawmilltop.TopTamper'. -/
def topTamperUptoCard : Claim7 := { stood := { row := topTamperUptoRow, standIns := [], harness := (true, "d37fb476da7cbb428a73af3d89b61f0d1efe568dc2b211f43adb3b8ccc544aa6"), looks := true }, kinds := [], alts := [], laidByText := true, laidKinds := [.data, .data, .data, .sentinel, .sentinel], laidTests := true, laidLooks := .later }
def TopTamperUptoCardSaid : Prop := Claim7.holds Tryd.pinned (.plain (OpenSpec.upto topTamperSpec)) topTamperUptoCard

/-- THE SECOND FORM's CARD OF 'sawmilllaw53.PermitCalls'. -/
def permitCallsUptoCard : Claim7 := { stood := { row := permitCallsUptoRow, standIns := [], harness := (true, "d37fb476da7cbb428a73af3d89b61f0d1efe568dc2b211f43adb3b8ccc544aa6"), looks := true }, kinds := [], alts := [], laidByText := true, laidKinds := [.data, .data, .data, .sentinel, .sentinel], laidTests := true, laidLooks := .later }
def PermitCallsUptoCardSaid : Prop := Claim7.holds Tryd.pinned (.plain (OpenSpec.upto permitCallsSpec)) permitCallsUptoCard

/-- THE SECOND FORM's CARD OF 'sawmilltop.TopCustody'. -/
def topCustodyUptoCard : Claim7 := { stood := { row := topCustodyUptoRow, standIns := [], harness := (true, "d37fb476da7cbb428a73af3d89b61f0d1efe568dc2b211f43adb3b8ccc544aa6"), looks := true }, kinds := [], alts := [], laidByText := true, laidKinds := [.data, .data, .data, .sentinel, .sentinel], laidTests := true, laidLooks := .later }
def TopCustodyUptoCardSaid : Prop := Claim7.holds Tryd.pinned (.plain (OpenSpec.upto topCustodySpec)) topCustodyUptoCard

/-- THE SECOND FORM's CARD OF 'sawmilllaw53.PermitQuotas'. -/
def permitQuotasUptoCard : Claim7 := { stood := { row := permitQuotasUptoRow, standIns := [], harness := (true, "d37fb476da7cbb428a73af3d89b61f0d1efe568dc2b211f43adb3b8ccc544aa6"), looks := true }, kinds := [], alts := [], laidByText := true, laidKinds := [.data, .data, .data, .sentinel, .sentinel], laidTests := true, laidLooks := .later }
def PermitQuotasUptoCardSaid : Prop := Claim7.holds Tryd.pinned (.plain (OpenSpec.upto permitQuotasSpec)) permitQuotasUptoCard

/-- THE SECOND FORM's CARD OF 'sawmilllaw53.PermitTwice'. -/
def permitTwiceUptoCard : Claim7 := { stood := { row := permitTwiceUptoRow, standIns := [], harness := (true, "d37fb476da7cbb428a73af3d89b61f0d1efe568dc2b211f43adb3b8ccc544aa6"), looks := true }, kinds := [], alts := [], laidByText := true, laidKinds := [.data, .data, .data, .sentinel, .sentinel], laidTests := true, laidLooks := .later }
def PermitTwiceUptoCardSaid : Prop := Claim7.holds Tryd.pinned (.plain (OpenSpec.upto permitTwiceSpec)) permitTwiceUptoCard

/-- THE SECOND FORM's CARD OF 'sawmilllaw53.PermitFells'. -/
def permitFellsUptoCard : Claim7 := { stood := { row := permitFellsUptoRow, standIns := [], harness := (true, "d37fb476da7cbb428a73af3d89b61f0d1efe568dc2b211f43adb3b8ccc544aa6"), looks := true }, kinds := [], alts := [], laidByText := true, laidKinds := [.data, .data, .data, .sentinel, .sentinel], laidTests := true, laidLooks := .later }
def PermitFellsUptoCardSaid : Prop := Claim7.holds Tryd.pinned (.plain (OpenSpec.upto permitFellsSpec)) permitFellsUptoCard

/-- THE SECOND FORM's CARD OF 'sawmilllaw53.PermitNil'. -/
def permitNilUptoCard : Claim7 := { stood := { row := permitNilUptoRow, standIns := [], harness := (true, "d37fb476da7cbb428a73af3d89b61f0d1efe568dc2b211f43adb3b8ccc544aa6"), looks := true }, kinds := [], alts := [], laidByText := true, laidKinds := [.data, .data, .data, .sentinel, .sentinel], laidTests := true, laidLooks := .later }
def PermitNilUptoCardSaid : Prop := Claim7.holds Tryd.pinned (.plain (OpenSpec.upto permitNilSpec)) permitNilUptoCard
end Rows
end Go.Proofs.YtgonghmihghhnaaDoor
