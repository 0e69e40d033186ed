/-
  DERIVED. GIVEN WITH THE SEED: THE CARDS: each row of YtmfdfpebbnagfaaDoorRows.lean that lists a variable, with what it lists TIED to the program's text (the seventh form; the later family's looks); each row that meets fmt, with fmt's text TOLD by the authors' own Lean function (tested against real Go, not proved from fmt's source: count such statements apart). THE CARD IS WHAT COUNTS. Prove the row's statement (the work); the ties are given (YtmfdfpebbnagfaaDoorTie.lean); close each card by the builder's one call (the guide's Derived/Test/ToyasCard.lean, 'card_holds'). Laid BY PROGRAM, IN A SANDBOX (cutbox-door.mjs). By AI agents, Wed Nov 11 2026. No macro, syntax, notation, axiom, sorry.
-/
import Derived.Test.YtmfdfpebbnagfaaDoorRows
import GoSem.ClaimSeven
namespace Go.Proofs.YtmfdfpebbnagfaaDoor
namespace Rows

/-- THE TIED CARD OF 'drumlinlaw01.CodecIntegers'. -/
def codecIntegersCard : Claim7 := { stood := { row := codecIntegersRow, standIns := [], harness := (true, "07bba3ca2a9653d6bcfe9e3ec88856b0173c21680254d49d9b1a3fd59e05477b"), looks := true }, kinds := [], alts := [], laidByText := true, laidKinds := [.data, .data, .data, .sentinel, .sentinel], laidTests := true, laidLooks := .later }
def CodecIntegersCardSaid : Prop := Claim7.holds Tryd.pinned (.plain (OpenSpec.ofChange codecIntegersSpec)) codecIntegersCard

/-- THE TIED CARD OF 'drumlinlaw01.CodecHex'. -/
def codecHexCard : Claim7 := { stood := { row := codecHexRow, standIns := [], harness := (true, "07bba3ca2a9653d6bcfe9e3ec88856b0173c21680254d49d9b1a3fd59e05477b"), looks := true }, kinds := [], alts := [], laidByText := true, laidKinds := [.data, .data, .data, .sentinel, .sentinel], laidTests := true, laidLooks := .later }
def CodecHexCardSaid : Prop := Claim7.holds Tryd.pinned (.plain (OpenSpec.ofChange codecHexSpec)) codecHexCard

/-- THE TIED CARD OF 'drumlinlaw01.CodecDigits'. -/
def codecDigitsCard : Claim7 := { stood := { row := codecDigitsRow, standIns := [], harness := (true, "07bba3ca2a9653d6bcfe9e3ec88856b0173c21680254d49d9b1a3fd59e05477b"), looks := true }, kinds := [], alts := [], laidByText := true, laidKinds := [.data, .data, .data, .sentinel, .sentinel], laidTests := true, laidLooks := .later }
def CodecDigitsCardSaid : Prop := Claim7.holds Tryd.pinned (.plain (OpenSpec.ofChange codecDigitsSpec)) codecDigitsCard

/-- THE TIED CARD OF 'drumlinlaw01.CodecBytes'. -/
def codecBytesCard : Claim7 := { stood := { row := codecBytesRow, standIns := [], harness := (true, "07bba3ca2a9653d6bcfe9e3ec88856b0173c21680254d49d9b1a3fd59e05477b"), looks := true }, kinds := [], alts := [], laidByText := true, laidKinds := [.data, .data, .data, .sentinel, .sentinel], laidTests := true, laidLooks := .later }
def CodecBytesCardSaid : Prop := Claim7.holds Tryd.pinned (.plain (OpenSpec.ofChange codecBytesSpec)) codecBytesCard

/-- THE TIED CARD OF 'drumlinlaw01.CodecTorn'. -/
def codecTornCard : Claim7 := { stood := { row := codecTornRow, standIns := [], harness := (true, "07bba3ca2a9653d6bcfe9e3ec88856b0173c21680254d49d9b1a3fd59e05477b"), looks := true }, kinds := [], alts := [], laidByText := true, laidKinds := [.data, .data, .data, .sentinel, .sentinel], laidTests := true, laidLooks := .later }
def CodecTornCardSaid : Prop := Claim7.holds Tryd.pinned (.plain (OpenSpec.ofChange codecTornSpec)) codecTornCard

/-- THE TIED CARD OF 'drumlinlaw01.CodecHexBack'. -/
def codecHexBackCard : Claim7 := { stood := { row := codecHexBackRow, standIns := [], harness := (true, "07bba3ca2a9653d6bcfe9e3ec88856b0173c21680254d49d9b1a3fd59e05477b"), looks := true }, kinds := [], alts := [], laidByText := true, laidKinds := [.data, .data, .data, .sentinel, .sentinel], laidTests := true, laidLooks := .later }
def CodecHexBackCardSaid : Prop := Claim7.holds Tryd.pinned (.plain (OpenSpec.ofChange codecHexBackSpec)) codecHexBackCard

/-- THE TIED CARD OF 'drumlinlaw01.CodecDigitsBack'. -/
def codecDigitsBackCard : Claim7 := { stood := { row := codecDigitsBackRow, standIns := [], harness := (true, "07bba3ca2a9653d6bcfe9e3ec88856b0173c21680254d49d9b1a3fd59e05477b"), looks := true }, kinds := [], alts := [], laidByText := true, laidKinds := [.data, .data, .data, .sentinel, .sentinel], laidTests := true, laidLooks := .later }
def CodecDigitsBackCardSaid : Prop := Claim7.holds Tryd.pinned (.plain (OpenSpec.ofChange codecDigitsBackSpec)) codecDigitsBackCard

/-- THE TIED CARD OF 'drumlinlaw01.CodecRefuses'. -/
def codecRefusesCard : Claim7 := { stood := { row := codecRefusesRow, standIns := [], harness := (true, "07bba3ca2a9653d6bcfe9e3ec88856b0173c21680254d49d9b1a3fd59e05477b"), looks := true }, kinds := [], alts := [], laidByText := true, laidKinds := [.data, .data, .data, .sentinel, .sentinel], laidTests := true, laidLooks := .later }
def CodecRefusesCardSaid : Prop := Claim7.holds Tryd.pinned (.plain (OpenSpec.ofChange codecRefusesSpec)) codecRefusesCard

/-- THE TIED CARD OF 'drumlinlaw01.CodecRoundTrip'. -/
def codecRoundTripCard : Claim7 := { stood := { row := codecRoundTripRow, standIns := [], harness := (true, "07bba3ca2a9653d6bcfe9e3ec88856b0173c21680254d49d9b1a3fd59e05477b"), looks := true }, kinds := [], alts := [], laidByText := true, laidKinds := [.data, .data, .data, .sentinel, .sentinel], laidTests := true, laidLooks := .later }
def CodecRoundTripCardSaid : Prop := Claim7.holds Tryd.pinned (.plain (OpenSpec.ofChange codecRoundTripSpec)) codecRoundTripCard

/-- THE SECOND FORM's CARD OF 'drumlinlaw01.CodecIntegers'. -/
def codecIntegersUptoCard : Claim7 := { stood := { row := codecIntegersUptoRow, standIns := [], harness := (true, "07bba3ca2a9653d6bcfe9e3ec88856b0173c21680254d49d9b1a3fd59e05477b"), looks := true }, kinds := [], alts := [], laidByText := true, laidKinds := [.data, .data, .data, .sentinel, .sentinel], laidTests := true, laidLooks := .later }
def CodecIntegersUptoCardSaid : Prop := Claim7.holds Tryd.pinned (.plain (OpenSpec.upto codecIntegersSpec)) codecIntegersUptoCard

/-- THE SECOND FORM's CARD OF 'drumlinlaw01.CodecHex'. -/
def codecHexUptoCard : Claim7 := { stood := { row := codecHexUptoRow, standIns := [], harness := (true, "07bba3ca2a9653d6bcfe9e3ec88856b0173c21680254d49d9b1a3fd59e05477b"), looks := true }, kinds := [], alts := [], laidByText := true, laidKinds := [.data, .data, .data, .sentinel, .sentinel], laidTests := true, laidLooks := .later }
def CodecHexUptoCardSaid : Prop := Claim7.holds Tryd.pinned (.plain (OpenSpec.upto codecHexSpec)) codecHexUptoCard

/-- THE SECOND FORM's CARD OF 'drumlinlaw01.CodecDigits'. -/
def codecDigitsUptoCard : Claim7 := { stood := { row := codecDigitsUptoRow, standIns := [], harness := (true, "07bba3ca2a9653d6bcfe9e3ec88856b0173c21680254d49d9b1a3fd59e05477b"), looks := true }, kinds := [], alts := [], laidByText := true, laidKinds := [.data, .data, .data, .sentinel, .sentinel], laidTests := true, laidLooks := .later }
def CodecDigitsUptoCardSaid : Prop := Claim7.holds Tryd.pinned (.plain (OpenSpec.upto codecDigitsSpec)) codecDigitsUptoCard

/-- THE SECOND FORM's CARD OF 'drumlinlaw01.CodecBytes'. -/
def codecBytesUptoCard : Claim7 := { stood := { row := codecBytesUptoRow, standIns := [], harness := (true, "07bba3ca2a9653d6bcfe9e3ec88856b0173c21680254d49d9b1a3fd59e05477b"), looks := true }, kinds := [], alts := [], laidByText := true, laidKinds := [.data, .data, .data, .sentinel, .sentinel], laidTests := true, laidLooks := .later }
def CodecBytesUptoCardSaid : Prop := Claim7.holds Tryd.pinned (.plain (OpenSpec.upto codecBytesSpec)) codecBytesUptoCard

/-- THE SECOND FORM's CARD OF 'drumlinlaw01.CodecTorn'. -/
def codecTornUptoCard : Claim7 := { stood := { row := codecTornUptoRow, standIns := [], harness := (true, "07bba3ca2a9653d6bcfe9e3ec88856b0173c21680254d49d9b1a3fd59e05477b"), looks := true }, kinds := [], alts := [], laidByText := true, laidKinds := [.data, .data, .data, .sentinel, .sentinel], laidTests := true, laidLooks := .later }
def CodecTornUptoCardSaid : Prop := Claim7.holds Tryd.pinned (.plain (OpenSpec.upto codecTornSpec)) codecTornUptoCard

/-- THE SECOND FORM's CARD OF 'drumlinlaw01.CodecHexBack'. -/
def codecHexBackUptoCard : Claim7 := { stood := { row := codecHexBackUptoRow, standIns := [], harness := (true, "07bba3ca2a9653d6bcfe9e3ec88856b0173c21680254d49d9b1a3fd59e05477b"), looks := true }, kinds := [], alts := [], laidByText := true, laidKinds := [.data, .data, .data, .sentinel, .sentinel], laidTests := true, laidLooks := .later }
def CodecHexBackUptoCardSaid : Prop := Claim7.holds Tryd.pinned (.plain (OpenSpec.upto codecHexBackSpec)) codecHexBackUptoCard

/-- THE SECOND FORM's CARD OF 'drumlinlaw01.CodecDigitsBack'. -/
def codecDigitsBackUptoCard : Claim7 := { stood := { row := codecDigitsBackUptoRow, standIns := [], harness := (true, "07bba3ca2a9653d6bcfe9e3ec88856b0173c21680254d49d9b1a3fd59e05477b"), looks := true }, kinds := [], alts := [], laidByText := true, laidKinds := [.data, .data, .data, .sentinel, .sentinel], laidTests := true, laidLooks := .later }
def CodecDigitsBackUptoCardSaid : Prop := Claim7.holds Tryd.pinned (.plain (OpenSpec.upto codecDigitsBackSpec)) codecDigitsBackUptoCard

/-- THE SECOND FORM's CARD OF 'drumlinlaw01.CodecRefuses'. -/
def codecRefusesUptoCard : Claim7 := { stood := { row := codecRefusesUptoRow, standIns := [], harness := (true, "07bba3ca2a9653d6bcfe9e3ec88856b0173c21680254d49d9b1a3fd59e05477b"), looks := true }, kinds := [], alts := [], laidByText := true, laidKinds := [.data, .data, .data, .sentinel, .sentinel], laidTests := true, laidLooks := .later }
def CodecRefusesUptoCardSaid : Prop := Claim7.holds Tryd.pinned (.plain (OpenSpec.upto codecRefusesSpec)) codecRefusesUptoCard

/-- THE SECOND FORM's CARD OF 'drumlinlaw01.CodecRoundTrip'. -/
def codecRoundTripUptoCard : Claim7 := { stood := { row := codecRoundTripUptoRow, standIns := [], harness := (true, "07bba3ca2a9653d6bcfe9e3ec88856b0173c21680254d49d9b1a3fd59e05477b"), looks := true }, kinds := [], alts := [], laidByText := true, laidKinds := [.data, .data, .data, .sentinel, .sentinel], laidTests := true, laidLooks := .later }
def CodecRoundTripUptoCardSaid : Prop := Claim7.holds Tryd.pinned (.plain (OpenSpec.upto codecRoundTripSpec)) codecRoundTripUptoCard
end Rows
end Go.Proofs.YtmfdfpebbnagfaaDoor
