/-
  DERIVED. GIVEN WITH THE SEED: THE CARDS: each row of YtllgnogiicdhfaaDoorRows.lean that lists a variable, with what it lists TIED to the program's text (the seventh form; the later family's looks); each row that meets fmt, with fmt's text TOLD by the authors' own Lean function (tested against real Go, not proved from fmt's source: count such statements apart). THE CARD IS WHAT COUNTS. Prove the row's statement (the work); the ties are given (YtllgnogiicdhfaaDoorTie.lean); close each card by the builder's one call (the guide's Derived/Test/ToyasCard.lean, 'card_holds'). Laid BY PROGRAM, IN A SANDBOX (cutbox-door.mjs). By AI agents, Wed Nov 11 2026. No macro, syntax, notation, axiom, sorry.
-/
import Derived.Test.YtllgnogiicdhfaaDoorRows
import GoSem.ClaimSeven
namespace Go.Proofs.YtllgnogiicdhfaaDoor
namespace Rows

/-- THE TIED CARD OF 'drumlinlaw17.ConfigChecks'. -/
def configChecksCard : Claim7 := { stood := { row := configChecksRow, standIns := [], harness := (true, "7264cf64fd2eb1e1d7cb7f523c495e2f77335eee07a4974f9fe6a5d640a4740d"), looks := true }, kinds := [], alts := [], laidByText := true, laidKinds := [.data, .data, .data, .data, .sentinel, .sentinel, .pinned], laidTests := true, laidLooks := .later }
def ConfigChecksCardSaid : Prop := Claim7.holds Tryd.pinned (.plain (OpenSpec.ofChange configChecksSpec)) configChecksCard

/-- THE TIED CARD OF 'drumlinlaw17.ConfigTexts'. -/
def configTextsCard : Claim7 := { stood := { row := configTextsRow, standIns := [], harness := (true, "7264cf64fd2eb1e1d7cb7f523c495e2f77335eee07a4974f9fe6a5d640a4740d"), looks := true }, kinds := [], alts := [], laidByText := true, laidKinds := [.data, .data, .data, .data, .sentinel, .sentinel, .pinned], laidTests := true, laidLooks := .later }
def ConfigTextsCardSaid : Prop := Claim7.holds Tryd.pinned (.plain (OpenSpec.ofChange configTextsSpec)) configTextsCard

/-- THE TIED CARD OF 'drumlinlaw17.ConfigFits'. -/
def configFitsCard : Claim7 := { stood := { row := configFitsRow, standIns := [], harness := (true, "7264cf64fd2eb1e1d7cb7f523c495e2f77335eee07a4974f9fe6a5d640a4740d"), looks := true }, kinds := [], alts := [], laidByText := true, laidKinds := [.data, .data, .data, .data, .sentinel, .sentinel, .pinned], laidTests := true, laidLooks := .later }
def ConfigFitsCardSaid : Prop := Claim7.holds Tryd.pinned (.plain (OpenSpec.ofChange configFitsSpec)) configFitsCard

/-- THE TIED CARD OF 'drumlinlaw17.ConfigSlices'. -/
def configSlicesCard : Claim7 := { stood := { row := configSlicesRow, standIns := [], harness := (true, "7264cf64fd2eb1e1d7cb7f523c495e2f77335eee07a4974f9fe6a5d640a4740d"), looks := true }, kinds := [], alts := [], laidByText := true, laidKinds := [.data, .data, .data, .data, .sentinel, .sentinel, .pinned], laidTests := true, laidLooks := .later }
def ConfigSlicesCardSaid : Prop := Claim7.holds Tryd.pinned (.plain (OpenSpec.ofChange configSlicesSpec)) configSlicesCard

/-- THE TIED CARD OF 'drumlinlaw17.ConfigBack'. -/
def configBackCard : Claim7 := { stood := { row := configBackRow, standIns := [], harness := (true, "7264cf64fd2eb1e1d7cb7f523c495e2f77335eee07a4974f9fe6a5d640a4740d"), looks := true }, kinds := [], alts := [], laidByText := true, laidKinds := [.data, .data, .data, .data, .sentinel, .sentinel, .pinned], laidTests := true, laidLooks := .later }
def ConfigBackCardSaid : Prop := Claim7.holds Tryd.pinned (.plain (OpenSpec.ofChange configBackSpec)) configBackCard

/-- THE TIED CARD OF 'drumlinlaw17.ConfigReads'. -/
def configReadsCard : Claim7 := { stood := { row := configReadsRow, standIns := [], harness := (true, "7264cf64fd2eb1e1d7cb7f523c495e2f77335eee07a4974f9fe6a5d640a4740d"), looks := true }, kinds := [], alts := [], laidByText := true, laidKinds := [.data, .data, .data, .data, .sentinel, .sentinel, .pinned], laidTests := true, laidLooks := .later }
def ConfigReadsCardSaid : Prop := Claim7.holds Tryd.pinned (.plain (OpenSpec.ofChange configReadsSpec)) configReadsCard

/-- THE TIED CARD OF 'drumlinlaw17.ConfigRefuses'. -/
def configRefusesCard : Claim7 := { stood := { row := configRefusesRow, standIns := [], harness := (true, "7264cf64fd2eb1e1d7cb7f523c495e2f77335eee07a4974f9fe6a5d640a4740d"), looks := true }, kinds := [], alts := [], laidByText := true, laidKinds := [.data, .data, .data, .data, .sentinel, .sentinel, .pinned], laidTests := true, laidLooks := .later }
def ConfigRefusesCardSaid : Prop := Claim7.holds Tryd.pinned (.plain (OpenSpec.ofChange configRefusesSpec)) configRefusesCard

/-- THE SECOND FORM's CARD OF 'drumlinlaw17.ConfigChecks'. -/
def configChecksUptoCard : Claim7 := { stood := { row := configChecksUptoRow, standIns := [], harness := (true, "7264cf64fd2eb1e1d7cb7f523c495e2f77335eee07a4974f9fe6a5d640a4740d"), looks := true }, kinds := [], alts := [], laidByText := true, laidKinds := [.data, .data, .data, .data, .sentinel, .sentinel, .pinned], laidTests := true, laidLooks := .later }
def ConfigChecksUptoCardSaid : Prop := Claim7.holds Tryd.pinned (.plain (OpenSpec.upto configChecksSpec)) configChecksUptoCard

/-- THE SECOND FORM's CARD OF 'drumlinlaw17.ConfigTexts'. -/
def configTextsUptoCard : Claim7 := { stood := { row := configTextsUptoRow, standIns := [], harness := (true, "7264cf64fd2eb1e1d7cb7f523c495e2f77335eee07a4974f9fe6a5d640a4740d"), looks := true }, kinds := [], alts := [], laidByText := true, laidKinds := [.data, .data, .data, .data, .sentinel, .sentinel, .pinned], laidTests := true, laidLooks := .later }
def ConfigTextsUptoCardSaid : Prop := Claim7.holds Tryd.pinned (.plain (OpenSpec.upto configTextsSpec)) configTextsUptoCard

/-- THE SECOND FORM's CARD OF 'drumlinlaw17.ConfigFits'. -/
def configFitsUptoCard : Claim7 := { stood := { row := configFitsUptoRow, standIns := [], harness := (true, "7264cf64fd2eb1e1d7cb7f523c495e2f77335eee07a4974f9fe6a5d640a4740d"), looks := true }, kinds := [], alts := [], laidByText := true, laidKinds := [.data, .data, .data, .data, .sentinel, .sentinel, .pinned], laidTests := true, laidLooks := .later }
def ConfigFitsUptoCardSaid : Prop := Claim7.holds Tryd.pinned (.plain (OpenSpec.upto configFitsSpec)) configFitsUptoCard

/-- THE SECOND FORM's CARD OF 'drumlinlaw17.ConfigSlices'. -/
def configSlicesUptoCard : Claim7 := { stood := { row := configSlicesUptoRow, standIns := [], harness := (true, "7264cf64fd2eb1e1d7cb7f523c495e2f77335eee07a4974f9fe6a5d640a4740d"), looks := true }, kinds := [], alts := [], laidByText := true, laidKinds := [.data, .data, .data, .data, .sentinel, .sentinel, .pinned], laidTests := true, laidLooks := .later }
def ConfigSlicesUptoCardSaid : Prop := Claim7.holds Tryd.pinned (.plain (OpenSpec.upto configSlicesSpec)) configSlicesUptoCard

/-- THE SECOND FORM's CARD OF 'drumlinlaw17.ConfigBack'. -/
def configBackUptoCard : Claim7 := { stood := { row := configBackUptoRow, standIns := [], harness := (true, "7264cf64fd2eb1e1d7cb7f523c495e2f77335eee07a4974f9fe6a5d640a4740d"), looks := true }, kinds := [], alts := [], laidByText := true, laidKinds := [.data, .data, .data, .data, .sentinel, .sentinel, .pinned], laidTests := true, laidLooks := .later }
def ConfigBackUptoCardSaid : Prop := Claim7.holds Tryd.pinned (.plain (OpenSpec.upto configBackSpec)) configBackUptoCard

/-- THE SECOND FORM's CARD OF 'drumlinlaw17.ConfigReads'. -/
def configReadsUptoCard : Claim7 := { stood := { row := configReadsUptoRow, standIns := [], harness := (true, "7264cf64fd2eb1e1d7cb7f523c495e2f77335eee07a4974f9fe6a5d640a4740d"), looks := true }, kinds := [], alts := [], laidByText := true, laidKinds := [.data, .data, .data, .data, .sentinel, .sentinel, .pinned], laidTests := true, laidLooks := .later }
def ConfigReadsUptoCardSaid : Prop := Claim7.holds Tryd.pinned (.plain (OpenSpec.upto configReadsSpec)) configReadsUptoCard

/-- THE SECOND FORM's CARD OF 'drumlinlaw17.ConfigRefuses'. -/
def configRefusesUptoCard : Claim7 := { stood := { row := configRefusesUptoRow, standIns := [], harness := (true, "7264cf64fd2eb1e1d7cb7f523c495e2f77335eee07a4974f9fe6a5d640a4740d"), looks := true }, kinds := [], alts := [], laidByText := true, laidKinds := [.data, .data, .data, .data, .sentinel, .sentinel, .pinned], laidTests := true, laidLooks := .later }
def ConfigRefusesUptoCardSaid : Prop := Claim7.holds Tryd.pinned (.plain (OpenSpec.upto configRefusesSpec)) configRefusesUptoCard
end Rows
end Go.Proofs.YtllgnogiicdhfaaDoor
