/-
  DERIVED. GIVEN WITH THE SEED: THE CARDS: each row of YtoceeegdbnigeaaDoorRows.lean that lists a variable, with what it lists TIED to the program's text (the seventh form; the later family's looks); each row that meets fmt, with fmt's text TOLD by the authors' own Lean function (tested against real Go, not proved from fmt's source: count such statements apart). THE CARD IS WHAT COUNTS. Prove the row's statement (the work); the ties are given (YtoceeegdbnigeaaDoorTie.lean); close each card by the builder's one call (the guide's Derived/Test/ToyasCard.lean, 'card_holds'). Laid BY PROGRAM, IN A SANDBOX (cutbox-door.mjs). By AI agents, Wed Nov 11 2026. No macro, syntax, notation, axiom, sorry.
-/
import Derived.Test.YtoceeegdbnigeaaDoorRows
import GoSem.ClaimSeven
namespace Go.Proofs.YtoceeegdbnigeaaDoor
namespace Rows

/-- THE TIED CARD OF 'drumlinlaw11.FaultPlans'. -/
def faultPlansCard : Claim7 := { stood := { row := faultPlansRow, standIns := [], harness := (true, "2def010e7c2ebd320059ad43f514e56d2d10a45d05990d9198948d10d41aba02"), looks := true }, kinds := [], alts := [], laidByText := true, laidKinds := [.data, .data, .data, .data, .sentinel, .sentinel, .pinned], laidTests := true, laidLooks := .later }
def FaultPlansCardSaid : Prop := Claim7.holds Tryd.pinned (.plain (OpenSpec.ofChange faultPlansSpec)) faultPlansCard

/-- THE TIED CARD OF 'drumlinlaw11.FaultReads'. -/
def faultReadsCard : Claim7 := { stood := { row := faultReadsRow, standIns := [], harness := (true, "2def010e7c2ebd320059ad43f514e56d2d10a45d05990d9198948d10d41aba02"), looks := true }, kinds := [], alts := [], laidByText := true, laidKinds := [.data, .data, .data, .data, .sentinel, .sentinel, .pinned], laidTests := true, laidLooks := .later }
def FaultReadsCardSaid : Prop := Claim7.holds Tryd.pinned (.plain (OpenSpec.ofChange faultReadsSpec)) faultReadsCard

/-- THE TIED CARD OF 'drumlinlaw11.FaultKeeps'. -/
def faultKeepsCard : Claim7 := { stood := { row := faultKeepsRow, standIns := [], harness := (true, "2def010e7c2ebd320059ad43f514e56d2d10a45d05990d9198948d10d41aba02"), looks := true }, kinds := [], alts := [], laidByText := true, laidKinds := [.data, .data, .data, .data, .sentinel, .sentinel, .pinned], laidTests := true, laidLooks := .later }
def FaultKeepsCardSaid : Prop := Claim7.holds Tryd.pinned (.plain (OpenSpec.ofChange faultKeepsSpec)) faultKeepsCard

/-- THE TIED CARD OF 'drumlinlaw11.FaultOnce'. -/
def faultOnceCard : Claim7 := { stood := { row := faultOnceRow, standIns := [], harness := (true, "2def010e7c2ebd320059ad43f514e56d2d10a45d05990d9198948d10d41aba02"), looks := true }, kinds := [], alts := [], laidByText := true, laidKinds := [.data, .data, .data, .data, .sentinel, .sentinel, .pinned], laidTests := true, laidLooks := .later }
def FaultOnceCardSaid : Prop := Claim7.holds Tryd.pinned (.plain (OpenSpec.ofChange faultOnceSpec)) faultOnceCard

/-- THE TIED CARD OF 'drumlinlaw11.FaultBack'. -/
def faultBackCard : Claim7 := { stood := { row := faultBackRow, standIns := [], harness := (true, "2def010e7c2ebd320059ad43f514e56d2d10a45d05990d9198948d10d41aba02"), looks := true }, kinds := [], alts := [], laidByText := true, laidKinds := [.data, .data, .data, .data, .sentinel, .sentinel, .pinned], laidTests := true, laidLooks := .later }
def FaultBackCardSaid : Prop := Claim7.holds Tryd.pinned (.plain (OpenSpec.ofChange faultBackSpec)) faultBackCard

/-- THE TIED CARD OF 'drumlinlaw11.FaultReadBack'. -/
def faultReadBackCard : Claim7 := { stood := { row := faultReadBackRow, standIns := [], harness := (true, "2def010e7c2ebd320059ad43f514e56d2d10a45d05990d9198948d10d41aba02"), looks := true }, kinds := [], alts := [], laidByText := true, laidKinds := [.data, .data, .data, .data, .sentinel, .sentinel, .pinned], laidTests := true, laidLooks := .later }
def FaultReadBackCardSaid : Prop := Claim7.holds Tryd.pinned (.plain (OpenSpec.ofChange faultReadBackSpec)) faultReadBackCard

/-- THE TIED CARD OF 'drumlinlaw11.FaultPlays'. -/
def faultPlaysCard : Claim7 := { stood := { row := faultPlaysRow, standIns := [], harness := (true, "2def010e7c2ebd320059ad43f514e56d2d10a45d05990d9198948d10d41aba02"), looks := true }, kinds := [], alts := [], laidByText := true, laidKinds := [.data, .data, .data, .data, .sentinel, .sentinel, .pinned], laidTests := true, laidLooks := .later }
def FaultPlaysCardSaid : Prop := Claim7.holds Tryd.pinned (.plain (OpenSpec.ofChange faultPlaysSpec)) faultPlaysCard

/-- THE TIED CARD OF 'drumlinlaw11.FaultNil'. -/
def faultNilCard : Claim7 := { stood := { row := faultNilRow, standIns := [], harness := (true, "2def010e7c2ebd320059ad43f514e56d2d10a45d05990d9198948d10d41aba02"), looks := true }, kinds := [], alts := [], laidByText := true, laidKinds := [.data, .data, .data, .data, .sentinel, .sentinel, .pinned], laidTests := true, laidLooks := .later }
def FaultNilCardSaid : Prop := Claim7.holds Tryd.pinned (.plain (OpenSpec.ofChange faultNilSpec)) faultNilCard

/-- THE TIED CARD OF 'drumlinlaw11.FaultArms'. -/
def faultArmsCard : Claim7 := { stood := { row := faultArmsRow, standIns := [], harness := (true, "2def010e7c2ebd320059ad43f514e56d2d10a45d05990d9198948d10d41aba02"), looks := true }, kinds := [], alts := [], laidByText := true, laidKinds := [.data, .data, .data, .data, .sentinel, .sentinel, .pinned], laidTests := true, laidLooks := .later }
def FaultArmsCardSaid : Prop := Claim7.holds Tryd.pinned (.plain (OpenSpec.ofChange faultArmsSpec)) faultArmsCard

/-- THE SECOND FORM's CARD OF 'drumlinlaw11.FaultPlans'. -/
def faultPlansUptoCard : Claim7 := { stood := { row := faultPlansUptoRow, standIns := [], harness := (true, "2def010e7c2ebd320059ad43f514e56d2d10a45d05990d9198948d10d41aba02"), looks := true }, kinds := [], alts := [], laidByText := true, laidKinds := [.data, .data, .data, .data, .sentinel, .sentinel, .pinned], laidTests := true, laidLooks := .later }
def FaultPlansUptoCardSaid : Prop := Claim7.holds Tryd.pinned (.plain (OpenSpec.upto faultPlansSpec)) faultPlansUptoCard

/-- THE SECOND FORM's CARD OF 'drumlinlaw11.FaultReads'. -/
def faultReadsUptoCard : Claim7 := { stood := { row := faultReadsUptoRow, standIns := [], harness := (true, "2def010e7c2ebd320059ad43f514e56d2d10a45d05990d9198948d10d41aba02"), looks := true }, kinds := [], alts := [], laidByText := true, laidKinds := [.data, .data, .data, .data, .sentinel, .sentinel, .pinned], laidTests := true, laidLooks := .later }
def FaultReadsUptoCardSaid : Prop := Claim7.holds Tryd.pinned (.plain (OpenSpec.upto faultReadsSpec)) faultReadsUptoCard

/-- THE SECOND FORM's CARD OF 'drumlinlaw11.FaultKeeps'. -/
def faultKeepsUptoCard : Claim7 := { stood := { row := faultKeepsUptoRow, standIns := [], harness := (true, "2def010e7c2ebd320059ad43f514e56d2d10a45d05990d9198948d10d41aba02"), looks := true }, kinds := [], alts := [], laidByText := true, laidKinds := [.data, .data, .data, .data, .sentinel, .sentinel, .pinned], laidTests := true, laidLooks := .later }
def FaultKeepsUptoCardSaid : Prop := Claim7.holds Tryd.pinned (.plain (OpenSpec.upto faultKeepsSpec)) faultKeepsUptoCard

/-- THE SECOND FORM's CARD OF 'drumlinlaw11.FaultOnce'. -/
def faultOnceUptoCard : Claim7 := { stood := { row := faultOnceUptoRow, standIns := [], harness := (true, "2def010e7c2ebd320059ad43f514e56d2d10a45d05990d9198948d10d41aba02"), looks := true }, kinds := [], alts := [], laidByText := true, laidKinds := [.data, .data, .data, .data, .sentinel, .sentinel, .pinned], laidTests := true, laidLooks := .later }
def FaultOnceUptoCardSaid : Prop := Claim7.holds Tryd.pinned (.plain (OpenSpec.upto faultOnceSpec)) faultOnceUptoCard

/-- THE SECOND FORM's CARD OF 'drumlinlaw11.FaultBack'. -/
def faultBackUptoCard : Claim7 := { stood := { row := faultBackUptoRow, standIns := [], harness := (true, "2def010e7c2ebd320059ad43f514e56d2d10a45d05990d9198948d10d41aba02"), looks := true }, kinds := [], alts := [], laidByText := true, laidKinds := [.data, .data, .data, .data, .sentinel, .sentinel, .pinned], laidTests := true, laidLooks := .later }
def FaultBackUptoCardSaid : Prop := Claim7.holds Tryd.pinned (.plain (OpenSpec.upto faultBackSpec)) faultBackUptoCard

/-- THE SECOND FORM's CARD OF 'drumlinlaw11.FaultReadBack'. -/
def faultReadBackUptoCard : Claim7 := { stood := { row := faultReadBackUptoRow, standIns := [], harness := (true, "2def010e7c2ebd320059ad43f514e56d2d10a45d05990d9198948d10d41aba02"), looks := true }, kinds := [], alts := [], laidByText := true, laidKinds := [.data, .data, .data, .data, .sentinel, .sentinel, .pinned], laidTests := true, laidLooks := .later }
def FaultReadBackUptoCardSaid : Prop := Claim7.holds Tryd.pinned (.plain (OpenSpec.upto faultReadBackSpec)) faultReadBackUptoCard

/-- THE SECOND FORM's CARD OF 'drumlinlaw11.FaultPlays'. -/
def faultPlaysUptoCard : Claim7 := { stood := { row := faultPlaysUptoRow, standIns := [], harness := (true, "2def010e7c2ebd320059ad43f514e56d2d10a45d05990d9198948d10d41aba02"), looks := true }, kinds := [], alts := [], laidByText := true, laidKinds := [.data, .data, .data, .data, .sentinel, .sentinel, .pinned], laidTests := true, laidLooks := .later }
def FaultPlaysUptoCardSaid : Prop := Claim7.holds Tryd.pinned (.plain (OpenSpec.upto faultPlaysSpec)) faultPlaysUptoCard

/-- THE SECOND FORM's CARD OF 'drumlinlaw11.FaultNil'. -/
def faultNilUptoCard : Claim7 := { stood := { row := faultNilUptoRow, standIns := [], harness := (true, "2def010e7c2ebd320059ad43f514e56d2d10a45d05990d9198948d10d41aba02"), looks := true }, kinds := [], alts := [], laidByText := true, laidKinds := [.data, .data, .data, .data, .sentinel, .sentinel, .pinned], laidTests := true, laidLooks := .later }
def FaultNilUptoCardSaid : Prop := Claim7.holds Tryd.pinned (.plain (OpenSpec.upto faultNilSpec)) faultNilUptoCard

/-- THE SECOND FORM's CARD OF 'drumlinlaw11.FaultArms'. -/
def faultArmsUptoCard : Claim7 := { stood := { row := faultArmsUptoRow, standIns := [], harness := (true, "2def010e7c2ebd320059ad43f514e56d2d10a45d05990d9198948d10d41aba02"), looks := true }, kinds := [], alts := [], laidByText := true, laidKinds := [.data, .data, .data, .data, .sentinel, .sentinel, .pinned], laidTests := true, laidLooks := .later }
def FaultArmsUptoCardSaid : Prop := Claim7.holds Tryd.pinned (.plain (OpenSpec.upto faultArmsSpec)) faultArmsUptoCard
end Rows
end Go.Proofs.YtoceeegdbnigeaaDoor
