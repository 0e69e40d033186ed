/-
  DERIVED. GIVEN WITH THE SEED: THE CARDS: each row of YtlmbcclggaflaaaGreatDoorRows.lean that lists a variable, with what it lists TIED to the program's text (the seventh form; the later family's looks); each row that meets fmt, with fmt's text TOLD by the authors' own Lean function (tested against real Go, not proved from fmt's source: count such statements apart). THE CARD IS WHAT COUNTS. Prove the row's statement (the work); the ties are given (YtlmbcclggaflaaaGreatDoorTie.lean); close each card by the builder's one call (the guide's Derived/Test/ToyasCard.lean, 'card_holds'). Laid BY PROGRAM, IN A SANDBOX (cutbox-door.mjs). By AI agents, Wed Nov 11 2026. No macro, syntax, notation, axiom, sorry.
-/
import Derived.Test.YtlmbcclggaflaaaGreatDoorRows
import GoSem.ClaimSeven
namespace Go.Proofs.YtlmbcclggaflaaaGreatDoor
namespace Rows

/-- THE TIED CARD OF 'drumlinlaw39.OpFlaws'. -/
def opFlawsCard : Claim7 := { stood := { row := opFlawsRow, standIns := [], harness := (true, "0b4227fbf9e01a776bb1ce33e6dd287ada221474537d1e936bc9aa974f5a98ea"), looks := true }, kinds := [], alts := [], laidByText := true, laidKinds := [.data, .data, .data, .data, .sentinel, .sentinel, .pinned], laidTests := true, laidLooks := .later }
def OpFlawsCardSaid : Prop := Claim7.holds Tryz.pinned (.plain (OpenSpec.ofChange opFlawsSpec)) opFlawsCard

/-- THE TIED CARD OF 'drumlinlaw39.OpScripts'. -/
def opScriptsCard : Claim7 := { stood := { row := opScriptsRow, standIns := [], harness := (true, "0b4227fbf9e01a776bb1ce33e6dd287ada221474537d1e936bc9aa974f5a98ea"), looks := true }, kinds := [], alts := [], laidByText := true, laidKinds := [.data, .data, .data, .data, .sentinel, .sentinel, .pinned], laidTests := true, laidLooks := .later }
def OpScriptsCardSaid : Prop := Claim7.holds Tryz.pinned (.plain (OpenSpec.ofChange opScriptsSpec)) opScriptsCard

/-- THE TIED CARD OF 'drumlinlaw39.OpReads'. -/
def opReadsCard : Claim7 := { stood := { row := opReadsRow, standIns := [], harness := (true, "0b4227fbf9e01a776bb1ce33e6dd287ada221474537d1e936bc9aa974f5a98ea"), looks := true }, kinds := [], alts := [], laidByText := true, laidKinds := [.data, .data, .data, .data, .sentinel, .sentinel, .pinned], laidTests := true, laidLooks := .later }
def OpReadsCardSaid : Prop := Claim7.holds Tryz.pinned (.plain (OpenSpec.ofChange opReadsSpec)) opReadsCard

/-- THE TIED CARD OF 'drumlinlaw39.OpOne'. -/
def opOneCard : Claim7 := { stood := { row := opOneRow, standIns := [], harness := (true, "0b4227fbf9e01a776bb1ce33e6dd287ada221474537d1e936bc9aa974f5a98ea"), looks := true }, kinds := [], alts := [], laidByText := true, laidKinds := [.data, .data, .data, .data, .sentinel, .sentinel, .pinned], laidTests := true, laidLooks := .later }
def OpOneCardSaid : Prop := Claim7.holds Tryz.pinned (.plain (OpenSpec.ofChange opOneSpec)) opOneCard

/-- THE TIED CARD OF 'drumlinlaw39.OpLists'. -/
def opListsCard : Claim7 := { stood := { row := opListsRow, standIns := [], harness := (true, "0b4227fbf9e01a776bb1ce33e6dd287ada221474537d1e936bc9aa974f5a98ea"), looks := true }, kinds := [], alts := [], laidByText := true, laidKinds := [.data, .data, .data, .data, .sentinel, .sentinel, .pinned], laidTests := true, laidLooks := .later }
def OpListsCardSaid : Prop := Claim7.holds Tryz.pinned (.plain (OpenSpec.ofChange opListsSpec)) opListsCard

/-- THE TIED CARD OF 'drumlinlaw39.OpPlans'. -/
def opPlansCard : Claim7 := { stood := { row := opPlansRow, standIns := [], harness := (true, "0b4227fbf9e01a776bb1ce33e6dd287ada221474537d1e936bc9aa974f5a98ea"), looks := true }, kinds := [], alts := [], laidByText := true, laidKinds := [.data, .data, .data, .data, .sentinel, .sentinel, .pinned], laidTests := true, laidLooks := .later }
def OpPlansCardSaid : Prop := Claim7.holds Tryz.pinned (.plain (OpenSpec.ofChange opPlansSpec)) opPlansCard

/-- THE TIED CARD OF 'drumlinlaw39.OpWords'. -/
def opWordsCard : Claim7 := { stood := { row := opWordsRow, standIns := [], harness := (true, "0b4227fbf9e01a776bb1ce33e6dd287ada221474537d1e936bc9aa974f5a98ea"), looks := true }, kinds := [], alts := [], laidByText := true, laidKinds := [.data, .data, .data, .data, .sentinel, .sentinel, .pinned], laidTests := true, laidLooks := .later }
def OpWordsCardSaid : Prop := Claim7.holds Tryz.pinned (.plain (OpenSpec.ofChange opWordsSpec)) opWordsCard

/-- THE TIED CARD OF 'drumlinlaw39.OpBack'. -/
def opBackCard : Claim7 := { stood := { row := opBackRow, standIns := [], harness := (true, "0b4227fbf9e01a776bb1ce33e6dd287ada221474537d1e936bc9aa974f5a98ea"), looks := true }, kinds := [], alts := [], laidByText := true, laidKinds := [.data, .data, .data, .data, .sentinel, .sentinel, .pinned], laidTests := true, laidLooks := .later }
def OpBackCardSaid : Prop := Claim7.holds Tryz.pinned (.plain (OpenSpec.ofChange opBackSpec)) opBackCard

/-- THE TIED CARD OF 'drumlinlaw39.OpMany'. -/
def opManyCard : Claim7 := { stood := { row := opManyRow, standIns := [], harness := (true, "0b4227fbf9e01a776bb1ce33e6dd287ada221474537d1e936bc9aa974f5a98ea"), looks := true }, kinds := [], alts := [], laidByText := true, laidKinds := [.data, .data, .data, .data, .sentinel, .sentinel, .pinned], laidTests := true, laidLooks := .later }
def OpManyCardSaid : Prop := Claim7.holds Tryz.pinned (.plain (OpenSpec.ofChange opManySpec)) opManyCard

/-- THE TIED CARD OF 'drumlinlaw39.OpWrong'. -/
def opWrongCard : Claim7 := { stood := { row := opWrongRow, standIns := [], harness := (true, "0b4227fbf9e01a776bb1ce33e6dd287ada221474537d1e936bc9aa974f5a98ea"), looks := true }, kinds := [], alts := [], laidByText := true, laidKinds := [.data, .data, .data, .data, .sentinel, .sentinel, .pinned], laidTests := true, laidLooks := .later }
def OpWrongCardSaid : Prop := Claim7.holds Tryz.pinned (.plain (OpenSpec.ofChange opWrongSpec)) opWrongCard

/-- THE SECOND FORM's CARD OF 'drumlinlaw39.OpFlaws'. -/
def opFlawsUptoCard : Claim7 := { stood := { row := opFlawsUptoRow, standIns := [], harness := (true, "0b4227fbf9e01a776bb1ce33e6dd287ada221474537d1e936bc9aa974f5a98ea"), looks := true }, kinds := [], alts := [], laidByText := true, laidKinds := [.data, .data, .data, .data, .sentinel, .sentinel, .pinned], laidTests := true, laidLooks := .later }
def OpFlawsUptoCardSaid : Prop := Claim7.holds Tryz.pinned (.plain (OpenSpec.upto opFlawsSpec)) opFlawsUptoCard

/-- THE SECOND FORM's CARD OF 'drumlinlaw39.OpScripts'. -/
def opScriptsUptoCard : Claim7 := { stood := { row := opScriptsUptoRow, standIns := [], harness := (true, "0b4227fbf9e01a776bb1ce33e6dd287ada221474537d1e936bc9aa974f5a98ea"), looks := true }, kinds := [], alts := [], laidByText := true, laidKinds := [.data, .data, .data, .data, .sentinel, .sentinel, .pinned], laidTests := true, laidLooks := .later }
def OpScriptsUptoCardSaid : Prop := Claim7.holds Tryz.pinned (.plain (OpenSpec.upto opScriptsSpec)) opScriptsUptoCard

/-- THE SECOND FORM's CARD OF 'drumlinlaw39.OpReads'. -/
def opReadsUptoCard : Claim7 := { stood := { row := opReadsUptoRow, standIns := [], harness := (true, "0b4227fbf9e01a776bb1ce33e6dd287ada221474537d1e936bc9aa974f5a98ea"), looks := true }, kinds := [], alts := [], laidByText := true, laidKinds := [.data, .data, .data, .data, .sentinel, .sentinel, .pinned], laidTests := true, laidLooks := .later }
def OpReadsUptoCardSaid : Prop := Claim7.holds Tryz.pinned (.plain (OpenSpec.upto opReadsSpec)) opReadsUptoCard

/-- THE SECOND FORM's CARD OF 'drumlinlaw39.OpOne'. -/
def opOneUptoCard : Claim7 := { stood := { row := opOneUptoRow, standIns := [], harness := (true, "0b4227fbf9e01a776bb1ce33e6dd287ada221474537d1e936bc9aa974f5a98ea"), looks := true }, kinds := [], alts := [], laidByText := true, laidKinds := [.data, .data, .data, .data, .sentinel, .sentinel, .pinned], laidTests := true, laidLooks := .later }
def OpOneUptoCardSaid : Prop := Claim7.holds Tryz.pinned (.plain (OpenSpec.upto opOneSpec)) opOneUptoCard

/-- THE SECOND FORM's CARD OF 'drumlinlaw39.OpLists'. -/
def opListsUptoCard : Claim7 := { stood := { row := opListsUptoRow, standIns := [], harness := (true, "0b4227fbf9e01a776bb1ce33e6dd287ada221474537d1e936bc9aa974f5a98ea"), looks := true }, kinds := [], alts := [], laidByText := true, laidKinds := [.data, .data, .data, .data, .sentinel, .sentinel, .pinned], laidTests := true, laidLooks := .later }
def OpListsUptoCardSaid : Prop := Claim7.holds Tryz.pinned (.plain (OpenSpec.upto opListsSpec)) opListsUptoCard

/-- THE SECOND FORM's CARD OF 'drumlinlaw39.OpPlans'. -/
def opPlansUptoCard : Claim7 := { stood := { row := opPlansUptoRow, standIns := [], harness := (true, "0b4227fbf9e01a776bb1ce33e6dd287ada221474537d1e936bc9aa974f5a98ea"), looks := true }, kinds := [], alts := [], laidByText := true, laidKinds := [.data, .data, .data, .data, .sentinel, .sentinel, .pinned], laidTests := true, laidLooks := .later }
def OpPlansUptoCardSaid : Prop := Claim7.holds Tryz.pinned (.plain (OpenSpec.upto opPlansSpec)) opPlansUptoCard

/-- THE SECOND FORM's CARD OF 'drumlinlaw39.OpWords'. -/
def opWordsUptoCard : Claim7 := { stood := { row := opWordsUptoRow, standIns := [], harness := (true, "0b4227fbf9e01a776bb1ce33e6dd287ada221474537d1e936bc9aa974f5a98ea"), looks := true }, kinds := [], alts := [], laidByText := true, laidKinds := [.data, .data, .data, .data, .sentinel, .sentinel, .pinned], laidTests := true, laidLooks := .later }
def OpWordsUptoCardSaid : Prop := Claim7.holds Tryz.pinned (.plain (OpenSpec.upto opWordsSpec)) opWordsUptoCard

/-- THE SECOND FORM's CARD OF 'drumlinlaw39.OpBack'. -/
def opBackUptoCard : Claim7 := { stood := { row := opBackUptoRow, standIns := [], harness := (true, "0b4227fbf9e01a776bb1ce33e6dd287ada221474537d1e936bc9aa974f5a98ea"), looks := true }, kinds := [], alts := [], laidByText := true, laidKinds := [.data, .data, .data, .data, .sentinel, .sentinel, .pinned], laidTests := true, laidLooks := .later }
def OpBackUptoCardSaid : Prop := Claim7.holds Tryz.pinned (.plain (OpenSpec.upto opBackSpec)) opBackUptoCard

/-- THE SECOND FORM's CARD OF 'drumlinlaw39.OpMany'. -/
def opManyUptoCard : Claim7 := { stood := { row := opManyUptoRow, standIns := [], harness := (true, "0b4227fbf9e01a776bb1ce33e6dd287ada221474537d1e936bc9aa974f5a98ea"), looks := true }, kinds := [], alts := [], laidByText := true, laidKinds := [.data, .data, .data, .data, .sentinel, .sentinel, .pinned], laidTests := true, laidLooks := .later }
def OpManyUptoCardSaid : Prop := Claim7.holds Tryz.pinned (.plain (OpenSpec.upto opManySpec)) opManyUptoCard

/-- THE SECOND FORM's CARD OF 'drumlinlaw39.OpWrong'. -/
def opWrongUptoCard : Claim7 := { stood := { row := opWrongUptoRow, standIns := [], harness := (true, "0b4227fbf9e01a776bb1ce33e6dd287ada221474537d1e936bc9aa974f5a98ea"), looks := true }, kinds := [], alts := [], laidByText := true, laidKinds := [.data, .data, .data, .data, .sentinel, .sentinel, .pinned], laidTests := true, laidLooks := .later }
def OpWrongUptoCardSaid : Prop := Claim7.holds Tryz.pinned (.plain (OpenSpec.upto opWrongSpec)) opWrongUptoCard
end Rows
end Go.Proofs.YtlmbcclggaflaaaGreatDoor
