/-
  DERIVED. GIVEN WITH THE SEED: THE CARDS: each row of YtjnjpgdoncbahaaGreatDoorRows.lean that lists a variable, with what it lists TIED to the program's text (the seventh form; the later family's looks); each row that meets fmt, with fmt's text TOLD by the authors' own Lean function (tested against real Go, not proved from fmt's source: count such statements apart). THE CARD IS WHAT COUNTS. Prove the row's statement (the work); the ties are given (YtjnjpgdoncbahaaGreatDoorTie.lean); close each card by the builder's one call (the guide's Derived/Test/ToyasCard.lean, 'card_holds'). Laid BY PROGRAM, IN A SANDBOX (cutbox-door.mjs). By AI agents, Wed Nov 11 2026. No macro, syntax, notation, axiom, sorry.
-/
import Derived.Test.YtjnjpgdoncbahaaGreatDoorRows
import GoSem.ClaimSeven
namespace Go.Proofs.YtjnjpgdoncbahaaGreatDoor
namespace Rows

/-- THE TIED CARD OF 'cartularylaw26.RestoreNames'. -/
def restoreNamesCard : Claim7 := { stood := { row := restoreNamesRow, standIns := [], harness := (true, "6ee59ed19ab0a0dc7f4174e4c02e68ea0bd7598806f19432f10ee004fbc18aec"), looks := true }, kinds := [], alts := [], laidByText := true, laidKinds := [.data, .data, .data, .data, .handle, .sentinel, .sentinel, .sentinel, .sentinel, .sentinel, .sentinel, .sentinel, .sentinel, .sentinel, .sentinel, .sentinel, .sentinel, .sentinel, .sentinel, .sentinel, .sentinel, .data, .data, .pinned], laidTests := true, laidLooks := .later }
def RestoreNamesCardSaid : Prop := Claim7.holds Tryz.pinned (.plain (OpenSpec.ofChange restoreNamesSpec)) restoreNamesCard

/-- THE TIED CARD OF 'cartularylaw26.RestoreFails'. -/
def restoreFailsCard : Claim7 := { stood := { row := restoreFailsRow, standIns := [], harness := (true, "6ee59ed19ab0a0dc7f4174e4c02e68ea0bd7598806f19432f10ee004fbc18aec"), looks := true }, kinds := [], alts := [], laidByText := true, laidKinds := [.data, .data, .data, .data, .handle, .sentinel, .sentinel, .sentinel, .sentinel, .sentinel, .sentinel, .sentinel, .sentinel, .sentinel, .sentinel, .sentinel, .sentinel, .sentinel, .sentinel, .sentinel, .sentinel, .data, .data, .pinned], laidTests := true, laidLooks := .later }
def RestoreFailsCardSaid : Prop := Claim7.holds Tryz.pinned (.plain (OpenSpec.ofChange restoreFailsSpec)) restoreFailsCard

/-- THE TIED CARD OF 'cartularylaw26.RestorePlays'. -/
def restorePlaysCard : Claim7 := { stood := { row := restorePlaysRow, standIns := [], harness := (true, "6ee59ed19ab0a0dc7f4174e4c02e68ea0bd7598806f19432f10ee004fbc18aec"), looks := true }, kinds := [], alts := [], laidByText := true, laidKinds := [.data, .data, .data, .data, .handle, .sentinel, .sentinel, .sentinel, .sentinel, .sentinel, .sentinel, .sentinel, .sentinel, .sentinel, .sentinel, .sentinel, .sentinel, .sentinel, .sentinel, .sentinel, .sentinel, .data, .data, .pinned], laidTests := true, laidLooks := .later }
def RestorePlaysCardSaid : Prop := Claim7.holds Tryz.pinned (.plain (OpenSpec.ofChange restorePlaysSpec)) restorePlaysCard

/-- THE TIED CARD OF 'cartularylaw26.RestoreCrashes'. -/
def restoreCrashesCard : Claim7 := { stood := { row := restoreCrashesRow, standIns := [], harness := (true, "6ee59ed19ab0a0dc7f4174e4c02e68ea0bd7598806f19432f10ee004fbc18aec"), looks := true }, kinds := [], alts := [], laidByText := true, laidKinds := [.data, .data, .data, .data, .handle, .sentinel, .sentinel, .sentinel, .sentinel, .sentinel, .sentinel, .sentinel, .sentinel, .sentinel, .sentinel, .sentinel, .sentinel, .sentinel, .sentinel, .sentinel, .sentinel, .data, .data, .pinned], laidTests := true, laidLooks := .later }
def RestoreCrashesCardSaid : Prop := Claim7.holds Tryz.pinned (.plain (OpenSpec.ofChange restoreCrashesSpec)) restoreCrashesCard

/-- THE SECOND FORM's CARD OF 'cartularylaw26.RestoreNames'. -/
def restoreNamesUptoCard : Claim7 := { stood := { row := restoreNamesUptoRow, standIns := [], harness := (true, "6ee59ed19ab0a0dc7f4174e4c02e68ea0bd7598806f19432f10ee004fbc18aec"), looks := true }, kinds := [], alts := [], laidByText := true, laidKinds := [.data, .data, .data, .data, .handle, .sentinel, .sentinel, .sentinel, .sentinel, .sentinel, .sentinel, .sentinel, .sentinel, .sentinel, .sentinel, .sentinel, .sentinel, .sentinel, .sentinel, .sentinel, .sentinel, .data, .data, .pinned], laidTests := true, laidLooks := .later }
def RestoreNamesUptoCardSaid : Prop := Claim7.holds Tryz.pinned (.plain (OpenSpec.upto restoreNamesSpec)) restoreNamesUptoCard

/-- THE SECOND FORM's CARD OF 'cartularylaw26.RestoreFails'. -/
def restoreFailsUptoCard : Claim7 := { stood := { row := restoreFailsUptoRow, standIns := [], harness := (true, "6ee59ed19ab0a0dc7f4174e4c02e68ea0bd7598806f19432f10ee004fbc18aec"), looks := true }, kinds := [], alts := [], laidByText := true, laidKinds := [.data, .data, .data, .data, .handle, .sentinel, .sentinel, .sentinel, .sentinel, .sentinel, .sentinel, .sentinel, .sentinel, .sentinel, .sentinel, .sentinel, .sentinel, .sentinel, .sentinel, .sentinel, .sentinel, .data, .data, .pinned], laidTests := true, laidLooks := .later }
def RestoreFailsUptoCardSaid : Prop := Claim7.holds Tryz.pinned (.plain (OpenSpec.upto restoreFailsSpec)) restoreFailsUptoCard

/-- THE SECOND FORM's CARD OF 'cartularylaw26.RestorePlays'. -/
def restorePlaysUptoCard : Claim7 := { stood := { row := restorePlaysUptoRow, standIns := [], harness := (true, "6ee59ed19ab0a0dc7f4174e4c02e68ea0bd7598806f19432f10ee004fbc18aec"), looks := true }, kinds := [], alts := [], laidByText := true, laidKinds := [.data, .data, .data, .data, .handle, .sentinel, .sentinel, .sentinel, .sentinel, .sentinel, .sentinel, .sentinel, .sentinel, .sentinel, .sentinel, .sentinel, .sentinel, .sentinel, .sentinel, .sentinel, .sentinel, .data, .data, .pinned], laidTests := true, laidLooks := .later }
def RestorePlaysUptoCardSaid : Prop := Claim7.holds Tryz.pinned (.plain (OpenSpec.upto restorePlaysSpec)) restorePlaysUptoCard

/-- THE SECOND FORM's CARD OF 'cartularylaw26.RestoreCrashes'. -/
def restoreCrashesUptoCard : Claim7 := { stood := { row := restoreCrashesUptoRow, standIns := [], harness := (true, "6ee59ed19ab0a0dc7f4174e4c02e68ea0bd7598806f19432f10ee004fbc18aec"), looks := true }, kinds := [], alts := [], laidByText := true, laidKinds := [.data, .data, .data, .data, .handle, .sentinel, .sentinel, .sentinel, .sentinel, .sentinel, .sentinel, .sentinel, .sentinel, .sentinel, .sentinel, .sentinel, .sentinel, .sentinel, .sentinel, .sentinel, .sentinel, .data, .data, .pinned], laidTests := true, laidLooks := .later }
def RestoreCrashesUptoCardSaid : Prop := Claim7.holds Tryz.pinned (.plain (OpenSpec.upto restoreCrashesSpec)) restoreCrashesUptoCard
end Rows
end Go.Proofs.YtjnjpgdoncbahaaGreatDoor
