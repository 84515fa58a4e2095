/-
  DERIVED. GIVEN WITH THE SEED: THE CARDS: each row of YtnkcfkjeeennmaaGreatDoorRows.lean that lists a variable, with what it lists TIED to the program's text (the seventh form; the later family's looks); each row that meets fmt, with fmt's text TOLD by the authors' own Lean function (tested against real Go, not proved from fmt's source: count such statements apart). THE CARD IS WHAT COUNTS. Prove the row's statement (the work); the ties are given (YtnkcfkjeeennmaaGreatDoorTie.lean); close each card by the builder's one call (the guide's Derived/Test/ToyasCard.lean, 'card_holds'). Laid BY PROGRAM, IN A SANDBOX (cutbox-door.mjs). By AI agents, Wed Nov 11 2026. No macro, syntax, notation, axiom, sorry.
-/
import Derived.Test.YtnkcfkjeeennmaaGreatDoorRows
import GoSem.ClaimSeven
namespace Go.Proofs.YtnkcfkjeeennmaaGreatDoor
namespace Rows

/-- THE TIED CARD OF 'cartularylaw25.WriterNone'. -/
def writerNoneCard : Claim7 := { stood := { row := writerNoneRow, standIns := [], harness := (true, "9ecb8dbf7331935230df083dd59d962bdd711cf5af1449031a8875af8e071687"), looks := true }, kinds := [], alts := [], laidByText := true, laidKinds := [.data, .data, .data, .data, .handle, .sentinel, .sentinel, .sentinel, .sentinel, .sentinel, .sentinel, .sentinel, .sentinel, .sentinel, .sentinel, .sentinel, .sentinel, .sentinel, .sentinel, .sentinel, .sentinel, .data, .data, .pinned], laidTests := true, laidLooks := .later }
def WriterNoneCardSaid : Prop := Claim7.holds Tryz.pinned (.plain (OpenSpec.ofChange writerNoneSpec)) writerNoneCard

/-- THE TIED CARD OF 'cartularylaw25.WriterPlays'. -/
def writerPlaysCard : Claim7 := { stood := { row := writerPlaysRow, standIns := [], harness := (true, "9ecb8dbf7331935230df083dd59d962bdd711cf5af1449031a8875af8e071687"), looks := true }, kinds := [], alts := [], laidByText := true, laidKinds := [.data, .data, .data, .data, .handle, .sentinel, .sentinel, .sentinel, .sentinel, .sentinel, .sentinel, .sentinel, .sentinel, .sentinel, .sentinel, .sentinel, .sentinel, .sentinel, .sentinel, .sentinel, .sentinel, .data, .data, .pinned], laidTests := true, laidLooks := .later }
def WriterPlaysCardSaid : Prop := Claim7.holds Tryz.pinned (.plain (OpenSpec.ofChange writerPlaysSpec)) writerPlaysCard

/-- THE TIED CARD OF 'cartularylaw25.WriterGrows'. -/
def writerGrowsCard : Claim7 := { stood := { row := writerGrowsRow, standIns := [], harness := (true, "9ecb8dbf7331935230df083dd59d962bdd711cf5af1449031a8875af8e071687"), looks := true }, kinds := [], alts := [], laidByText := true, laidKinds := [.data, .data, .data, .data, .handle, .sentinel, .sentinel, .sentinel, .sentinel, .sentinel, .sentinel, .sentinel, .sentinel, .sentinel, .sentinel, .sentinel, .sentinel, .sentinel, .sentinel, .sentinel, .sentinel, .data, .data, .pinned], laidTests := true, laidLooks := .later }
def WriterGrowsCardSaid : Prop := Claim7.holds Tryz.pinned (.plain (OpenSpec.ofChange writerGrowsSpec)) writerGrowsCard

/-- THE TIED CARD OF 'cartularylaw25.WriterCrash'. -/
def writerCrashCard : Claim7 := { stood := { row := writerCrashRow, standIns := [], harness := (true, "9ecb8dbf7331935230df083dd59d962bdd711cf5af1449031a8875af8e071687"), looks := true }, kinds := [], alts := [], laidByText := true, laidKinds := [.data, .data, .data, .data, .handle, .sentinel, .sentinel, .sentinel, .sentinel, .sentinel, .sentinel, .sentinel, .sentinel, .sentinel, .sentinel, .sentinel, .sentinel, .sentinel, .sentinel, .sentinel, .sentinel, .data, .data, .pinned], laidTests := true, laidLooks := .later }
def WriterCrashCardSaid : Prop := Claim7.holds Tryz.pinned (.plain (OpenSpec.ofChange writerCrashSpec)) writerCrashCard

/-- THE TIED CARD OF 'cartularylaw25.WriterWhole'. -/
def writerWholeCard : Claim7 := { stood := { row := writerWholeRow, standIns := [], harness := (true, "9ecb8dbf7331935230df083dd59d962bdd711cf5af1449031a8875af8e071687"), looks := true }, kinds := [], alts := [], laidByText := true, laidKinds := [.data, .data, .data, .data, .handle, .sentinel, .sentinel, .sentinel, .sentinel, .sentinel, .sentinel, .sentinel, .sentinel, .sentinel, .sentinel, .sentinel, .sentinel, .sentinel, .sentinel, .sentinel, .sentinel, .data, .data, .pinned], laidTests := true, laidLooks := .later }
def WriterWholeCardSaid : Prop := Claim7.holds Tryz.pinned (.plain (OpenSpec.ofChange writerWholeSpec)) writerWholeCard

/-- THE SECOND FORM's CARD OF 'cartularylaw25.WriterNone'. -/
def writerNoneUptoCard : Claim7 := { stood := { row := writerNoneUptoRow, standIns := [], harness := (true, "9ecb8dbf7331935230df083dd59d962bdd711cf5af1449031a8875af8e071687"), looks := true }, kinds := [], alts := [], laidByText := true, laidKinds := [.data, .data, .data, .data, .handle, .sentinel, .sentinel, .sentinel, .sentinel, .sentinel, .sentinel, .sentinel, .sentinel, .sentinel, .sentinel, .sentinel, .sentinel, .sentinel, .sentinel, .sentinel, .sentinel, .data, .data, .pinned], laidTests := true, laidLooks := .later }
def WriterNoneUptoCardSaid : Prop := Claim7.holds Tryz.pinned (.plain (OpenSpec.upto writerNoneSpec)) writerNoneUptoCard

/-- THE SECOND FORM's CARD OF 'cartularylaw25.WriterPlays'. -/
def writerPlaysUptoCard : Claim7 := { stood := { row := writerPlaysUptoRow, standIns := [], harness := (true, "9ecb8dbf7331935230df083dd59d962bdd711cf5af1449031a8875af8e071687"), looks := true }, kinds := [], alts := [], laidByText := true, laidKinds := [.data, .data, .data, .data, .handle, .sentinel, .sentinel, .sentinel, .sentinel, .sentinel, .sentinel, .sentinel, .sentinel, .sentinel, .sentinel, .sentinel, .sentinel, .sentinel, .sentinel, .sentinel, .sentinel, .data, .data, .pinned], laidTests := true, laidLooks := .later }
def WriterPlaysUptoCardSaid : Prop := Claim7.holds Tryz.pinned (.plain (OpenSpec.upto writerPlaysSpec)) writerPlaysUptoCard

/-- THE SECOND FORM's CARD OF 'cartularylaw25.WriterGrows'. -/
def writerGrowsUptoCard : Claim7 := { stood := { row := writerGrowsUptoRow, standIns := [], harness := (true, "9ecb8dbf7331935230df083dd59d962bdd711cf5af1449031a8875af8e071687"), looks := true }, kinds := [], alts := [], laidByText := true, laidKinds := [.data, .data, .data, .data, .handle, .sentinel, .sentinel, .sentinel, .sentinel, .sentinel, .sentinel, .sentinel, .sentinel, .sentinel, .sentinel, .sentinel, .sentinel, .sentinel, .sentinel, .sentinel, .sentinel, .data, .data, .pinned], laidTests := true, laidLooks := .later }
def WriterGrowsUptoCardSaid : Prop := Claim7.holds Tryz.pinned (.plain (OpenSpec.upto writerGrowsSpec)) writerGrowsUptoCard

/-- THE SECOND FORM's CARD OF 'cartularylaw25.WriterCrash'. -/
def writerCrashUptoCard : Claim7 := { stood := { row := writerCrashUptoRow, standIns := [], harness := (true, "9ecb8dbf7331935230df083dd59d962bdd711cf5af1449031a8875af8e071687"), looks := true }, kinds := [], alts := [], laidByText := true, laidKinds := [.data, .data, .data, .data, .handle, .sentinel, .sentinel, .sentinel, .sentinel, .sentinel, .sentinel, .sentinel, .sentinel, .sentinel, .sentinel, .sentinel, .sentinel, .sentinel, .sentinel, .sentinel, .sentinel, .data, .data, .pinned], laidTests := true, laidLooks := .later }
def WriterCrashUptoCardSaid : Prop := Claim7.holds Tryz.pinned (.plain (OpenSpec.upto writerCrashSpec)) writerCrashUptoCard

/-- THE SECOND FORM's CARD OF 'cartularylaw25.WriterWhole'. -/
def writerWholeUptoCard : Claim7 := { stood := { row := writerWholeUptoRow, standIns := [], harness := (true, "9ecb8dbf7331935230df083dd59d962bdd711cf5af1449031a8875af8e071687"), looks := true }, kinds := [], alts := [], laidByText := true, laidKinds := [.data, .data, .data, .data, .handle, .sentinel, .sentinel, .sentinel, .sentinel, .sentinel, .sentinel, .sentinel, .sentinel, .sentinel, .sentinel, .sentinel, .sentinel, .sentinel, .sentinel, .sentinel, .sentinel, .data, .data, .pinned], laidTests := true, laidLooks := .later }
def WriterWholeUptoCardSaid : Prop := Claim7.holds Tryz.pinned (.plain (OpenSpec.upto writerWholeSpec)) writerWholeUptoCard
end Rows
end Go.Proofs.YtnkcfkjeeennmaaGreatDoor
