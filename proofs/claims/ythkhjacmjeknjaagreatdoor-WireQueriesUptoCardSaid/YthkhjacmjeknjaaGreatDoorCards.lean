/-
  DERIVED. GIVEN WITH THE SEED: THE CARDS: each row of YthkhjacmjeknjaaGreatDoorRows.lean that lists a variable, with what it lists TIED to the program's text (the seventh form; the later family's looks); each row that meets fmt, with fmt's text TOLD by the authors' own Lean function (tested against real Go, not proved from fmt's source: count such statements apart). THE CARD IS WHAT COUNTS. Prove the row's statement (the work); the ties are given (YthkhjacmjeknjaaGreatDoorTie.lean); close each card by the builder's one call (the guide's Derived/Test/ToyasCard.lean, 'card_holds'). Laid BY PROGRAM, IN A SANDBOX (cutbox-door.mjs). By AI agents, Wed Nov 11 2026. No macro, syntax, notation, axiom, sorry.
-/
import Derived.Test.YthkhjacmjeknjaaGreatDoorRows
import GoSem.ClaimSeven
namespace Go.Proofs.YthkhjacmjeknjaaGreatDoor
namespace Rows

/-- THE TIED CARD OF 'cartularylaw27.WireQueries'. -/
def wireQueriesCard : Claim7 := { stood := { row := wireQueriesRow, standIns := [], harness := (true, "b7a6e6bfb3b218bfd2fc5410a99fbe746bf2b35a293e287810188d39c211e9f5"), looks := true }, kinds := [], alts := [], laidByText := true, laidKinds := [.data, .data, .data, .handle, .sentinel, .sentinel, .sentinel, .sentinel, .sentinel, .sentinel, .sentinel, .sentinel, .sentinel, .sentinel, .sentinel, .sentinel, .sentinel, .sentinel, .sentinel, .sentinel, .widerDeep], laidTests := true, laidLooks := .later }
def WireQueriesCardSaid : Prop := Claim7.holds Tryz.pinned (.plain (OpenSpec.ofChange wireQueriesSpec)) wireQueriesCard

/-- THE TIED CARD OF 'cartularylaw27.WireAsks'. -/
def wireAsksCard : Claim7 := { stood := { row := wireAsksRow, standIns := [], harness := (true, "b7a6e6bfb3b218bfd2fc5410a99fbe746bf2b35a293e287810188d39c211e9f5"), looks := true }, kinds := [], alts := [], laidByText := true, laidKinds := [.data, .data, .data, .handle, .sentinel, .sentinel, .sentinel, .sentinel, .sentinel, .sentinel, .sentinel, .sentinel, .sentinel, .sentinel, .sentinel, .sentinel, .sentinel, .sentinel, .sentinel, .sentinel, .widerDeep], laidTests := true, laidLooks := .later }
def WireAsksCardSaid : Prop := Claim7.holds Tryz.pinned (.plain (OpenSpec.ofChange wireAsksSpec)) wireAsksCard

/-- THE SECOND FORM's CARD OF 'cartularylaw27.WireQueries'. -/
def wireQueriesUptoCard : Claim7 := { stood := { row := wireQueriesUptoRow, standIns := [], harness := (true, "b7a6e6bfb3b218bfd2fc5410a99fbe746bf2b35a293e287810188d39c211e9f5"), looks := true }, kinds := [], alts := [], laidByText := true, laidKinds := [.data, .data, .data, .handle, .sentinel, .sentinel, .sentinel, .sentinel, .sentinel, .sentinel, .sentinel, .sentinel, .sentinel, .sentinel, .sentinel, .sentinel, .sentinel, .sentinel, .sentinel, .sentinel, .widerDeep], laidTests := true, laidLooks := .later }
def WireQueriesUptoCardSaid : Prop := Claim7.holds Tryz.pinned (.plain (OpenSpec.upto wireQueriesSpec)) wireQueriesUptoCard

/-- THE SECOND FORM's CARD OF 'cartularylaw27.WireAsks'. -/
def wireAsksUptoCard : Claim7 := { stood := { row := wireAsksUptoRow, standIns := [], harness := (true, "b7a6e6bfb3b218bfd2fc5410a99fbe746bf2b35a293e287810188d39c211e9f5"), looks := true }, kinds := [], alts := [], laidByText := true, laidKinds := [.data, .data, .data, .handle, .sentinel, .sentinel, .sentinel, .sentinel, .sentinel, .sentinel, .sentinel, .sentinel, .sentinel, .sentinel, .sentinel, .sentinel, .sentinel, .sentinel, .sentinel, .sentinel, .widerDeep], laidTests := true, laidLooks := .later }
def WireAsksUptoCardSaid : Prop := Claim7.holds Tryz.pinned (.plain (OpenSpec.upto wireAsksSpec)) wireAsksUptoCard
end Rows
end Go.Proofs.YthkhjacmjeknjaaGreatDoor
