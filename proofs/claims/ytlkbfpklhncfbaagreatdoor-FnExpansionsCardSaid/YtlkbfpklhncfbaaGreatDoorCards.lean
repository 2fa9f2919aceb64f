/-
  DERIVED. GIVEN WITH THE SEED: THE CARDS: each row of YtlkbfpklhncfbaaGreatDoorRows.lean that lists a variable, with what it lists TIED to the program's text (the seventh form; the later family's looks); each row that meets fmt, with fmt's text TOLD by the authors' own Lean function (tested against real Go, not proved from fmt's source: count such statements apart). THE CARD IS WHAT COUNTS. Prove the row's statement (the work); the ties are given (YtlkbfpklhncfbaaGreatDoorTie.lean); close each card by the builder's one call (the guide's Derived/Test/ToyasCard.lean, 'card_holds'). Laid BY PROGRAM, IN A SANDBOX (cutbox-door.mjs). By AI agents, Wed Nov 11 2026. No macro, syntax, notation, axiom, sorry.
-/
import Derived.Test.YtlkbfpklhncfbaaGreatDoorRows
import GoSem.ClaimSeven
namespace Go.Proofs.YtlkbfpklhncfbaaGreatDoor
namespace Rows

/-- THE TIED CARD OF 'laws.FnExpansions'. -/
def fnExpansionsCard : Claim7 := { stood := { row := fnExpansionsRow, standIns := [], harness := (true, "df9bcb5288a6bb210639db789d5fb605a2b3d32a5d44e1c4a50af549c7cbf5fe"), looks := true }, kinds := [], alts := [], laidByText := true, laidKinds := [.data, .data, .data, .data, .sentinel, .sentinel, .pinned], laidTests := true, laidLooks := .later }
def FnExpansionsCardSaid : Prop := Claim7.holds Tryz.pinned (.plain (OpenSpec.ofChange fnExpansionsSpec)) fnExpansionsCard

/-- THE SECOND FORM's CARD OF 'laws.FnExpansions'. -/
def fnExpansionsUptoCard : Claim7 := { stood := { row := fnExpansionsUptoRow, standIns := [], harness := (true, "df9bcb5288a6bb210639db789d5fb605a2b3d32a5d44e1c4a50af549c7cbf5fe"), looks := true }, kinds := [], alts := [], laidByText := true, laidKinds := [.data, .data, .data, .data, .sentinel, .sentinel, .pinned], laidTests := true, laidLooks := .later }
def FnExpansionsUptoCardSaid : Prop := Claim7.holds Tryz.pinned (.plain (OpenSpec.upto fnExpansionsSpec)) fnExpansionsUptoCard
end Rows
end Go.Proofs.YtlkbfpklhncfbaaGreatDoor
