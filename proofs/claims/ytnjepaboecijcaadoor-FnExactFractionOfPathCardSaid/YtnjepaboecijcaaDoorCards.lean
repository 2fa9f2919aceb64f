/-
  DERIVED. GIVEN WITH THE SEED: THE CARDS: each row of YtnjepaboecijcaaDoorRows.lean that lists a variable, with what it lists TIED to the program's text (the seventh form; the later family's looks); each row that meets fmt, with fmt's text TOLD by the authors' own Lean function (tested against real Go, not proved from fmt's source: count such statements apart). THE CARD IS WHAT COUNTS. Prove the row's statement (the work); the ties are given (YtnjepaboecijcaaDoorTie.lean); close each card by the builder's one call (the guide's Derived/Test/ToyasCard.lean, 'card_holds'). Laid BY PROGRAM, IN A SANDBOX (cutbox-door.mjs). By AI agents, Wed Nov 11 2026. No macro, syntax, notation, axiom, sorry.
-/
import Derived.Test.YtnjepaboecijcaaDoorRows
import GoSem.ClaimSeven
namespace Go.Proofs.YtnjepaboecijcaaDoor
namespace Rows

/-- THE TIED CARD OF 'laws.FnExactFractionOfPath'. -/
def fnExactFractionOfPathCard : Claim7 := { stood := { row := fnExactFractionOfPathRow, standIns := [], harness := (true, "770a0f4a5fb1ded05bdf517fb15bd8dd43d2e910c4819ce664ea570d1cc5665d"), looks := false }, kinds := [], alts := [], laidByText := true, laidKinds := [.data, .pinned], laidTests := true, laidLooks := .later }
def FnExactFractionOfPathCardSaid : Prop := Claim7.holds Tryd.pinned (.plain (OpenSpec.ofChange fnExactFractionOfPathSpec)) fnExactFractionOfPathCard

/-- THE SECOND FORM's CARD OF 'laws.FnExactFractionOfPath'. -/
def fnExactFractionOfPathUptoCard : Claim7 := { stood := { row := fnExactFractionOfPathUptoRow, standIns := [], harness := (true, "770a0f4a5fb1ded05bdf517fb15bd8dd43d2e910c4819ce664ea570d1cc5665d"), looks := false }, kinds := [], alts := [], laidByText := true, laidKinds := [.data, .pinned], laidTests := true, laidLooks := .later }
def FnExactFractionOfPathUptoCardSaid : Prop := Claim7.holds Tryd.pinned (.plain (OpenSpec.upto fnExactFractionOfPathSpec)) fnExactFractionOfPathUptoCard
end Rows
end Go.Proofs.YtnjepaboecijcaaDoor
