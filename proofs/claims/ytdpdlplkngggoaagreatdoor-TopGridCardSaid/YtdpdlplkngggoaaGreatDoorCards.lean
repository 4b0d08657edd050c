/-
  DERIVED. GIVEN WITH THE SEED: THE CARDS: each row of YtdpdlplkngggoaaGreatDoorRows.lean that lists a variable, with what it lists TIED to the program's text (the seventh form; the later family's looks); each row that meets fmt, with fmt's text TOLD by the authors' own Lean function (tested against real Go, not proved from fmt's source: count such statements apart). THE CARD IS WHAT COUNTS. Prove the row's statement (the work); the ties are given (YtdpdlplkngggoaaGreatDoorTie.lean); close each card by the builder's one call (the guide's Derived/Test/ToyasCard.lean, 'card_holds'). Laid BY PROGRAM, IN A SANDBOX (cutbox-door.mjs). By AI agents, Wed Nov 11 2026. No macro, syntax, notation, axiom, sorry.
-/
import Derived.Test.YtdpdlplkngggoaaGreatDoorRows
import GoSem.ClaimSeven
namespace Go.Proofs.YtdpdlplkngggoaaGreatDoor
namespace Rows

/-- THE TIED CARD OF 'bellarminetop.TopGrid'. -/
def topGridCard : Claim7 := { stood := { row := topGridRow, standIns := [], harness := (true, "d9798ee1ca3640da6fb02d2d49d391538149e2fe8bb087cf4c6878857cb64785"), looks := false }, kinds := [], alts := [], laidByText := true, laidKinds := [.data, .data, .pinned, .pinned], laidTests := true, laidLooks := .later }
def TopGridCardSaid : Prop := Claim7.holds Tryz.pinned (.plain (OpenSpec.ofChange topGridSpec)) topGridCard

/-- THE SECOND FORM's CARD OF 'bellarminetop.TopGrid'. -/
def topGridUptoCard : Claim7 := { stood := { row := topGridUptoRow, standIns := [], harness := (true, "d9798ee1ca3640da6fb02d2d49d391538149e2fe8bb087cf4c6878857cb64785"), looks := false }, kinds := [], alts := [], laidByText := true, laidKinds := [.data, .data, .pinned, .pinned], laidTests := true, laidLooks := .later }
def TopGridUptoCardSaid : Prop := Claim7.holds Tryz.pinned (.plain (OpenSpec.upto topGridSpec)) topGridUptoCard
end Rows
end Go.Proofs.YtdpdlplkngggoaaGreatDoor
