/-
  DERIVED. GIVEN WITH THE SEED: THE CARDS: each row of YtokdjjebnomciaaDoorRows.lean that lists a variable, with what it lists TIED to the program's text (the seventh form; the later family's looks); each row that meets fmt, with fmt's text TOLD by the authors' own Lean function (tested against real Go, not proved from fmt's source: count such statements apart). THE CARD IS WHAT COUNTS. Prove the row's statement (the work); the ties are given (YtokdjjebnomciaaDoorTie.lean); close each card by the builder's one call (the guide's Derived/Test/ToyasCard.lean, 'card_holds'). Laid BY PROGRAM, IN A SANDBOX (cutbox-door.mjs). By AI agents, Wed Nov 11 2026. No macro, syntax, notation, axiom, sorry.
-/
import Derived.Test.YtokdjjebnomciaaDoorRows
import GoSem.ClaimSeven
namespace Go.Proofs.YtokdjjebnomciaaDoor
namespace Rows

/-- THE TIED CARD OF 'bellarminelaw05.SherdJoins'. -/
def sherdJoinsCard : Claim7 := { stood := { row := sherdJoinsRow, standIns := [], harness := (true, "b19d624c57feb4ddc557949d072a9df9920d9c9c6e671a3722e11c1f7f3b75a8"), looks := false }, kinds := [], alts := [], laidByText := true, laidKinds := [.data, .data, .pinned, .pinned, .pinned], laidTests := true, laidLooks := .later }
def SherdJoinsCardSaid : Prop := Claim7.holds Tryd.pinned (.plain (OpenSpec.ofChange sherdJoinsSpec)) sherdJoinsCard

/-- THE TIED CARD OF 'bellarminelaw05.SherdPlans'. -/
def sherdPlansCard : Claim7 := { stood := { row := sherdPlansRow, standIns := [], harness := (true, "b19d624c57feb4ddc557949d072a9df9920d9c9c6e671a3722e11c1f7f3b75a8"), looks := false }, kinds := [], alts := [], laidByText := true, laidKinds := [.data, .data, .pinned, .pinned, .pinned], laidTests := true, laidLooks := .later }
def SherdPlansCardSaid : Prop := Claim7.holds Tryd.pinned (.plain (OpenSpec.ofChange sherdPlansSpec)) sherdPlansCard

/-- THE TIED CARD OF 'bellarminelaw05.SherdRests'. -/
def sherdRestsCard : Claim7 := { stood := { row := sherdRestsRow, standIns := [], harness := (true, "b19d624c57feb4ddc557949d072a9df9920d9c9c6e671a3722e11c1f7f3b75a8"), looks := false }, kinds := [], alts := [], laidByText := true, laidKinds := [.data, .data, .pinned, .pinned, .pinned], laidTests := true, laidLooks := .later }
def SherdRestsCardSaid : Prop := Claim7.holds Tryd.pinned (.plain (OpenSpec.ofChange sherdRestsSpec)) sherdRestsCard

/-- THE TIED CARD OF 'bellarminelaw05.SherdTurns'. -/
def sherdTurnsCard : Claim7 := { stood := { row := sherdTurnsRow, standIns := [], harness := (true, "b19d624c57feb4ddc557949d072a9df9920d9c9c6e671a3722e11c1f7f3b75a8"), looks := false }, kinds := [], alts := [], laidByText := true, laidKinds := [.data, .data, .pinned, .pinned, .pinned], laidTests := true, laidLooks := .later }
def SherdTurnsCardSaid : Prop := Claim7.holds Tryd.pinned (.plain (OpenSpec.ofChange sherdTurnsSpec)) sherdTurnsCard

/-- THE TIED CARD OF 'bellarminelaw05.SherdLeft'. -/
def sherdLeftCard : Claim7 := { stood := { row := sherdLeftRow, standIns := [], harness := (true, "b19d624c57feb4ddc557949d072a9df9920d9c9c6e671a3722e11c1f7f3b75a8"), looks := false }, kinds := [], alts := [], laidByText := true, laidKinds := [.data, .data, .pinned, .pinned, .pinned], laidTests := true, laidLooks := .later }
def SherdLeftCardSaid : Prop := Claim7.holds Tryd.pinned (.plain (OpenSpec.ofChange sherdLeftSpec)) sherdLeftCard

/-- THE TIED CARD OF 'bellarminelaw05.SherdTurned'. -/
def sherdTurnedCard : Claim7 := { stood := { row := sherdTurnedRow, standIns := [], harness := (true, "b19d624c57feb4ddc557949d072a9df9920d9c9c6e671a3722e11c1f7f3b75a8"), looks := false }, kinds := [], alts := [], laidByText := true, laidKinds := [.data, .data, .pinned, .pinned, .pinned], laidTests := true, laidLooks := .later }
def SherdTurnedCardSaid : Prop := Claim7.holds Tryd.pinned (.plain (OpenSpec.ofChange sherdTurnedSpec)) sherdTurnedCard

/-- THE TIED CARD OF 'bellarminelaw05.SherdAlike'. -/
def sherdAlikeCard : Claim7 := { stood := { row := sherdAlikeRow, standIns := [], harness := (true, "b19d624c57feb4ddc557949d072a9df9920d9c9c6e671a3722e11c1f7f3b75a8"), looks := false }, kinds := [], alts := [], laidByText := true, laidKinds := [.data, .data, .pinned, .pinned, .pinned], laidTests := true, laidLooks := .later }
def SherdAlikeCardSaid : Prop := Claim7.holds Tryd.pinned (.plain (OpenSpec.ofChange sherdAlikeSpec)) sherdAlikeCard

/-- THE TIED CARD OF 'bellarminelaw05.SherdMore'. -/
def sherdMoreCard : Claim7 := { stood := { row := sherdMoreRow, standIns := [], harness := (true, "b19d624c57feb4ddc557949d072a9df9920d9c9c6e671a3722e11c1f7f3b75a8"), looks := false }, kinds := [], alts := [], laidByText := true, laidKinds := [.data, .data, .pinned, .pinned, .pinned], laidTests := true, laidLooks := .later }
def SherdMoreCardSaid : Prop := Claim7.holds Tryd.pinned (.plain (OpenSpec.ofChange sherdMoreSpec)) sherdMoreCard

/-- THE TIED CARD OF 'bellarminelaw05.SherdKnown'. -/
def sherdKnownCard : Claim7 := { stood := { row := sherdKnownRow, standIns := [], harness := (true, "b19d624c57feb4ddc557949d072a9df9920d9c9c6e671a3722e11c1f7f3b75a8"), looks := false }, kinds := [], alts := [], laidByText := true, laidKinds := [.data, .data, .pinned, .pinned, .pinned], laidTests := true, laidLooks := .later }
def SherdKnownCardSaid : Prop := Claim7.holds Tryd.pinned (.plain (OpenSpec.ofChange sherdKnownSpec)) sherdKnownCard

/-- THE TIED CARD OF 'bellarminelaw05.SherdListed'. -/
def sherdListedCard : Claim7 := { stood := { row := sherdListedRow, standIns := [], harness := (true, "b19d624c57feb4ddc557949d072a9df9920d9c9c6e671a3722e11c1f7f3b75a8"), looks := false }, kinds := [], alts := [], laidByText := true, laidKinds := [.data, .data, .pinned, .pinned, .pinned], laidTests := true, laidLooks := .later }
def SherdListedCardSaid : Prop := Claim7.holds Tryd.pinned (.plain (OpenSpec.ofChange sherdListedSpec)) sherdListedCard

/-- THE TIED CARD OF 'bellarminelaw05.SherdOpposite'. -/
def sherdOppositeCard : Claim7 := { stood := { row := sherdOppositeRow, standIns := [], harness := (true, "b19d624c57feb4ddc557949d072a9df9920d9c9c6e671a3722e11c1f7f3b75a8"), looks := false }, kinds := [], alts := [], laidByText := true, laidKinds := [.data, .data, .pinned, .pinned, .pinned], laidTests := true, laidLooks := .later }
def SherdOppositeCardSaid : Prop := Claim7.holds Tryd.pinned (.plain (OpenSpec.ofChange sherdOppositeSpec)) sherdOppositeCard

/-- THE TIED CARD OF 'bellarminelaw05.SherdRest'. -/
def sherdRestCard : Claim7 := { stood := { row := sherdRestRow, standIns := [], harness := (true, "b19d624c57feb4ddc557949d072a9df9920d9c9c6e671a3722e11c1f7f3b75a8"), looks := false }, kinds := [], alts := [], laidByText := true, laidKinds := [.data, .data, .pinned, .pinned, .pinned], laidTests := true, laidLooks := .later }
def SherdRestCardSaid : Prop := Claim7.holds Tryd.pinned (.plain (OpenSpec.ofChange sherdRestSpec)) sherdRestCard

/-- THE TIED CARD OF 'bellarminelaw05.SherdChecked'. -/
def sherdCheckedCard : Claim7 := { stood := { row := sherdCheckedRow, standIns := [], harness := (true, "b19d624c57feb4ddc557949d072a9df9920d9c9c6e671a3722e11c1f7f3b75a8"), looks := false }, kinds := [], alts := [], laidByText := true, laidKinds := [.data, .data, .pinned, .pinned, .pinned], laidTests := true, laidLooks := .later }
def SherdCheckedCardSaid : Prop := Claim7.holds Tryd.pinned (.plain (OpenSpec.ofChange sherdCheckedSpec)) sherdCheckedCard

/-- THE SECOND FORM's CARD OF 'bellarminelaw05.SherdJoins'. -/
def sherdJoinsUptoCard : Claim7 := { stood := { row := sherdJoinsUptoRow, standIns := [], harness := (true, "b19d624c57feb4ddc557949d072a9df9920d9c9c6e671a3722e11c1f7f3b75a8"), looks := false }, kinds := [], alts := [], laidByText := true, laidKinds := [.data, .data, .pinned, .pinned, .pinned], laidTests := true, laidLooks := .later }
def SherdJoinsUptoCardSaid : Prop := Claim7.holds Tryd.pinned (.plain (OpenSpec.upto sherdJoinsSpec)) sherdJoinsUptoCard

/-- THE SECOND FORM's CARD OF 'bellarminelaw05.SherdPlans'. -/
def sherdPlansUptoCard : Claim7 := { stood := { row := sherdPlansUptoRow, standIns := [], harness := (true, "b19d624c57feb4ddc557949d072a9df9920d9c9c6e671a3722e11c1f7f3b75a8"), looks := false }, kinds := [], alts := [], laidByText := true, laidKinds := [.data, .data, .pinned, .pinned, .pinned], laidTests := true, laidLooks := .later }
def SherdPlansUptoCardSaid : Prop := Claim7.holds Tryd.pinned (.plain (OpenSpec.upto sherdPlansSpec)) sherdPlansUptoCard

/-- THE SECOND FORM's CARD OF 'bellarminelaw05.SherdRests'. -/
def sherdRestsUptoCard : Claim7 := { stood := { row := sherdRestsUptoRow, standIns := [], harness := (true, "b19d624c57feb4ddc557949d072a9df9920d9c9c6e671a3722e11c1f7f3b75a8"), looks := false }, kinds := [], alts := [], laidByText := true, laidKinds := [.data, .data, .pinned, .pinned, .pinned], laidTests := true, laidLooks := .later }
def SherdRestsUptoCardSaid : Prop := Claim7.holds Tryd.pinned (.plain (OpenSpec.upto sherdRestsSpec)) sherdRestsUptoCard

/-- THE SECOND FORM's CARD OF 'bellarminelaw05.SherdTurns'. -/
def sherdTurnsUptoCard : Claim7 := { stood := { row := sherdTurnsUptoRow, standIns := [], harness := (true, "b19d624c57feb4ddc557949d072a9df9920d9c9c6e671a3722e11c1f7f3b75a8"), looks := false }, kinds := [], alts := [], laidByText := true, laidKinds := [.data, .data, .pinned, .pinned, .pinned], laidTests := true, laidLooks := .later }
def SherdTurnsUptoCardSaid : Prop := Claim7.holds Tryd.pinned (.plain (OpenSpec.upto sherdTurnsSpec)) sherdTurnsUptoCard

/-- THE SECOND FORM's CARD OF 'bellarminelaw05.SherdLeft'. -/
def sherdLeftUptoCard : Claim7 := { stood := { row := sherdLeftUptoRow, standIns := [], harness := (true, "b19d624c57feb4ddc557949d072a9df9920d9c9c6e671a3722e11c1f7f3b75a8"), looks := false }, kinds := [], alts := [], laidByText := true, laidKinds := [.data, .data, .pinned, .pinned, .pinned], laidTests := true, laidLooks := .later }
def SherdLeftUptoCardSaid : Prop := Claim7.holds Tryd.pinned (.plain (OpenSpec.upto sherdLeftSpec)) sherdLeftUptoCard

/-- THE SECOND FORM's CARD OF 'bellarminelaw05.SherdTurned'. -/
def sherdTurnedUptoCard : Claim7 := { stood := { row := sherdTurnedUptoRow, standIns := [], harness := (true, "b19d624c57feb4ddc557949d072a9df9920d9c9c6e671a3722e11c1f7f3b75a8"), looks := false }, kinds := [], alts := [], laidByText := true, laidKinds := [.data, .data, .pinned, .pinned, .pinned], laidTests := true, laidLooks := .later }
def SherdTurnedUptoCardSaid : Prop := Claim7.holds Tryd.pinned (.plain (OpenSpec.upto sherdTurnedSpec)) sherdTurnedUptoCard

/-- THE SECOND FORM's CARD OF 'bellarminelaw05.SherdAlike'. -/
def sherdAlikeUptoCard : Claim7 := { stood := { row := sherdAlikeUptoRow, standIns := [], harness := (true, "b19d624c57feb4ddc557949d072a9df9920d9c9c6e671a3722e11c1f7f3b75a8"), looks := false }, kinds := [], alts := [], laidByText := true, laidKinds := [.data, .data, .pinned, .pinned, .pinned], laidTests := true, laidLooks := .later }
def SherdAlikeUptoCardSaid : Prop := Claim7.holds Tryd.pinned (.plain (OpenSpec.upto sherdAlikeSpec)) sherdAlikeUptoCard

/-- THE SECOND FORM's CARD OF 'bellarminelaw05.SherdMore'. -/
def sherdMoreUptoCard : Claim7 := { stood := { row := sherdMoreUptoRow, standIns := [], harness := (true, "b19d624c57feb4ddc557949d072a9df9920d9c9c6e671a3722e11c1f7f3b75a8"), looks := false }, kinds := [], alts := [], laidByText := true, laidKinds := [.data, .data, .pinned, .pinned, .pinned], laidTests := true, laidLooks := .later }
def SherdMoreUptoCardSaid : Prop := Claim7.holds Tryd.pinned (.plain (OpenSpec.upto sherdMoreSpec)) sherdMoreUptoCard

/-- THE SECOND FORM's CARD OF 'bellarminelaw05.SherdKnown'. -/
def sherdKnownUptoCard : Claim7 := { stood := { row := sherdKnownUptoRow, standIns := [], harness := (true, "b19d624c57feb4ddc557949d072a9df9920d9c9c6e671a3722e11c1f7f3b75a8"), looks := false }, kinds := [], alts := [], laidByText := true, laidKinds := [.data, .data, .pinned, .pinned, .pinned], laidTests := true, laidLooks := .later }
def SherdKnownUptoCardSaid : Prop := Claim7.holds Tryd.pinned (.plain (OpenSpec.upto sherdKnownSpec)) sherdKnownUptoCard

/-- THE SECOND FORM's CARD OF 'bellarminelaw05.SherdListed'. -/
def sherdListedUptoCard : Claim7 := { stood := { row := sherdListedUptoRow, standIns := [], harness := (true, "b19d624c57feb4ddc557949d072a9df9920d9c9c6e671a3722e11c1f7f3b75a8"), looks := false }, kinds := [], alts := [], laidByText := true, laidKinds := [.data, .data, .pinned, .pinned, .pinned], laidTests := true, laidLooks := .later }
def SherdListedUptoCardSaid : Prop := Claim7.holds Tryd.pinned (.plain (OpenSpec.upto sherdListedSpec)) sherdListedUptoCard

/-- THE SECOND FORM's CARD OF 'bellarminelaw05.SherdOpposite'. -/
def sherdOppositeUptoCard : Claim7 := { stood := { row := sherdOppositeUptoRow, standIns := [], harness := (true, "b19d624c57feb4ddc557949d072a9df9920d9c9c6e671a3722e11c1f7f3b75a8"), looks := false }, kinds := [], alts := [], laidByText := true, laidKinds := [.data, .data, .pinned, .pinned, .pinned], laidTests := true, laidLooks := .later }
def SherdOppositeUptoCardSaid : Prop := Claim7.holds Tryd.pinned (.plain (OpenSpec.upto sherdOppositeSpec)) sherdOppositeUptoCard

/-- THE SECOND FORM's CARD OF 'bellarminelaw05.SherdRest'. -/
def sherdRestUptoCard : Claim7 := { stood := { row := sherdRestUptoRow, standIns := [], harness := (true, "b19d624c57feb4ddc557949d072a9df9920d9c9c6e671a3722e11c1f7f3b75a8"), looks := false }, kinds := [], alts := [], laidByText := true, laidKinds := [.data, .data, .pinned, .pinned, .pinned], laidTests := true, laidLooks := .later }
def SherdRestUptoCardSaid : Prop := Claim7.holds Tryd.pinned (.plain (OpenSpec.upto sherdRestSpec)) sherdRestUptoCard

/-- THE SECOND FORM's CARD OF 'bellarminelaw05.SherdChecked'. -/
def sherdCheckedUptoCard : Claim7 := { stood := { row := sherdCheckedUptoRow, standIns := [], harness := (true, "b19d624c57feb4ddc557949d072a9df9920d9c9c6e671a3722e11c1f7f3b75a8"), looks := false }, kinds := [], alts := [], laidByText := true, laidKinds := [.data, .data, .pinned, .pinned, .pinned], laidTests := true, laidLooks := .later }
def SherdCheckedUptoCardSaid : Prop := Claim7.holds Tryd.pinned (.plain (OpenSpec.upto sherdCheckedSpec)) sherdCheckedUptoCard
end Rows
end Go.Proofs.YtokdjjebnomciaaDoor
