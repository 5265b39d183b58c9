/-
  DERIVED. GIVEN WITH THE SEED: THE CARDS: each row of YtlfghapllmaigaaGreatDoorRows.lean that lists a variable, with what it lists TIED to the program's text (the seventh form; the later family's looks); each row that meets fmt, with fmt's text TOLD by the authors' own Lean function (tested against real Go, not proved from fmt's source: count such statements apart). THE CARD IS WHAT COUNTS. Prove the row's statement (the work); the ties are given (YtlfghapllmaigaaGreatDoorTie.lean); close each card by the builder's one call (the guide's Derived/Test/ToyasCard.lean, 'card_holds'). Laid BY PROGRAM, IN A SANDBOX (cutbox-door.mjs). By AI agents, Wed Nov 11 2026. No macro, syntax, notation, axiom, sorry.
-/
import Derived.Test.YtlfghapllmaigaaGreatDoorRows
import GoSem.ClaimSeven
namespace Go.Proofs.YtlfghapllmaigaaGreatDoor
namespace Rows

/-- THE TIED CARD OF 'alumtop.TopTransactionsAreExplained'. -/
def topTransactionsAreExplainedCard : Claim7 := { stood := { row := topTransactionsAreExplainedRow, standIns := [], harness := (true, "f39cb19ea4a4f32933e21849cd913c126c691ce16b5700dbfc0858c01e58590b"), looks := false }, kinds := [], alts := [], laidByText := true, laidKinds := [.data, .data, .data], laidTests := true, laidLooks := .later }
def TopTransactionsAreExplainedCardSaid : Prop := Claim7.holds Tryz.pinned (.plain (OpenSpec.ofChange topTransactionsAreExplainedSpec)) topTransactionsAreExplainedCard

/-- THE SECOND FORM's CARD OF 'alumtop.TopTransactionsAreExplained'. -/
def topTransactionsAreExplainedUptoCard : Claim7 := { stood := { row := topTransactionsAreExplainedUptoRow, standIns := [], harness := (true, "f39cb19ea4a4f32933e21849cd913c126c691ce16b5700dbfc0858c01e58590b"), looks := false }, kinds := [], alts := [], laidByText := true, laidKinds := [.data, .data, .data], laidTests := true, laidLooks := .later }
def TopTransactionsAreExplainedUptoCardSaid : Prop := Claim7.holds Tryz.pinned (.plain (OpenSpec.upto topTransactionsAreExplainedSpec)) topTransactionsAreExplainedUptoCard
end Rows
end Go.Proofs.YtlfghapllmaigaaGreatDoor
