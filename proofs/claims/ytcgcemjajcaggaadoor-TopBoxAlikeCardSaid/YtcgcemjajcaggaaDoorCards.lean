/-
  DERIVED. GIVEN WITH THE SEED: THE CARDS: each row of YtcgcemjajcaggaaDoorRows.lean that lists a variable, with what it lists TIED to the program's text (the seventh form; the later family's looks); each row that meets fmt, with fmt's text TOLD by the authors' own Lean function (tested against real Go, not proved from fmt's source: count such statements apart). THE CARD IS WHAT COUNTS. Prove the row's statement (the work); the ties are given (YtcgcemjajcaggaaDoorTie.lean); close each card by the builder's one call (the guide's Derived/Test/ToyasCard.lean, 'card_holds'). Laid BY PROGRAM, IN A SANDBOX (cutbox-door.mjs). By AI agents, Wed Nov 11 2026. No macro, syntax, notation, axiom, sorry.
-/
import Derived.Test.YtcgcemjajcaggaaDoorRows
import GoSem.ClaimSeven
namespace Go.Proofs.YtcgcemjajcaggaaDoor
namespace Rows

/-- THE TIED CARD OF 'panachetop.TopBoxAlike'. -/
def topBoxAlikeCard : Claim7 := { stood := { row := topBoxAlikeRow, standIns := [], harness := (true, "07377d4eae873313522a9e13868872e06392f6a4245aece367dcb1aaa42f0f8f"), looks := false }, kinds := [], alts := [], laidByText := true, laidKinds := [.data, .data], laidTests := true, laidLooks := .later }
def TopBoxAlikeCardSaid : Prop := Claim7.holds Tryd.pinned (.plain (OpenSpec.ofChange topBoxAlikeSpec)) topBoxAlikeCard

/-- THE SECOND FORM's CARD OF 'panachetop.TopBoxAlike'. -/
def topBoxAlikeUptoCard : Claim7 := { stood := { row := topBoxAlikeUptoRow, standIns := [], harness := (true, "07377d4eae873313522a9e13868872e06392f6a4245aece367dcb1aaa42f0f8f"), looks := false }, kinds := [], alts := [], laidByText := true, laidKinds := [.data, .data], laidTests := true, laidLooks := .later }
def TopBoxAlikeUptoCardSaid : Prop := Claim7.holds Tryd.pinned (.plain (OpenSpec.upto topBoxAlikeSpec)) topBoxAlikeUptoCard
end Rows
end Go.Proofs.YtcgcemjajcaggaaDoor
