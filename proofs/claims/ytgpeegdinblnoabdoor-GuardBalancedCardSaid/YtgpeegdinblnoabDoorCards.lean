/-
  DERIVED. GIVEN WITH THE SEED: THE CARDS: each row of YtgpeegdinblnoabDoorRows.lean that lists a variable, with what it lists TIED to the program's text (the seventh form; the later family's looks); each row that meets fmt, with fmt's text TOLD by the authors' own Lean function (tested against real Go, not proved from fmt's source: count such statements apart). THE CARD IS WHAT COUNTS. Prove the row's statement (the work); the ties are given (YtgpeegdinblnoabDoorTie.lean); close each card by the builder's one call (the guide's Derived/Test/ToyasCard.lean, 'card_holds'). Laid BY PROGRAM, IN A SANDBOX (cutbox-door.mjs). By AI agents, Wed Nov 11 2026. No macro, syntax, notation, axiom, sorry.
-/
import Derived.Test.YtgpeegdinblnoabDoorRows
import GoSem.ClaimSeven
namespace Go.Proofs.YtgpeegdinblnoabDoor
namespace Rows

/-- THE TIED CARD OF 'panachelaw06.GuardBalanced'. -/
def guardBalancedCard : Claim7 := { stood := { row := guardBalancedRow, standIns := [], harness := (true, "561f46e6ff415c215f212b378b6adac96d07d5d0b489948d8645e6103772317e"), looks := false }, kinds := [], alts := [], laidByText := true, laidKinds := [.data, .data], laidTests := true, laidLooks := .later }
def GuardBalancedCardSaid : Prop := Claim7.holds Tryd.pinned (.plain (OpenSpec.ofChange guardBalancedSpec)) guardBalancedCard

/-- THE SECOND FORM's CARD OF 'panachelaw06.GuardBalanced'. -/
def guardBalancedUptoCard : Claim7 := { stood := { row := guardBalancedUptoRow, standIns := [], harness := (true, "561f46e6ff415c215f212b378b6adac96d07d5d0b489948d8645e6103772317e"), looks := false }, kinds := [], alts := [], laidByText := true, laidKinds := [.data, .data], laidTests := true, laidLooks := .later }
def GuardBalancedUptoCardSaid : Prop := Claim7.holds Tryd.pinned (.plain (OpenSpec.upto guardBalancedSpec)) guardBalancedUptoCard
end Rows
end Go.Proofs.YtgpeegdinblnoabDoor
