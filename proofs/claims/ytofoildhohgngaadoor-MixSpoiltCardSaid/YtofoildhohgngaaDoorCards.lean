/-
  DERIVED. GIVEN WITH THE SEED: THE CARDS: each row of YtofoildhohgngaaDoorRows.lean that lists a variable, with what it lists TIED to the program's text (the seventh form; the later family's looks); each row that meets fmt, with fmt's text TOLD by the authors' own Lean function (tested against real Go, not proved from fmt's source: count such statements apart). THE CARD IS WHAT COUNTS. Prove the row's statement (the work); the ties are given (YtofoildhohgngaaDoorTie.lean); close each card by the builder's one call (the guide's Derived/Test/ToyasCard.lean, 'card_holds'). Laid BY PROGRAM, IN A SANDBOX (cutbox-door.mjs). By AI agents, Wed Nov 11 2026. No macro, syntax, notation, axiom, sorry.
-/
import Derived.Test.YtofoildhohgngaaDoorRows
import GoSem.ClaimSeven
namespace Go.Proofs.YtofoildhohgngaaDoor
namespace Rows

/-- THE TIED CARD OF 'panachelaw08.MixWays'. -/
def mixWaysCard : Claim7 := { stood := { row := mixWaysRow, standIns := [], harness := (true, "db9d006d5bba7fee0cf344bfce06a63cdaeea97b4747f81a03d02ff427ee667c"), looks := false }, kinds := [], alts := [], laidByText := true, laidKinds := [.data, .data], laidTests := true, laidLooks := .later }
def MixWaysCardSaid : Prop := Claim7.holds Tryd.pinned (.plain (OpenSpec.ofChange mixWaysSpec)) mixWaysCard

/-- THE TIED CARD OF 'panachelaw08.MixTogethers'. -/
def mixTogethersCard : Claim7 := { stood := { row := mixTogethersRow, standIns := [], harness := (true, "db9d006d5bba7fee0cf344bfce06a63cdaeea97b4747f81a03d02ff427ee667c"), looks := false }, kinds := [], alts := [], laidByText := true, laidKinds := [.data, .data], laidTests := true, laidLooks := .later }
def MixTogethersCardSaid : Prop := Claim7.holds Tryd.pinned (.plain (OpenSpec.ofChange mixTogethersSpec)) mixTogethersCard

/-- THE TIED CARD OF 'panachelaw08.MixAsks'. -/
def mixAsksCard : Claim7 := { stood := { row := mixAsksRow, standIns := [], harness := (true, "db9d006d5bba7fee0cf344bfce06a63cdaeea97b4747f81a03d02ff427ee667c"), looks := false }, kinds := [], alts := [], laidByText := true, laidKinds := [.data, .data], laidTests := true, laidLooks := .later }
def MixAsksCardSaid : Prop := Claim7.holds Tryd.pinned (.plain (OpenSpec.ofChange mixAsksSpec)) mixAsksCard

/-- THE TIED CARD OF 'panachelaw08.MixQuestions'. -/
def mixQuestionsCard : Claim7 := { stood := { row := mixQuestionsRow, standIns := [], harness := (true, "db9d006d5bba7fee0cf344bfce06a63cdaeea97b4747f81a03d02ff427ee667c"), looks := false }, kinds := [], alts := [], laidByText := true, laidKinds := [.data, .data], laidTests := true, laidLooks := .later }
def MixQuestionsCardSaid : Prop := Claim7.holds Tryd.pinned (.plain (OpenSpec.ofChange mixQuestionsSpec)) mixQuestionsCard

/-- THE TIED CARD OF 'panachelaw08.MixWrongs'. -/
def mixWrongsCard : Claim7 := { stood := { row := mixWrongsRow, standIns := [], harness := (true, "db9d006d5bba7fee0cf344bfce06a63cdaeea97b4747f81a03d02ff427ee667c"), looks := false }, kinds := [], alts := [], laidByText := true, laidKinds := [.data, .data], laidTests := true, laidLooks := .later }
def MixWrongsCardSaid : Prop := Claim7.holds Tryd.pinned (.plain (OpenSpec.ofChange mixWrongsSpec)) mixWrongsCard

/-- THE TIED CARD OF 'panachelaw08.MixShorts'. -/
def mixShortsCard : Claim7 := { stood := { row := mixShortsRow, standIns := [], harness := (true, "db9d006d5bba7fee0cf344bfce06a63cdaeea97b4747f81a03d02ff427ee667c"), looks := false }, kinds := [], alts := [], laidByText := true, laidKinds := [.data, .data], laidTests := true, laidLooks := .later }
def MixShortsCardSaid : Prop := Claim7.holds Tryd.pinned (.plain (OpenSpec.ofChange mixShortsSpec)) mixShortsCard

/-- THE TIED CARD OF 'panachelaw08.MixTruth'. -/
def mixTruthCard : Claim7 := { stood := { row := mixTruthRow, standIns := [], harness := (true, "db9d006d5bba7fee0cf344bfce06a63cdaeea97b4747f81a03d02ff427ee667c"), looks := false }, kinds := [], alts := [], laidByText := true, laidKinds := [.data, .data], laidTests := true, laidLooks := .later }
def MixTruthCardSaid : Prop := Claim7.holds Tryd.pinned (.plain (OpenSpec.ofChange mixTruthSpec)) mixTruthCard

/-- THE TIED CARD OF 'panachelaw08.MixAsked'. -/
def mixAskedCard : Claim7 := { stood := { row := mixAskedRow, standIns := [], harness := (true, "db9d006d5bba7fee0cf344bfce06a63cdaeea97b4747f81a03d02ff427ee667c"), looks := false }, kinds := [], alts := [], laidByText := true, laidKinds := [.data, .data], laidTests := true, laidLooks := .later }
def MixAskedCardSaid : Prop := Claim7.holds Tryd.pinned (.plain (OpenSpec.ofChange mixAskedSpec)) mixAskedCard

/-- THE TIED CARD OF 'panachelaw08.MixDecided'. -/
def mixDecidedCard : Claim7 := { stood := { row := mixDecidedRow, standIns := [], harness := (true, "db9d006d5bba7fee0cf344bfce06a63cdaeea97b4747f81a03d02ff427ee667c"), looks := false }, kinds := [], alts := [], laidByText := true, laidKinds := [.data, .data], laidTests := true, laidLooks := .later }
def MixDecidedCardSaid : Prop := Claim7.holds Tryd.pinned (.plain (OpenSpec.ofChange mixDecidedSpec)) mixDecidedCard

/-- THE TIED CARD OF 'panachelaw08.MixMore'. -/
def mixMoreCard : Claim7 := { stood := { row := mixMoreRow, standIns := [], harness := (true, "db9d006d5bba7fee0cf344bfce06a63cdaeea97b4747f81a03d02ff427ee667c"), looks := false }, kinds := [], alts := [], laidByText := true, laidKinds := [.data, .data], laidTests := true, laidLooks := .later }
def MixMoreCardSaid : Prop := Claim7.holds Tryd.pinned (.plain (OpenSpec.ofChange mixMoreSpec)) mixMoreCard

/-- THE TIED CARD OF 'panachelaw08.MixSpoilt'. -/
def mixSpoiltCard : Claim7 := { stood := { row := mixSpoiltRow, standIns := [], harness := (true, "db9d006d5bba7fee0cf344bfce06a63cdaeea97b4747f81a03d02ff427ee667c"), looks := false }, kinds := [], alts := [], laidByText := true, laidKinds := [.data, .data], laidTests := true, laidLooks := .later }
def MixSpoiltCardSaid : Prop := Claim7.holds Tryd.pinned (.plain (OpenSpec.ofChange mixSpoiltSpec)) mixSpoiltCard

/-- THE SECOND FORM's CARD OF 'panachelaw08.MixWays'. -/
def mixWaysUptoCard : Claim7 := { stood := { row := mixWaysUptoRow, standIns := [], harness := (true, "db9d006d5bba7fee0cf344bfce06a63cdaeea97b4747f81a03d02ff427ee667c"), looks := false }, kinds := [], alts := [], laidByText := true, laidKinds := [.data, .data], laidTests := true, laidLooks := .later }
def MixWaysUptoCardSaid : Prop := Claim7.holds Tryd.pinned (.plain (OpenSpec.upto mixWaysSpec)) mixWaysUptoCard

/-- THE SECOND FORM's CARD OF 'panachelaw08.MixTogethers'. -/
def mixTogethersUptoCard : Claim7 := { stood := { row := mixTogethersUptoRow, standIns := [], harness := (true, "db9d006d5bba7fee0cf344bfce06a63cdaeea97b4747f81a03d02ff427ee667c"), looks := false }, kinds := [], alts := [], laidByText := true, laidKinds := [.data, .data], laidTests := true, laidLooks := .later }
def MixTogethersUptoCardSaid : Prop := Claim7.holds Tryd.pinned (.plain (OpenSpec.upto mixTogethersSpec)) mixTogethersUptoCard

/-- THE SECOND FORM's CARD OF 'panachelaw08.MixAsks'. -/
def mixAsksUptoCard : Claim7 := { stood := { row := mixAsksUptoRow, standIns := [], harness := (true, "db9d006d5bba7fee0cf344bfce06a63cdaeea97b4747f81a03d02ff427ee667c"), looks := false }, kinds := [], alts := [], laidByText := true, laidKinds := [.data, .data], laidTests := true, laidLooks := .later }
def MixAsksUptoCardSaid : Prop := Claim7.holds Tryd.pinned (.plain (OpenSpec.upto mixAsksSpec)) mixAsksUptoCard

/-- THE SECOND FORM's CARD OF 'panachelaw08.MixQuestions'. -/
def mixQuestionsUptoCard : Claim7 := { stood := { row := mixQuestionsUptoRow, standIns := [], harness := (true, "db9d006d5bba7fee0cf344bfce06a63cdaeea97b4747f81a03d02ff427ee667c"), looks := false }, kinds := [], alts := [], laidByText := true, laidKinds := [.data, .data], laidTests := true, laidLooks := .later }
def MixQuestionsUptoCardSaid : Prop := Claim7.holds Tryd.pinned (.plain (OpenSpec.upto mixQuestionsSpec)) mixQuestionsUptoCard

/-- THE SECOND FORM's CARD OF 'panachelaw08.MixWrongs'. -/
def mixWrongsUptoCard : Claim7 := { stood := { row := mixWrongsUptoRow, standIns := [], harness := (true, "db9d006d5bba7fee0cf344bfce06a63cdaeea97b4747f81a03d02ff427ee667c"), looks := false }, kinds := [], alts := [], laidByText := true, laidKinds := [.data, .data], laidTests := true, laidLooks := .later }
def MixWrongsUptoCardSaid : Prop := Claim7.holds Tryd.pinned (.plain (OpenSpec.upto mixWrongsSpec)) mixWrongsUptoCard

/-- THE SECOND FORM's CARD OF 'panachelaw08.MixShorts'. -/
def mixShortsUptoCard : Claim7 := { stood := { row := mixShortsUptoRow, standIns := [], harness := (true, "db9d006d5bba7fee0cf344bfce06a63cdaeea97b4747f81a03d02ff427ee667c"), looks := false }, kinds := [], alts := [], laidByText := true, laidKinds := [.data, .data], laidTests := true, laidLooks := .later }
def MixShortsUptoCardSaid : Prop := Claim7.holds Tryd.pinned (.plain (OpenSpec.upto mixShortsSpec)) mixShortsUptoCard

/-- THE SECOND FORM's CARD OF 'panachelaw08.MixTruth'. -/
def mixTruthUptoCard : Claim7 := { stood := { row := mixTruthUptoRow, standIns := [], harness := (true, "db9d006d5bba7fee0cf344bfce06a63cdaeea97b4747f81a03d02ff427ee667c"), looks := false }, kinds := [], alts := [], laidByText := true, laidKinds := [.data, .data], laidTests := true, laidLooks := .later }
def MixTruthUptoCardSaid : Prop := Claim7.holds Tryd.pinned (.plain (OpenSpec.upto mixTruthSpec)) mixTruthUptoCard

/-- THE SECOND FORM's CARD OF 'panachelaw08.MixAsked'. -/
def mixAskedUptoCard : Claim7 := { stood := { row := mixAskedUptoRow, standIns := [], harness := (true, "db9d006d5bba7fee0cf344bfce06a63cdaeea97b4747f81a03d02ff427ee667c"), looks := false }, kinds := [], alts := [], laidByText := true, laidKinds := [.data, .data], laidTests := true, laidLooks := .later }
def MixAskedUptoCardSaid : Prop := Claim7.holds Tryd.pinned (.plain (OpenSpec.upto mixAskedSpec)) mixAskedUptoCard

/-- THE SECOND FORM's CARD OF 'panachelaw08.MixDecided'. -/
def mixDecidedUptoCard : Claim7 := { stood := { row := mixDecidedUptoRow, standIns := [], harness := (true, "db9d006d5bba7fee0cf344bfce06a63cdaeea97b4747f81a03d02ff427ee667c"), looks := false }, kinds := [], alts := [], laidByText := true, laidKinds := [.data, .data], laidTests := true, laidLooks := .later }
def MixDecidedUptoCardSaid : Prop := Claim7.holds Tryd.pinned (.plain (OpenSpec.upto mixDecidedSpec)) mixDecidedUptoCard

/-- THE SECOND FORM's CARD OF 'panachelaw08.MixMore'. -/
def mixMoreUptoCard : Claim7 := { stood := { row := mixMoreUptoRow, standIns := [], harness := (true, "db9d006d5bba7fee0cf344bfce06a63cdaeea97b4747f81a03d02ff427ee667c"), looks := false }, kinds := [], alts := [], laidByText := true, laidKinds := [.data, .data], laidTests := true, laidLooks := .later }
def MixMoreUptoCardSaid : Prop := Claim7.holds Tryd.pinned (.plain (OpenSpec.upto mixMoreSpec)) mixMoreUptoCard

/-- THE SECOND FORM's CARD OF 'panachelaw08.MixSpoilt'. -/
def mixSpoiltUptoCard : Claim7 := { stood := { row := mixSpoiltUptoRow, standIns := [], harness := (true, "db9d006d5bba7fee0cf344bfce06a63cdaeea97b4747f81a03d02ff427ee667c"), looks := false }, kinds := [], alts := [], laidByText := true, laidKinds := [.data, .data], laidTests := true, laidLooks := .later }
def MixSpoiltUptoCardSaid : Prop := Claim7.holds Tryd.pinned (.plain (OpenSpec.upto mixSpoiltSpec)) mixSpoiltUptoCard
end Rows
end Go.Proofs.YtofoildhohgngaaDoor
