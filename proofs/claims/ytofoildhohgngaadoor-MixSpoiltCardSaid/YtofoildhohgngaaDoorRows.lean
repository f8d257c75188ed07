/-
  NARROWER THAN 'FOR EVERY INPUT', by the rows' own cells (each row's printed sentence says how): MixWays: laid · MixTogethers: laid · MixAsks: laid · MixQuestions: laid · MixWrongs: laid · MixShorts: laid · MixTruth: laid · MixAsked: laid · MixDecided: laid · MixMore: laid · MixSpoilt: laid.
  DERIVED. THE GIVEN ROWS OF THIS SEAT. 11 by the template 'for every input the law returns true; each argument reads behind the call as it read before'; 0 by the template 'total and deterministic' (their statements: YtofoildhohgngaaDoorTotals.lean).
  GIVEN WITH THE SEED: the statements are not yours to turn. If you find one false, say at which input.
  Laid BY PROGRAM, IN A SANDBOX (cutbox-rows.mjs): the forced cells as the released guide's own fill.sh prints them over the translation 0b4e15bccc82007f… (all of the seat's roots in one cut). By AI agents, Wed Nov 11 2026. No macro, syntax, notation, axiom, sorry.
-/
import Derived.Test.YtofoildhohgngaaDoorChecked
import GoSem.Claim
import GoSem.ClaimJoined
import GoSem.ClaimMapViews
import Derived.JoinedTies
import Derived.KernelRfl
namespace Go.Proofs.YtofoildhohgngaaDoor
/- THE CELL 'sum', in the pinned program and in every row, IS THE sha256 OF THE DUMP (.gsa) THAT YtofoildhohgngaaDoorProg.lean LOADS. Nothing in Lean hashes anything: it is a label: what it is worth is what the hold of that sum in a sandbox is worth. -/
noncomputable def Tryd.pinned : Pinned := { name := "ytofoildhohgngaadoor", sum := "0b4e15bccc82007f0b4f1a2911881307fe537ac62c23a80093ede339f56c9d2f", checked := Tryd.checked }
namespace Rows
def none {H : Type} : Left H := { results := [], args := [] }

/- WHAT THE LISTED PACKAGE-LEVEL VARIABLES READ AS WHEN THE CALL BEGINS. Each datum BY PROGRAM (the guide's laid-datum.mjs) off the statement by which the dump's own 'gosem.cut.vars' lays the variable. In a bare row this is a premise. The card (YtofoildhohgngaaDoorCards.lean) ties it to the program's text. -/
def laid_math_bits_deBruijn32tab {H : Type} : DataW H := .agg [.lit (.int .u8 0), .lit (.int .u8 1), .lit (.int .u8 28), .lit (.int .u8 2), .lit (.int .u8 29), .lit (.int .u8 14), .lit (.int .u8 24), .lit (.int .u8 3), .lit (.int .u8 30), .lit (.int .u8 22), .lit (.int .u8 20), .lit (.int .u8 15), .lit (.int .u8 25), .lit (.int .u8 17), .lit (.int .u8 4), .lit (.int .u8 8), .lit (.int .u8 31), .lit (.int .u8 27), .lit (.int .u8 13), .lit (.int .u8 23), .lit (.int .u8 21), .lit (.int .u8 19), .lit (.int .u8 16), .lit (.int .u8 7), .lit (.int .u8 26), .lit (.int .u8 12), .lit (.int .u8 18), .lit (.int .u8 6), .lit (.int .u8 11), .lit (.int .u8 5), .lit (.int .u8 10), .lit (.int .u8 9)]
def laid_math_bits_deBruijn64tab {H : Type} : DataW H := .agg [.lit (.int .u8 0), .lit (.int .u8 1), .lit (.int .u8 56), .lit (.int .u8 2), .lit (.int .u8 57), .lit (.int .u8 49), .lit (.int .u8 28), .lit (.int .u8 3), .lit (.int .u8 61), .lit (.int .u8 58), .lit (.int .u8 42), .lit (.int .u8 50), .lit (.int .u8 38), .lit (.int .u8 29), .lit (.int .u8 17), .lit (.int .u8 4), .lit (.int .u8 62), .lit (.int .u8 47), .lit (.int .u8 59), .lit (.int .u8 36), .lit (.int .u8 45), .lit (.int .u8 43), .lit (.int .u8 51), .lit (.int .u8 22), .lit (.int .u8 53), .lit (.int .u8 39), .lit (.int .u8 33), .lit (.int .u8 30), .lit (.int .u8 24), .lit (.int .u8 18), .lit (.int .u8 12), .lit (.int .u8 5), .lit (.int .u8 63), .lit (.int .u8 55), .lit (.int .u8 48), .lit (.int .u8 27), .lit (.int .u8 60), .lit (.int .u8 41), .lit (.int .u8 37), .lit (.int .u8 16), .lit (.int .u8 46), .lit (.int .u8 35), .lit (.int .u8 44), .lit (.int .u8 21), .lit (.int .u8 52), .lit (.int .u8 32), .lit (.int .u8 23), .lit (.int .u8 11), .lit (.int .u8 54), .lit (.int .u8 26), .lit (.int .u8 40), .lit (.int .u8 15), .lit (.int .u8 34), .lit (.int .u8 20), .lit (.int .u8 31), .lit (.int .u8 10), .lit (.int .u8 25), .lit (.int .u8 14), .lit (.int .u8 19), .lit (.int .u8 9), .lit (.int .u8 13), .lit (.int .u8 8), .lit (.int .u8 7), .lit (.int .u8 6)]

/-- 'panachelaw08.MixWays': WHATEVER THE INPUT: true; the input reads as it did. -/
def mixWaysSpec : ChangeSpec := { name := "mixWays", fn := fun _ => fun
  | [d] => { results := [.lit (.bool true)], args := [d] }
  | _ => none }
def mixWaysRow : OpenClaim := { program := "ytofoildhohgngaadoor", sum := "0b4e15bccc82007f0b4f1a2911881307fe537ac62c23a80093ede339f56c9d2f", func := "panache/panachelaw08.MixWays", spec := "mixWays", unfollowed := true, recurses := true, named := ["math/bits.deBruijn32tab", "math/bits.deBruijn64tab"], apart := false, laid := [("math/bits.deBruijn32tab", laid_math_bits_deBruijn32tab), ("math/bits.deBruijn64tab", laid_math_bits_deBruijn64tab)] }
def MixWaysSaid : Prop := mixWaysRow.holds Tryd.pinned (OpenSpec.ofChange mixWaysSpec)

/-- ITS FALSE NEIGHBOUR: 'it returns false'. Refute it at one input. -/
def mixWaysWrong : ChangeSpec := { name := "mixWays", fn := fun _ => fun
  | [d] => { results := [.lit (.bool false)], args := [d] }
  | _ => none }
def MixWaysWrongFalsely : Prop := mixWaysRow.holds Tryd.pinned (OpenSpec.ofChange mixWaysWrong)

/-- 'panachelaw08.MixTogethers': WHATEVER THE INPUT: true; the input reads as it did. -/
def mixTogethersSpec : ChangeSpec := { name := "mixTogethers", fn := fun _ => fun
  | [d1, d2, d3] => { results := [.lit (.bool true)], args := [d1, d2, d3] }
  | _ => none }
def mixTogethersRow : OpenClaim := { program := "ytofoildhohgngaadoor", sum := "0b4e15bccc82007f0b4f1a2911881307fe537ac62c23a80093ede339f56c9d2f", func := "panache/panachelaw08.MixTogethers", spec := "mixTogethers", unfollowed := true, recurses := true, named := ["math/bits.deBruijn32tab", "math/bits.deBruijn64tab"], apart := false, laid := [("math/bits.deBruijn32tab", laid_math_bits_deBruijn32tab), ("math/bits.deBruijn64tab", laid_math_bits_deBruijn64tab)] }
def MixTogethersSaid : Prop := mixTogethersRow.holds Tryd.pinned (OpenSpec.ofChange mixTogethersSpec)

/-- ITS FALSE NEIGHBOUR: 'it returns false'. Refute it at one input. -/
def mixTogethersWrong : ChangeSpec := { name := "mixTogethers", fn := fun _ => fun
  | [d1, d2, d3] => { results := [.lit (.bool false)], args := [d1, d2, d3] }
  | _ => none }
def MixTogethersWrongFalsely : Prop := mixTogethersRow.holds Tryd.pinned (OpenSpec.ofChange mixTogethersWrong)

/-- 'panachelaw08.MixAsks': WHATEVER THE INPUT: true; the input reads as it did. -/
def mixAsksSpec : ChangeSpec := { name := "mixAsks", fn := fun _ => fun
  | [d1, d2] => { results := [.lit (.bool true)], args := [d1, d2] }
  | _ => none }
def mixAsksRow : OpenClaim := { program := "ytofoildhohgngaadoor", sum := "0b4e15bccc82007f0b4f1a2911881307fe537ac62c23a80093ede339f56c9d2f", func := "panache/panachelaw08.MixAsks", spec := "mixAsks", unfollowed := true, recurses := true, named := ["math/bits.deBruijn32tab", "math/bits.deBruijn64tab"], apart := false, laid := [("math/bits.deBruijn32tab", laid_math_bits_deBruijn32tab), ("math/bits.deBruijn64tab", laid_math_bits_deBruijn64tab)] }
def MixAsksSaid : Prop := mixAsksRow.holds Tryd.pinned (OpenSpec.ofChange mixAsksSpec)

/-- ITS FALSE NEIGHBOUR: 'it returns false'. Refute it at one input. -/
def mixAsksWrong : ChangeSpec := { name := "mixAsks", fn := fun _ => fun
  | [d1, d2] => { results := [.lit (.bool false)], args := [d1, d2] }
  | _ => none }
def MixAsksWrongFalsely : Prop := mixAsksRow.holds Tryd.pinned (OpenSpec.ofChange mixAsksWrong)

/-- 'panachelaw08.MixQuestions': WHATEVER THE INPUT: true; the input reads as it did. -/
def mixQuestionsSpec : ChangeSpec := { name := "mixQuestions", fn := fun _ => fun
  | [d] => { results := [.lit (.bool true)], args := [d] }
  | _ => none }
def mixQuestionsRow : OpenClaim := { program := "ytofoildhohgngaadoor", sum := "0b4e15bccc82007f0b4f1a2911881307fe537ac62c23a80093ede339f56c9d2f", func := "panache/panachelaw08.MixQuestions", spec := "mixQuestions", unfollowed := true, recurses := true, named := ["math/bits.deBruijn32tab", "math/bits.deBruijn64tab"], apart := false, laid := [("math/bits.deBruijn32tab", laid_math_bits_deBruijn32tab), ("math/bits.deBruijn64tab", laid_math_bits_deBruijn64tab)] }
def MixQuestionsSaid : Prop := mixQuestionsRow.holds Tryd.pinned (OpenSpec.ofChange mixQuestionsSpec)

/-- ITS FALSE NEIGHBOUR: 'it returns false'. Refute it at one input. -/
def mixQuestionsWrong : ChangeSpec := { name := "mixQuestions", fn := fun _ => fun
  | [d] => { results := [.lit (.bool false)], args := [d] }
  | _ => none }
def MixQuestionsWrongFalsely : Prop := mixQuestionsRow.holds Tryd.pinned (OpenSpec.ofChange mixQuestionsWrong)

/-- 'panachelaw08.MixWrongs': WHATEVER THE INPUT: true; the input reads as it did. -/
def mixWrongsSpec : ChangeSpec := { name := "mixWrongs", fn := fun _ => fun
  | [d] => { results := [.lit (.bool true)], args := [d] }
  | _ => none }
def mixWrongsRow : OpenClaim := { program := "ytofoildhohgngaadoor", sum := "0b4e15bccc82007f0b4f1a2911881307fe537ac62c23a80093ede339f56c9d2f", func := "panache/panachelaw08.MixWrongs", spec := "mixWrongs", unfollowed := true, recurses := true, named := ["math/bits.deBruijn32tab", "math/bits.deBruijn64tab"], apart := false, laid := [("math/bits.deBruijn32tab", laid_math_bits_deBruijn32tab), ("math/bits.deBruijn64tab", laid_math_bits_deBruijn64tab)] }
def MixWrongsSaid : Prop := mixWrongsRow.holds Tryd.pinned (OpenSpec.ofChange mixWrongsSpec)

/-- ITS FALSE NEIGHBOUR: 'it returns false'. Refute it at one input. -/
def mixWrongsWrong : ChangeSpec := { name := "mixWrongs", fn := fun _ => fun
  | [d] => { results := [.lit (.bool false)], args := [d] }
  | _ => none }
def MixWrongsWrongFalsely : Prop := mixWrongsRow.holds Tryd.pinned (OpenSpec.ofChange mixWrongsWrong)

/-- 'panachelaw08.MixShorts': WHATEVER THE INPUT: true; the input reads as it did. -/
def mixShortsSpec : ChangeSpec := { name := "mixShorts", fn := fun _ => fun
  | [d1, d2, d3] => { results := [.lit (.bool true)], args := [d1, d2, d3] }
  | _ => none }
def mixShortsRow : OpenClaim := { program := "ytofoildhohgngaadoor", sum := "0b4e15bccc82007f0b4f1a2911881307fe537ac62c23a80093ede339f56c9d2f", func := "panache/panachelaw08.MixShorts", spec := "mixShorts", unfollowed := true, recurses := true, named := ["math/bits.deBruijn32tab", "math/bits.deBruijn64tab"], apart := false, laid := [("math/bits.deBruijn32tab", laid_math_bits_deBruijn32tab), ("math/bits.deBruijn64tab", laid_math_bits_deBruijn64tab)] }
def MixShortsSaid : Prop := mixShortsRow.holds Tryd.pinned (OpenSpec.ofChange mixShortsSpec)

/-- ITS FALSE NEIGHBOUR: 'it returns false'. Refute it at one input. -/
def mixShortsWrong : ChangeSpec := { name := "mixShorts", fn := fun _ => fun
  | [d1, d2, d3] => { results := [.lit (.bool false)], args := [d1, d2, d3] }
  | _ => none }
def MixShortsWrongFalsely : Prop := mixShortsRow.holds Tryd.pinned (OpenSpec.ofChange mixShortsWrong)

/-- 'panachelaw08.MixTruth': WHATEVER THE INPUT: true; the input reads as it did. -/
def mixTruthSpec : ChangeSpec := { name := "mixTruth", fn := fun _ => fun
  | [d] => { results := [.lit (.bool true)], args := [d] }
  | _ => none }
def mixTruthRow : OpenClaim := { program := "ytofoildhohgngaadoor", sum := "0b4e15bccc82007f0b4f1a2911881307fe537ac62c23a80093ede339f56c9d2f", func := "panache/panachelaw08.MixTruth", spec := "mixTruth", unfollowed := true, recurses := true, named := ["math/bits.deBruijn32tab", "math/bits.deBruijn64tab"], apart := false, laid := [("math/bits.deBruijn32tab", laid_math_bits_deBruijn32tab), ("math/bits.deBruijn64tab", laid_math_bits_deBruijn64tab)] }
def MixTruthSaid : Prop := mixTruthRow.holds Tryd.pinned (OpenSpec.ofChange mixTruthSpec)

/-- ITS FALSE NEIGHBOUR: 'it returns false'. Refute it at one input. -/
def mixTruthWrong : ChangeSpec := { name := "mixTruth", fn := fun _ => fun
  | [d] => { results := [.lit (.bool false)], args := [d] }
  | _ => none }
def MixTruthWrongFalsely : Prop := mixTruthRow.holds Tryd.pinned (OpenSpec.ofChange mixTruthWrong)

/-- 'panachelaw08.MixAsked': WHATEVER THE INPUT: true; the input reads as it did. -/
def mixAskedSpec : ChangeSpec := { name := "mixAsked", fn := fun _ => fun
  | [d] => { results := [.lit (.bool true)], args := [d] }
  | _ => none }
def mixAskedRow : OpenClaim := { program := "ytofoildhohgngaadoor", sum := "0b4e15bccc82007f0b4f1a2911881307fe537ac62c23a80093ede339f56c9d2f", func := "panache/panachelaw08.MixAsked", spec := "mixAsked", unfollowed := true, recurses := true, named := ["math/bits.deBruijn32tab", "math/bits.deBruijn64tab"], apart := false, laid := [("math/bits.deBruijn32tab", laid_math_bits_deBruijn32tab), ("math/bits.deBruijn64tab", laid_math_bits_deBruijn64tab)] }
def MixAskedSaid : Prop := mixAskedRow.holds Tryd.pinned (OpenSpec.ofChange mixAskedSpec)

/-- ITS FALSE NEIGHBOUR: 'it returns false'. Refute it at one input. -/
def mixAskedWrong : ChangeSpec := { name := "mixAsked", fn := fun _ => fun
  | [d] => { results := [.lit (.bool false)], args := [d] }
  | _ => none }
def MixAskedWrongFalsely : Prop := mixAskedRow.holds Tryd.pinned (OpenSpec.ofChange mixAskedWrong)

/-- 'panachelaw08.MixDecided': WHATEVER THE INPUT: true; the input reads as it did. -/
def mixDecidedSpec : ChangeSpec := { name := "mixDecided", fn := fun _ => fun
  | [d] => { results := [.lit (.bool true)], args := [d] }
  | _ => none }
def mixDecidedRow : OpenClaim := { program := "ytofoildhohgngaadoor", sum := "0b4e15bccc82007f0b4f1a2911881307fe537ac62c23a80093ede339f56c9d2f", func := "panache/panachelaw08.MixDecided", spec := "mixDecided", unfollowed := true, recurses := true, named := ["math/bits.deBruijn32tab", "math/bits.deBruijn64tab"], apart := false, laid := [("math/bits.deBruijn32tab", laid_math_bits_deBruijn32tab), ("math/bits.deBruijn64tab", laid_math_bits_deBruijn64tab)] }
def MixDecidedSaid : Prop := mixDecidedRow.holds Tryd.pinned (OpenSpec.ofChange mixDecidedSpec)

/-- ITS FALSE NEIGHBOUR: 'it returns false'. Refute it at one input. -/
def mixDecidedWrong : ChangeSpec := { name := "mixDecided", fn := fun _ => fun
  | [d] => { results := [.lit (.bool false)], args := [d] }
  | _ => none }
def MixDecidedWrongFalsely : Prop := mixDecidedRow.holds Tryd.pinned (OpenSpec.ofChange mixDecidedWrong)

/-- 'panachelaw08.MixMore': WHATEVER THE INPUT: true; the input reads as it did. -/
def mixMoreSpec : ChangeSpec := { name := "mixMore", fn := fun _ => fun
  | [d1, d2] => { results := [.lit (.bool true)], args := [d1, d2] }
  | _ => none }
def mixMoreRow : OpenClaim := { program := "ytofoildhohgngaadoor", sum := "0b4e15bccc82007f0b4f1a2911881307fe537ac62c23a80093ede339f56c9d2f", func := "panache/panachelaw08.MixMore", spec := "mixMore", unfollowed := true, recurses := true, named := ["math/bits.deBruijn32tab", "math/bits.deBruijn64tab"], apart := false, laid := [("math/bits.deBruijn32tab", laid_math_bits_deBruijn32tab), ("math/bits.deBruijn64tab", laid_math_bits_deBruijn64tab)] }
def MixMoreSaid : Prop := mixMoreRow.holds Tryd.pinned (OpenSpec.ofChange mixMoreSpec)

/-- ITS FALSE NEIGHBOUR: 'it returns false'. Refute it at one input. -/
def mixMoreWrong : ChangeSpec := { name := "mixMore", fn := fun _ => fun
  | [d1, d2] => { results := [.lit (.bool false)], args := [d1, d2] }
  | _ => none }
def MixMoreWrongFalsely : Prop := mixMoreRow.holds Tryd.pinned (OpenSpec.ofChange mixMoreWrong)

/-- 'panachelaw08.MixSpoilt': WHATEVER THE INPUT: true; the input reads as it did. -/
def mixSpoiltSpec : ChangeSpec := { name := "mixSpoilt", fn := fun _ => fun
  | [d1, d2] => { results := [.lit (.bool true)], args := [d1, d2] }
  | _ => none }
def mixSpoiltRow : OpenClaim := { program := "ytofoildhohgngaadoor", sum := "0b4e15bccc82007f0b4f1a2911881307fe537ac62c23a80093ede339f56c9d2f", func := "panache/panachelaw08.MixSpoilt", spec := "mixSpoilt", unfollowed := true, recurses := true, named := ["math/bits.deBruijn32tab", "math/bits.deBruijn64tab"], apart := false, laid := [("math/bits.deBruijn32tab", laid_math_bits_deBruijn32tab), ("math/bits.deBruijn64tab", laid_math_bits_deBruijn64tab)] }
def MixSpoiltSaid : Prop := mixSpoiltRow.holds Tryd.pinned (OpenSpec.ofChange mixSpoiltSpec)

/-- ITS FALSE NEIGHBOUR: 'it returns false'. Refute it at one input. -/
def mixSpoiltWrong : ChangeSpec := { name := "mixSpoilt", fn := fun _ => fun
  | [d1, d2] => { results := [.lit (.bool false)], args := [d1, d2] }
  | _ => none }
def MixSpoiltWrongFalsely : Prop := mixSpoiltRow.holds Tryd.pinned (OpenSpec.ofChange mixSpoiltWrong)

/- THE SECOND FORM. 'bulk': how many values and letters a reading holds, each counted each time it is reached (what is shared counts as often as it is met; a slice's spare places count too). A statement '..UptoSaid' is the law's where the arguments, and the package variables that the reading takes, are together of bulk at most 1048576: NARROWER than '..Said'. Prove '..Said' where nothing that the law and all that it calls make is longer than what came in: it says more and counts as full. Else prove '..UptoSaid'. A law counts once. -/
mutual
def uptoBulk {H : Type} : DataW H → Nat
  | .lit (.string bytes) => bytes.length + 1
  | .lit _ => 1
  | .nil => 1
  | .ptr d => uptoBulk d + 1
  | .slice elems spare => uptoBulkAll elems + uptoBulkAll spare + 1
  | .agg parts => uptoBulkAll parts + 1
  | .iface _ d => uptoBulk d + 1
  | .map entries => uptoBulkEntries entries + 1
  | .held _ => 1
def uptoBulkAll {H : Type} : List (DataW H) → Nat
  | [] => 0
  | d :: r => uptoBulk d + uptoBulkAll r
def uptoBulkEntries {H : Type} : List (Lit × DataW H) → Nat
  | [] => 0
  | x :: r => uptoBulkEntry x + uptoBulkEntries r
def uptoBulkEntry {H : Type} : Lit × DataW H → Nat
  | (.string bytes, d) => bytes.length + uptoBulk d + 1
  | (_, d) => uptoBulk d + 1
 end
def uptoSmall : (H : Type) → List (DataW H) → Bool := fun _ ds => decide (uptoBulkAll ds ≤ 1048576)
def OpenSpec.upto (s : _root_.Go.ChangeSpec) : _root_.Go.OpenSpec := { _root_.Go.OpenSpec.ofChange s with cond := some uptoSmall }

/-- 'panachelaw08.MixWays', WHERE WHAT IT READS IS OF BULK AT MOST 1048576: true; the input reads as it did. -/
def mixWaysUptoRow : OpenClaim := { program := "ytofoildhohgngaadoor", sum := "0b4e15bccc82007f0b4f1a2911881307fe537ac62c23a80093ede339f56c9d2f", func := "panache/panachelaw08.MixWays", spec := "mixWays", unfollowed := true, recurses := true, named := ["math/bits.deBruijn32tab", "math/bits.deBruijn64tab"], apart := false, laid := [("math/bits.deBruijn32tab", laid_math_bits_deBruijn32tab), ("math/bits.deBruijn64tab", laid_math_bits_deBruijn64tab)], narrowed := true }
def MixWaysUptoSaid : Prop := mixWaysUptoRow.holds Tryd.pinned (OpenSpec.upto mixWaysSpec)

/-- 'panachelaw08.MixTogethers', WHERE WHAT IT READS IS OF BULK AT MOST 1048576: true; the input reads as it did. -/
def mixTogethersUptoRow : OpenClaim := { program := "ytofoildhohgngaadoor", sum := "0b4e15bccc82007f0b4f1a2911881307fe537ac62c23a80093ede339f56c9d2f", func := "panache/panachelaw08.MixTogethers", spec := "mixTogethers", unfollowed := true, recurses := true, named := ["math/bits.deBruijn32tab", "math/bits.deBruijn64tab"], apart := false, laid := [("math/bits.deBruijn32tab", laid_math_bits_deBruijn32tab), ("math/bits.deBruijn64tab", laid_math_bits_deBruijn64tab)], narrowed := true }
def MixTogethersUptoSaid : Prop := mixTogethersUptoRow.holds Tryd.pinned (OpenSpec.upto mixTogethersSpec)

/-- 'panachelaw08.MixAsks', WHERE WHAT IT READS IS OF BULK AT MOST 1048576: true; the input reads as it did. -/
def mixAsksUptoRow : OpenClaim := { program := "ytofoildhohgngaadoor", sum := "0b4e15bccc82007f0b4f1a2911881307fe537ac62c23a80093ede339f56c9d2f", func := "panache/panachelaw08.MixAsks", spec := "mixAsks", unfollowed := true, recurses := true, named := ["math/bits.deBruijn32tab", "math/bits.deBruijn64tab"], apart := false, laid := [("math/bits.deBruijn32tab", laid_math_bits_deBruijn32tab), ("math/bits.deBruijn64tab", laid_math_bits_deBruijn64tab)], narrowed := true }
def MixAsksUptoSaid : Prop := mixAsksUptoRow.holds Tryd.pinned (OpenSpec.upto mixAsksSpec)

/-- 'panachelaw08.MixQuestions', WHERE WHAT IT READS IS OF BULK AT MOST 1048576: true; the input reads as it did. -/
def mixQuestionsUptoRow : OpenClaim := { program := "ytofoildhohgngaadoor", sum := "0b4e15bccc82007f0b4f1a2911881307fe537ac62c23a80093ede339f56c9d2f", func := "panache/panachelaw08.MixQuestions", spec := "mixQuestions", unfollowed := true, recurses := true, named := ["math/bits.deBruijn32tab", "math/bits.deBruijn64tab"], apart := false, laid := [("math/bits.deBruijn32tab", laid_math_bits_deBruijn32tab), ("math/bits.deBruijn64tab", laid_math_bits_deBruijn64tab)], narrowed := true }
def MixQuestionsUptoSaid : Prop := mixQuestionsUptoRow.holds Tryd.pinned (OpenSpec.upto mixQuestionsSpec)

/-- 'panachelaw08.MixWrongs', WHERE WHAT IT READS IS OF BULK AT MOST 1048576: true; the input reads as it did. -/
def mixWrongsUptoRow : OpenClaim := { program := "ytofoildhohgngaadoor", sum := "0b4e15bccc82007f0b4f1a2911881307fe537ac62c23a80093ede339f56c9d2f", func := "panache/panachelaw08.MixWrongs", spec := "mixWrongs", unfollowed := true, recurses := true, named := ["math/bits.deBruijn32tab", "math/bits.deBruijn64tab"], apart := false, laid := [("math/bits.deBruijn32tab", laid_math_bits_deBruijn32tab), ("math/bits.deBruijn64tab", laid_math_bits_deBruijn64tab)], narrowed := true }
def MixWrongsUptoSaid : Prop := mixWrongsUptoRow.holds Tryd.pinned (OpenSpec.upto mixWrongsSpec)

/-- 'panachelaw08.MixShorts', WHERE WHAT IT READS IS OF BULK AT MOST 1048576: true; the input reads as it did. -/
def mixShortsUptoRow : OpenClaim := { program := "ytofoildhohgngaadoor", sum := "0b4e15bccc82007f0b4f1a2911881307fe537ac62c23a80093ede339f56c9d2f", func := "panache/panachelaw08.MixShorts", spec := "mixShorts", unfollowed := true, recurses := true, named := ["math/bits.deBruijn32tab", "math/bits.deBruijn64tab"], apart := false, laid := [("math/bits.deBruijn32tab", laid_math_bits_deBruijn32tab), ("math/bits.deBruijn64tab", laid_math_bits_deBruijn64tab)], narrowed := true }
def MixShortsUptoSaid : Prop := mixShortsUptoRow.holds Tryd.pinned (OpenSpec.upto mixShortsSpec)

/-- 'panachelaw08.MixTruth', WHERE WHAT IT READS IS OF BULK AT MOST 1048576: true; the input reads as it did. -/
def mixTruthUptoRow : OpenClaim := { program := "ytofoildhohgngaadoor", sum := "0b4e15bccc82007f0b4f1a2911881307fe537ac62c23a80093ede339f56c9d2f", func := "panache/panachelaw08.MixTruth", spec := "mixTruth", unfollowed := true, recurses := true, named := ["math/bits.deBruijn32tab", "math/bits.deBruijn64tab"], apart := false, laid := [("math/bits.deBruijn32tab", laid_math_bits_deBruijn32tab), ("math/bits.deBruijn64tab", laid_math_bits_deBruijn64tab)], narrowed := true }
def MixTruthUptoSaid : Prop := mixTruthUptoRow.holds Tryd.pinned (OpenSpec.upto mixTruthSpec)

/-- 'panachelaw08.MixAsked', WHERE WHAT IT READS IS OF BULK AT MOST 1048576: true; the input reads as it did. -/
def mixAskedUptoRow : OpenClaim := { program := "ytofoildhohgngaadoor", sum := "0b4e15bccc82007f0b4f1a2911881307fe537ac62c23a80093ede339f56c9d2f", func := "panache/panachelaw08.MixAsked", spec := "mixAsked", unfollowed := true, recurses := true, named := ["math/bits.deBruijn32tab", "math/bits.deBruijn64tab"], apart := false, laid := [("math/bits.deBruijn32tab", laid_math_bits_deBruijn32tab), ("math/bits.deBruijn64tab", laid_math_bits_deBruijn64tab)], narrowed := true }
def MixAskedUptoSaid : Prop := mixAskedUptoRow.holds Tryd.pinned (OpenSpec.upto mixAskedSpec)

/-- 'panachelaw08.MixDecided', WHERE WHAT IT READS IS OF BULK AT MOST 1048576: true; the input reads as it did. -/
def mixDecidedUptoRow : OpenClaim := { program := "ytofoildhohgngaadoor", sum := "0b4e15bccc82007f0b4f1a2911881307fe537ac62c23a80093ede339f56c9d2f", func := "panache/panachelaw08.MixDecided", spec := "mixDecided", unfollowed := true, recurses := true, named := ["math/bits.deBruijn32tab", "math/bits.deBruijn64tab"], apart := false, laid := [("math/bits.deBruijn32tab", laid_math_bits_deBruijn32tab), ("math/bits.deBruijn64tab", laid_math_bits_deBruijn64tab)], narrowed := true }
def MixDecidedUptoSaid : Prop := mixDecidedUptoRow.holds Tryd.pinned (OpenSpec.upto mixDecidedSpec)

/-- 'panachelaw08.MixMore', WHERE WHAT IT READS IS OF BULK AT MOST 1048576: true; the input reads as it did. -/
def mixMoreUptoRow : OpenClaim := { program := "ytofoildhohgngaadoor", sum := "0b4e15bccc82007f0b4f1a2911881307fe537ac62c23a80093ede339f56c9d2f", func := "panache/panachelaw08.MixMore", spec := "mixMore", unfollowed := true, recurses := true, named := ["math/bits.deBruijn32tab", "math/bits.deBruijn64tab"], apart := false, laid := [("math/bits.deBruijn32tab", laid_math_bits_deBruijn32tab), ("math/bits.deBruijn64tab", laid_math_bits_deBruijn64tab)], narrowed := true }
def MixMoreUptoSaid : Prop := mixMoreUptoRow.holds Tryd.pinned (OpenSpec.upto mixMoreSpec)

/-- 'panachelaw08.MixSpoilt', WHERE WHAT IT READS IS OF BULK AT MOST 1048576: true; the input reads as it did. -/
def mixSpoiltUptoRow : OpenClaim := { program := "ytofoildhohgngaadoor", sum := "0b4e15bccc82007f0b4f1a2911881307fe537ac62c23a80093ede339f56c9d2f", func := "panache/panachelaw08.MixSpoilt", spec := "mixSpoilt", unfollowed := true, recurses := true, named := ["math/bits.deBruijn32tab", "math/bits.deBruijn64tab"], apart := false, laid := [("math/bits.deBruijn32tab", laid_math_bits_deBruijn32tab), ("math/bits.deBruijn64tab", laid_math_bits_deBruijn64tab)], narrowed := true }
def MixSpoiltUptoSaid : Prop := mixSpoiltUptoRow.holds Tryd.pinned (OpenSpec.upto mixSpoiltSpec)

end Rows
end Go.Proofs.YtofoildhohgngaaDoor
