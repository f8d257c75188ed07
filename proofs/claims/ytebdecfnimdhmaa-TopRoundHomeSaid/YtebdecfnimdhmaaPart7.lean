/-
  A part of the proof that a law returns true for every input that the given row speaks of: an own verified walk over the program (namespace Go.Aw), contracts of the functions that the law calls, and the law itself. Conditions: those of the given row, no other.
-/
import Derived.Test.YtebdecfnimdhmaaPart6
set_option linter.unusedVariables false
set_option linter.unusedSimpArgs false
section
set_option maxRecDepth 20000
set_option maxHeartbeats 4000000
namespace Go.Aw
open Go.RowKit Go.Proofs
end Go.Aw
end
