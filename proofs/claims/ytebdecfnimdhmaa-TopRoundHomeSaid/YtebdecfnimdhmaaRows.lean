/-
  No cell of these rows narrows 'for every input' (looked for: loops, veiled, ifaces, maps, wideKeys, modest, calm, conditions, laid).
  DERIVED. THE GIVEN ROWS OF THIS SEAT. 4 by the template 'for every input the law returns true; each argument reads behind the call as it read before'; 0 by the template 'total and deterministic' (their statements: YtebdecfnimdhmaaTotals.lean).
  GIVEN WITH THE SEED: the statements are not yours to turn. If you find one false, say at which input.
  Laid BY PROGRAM, IN A SANDBOX (cutbox-rows.mjs): the forced cells as the released guide's own fill.sh prints them over the translation 0867a95cf6dbd94b… (all of the seat's roots in one cut). By AI agents, Wed Nov 11 2026. No macro, syntax, notation, axiom, sorry.
-/
import Derived.Test.YtebdecfnimdhmaaChecked
import GoSem.Claim
import GoSem.ClaimJoined
import GoSem.ClaimMapViews
import Derived.JoinedTies
import Derived.KernelRfl
namespace Go.Proofs.Ytebdecfnimdhmaa
/- THE CELL 'sum', in the pinned program and in every row, IS THE sha256 OF THE DUMP (.gsa) THAT YtebdecfnimdhmaaProg.lean LOADS. Nothing in Lean hashes anything: it is a label: what it is worth is what the hold of that sum in a sandbox is worth. -/
noncomputable def Try.pinned : Pinned := { name := "ytebdecfnimdhmaa", sum := "0867a95cf6dbd94bb9832f47479f362c074a101d68c4d26412c39d11daccd574", checked := Try.checked }
namespace Rows
def none {H : Type} : Left H := { results := [], args := [] }

/-- 'panachetop.TopRoundPierced': WHATEVER THE INPUT: true; the input reads as it did. -/
def topRoundPiercedSpec : ChangeSpec := { name := "topRoundPierced", fn := fun _ => fun
  | [d1, d2, d3] => { results := [.lit (.bool true)], args := [d1, d2, d3] }
  | _ => none }
def topRoundPiercedRow : OpenClaim := { program := "ytebdecfnimdhmaa", sum := "0867a95cf6dbd94bb9832f47479f362c074a101d68c4d26412c39d11daccd574", func := "panache/panachetop.TopRoundPierced", spec := "topRoundPierced", unfollowed := true, recurses := true, apart := false }
def TopRoundPiercedSaid : Prop := topRoundPiercedRow.holds Try.pinned (OpenSpec.ofChange topRoundPiercedSpec)

/-- ITS FALSE NEIGHBOUR: 'it returns false'. Refute it at one input. -/
def topRoundPiercedWrong : ChangeSpec := { name := "topRoundPierced", fn := fun _ => fun
  | [d1, d2, d3] => { results := [.lit (.bool false)], args := [d1, d2, d3] }
  | _ => none }
def TopRoundPiercedWrongFalsely : Prop := topRoundPiercedRow.holds Try.pinned (OpenSpec.ofChange topRoundPiercedWrong)

/-- 'panachetop.TopRoundHome': WHATEVER THE INPUT: true; the input reads as it did. -/
def topRoundHomeSpec : ChangeSpec := { name := "topRoundHome", fn := fun _ => fun
  | [d1, d2, d3] => { results := [.lit (.bool true)], args := [d1, d2, d3] }
  | _ => none }
def topRoundHomeRow : OpenClaim := { program := "ytebdecfnimdhmaa", sum := "0867a95cf6dbd94bb9832f47479f362c074a101d68c4d26412c39d11daccd574", func := "panache/panachetop.TopRoundHome", spec := "topRoundHome", unfollowed := true, recurses := true, apart := false }
def TopRoundHomeSaid : Prop := topRoundHomeRow.holds Try.pinned (OpenSpec.ofChange topRoundHomeSpec)

/-- ITS FALSE NEIGHBOUR: 'it returns false'. Refute it at one input. -/
def topRoundHomeWrong : ChangeSpec := { name := "topRoundHome", fn := fun _ => fun
  | [d1, d2, d3] => { results := [.lit (.bool false)], args := [d1, d2, d3] }
  | _ => none }
def TopRoundHomeWrongFalsely : Prop := topRoundHomeRow.holds Try.pinned (OpenSpec.ofChange topRoundHomeWrong)

/-- 'panachetop.TopRoundShare': WHATEVER THE INPUT: true; the input reads as it did. -/
def topRoundShareSpec : ChangeSpec := { name := "topRoundShare", fn := fun _ => fun
  | [d1, d2, d3] => { results := [.lit (.bool true)], args := [d1, d2, d3] }
  | _ => none }
def topRoundShareRow : OpenClaim := { program := "ytebdecfnimdhmaa", sum := "0867a95cf6dbd94bb9832f47479f362c074a101d68c4d26412c39d11daccd574", func := "panache/panachetop.TopRoundShare", spec := "topRoundShare", unfollowed := true, recurses := true, apart := false }
def TopRoundShareSaid : Prop := topRoundShareRow.holds Try.pinned (OpenSpec.ofChange topRoundShareSpec)

/-- ITS FALSE NEIGHBOUR: 'it returns false'. Refute it at one input. -/
def topRoundShareWrong : ChangeSpec := { name := "topRoundShare", fn := fun _ => fun
  | [d1, d2, d3] => { results := [.lit (.bool false)], args := [d1, d2, d3] }
  | _ => none }
def TopRoundShareWrongFalsely : Prop := topRoundShareRow.holds Try.pinned (OpenSpec.ofChange topRoundShareWrong)

/-- 'panachetop.TopRoundBill': WHATEVER THE INPUT: true; the input reads as it did. -/
def topRoundBillSpec : ChangeSpec := { name := "topRoundBill", fn := fun _ => fun
  | [d1, d2, d3] => { results := [.lit (.bool true)], args := [d1, d2, d3] }
  | _ => none }
def topRoundBillRow : OpenClaim := { program := "ytebdecfnimdhmaa", sum := "0867a95cf6dbd94bb9832f47479f362c074a101d68c4d26412c39d11daccd574", func := "panache/panachetop.TopRoundBill", spec := "topRoundBill", unfollowed := true, recurses := true, apart := false }
def TopRoundBillSaid : Prop := topRoundBillRow.holds Try.pinned (OpenSpec.ofChange topRoundBillSpec)

/-- ITS FALSE NEIGHBOUR: 'it returns false'. Refute it at one input. -/
def topRoundBillWrong : ChangeSpec := { name := "topRoundBill", fn := fun _ => fun
  | [d1, d2, d3] => { results := [.lit (.bool false)], args := [d1, d2, d3] }
  | _ => none }
def TopRoundBillWrongFalsely : Prop := topRoundBillRow.holds Try.pinned (OpenSpec.ofChange topRoundBillWrong)

/- THE SECOND FORM. 'bulk': how many values and letters a reading holds, each counted each time it is reached (what is shared counts as often as it is met; a slice's spare places count too). A statement '..UptoSaid' is the law's where the arguments, and the package variables that the reading takes, are together of bulk at most 1048576: NARROWER than '..Said'. Prove '..Said' where nothing that the law and all that it calls make is longer than what came in: it says more and counts as full. Else prove '..UptoSaid'. A law counts once. -/
mutual
def uptoBulk {H : Type} : DataW H → Nat
  | .lit (.string bytes) => bytes.length + 1
  | .lit _ => 1
  | .nil => 1
  | .ptr d => uptoBulk d + 1
  | .slice elems spare => uptoBulkAll elems + uptoBulkAll spare + 1
  | .agg parts => uptoBulkAll parts + 1
  | .iface _ d => uptoBulk d + 1
  | .map entries => uptoBulkEntries entries + 1
  | .held _ => 1
def uptoBulkAll {H : Type} : List (DataW H) → Nat
  | [] => 0
  | d :: r => uptoBulk d + uptoBulkAll r
def uptoBulkEntries {H : Type} : List (Lit × DataW H) → Nat
  | [] => 0
  | x :: r => uptoBulkEntry x + uptoBulkEntries r
def uptoBulkEntry {H : Type} : Lit × DataW H → Nat
  | (.string bytes, d) => bytes.length + uptoBulk d + 1
  | (_, d) => uptoBulk d + 1
 end
def uptoSmall : (H : Type) → List (DataW H) → Bool := fun _ ds => decide (uptoBulkAll ds ≤ 1048576)
def OpenSpec.upto (s : _root_.Go.ChangeSpec) : _root_.Go.OpenSpec := { _root_.Go.OpenSpec.ofChange s with cond := some uptoSmall }

/-- 'panachetop.TopRoundPierced', WHERE WHAT IT READS IS OF BULK AT MOST 1048576: true; the input reads as it did. -/
def topRoundPiercedUptoRow : OpenClaim := { program := "ytebdecfnimdhmaa", sum := "0867a95cf6dbd94bb9832f47479f362c074a101d68c4d26412c39d11daccd574", func := "panache/panachetop.TopRoundPierced", spec := "topRoundPierced", unfollowed := true, recurses := true, apart := false, narrowed := true }
def TopRoundPiercedUptoSaid : Prop := topRoundPiercedUptoRow.holds Try.pinned (OpenSpec.upto topRoundPiercedSpec)

/-- 'panachetop.TopRoundHome', WHERE WHAT IT READS IS OF BULK AT MOST 1048576: true; the input reads as it did. -/
def topRoundHomeUptoRow : OpenClaim := { program := "ytebdecfnimdhmaa", sum := "0867a95cf6dbd94bb9832f47479f362c074a101d68c4d26412c39d11daccd574", func := "panache/panachetop.TopRoundHome", spec := "topRoundHome", unfollowed := true, recurses := true, apart := false, narrowed := true }
def TopRoundHomeUptoSaid : Prop := topRoundHomeUptoRow.holds Try.pinned (OpenSpec.upto topRoundHomeSpec)

/-- 'panachetop.TopRoundShare', WHERE WHAT IT READS IS OF BULK AT MOST 1048576: true; the input reads as it did. -/
def topRoundShareUptoRow : OpenClaim := { program := "ytebdecfnimdhmaa", sum := "0867a95cf6dbd94bb9832f47479f362c074a101d68c4d26412c39d11daccd574", func := "panache/panachetop.TopRoundShare", spec := "topRoundShare", unfollowed := true, recurses := true, apart := false, narrowed := true }
def TopRoundShareUptoSaid : Prop := topRoundShareUptoRow.holds Try.pinned (OpenSpec.upto topRoundShareSpec)

/-- 'panachetop.TopRoundBill', WHERE WHAT IT READS IS OF BULK AT MOST 1048576: true; the input reads as it did. -/
def topRoundBillUptoRow : OpenClaim := { program := "ytebdecfnimdhmaa", sum := "0867a95cf6dbd94bb9832f47479f362c074a101d68c4d26412c39d11daccd574", func := "panache/panachetop.TopRoundBill", spec := "topRoundBill", unfollowed := true, recurses := true, apart := false, narrowed := true }
def TopRoundBillUptoSaid : Prop := topRoundBillUptoRow.holds Try.pinned (OpenSpec.upto topRoundBillSpec)

end Rows
end Go.Proofs.Ytebdecfnimdhmaa
