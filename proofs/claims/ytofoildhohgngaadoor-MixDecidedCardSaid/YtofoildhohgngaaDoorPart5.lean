/-
  A part of the proof that a law returns true for every input that the given row speaks of: an own verified walk over the program (namespace Go.Aw), contracts of the functions that the law calls, and the law itself. Conditions: those of the given row, no other.
-/
import Derived.Test.YtofoildhohgngaaDoorPart4
import Derived.ReadAgain
import Derived.ChangeSame
import Derived.Test.YtofoildhohgngaaDoorTie
import Derived.Test.YtofoildhohgngaaDoorCards
import Derived.SevenTiedAt
import Derived.JoinedOf
import Derived.RowKit
import Derived.RowKitTokens
import Derived.LaidLaws
import Derived.Stop.Joined
import Derived.OpenShut
import Derived.ChangeVars
import Derived.ProofKit
section
set_option linter.unusedVariables false
set_option linter.unusedSimpArgs false
set_option maxRecDepth 20000
set_option maxHeartbeats 4000000
/-! The law's known answers. -/
namespace Go.Aw
open Go.RowKit Go.Proofs

theorem kFits (a b : Int) : Fits knownB (knownC a b) := by
  constructor <;> simp [knownB, knownC]
theorem kCheck1 : checkR knownB (knownC 41 42) = 0 := by decide +kernel
theorem kCheck2 : checkR knownB (knownC 50 60) = 0 := by decide +kernel
theorem kWays1 : allW knownB (knownC 41 42) = [[0, 0, 1, 1], [1, 0, 0, 1]] := by decide +kernel
theorem kWays2 : allW knownB (knownC 50 60) = [] := by decide +kernel
theorem kNe : allW knownB (knownC 41 42) ≠ [] := by rw [kWays1]; exact List.cons_ne_nil _ _
theorem Ct.cast {P : Program} {g : FuncId} {av : List V} {r r' : V} (h : Ct P g av r) (e : r = r') : Ct P g av r' := e ▸ h

theorem k_Ways : Ct Tryd.prog 18 [encLoad knownB (knownC 41 42)] (.tup [int 2, .sl 1 (([0, 0, 1, 1] : List Int).map encI) false, int 0]) :=
  Ct.cast (Ways_ok _ _ (kFits 41 42) kCheck1 kNe) (by rw [kWays1]; rfl)
theorem k_Can : Ct Tryd.prog 19 [encLoad knownB (knownC 41 42)] (.tup [.sl 1 (([3, 1, 3, 2] : List Int).map encI) true, int 0]) :=
  Ct.cast (Can_ok _ _ (kFits 41 42) kCheck1 kNe) (by rw [kWays1, show canI [[0, 0, 1, 1], [1, 0, 0, 1]] knownB.length ([[0, 0, 1, 1], [1, 0, 0, 1]] : List (List Int)).length = [3, 1, 3, 2] from by decide +kernel])
theorem k_Tog1 : Ct Tryd.prog 24 [encLoad knownB (knownC 41 42), int 1, int 3] (.tup [.lit (.bool false), .lit (.bool false), int 0]) :=
  Ct.cast (Together_ok _ _ 1 3 (kFits 41 42) kCheck1 kNe (by decide +kernel) (by decide)) (by rw [kWays1]; rfl)
theorem k_Tog2 : Ct Tryd.prog 24 [encLoad knownB (knownC 41 42), int 0, int 1] (.tup [.lit (.bool false), .lit (.bool true), int 0]) :=
  Ct.cast (Together_ok _ _ 0 1 (kFits 41 42) kCheck1 kNe (by decide +kernel) (by decide)) (by rw [kWays1]; rfl)
theorem k_Worth : Ct Tryd.prog 26 [encLoad knownB (knownC 41 42), int 1] (.tup [int 2, int 0]) :=
  Ct.cast (Worth_ok _ _ 1 (kFits 41 42) kCheck1 kNe (by decide)) (by rw [kWays1]; rfl)
theorem k_Ask : Ct Tryd.prog 27 [encLoad knownB (knownC 41 42)] (.tup [int 0, int 1, int 0]) :=
  Ct.cast (Ask_ok _ _ (kFits 41 42) kCheck1 (by rw [kWays1]; decide)) (by rw [kWays1, show askTo [[0, 0, 1, 1], [1, 0, 0, 1]] knownB.length = (0, 1) from by decide +kernel])
theorem k_Questions : Ct Tryd.prog 29 [encLoad knownB (knownC 41 42)] (.tup [int 1, int 0, int 0]) :=
  Ct.cast (Questions_ok _ _ (kFits 41 42) kCheck1 kNe (by rw [kWays1]; decide) 1 (by rw [kWays1]; decide +kernel) (by rw [kWays1]; decide +kernel)) (by rw [kWays1, show (decR knownB.length 1 [[0, 0, 1, 1], [1, 0, 0, 1]]).1 = 0 from by decide +kernel]; rfl)
theorem k_Wrong : Ct Tryd.prog 31 [encLoad knownB (knownC 50 60)] (.tup [.sl 1 (([0] : List Int).map encI) false, int 0]) :=
  Ct.cast (Wrong_ok _ _ (kFits 50 60) kCheck2 kWays2) (by rw [show wrongTo (isPos knownB (knownC 50 60)) (2 ^ knownB.length) = some [0] from by decide +kernel]; rfl)
theorem k_Short : Ct Tryd.prog 33 [encLoad knownB (knownC 41 42)] (.tup [.sl 2 (([(-3, 4)] : List (Int × Int)).map encS) false, int 0]) :=
  Ct.cast (Short_ok _ _ (kFits 41 42) kCheck1) (by rw [show shorts knownB (knownC 41 42) (stuffs (knownC 41 42)) = [(-3, 4)] from by decide +kernel])
theorem k_Share : Ct Tryd.prog 34 [encLoad knownB (knownC 41 42), int 1, int 0] (.tup [.agg (encS (41, 42)), int 0]) :=
  Ct.cast (Share_ok _ _ 1 0 (kFits 41 42) kCheck1 kNe (by decide) (by decide)) (by rw [kWays1, show shareTo knownB (knownC 41 42) 1 0 [[0, 0, 1, 1], [1, 0, 0, 1]] ([[0, 0, 1, 1], [1, 0, 0, 1]] : List (List Int)).length = (41, 42) from by decide +kernel])
theorem k_No : Ct Tryd.prog 18 [encLoad knownB (knownC 50 60)] (.tup [int 0, nilV, int 9]) := Ways_no _ _ (kFits 50 60) 9 (.none kCheck2 kWays2)
theorem kPu (a b : Int) : Pu (encLoad knownB (knownC a b)) := by first | assumption | (simp only [go_sem] <;> assumption) | (simp only [go_sem, *]; done) | (simp [go_sem]; done)

theorem known_spec : Ct Tryd.prog 15 [] (.lit (.bool true)) := by
  have h1 := load_spec 41 42
  have h2 := load_spec 50 60
  refine ct_enterZ Tryd.func15 rfl (by decide) Tryd.results15 Tryd.ntmps15 ?_ rfl (by simp (maxSteps := 1000000) -implicitDefEqProofs (disch := omega) only [go_sem]; rfl) fun base => ?_
  · first | assumption | (simp only [go_sem] <;> assumption) | (simp only [go_sem, *]; done) | (simp [go_sem]; done)
  repeat' (first
    | (with_reducible apply Req_intro); focus (first | omega | assumption | (simp; done))
    | with_reducible (first | apply Req_intro | refine nilT ?_ fun hn => ?_ | apply wk_draw Tryd_mixed | refine drawEnd (by kernel_rfl) ?_)
    | (with_reducible (first | apply condA_if | apply stepDG_ifN | apply stepDG_if | apply stepG_ifN | apply stepG_if)) <;> intro hb <;> (have hif := hb) <;> (try simp only [bo] at hif) <;> (try simp -implicitDefEqProofs (disch := omega) only [go_sem, hb]) <;> clear hb
    | simp (maxSteps := 1000000) -implicitDefEqProofs (disch := omega) only [go_sem])
  refine callp h1 ?_
  try simp (maxSteps := 1000000) -implicitDefEqProofs (disch := omega) only [go_sem]
  repeat' (first
    | (with_reducible apply Req_intro); focus (first | omega | assumption | (simp; done))
    | with_reducible (first | apply Req_intro | refine nilT ?_ fun hn => ?_ | apply wk_draw Tryd_mixed | refine drawEnd (by kernel_rfl) ?_)
    | (with_reducible (first | apply condA_if | apply stepDG_ifN | apply stepDG_if | apply stepG_ifN | apply stepG_if)) <;> intro hb <;> (have hif := hb) <;> (try simp only [bo] at hif) <;> (try simp -implicitDefEqProofs (disch := omega) only [go_sem, hb]) <;> clear hb
    | simp (maxSteps := 1000000) -implicitDefEqProofs (disch := omega) only [go_sem])
  refine callp k_Ways ?_
  try simp (maxSteps := 1000000) -implicitDefEqProofs (disch := omega) only [go_sem]
  repeat' (first
    | (with_reducible apply Req_intro); focus (first | omega | assumption | (simp; done))
    | with_reducible (first | apply Req_intro | refine nilT ?_ fun hn => ?_ | apply wk_draw Tryd_mixed | refine drawEnd (by kernel_rfl) ?_)
    | (with_reducible (first | apply condA_if | apply stepDG_ifN | apply stepDG_if | apply stepG_ifN | apply stepG_if)) <;> intro hb <;> (have hif := hb) <;> (try simp only [bo] at hif) <;> (try simp -implicitDefEqProofs (disch := omega) only [go_sem, hb]) <;> clear hb
    | simp (maxSteps := 1000000) -implicitDefEqProofs (disch := omega) only [go_sem])
  refine callp h1 ?_
  try simp (maxSteps := 1000000) -implicitDefEqProofs (disch := omega) only [go_sem]
  repeat' (first
    | (with_reducible apply Req_intro); focus (first | omega | assumption | (simp; done))
    | with_reducible (first | apply Req_intro | refine nilT ?_ fun hn => ?_ | apply wk_draw Tryd_mixed | refine drawEnd (by kernel_rfl) ?_)
    | (with_reducible (first | apply condA_if | apply stepDG_ifN | apply stepDG_if | apply stepG_ifN | apply stepG_if)) <;> intro hb <;> (have hif := hb) <;> (try simp only [bo] at hif) <;> (try simp -implicitDefEqProofs (disch := omega) only [go_sem, hb]) <;> clear hb
    | simp (maxSteps := 1000000) -implicitDefEqProofs (disch := omega) only [go_sem])
  refine callp k_Can ?_
  try simp (maxSteps := 1000000) -implicitDefEqProofs (disch := omega) only [go_sem]
  repeat' (first
    | (with_reducible apply Req_intro); focus (first | omega | assumption | (simp; done))
    | with_reducible (first | apply Req_intro | refine nilT ?_ fun hn => ?_ | apply wk_draw Tryd_mixed | refine drawEnd (by kernel_rfl) ?_)
    | (with_reducible (first | apply condA_if | apply stepDG_ifN | apply stepDG_if | apply stepG_ifN | apply stepG_if)) <;> intro hb <;> (have hif := hb) <;> (try simp only [bo] at hif) <;> (try simp -implicitDefEqProofs (disch := omega) only [go_sem, hb]) <;> clear hb
    | simp (maxSteps := 1000000) -implicitDefEqProofs (disch := omega) only [go_sem])
  refine callp h1 ?_
  try simp (maxSteps := 1000000) -implicitDefEqProofs (disch := omega) only [go_sem]
  repeat' (first
    | (with_reducible apply Req_intro); focus (first | omega | assumption | (simp; done))
    | with_reducible (first | apply Req_intro | refine nilT ?_ fun hn => ?_ | apply wk_draw Tryd_mixed | refine drawEnd (by kernel_rfl) ?_)
    | (with_reducible (first | apply condA_if | apply stepDG_ifN | apply stepDG_if | apply stepG_ifN | apply stepG_if)) <;> intro hb <;> (have hif := hb) <;> (try simp only [bo] at hif) <;> (try simp -implicitDefEqProofs (disch := omega) only [go_sem, hb]) <;> clear hb
    | simp (maxSteps := 1000000) -implicitDefEqProofs (disch := omega) only [go_sem])
  refine callp k_Tog1 ?_
  try simp (maxSteps := 1000000) -implicitDefEqProofs (disch := omega) only [go_sem]
  repeat' (first
    | (with_reducible apply Req_intro); focus (first | omega | assumption | (simp; done))
    | with_reducible (first | apply Req_intro | refine nilT ?_ fun hn => ?_ | apply wk_draw Tryd_mixed | refine drawEnd (by kernel_rfl) ?_)
    | (with_reducible (first | apply condA_if | apply stepDG_ifN | apply stepDG_if | apply stepG_ifN | apply stepG_if)) <;> intro hb <;> (have hif := hb) <;> (try simp only [bo] at hif) <;> (try simp -implicitDefEqProofs (disch := omega) only [go_sem, hb]) <;> clear hb
    | simp (maxSteps := 1000000) -implicitDefEqProofs (disch := omega) only [go_sem])
  refine callp h1 ?_
  try simp (maxSteps := 1000000) -implicitDefEqProofs (disch := omega) only [go_sem]
  repeat' (first
    | (with_reducible apply Req_intro); focus (first | omega | assumption | (simp; done))
    | with_reducible (first | apply Req_intro | refine nilT ?_ fun hn => ?_ | apply wk_draw Tryd_mixed | refine drawEnd (by kernel_rfl) ?_)
    | (with_reducible (first | apply condA_if | apply stepDG_ifN | apply stepDG_if | apply stepG_ifN | apply stepG_if)) <;> intro hb <;> (have hif := hb) <;> (try simp only [bo] at hif) <;> (try simp -implicitDefEqProofs (disch := omega) only [go_sem, hb]) <;> clear hb
    | simp (maxSteps := 1000000) -implicitDefEqProofs (disch := omega) only [go_sem])
  refine callp k_Tog2 ?_
  try simp (maxSteps := 1000000) -implicitDefEqProofs (disch := omega) only [go_sem]
  repeat' (first
    | (with_reducible apply Req_intro); focus (first | omega | assumption | (simp; done))
    | with_reducible (first | apply Req_intro | refine nilT ?_ fun hn => ?_ | apply wk_draw Tryd_mixed | refine drawEnd (by kernel_rfl) ?_)
    | (with_reducible (first | apply condA_if | apply stepDG_ifN | apply stepDG_if | apply stepG_ifN | apply stepG_if)) <;> intro hb <;> (have hif := hb) <;> (try simp only [bo] at hif) <;> (try simp -implicitDefEqProofs (disch := omega) only [go_sem, hb]) <;> clear hb
    | simp (maxSteps := 1000000) -implicitDefEqProofs (disch := omega) only [go_sem])
  refine callp h1 ?_
  try simp (maxSteps := 1000000) -implicitDefEqProofs (disch := omega) only [go_sem]
  repeat' (first
    | (with_reducible apply Req_intro); focus (first | omega | assumption | (simp; done))
    | with_reducible (first | apply Req_intro | refine nilT ?_ fun hn => ?_ | apply wk_draw Tryd_mixed | refine drawEnd (by kernel_rfl) ?_)
    | (with_reducible (first | apply condA_if | apply stepDG_ifN | apply stepDG_if | apply stepG_ifN | apply stepG_if)) <;> intro hb <;> (have hif := hb) <;> (try simp only [bo] at hif) <;> (try simp -implicitDefEqProofs (disch := omega) only [go_sem, hb]) <;> clear hb
    | simp (maxSteps := 1000000) -implicitDefEqProofs (disch := omega) only [go_sem])
  refine callp k_Worth ?_
  try simp (maxSteps := 1000000) -implicitDefEqProofs (disch := omega) only [go_sem]
  repeat' (first
    | (with_reducible apply Req_intro); focus (first | omega | assumption | (simp; done))
    | with_reducible (first | apply Req_intro | refine nilT ?_ fun hn => ?_ | apply wk_draw Tryd_mixed | refine drawEnd (by kernel_rfl) ?_)
    | (with_reducible (first | apply condA_if | apply stepDG_ifN | apply stepDG_if | apply stepG_ifN | apply stepG_if)) <;> intro hb <;> (have hif := hb) <;> (try simp only [bo] at hif) <;> (try simp -implicitDefEqProofs (disch := omega) only [go_sem, hb]) <;> clear hb
    | simp (maxSteps := 1000000) -implicitDefEqProofs (disch := omega) only [go_sem])
  refine callp h1 ?_
  try simp (maxSteps := 1000000) -implicitDefEqProofs (disch := omega) only [go_sem]
  repeat' (first
    | (with_reducible apply Req_intro); focus (first | omega | assumption | (simp; done))
    | with_reducible (first | apply Req_intro | refine nilT ?_ fun hn => ?_ | apply wk_draw Tryd_mixed | refine drawEnd (by kernel_rfl) ?_)
    | (with_reducible (first | apply condA_if | apply stepDG_ifN | apply stepDG_if | apply stepG_ifN | apply stepG_if)) <;> intro hb <;> (have hif := hb) <;> (try simp only [bo] at hif) <;> (try simp -implicitDefEqProofs (disch := omega) only [go_sem, hb]) <;> clear hb
    | simp (maxSteps := 1000000) -implicitDefEqProofs (disch := omega) only [go_sem])
  refine callp k_Ask ?_
  try simp (maxSteps := 1000000) -implicitDefEqProofs (disch := omega) only [go_sem]
  repeat' (first
    | (with_reducible apply Req_intro); focus (first | omega | assumption | (simp; done))
    | with_reducible (first | apply Req_intro | refine nilT ?_ fun hn => ?_ | apply wk_draw Tryd_mixed | refine drawEnd (by kernel_rfl) ?_)
    | (with_reducible (first | apply condA_if | apply stepDG_ifN | apply stepDG_if | apply stepG_ifN | apply stepG_if)) <;> intro hb <;> (have hif := hb) <;> (try simp only [bo] at hif) <;> (try simp -implicitDefEqProofs (disch := omega) only [go_sem, hb]) <;> clear hb
    | simp (maxSteps := 1000000) -implicitDefEqProofs (disch := omega) only [go_sem])
  refine callp h1 ?_
  try simp (maxSteps := 1000000) -implicitDefEqProofs (disch := omega) only [go_sem]
  repeat' (first
    | (with_reducible apply Req_intro); focus (first | omega | assumption | (simp; done))
    | with_reducible (first | apply Req_intro | refine nilT ?_ fun hn => ?_ | apply wk_draw Tryd_mixed | refine drawEnd (by kernel_rfl) ?_)
    | (with_reducible (first | apply condA_if | apply stepDG_ifN | apply stepDG_if | apply stepG_ifN | apply stepG_if)) <;> intro hb <;> (have hif := hb) <;> (try simp only [bo] at hif) <;> (try simp -implicitDefEqProofs (disch := omega) only [go_sem, hb]) <;> clear hb
    | simp (maxSteps := 1000000) -implicitDefEqProofs (disch := omega) only [go_sem])
  refine callp k_Questions ?_
  try simp (maxSteps := 1000000) -implicitDefEqProofs (disch := omega) only [go_sem]
  repeat' (first
    | (with_reducible apply Req_intro); focus (first | omega | assumption | (simp; done))
    | with_reducible (first | apply Req_intro | refine nilT ?_ fun hn => ?_ | apply wk_draw Tryd_mixed | refine drawEnd (by kernel_rfl) ?_)
    | (with_reducible (first | apply condA_if | apply stepDG_ifN | apply stepDG_if | apply stepG_ifN | apply stepG_if)) <;> intro hb <;> (have hif := hb) <;> (try simp only [bo] at hif) <;> (try simp -implicitDefEqProofs (disch := omega) only [go_sem, hb]) <;> clear hb
    | simp (maxSteps := 1000000) -implicitDefEqProofs (disch := omega) only [go_sem])
  refine callp h2 ?_
  try simp (maxSteps := 1000000) -implicitDefEqProofs (disch := omega) only [go_sem]
  repeat' (first
    | (with_reducible apply Req_intro); focus (first | omega | assumption | (simp; done))
    | with_reducible (first | apply Req_intro | refine nilT ?_ fun hn => ?_ | apply wk_draw Tryd_mixed | refine drawEnd (by kernel_rfl) ?_)
    | (with_reducible (first | apply condA_if | apply stepDG_ifN | apply stepDG_if | apply stepG_ifN | apply stepG_if)) <;> intro hb <;> (have hif := hb) <;> (try simp only [bo] at hif) <;> (try simp -implicitDefEqProofs (disch := omega) only [go_sem, hb]) <;> clear hb
    | simp (maxSteps := 1000000) -implicitDefEqProofs (disch := omega) only [go_sem])
  refine callp k_Wrong ?_
  try simp (maxSteps := 1000000) -implicitDefEqProofs (disch := omega) only [go_sem]
  repeat' (first
    | (with_reducible apply Req_intro); focus (first | omega | assumption | (simp; done))
    | with_reducible (first | apply Req_intro | refine nilT ?_ fun hn => ?_ | apply wk_draw Tryd_mixed | refine drawEnd (by kernel_rfl) ?_)
    | (with_reducible (first | apply condA_if | apply stepDG_ifN | apply stepDG_if | apply stepG_ifN | apply stepG_if)) <;> intro hb <;> (have hif := hb) <;> (try simp only [bo] at hif) <;> (try simp -implicitDefEqProofs (disch := omega) only [go_sem, hb]) <;> clear hb
    | simp (maxSteps := 1000000) -implicitDefEqProofs (disch := omega) only [go_sem])
  refine callp h1 ?_
  try simp (maxSteps := 1000000) -implicitDefEqProofs (disch := omega) only [go_sem]
  repeat' (first
    | (with_reducible apply Req_intro); focus (first | omega | assumption | (simp; done))
    | with_reducible (first | apply Req_intro | refine nilT ?_ fun hn => ?_ | apply wk_draw Tryd_mixed | refine drawEnd (by kernel_rfl) ?_)
    | (with_reducible (first | apply condA_if | apply stepDG_ifN | apply stepDG_if | apply stepG_ifN | apply stepG_if)) <;> intro hb <;> (have hif := hb) <;> (try simp only [bo] at hif) <;> (try simp -implicitDefEqProofs (disch := omega) only [go_sem, hb]) <;> clear hb
    | simp (maxSteps := 1000000) -implicitDefEqProofs (disch := omega) only [go_sem])
  refine callp k_Short ?_
  try simp (maxSteps := 1000000) -implicitDefEqProofs (disch := omega) only [go_sem]
  repeat' (first
    | (with_reducible apply Req_intro); focus (first | omega | assumption | (simp; done))
    | with_reducible (first | apply Req_intro | refine nilT ?_ fun hn => ?_ | apply wk_draw Tryd_mixed | refine drawEnd (by kernel_rfl) ?_)
    | (with_reducible (first | apply condA_if | apply stepDG_ifN | apply stepDG_if | apply stepG_ifN | apply stepG_if)) <;> intro hb <;> (have hif := hb) <;> (try simp only [bo] at hif) <;> (try simp -implicitDefEqProofs (disch := omega) only [go_sem, hb]) <;> clear hb
    | simp (maxSteps := 1000000) -implicitDefEqProofs (disch := omega) only [go_sem])
  refine callp h1 ?_
  try simp (maxSteps := 1000000) -implicitDefEqProofs (disch := omega) only [go_sem]
  repeat' (first
    | (with_reducible apply Req_intro); focus (first | omega | assumption | (simp; done))
    | with_reducible (first | apply Req_intro | refine nilT ?_ fun hn => ?_ | apply wk_draw Tryd_mixed | refine drawEnd (by kernel_rfl) ?_)
    | (with_reducible (first | apply condA_if | apply stepDG_ifN | apply stepDG_if | apply stepG_ifN | apply stepG_if)) <;> intro hb <;> (have hif := hb) <;> (try simp only [bo] at hif) <;> (try simp -implicitDefEqProofs (disch := omega) only [go_sem, hb]) <;> clear hb
    | simp (maxSteps := 1000000) -implicitDefEqProofs (disch := omega) only [go_sem])
  refine callp k_Share ?_
  try simp (maxSteps := 1000000) -implicitDefEqProofs (disch := omega) only [go_sem]
  repeat' (first
    | (with_reducible apply Req_intro); focus (first | omega | assumption | (simp; done))
    | with_reducible (first | apply Req_intro | refine nilT ?_ fun hn => ?_ | apply wk_draw Tryd_mixed | refine drawEnd (by kernel_rfl) ?_)
    | (with_reducible (first | apply condA_if | apply stepDG_ifN | apply stepDG_if | apply stepG_ifN | apply stepG_if)) <;> intro hb <;> (have hif := hb) <;> (try simp only [bo] at hif) <;> (try simp -implicitDefEqProofs (disch := omega) only [go_sem, hb]) <;> clear hb
    | simp (maxSteps := 1000000) -implicitDefEqProofs (disch := omega) only [go_sem])
  refine callp h2 ?_
  try simp (maxSteps := 1000000) -implicitDefEqProofs (disch := omega) only [go_sem]
  repeat' (first
    | (with_reducible apply Req_intro); focus (first | omega | assumption | (simp; done))
    | with_reducible (first | apply Req_intro | refine nilT ?_ fun hn => ?_ | apply wk_draw Tryd_mixed | refine drawEnd (by kernel_rfl) ?_)
    | (with_reducible (first | apply condA_if | apply stepDG_ifN | apply stepDG_if | apply stepG_ifN | apply stepG_if)) <;> intro hb <;> (have hif := hb) <;> (try simp only [bo] at hif) <;> (try simp -implicitDefEqProofs (disch := omega) only [go_sem, hb]) <;> clear hb
    | simp (maxSteps := 1000000) -implicitDefEqProofs (disch := omega) only [go_sem])
  refine callp k_No ?_
  try simp (maxSteps := 1000000) -implicitDefEqProofs (disch := omega) only [go_sem]
  repeat' (first
    | (with_reducible apply Req_intro); focus (first | omega | assumption | (simp; done))
    | with_reducible (first | apply Req_intro | refine nilT ?_ fun hn => ?_ | apply wk_draw Tryd_mixed | refine drawEnd (by kernel_rfl) ?_)
    | (with_reducible (first | apply condA_if | apply stepDG_ifN | apply stepDG_if | apply stepG_ifN | apply stepG_if)) <;> intro hb <;> (have hif := hb) <;> (try simp only [bo] at hif) <;> (try simp -implicitDefEqProofs (disch := omega) only [go_sem, hb]) <;> clear hb
    | simp (maxSteps := 1000000) -implicitDefEqProofs (disch := omega) only [go_sem])
  refine callc (Ints_spec [0, 0, 1, 1] [0, 0, 1, 1] _ _ (by decide) (by decide)) ?_
  try simp (maxSteps := 1000000) -implicitDefEqProofs (disch := omega) only [go_sem]
  repeat' (first
    | (with_reducible apply Req_intro); focus (first | omega | assumption | (simp; done))
    | with_reducible (first | apply Req_intro | refine nilT ?_ fun hn => ?_ | apply wk_draw Tryd_mixed | refine drawEnd (by kernel_rfl) ?_)
    | (with_reducible (first | apply condA_if | apply stepDG_ifN | apply stepDG_if | apply stepG_ifN | apply stepG_if)) <;> intro hb <;> (have hif := hb) <;> (try simp only [bo] at hif) <;> (try simp -implicitDefEqProofs (disch := omega) only [go_sem, hb]) <;> clear hb
    | simp (maxSteps := 1000000) -implicitDefEqProofs (disch := omega) only [go_sem])
  refine callc (Ints_spec [3, 1, 3, 2] [3, 1, 3, 2] _ _ (by decide) (by decide)) ?_
  try simp (maxSteps := 1000000) -implicitDefEqProofs (disch := omega) only [go_sem]
  repeat' (first
    | (with_reducible apply Req_intro); focus (first | omega | assumption | (simp; done))
    | with_reducible (first | apply Req_intro | refine nilT ?_ fun hn => ?_ | apply wk_draw Tryd_mixed | refine drawEnd (by kernel_rfl) ?_)
    | (with_reducible (first | apply condA_if | apply stepDG_ifN | apply stepDG_if | apply stepG_ifN | apply stepG_if)) <;> intro hb <;> (have hif := hb) <;> (try simp only [bo] at hif) <;> (try simp -implicitDefEqProofs (disch := omega) only [go_sem, hb]) <;> clear hb
    | simp (maxSteps := 1000000) -implicitDefEqProofs (disch := omega) only [go_sem])
  refine calldf 11584 (Ints_spec [0] [0] false true (by decide) (by decide)) ?_
  try simp (maxSteps := 1000000) -implicitDefEqProofs (disch := omega) only [go_sem]
  repeat' (first
    | (with_reducible apply Req_intro); focus (first | omega | assumption | (simp; done))
    | with_reducible (first | apply Req_intro | refine nilT ?_ fun hn => ?_ | apply wk_draw Tryd_mixed | refine drawEnd (by kernel_rfl) ?_)
    | (with_reducible (first | apply condA_if | apply stepDG_ifN | apply stepDG_if | apply stepG_ifN | apply stepG_if)) <;> intro hb <;> (have hif := hb) <;> (try simp only [bo] at hif) <;> (try simp -implicitDefEqProofs (disch := omega) only [go_sem, hb]) <;> clear hb
    | simp (maxSteps := 1000000) -implicitDefEqProofs (disch := omega) only [go_sem])
  refine calld (span_spec (-3) 4) ?_
  try simp (maxSteps := 1000000) -implicitDefEqProofs (disch := omega) only [go_sem]
  repeat' (first
    | (with_reducible apply Req_intro); focus (first | omega | assumption | (simp; done))
    | with_reducible (first | apply Req_intro | refine nilT ?_ fun hn => ?_ | apply wk_draw Tryd_mixed | refine drawEnd (by kernel_rfl) ?_)
    | (with_reducible (first | apply condA_if | apply stepDG_ifN | apply stepDG_if | apply stepG_ifN | apply stepG_if)) <;> intro hb <;> (have hif := hb) <;> (try simp only [bo] at hif) <;> (try simp -implicitDefEqProofs (disch := omega) only [go_sem, hb]) <;> clear hb
    | simp (maxSteps := 1000000) -implicitDefEqProofs (disch := omega) only [go_sem])
  refine calldf 11904 (At_spec [(-3, 4)] [(-3, 4)] false true (by decide) (by decide)) ?_
  try simp (maxSteps := 1000000) -implicitDefEqProofs (disch := omega) only [go_sem]
  repeat' (first
    | (with_reducible apply Req_intro); focus (first | omega | assumption | (simp; done))
    | with_reducible (first | apply Req_intro | refine nilT ?_ fun hn => ?_ | apply wk_draw Tryd_mixed | refine drawEnd (by kernel_rfl) ?_)
    | (with_reducible (first | apply condA_if | apply stepDG_ifN | apply stepDG_if | apply stepG_ifN | apply stepG_if)) <;> intro hb <;> (have hif := hb) <;> (try simp only [bo] at hif) <;> (try simp -implicitDefEqProofs (disch := omega) only [go_sem, hb]) <;> clear hb
    | simp (maxSteps := 1000000) -implicitDefEqProofs (disch := omega) only [go_sem])
  refine calld (span_spec 41 42) ?_
  try simp (maxSteps := 1000000) -implicitDefEqProofs (disch := omega) only [go_sem]
  repeat' (first
    | (with_reducible apply Req_intro); focus (first | omega | assumption | (simp; done))
    | with_reducible (first | apply Req_intro | refine nilT ?_ fun hn => ?_ | apply wk_draw Tryd_mixed | refine drawEnd (by kernel_rfl) ?_)
    | (with_reducible (first | apply condA_if | apply stepDG_ifN | apply stepDG_if | apply stepG_ifN | apply stepG_if)) <;> intro hb <;> (have hif := hb) <;> (try simp only [bo] at hif) <;> (try simp -implicitDefEqProofs (disch := omega) only [go_sem, hb]) <;> clear hb
    | simp (maxSteps := 1000000) -implicitDefEqProofs (disch := omega) only [go_sem])
  exact retz []
end Go.Aw
end
section
set_option linter.unusedVariables false
set_option linter.unusedSimpArgs false
set_option maxRecDepth 20000
set_option maxHeartbeats 4000000
/-! The law MixWays. -/
namespace Go.Aw
open Go.RowKit Go.Proofs

theorem SizeOk.fits {bs : List Box} {cs : List Bill} (h : SizeOk bs cs) : Fits bs cs :=
  ⟨fun b hb => Nat.le_trans (h.lb b hb) (by decide), fun c hc => Nat.le_trans (h.lc c hc) (by decide)⟩
theorem lopen_no (bs : List Box) (cs : List Bill) (hz : SizeOk bs cs) (e : Int) (h : OpenIs bs cs e) : Ct Tryd.prog 22 [encLoad bs cs] (.tup [nilV, int e]) := by
  cases h with
  | err h => exact lopen_err bs cs hz h
  | none h hn => exact lopen_none bs cs hz h hn
theorem open_cases (bs : List Box) (cs : List Bill) : (∃ e, OpenIs bs cs e) ∨ (checkR bs cs = 0 ∧ allW bs cs ≠ []) := by
  by_cases h : checkR bs cs = 0
  · by_cases hn : allW bs cs = []
    · exact .inl ⟨_, .none h hn⟩
    · exact .inr ⟨h, hn⟩
  · exact .inl ⟨_, .err h⟩
theorem Same_true (bs : List Box) (cs : List Bill) (hz : SizeOk bs cs) : Ct Tryd.prog 20 [encLoad bs cs, encLoad bs cs] (.lit (.bool true)) :=
  Ct.cast (Same_spec bs bs cs cs hz hz) (by simp)
theorem Ints_true (a : List Int) (e f : Bool) (h : a.length ≤ 4611686018427387904) : Ct Tryd.prog 23 [.sl 1 (a.map encI) e, .sl 1 (a.map encI) f] (.lit (.bool true)) :=
  Ct.cast (Ints_spec a a e f h h) (by simp)

/-- The carriers of a box, by bits. -/
def bitsTo (ws : List (List Int)) (i : Nat) : Nat → Int
  | 0 => 0
  | k + 1 => orI (bitsTo ws i k) ((ws.getD k default).getD i default)

theorem canJ_get (l w : List Int) (i : Nat) : ∀ j, j ≤ l.length → i < l.length → (canJ l w j).getD i default = if i < j then orI (l.getD i default) (w.getD i default) else l.getD i default
  | 0, _, _ => by simp [canJ]
  | j + 1, h, hi => by
    have ih := canJ_get l w i j (by omega) hi
    have hlen := canJ_len l w j
    rw [canJ]
    by_cases hij : i = j
    · subst hij
      rw [if_neg (Nat.lt_irrefl _)] at ih
      rw [if_pos (by omega), ← ih]
      rw [getD_default (by rw [List.length_set]; omega), List.getElem_set_self]
    · rw [getD_default (by rw [List.length_set]; omega), List.getElem_set_ne (by omega), ← getD_default (by omega), ih]
      by_cases h1 : i < j
      · rw [if_pos h1, if_pos (by omega)]
      · rw [if_neg h1, if_neg (by omega)]
theorem canI_get (ws : List (List Int)) (n i : Nat) (hi : i < n) : ∀ m, (canI ws n m).getD i default = bitsTo ws i m
  | 0 => by
    rw [canI, getD_default (by simpa using hi), List.getElem_replicate]; rfl
  | m + 1 => by
    rw [canI, canJ_get _ _ _ _ (by rw [canI_len]; exact Nat.le_refl _) (by rw [canI_len]; exact hi), if_pos hi, bitsTo, canI_get ws n i hi m]

theorem MixWays_spec (bs : List Box) (cs : List Bill) (hb : bs.length ≤ 4611686018427387904) (hc : cs.length ≤ 4611686018427387904) : Ct Tryd.prog 3 [encLoad bs cs] (.lit (.bool true)) := by
  have hlg := large_spec bs cs 7 hb hc
  refine fn_enter Tryd.func3 rfl (by decide) Tryd.results3 Tryd.ntmps3 ?_ rfl (by simp (maxSteps := 1000000) -implicitDefEqProofs (disch := omega) only [go_sem]; rfl) fun base => ?_
  · first | assumption | (simp only [go_sem] <;> assumption) | (simp only [go_sem, *]; done) | (simp [go_sem]; done)
  repeat' (first
    | (with_reducible apply Req_intro); focus (first | omega | assumption | (simp; done))
    | with_reducible (first | apply Req_intro | refine nilT ?_ fun hn => ?_ | apply wk_draw Tryd_mixed | refine drawEnd (by kernel_rfl) ?_)
    | (with_reducible (first | apply condA_if | apply stepDG_ifN | apply stepDG_if | apply stepG_ifN | apply stepG_if)) <;> intro hb <;> (have hif := hb) <;> (try simp only [bo] at hif) <;> (try simp -implicitDefEqProofs (disch := omega) only [go_sem, hb]) <;> clear hb
    | simp (maxSteps := 1000000) -implicitDefEqProofs (disch := omega) only [go_sem])
  refine callp hlg ?_
  try simp (maxSteps := 1000000) -implicitDefEqProofs (disch := omega) only [go_sem]
  repeat' (first
    | (with_reducible apply Req_intro); focus (first | omega | assumption | (simp; done))
    | with_reducible (first | apply Req_intro | refine nilT ?_ fun hn => ?_ | apply wk_draw Tryd_mixed | refine drawEnd (by kernel_rfl) ?_)
    | (with_reducible (first | apply condA_if | apply stepDG_ifN | apply stepDG_if | apply stepG_ifN | apply stepG_if)) <;> intro hb <;> (have hif := hb) <;> (try simp only [bo] at hif) <;> (try simp -implicitDefEqProofs (disch := omega) only [go_sem, hb]) <;> clear hb
    | simp (maxSteps := 1000000) -implicitDefEqProofs (disch := omega) only [go_sem])
  · refine callp known_spec ?_
    try simp (maxSteps := 1000000) -implicitDefEqProofs (disch := omega) only [go_sem]
    repeat' (first
      | (with_reducible apply Req_intro); focus (first | omega | assumption | (simp; done))
      | with_reducible (first | apply Req_intro | refine nilT ?_ fun hn => ?_ | apply wk_draw Tryd_mixed | refine drawEnd (by kernel_rfl) ?_)
      | (with_reducible (first | apply condA_if | apply stepDG_ifN | apply stepDG_if | apply stepG_ifN | apply stepG_if)) <;> intro hb <;> (have hif := hb) <;> (try simp only [bo] at hif) <;> (try simp -implicitDefEqProofs (disch := omega) only [go_sem, hb]) <;> clear hb
      | simp (maxSteps := 1000000) -implicitDefEqProofs (disch := omega) only [go_sem])
    refine ret_do ?_
    rfl
  have hz : SizeOk bs cs := by
    refine bigR_false ?_
    have := hif
    simp only [largeR, Bool.or_eq_false_iff] at this
    exact this.1
  obtain ⟨hnb, hnc, hlb, hlc⟩ := id hz
  have hck := Check_spec bs cs hz.fits.b hz.fits.c
  have hrk := RCheck_spec bs cs hz
  refine callp (Copy_spec bs cs hz) ?_
  try simp (maxSteps := 1000000) -implicitDefEqProofs (disch := omega) only [go_sem]
  repeat' (first
    | (with_reducible apply Req_intro); focus (first | omega | assumption | (simp; done))
    | with_reducible (first | apply Req_intro | refine nilT ?_ fun hn => ?_ | apply wk_draw Tryd_mixed | refine drawEnd (by kernel_rfl) ?_)
    | (with_reducible (first | apply condA_if | apply stepDG_ifN | apply stepDG_if | apply stepG_ifN | apply stepG_if)) <;> intro hb <;> (have hif := hb) <;> (try simp only [bo] at hif) <;> (try simp -implicitDefEqProofs (disch := omega) only [go_sem, hb]) <;> clear hb
    | simp (maxSteps := 1000000) -implicitDefEqProofs (disch := omega) only [go_sem])
  refine callp hck ?_
  try simp (maxSteps := 1000000) -implicitDefEqProofs (disch := omega) only [go_sem]
  repeat' (first
    | (with_reducible apply Req_intro); focus (first | omega | assumption | (simp; done))
    | with_reducible (first | apply Req_intro | refine nilT ?_ fun hn => ?_ | apply wk_draw Tryd_mixed | refine drawEnd (by kernel_rfl) ?_)
    | (with_reducible (first | apply condA_if | apply stepDG_ifN | apply stepDG_if | apply stepG_ifN | apply stepG_if)) <;> intro hb <;> (have hif := hb) <;> (try simp only [bo] at hif) <;> (try simp -implicitDefEqProofs (disch := omega) only [go_sem, hb]) <;> clear hb
    | simp (maxSteps := 1000000) -implicitDefEqProofs (disch := omega) only [go_sem])
  rcases open_cases bs cs with ⟨e, he⟩ | ⟨h0, hn⟩
  · have hne := he.ne
    refine callp (Ways_no bs cs hz.fits e he) ?_
    try simp (maxSteps := 1000000) -implicitDefEqProofs (disch := omega) only [go_sem]
    repeat' (first
      | (with_reducible apply Req_intro); focus (first | omega | assumption | (simp; done))
      | with_reducible (first | apply Req_intro | refine nilT ?_ fun hn => ?_ | apply wk_draw Tryd_mixed | refine drawEnd (by kernel_rfl) ?_)
      | (with_reducible (first | apply condA_if | apply stepDG_ifN | apply stepDG_if | apply stepG_ifN | apply stepG_if)) <;> intro hb <;> (have hif := hb) <;> (try simp only [bo] at hif) <;> (try simp -implicitDefEqProofs (disch := omega) only [go_sem, hb]) <;> clear hb
      | simp (maxSteps := 1000000) -implicitDefEqProofs (disch := omega) only [go_sem])
    refine callp (Can_no bs cs hz.fits e he) ?_
    try simp (maxSteps := 1000000) -implicitDefEqProofs (disch := omega) only [go_sem]
    repeat' (first
      | (with_reducible apply Req_intro); focus (first | omega | assumption | (simp; done))
      | with_reducible (first | apply Req_intro | refine nilT ?_ fun hn => ?_ | apply wk_draw Tryd_mixed | refine drawEnd (by kernel_rfl) ?_)
      | (with_reducible (first | apply condA_if | apply stepDG_ifN | apply stepDG_if | apply stepG_ifN | apply stepG_if)) <;> intro hb <;> (have hif := hb) <;> (try simp only [bo] at hif) <;> (try simp -implicitDefEqProofs (disch := omega) only [go_sem, hb]) <;> clear hb
      | simp (maxSteps := 1000000) -implicitDefEqProofs (disch := omega) only [go_sem])
    refine callp (Same_true bs cs hz) ?_
    try simp (maxSteps := 1000000) -implicitDefEqProofs (disch := omega) only [go_sem]
    repeat' (first
      | (with_reducible apply Req_intro); focus (first | omega | assumption | (simp; done))
      | with_reducible (first | apply Req_intro | refine nilT ?_ fun hn => ?_ | apply wk_draw Tryd_mixed | refine drawEnd (by kernel_rfl) ?_)
      | (with_reducible (first | apply condA_if | apply stepDG_ifN | apply stepDG_if | apply stepG_ifN | apply stepG_if)) <;> intro hb <;> (have hif := hb) <;> (try simp only [bo] at hif) <;> (try simp -implicitDefEqProofs (disch := omega) only [go_sem, hb]) <;> clear hb
      | simp (maxSteps := 1000000) -implicitDefEqProofs (disch := omega) only [go_sem])
    refine callp hrk ?_
    try simp (maxSteps := 1000000) -implicitDefEqProofs (disch := omega) only [go_sem]
    repeat' (first
      | (with_reducible apply Req_intro); focus (first | omega | assumption | (simp; done))
      | with_reducible (first | apply Req_intro | refine nilT ?_ fun hn => ?_ | apply wk_draw Tryd_mixed | refine drawEnd (by kernel_rfl) ?_)
      | (with_reducible (first | apply condA_if | apply stepDG_ifN | apply stepDG_if | apply stepG_ifN | apply stepG_if)) <;> intro hb <;> (have hif := hb) <;> (try simp only [bo] at hif) <;> (try simp -implicitDefEqProofs (disch := omega) only [go_sem, hb]) <;> clear hb
      | simp (maxSteps := 1000000) -implicitDefEqProofs (disch := omega) only [go_sem])
    all_goals first | exact absurd trivial ‹¬True› | (exfalso; omega) | skip
    refine callp (lopen_no bs cs hz e he) ?_
    try simp (maxSteps := 1000000) -implicitDefEqProofs (disch := omega) only [go_sem]
    repeat' (first
      | (with_reducible apply Req_intro); focus (first | omega | assumption | (simp; done))
      | with_reducible (first | apply Req_intro | refine nilT ?_ fun hn => ?_ | apply wk_draw Tryd_mixed | refine drawEnd (by kernel_rfl) ?_)
      | (with_reducible (first | apply condA_if | apply stepDG_ifN | apply stepDG_if | apply stepG_ifN | apply stepG_if)) <;> intro hb <;> (have hif := hb) <;> (try simp only [bo] at hif) <;> (try simp -implicitDefEqProofs (disch := omega) only [go_sem, hb]) <;> clear hb
      | simp (maxSteps := 1000000) -implicitDefEqProofs (disch := omega) only [go_sem])
    · refine callp known_spec ?_
      try simp (maxSteps := 1000000) -implicitDefEqProofs (disch := omega) only [go_sem]
      repeat' (first
        | (with_reducible apply Req_intro); focus (first | omega | assumption | (simp; done))
        | with_reducible (first | apply Req_intro | refine nilT ?_ fun hn => ?_ | apply wk_draw Tryd_mixed | refine drawEnd (by kernel_rfl) ?_)
        | (with_reducible (first | apply condA_if | apply stepDG_ifN | apply stepDG_if | apply stepG_ifN | apply stepG_if)) <;> intro hb <;> (have hif := hb) <;> (try simp only [bo] at hif) <;> (try simp -implicitDefEqProofs (disch := omega) only [go_sem, hb]) <;> clear hb
        | simp (maxSteps := 1000000) -implicitDefEqProofs (disch := omega) only [go_sem])
      refine ret_do ?_
      rfl
    · exact absurd ‹e = 0› hne
  · have hg := good_of_check h0
    have h8 := hg.nb
    have h3 := hg.nc
    have hfew := hg.valid.few
    have hok := (allW_ok bs cs).mono hg.nc
    have hpos := pos_of_ne hn
    have hcl := canI_len (allW bs cs) bs.length (allW bs cs).length
    have hl0 : ((allW bs cs).getD 0 default).length = bs.length := (hok _ (getD_mem hpos)).1
    refine callp (Ways_ok bs cs hz.fits h0 hn) ?_
    try simp (maxSteps := 1000000) -implicitDefEqProofs (disch := omega) only [go_sem]
    repeat' (first
      | (with_reducible apply Req_intro); focus (first | omega | assumption | (simp; done))
      | with_reducible (first | apply Req_intro | refine nilT ?_ fun hn => ?_ | apply wk_draw Tryd_mixed | refine drawEnd (by kernel_rfl) ?_)
      | (with_reducible (first | apply condA_if | apply stepDG_ifN | apply stepDG_if | apply stepG_ifN | apply stepG_if)) <;> intro hb <;> (have hif := hb) <;> (try simp only [bo] at hif) <;> (try simp -implicitDefEqProofs (disch := omega) only [go_sem, hb]) <;> clear hb
      | simp (maxSteps := 1000000) -implicitDefEqProofs (disch := omega) only [go_sem])
    refine callp (Can_ok bs cs hz.fits h0 hn) ?_
    try simp (maxSteps := 1000000) -implicitDefEqProofs (disch := omega) only [go_sem]
    repeat' (first
      | (with_reducible apply Req_intro); focus (first | omega | assumption | (simp; done))
      | with_reducible (first | apply Req_intro | refine nilT ?_ fun hn => ?_ | apply wk_draw Tryd_mixed | refine drawEnd (by kernel_rfl) ?_)
      | (with_reducible (first | apply condA_if | apply stepDG_ifN | apply stepDG_if | apply stepG_ifN | apply stepG_if)) <;> intro hb <;> (have hif := hb) <;> (try simp only [bo] at hif) <;> (try simp -implicitDefEqProofs (disch := omega) only [go_sem, hb]) <;> clear hb
      | simp (maxSteps := 1000000) -implicitDefEqProofs (disch := omega) only [go_sem])
    refine callp (Same_true bs cs hz) ?_
    try simp (maxSteps := 1000000) -implicitDefEqProofs (disch := omega) only [go_sem]
    repeat' (first
      | (with_reducible apply Req_intro); focus (first | omega | assumption | (simp; done))
      | with_reducible (first | apply Req_intro | refine nilT ?_ fun hn => ?_ | apply wk_draw Tryd_mixed | refine drawEnd (by kernel_rfl) ?_)
      | (with_reducible (first | apply condA_if | apply stepDG_ifN | apply stepDG_if | apply stepG_ifN | apply stepG_if)) <;> intro hb <;> (have hif := hb) <;> (try simp only [bo] at hif) <;> (try simp -implicitDefEqProofs (disch := omega) only [go_sem, hb]) <;> clear hb
      | simp (maxSteps := 1000000) -implicitDefEqProofs (disch := omega) only [go_sem])
    refine callp hrk ?_
    try simp (maxSteps := 1000000) -implicitDefEqProofs (disch := omega) only [go_sem]
    repeat' (first
      | (with_reducible apply Req_intro); focus (first | omega | assumption | (simp; done))
      | with_reducible (first | apply Req_intro | refine nilT ?_ fun hn => ?_ | apply wk_draw Tryd_mixed | refine drawEnd (by kernel_rfl) ?_)
      | (with_reducible (first | apply condA_if | apply stepDG_ifN | apply stepDG_if | apply stepG_ifN | apply stepG_if)) <;> intro hb <;> (have hif := hb) <;> (try simp only [bo] at hif) <;> (try simp -implicitDefEqProofs (disch := omega) only [go_sem, hb]) <;> clear hb
      | simp (maxSteps := 1000000) -implicitDefEqProofs (disch := omega) only [go_sem])
    all_goals first | exact absurd trivial ‹¬True› | (exfalso; omega) | skip
    refine callp (lopen_ok bs cs hz h0 hn) ?_
    try simp (maxSteps := 1000000) -implicitDefEqProofs (disch := omega) only [go_sem]
    repeat' (first
      | (with_reducible apply Req_intro); focus (first | omega | assumption | (simp; done))
      | with_reducible (first | apply Req_intro | refine nilT ?_ fun hn => ?_ | apply wk_draw Tryd_mixed | refine drawEnd (by kernel_rfl) ?_)
      | (with_reducible (first | apply condA_if | apply stepDG_ifN | apply stepDG_if | apply stepG_ifN | apply stepG_if)) <;> intro hb <;> (have hif := hb) <;> (try simp only [bo] at hif) <;> (try simp -implicitDefEqProofs (disch := omega) only [go_sem, hb]) <;> clear hb
      | simp (maxSteps := 1000000) -implicitDefEqProofs (disch := omega) only [go_sem])
    all_goals first | exact absurd trivial ‹¬True› | (exfalso; omega) | skip
    refine callp (Ints_true ((allW bs cs).getD 0 default) _ _ (by omega)) ?_
    try simp (maxSteps := 1000000) -implicitDefEqProofs (disch := omega) only [go_sem]
    repeat' (first
      | (with_reducible apply Req_intro); focus (first | omega | assumption | (simp; done))
      | with_reducible (first | apply Req_intro | refine nilT ?_ fun hn => ?_ | apply wk_draw Tryd_mixed | refine drawEnd (by kernel_rfl) ?_)
      | (with_reducible (first | apply condA_if | apply stepDG_ifN | apply stepDG_if | apply stepG_ifN | apply stepG_if)) <;> intro hb <;> (have hif := hb) <;> (try simp only [bo] at hif) <;> (try simp -implicitDefEqProofs (disch := omega) only [go_sem, hb]) <;> clear hb
      | simp (maxSteps := 1000000) -implicitDefEqProofs (disch := omega) only [go_sem])
    all_goals first | exact absurd trivial ‹¬True› | (exfalso; omega) | skip
    have hget := fun i hi => canI_get (allW bs cs) bs.length i hi (allW bs cs).length
    generalize canI (allW bs cs) bs.length (allW bs cs).length = can at *
    refine loop_at (α := Nat) [2, 12, 13, 14, 101, 102, 103, 104, 105, 106, 107, 108, 109, 110, 111, 112, 113, 114, 115, 116, 117, 118, 119, 120, 121, 122, 123, 124, 125, 126, 127, 128, 129] (fun i => [(12, .lit (.int .i64 i))]) (fun i => i ≤ bs.length) (fun i => bs.length - i) 0 (fun x => by simp (maxSteps := 1000000) -implicitDefEqProofs (disch := omega) only [go_sem]; rfl) ?_ ?_ fun x hx => ?_
    · exact weak_do []
    · exact Nat.zero_le _
    by_cases hlt : x < bs.length
    · have hgx := hget x hlt
      repeat' (first
        | (with_reducible apply Req_intro); focus (first | omega | assumption | (simp; done))
        | with_reducible (first | apply Req_intro | refine nilT ?_ fun hn => ?_ | apply wk_draw Tryd_mixed | refine drawEnd (by kernel_rfl) ?_)
        | (with_reducible (first | apply condA_if | apply stepDG_ifN | apply stepDG_if | apply stepG_ifN | apply stepG_if)) <;> intro hb <;> (have hif := hb) <;> (try simp only [bo] at hif) <;> (try simp -implicitDefEqProofs (disch := omega) only [go_sem, hb]) <;> clear hb
        | simp (maxSteps := 1000000) -implicitDefEqProofs (disch := omega) only [go_sem])
      all_goals first | (exfalso; omega) | skip
      rename Nat => y
      refine loop_at (α := Nat) [13, 14, 107, 108, 109, 110, 111, 112, 113, 114, 115, 116, 117, 118, 119, 120, 121, 122, 123] (fun k => [(14, .lit (.int .i64 k)), (13, int (bitsTo (allW bs cs) y k))]) (fun k => k ≤ (allW bs cs).length) (fun k => (allW bs cs).length - k) 0 (fun x => by simp (maxSteps := 1000000) -implicitDefEqProofs (disch := omega) only [go_sem]; rfl) ?_ ?_ fun x hx => ?_
      · simp only [bitsTo]
        exact weak_do []
      · exact Nat.zero_le _
      by_cases hlk : x < (allW bs cs).length
      · obtain ⟨hw1, hw2⟩ := hok _ (getD_mem hlk)
        have hv := hw2 _ (getD_mem (l := (allW bs cs).getD x default) (i := y) (by omega))
        have hbt : bitsTo (allW bs cs) y (x + 1) = orI (bitsTo (allW bs cs) y x) (((allW bs cs).getD x default).getD y default) := rfl
        repeat' (first
          | (with_reducible apply Req_intro); focus (first | omega | assumption | (simp; done))
          | with_reducible (first | apply Req_intro | refine nilT ?_ fun hn => ?_ | apply wk_draw Tryd_mixed | refine drawEnd (by kernel_rfl) ?_)
          | (with_reducible (first | apply condA_if | apply stepDG_ifN | apply stepDG_if | apply stepG_ifN | apply stepG_if)) <;> intro hb <;> (have hif := hb) <;> (try simp only [bo] at hif) <;> (try simp -implicitDefEqProofs (disch := omega) only [go_sem, hb]) <;> clear hb
          | simp (maxSteps := 1000000) -implicitDefEqProofs (disch := omega) only [go_sem])
        all_goals first | (exfalso; omega) | skip
        · generalize ((allW bs cs).getD x default).getD y default = v at hv
          obtain rfl | rfl | rfl : v = 0 ∨ v = 1 ∨ v = 2 := by omega
          all_goals decide
        · with_reducible refine nxt_w (x + 1) ?_ ?_
          · (try dsimp only)
            simp only [bitsTo, orI]
            exact weak_do []
          try dsimp only
          omega
      · obtain rfl : x = (allW bs cs).length := by omega
        rw [← hgx]
        repeat' (first
          | (with_reducible apply Req_intro); focus (first | omega | assumption | (simp; done))
          | with_reducible (first | apply Req_intro | refine nilT ?_ fun hn => ?_ | apply wk_draw Tryd_mixed | refine drawEnd (by kernel_rfl) ?_)
          | (with_reducible (first | apply condA_if | apply stepDG_ifN | apply stepDG_if | apply stepG_ifN | apply stepG_if)) <;> intro hb <;> (have hif := hb) <;> (try simp only [bo] at hif) <;> (try simp -implicitDefEqProofs (disch := omega) only [go_sem, hb]) <;> clear hb
          | simp (maxSteps := 1000000) -implicitDefEqProofs (disch := omega) only [go_sem])
        all_goals first | (exfalso; omega) | skip
        · exact absurd trivial ‹¬True›
        · refine nxt_w (y + 1) (weak_do []) ?_
          try dsimp only
          omega
    · obtain rfl : x = bs.length := by omega
      repeat' (first
        | (with_reducible apply Req_intro); focus (first | omega | assumption | (simp; done))
        | with_reducible (first | apply Req_intro | refine nilT ?_ fun hn => ?_ | apply wk_draw Tryd_mixed | refine drawEnd (by kernel_rfl) ?_)
        | (with_reducible (first | apply condA_if | apply stepDG_ifN | apply stepDG_if | apply stepG_ifN | apply stepG_if)) <;> intro hb <;> (have hif := hb) <;> (try simp only [bo] at hif) <;> (try simp -implicitDefEqProofs (disch := omega) only [go_sem, hb]) <;> clear hb
        | simp (maxSteps := 1000000) -implicitDefEqProofs (disch := omega) only [go_sem])
      all_goals first | (exfalso; omega) | skip
      refine callp known_spec ?_
      try simp (maxSteps := 1000000) -implicitDefEqProofs (disch := omega) only [go_sem]
      repeat' (first
        | (with_reducible apply Req_intro); focus (first | omega | assumption | (simp; done))
        | with_reducible (first | apply Req_intro | refine nilT ?_ fun hn => ?_ | apply wk_draw Tryd_mixed | refine drawEnd (by kernel_rfl) ?_)
        | (with_reducible (first | apply condA_if | apply stepDG_ifN | apply stepDG_if | apply stepG_ifN | apply stepG_if)) <;> intro hb <;> (have hif := hb) <;> (try simp only [bo] at hif) <;> (try simp -implicitDefEqProofs (disch := omega) only [go_sem, hb]) <;> clear hb
        | simp (maxSteps := 1000000) -implicitDefEqProofs (disch := omega) only [go_sem])
      refine ret_do ?_
      rfl
end Go.Aw
end
section
set_option linter.unusedVariables false
set_option linter.unusedSimpArgs false
/-! Arguments that are read stand for abstract values. -/
namespace Go.Aw
open Go.RowKit Go.ChangeShapes Go.WideShapes

/-- Cells that stand for abstract ones. -/
def RepL (w : World) (ok : Nat → Nat → Prop) (cs : List Value) (ds : List V) : Prop :=
  cs.length = ds.length ∧ ∀ (j : Nat) (d : V) (u : Value), ds[j]? = some d → cs[j]? = some u → Rep w ok (fun _ => none) u d

theorem exists_list {α : Type} {p : Nat → α → Prop} : ∀ n, (∀ i, i < n → ∃ a, p i a) → ∃ l : List α, l.length = n ∧ ∀ i a, l[i]? = some a → p i a
  | 0, _ => ⟨[], rfl, fun i a h => by cases h⟩
  | n + 1, h => by
    obtain ⟨l, hl, hp⟩ := exists_list n fun i hi => h i (by omega)
    obtain ⟨a, ha⟩ := h n (by omega)
    refine ⟨l ++ [a], by simp [hl], fun i b hb => ?_⟩
    rcases Nat.lt_or_ge i l.length with h1 | h1
    · rw [List.getElem?_append_left h1] at hb; exact hp i b hb
    · rw [List.getElem?_append_right h1] at hb
      have : i - l.length = 0 := by
        refine Classical.byContradiction fun hc => ?_
        rw [List.getElem?_eq_none (by simp; omega)] at hb; cases hb
      rw [this] at hb
      cases hb
      obtain rfl : i = n := by omega
      exact ha

theorem cells?_get {w : World} {base : Nat} {a : Addr} {n : Nat} {cs : List Value} (h : w.cells? base a n = some cs) : cs.length = n ∧ ∀ j, j < n → ∃ u, cs[j]? = some u ∧ w.cell? (a.add j) = some u := by
  unfold World.cells? at h
  split at h
  · have hl := mapM_some_length h
    rw [List.length_range] at hl
    refine ⟨hl, fun j hj => ?_⟩
    have := mapM_some_get h j j (by simp [hj])
    obtain ⟨u, hu⟩ : ∃ u, cs[j]? = some u := ⟨cs[j], List.getElem?_eq_getElem (by omega)⟩
    exact ⟨u, hu, by rw [this, hu]⟩
  · cases h

theorem add_at (b o n : Nat) : (⟨b, o, none⟩ : Addr).add n = ⟨b, o + n, none⟩ := by
  unfold Addr.add
  split
  · rename_i h; subst h; rfl
  · rfl
theorem add_add' (b o x j : Nat) : ((⟨b, o, none⟩ : Addr).add x).add j = ⟨b, o + x + j, none⟩ := by rw [add_at, add_at]

section
variable {H : Type} {enc : TypeId × Value → H} {P : Program} {w : World} {ok : Nat → Nat → Prop} {sp : Nat → Bool}

theorem mem_weightsAll {e : TypeId} : ∀ {es : List (DataW H)} {d : DataW H} {m : Nat}, d ∈ es → m ∈ d.weights P e → m ∈ DataW.weightsAll P e es
  | [], d, m, h, _ => by cases h
  | a :: r, d, m, h, hm => by
    simp only [DataW.weightsAll, List.mem_append]
    rcases List.mem_cons.1 h with rfl | h
    · exact .inl hm
    · exact .inr (mem_weightsAll h hm)

/-- A list that is read. -/
theorem slice_rep {α : Type} {en : α → List V} {k : Nat} {q : α → Prop} {t e : TypeId} (hk0 : 0 < k) (ht : P.underlying t = some (.slice e)) (hk : P.cellsOf e = k) (hb : 0 < P.bytesOf e)
    (hlen : ∀ a, (en a).length = k)
    (hel : ∀ n cs x, DataW.trod enc P w 0 sp true n e cs = some x → (∀ m ∈ x.1.weights P e, m ≤ reachBytes) → ∃ a, q a ∧ RepL w ok cs (en a))
    (hok : ∀ b o u, w.cell? ⟨b, o, none⟩ = some u → ok b o)
    {n : Nat} {cs : List Value} {x : DataW H × List MemPlace} (h : DataW.trod enc P w 0 sp true n t cs = some x) (hw : ∀ m ∈ x.1.weights P t, m ≤ reachBytes) :
    ∃ (v : Value) (l : List α), cs = [v] ∧ l.length ≤ reachBytes ∧ (∀ a ∈ l, q a) ∧ Rep w ok (fun _ => none) v (.sl k (l.map en) false) := by
  rcases DataW.trod_slice ht h with ⟨rfl, rfl⟩ | ⟨a, len, cap, elems, rest, m, rfl, rfl, rfl, hbase, hlc, hcm, hel1, hel2, hsp, hsp2⟩
  · exact ⟨_, [], rfl, Nat.zero_le _, fun a ha => (by cases ha), .sl none 0 0 k [] false (fun _ _ => undef) rfl (Nat.le_refl _) (fun h => by cases h) (fun i j hi => absurd hi (Nat.not_lt_zero _)) (fun e he => by cases he) (fun i j e d he => by cases he)⟩
  · rw [hk] at hel2
    have hwt : (elems.length + rest.length) * P.bytesOf e ≤ reachBytes ∧ ∀ d ∈ elems.map (·.1), ∀ m ∈ d.weights P e, m ≤ reachBytes := by
      simp only [DataW.weights, ht, List.length_map] at hw
      refine ⟨hw _ (List.mem_cons_self ..), fun d hd m hm => hw m ?_⟩
      exact List.mem_cons_of_mem _ (List.mem_append_left _ (mem_weightsAll hd hm))
    have key : ∀ i, i < len → ∃ p : α × List Value, w.cells? 0 (a.add (i * k)) k = some p.2 ∧ q p.1 ∧ RepL w ok p.2 (en p.1) := fun i hi => by
      have h1 := hel2 i hi
      obtain ⟨y, hy⟩ : ∃ y, elems[i]? = some y := ⟨elems[i], List.getElem?_eq_getElem (by omega)⟩
      rw [hy, Option.bind_eq_some_iff] at h1
      obtain ⟨cs, hc1, hc2⟩ := h1
      obtain ⟨b, hb1, hb2⟩ := hel _ _ _ hc2 (hwt.2 y.1 (List.mem_map_of_mem (List.mem_of_getElem? hy)))
      exact ⟨(b, cs), hc1, hb1, hb2⟩
    obtain ⟨l, hl, hp⟩ := exists_list len key
    have hspot : 0 < len → a.spot = none := fun h0 => by
      obtain ⟨p, hp1, _, _⟩ := key 0 h0
      obtain ⟨u, _, hu⟩ := (cells?_get hp1).2 0 hk0
      simp only [Nat.zero_mul, Addr.add, if_true] at hu
      unfold World.cell? at hu
      split at hu
      · split at hu
        · cases hu
        · rename_i hn; simpa using hn
      · cases hu
    refine ⟨_, l.map (·.1), rfl, ?_, ?_, ?_⟩
    · rw [List.length_map, hl, ← hel1]
      refine Nat.le_trans ?_ hwt.1
      exact Nat.le_trans (Nat.le_add_right _ _) (Nat.le_mul_of_pos_right _ hb)
    · intro b hb
      obtain ⟨p, hp1, rfl⟩ := List.mem_map.1 hb
      obtain ⟨i, hi⟩ := List.getElem?_of_mem hp1
      exact (hp i p hi).2.1
    · refine .sl (some a) len cap k _ false (fun i j => (w.cell? (a.add (i * k + j))).getD undef) (by simp [hl]) hlc (fun h => by cases h) (fun i j hi hj => ?_) (fun e he => ?_) (fun i j e d he hd => ?_)
      · obtain ⟨b, o, s⟩ := a
        obtain rfl : s = none := hspot (by omega)
        obtain ⟨p, hp1, _, _⟩ := key i hi
        obtain ⟨u, _, hu⟩ := (cells?_get hp1).2 j hj
        rw [add_add'] at hu
        have e1 : (⟨b, o, none⟩ : Addr).add (i * k + j) = ⟨b, o + i * k + j, none⟩ := by rw [add_at, Nat.add_assoc]
        exact ⟨b, o, rfl, hok _ _ _ hu, by rw [e1, hu]; rfl⟩
      · rw [List.map_map] at he
        obtain ⟨p, hp1, rfl⟩ := List.mem_map.1 he
        exact hlen _
      · rw [List.map_map, List.getElem?_map, Option.map_eq_some_iff] at he
        obtain ⟨p, hp1, rfl⟩ := he
        obtain ⟨h1, h2, h3⟩ := hp i p hp1
        have hi : i < len := by rw [← hl]; exact (List.getElem?_eq_some_iff.1 hp1).1
        have hj : j < k := by
          have := (List.getElem?_eq_some_iff.1 hd).1
          simp only [Function.comp] at this
          rwa [hlen] at this
        obtain ⟨u, hu1, hu2⟩ := (cells?_get h1).2 j hj
        have : w.cell? (a.add (i * k + j)) = some u := by
          obtain ⟨b, o, s⟩ := a
          obtain rfl : s = none := hspot (by omega)
          rw [add_add'] at hu2
          rw [← hu2, Nat.add_assoc, add_at]
        show Rep w ok _ ((w.cell? (a.add (i * k + j))).getD undef) d
        rw [this]
        exact h3.2 j d u hd hu1

theorem int_rep {k : IntKind} {t : TypeId} (ht : P.underlying t = some (.int k)) {n : Nat} {cs : List Value} {x : DataW H × List MemPlace} (h : DataW.trod enc P w 0 sp true n t cs = some x) : ∃ i, cs = [.int k i] ∧ k.min ≤ i ∧ i ≤ k.max := by
  obtain ⟨i, h1, _, h2⟩ := DataW.trod_int ht h
  simp only [Lit.wf, Bool.and_eq_true, decide_eq_true_eq] at h2
  exact ⟨i, h1, h2.1, h2.2⟩

theorem struct2_cells {t : TypeId} {f0 f1 : Field} (ht : P.underlying t = some (.struct #[f0, f1])) (hc : P.cellsOf t = 2) (h0 : f0.offset = 0) (h1 : f1.offset = 1) (c0 : P.cellsOf f0.type = 1) (c1 : P.cellsOf f1.type = 1)
    {n : Nat} {cs : List Value} {x : DataW H × List MemPlace} (h : DataW.trod enc P w 0 sp true n t cs = some x) (hw : ∀ m ∈ x.1.weights P t, m ≤ reachBytes) :
    ∃ u v y z m, cs = [u, v] ∧ DataW.trod enc P w 0 sp true m f0.type [u] = some y ∧ DataW.trod enc P w 0 sp true m f1.type [v] = some z ∧ (∀ m ∈ y.1.weights P f0.type, m ≤ reachBytes) ∧ (∀ m ∈ z.1.weights P f1.type, m ≤ reachBytes) := by
  obtain ⟨y0, y1, m, rfl, hl, g0, g1⟩ := trod_struct2 ht h
  rw [hc] at hl
  rw [h0, c0] at g0
  rw [h1, c1] at g1
  simp only [DataW.weights, ht, DataW.weightsEach, List.map_cons, List.map_nil, List.mem_append, List.append_nil] at hw
  match cs, hl with
  | [u, v], _ =>
    refine ⟨u, v, y0, y1, m, rfl, g0, g1, fun m hm => hw m ?_, fun m hm => hw m ?_⟩
    · exact .inl hm
    · exact .inr hm

theorem struct1_cells {t : TypeId} {f0 : Field} (ht : P.underlying t = some (.struct #[f0])) (hc : P.cellsOf t = 1) (h0 : f0.offset = 0) (c0 : P.cellsOf f0.type = 1)
    {n : Nat} {cs : List Value} {x : DataW H × List MemPlace} (h : DataW.trod enc P w 0 sp true n t cs = some x) (hw : ∀ m ∈ x.1.weights P t, m ≤ reachBytes) :
    ∃ u y m, cs = [u] ∧ DataW.trod enc P w 0 sp true m f0.type [u] = some y ∧ (∀ m ∈ y.1.weights P f0.type, m ≤ reachBytes) := by
  obtain ⟨y0, m, rfl, hl, g0⟩ := trod_struct1 ht h
  rw [hc] at hl
  rw [h0, c0] at g0
  simp only [DataW.weights, ht, DataW.weightsEach, List.map_cons, List.map_nil, List.mem_append, List.append_nil] at hw
  match cs, hl with
  | [u], _ => exact ⟨u, y0, m, rfl, g0, hw⟩
end

/-- What a call without own rows leaves. -/
theorem Evol.kept {ok ok' : Nat → Nat → Prop} {own' : Nat → Prop} {w w' : World} (he : Evol (fun _ => False) ok w own' ok' w') : w.keptBut w' (fun _ => False) := by
  refine ⟨he.os, he.output, fun i hi => ?_⟩
  rw [he.unch i hi (fun h => h)]
  cases w.heap[i]? with
  | none => rfl
  | some o => cases o <;> simp
theorem Evol.sameAt {ok ok' : Nat → Nat → Prop} {own' : Nat → Prop} {w w' : World} (he : Evol (fun _ => False) ok w own' ok' w') {p : MemPlace} (hp : p.block < w.heap.size) : w.sameAt w' p := by
  have h := he.unch p.block hp (fun h => h)
  cases p with
  | cell b off => exact World.cell?_of_block (w := w) (a := ⟨b, off, none⟩) h
  | map b => exact h
end Go.Aw
end
section
set_option linter.unusedVariables false
set_option linter.unusedSimpArgs false
set_option maxRecDepth 100000
/-! From a contract to the given row and card. -/
namespace Go.Aw
open Go.RowKit Go.ChangeShapes Go.WideShapes Go.Proofs

theorem own0 : ownKnob Tryd.prog.godebug = none := by kernel_rfl
theorem laidOut0 : laidOutB Tryd.prog = true := by kernel_rfl
theorem rowed0 : mapsRowed Tryd.prog = true := by kernel_rfl
theorem full0 : ∀ t e, t < Tryd.prog.types.size → Tryd.prog.underlying t = some (.slice e) → 0 < Tryd.prog.cellsOf e := slices_full_of _ (by kernel_rfl)

/-- All cells that there are. -/
def okAll (w : World) (b o : Nat) : Prop := ∃ u, w.cell? ⟨b, o, none⟩ = some u

/-- The tables lie there. -/
theorem glob_of_laid {w : World} (h : laidMetH Tryd.prog YtofoildhohgngaaDoor.Rows.mixWaysRow.laid w) : GlobOk w (okAll w) := by
  have h' : laidMet Tryd.prog YtofoildhohgngaaDoor.Rows.mixWaysRow.laid w := h
  obtain ⟨ps, ⟨g1, t1, c1, n1, p1, q1, a1, a2, a3, a4, ⟨g, t, cs, n, p, q, b1, b2, b3, b4, _⟩, _⟩, _⟩ := h'
  intro g0 vs hg j v hv
  unfold globT at hg
  split at hg
  · rename_i e
    subst e
    cases hg
    obtain rfl : g = 1 := Option.some.inj (b1.symm.trans (by kernel_rfl))
    have ht : t = 151 := Option.some.inj (b2.symm.trans (by kernel_rfl))
    subst ht
    obtain ⟨xs, m, hn, hx, hl, hlen, hf⟩ := DataW.trod_array (P := Tryd.prog) (n := 64) (e := 5) (by kernel_rfl) b4
    obtain ⟨L, hL1, hL2⟩ : ∃ L : List Int, tab64 = L.map (Value.int .u8) ∧ (YtofoildhohgngaaDoor.Rows.laid_math_bits_deBruijn64tab : DataW Unit) = .agg (L.map fun n => .lit (.int .u8 n)) := ⟨_, rfl, rfl⟩
    have hc1 : Tryd.prog.cellsOf 5 = 1 := by kernel_rfl
    rw [hL2] at hx
    have hx' : xs.map (·.1) = L.map fun n => (.lit (.int .u8 n) : DataW Unit) := by
      have := congrArg Prod.fst hx
      simp only at this
      injection this with this
      exact this.symm
    rw [hL1, List.getElem?_map, Option.map_eq_some_iff] at hv
    obtain ⟨i, hi, rfl⟩ := hv
    have h1 : (xs.map (·.1))[j]? = some (.lit (.int .u8 i)) := by rw [hx', List.getElem?_map, hi]; rfl
    rw [List.getElem?_map, Option.map_eq_some_iff] at h1
    obtain ⟨y, hy, hy1⟩ := h1
    have hj : j < 64 := by rw [← hlen]; exact (List.getElem?_eq_some_iff.1 hy).1
    have h2 := hf j hj
    rw [hy, hc1, Nat.mul_one] at h2
    obtain ⟨i', h3, h4, _⟩ := DataW.trod_int (P := Tryd.prog) (k := .u8) (by kernel_rfl) h2
    rw [h4] at hy1
    simp only [DataW.lit.injEq, Lit.int.injEq, true_and] at hy1
    subst hy1
    have h5 : w.cell? ⟨1, j, none⟩ = some (.int .u8 i') := by
      rw [World.var?_cell b1 b3 j, ← Array.getElem?_toList]
      have h6 : (cs.toList.drop j)[0]? = some (.int .u8 i') := by
        have := congrArg (fun l => l[0]?) h3
        simpa [List.getElem?_take] using this
      simpa using h6
    exact ⟨⟨_, h5⟩, h5⟩
  · cases hg

/-- Reads as it did. -/
theorem all_kept {H : Type} {enc : TypeId × Value → H} {w w' : World} {own' : Nat → Prop} {ok ok' : Nat → Nat → Prop} (he : Evol (fun _ => False) ok w own' ok' w') :
    ∀ {ts : List TypeId} {vs : List Value} {ds : List (DataW H)} {ps : List MemPlace}, DataW.TrodAll enc Tryd.prog w 0 (fun _ => true) true ts vs ds ps → DataW.TrodAll enc Tryd.prog w' 0 (fun _ => true) true ts vs ds ps
  | [], [], [], _, h => h
  | _ :: _, _ :: _, _ :: _, _, ⟨p, q, ⟨n, h1⟩, h2, e⟩ => ⟨p, q, ⟨n, DataW.trod_carry _ _ _ _ h1 fun a ha => he.sameAt (DataW.trod_lt _ _ _ _ h1 a ha)⟩, all_kept he h2, e⟩

theorem lifted_of {f : FuncId} {fn : Func} {s : ChangeSpec} (hfn : Tryd.prog.funcs[f]? = some fn) (hvars : s.vars = []) (hni : Tryd.prog.inits.idxOf? f = none)
    (hspec : ∀ (H : Type) (ds : List (DataW H)), ds.length = fn.params.toList.length → s.fn H ds = { results := [.lit (.bool true)], args := ds })
    (hres : fn.resultTypes.toList = [4]) (hps : ∀ t ∈ fn.params.toList, t < Tryd.prog.types.size)
    (hread : ∀ {H : Type} {enc : TypeId × Value → H} (w : World) (base : Nat) (args : Array Value) (ds : List (DataW H)) (p : List MemPlace), (∀ (j : Nat) t v, fn.params[j]? = some t → args[j]? = some v → Value.okWide Tryd.prog w .any base t v) →
      DataW.TrodAll enc Tryd.prog w 0 (fun _ => true) true fn.params.toList args.toList ds p → (∀ m ∈ DataW.weightsEach Tryd.prog fn.params.toList ds, m ≤ reachBytes) →
      ∃ av : List V, args.size = av.length ∧ (∀ (i : Nat) (d : V) (v : Value), av[i]? = some d → args[i]? = some v → Rep w (okAll w) (fun _ => none) v d) ∧ CallsTo Tryd.prog f av (.lit (.bool true)))
    (os : Os) (started : os.Started) (H : Type) (enc : TypeId × Value → H)
    (hwit : ∃ (w : World) (tape : Tape) (i : Input), w.os = os ∧ (w.forCall tape i).Shaped Tryd.checked.prog ∧ i.vars = [] ∧ Input.okWide Tryd.checked.prog (w.forCall tape i) .any w.heap.size f i ∧
      ((s.pre enc Tryd.checked.prog fn [] false (w.forCall tape i).memory i.args ∧ laidMetH Tryd.prog YtofoildhohgngaaDoor.Rows.mixWaysRow.laid (w.forCall tape i).memory) ∧ sizedMet enc Tryd.checked.prog fn (OpenSpec.ofChange s) false (w.forCall tape i).memory i.args) ∧ ({} : Assume).holds Tryd.checked.prog (lone (Frame.enter Tryd.checked.prog f i.args .normal) [] (w.forCall tape i))) :
    ReturnsInHanded {} Tryd.checked os f .any (fun w args => (s.pre enc Tryd.checked.prog fn [] false w args ∧ laidMetH Tryd.prog YtofoildhohgngaaDoor.Rows.mixWaysRow.laid w) ∧ sizedMet enc Tryd.checked.prog fn (OpenSpec.ofChange s) false w args)
      (s.post enc Tryd.checked.prog fn false true false false) := by
  refine returnsInHanded_of_change_and (C := Tryd.checked) (X := fun w _ => laidMetH Tryd.prog YtofoildhohgngaaDoor.Rows.mixWaysRow.laid w) (fun _ _ _ hh h => h.of_heap hh) own0 started hni hfn hwit ?_
  intro W base args ds gs before hval hW _ hwts hL _
  have hW' := hW
  obtain ⟨p, q, hA, hV, hpq, hfz, hnd⟩ := hW
  rw [hvars] at hV
  obtain ⟨rfl, rfl⟩ : gs = [] ∧ q = [] := by
    cases gs with
    | nil => exact ⟨rfl, hV⟩
    | cons g r => exact absurd hV (by intro h; cases h)
  have hvt : s.plain.varTypes Tryd.checked.prog = [] := by unfold DataSpec.varTypes ChangeSpec.plain; rw [hvars]; rfl
  rw [hvt, List.append_nil, List.append_nil, List.all_eq_true] at hwts
  obtain ⟨av, hsz, hrep, hct⟩ := hread W base args ds p hval hA (fun m hm => by simpa using hwts m hm)
  refine ((hct W (okAll W) args (fun b o h => h) (glob_of_laid hL) hsz hrep).calls (FW_room _)).mono fun e W' ⟨v, own', ok', he, hev, _, hrv⟩ => ?_
  subst he
  refine ⟨v, rfl, ?_⟩
  have hv : v = .bool true := by cases hrv; rfl
  subst hv
  have hlen : ds.length = fn.params.toList.length := by
    have key : ∀ {ts : List TypeId} {vs : List Value} {ds : List (DataW H)} {ps : List MemPlace}, DataW.TrodAll enc Tryd.prog W 0 (fun _ => true) true ts vs ds ps → ds.length = ts.length := by
      intro ts
      induction ts with
      | nil => intro vs ds ps h; obtain ⟨_, rfl, _⟩ := trodAll_nil h; rfl
      | cons t ts ih =>
        intro vs ds ps h
        obtain ⟨v, vs', d, ds', p, q, _, rfl, _, _, h2⟩ := trodAll_cons h
        simp [ih h2]
    exact key hA
  have hfnd : s.fn H (ds ++ []) = { results := [.lit (.bool true)], args := ds } := by rw [List.append_nil]; exact hspec H ds hlen
  refine ⟨ds, [], before, [], p, [], hW', ?_, ?_, ?_, World.keptBut_mono (fun _ f => f.elim) hev.kept, fun h => by cases h⟩
  · rw [hfnd, hres]
    have : (Value.bool true).resultList fn.resultTypes.size = [.bool true] := by
      have : fn.resultTypes.size = 1 := by rw [← Array.length_toList, hres]; rfl
      rw [this]; rfl
    rw [this]
    exact trodAll_mk1 (shut_bool (P := Tryd.prog) (by kernel_rfl) true)
  · rw [hfnd]
    refine DataW.TrodAll.respare (P := Tryd.prog) (T := (· < Tryd.prog.types.size)) (kids_rows laidOut0 rowed0) full0 hps (all_kept hev hA) fun a ha => ?_
    exact decide_eq_true (DataW.TrodAll.lt hA a ha)
  · rw [hfnd, hvars]; rfl
end Go.Aw
end
section
set_option linter.unusedVariables false
set_option linter.unusedSimpArgs false
set_option maxRecDepth 100000
/-! A load that is read; a world that meets the row's premise. -/
namespace Go.Aw
open Go.RowKit Go.ChangeShapes Go.WideShapes Go.Proofs

section
variable {H : Type} {enc : TypeId × Value → H} {w : World}

theorem span_read (n : Nat) (cs : List Value) (x : DataW H × List MemPlace) (h : DataW.trod enc Tryd.prog w 0 (fun _ => true) true n 60 cs = some x) (hw : ∀ m ∈ x.1.weights Tryd.prog 60, m ≤ reachBytes) :
    ∃ a : Int × Int, True ∧ RepL w (okAll w) cs (encS a) := by
  obtain ⟨u, v, y, z, m, rfl, h1, h2, _, _⟩ := struct2_cells Tryd.underlying60 (by kernel_rfl) rfl rfl (by kernel_rfl) (by kernel_rfl) h hw
  obtain ⟨i, e1, _⟩ := int_rep Tryd.underlying3 h1
  obtain ⟨j, e2, _⟩ := int_rep Tryd.underlying3 h2
  cases e1
  cases e2
  refine ⟨(i, j), trivial, rfl, fun k d u hd hu => ?_⟩
  match k with
  | 0 => cases hd; cases hu; exact .lit _ rfl
  | 1 => cases hd; cases hu; exact .lit _ rfl
  | k + 2 => cases hd

theorem spans_read {n : Nat} {cs : List Value} {x : DataW H × List MemPlace} (h : DataW.trod enc Tryd.prog w 0 (fun _ => true) true n 56 cs = some x) (hw : ∀ m ∈ x.1.weights Tryd.prog 56, m ≤ reachBytes) :
    ∃ (v : Value) (l : List (Int × Int)), cs = [v] ∧ l.length ≤ reachBytes ∧ (∀ a ∈ l, True) ∧ Rep w (okAll w) (fun _ => none) v (.sl 2 (l.map encS) false) :=
  slice_rep (k := 2) (en := encS) (q := fun _ => True) (by decide) Tryd.underlying56 (by kernel_rfl) (of_decide_eq_true (by kernel_rfl)) (fun _ => rfl) span_read (fun b o u h => ⟨u, h⟩) h hw

theorem box_read (n : Nat) (cs : List Value) (x : DataW H × List MemPlace) (h : DataW.trod enc Tryd.prog w 0 (fun _ => true) true n 67 cs = some x) (hw : ∀ m ∈ x.1.weights Tryd.prog 67, m ≤ reachBytes) :
    ∃ a : Box, a.length ≤ reachBytes ∧ RepL w (okAll w) cs (encB a) := by
  obtain ⟨u, y, m, rfl, h1, h2⟩ := struct1_cells Tryd.underlying67 (by kernel_rfl) rfl (by kernel_rfl) h hw
  obtain ⟨v, l, e, hl, _, hr⟩ := spans_read h1 h2
  cases e
  refine ⟨l, hl, rfl, fun k d u hd hu => ?_⟩
  match k with
  | 0 => cases hd; cases hu; exact hr
  | k + 1 => cases hd

theorem bill_read (n : Nat) (cs : List Value) (x : DataW H × List MemPlace) (h : DataW.trod enc Tryd.prog w 0 (fun _ => true) true n 64 cs = some x) (hw : ∀ m ∈ x.1.weights Tryd.prog 64, m ≤ reachBytes) :
    ∃ a : Bill, a.2.length ≤ reachBytes ∧ RepL w (okAll w) cs (encBill a) := by
  obtain ⟨u, v, y, z, m, rfl, h1, h2, _, h3⟩ := struct2_cells Tryd.underlying64 (by kernel_rfl) rfl rfl (by kernel_rfl) (by kernel_rfl) h hw
  obtain ⟨i, e1, _⟩ := int_rep Tryd.underlying3 h1
  obtain ⟨v, l, e, hl, _, hr⟩ := spans_read h2 h3
  cases e
  cases e1
  refine ⟨(i, l), hl, rfl, fun k d u hd hu => ?_⟩
  match k with
  | 0 => cases hd; cases hu; exact .lit _ rfl
  | 1 => cases hd; cases hu; exact hr
  | k + 2 => cases hd

/-- A load that is read. -/
theorem load_read {base : Nat} {v : Value} {d : DataW H} {p : List MemPlace} (hv : Value.okWide Tryd.prog w .any base 25 v) (h : DataW.Trod enc Tryd.prog w 0 (fun _ => true) true 25 v d p) (hw : ∀ m ∈ d.weights Tryd.prog 25, m ≤ reachBytes) :
    ∃ (bs : List Box) (cs : List Bill), Rep w (okAll w) (fun _ => none) v (encLoad bs cs) ∧ bs.length ≤ 4611686018427387904 ∧ cs.length ≤ 4611686018427387904 ∧ (∀ b ∈ bs, b.length ≤ 4611686018427387904) ∧ (∀ c ∈ cs, c.2.length ≤ 4611686018427387904) := by
  obtain ⟨vs, rfl, hsz⟩ := okWide_struct Tryd.underlying25 hv
  obtain ⟨n, h⟩ := h
  obtain ⟨a, b, y, z, m, e, h1, h2, h3, h4⟩ := struct2_cells Tryd.underlying25 (by kernel_rfl) rfl rfl (by kernel_rfl) (by kernel_rfl) h hw
  obtain ⟨v1, bs, e1, hl1, hq1, hr1⟩ := slice_rep (k := 1) (en := encB) (by decide) Tryd.underlying22 (by kernel_rfl) (of_decide_eq_true (by kernel_rfl)) (fun _ => rfl) box_read (fun b o u h => ⟨u, h⟩) h1 h3
  obtain ⟨v2, cs, e2, hl2, hq2, hr2⟩ := slice_rep (k := 2) (en := encBill) (by decide) Tryd.underlying23 (by kernel_rfl) (of_decide_eq_true (by kernel_rfl)) (fun _ => rfl) bill_read (fun b o u h => ⟨u, h⟩) h2 h4
  cases e1
  cases e2
  have hr : reachBytes ≤ 4611686018427387904 := by decide
  refine ⟨bs, cs, .agg vs _ (by rw [← Array.length_toList]; exact congrArg List.length e) fun i d u hd hu => ?_, by omega, by omega, fun b hb => Nat.le_trans (hq1 b hb) hr, fun c hc => Nat.le_trans (hq2 c hc) hr⟩
  have e' : vs.toList = [a, b] := e
  have hu' : vs.toList[i]? = some u := by rw [Array.getElem?_toList]; exact hu
  rw [e'] at hu'
  match i with
  | 0 => cases hd; cases hu'; exact hr1
  | 1 => cases hd; cases hu'; exact hr2
  | i + 2 => cases hd
end

/-- A world that meets the premise: the settled one, the tables laid. -/
noncomputable def laidWorld (os : Os) : World :=
  let w0 := World.holding Tryd.prog os ⟨#[], #[], []⟩
  let put (w : World) (g : Nat) (vs : List Int) : World := { w with heap := w.heap.modify g fun
      | .cells _ t frozen => .cells (vs.map (Value.int .u8)).toArray t frozen
      | o => o }
  put (put w0 0 [0, 1, 28, 2, 29, 14, 24, 3, 30, 22, 20, 15, 25, 17, 4, 8, 31, 27, 13, 23, 21, 19, 16, 7, 26, 12, 18, 6, 11, 5, 10, 9]) 1
    [0, 1, 56, 2, 57, 49, 28, 3, 61, 58, 42, 50, 38, 29, 17, 4, 62, 47, 59, 36, 45, 43, 51, 22, 53, 39, 33, 30, 24, 18, 12, 5, 63, 55, 48, 27, 60, 41, 37, 16, 46, 35, 44, 21, 52, 32, 23, 11, 54, 26, 40, 15, 34, 20, 31, 10, 25, 14, 19, 9, 13, 8, 7, 6]
theorem laidWorld_met (os : Os) (args : Array Value) : laidMetH Tryd.prog YtofoildhohgngaaDoor.Rows.mixWaysRow.laid ((laidWorld os).forCall (fun _ _ => 0) ⟨#[], args, []⟩).memory := by
  show laidMet _ _ _
  exact laidMet_of_run' 8 (by kernel_rfl) (by kernel_rfl)

theorem mixWays_wit (os : Os) (H : Type) (enc : TypeId × Value → H) : ∃ (w : World) (tape : Tape) (i : Input), w.os = os ∧ (w.forCall tape i).Shaped Tryd.checked.prog ∧ i.vars = [] ∧ Input.okWide Tryd.checked.prog (w.forCall tape i) .any w.heap.size 3 i ∧
      ((YtofoildhohgngaaDoor.Rows.mixWaysSpec.pre enc Tryd.checked.prog Tryd.f3 [] false (w.forCall tape i).memory i.args ∧ laidMetH Tryd.prog YtofoildhohgngaaDoor.Rows.mixWaysRow.laid (w.forCall tape i).memory) ∧ sizedMet enc Tryd.checked.prog Tryd.f3 (OpenSpec.ofChange YtofoildhohgngaaDoor.Rows.mixWaysSpec) false (w.forCall tape i).memory i.args) ∧ ({} : Assume).holds Tryd.checked.prog (lone (Frame.enter Tryd.checked.prog 3 i.args .normal) [] (w.forCall tape i)) :=
  ChangeSpec.witness_at (enc := enc) (C := Tryd.checked) (os := os) (X := fun w _ => laidMetH Tryd.prog YtofoildhohgngaaDoor.Rows.mixWaysRow.laid w) false (laidWorld os) #[.agg #[.slice none 0 0, .slice none 0 0]] 8 rfl (by kernel_rfl) (by kernel_rfl) (by kernel_rfl) (by kernel_rfl) (by kernel_rfl) (laidWorld_met os _)

theorem mixWays_of (hct : ∀ (bs : List Box) (cs : List Bill), bs.length ≤ 4611686018427387904 → cs.length ≤ 4611686018427387904 → (∀ b ∈ bs, b.length ≤ 4611686018427387904) → (∀ c ∈ cs, c.2.length ≤ 4611686018427387904) → CallsTo Tryd.prog 3 [encLoad bs cs] (.lit (.bool true))) : YtofoildhohgngaaDoor.Rows.MixWaysSaid :=
  OpenClaim.holds_of_wide 3 Tryd.f3 rfl rfl rfl rfl rfl rfl rfl ⟨rfl, rfl, rfl, rfl, rfl⟩ rfl rfl rfl rfl rfl (by kernel_rfl) Tryd.func3 (by kernel_rfl)
    (of_decide_eq_true (by kernel_rfl)) (by unfold Func.isWrapper; first | (rw [if_pos (by decide +kernel)]; kernel_rfl) | (rw [if_neg (by decide +kernel)]; exact ⟨rfl, rfl⟩))
    (fun os started H enc _ => lifted_of Tryd.func3 rfl (by kernel_rfl) (fun H ds hd => by
        match ds, hd with
        | [d], _ => rfl) (by kernel_rfl) (fun t ht => by
          have : Tryd.f3.params.toList.all (fun t => decide (t < Tryd.prog.types.size)) = true := by kernel_rfl
          simpa using List.all_eq_true.1 this t ht)
      (fun {H enc} w base args ds p hv hA hw => by
        rw [Tryd.params3] at hA hv hw
        obtain ⟨v, d, rfl, rfl, h0⟩ := trodAll_one hA
        obtain ⟨bs, cs, h1, h2, h3, h4, h5⟩ := load_read (hv 0 25 v rfl rfl) h0 (fun m hm => hw m (by simpa [DataW.weightsEach] using hm))
        refine ⟨[encLoad bs cs], rfl, fun i d u hd hu => ?_, hct bs cs h2 h3 h4 h5⟩
        match i with
        | 0 => cases hd; cases hu; exact h1
        | i + 1 => cases hd) os started H enc (mixWays_wit os H enc))
end Go.Aw
end
section
set_option linter.unusedVariables false
/-! Rows are looked up without detours. -/
namespace Go.Aw
@[go_sem ↓] theorem hget_nil' (i : Nat) : hget i [] = none := by rw [hget]
@[go_sem ↓] theorem hget_miss (i j : Nat) (b : Option Blk) (r : List (Nat × Option Blk)) (h : i ≠ j) : hget i ((j, b) :: r) = hget i r := by rw [hget, if_neg h]
@[go_sem ↓] theorem hget_hit (i : Nat) (b : Option Blk) (r : List (Nat × Option Blk)) : hget i ((i, b) :: r) = some b := by rw [hget, if_pos rfl]
@[go_sem ↓] theorem hset_nil' (i : Nat) (b : Option Blk) : hset i b [] = [(i, b)] := by rw [hset]
@[go_sem ↓] theorem hset_miss (i j : Nat) (b c : Option Blk) (r : List (Nat × Option Blk)) (h : i ≠ j) : hset i b ((j, c) :: r) = (j, c) :: hset i b r := by rw [hset, if_neg h]
@[go_sem ↓] theorem hset_hit (i : Nat) (b c : Option Blk) (r : List (Nat × Option Blk)) : hset i b ((i, c) :: r) = (i, b) :: r := by rw [hset, if_pos rfl]
theorem PurE.snocR {fr : Bool} {h : Hp} {e e' : List V} {l : List (List V)} (hp : PuE l) (he : PurI fr h e e') : PurE fr h (l ++ [e]) (l ++ [e']) := by
  induction l with
  | nil => exact .cons _ _ _ _ he .nil
  | cons a l ih => exact .cons _ _ _ _ (.pu _ (hp a List.mem_cons_self)) (ih fun x hx => hp x (List.mem_cons_of_mem _ hx))
theorem RenE.setR {ρ : Nat → Nat} {m : Nat} {e e' : List V} : ∀ {l : List (List V)} {i : Nat}, PuE l → RenL ρ m e e' → RenE ρ m (l.set i e) (l.set i e')
  | [], _, _, _ => .nil
  | a :: l, 0, hp, he => .cons _ _ _ _ he (.pu _ fun x hx => hp x (List.mem_cons_of_mem _ hx))
  | a :: l, i + 1, hp, he => .cons _ _ _ _ (.pu _ (hp a List.mem_cons_self)) (RenE.setR (fun x hx => hp x (List.mem_cons_of_mem _ hx)) he)
theorem weak_do2 (ρl : List (Nat × Nat)) {tm tm' : List V} {h : Hp} {l' : List (Nat × Option Blk)} {nx nx' : Nat} {gh : Gh} (hlow : (ρl.all fun p => decide (gh.lim ≤ p.1)) = true := by rfl)
    (ht : RenL (renOf ρl) nx' tm' tm := by
      repeat' (first
        | with_reducible (first | exact RenL.nil | refine RenL.cons _ _ _ _ ?_ ?_ | exact Ren.any _ | exact Ren.lit _)
        | (with_reducible (first | refine Ren.int _ _ _ ?_ | refine Ren.bool _ _ ?_)) <;> (first | rfl | omega | (simp <;> omega) | (simp only [go_sem]; done) | (push_cast; omega))
        | with_reducible (first | exact Ren.nil _ _ _ | exact Ren.nilsl _ _ | exact RowsRen.nil | exact RenE.nil)
        | (with_reducible refine Ren.ref _ _ _ _ _ ?_ ?_) <;> decide
        | (with_reducible refine Ren.osN _ _ ?_ ?_ ?_ ?_) <;> (first | decide | first | rfl | omega | (simp <;> omega) | (simp only [go_sem]; done) | (push_cast; omega) | (intro h; exact h) | (intro h; cases h))
        | with_reducible (first | refine Ren.fnL _ _ ?_ ?_ | refine Ren.aggL _ _ ?_)
        | (with_reducible (first | refine Ren.pu _ ?_ | refine RenE.puE ?_)) <;> (first | assumption | (simp only [go_sem] <;> assumption) | (simp only [go_sem, *]; done) | (simp [go_sem]; done))
        | (with_reducible apply RowsRen.row); (focus decide); (focus rfl)
        | (with_reducible refine RowsRen.virt _ _ _ _ _ ?_ ?_ ?_ ?_); (focus decide); (focus decide); (focus decide)
        | with_reducible (first | refine RowsRen.gone _ _ ?_ | refine RenE.cons _ _ _ _ ?_ ?_)
        | (with_reducible (first | refine Ren.slE _ _ _ ?_ ?_ | refine RenE.eqE ?_ ?_)); (focus (first | rfl | omega | (simp <;> omega) | (simp only [go_sem]; done) | (push_cast; omega))); (focus (first | assumption | (simp only [go_sem] <;> assumption) | (simp only [go_sem, *]; done) | (simp [go_sem]; done)))
        | (with_reducible refine RenL.puL ?_) <;> (first | assumption | (simp only [go_sem] <;> assumption) | (simp only [go_sem, *]; done) | (simp [go_sem]; done))
        | (with_reducible refine RenL.eqL ?_ ?_); (focus (first | rfl | omega | (simp <;> omega) | (simp only [go_sem]; done) | (push_cast; omega))); (focus (first | assumption | (simp only [go_sem] <;> assumption) | (simp only [go_sem, *]; done) | (simp [go_sem]; done)))))
    (hh : RowsRen (renOf ρl) nx' nx h l' := by
      repeat' (first
        | with_reducible (first | exact RenL.nil | refine RenL.cons _ _ _ _ ?_ ?_ | exact Ren.any _ | exact Ren.lit _)
        | (with_reducible (first | refine Ren.int _ _ _ ?_ | refine Ren.bool _ _ ?_)) <;> (first | rfl | omega | (simp <;> omega) | (simp only [go_sem]; done) | (push_cast; omega))
        | with_reducible (first | exact Ren.nil _ _ _ | exact Ren.nilsl _ _ | exact RowsRen.nil | exact RenE.nil)
        | (with_reducible refine Ren.ref _ _ _ _ _ ?_ ?_) <;> decide
        | (with_reducible refine Ren.osN _ _ ?_ ?_ ?_ ?_) <;> (first | decide | first | rfl | omega | (simp <;> omega) | (simp only [go_sem]; done) | (push_cast; omega) | (intro h; exact h) | (intro h; cases h))
        | with_reducible (first | refine Ren.fnL _ _ ?_ ?_ | refine Ren.aggL _ _ ?_)
        | (with_reducible (first | refine Ren.pu _ ?_ | refine RenE.puE ?_)) <;> (first | assumption | (simp only [go_sem] <;> assumption) | (simp only [go_sem, *]; done) | (simp [go_sem]; done))
        | (with_reducible apply RowsRen.row); (focus decide); (focus rfl)
        | (with_reducible refine RowsRen.virt _ _ _ _ _ ?_ ?_ ?_ ?_); (focus decide); (focus decide); (focus decide)
        | with_reducible (first | refine RowsRen.gone _ _ ?_ | refine RenE.cons _ _ _ _ ?_ ?_)
        | (with_reducible refine RenE.setR ?_ ?_); (focus (first | assumption | (simp only [go_sem] <;> assumption) | (simp only [go_sem, *]; done) | (simp [go_sem]; done)))
        | (with_reducible (first | refine Ren.slE _ _ _ ?_ ?_ | refine RenE.eqE ?_ ?_)); (focus (first | rfl | omega | (simp <;> omega) | (simp only [go_sem]; done) | (push_cast; omega))); (focus (first | assumption | (simp only [go_sem] <;> assumption) | (simp only [go_sem, *]; done) | (simp [go_sem]; done)))
        | (with_reducible refine RenL.puL ?_) <;> (first | assumption | (simp only [go_sem] <;> assumption) | (simp only [go_sem, *]; done) | (simp [go_sem]; done))
        | (with_reducible refine RenL.eqL ?_ ?_); (focus (first | rfl | omega | (simp <;> omega) | (simp only [go_sem]; done) | (push_cast; omega))); (focus (first | assumption | (simp only [go_sem] <;> assumption) | (simp only [go_sem, *]; done) | (simp [go_sem]; done)))))
    (hi : renInj (renOf ρl) (keysOf l') = true := by rfl) (hl : gh.lim ≤ nx' := by exact Nat.zero_le _) : Weak ⟨tm, h, nx, gh⟩ ⟨tm', hpOf (fun _ => none) l', nx', gh⟩ := Weak.rows ρl hl hlow ht hh hi

/-- Several results, some of which bear rows of one's own. -/
theorem callsTo_of_callT {P : Program} {g : FuncId} {args rs : List V} (hp : PuL rs) (h : CallH P g args (fun _ => none) 0 fun r' h' _ => ∃ ids rs', r' = .tup rs' ∧ PurI true (frz ids h') rs' rs) : CallsTo P g args (.tup rs) := by
  intro w ok vals hok hgl hsz hrep
  have hrh : RH w (fun _ => False) ok (fun _ => none) (fun _ => none) := ⟨hok, fun b hb => hb.elim, (fun id B hB => by cases hB), (fun id b hb => by cases hb), (fun id1 id2 b1 b2 B h1 => by cases h1), hgl⟩
  refine CallsIn.mono (h w _ ok _ vals hrh (fun id _ => ⟨rfl, rfl⟩) hsz hrep) ?_
  rintro e w' ⟨v, r', h', nx', own', ok', s', rfl, ⟨ids, rs', rfl, hpr⟩, g1, g2, g3, g4, g5, g6⟩
  obtain ⟨ok2, k1, k2⟩ := g1.frzAll ids
  obtain ⟨hl1, hc1⟩ := hpr.spec
  cases g2 with
  | tup vs _ hl hc =>
    refine ⟨_, own', ok2, rfl, g3.trans k2, k1.okw, .tup vs rs (by rw [hl, hl1]) fun i d u hd hu => ?_⟩
    have hi : i < rs'.length := by rw [hl1]; exact (List.getElem?_eq_some_iff.1 hd).1
    have hd' : rs'[i]? = some rs'[i] := List.getElem?_eq_getElem hi
    have h1 := (((hc1 i _ d hd' hd).rep k1 ((hc i _ u hd' hu).evol k2 (fun _ _ h => h))).pu (hp d (List.mem_of_getElem? hd)) (s' := fun _ => none))
    refine h1.keep (fun b o hb => ⟨?_, rfl⟩) (fun _ _ _ h => h) (fun _ _ h => h)
    rcases hb with hb | ⟨hb, _⟩
    · exact hb
    · cases hb

theorem ct_enterT {P : Program} {g : FuncId} {fn : Func} {c : Code} {rv : List ResultVar} {n : Nat} {args tm rs : List V} (hf : P.funcs[g]? = some fn) (hb : fn.body = some c) (hn : fn.name ≠ "runtime.NumGoroutine") (hr : fn.results = List.toArray rv) (hnt : fn.ntmps = n)
    (hp : PuL rs) (ha : decide (args.length ≤ n) = true) (ht : initT n args = tm) (hw : ∀ base, awp P c (RetB P rv fun r' h' _ => ∃ ids rs', r' = .tup rs' ∧ PurI true (frz ids h') rs' rs) ⟨tm, hpOf (fun _ => none) [], 0, { base := base }⟩) : Ct P g args (.tup rs) := by
  subst hnt ht
  have ha := of_decide_eq_true ha
  refine ⟨callsTo_of_callT hp ?_, fn, hf, by rw [hb]; rfl, hn⟩
  refine callH_of_awp hf hb ha fun base => ?_
  rw [retB_eq (rs := rv) (by rw [hr]), ← initT_eq _ _ ha]
  exact hw base

theorem rett {P : Program} {tm rs rs' : List V} {nx : Nat} {gh : Gh} {rv : List ResultVar} {l l' : List (Nat × Option Blk)} {c : Prop} (ids : List Nat) (h : resV P ⟨tm, hpOf (fun _ => none) l, nx, gh⟩ rv = some (c, rs') := by simp (maxSteps := 1000000) -implicitDefEqProofs (disch := omega) only [go_sem]; rfl) (hc : c := by first | trivial | omega | (simp; omega)) (ht : retV rs' = .tup rs' := by rfl) (hl : frzL ids l = l' := by first | (simp only [go_sem]; done) | (simp only [go_sem]; rfl))
    (hp : PurI true (hpOf (fun _ => none) l') rs' rs := by
      (try simp (maxSteps := 1000000) -implicitDefEqProofs (disch := omega) only [go_sem])
      repeat' (first
        | with_reducible (first | exact PurI.nil | exact Pur.nilsl _ _ | exact PurE.nil)
        | (with_reducible (first | refine PurI.puL ?_ | refine PurE.puE ?_)) <;> (first | assumption | (simp only [go_sem] <;> assumption) | (simp only [go_sem, *]; done) | (simp [go_sem]; done))
        | with_reducible apply PurI.cons
        | (with_reducible refine Pur.pu _ ?_) <;> (first | assumption | (simp only [go_sem] <;> assumption) | (simp only [go_sem, *]; done) | (simp [go_sem]; done))
        | ((with_reducible apply Pur.refR) <;> (first | rfl | decide | (simp only [go_sem]; omega) | (simp only [go_sem]) | skip))
        | ((with_reducible apply Pur.osR) <;> (first | rfl | exact fun h => h | omega | (simp; omega) | (simp; done) | (simp only [go_sem]) | skip))
        | with_reducible (first | apply Pur.fnI | apply Pur.aggI | apply PurE.cons)
        | (with_reducible refine PurI.eqL ?_ ?_); (focus rfl); (focus (first | assumption | (simp only [go_sem] <;> assumption) | (simp only [go_sem, *]; done) | (simp [go_sem]; done)))
        | simp (maxSteps := 1000000) -implicitDefEqProofs (disch := omega) only [go_sem])) : RetB P rv (fun r' h' _ => ∃ ids rs', r' = .tup rs' ∧ PurI true (frz ids h') rs' rs) .ret ⟨tm, hpOf (fun _ => none) l, nx, gh⟩ := ret_at h hc ⟨ids, rs', ht, by rw [frz_hpOf, hl]; exact hp⟩
end Go.Aw
end
section
set_option linter.unusedVariables false
set_option linter.unusedSimpArgs false
set_option maxRecDepth 20000
set_option maxHeartbeats 4000000
/-! What the law's made makes: definitions. -/
namespace Go.Aw
open Go.RowKit Go.Proofs

/-- Five bytes. -/
structure B5 where
  a : Int
  b : Int
  c : Int
  d : Int
  e : Int
instance : Inhabited B5 := ⟨⟨0, 0, 0, 0, 0⟩⟩
abbrev u8 (n : Int) : V := .lit (.int .u8 n)
def encU (x : B5) : List V := [u8 x.a, u8 x.b, u8 x.c, u8 x.d, u8 x.e]
@[go_sem] theorem encU_eq (x : B5) : encU x = [u8 x.a, u8 x.b, u8 x.c, u8 x.d, u8 x.e] := rfl
def okU (n : Int) : Prop := 0 ≤ n ∧ n ≤ 255
def B5.ok (x : B5) : Prop := okU x.a ∧ okU x.b ∧ okU x.c ∧ okU x.d ∧ okU x.e
/-- What comes in: boxes, carriers, stuffs, bills. -/
def innC (bx : List B5) (ca st b0 b1 b2 b3 b4 b5 : Int) : List V := [.sl 5 (bx.map encU) false, u8 ca, u8 st, u8 b0, u8 b1, u8 b2, u8 b3, u8 b4, u8 b5]
@[go_sem] theorem innC_eq (bx : List B5) (ca st b0 b1 b2 b3 b4 b5 : Int) : innC bx ca st b0 b1 b2 b3 b4 b5 = [.sl 5 (bx.map encU) false, u8 ca, u8 st, u8 b0, u8 b1, u8 b2, u8 b3, u8 b4, u8 b5] := rfl

/-- Bills, so far. -/
def bl (n : Nat) (f : Nat → Int) : List (List V) := (List.range n).map fun c => [int (f c), nilV]
@[go_sem] theorem bl_len (n : Nat) (f : Nat → Int) : (bl n f).length = n := by simp [bl]
@[go_sem] theorem bl_pu (n : Nat) (f : Nat → Int) : PuE (bl n f) = True := by
  simp only [PuE, eq_iff_iff, iff_true, bl]
  intro e he
  obtain ⟨c, _, rfl⟩ := List.mem_map.1 he
  simp [PuL]
theorem bl_succ (n : Nat) (f : Nat → Int) : bl (n + 1) f = bl n f ++ [[int (f n), nilV]] := by
  simp [bl, List.range_succ]
@[go_sem] theorem bl_get (n : Nat) (f : Nat → Int) (c : Nat) (h : c < n) : (bl n f).getD c [] = [int (f c), nilV] := by
  rw [List.getD_eq_getElem?_getD]; simp [bl, h]
def updF (f : Nat → Int) (c : Nat) (v : Int) : Nat → Int := fun j => if j = c then v else f j
@[go_sem] theorem bl_set (n : Nat) (f : Nat → Int) (c : Nat) (v : Int) : (bl n f).set c [int v, nilV] = bl n (updF f c v) := by
  refine List.ext_getElem (by simp [bl]) fun i h1 h2 => ?_
  rw [List.getElem_set]
  simp only [bl, List.getElem_map, List.getElem_range, updF]
  by_cases h : i = c
  · subst h; simp
  · rw [if_neg (fun e => h e.symm), if_neg h]

/-- Sums, so far. -/
def encSm (s : Nat → Nat → Int) : List V := [int (s 0 0), int (s 0 1), int (s 1 0), int (s 1 1), int (s 2 0), int (s 2 1)]
def restSm (s : Nat → Nat → Int) (k : Nat) : List V := (encSm s).drop (k + 1)
def upd2 (s : Nat → Nat → Int) (c k : Nat) (v : Int) : Nat → Nat → Int := fun i j => if i = c ∧ j = k then v else s i j
@[go_sem] theorem encSm_len (s : Nat → Nat → Int) : (encSm s).length = 6 := rfl
@[go_sem] theorem encSm_pu (s : Nat → Nat → Int) : PuL (encSm s) = True := by simp [encSm, PuL]
@[go_sem] theorem encSm_drop (s : Nat → Nat → Int) (c : Nat) (h : c < 3) : (encSm s).drop (c * 2) = int (s c 0) :: restSm s (c * 2) := by
  rcases k3 h with rfl | rfl | rfl <;> rfl
@[go_sem] theorem encSm_drop1 (s : Nat → Nat → Int) (c : Nat) (h : c < 3) : (encSm s).drop (c * 2 + 1) = int (s c 1) :: restSm s (c * 2 + 1) := by
  rcases k3 h with rfl | rfl | rfl <;> rfl
@[go_sem] theorem encSm_splice (s : Nat → Nat → Int) (c : Nat) (v : Int) (h : c < 3) : splice (encSm s) (c * 2) [int v] = encSm (upd2 s c 0 v) := by
  rcases k3 h with rfl | rfl | rfl <;> rfl
@[go_sem] theorem encSm_splice1 (s : Nat → Nat → Int) (c : Nat) (v : Int) (h : c < 3) : splice (encSm s) (c * 2 + 1) [int v] = encSm (upd2 s c 1 v) := by
  rcases k3 h with rfl | rfl | rfl <;> rfl

/-- Whose a box is; what is in it; its spans. -/
def bWho (nc : Nat) (v : B5) : Nat := (v.a % nc).toNat
def bN (v : B5) : Nat → Int
  | 0 => v.b
  | _ => v.c
def bHeld (v : B5) (n : Nat) : List Int := (List.range n).map (bN v)
def bSpan (v : B5) (k : Nat) : Int × Int := (max 0 (bN v k - v.d % 8), bN v k + v.e % 8)
def bBox (v : B5) (n : Nat) : Box := (List.range n).map (bSpan v)
def cntB (bx : List B5) (nc : Nat) : Nat → Nat → Int
  | 0, _ => 0
  | i + 1, c => if c = bWho nc (bx.getD i default) then cntB bx nc i (bWho nc (bx.getD i default)) + 1 else cntB bx nc i c
/-- Sums with a box more, of which so many stuffs. -/
def smTo (s : Nat → Nat → Int) (c : Nat) (v : B5) : Nat → Nat → Nat → Int
  | 0 => s
  | k + 1 => upd2 (smTo s c v k) c k (smTo s c v k c k + bN v k)
def sumB5 (bx : List B5) (nc ns : Nat) : Nat → Nat → Nat → Int
  | 0 => fun _ _ => 0
  | i + 1 => smTo (sumB5 bx nc ns i) (bWho nc (bx.getD i default)) (bx.getD i default) ns

theorem bN_ok {v : B5} (h : v.ok) (k : Nat) : 0 ≤ bN v k ∧ bN v k ≤ 255 := by
  obtain ⟨_, h1, h2, _, _⟩ := h
  unfold okU at h1 h2
  cases k with
  | zero => exact h1
  | succ _ => exact h2
theorem smTo_bnd {s : Nat → Nat → Int} {B : Int} (hs : ∀ c k, 0 ≤ s c k ∧ s c k ≤ B) (c : Nat) {v : B5} (hv : v.ok) : ∀ n c' k', 0 ≤ smTo s c v n c' k' ∧ smTo s c v n c' k' ≤ (if k' < n then B + 255 else B)
  | 0, c', k' => by rw [smTo, if_neg (Nat.not_lt_zero _)]; exact hs c' k'
  | n + 1, c', k' => by
    have ih := smTo_bnd hs c hv n
    have hb := bN_ok hv n
    rw [smTo, upd2]
    split
    · rename_i h
      obtain ⟨rfl, rfl⟩ := h
      have := ih c' k'
      rw [if_neg (Nat.lt_irrefl _)] at this
      rw [if_pos (Nat.lt_succ_self _)]
      omega
    · have := ih c' k'
      split at this
      · rw [if_pos (by omega)]; exact this
      · split
        · omega
        · exact this
theorem sumB5_bnd {bx : List B5} (hbx : ∀ v ∈ bx, v.ok) (nc ns : Nat) : ∀ i, i ≤ bx.length → ∀ c k, 0 ≤ sumB5 bx nc ns i c k ∧ sumB5 bx nc ns i c k ≤ 255 * i
  | 0, _, _, _ => by simp [sumB5]
  | i + 1, h, c, k => by
    have ih := sumB5_bnd hbx nc ns i (by omega)
    have := smTo_bnd ih (bWho nc (bx.getD i default)) (hbx _ (getD_mem (l := bx) (i := i) (by omega))) ns c k
    rw [sumB5]
    split at this <;> omega
theorem cntB_bnd (bx : List B5) (nc : Nat) : ∀ i c, 0 ≤ cntB bx nc i c ∧ cntB bx nc i c ≤ i
  | 0, _ => by simp [cntB]
  | i + 1, c => by
    have := cntB_bnd bx nc i (bWho nc (bx.getD i default))
    have := cntB_bnd bx nc i c
    rw [cntB]; split <;> omega

/-- Bills, so far, of which some are filled. -/
def bl2 (n : Nat) (f : Nat → Int) (d : Nat) (M : Nat → List (Int × Int)) : List (List V) := (List.range n).map fun j => [int (f j), if j < d then .sl 2 ((M j).map encS) false else nilV]
theorem bl2_zero (n : Nat) (f : Nat → Int) (M : Nat → List (Int × Int)) : bl2 n f 0 M = bl n f := by simp [bl2, bl]
@[go_sem] theorem bl2_len (n : Nat) (f : Nat → Int) (d : Nat) (M : Nat → List (Int × Int)) : (bl2 n f d M).length = n := by simp [bl2]
@[go_sem] theorem bl2_pu (n : Nat) (f : Nat → Int) (d : Nat) (M : Nat → List (Int × Int)) : PuE (bl2 n f d M) = True := by
  simp only [PuE, eq_iff_iff, iff_true, bl2]
  intro e he
  obtain ⟨c, _, rfl⟩ := List.mem_map.1 he
  have h1 : Pu (.sl 2 ((M c).map encS) false) := by first | assumption | (simp only [go_sem] <;> assumption) | (simp only [go_sem, *]; done) | (simp [go_sem]; done)
  intro v hv
  simp only [List.mem_cons, List.not_mem_nil, or_false] at hv
  rcases hv with rfl | rfl
  · exact .lit _
  · split
    · exact h1
    · exact .lit _
@[go_sem] theorem bl2_get (n : Nat) (f : Nat → Int) (d : Nat) (M : Nat → List (Int × Int)) (h : d < n) : (bl2 n f d M).getD d [] = [int (f d), nilV] := by
  rw [List.getD_eq_getElem?_getD]; simp [bl2, h]
@[go_sem] theorem set_bl2_get (n : Nat) (f : Nat → Int) (d : Nat) (M : Nat → List (Int × Int)) (c : Nat) (e : List V) (h : c < n) : ((bl2 n f d M).set c e).getD c [] = e := by
  rw [List.getD_eq_getElem?_getD, List.getElem?_set_self (by rw [bl2_len]; exact h)]; rfl
@[go_sem] theorem set_bl2_len (n : Nat) (f : Nat → Int) (d : Nat) (M : Nat → List (Int × Int)) (c : Nat) (e : List V) : ((bl2 n f d M).set c e).length = n := by rw [List.length_set, bl2_len]
@[go_sem] theorem set_bl2_set (n : Nat) (f : Nat → Int) (d : Nat) (M : Nat → List (Int × Int)) (c : Nat) (e e' : List V) : ((bl2 n f d M).set c e).set c e' = (bl2 n f d M).set c e' := List.set_set ..
theorem bl2_next (n : Nat) (f : Nat → Int) (d : Nat) (M : Nat → List (Int × Int)) : (bl2 n f d M).set d [int (f d), .sl 2 ((M d).map encS) false] = bl2 n f (d + 1) M := by
  refine List.ext_getElem (by simp [bl2]) fun i h1 h2 => ?_
  rw [List.getElem_set]
  simp only [bl2, List.getElem_map, List.getElem_range]
  by_cases h : d = i
  · subst h; rw [if_pos rfl, if_pos (by omega)]
  · rw [if_neg h]
    by_cases h' : i < d
    · rw [if_pos h', if_pos (by omega)]
    · rw [if_neg h', if_neg (by omega)]
@[go_sem] theorem take_map_take {α : Type} (g : α → List V) (l : List α) (i : Nat) : ((l.take i).map g).take i = (l.take i).map g := List.take_of_length_le (by rw [List.length_map, List.length_take]; omega)
@[go_sem] theorem take_bl2 (n : Nat) (f : Nat → Int) (d : Nat) (M : Nat → List (Int × Int)) : (bl2 n f d M).take n = bl2 n f d M := List.take_of_length_le (by rw [bl2_len]; exact Nat.le_refl _)
@[go_sem] theorem le_self' (n : Nat) : (n ≤ n) = True := by simp
def bq (b0 b1 b2 b3 b4 b5 : Int) : Nat → Int × Int
  | 0 => (b0, b1)
  | 1 => (b2, b3)
  | _ => (b4, b5)
def mSpan (S : Nat → Nat → Int) (q : Nat → Int × Int) (c k : Nat) : Int × Int := (max 0 (S c k - (q c).1 % 8), S c k + (q c).2 % 8)
def mHeld (S : Nat → Nat → Int) (q : Nat → Int × Int) (n c : Nat) : List (Int × Int) := (List.range n).map (mSpan S q c)
def rowK (n : Nat) (f : Nat → Int) (c : Nat) (M : Nat → List (Int × Int)) : Nat → List (List V)
  | 0 => bl2 n f c M
  | k + 1 => (bl2 n f c M).set c [int (f c), .os 71 2 (k + 1) false]
def row71 (g : Nat → Int × Int) : Nat → Option Blk
  | 0 => none
  | k + 1 => some ⟨2, ((List.range (k + 1)).map g).map encS, 60, .wr⟩
theorem rowK0 (n : Nat) (f : Nat → Int) (c : Nat) (M : Nat → List (Int × Int)) : rowK n f c M 0 = bl2 n f c M := rfl
theorem rowK1 (n : Nat) (f : Nat → Int) (c : Nat) (M : Nat → List (Int × Int)) : rowK n f c M 1 = (bl2 n f c M).set c [int (f c), .os 71 2 1 false] := rfl
theorem rowK2 (n : Nat) (f : Nat → Int) (c : Nat) (M : Nat → List (Int × Int)) : rowK n f c M 2 = (bl2 n f c M).set c [int (f c), .os 71 2 2 false] := rfl
theorem row71_0 (g : Nat → Int × Int) : row71 g 0 = none := rfl
theorem row71_1 (g : Nat → Int × Int) : row71 g 1 = some ⟨2, [encS (g 0)], 60, .wr⟩ := rfl
theorem row71_2 (g : Nat → Int × Int) : row71 g 2 = some ⟨2, [encS (g 0), encS (g 1)], 60, .wr⟩ := rfl
theorem bSpan0 (S : Nat → Nat → Int) (b0 b1 b2 b3 b4 b5 : Int) (k : Nat) : mSpan S (bq b0 b1 b2 b3 b4 b5) 0 k = (max 0 (S 0 k - b0 % 8), S 0 k + b1 % 8) := rfl
theorem bSpan1 (S : Nat → Nat → Int) (b0 b1 b2 b3 b4 b5 : Int) (k : Nat) : mSpan S (bq b0 b1 b2 b3 b4 b5) 1 k = (max 0 (S 1 k - b2 % 8), S 1 k + b3 % 8) := rfl
theorem bSpan2 (S : Nat → Nat → Int) (b0 b1 b2 b3 b4 b5 : Int) (k : Nat) : mSpan S (bq b0 b1 b2 b3 b4 b5) 2 k = (max 0 (S 2 k - b4 % 8), S 2 k + b5 % 8) := rfl

/-- What is made. -/
def madeV (bx : List B5) (nc ns n : Nat) (q : Nat → Int × Int) : V :=
  .tup [.agg [.sl 1 ((bx.take n).map fun v => encB (bBox v ns)) false, .sl 2 (bl2 nc (cntB bx nc n) nc (mHeld (sumB5 bx nc ns n) q ns)) false], .sl 1 ((bx.take n).map fun v => encI (bWho nc v)) false, .sl 1 ((bx.take n).map fun v => encW (bHeld v ns)) false]

end Go.Aw
end
