/-
  A part of the proof that a law returns true for every input that the given row speaks of: an own verified walk over the program (namespace Go.Aw), contracts of the functions that the law calls, and the law itself. Conditions: those of the given row, no other.
-/
import Derived.Test.YtofoildhohgngaaDoorPart4
import Derived.ReadAgain
import Derived.ChangeSame
import Derived.Test.YtofoildhohgngaaDoorTie
import Derived.Test.YtofoildhohgngaaDoorCards
import Derived.SevenTiedAt
import Derived.JoinedOf
import Derived.RowKit
import Derived.RowKitTokens
import Derived.LaidLaws
import Derived.Stop.Joined
import Derived.OpenShut
import Derived.ChangeVars
import Derived.ProofKit
section
set_option linter.unusedVariables false
set_option linter.unusedSimpArgs false
set_option maxRecDepth 20000
set_option maxHeartbeats 4000000
/-! The law's known answers. -/
namespace Go.Aw
open Go.RowKit Go.Proofs

theorem kFits (a b : Int) : Fits knownB (knownC a b) := by
  constructor <;> simp [knownB, knownC]
theorem kCheck1 : checkR knownB (knownC 41 42) = 0 := by decide +kernel
theorem kCheck2 : checkR knownB (knownC 50 60) = 0 := by decide +kernel
theorem kWays1 : allW knownB (knownC 41 42) = [[0, 0, 1, 1], [1, 0, 0, 1]] := by decide +kernel
theorem kWays2 : allW knownB (knownC 50 60) = [] := by decide +kernel
theorem kNe : allW knownB (knownC 41 42) ≠ [] := by rw [kWays1]; exact List.cons_ne_nil _ _
theorem Ct.cast {P : Program} {g : FuncId} {av : List V} {r r' : V} (h : Ct P g av r) (e : r = r') : Ct P g av r' := e ▸ h

theorem k_Ways : Ct Tryd.prog 18 [encLoad knownB (knownC 41 42)] (.tup [int 2, .sl 1 (([0, 0, 1, 1] : List Int).map encI) false, int 0]) :=
  Ct.cast (Ways_ok _ _ (kFits 41 42) kCheck1 kNe) (by rw [kWays1]; rfl)
theorem k_Can : Ct Tryd.prog 19 [encLoad knownB (knownC 41 42)] (.tup [.sl 1 (([3, 1, 3, 2] : List Int).map encI) true, int 0]) :=
  Ct.cast (Can_ok _ _ (kFits 41 42) kCheck1 kNe) (by rw [kWays1, show canI [[0, 0, 1, 1], [1, 0, 0, 1]] knownB.length ([[0, 0, 1, 1], [1, 0, 0, 1]] : List (List Int)).length = [3, 1, 3, 2] from by decide +kernel])
theorem k_Tog1 : Ct Tryd.prog 24 [encLoad knownB (knownC 41 42), int 1, int 3] (.tup [.lit (.bool false), .lit (.bool false), int 0]) :=
  Ct.cast (Together_ok _ _ 1 3 (kFits 41 42) kCheck1 kNe (by decide +kernel) (by decide)) (by rw [kWays1]; rfl)
theorem k_Tog2 : Ct Tryd.prog 24 [encLoad knownB (knownC 41 42), int 0, int 1] (.tup [.lit (.bool false), .lit (.bool true), int 0]) :=
  Ct.cast (Together_ok _ _ 0 1 (kFits 41 42) kCheck1 kNe (by decide +kernel) (by decide)) (by rw [kWays1]; rfl)
theorem k_Worth : Ct Tryd.prog 26 [encLoad knownB (knownC 41 42), int 1] (.tup [int 2, int 0]) :=
  Ct.cast (Worth_ok _ _ 1 (kFits 41 42) kCheck1 kNe (by decide)) (by rw [kWays1]; rfl)
theorem k_Ask : Ct Tryd.prog 27 [encLoad knownB (knownC 41 42)] (.tup [int 0, int 1, int 0]) :=
  Ct.cast (Ask_ok _ _ (kFits 41 42) kCheck1 (by rw [kWays1]; decide)) (by rw [kWays1, show askTo [[0, 0, 1, 1], [1, 0, 0, 1]] knownB.length = (0, 1) from by decide +kernel])
theorem k_Questions : Ct Tryd.prog 29 [encLoad knownB (knownC 41 42)] (.tup [int 1, int 0, int 0]) :=
  Ct.cast (Questions_ok _ _ (kFits 41 42) kCheck1 kNe (by rw [kWays1]; decide) 1 (by rw [kWays1]; decide +kernel) (by rw [kWays1]; decide +kernel)) (by rw [kWays1, show (decR knownB.length 1 [[0, 0, 1, 1], [1, 0, 0, 1]]).1 = 0 from by decide +kernel]; rfl)
theorem k_Wrong : Ct Tryd.prog 31 [encLoad knownB (knownC 50 60)] (.tup [.sl 1 (([0] : List Int).map encI) false, int 0]) :=
  Ct.cast (Wrong_ok _ _ (kFits 50 60) kCheck2 kWays2) (by rw [show wrongTo (isPos knownB (knownC 50 60)) (2 ^ knownB.length) = some [0] from by decide +kernel]; rfl)
theorem k_Short : Ct Tryd.prog 33 [encLoad knownB (knownC 41 42)] (.tup [.sl 2 (([(-3, 4)] : List (Int × Int)).map encS) false, int 0]) :=
  Ct.cast (Short_ok _ _ (kFits 41 42) kCheck1) (by rw [show shorts knownB (knownC 41 42) (stuffs (knownC 41 42)) = [(-3, 4)] from by decide +kernel])
theorem k_Share : Ct Tryd.prog 34 [encLoad knownB (knownC 41 42), int 1, int 0] (.tup [.agg (encS (41, 42)), int 0]) :=
  Ct.cast (Share_ok _ _ 1 0 (kFits 41 42) kCheck1 kNe (by decide) (by decide)) (by rw [kWays1, show shareTo knownB (knownC 41 42) 1 0 [[0, 0, 1, 1], [1, 0, 0, 1]] ([[0, 0, 1, 1], [1, 0, 0, 1]] : List (List Int)).length = (41, 42) from by decide +kernel])
theorem k_No : Ct Tryd.prog 18 [encLoad knownB (knownC 50 60)] (.tup [int 0, nilV, int 9]) := Ways_no _ _ (kFits 50 60) 9 (.none kCheck2 kWays2)
theorem kPu (a b : Int) : Pu (encLoad knownB (knownC a b)) := by first | assumption | (simp only [go_sem] <;> assumption) | (simp only [go_sem, *]; done) | (simp [go_sem]; done)

theorem known_spec : Ct Tryd.prog 15 [] (.lit (.bool true)) := by
  have h1 := load_spec 41 42
  have h2 := load_spec 50 60
  refine ct_enterZ Tryd.func15 rfl (by decide) Tryd.results15 Tryd.ntmps15 ?_ rfl (by simp (maxSteps := 1000000) -implicitDefEqProofs (disch := omega) only [go_sem]; rfl) fun base => ?_
  · first | assumption | (simp only [go_sem] <;> assumption) | (simp only [go_sem, *]; done) | (simp [go_sem]; done)
  repeat' (first
    | (with_reducible apply Req_intro); focus (first | omega | assumption | (simp; done))
    | with_reducible (first | apply Req_intro | refine nilT ?_ fun hn => ?_ | apply wk_draw Tryd_mixed | refine drawEnd (by kernel_rfl) ?_)
    | (with_reducible (first | apply condA_if | apply stepDG_ifN | apply stepDG_if | apply stepG_ifN | apply stepG_if)) <;> intro hb <;> (have hif := hb) <;> (try simp only [bo] at hif) <;> (try simp -implicitDefEqProofs (disch := omega) only [go_sem, hb]) <;> clear hb
    | simp (maxSteps := 1000000) -implicitDefEqProofs (disch := omega) only [go_sem])
  refine callp h1 ?_
  try simp (maxSteps := 1000000) -implicitDefEqProofs (disch := omega) only [go_sem]
  repeat' (first
    | (with_reducible apply Req_intro); focus (first | omega | assumption | (simp; done))
    | with_reducible (first | apply Req_intro | refine nilT ?_ fun hn => ?_ | apply wk_draw Tryd_mixed | refine drawEnd (by kernel_rfl) ?_)
    | (with_reducible (first | apply condA_if | apply stepDG_ifN | apply stepDG_if | apply stepG_ifN | apply stepG_if)) <;> intro hb <;> (have hif := hb) <;> (try simp only [bo] at hif) <;> (try simp -implicitDefEqProofs (disch := omega) only [go_sem, hb]) <;> clear hb
    | simp (maxSteps := 1000000) -implicitDefEqProofs (disch := omega) only [go_sem])
  refine callp k_Ways ?_
  try simp (maxSteps := 1000000) -implicitDefEqProofs (disch := omega) only [go_sem]
  repeat' (first
    | (with_reducible apply Req_intro); focus (first | omega | assumption | (simp; done))
    | with_reducible (first | apply Req_intro | refine nilT ?_ fun hn => ?_ | apply wk_draw Tryd_mixed | refine drawEnd (by kernel_rfl) ?_)
    | (with_reducible (first | apply condA_if | apply stepDG_ifN | apply stepDG_if | apply stepG_ifN | apply stepG_if)) <;> intro hb <;> (have hif := hb) <;> (try simp only [bo] at hif) <;> (try simp -implicitDefEqProofs (disch := omega) only [go_sem, hb]) <;> clear hb
    | simp (maxSteps := 1000000) -implicitDefEqProofs (disch := omega) only [go_sem])
  refine callp h1 ?_
  try simp (maxSteps := 1000000) -implicitDefEqProofs (disch := omega) only [go_sem]
  repeat' (first
    | (with_reducible apply Req_intro); focus (first | omega | assumption | (simp; done))
    | with_reducible (first | apply Req_intro | refine nilT ?_ fun hn => ?_ | apply wk_draw Tryd_mixed | refine drawEnd (by kernel_rfl) ?_)
    | (with_reducible (first | apply condA_if | apply stepDG_ifN | apply stepDG_if | apply stepG_ifN | apply stepG_if)) <;> intro hb <;> (have hif := hb) <;> (try simp only [bo] at hif) <;> (try simp -implicitDefEqProofs (disch := omega) only [go_sem, hb]) <;> clear hb
    | simp (maxSteps := 1000000) -implicitDefEqProofs (disch := omega) only [go_sem])
  refine callp k_Can ?_
  try simp (maxSteps := 1000000) -implicitDefEqProofs (disch := omega) only [go_sem]
  repeat' (first
    | (with_reducible apply Req_intro); focus (first | omega | assumption | (simp; done))
    | with_reducible (first | apply Req_intro | refine nilT ?_ fun hn => ?_ | apply wk_draw Tryd_mixed | refine drawEnd (by kernel_rfl) ?_)
    | (with_reducible (first | apply condA_if | apply stepDG_ifN | apply stepDG_if | apply stepG_ifN | apply stepG_if)) <;> intro hb <;> (have hif := hb) <;> (try simp only [bo] at hif) <;> (try simp -implicitDefEqProofs (disch := omega) only [go_sem, hb]) <;> clear hb
    | simp (maxSteps := 1000000) -implicitDefEqProofs (disch := omega) only [go_sem])
  refine callp h1 ?_
  try simp (maxSteps := 1000000) -implicitDefEqProofs (disch := omega) only [go_sem]
  repeat' (first
    | (with_reducible apply Req_intro); focus (first | omega | assumption | (simp; done))
    | with_reducible (first | apply Req_intro | refine nilT ?_ fun hn => ?_ | apply wk_draw Tryd_mixed | refine drawEnd (by kernel_rfl) ?_)
    | (with_reducible (first | apply condA_if | apply stepDG_ifN | apply stepDG_if | apply stepG_ifN | apply stepG_if)) <;> intro hb <;> (have hif := hb) <;> (try simp only [bo] at hif) <;> (try simp -implicitDefEqProofs (disch := omega) only [go_sem, hb]) <;> clear hb
    | simp (maxSteps := 1000000) -implicitDefEqProofs (disch := omega) only [go_sem])
  refine callp k_Tog1 ?_
  try simp (maxSteps := 1000000) -implicitDefEqProofs (disch := omega) only [go_sem]
  repeat' (first
    | (with_reducible apply Req_intro); focus (first | omega | assumption | (simp; done))
    | with_reducible (first | apply Req_intro | refine nilT ?_ fun hn => ?_ | apply wk_draw Tryd_mixed | refine drawEnd (by kernel_rfl) ?_)
    | (with_reducible (first | apply condA_if | apply stepDG_ifN | apply stepDG_if | apply stepG_ifN | apply stepG_if)) <;> intro hb <;> (have hif := hb) <;> (try simp only [bo] at hif) <;> (try simp -implicitDefEqProofs (disch := omega) only [go_sem, hb]) <;> clear hb
    | simp (maxSteps := 1000000) -implicitDefEqProofs (disch := omega) only [go_sem])
  refine callp h1 ?_
  try simp (maxSteps := 1000000) -implicitDefEqProofs (disch := omega) only [go_sem]
  repeat' (first
    | (with_reducible apply Req_intro); focus (first | omega | assumption | (simp; done))
    | with_reducible (first | apply Req_intro | refine nilT ?_ fun hn => ?_ | apply wk_draw Tryd_mixed | refine drawEnd (by kernel_rfl) ?_)
    | (with_reducible (first | apply condA_if | apply stepDG_ifN | apply stepDG_if | apply stepG_ifN | apply stepG_if)) <;> intro hb <;> (have hif := hb) <;> (try simp only [bo] at hif) <;> (try simp -implicitDefEqProofs (disch := omega) only [go_sem, hb]) <;> clear hb
    | simp (maxSteps := 1000000) -implicitDefEqProofs (disch := omega) only [go_sem])
  refine callp k_Tog2 ?_
  try simp (maxSteps := 1000000) -implicitDefEqProofs (disch := omega) only [go_sem]
  repeat' (first
    | (with_reducible apply Req_intro); focus (first | omega | assumption | (simp; done))
    | with_reducible (first | apply Req_intro | refine nilT ?_ fun hn => ?_ | apply wk_draw Tryd_mixed | refine drawEnd (by kernel_rfl) ?_)
    | (with_reducible (first | apply condA_if | apply stepDG_ifN | apply stepDG_if | apply stepG_ifN | apply stepG_if)) <;> intro hb <;> (have hif := hb) <;> (try simp only [bo] at hif) <;> (try simp -implicitDefEqProofs (disch := omega) only [go_sem, hb]) <;> clear hb
    | simp (maxSteps := 1000000) -implicitDefEqProofs (disch := omega) only [go_sem])
  refine callp h1 ?_
  try simp (maxSteps := 1000000) -implicitDefEqProofs (disch := omega) only [go_sem]
  repeat' (first
    | (with_reducible apply Req_intro); focus (first | omega | assumption | (simp; done))
    | with_reducible (first | apply Req_intro | refine nilT ?_ fun hn => ?_ | apply wk_draw Tryd_mixed | refine drawEnd (by kernel_rfl) ?_)
    | (with_reducible (first | apply condA_if | apply stepDG_ifN | apply stepDG_if | apply stepG_ifN | apply stepG_if)) <;> intro hb <;> (have hif := hb) <;> (try simp only [bo] at hif) <;> (try simp -implicitDefEqProofs (disch := omega) only [go_sem, hb]) <;> clear hb
    | simp (maxSteps := 1000000) -implicitDefEqProofs (disch := omega) only [go_sem])
  refine callp k_Worth ?_
  try simp (maxSteps := 1000000) -implicitDefEqProofs (disch := omega) only [go_sem]
  repeat' (first
    | (with_reducible apply Req_intro); focus (first | omega | assumption | (simp; done))
    | with_reducible (first | apply Req_intro | refine nilT ?_ fun hn => ?_ | apply wk_draw Tryd_mixed | refine drawEnd (by kernel_rfl) ?_)
    | (with_reducible (first | apply condA_if | apply stepDG_ifN | apply stepDG_if | apply stepG_ifN | apply stepG_if)) <;> intro hb <;> (have hif := hb) <;> (try simp only [bo] at hif) <;> (try simp -implicitDefEqProofs (disch := omega) only [go_sem, hb]) <;> clear hb
    | simp (maxSteps := 1000000) -implicitDefEqProofs (disch := omega) only [go_sem])
  refine callp h1 ?_
  try simp (maxSteps := 1000000) -implicitDefEqProofs (disch := omega) only [go_sem]
  repeat' (first
    | (with_reducible apply Req_intro); focus (first | omega | assumption | (simp; done))
    | with_reducible (first | apply Req_intro | refine nilT ?_ fun hn => ?_ | apply wk_draw Tryd_mixed | refine drawEnd (by kernel_rfl) ?_)
    | (with_reducible (first | apply condA_if | apply stepDG_ifN | apply stepDG_if | apply stepG_ifN | apply stepG_if)) <;> intro hb <;> (have hif := hb) <;> (try simp only [bo] at hif) <;> (try simp -implicitDefEqProofs (disch := omega) only [go_sem, hb]) <;> clear hb
    | simp (maxSteps := 1000000) -implicitDefEqProofs (disch := omega) only [go_sem])
  refine callp k_Ask ?_
  try simp (maxSteps := 1000000) -implicitDefEqProofs (disch := omega) only [go_sem]
  repeat' (first
    | (with_reducible apply Req_intro); focus (first | omega | assumption | (simp; done))
    | with_reducible (first | apply Req_intro | refine nilT ?_ fun hn => ?_ | apply wk_draw Tryd_mixed | refine drawEnd (by kernel_rfl) ?_)
    | (with_reducible (first | apply condA_if | apply stepDG_ifN | apply stepDG_if | apply stepG_ifN | apply stepG_if)) <;> intro hb <;> (have hif := hb) <;> (try simp only [bo] at hif) <;> (try simp -implicitDefEqProofs (disch := omega) only [go_sem, hb]) <;> clear hb
    | simp (maxSteps := 1000000) -implicitDefEqProofs (disch := omega) only [go_sem])
  refine callp h1 ?_
  try simp (maxSteps := 1000000) -implicitDefEqProofs (disch := omega) only [go_sem]
  repeat' (first
    | (with_reducible apply Req_intro); focus (first | omega | assumption | (simp; done))
    | with_reducible (first | apply Req_intro | refine nilT ?_ fun hn => ?_ | apply wk_draw Tryd_mixed | refine drawEnd (by kernel_rfl) ?_)
    | (with_reducible (first | apply condA_if | apply stepDG_ifN | apply stepDG_if | apply stepG_ifN | apply stepG_if)) <;> intro hb <;> (have hif := hb) <;> (try simp only [bo] at hif) <;> (try simp -implicitDefEqProofs (disch := omega) only [go_sem, hb]) <;> clear hb
    | simp (maxSteps := 1000000) -implicitDefEqProofs (disch := omega) only [go_sem])
  refine callp k_Questions ?_
  try simp (maxSteps := 1000000) -implicitDefEqProofs (disch := omega) only [go_sem]
  repeat' (first
    | (with_reducible apply Req_intro); focus (first | omega | assumption | (simp; done))
    | with_reducible (first | apply Req_intro | refine nilT ?_ fun hn => ?_ | apply wk_draw Tryd_mixed | refine drawEnd (by kernel_rfl) ?_)
    | (with_reducible (first | apply condA_if | apply stepDG_ifN | apply stepDG_if | apply stepG_ifN | apply stepG_if)) <;> intro hb <;> (have hif := hb) <;> (try simp only [bo] at hif) <;> (try simp -implicitDefEqProofs (disch := omega) only [go_sem, hb]) <;> clear hb
    | simp (maxSteps := 1000000) -implicitDefEqProofs (disch := omega) only [go_sem])
  refine callp h2 ?_
  try simp (maxSteps := 1000000) -implicitDefEqProofs (disch := omega) only [go_sem]
  repeat' (first
    | (with_reducible apply Req_intro); focus (first | omega | assumption | (simp; done))
    | with_reducible (first | apply Req_intro | refine nilT ?_ fun hn => ?_ | apply wk_draw Tryd_mixed | refine drawEnd (by kernel_rfl) ?_)
    | (with_reducible (first | apply condA_if | apply stepDG_ifN | apply stepDG_if | apply stepG_ifN | apply stepG_if)) <;> intro hb <;> (have hif := hb) <;> (try simp only [bo] at hif) <;> (try simp -implicitDefEqProofs (disch := omega) only [go_sem, hb]) <;> clear hb
    | simp (maxSteps := 1000000) -implicitDefEqProofs (disch := omega) only [go_sem])
  refine callp k_Wrong ?_
  try simp (maxSteps := 1000000) -implicitDefEqProofs (disch := omega) only [go_sem]
  repeat' (first
    | (with_reducible apply Req_intro); focus (first | omega | assumption | (simp; done))
    | with_reducible (first | apply Req_intro | refine nilT ?_ fun hn => ?_ | apply wk_draw Tryd_mixed | refine drawEnd (by kernel_rfl) ?_)
    | (with_reducible (first | apply condA_if | apply stepDG_ifN | apply stepDG_if | apply stepG_ifN | apply stepG_if)) <;> intro hb <;> (have hif := hb) <;> (try simp only [bo] at hif) <;> (try simp -implicitDefEqProofs (disch := omega) only [go_sem, hb]) <;> clear hb
    | simp (maxSteps := 1000000) -implicitDefEqProofs (disch := omega) only [go_sem])
  refine callp h1 ?_
  try simp (maxSteps := 1000000) -implicitDefEqProofs (disch := omega) only [go_sem]
  repeat' (first
    | (with_reducible apply Req_intro); focus (first | omega | assumption | (simp; done))
    | with_reducible (first | apply Req_intro | refine nilT ?_ fun hn => ?_ | apply wk_draw Tryd_mixed | refine drawEnd (by kernel_rfl) ?_)
    | (with_reducible (first | apply condA_if | apply stepDG_ifN | apply stepDG_if | apply stepG_ifN | apply stepG_if)) <;> intro hb <;> (have hif := hb) <;> (try simp only [bo] at hif) <;> (try simp -implicitDefEqProofs (disch := omega) only [go_sem, hb]) <;> clear hb
    | simp (maxSteps := 1000000) -implicitDefEqProofs (disch := omega) only [go_sem])
  refine callp k_Short ?_
  try simp (maxSteps := 1000000) -implicitDefEqProofs (disch := omega) only [go_sem]
  repeat' (first
    | (with_reducible apply Req_intro); focus (first | omega | assumption | (simp; done))
    | with_reducible (first | apply Req_intro | refine nilT ?_ fun hn => ?_ | apply wk_draw Tryd_mixed | refine drawEnd (by kernel_rfl) ?_)
    | (with_reducible (first | apply condA_if | apply stepDG_ifN | apply stepDG_if | apply stepG_ifN | apply stepG_if)) <;> intro hb <;> (have hif := hb) <;> (try simp only [bo] at hif) <;> (try simp -implicitDefEqProofs (disch := omega) only [go_sem, hb]) <;> clear hb
    | simp (maxSteps := 1000000) -implicitDefEqProofs (disch := omega) only [go_sem])
  refine callp h1 ?_
  try simp (maxSteps := 1000000) -implicitDefEqProofs (disch := omega) only [go_sem]
  repeat' (first
    | (with_reducible apply Req_intro); focus (first | omega | assumption | (simp; done))
    | with_reducible (first | apply Req_intro | refine nilT ?_ fun hn => ?_ | apply wk_draw Tryd_mixed | refine drawEnd (by kernel_rfl) ?_)
    | (with_reducible (first | apply condA_if | apply stepDG_ifN | apply stepDG_if | apply stepG_ifN | apply stepG_if)) <;> intro hb <;> (have hif := hb) <;> (try simp only [bo] at hif) <;> (try simp -implicitDefEqProofs (disch := omega) only [go_sem, hb]) <;> clear hb
    | simp (maxSteps := 1000000) -implicitDefEqProofs (disch := omega) only [go_sem])
  refine callp k_Share ?_
  try simp (maxSteps := 1000000) -implicitDefEqProofs (disch := omega) only [go_sem]
  repeat' (first
    | (with_reducible apply Req_intro); focus (first | omega | assumption | (simp; done))
    | with_reducible (first | apply Req_intro | refine nilT ?_ fun hn => ?_ | apply wk_draw Tryd_mixed | refine drawEnd (by kernel_rfl) ?_)
    | (with_reducible (first | apply condA_if | apply stepDG_ifN | apply stepDG_if | apply stepG_ifN | apply stepG_if)) <;> intro hb <;> (have hif := hb) <;> (try simp only [bo] at hif) <;> (try simp -implicitDefEqProofs (disch := omega) only [go_sem, hb]) <;> clear hb
    | simp (maxSteps := 1000000) -implicitDefEqProofs (disch := omega) only [go_sem])
  refine callp h2 ?_
  try simp (maxSteps := 1000000) -implicitDefEqProofs (disch := omega) only [go_sem]
  repeat' (first
    | (with_reducible apply Req_intro); focus (first | omega | assumption | (simp; done))
    | with_reducible (first | apply Req_intro | refine nilT ?_ fun hn => ?_ | apply wk_draw Tryd_mixed | refine drawEnd (by kernel_rfl) ?_)
    | (with_reducible (first | apply condA_if | apply stepDG_ifN | apply stepDG_if | apply stepG_ifN | apply stepG_if)) <;> intro hb <;> (have hif := hb) <;> (try simp only [bo] at hif) <;> (try simp -implicitDefEqProofs (disch := omega) only [go_sem, hb]) <;> clear hb
    | simp (maxSteps := 1000000) -implicitDefEqProofs (disch := omega) only [go_sem])
  refine callp k_No ?_
  try simp (maxSteps := 1000000) -implicitDefEqProofs (disch := omega) only [go_sem]
  repeat' (first
    | (with_reducible apply Req_intro); focus (first | omega | assumption | (simp; done))
    | with_reducible (first | apply Req_intro | refine nilT ?_ fun hn => ?_ | apply wk_draw Tryd_mixed | refine drawEnd (by kernel_rfl) ?_)
    | (with_reducible (first | apply condA_if | apply stepDG_ifN | apply stepDG_if | apply stepG_ifN | apply stepG_if)) <;> intro hb <;> (have hif := hb) <;> (try simp only [bo] at hif) <;> (try simp -implicitDefEqProofs (disch := omega) only [go_sem, hb]) <;> clear hb
    | simp (maxSteps := 1000000) -implicitDefEqProofs (disch := omega) only [go_sem])
  refine callc (Ints_spec [0, 0, 1, 1] [0, 0, 1, 1] _ _ (by decide) (by decide)) ?_
  try simp (maxSteps := 1000000) -implicitDefEqProofs (disch := omega) only [go_sem]
  repeat' (first
    | (with_reducible apply Req_intro); focus (first | omega | assumption | (simp; done))
    | with_reducible (first | apply Req_intro | refine nilT ?_ fun hn => ?_ | apply wk_draw Tryd_mixed | refine drawEnd (by kernel_rfl) ?_)
    | (with_reducible (first | apply condA_if | apply stepDG_ifN | apply stepDG_if | apply stepG_ifN | apply stepG_if)) <;> intro hb <;> (have hif := hb) <;> (try simp only [bo] at hif) <;> (try simp -implicitDefEqProofs (disch := omega) only [go_sem, hb]) <;> clear hb
    | simp (maxSteps := 1000000) -implicitDefEqProofs (disch := omega) only [go_sem])
  refine callc (Ints_spec [3, 1, 3, 2] [3, 1, 3, 2] _ _ (by decide) (by decide)) ?_
  try simp (maxSteps := 1000000) -implicitDefEqProofs (disch := omega) only [go_sem]
  repeat' (first
    | (with_reducible apply Req_intro); focus (first | omega | assumption | (simp; done))
    | with_reducible (first | apply Req_intro | refine nilT ?_ fun hn => ?_ | apply wk_draw Tryd_mixed | refine drawEnd (by kernel_rfl) ?_)
    | (with_reducible (first | apply condA_if | apply stepDG_ifN | apply stepDG_if | apply stepG_ifN | apply stepG_if)) <;> intro hb <;> (have hif := hb) <;> (try simp only [bo] at hif) <;> (try simp -implicitDefEqProofs (disch := omega) only [go_sem, hb]) <;> clear hb
    | simp (maxSteps := 1000000) -implicitDefEqProofs (disch := omega) only [go_sem])
  refine calldf 11584 (Ints_spec [0] [0] false true (by decide) (by decide)) ?_
  try simp (maxSteps := 1000000) -implicitDefEqProofs (disch := omega) only [go_sem]
  repeat' (first
    | (with_reducible apply Req_intro); focus (first | omega | assumption | (simp; done))
    | with_reducible (first | apply Req_intro | refine nilT ?_ fun hn => ?_ | apply wk_draw Tryd_mixed | refine drawEnd (by kernel_rfl) ?_)
    | (with_reducible (first | apply condA_if | apply stepDG_ifN | apply stepDG_if | apply stepG_ifN | apply stepG_if)) <;> intro hb <;> (have hif := hb) <;> (try simp only [bo] at hif) <;> (try simp -implicitDefEqProofs (disch := omega) only [go_sem, hb]) <;> clear hb
    | simp (maxSteps := 1000000) -implicitDefEqProofs (disch := omega) only [go_sem])
  refine calld (span_spec (-3) 4) ?_
  try simp (maxSteps := 1000000) -implicitDefEqProofs (disch := omega) only [go_sem]
  repeat' (first
    | (with_reducible apply Req_intro); focus (first | omega | assumption | (simp; done))
    | with_reducible (first | apply Req_intro | refine nilT ?_ fun hn => ?_ | apply wk_draw Tryd_mixed | refine drawEnd (by kernel_rfl) ?_)
    | (with_reducible (first | apply condA_if | apply stepDG_ifN | apply stepDG_if | apply stepG_ifN | apply stepG_if)) <;> intro hb <;> (have hif := hb) <;> (try simp only [bo] at hif) <;> (try simp -implicitDefEqProofs (disch := omega) only [go_sem, hb]) <;> clear hb
    | simp (maxSteps := 1000000) -implicitDefEqProofs (disch := omega) only [go_sem])
  refine calldf 11904 (At_spec [(-3, 4)] [(-3, 4)] false true (by decide) (by decide)) ?_
  try simp (maxSteps := 1000000) -implicitDefEqProofs (disch := omega) only [go_sem]
  repeat' (first
    | (with_reducible apply Req_intro); focus (first | omega | assumption | (simp; done))
    | with_reducible (first | apply Req_intro | refine nilT ?_ fun hn => ?_ | apply wk_draw Tryd_mixed | refine drawEnd (by kernel_rfl) ?_)
    | (with_reducible (first | apply condA_if | apply stepDG_ifN | apply stepDG_if | apply stepG_ifN | apply stepG_if)) <;> intro hb <;> (have hif := hb) <;> (try simp only [bo] at hif) <;> (try simp -implicitDefEqProofs (disch := omega) only [go_sem, hb]) <;> clear hb
    | simp (maxSteps := 1000000) -implicitDefEqProofs (disch := omega) only [go_sem])
  refine calld (span_spec 41 42) ?_
  try simp (maxSteps := 1000000) -implicitDefEqProofs (disch := omega) only [go_sem]
  repeat' (first
    | (with_reducible apply Req_intro); focus (first | omega | assumption | (simp; done))
    | with_reducible (first | apply Req_intro | refine nilT ?_ fun hn => ?_ | apply wk_draw Tryd_mixed | refine drawEnd (by kernel_rfl) ?_)
    | (with_reducible (first | apply condA_if | apply stepDG_ifN | apply stepDG_if | apply stepG_ifN | apply stepG_if)) <;> intro hb <;> (have hif := hb) <;> (try simp only [bo] at hif) <;> (try simp -implicitDefEqProofs (disch := omega) only [go_sem, hb]) <;> clear hb
    | simp (maxSteps := 1000000) -implicitDefEqProofs (disch := omega) only [go_sem])
  exact retz []
end Go.Aw
end
section
set_option linter.unusedVariables false
set_option linter.unusedSimpArgs false
set_option maxRecDepth 20000
set_option maxHeartbeats 4000000
/-! The law MixWays. -/
namespace Go.Aw
open Go.RowKit Go.Proofs

theorem SizeOk.fits {bs : List Box} {cs : List Bill} (h : SizeOk bs cs) : Fits bs cs :=
  ⟨fun b hb => Nat.le_trans (h.lb b hb) (by decide), fun c hc => Nat.le_trans (h.lc c hc) (by decide)⟩
theorem lopen_no (bs : List Box) (cs : List Bill) (hz : SizeOk bs cs) (e : Int) (h : OpenIs bs cs e) : Ct Tryd.prog 22 [encLoad bs cs] (.tup [nilV, int e]) := by
  cases h with
  | err h => exact lopen_err bs cs hz h
  | none h hn => exact lopen_none bs cs hz h hn
theorem open_cases (bs : List Box) (cs : List Bill) : (∃ e, OpenIs bs cs e) ∨ (checkR bs cs = 0 ∧ allW bs cs ≠ []) := by
  by_cases h : checkR bs cs = 0
  · by_cases hn : allW bs cs = []
    · exact .inl ⟨_, .none h hn⟩
    · exact .inr ⟨h, hn⟩
  · exact .inl ⟨_, .err h⟩
theorem Same_true (bs : List Box) (cs : List Bill) (hz : SizeOk bs cs) : Ct Tryd.prog 20 [encLoad bs cs, encLoad bs cs] (.lit (.bool true)) :=
  Ct.cast (Same_spec bs bs cs cs hz hz) (by simp)
theorem Ints_true (a : List Int) (e f : Bool) (h : a.length ≤ 4611686018427387904) : Ct Tryd.prog 23 [.sl 1 (a.map encI) e, .sl 1 (a.map encI) f] (.lit (.bool true)) :=
  Ct.cast (Ints_spec a a e f h h) (by simp)

/-- The carriers of a box, by bits. -/
def bitsTo (ws : List (List Int)) (i : Nat) : Nat → Int
  | 0 => 0
  | k + 1 => orI (bitsTo ws i k) ((ws.getD k default).getD i default)

theorem canJ_get (l w : List Int) (i : Nat) : ∀ j, j ≤ l.length → i < l.length → (canJ l w j).getD i default = if i < j then orI (l.getD i default) (w.getD i default) else l.getD i default
  | 0, _, _ => by simp [canJ]
  | j + 1, h, hi => by
    have ih := canJ_get l w i j (by omega) hi
    have hlen := canJ_len l w j
    rw [canJ]
    by_cases hij : i = j
    · subst hij
      rw [if_neg (Nat.lt_irrefl _)] at ih
      rw [if_pos (by omega), ← ih]
      rw [getD_default (by rw [List.length_set]; omega), List.getElem_set_self]
    · rw [getD_default (by rw [List.length_set]; omega), List.getElem_set_ne (by omega), ← getD_default (by omega), ih]
      by_cases h1 : i < j
      · rw [if_pos h1, if_pos (by omega)]
      · rw [if_neg h1, if_neg (by omega)]
theorem canI_get (ws : List (List Int)) (n i : Nat) (hi : i < n) : ∀ m, (canI ws n m).getD i default = bitsTo ws i m
  | 0 => by
    rw [canI, getD_default (by simpa using hi), List.getElem_replicate]; rfl
  | m + 1 => by
    rw [canI, canJ_get _ _ _ _ (by rw [canI_len]; exact Nat.le_refl _) (by rw [canI_len]; exact hi), if_pos hi, bitsTo, canI_get ws n i hi m]

theorem MixWays_spec (bs : List Box) (cs : List Bill) (hb : bs.length ≤ 4611686018427387904) (hc : cs.length ≤ 4611686018427387904) : Ct Tryd.prog 3 [encLoad bs cs] (.lit (.bool true)) := by
  have hlg := large_spec bs cs 7 hb hc
  refine fn_enter Tryd.func3 rfl (by decide) Tryd.results3 Tryd.ntmps3 ?_ rfl (by simp (maxSteps := 1000000) -implicitDefEqProofs (disch := omega) only [go_sem]; rfl) fun base => ?_
  · first | assumption | (simp only [go_sem] <;> assumption) | (simp only [go_sem, *]; done) | (simp [go_sem]; done)
  repeat' (first
    | (with_reducible apply Req_intro); focus (first | omega | assumption | (simp; done))
    | with_reducible (first | apply Req_intro | refine nilT ?_ fun hn => ?_ | apply wk_draw Tryd_mixed | refine drawEnd (by kernel_rfl) ?_)
    | (with_reducible (first | apply condA_if | apply stepDG_ifN | apply stepDG_if | apply stepG_ifN | apply stepG_if)) <;> intro hb <;> (have hif := hb) <;> (try simp only [bo] at hif) <;> (try simp -implicitDefEqProofs (disch := omega) only [go_sem, hb]) <;> clear hb
    | simp (maxSteps := 1000000) -implicitDefEqProofs (disch := omega) only [go_sem])
  refine callp hlg ?_
  try simp (maxSteps := 1000000) -implicitDefEqProofs (disch := omega) only [go_sem]
  repeat' (first
    | (with_reducible apply Req_intro); focus (first | omega | assumption | (simp; done))
    | with_reducible (first | apply Req_intro | refine nilT ?_ fun hn => ?_ | apply wk_draw Tryd_mixed | refine drawEnd (by kernel_rfl) ?_)
    | (with_reducible (first | apply condA_if | apply stepDG_ifN | apply stepDG_if | apply stepG_ifN | apply stepG_if)) <;> intro hb <;> (have hif := hb) <;> (try simp only [bo] at hif) <;> (try simp -implicitDefEqProofs (disch := omega) only [go_sem, hb]) <;> clear hb
    | simp (maxSteps := 1000000) -implicitDefEqProofs (disch := omega) only [go_sem])
  · refine callp known_spec ?_
    try simp (maxSteps := 1000000) -implicitDefEqProofs (disch := omega) only [go_sem]
    repeat' (first
      | (with_reducible apply Req_intro); focus (first | omega | assumption | (simp; done))
      | with_reducible (first | apply Req_intro | refine nilT ?_ fun hn => ?_ | apply wk_draw Tryd_mixed | refine drawEnd (by kernel_rfl) ?_)
      | (with_reducible (first | apply condA_if | apply stepDG_ifN | apply stepDG_if | apply stepG_ifN | apply stepG_if)) <;> intro hb <;> (have hif := hb) <;> (try simp only [bo] at hif) <;> (try simp -implicitDefEqProofs (disch := omega) only [go_sem, hb]) <;> clear hb
      | simp (maxSteps := 1000000) -implicitDefEqProofs (disch := omega) only [go_sem])
    refine ret_do ?_
    rfl
  have hz : SizeOk bs cs := by
    refine bigR_false ?_
    have := hif
    simp only [largeR, Bool.or_eq_false_iff] at this
    exact this.1
  obtain ⟨hnb, hnc, hlb, hlc⟩ := id hz
  have hck := Check_spec bs cs hz.fits.b hz.fits.c
  have hrk := RCheck_spec bs cs hz
  refine callp (Copy_spec bs cs hz) ?_
  try simp (maxSteps := 1000000) -implicitDefEqProofs (disch := omega) only [go_sem]
  repeat' (first
    | (with_reducible apply Req_intro); focus (first | omega | assumption | (simp; done))
    | with_reducible (first | apply Req_intro | refine nilT ?_ fun hn => ?_ | apply wk_draw Tryd_mixed | refine drawEnd (by kernel_rfl) ?_)
    | (with_reducible (first | apply condA_if | apply stepDG_ifN | apply stepDG_if | apply stepG_ifN | apply stepG_if)) <;> intro hb <;> (have hif := hb) <;> (try simp only [bo] at hif) <;> (try simp -implicitDefEqProofs (disch := omega) only [go_sem, hb]) <;> clear hb
    | simp (maxSteps := 1000000) -implicitDefEqProofs (disch := omega) only [go_sem])
  refine callp hck ?_
  try simp (maxSteps := 1000000) -implicitDefEqProofs (disch := omega) only [go_sem]
  repeat' (first
    | (with_reducible apply Req_intro); focus (first | omega | assumption | (simp; done))
    | with_reducible (first | apply Req_intro | refine nilT ?_ fun hn => ?_ | apply wk_draw Tryd_mixed | refine drawEnd (by kernel_rfl) ?_)
    | (with_reducible (first | apply condA_if | apply stepDG_ifN | apply stepDG_if | apply stepG_ifN | apply stepG_if)) <;> intro hb <;> (have hif := hb) <;> (try simp only [bo] at hif) <;> (try simp -implicitDefEqProofs (disch := omega) only [go_sem, hb]) <;> clear hb
    | simp (maxSteps := 1000000) -implicitDefEqProofs (disch := omega) only [go_sem])
  rcases open_cases bs cs with ⟨e, he⟩ | ⟨h0, hn⟩
  · have hne := he.ne
    refine callp (Ways_no bs cs hz.fits e he) ?_
    try simp (maxSteps := 1000000) -implicitDefEqProofs (disch := omega) only [go_sem]
    repeat' (first
      | (with_reducible apply Req_intro); focus (first | omega | assumption | (simp; done))
      | with_reducible (first | apply Req_intro | refine nilT ?_ fun hn => ?_ | apply wk_draw Tryd_mixed | refine drawEnd (by kernel_rfl) ?_)
      | (with_reducible (first | apply condA_if | apply stepDG_ifN | apply stepDG_if | apply stepG_ifN | apply stepG_if)) <;> intro hb <;> (have hif := hb) <;> (try simp only [bo] at hif) <;> (try simp -implicitDefEqProofs (disch := omega) only [go_sem, hb]) <;> clear hb
      | simp (maxSteps := 1000000) -implicitDefEqProofs (disch := omega) only [go_sem])
    refine callp (Can_no bs cs hz.fits e he) ?_
    try simp (maxSteps := 1000000) -implicitDefEqProofs (disch := omega) only [go_sem]
    repeat' (first
      | (with_reducible apply Req_intro); focus (first | omega | assumption | (simp; done))
      | with_reducible (first | apply Req_intro | refine nilT ?_ fun hn => ?_ | apply wk_draw Tryd_mixed | refine drawEnd (by kernel_rfl) ?_)
      | (with_reducible (first | apply condA_if | apply stepDG_ifN | apply stepDG_if | apply stepG_ifN | apply stepG_if)) <;> intro hb <;> (have hif := hb) <;> (try simp only [bo] at hif) <;> (try simp -implicitDefEqProofs (disch := omega) only [go_sem, hb]) <;> clear hb
      | simp (maxSteps := 1000000) -implicitDefEqProofs (disch := omega) only [go_sem])
    refine callp (Same_true bs cs hz) ?_
    try simp (maxSteps := 1000000) -implicitDefEqProofs (disch := omega) only [go_sem]
    repeat' (first
      | (with_reducible apply Req_intro); focus (first | omega | assumption | (simp; done))
      | with_reducible (first | apply Req_intro | refine nilT ?_ fun hn => ?_ | apply wk_draw Tryd_mixed | refine drawEnd (by kernel_rfl) ?_)
      | (with_reducible (first | apply condA_if | apply stepDG_ifN | apply stepDG_if | apply stepG_ifN | apply stepG_if)) <;> intro hb <;> (have hif := hb) <;> (try simp only [bo] at hif) <;> (try simp -implicitDefEqProofs (disch := omega) only [go_sem, hb]) <;> clear hb
      | simp (maxSteps := 1000000) -implicitDefEqProofs (disch := omega) only [go_sem])
    refine callp hrk ?_
    try simp (maxSteps := 1000000) -implicitDefEqProofs (disch := omega) only [go_sem]
    repeat' (first
      | (with_reducible apply Req_intro); focus (first | omega | assumption | (simp; done))
      | with_reducible (first | apply Req_intro | refine nilT ?_ fun hn => ?_ | apply wk_draw Tryd_mixed | refine drawEnd (by kernel_rfl) ?_)
      | (with_reducible (first | apply condA_if | apply stepDG_ifN | apply stepDG_if | apply stepG_ifN | apply stepG_if)) <;> intro hb <;> (have hif := hb) <;> (try simp only [bo] at hif) <;> (try simp -implicitDefEqProofs (disch := omega) only [go_sem, hb]) <;> clear hb
      | simp (maxSteps := 1000000) -implicitDefEqProofs (disch := omega) only [go_sem])
    all_goals first | exact absurd trivial ‹¬True› | (exfalso; omega) | skip
    refine callp (lopen_no bs cs hz e he) ?_
    try simp (maxSteps := 1000000) -implicitDefEqProofs (disch := omega) only [go_sem]
    repeat' (first
      | (with_reducible apply Req_intro); focus (first | omega | assumption | (simp; done))
      | with_reducible (first | apply Req_intro | refine nilT ?_ fun hn => ?_ | apply wk_draw Tryd_mixed | refine drawEnd (by kernel_rfl) ?_)
      | (with_reducible (first | apply condA_if | apply stepDG_ifN | apply stepDG_if | apply stepG_ifN | apply stepG_if)) <;> intro hb <;> (have hif := hb) <;> (try simp only [bo] at hif) <;> (try simp -implicitDefEqProofs (disch := omega) only [go_sem, hb]) <;> clear hb
      | simp (maxSteps := 1000000) -implicitDefEqProofs (disch := omega) only [go_sem])
    · refine callp known_spec ?_
      try simp (maxSteps := 1000000) -implicitDefEqProofs (disch := omega) only [go_sem]
      repeat' (first
        | (with_reducible apply Req_intro); focus (first | omega | assumption | (simp; done))
        | with_reducible (first | apply Req_intro | refine nilT ?_ fun hn => ?_ | apply wk_draw Tryd_mixed | refine drawEnd (by kernel_rfl) ?_)
        | (with_reducible (first | apply condA_if | apply stepDG_ifN | apply stepDG_if | apply stepG_ifN | apply stepG_if)) <;> intro hb <;> (have hif := hb) <;> (try simp only [bo] at hif) <;> (try simp -implicitDefEqProofs (disch := omega) only [go_sem, hb]) <;> clear hb
        | simp (maxSteps := 1000000) -implicitDefEqProofs (disch := omega) only [go_sem])
      refine ret_do ?_
      rfl
    · exact absurd ‹e = 0› hne
  · have hg := good_of_check h0
    have h8 := hg.nb
    have h3 := hg.nc
    have hfew := hg.valid.few
    have hok := (allW_ok bs cs).mono hg.nc
    have hpos := pos_of_ne hn
    have hcl := canI_len (allW bs cs) bs.length (allW bs cs).length
    have hl0 : ((allW bs cs).getD 0 default).length = bs.length := (hok _ (getD_mem hpos)).1
    refine callp (Ways_ok bs cs hz.fits h0 hn) ?_
    try simp (maxSteps := 1000000) -implicitDefEqProofs (disch := omega) only [go_sem]
    repeat' (first
      | (with_reducible apply Req_intro); focus (first | omega | assumption | (simp; done))
      | with_reducible (first | apply Req_intro | refine nilT ?_ fun hn => ?_ | apply wk_draw Tryd_mixed | refine drawEnd (by kernel_rfl) ?_)
      | (with_reducible (first | apply condA_if | apply stepDG_ifN | apply stepDG_if | apply stepG_ifN | apply stepG_if)) <;> intro hb <;> (have hif := hb) <;> (try simp only [bo] at hif) <;> (try simp -implicitDefEqProofs (disch := omega) only [go_sem, hb]) <;> clear hb
      | simp (maxSteps := 1000000) -implicitDefEqProofs (disch := omega) only [go_sem])
    refine callp (Can_ok bs cs hz.fits h0 hn) ?_
    try simp (maxSteps := 1000000) -implicitDefEqProofs (disch := omega) only [go_sem]
    repeat' (first
      | (with_reducible apply Req_intro); focus (first | omega | assumption | (simp; done))
      | with_reducible (first | apply Req_intro | refine nilT ?_ fun hn => ?_ | apply wk_draw Tryd_mixed | refine drawEnd (by kernel_rfl) ?_)
      | (with_reducible (first | apply condA_if | apply stepDG_ifN | apply stepDG_if | apply stepG_ifN | apply stepG_if)) <;> intro hb <;> (have hif := hb) <;> (try simp only [bo] at hif) <;> (try simp -implicitDefEqProofs (disch := omega) only [go_sem, hb]) <;> clear hb
      | simp (maxSteps := 1000000) -implicitDefEqProofs (disch := omega) only [go_sem])
    refine callp (Same_true bs cs hz) ?_
    try simp (maxSteps := 1000000) -implicitDefEqProofs (disch := omega) only [go_sem]
    repeat' (first
      | (with_reducible apply Req_intro); focus (first | omega | assumption | (simp; done))
      | with_reducible (first | apply Req_intro | refine nilT ?_ fun hn => ?_ | apply wk_draw Tryd_mixed | refine drawEnd (by kernel_rfl) ?_)
      | (with_reducible (first | apply condA_if | apply stepDG_ifN | apply stepDG_if | apply stepG_ifN | apply stepG_if)) <;> intro hb <;> (have hif := hb) <;> (try simp only [bo] at hif) <;> (try simp -implicitDefEqProofs (disch := omega) only [go_sem, hb]) <;> clear hb
      | simp (maxSteps := 1000000) -implicitDefEqProofs (disch := omega) only [go_sem])
    refine callp hrk ?_
    try simp (maxSteps := 1000000) -implicitDefEqProofs (disch := omega) only [go_sem]
    repeat' (first
      | (with_reducible apply Req_intro); focus (first | omega | assumption | (simp; done))
      | with_reducible (first | apply Req_intro | refine nilT ?_ fun hn => ?_ | apply wk_draw Tryd_mixed | refine drawEnd (by kernel_rfl) ?_)
      | (with_reducible (first | apply condA_if | apply stepDG_ifN | apply stepDG_if | apply stepG_ifN | apply stepG_if)) <;> intro hb <;> (have hif := hb) <;> (try simp only [bo] at hif) <;> (try simp -implicitDefEqProofs (disch := omega) only [go_sem, hb]) <;> clear hb
      | simp (maxSteps := 1000000) -implicitDefEqProofs (disch := omega) only [go_sem])
    all_goals first | exact absurd trivial ‹¬True› | (exfalso; omega) | skip
    refine callp (lopen_ok bs cs hz h0 hn) ?_
    try simp (maxSteps := 1000000) -implicitDefEqProofs (disch := omega) only [go_sem]
    repeat' (first
      | (with_reducible apply Req_intro); focus (first | omega | assumption | (simp; done))
      | with_reducible (first | apply Req_intro | refine nilT ?_ fun hn => ?_ | apply wk_draw Tryd_mixed | refine drawEnd (by kernel_rfl) ?_)
      | (with_reducible (first | apply condA_if | apply stepDG_ifN | apply stepDG_if | apply stepG_ifN | apply stepG_if)) <;> intro hb <;> (have hif := hb) <;> (try simp only [bo] at hif) <;> (try simp -implicitDefEqProofs (disch := omega) only [go_sem, hb]) <;> clear hb
      | simp (maxSteps := 1000000) -implicitDefEqProofs (disch := omega) only [go_sem])
    all_goals first | exact absurd trivial ‹¬True› | (exfalso; omega) | skip
    refine callp (Ints_true ((allW bs cs).getD 0 default) _ _ (by omega)) ?_
    try simp (maxSteps := 1000000) -implicitDefEqProofs (disch := omega) only [go_sem]
    repeat' (first
      | (with_reducible apply Req_intro); focus (first | omega | assumption | (simp; done))
      | with_reducible (first | apply Req_intro | refine nilT ?_ fun hn => ?_ | apply wk_draw Tryd_mixed | refine drawEnd (by kernel_rfl) ?_)
      | (with_reducible (first | apply condA_if | apply stepDG_ifN | apply stepDG_if | apply stepG_ifN | apply stepG_if)) <;> intro hb <;> (have hif := hb) <;> (try simp only [bo] at hif) <;> (try simp -implicitDefEqProofs (disch := omega) only [go_sem, hb]) <;> clear hb
      | simp (maxSteps := 1000000) -implicitDefEqProofs (disch := omega) only [go_sem])
    all_goals first | exact absurd trivial ‹¬True› | (exfalso; omega) | skip
    have hget := fun i hi => canI_get (allW bs cs) bs.length i hi (allW bs cs).length
    generalize canI (allW bs cs) bs.length (allW bs cs).length = can at *
    refine loop_at (α := Nat) [2, 12, 13, 14, 101, 102, 103, 104, 105, 106, 107, 108, 109, 110, 111, 112, 113, 114, 115, 116, 117, 118, 119, 120, 121, 122, 123, 124, 125, 126, 127, 128, 129] (fun i => [(12, .lit (.int .i64 i))]) (fun i => i ≤ bs.length) (fun i => bs.length - i) 0 (fun x => by simp (maxSteps := 1000000) -implicitDefEqProofs (disch := omega) only [go_sem]; rfl) ?_ ?_ fun x hx => ?_
    · exact weak_do []
    · exact Nat.zero_le _
    by_cases hlt : x < bs.length
    · have hgx := hget x hlt
      repeat' (first
        | (with_reducible apply Req_intro); focus (first | omega | assumption | (simp; done))
        | with_reducible (first | apply Req_intro | refine nilT ?_ fun hn => ?_ | apply wk_draw Tryd_mixed | refine drawEnd (by kernel_rfl) ?_)
        | (with_reducible (first | apply condA_if | apply stepDG_ifN | apply stepDG_if | apply stepG_ifN | apply stepG_if)) <;> intro hb <;> (have hif := hb) <;> (try simp only [bo] at hif) <;> (try simp -implicitDefEqProofs (disch := omega) only [go_sem, hb]) <;> clear hb
        | simp (maxSteps := 1000000) -implicitDefEqProofs (disch := omega) only [go_sem])
      all_goals first | (exfalso; omega) | skip
      rename Nat => y
      refine loop_at (α := Nat) [13, 14, 107, 108, 109, 110, 111, 112, 113, 114, 115, 116, 117, 118, 119, 120, 121, 122, 123] (fun k => [(14, .lit (.int .i64 k)), (13, int (bitsTo (allW bs cs) y k))]) (fun k => k ≤ (allW bs cs).length) (fun k => (allW bs cs).length - k) 0 (fun x => by simp (maxSteps := 1000000) -implicitDefEqProofs (disch := omega) only [go_sem]; rfl) ?_ ?_ fun x hx => ?_
      · simp only [bitsTo]
        exact weak_do []
      · exact Nat.zero_le _
      by_cases hlk : x < (allW bs cs).length
      · obtain ⟨hw1, hw2⟩ := hok _ (getD_mem hlk)
        have hv := hw2 _ (getD_mem (l := (allW bs cs).getD x default) (i := y) (by omega))
        have hbt : bitsTo (allW bs cs) y (x + 1) = orI (bitsTo (allW bs cs) y x) (((allW bs cs).getD x default).getD y default) := rfl
        repeat' (first
          | (with_reducible apply Req_intro); focus (first | omega | assumption | (simp; done))
          | with_reducible (first | apply Req_intro | refine nilT ?_ fun hn => ?_ | apply wk_draw Tryd_mixed | refine drawEnd (by kernel_rfl) ?_)
          | (with_reducible (first | apply condA_if | apply stepDG_ifN | apply stepDG_if | apply stepG_ifN | apply stepG_if)) <;> intro hb <;> (have hif := hb) <;> (try simp only [bo] at hif) <;> (try simp -implicitDefEqProofs (disch := omega) only [go_sem, hb]) <;> clear hb
          | simp (maxSteps := 1000000) -implicitDefEqProofs (disch := omega) only [go_sem])
        all_goals first | (exfalso; omega) | skip
        · generalize ((allW bs cs).getD x default).getD y default = v at hv
          obtain rfl | rfl | rfl : v = 0 ∨ v = 1 ∨ v = 2 := by omega
          all_goals decide
        · with_reducible refine nxt_w (x + 1) ?_ ?_
          · (try dsimp only)
            simp only [bitsTo, orI]
            exact weak_do []
          try dsimp only
          omega
      · obtain rfl : x = (allW bs cs).length := by omega
        rw [← hgx]
        repeat' (first
          | (with_reducible apply Req_intro); focus (first | omega | assumption | (simp; done))
          | with_reducible (first | apply Req_intro | refine nilT ?_ fun hn => ?_ | apply wk_draw Tryd_mixed | refine drawEnd (by kernel_rfl) ?_)
          | (with_reducible (first | apply condA_if | apply stepDG_ifN | apply stepDG_if | apply stepG_ifN | apply stepG_if)) <;> intro hb <;> (have hif := hb) <;> (try simp only [bo] at hif) <;> (try simp -implicitDefEqProofs (disch := omega) only [go_sem, hb]) <;> clear hb
          | simp (maxSteps := 1000000) -implicitDefEqProofs (disch := omega) only [go_sem])
        all_goals first | (exfalso; omega) | skip
        · exact absurd trivial ‹¬True›
        · refine nxt_w (y + 1) (weak_do []) ?_
          try dsimp only
          omega
    · obtain rfl : x = bs.length := by omega
      repeat' (first
        | (with_reducible apply Req_intro); focus (first | omega | assumption | (simp; done))
        | with_reducible (first | apply Req_intro | refine nilT ?_ fun hn => ?_ | apply wk_draw Tryd_mixed | refine drawEnd (by kernel_rfl) ?_)
        | (with_reducible (first | apply condA_if | apply stepDG_ifN | apply stepDG_if | apply stepG_ifN | apply stepG_if)) <;> intro hb <;> (have hif := hb) <;> (try simp only [bo] at hif) <;> (try simp -implicitDefEqProofs (disch := omega) only [go_sem, hb]) <;> clear hb
        | simp (maxSteps := 1000000) -implicitDefEqProofs (disch := omega) only [go_sem])
      all_goals first | (exfalso; omega) | skip
      refine callp known_spec ?_
      try simp (maxSteps := 1000000) -implicitDefEqProofs (disch := omega) only [go_sem]
      repeat' (first
        | (with_reducible apply Req_intro); focus (first | omega | assumption | (simp; done))
        | with_reducible (first | apply Req_intro | refine nilT ?_ fun hn => ?_ | apply wk_draw Tryd_mixed | refine drawEnd (by kernel_rfl) ?_)
        | (with_reducible (first | apply condA_if | apply stepDG_ifN | apply stepDG_if | apply stepG_ifN | apply stepG_if)) <;> intro hb <;> (have hif := hb) <;> (try simp only [bo] at hif) <;> (try simp -implicitDefEqProofs (disch := omega) only [go_sem, hb]) <;> clear hb
        | simp (maxSteps := 1000000) -implicitDefEqProofs (disch := omega) only [go_sem])
      refine ret_do ?_
      rfl
end Go.Aw
end
section
set_option linter.unusedVariables false
set_option linter.unusedSimpArgs false
/-! Arguments that are read stand for abstract values. -/
namespace Go.Aw
open Go.RowKit Go.ChangeShapes Go.WideShapes

/-- Cells that stand for abstract ones. -/
def RepL (w : World) (ok : Nat → Nat → Prop) (cs : List Value) (ds : List V) : Prop :=
  cs.length = ds.length ∧ ∀ (j : Nat) (d : V) (u : Value), ds[j]? = some d → cs[j]? = some u → Rep w ok (fun _ => none) u d

theorem exists_list {α : Type} {p : Nat → α → Prop} : ∀ n, (∀ i, i < n → ∃ a, p i a) → ∃ l : List α, l.length = n ∧ ∀ i a, l[i]? = some a → p i a
  | 0, _ => ⟨[], rfl, fun i a h => by cases h⟩
  | n + 1, h => by
    obtain ⟨l, hl, hp⟩ := exists_list n fun i hi => h i (by omega)
    obtain ⟨a, ha⟩ := h n (by omega)
    refine ⟨l ++ [a], by simp [hl], fun i b hb => ?_⟩
    rcases Nat.lt_or_ge i l.length with h1 | h1
    · rw [List.getElem?_append_left h1] at hb; exact hp i b hb
    · rw [List.getElem?_append_right h1] at hb
      have : i - l.length = 0 := by
        refine Classical.byContradiction fun hc => ?_
        rw [List.getElem?_eq_none (by simp; omega)] at hb; cases hb
      rw [this] at hb
      cases hb
      obtain rfl : i = n := by omega
      exact ha

theorem cells?_get {w : World} {base : Nat} {a : Addr} {n : Nat} {cs : List Value} (h : w.cells? base a n = some cs) : cs.length = n ∧ ∀ j, j < n → ∃ u, cs[j]? = some u ∧ w.cell? (a.add j) = some u := by
  unfold World.cells? at h
  split at h
  · have hl := mapM_some_length h
    rw [List.length_range] at hl
    refine ⟨hl, fun j hj => ?_⟩
    have := mapM_some_get h j j (by simp [hj])
    obtain ⟨u, hu⟩ : ∃ u, cs[j]? = some u := ⟨cs[j], List.getElem?_eq_getElem (by omega)⟩
    exact ⟨u, hu, by rw [this, hu]⟩
  · cases h

theorem add_at (b o n : Nat) : (⟨b, o, none⟩ : Addr).add n = ⟨b, o + n, none⟩ := by
  unfold Addr.add
  split
  · rename_i h; subst h; rfl
  · rfl
theorem add_add' (b o x j : Nat) : ((⟨b, o, none⟩ : Addr).add x).add j = ⟨b, o + x + j, none⟩ := by rw [add_at, add_at]

section
variable {H : Type} {enc : TypeId × Value → H} {P : Program} {w : World} {ok : Nat → Nat → Prop} {sp : Nat → Bool}

theorem mem_weightsAll {e : TypeId} : ∀ {es : List (DataW H)} {d : DataW H} {m : Nat}, d ∈ es → m ∈ d.weights P e → m ∈ DataW.weightsAll P e es
  | [], d, m, h, _ => by cases h
  | a :: r, d, m, h, hm => by
    simp only [DataW.weightsAll, List.mem_append]
    rcases List.mem_cons.1 h with rfl | h
    · exact .inl hm
    · exact .inr (mem_weightsAll h hm)

/-- A list that is read. -/
theorem slice_rep {α : Type} {en : α → List V} {k : Nat} {q : α → Prop} {t e : TypeId} (hk0 : 0 < k) (ht : P.underlying t = some (.slice e)) (hk : P.cellsOf e = k) (hb : 0 < P.bytesOf e)
    (hlen : ∀ a, (en a).length = k)
    (hel : ∀ n cs x, DataW.trod enc P w 0 sp true n e cs = some x → (∀ m ∈ x.1.weights P e, m ≤ reachBytes) → ∃ a, q a ∧ RepL w ok cs (en a))
    (hok : ∀ b o u, w.cell? ⟨b, o, none⟩ = some u → ok b o)
    {n : Nat} {cs : List Value} {x : DataW H × List MemPlace} (h : DataW.trod enc P w 0 sp true n t cs = some x) (hw : ∀ m ∈ x.1.weights P t, m ≤ reachBytes) :
    ∃ (v : Value) (l : List α), cs = [v] ∧ l.length ≤ reachBytes ∧ (∀ a ∈ l, q a) ∧ Rep w ok (fun _ => none) v (.sl k (l.map en) false) := by
  rcases DataW.trod_slice ht h with ⟨rfl, rfl⟩ | ⟨a, len, cap, elems, rest, m, rfl, rfl, rfl, hbase, hlc, hcm, hel1, hel2, hsp, hsp2⟩
  · exact ⟨_, [], rfl, Nat.zero_le _, fun a ha => (by cases ha), .sl none 0 0 k [] false (fun _ _ => undef) rfl (Nat.le_refl _) (fun h => by cases h) (fun i j hi => absurd hi (Nat.not_lt_zero _)) (fun e he => by cases he) (fun i j e d he => by cases he)⟩
  · rw [hk] at hel2
    have hwt : (elems.length + rest.length) * P.bytesOf e ≤ reachBytes ∧ ∀ d ∈ elems.map (·.1), ∀ m ∈ d.weights P e, m ≤ reachBytes := by
      simp only [DataW.weights, ht, List.length_map] at hw
      refine ⟨hw _ (List.mem_cons_self ..), fun d hd m hm => hw m ?_⟩
      exact List.mem_cons_of_mem _ (List.mem_append_left _ (mem_weightsAll hd hm))
    have key : ∀ i, i < len → ∃ p : α × List Value, w.cells? 0 (a.add (i * k)) k = some p.2 ∧ q p.1 ∧ RepL w ok p.2 (en p.1) := fun i hi => by
      have h1 := hel2 i hi
      obtain ⟨y, hy⟩ : ∃ y, elems[i]? = some y := ⟨elems[i], List.getElem?_eq_getElem (by omega)⟩
      rw [hy, Option.bind_eq_some_iff] at h1
      obtain ⟨cs, hc1, hc2⟩ := h1
      obtain ⟨b, hb1, hb2⟩ := hel _ _ _ hc2 (hwt.2 y.1 (List.mem_map_of_mem (List.mem_of_getElem? hy)))
      exact ⟨(b, cs), hc1, hb1, hb2⟩
    obtain ⟨l, hl, hp⟩ := exists_list len key
    have hspot : 0 < len → a.spot = none := fun h0 => by
      obtain ⟨p, hp1, _, _⟩ := key 0 h0
      obtain ⟨u, _, hu⟩ := (cells?_get hp1).2 0 hk0
      simp only [Nat.zero_mul, Addr.add, if_true] at hu
      unfold World.cell? at hu
      split at hu
      · split at hu
        · cases hu
        · rename_i hn; simpa using hn
      · cases hu
    refine ⟨_, l.map (·.1), rfl, ?_, ?_, ?_⟩
    · rw [List.length_map, hl, ← hel1]
      refine Nat.le_trans ?_ hwt.1
      exact Nat.le_trans (Nat.le_add_right _ _) (Nat.le_mul_of_pos_right _ hb)
    · intro b hb
      obtain ⟨p, hp1, rfl⟩ := List.mem_map.1 hb
      obtain ⟨i, hi⟩ := List.getElem?_of_mem hp1
      exact (hp i p hi).2.1
    · refine .sl (some a) len cap k _ false (fun i j => (w.cell? (a.add (i * k + j))).getD undef) (by simp [hl]) hlc (fun h => by cases h) (fun i j hi hj => ?_) (fun e he => ?_) (fun i j e d he hd => ?_)
      · obtain ⟨b, o, s⟩ := a
        obtain rfl : s = none := hspot (by omega)
        obtain ⟨p, hp1, _, _⟩ := key i hi
        obtain ⟨u, _, hu⟩ := (cells?_get hp1).2 j hj
        rw [add_add'] at hu
        have e1 : (⟨b, o, none⟩ : Addr).add (i * k + j) = ⟨b, o + i * k + j, none⟩ := by rw [add_at, Nat.add_assoc]
        exact ⟨b, o, rfl, hok _ _ _ hu, by rw [e1, hu]; rfl⟩
      · rw [List.map_map] at he
        obtain ⟨p, hp1, rfl⟩ := List.mem_map.1 he
        exact hlen _
      · rw [List.map_map, List.getElem?_map, Option.map_eq_some_iff] at he
        obtain ⟨p, hp1, rfl⟩ := he
        obtain ⟨h1, h2, h3⟩ := hp i p hp1
        have hi : i < len := by rw [← hl]; exact (List.getElem?_eq_some_iff.1 hp1).1
        have hj : j < k := by
          have := (List.getElem?_eq_some_iff.1 hd).1
          simp only [Function.comp] at this
          rwa [hlen] at this
        obtain ⟨u, hu1, hu2⟩ := (cells?_get h1).2 j hj
        have : w.cell? (a.add (i * k + j)) = some u := by
          obtain ⟨b, o, s⟩ := a
          obtain rfl : s = none := hspot (by omega)
          rw [add_add'] at hu2
          rw [← hu2, Nat.add_assoc, add_at]
        show Rep w ok _ ((w.cell? (a.add (i * k + j))).getD undef) d
        rw [this]
        exact h3.2 j d u hd hu1

theorem int_rep {k : IntKind} {t : TypeId} (ht : P.underlying t = some (.int k)) {n : Nat} {cs : List Value} {x : DataW H × List MemPlace} (h : DataW.trod enc P w 0 sp true n t cs = some x) : ∃ i, cs = [.int k i] ∧ k.min ≤ i ∧ i ≤ k.max := by
  obtain ⟨i, h1, _, h2⟩ := DataW.trod_int ht h
  simp only [Lit.wf, Bool.and_eq_true, decide_eq_true_eq] at h2
  exact ⟨i, h1, h2.1, h2.2⟩

theorem struct2_cells {t : TypeId} {f0 f1 : Field} (ht : P.underlying t = some (.struct #[f0, f1])) (hc : P.cellsOf t = 2) (h0 : f0.offset = 0) (h1 : f1.offset = 1) (c0 : P.cellsOf f0.type = 1) (c1 : P.cellsOf f1.type = 1)
    {n : Nat} {cs : List Value} {x : DataW H × List MemPlace} (h : DataW.trod enc P w 0 sp true n t cs = some x) (hw : ∀ m ∈ x.1.weights P t, m ≤ reachBytes) :
    ∃ u v y z m, cs = [u, v] ∧ DataW.trod enc P w 0 sp true m f0.type [u] = some y ∧ DataW.trod enc P w 0 sp true m f1.type [v] = some z ∧ (∀ m ∈ y.1.weights P f0.type, m ≤ reachBytes) ∧ (∀ m ∈ z.1.weights P f1.type, m ≤ reachBytes) := by
  obtain ⟨y0, y1, m, rfl, hl, g0, g1⟩ := trod_struct2 ht h
  rw [hc] at hl
  rw [h0, c0] at g0
  rw [h1, c1] at g1
  simp only [DataW.weights, ht, DataW.weightsEach, List.map_cons, List.map_nil, List.mem_append, List.append_nil] at hw
  match cs, hl with
  | [u, v], _ =>
    refine ⟨u, v, y0, y1, m, rfl, g0, g1, fun m hm => hw m ?_, fun m hm => hw m ?_⟩
    · exact .inl hm
    · exact .inr hm

theorem struct1_cells {t : TypeId} {f0 : Field} (ht : P.underlying t = some (.struct #[f0])) (hc : P.cellsOf t = 1) (h0 : f0.offset = 0) (c0 : P.cellsOf f0.type = 1)
    {n : Nat} {cs : List Value} {x : DataW H × List MemPlace} (h : DataW.trod enc P w 0 sp true n t cs = some x) (hw : ∀ m ∈ x.1.weights P t, m ≤ reachBytes) :
    ∃ u y m, cs = [u] ∧ DataW.trod enc P w 0 sp true m f0.type [u] = some y ∧ (∀ m ∈ y.1.weights P f0.type, m ≤ reachBytes) := by
  obtain ⟨y0, m, rfl, hl, g0⟩ := trod_struct1 ht h
  rw [hc] at hl
  rw [h0, c0] at g0
  simp only [DataW.weights, ht, DataW.weightsEach, List.map_cons, List.map_nil, List.mem_append, List.append_nil] at hw
  match cs, hl with
  | [u], _ => exact ⟨u, y0, m, rfl, g0, hw⟩
end

/-- What a call without own rows leaves. -/
theorem Evol.kept {ok ok' : Nat → Nat → Prop} {own' : Nat → Prop} {w w' : World} (he : Evol (fun _ => False) ok w own' ok' w') : w.keptBut w' (fun _ => False) := by
  refine ⟨he.os, he.output, fun i hi => ?_⟩
  rw [he.unch i hi (fun h => h)]
  cases w.heap[i]? with
  | none => rfl
  | some o => cases o <;> simp
theorem Evol.sameAt {ok ok' : Nat → Nat → Prop} {own' : Nat → Prop} {w w' : World} (he : Evol (fun _ => False) ok w own' ok' w') {p : MemPlace} (hp : p.block < w.heap.size) : w.sameAt w' p := by
  have h := he.unch p.block hp (fun h => h)
  cases p with
  | cell b off => exact World.cell?_of_block (w := w) (a := ⟨b, off, none⟩) h
  | map b => exact h
end Go.Aw
end
section
set_option linter.unusedVariables false
set_option linter.unusedSimpArgs false
set_option maxRecDepth 100000
/-! From a contract to the given row and card. -/
namespace Go.Aw
open Go.RowKit Go.ChangeShapes Go.WideShapes Go.Proofs

theorem own0 : ownKnob Tryd.prog.godebug = none := by kernel_rfl
theorem laidOut0 : laidOutB Tryd.prog = true := by kernel_rfl
theorem rowed0 : mapsRowed Tryd.prog = true := by kernel_rfl
theorem full0 : ∀ t e, t < Tryd.prog.types.size → Tryd.prog.underlying t = some (.slice e) → 0 < Tryd.prog.cellsOf e := slices_full_of _ (by kernel_rfl)

/-- All cells that there are. -/
def okAll (w : World) (b o : Nat) : Prop := ∃ u, w.cell? ⟨b, o, none⟩ = some u

/-- The tables lie there. -/
theorem glob_of_laid {w : World} (h : laidMetH Tryd.prog YtofoildhohgngaaDoor.Rows.mixWaysRow.laid w) : GlobOk w (okAll w) := by
  have h' : laidMet Tryd.prog YtofoildhohgngaaDoor.Rows.mixWaysRow.laid w := h
  obtain ⟨ps, ⟨g1, t1, c1, n1, p1, q1, a1, a2, a3, a4, ⟨g, t, cs, n, p, q, b1, b2, b3, b4, _⟩, _⟩, _⟩ := h'
  intro g0 vs hg j v hv
  unfold globT at hg
  split at hg
  · rename_i e
    subst e
    cases hg
    obtain rfl : g = 1 := Option.some.inj (b1.symm.trans (by kernel_rfl))
    have ht : t = 151 := Option.some.inj (b2.symm.trans (by kernel_rfl))
    subst ht
    obtain ⟨xs, m, hn, hx, hl, hlen, hf⟩ := DataW.trod_array (P := Tryd.prog) (n := 64) (e := 5) (by kernel_rfl) b4
    obtain ⟨L, hL1, hL2⟩ : ∃ L : List Int, tab64 = L.map (Value.int .u8) ∧ (YtofoildhohgngaaDoor.Rows.laid_math_bits_deBruijn64tab : DataW Unit) = .agg (L.map fun n => .lit (.int .u8 n)) := ⟨_, rfl, rfl⟩
    have hc1 : Tryd.prog.cellsOf 5 = 1 := by kernel_rfl
    rw [hL2] at hx
    have hx' : xs.map (·.1) = L.map fun n => (.lit (.int .u8 n) : DataW Unit) := by
      have := congrArg Prod.fst hx
      simp only at this
      injection this with this
      exact this.symm
    rw [hL1, List.getElem?_map, Option.map_eq_some_iff] at hv
    obtain ⟨i, hi, rfl⟩ := hv
    have h1 : (xs.map (·.1))[j]? = some (.lit (.int .u8 i)) := by rw [hx', List.getElem?_map, hi]; rfl
    rw [List.getElem?_map, Option.map_eq_some_iff] at h1
    obtain ⟨y, hy, hy1⟩ := h1
    have hj : j < 64 := by rw [← hlen]; exact (List.getElem?_eq_some_iff.1 hy).1
    have h2 := hf j hj
    rw [hy, hc1, Nat.mul_one] at h2
    obtain ⟨i', h3, h4, _⟩ := DataW.trod_int (P := Tryd.prog) (k := .u8) (by kernel_rfl) h2
    rw [h4] at hy1
    simp only [DataW.lit.injEq, Lit.int.injEq, true_and] at hy1
    subst hy1
    have h5 : w.cell? ⟨1, j, none⟩ = some (.int .u8 i') := by
      rw [World.var?_cell b1 b3 j, ← Array.getElem?_toList]
      have h6 : (cs.toList.drop j)[0]? = some (.int .u8 i') := by
        have := congrArg (fun l => l[0]?) h3
        simpa [List.getElem?_take] using this
      simpa using h6
    exact ⟨⟨_, h5⟩, h5⟩
  · cases hg

/-- Reads as it did. -/
theorem all_kept {H : Type} {enc : TypeId × Value → H} {w w' : World} {own' : Nat → Prop} {ok ok' : Nat → Nat → Prop} (he : Evol (fun _ => False) ok w own' ok' w') :
    ∀ {ts : List TypeId} {vs : List Value} {ds : List (DataW H)} {ps : List MemPlace}, DataW.TrodAll enc Tryd.prog w 0 (fun _ => true) true ts vs ds ps → DataW.TrodAll enc Tryd.prog w' 0 (fun _ => true) true ts vs ds ps
  | [], [], [], _, h => h
  | _ :: _, _ :: _, _ :: _, _, ⟨p, q, ⟨n, h1⟩, h2, e⟩ => ⟨p, q, ⟨n, DataW.trod_carry _ _ _ _ h1 fun a ha => he.sameAt (DataW.trod_lt _ _ _ _ h1 a ha)⟩, all_kept he h2, e⟩

theorem lifted_of {f : FuncId} {fn : Func} {s : ChangeSpec} (hfn : Tryd.prog.funcs[f]? = some fn) (hvars : s.vars = []) (hni : Tryd.prog.inits.idxOf? f = none)
    (hspec : ∀ (H : Type) (ds : List (DataW H)), ds.length = fn.params.toList.length → s.fn H ds = { results := [.lit (.bool true)], args := ds })
    (hres : fn.resultTypes.toList = [4]) (hps : ∀ t ∈ fn.params.toList, t < Tryd.prog.types.size)
    (hread : ∀ {H : Type} {enc : TypeId × Value → H} (w : World) (base : Nat) (args : Array Value) (ds : List (DataW H)) (p : List MemPlace), (∀ (j : Nat) t v, fn.params[j]? = some t → args[j]? = some v → Value.okWide Tryd.prog w .any base t v) →
      DataW.TrodAll enc Tryd.prog w 0 (fun _ => true) true fn.params.toList args.toList ds p → (∀ m ∈ DataW.weightsEach Tryd.prog fn.params.toList ds, m ≤ reachBytes) →
      ∃ av : List V, args.size = av.length ∧ (∀ (i : Nat) (d : V) (v : Value), av[i]? = some d → args[i]? = some v → Rep w (okAll w) (fun _ => none) v d) ∧ CallsTo Tryd.prog f av (.lit (.bool true)))
    (os : Os) (started : os.Started) (H : Type) (enc : TypeId × Value → H)
    (hwit : ∃ (w : World) (tape : Tape) (i : Input), w.os = os ∧ (w.forCall tape i).Shaped Tryd.checked.prog ∧ i.vars = [] ∧ Input.okWide Tryd.checked.prog (w.forCall tape i) .any w.heap.size f i ∧
      ((s.pre enc Tryd.checked.prog fn [] false (w.forCall tape i).memory i.args ∧ laidMetH Tryd.prog YtofoildhohgngaaDoor.Rows.mixWaysRow.laid (w.forCall tape i).memory) ∧ sizedMet enc Tryd.checked.prog fn (OpenSpec.ofChange s) false (w.forCall tape i).memory i.args) ∧ ({} : Assume).holds Tryd.checked.prog (lone (Frame.enter Tryd.checked.prog f i.args .normal) [] (w.forCall tape i))) :
    ReturnsInHanded {} Tryd.checked os f .any (fun w args => (s.pre enc Tryd.checked.prog fn [] false w args ∧ laidMetH Tryd.prog YtofoildhohgngaaDoor.Rows.mixWaysRow.laid w) ∧ sizedMet enc Tryd.checked.prog fn (OpenSpec.ofChange s) false w args)
      (s.post enc Tryd.checked.prog fn false true false false) := by
  refine returnsInHanded_of_change_and (C := Tryd.checked) (X := fun w _ => laidMetH Tryd.prog YtofoildhohgngaaDoor.Rows.mixWaysRow.laid w) (fun _ _ _ hh h => h.of_heap hh) own0 started hni hfn hwit ?_
  intro W base args ds gs before hval hW _ hwts hL _
  have hW' := hW
  obtain ⟨p, q, hA, hV, hpq, hfz, hnd⟩ := hW
  rw [hvars] at hV
  obtain ⟨rfl, rfl⟩ : gs = [] ∧ q = [] := by
    cases gs with
    | nil => exact ⟨rfl, hV⟩
    | cons g r => exact absurd hV (by intro h; cases h)
  have hvt : s.plain.varTypes Tryd.checked.prog = [] := by unfold DataSpec.varTypes ChangeSpec.plain; rw [hvars]; rfl
  rw [hvt, List.append_nil, List.append_nil, List.all_eq_true] at hwts
  obtain ⟨av, hsz, hrep, hct⟩ := hread W base args ds p hval hA (fun m hm => by simpa using hwts m hm)
  refine ((hct W (okAll W) args (fun b o h => h) (glob_of_laid hL) hsz hrep).calls (FW_room _)).mono fun e W' ⟨v, own', ok', he, hev, _, hrv⟩ => ?_
  subst he
  refine ⟨v, rfl, ?_⟩
  have hv : v = .bool true := by cases hrv; rfl
  subst hv
  have hlen : ds.length = fn.params.toList.length := by
    have key : ∀ {ts : List TypeId} {vs : List Value} {ds : List (DataW H)} {ps : List MemPlace}, DataW.TrodAll enc Tryd.prog W 0 (fun _ => true) true ts vs ds ps → ds.length = ts.length := by
      intro ts
      induction ts with
      | nil => intro vs ds ps h; obtain ⟨_, rfl, _⟩ := trodAll_nil h; rfl
      | cons t ts ih =>
        intro vs ds ps h
        obtain ⟨v, vs', d, ds', p, q, _, rfl, _, _, h2⟩ := trodAll_cons h
        simp [ih h2]
    exact key hA
  have hfnd : s.fn H (ds ++ []) = { results := [.lit (.bool true)], args := ds } := by rw [List.append_nil]; exact hspec H ds hlen
  refine ⟨ds, [], before, [], p, [], hW', ?_, ?_, ?_, World.keptBut_mono (fun _ f => f.elim) hev.kept, fun h => by cases h⟩
  · rw [hfnd, hres]
    have : (Value.bool true).resultList fn.resultTypes.size = [.bool true] := by
      have : fn.resultTypes.size = 1 := by rw [← Array.length_toList, hres]; rfl
      rw [this]; rfl
    rw [this]
    exact trodAll_mk1 (shut_bool (P := Tryd.prog) (by kernel_rfl) true)
  · rw [hfnd]
    refine DataW.TrodAll.respare (P := Tryd.prog) (T := (· < Tryd.prog.types.size)) (kids_rows laidOut0 rowed0) full0 hps (all_kept hev hA) fun a ha => ?_
    exact decide_eq_true (DataW.TrodAll.lt hA a ha)
  · rw [hfnd, hvars]; rfl
end Go.Aw
end
section
set_option linter.unusedVariables false
set_option linter.unusedSimpArgs false
set_option maxRecDepth 100000
/-! A load that is read; a world that meets the row's premise. -/
namespace Go.Aw
open Go.RowKit Go.ChangeShapes Go.WideShapes Go.Proofs

section
variable {H : Type} {enc : TypeId × Value → H} {w : World}

theorem span_read (n : Nat) (cs : List Value) (x : DataW H × List MemPlace) (h : DataW.trod enc Tryd.prog w 0 (fun _ => true) true n 60 cs = some x) (hw : ∀ m ∈ x.1.weights Tryd.prog 60, m ≤ reachBytes) :
    ∃ a : Int × Int, True ∧ RepL w (okAll w) cs (encS a) := by
  obtain ⟨u, v, y, z, m, rfl, h1, h2, _, _⟩ := struct2_cells Tryd.underlying60 (by kernel_rfl) rfl rfl (by kernel_rfl) (by kernel_rfl) h hw
  obtain ⟨i, e1, _⟩ := int_rep Tryd.underlying3 h1
  obtain ⟨j, e2, _⟩ := int_rep Tryd.underlying3 h2
  cases e1
  cases e2
  refine ⟨(i, j), trivial, rfl, fun k d u hd hu => ?_⟩
  match k with
  | 0 => cases hd; cases hu; exact .lit _ rfl
  | 1 => cases hd; cases hu; exact .lit _ rfl
  | k + 2 => cases hd

theorem spans_read {n : Nat} {cs : List Value} {x : DataW H × List MemPlace} (h : DataW.trod enc Tryd.prog w 0 (fun _ => true) true n 56 cs = some x) (hw : ∀ m ∈ x.1.weights Tryd.prog 56, m ≤ reachBytes) :
    ∃ (v : Value) (l : List (Int × Int)), cs = [v] ∧ l.length ≤ reachBytes ∧ (∀ a ∈ l, True) ∧ Rep w (okAll w) (fun _ => none) v (.sl 2 (l.map encS) false) :=
  slice_rep (k := 2) (en := encS) (q := fun _ => True) (by decide) Tryd.underlying56 (by kernel_rfl) (of_decide_eq_true (by kernel_rfl)) (fun _ => rfl) span_read (fun b o u h => ⟨u, h⟩) h hw

theorem box_read (n : Nat) (cs : List Value) (x : DataW H × List MemPlace) (h : DataW.trod enc Tryd.prog w 0 (fun _ => true) true n 67 cs = some x) (hw : ∀ m ∈ x.1.weights Tryd.prog 67, m ≤ reachBytes) :
    ∃ a : Box, a.length ≤ reachBytes ∧ RepL w (okAll w) cs (encB a) := by
  obtain ⟨u, y, m, rfl, h1, h2⟩ := struct1_cells Tryd.underlying67 (by kernel_rfl) rfl (by kernel_rfl) h hw
  obtain ⟨v, l, e, hl, _, hr⟩ := spans_read h1 h2
  cases e
  refine ⟨l, hl, rfl, fun k d u hd hu => ?_⟩
  match k with
  | 0 => cases hd; cases hu; exact hr
  | k + 1 => cases hd

theorem bill_read (n : Nat) (cs : List Value) (x : DataW H × List MemPlace) (h : DataW.trod enc Tryd.prog w 0 (fun _ => true) true n 64 cs = some x) (hw : ∀ m ∈ x.1.weights Tryd.prog 64, m ≤ reachBytes) :
    ∃ a : Bill, a.2.length ≤ reachBytes ∧ RepL w (okAll w) cs (encBill a) := by
  obtain ⟨u, v, y, z, m, rfl, h1, h2, _, h3⟩ := struct2_cells Tryd.underlying64 (by kernel_rfl) rfl rfl (by kernel_rfl) (by kernel_rfl) h hw
  obtain ⟨i, e1, _⟩ := int_rep Tryd.underlying3 h1
  obtain ⟨v, l, e, hl, _, hr⟩ := spans_read h2 h3
  cases e
  cases e1
  refine ⟨(i, l), hl, rfl, fun k d u hd hu => ?_⟩
  match k with
  | 0 => cases hd; cases hu; exact .lit _ rfl
  | 1 => cases hd; cases hu; exact hr
  | k + 2 => cases hd

/-- A load that is read. -/
theorem load_read {base : Nat} {v : Value} {d : DataW H} {p : List MemPlace} (hv : Value.okWide Tryd.prog w .any base 25 v) (h : DataW.Trod enc Tryd.prog w 0 (fun _ => true) true 25 v d p) (hw : ∀ m ∈ d.weights Tryd.prog 25, m ≤ reachBytes) :
    ∃ (bs : List Box) (cs : List Bill), Rep w (okAll w) (fun _ => none) v (encLoad bs cs) ∧ bs.length ≤ 4611686018427387904 ∧ cs.length ≤ 4611686018427387904 ∧ (∀ b ∈ bs, b.length ≤ 4611686018427387904) ∧ (∀ c ∈ cs, c.2.length ≤ 4611686018427387904) := by
  obtain ⟨vs, rfl, hsz⟩ := okWide_struct Tryd.underlying25 hv
  obtain ⟨n, h⟩ := h
  obtain ⟨a, b, y, z, m, e, h1, h2, h3, h4⟩ := struct2_cells Tryd.underlying25 (by kernel_rfl) rfl rfl (by kernel_rfl) (by kernel_rfl) h hw
  obtain ⟨v1, bs, e1, hl1, hq1, hr1⟩ := slice_rep (k := 1) (en := encB) (by decide) Tryd.underlying22 (by kernel_rfl) (of_decide_eq_true (by kernel_rfl)) (fun _ => rfl) box_read (fun b o u h => ⟨u, h⟩) h1 h3
  obtain ⟨v2, cs, e2, hl2, hq2, hr2⟩ := slice_rep (k := 2) (en := encBill) (by decide) Tryd.underlying23 (by kernel_rfl) (of_decide_eq_true (by kernel_rfl)) (fun _ => rfl) bill_read (fun b o u h => ⟨u, h⟩) h2 h4
  cases e1
  cases e2
  have hr : reachBytes ≤ 4611686018427387904 := by decide
  refine ⟨bs, cs, .agg vs _ (by rw [← Array.length_toList]; exact congrArg List.length e) fun i d u hd hu => ?_, by omega, by omega, fun b hb => Nat.le_trans (hq1 b hb) hr, fun c hc => Nat.le_trans (hq2 c hc) hr⟩
  have e' : vs.toList = [a, b] := e
  have hu' : vs.toList[i]? = some u := by rw [Array.getElem?_toList]; exact hu
  rw [e'] at hu'
  match i with
  | 0 => cases hd; cases hu'; exact hr1
  | 1 => cases hd; cases hu'; exact hr2
  | i + 2 => cases hd
end

/-- A world that meets the premise: the settled one, the tables laid. -/
noncomputable def laidWorld (os : Os) : World :=
  let w0 := World.holding Tryd.prog os ⟨#[], #[], []⟩
  let put (w : World) (g : Nat) (vs : List Int) : World := { w with heap := w.heap.modify g fun
      | .cells _ t frozen => .cells (vs.map (Value.int .u8)).toArray t frozen
      | o => o }
  put (put w0 0 [0, 1, 28, 2, 29, 14, 24, 3, 30, 22, 20, 15, 25, 17, 4, 8, 31, 27, 13, 23, 21, 19, 16, 7, 26, 12, 18, 6, 11, 5, 10, 9]) 1
    [0, 1, 56, 2, 57, 49, 28, 3, 61, 58, 42, 50, 38, 29, 17, 4, 62, 47, 59, 36, 45, 43, 51, 22, 53, 39, 33, 30, 24, 18, 12, 5, 63, 55, 48, 27, 60, 41, 37, 16, 46, 35, 44, 21, 52, 32, 23, 11, 54, 26, 40, 15, 34, 20, 31, 10, 25, 14, 19, 9, 13, 8, 7, 6]
theorem laidWorld_met (os : Os) (args : Array Value) : laidMetH Tryd.prog YtofoildhohgngaaDoor.Rows.mixWaysRow.laid ((laidWorld os).forCall (fun _ _ => 0) ⟨#[], args, []⟩).memory := by
  show laidMet _ _ _
  exact laidMet_of_run' 8 (by kernel_rfl) (by kernel_rfl)

theorem mixWays_wit (os : Os) (H : Type) (enc : TypeId × Value → H) : ∃ (w : World) (tape : Tape) (i : Input), w.os = os ∧ (w.forCall tape i).Shaped Tryd.checked.prog ∧ i.vars = [] ∧ Input.okWide Tryd.checked.prog (w.forCall tape i) .any w.heap.size 3 i ∧
      ((YtofoildhohgngaaDoor.Rows.mixWaysSpec.pre enc Tryd.checked.prog Tryd.f3 [] false (w.forCall tape i).memory i.args ∧ laidMetH Tryd.prog YtofoildhohgngaaDoor.Rows.mixWaysRow.laid (w.forCall tape i).memory) ∧ sizedMet enc Tryd.checked.prog Tryd.f3 (OpenSpec.ofChange YtofoildhohgngaaDoor.Rows.mixWaysSpec) false (w.forCall tape i).memory i.args) ∧ ({} : Assume).holds Tryd.checked.prog (lone (Frame.enter Tryd.checked.prog 3 i.args .normal) [] (w.forCall tape i)) :=
  ChangeSpec.witness_at (enc := enc) (C := Tryd.checked) (os := os) (X := fun w _ => laidMetH Tryd.prog YtofoildhohgngaaDoor.Rows.mixWaysRow.laid w) false (laidWorld os) #[.agg #[.slice none 0 0, .slice none 0 0]] 8 rfl (by kernel_rfl) (by kernel_rfl) (by kernel_rfl) (by kernel_rfl) (by kernel_rfl) (laidWorld_met os _)

theorem mixWays_of (hct : ∀ (bs : List Box) (cs : List Bill), bs.length ≤ 4611686018427387904 → cs.length ≤ 4611686018427387904 → (∀ b ∈ bs, b.length ≤ 4611686018427387904) → (∀ c ∈ cs, c.2.length ≤ 4611686018427387904) → CallsTo Tryd.prog 3 [encLoad bs cs] (.lit (.bool true))) : YtofoildhohgngaaDoor.Rows.MixWaysSaid :=
  OpenClaim.holds_of_wide 3 Tryd.f3 rfl rfl rfl rfl rfl rfl rfl ⟨rfl, rfl, rfl, rfl, rfl⟩ rfl rfl rfl rfl rfl (by kernel_rfl) Tryd.func3 (by kernel_rfl)
    (of_decide_eq_true (by kernel_rfl)) (by unfold Func.isWrapper; first | (rw [if_pos (by decide +kernel)]; kernel_rfl) | (rw [if_neg (by decide +kernel)]; exact ⟨rfl, rfl⟩))
    (fun os started H enc _ => lifted_of Tryd.func3 rfl (by kernel_rfl) (fun H ds hd => by
        match ds, hd with
        | [d], _ => rfl) (by kernel_rfl) (fun t ht => by
          have : Tryd.f3.params.toList.all (fun t => decide (t < Tryd.prog.types.size)) = true := by kernel_rfl
          simpa using List.all_eq_true.1 this t ht)
      (fun {H enc} w base args ds p hv hA hw => by
        rw [Tryd.params3] at hA hv hw
        obtain ⟨v, d, rfl, rfl, h0⟩ := trodAll_one hA
        obtain ⟨bs, cs, h1, h2, h3, h4, h5⟩ := load_read (hv 0 25 v rfl rfl) h0 (fun m hm => hw m (by simpa [DataW.weightsEach] using hm))
        refine ⟨[encLoad bs cs], rfl, fun i d u hd hu => ?_, hct bs cs h2 h3 h4 h5⟩
        match i with
        | 0 => cases hd; cases hu; exact h1
        | i + 1 => cases hd) os started H enc (mixWays_wit os H enc))
end Go.Aw
end
section
set_option linter.unusedVariables false
set_option linter.unusedSimpArgs false
set_option maxRecDepth 20000
set_option maxHeartbeats 4000000
/-! The law MixTogethers. -/
namespace Go.Aw
open Go.RowKit Go.Proofs

def sameTo (ws : List (List Int)) (a b : Int) (i : Nat) : Bool := (ws.take i).all fun w => bx w a == bx w b
def someTo (ws : List (List Int)) (a b : Int) (i : Nat) : Bool := (ws.take i).any fun w => bx w a == bx w b
theorem sameTo_succ {ws : List (List Int)} {a b : Int} {i : Nat} (h : i < ws.length) : sameTo ws a b (i + 1) = (sameTo ws a b i && (bx (ws.getD i default) a == bx (ws.getD i default) b)) := by
  simp only [sameTo]; rw [take_succ_getD h, List.all_append]; simp
theorem someTo_succ {ws : List (List Int)} {a b : Int} {i : Nat} (h : i < ws.length) : someTo ws a b (i + 1) = (someTo ws a b i || (bx (ws.getD i default) a == bx (ws.getD i default) b)) := by
  simp only [someTo]; rw [take_succ_getD h, List.any_append]; simp
theorem sameTo_all (ws : List (List Int)) (a b : Int) : (!ws.any fun w => bx w a != bx w b) = sameTo ws a b ws.length := by
  simp only [sameTo, List.take_length, List.all_eq_not_any_not]; rfl
theorem someTo_all (ws : List (List Int)) (a b : Int) : (ws.any fun w => bx w a == bx w b) = someTo ws a b ws.length := by
  simp only [someTo, List.take_length]

theorem und4 : Tryd.prog.underlying 4 = some .bool := by kernel_rfl
theorem In_is {n l m : Int} {r : Bool} (h : inR' l m n = r) : Ct Tryd.prog 25 [int n, int l, int m] (.lit (.bool r)) := by rw [← h]; exact In_spec n l m

theorem MixTogethers_spec (bs : List Box) (cs : List Bill) (a b : Int) (hb : bs.length ≤ 4611686018427387904) (hc : cs.length ≤ 4611686018427387904) : Ct Tryd.prog 4 [encLoad bs cs, int a, int b] (.lit (.bool true)) := by
  have hlg := large_spec bs cs 7 hb hc
  refine fn_enter Tryd.func4 rfl (by decide) Tryd.results4 Tryd.ntmps4 ?_ rfl (by simp (maxSteps := 1000000) -implicitDefEqProofs (disch := omega) only [go_sem]; rfl) fun base => ?_
  · first | assumption | (simp only [go_sem] <;> assumption) | (simp only [go_sem, *]; done) | (simp [go_sem]; done)
  repeat' (first
    | (with_reducible refine Req_intro ?_ ?_); focus (first | omega | assumption | (simp; done))
    | with_reducible (first | refine Req_intro ?_ ?_ | refine nilT ?_ fun hn => ?_ | refine wk_draw Tryd_mixed ?_ | refine drawEnd (by kernel_rfl) ?_)
    | (with_reducible (first | refine condA_if (fun hb => ?_) fun hb => ?_ | refine stepDG_ifN (fun hb => ?_) fun hb => ?_ | refine stepDG_if (fun hb => ?_) fun hb => ?_ | refine stepG_ifN (fun hb => ?_) fun hb => ?_ | refine stepG_if (fun hb => ?_) fun hb => ?_)) <;> (have hif := hb) <;> (try simp only [bo] at hif) <;> (try simp (maxSteps := 1000000) -implicitDefEqProofs (disch := omega) only [go_sem, hb]) <;> clear hb
    | simp (maxSteps := 1000000) -implicitDefEqProofs (disch := omega) only [go_sem])
  refine call_pu (by first | (simp only [go_sem]; done) | (simp only [go_sem]; rfl)) ?_ hlg ?_ ?_
  (focus (first | assumption | (simp only [go_sem] <;> assumption) | (simp only [go_sem, *]; done) | (simp [go_sem]; done)))
  (focus (first | assumption | (simp only [go_sem] <;> assumption) | (simp only [go_sem, *]; done) | (simp [go_sem]; done)))
  try simp (maxSteps := 1000000) -implicitDefEqProofs (disch := omega) only [go_sem]
  repeat' (first
    | (with_reducible refine Req_intro ?_ ?_); focus (first | omega | assumption | (simp; done))
    | with_reducible (first | refine Req_intro ?_ ?_ | refine nilT ?_ fun hn => ?_ | refine wk_draw Tryd_mixed ?_ | refine drawEnd (by kernel_rfl) ?_)
    | (with_reducible (first | refine condA_if (fun hb => ?_) fun hb => ?_ | refine stepDG_ifN (fun hb => ?_) fun hb => ?_ | refine stepDG_if (fun hb => ?_) fun hb => ?_ | refine stepG_ifN (fun hb => ?_) fun hb => ?_ | refine stepG_if (fun hb => ?_) fun hb => ?_)) <;> (have hif := hb) <;> (try simp only [bo] at hif) <;> (try simp (maxSteps := 1000000) -implicitDefEqProofs (disch := omega) only [go_sem, hb]) <;> clear hb
    | simp (maxSteps := 1000000) -implicitDefEqProofs (disch := omega) only [go_sem])
  · refine call_pu (by first | (simp only [go_sem]; done) | (simp only [go_sem]; rfl)) ?_ known_spec ?_ ?_
    (focus (first | assumption | (simp only [go_sem] <;> assumption) | (simp only [go_sem, *]; done) | (simp [go_sem]; done)))
    (focus (first | assumption | (simp only [go_sem] <;> assumption) | (simp only [go_sem, *]; done) | (simp [go_sem]; done)))
    try simp (maxSteps := 1000000) -implicitDefEqProofs (disch := omega) only [go_sem]
    repeat' (first
      | (with_reducible refine Req_intro ?_ ?_); focus (first | omega | assumption | (simp; done))
      | with_reducible (first | refine Req_intro ?_ ?_ | refine nilT ?_ fun hn => ?_ | refine wk_draw Tryd_mixed ?_ | refine drawEnd (by kernel_rfl) ?_)
      | (with_reducible (first | refine condA_if (fun hb => ?_) fun hb => ?_ | refine stepDG_ifN (fun hb => ?_) fun hb => ?_ | refine stepDG_if (fun hb => ?_) fun hb => ?_ | refine stepG_ifN (fun hb => ?_) fun hb => ?_ | refine stepG_if (fun hb => ?_) fun hb => ?_)) <;> (have hif := hb) <;> (try simp only [bo] at hif) <;> (try simp (maxSteps := 1000000) -implicitDefEqProofs (disch := omega) only [go_sem, hb]) <;> clear hb
      | simp (maxSteps := 1000000) -implicitDefEqProofs (disch := omega) only [go_sem])
    refine ret_at (by simp (maxSteps := 1000000) -implicitDefEqProofs (disch := omega) only [go_sem]; rfl) (by first | trivial | omega | (simp; omega)) ?_
    rfl
  have hz : SizeOk bs cs := by
    refine bigR_false ?_
    have := hif
    simp only [largeR, Bool.or_eq_false_iff] at this
    exact this.1
  obtain ⟨hnb, hnc, hlb, hlc⟩ := id hz
  refine call_pu (by first | (simp only [go_sem]; done) | (simp only [go_sem]; rfl)) ?_ (Copy_spec bs cs hz) ?_ ?_
  (focus (first | assumption | (simp only [go_sem] <;> assumption) | (simp only [go_sem, *]; done) | (simp [go_sem]; done)))
  (focus (first | assumption | (simp only [go_sem] <;> assumption) | (simp only [go_sem, *]; done) | (simp [go_sem]; done)))
  try simp (maxSteps := 1000000) -implicitDefEqProofs (disch := omega) only [go_sem]
  repeat' (first
    | (with_reducible refine Req_intro ?_ ?_); focus (first | omega | assumption | (simp; done))
    | with_reducible (first | refine Req_intro ?_ ?_ | refine nilT ?_ fun hn => ?_ | refine wk_draw Tryd_mixed ?_ | refine drawEnd (by kernel_rfl) ?_)
    | (with_reducible (first | refine condA_if (fun hb => ?_) fun hb => ?_ | refine stepDG_ifN (fun hb => ?_) fun hb => ?_ | refine stepDG_if (fun hb => ?_) fun hb => ?_ | refine stepG_ifN (fun hb => ?_) fun hb => ?_ | refine stepG_if (fun hb => ?_) fun hb => ?_)) <;> (have hif := hb) <;> (try simp only [bo] at hif) <;> (try simp (maxSteps := 1000000) -implicitDefEqProofs (disch := omega) only [go_sem, hb]) <;> clear hb
    | simp (maxSteps := 1000000) -implicitDefEqProofs (disch := omega) only [go_sem])
  rcases open_cases bs cs with ⟨e, he⟩ | ⟨h0, hn⟩
  · have hne := he.ne
    refine call_pu (by first | (simp only [go_sem]; done) | (simp only [go_sem]; rfl)) ?_ (Together_no bs cs a b hz.fits e he) ?_ ?_
    (focus (first | assumption | (simp only [go_sem] <;> assumption) | (simp only [go_sem, *]; done) | (simp [go_sem]; done)))
    (focus (first | assumption | (simp only [go_sem] <;> assumption) | (simp only [go_sem, *]; done) | (simp [go_sem]; done)))
    try simp (maxSteps := 1000000) -implicitDefEqProofs (disch := omega) only [go_sem]
    repeat' (first
      | (with_reducible refine Req_intro ?_ ?_); focus (first | omega | assumption | (simp; done))
      | with_reducible (first | refine Req_intro ?_ ?_ | refine nilT ?_ fun hn => ?_ | refine wk_draw Tryd_mixed ?_ | refine drawEnd (by kernel_rfl) ?_)
      | (with_reducible (first | refine condA_if (fun hb => ?_) fun hb => ?_ | refine stepDG_ifN (fun hb => ?_) fun hb => ?_ | refine stepDG_if (fun hb => ?_) fun hb => ?_ | refine stepG_ifN (fun hb => ?_) fun hb => ?_ | refine stepG_if (fun hb => ?_) fun hb => ?_)) <;> (have hif := hb) <;> (try simp only [bo] at hif) <;> (try simp (maxSteps := 1000000) -implicitDefEqProofs (disch := omega) only [go_sem, hb]) <;> clear hb
      | simp (maxSteps := 1000000) -implicitDefEqProofs (disch := omega) only [go_sem])
    refine call_pu (by first | (simp only [go_sem]; done) | (simp only [go_sem]; rfl)) ?_ (Same_true bs cs hz) ?_ ?_
    (focus (first | assumption | (simp only [go_sem] <;> assumption) | (simp only [go_sem, *]; done) | (simp [go_sem]; done)))
    (focus (first | assumption | (simp only [go_sem] <;> assumption) | (simp only [go_sem, *]; done) | (simp [go_sem]; done)))
    try simp (maxSteps := 1000000) -implicitDefEqProofs (disch := omega) only [go_sem]
    repeat' (first
      | (with_reducible refine Req_intro ?_ ?_); focus (first | omega | assumption | (simp; done))
      | with_reducible (first | refine Req_intro ?_ ?_ | refine nilT ?_ fun hn => ?_ | refine wk_draw Tryd_mixed ?_ | refine drawEnd (by kernel_rfl) ?_)
      | (with_reducible (first | refine condA_if (fun hb => ?_) fun hb => ?_ | refine stepDG_ifN (fun hb => ?_) fun hb => ?_ | refine stepDG_if (fun hb => ?_) fun hb => ?_ | refine stepG_ifN (fun hb => ?_) fun hb => ?_ | refine stepG_if (fun hb => ?_) fun hb => ?_)) <;> (have hif := hb) <;> (try simp only [bo] at hif) <;> (try simp (maxSteps := 1000000) -implicitDefEqProofs (disch := omega) only [go_sem, hb]) <;> clear hb
      | simp (maxSteps := 1000000) -implicitDefEqProofs (disch := omega) only [go_sem])
    refine call_pu (by first | (simp only [go_sem]; done) | (simp only [go_sem]; rfl)) ?_ (lopen_no bs cs hz e he) ?_ ?_
    (focus (first | assumption | (simp only [go_sem] <;> assumption) | (simp only [go_sem, *]; done) | (simp [go_sem]; done)))
    (focus (first | assumption | (simp only [go_sem] <;> assumption) | (simp only [go_sem, *]; done) | (simp [go_sem]; done)))
    try simp (maxSteps := 1000000) -implicitDefEqProofs (disch := omega) only [go_sem]
    repeat' (first
      | (with_reducible refine Req_intro ?_ ?_); focus (first | omega | assumption | (simp; done))
      | with_reducible (first | refine Req_intro ?_ ?_ | refine nilT ?_ fun hn => ?_ | refine wk_draw Tryd_mixed ?_ | refine drawEnd (by kernel_rfl) ?_)
      | (with_reducible (first | refine condA_if (fun hb => ?_) fun hb => ?_ | refine stepDG_ifN (fun hb => ?_) fun hb => ?_ | refine stepDG_if (fun hb => ?_) fun hb => ?_ | refine stepG_ifN (fun hb => ?_) fun hb => ?_ | refine stepG_if (fun hb => ?_) fun hb => ?_)) <;> (have hif := hb) <;> (try simp only [bo] at hif) <;> (try simp (maxSteps := 1000000) -implicitDefEqProofs (disch := omega) only [go_sem, hb]) <;> clear hb
      | simp (maxSteps := 1000000) -implicitDefEqProofs (disch := omega) only [go_sem])
    all_goals first | exact absurd trivial ‹¬True› | exact absurd ‹e = 0› hne | (exfalso; omega) | skip
    refine call_pu (by first | (simp only [go_sem]; done) | (simp only [go_sem]; rfl)) ?_ known_spec ?_ ?_
    (focus (first | assumption | (simp only [go_sem] <;> assumption) | (simp only [go_sem, *]; done) | (simp [go_sem]; done)))
    (focus (first | assumption | (simp only [go_sem] <;> assumption) | (simp only [go_sem, *]; done) | (simp [go_sem]; done)))
    try simp (maxSteps := 1000000) -implicitDefEqProofs (disch := omega) only [go_sem]
    repeat' (first
      | (with_reducible refine Req_intro ?_ ?_); focus (first | omega | assumption | (simp; done))
      | with_reducible (first | refine Req_intro ?_ ?_ | refine nilT ?_ fun hn => ?_ | refine wk_draw Tryd_mixed ?_ | refine drawEnd (by kernel_rfl) ?_)
      | (with_reducible (first | refine condA_if (fun hb => ?_) fun hb => ?_ | refine stepDG_ifN (fun hb => ?_) fun hb => ?_ | refine stepDG_if (fun hb => ?_) fun hb => ?_ | refine stepG_ifN (fun hb => ?_) fun hb => ?_ | refine stepG_if (fun hb => ?_) fun hb => ?_)) <;> (have hif := hb) <;> (try simp only [bo] at hif) <;> (try simp (maxSteps := 1000000) -implicitDefEqProofs (disch := omega) only [go_sem, hb]) <;> clear hb
      | simp (maxSteps := 1000000) -implicitDefEqProofs (disch := omega) only [go_sem])
    refine ret_at (by simp (maxSteps := 1000000) -implicitDefEqProofs (disch := omega) only [go_sem]; rfl) (by first | trivial | omega | (simp; omega)) ?_
    rfl
  · have hg := good_of_check h0
    have h8 := hg.nb
    have h3 := hg.nc
    have hfew := hg.valid.few
    have hok := (allW_ok bs cs).mono hg.nc
    have hpos := pos_of_ne hn
    cases hA : inR' 0 ((bs.length : Int) - 1) a with
    | false =>
      refine call_pu (by first | (simp only [go_sem]; done) | (simp only [go_sem]; rfl)) ?_ (Together_out bs cs a b hz.fits h0 hn (by simp [hA])) ?_ ?_
      (focus (first | assumption | (simp only [go_sem] <;> assumption) | (simp only [go_sem, *]; done) | (simp [go_sem]; done)))
      (focus (first | assumption | (simp only [go_sem] <;> assumption) | (simp only [go_sem, *]; done) | (simp [go_sem]; done)))
      try simp (maxSteps := 1000000) -implicitDefEqProofs (disch := omega) only [go_sem]
      repeat' (first
        | (with_reducible refine Req_intro ?_ ?_); focus (first | omega | assumption | (simp; done))
        | with_reducible (first | refine Req_intro ?_ ?_ | refine nilT ?_ fun hn => ?_ | refine wk_draw Tryd_mixed ?_ | refine drawEnd (by kernel_rfl) ?_)
        | (with_reducible (first | refine condA_if (fun hb => ?_) fun hb => ?_ | refine stepDG_ifN (fun hb => ?_) fun hb => ?_ | refine stepDG_if (fun hb => ?_) fun hb => ?_ | refine stepG_ifN (fun hb => ?_) fun hb => ?_ | refine stepG_if (fun hb => ?_) fun hb => ?_)) <;> (have hif := hb) <;> (try simp only [bo] at hif) <;> (try simp (maxSteps := 1000000) -implicitDefEqProofs (disch := omega) only [go_sem, hb]) <;> clear hb
        | simp (maxSteps := 1000000) -implicitDefEqProofs (disch := omega) only [go_sem])
      refine call_pu (by first | (simp only [go_sem]; done) | (simp only [go_sem]; rfl)) ?_ (Same_true bs cs hz) ?_ ?_
      (focus (first | assumption | (simp only [go_sem] <;> assumption) | (simp only [go_sem, *]; done) | (simp [go_sem]; done)))
      (focus (first | assumption | (simp only [go_sem] <;> assumption) | (simp only [go_sem, *]; done) | (simp [go_sem]; done)))
      try simp (maxSteps := 1000000) -implicitDefEqProofs (disch := omega) only [go_sem]
      repeat' (first
        | (with_reducible refine Req_intro ?_ ?_); focus (first | omega | assumption | (simp; done))
        | with_reducible (first | refine Req_intro ?_ ?_ | refine nilT ?_ fun hn => ?_ | refine wk_draw Tryd_mixed ?_ | refine drawEnd (by kernel_rfl) ?_)
        | (with_reducible (first | refine condA_if (fun hb => ?_) fun hb => ?_ | refine stepDG_ifN (fun hb => ?_) fun hb => ?_ | refine stepDG_if (fun hb => ?_) fun hb => ?_ | refine stepG_ifN (fun hb => ?_) fun hb => ?_ | refine stepG_if (fun hb => ?_) fun hb => ?_)) <;> (have hif := hb) <;> (try simp only [bo] at hif) <;> (try simp (maxSteps := 1000000) -implicitDefEqProofs (disch := omega) only [go_sem, hb]) <;> clear hb
        | simp (maxSteps := 1000000) -implicitDefEqProofs (disch := omega) only [go_sem])
      refine call_pu (by first | (simp only [go_sem]; done) | (simp only [go_sem]; rfl)) ?_ (lopen_ok bs cs hz h0 hn) ?_ ?_
      (focus (first | assumption | (simp only [go_sem] <;> assumption) | (simp only [go_sem, *]; done) | (simp [go_sem]; done)))
      (focus (first | assumption | (simp only [go_sem] <;> assumption) | (simp only [go_sem, *]; done) | (simp [go_sem]; done)))
      try simp (maxSteps := 1000000) -implicitDefEqProofs (disch := omega) only [go_sem]
      repeat' (first
        | (with_reducible refine Req_intro ?_ ?_); focus (first | omega | assumption | (simp; done))
        | with_reducible (first | refine Req_intro ?_ ?_ | refine nilT ?_ fun hn => ?_ | refine wk_draw Tryd_mixed ?_ | refine drawEnd (by kernel_rfl) ?_)
        | (with_reducible (first | refine condA_if (fun hb => ?_) fun hb => ?_ | refine stepDG_ifN (fun hb => ?_) fun hb => ?_ | refine stepDG_if (fun hb => ?_) fun hb => ?_ | refine stepG_ifN (fun hb => ?_) fun hb => ?_ | refine stepG_if (fun hb => ?_) fun hb => ?_)) <;> (have hif := hb) <;> (try simp only [bo] at hif) <;> (try simp (maxSteps := 1000000) -implicitDefEqProofs (disch := omega) only [go_sem, hb]) <;> clear hb
        | simp (maxSteps := 1000000) -implicitDefEqProofs (disch := omega) only [go_sem])
      all_goals first | exact absurd trivial ‹¬True› | (exfalso; omega) | skip
      refine call_pu (by first | (simp only [go_sem]; done) | (simp only [go_sem]; rfl)) ?_ (In_is hA) ?_ ?_
      (focus (first | assumption | (simp only [go_sem] <;> assumption) | (simp only [go_sem, *]; done) | (simp [go_sem]; done)))
      (focus (first | assumption | (simp only [go_sem] <;> assumption) | (simp only [go_sem, *]; done) | (simp [go_sem]; done)))
      try simp (maxSteps := 1000000) -implicitDefEqProofs (disch := omega) only [go_sem]
      repeat' (first
        | (with_reducible refine Req_intro ?_ ?_); focus (first | omega | assumption | (simp; done))
        | with_reducible (first | refine Req_intro ?_ ?_ | refine nilT ?_ fun hn => ?_ | refine wk_draw Tryd_mixed ?_ | refine drawEnd (by kernel_rfl) ?_)
        | (with_reducible (first | refine condA_if (fun hb => ?_) fun hb => ?_ | refine stepDG_ifN (fun hb => ?_) fun hb => ?_ | refine stepDG_if (fun hb => ?_) fun hb => ?_ | refine stepG_ifN (fun hb => ?_) fun hb => ?_ | refine stepG_if (fun hb => ?_) fun hb => ?_)) <;> (have hif := hb) <;> (try simp only [bo] at hif) <;> (try simp (maxSteps := 1000000) -implicitDefEqProofs (disch := omega) only [go_sem, hb]) <;> clear hb
        | simp (maxSteps := 1000000) -implicitDefEqProofs (disch := omega) only [go_sem])
      all_goals first | exact absurd trivial ‹¬True› | (exfalso; omega) | skip
      refine call_pu (by first | (simp only [go_sem]; done) | (simp only [go_sem]; rfl)) ?_ known_spec ?_ ?_
      (focus (first | assumption | (simp only [go_sem] <;> assumption) | (simp only [go_sem, *]; done) | (simp [go_sem]; done)))
      (focus (first | assumption | (simp only [go_sem] <;> assumption) | (simp only [go_sem, *]; done) | (simp [go_sem]; done)))
      try simp (maxSteps := 1000000) -implicitDefEqProofs (disch := omega) only [go_sem]
      repeat' (first
        | (with_reducible refine Req_intro ?_ ?_); focus (first | omega | assumption | (simp; done))
        | with_reducible (first | refine Req_intro ?_ ?_ | refine nilT ?_ fun hn => ?_ | refine wk_draw Tryd_mixed ?_ | refine drawEnd (by kernel_rfl) ?_)
        | (with_reducible (first | refine condA_if (fun hb => ?_) fun hb => ?_ | refine stepDG_ifN (fun hb => ?_) fun hb => ?_ | refine stepDG_if (fun hb => ?_) fun hb => ?_ | refine stepG_ifN (fun hb => ?_) fun hb => ?_ | refine stepG_if (fun hb => ?_) fun hb => ?_)) <;> (have hif := hb) <;> (try simp only [bo] at hif) <;> (try simp (maxSteps := 1000000) -implicitDefEqProofs (disch := omega) only [go_sem, hb]) <;> clear hb
        | simp (maxSteps := 1000000) -implicitDefEqProofs (disch := omega) only [go_sem])
      refine ret_at (by simp (maxSteps := 1000000) -implicitDefEqProofs (disch := omega) only [go_sem]; rfl) (by first | trivial | omega | (simp; omega)) ?_
      rfl
    | true =>
      have ha : 0 ≤ a ∧ a ≤ (bs.length : Int) - 1 := by simpa [inR'] using hA
      cases hB : inR' 0 ((bs.length : Int) - 1) b with
      | false =>
        refine call_pu (by first | (simp only [go_sem]; done) | (simp only [go_sem]; rfl)) ?_ (Together_out bs cs a b hz.fits h0 hn (by simp [hA, hB])) ?_ ?_
        (focus (first | assumption | (simp only [go_sem] <;> assumption) | (simp only [go_sem, *]; done) | (simp [go_sem]; done)))
        (focus (first | assumption | (simp only [go_sem] <;> assumption) | (simp only [go_sem, *]; done) | (simp [go_sem]; done)))
        try simp (maxSteps := 1000000) -implicitDefEqProofs (disch := omega) only [go_sem]
        repeat' (first
          | (with_reducible refine Req_intro ?_ ?_); focus (first | omega | assumption | (simp; done))
          | with_reducible (first | refine Req_intro ?_ ?_ | refine nilT ?_ fun hn => ?_ | refine wk_draw Tryd_mixed ?_ | refine drawEnd (by kernel_rfl) ?_)
          | (with_reducible (first | refine condA_if (fun hb => ?_) fun hb => ?_ | refine stepDG_ifN (fun hb => ?_) fun hb => ?_ | refine stepDG_if (fun hb => ?_) fun hb => ?_ | refine stepG_ifN (fun hb => ?_) fun hb => ?_ | refine stepG_if (fun hb => ?_) fun hb => ?_)) <;> (have hif := hb) <;> (try simp only [bo] at hif) <;> (try simp (maxSteps := 1000000) -implicitDefEqProofs (disch := omega) only [go_sem, hb]) <;> clear hb
          | simp (maxSteps := 1000000) -implicitDefEqProofs (disch := omega) only [go_sem])
        refine call_pu (by first | (simp only [go_sem]; done) | (simp only [go_sem]; rfl)) ?_ (Same_true bs cs hz) ?_ ?_
        (focus (first | assumption | (simp only [go_sem] <;> assumption) | (simp only [go_sem, *]; done) | (simp [go_sem]; done)))
        (focus (first | assumption | (simp only [go_sem] <;> assumption) | (simp only [go_sem, *]; done) | (simp [go_sem]; done)))
        try simp (maxSteps := 1000000) -implicitDefEqProofs (disch := omega) only [go_sem]
        repeat' (first
          | (with_reducible refine Req_intro ?_ ?_); focus (first | omega | assumption | (simp; done))
          | with_reducible (first | refine Req_intro ?_ ?_ | refine nilT ?_ fun hn => ?_ | refine wk_draw Tryd_mixed ?_ | refine drawEnd (by kernel_rfl) ?_)
          | (with_reducible (first | refine condA_if (fun hb => ?_) fun hb => ?_ | refine stepDG_ifN (fun hb => ?_) fun hb => ?_ | refine stepDG_if (fun hb => ?_) fun hb => ?_ | refine stepG_ifN (fun hb => ?_) fun hb => ?_ | refine stepG_if (fun hb => ?_) fun hb => ?_)) <;> (have hif := hb) <;> (try simp only [bo] at hif) <;> (try simp (maxSteps := 1000000) -implicitDefEqProofs (disch := omega) only [go_sem, hb]) <;> clear hb
          | simp (maxSteps := 1000000) -implicitDefEqProofs (disch := omega) only [go_sem])
        refine call_pu (by first | (simp only [go_sem]; done) | (simp only [go_sem]; rfl)) ?_ (lopen_ok bs cs hz h0 hn) ?_ ?_
        (focus (first | assumption | (simp only [go_sem] <;> assumption) | (simp only [go_sem, *]; done) | (simp [go_sem]; done)))
        (focus (first | assumption | (simp only [go_sem] <;> assumption) | (simp only [go_sem, *]; done) | (simp [go_sem]; done)))
        try simp (maxSteps := 1000000) -implicitDefEqProofs (disch := omega) only [go_sem]
        repeat' (first
          | (with_reducible refine Req_intro ?_ ?_); focus (first | omega | assumption | (simp; done))
          | with_reducible (first | refine Req_intro ?_ ?_ | refine nilT ?_ fun hn => ?_ | refine wk_draw Tryd_mixed ?_ | refine drawEnd (by kernel_rfl) ?_)
          | (with_reducible (first | refine condA_if (fun hb => ?_) fun hb => ?_ | refine stepDG_ifN (fun hb => ?_) fun hb => ?_ | refine stepDG_if (fun hb => ?_) fun hb => ?_ | refine stepG_ifN (fun hb => ?_) fun hb => ?_ | refine stepG_if (fun hb => ?_) fun hb => ?_)) <;> (have hif := hb) <;> (try simp only [bo] at hif) <;> (try simp (maxSteps := 1000000) -implicitDefEqProofs (disch := omega) only [go_sem, hb]) <;> clear hb
          | simp (maxSteps := 1000000) -implicitDefEqProofs (disch := omega) only [go_sem])
        all_goals first | exact absurd trivial ‹¬True› | (exfalso; omega) | skip
        refine call_pu (by first | (simp only [go_sem]; done) | (simp only [go_sem]; rfl)) ?_ (In_is hA) ?_ ?_
        (focus (first | assumption | (simp only [go_sem] <;> assumption) | (simp only [go_sem, *]; done) | (simp [go_sem]; done)))
        (focus (first | assumption | (simp only [go_sem] <;> assumption) | (simp only [go_sem, *]; done) | (simp [go_sem]; done)))
        try simp (maxSteps := 1000000) -implicitDefEqProofs (disch := omega) only [go_sem]
        repeat' (first
          | (with_reducible refine Req_intro ?_ ?_); focus (first | omega | assumption | (simp; done))
          | with_reducible (first | refine Req_intro ?_ ?_ | refine nilT ?_ fun hn => ?_ | refine wk_draw Tryd_mixed ?_ | refine drawEnd (by kernel_rfl) ?_)
          | (with_reducible (first | refine condA_if (fun hb => ?_) fun hb => ?_ | refine stepDG_ifN (fun hb => ?_) fun hb => ?_ | refine stepDG_if (fun hb => ?_) fun hb => ?_ | refine stepG_ifN (fun hb => ?_) fun hb => ?_ | refine stepG_if (fun hb => ?_) fun hb => ?_)) <;> (have hif := hb) <;> (try simp only [bo] at hif) <;> (try simp (maxSteps := 1000000) -implicitDefEqProofs (disch := omega) only [go_sem, hb]) <;> clear hb
          | simp (maxSteps := 1000000) -implicitDefEqProofs (disch := omega) only [go_sem])
        refine call_pu (by first | (simp only [go_sem]; done) | (simp only [go_sem]; rfl)) ?_ (In_is hB) ?_ ?_
        (focus (first | assumption | (simp only [go_sem] <;> assumption) | (simp only [go_sem, *]; done) | (simp [go_sem]; done)))
        (focus (first | assumption | (simp only [go_sem] <;> assumption) | (simp only [go_sem, *]; done) | (simp [go_sem]; done)))
        try simp (maxSteps := 1000000) -implicitDefEqProofs (disch := omega) only [go_sem]
        repeat' (first
          | (with_reducible refine Req_intro ?_ ?_); focus (first | omega | assumption | (simp; done))
          | with_reducible (first | refine Req_intro ?_ ?_ | refine nilT ?_ fun hn => ?_ | refine wk_draw Tryd_mixed ?_ | refine drawEnd (by kernel_rfl) ?_)
          | (with_reducible (first | refine condA_if (fun hb => ?_) fun hb => ?_ | refine stepDG_ifN (fun hb => ?_) fun hb => ?_ | refine stepDG_if (fun hb => ?_) fun hb => ?_ | refine stepG_ifN (fun hb => ?_) fun hb => ?_ | refine stepG_if (fun hb => ?_) fun hb => ?_)) <;> (have hif := hb) <;> (try simp only [bo] at hif) <;> (try simp (maxSteps := 1000000) -implicitDefEqProofs (disch := omega) only [go_sem, hb]) <;> clear hb
          | simp (maxSteps := 1000000) -implicitDefEqProofs (disch := omega) only [go_sem])
        all_goals first | exact absurd trivial ‹¬True› | (exfalso; omega) | skip
        refine call_pu (by first | (simp only [go_sem]; done) | (simp only [go_sem]; rfl)) ?_ known_spec ?_ ?_
        (focus (first | assumption | (simp only [go_sem] <;> assumption) | (simp only [go_sem, *]; done) | (simp [go_sem]; done)))
        (focus (first | assumption | (simp only [go_sem] <;> assumption) | (simp only [go_sem, *]; done) | (simp [go_sem]; done)))
        try simp (maxSteps := 1000000) -implicitDefEqProofs (disch := omega) only [go_sem]
        repeat' (first
          | (with_reducible refine Req_intro ?_ ?_); focus (first | omega | assumption | (simp; done))
          | with_reducible (first | refine Req_intro ?_ ?_ | refine nilT ?_ fun hn => ?_ | refine wk_draw Tryd_mixed ?_ | refine drawEnd (by kernel_rfl) ?_)
          | (with_reducible (first | refine condA_if (fun hb => ?_) fun hb => ?_ | refine stepDG_ifN (fun hb => ?_) fun hb => ?_ | refine stepDG_if (fun hb => ?_) fun hb => ?_ | refine stepG_ifN (fun hb => ?_) fun hb => ?_ | refine stepG_if (fun hb => ?_) fun hb => ?_)) <;> (have hif := hb) <;> (try simp only [bo] at hif) <;> (try simp (maxSteps := 1000000) -implicitDefEqProofs (disch := omega) only [go_sem, hb]) <;> clear hb
          | simp (maxSteps := 1000000) -implicitDefEqProofs (disch := omega) only [go_sem])
        refine ret_at (by simp (maxSteps := 1000000) -implicitDefEqProofs (disch := omega) only [go_sem]; rfl) (by first | trivial | omega | (simp; omega)) ?_
        rfl
      | true =>
        have hb : 0 ≤ b ∧ b ≤ (bs.length : Int) - 1 := by simpa [inR'] using hB
        by_cases hab : a = b
        · subst hab
          refine call_pu (by first | (simp only [go_sem]; done) | (simp only [go_sem]; rfl)) ?_ (Together_same bs cs a hz.fits h0 hn (by simp [hA])) ?_ ?_
          (focus (first | assumption | (simp only [go_sem] <;> assumption) | (simp only [go_sem, *]; done) | (simp [go_sem]; done)))
          (focus (first | assumption | (simp only [go_sem] <;> assumption) | (simp only [go_sem, *]; done) | (simp [go_sem]; done)))
          try simp (maxSteps := 1000000) -implicitDefEqProofs (disch := omega) only [go_sem]
          repeat' (first
            | (with_reducible refine Req_intro ?_ ?_); focus (first | omega | assumption | (simp; done))
            | with_reducible (first | refine Req_intro ?_ ?_ | refine nilT ?_ fun hn => ?_ | refine wk_draw Tryd_mixed ?_ | refine drawEnd (by kernel_rfl) ?_)
            | (with_reducible (first | refine condA_if (fun hb => ?_) fun hb => ?_ | refine stepDG_ifN (fun hb => ?_) fun hb => ?_ | refine stepDG_if (fun hb => ?_) fun hb => ?_ | refine stepG_ifN (fun hb => ?_) fun hb => ?_ | refine stepG_if (fun hb => ?_) fun hb => ?_)) <;> (have hif := hb) <;> (try simp only [bo] at hif) <;> (try simp (maxSteps := 1000000) -implicitDefEqProofs (disch := omega) only [go_sem, hb]) <;> clear hb
            | simp (maxSteps := 1000000) -implicitDefEqProofs (disch := omega) only [go_sem])
          refine call_pu (by first | (simp only [go_sem]; done) | (simp only [go_sem]; rfl)) ?_ (Same_true bs cs hz) ?_ ?_
          (focus (first | assumption | (simp only [go_sem] <;> assumption) | (simp only [go_sem, *]; done) | (simp [go_sem]; done)))
          (focus (first | assumption | (simp only [go_sem] <;> assumption) | (simp only [go_sem, *]; done) | (simp [go_sem]; done)))
          try simp (maxSteps := 1000000) -implicitDefEqProofs (disch := omega) only [go_sem]
          repeat' (first
            | (with_reducible refine Req_intro ?_ ?_); focus (first | omega | assumption | (simp; done))
            | with_reducible (first | refine Req_intro ?_ ?_ | refine nilT ?_ fun hn => ?_ | refine wk_draw Tryd_mixed ?_ | refine drawEnd (by kernel_rfl) ?_)
            | (with_reducible (first | refine condA_if (fun hb => ?_) fun hb => ?_ | refine stepDG_ifN (fun hb => ?_) fun hb => ?_ | refine stepDG_if (fun hb => ?_) fun hb => ?_ | refine stepG_ifN (fun hb => ?_) fun hb => ?_ | refine stepG_if (fun hb => ?_) fun hb => ?_)) <;> (have hif := hb) <;> (try simp only [bo] at hif) <;> (try simp (maxSteps := 1000000) -implicitDefEqProofs (disch := omega) only [go_sem, hb]) <;> clear hb
            | simp (maxSteps := 1000000) -implicitDefEqProofs (disch := omega) only [go_sem])
          refine call_pu (by first | (simp only [go_sem]; done) | (simp only [go_sem]; rfl)) ?_ (lopen_ok bs cs hz h0 hn) ?_ ?_
          (focus (first | assumption | (simp only [go_sem] <;> assumption) | (simp only [go_sem, *]; done) | (simp [go_sem]; done)))
          (focus (first | assumption | (simp only [go_sem] <;> assumption) | (simp only [go_sem, *]; done) | (simp [go_sem]; done)))
          try simp (maxSteps := 1000000) -implicitDefEqProofs (disch := omega) only [go_sem]
          repeat' (first
            | (with_reducible refine Req_intro ?_ ?_); focus (first | omega | assumption | (simp; done))
            | with_reducible (first | refine Req_intro ?_ ?_ | refine nilT ?_ fun hn => ?_ | refine wk_draw Tryd_mixed ?_ | refine drawEnd (by kernel_rfl) ?_)
            | (with_reducible (first | refine condA_if (fun hb => ?_) fun hb => ?_ | refine stepDG_ifN (fun hb => ?_) fun hb => ?_ | refine stepDG_if (fun hb => ?_) fun hb => ?_ | refine stepG_ifN (fun hb => ?_) fun hb => ?_ | refine stepG_if (fun hb => ?_) fun hb => ?_)) <;> (have hif := hb) <;> (try simp only [bo] at hif) <;> (try simp (maxSteps := 1000000) -implicitDefEqProofs (disch := omega) only [go_sem, hb]) <;> clear hb
            | simp (maxSteps := 1000000) -implicitDefEqProofs (disch := omega) only [go_sem])
          all_goals first | exact absurd trivial ‹¬True› | (exfalso; omega) | skip
          refine call_pu (by first | (simp only [go_sem]; done) | (simp only [go_sem]; rfl)) ?_ (In_is hA) ?_ ?_
          (focus (first | assumption | (simp only [go_sem] <;> assumption) | (simp only [go_sem, *]; done) | (simp [go_sem]; done)))
          (focus (first | assumption | (simp only [go_sem] <;> assumption) | (simp only [go_sem, *]; done) | (simp [go_sem]; done)))
          try simp (maxSteps := 1000000) -implicitDefEqProofs (disch := omega) only [go_sem]
          repeat' (first
            | (with_reducible refine Req_intro ?_ ?_); focus (first | omega | assumption | (simp; done))
            | with_reducible (first | refine Req_intro ?_ ?_ | refine nilT ?_ fun hn => ?_ | refine wk_draw Tryd_mixed ?_ | refine drawEnd (by kernel_rfl) ?_)
            | (with_reducible (first | refine condA_if (fun hb => ?_) fun hb => ?_ | refine stepDG_ifN (fun hb => ?_) fun hb => ?_ | refine stepDG_if (fun hb => ?_) fun hb => ?_ | refine stepG_ifN (fun hb => ?_) fun hb => ?_ | refine stepG_if (fun hb => ?_) fun hb => ?_)) <;> (have hif := hb) <;> (try simp only [bo] at hif) <;> (try simp (maxSteps := 1000000) -implicitDefEqProofs (disch := omega) only [go_sem, hb]) <;> clear hb
            | simp (maxSteps := 1000000) -implicitDefEqProofs (disch := omega) only [go_sem])
          refine call_pu (by first | (simp only [go_sem]; done) | (simp only [go_sem]; rfl)) ?_ (In_is hB) ?_ ?_
          (focus (first | assumption | (simp only [go_sem] <;> assumption) | (simp only [go_sem, *]; done) | (simp [go_sem]; done)))
          (focus (first | assumption | (simp only [go_sem] <;> assumption) | (simp only [go_sem, *]; done) | (simp [go_sem]; done)))
          try simp (maxSteps := 1000000) -implicitDefEqProofs (disch := omega) only [go_sem]
          repeat' (first
            | (with_reducible refine Req_intro ?_ ?_); focus (first | omega | assumption | (simp; done))
            | with_reducible (first | refine Req_intro ?_ ?_ | refine nilT ?_ fun hn => ?_ | refine wk_draw Tryd_mixed ?_ | refine drawEnd (by kernel_rfl) ?_)
            | (with_reducible (first | refine condA_if (fun hb => ?_) fun hb => ?_ | refine stepDG_ifN (fun hb => ?_) fun hb => ?_ | refine stepDG_if (fun hb => ?_) fun hb => ?_ | refine stepG_ifN (fun hb => ?_) fun hb => ?_ | refine stepG_if (fun hb => ?_) fun hb => ?_)) <;> (have hif := hb) <;> (try simp only [bo] at hif) <;> (try simp (maxSteps := 1000000) -implicitDefEqProofs (disch := omega) only [go_sem, hb]) <;> clear hb
            | simp (maxSteps := 1000000) -implicitDefEqProofs (disch := omega) only [go_sem])
          all_goals first | exact absurd trivial ‹¬True› | (exfalso; omega) | skip
          refine call_pu (by first | (simp only [go_sem]; done) | (simp only [go_sem]; rfl)) ?_ known_spec ?_ ?_
          (focus (first | assumption | (simp only [go_sem] <;> assumption) | (simp only [go_sem, *]; done) | (simp [go_sem]; done)))
          (focus (first | assumption | (simp only [go_sem] <;> assumption) | (simp only [go_sem, *]; done) | (simp [go_sem]; done)))
          try simp (maxSteps := 1000000) -implicitDefEqProofs (disch := omega) only [go_sem]
          repeat' (first
            | (with_reducible refine Req_intro ?_ ?_); focus (first | omega | assumption | (simp; done))
            | with_reducible (first | refine Req_intro ?_ ?_ | refine nilT ?_ fun hn => ?_ | refine wk_draw Tryd_mixed ?_ | refine drawEnd (by kernel_rfl) ?_)
            | (with_reducible (first | refine condA_if (fun hb => ?_) fun hb => ?_ | refine stepDG_ifN (fun hb => ?_) fun hb => ?_ | refine stepDG_if (fun hb => ?_) fun hb => ?_ | refine stepG_ifN (fun hb => ?_) fun hb => ?_ | refine stepG_if (fun hb => ?_) fun hb => ?_)) <;> (have hif := hb) <;> (try simp only [bo] at hif) <;> (try simp (maxSteps := 1000000) -implicitDefEqProofs (disch := omega) only [go_sem, hb]) <;> clear hb
            | simp (maxSteps := 1000000) -implicitDefEqProofs (disch := omega) only [go_sem])
          refine ret_at (by simp (maxSteps := 1000000) -implicitDefEqProofs (disch := omega) only [go_sem]; rfl) (by first | trivial | omega | (simp; omega)) ?_
          rfl
        · have htog := Together_ok bs cs a b hz.fits h0 hn (by simp [hA, hB]) hab
          rw [sameTo_all, someTo_all] at htog
          refine call_pu (by first | (simp only [go_sem]; done) | (simp only [go_sem]; rfl)) ?_ htog ?_ ?_
          (focus (first | assumption | (simp only [go_sem] <;> assumption) | (simp only [go_sem, *]; done) | (simp [go_sem]; done)))
          (focus (first | assumption | (simp only [go_sem] <;> assumption) | (simp only [go_sem, *]; done) | (simp [go_sem]; done)))
          try simp (maxSteps := 1000000) -implicitDefEqProofs (disch := omega) only [go_sem]
          repeat' (first
            | (with_reducible refine Req_intro ?_ ?_); focus (first | omega | assumption | (simp; done))
            | with_reducible (first | refine Req_intro ?_ ?_ | refine nilT ?_ fun hn => ?_ | refine wk_draw Tryd_mixed ?_ | refine drawEnd (by kernel_rfl) ?_)
            | (with_reducible (first | refine condA_if (fun hb => ?_) fun hb => ?_ | refine stepDG_ifN (fun hb => ?_) fun hb => ?_ | refine stepDG_if (fun hb => ?_) fun hb => ?_ | refine stepG_ifN (fun hb => ?_) fun hb => ?_ | refine stepG_if (fun hb => ?_) fun hb => ?_)) <;> (have hif := hb) <;> (try simp only [bo] at hif) <;> (try simp (maxSteps := 1000000) -implicitDefEqProofs (disch := omega) only [go_sem, hb]) <;> clear hb
            | simp (maxSteps := 1000000) -implicitDefEqProofs (disch := omega) only [go_sem])
          refine call_pu (by first | (simp only [go_sem]; done) | (simp only [go_sem]; rfl)) ?_ (Same_true bs cs hz) ?_ ?_
          (focus (first | assumption | (simp only [go_sem] <;> assumption) | (simp only [go_sem, *]; done) | (simp [go_sem]; done)))
          (focus (first | assumption | (simp only [go_sem] <;> assumption) | (simp only [go_sem, *]; done) | (simp [go_sem]; done)))
          try simp (maxSteps := 1000000) -implicitDefEqProofs (disch := omega) only [go_sem]
          repeat' (first
            | (with_reducible refine Req_intro ?_ ?_); focus (first | omega | assumption | (simp; done))
            | with_reducible (first | refine Req_intro ?_ ?_ | refine nilT ?_ fun hn => ?_ | refine wk_draw Tryd_mixed ?_ | refine drawEnd (by kernel_rfl) ?_)
            | (with_reducible (first | refine condA_if (fun hb => ?_) fun hb => ?_ | refine stepDG_ifN (fun hb => ?_) fun hb => ?_ | refine stepDG_if (fun hb => ?_) fun hb => ?_ | refine stepG_ifN (fun hb => ?_) fun hb => ?_ | refine stepG_if (fun hb => ?_) fun hb => ?_)) <;> (have hif := hb) <;> (try simp only [bo] at hif) <;> (try simp (maxSteps := 1000000) -implicitDefEqProofs (disch := omega) only [go_sem, hb]) <;> clear hb
            | simp (maxSteps := 1000000) -implicitDefEqProofs (disch := omega) only [go_sem])
          refine call_pu (by first | (simp only [go_sem]; done) | (simp only [go_sem]; rfl)) ?_ (lopen_ok bs cs hz h0 hn) ?_ ?_
          (focus (first | assumption | (simp only [go_sem] <;> assumption) | (simp only [go_sem, *]; done) | (simp [go_sem]; done)))
          (focus (first | assumption | (simp only [go_sem] <;> assumption) | (simp only [go_sem, *]; done) | (simp [go_sem]; done)))
          try simp (maxSteps := 1000000) -implicitDefEqProofs (disch := omega) only [go_sem]
          repeat' (first
            | (with_reducible refine Req_intro ?_ ?_); focus (first | omega | assumption | (simp; done))
            | with_reducible (first | refine Req_intro ?_ ?_ | refine nilT ?_ fun hn => ?_ | refine wk_draw Tryd_mixed ?_ | refine drawEnd (by kernel_rfl) ?_)
            | (with_reducible (first | refine condA_if (fun hb => ?_) fun hb => ?_ | refine stepDG_ifN (fun hb => ?_) fun hb => ?_ | refine stepDG_if (fun hb => ?_) fun hb => ?_ | refine stepG_ifN (fun hb => ?_) fun hb => ?_ | refine stepG_if (fun hb => ?_) fun hb => ?_)) <;> (have hif := hb) <;> (try simp only [bo] at hif) <;> (try simp (maxSteps := 1000000) -implicitDefEqProofs (disch := omega) only [go_sem, hb]) <;> clear hb
            | simp (maxSteps := 1000000) -implicitDefEqProofs (disch := omega) only [go_sem])
          all_goals first | exact absurd trivial ‹¬True› | (exfalso; omega) | skip
          refine call_pu (by first | (simp only [go_sem]; done) | (simp only [go_sem]; rfl)) ?_ (In_is hA) ?_ ?_
          (focus (first | assumption | (simp only [go_sem] <;> assumption) | (simp only [go_sem, *]; done) | (simp [go_sem]; done)))
          (focus (first | assumption | (simp only [go_sem] <;> assumption) | (simp only [go_sem, *]; done) | (simp [go_sem]; done)))
          try simp (maxSteps := 1000000) -implicitDefEqProofs (disch := omega) only [go_sem]
          repeat' (first
            | (with_reducible refine Req_intro ?_ ?_); focus (first | omega | assumption | (simp; done))
            | with_reducible (first | refine Req_intro ?_ ?_ | refine nilT ?_ fun hn => ?_ | refine wk_draw Tryd_mixed ?_ | refine drawEnd (by kernel_rfl) ?_)
            | (with_reducible (first | refine condA_if (fun hb => ?_) fun hb => ?_ | refine stepDG_ifN (fun hb => ?_) fun hb => ?_ | refine stepDG_if (fun hb => ?_) fun hb => ?_ | refine stepG_ifN (fun hb => ?_) fun hb => ?_ | refine stepG_if (fun hb => ?_) fun hb => ?_)) <;> (have hif := hb) <;> (try simp only [bo] at hif) <;> (try simp (maxSteps := 1000000) -implicitDefEqProofs (disch := omega) only [go_sem, hb]) <;> clear hb
            | simp (maxSteps := 1000000) -implicitDefEqProofs (disch := omega) only [go_sem])
          refine call_pu (by first | (simp only [go_sem]; done) | (simp only [go_sem]; rfl)) ?_ (In_is hB) ?_ ?_
          (focus (first | assumption | (simp only [go_sem] <;> assumption) | (simp only [go_sem, *]; done) | (simp [go_sem]; done)))
          (focus (first | assumption | (simp only [go_sem] <;> assumption) | (simp only [go_sem, *]; done) | (simp [go_sem]; done)))
          try simp (maxSteps := 1000000) -implicitDefEqProofs (disch := omega) only [go_sem]
          repeat' (first
            | (with_reducible refine Req_intro ?_ ?_); focus (first | omega | assumption | (simp; done))
            | with_reducible (first | refine Req_intro ?_ ?_ | refine nilT ?_ fun hn => ?_ | refine wk_draw Tryd_mixed ?_ | refine drawEnd (by kernel_rfl) ?_)
            | (with_reducible (first | refine condA_if (fun hb => ?_) fun hb => ?_ | refine stepDG_ifN (fun hb => ?_) fun hb => ?_ | refine stepDG_if (fun hb => ?_) fun hb => ?_ | refine stepG_ifN (fun hb => ?_) fun hb => ?_ | refine stepG_if (fun hb => ?_) fun hb => ?_)) <;> (have hif := hb) <;> (try simp only [bo] at hif) <;> (try simp (maxSteps := 1000000) -implicitDefEqProofs (disch := omega) only [go_sem, hb]) <;> clear hb
            | simp (maxSteps := 1000000) -implicitDefEqProofs (disch := omega) only [go_sem])
          all_goals first | exact absurd trivial ‹¬True› | (exfalso; omega) | skip
          refine loop_at (α := Nat) [13, 14, 15, 16, 80, 81, 82, 83, 84, 85, 86, 87, 88, 89, 90, 91, 92, 93, 94, 95, 96, 97, 98, 99, 100, 101, 102, 103, 104, 105, 106, 107, 108] (fun i => [(15, .lit (.int .i64 i)), (13, .lit (.bool (sameTo (allW bs cs) a b i))), (14, .lit (.bool (someTo (allW bs cs) a b i)))]) (fun i => i ≤ (allW bs cs).length) (fun i => (allW bs cs).length - i) 0 (fun x => by simp (maxSteps := 1000000) -implicitDefEqProofs (disch := omega) only [go_sem]; rfl) ?_ ?_ fun x hx => ?_
          · simp only [sameTo, someTo, List.take_zero, List.all_nil, List.any_nil]
            (refine Weak.rows [] (Nat.zero_le _) (by rfl) ?_ ?_ (by rfl))
            repeat' (first
              | with_reducible (first | exact RenL.nil | refine RenL.cons _ _ _ _ ?_ ?_ | exact Ren.any _ | exact Ren.lit _)
              | (with_reducible (first | refine Ren.int _ _ _ ?_ | refine Ren.bool _ _ ?_)) <;> (first | rfl | omega | (simp <;> omega) | (simp only [go_sem]; done) | (push_cast; omega))
              | with_reducible (first | exact Ren.nil _ _ _ | exact Ren.nilsl _ _ | exact RowsRen.nil | exact RenE.nil)
              | (with_reducible refine Ren.ref _ _ _ _ _ ?_ ?_) <;> decide
              | (with_reducible refine Ren.osN _ _ ?_ ?_ ?_ ?_) <;> (first | decide | first | rfl | omega | (simp <;> omega) | (simp only [go_sem]; done) | (push_cast; omega) | (intro h; exact h) | (intro h; cases h))
              | with_reducible (first | refine Ren.fnL _ _ ?_ ?_ | refine Ren.aggL _ _ ?_)
              | (with_reducible (first | refine Ren.pu _ ?_ | refine RenE.puE ?_)) <;> (first | assumption | (simp only [go_sem] <;> assumption) | (simp only [go_sem, *]; done) | (simp [go_sem]; done))
              | (with_reducible apply RowsRen.row); (focus decide); (focus rfl)
              | (with_reducible refine RowsRen.virt _ _ _ _ _ ?_ ?_ ?_ ?_); (focus decide); (focus decide); (focus decide)
              | with_reducible (first | refine RowsRen.gone _ _ ?_ | refine RenE.cons _ _ _ _ ?_ ?_)
              | (with_reducible (first | refine Ren.slE _ _ _ ?_ ?_ | refine RenE.eqE ?_ ?_)); (focus (first | rfl | omega | (simp <;> omega) | (simp only [go_sem]; done) | (push_cast; omega))); (focus (first | assumption | (simp only [go_sem] <;> assumption) | (simp only [go_sem, *]; done) | (simp [go_sem]; done)))
              | (with_reducible refine RenL.puL ?_) <;> (first | assumption | (simp only [go_sem] <;> assumption) | (simp only [go_sem, *]; done) | (simp [go_sem]; done))
              | (with_reducible refine RenL.eqL ?_ ?_); (focus (first | rfl | omega | (simp <;> omega) | (simp only [go_sem]; done) | (push_cast; omega))); (focus (first | assumption | (simp only [go_sem] <;> assumption) | (simp only [go_sem, *]; done) | (simp [go_sem]; done))))
          · exact Nat.zero_le _
          by_cases hlt : x < (allW bs cs).length
          · have hwl : ((allW bs cs).getD x default).length = bs.length := (hok _ (getD_mem hlt)).1
            have e1 := sameTo_succ (a := a) (b := b) hlt
            have e2 := someTo_succ (a := a) (b := b) hlt
            generalize sameTo (allW bs cs) a b x = s1 at *
            generalize someTo (allW bs cs) a b x = s2 at *
            cases s1 <;> cases s2
            all_goals repeat' (first
                        | (with_reducible refine Req_intro ?_ ?_); focus (first | omega | assumption | (simp; done))
                        | with_reducible (first | refine Req_intro ?_ ?_ | refine nilT ?_ fun hn => ?_ | refine wk_draw Tryd_mixed ?_ | refine drawEnd (by kernel_rfl) ?_)
                        | (with_reducible (first | refine condA_if (fun hb => ?_) fun hb => ?_ | refine stepDG_ifN (fun hb => ?_) fun hb => ?_ | refine stepDG_if (fun hb => ?_) fun hb => ?_ | refine stepG_ifN (fun hb => ?_) fun hb => ?_ | refine stepG_if (fun hb => ?_) fun hb => ?_)) <;> (have hif := hb) <;> (try simp only [bo] at hif) <;> (try simp (maxSteps := 1000000) -implicitDefEqProofs (disch := omega) only [go_sem, hb]) <;> clear hb
                        | simp (maxSteps := 1000000) -implicitDefEqProofs (disch := omega) only [go_sem])
            all_goals first | exact absurd trivial ‹¬True› | (exfalso; omega) | skip
            all_goals simp only [Bool.true_and, Bool.false_and, Bool.true_or, Bool.false_or] at e1 e2
            · (with_reducible refine nxt (x + 1) ?_ ?_ ?_)
              rotate_left
              · (try dsimp only); first | omega | (simp; omega) | (simp_all; omega)
              · (try dsimp only)
                simp only [e1, e2]
                (refine Weak.rows [] (Nat.zero_le _) (by rfl) ?_ ?_ (by rfl))
                repeat' (first
                  | with_reducible (first | exact RenL.nil | refine RenL.cons _ _ _ _ ?_ ?_ | exact Ren.any _ | exact Ren.lit _)
                  | (with_reducible (first | refine Ren.int _ _ _ ?_ | refine Ren.bool _ _ ?_)) <;> (first | rfl | omega | (simp <;> omega) | (simp only [go_sem]; done) | (push_cast; omega))
                  | with_reducible (first | exact Ren.nil _ _ _ | exact Ren.nilsl _ _ | exact RowsRen.nil | exact RenE.nil)
                  | (with_reducible refine Ren.ref _ _ _ _ _ ?_ ?_) <;> decide
                  | (with_reducible refine Ren.osN _ _ ?_ ?_ ?_ ?_) <;> (first | decide | first | rfl | omega | (simp <;> omega) | (simp only [go_sem]; done) | (push_cast; omega) | (intro h; exact h) | (intro h; cases h))
                  | with_reducible (first | refine Ren.fnL _ _ ?_ ?_ | refine Ren.aggL _ _ ?_)
                  | (with_reducible (first | refine Ren.pu _ ?_ | refine RenE.puE ?_)) <;> (first | assumption | (simp only [go_sem] <;> assumption) | (simp only [go_sem, *]; done) | (simp [go_sem]; done))
                  | (with_reducible apply RowsRen.row); (focus decide); (focus rfl)
                  | (with_reducible refine RowsRen.virt _ _ _ _ _ ?_ ?_ ?_ ?_); (focus decide); (focus decide); (focus decide)
                  | with_reducible (first | refine RowsRen.gone _ _ ?_ | refine RenE.cons _ _ _ _ ?_ ?_)
                  | (with_reducible (first | refine Ren.slE _ _ _ ?_ ?_ | refine RenE.eqE ?_ ?_)); (focus (first | rfl | omega | (simp <;> omega) | (simp only [go_sem]; done) | (push_cast; omega))); (focus (first | assumption | (simp only [go_sem] <;> assumption) | (simp only [go_sem, *]; done) | (simp [go_sem]; done)))
                  | (with_reducible refine RenL.puL ?_) <;> (first | assumption | (simp only [go_sem] <;> assumption) | (simp only [go_sem, *]; done) | (simp [go_sem]; done))
                  | (with_reducible refine RenL.eqL ?_ ?_); (focus (first | rfl | omega | (simp <;> omega) | (simp only [go_sem]; done) | (push_cast; omega))); (focus (first | assumption | (simp only [go_sem] <;> assumption) | (simp only [go_sem, *]; done) | (simp [go_sem]; done))))
              try dsimp only
              omega
            · (with_reducible refine nxt (x + 1) ?_ ?_ ?_)
              rotate_left
              · (try dsimp only); first | omega | (simp; omega) | (simp_all; omega)
              · (try dsimp only)
                simp only [e1, e2]
                (refine Weak.rows [] (Nat.zero_le _) (by rfl) ?_ ?_ (by rfl))
                repeat' (first
                  | with_reducible (first | exact RenL.nil | refine RenL.cons _ _ _ _ ?_ ?_ | exact Ren.any _ | exact Ren.lit _)
                  | (with_reducible (first | refine Ren.int _ _ _ ?_ | refine Ren.bool _ _ ?_)) <;> (first | rfl | omega | (simp <;> omega) | (simp only [go_sem]; done) | (push_cast; omega))
                  | with_reducible (first | exact Ren.nil _ _ _ | exact Ren.nilsl _ _ | exact RowsRen.nil | exact RenE.nil)
                  | (with_reducible refine Ren.ref _ _ _ _ _ ?_ ?_) <;> decide
                  | (with_reducible refine Ren.osN _ _ ?_ ?_ ?_ ?_) <;> (first | decide | first | rfl | omega | (simp <;> omega) | (simp only [go_sem]; done) | (push_cast; omega) | (intro h; exact h) | (intro h; cases h))
                  | with_reducible (first | refine Ren.fnL _ _ ?_ ?_ | refine Ren.aggL _ _ ?_)
                  | (with_reducible (first | refine Ren.pu _ ?_ | refine RenE.puE ?_)) <;> (first | assumption | (simp only [go_sem] <;> assumption) | (simp only [go_sem, *]; done) | (simp [go_sem]; done))
                  | (with_reducible apply RowsRen.row); (focus decide); (focus rfl)
                  | (with_reducible refine RowsRen.virt _ _ _ _ _ ?_ ?_ ?_ ?_); (focus decide); (focus decide); (focus decide)
                  | with_reducible (first | refine RowsRen.gone _ _ ?_ | refine RenE.cons _ _ _ _ ?_ ?_)
                  | (with_reducible (first | refine Ren.slE _ _ _ ?_ ?_ | refine RenE.eqE ?_ ?_)); (focus (first | rfl | omega | (simp <;> omega) | (simp only [go_sem]; done) | (push_cast; omega))); (focus (first | assumption | (simp only [go_sem] <;> assumption) | (simp only [go_sem, *]; done) | (simp [go_sem]; done)))
                  | (with_reducible refine RenL.puL ?_) <;> (first | assumption | (simp only [go_sem] <;> assumption) | (simp only [go_sem, *]; done) | (simp [go_sem]; done))
                  | (with_reducible refine RenL.eqL ?_ ?_); (focus (first | rfl | omega | (simp <;> omega) | (simp only [go_sem]; done) | (push_cast; omega))); (focus (first | assumption | (simp only [go_sem] <;> assumption) | (simp only [go_sem, *]; done) | (simp [go_sem]; done))))
              try dsimp only
              omega
            · (with_reducible refine nxt (x + 1) ?_ ?_ ?_)
              rotate_left
              · (try dsimp only); first | omega | (simp; omega) | (simp_all; omega)
              · (try dsimp only)
                simp only [e1, e2]
                (refine Weak.rows [] (Nat.zero_le _) (by rfl) ?_ ?_ (by rfl))
                repeat' (first
                  | with_reducible (first | exact RenL.nil | refine RenL.cons _ _ _ _ ?_ ?_ | exact Ren.any _ | exact Ren.lit _)
                  | (with_reducible (first | refine Ren.int _ _ _ ?_ | refine Ren.bool _ _ ?_)) <;> (first | rfl | omega | (simp <;> omega) | (simp only [go_sem]; done) | (push_cast; omega))
                  | with_reducible (first | exact Ren.nil _ _ _ | exact Ren.nilsl _ _ | exact RowsRen.nil | exact RenE.nil)
                  | (with_reducible refine Ren.ref _ _ _ _ _ ?_ ?_) <;> decide
                  | (with_reducible refine Ren.osN _ _ ?_ ?_ ?_ ?_) <;> (first | decide | first | rfl | omega | (simp <;> omega) | (simp only [go_sem]; done) | (push_cast; omega) | (intro h; exact h) | (intro h; cases h))
                  | with_reducible (first | refine Ren.fnL _ _ ?_ ?_ | refine Ren.aggL _ _ ?_)
                  | (with_reducible (first | refine Ren.pu _ ?_ | refine RenE.puE ?_)) <;> (first | assumption | (simp only [go_sem] <;> assumption) | (simp only [go_sem, *]; done) | (simp [go_sem]; done))
                  | (with_reducible apply RowsRen.row); (focus decide); (focus rfl)
                  | (with_reducible refine RowsRen.virt _ _ _ _ _ ?_ ?_ ?_ ?_); (focus decide); (focus decide); (focus decide)
                  | with_reducible (first | refine RowsRen.gone _ _ ?_ | refine RenE.cons _ _ _ _ ?_ ?_)
                  | (with_reducible (first | refine Ren.slE _ _ _ ?_ ?_ | refine RenE.eqE ?_ ?_)); (focus (first | rfl | omega | (simp <;> omega) | (simp only [go_sem]; done) | (push_cast; omega))); (focus (first | assumption | (simp only [go_sem] <;> assumption) | (simp only [go_sem, *]; done) | (simp [go_sem]; done)))
                  | (with_reducible refine RenL.puL ?_) <;> (first | assumption | (simp only [go_sem] <;> assumption) | (simp only [go_sem, *]; done) | (simp [go_sem]; done))
                  | (with_reducible refine RenL.eqL ?_ ?_); (focus (first | rfl | omega | (simp <;> omega) | (simp only [go_sem]; done) | (push_cast; omega))); (focus (first | assumption | (simp only [go_sem] <;> assumption) | (simp only [go_sem, *]; done) | (simp [go_sem]; done))))
              try dsimp only
              omega
            · (with_reducible refine nxt (x + 1) ?_ ?_ ?_)
              rotate_left
              · (try dsimp only); first | omega | (simp; omega) | (simp_all; omega)
              · (try dsimp only)
                simp only [e1, e2]
                (refine Weak.rows [] (Nat.zero_le _) (by rfl) ?_ ?_ (by rfl))
                repeat' (first
                  | with_reducible (first | exact RenL.nil | refine RenL.cons _ _ _ _ ?_ ?_ | exact Ren.any _ | exact Ren.lit _)
                  | (with_reducible (first | refine Ren.int _ _ _ ?_ | refine Ren.bool _ _ ?_)) <;> (first | rfl | omega | (simp <;> omega) | (simp only [go_sem]; done) | (push_cast; omega))
                  | with_reducible (first | exact Ren.nil _ _ _ | exact Ren.nilsl _ _ | exact RowsRen.nil | exact RenE.nil)
                  | (with_reducible refine Ren.ref _ _ _ _ _ ?_ ?_) <;> decide
                  | (with_reducible refine Ren.osN _ _ ?_ ?_ ?_ ?_) <;> (first | decide | first | rfl | omega | (simp <;> omega) | (simp only [go_sem]; done) | (push_cast; omega) | (intro h; exact h) | (intro h; cases h))
                  | with_reducible (first | refine Ren.fnL _ _ ?_ ?_ | refine Ren.aggL _ _ ?_)
                  | (with_reducible (first | refine Ren.pu _ ?_ | refine RenE.puE ?_)) <;> (first | assumption | (simp only [go_sem] <;> assumption) | (simp only [go_sem, *]; done) | (simp [go_sem]; done))
                  | (with_reducible apply RowsRen.row); (focus decide); (focus rfl)
                  | (with_reducible refine RowsRen.virt _ _ _ _ _ ?_ ?_ ?_ ?_); (focus decide); (focus decide); (focus decide)
                  | with_reducible (first | refine RowsRen.gone _ _ ?_ | refine RenE.cons _ _ _ _ ?_ ?_)
                  | (with_reducible (first | refine Ren.slE _ _ _ ?_ ?_ | refine RenE.eqE ?_ ?_)); (focus (first | rfl | omega | (simp <;> omega) | (simp only [go_sem]; done) | (push_cast; omega))); (focus (first | assumption | (simp only [go_sem] <;> assumption) | (simp only [go_sem, *]; done) | (simp [go_sem]; done)))
                  | (with_reducible refine RenL.puL ?_) <;> (first | assumption | (simp only [go_sem] <;> assumption) | (simp only [go_sem, *]; done) | (simp [go_sem]; done))
                  | (with_reducible refine RenL.eqL ?_ ?_); (focus (first | rfl | omega | (simp <;> omega) | (simp only [go_sem]; done) | (push_cast; omega))); (focus (first | assumption | (simp only [go_sem] <;> assumption) | (simp only [go_sem, *]; done) | (simp [go_sem]; done))))
              try dsimp only
              omega
          · obtain rfl : x = (allW bs cs).length := by omega
            generalize sameTo (allW bs cs) a b (allW bs cs).length = s1 at *
            generalize someTo (allW bs cs) a b (allW bs cs).length = s2 at *
            repeat' (first
              | (with_reducible refine Req_intro ?_ ?_); focus (first | omega | assumption | (simp; done))
              | with_reducible (first | refine Req_intro ?_ ?_ | refine nilT ?_ fun hn => ?_ | refine wk_draw Tryd_mixed ?_ | refine drawEnd (by kernel_rfl) ?_)
              | (with_reducible (first | refine condA_if (fun hb => ?_) fun hb => ?_ | refine stepDG_ifN (fun hb => ?_) fun hb => ?_ | refine stepDG_if (fun hb => ?_) fun hb => ?_ | refine stepG_ifN (fun hb => ?_) fun hb => ?_ | refine stepG_if (fun hb => ?_) fun hb => ?_)) <;> (have hif := hb) <;> (try simp only [bo] at hif) <;> (try simp (maxSteps := 1000000) -implicitDefEqProofs (disch := omega) only [go_sem, hb, und4]) <;> clear hb
              | simp (maxSteps := 1000000) -implicitDefEqProofs (disch := omega) only [go_sem, und4])
            all_goals first | exact absurd trivial ‹¬True› | (exfalso; omega) | skip
            refine call_pu (by first | (simp only [go_sem]; done) | (simp only [go_sem]; rfl)) ?_ known_spec ?_ ?_
            (focus (first | assumption | (simp only [go_sem] <;> assumption) | (simp only [go_sem, *]; done) | (simp [go_sem]; done)))
            (focus (first | assumption | (simp only [go_sem] <;> assumption) | (simp only [go_sem, *]; done) | (simp [go_sem]; done)))
            try simp (maxSteps := 1000000) -implicitDefEqProofs (disch := omega) only [go_sem]
            repeat' (first
              | (with_reducible refine Req_intro ?_ ?_); focus (first | omega | assumption | (simp; done))
              | with_reducible (first | refine Req_intro ?_ ?_ | refine nilT ?_ fun hn => ?_ | refine wk_draw Tryd_mixed ?_ | refine drawEnd (by kernel_rfl) ?_)
              | (with_reducible (first | refine condA_if (fun hb => ?_) fun hb => ?_ | refine stepDG_ifN (fun hb => ?_) fun hb => ?_ | refine stepDG_if (fun hb => ?_) fun hb => ?_ | refine stepG_ifN (fun hb => ?_) fun hb => ?_ | refine stepG_if (fun hb => ?_) fun hb => ?_)) <;> (have hif := hb) <;> (try simp only [bo] at hif) <;> (try simp (maxSteps := 1000000) -implicitDefEqProofs (disch := omega) only [go_sem, hb]) <;> clear hb
              | simp (maxSteps := 1000000) -implicitDefEqProofs (disch := omega) only [go_sem])
            refine ret_at (by simp (maxSteps := 1000000) -implicitDefEqProofs (disch := omega) only [go_sem]; rfl) (by first | trivial | omega | (simp; omega)) ?_
            rfl
end Go.Aw
end
section
set_option linter.unusedVariables false
set_option linter.unusedSimpArgs false
set_option maxRecDepth 20000
set_option maxHeartbeats 4000000
/-! The law MixShorts. -/
namespace Go.Aw
open Go.RowKit Go.Proofs

theorem shorts_len (bs : List Box) (cs : List Bill) (n : Nat) : (shorts bs cs n).length = n := by simp [shorts]
theorem shorts_get (bs : List Box) (cs : List Bill) (n k : Nat) (h : k < n) : (shorts bs cs n).getD k default = subTo bs cs k cs.length := by
  have : subTo bs cs k cs.length = shortR bs cs k := by simp [subTo, shortR]
  rw [this, getD_default (by rw [shorts_len]; exact h)]
  simp [shorts]

/-- How much a carrier's boxes can have, way by way. -/
def dueTo (bs : List Box) (cs : List Bill) (a b : Nat) (ws : List (List Int)) : Nat → Int × Int
  | 0 => (1099511627776, -1)
  | i + 1 => (min (dueTo bs cs a b ws i).1 (max (sumR bs (ws.getD i default) a b 0 bs.length).1 ((cs.getD a default).2.getD b default).1), max (dueTo bs cs a b ws i).2 (min (sumR bs (ws.getD i default) a b 0 bs.length).2 ((cs.getD a default).2.getD b default).2))

theorem dueTo_share {bs : List Box} {cs : List Bill} (hg : Good bs cs) {a b : Nat} (ha : a < cs.length) (hb : b < stuffs cs) (ws : List (List Int)) : ∀ i, 0 < i → dueTo bs cs a b ws i = shareTo bs cs a b ws i
  | 0, h => absurd h (Nat.lt_irrefl _)
  | i + 1, _ => by
    have hst := hg.st
    have h8 := hg.nb
    have hk : ∀ x ∈ bs, b < x.length := fun x hx => by have := hg.lb x hx; omega
    have h3 : ∀ x ∈ bs, x.length ≤ 3 := fun x hx => by have := hg.lb x hx; omega
    have hc := cartTo_get (ws.getD i default) (a : Int) b hk h3 bs.length (Nat.le_refl _)
    have hs := sumR_le (ws.getD i default) (a : Int) b hk hg.pos.ob bs.length (Nat.le_refl _)
    have hss := sumR_small (ws.getD i default) (a : Int) b 0 hk (fun x hx y hy => (hg.valid.vb x hx y hy).mono (by decide)) bs.length (Nat.le_refl _)
    have hbl := hg.bill hb ha
    unfold SmallS at hss
    rw [dueTo, shareTo, shareW, hc]
    rcases Nat.eq_zero_or_pos i with h | h
    · subst h
      rw [if_neg (by decide), dueTo]
      refine Prod.ext ?_ ?_
      · show min (1099511627776 : Int) (max _ _) = max _ _
        omega
      · show max (-1 : Int) (min _ _) = min _ _
        omega
    · rw [if_pos h, dueTo_share hg ha hb ws i h]
      refine Prod.ext ?_ ?_
      · show min _ (max _ _) = min (max _ _) _
        omega
      · show max _ (min _ _) = max (min _ _) _
        omega

/-- What 'Share' answers, where there is a way. -/
theorem Share_any (bs : List Box) (cs : List Bill) (a b : Int) (hf : Fits bs cs) (h0 : checkR bs cs = 0) (hn : allW bs cs ≠ []) : ∃ p q f : Int, Ct Tryd.prog 34 [encLoad bs cs, int a, int b] (.tup [.agg [int p, int q], int f]) ∧
    ((inR' 0 ((cs.length : Int) - 1) a = false ∨ inR' 0 ((stuffs cs : Int) - 1) b = false) → p = 0 ∧ q = 0 ∧ f = 3) ∧
    (inR' 0 ((cs.length : Int) - 1) a = true → inR' 0 ((stuffs cs : Int) - 1) b = true → (p, q) = shareTo bs cs a.toNat b.toNat (allW bs cs) (allW bs cs).length ∧ f = 0) := by
  cases hA : inR' 0 ((cs.length : Int) - 1) a with
  | false => exact ⟨0, 0, 3, Share_out1 bs cs a b hf h0 hn hA, fun _ => ⟨rfl, rfl, rfl⟩, fun h => by cases h⟩
  | true =>
    cases hB : inR' 0 ((stuffs cs : Int) - 1) b with
    | false => exact ⟨0, 0, 3, Share_out2 bs cs a b hf h0 hn hA hB, fun _ => ⟨rfl, rfl, rfl⟩, fun _ h => by cases h⟩
    | true =>
      have ha : 0 ≤ a ∧ a ≤ (cs.length : Int) - 1 := by simpa [inR'] using hA
      have hb : 0 ≤ b ∧ b ≤ (stuffs cs : Int) - 1 := by simpa [inR'] using hB
      have := Share_ok bs cs a.toNat b.toNat hf h0 hn (by omega) (by omega)
      rw [Int.toNat_of_nonneg ha.1, Int.toNat_of_nonneg hb.1] at this
      exact ⟨_, _, 0, this, (fun h => by rcases h with h | h <;> cases h), fun _ _ => ⟨rfl, rfl⟩⟩

/-- What 'open' and 'Share' answer for a load without an error. -/
theorem share_cases (bs : List Box) (cs : List Bill) (a b : Int) (hz : SizeOk bs cs) (h0 : checkR bs cs = 0) : ∃ (wv : V) (want p q f : Int), Pu wv ∧ wv.cell = true ∧ Ct Tryd.prog 22 [encLoad bs cs] (.tup [wv, int want]) ∧ Ct Tryd.prog 34 [encLoad bs cs, int a, int b] (.tup [.agg [int p, int q], int f]) ∧
    ((want = 9 ∧ p = 0 ∧ q = 0 ∧ f = 9) ∨ (want = 0 ∧ wv = .sl 1 ((allW bs cs).map encW) false ∧ allW bs cs ≠ [] ∧ ((inR' 0 ((cs.length : Int) - 1) a = false ∨ inR' 0 ((stuffs cs : Int) - 1) b = false) → p = 0 ∧ q = 0 ∧ f = 3) ∧
    (inR' 0 ((cs.length : Int) - 1) a = true → inR' 0 ((stuffs cs : Int) - 1) b = true → (p, q) = shareTo bs cs a.toNat b.toNat (allW bs cs) (allW bs cs).length ∧ f = 0))) := by
  by_cases hn : allW bs cs = []
  · exact ⟨nilV, 9, 0, 0, 9, .lit _, rfl, lopen_none bs cs hz h0 hn, Share_no bs cs a b hz.fits 9 (.none h0 hn), .inl ⟨rfl, rfl, rfl, rfl⟩⟩
  · obtain ⟨p, q, f, h1, h2, h3⟩ := Share_any bs cs a b hz.fits h0 hn
    exact ⟨.sl 1 ((allW bs cs).map encW) false, 0, p, q, f, by first | assumption | (simp only [go_sem] <;> assumption) | (simp only [go_sem, *]; done) | (simp [go_sem]; done), rfl, lopen_ok bs cs hz h0 hn, h1, .inr ⟨rfl, rfl, hn, h2, h3⟩⟩

theorem MixShorts_spec (bs : List Box) (cs : List Bill) (a b : Int) (hb : bs.length ≤ 4611686018427387904) (hc : cs.length ≤ 4611686018427387904) : Ct Tryd.prog 8 [encLoad bs cs, int a, int b] (.lit (.bool true)) := by
  have hlg := large_spec bs cs 7 hb hc
  refine fn_enter Tryd.func8 rfl (by decide) Tryd.results8 Tryd.ntmps8 ?_ rfl (by simp (maxSteps := 1000000) -implicitDefEqProofs (disch := omega) only [go_sem]; rfl) fun base => ?_
  · first | assumption | (simp only [go_sem] <;> assumption) | (simp only [go_sem, *]; done) | (simp [go_sem]; done)
  repeat' (first
    | (with_reducible apply Req_intro); focus (first | omega | assumption | (simp; done))
    | with_reducible (first | apply Req_intro | refine nilT ?_ fun hn => ?_ | apply wk_draw Tryd_mixed | refine drawEnd (by kernel_rfl) ?_)
    | (with_reducible (first | apply condA_if | apply stepDG_ifN | apply stepDG_if | apply stepG_ifN | apply stepG_if)) <;> intro hb <;> (have hif := hb) <;> (try simp only [bo] at hif) <;> (try simp -implicitDefEqProofs (disch := omega) only [go_sem, hb]) <;> clear hb
    | simp (maxSteps := 1000000) -implicitDefEqProofs (disch := omega) only [go_sem])
  refine callp hlg ?_
  try simp (maxSteps := 1000000) -implicitDefEqProofs (disch := omega) only [go_sem]
  repeat' (first
    | (with_reducible apply Req_intro); focus (first | omega | assumption | (simp; done))
    | with_reducible (first | apply Req_intro | refine nilT ?_ fun hn => ?_ | apply wk_draw Tryd_mixed | refine drawEnd (by kernel_rfl) ?_)
    | (with_reducible (first | apply condA_if | apply stepDG_ifN | apply stepDG_if | apply stepG_ifN | apply stepG_if)) <;> intro hb <;> (have hif := hb) <;> (try simp only [bo] at hif) <;> (try simp -implicitDefEqProofs (disch := omega) only [go_sem, hb]) <;> clear hb
    | simp (maxSteps := 1000000) -implicitDefEqProofs (disch := omega) only [go_sem])
  · refine callp known_spec ?_
    try simp (maxSteps := 1000000) -implicitDefEqProofs (disch := omega) only [go_sem]
    repeat' (first
      | (with_reducible apply Req_intro); focus (first | omega | assumption | (simp; done))
      | with_reducible (first | apply Req_intro | refine nilT ?_ fun hn => ?_ | apply wk_draw Tryd_mixed | refine drawEnd (by kernel_rfl) ?_)
      | (with_reducible (first | apply condA_if | apply stepDG_ifN | apply stepDG_if | apply stepG_ifN | apply stepG_if)) <;> intro hb <;> (have hif := hb) <;> (try simp only [bo] at hif) <;> (try simp -implicitDefEqProofs (disch := omega) only [go_sem, hb]) <;> clear hb
      | simp (maxSteps := 1000000) -implicitDefEqProofs (disch := omega) only [go_sem])
    refine ret_do ?_
    rfl
  have hz : SizeOk bs cs := by
    refine bigR_false ?_
    have := hif
    simp only [largeR, Bool.or_eq_false_iff] at this
    exact this.1
  obtain ⟨hnb, hnc, hlb, hlc⟩ := id hz
  have hrk := RCheck_spec bs cs hz
  refine callp (Copy_spec bs cs hz) ?_
  try simp (maxSteps := 1000000) -implicitDefEqProofs (disch := omega) only [go_sem]
  repeat' (first
    | (with_reducible apply Req_intro); focus (first | omega | assumption | (simp; done))
    | with_reducible (first | apply Req_intro | refine nilT ?_ fun hn => ?_ | apply wk_draw Tryd_mixed | refine drawEnd (by kernel_rfl) ?_)
    | (with_reducible (first | apply condA_if | apply stepDG_ifN | apply stepDG_if | apply stepG_ifN | apply stepG_if)) <;> intro hb <;> (have hif := hb) <;> (try simp only [bo] at hif) <;> (try simp -implicitDefEqProofs (disch := omega) only [go_sem, hb]) <;> clear hb
    | simp (maxSteps := 1000000) -implicitDefEqProofs (disch := omega) only [go_sem])
  by_cases h0 : checkR bs cs = 0
  · rw [h0] at hrk
    have hg := good_of_check h0
    have h8 := hg.nb
    have h3 := hg.nc
    have h1 := hg.n1
    have hst := hg.st
    have hse := stuffs_eq cs
    have hsl := shorts_len bs cs (stuffs cs)
    have hsg := fun k hk => shorts_get bs cs (stuffs cs) k hk
    obtain ⟨wv, want, p, q, f, hwv, hwc, hop, hsh, hcase⟩ := share_cases bs cs a b hz h0
    have hshort := Short_ok bs cs hz.fits h0
    generalize shorts bs cs (stuffs cs) = sh at *
    refine callp hshort ?_
    try simp (maxSteps := 1000000) -implicitDefEqProofs (disch := omega) only [go_sem]
    repeat' (first
      | (with_reducible apply Req_intro); focus (first | omega | assumption | (simp; done))
      | with_reducible (first | apply Req_intro | refine nilT ?_ fun hn => ?_ | apply wk_draw Tryd_mixed | refine drawEnd (by kernel_rfl) ?_)
      | (with_reducible (first | apply condA_if | apply stepDG_ifN | apply stepDG_if | apply stepG_ifN | apply stepG_if)) <;> intro hb <;> (have hif := hb) <;> (try simp only [bo] at hif) <;> (try simp -implicitDefEqProofs (disch := omega) only [go_sem, hb]) <;> clear hb
      | simp (maxSteps := 1000000) -implicitDefEqProofs (disch := omega) only [go_sem])
    refine callp hsh ?_
    try simp (maxSteps := 1000000) -implicitDefEqProofs (disch := omega) only [go_sem]
    repeat' (first
      | (with_reducible apply Req_intro); focus (first | omega | assumption | (simp; done))
      | with_reducible (first | apply Req_intro | refine nilT ?_ fun hn => ?_ | apply wk_draw Tryd_mixed | refine drawEnd (by kernel_rfl) ?_)
      | (with_reducible (first | apply condA_if | apply stepDG_ifN | apply stepDG_if | apply stepG_ifN | apply stepG_if)) <;> intro hb <;> (have hif := hb) <;> (try simp only [bo] at hif) <;> (try simp -implicitDefEqProofs (disch := omega) only [go_sem, hb]) <;> clear hb
      | simp (maxSteps := 1000000) -implicitDefEqProofs (disch := omega) only [go_sem])
    refine callp (Same_true bs cs hz) ?_
    try simp (maxSteps := 1000000) -implicitDefEqProofs (disch := omega) only [go_sem]
    repeat' (first
      | (with_reducible apply Req_intro); focus (first | omega | assumption | (simp; done))
      | with_reducible (first | apply Req_intro | refine nilT ?_ fun hn => ?_ | apply wk_draw Tryd_mixed | refine drawEnd (by kernel_rfl) ?_)
      | (with_reducible (first | apply condA_if | apply stepDG_ifN | apply stepDG_if | apply stepG_ifN | apply stepG_if)) <;> intro hb <;> (have hif := hb) <;> (try simp only [bo] at hif) <;> (try simp -implicitDefEqProofs (disch := omega) only [go_sem, hb]) <;> clear hb
      | simp (maxSteps := 1000000) -implicitDefEqProofs (disch := omega) only [go_sem])
    refine callp hop ?_
    try simp (maxSteps := 1000000) -implicitDefEqProofs (disch := omega) only [go_sem]
    repeat' (first
      | (with_reducible apply Req_intro); focus (first | omega | assumption | (simp; done))
      | with_reducible (first | apply Req_intro | refine nilT ?_ fun hn => ?_ | apply wk_draw Tryd_mixed | refine drawEnd (by kernel_rfl) ?_)
      | (with_reducible (first | apply condA_if | apply stepDG_ifN | apply stepDG_if | apply stepG_ifN | apply stepG_if)) <;> intro hb <;> (have hif := hb) <;> (try simp only [bo] at hif) <;> (try simp -implicitDefEqProofs (disch := omega) only [go_sem, hb, hwc]) <;> clear hb
      | simp (maxSteps := 1000000) -implicitDefEqProofs (disch := omega) only [go_sem, hwc])
    refine callp hrk ?_
    try simp (maxSteps := 1000000) -implicitDefEqProofs (disch := omega) only [go_sem]
    repeat' (first
      | (with_reducible apply Req_intro); focus (first | omega | assumption | (simp; done))
      | with_reducible (first | apply Req_intro | refine nilT ?_ fun hn => ?_ | apply wk_draw Tryd_mixed | refine drawEnd (by kernel_rfl) ?_)
      | (with_reducible (first | apply condA_if | apply stepDG_ifN | apply stepDG_if | apply stepG_ifN | apply stepG_if)) <;> intro hb <;> (have hif := hb) <;> (try simp only [bo] at hif) <;> (try simp -implicitDefEqProofs (disch := omega) only [go_sem, hb]) <;> clear hb
      | simp (maxSteps := 1000000) -implicitDefEqProofs (disch := omega) only [go_sem])
    · omega
    rw [hse] at *
    refine loop_at (α := Nat) [6, 15, 16, 17, 18, 87, 88, 89, 90, 91, 92, 93, 94, 95, 96, 97, 98, 99, 100, 101, 102, 103, 104, 105, 106, 107, 108, 109, 110, 111, 112, 113, 114, 115, 116, 117, 118, 119, 120, 121, 122, 123, 124, 125, 126, 127, 128, 129, 130, 131, 132, 133, 134, 135, 136, 137, 138, 139, 140, 141, 142, 143, 144, 145, 146, 147, 148, 149, 150, 151, 152, 153, 154, 155, 156, 157, 158, 159, 160, 161, 162, 163, 164, 165, 166, 167] (fun k => [(15, .lit (.int .i64 k))]) (fun k => k ≤ stuffs cs) (fun k => stuffs cs - k) 0 (fun x => by simp (maxSteps := 1000000) -implicitDefEqProofs (disch := omega) only [go_sem]; rfl) ?_ ?_ fun x hx => ?_
    · exact weak_do []
    · exact Nat.zero_le _
    by_cases hlt : x < stuffs cs
    · have hgx := hsg x hlt
      repeat' (first
        | (with_reducible apply Req_intro); focus (first | omega | assumption | (simp; done))
        | with_reducible (first | apply Req_intro | refine nilT ?_ fun hn => ?_ | apply wk_draw Tryd_mixed | refine drawEnd (by kernel_rfl) ?_)
        | (with_reducible (first | apply condA_if | apply stepDG_ifN | apply stepDG_if | apply stepG_ifN | apply stepG_if)) <;> intro hb <;> (have hif := hb) <;> (try simp only [bo] at hif) <;> (try simp -implicitDefEqProofs (disch := omega) only [go_sem, hb]) <;> clear hb
        | simp (maxSteps := 1000000) -implicitDefEqProofs (disch := omega) only [go_sem])
      all_goals first | exact absurd trivial ‹¬True› | (exfalso; omega) | skip
      rename Nat => y
      refine loop_rows (α := Nat) [17, 94, 95, 96, 97, 98, 99, 100, 101, 102, 103, 104, 105, 106, 107, 108, 109, 110, 111, 112, 113, 114, 115, 116, 117, 118, 119, 120, 121, 122, 123, 124, 125, 126, 127] (fun i => [(17, .lit (.int .i64 i))]) (fun i => [(0, some ⟨2, [loadC bs cs], 25, .wr⟩), (384, some ⟨2, [loadC bs cs], 25, .wr⟩), (1408, some ⟨2, [[int p, int q]], 60, .wr⟩), (3840, some ⟨2, [encS (sumTo bs y i)], 60, .wr⟩)]) (fun i => i ≤ bs.length) (fun i => bs.length - i) 0 (fun x => by simp (maxSteps := 1000000) -implicitDefEqProofs (disch := omega) only [go_sem]; rfl) ?_ ?_ fun x hx => ?_
      · simp only [sumTo, List.take_zero, List.foldl_nil]
        exact weak_do []
      · exact Nat.zero_le _
      have hbd := sumTo_bnd hg hlt x (by omega)
      by_cases hlx : x < bs.length
      · have hbx := hg.box hlt hlx
        have hss := sumTo_succ bs y x hlx
        repeat' (first
          | (with_reducible apply Req_intro); focus (first | omega | assumption | (simp; done))
          | with_reducible (first | apply Req_intro | refine nilT ?_ fun hn => ?_ | apply wk_draw Tryd_mixed | refine drawEnd (by kernel_rfl) ?_)
          | (with_reducible (first | apply condA_if | apply stepDG_ifN | apply stepDG_if | apply stepG_ifN | apply stepG_if)) <;> intro hb <;> (have hif := hb) <;> (try simp only [bo] at hif) <;> (try simp -implicitDefEqProofs (disch := omega) only [go_sem, hb]) <;> clear hb
          | simp (maxSteps := 1000000) -implicitDefEqProofs (disch := omega) only [go_sem])
        all_goals first | exact absurd trivial ‹¬True› | (exfalso; omega) | skip
        refine calld (span_spec _ _) ?_
        try simp (maxSteps := 1000000) -implicitDefEqProofs (disch := omega) only [go_sem]
        repeat' (first
          | (with_reducible apply Req_intro); focus (first | omega | assumption | (simp; done))
          | with_reducible (first | apply Req_intro | refine nilT ?_ fun hn => ?_ | apply wk_draw Tryd_mixed | refine drawEnd (by kernel_rfl) ?_)
          | (with_reducible (first | apply condA_if | apply stepDG_ifN | apply stepDG_if | apply stepG_ifN | apply stepG_if)) <;> intro hb <;> (have hif := hb) <;> (try simp only [bo] at hif) <;> (try simp -implicitDefEqProofs (disch := omega) only [go_sem, hb]) <;> clear hb
          | simp (maxSteps := 1000000) -implicitDefEqProofs (disch := omega) only [go_sem])
        with_reducible refine nxt_w (x + 1) ?_ ?_
        · (try dsimp only)
          simp only [hss]
          exact weak_do []
        try dsimp only
        omega
      · obtain rfl : x = bs.length := by omega
        have hs0 : sumTo bs y bs.length = subTo bs cs y 0 := by simp [sumTo, subTo, sumB]
        rw [hs0]
        clear hbd hs0 hlx
        repeat' (first
          | (with_reducible apply Req_intro); focus (first | omega | assumption | (simp; done))
          | with_reducible (first | apply Req_intro | refine nilT ?_ fun hn => ?_ | apply wk_draw Tryd_mixed | refine drawEnd (by kernel_rfl) ?_)
          | (with_reducible (first | apply condA_if | apply stepDG_ifN | apply stepDG_if | apply stepG_ifN | apply stepG_if)) <;> intro hb <;> (have hif := hb) <;> (try simp only [bo] at hif) <;> (try simp -implicitDefEqProofs (disch := omega) only [go_sem, hb]) <;> clear hb
          | simp (maxSteps := 1000000) -implicitDefEqProofs (disch := omega) only [go_sem])
        all_goals first | exact absurd trivial ‹¬True› | (exfalso; omega) | skip
        refine loop_rows (α := Nat) [18, 128, 129, 130, 131, 132, 133, 134, 135, 136, 137, 138, 139, 140, 141, 142, 143, 144, 145, 146, 147, 148, 149, 150, 151, 152, 153, 154, 155, 156, 157, 158, 159, 160, 161] (fun i => [(18, .lit (.int .i64 i))]) (fun i => [(0, some ⟨2, [loadC bs cs], 25, .wr⟩), (384, some ⟨2, [loadC bs cs], 25, .wr⟩), (1408, some ⟨2, [[int p, int q]], 60, .wr⟩), (3840, some ⟨2, [encS (subTo bs cs y i)], 60, .wr⟩)]) (fun i => i ≤ cs.length) (fun i => cs.length - i) 0 (fun x => by simp (maxSteps := 1000000) -implicitDefEqProofs (disch := omega) only [go_sem]; rfl) ?_ ?_ fun x hx => ?_
        · exact weak_do []
        · exact Nat.zero_le _
        have hbd := subTo_bnd hg hlt x (by omega)
        by_cases hlx : x < cs.length
        · have hbx := hg.bill hlt hlx
          have hss := subTo_succ bs cs y x hlx
          repeat' (first
            | (with_reducible apply Req_intro); focus (first | omega | assumption | (simp; done))
            | with_reducible (first | apply Req_intro | refine nilT ?_ fun hn => ?_ | apply wk_draw Tryd_mixed | refine drawEnd (by kernel_rfl) ?_)
            | (with_reducible (first | apply condA_if | apply stepDG_ifN | apply stepDG_if | apply stepG_ifN | apply stepG_if)) <;> intro hb <;> (have hif := hb) <;> (try simp only [bo] at hif) <;> (try simp -implicitDefEqProofs (disch := omega) only [go_sem, hb]) <;> clear hb
            | simp (maxSteps := 1000000) -implicitDefEqProofs (disch := omega) only [go_sem])
          all_goals first | exact absurd trivial ‹¬True› | (exfalso; omega) | skip
          refine calld (span_spec _ _) ?_
          try simp (maxSteps := 1000000) -implicitDefEqProofs (disch := omega) only [go_sem]
          repeat' (first
            | (with_reducible apply Req_intro); focus (first | omega | assumption | (simp; done))
            | with_reducible (first | apply Req_intro | refine nilT ?_ fun hn => ?_ | apply wk_draw Tryd_mixed | refine drawEnd (by kernel_rfl) ?_)
            | (with_reducible (first | apply condA_if | apply stepDG_ifN | apply stepDG_if | apply stepG_ifN | apply stepG_if)) <;> intro hb <;> (have hif := hb) <;> (try simp only [bo] at hif) <;> (try simp -implicitDefEqProofs (disch := omega) only [go_sem, hb]) <;> clear hb
            | simp (maxSteps := 1000000) -implicitDefEqProofs (disch := omega) only [go_sem])
          with_reducible refine nxt_w (x + 1) ?_ ?_
          · (try dsimp only)
            simp only [hss]
            exact weak_do []
          try dsimp only
          omega
        · obtain rfl : x = cs.length := by omega
          rw [← hgx]
          repeat' (first
            | (with_reducible apply Req_intro); focus (first | omega | assumption | (simp; done))
            | with_reducible (first | apply Req_intro | refine nilT ?_ fun hn => ?_ | apply wk_draw Tryd_mixed | refine drawEnd (by kernel_rfl) ?_)
            | (with_reducible (first | apply condA_if | apply stepDG_ifN | apply stepDG_if | apply stepG_ifN | apply stepG_if)) <;> intro hb <;> (have hif := hb) <;> (try simp only [bo] at hif) <;> (try simp -implicitDefEqProofs (disch := omega) only [go_sem, hb]) <;> clear hb
            | simp (maxSteps := 1000000) -implicitDefEqProofs (disch := omega) only [go_sem])
          all_goals first | exact absurd trivial ‹¬True› | (exfalso; omega) | skip
          refine nxt_w (y + 1) (weak_do []) ?_
          try dsimp only
          omega
    · obtain rfl : x = stuffs cs := by omega
      clear hlt
      rcases hcase with ⟨rfl, rfl, rfl, rfl⟩ | ⟨rfl, rfl, hn, hno, hyes⟩
      · repeat' (first
          | (with_reducible apply Req_intro); focus (first | omega | assumption | (simp; done))
          | with_reducible (first | apply Req_intro | refine nilT ?_ fun hn => ?_ | apply wk_draw Tryd_mixed | refine drawEnd (by kernel_rfl) ?_)
          | (with_reducible (first | apply condA_if | apply stepDG_ifN | apply stepDG_if | apply stepG_ifN | apply stepG_if)) <;> intro hb <;> (have hif := hb) <;> (try simp only [bo] at hif) <;> (try simp -implicitDefEqProofs (disch := omega) only [go_sem, hb]) <;> clear hb
          | simp (maxSteps := 1000000) -implicitDefEqProofs (disch := omega) only [go_sem])
        all_goals first | exact absurd trivial ‹¬True› | (exfalso; omega) | skip
        refine callp known_spec ?_
        try simp (maxSteps := 1000000) -implicitDefEqProofs (disch := omega) only [go_sem]
        repeat' (first
          | (with_reducible apply Req_intro); focus (first | omega | assumption | (simp; done))
          | with_reducible (first | apply Req_intro | refine nilT ?_ fun hn => ?_ | apply wk_draw Tryd_mixed | refine drawEnd (by kernel_rfl) ?_)
          | (with_reducible (first | apply condA_if | apply stepDG_ifN | apply stepDG_if | apply stepG_ifN | apply stepG_if)) <;> intro hb <;> (have hif := hb) <;> (try simp only [bo] at hif) <;> (try simp -implicitDefEqProofs (disch := omega) only [go_sem, hb]) <;> clear hb
          | simp (maxSteps := 1000000) -implicitDefEqProofs (disch := omega) only [go_sem])
        refine ret_do ?_
        rfl
      · cases hA : inR' 0 ((cs.length : Int) - 1) a with
        | false =>
          obtain ⟨rfl, rfl, rfl⟩ := hno (.inl hA)
          repeat' (first
            | (with_reducible apply Req_intro); focus (first | omega | assumption | (simp; done))
            | with_reducible (first | apply Req_intro | refine nilT ?_ fun hn => ?_ | apply wk_draw Tryd_mixed | refine drawEnd (by kernel_rfl) ?_)
            | (with_reducible (first | apply condA_if | apply stepDG_ifN | apply stepDG_if | apply stepG_ifN | apply stepG_if)) <;> intro hb <;> (have hif := hb) <;> (try simp only [bo] at hif) <;> (try simp -implicitDefEqProofs (disch := omega) only [go_sem, hb]) <;> clear hb
            | simp (maxSteps := 1000000) -implicitDefEqProofs (disch := omega) only [go_sem])
          all_goals first | exact absurd trivial ‹¬True› | (exfalso; omega) | skip
          refine callp (In_is hA) ?_
          try simp (maxSteps := 1000000) -implicitDefEqProofs (disch := omega) only [go_sem]
          repeat' (first
            | (with_reducible apply Req_intro); focus (first | omega | assumption | (simp; done))
            | with_reducible (first | apply Req_intro | refine nilT ?_ fun hn => ?_ | apply wk_draw Tryd_mixed | refine drawEnd (by kernel_rfl) ?_)
            | (with_reducible (first | apply condA_if | apply stepDG_ifN | apply stepDG_if | apply stepG_ifN | apply stepG_if)) <;> intro hb <;> (have hif := hb) <;> (try simp only [bo] at hif) <;> (try simp -implicitDefEqProofs (disch := omega) only [go_sem, hb]) <;> clear hb
            | simp (maxSteps := 1000000) -implicitDefEqProofs (disch := omega) only [go_sem])
          all_goals first | exact absurd trivial ‹¬True› | (exfalso; omega) | skip
          refine callp known_spec ?_
          try simp (maxSteps := 1000000) -implicitDefEqProofs (disch := omega) only [go_sem]
          repeat' (first
            | (with_reducible apply Req_intro); focus (first | omega | assumption | (simp; done))
            | with_reducible (first | apply Req_intro | refine nilT ?_ fun hn => ?_ | apply wk_draw Tryd_mixed | refine drawEnd (by kernel_rfl) ?_)
            | (with_reducible (first | apply condA_if | apply stepDG_ifN | apply stepDG_if | apply stepG_ifN | apply stepG_if)) <;> intro hb <;> (have hif := hb) <;> (try simp only [bo] at hif) <;> (try simp -implicitDefEqProofs (disch := omega) only [go_sem, hb]) <;> clear hb
            | simp (maxSteps := 1000000) -implicitDefEqProofs (disch := omega) only [go_sem])
          refine ret_do ?_
          rfl
        | true =>
          cases hB : inR' 0 ((stuffs cs : Int) - 1) b with
          | false =>
            obtain ⟨rfl, rfl, rfl⟩ := hno (.inr hB)
            rw [← hsl] at hB
            repeat' (first
              | (with_reducible apply Req_intro); focus (first | omega | assumption | (simp; done))
              | with_reducible (first | apply Req_intro | refine nilT ?_ fun hn => ?_ | apply wk_draw Tryd_mixed | refine drawEnd (by kernel_rfl) ?_)
              | (with_reducible (first | apply condA_if | apply stepDG_ifN | apply stepDG_if | apply stepG_ifN | apply stepG_if)) <;> intro hb <;> (have hif := hb) <;> (try simp only [bo] at hif) <;> (try simp -implicitDefEqProofs (disch := omega) only [go_sem, hb]) <;> clear hb
              | simp (maxSteps := 1000000) -implicitDefEqProofs (disch := omega) only [go_sem])
            all_goals first | exact absurd trivial ‹¬True› | (exfalso; omega) | skip
            refine callp (In_is hA) ?_
            try simp (maxSteps := 1000000) -implicitDefEqProofs (disch := omega) only [go_sem]
            repeat' (first
              | (with_reducible apply Req_intro); focus (first | omega | assumption | (simp; done))
              | with_reducible (first | apply Req_intro | refine nilT ?_ fun hn => ?_ | apply wk_draw Tryd_mixed | refine drawEnd (by kernel_rfl) ?_)
              | (with_reducible (first | apply condA_if | apply stepDG_ifN | apply stepDG_if | apply stepG_ifN | apply stepG_if)) <;> intro hb <;> (have hif := hb) <;> (try simp only [bo] at hif) <;> (try simp -implicitDefEqProofs (disch := omega) only [go_sem, hb]) <;> clear hb
              | simp (maxSteps := 1000000) -implicitDefEqProofs (disch := omega) only [go_sem])
            refine callp (In_is hB) ?_
            try simp (maxSteps := 1000000) -implicitDefEqProofs (disch := omega) only [go_sem]
            repeat' (first
              | (with_reducible apply Req_intro); focus (first | omega | assumption | (simp; done))
              | with_reducible (first | apply Req_intro | refine nilT ?_ fun hn => ?_ | apply wk_draw Tryd_mixed | refine drawEnd (by kernel_rfl) ?_)
              | (with_reducible (first | apply condA_if | apply stepDG_ifN | apply stepDG_if | apply stepG_ifN | apply stepG_if)) <;> intro hb <;> (have hif := hb) <;> (try simp only [bo] at hif) <;> (try simp -implicitDefEqProofs (disch := omega) only [go_sem, hb]) <;> clear hb
              | simp (maxSteps := 1000000) -implicitDefEqProofs (disch := omega) only [go_sem])
            all_goals first | exact absurd trivial ‹¬True› | (exfalso; omega) | skip
            refine callp known_spec ?_
            try simp (maxSteps := 1000000) -implicitDefEqProofs (disch := omega) only [go_sem]
            repeat' (first
              | (with_reducible apply Req_intro); focus (first | omega | assumption | (simp; done))
              | with_reducible (first | apply Req_intro | refine nilT ?_ fun hn => ?_ | apply wk_draw Tryd_mixed | refine drawEnd (by kernel_rfl) ?_)
              | (with_reducible (first | apply condA_if | apply stepDG_ifN | apply stepDG_if | apply stepG_ifN | apply stepG_if)) <;> intro hb <;> (have hif := hb) <;> (try simp only [bo] at hif) <;> (try simp -implicitDefEqProofs (disch := omega) only [go_sem, hb]) <;> clear hb
              | simp (maxSteps := 1000000) -implicitDefEqProofs (disch := omega) only [go_sem])
            refine ret_do ?_
            rfl
          | true =>
            obtain ⟨hpq, rfl⟩ := hyes hA hB
            have ha : 0 ≤ a ∧ a ≤ (cs.length : Int) - 1 := by simpa [inR'] using hA
            have hb : 0 ≤ b ∧ b ≤ (stuffs cs : Int) - 1 := by simpa [inR'] using hB
            obtain ⟨c, rfl⟩ : ∃ c : Nat, a = c := ⟨a.toNat, by omega⟩
            obtain ⟨k, rfl⟩ : ∃ k : Nat, b = k := ⟨b.toNat, by omega⟩
            simp only [Int.toNat_natCast] at hpq
            have hpos := pos_of_ne hn
            have hok := (allW_ok bs cs).mono hg.nc
            have hfew := hg.valid.few
            have hbl := hg.bill (k := k) (j := c) (by omega) (by omega)
            rw [← dueTo_share hg (by omega) (by omega) _ _ hpos] at hpq
            rw [← hsl] at hB
            repeat' (first
              | (with_reducible apply Req_intro); focus (first | omega | assumption | (simp; done))
              | with_reducible (first | apply Req_intro | refine nilT ?_ fun hn => ?_ | apply wk_draw Tryd_mixed | refine drawEnd (by kernel_rfl) ?_)
              | (with_reducible (first | apply condA_if | apply stepDG_ifN | apply stepDG_if | apply stepG_ifN | apply stepG_if)) <;> intro hb <;> (have hif := hb) <;> (try simp only [bo] at hif) <;> (try simp -implicitDefEqProofs (disch := omega) only [go_sem, hb]) <;> clear hb
              | simp (maxSteps := 1000000) -implicitDefEqProofs (disch := omega) only [go_sem])
            all_goals first | exact absurd trivial ‹¬True› | (exfalso; omega) | skip
            refine callp (In_is hA) ?_
            try simp (maxSteps := 1000000) -implicitDefEqProofs (disch := omega) only [go_sem]
            repeat' (first
              | (with_reducible apply Req_intro); focus (first | omega | assumption | (simp; done))
              | with_reducible (first | apply Req_intro | refine nilT ?_ fun hn => ?_ | apply wk_draw Tryd_mixed | refine drawEnd (by kernel_rfl) ?_)
              | (with_reducible (first | apply condA_if | apply stepDG_ifN | apply stepDG_if | apply stepG_ifN | apply stepG_if)) <;> intro hb <;> (have hif := hb) <;> (try simp only [bo] at hif) <;> (try simp -implicitDefEqProofs (disch := omega) only [go_sem, hb]) <;> clear hb
              | simp (maxSteps := 1000000) -implicitDefEqProofs (disch := omega) only [go_sem])
            refine callp (In_is hB) ?_
            try simp (maxSteps := 1000000) -implicitDefEqProofs (disch := omega) only [go_sem]
            repeat' (first
              | (with_reducible apply Req_intro); focus (first | omega | assumption | (simp; done))
              | with_reducible (first | apply Req_intro | refine nilT ?_ fun hn => ?_ | apply wk_draw Tryd_mixed | refine drawEnd (by kernel_rfl) ?_)
              | (with_reducible (first | apply condA_if | apply stepDG_ifN | apply stepDG_if | apply stepG_ifN | apply stepG_if)) <;> intro hb <;> (have hif := hb) <;> (try simp only [bo] at hif) <;> (try simp -implicitDefEqProofs (disch := omega) only [go_sem, hb]) <;> clear hb
              | simp (maxSteps := 1000000) -implicitDefEqProofs (disch := omega) only [go_sem])
            all_goals first | exact absurd trivial ‹¬True› | (exfalso; omega) | skip
            refine calld (span_spec 1099511627776 (-1)) ?_
            try simp (maxSteps := 1000000) -implicitDefEqProofs (disch := omega) only [go_sem]
            repeat' (first
              | (with_reducible apply Req_intro); focus (first | omega | assumption | (simp; done))
              | with_reducible (first | apply Req_intro | refine nilT ?_ fun hn => ?_ | apply wk_draw Tryd_mixed | refine drawEnd (by kernel_rfl) ?_)
              | (with_reducible (first | apply condA_if | apply stepDG_ifN | apply stepDG_if | apply stepG_ifN | apply stepG_if)) <;> intro hb <;> (have hif := hb) <;> (try simp only [bo] at hif) <;> (try simp -implicitDefEqProofs (disch := omega) only [go_sem, hb]) <;> clear hb
              | simp (maxSteps := 1000000) -implicitDefEqProofs (disch := omega) only [go_sem])
            all_goals first | exact absurd trivial ‹¬True› | (exfalso; omega) | skip
            refine loop_rows (α := Nat) [21, 22, 210, 211, 212, 213, 214, 215, 216, 217, 218, 219, 220, 221, 222, 223, 224, 225, 226, 227, 228, 229, 230, 231, 232, 233, 234, 235, 236, 237, 238, 239, 240] (fun i => [(21, .lit (.int .i64 i))]) (fun i => [(0, some ⟨2, [loadC bs cs], 25, .wr⟩), (384, some ⟨2, [loadC bs cs], 25, .wr⟩), (1408, some ⟨2, [[int p, int q]], 60, .wr⟩), (5760, some ⟨2, [encS (dueTo bs cs c k (allW bs cs) i)], 60, .wr⟩), (5824, some ⟨2, [encS ((cs.getD c default).2.getD k default)], 60, .wr⟩)]) (fun i => i ≤ (allW bs cs).length) (fun i => (allW bs cs).length - i) 0 (fun x => by simp (maxSteps := 1000000) -implicitDefEqProofs (disch := omega) only [go_sem]; rfl) ?_ ?_ fun x hx => ?_
            · simp only [dueTo]
              exact weak_do []
            · exact Nat.zero_le _
            by_cases hlt : x < (allW bs cs).length
            · have hw := (hok _ (getD_mem hlt)).1
              have hsum := Sum_spec bs cs ((allW bs cs).getD x default) false c k 0 (by omega) h8 (by omega) (fun v hv => by have := hg.lb v hv; omega) (fun v hv y hy => (hg.valid.vb v hv y hy).mono (by decide)) (by omega)
              rw [hw] at hsum
              repeat' (first
                | (with_reducible apply Req_intro); focus (first | omega | assumption | (simp; done))
                | with_reducible (first | apply Req_intro | refine nilT ?_ fun hn => ?_ | apply wk_draw Tryd_mixed | refine drawEnd (by kernel_rfl) ?_)
                | (with_reducible (first | apply condA_if | apply stepDG_ifN | apply stepDG_if | apply stepG_ifN | apply stepG_if)) <;> intro hb <;> (have hif := hb) <;> (try simp only [bo] at hif) <;> (try simp -implicitDefEqProofs (disch := omega) only [go_sem, hb]) <;> clear hb
                | simp (maxSteps := 1000000) -implicitDefEqProofs (disch := omega) only [go_sem])
              all_goals first | exact absurd trivial ‹¬True› | (exfalso; omega) | skip
              refine calld hsum ?_
              try simp (maxSteps := 1000000) -implicitDefEqProofs (disch := omega) only [go_sem]
              repeat' (first
                | (with_reducible apply Req_intro); focus (first | omega | assumption | (simp; done))
                | with_reducible (first | apply Req_intro | refine nilT ?_ fun hn => ?_ | apply wk_draw Tryd_mixed | refine drawEnd (by kernel_rfl) ?_)
                | (with_reducible (first | apply condA_if | apply stepDG_ifN | apply stepDG_if | apply stepG_ifN | apply stepG_if)) <;> intro hb <;> (have hif := hb) <;> (try simp only [bo] at hif) <;> (try simp -implicitDefEqProofs (disch := omega) only [go_sem, hb]) <;> clear hb
                | simp (maxSteps := 1000000) -implicitDefEqProofs (disch := omega) only [go_sem])
              all_goals first | exact absurd trivial ‹¬True› | (exfalso; omega) | skip
              refine callp (span_spec _ _) ?_
              try simp (maxSteps := 1000000) -implicitDefEqProofs (disch := omega) only [go_sem]
              repeat' (first
                | (with_reducible apply Req_intro); focus (first | omega | assumption | (simp; done))
                | with_reducible (first | apply Req_intro | refine nilT ?_ fun hn => ?_ | apply wk_draw Tryd_mixed | refine drawEnd (by kernel_rfl) ?_)
                | (with_reducible (first | apply condA_if | apply stepDG_ifN | apply stepDG_if | apply stepG_ifN | apply stepG_if)) <;> intro hb <;> (have hif := hb) <;> (try simp only [bo] at hif) <;> (try simp -implicitDefEqProofs (disch := omega) only [go_sem, hb]) <;> clear hb
                | simp (maxSteps := 1000000) -implicitDefEqProofs (disch := omega) only [go_sem])
              with_reducible refine nxt_w (x + 1) ?_ ?_
              · (try dsimp only)
                simp only [dueTo]
                exact weak_do []
              try dsimp only
              omega
            · obtain rfl : x = (allW bs cs).length := by omega
              rw [← hpq]
              repeat' (first
                | (with_reducible apply Req_intro); focus (first | omega | assumption | (simp; done))
                | with_reducible (first | apply Req_intro | refine nilT ?_ fun hn => ?_ | apply wk_draw Tryd_mixed | refine drawEnd (by kernel_rfl) ?_)
                | (with_reducible (first | apply condA_if | apply stepDG_ifN | apply stepDG_if | apply stepG_ifN | apply stepG_if)) <;> intro hb <;> (have hif := hb) <;> (try simp only [bo] at hif) <;> (try simp -implicitDefEqProofs (disch := omega) only [go_sem, hb]) <;> clear hb
                | simp (maxSteps := 1000000) -implicitDefEqProofs (disch := omega) only [go_sem])
              all_goals first | exact absurd trivial ‹¬True› | (exfalso; omega) | skip
              refine callp known_spec ?_
              try simp (maxSteps := 1000000) -implicitDefEqProofs (disch := omega) only [go_sem]
              repeat' (first
                | (with_reducible apply Req_intro); focus (first | omega | assumption | (simp; done))
                | with_reducible (first | apply Req_intro | refine nilT ?_ fun hn => ?_ | apply wk_draw Tryd_mixed | refine drawEnd (by kernel_rfl) ?_)
                | (with_reducible (first | apply condA_if | apply stepDG_ifN | apply stepDG_if | apply stepG_ifN | apply stepG_if)) <;> intro hb <;> (have hif := hb) <;> (try simp only [bo] at hif) <;> (try simp -implicitDefEqProofs (disch := omega) only [go_sem, hb]) <;> clear hb
                | simp (maxSteps := 1000000) -implicitDefEqProofs (disch := omega) only [go_sem])
              refine ret_do ?_
              rfl
  · refine callp (Short_no bs cs hz.fits h0) ?_
    try simp (maxSteps := 1000000) -implicitDefEqProofs (disch := omega) only [go_sem]
    repeat' (first
      | (with_reducible apply Req_intro); focus (first | omega | assumption | (simp; done))
      | with_reducible (first | apply Req_intro | refine nilT ?_ fun hn => ?_ | apply wk_draw Tryd_mixed | refine drawEnd (by kernel_rfl) ?_)
      | (with_reducible (first | apply condA_if | apply stepDG_ifN | apply stepDG_if | apply stepG_ifN | apply stepG_if)) <;> intro hb <;> (have hif := hb) <;> (try simp only [bo] at hif) <;> (try simp -implicitDefEqProofs (disch := omega) only [go_sem, hb]) <;> clear hb
      | simp (maxSteps := 1000000) -implicitDefEqProofs (disch := omega) only [go_sem])
    refine callp (Share_no bs cs a b hz.fits _ (.err h0)) ?_
    try simp (maxSteps := 1000000) -implicitDefEqProofs (disch := omega) only [go_sem]
    repeat' (first
      | (with_reducible apply Req_intro); focus (first | omega | assumption | (simp; done))
      | with_reducible (first | apply Req_intro | refine nilT ?_ fun hn => ?_ | apply wk_draw Tryd_mixed | refine drawEnd (by kernel_rfl) ?_)
      | (with_reducible (first | apply condA_if | apply stepDG_ifN | apply stepDG_if | apply stepG_ifN | apply stepG_if)) <;> intro hb <;> (have hif := hb) <;> (try simp only [bo] at hif) <;> (try simp -implicitDefEqProofs (disch := omega) only [go_sem, hb]) <;> clear hb
      | simp (maxSteps := 1000000) -implicitDefEqProofs (disch := omega) only [go_sem])
    refine callp (Same_true bs cs hz) ?_
    try simp (maxSteps := 1000000) -implicitDefEqProofs (disch := omega) only [go_sem]
    repeat' (first
      | (with_reducible apply Req_intro); focus (first | omega | assumption | (simp; done))
      | with_reducible (first | apply Req_intro | refine nilT ?_ fun hn => ?_ | apply wk_draw Tryd_mixed | refine drawEnd (by kernel_rfl) ?_)
      | (with_reducible (first | apply condA_if | apply stepDG_ifN | apply stepDG_if | apply stepG_ifN | apply stepG_if)) <;> intro hb <;> (have hif := hb) <;> (try simp only [bo] at hif) <;> (try simp -implicitDefEqProofs (disch := omega) only [go_sem, hb]) <;> clear hb
      | simp (maxSteps := 1000000) -implicitDefEqProofs (disch := omega) only [go_sem])
    refine callp (lopen_err bs cs hz h0) ?_
    try simp (maxSteps := 1000000) -implicitDefEqProofs (disch := omega) only [go_sem]
    repeat' (first
      | (with_reducible apply Req_intro); focus (first | omega | assumption | (simp; done))
      | with_reducible (first | apply Req_intro | refine nilT ?_ fun hn => ?_ | apply wk_draw Tryd_mixed | refine drawEnd (by kernel_rfl) ?_)
      | (with_reducible (first | apply condA_if | apply stepDG_ifN | apply stepDG_if | apply stepG_ifN | apply stepG_if)) <;> intro hb <;> (have hif := hb) <;> (try simp only [bo] at hif) <;> (try simp -implicitDefEqProofs (disch := omega) only [go_sem, hb]) <;> clear hb
      | simp (maxSteps := 1000000) -implicitDefEqProofs (disch := omega) only [go_sem])
    refine callp hrk ?_
    try simp (maxSteps := 1000000) -implicitDefEqProofs (disch := omega) only [go_sem]
    repeat' (first
      | (with_reducible apply Req_intro); focus (first | omega | assumption | (simp; done))
      | with_reducible (first | apply Req_intro | refine nilT ?_ fun hn => ?_ | apply wk_draw Tryd_mixed | refine drawEnd (by kernel_rfl) ?_)
      | (with_reducible (first | apply condA_if | apply stepDG_ifN | apply stepDG_if | apply stepG_ifN | apply stepG_if)) <;> intro hb <;> (have hif := hb) <;> (try simp only [bo] at hif) <;> (try simp -implicitDefEqProofs (disch := omega) only [go_sem, hb]) <;> clear hb
      | simp (maxSteps := 1000000) -implicitDefEqProofs (disch := omega) only [go_sem])
    all_goals first | exact absurd trivial ‹¬True› | exact absurd ‹checkR bs cs = 0› h0 | (exfalso; omega) | skip
    refine callp known_spec ?_
    try simp (maxSteps := 1000000) -implicitDefEqProofs (disch := omega) only [go_sem]
    repeat' (first
      | (with_reducible apply Req_intro); focus (first | omega | assumption | (simp; done))
      | with_reducible (first | apply Req_intro | refine nilT ?_ fun hn => ?_ | apply wk_draw Tryd_mixed | refine drawEnd (by kernel_rfl) ?_)
      | (with_reducible (first | apply condA_if | apply stepDG_ifN | apply stepDG_if | apply stepG_ifN | apply stepG_if)) <;> intro hb <;> (have hif := hb) <;> (try simp only [bo] at hif) <;> (try simp -implicitDefEqProofs (disch := omega) only [go_sem, hb]) <;> clear hb
      | simp (maxSteps := 1000000) -implicitDefEqProofs (disch := omega) only [go_sem])
    refine ret_do ?_
    rfl
end Go.Aw
end
section
set_option linter.unusedVariables false
set_option linter.unusedSimpArgs false
set_option maxRecDepth 100000
/-! The card of MixShorts. -/
namespace Go.Proofs.YtofoildhohgngaaDoor
open Go Go.Aw Go.RowKit Go.ChangeShapes Go.WideShapes

theorem mixShorts_wit (os : Os) (H : Type) (enc : TypeId × Value → H) : ∃ (w : World) (tape : Tape) (i : Input), w.os = os ∧ (w.forCall tape i).Shaped Tryd.checked.prog ∧ i.vars = [] ∧ Input.okWide Tryd.checked.prog (w.forCall tape i) .any w.heap.size 8 i ∧
      ((Rows.mixShortsSpec.pre enc Tryd.checked.prog Tryd.f8 [] false (w.forCall tape i).memory i.args ∧ laidMetH Tryd.prog Rows.mixWaysRow.laid (w.forCall tape i).memory) ∧ sizedMet enc Tryd.checked.prog Tryd.f8 (OpenSpec.ofChange Rows.mixShortsSpec) false (w.forCall tape i).memory i.args) ∧ ({} : Assume).holds Tryd.checked.prog (lone (Frame.enter Tryd.checked.prog 8 i.args .normal) [] (w.forCall tape i)) :=
  ChangeSpec.witness_at (enc := enc) (C := Tryd.checked) (os := os) (X := fun w _ => laidMetH Tryd.prog Rows.mixWaysRow.laid w) false (laidWorld os) #[.agg #[.slice none 0 0, .slice none 0 0], .int .i64 0, .int .i64 0] 8 rfl (by kernel_rfl) (by kernel_rfl) (by kernel_rfl) (by kernel_rfl) (by kernel_rfl) (laidWorld_met os _)

theorem mixShorts_said : Rows.MixShortsSaid :=
  OpenClaim.holds_of_wide 8 Tryd.f8 rfl rfl rfl rfl rfl rfl rfl ⟨rfl, rfl, rfl, rfl, rfl⟩ rfl rfl rfl rfl rfl (by kernel_rfl) Tryd.func8 (by kernel_rfl)
    (of_decide_eq_true (by kernel_rfl)) (by unfold Func.isWrapper; first | (rw [if_pos (by decide +kernel)]; kernel_rfl) | (rw [if_neg (by decide +kernel)]; exact ⟨rfl, rfl⟩))
    (fun os started H enc _ => lifted_of Tryd.func8 rfl (by kernel_rfl) (fun H ds hd => by
        match ds, hd with
        | [_, _, _], _ => rfl) (by kernel_rfl) (fun t ht => by
          have : Tryd.f8.params.toList.all (fun t => decide (t < Tryd.prog.types.size)) = true := by kernel_rfl
          simpa using List.all_eq_true.1 this t ht)
      (fun {H enc} w base args ds p hv hA hw => by
        rw [Tryd.params8] at hA hv hw
        obtain ⟨v0, vs0, d0, ds0, p0, q0, e0, rfl, _, g0, r0⟩ := trodAll_cons hA
        obtain ⟨v1, vs1, d1, ds1, p1, q1, rfl, rfl, _, g1, r1⟩ := trodAll_cons r0
        obtain ⟨v2, vs2, d2, ds2, p2, q2, rfl, rfl, _, g2, r2⟩ := trodAll_cons r1
        obtain ⟨rfl, rfl, _⟩ := trodAll_nil r2
        obtain rfl : args = #[v0, v1, v2] := by cases args; simp_all
        obtain ⟨a1, rfl, rfl, _, _⟩ := open_int Tryd.underlying3 (hv 1 3 v1 rfl rfl) g1
        obtain ⟨a2, rfl, rfl, _, _⟩ := open_int Tryd.underlying3 (hv 2 3 v2 rfl rfl) g2
        obtain ⟨bs, cs, h1, h2, h3, _, _⟩ := load_read (hv 0 25 v0 rfl rfl) g0 (fun m hm => hw m (List.mem_append_left _ hm))
        refine ⟨[encLoad bs cs, Aw.int a1, Aw.int a2], rfl, fun i d u hd hu => ?_, (MixShorts_spec bs cs a1 a2 h2 h3).1⟩
        match i with
        | 0 => cases hd; cases hu; exact h1
        | 1 => cases hd; cases hu; exact .lit _ rfl
        | 2 => cases hd; cases hu; exact .lit _ rfl
        | i + 3 => cases hd) os started H enc (mixShorts_wit os H enc))

theorem mixShorts_card : Rows.MixShortsCardSaid :=
  Claim7.holds_tied_plain_at .later [] [.data, .data] true (true, "db9d006d5bba7fee0cf344bfce06a63cdaeea97b4747f81a03d02ff427ee667c") false
    mixShorts_said (fun _ h => by cases h) (by kernel_rfl) (fun _ h => by cases h) mixShorts_row_tie rfl ⟨rfl, rfl⟩ (by kernel_rfl) rfl
    (fun f fn hf hfn => by
      obtain rfl : f = 8 := Option.some.inj ((show Tryd.prog.funcNamed "panache/panachelaw08.MixShorts" = some 8 by kernel_rfl).symm.trans hf) |>.symm
      obtain rfl : fn = Tryd.f8 := (Option.some.inj (Tryd.func8.symm.trans hfn)).symm
      exact ⟨by kernel_rfl, fun j t ht => by
        have h3 : Tryd.f8.params.toList.all (fun t => !Tryd.prog.wantsStandIn t) = true := by kernel_rfl
        have h4 : (!Tryd.prog.wantsStandIn t) = true := List.all_eq_true.1 h3 t (by rw [← Array.getElem?_toList] at ht; exact List.mem_of_getElem? ht)
        have h5 : Tryd.prog.wantsStandIn t = false := by rwa [Bool.not_eq_true'] at h4
        exact h5⟩)
    (by kernel_rfl)
#print axioms mixShorts_card
end Go.Proofs.YtofoildhohgngaaDoor
end
