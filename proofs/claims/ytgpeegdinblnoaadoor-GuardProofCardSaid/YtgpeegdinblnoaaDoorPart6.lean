/-
  A part of the proof that a law returns true for every input that the given row speaks of: an own verified walk over the program (namespace Go.Aw), contracts of the functions that the law calls, and the law itself. Conditions: those of the given row, no other.
-/
import Derived.Test.YtgpeegdinblnoaaDoorPart5
import Derived.ReadAgain
import Derived.ChangeSame
import Derived.Test.YtgpeegdinblnoaaDoorTie
import Derived.Test.YtgpeegdinblnoaaDoorCards
import Derived.SevenTiedAt
import Derived.JoinedOf
import Derived.RowKit
import Derived.RowKitTokens
import Derived.LaidLaws
import Derived.Stop.Joined
import Derived.OpenShut
import Derived.ChangeVars
import Derived.ProofKit
import Derived.Lib.SmallJoins
set_option linter.unusedVariables false
set_option linter.unusedSimpArgs false
section
set_option maxRecDepth 20000
set_option maxHeartbeats 4000000
namespace Go.Aw
open Go.RowKit Go.Proofs
theorem kAll (l : List (Nat × Nat)) (e f : Bool) (hl : l.length ≤ 10) : Ct Tryd.prog 30 [.sl 2 (l.map encP) e, .sl 2 (l.map encP) f] (.lit (.bool true)) := by
 have h := rAll_spec l l e f (by omega) (by omega)
 rwa [beq_self_eq_true] at h
theorem kInts (l : List Int) (e f : Bool) (hl : l.length ≤ 10) : Ct Tryd.prog 36 [.sl 1 (l.map encI) e, .sl 1 (l.map encI) f] (.lit (.bool true)) := by
 have h := rInts_spec l l e f (by omega) (by omega)
 rwa [beq_self_eq_true] at h
theorem gknown_spec : Ct Tryd.prog 15 [] (.lit (.bool true)) := by
 refine fn_enter Tryd.func15 rfl (by decide) Tryd.results15 Tryd.ntmps15 ?_ rfl (by simp (maxSteps := 1000000) -implicitDefEqProofs (disch := omega) only [go_sem]; rfl) fun base => ?_
 · first | assumption | (simp only [go_sem] <;> assumption) | (simp only [go_sem, *]; done) | (simp [go_sem]; done)
 repeat' (first
   | (with_reducible apply Req_intro); focus (first | omega | assumption | (simp; done))
   | with_reducible (first | apply Req_intro | refine nilT ?_ fun hn => ?_ | apply wk_draw Tryd_mixed | refine drawEnd (by kernel_rfl) ?_)
   | (with_reducible (first | apply condA_if | apply stepDG_ifN | apply stepDG_if | apply stepG_ifN | apply stepG_if)) <;> intro hb <;> (have hif := hb) <;> (try simp only [bo] at hif) <;> (try simp -implicitDefEqProofs (disch := omega) only [go_sem, hb]) <;> clear hb
   | simp (maxSteps := 1000000) -implicitDefEqProofs (disch := omega) only [go_sem])
 refine callp (one_spec 100 20) ?_
 try simp (maxSteps := 1000000) -implicitDefEqProofs (disch := omega) only [go_sem]
 repeat' (first
   | (with_reducible apply Req_intro); focus (first | omega | assumption | (simp; done))
   | with_reducible (first | apply Req_intro | refine nilT ?_ fun hn => ?_ | apply wk_draw Tryd_mixed | refine drawEnd (by kernel_rfl) ?_)
   | (with_reducible (first | apply condA_if | apply stepDG_ifN | apply stepDG_if | apply stepG_ifN | apply stepG_if)) <;> intro hb <;> (have hif := hb) <;> (try simp only [bo] at hif) <;> (try simp -implicitDefEqProofs (disch := omega) only [go_sem, hb]) <;> clear hb
   | simp (maxSteps := 1000000) -implicitDefEqProofs (disch := omega) only [go_sem])
 refine callp (one_spec 104 24) ?_
 try simp (maxSteps := 1000000) -implicitDefEqProofs (disch := omega) only [go_sem]
 repeat' (first
   | (with_reducible apply Req_intro); focus (first | omega | assumption | (simp; done))
   | with_reducible (first | apply Req_intro | refine nilT ?_ fun hn => ?_ | apply wk_draw Tryd_mixed | refine drawEnd (by kernel_rfl) ?_)
   | (with_reducible (first | apply condA_if | apply stepDG_ifN | apply stepDG_if | apply stepG_ifN | apply stepG_if)) <;> intro hb <;> (have hif := hb) <;> (try simp only [bo] at hif) <;> (try simp -implicitDefEqProofs (disch := omega) only [go_sem, hb]) <;> clear hb
   | simp (maxSteps := 1000000) -implicitDefEqProofs (disch := omega) only [go_sem])
 refine callp (gauge_spec 5) ?_
 try simp (maxSteps := 1000000) -implicitDefEqProofs (disch := omega) only [go_sem]
 repeat' (first
   | (with_reducible apply Req_intro); focus (first | omega | assumption | (simp; done))
   | with_reducible (first | apply Req_intro | refine nilT ?_ fun hn => ?_ | apply wk_draw Tryd_mixed | refine drawEnd (by kernel_rfl) ?_)
   | (with_reducible (first | apply condA_if | apply stepDG_ifN | apply stepDG_if | apply stepG_ifN | apply stepG_if)) <;> intro hb <;> (have hif := hb) <;> (try simp only [bo] at hif) <;> (try simp -implicitDefEqProofs (disch := omega) only [go_sem, hb]) <;> clear hb
   | simp (maxSteps := 1000000) -implicitDefEqProofs (disch := omega) only [go_sem])
 refine callp kAlike ?_
 try simp (maxSteps := 1000000) -implicitDefEqProofs (disch := omega) only [go_sem]
 repeat' (first
   | (with_reducible apply Req_intro); focus (first | omega | assumption | (simp; done))
   | with_reducible (first | apply Req_intro | refine nilT ?_ fun hn => ?_ | apply wk_draw Tryd_mixed | refine drawEnd (by kernel_rfl) ?_)
   | (with_reducible (first | apply condA_if | apply stepDG_ifN | apply stepDG_if | apply stepG_ifN | apply stepG_if)) <;> intro hb <;> (have hif := hb) <;> (try simp only [bo] at hif) <;> (try simp -implicitDefEqProofs (disch := omega) only [go_sem, hb]) <;> clear hb
   | simp (maxSteps := 1000000) -implicitDefEqProofs (disch := omega) only [go_sem])
 refine callp stock_spec ?_
 try simp (maxSteps := 1000000) -implicitDefEqProofs (disch := omega) only [go_sem]
 repeat' (first
   | (with_reducible apply Req_intro); focus (first | omega | assumption | (simp; done))
   | with_reducible (first | apply Req_intro | refine nilT ?_ fun hn => ?_ | apply wk_draw Tryd_mixed | refine drawEnd (by kernel_rfl) ?_)
   | (with_reducible (first | apply condA_if | apply stepDG_ifN | apply stepDG_if | apply stepG_ifN | apply stepG_if)) <;> intro hb <;> (have hif := hb) <;> (try simp only [bo] at hif) <;> (try simp -implicitDefEqProofs (disch := omega) only [go_sem, hb]) <;> clear hb
   | simp (maxSteps := 1000000) -implicitDefEqProofs (disch := omega) only [go_sem])
 refine callp (gauge_spec 5) ?_
 try simp (maxSteps := 1000000) -implicitDefEqProofs (disch := omega) only [go_sem]
 repeat' (first
   | (with_reducible apply Req_intro); focus (first | omega | assumption | (simp; done))
   | with_reducible (first | apply Req_intro | refine nilT ?_ fun hn => ?_ | apply wk_draw Tryd_mixed | refine drawEnd (by kernel_rfl) ?_)
   | (with_reducible (first | apply condA_if | apply stepDG_ifN | apply stepDG_if | apply stepG_ifN | apply stepG_if)) <;> intro hb <;> (have hif := hb) <;> (try simp only [bo] at hif) <;> (try simp -implicitDefEqProofs (disch := omega) only [go_sem, hb]) <;> clear hb
   | simp (maxSteps := 1000000) -implicitDefEqProofs (disch := omega) only [go_sem])
 refine callp kPairs ?_
 try simp (maxSteps := 1000000) -implicitDefEqProofs (disch := omega) only [go_sem]
 repeat' (first
   | (with_reducible apply Req_intro); focus (first | omega | assumption | (simp; done))
   | with_reducible (first | apply Req_intro | refine nilT ?_ fun hn => ?_ | apply wk_draw Tryd_mixed | refine drawEnd (by kernel_rfl) ?_)
   | (with_reducible (first | apply condA_if | apply stepDG_ifN | apply stepDG_if | apply stepG_ifN | apply stepG_if)) <;> intro hb <;> (have hif := hb) <;> (try simp only [bo] at hif) <;> (try simp -implicitDefEqProofs (disch := omega) only [go_sem, hb]) <;> clear hb
   | simp (maxSteps := 1000000) -implicitDefEqProofs (disch := omega) only [go_sem])
 refine callp stock_spec ?_
 try simp (maxSteps := 1000000) -implicitDefEqProofs (disch := omega) only [go_sem]
 repeat' (first
   | (with_reducible apply Req_intro); focus (first | omega | assumption | (simp; done))
   | with_reducible (first | apply Req_intro | refine nilT ?_ fun hn => ?_ | apply wk_draw Tryd_mixed | refine drawEnd (by kernel_rfl) ?_)
   | (with_reducible (first | apply condA_if | apply stepDG_ifN | apply stepDG_if | apply stepG_ifN | apply stepG_if)) <;> intro hb <;> (have hif := hb) <;> (try simp only [bo] at hif) <;> (try simp -implicitDefEqProofs (disch := omega) only [go_sem, hb]) <;> clear hb
   | simp (maxSteps := 1000000) -implicitDefEqProofs (disch := omega) only [go_sem])
 refine callp (gauge_spec 5) ?_
 try simp (maxSteps := 1000000) -implicitDefEqProofs (disch := omega) only [go_sem]
 repeat' (first
   | (with_reducible apply Req_intro); focus (first | omega | assumption | (simp; done))
   | with_reducible (first | apply Req_intro | refine nilT ?_ fun hn => ?_ | apply wk_draw Tryd_mixed | refine drawEnd (by kernel_rfl) ?_)
   | (with_reducible (first | apply condA_if | apply stepDG_ifN | apply stepDG_if | apply stepG_ifN | apply stepG_if)) <;> intro hb <;> (have hif := hb) <;> (try simp only [bo] at hif) <;> (try simp -implicitDefEqProofs (disch := omega) only [go_sem, hb]) <;> clear hb
   | simp (maxSteps := 1000000) -implicitDefEqProofs (disch := omega) only [go_sem])
 refine callp kPossible ?_
 try simp (maxSteps := 1000000) -implicitDefEqProofs (disch := omega) only [go_sem]
 repeat' (first
   | (with_reducible apply Req_intro); focus (first | omega | assumption | (simp; done))
   | with_reducible (first | apply Req_intro | refine nilT ?_ fun hn => ?_ | apply wk_draw Tryd_mixed | refine drawEnd (by kernel_rfl) ?_)
   | (with_reducible (first | apply condA_if | apply stepDG_ifN | apply stepDG_if | apply stepG_ifN | apply stepG_if)) <;> intro hb <;> (have hif := hb) <;> (try simp only [bo] at hif) <;> (try simp -implicitDefEqProofs (disch := omega) only [go_sem, hb]) <;> clear hb
   | simp (maxSteps := 1000000) -implicitDefEqProofs (disch := omega) only [go_sem])
 refine callp stock_spec ?_
 try simp (maxSteps := 1000000) -implicitDefEqProofs (disch := omega) only [go_sem]
 repeat' (first
   | (with_reducible apply Req_intro); focus (first | omega | assumption | (simp; done))
   | with_reducible (first | apply Req_intro | refine nilT ?_ fun hn => ?_ | apply wk_draw Tryd_mixed | refine drawEnd (by kernel_rfl) ?_)
   | (with_reducible (first | apply condA_if | apply stepDG_ifN | apply stepDG_if | apply stepG_ifN | apply stepG_if)) <;> intro hb <;> (have hif := hb) <;> (try simp only [bo] at hif) <;> (try simp -implicitDefEqProofs (disch := omega) only [go_sem, hb]) <;> clear hb
   | simp (maxSteps := 1000000) -implicitDefEqProofs (disch := omega) only [go_sem])
 refine callp (gauge_spec 5) ?_
 try simp (maxSteps := 1000000) -implicitDefEqProofs (disch := omega) only [go_sem]
 repeat' (first
   | (with_reducible apply Req_intro); focus (first | omega | assumption | (simp; done))
   | with_reducible (first | apply Req_intro | refine nilT ?_ fun hn => ?_ | apply wk_draw Tryd_mixed | refine drawEnd (by kernel_rfl) ?_)
   | (with_reducible (first | apply condA_if | apply stepDG_ifN | apply stepDG_if | apply stepG_ifN | apply stepG_if)) <;> intro hb <;> (have hif := hb) <;> (try simp only [bo] at hif) <;> (try simp -implicitDefEqProofs (disch := omega) only [go_sem, hb]) <;> clear hb
   | simp (maxSteps := 1000000) -implicitDefEqProofs (disch := omega) only [go_sem])
 refine callp kCover ?_
 try simp (maxSteps := 1000000) -implicitDefEqProofs (disch := omega) only [go_sem]
 repeat' (first
   | (with_reducible apply Req_intro); focus (first | omega | assumption | (simp; done))
   | with_reducible (first | apply Req_intro | refine nilT ?_ fun hn => ?_ | apply wk_draw Tryd_mixed | refine drawEnd (by kernel_rfl) ?_)
   | (with_reducible (first | apply condA_if | apply stepDG_ifN | apply stepDG_if | apply stepG_ifN | apply stepG_if)) <;> intro hb <;> (have hif := hb) <;> (try simp only [bo] at hif) <;> (try simp -implicitDefEqProofs (disch := omega) only [go_sem, hb]) <;> clear hb
   | simp (maxSteps := 1000000) -implicitDefEqProofs (disch := omega) only [go_sem])
 refine callp stock_spec ?_
 try simp (maxSteps := 1000000) -implicitDefEqProofs (disch := omega) only [go_sem]
 repeat' (first
   | (with_reducible apply Req_intro); focus (first | omega | assumption | (simp; done))
   | with_reducible (first | apply Req_intro | refine nilT ?_ fun hn => ?_ | apply wk_draw Tryd_mixed | refine drawEnd (by kernel_rfl) ?_)
   | (with_reducible (first | apply condA_if | apply stepDG_ifN | apply stepDG_if | apply stepG_ifN | apply stepG_if)) <;> intro hb <;> (have hif := hb) <;> (try simp only [bo] at hif) <;> (try simp -implicitDefEqProofs (disch := omega) only [go_sem, hb]) <;> clear hb
   | simp (maxSteps := 1000000) -implicitDefEqProofs (disch := omega) only [go_sem])
 refine callp (gauge_spec 5) ?_
 try simp (maxSteps := 1000000) -implicitDefEqProofs (disch := omega) only [go_sem]
 repeat' (first
   | (with_reducible apply Req_intro); focus (first | omega | assumption | (simp; done))
   | with_reducible (first | apply Req_intro | refine nilT ?_ fun hn => ?_ | apply wk_draw Tryd_mixed | refine drawEnd (by kernel_rfl) ?_)
   | (with_reducible (first | apply condA_if | apply stepDG_ifN | apply stepDG_if | apply stepG_ifN | apply stepG_if)) <;> intro hb <;> (have hif := hb) <;> (try simp only [bo] at hif) <;> (try simp -implicitDefEqProofs (disch := omega) only [go_sem, hb]) <;> clear hb
   | simp (maxSteps := 1000000) -implicitDefEqProofs (disch := omega) only [go_sem])
 refine callp kSpare ?_
 try simp (maxSteps := 1000000) -implicitDefEqProofs (disch := omega) only [go_sem]
 repeat' (first
   | (with_reducible apply Req_intro); focus (first | omega | assumption | (simp; done))
   | with_reducible (first | apply Req_intro | refine nilT ?_ fun hn => ?_ | apply wk_draw Tryd_mixed | refine drawEnd (by kernel_rfl) ?_)
   | (with_reducible (first | apply condA_if | apply stepDG_ifN | apply stepDG_if | apply stepG_ifN | apply stepG_if)) <;> intro hb <;> (have hif := hb) <;> (try simp only [bo] at hif) <;> (try simp -implicitDefEqProofs (disch := omega) only [go_sem, hb]) <;> clear hb
   | simp (maxSteps := 1000000) -implicitDefEqProofs (disch := omega) only [go_sem])
 refine callp stock_spec ?_
 try simp (maxSteps := 1000000) -implicitDefEqProofs (disch := omega) only [go_sem]
 repeat' (first
   | (with_reducible apply Req_intro); focus (first | omega | assumption | (simp; done))
   | with_reducible (first | apply Req_intro | refine nilT ?_ fun hn => ?_ | apply wk_draw Tryd_mixed | refine drawEnd (by kernel_rfl) ?_)
   | (with_reducible (first | apply condA_if | apply stepDG_ifN | apply stepDG_if | apply stepG_ifN | apply stepG_if)) <;> intro hb <;> (have hif := hb) <;> (try simp only [bo] at hif) <;> (try simp -implicitDefEqProofs (disch := omega) only [go_sem, hb]) <;> clear hb
   | simp (maxSteps := 1000000) -implicitDefEqProofs (disch := omega) only [go_sem])
 refine callp (gauge_spec 6) ?_
 try simp (maxSteps := 1000000) -implicitDefEqProofs (disch := omega) only [go_sem]
 repeat' (first
   | (with_reducible apply Req_intro); focus (first | omega | assumption | (simp; done))
   | with_reducible (first | apply Req_intro | refine nilT ?_ fun hn => ?_ | apply wk_draw Tryd_mixed | refine drawEnd (by kernel_rfl) ?_)
   | (with_reducible (first | apply condA_if | apply stepDG_ifN | apply stepDG_if | apply stepG_ifN | apply stepG_if)) <;> intro hb <;> (have hif := hb) <;> (try simp only [bo] at hif) <;> (try simp -implicitDefEqProofs (disch := omega) only [go_sem, hb]) <;> clear hb
   | simp (maxSteps := 1000000) -implicitDefEqProofs (disch := omega) only [go_sem])
 refine callp kTwins ?_
 try simp (maxSteps := 1000000) -implicitDefEqProofs (disch := omega) only [go_sem]
 repeat' (first
   | (with_reducible apply Req_intro); focus (first | omega | assumption | (simp; done))
   | with_reducible (first | apply Req_intro | refine nilT ?_ fun hn => ?_ | apply wk_draw Tryd_mixed | refine drawEnd (by kernel_rfl) ?_)
   | (with_reducible (first | apply condA_if | apply stepDG_ifN | apply stepDG_if | apply stepG_ifN | apply stepG_if)) <;> intro hb <;> (have hif := hb) <;> (try simp only [bo] at hif) <;> (try simp -implicitDefEqProofs (disch := omega) only [go_sem, hb]) <;> clear hb
   | simp (maxSteps := 1000000) -implicitDefEqProofs (disch := omega) only [go_sem])
 refine callp stock_spec ?_
 try simp (maxSteps := 1000000) -implicitDefEqProofs (disch := omega) only [go_sem]
 repeat' (first
   | (with_reducible apply Req_intro); focus (first | omega | assumption | (simp; done))
   | with_reducible (first | apply Req_intro | refine nilT ?_ fun hn => ?_ | apply wk_draw Tryd_mixed | refine drawEnd (by kernel_rfl) ?_)
   | (with_reducible (first | apply condA_if | apply stepDG_ifN | apply stepDG_if | apply stepG_ifN | apply stepG_if)) <;> intro hb <;> (have hif := hb) <;> (try simp only [bo] at hif) <;> (try simp -implicitDefEqProofs (disch := omega) only [go_sem, hb]) <;> clear hb
   | simp (maxSteps := 1000000) -implicitDefEqProofs (disch := omega) only [go_sem])
 refine callp (gauge_spec 5) ?_
 try simp (maxSteps := 1000000) -implicitDefEqProofs (disch := omega) only [go_sem]
 repeat' (first
   | (with_reducible apply Req_intro); focus (first | omega | assumption | (simp; done))
   | with_reducible (first | apply Req_intro | refine nilT ?_ fun hn => ?_ | apply wk_draw Tryd_mixed | refine drawEnd (by kernel_rfl) ?_)
   | (with_reducible (first | apply condA_if | apply stepDG_ifN | apply stepDG_if | apply stepG_ifN | apply stepG_if)) <;> intro hb <;> (have hif := hb) <;> (try simp only [bo] at hif) <;> (try simp -implicitDefEqProofs (disch := omega) only [go_sem, hb]) <;> clear hb
   | simp (maxSteps := 1000000) -implicitDefEqProofs (disch := omega) only [go_sem])
 refine callp kCut ?_
 try simp (maxSteps := 1000000) -implicitDefEqProofs (disch := omega) only [go_sem]
 repeat' (first
   | (with_reducible apply Req_intro); focus (first | omega | assumption | (simp; done))
   | with_reducible (first | apply Req_intro | refine nilT ?_ fun hn => ?_ | apply wk_draw Tryd_mixed | refine drawEnd (by kernel_rfl) ?_)
   | (with_reducible (first | apply condA_if | apply stepDG_ifN | apply stepDG_if | apply stepG_ifN | apply stepG_if)) <;> intro hb <;> (have hif := hb) <;> (try simp only [bo] at hif) <;> (try simp -implicitDefEqProofs (disch := omega) only [go_sem, hb]) <;> clear hb
   | simp (maxSteps := 1000000) -implicitDefEqProofs (disch := omega) only [go_sem])
 refine callp stock_spec ?_
 try simp (maxSteps := 1000000) -implicitDefEqProofs (disch := omega) only [go_sem]
 repeat' (first
   | (with_reducible apply Req_intro); focus (first | omega | assumption | (simp; done))
   | with_reducible (first | apply Req_intro | refine nilT ?_ fun hn => ?_ | apply wk_draw Tryd_mixed | refine drawEnd (by kernel_rfl) ?_)
   | (with_reducible (first | apply condA_if | apply stepDG_ifN | apply stepDG_if | apply stepG_ifN | apply stepG_if)) <;> intro hb <;> (have hif := hb) <;> (try simp only [bo] at hif) <;> (try simp -implicitDefEqProofs (disch := omega) only [go_sem, hb]) <;> clear hb
   | simp (maxSteps := 1000000) -implicitDefEqProofs (disch := omega) only [go_sem])
 refine callp (gauge_spec 5) ?_
 try simp (maxSteps := 1000000) -implicitDefEqProofs (disch := omega) only [go_sem]
 repeat' (first
   | (with_reducible apply Req_intro); focus (first | omega | assumption | (simp; done))
   | with_reducible (first | apply Req_intro | refine nilT ?_ fun hn => ?_ | apply wk_draw Tryd_mixed | refine drawEnd (by kernel_rfl) ?_)
   | (with_reducible (first | apply condA_if | apply stepDG_ifN | apply stepDG_if | apply stepG_ifN | apply stepG_if)) <;> intro hb <;> (have hif := hb) <;> (try simp only [bo] at hif) <;> (try simp -implicitDefEqProofs (disch := omega) only [go_sem, hb]) <;> clear hb
   | simp (maxSteps := 1000000) -implicitDefEqProofs (disch := omega) only [go_sem])
 refine callp kLook ?_
 try simp (maxSteps := 1000000) -implicitDefEqProofs (disch := omega) only [go_sem]
 repeat' (first
   | (with_reducible apply Req_intro); focus (first | omega | assumption | (simp; done))
   | with_reducible (first | apply Req_intro | refine nilT ?_ fun hn => ?_ | apply wk_draw Tryd_mixed | refine drawEnd (by kernel_rfl) ?_)
   | (with_reducible (first | apply condA_if | apply stepDG_ifN | apply stepDG_if | apply stepG_ifN | apply stepG_if)) <;> intro hb <;> (have hif := hb) <;> (try simp only [bo] at hif) <;> (try simp -implicitDefEqProofs (disch := omega) only [go_sem, hb]) <;> clear hb
   | simp (maxSteps := 1000000) -implicitDefEqProofs (disch := omega) only [go_sem])
 refine callp stock_spec ?_
 try simp (maxSteps := 1000000) -implicitDefEqProofs (disch := omega) only [go_sem]
 repeat' (first
   | (with_reducible apply Req_intro); focus (first | omega | assumption | (simp; done))
   | with_reducible (first | apply Req_intro | refine nilT ?_ fun hn => ?_ | apply wk_draw Tryd_mixed | refine drawEnd (by kernel_rfl) ?_)
   | (with_reducible (first | apply condA_if | apply stepDG_ifN | apply stepDG_if | apply stepG_ifN | apply stepG_if)) <;> intro hb <;> (have hif := hb) <;> (try simp only [bo] at hif) <;> (try simp -implicitDefEqProofs (disch := omega) only [go_sem, hb]) <;> clear hb
   | simp (maxSteps := 1000000) -implicitDefEqProofs (disch := omega) only [go_sem])
 refine callp (gauge_spec 5) ?_
 try simp (maxSteps := 1000000) -implicitDefEqProofs (disch := omega) only [go_sem]
 repeat' (first
   | (with_reducible apply Req_intro); focus (first | omega | assumption | (simp; done))
   | with_reducible (first | apply Req_intro | refine nilT ?_ fun hn => ?_ | apply wk_draw Tryd_mixed | refine drawEnd (by kernel_rfl) ?_)
   | (with_reducible (first | apply condA_if | apply stepDG_ifN | apply stepDG_if | apply stepG_ifN | apply stepG_if)) <;> intro hb <;> (have hif := hb) <;> (try simp only [bo] at hif) <;> (try simp -implicitDefEqProofs (disch := omega) only [go_sem, hb]) <;> clear hb
   | simp (maxSteps := 1000000) -implicitDefEqProofs (disch := omega) only [go_sem])
 refine callp kBalance ?_
 try simp (maxSteps := 1000000) -implicitDefEqProofs (disch := omega) only [go_sem]
 repeat' (first
   | (with_reducible apply Req_intro); focus (first | omega | assumption | (simp; done))
   | with_reducible (first | apply Req_intro | refine nilT ?_ fun hn => ?_ | apply wk_draw Tryd_mixed | refine drawEnd (by kernel_rfl) ?_)
   | (with_reducible (first | apply condA_if | apply stepDG_ifN | apply stepDG_if | apply stepG_ifN | apply stepG_if)) <;> intro hb <;> (have hif := hb) <;> (try simp only [bo] at hif) <;> (try simp -implicitDefEqProofs (disch := omega) only [go_sem, hb]) <;> clear hb
   | simp (maxSteps := 1000000) -implicitDefEqProofs (disch := omega) only [go_sem])
 refine callp (pair_spec 0 0) ?_
 try simp (maxSteps := 1000000) -implicitDefEqProofs (disch := omega) only [go_sem]
 repeat' (first
   | (with_reducible apply Req_intro); focus (first | omega | assumption | (simp; done))
   | with_reducible (first | apply Req_intro | refine nilT ?_ fun hn => ?_ | apply wk_draw Tryd_mixed | refine drawEnd (by kernel_rfl) ?_)
   | (with_reducible (first | apply condA_if | apply stepDG_ifN | apply stepDG_if | apply stepG_ifN | apply stepG_if)) <;> intro hb <;> (have hif := hb) <;> (try simp only [bo] at hif) <;> (try simp -implicitDefEqProofs (disch := omega) only [go_sem, hb]) <;> clear hb
   | simp (maxSteps := 1000000) -implicitDefEqProofs (disch := omega) only [go_sem])
 all_goals first | (exfalso; omega) | skip
 refine callp (pair_spec 1 1) ?_
 try simp (maxSteps := 1000000) -implicitDefEqProofs (disch := omega) only [go_sem]
 repeat' (first
   | (with_reducible apply Req_intro); focus (first | omega | assumption | (simp; done))
   | with_reducible (first | apply Req_intro | refine nilT ?_ fun hn => ?_ | apply wk_draw Tryd_mixed | refine drawEnd (by kernel_rfl) ?_)
   | (with_reducible (first | apply condA_if | apply stepDG_ifN | apply stepDG_if | apply stepG_ifN | apply stepG_if)) <;> intro hb <;> (have hif := hb) <;> (try simp only [bo] at hif) <;> (try simp -implicitDefEqProofs (disch := omega) only [go_sem, hb]) <;> clear hb
   | simp (maxSteps := 1000000) -implicitDefEqProofs (disch := omega) only [go_sem])
 all_goals first | (exfalso; omega) | skip
 refine callc (kAll [(0, 0), (1, 1)] false true (by decide)) ?_
 try simp (maxSteps := 1000000) -implicitDefEqProofs (disch := omega) only [go_sem]
 repeat' (first
   | (with_reducible apply Req_intro); focus (first | omega | assumption | (simp; done))
   | with_reducible (first | apply Req_intro | refine nilT ?_ fun hn => ?_ | apply wk_draw Tryd_mixed | refine drawEnd (by kernel_rfl) ?_)
   | (with_reducible (first | apply condA_if | apply stepDG_ifN | apply stepDG_if | apply stepG_ifN | apply stepG_if)) <;> intro hb <;> (have hif := hb) <;> (try simp only [bo] at hif) <;> (try simp -implicitDefEqProofs (disch := omega) only [go_sem, hb]) <;> clear hb
   | simp (maxSteps := 1000000) -implicitDefEqProofs (disch := omega) only [go_sem])
 all_goals first | (exfalso; omega) | skip
 refine callc (kInts [0, 1] false true (by decide)) ?_
 try simp (maxSteps := 1000000) -implicitDefEqProofs (disch := omega) only [go_sem]
 repeat' (first
   | (with_reducible apply Req_intro); focus (first | omega | assumption | (simp; done))
   | with_reducible (first | apply Req_intro | refine nilT ?_ fun hn => ?_ | apply wk_draw Tryd_mixed | refine drawEnd (by kernel_rfl) ?_)
   | (with_reducible (first | apply condA_if | apply stepDG_ifN | apply stepDG_if | apply stepG_ifN | apply stepG_if)) <;> intro hb <;> (have hif := hb) <;> (try simp only [bo] at hif) <;> (try simp -implicitDefEqProofs (disch := omega) only [go_sem, hb]) <;> clear hb
   | simp (maxSteps := 1000000) -implicitDefEqProofs (disch := omega) only [go_sem])
 all_goals first | (exfalso; omega) | skip
 refine callc (kInts [2] false true (by decide)) ?_
 try simp (maxSteps := 1000000) -implicitDefEqProofs (disch := omega) only [go_sem]
 repeat' (first
   | (with_reducible apply Req_intro); focus (first | omega | assumption | (simp; done))
   | with_reducible (first | apply Req_intro | refine nilT ?_ fun hn => ?_ | apply wk_draw Tryd_mixed | refine drawEnd (by kernel_rfl) ?_)
   | (with_reducible (first | apply condA_if | apply stepDG_ifN | apply stepDG_if | apply stepG_ifN | apply stepG_if)) <;> intro hb <;> (have hif := hb) <;> (try simp only [bo] at hif) <;> (try simp -implicitDefEqProofs (disch := omega) only [go_sem, hb]) <;> clear hb
   | simp (maxSteps := 1000000) -implicitDefEqProofs (disch := omega) only [go_sem])
 all_goals first | (exfalso; omega) | skip
 refine callc (kInts [2] false true (by decide)) ?_
 try simp (maxSteps := 1000000) -implicitDefEqProofs (disch := omega) only [go_sem]
 repeat' (first
   | (with_reducible apply Req_intro); focus (first | omega | assumption | (simp; done))
   | with_reducible (first | apply Req_intro | refine nilT ?_ fun hn => ?_ | apply wk_draw Tryd_mixed | refine drawEnd (by kernel_rfl) ?_)
   | (with_reducible (first | apply condA_if | apply stepDG_ifN | apply stepDG_if | apply stepG_ifN | apply stepG_if)) <;> intro hb <;> (have hif := hb) <;> (try simp only [bo] at hif) <;> (try simp -implicitDefEqProofs (disch := omega) only [go_sem, hb]) <;> clear hb
   | simp (maxSteps := 1000000) -implicitDefEqProofs (disch := omega) only [go_sem])
 all_goals first | (exfalso; omega) | skip
 refine callc (kAll [(0, 0), (1, 1)] false false (by decide)) ?_
 try simp (maxSteps := 1000000) -implicitDefEqProofs (disch := omega) only [go_sem]
 repeat' (first
   | (with_reducible apply Req_intro); focus (first | omega | assumption | (simp; done))
   | with_reducible (first | apply Req_intro | refine nilT ?_ fun hn => ?_ | apply wk_draw Tryd_mixed | refine drawEnd (by kernel_rfl) ?_)
   | (with_reducible (first | apply condA_if | apply stepDG_ifN | apply stepDG_if | apply stepG_ifN | apply stepG_if)) <;> intro hb <;> (have hif := hb) <;> (try simp only [bo] at hif) <;> (try simp -implicitDefEqProofs (disch := omega) only [go_sem, hb]) <;> clear hb
   | simp (maxSteps := 1000000) -implicitDefEqProofs (disch := omega) only [go_sem])
 all_goals first | (exfalso; omega) | skip
 refine callp (pair_spec 0 1) ?_
 try simp (maxSteps := 1000000) -implicitDefEqProofs (disch := omega) only [go_sem]
 repeat' (first
   | (with_reducible apply Req_intro); focus (first | omega | assumption | (simp; done))
   | with_reducible (first | apply Req_intro | refine nilT ?_ fun hn => ?_ | apply wk_draw Tryd_mixed | refine drawEnd (by kernel_rfl) ?_)
   | (with_reducible (first | apply condA_if | apply stepDG_ifN | apply stepDG_if | apply stepG_ifN | apply stepG_if)) <;> intro hb <;> (have hif := hb) <;> (try simp only [bo] at hif) <;> (try simp -implicitDefEqProofs (disch := omega) only [go_sem, hb]) <;> clear hb
   | simp (maxSteps := 1000000) -implicitDefEqProofs (disch := omega) only [go_sem])
 all_goals first | (exfalso; omega) | skip
 refine callp (pair_spec 1 0) ?_
 try simp (maxSteps := 1000000) -implicitDefEqProofs (disch := omega) only [go_sem]
 repeat' (first
   | (with_reducible apply Req_intro); focus (first | omega | assumption | (simp; done))
   | with_reducible (first | apply Req_intro | refine nilT ?_ fun hn => ?_ | apply wk_draw Tryd_mixed | refine drawEnd (by kernel_rfl) ?_)
   | (with_reducible (first | apply condA_if | apply stepDG_ifN | apply stepDG_if | apply stepG_ifN | apply stepG_if)) <;> intro hb <;> (have hif := hb) <;> (try simp only [bo] at hif) <;> (try simp -implicitDefEqProofs (disch := omega) only [go_sem, hb]) <;> clear hb
   | simp (maxSteps := 1000000) -implicitDefEqProofs (disch := omega) only [go_sem])
 all_goals first | (exfalso; omega) | skip
 refine callp (pair_spec 2 2) ?_
 try simp (maxSteps := 1000000) -implicitDefEqProofs (disch := omega) only [go_sem]
 repeat' (first
   | (with_reducible apply Req_intro); focus (first | omega | assumption | (simp; done))
   | with_reducible (first | apply Req_intro | refine nilT ?_ fun hn => ?_ | apply wk_draw Tryd_mixed | refine drawEnd (by kernel_rfl) ?_)
   | (with_reducible (first | apply condA_if | apply stepDG_ifN | apply stepDG_if | apply stepG_ifN | apply stepG_if)) <;> intro hb <;> (have hif := hb) <;> (try simp only [bo] at hif) <;> (try simp -implicitDefEqProofs (disch := omega) only [go_sem, hb]) <;> clear hb
   | simp (maxSteps := 1000000) -implicitDefEqProofs (disch := omega) only [go_sem])
 all_goals first | (exfalso; omega) | skip
 refine callc (kAll [(0, 1), (1, 0), (2, 2)] false true (by decide)) ?_
 try simp (maxSteps := 1000000) -implicitDefEqProofs (disch := omega) only [go_sem]
 repeat' (first
   | (with_reducible apply Req_intro); focus (first | omega | assumption | (simp; done))
   | with_reducible (first | apply Req_intro | refine nilT ?_ fun hn => ?_ | apply wk_draw Tryd_mixed | refine drawEnd (by kernel_rfl) ?_)
   | (with_reducible (first | apply condA_if | apply stepDG_ifN | apply stepDG_if | apply stepG_ifN | apply stepG_if)) <;> intro hb <;> (have hif := hb) <;> (try simp only [bo] at hif) <;> (try simp -implicitDefEqProofs (disch := omega) only [go_sem, hb]) <;> clear hb
   | simp (maxSteps := 1000000) -implicitDefEqProofs (disch := omega) only [go_sem])
 all_goals first | (exfalso; omega) | skip
 refine callp stock_spec ?_
 try simp (maxSteps := 1000000) -implicitDefEqProofs (disch := omega) only [go_sem]
 repeat' (first
   | (with_reducible apply Req_intro); focus (first | omega | assumption | (simp; done))
   | with_reducible (first | apply Req_intro | refine nilT ?_ fun hn => ?_ | apply wk_draw Tryd_mixed | refine drawEnd (by kernel_rfl) ?_)
   | (with_reducible (first | apply condA_if | apply stepDG_ifN | apply stepDG_if | apply stepG_ifN | apply stepG_if)) <;> intro hb <;> (have hif := hb) <;> (try simp only [bo] at hif) <;> (try simp -implicitDefEqProofs (disch := omega) only [go_sem, hb]) <;> clear hb
   | simp (maxSteps := 1000000) -implicitDefEqProofs (disch := omega) only [go_sem])
 all_goals first | (exfalso; omega) | skip
 refine callp kCheck ?_
 try simp (maxSteps := 1000000) -implicitDefEqProofs (disch := omega) only [go_sem]
 repeat' (first
   | (with_reducible apply Req_intro); focus (first | omega | assumption | (simp; done))
   | with_reducible (first | apply Req_intro | refine nilT ?_ fun hn => ?_ | apply wk_draw Tryd_mixed | refine drawEnd (by kernel_rfl) ?_)
   | (with_reducible (first | apply condA_if | apply stepDG_ifN | apply stepDG_if | apply stepG_ifN | apply stepG_if)) <;> intro hb <;> (have hif := hb) <;> (try simp only [bo] at hif) <;> (try simp -implicitDefEqProofs (disch := omega) only [go_sem, hb]) <;> clear hb
   | simp (maxSteps := 1000000) -implicitDefEqProofs (disch := omega) only [go_sem])
 all_goals first | (exfalso; omega) | skip
 refine ret_do ?_
 rfl
end Go.Aw
end
section
namespace Go.Aw
open Go.RowKit
def permsR (n : Nat) : Nat → Nat → List (List Nat)
 | 0, _ => [[]]
 | m + 1, taken => (List.range n).flatMap fun k => if taken.testBit k then [] else (permsR n m (taken ||| 2 ^ k)).map (k :: ·)
def valTo (f : Nat → Nat → Int) (ks : List Nat) : Nat → Int
 | 0 => 0
 | k + 1 => max (valTo f ks k) (f k (ks.getD k 0))
def valR (f : Nat → Nat → Int) (ks : List Nat) : Int := valTo f ks ks.length
def balStep (f : Nat → Nat → Int) (st : List Nat × Int) (ks : List Nat) : List Nat × Int := if valR f ks < st.2 then (ks, valR f ks) else st
def refBal (f : Nat → Nat → Int) (n : Nat) : Nat → List Nat → List Nat × Int → List Nat × Int
 | 0, now, st => balStep f st now
 | m + 1, now, st => (List.range n).foldl (fun st k => if decide (k ∈ now) then st else refBal f n m (now ++ [k]) st) st
theorem valTo_le (f : Nat → Nat → Int) (ks : List Nat) {w : Int} (h0 : 0 ≤ w) : ∀ n, valTo f ks n ≤ w ↔ ∀ i, i < n → f i (ks.getD i 0) ≤ w
 | 0 => ⟨fun _ i hi => absurd hi (Nat.not_lt_zero _), fun _ => h0⟩
 | n + 1 => by
   rw [valTo, Int.max_le, valTo_le f ks h0 n]
   constructor
   · rintro ⟨h1, h2⟩ i hi
     rcases Nat.lt_succ_iff_lt_or_eq.1 hi with h | rfl
     · exact h1 i h
     · exact h2
   · intro h
     exact ⟨fun i hi => h i (by omega), h n (by omega)⟩
def okFrom (T : List Nat) : Nat → List Nat → Bool
 | _, [] => true
 | i, k :: s => (T.getD i 0).testBit k && okFrom T (i + 1) s
theorem okFrom_iff (T : List Nat) : ∀ (s : List Nat) (i : Nat), okFrom T i s = true ↔ ∀ j, j < s.length → (T.getD (i + j) 0).testBit (s.getD j 0) = true
 | [], i => by simp [okFrom]
 | k :: s, i => by
   rw [okFrom, Bool.and_eq_true, okFrom_iff T s (i + 1)]
   constructor
   · rintro ⟨h1, h2⟩ j hj
     cases j with
     | zero => exact h1
     | succ j =>
       have := h2 j (by simpa using hj)
       rw [show i + 1 + j = i + (j + 1) from by omega] at this
       simpa using this
   · intro h
     refine ⟨h 0 (by simp), fun j hj => ?_⟩
     have := h (j + 1) (by simpa using hj)
     rw [show i + 1 + j = i + (j + 1) from by omega]
     simpa using this
theorem findSome_range {β : Type} {f : Nat → Option β} {b : β} : ∀ {n : Nat}, (List.range n).findSome? f = some b ↔ ∃ k, k < n ∧ f k = some b ∧ ∀ j, j < k → f j = none
 | 0 => by simp
 | n + 1 => by
   rw [List.range_succ, List.findSome?_append]
   constructor
   · intro h
     cases h1 : (List.range n).findSome? f with
     | some c =>
       rw [h1] at h
       cases h
       obtain ⟨k, hk, h2, h3⟩ := findSome_range.1 h1
       exact ⟨k, by omega, h2, h3⟩
     | none =>
       rw [h1] at h
       rw [List.findSome?_eq_none_iff] at h1
       refine ⟨n, by omega, by simpa using h, fun j hj => h1 j (List.mem_range.2 hj)⟩
   · rintro ⟨k, hk, h2, h3⟩
     rcases Nat.lt_succ_iff_lt_or_eq.1 hk with h | rfl
     · rw [findSome_range.2 ⟨k, h, h2, h3⟩]; rfl
     · rw [List.findSome?_eq_none_iff.2 fun j hj => h3 j (List.mem_range.1 hj)]
       simp [h2]
theorem maxM_len : ∀ (t : List Nat) (x : Nat), maxM t x ≤ t.length
 | [], x => Nat.le_refl _
 | a :: t, x => by
   have := maxM_head a t x
   have := maxM_len t x
   rw [List.length_cons]; omega
def farF (ls rs : List Grd) (i k : Nat) : Int := farR (ls.getD i default).1 (rs.getD k default).1
def nearB (ls rs : List Grd) (w : Int) : List (List Bool) := ls.map fun a => rs.map fun b => decide (farR a.1 b.1 ≤ w)
end Go.Aw
end
section
namespace Go.Aw
open Go.RowKit
def tabB (g : Gau) (ls rs : List Grd) (k : Int) : List (List Bool) := ls.map fun a => rs.map fun b => alikeR g a b k
def manyR (g : Gau) (ls rs : List Grd) (k : Int) : Nat := refM (tabB g ls rs k) 0
theorem farR_comm (a b : Int) : farR a b = farR b a := by unfold farR; omega
theorem alikeR_comm (g : Gau) {a b : Grd} (h : a.2.length = b.2.length) (k : Int) : alikeR g a b k = alikeR g b a k := by
 unfold alikeR
 rw [farR_comm, h]
 congr 2
 funext i
 rw [farR_comm]
def okTwin (g : Gau) (ls rs : List Grd) (a b : Nat × Nat) : Bool :=
 decide (a.1 ≠ b.1 ∧ a.2 ≠ b.2) && alikeR g (rs.getD a.2 default) (ls.getD a.1 default) 2 && alikeR g (ls.getD b.1 default) (ls.getD a.1 default) 2 && alikeR g (ls.getD b.1 default) (rs.getD a.2 default) 2 &&
   alikeR g (rs.getD b.2 default) (ls.getD a.1 default) 2 && alikeR g (rs.getD b.2 default) (rs.getD a.2 default) 2 && alikeR g (rs.getD b.2 default) (ls.getD b.1 default) 2
theorem twins_ref {g : Gau} {ls rs : List Grd} {n : Nat} (hr : rs.length ≤ 16) (hl1 : ∀ x ∈ ls, x.2.length = n) (hr1 : ∀ x ∈ rs, x.2.length = n) :
   (refTwinList ls.length rs.length (okTwin g ls rs)).head? = twinsR (tableR g ls rs 2) (fun i j => alikeR g (ls.getD i default) (ls.getD j default) 2) (fun i j => alikeR g (rs.getD i default) (rs.getD j default) 2) := by
 have hb : ∀ i r, i < ls.length → r < rs.length → ((tableR g ls rs 2).getD i 0).testBit r = alikeR g (ls.getD i default) (rs.getD r default) 2 := fun i r hi hr => by
   rw [tableR_get hi, rowR_bit, decide_eq_true hr, Bool.true_and]
 rw [twinsR_eq hr fun i r h => by
   rcases Nat.lt_or_ge i ls.length with hi | hi
   · rw [tableR_get hi, rowR_bit, decide_eq_false (by omega), Bool.false_and]
   · rw [List.getD_eq_getElem?_getD, List.getElem?_eq_none (by rw [tableR_len]; exact hi)]; exact Nat.zero_testBit r]
 rw [← tableR_len g ls rs 2, refTwinList_eq]
 intro i k j m hi hj hk hm
 rw [tableR_len] at hi hj
 have m1 : ∀ {i}, i < ls.length → (ls.getD i default).2.length = n := fun h => hl1 _ (by rw [List.getD_eq_getElem?_getD, List.getElem?_eq_getElem h]; exact List.getElem_mem h)
 have m2 : ∀ {i}, i < rs.length → (rs.getD i default).2.length = n := fun h => hr1 _ (by rw [List.getD_eq_getElem?_getD, List.getElem?_eq_getElem h]; exact List.getElem_mem h)
 rw [hb i k hi hk, hb j k hj hk, hb i m hi hm, hb j m hj hm]
 unfold okTwin
 simp only
 rw [alikeR_comm g (a := rs.getD k default) (b := ls.getD i default) (by rw [m2 hk, m1 hi]), alikeR_comm g (a := ls.getD j default) (b := ls.getD i default) (by rw [m1 hi, m1 hj]),
   alikeR_comm g (a := rs.getD m default) (b := ls.getD i default) (by rw [m2 hm, m1 hi]), alikeR_comm g (a := rs.getD m default) (b := rs.getD k default) (by rw [m2 hm, m2 hk]), alikeR_comm g (a := rs.getD m default) (b := ls.getD j default) (by rw [m2 hm, m1 hj]),
   show decide (i ≠ j ∧ k ≠ m) = (decide (i ≠ j) && decide (k ≠ m)) from Bool.decide_and ..]
def refCutTo (g : Gau) (ls rs : List Grd) : Nat → Nat × Nat × Bool
 | 0 => (0, manyR g ls rs 2, false)
 | i + 1 => if (refCutTo g ls rs i).2.1 < manyR g ls (rs ++ [ls.getD i default]) 2 then (i, manyR g ls (rs ++ [ls.getD i default]) 2, true) else refCutTo g ls rs i
def lookB (g : Gau) (ls rs : List Grd) (right : Bool) (n : Nat) : List (List Bool) :=
 (List.range ls.length).map fun i => (List.range rs.length).map fun k => if (if right then k else i) = n then alikeR g (ls.getD i default) (rs.getD k default) 1 else alikeR g (ls.getD i default) (rs.getD k default) 2
end Go.Aw
end
section
namespace Go.Aw
open Go.RowKit
structure Fine (m : Nat) (x : Grd) : Prop where
 w1 : 1 ≤ x.1
 w2 : x.1 ≤ 10000
 len : x.2.length = m
 c : ∀ v ∈ x.2, 0 ≤ v ∧ v ≤ 500
theorem check_fine {g : Gau} {ls rs : List Grd} {m : Nat} (h1 : 1 ≤ m) (h4 : m ≤ 4) (hl8 : ls.length ≤ 8) (hr8 : rs.length ≤ 8) (hl : ∀ x ∈ ls, Fine m x) (hr : ∀ x ∈ rs, Fine m x) (hg : gaugeR g = true) : checkS g ls rs = 0 := by
 have hall : ∀ x ∈ ls ++ rs, Fine m x := fun x hx => (List.mem_append.1 hx).elim (hl x) (hr x)
 rw [checkS, if_neg (by omega)]
 generalize ls ++ rs = l at *
 have h0 : ∀ x ∈ l, otherR l x = false := fun x hx => by
   have e : (l.getD 0 default).2.length = m := by
     cases l with
     | nil => cases hx
     | cons y l => exact (hall y (by simp)).len
   simp only [otherR, inR', e, (hall x hx).len, Bool.or_eq_false_iff, Bool.not_eq_false', Bool.and_eq_true, decide_eq_true_eq]
   refine ⟨⟨by omega, by omega⟩, by simp⟩
 have h2 : ∀ x ∈ l, noneR x = false := fun x hx => by
   have := hall x hx
   simp only [noneR, inR', Bool.or_eq_false_iff, Bool.not_eq_false', Bool.and_eq_true, decide_eq_true_eq, List.all_eq_true]
   exact ⟨⟨this.w1, this.w2⟩, fun v hv => this.c v hv⟩
 rw [chkR, if_neg (by rw [List.any_eq_true]; rintro ⟨x, hx, hh⟩; rw [h0 x hx] at hh; cases hh), if_neg (by rw [List.any_eq_true]; rintro ⟨x, hx, hh⟩; rw [h2 x hx] at hh; cases hh), if_pos hg]
theorem chk_two {g : Gau} {a b : Grd} {m : Nat} (h1 : 1 ≤ m) (h4 : m ≤ 4) (ha : Fine m a) (hb : Fine m b) (hg : gaugeR g = true) : chkR g [a, b] = 0 := by
 have := check_fine (g := g) (ls := [a]) (rs := [b]) h1 h4 (by simp) (by simp) (by simpa using ha) (by simpa using hb) hg
 rw [checkS, if_neg (by simp)] at this
 exact this
theorem alikeR_iff {g : Gau} {a b : Grd} {k : Int} : alikeR g a b k = true ↔ farR a.1 b.1 + k * g.sc ≤ g.we ∧ ∀ i, i < a.2.length → farR (a.2.getD i default) (b.2.getD i default) + k * g.ga ≤ g.cu := by
 simp only [alikeR, Bool.and_eq_true, Bool.not_eq_true', decide_eq_false_iff_not, List.all_eq_true, List.mem_range]
 constructor
 · rintro ⟨h1, h2⟩; exact ⟨by omega, fun i hi => by have := h2 i hi; omega⟩
 · rintro ⟨h1, h2⟩; exact ⟨by omega, fun i hi => by have := h2 i hi; omega⟩
def atR (by' : List Int) (i k : Nat) (off : Int) : Int := if by'.length = 0 then 0 else by'.getD ((3 * i + k) % by'.length) 0 % (2 * off + 1) - off
theorem atR_bnd (by' : List Int) (i k : Nat) {off : Int} (h : 0 ≤ off) : -off ≤ atR by' i k off ∧ atR by' i k off ≤ off := by
 unfold atR
 split
 · omega
 · have h1 := Int.emod_nonneg (by'.getD ((3 * i + k) % by'.length) 0) (show 2 * off + 1 ≠ 0 by omega)
   have h2 := Int.emod_lt_of_pos (by'.getD ((3 * i + k) % by'.length) 0) (show 0 < 2 * off + 1 by omega)
   omega
def trueG (g : Gau) (by' : List Int) (i : Nat) (x : Grd) : Grd := (x.1 + atR by' i 0 g.sc, (List.range x.2.length).map fun k => x.2.getD k default + atR by' i (1 + k) g.ga)
theorem trueG_len (g : Gau) (by' : List Int) (i : Nat) (x : Grd) : (trueG g by' i x).2.length = x.2.length := by simp [trueG]
theorem trueG_get {g : Gau} {by' : List Int} {i : Nat} {x : Grd} {k : Nat} (h : k < x.2.length) : (trueG g by' i x).2.getD k default = x.2.getD k default + atR by' i (1 + k) g.ga := by
 simp [trueG, List.getD_eq_getElem?_getD, h]
theorem farR_move {a b x y o : Int} (hx : -o ≤ x ∧ x ≤ o) (hy : -o ≤ y ∧ y ≤ o) : farR (a + x) (b + y) ≤ farR a b + 2 * o ∧ farR a b ≤ farR (a + x) (b + y) + 2 * o := by unfold farR; omega
theorem truth_sure {g : Gau} {a b : Grd} {by' : List Int} {i k : Nat} (h1 : 0 ≤ g.sc) (h2 : 0 ≤ g.ga) (hl : a.2.length = b.2.length) (h : alikeR g a b 2 = true) : alikeR g (trueG g by' i a) (trueG g by' k b) 0 = true := by
 rw [alikeR_iff] at h ⊢
 rw [trueG_len]
 refine ⟨?_, fun j hj => ?_⟩
 · have := (farR_move (a := a.1) (b := b.1) (atR_bnd by' i 0 h1) (atR_bnd by' k 0 h1)).1
   simp only [trueG]; omega
 · have := (farR_move (a := a.2.getD j default) (b := b.2.getD j default) (atR_bnd by' i (1 + j) h2) (atR_bnd by' k (1 + j) h2)).1
   have := h.2 j hj
   rw [trueG_get hj, trueG_get (by omega)]; omega
theorem truth_may {g : Gau} {a b : Grd} {by' : List Int} {i k : Nat} (h1 : 0 ≤ g.sc) (h2 : 0 ≤ g.ga) (hl : a.2.length = b.2.length) (h : alikeR g (trueG g by' i a) (trueG g by' k b) 0 = true) : alikeR g a b (-2) = true := by
 rw [alikeR_iff] at h ⊢
 rw [trueG_len] at h
 refine ⟨?_, fun j hj => ?_⟩
 · have := (farR_move (a := a.1) (b := b.1) (atR_bnd by' i 0 h1) (atR_bnd by' k 0 h1)).2
   have := h.1
   simp only [trueG] at this; omega
 · have := (farR_move (a := a.2.getD j default) (b := b.2.getD j default) (atR_bnd by' i (1 + j) h2) (atR_bnd by' k (1 + j) h2)).2
   have := h.2 j hj
   rw [trueG_get hj, trueG_get (by omega)] at this; omega
theorem sure_may {g : Gau} {a b : Grd} (h1 : 0 ≤ g.sc) (h2 : 0 ≤ g.ga) (h : alikeR g a b 2 = true) : alikeR g a b (-2) = true := alike_more (by omega) (by omega) (Int.le_refl _) (Int.le_refl _) h
def grK (is : Nat → Nat → Bool) (L : List (Nat × Nat)) (i : Nat) : Nat → List (Nat × Nat)
 | 0 => L
 | k + 1 => if is i k && !((grK is L i k).any fun p => p.1 == i) && !((grK is L i k).any fun p => p.2 == k) then grK is L i k ++ [(i, k)] else grK is L i k
def grT (is : Nat → Nat → Bool) (nr : Nat) : Nat → List (Nat × Nat)
 | 0 => []
 | i + 1 => grK is (grT is nr i) i nr
structure GrOk (is : Nat → Nat → Bool) (nl nr : Nat) (l : List (Nat × Nat)) : Prop where
 e : ∀ p ∈ l, p.1 < nl ∧ p.2 < nr ∧ is p.1 p.2 = true
 a : (l.map (·.1)).Nodup
 b : (l.map (·.2)).Nodup
theorem nodup_snoc {l : List Nat} {x : Nat} (h : l.Nodup) (hx : x ∉ l) : (l ++ [x]).Nodup := by
 rw [List.nodup_append]
 exact ⟨h, by simp, fun a ha b hb e => hx (by rw [List.mem_singleton] at hb; rw [← hb, ← e]; exact ha)⟩
theorem grK_ok {is : Nat → Nat → Bool} {nl nr : Nat} {L : List (Nat × Nat)} {i : Nat} (hi : i < nl) (h : GrOk is nl nr L) : ∀ k, k ≤ nr → GrOk is nl nr (grK is L i k)
 | 0, _ => h
 | k + 1, hk => by
   have ih := grK_ok hi h k (by omega)
   rw [grK]
   split
   · rename_i hc
     simp only [Bool.and_eq_true, Bool.not_eq_true', List.any_eq_false, beq_iff_eq] at hc
     obtain ⟨⟨h1, h2⟩, h3⟩ := hc
     refine ⟨fun p hp => ?_, ?_, ?_⟩
     · rcases List.mem_append.1 hp with hp | hp
       · exact ih.e p hp
       · rw [List.mem_singleton] at hp; subst hp; exact ⟨hi, by omega, h1⟩
     · rw [List.map_append]
       exact nodup_snoc ih.a fun hm => by
         obtain ⟨p, hp, e⟩ := List.mem_map.1 hm
         exact h2 p hp e
     · rw [List.map_append]
       exact nodup_snoc ih.b fun hm => by
         obtain ⟨p, hp, e⟩ := List.mem_map.1 hm
         exact h3 p hp e
   · exact ih
theorem grT_ok {is : Nat → Nat → Bool} {nl nr : Nat} : ∀ i, i ≤ nl → GrOk is nl nr (grT is nr i)
 | 0, _ => ⟨fun p hp => (by cases hp), List.nodup_nil, List.nodup_nil⟩
 | i + 1, hi => grK_ok (by omega) (grT_ok i (by omega)) nr (Nat.le_refl _)
theorem gr_most {g : Gau} {ls rs : List Grd} {is : Nat → Nat → Bool} (hr : rs.length ≤ 16) (hm : ∀ i k, i < ls.length → k < rs.length → is i k = true → alikeR g (ls.getD i default) (rs.getD k default) (-2) = true) : (grT is rs.length ls.length).length ≤ mostR (tableR g ls rs (-2)) := by
 have h := grT_ok (is := is) (nl := ls.length) (nr := rs.length) ls.length (Nat.le_refl _)
 rw [mostR_eq (tableR_few hr)]
 refine Apart.le ⟨fun p hp => ?_, h.a, h.b⟩
 obtain ⟨h1, h2, h3⟩ := h.e p hp
 refine ⟨by rw [tableR_len]; exact h1, ?_, by omega⟩
 rw [tableR_get h1, rowR_bit, decide_eq_true h2, hm _ _ h1 h2 h3]; rfl
theorem pairs_bnd {g : Gau} {ls rs : List Grd} {k : Int} (hr : rs.length ≤ 16) : (∀ p ∈ pairsR (tableR g ls rs k), p.1 < ls.length ∧ p.2 < rs.length ∧ alikeR g (ls.getD p.1 default) (rs.getD p.2 default) k = true) ∧
   ((pairsR (tableR g ls rs k)).map (·.1)).Pairwise (· < ·) ∧ ((pairsR (tableR g ls rs k)).map (·.2)).Nodup ∧ (pairsR (tableR g ls rs k)).length = mostR (tableR g ls rs k) := by
 obtain ⟨h1, h2, h3, h4⟩ := pairsR_ok (tableR_few (g := g) (ls := ls) (k := k) hr)
 refine ⟨fun p hp => ?_, h3, h4, h1⟩
 obtain ⟨q1, q2, q3⟩ := h2 p hp
 rw [tableR_len] at q1
 rw [tableR_get q1, rowR_bit, Bool.and_eq_true, decide_eq_true_eq] at q2
 exact ⟨q1, q2.1, q2.2⟩
theorem most_left_le {g : Gau} {ls rs : List Grd} {k : Int} (hr : rs.length ≤ 16) : mostR (tableR g ls rs k) ≤ ls.length := by
 rw [mostR_eq (tableR_few hr)]
 have := maxM_len (tableR g ls rs k) 0
 rwa [tableR_len] at this
theorem most_right_le {g : Gau} {ls rs : List Grd} {k : Int} (hr : rs.length ≤ 16) : mostR (tableR g ls rs k) ≤ rs.length := by
 obtain ⟨h1, _, h3, h4⟩ := pairs_bnd (g := g) (ls := ls) (k := k) hr
 rw [← h4, ← List.length_map (f := fun p : Nat × Nat => p.2)]
 have := nodup_len (a := (pairsR (tableR g ls rs k)).map (·.2)) (b := List.range rs.length) h3 fun x hx => by
   obtain ⟨p, hp, rfl⟩ := List.mem_map.1 hx
   exact List.mem_range.2 (h1 p hp).2.1
 rwa [List.length_range] at this
end Go.Aw
end
section
set_option maxRecDepth 20000
set_option maxHeartbeats 4000000
namespace Go.Aw
open Go.RowKit Go.Proofs
theorem gIn_spec (n l m : Int) : Ct Tryd.prog 62 [int n, int l, int m] (.lit (.bool (inR' l m n))) := by
 refine fn_enter Tryd.func62 rfl (by decide) Tryd.results62 Tryd.ntmps62 ?_ rfl (by simp (maxSteps := 1000000) -implicitDefEqProofs (disch := omega) only [go_sem]; rfl) fun base => ?_
 · simp
 repeat' (first
   | (with_reducible apply Req_intro); focus (first | omega | assumption | (simp; done))
   | with_reducible (first | apply Req_intro | refine nilT ?_ fun hn => ?_ | apply wk_draw Tryd_mixed | refine drawEnd (by kernel_rfl) ?_)
   | (with_reducible (first | apply condA_if | apply stepDG_ifN | apply stepDG_if | apply stepG_ifN | apply stepG_if)) <;> intro hb <;> (have hif := hb) <;> (try simp only [bo] at hif) <;> (try simp -implicitDefEqProofs (disch := omega) only [go_sem, hb]) <;> clear hb
   | simp (maxSteps := 1000000) -implicitDefEqProofs (disch := omega) only [go_sem])
 · refine ret_do ?_
   simp [inR', hif, retV]
 · refine ret_do ?_
   have : inR' l m n = false := by simp [inR']; omega
   rw [this]; rfl
theorem rFar_spec (a b : Int) (ha : inR' 0 1000000 a = true) (hb : inR' 0 1000000 b = true) : Ct Tryd.prog 87 [int a, int b] (int (farR a b)) := by
 simp only [inR', Bool.and_eq_true, decide_eq_true_eq] at ha hb
 refine fn_enter Tryd.func87 rfl (by decide) Tryd.results87 Tryd.ntmps87 ?_ rfl (by simp (maxSteps := 1000000) -implicitDefEqProofs (disch := omega) only [go_sem]; rfl) fun base => ?_
 · first | assumption | (simp only [go_sem] <;> assumption) | (simp only [go_sem, *]; done) | (simp [go_sem]; done)
 repeat' (first
   | (with_reducible apply Req_intro); focus (first | omega | assumption | (simp; done))
   | with_reducible (first | apply Req_intro | refine nilT ?_ fun hn => ?_ | apply wk_draw Tryd_mixed | refine drawEnd (by kernel_rfl) ?_)
   | (with_reducible (first | apply condA_if | apply stepDG_ifN | apply stepDG_if | apply stepG_ifN | apply stepG_if)) <;> intro hb <;> (have hif := hb) <;> (try simp only [bo] at hif) <;> (try simp -implicitDefEqProofs (disch := omega) only [go_sem, hb]) <;> clear hb
   | simp (maxSteps := 1000000) -implicitDefEqProofs (disch := omega) only [go_sem])
 refine ret_do ?_
 have : max a b - min a b = farR a b := by unfold farR; omega
 rw [this]; rfl
def alTo (g : Gau) (a b : Grd) (k : Int) (i : Nat) : Bool := decide (farR a.1 b.1 + k * g.sc ≤ g.we) && (List.range i).all fun j => decide (farR (a.2.getD j default) (b.2.getD j default) + k * g.ga ≤ g.cu)
theorem alTo_succ (g : Gau) (a b : Grd) (k : Int) (i : Nat) : alTo g a b k (i + 1) = (alTo g a b k i && decide (farR (a.2.getD i default) (b.2.getD i default) + k * g.ga ≤ g.cu)) := by
 rw [alTo, alTo, List.range_succ, List.all_append, Bool.and_assoc]; simp
theorem alTo_all (g : Gau) (a b : Grd) (k : Int) : alTo g a b k a.2.length = alikeR g a b k := by
 rw [Bool.eq_iff_iff, alikeR_iff, alTo, Bool.and_eq_true, decide_eq_true_eq, List.all_eq_true]
 simp only [List.mem_range, decide_eq_true_eq]
theorem rAlike_spec (g : Gau) (a b : Grd) (k : Int) (n : Nat) (hn : n ≤ 4) (hg : GauOk g) (ha : GrdOk n a) (hb : GrdOk n b) (hk : inR' (-2) 2 k = true) : Ct Tryd.prog 63 [.agg (encGd a), .agg (encGd b), encGa g, int (k * g.sc), int (k * g.ga)] (.lit (.bool (alikeR g a b k))) := by
 have g1 := hg.sc
 have g2 := hg.ga
 have a2 := ha.len
 have b2 := hb.len
 have hw := rFar_spec a.1 b.1 ha.w hb.w
 have hc : ∀ i, i < n → Ct Tryd.prog 87 [int (a.2.getD i default), int (b.2.getD i default)] (int (farR (a.2.getD i default) (b.2.getD i default))) := fun i hi => rFar_spec _ _ (ha.c _ (getD_mem (by omega))) (hb.c _ (getD_mem (by omega)))
 have hkr : -2 ≤ k ∧ k ≤ 2 := by simpa [inR'] using hk
 have hs : 0 ≤ g.sc ∧ g.sc ≤ 100 := by simpa [inR'] using g1
 have hga : 0 ≤ g.ga ∧ g.ga ≤ 100 := by simpa [inR'] using g2
 have k1 := mul_small hkr hs
 have k2 := mul_small hkr hga
 have hb1 := farR_small ha.w hb.w
 have hc1 : ∀ i, i < n → 0 ≤ farR (a.2.getD i default) (b.2.getD i default) ∧ farR (a.2.getD i default) (b.2.getD i default) ≤ 1000000 := fun i hi => farR_small (ha.c _ (getD_mem (by omega))) (hb.c _ (getD_mem (by omega)))
 have h0 : alTo g a b k 0 = decide (farR a.1 b.1 + k * g.sc ≤ g.we) := by simp [alTo]
 have hstep := alTo_succ g a b k
 have hend := alTo_all g a b k
 rw [a2] at hend
 generalize farR a.1 b.1 = fw at *
 generalize alTo g a b k = AL at *
 generalize k * g.sc = ks at *
 generalize k * g.ga = kg at *
 refine fn_enter Tryd.func63 rfl (by decide) Tryd.results63 Tryd.ntmps63 ?_ rfl (by simp (maxSteps := 1000000) -implicitDefEqProofs (disch := omega) only [go_sem]; rfl) fun base => ?_
 · first | assumption | (simp only [go_sem] <;> assumption) | (simp only [go_sem, *]; done) | (simp [go_sem]; done)
 repeat' (first
   | (with_reducible apply Req_intro); focus (first | omega | assumption | (simp; done))
   | with_reducible (first | apply Req_intro | refine nilT ?_ fun hn => ?_ | apply wk_draw Tryd_mixed | refine drawEnd (by kernel_rfl) ?_)
   | (with_reducible (first | apply condA_if | apply stepDG_ifN | apply stepDG_if | apply stepG_ifN | apply stepG_if)) <;> intro hb <;> (have hif := hb) <;> (try simp only [bo] at hif) <;> (try simp -implicitDefEqProofs (disch := omega) only [go_sem, hb]) <;> clear hb
   | simp (maxSteps := 1000000) -implicitDefEqProofs (disch := omega) only [go_sem])
 refine calld hw ?_
 try simp (maxSteps := 1000000) -implicitDefEqProofs (disch := omega) only [go_sem]
 repeat' (first
   | (with_reducible apply Req_intro); focus (first | omega | assumption | (simp; done))
   | with_reducible (first | apply Req_intro | refine nilT ?_ fun hn => ?_ | apply wk_draw Tryd_mixed | refine drawEnd (by kernel_rfl) ?_)
   | (with_reducible (first | apply condA_if | apply stepDG_ifN | apply stepDG_if | apply stepG_ifN | apply stepG_if)) <;> intro hb <;> (have hif := hb) <;> (try simp only [bo] at hif) <;> (try simp -implicitDefEqProofs (disch := omega) only [go_sem, hb]) <;> clear hb
   | simp (maxSteps := 1000000) -implicitDefEqProofs (disch := omega) only [go_sem])
 refine loop_at (α := Nat) [11, 12, 23, 24, 25, 26, 27, 28, 29, 30, 31, 32, 33, 34, 35, 36, 37, 38, 39, 40, 41, 42, 43, 44, 45, 46, 47, 48] (fun i => [(12, .lit (.int .i64 i)), (11, .lit (.bool (AL i)))]) (fun i => i ≤ n) (fun i => n - i) 0 (fun x => by simp (maxSteps := 1000000) -implicitDefEqProofs (disch := omega) only [go_sem]; rfl) ?_ ?_ fun x hx => ?_
 · rw [h0]
   exact weak_do []
 · exact Nat.zero_le _
 by_cases hlt : x < n
 · have hcx := hc x hlt
   have hcb := hc1 x hlt
   have hsx := hstep x
   generalize farR (a.2.getD x default) (b.2.getD x default) = fx at *
   cases hal : AL x with
   | true =>
     rw [hal, Bool.true_and] at hsx
     repeat' (first
       | (with_reducible apply Req_intro); focus (first | omega | assumption | (simp; done))
       | with_reducible (first | apply Req_intro | refine nilT ?_ fun hn => ?_ | apply wk_draw Tryd_mixed | refine drawEnd (by kernel_rfl) ?_)
       | (with_reducible (first | apply condA_if | apply stepDG_ifN | apply stepDG_if | apply stepG_ifN | apply stepG_if)) <;> intro hb <;> (have hif := hb) <;> (try simp only [bo] at hif) <;> (try simp -implicitDefEqProofs (disch := omega) only [go_sem, hb]) <;> clear hb
       | simp (maxSteps := 1000000) -implicitDefEqProofs (disch := omega) only [go_sem])
     all_goals first | exact absurd ‹false = true› (by decide) | exact absurd ‹true = false› (by decide) | (exfalso; omega) | omega | skip
     refine calld hcx ?_
     try simp (maxSteps := 1000000) -implicitDefEqProofs (disch := omega) only [go_sem]
     repeat' (first
       | (with_reducible apply Req_intro); focus (first | omega | assumption | (simp; done))
       | with_reducible (first | apply Req_intro | refine nilT ?_ fun hn => ?_ | apply wk_draw Tryd_mixed | refine drawEnd (by kernel_rfl) ?_)
       | (with_reducible (first | apply condA_if | apply stepDG_ifN | apply stepDG_if | apply stepG_ifN | apply stepG_if)) <;> intro hb <;> (have hif := hb) <;> (try simp only [bo] at hif) <;> (try simp -implicitDefEqProofs (disch := omega) only [go_sem, hb]) <;> clear hb
       | simp (maxSteps := 1000000) -implicitDefEqProofs (disch := omega) only [go_sem])
     with_reducible refine nxt_w (x + 1) ?_ ?_
     · (try dsimp only)
       rw [hsx]
       exact weak_do []
     try dsimp only
     omega
   | false =>
     rw [hal, Bool.false_and] at hsx
     repeat' (first
       | (with_reducible apply Req_intro); focus (first | omega | assumption | (simp; done))
       | with_reducible (first | apply Req_intro | refine nilT ?_ fun hn => ?_ | apply wk_draw Tryd_mixed | refine drawEnd (by kernel_rfl) ?_)
       | (with_reducible (first | apply condA_if | apply stepDG_ifN | apply stepDG_if | apply stepG_ifN | apply stepG_if)) <;> intro hb <;> (have hif := hb) <;> (try simp only [bo] at hif) <;> (try simp -implicitDefEqProofs (disch := omega) only [go_sem, hb]) <;> clear hb
       | simp (maxSteps := 1000000) -implicitDefEqProofs (disch := omega) only [go_sem])
     all_goals first | exact absurd ‹false = true› (by decide) | exact absurd ‹true = false› (by decide) | (exfalso; omega) | omega | skip
     with_reducible refine nxt_w (x + 1) ?_ ?_
     · (try dsimp only)
       rw [hsx]
       exact weak_do []
     try dsimp only
     omega
 · obtain rfl : x = n := by omega
   rw [hend]
   repeat' (first
     | (with_reducible apply Req_intro); focus (first | omega | assumption | (simp; done))
     | with_reducible (first | apply Req_intro | refine nilT ?_ fun hn => ?_ | apply wk_draw Tryd_mixed | refine drawEnd (by kernel_rfl) ?_)
     | (with_reducible (first | apply condA_if | apply stepDG_ifN | apply stepDG_if | apply stepG_ifN | apply stepG_if)) <;> intro hb <;> (have hif := hb) <;> (try simp only [bo] at hif) <;> (try simp -implicitDefEqProofs (disch := omega) only [go_sem, hb]) <;> clear hb
     | simp (maxSteps := 1000000) -implicitDefEqProofs (disch := omega) only [go_sem])
   all_goals first | exact absurd ‹false = true› (by decide) | exact absurd ‹true = false› (by decide) | (exfalso; omega) | omega | skip
   refine ret_do ?_
   rfl
theorem rSurely_spec (g : Gau) (a b : Grd) (n : Nat) (hn : n ≤ 4) (hg : GauOk g) (ha : GrdOk n a) (hb : GrdOk n b) : Ct Tryd.prog 21 [.agg (encGd a), .agg (encGd b), encGa g] (.lit (.bool (alikeR g a b 2))) := by
 have h := rAlike_spec g a b 2 n hn hg ha hb (by decide)
 have g1 := hg.sc
 have g2 := hg.ga
 simp only [inR', Bool.and_eq_true, decide_eq_true_eq] at g1 g2
 refine fn_enter Tryd.func21 rfl (by decide) Tryd.results21 Tryd.ntmps21 ?_ rfl (by simp (maxSteps := 1000000) -implicitDefEqProofs (disch := omega) only [go_sem]; rfl) fun base => ?_
 · first | assumption | (simp only [go_sem] <;> assumption) | (simp only [go_sem, *]; done) | (simp [go_sem]; done)
 repeat' (first
   | (with_reducible apply Req_intro); focus (first | omega | assumption | (simp; done))
   | with_reducible (first | apply Req_intro | refine nilT ?_ fun hn => ?_ | apply wk_draw Tryd_mixed | refine drawEnd (by kernel_rfl) ?_)
   | (with_reducible (first | apply condA_if | apply stepDG_ifN | apply stepDG_if | apply stepG_ifN | apply stepG_if)) <;> intro hb <;> (have hif := hb) <;> (try simp only [bo] at hif) <;> (try simp -implicitDefEqProofs (disch := omega) only [go_sem, hb]) <;> clear hb
   | simp (maxSteps := 1000000) -implicitDefEqProofs (disch := omega) only [go_sem])
 refine callp h ?_
 try simp (maxSteps := 1000000) -implicitDefEqProofs (disch := omega) only [go_sem]
 repeat' (first
   | (with_reducible apply Req_intro); focus (first | omega | assumption | (simp; done))
   | with_reducible (first | apply Req_intro | refine nilT ?_ fun hn => ?_ | apply wk_draw Tryd_mixed | refine drawEnd (by kernel_rfl) ?_)
   | (with_reducible (first | apply condA_if | apply stepDG_ifN | apply stepDG_if | apply stepG_ifN | apply stepG_if)) <;> intro hb <;> (have hif := hb) <;> (try simp only [bo] at hif) <;> (try simp -implicitDefEqProofs (disch := omega) only [go_sem, hb]) <;> clear hb
   | simp (maxSteps := 1000000) -implicitDefEqProofs (disch := omega) only [go_sem])
 refine ret_do ?_
 rfl
theorem rGauge_spec (g : Gau) : Ct Tryd.prog 20 [encGa g] (.lit (.bool (gaugeR g))) := by
 refine fn_enter Tryd.func20 rfl (by decide) Tryd.results20 Tryd.ntmps20 ?_ rfl (by simp (maxSteps := 1000000) -implicitDefEqProofs (disch := omega) only [go_sem]; rfl) fun base => ?_
 · first | assumption | (simp only [go_sem] <;> assumption) | (simp only [go_sem, *]; done) | (simp [go_sem]; done)
 repeat' (first
   | (with_reducible apply Req_intro); focus (first | omega | assumption | (simp; done))
   | with_reducible (first | apply Req_intro | refine nilT ?_ fun hn => ?_ | apply wk_draw Tryd_mixed | refine drawEnd (by kernel_rfl) ?_)
   | (with_reducible (first | apply condA_if | apply stepDG_ifN | apply stepDG_if | apply stepG_ifN | apply stepG_if)) <;> intro hb <;> (have hif := hb) <;> (try simp only [bo] at hif) <;> (try simp -implicitDefEqProofs (disch := omega) only [go_sem, hb]) <;> clear hb
   | simp (maxSteps := 1000000) -implicitDefEqProofs (disch := omega) only [go_sem])
 all_goals first | exact absurd ‹false = true› (by decide) | exact absurd ‹true = false› (by decide) | (exfalso; omega) | omega | skip
 refine callp (gIn_spec g.sc 0 100) ?_
 try simp (maxSteps := 1000000) -implicitDefEqProofs (disch := omega) only [go_sem]
 unfold gaugeR
 cases h1 : inR' 0 100 g.sc with
 | false =>
   repeat' (first
     | (with_reducible apply Req_intro); focus (first | omega | assumption | (simp; done))
     | with_reducible (first | apply Req_intro | refine nilT ?_ fun hn => ?_ | apply wk_draw Tryd_mixed | refine drawEnd (by kernel_rfl) ?_)
     | (with_reducible (first | apply condA_if | apply stepDG_ifN | apply stepDG_if | apply stepG_ifN | apply stepG_if)) <;> intro hb <;> (have hif := hb) <;> (try simp only [bo] at hif) <;> (try simp -implicitDefEqProofs (disch := omega) only [go_sem, hb]) <;> clear hb
     | simp (maxSteps := 1000000) -implicitDefEqProofs (disch := omega) only [go_sem])
   all_goals first | exact absurd ‹false = true› (by decide) | exact absurd ‹true = false› (by decide) | (exfalso; omega) | omega | skip
   refine ret_do ?_
   rfl
 | true =>
   repeat' (first
     | (with_reducible apply Req_intro); focus (first | omega | assumption | (simp; done))
     | with_reducible (first | apply Req_intro | refine nilT ?_ fun hn => ?_ | apply wk_draw Tryd_mixed | refine drawEnd (by kernel_rfl) ?_)
     | (with_reducible (first | apply condA_if | apply stepDG_ifN | apply stepDG_if | apply stepG_ifN | apply stepG_if)) <;> intro hb <;> (have hif := hb) <;> (try simp only [bo] at hif) <;> (try simp -implicitDefEqProofs (disch := omega) only [go_sem, hb]) <;> clear hb
     | simp (maxSteps := 1000000) -implicitDefEqProofs (disch := omega) only [go_sem])
   all_goals first | exact absurd ‹false = true› (by decide) | exact absurd ‹true = false› (by decide) | (exfalso; omega) | omega | skip
   refine callp (gIn_spec g.ga 0 100) ?_
   try simp (maxSteps := 1000000) -implicitDefEqProofs (disch := omega) only [go_sem]
   cases h2 : inR' 0 100 g.ga with
   | false =>
     repeat' (first
       | (with_reducible apply Req_intro); focus (first | omega | assumption | (simp; done))
       | with_reducible (first | apply Req_intro | refine nilT ?_ fun hn => ?_ | apply wk_draw Tryd_mixed | refine drawEnd (by kernel_rfl) ?_)
       | (with_reducible (first | apply condA_if | apply stepDG_ifN | apply stepDG_if | apply stepG_ifN | apply stepG_if)) <;> intro hb <;> (have hif := hb) <;> (try simp only [bo] at hif) <;> (try simp -implicitDefEqProofs (disch := omega) only [go_sem, hb]) <;> clear hb
       | simp (maxSteps := 1000000) -implicitDefEqProofs (disch := omega) only [go_sem])
     all_goals first | exact absurd ‹false = true› (by decide) | exact absurd ‹true = false› (by decide) | (exfalso; omega) | omega | skip
     refine ret_do ?_
     rfl
   | true =>
     repeat' (first
       | (with_reducible apply Req_intro); focus (first | omega | assumption | (simp; done))
       | with_reducible (first | apply Req_intro | refine nilT ?_ fun hn => ?_ | apply wk_draw Tryd_mixed | refine drawEnd (by kernel_rfl) ?_)
       | (with_reducible (first | apply condA_if | apply stepDG_ifN | apply stepDG_if | apply stepG_ifN | apply stepG_if)) <;> intro hb <;> (have hif := hb) <;> (try simp only [bo] at hif) <;> (try simp -implicitDefEqProofs (disch := omega) only [go_sem, hb]) <;> clear hb
       | simp (maxSteps := 1000000) -implicitDefEqProofs (disch := omega) only [go_sem])
     all_goals first | exact absurd ‹false = true› (by decide) | exact absurd ‹true = false› (by decide) | (exfalso; omega) | omega | skip
     refine callp (gIn_spec g.we 0 10000) ?_
     try simp (maxSteps := 1000000) -implicitDefEqProofs (disch := omega) only [go_sem]
     cases h3 : inR' 0 10000 g.we with
     | false =>
       repeat' (first
         | (with_reducible apply Req_intro); focus (first | omega | assumption | (simp; done))
         | with_reducible (first | apply Req_intro | refine nilT ?_ fun hn => ?_ | apply wk_draw Tryd_mixed | refine drawEnd (by kernel_rfl) ?_)
         | (with_reducible (first | apply condA_if | apply stepDG_ifN | apply stepDG_if | apply stepG_ifN | apply stepG_if)) <;> intro hb <;> (have hif := hb) <;> (try simp only [bo] at hif) <;> (try simp -implicitDefEqProofs (disch := omega) only [go_sem, hb]) <;> clear hb
         | simp (maxSteps := 1000000) -implicitDefEqProofs (disch := omega) only [go_sem])
       all_goals first | exact absurd ‹false = true› (by decide) | exact absurd ‹true = false› (by decide) | (exfalso; omega) | omega | skip
       refine ret_do ?_
       rfl
     | true =>
       repeat' (first
         | (with_reducible apply Req_intro); focus (first | omega | assumption | (simp; done))
         | with_reducible (first | apply Req_intro | refine nilT ?_ fun hn => ?_ | apply wk_draw Tryd_mixed | refine drawEnd (by kernel_rfl) ?_)
         | (with_reducible (first | apply condA_if | apply stepDG_ifN | apply stepDG_if | apply stepG_ifN | apply stepG_if)) <;> intro hb <;> (have hif := hb) <;> (try simp only [bo] at hif) <;> (try simp -implicitDefEqProofs (disch := omega) only [go_sem, hb]) <;> clear hb
         | simp (maxSteps := 1000000) -implicitDefEqProofs (disch := omega) only [go_sem])
       all_goals first | exact absurd ‹false = true› (by decide) | exact absurd ‹true = false› (by decide) | (exfalso; omega) | omega | skip
       refine callp (gIn_spec g.cu 0 500) ?_
       try simp (maxSteps := 1000000) -implicitDefEqProofs (disch := omega) only [go_sem]
       repeat' (first
         | (with_reducible apply Req_intro); focus (first | omega | assumption | (simp; done))
         | with_reducible (first | apply Req_intro | refine nilT ?_ fun hn => ?_ | apply wk_draw Tryd_mixed | refine drawEnd (by kernel_rfl) ?_)
         | (with_reducible (first | apply condA_if | apply stepDG_ifN | apply stepDG_if | apply stepG_ifN | apply stepG_if)) <;> intro hb <;> (have hif := hb) <;> (try simp only [bo] at hif) <;> (try simp -implicitDefEqProofs (disch := omega) only [go_sem, hb]) <;> clear hb
         | simp (maxSteps := 1000000) -implicitDefEqProofs (disch := omega) only [go_sem])
       all_goals first | exact absurd ‹false = true› (by decide) | exact absurd ‹true = false› (by decide) | (exfalso; omega) | omega | skip
       refine ret_do ?_
       rfl
def formR (l : List Grd) : Int := if l.any (otherR l) then 4 else if l.any noneR then 2 else 0
theorem form_chk (g : Gau) (l : List Grd) : chkR g l = if formR l = 0 then (if gaugeR g then 0 else 3) else formR l := by
 unfold chkR formR
 split
 · rfl
 · split
   · rfl
   · rfl
theorem rForm_spec (l : List Grd) (e : Bool) (hl : l.length ≤ 4611686018427387904) (hlc : ∀ x ∈ l, x.2.length ≤ 4611686018427387904) : Ct Tryd.prog 19 [.sl 2 (l.map encGd) e] (int (formR l)) := by
 refine fn_enter Tryd.func19 rfl (by decide) Tryd.results19 Tryd.ntmps19 ?_ rfl (by simp (maxSteps := 1000000) -implicitDefEqProofs (disch := omega) only [go_sem]; rfl) fun base => ?_
 · first | assumption | (simp only [go_sem] <;> assumption) | (simp only [go_sem, *]; done) | (simp [go_sem]; done)
 repeat' (first
   | (with_reducible apply Req_intro); focus (first | omega | assumption | (simp; done))
   | with_reducible (first | apply Req_intro | refine nilT ?_ fun hn => ?_ | apply wk_draw Tryd_mixed | refine drawEnd (by kernel_rfl) ?_)
   | (with_reducible (first | apply condA_if | apply stepDG_ifN | apply stepDG_if | apply stepG_ifN | apply stepG_if)) <;> intro hb <;> (have hif := hb) <;> (try simp only [bo] at hif) <;> (try simp -implicitDefEqProofs (disch := omega) only [go_sem, hb]) <;> clear hb
   | simp (maxSteps := 1000000) -implicitDefEqProofs (disch := omega) only [go_sem])
 refine loop_at (α := Nat) [2, 3, 6, 7, 8, 9, 10, 11, 12, 13, 14, 15, 16, 17, 18, 19, 20, 21, 22, 23, 24, 25, 26, 27, 28, 29, 30, 31, 32, 33] (fun i => [(3, .lit (.int .i64 i))]) (fun i => i ≤ l.length ∧ ∀ j, j < i → otherR l (l.getD j default) = false) (fun i => l.length - i) 0 (fun x => by simp (maxSteps := 1000000) -implicitDefEqProofs (disch := omega) only [go_sem]; rfl) ?_ ?_ fun x hx => ?_
 · exact weak_do []
 · exact ⟨Nat.zero_le _, fun j hj => absurd hj (Nat.not_lt_zero _)⟩
 obtain ⟨hi, hp⟩ := hx
 by_cases hlt : x < l.length
 · have hcl := hlc _ (getD_mem hlt)
   have hc0 := hlc _ (getD_mem (show 0 < l.length by omega))
   have hbad : otherR l (l.getD x default) = true → formR l = 4 := fun h => by
     rw [formR, if_pos (List.any_eq_true.2 ⟨_, getD_mem hlt, h⟩)]
   have hot : otherR l (l.getD x default) = (!inR' 1 4 (l.getD x default).2.length || (((l.getD x default).2.length : Int) != ((l.getD 0 default).2.length : Int))) := rfl
   rw [hot] at hbad
   repeat' (first
     | (with_reducible apply Req_intro); focus (first | omega | assumption | (simp; done))
     | with_reducible (first | apply Req_intro | refine nilT ?_ fun hn => ?_ | apply wk_draw Tryd_mixed | refine drawEnd (by kernel_rfl) ?_)
     | (with_reducible (first | apply condA_if | apply stepDG_ifN | apply stepDG_if | apply stepG_ifN | apply stepG_if)) <;> intro hb <;> (have hif := hb) <;> (try simp only [bo] at hif) <;> (try simp -implicitDefEqProofs (disch := omega) only [go_sem, hb]) <;> clear hb
     | simp (maxSteps := 1000000) -implicitDefEqProofs (disch := omega) only [go_sem])
   all_goals first | exact absurd ‹false = true› (by decide) | exact absurd ‹true = false› (by decide) | (exfalso; omega) | omega | skip
   refine calld (gIn_spec _ 1 4) ?_
   try simp (maxSteps := 1000000) -implicitDefEqProofs (disch := omega) only [go_sem]
   cases h1 : inR' 1 4 ((l.getD x default).2.length : Int) with
   | false =>
     repeat' (first
       | (with_reducible apply Req_intro); focus (first | omega | assumption | (simp; done))
       | with_reducible (first | apply Req_intro | refine nilT ?_ fun hn => ?_ | apply wk_draw Tryd_mixed | refine drawEnd (by kernel_rfl) ?_)
       | (with_reducible (first | apply condA_if | apply stepDG_ifN | apply stepDG_if | apply stepG_ifN | apply stepG_if)) <;> intro hb <;> (have hif := hb) <;> (try simp only [bo] at hif) <;> (try simp -implicitDefEqProofs (disch := omega) only [go_sem, hb]) <;> clear hb
       | simp (maxSteps := 1000000) -implicitDefEqProofs (disch := omega) only [go_sem])
     all_goals first | exact absurd ‹false = true› (by decide) | exact absurd ‹true = false› (by decide) | (exfalso; omega) | omega | skip
     refine ret_do ?_
     rw [hbad (by rw [h1]; rfl)]; rfl
   | true =>
     repeat' (first
       | (with_reducible apply Req_intro); focus (first | omega | assumption | (simp; done))
       | with_reducible (first | apply Req_intro | refine nilT ?_ fun hn => ?_ | apply wk_draw Tryd_mixed | refine drawEnd (by kernel_rfl) ?_)
       | (with_reducible (first | apply condA_if | apply stepDG_ifN | apply stepDG_if | apply stepG_ifN | apply stepG_if)) <;> intro hb <;> (have hif := hb) <;> (try simp only [bo] at hif) <;> (try simp -implicitDefEqProofs (disch := omega) only [go_sem, hb]) <;> clear hb
       | simp (maxSteps := 1000000) -implicitDefEqProofs (disch := omega) only [go_sem])
     all_goals first | exact absurd ‹false = true› (by decide) | exact absurd ‹true = false› (by decide) | (exfalso; omega) | omega | skip
     · refine ret_do ?_
       rw [hbad (by rw [h1, bne_iff_ne.2 (by omega)]; rfl)]; rfl
     · refine nxt_w (x + 1) (weak_do []) ?_
       try dsimp only
       refine ⟨by omega, fun j hj => ?_⟩
       rcases Nat.lt_succ_iff_lt_or_eq.1 hj with h | rfl
       · exact hp j h
       · rw [hot, h1, Bool.not_true, Bool.false_or, bne_eq_false_iff_eq]; omega
 · obtain rfl : x = l.length := by omega
   clear hlt
   have hno : ¬ l.any (otherR l) = true := by
     rw [List.any_eq_true]
     rintro ⟨y, hy, hh⟩
     obtain ⟨j, hj, rfl⟩ := List.getElem_of_mem hy
     have := hp j hj
     rw [getD_default hj] at this
     rw [this] at hh; cases hh
   clear hp
   have hf : formR l = if l.any noneR then 2 else 0 := by rw [formR, if_neg hno]
   repeat' (first
     | (with_reducible apply Req_intro); focus (first | omega | assumption | (simp; done))
     | with_reducible (first | apply Req_intro | refine nilT ?_ fun hn => ?_ | apply wk_draw Tryd_mixed | refine drawEnd (by kernel_rfl) ?_)
     | (with_reducible (first | apply condA_if | apply stepDG_ifN | apply stepDG_if | apply stepG_ifN | apply stepG_if)) <;> intro hb <;> (have hif := hb) <;> (try simp only [bo] at hif) <;> (try simp -implicitDefEqProofs (disch := omega) only [go_sem, hb]) <;> clear hb
     | simp (maxSteps := 1000000) -implicitDefEqProofs (disch := omega) only [go_sem])
   all_goals first | exact absurd ‹false = true› (by decide) | exact absurd ‹true = false› (by decide) | (exfalso; omega) | omega | skip
   refine loop_at (α := Nat) [2, 4, 5, 34, 35, 36, 37, 38, 39, 40, 41, 42, 43, 44, 45, 46, 47, 48, 49, 50, 51, 52, 53, 54, 55, 56, 57, 58, 59, 60, 61, 62, 63, 64, 65, 66] (fun i => [(4, .lit (.int .i64 i))]) (fun i => i ≤ l.length ∧ ∀ j, j < i → noneR (l.getD j default) = false) (fun i => l.length - i) 0 (fun x => by simp (maxSteps := 1000000) -implicitDefEqProofs (disch := omega) only [go_sem]; rfl) ?_ ?_ fun x hx => ?_
   · exact weak_do []
   · exact ⟨Nat.zero_le _, fun j hj => absurd hj (Nat.not_lt_zero _)⟩
   obtain ⟨hi, hp⟩ := hx
   rename Nat => ox
   by_cases hlt : ox < l.length
   · have hcl := hlc _ (getD_mem hlt)
     have hbad : noneR (l.getD ox default) = true → formR l = 2 := fun h => by
       rw [hf, if_pos (List.any_eq_true.2 ⟨_, getD_mem hlt, h⟩)]
     have hnn : noneR (l.getD ox default) = (!inR' 1 10000 (l.getD ox default).1 || !(l.getD ox default).2.all (inR' 0 500)) := rfl
     rw [hnn] at hbad
     repeat' (first
       | (with_reducible apply Req_intro); focus (first | omega | assumption | (simp; done))
       | with_reducible (first | apply Req_intro | refine nilT ?_ fun hn => ?_ | apply wk_draw Tryd_mixed | refine drawEnd (by kernel_rfl) ?_)
       | (with_reducible (first | apply condA_if | apply stepDG_ifN | apply stepDG_if | apply stepG_ifN | apply stepG_if)) <;> intro hb <;> (have hif := hb) <;> (try simp only [bo] at hif) <;> (try simp -implicitDefEqProofs (disch := omega) only [go_sem, hb]) <;> clear hb
       | simp (maxSteps := 1000000) -implicitDefEqProofs (disch := omega) only [go_sem])
     all_goals first | exact absurd ‹false = true› (by decide) | exact absurd ‹true = false› (by decide) | (exfalso; omega) | omega | skip
     refine callp (gIn_spec _ 1 10000) ?_
     try simp (maxSteps := 1000000) -implicitDefEqProofs (disch := omega) only [go_sem]
     cases h1 : inR' 1 10000 (l.getD ox default).1 with
     | false =>
       repeat' (first
         | (with_reducible apply Req_intro); focus (first | omega | assumption | (simp; done))
         | with_reducible (first | apply Req_intro | refine nilT ?_ fun hn => ?_ | apply wk_draw Tryd_mixed | refine drawEnd (by kernel_rfl) ?_)
         | (with_reducible (first | apply condA_if | apply stepDG_ifN | apply stepDG_if | apply stepG_ifN | apply stepG_if)) <;> intro hb <;> (have hif := hb) <;> (try simp only [bo] at hif) <;> (try simp -implicitDefEqProofs (disch := omega) only [go_sem, hb]) <;> clear hb
         | simp (maxSteps := 1000000) -implicitDefEqProofs (disch := omega) only [go_sem])
       all_goals first | exact absurd ‹false = true› (by decide) | exact absurd ‹true = false› (by decide) | (exfalso; omega) | omega | skip
       refine ret_do ?_
       rw [hbad (by rw [h1]; rfl)]; rfl
     | true =>
       repeat' (first
         | (with_reducible apply Req_intro); focus (first | omega | assumption | (simp; done))
         | with_reducible (first | apply Req_intro | refine nilT ?_ fun hn => ?_ | apply wk_draw Tryd_mixed | refine drawEnd (by kernel_rfl) ?_)
         | (with_reducible (first | apply condA_if | apply stepDG_ifN | apply stepDG_if | apply stepG_ifN | apply stepG_if)) <;> intro hb <;> (have hif := hb) <;> (try simp only [bo] at hif) <;> (try simp -implicitDefEqProofs (disch := omega) only [go_sem, hb]) <;> clear hb
         | simp (maxSteps := 1000000) -implicitDefEqProofs (disch := omega) only [go_sem])
       all_goals first | exact absurd ‹false = true› (by decide) | exact absurd ‹true = false› (by decide) | (exfalso; omega) | omega | skip
       refine loop_at (α := Nat) [2, 5, 47, 48, 49, 50, 51, 52, 53, 54, 55, 56, 57, 58, 59, 60, 61, 62, 63, 64, 65, 66] (fun i => [(5, .lit (.int .i64 i))]) (fun i => i ≤ (l.getD ox default).2.length ∧ ∀ j, j < i → inR' 0 500 ((l.getD ox default).2.getD j default) = true) (fun i => (l.getD ox default).2.length - i) 0 (fun x => by simp (maxSteps := 1000000) -implicitDefEqProofs (disch := omega) only [go_sem]; rfl) ?_ ?_ fun x hx => ?_
       · exact weak_do []
       · exact ⟨Nat.zero_le _, fun j hj => absurd hj (Nat.not_lt_zero _)⟩
       obtain ⟨hi2, hp2⟩ := hx
       by_cases hlt2 : x < (l.getD ox default).2.length
       · repeat' (first
           | (with_reducible apply Req_intro); focus (first | omega | assumption | (simp; done))
           | with_reducible (first | apply Req_intro | refine nilT ?_ fun hn => ?_ | apply wk_draw Tryd_mixed | refine drawEnd (by kernel_rfl) ?_)
           | (with_reducible (first | apply condA_if | apply stepDG_ifN | apply stepDG_if | apply stepG_ifN | apply stepG_if)) <;> intro hb <;> (have hif := hb) <;> (try simp only [bo] at hif) <;> (try simp -implicitDefEqProofs (disch := omega) only [go_sem, hb]) <;> clear hb
           | simp (maxSteps := 1000000) -implicitDefEqProofs (disch := omega) only [go_sem])
         all_goals first | exact absurd ‹false = true› (by decide) | exact absurd ‹true = false› (by decide) | (exfalso; omega) | omega | skip
         refine callp (gIn_spec _ 0 500) ?_
         try simp (maxSteps := 1000000) -implicitDefEqProofs (disch := omega) only [go_sem]
         cases h2 : inR' 0 500 ((l.getD ox default).2.getD x default) with
         | false =>
           repeat' (first
             | (with_reducible apply Req_intro); focus (first | omega | assumption | (simp; done))
             | with_reducible (first | apply Req_intro | refine nilT ?_ fun hn => ?_ | apply wk_draw Tryd_mixed | refine drawEnd (by kernel_rfl) ?_)
             | (with_reducible (first | apply condA_if | apply stepDG_ifN | apply stepDG_if | apply stepG_ifN | apply stepG_if)) <;> intro hb <;> (have hif := hb) <;> (try simp only [bo] at hif) <;> (try simp -implicitDefEqProofs (disch := omega) only [go_sem, hb]) <;> clear hb
             | simp (maxSteps := 1000000) -implicitDefEqProofs (disch := omega) only [go_sem])
           all_goals first | exact absurd ‹false = true› (by decide) | exact absurd ‹true = false› (by decide) | (exfalso; omega) | omega | skip
           refine ret_do ?_
           rw [hbad (by
             rw [h1, Bool.not_true, Bool.false_or, Bool.not_eq_true', List.all_eq_false]
             exact ⟨_, getD_mem hlt2, by rw [h2]; decide⟩)]; rfl
         | true =>
           repeat' (first
             | (with_reducible apply Req_intro); focus (first | omega | assumption | (simp; done))
             | with_reducible (first | apply Req_intro | refine nilT ?_ fun hn => ?_ | apply wk_draw Tryd_mixed | refine drawEnd (by kernel_rfl) ?_)
             | (with_reducible (first | apply condA_if | apply stepDG_ifN | apply stepDG_if | apply stepG_ifN | apply stepG_if)) <;> intro hb <;> (have hif := hb) <;> (try simp only [bo] at hif) <;> (try simp -implicitDefEqProofs (disch := omega) only [go_sem, hb]) <;> clear hb
             | simp (maxSteps := 1000000) -implicitDefEqProofs (disch := omega) only [go_sem])
           all_goals first | exact absurd ‹false = true› (by decide) | exact absurd ‹true = false› (by decide) | (exfalso; omega) | omega | skip
           refine nxt_w (x + 1) (weak_do []) ?_
           try dsimp only
           refine ⟨by omega, fun j hj => ?_⟩
           rcases Nat.lt_succ_iff_lt_or_eq.1 hj with h | rfl
           · exact hp2 j h
           · exact h2
       · repeat' (first
           | (with_reducible apply Req_intro); focus (first | omega | assumption | (simp; done))
           | with_reducible (first | apply Req_intro | refine nilT ?_ fun hn => ?_ | apply wk_draw Tryd_mixed | refine drawEnd (by kernel_rfl) ?_)
           | (with_reducible (first | apply condA_if | apply stepDG_ifN | apply stepDG_if | apply stepG_ifN | apply stepG_if)) <;> intro hb <;> (have hif := hb) <;> (try simp only [bo] at hif) <;> (try simp -implicitDefEqProofs (disch := omega) only [go_sem, hb]) <;> clear hb
           | simp (maxSteps := 1000000) -implicitDefEqProofs (disch := omega) only [go_sem])
         all_goals first | exact absurd ‹false = true› (by decide) | exact absurd ‹true = false› (by decide) | (exfalso; omega) | omega | skip
         refine nxt_w (ox + 1) (weak_do []) ?_
         try dsimp only
         refine ⟨by omega, fun j hj => ?_⟩
         rcases Nat.lt_succ_iff_lt_or_eq.1 hj with h | rfl
         · exact hp j h
         · rw [hnn, h1, Bool.not_true, Bool.false_or, Bool.not_eq_false', List.all_eq_true]
           intro v hv
           obtain ⟨q, hq, rfl⟩ := List.getElem_of_mem hv
           have := hp2 q (by omega)
           rwa [getD_default hq] at this
   · obtain rfl : ox = l.length := by omega
     have hno2 : ¬ l.any noneR = true := by
       rw [List.any_eq_true]
       rintro ⟨y, hy, hh⟩
       obtain ⟨j, hj, rfl⟩ := List.getElem_of_mem hy
       have := hp j hj
       rw [getD_default hj] at this
       rw [this] at hh; cases hh
     repeat' (first
       | (with_reducible apply Req_intro); focus (first | omega | assumption | (simp; done))
       | with_reducible (first | apply Req_intro | refine nilT ?_ fun hn => ?_ | apply wk_draw Tryd_mixed | refine drawEnd (by kernel_rfl) ?_)
       | (with_reducible (first | apply condA_if | apply stepDG_ifN | apply stepDG_if | apply stepG_ifN | apply stepG_if)) <;> intro hb <;> (have hif := hb) <;> (try simp only [bo] at hif) <;> (try simp -implicitDefEqProofs (disch := omega) only [go_sem, hb]) <;> clear hb
       | simp (maxSteps := 1000000) -implicitDefEqProofs (disch := omega) only [go_sem])
     all_goals first | exact absurd ‹false = true› (by decide) | exact absurd ‹true = false› (by decide) | (exfalso; omega) | omega | skip
     refine ret_do ?_
     rw [hf, if_neg hno2]; rfl
end Go.Aw
end
section
set_option maxRecDepth 20000
set_option maxHeartbeats 4000000
namespace Go.Aw
open Go.RowKit Go.Proofs
@[go_sem] theorem take_cat_gd (ls rs : List Grd) (n : Nat) (h : ls.length + rs.length = n) : List.take n (ls.map encGd ++ rs.map encGd) = ls.map encGd ++ rs.map encGd := List.take_of_length_le (by simp; omega)
theorem rCheck_spec (g : Gau) (ls rs : List Grd) (e1 e2 : Bool) (hs : StOk ls rs) : Ct Tryd.prog 28 [encSt ls rs e1 e2, encGa g] (int (checkS g ls rs)) := by
 obtain ⟨h1, h2, h3, h4⟩ := hs
 have hf := rForm_spec (ls ++ rs) false (by rw [List.length_append]; omega) (fun x hx => by
   rcases List.mem_append.1 hx with h | h
   · have := h3 x h; omega
   · have := h4 x h; omega)
 have hch := form_chk g (ls ++ rs)
 have hck : checkS g ls rs = if 8 < ls.length ∨ 8 < rs.length then 5 else chkR g (ls ++ rs) := rfl
 rw [List.map_append] at hf
 generalize formR (ls ++ rs) = fm at *
 refine fn_enter Tryd.func28 rfl (by decide) Tryd.results28 Tryd.ntmps28 ?_ rfl (by simp (maxSteps := 1000000) -implicitDefEqProofs (disch := omega) only [go_sem]; rfl) fun base => ?_
 · first | assumption | (simp only [go_sem] <;> assumption) | (simp only [go_sem, *]; done) | (simp [go_sem]; done)
 repeat' (first
   | (with_reducible apply Req_intro); focus (first | omega | assumption | (simp; done))
   | with_reducible (first | apply Req_intro | refine nilT ?_ fun hn => ?_ | apply wk_draw Tryd_mixed | refine drawEnd (by kernel_rfl) ?_)
   | (with_reducible (first | apply condA_if | apply stepDG_ifN | apply stepDG_if | apply stepG_ifN | apply stepG_if)) <;> intro hb <;> (have hif := hb) <;> (try simp only [bo] at hif) <;> (try simp -implicitDefEqProofs (disch := omega) only [go_sem, hb]) <;> clear hb
   | simp (maxSteps := 1000000) -implicitDefEqProofs (disch := omega) only [go_sem])
 · refine ret_do ?_
   rw [hck, if_pos (by omega)]; rfl
 · refine ret_do ?_
   rw [hck, if_pos (by omega)]; rfl
 rw [if_neg (by omega)] at hck
 refine calldf 1216 hf ?_
 try simp (maxSteps := 1000000) -implicitDefEqProofs (disch := omega) only [go_sem]
 repeat' (first
   | (with_reducible apply Req_intro); focus (first | omega | assumption | (simp; done))
   | with_reducible (first | apply Req_intro | refine nilT ?_ fun hn => ?_ | apply wk_draw Tryd_mixed | refine drawEnd (by kernel_rfl) ?_)
   | (with_reducible (first | apply condA_if | apply stepDG_ifN | apply stepDG_if | apply stepG_ifN | apply stepG_if)) <;> intro hb <;> (have hif := hb) <;> (try simp only [bo] at hif) <;> (try simp -implicitDefEqProofs (disch := omega) only [go_sem, hb]) <;> clear hb
   | simp (maxSteps := 1000000) -implicitDefEqProofs (disch := omega) only [go_sem])
 · refine ret_do ?_
   rw [hck, hch, if_neg hif]; rfl
 rw [hch, if_pos hif] at hck
 refine callp (rGauge_spec g) ?_
 try simp (maxSteps := 1000000) -implicitDefEqProofs (disch := omega) only [go_sem]
 repeat' (first
   | (with_reducible apply Req_intro); focus (first | omega | assumption | (simp; done))
   | with_reducible (first | apply Req_intro | refine nilT ?_ fun hn => ?_ | apply wk_draw Tryd_mixed | refine drawEnd (by kernel_rfl) ?_)
   | (with_reducible (first | apply condA_if | apply stepDG_ifN | apply stepDG_if | apply stepG_ifN | apply stepG_if)) <;> intro hb <;> (have hif := hb) <;> (try simp only [bo] at hif) <;> (try simp -implicitDefEqProofs (disch := omega) only [go_sem, hb]) <;> clear hb
   | simp (maxSteps := 1000000) -implicitDefEqProofs (disch := omega) only [go_sem])
 all_goals first | exact absurd ‹false = true› (by decide) | exact absurd ‹true = false› (by decide) | (exfalso; omega) | omega | skip
 · refine ret_do ?_
   rw [hck, hif]; rfl
 · refine ret_do ?_
   rw [hck, hif]; rfl
theorem rCopy_spec (l : List Grd) (e : Bool) (hl : l.length ≤ 1000) (hlc : ∀ x ∈ l, x.2.length ≤ 1000) : Ct Tryd.prog 16 [.sl 2 (l.map encGd) e] (.sl 2 (l.map encGd) false) := by
 refine fn_enter Tryd.func16 rfl (by decide) Tryd.results16 Tryd.ntmps16 ?_ rfl (by simp (maxSteps := 1000000) -implicitDefEqProofs (disch := omega) only [go_sem]; rfl) fun base => ?_
 · first | assumption | (simp only [go_sem] <;> assumption) | (simp only [go_sem, *]; done) | (simp [go_sem]; done)
 repeat' (first
   | (with_reducible apply Req_intro); focus (first | omega | assumption | (simp; done))
   | with_reducible (first | apply Req_intro | refine nilT ?_ fun hn => ?_ | apply wk_draw Tryd_mixed | refine drawEnd (by kernel_rfl) ?_)
   | (with_reducible (first | apply condA_if | apply stepDG_ifN | apply stepDG_if | apply stepG_ifN | apply stepG_if)) <;> intro hb <;> (have hif := hb) <;> (try simp only [bo] at hif) <;> (try simp -implicitDefEqProofs (disch := omega) only [go_sem, hb]) <;> clear hb
   | simp (maxSteps := 1000000) -implicitDefEqProofs (disch := omega) only [go_sem])
 refine loop_rows (α := Nat) [3, 4, 6, 7, 8, 9, 10, 11, 12, 13, 14, 15, 16, 17, 18, 19, 20, 21, 22, 23, 24, 25, 26, 27] (fun i => [(4, .lit (.int .i64 i)), (3, .os 65 2 i false), (5, .undef)]) (fun i => [(65, some ⟨2, (l.take i).map encGd, 24, .wr⟩)]) (fun i => i ≤ l.length) (fun i => l.length - i) 0 (fun x => by simp (maxSteps := 1000000) -implicitDefEqProofs (disch := omega) only [go_sem]; rfl) ?_ ?_ fun x hx => ?_
 · simp only [List.take_zero, List.map_nil]
   exact weak_do3 [(65, 64)]
 · exact Nat.zero_le _
 have htl : (l.take x).length = x := by rw [List.length_take]; omega
 by_cases hlt : x < l.length
 · have hcl := hlc _ (getD_mem hlt)
   repeat' (first
     | (with_reducible apply Req_intro); focus (first | omega | assumption | (simp; done))
     | with_reducible (first | apply Req_intro | refine nilT ?_ fun hn => ?_ | apply wk_draw Tryd_mixed | refine drawEnd (by kernel_rfl) ?_)
     | (with_reducible (first | apply condA_if | apply stepDG_ifN | apply stepDG_if | apply stepG_ifN | apply stepG_if)) <;> intro hb <;> (have hif := hb) <;> (try simp only [bo] at hif) <;> (try simp -implicitDefEqProofs (disch := omega) only [go_sem, hb]) <;> clear hb
     | simp (maxSteps := 1000000) -implicitDefEqProofs (disch := omega) only [go_sem])
   all_goals first | exact absurd ‹false = true› (by decide) | exact absurd ‹true = false› (by decide) | (exfalso; omega) | omega | skip
   have ht := take_succ_getD hlt
   generalize l.getD x default = b at *
   refine nxt_snapRow [1280] 1472 (es' := (l.take x).map encGd ++ [encGd b]) (by first | (simp only [go_sem]; done) | (simp only [go_sem]; rfl)) (by rfl) ?_ (by first | assumption | (simp only [go_sem] <;> assumption) | (simp only [go_sem, *]; done) | (simp [go_sem]; done)) (by first | (simp only [go_sem]; done) | (simp only [go_sem]; rfl)) ?_
   · refine PurE.snocR (by first | assumption | (simp only [go_sem] <;> assumption) | (simp only [go_sem, *]; done) | (simp [go_sem]; done)) ?_
     rw [show encGd b = [.lit (.int .i64 b.1), .sl 1 (b.2.map encI) false] from rfl]
     (try simp (maxSteps := 1000000) -implicitDefEqProofs (disch := omega) only [go_sem])
     repeat' (first
       | with_reducible (first | exact PurI.nil | exact Pur.nilsl _ _ | exact PurE.nil)
       | (with_reducible (first | refine PurI.puL ?_ | refine PurE.puE ?_)) <;> (first | assumption | (simp only [go_sem] <;> assumption) | (simp only [go_sem, *]; done) | (simp [go_sem]; done))
       | with_reducible apply PurI.cons
       | (with_reducible refine Pur.pu _ ?_) <;> (first | assumption | (simp only [go_sem] <;> assumption) | (simp only [go_sem, *]; done) | (simp [go_sem]; done))
       | ((with_reducible apply Pur.refR) <;> (first | rfl | decide | (simp only [go_sem]; omega) | (simp only [go_sem]) | skip))
       | ((with_reducible apply Pur.osR) <;> (first | rfl | exact fun h => h | omega | (simp; omega) | (simp; done) | (simp only [go_sem]) | skip))
       | with_reducible (first | apply Pur.fnI | apply Pur.aggI | apply PurE.cons)
       | (with_reducible refine PurI.eqL ?_ ?_); (focus rfl); (focus (first | assumption | (simp only [go_sem] <;> assumption) | (simp only [go_sem, *]; done) | (simp [go_sem]; done)))
       | simp (maxSteps := 1000000) -implicitDefEqProofs (disch := omega) only [go_sem])
   with_reducible refine nxt_w (x + 1) ?_ ?_
   · (try dsimp only)
     rw [ht, List.map_append]
     exact weak_do3 [(65, 1472)]
   try dsimp only
   omega
 · obtain rfl : x = l.length := by omega
   rw [List.take_length]
   repeat' (first
     | (with_reducible apply Req_intro); focus (first | omega | assumption | (simp; done))
     | with_reducible (first | apply Req_intro | refine nilT ?_ fun hn => ?_ | apply wk_draw Tryd_mixed | refine drawEnd (by kernel_rfl) ?_)
     | (with_reducible (first | apply condA_if | apply stepDG_ifN | apply stepDG_if | apply stepG_ifN | apply stepG_if)) <;> intro hb <;> (have hif := hb) <;> (try simp only [bo] at hif) <;> (try simp -implicitDefEqProofs (disch := omega) only [go_sem, hb]) <;> clear hb
     | simp (maxSteps := 1000000) -implicitDefEqProofs (disch := omega) only [go_sem])
   all_goals first | exact absurd ‹false = true› (by decide) | exact absurd ‹true = false› (by decide) | (exfalso; omega) | omega | skip
   exact retf [65] [2] [.sl 2 (l.map encGd) false]
theorem rSame_spec (a b : List Grd) (ea eb : Bool) (ha : a.length ≤ 1000) (hb : b.length ≤ 1000) (hac : ∀ x ∈ a, x.2.length ≤ 1000) (hbc : ∀ x ∈ b, x.2.length ≤ 1000) : Ct Tryd.prog 18 [.sl 2 (a.map encGd) ea, .sl 2 (b.map encGd) eb] (.lit (.bool (a == b))) := by
 refine fn_enter Tryd.func18 rfl (by decide) Tryd.results18 Tryd.ntmps18 ?_ rfl (by simp (maxSteps := 1000000) -implicitDefEqProofs (disch := omega) only [go_sem]; rfl) fun base => ?_
 · first | assumption | (simp only [go_sem] <;> assumption) | (simp only [go_sem, *]; done) | (simp [go_sem]; done)
 repeat' (first
   | (with_reducible apply Req_intro); focus (first | omega | assumption | (simp; done))
   | with_reducible (first | apply Req_intro | refine nilT ?_ fun hn => ?_ | apply wk_draw Tryd_mixed | refine drawEnd (by kernel_rfl) ?_)
   | (with_reducible (first | apply condA_if | apply stepDG_ifN | apply stepDG_if | apply stepG_ifN | apply stepG_if)) <;> intro hb <;> (have hif := hb) <;> (try simp only [bo] at hif) <;> (try simp -implicitDefEqProofs (disch := omega) only [go_sem, hb]) <;> clear hb
   | simp (maxSteps := 1000000) -implicitDefEqProofs (disch := omega) only [go_sem])
 · refine ret_do ?_
   have : (a == b) = false := by rw [beq_eq_false_iff_ne]; intro e; subst e; exact hif rfl
   rw [this]; rfl
 refine loop_at (α := Nat) [4, 5, 11, 12, 13, 14, 15, 16, 17, 18, 19, 20, 21, 22, 23, 24, 25, 26, 27, 28, 29, 30, 31, 32, 33, 34, 35, 36, 37, 38, 39, 40, 41] (fun i => [(5, .lit (.int .i64 i))]) (fun i => i ≤ a.length ∧ a.take i = b.take i) (fun i => a.length - i) 0 (fun x => by simp (maxSteps := 1000000) -implicitDefEqProofs (disch := omega) only [go_sem]; rfl) ?_ ?_ fun x hx => ?_
 · exact weak_do []
 · simp
 obtain ⟨hi, he⟩ := hx
 by_cases hlt : x < a.length
 · have h1 := hac _ (getD_mem hlt)
   have h2 := hbc _ (getD_mem (l := b) (i := x) (by omega))
   have hno : a.getD x default ≠ b.getD x default → (a == b) = false := fun h => by rw [beq_eq_false_iff_ne]; intro e; subst e; exact h rfl
   have hin := rInts_spec (a.getD x default).2 (b.getD x default).2 false false (by omega) (by omega)
   repeat' (first
     | (with_reducible apply Req_intro); focus (first | omega | assumption | (simp; done))
     | with_reducible (first | apply Req_intro | refine nilT ?_ fun hn => ?_ | apply wk_draw Tryd_mixed | refine drawEnd (by kernel_rfl) ?_)
     | (with_reducible (first | apply condA_if | apply stepDG_ifN | apply stepDG_if | apply stepG_ifN | apply stepG_if)) <;> intro hb <;> (have hif := hb) <;> (try simp only [bo] at hif) <;> (try simp -implicitDefEqProofs (disch := omega) only [go_sem, hb]) <;> clear hb
     | simp (maxSteps := 1000000) -implicitDefEqProofs (disch := omega) only [go_sem])
   all_goals first | exact absurd ‹false = true› (by decide) | exact absurd ‹true = false› (by decide) | (exfalso; omega) | omega | skip
   · refine ret_do ?_
     rw [hno (fun e => hif (by rw [e]))]; rfl
   · refine calld hin ?_
     try simp (maxSteps := 1000000) -implicitDefEqProofs (disch := omega) only [go_sem]
     repeat' (first
       | (with_reducible apply Req_intro); focus (first | omega | assumption | (simp; done))
       | with_reducible (first | apply Req_intro | refine nilT ?_ fun hn => ?_ | apply wk_draw Tryd_mixed | refine drawEnd (by kernel_rfl) ?_)
       | (with_reducible (first | apply condA_if | apply stepDG_ifN | apply stepDG_if | apply stepG_ifN | apply stepG_if)) <;> intro hb <;> (have hif := hb) <;> (try simp only [bo] at hif) <;> (try simp -implicitDefEqProofs (disch := omega) only [go_sem, hb]) <;> clear hb
       | simp (maxSteps := 1000000) -implicitDefEqProofs (disch := omega) only [go_sem])
     all_goals first | exact absurd ‹false = true› (by decide) | exact absurd ‹true = false› (by decide) | (exfalso; omega) | omega | skip
     · refine ret_do ?_
       rw [hno (fun e => by rw [e] at hif; simp at hif)]; rfl
     · refine nxt_w (x + 1) (weak_do []) ?_
       try dsimp only
       refine ⟨by omega, ?_⟩
       rw [take_succ_getD (by omega), take_succ_getD (by omega), he, show a.getD x default = b.getD x default from Prod.ext (by assumption) (by simpa using hif)]
 · repeat' (first
     | (with_reducible apply Req_intro); focus (first | omega | assumption | (simp; done))
     | with_reducible (first | apply Req_intro | refine nilT ?_ fun hn => ?_ | apply wk_draw Tryd_mixed | refine drawEnd (by kernel_rfl) ?_)
     | (with_reducible (first | apply condA_if | apply stepDG_ifN | apply stepDG_if | apply stepG_ifN | apply stepG_if)) <;> intro hb <;> (have hif := hb) <;> (try simp only [bo] at hif) <;> (try simp -implicitDefEqProofs (disch := omega) only [go_sem, hb]) <;> clear hb
     | simp (maxSteps := 1000000) -implicitDefEqProofs (disch := omega) only [go_sem])
   all_goals first | exact absurd ‹false = true› (by decide) | exact absurd ‹true = false› (by decide) | (exfalso; omega) | omega | skip
   refine ret_do ?_
   have : a = b := by
     rw [List.take_of_length_le (by omega), List.take_of_length_le (by omega)] at he; exact he
   subst this; simp; rfl
theorem own_spec (ls rs : List Grd) (e1 e2 : Bool) (hs : StOk ls rs) : Ct Tryd.prog 24 [encSt ls rs e1 e2] (encSt ls rs false false) := by
 refine ct_enterZ Tryd.func24 rfl (by decide) Tryd.results24 Tryd.ntmps24 ?_ rfl (by simp (maxSteps := 1000000) -implicitDefEqProofs (disch := omega) only [go_sem]; rfl) fun base => ?_
 · first | assumption | (simp only [go_sem] <;> assumption) | (simp only [go_sem, *]; done) | (simp [go_sem]; done)
 repeat' (first
   | (with_reducible apply Req_intro); focus (first | omega | assumption | (simp; done))
   | with_reducible (first | apply Req_intro | refine nilT ?_ fun hn => ?_ | apply wk_draw Tryd_mixed | refine drawEnd (by kernel_rfl) ?_)
   | (with_reducible (first | apply condA_if | apply stepDG_ifN | apply stepDG_if | apply stepG_ifN | apply stepG_if)) <;> intro hb <;> (have hif := hb) <;> (try simp only [bo] at hif) <;> (try simp -implicitDefEqProofs (disch := omega) only [go_sem, hb]) <;> clear hb
   | simp (maxSteps := 1000000) -implicitDefEqProofs (disch := omega) only [go_sem])
 refine calld (rCopy_spec ls e1 hs.l hs.lc) ?_
 try simp (maxSteps := 1000000) -implicitDefEqProofs (disch := omega) only [go_sem]
 repeat' (first
   | (with_reducible apply Req_intro); focus (first | omega | assumption | (simp; done))
   | with_reducible (first | apply Req_intro | refine nilT ?_ fun hn => ?_ | apply wk_draw Tryd_mixed | refine drawEnd (by kernel_rfl) ?_)
   | (with_reducible (first | apply condA_if | apply stepDG_ifN | apply stepDG_if | apply stepG_ifN | apply stepG_if)) <;> intro hb <;> (have hif := hb) <;> (try simp only [bo] at hif) <;> (try simp -implicitDefEqProofs (disch := omega) only [go_sem, hb]) <;> clear hb
   | simp (maxSteps := 1000000) -implicitDefEqProofs (disch := omega) only [go_sem])
 refine calld (rCopy_spec rs e2 hs.r hs.rc) ?_
 try simp (maxSteps := 1000000) -implicitDefEqProofs (disch := omega) only [go_sem]
 repeat' (first
   | (with_reducible apply Req_intro); focus (first | omega | assumption | (simp; done))
   | with_reducible (first | apply Req_intro | refine nilT ?_ fun hn => ?_ | apply wk_draw Tryd_mixed | refine drawEnd (by kernel_rfl) ?_)
   | (with_reducible (first | apply condA_if | apply stepDG_ifN | apply stepDG_if | apply stepG_ifN | apply stepG_if)) <;> intro hb <;> (have hif := hb) <;> (try simp only [bo] at hif) <;> (try simp -implicitDefEqProofs (disch := omega) only [go_sem, hb]) <;> clear hb
   | simp (maxSteps := 1000000) -implicitDefEqProofs (disch := omega) only [go_sem])
 exact retz []
theorem same_spec (ls rs : List Grd) (e1 e2 e3 e4 : Bool) (hs : StOk ls rs) : Ct Tryd.prog 29 [encSt ls rs e1 e2, encSt ls rs e3 e4] (.lit (.bool true)) := by
 have h1 := rSame_spec ls ls e1 e3 hs.l hs.l hs.lc hs.lc
 have h2 := rSame_spec rs rs e2 e4 hs.r hs.r hs.rc hs.rc
 rw [beq_self_eq_true] at h1 h2
 refine fn_enter Tryd.func29 rfl (by decide) Tryd.results29 Tryd.ntmps29 ?_ rfl (by simp (maxSteps := 1000000) -implicitDefEqProofs (disch := omega) only [go_sem]; rfl) fun base => ?_
 · first | assumption | (simp only [go_sem] <;> assumption) | (simp only [go_sem, *]; done) | (simp [go_sem]; done)
 repeat' (first
   | (with_reducible apply Req_intro); focus (first | omega | assumption | (simp; done))
   | with_reducible (first | apply Req_intro | refine nilT ?_ fun hn => ?_ | apply wk_draw Tryd_mixed | refine drawEnd (by kernel_rfl) ?_)
   | (with_reducible (first | apply condA_if | apply stepDG_ifN | apply stepDG_if | apply stepG_ifN | apply stepG_if)) <;> intro hb <;> (have hif := hb) <;> (try simp only [bo] at hif) <;> (try simp -implicitDefEqProofs (disch := omega) only [go_sem, hb]) <;> clear hb
   | simp (maxSteps := 1000000) -implicitDefEqProofs (disch := omega) only [go_sem])
 refine callp h1 ?_
 try simp (maxSteps := 1000000) -implicitDefEqProofs (disch := omega) only [go_sem]
 repeat' (first
   | (with_reducible apply Req_intro); focus (first | omega | assumption | (simp; done))
   | with_reducible (first | apply Req_intro | refine nilT ?_ fun hn => ?_ | apply wk_draw Tryd_mixed | refine drawEnd (by kernel_rfl) ?_)
   | (with_reducible (first | apply condA_if | apply stepDG_ifN | apply stepDG_if | apply stepG_ifN | apply stepG_if)) <;> intro hb <;> (have hif := hb) <;> (try simp only [bo] at hif) <;> (try simp -implicitDefEqProofs (disch := omega) only [go_sem, hb]) <;> clear hb
   | simp (maxSteps := 1000000) -implicitDefEqProofs (disch := omega) only [go_sem])
 all_goals first | exact absurd ‹false = true› (by decide) | exact absurd ‹true = false› (by decide) | (exfalso; omega) | omega | skip
 refine callp h2 ?_
 try simp (maxSteps := 1000000) -implicitDefEqProofs (disch := omega) only [go_sem]
 repeat' (first
   | (with_reducible apply Req_intro); focus (first | omega | assumption | (simp; done))
   | with_reducible (first | apply Req_intro | refine nilT ?_ fun hn => ?_ | apply wk_draw Tryd_mixed | refine drawEnd (by kernel_rfl) ?_)
   | (with_reducible (first | apply condA_if | apply stepDG_ifN | apply stepDG_if | apply stepG_ifN | apply stepG_if)) <;> intro hb <;> (have hif := hb) <;> (try simp only [bo] at hif) <;> (try simp -implicitDefEqProofs (disch := omega) only [go_sem, hb]) <;> clear hb
   | simp (maxSteps := 1000000) -implicitDefEqProofs (disch := omega) only [go_sem])
 all_goals first | exact absurd ‹false = true› (by decide) | exact absurd ‹true = false› (by decide) | (exfalso; omega) | omega | skip
 refine ret_do ?_
 rfl
def sideR (ls rs : List Grd) (k : Nat) : List Grd := if k = 0 then ls else rs
def bigGR (ls rs : List Grd) : Bool := decide (12 < ls.length) || decide (12 < rs.length) || (ls.any fun x => decide (8 < x.2.length)) || (rs.any fun x => decide (8 < x.2.length))
def largeG (g : Gau) (ls rs : List Grd) (most : Int) : Bool :=
 (List.range 2).any (fun k => ((sideR ls rs k).take 13).any (fun x => decide (8 < x.2.length)) || decide (12 < (sideR ls rs k).length)) || decide (most < max (ls.length : Int) rs.length) && (checkS g ls rs == 0)
theorem large_spec06 (g : Gau) (ls rs : List Grd) (most : Int) (e1 e2 : Bool) (hl : ls.length ≤ 4611686018427387904) (hr : rs.length ≤ 4611686018427387904) (hlc : ∀ x ∈ ls, x.2.length ≤ 4611686018427387904) (hrc : ∀ x ∈ rs, x.2.length ≤ 4611686018427387904) :
   Ct Tryd.prog 23 [encSt ls rs e1 e2, encGa g, int most] (.lit (.bool (largeG g ls rs most))) := by
 have hbad : ∀ k, k < 2 → (((sideR ls rs k).take 13).any (fun x => decide (8 < x.2.length)) || decide (12 < (sideR ls rs k).length)) = true → largeG g ls rs most = true := fun k hk h => by
   unfold largeG
   rw [Bool.or_eq_true]; left
   exact List.any_eq_true.2 ⟨k, List.mem_range.2 hk, h⟩
 refine fn_enter Tryd.func23 rfl (by decide) Tryd.results23 Tryd.ntmps23 ?_ rfl (by simp (maxSteps := 1000000) -implicitDefEqProofs (disch := omega) only [go_sem]; rfl) fun base => ?_
 · first | assumption | (simp only [go_sem] <;> assumption) | (simp only [go_sem, *]; done) | (simp [go_sem]; done)
 repeat' (first
   | (with_reducible apply Req_intro); focus (first | omega | assumption | (simp; done))
   | with_reducible (first | apply Req_intro | refine nilT ?_ fun hn => ?_ | apply wk_draw Tryd_mixed | refine drawEnd (by kernel_rfl) ?_)
   | (with_reducible (first | apply condA_if | apply stepDG_ifN | apply stepDG_if | apply stepG_ifN | apply stepG_if)) <;> intro hb <;> (have hif := hb) <;> (try simp only [bo] at hif) <;> (try simp -implicitDefEqProofs (disch := omega) only [go_sem, hb]) <;> clear hb
   | simp (maxSteps := 1000000) -implicitDefEqProofs (disch := omega) only [go_sem])
 refine loop_rows (α := Nat) [6, 7, 8, 9, 10, 11, 12, 13, 14, 15, 16, 17, 18, 19, 20, 21, 22, 23, 24, 25, 26, 27, 28, 29, 30, 31, 32, 33, 34, 35, 36, 37, 38, 39, 40] (fun i => [(7, .lit (.int .i64 i))]) (fun i => [(0, some ⟨2, [[.sl 2 (ls.map encGd) e1, .sl 2 (rs.map encGd) e2]], 38, .wr⟩), (64, some ⟨4, [[int g.sc, int g.ga, int g.we, int g.cu]], 26, .wr⟩)]) (fun i => i ≤ 2 ∧ ∀ k, k < i → (((sideR ls rs k).take 13).any (fun x => decide (8 < x.2.length)) || decide (12 < (sideR ls rs k).length)) = false) (fun i => 2 - i) 0 (fun x => by simp (maxSteps := 1000000) -implicitDefEqProofs (disch := omega) only [go_sem]; rfl) ?_ ?_ fun x hx => ?_
 · exact weak_do3 []
 · exact ⟨by omega, fun k hk => by omega⟩
 obtain ⟨hx2, hxp⟩ := hx
 have h012 : x = 0 ∨ x = 1 ∨ x = 2 := by omega
 rcases h012 with rfl | rfl | rfl
 · have hsd : sideR ls rs 0 = ls := rfl
   have hb0 := hbad 0 (by decide)
   rw [hsd] at hb0
   repeat' (first
     | (with_reducible apply Req_intro); focus (first | omega | assumption | (simp; done))
     | with_reducible (first | apply Req_intro | refine nilT ?_ fun hn => ?_ | apply wk_draw Tryd_mixed | refine drawEnd (by kernel_rfl) ?_)
     | (with_reducible (first | apply condA_if | apply stepDG_ifN | apply stepDG_if | apply stepG_ifN | apply stepG_if)) <;> intro hb <;> (have hif := hb) <;> (try simp only [bo] at hif) <;> (try simp -implicitDefEqProofs (disch := omega) only [go_sem, hb]) <;> clear hb
     | simp (maxSteps := 1000000) -implicitDefEqProofs (disch := omega) only [go_sem])
   all_goals first | exact absurd ‹false = true› (by decide) | exact absurd ‹true = false› (by decide) | (exfalso; omega) | omega | skip
   refine loop_rows (α := Nat) [6, 9, 21, 22, 23, 24, 25, 26, 27, 28, 29, 30, 31, 32, 33, 34, 35, 36, 37] (fun i => [(9, .lit (.int .i64 i)), (8, .sl 2 (ls.map encGd) e1)]) (fun i => [(0, some ⟨2, [[.sl 2 (ls.map encGd) e1, .sl 2 (rs.map encGd) e2]], 38, .wr⟩), (64, some ⟨4, [[int g.sc, int g.ga, int g.we, int g.cu]], 26, .wr⟩)]) (fun i => i ≤ ls.length ∧ i ≤ 13 ∧ ∀ j, j < i → ¬ 8 < (ls.getD j default).2.length) (fun i => ls.length - i) 0 (fun x => by simp (maxSteps := 1000000) -implicitDefEqProofs (disch := omega) only [go_sem]; rfl) ?_ ?_ fun x hx => ?_
   · exact weak_do3 []
   · exact ⟨Nat.zero_le _, by omega, fun k hk => absurd hk (Nat.not_lt_zero _)⟩
   obtain ⟨hx1, hx2, hx3⟩ := hx
   by_cases hlt : x < ls.length ∧ x < 13
   · obtain ⟨hlt1, hlt2⟩ := hlt
     have hcl := hlc _ (getD_mem hlt1)
     repeat' (first
       | (with_reducible apply Req_intro); focus (first | omega | assumption | (simp; done))
       | with_reducible (first | apply Req_intro | refine nilT ?_ fun hn => ?_ | apply wk_draw Tryd_mixed | refine drawEnd (by kernel_rfl) ?_)
       | (with_reducible (first | apply condA_if | apply stepDG_ifN | apply stepDG_if | apply stepG_ifN | apply stepG_if)) <;> intro hb <;> (have hif := hb) <;> (try simp only [bo] at hif) <;> (try simp -implicitDefEqProofs (disch := omega) only [go_sem, hb]) <;> clear hb
       | simp (maxSteps := 1000000) -implicitDefEqProofs (disch := omega) only [go_sem])
     all_goals first | exact absurd ‹false = true› (by decide) | exact absurd ‹true = false› (by decide) | (exfalso; omega) | omega | skip
     · refine ret_do ?_
       rw [hb0 (by
         rw [Bool.or_eq_true, List.any_eq_true]; left
         refine ⟨ls.getD x default, ?_, by simp only [decide_eq_true_eq]; omega⟩
         rw [getD_default hlt1]
         exact List.mem_take_iff_getElem.2 ⟨x, by omega, rfl⟩)]; rfl
     · refine nxt_w (x + 1) (weak_do []) ?_
       try dsimp only
       refine ⟨by omega, by omega, fun j hj => ?_⟩
       rcases Nat.lt_succ_iff_lt_or_eq.1 hj with h | rfl
       · exact hx3 j h
       · omega
   · have hend : ls.length ≤ x ∨ x = 13 := by omega
     repeat' (first
       | (with_reducible apply Req_intro); focus (first | omega | assumption | (simp; done))
       | with_reducible (first | apply Req_intro | refine nilT ?_ fun hn => ?_ | apply wk_draw Tryd_mixed | refine drawEnd (by kernel_rfl) ?_)
       | (with_reducible (first | apply condA_if | apply stepDG_ifN | apply stepDG_if | apply stepG_ifN | apply stepG_if)) <;> intro hb <;> (have hif := hb) <;> (try simp only [bo] at hif) <;> (try simp -implicitDefEqProofs (disch := omega) only [go_sem, hb]) <;> clear hb
       | simp (maxSteps := 1000000) -implicitDefEqProofs (disch := omega) only [go_sem])
     all_goals first | (exfalso; omega) | skip
     all_goals (first
       | (refine ret_do ?_
          rw [hb0 (by rw [Bool.or_eq_true]; right; simp only [decide_eq_true_eq]; omega)]; rfl)
       | (refine nxt_w (0 + 1) (weak_do []) ?_
          try dsimp only
          refine ⟨by omega, fun k hk => ?_⟩
          rcases Nat.lt_succ_iff_lt_or_eq.1 hk with h | rfl
          · omega
          · rw [hsd, Bool.or_eq_false_iff, List.any_eq_false]
            refine ⟨fun y hy => ?_, by simp only [decide_eq_false_iff_not]; omega⟩
            obtain ⟨j, hj, rfl⟩ := List.mem_take_iff_getElem.1 hy
            have := hx3 j (by omega)
            rw [getD_default (by omega)] at this
            simp only [decide_eq_true_eq]; exact this))
 · have hsd : sideR ls rs 1 = rs := rfl
   have hb0 := hbad 1 (by decide)
   rw [hsd] at hb0
   repeat' (first
     | (with_reducible apply Req_intro); focus (first | omega | assumption | (simp; done))
     | with_reducible (first | apply Req_intro | refine nilT ?_ fun hn => ?_ | apply wk_draw Tryd_mixed | refine drawEnd (by kernel_rfl) ?_)
     | (with_reducible (first | apply condA_if | apply stepDG_ifN | apply stepDG_if | apply stepG_ifN | apply stepG_if)) <;> intro hb <;> (have hif := hb) <;> (try simp only [bo] at hif) <;> (try simp -implicitDefEqProofs (disch := omega) only [go_sem, hb]) <;> clear hb
     | simp (maxSteps := 1000000) -implicitDefEqProofs (disch := omega) only [go_sem])
   all_goals first | exact absurd ‹false = true› (by decide) | exact absurd ‹true = false› (by decide) | (exfalso; omega) | omega | skip
   refine loop_rows (α := Nat) [6, 9, 21, 22, 23, 24, 25, 26, 27, 28, 29, 30, 31, 32, 33, 34, 35, 36, 37] (fun i => [(9, .lit (.int .i64 i)), (8, .sl 2 (rs.map encGd) e2)]) (fun i => [(0, some ⟨2, [[.sl 2 (ls.map encGd) e1, .sl 2 (rs.map encGd) e2]], 38, .wr⟩), (64, some ⟨4, [[int g.sc, int g.ga, int g.we, int g.cu]], 26, .wr⟩)]) (fun i => i ≤ rs.length ∧ i ≤ 13 ∧ ∀ j, j < i → ¬ 8 < (rs.getD j default).2.length) (fun i => rs.length - i) 0 (fun x => by simp (maxSteps := 1000000) -implicitDefEqProofs (disch := omega) only [go_sem]; rfl) ?_ ?_ fun x hx => ?_
   · exact weak_do3 []
   · exact ⟨Nat.zero_le _, by omega, fun k hk => absurd hk (Nat.not_lt_zero _)⟩
   obtain ⟨hx1, hx2, hx3⟩ := hx
   by_cases hlt : x < rs.length ∧ x < 13
   · obtain ⟨hlt1, hlt2⟩ := hlt
     have hcl := hrc _ (getD_mem hlt1)
     repeat' (first
       | (with_reducible apply Req_intro); focus (first | omega | assumption | (simp; done))
       | with_reducible (first | apply Req_intro | refine nilT ?_ fun hn => ?_ | apply wk_draw Tryd_mixed | refine drawEnd (by kernel_rfl) ?_)
       | (with_reducible (first | apply condA_if | apply stepDG_ifN | apply stepDG_if | apply stepG_ifN | apply stepG_if)) <;> intro hb <;> (have hif := hb) <;> (try simp only [bo] at hif) <;> (try simp -implicitDefEqProofs (disch := omega) only [go_sem, hb]) <;> clear hb
       | simp (maxSteps := 1000000) -implicitDefEqProofs (disch := omega) only [go_sem])
     all_goals first | exact absurd ‹false = true› (by decide) | exact absurd ‹true = false› (by decide) | (exfalso; omega) | omega | skip
     · refine ret_do ?_
       rw [hb0 (by
         rw [Bool.or_eq_true, List.any_eq_true]; left
         refine ⟨rs.getD x default, ?_, by simp only [decide_eq_true_eq]; omega⟩
         rw [getD_default hlt1]
         exact List.mem_take_iff_getElem.2 ⟨x, by omega, rfl⟩)]; rfl
     · refine nxt_w (x + 1) (weak_do []) ?_
       try dsimp only
       refine ⟨by omega, by omega, fun j hj => ?_⟩
       rcases Nat.lt_succ_iff_lt_or_eq.1 hj with h | rfl
       · exact hx3 j h
       · omega
   · have hend : rs.length ≤ x ∨ x = 13 := by omega
     repeat' (first
       | (with_reducible apply Req_intro); focus (first | omega | assumption | (simp; done))
       | with_reducible (first | apply Req_intro | refine nilT ?_ fun hn => ?_ | apply wk_draw Tryd_mixed | refine drawEnd (by kernel_rfl) ?_)
       | (with_reducible (first | apply condA_if | apply stepDG_ifN | apply stepDG_if | apply stepG_ifN | apply stepG_if)) <;> intro hb <;> (have hif := hb) <;> (try simp only [bo] at hif) <;> (try simp -implicitDefEqProofs (disch := omega) only [go_sem, hb]) <;> clear hb
       | simp (maxSteps := 1000000) -implicitDefEqProofs (disch := omega) only [go_sem])
     all_goals first | (exfalso; omega) | skip
     all_goals (first
       | (refine ret_do ?_
          rw [hb0 (by rw [Bool.or_eq_true]; right; simp only [decide_eq_true_eq]; omega)]; rfl)
       | (refine nxt_w (1 + 1) (weak_do []) ?_
          try dsimp only
          refine ⟨by omega, fun k hk => ?_⟩
          rcases Nat.lt_succ_iff_lt_or_eq.1 hk with h | rfl
          · exact hxp k h
          · rw [hsd, Bool.or_eq_false_iff, List.any_eq_false]
            refine ⟨fun y hy => ?_, by simp only [decide_eq_false_iff_not]; omega⟩
            obtain ⟨j, hj, rfl⟩ := List.mem_take_iff_getElem.1 hy
            have := hx3 j (by omega)
            rw [getD_default (by omega)] at this
            simp only [decide_eq_true_eq]; exact this))
 · have hl0 := hxp 0 (by decide)
   have hr0 := hxp 1 (by decide)
   simp only [sideR, if_true, Nat.one_ne_zero, if_false, Bool.or_eq_false_iff, List.any_eq_false, decide_eq_false_iff_not, decide_eq_true_eq] at hl0 hr0
   have hst : StOk ls rs := ⟨by omega, by omega, fun x hx => by
     have := hl0.1 x (by rw [List.take_of_length_le (by omega)]; exact hx)
     omega, fun x hx => by
     have := hr0.1 x (by rw [List.take_of_length_le (by omega)]; exact hx)
     omega⟩
   have hck := rCheck_spec g ls rs e1 e2 hst
   have hlg : largeG g ls rs most = (decide (most < max (ls.length : Int) rs.length) && (checkS g ls rs == 0)) := by
     unfold largeG
     rw [show (List.range 2).any (fun k => ((sideR ls rs k).take 13).any (fun x => decide (8 < x.2.length)) || decide (12 < (sideR ls rs k).length)) = false from ?_, Bool.false_or]
     rw [List.any_eq_false]
     intro k hk
     rw [hxp k (List.mem_range.1 hk)]; decide
   repeat' (first
     | (with_reducible apply Req_intro); focus (first | omega | assumption | (simp; done))
     | with_reducible (first | apply Req_intro | refine nilT ?_ fun hn => ?_ | apply wk_draw Tryd_mixed | refine drawEnd (by kernel_rfl) ?_)
     | (with_reducible (first | apply condA_if | apply stepDG_ifN | apply stepDG_if | apply stepG_ifN | apply stepG_if)) <;> intro hb <;> (have hif := hb) <;> (try simp only [bo] at hif) <;> (try simp -implicitDefEqProofs (disch := omega) only [go_sem, hb]) <;> clear hb
     | simp (maxSteps := 1000000) -implicitDefEqProofs (disch := omega) only [go_sem])
   all_goals first | exact absurd ‹false = true› (by decide) | exact absurd ‹true = false› (by decide) | (exfalso; omega) | omega | skip
   · refine callp hck ?_
     try simp (maxSteps := 1000000) -implicitDefEqProofs (disch := omega) only [go_sem]
     repeat' (first
       | (with_reducible apply Req_intro); focus (first | omega | assumption | (simp; done))
       | with_reducible (first | apply Req_intro | refine nilT ?_ fun hn => ?_ | apply wk_draw Tryd_mixed | refine drawEnd (by kernel_rfl) ?_)
       | (with_reducible (first | apply condA_if | apply stepDG_ifN | apply stepDG_if | apply stepG_ifN | apply stepG_if)) <;> intro hb <;> (have hif := hb) <;> (try simp only [bo] at hif) <;> (try simp -implicitDefEqProofs (disch := omega) only [go_sem, hb]) <;> clear hb
       | simp (maxSteps := 1000000) -implicitDefEqProofs (disch := omega) only [go_sem])
     all_goals first | exact absurd ‹false = true› (by decide) | exact absurd ‹true = false› (by decide) | (exfalso; omega) | omega | skip
     refine ret_do ?_
     rw [hlg, decide_eq_true hif, Bool.true_and]; rfl
   · refine ret_do ?_
     rw [hlg, decide_eq_false (by omega)]; rfl
end Go.Aw
end
section
set_option maxRecDepth 20000
set_option maxHeartbeats 4000000
namespace Go.Aw
open Go.RowKit Go.Proofs
@[go_sem ↓] theorem actBin_eqB (a b : Bool) : actBin Tryd.prog .eql 4 (.lit (.bool a)) (.lit (.bool b)) = some (.val (.lit (.bool (a == b)))) := by
 show (if litT Tryd.prog 4 (.bool a) then _ else none) = _
 rw [show litT Tryd.prog 4 (.bool a) = true by kernel_rfl]
 rfl
@[go_sem ↓] theorem actBin_neB (a b : Bool) : actBin Tryd.prog .neq 4 (.lit (.bool a)) (.lit (.bool b)) = some (.val (.lit (.bool (a != b)))) := by
 show (if litT Tryd.prog 4 (.bool a) then _ else none) = _
 rw [show litT Tryd.prog 4 (.bool a) = true by kernel_rfl]
 rfl
@[go_sem] theorem eqB_ff : (false == false) = true := rfl
@[go_sem] theorem eqB_tt : (true == true) = true := rfl
@[go_sem] theorem eqB_ft : (false == true) = false := rfl
@[go_sem] theorem eqB_tf : (true == false) = false := rfl
@[go_sem] theorem neB_ff : (false != false) = false := rfl
@[go_sem] theorem neB_tt : (true != true) = false := rfl
@[go_sem] theorem neB_ft : (false != true) = true := rfl
@[go_sem] theorem neB_tf : (true != false) = true := rfl
theorem largeG_no {g : Gau} {ls rs : List Grd} {most : Int} (h : largeG g ls rs most = false) : StOk ls rs ∧ ls.length ≤ 12 ∧ rs.length ≤ 12 ∧ (checkS g ls rs = 0 → (ls.length : Int) ≤ most ∧ (rs.length : Int) ≤ most) := by
 unfold largeG at h
 rw [Bool.or_eq_false_iff] at h
 obtain ⟨h1, h2⟩ := h
 rw [List.any_eq_false] at h1
 have h3 := h1 0 (by simp)
 have h4 := h1 1 (by simp)
 simp only [sideR, if_true, Nat.one_ne_zero, if_false, Bool.or_eq_true, not_or, List.any_eq_true, decide_eq_true_eq, not_exists, not_and] at h3 h4
 refine ⟨⟨by omega, by omega, fun x hx => ?_, fun x hx => ?_⟩, by omega, by omega, fun hc => ?_⟩
 · have := h3.1 x (by rw [List.take_of_length_le (by omega)]; exact hx)
   omega
 · have := h4.1 x (by rw [List.take_of_length_le (by omega)]; exact hx)
   omega
 · rw [hc, Bool.and_eq_false_iff, decide_eq_false_iff_not] at h2
   rcases h2 with h2 | h2
   · omega
   · cases h2
end Go.Aw
end
section
set_option maxRecDepth 20000
set_option maxHeartbeats 4000000
namespace Go.Aw
open Go.RowKit Go.Proofs
theorem calldz {P : Program} {nx : Nat} {g : FuncId} {first cap args as1 as2 : List V} {h : Hp} {r : V} {K : V → List Nat → Wr → Prop} (id : Nat) {k : Nat} {es : List (List V)} {ty : TypeId} (hc : Ct P g as2 r) (hk : K r [id] []) (ha : first ++ args ++ cap = as1 := by first | (simp only [go_sem]; done) | (simp only [go_sem]; rfl)) (hb : h id = some ⟨k, es, ty, .fz⟩ := by rfl)
   (hp : PurI true (hpOf (fun _ => none) [(id, some ⟨k, es, ty, .fz⟩)]) as1 as2 := by
     (try simp (maxSteps := 1000000) -implicitDefEqProofs (disch := omega) only [go_sem])
     repeat' (first
       | with_reducible (first | exact PurI.nil | exact Pur.nilsl _ _ | exact PurE.nil)
       | (with_reducible (first | refine PurI.puL ?_ | refine PurE.puE ?_)) <;> (first | assumption | (simp only [go_sem] <;> assumption) | (simp only [go_sem, *]; done) | (simp [go_sem]; done))
       | with_reducible apply PurI.cons
       | (with_reducible refine Pur.pu _ ?_) <;> (first | assumption | (simp only [go_sem] <;> assumption) | (simp only [go_sem, *]; done) | (simp [go_sem]; done))
       | ((with_reducible apply Pur.refR) <;> (first | rfl | decide | (simp only [go_sem]; omega) | (simp only [go_sem]) | skip))
       | ((with_reducible apply Pur.osR) <;> (first | rfl | exact fun h => h | omega | (simp; omega) | (simp; done) | (simp only [go_sem]) | skip))
       | with_reducible (first | apply Pur.fnI | apply Pur.aggI | apply PurE.cons)
       | (with_reducible refine PurI.eqL ?_ ?_); (focus rfl); (focus (first | assumption | (simp only [go_sem] <;> assumption) | (simp only [go_sem, *]; done) | (simp [go_sem]; done)))
       | simp (maxSteps := 1000000) -implicitDefEqProofs (disch := omega) only [go_sem])) (hr : Pu r := by first | assumption | (simp only [go_sem] <;> assumption) | (simp only [go_sem, *]; done) | (simp [go_sem]; done)) : CallD P (.fn (.func g) first cap) args h nx K := by
 subst ha
 exact .mk g first cap as2 r [id] rfl (.inr ⟨by rw [restr_one hb]; exact hp.spec, hr⟩) hc.1 hc.2 hk
theorem calldr2 {P : Program} {nx : Nat} {g : FuncId} {first cap args as1 as2 : List V} {h : Hp} {r : V} {K : V → List Nat → Wr → Prop} (i1 i2 : Nat) {k1 k2 : Nat} {es1 es2 : List (List V)} {ty1 ty2 : TypeId} (hc : Ct P g as2 r) (hk : K r [i1, i2] []) (ha : first ++ args ++ cap = as1 := by first | (simp only [go_sem]; done) | (simp only [go_sem]; rfl))
   (h1 : h i1 = some ⟨k1, es1, ty1, .wr⟩ := by rfl) (h2 : h i2 = some ⟨k2, es2, ty2, .wr⟩ := by rfl)
   (hp : PurI false (hpOf (fun _ => none) [(i1, some ⟨k1, es1, ty1, .wr⟩), (i2, some ⟨k2, es2, ty2, .wr⟩)]) as1 as2 := by
     (try simp (maxSteps := 1000000) -implicitDefEqProofs (disch := omega) only [go_sem])
     repeat' (first
       | with_reducible (first | exact PurI.nil | exact Pur.nilsl _ _ | exact PurE.nil)
       | (with_reducible (first | refine PurI.puL ?_ | refine PurE.puE ?_)) <;> (first | assumption | (simp only [go_sem] <;> assumption) | (simp only [go_sem, *]; done) | (simp [go_sem]; done))
       | with_reducible apply PurI.cons
       | (with_reducible refine Pur.pu _ ?_) <;> (first | assumption | (simp only [go_sem] <;> assumption) | (simp only [go_sem, *]; done) | (simp [go_sem]; done))
       | ((with_reducible apply Pur.refR) <;> (first | rfl | decide | (simp only [go_sem]; omega) | (simp only [go_sem]) | skip))
       | ((with_reducible apply Pur.osR) <;> (first | rfl | exact fun h => h | omega | (simp; omega) | (simp; done) | (simp only [go_sem]) | skip))
       | with_reducible (first | apply Pur.fnI | apply Pur.aggI | apply PurE.cons)
       | (with_reducible refine PurI.eqL ?_ ?_); (focus rfl); (focus (first | assumption | (simp only [go_sem] <;> assumption) | (simp only [go_sem, *]; done) | (simp [go_sem]; done)))
       | simp (maxSteps := 1000000) -implicitDefEqProofs (disch := omega) only [go_sem])) (hr : Cl r := by first | assumption | (simp only [go_sem] <;> assumption) | (simp only [go_sem, *]; done) | (simp [go_sem]; done)) : CallD P (.fn (.func g) first cap) args h nx K := by
 have e : restr [i1, i2] h = hpOf (fun _ => none) [(i1, some ⟨k1, es1, ty1, .wr⟩), (i2, some ⟨k2, es2, ty2, .wr⟩)] := by
   funext i
   by_cases c1 : i = i1
   · subst c1
     simp [restr, hpOf, hget, h1]
   · have c1' : ¬ i1 = i := fun e => c1 e.symm
     by_cases c2 : i = i2
     · subst c2
       have e2 : hpOf (fun _ => none) [(i1, some (⟨k1, es1, ty1, .wr⟩ : Blk)), (i, some ⟨k2, es2, ty2, .wr⟩)] i = some ⟨k2, es2, ty2, .wr⟩ := by
         unfold hpOf; simp only [hget]; rw [if_neg c1]; rfl
       rw [e2]
       simp [restr, h2]
     · have c2' : ¬ i2 = i := fun e => c2 e.symm
       simp [restr, hpOf, hget, c1, c2, c1', c2']
 exact call_d [i1, i2] ha (by rw [e]; exact hp) hc hr hk
structure B3 where
 a : Int
 b : Int
 c : Int
instance : Inhabited B3 := ⟨⟨0, 0, 0⟩⟩
def okY (n : Int) : Prop := 0 ≤ n ∧ n ≤ 255
structure B3.ok (v : B3) : Prop where
 a : okY v.a
 b : okY v.b
 c : okY v.c
abbrev uy (n : Int) : V := .lit (.int .u8 n)
def enc3 (v : B3) : List V := [uy v.a, uy v.b, uy v.c]
@[go_sem] theorem enc3_eq (v : B3) : enc3 v = [uy v.a, uy v.b, uy v.c] := rfl
structure Chst where
 l : List B3
 r : List B3
 m : Int
 g0 : Int
 g1 : Int
 g2 : Int
 g3 : Int
structure Chst.ok (x : Chst) : Prop where
 l : ∀ v ∈ x.l, v.ok
 r : ∀ v ∈ x.r, v.ok
 ll : x.l.length ≤ 4611686018427387904
 rl : x.r.length ≤ 4611686018427387904
 m : okY x.m
 g0 : okY x.g0
 g1 : okY x.g1
 g2 : okY x.g2
 g3 : okY x.g3
def chC (x : Chst) : List V := [.sl 3 (x.l.map enc3) false, .sl 3 (x.r.map enc3) false, uy x.m, uy x.g0, uy x.g1, uy x.g2, uy x.g3]
@[go_sem] theorem chC_eq (x : Chst) : chC x = [.sl 3 (x.l.map enc3) false, .sl 3 (x.r.map enc3) false, uy x.m, uy x.g0, uy x.g1, uy x.g2, uy x.g3] := rfl
def curv (v : B3) (m : Nat) : List Int := [v.b, v.c].take m
def gdOf (m : Nat) (v : B3) : Grd := (200 + v.a, curv v m)
def chL (l : List B3) (m : Nat) : List Grd := (l.take 8).map (gdOf m)
def chG (x : Chst) : Gau := ⟨x.g0 % 10, x.g1 % 10, x.g2, x.g3⟩
def chM (x : Chst) : Nat := (1 + x.m % 2).toNat
theorem chM_is {x : Chst} (h : x.ok) : ((chM x : Nat) : Int) = 1 + x.m % 2 ∧ 1 ≤ chM x ∧ chM x ≤ 2 := by
 have := h.m
 unfold okY at this
 unfold chM
 omega
theorem chL_len (l : List B3) (m : Nat) : (chL l m).length = min 8 l.length := by simp [chL]
theorem curv_len {v : B3} {m : Nat} (h : m ≤ 2) : (curv v m).length = m := by simp [curv]; omega
theorem curv_succ {v : B3} {k : Nat} (h : k < 2) : curv v (k + 1) = curv v k ++ [if k = 0 then v.b else v.c] := by
 unfold curv
 have : k = 0 ∨ k = 1 := by omega
 rcases this with rfl | rfl <;> rfl
theorem gdOf_fine {v : B3} (h : v.ok) {m : Nat} (hm : m ≤ 2) : Fine m (gdOf m v) := by
 obtain ⟨h1, h2, h3⟩ := h
 unfold okY at h1 h2 h3
 refine ⟨by unfold gdOf; simp only; omega, by unfold gdOf; simp only; omega, curv_len hm, fun c hc => ?_⟩
 have : c ∈ [v.b, v.c] := List.mem_of_mem_take hc
 simp only [List.mem_cons, List.not_mem_nil, or_false] at this
 rcases this with rfl | rfl <;> omega
theorem chL_fine {l : List B3} {m : Nat} (h : ∀ v ∈ l, v.ok) (hm : m ≤ 2) : ∀ x ∈ chL l m, Fine m x := fun x hx => by
 obtain ⟨v, hv, rfl⟩ := List.mem_map.1 hx
 exact gdOf_fine (h v (List.mem_of_mem_take hv)) hm
theorem chG_ok {x : Chst} (h : x.ok) : gaugeR (chG x) = true := by
 have h0 := h.g0
 have h1 := h.g1
 have h2 := h.g2
 have h3 := h.g3
 unfold okY at h0 h1 h2 h3
 show (inR' 0 100 (x.g0 % 10) && inR' 0 100 (x.g1 % 10) && inR' 0 10000 x.g2 && inR' 0 500 x.g3) = true
 simp only [inR', Bool.and_eq_true, decide_eq_true_eq]
 omega
theorem made1_spec (l : List B3) (e : Bool) (m : Nat) (hm : m ≤ 2) (hl : l.length ≤ 4611686018427387904) (hb : ∀ v ∈ l, v.ok) : Ct Tryd.prog 88 [.sl 3 (l.map enc3) e, .rp [int m]] (.sl 2 ((chL l m).map encGd) false) := by
 refine fn_enter Tryd.func88 rfl (by decide) Tryd.results88 Tryd.ntmps88 ?_ rfl (by simp (maxSteps := 1000000) -implicitDefEqProofs (disch := omega) only [go_sem]; rfl) fun base => ?_
 · first | assumption | (simp only [go_sem] <;> assumption) | (simp only [go_sem, *]; done) | (simp [go_sem]; done)
 repeat' (first
   | (with_reducible apply Req_intro); focus (first | omega | assumption | (simp; done))
   | with_reducible (first | apply Req_intro | refine nilT ?_ fun hn => ?_ | apply wk_draw Tryd_mixed | refine drawEnd (by kernel_rfl) ?_)
   | (with_reducible (first | apply condA_if | apply stepDG_ifN | apply stepDG_if | apply stepG_ifN | apply stepG_if)) <;> intro hb <;> (have hif := hb) <;> (try simp only [bo] at hif) <;> (try simp -implicitDefEqProofs (disch := omega) only [go_sem, hb]) <;> clear hb
   | simp (maxSteps := 1000000) -implicitDefEqProofs (disch := omega) only [go_sem])
 refine loop_rows (α := Nat) (6 :: 7 :: [4, 5, 6, 7, 9, 10, 11, 12, 13, 14, 15, 16, 17, 18, 19, 20, 21, 22, 23, 24, 25, 26, 27, 28, 29, 30, 31, 32, 33, 34, 35, 36, 37, 38, 39, 40, 41, 42, 43, 44, 45, 46, 47, 48]) (fun i => [(5, .lit (.int .i64 i)), (4, .os 65 2 i false), (8, .undef)]) (fun i => [(65, some ⟨2, ((l.take i).map (gdOf m)).map encGd, 24, .wr⟩)]) (fun i => i ≤ l.length ∧ i ≤ 8) (fun i => 8 - i) 0 (fun x => by simp (maxSteps := 1000000) -implicitDefEqProofs (disch := omega) only [go_sem]; rfl) ?_ ?_ fun x hx => ?_
 · simp only [List.take_zero, List.map_nil]
   exact weak_do3 [(65, 64)]
 · exact ⟨Nat.zero_le _, by omega⟩
 rename Nat => i
 obtain ⟨hi1, hi2⟩ := hx
 have htl : ((l.take i).map (gdOf m)).length = i := by simp; omega
 by_cases hlt : i < l.length ∧ i < 8
 · obtain ⟨hlt1, hlt2⟩ := hlt
   have hv := hb _ (getD_mem hlt1)
   obtain ⟨v1, v2, v3⟩ := hv
   unfold okY at v1 v2 v3
   have htk : (l.take (i + 1)).map (gdOf m) = (l.take i).map (gdOf m) ++ [gdOf m (l.getD i default)] := by rw [take_succ_getD hlt1, List.map_append]; rfl
   generalize (l.take i).map (gdOf m) = L at *
   generalize hvv : l.getD i default = v at *
   repeat' (first
     | (with_reducible apply Req_intro); focus (first | omega | assumption | (simp; done))
     | with_reducible (first | apply Req_intro | refine nilT ?_ fun hn => ?_ | apply wk_draw Tryd_mixed | refine drawEnd (by kernel_rfl) ?_)
     | (with_reducible (first | apply condA_if | apply stepDG_ifN | apply stepDG_if | apply stepG_ifN | apply stepG_if)) <;> intro hb <;> (have hif := hb) <;> (try simp only [bo] at hif) <;> (try simp -implicitDefEqProofs (disch := omega) only [go_sem, hb, hvv]) <;> clear hb
     | simp (maxSteps := 1000000) -implicitDefEqProofs (disch := omega) only [go_sem, hvv])
   all_goals first | exact absurd trivial ‹¬True› | exact absurd ‹false = true› (by decide) | exact absurd ‹true = false› (by decide) | (exfalso; omega) | omega | skip
   refine loop_rows (α := Nat) ([7, 27, 28, 29, 30, 31, 32, 33, 34, 35, 36, 37, 38, 39, 40, 41, 42, 43, 44]) (fun k => [(7, .lit (.int .i64 k)), (4, .os 65 2 i false)]) (fun k => [(65, some ⟨2, L.map encGd, 24, .wr⟩), (1280, some ⟨2, [[int (200 + v.a), .os 66 1 k false]], 24, .wr⟩), (66, some ⟨1, (curv v k).map encI, 3, .wr⟩)]) (fun k => k ≤ m) (fun k => m - k) 0 (fun x => by simp (maxSteps := 1000000) -implicitDefEqProofs (disch := omega) only [go_sem]; rfl) ?_ ?_ fun x hx => ?_
   · rw [show curv v 0 = [] from rfl]
     simp only [List.map_nil]
     exact weak_do3 [(66, 1000000)]
   · exact Nat.zero_le _
   rename Nat => k
   have hcl := curv_len (v := v) (m := k) (by omega)
   by_cases hkm : k < m
   · have hk01 : k = 0 ∨ k = 1 := by omega
     have hcs := curv_succ (v := v) (k := k) (by omega)
     generalize curv v k = C at *
     rcases hk01 with rfl | rfl
     · have hd0 : (List.drop ((1 + ((0 : Nat) : Int)).toNat * 1) [uy v.a, uy v.b, uy v.c]).headD V.undef = uy v.b := rfl
       repeat' (first
         | (with_reducible apply Req_intro); focus (first | omega | assumption | (simp; done))
         | with_reducible (first | apply Req_intro | refine nilT ?_ fun hn => ?_ | apply wk_draw Tryd_mixed | refine drawEnd (by kernel_rfl) ?_)
         | (with_reducible (first | apply condA_if | apply stepDG_ifN | apply stepDG_if | apply stepG_ifN | apply stepG_if)) <;> intro hb <;> (have hif := hb) <;> (try simp only [bo] at hif) <;> (try simp -implicitDefEqProofs (disch := omega) only [go_sem, hb, hvv, hd0]) <;> clear hb
         | simp (maxSteps := 1000000) -implicitDefEqProofs (disch := omega) only [go_sem, hvv, hd0])
       all_goals first | exact absurd trivial ‹¬True› | exact absurd ‹false = true› (by decide) | exact absurd ‹true = false› (by decide) | (exfalso; omega) | omega | skip
       with_reducible refine nxt_w (0 + 1) ?_ ?_
       · (try dsimp only)
         (rw [hcs]; simp only [List.map_append, if_true, List.map_cons, List.map_nil])
         exact weak_do3 [(66, 2368)]
       try dsimp only
       omega
     · have hd0 : (List.drop ((1 + ((1 : Nat) : Int)).toNat * 1) [uy v.a, uy v.b, uy v.c]).headD V.undef = uy v.c := rfl
       repeat' (first
         | (with_reducible apply Req_intro); focus (first | omega | assumption | (simp; done))
         | with_reducible (first | apply Req_intro | refine nilT ?_ fun hn => ?_ | apply wk_draw Tryd_mixed | refine drawEnd (by kernel_rfl) ?_)
         | (with_reducible (first | apply condA_if | apply stepDG_ifN | apply stepDG_if | apply stepG_ifN | apply stepG_if)) <;> intro hb <;> (have hif := hb) <;> (try simp only [bo] at hif) <;> (try simp -implicitDefEqProofs (disch := omega) only [go_sem, hb, hvv, hd0]) <;> clear hb
         | simp (maxSteps := 1000000) -implicitDefEqProofs (disch := omega) only [go_sem, hvv, hd0])
       all_goals first | exact absurd trivial ‹¬True› | exact absurd ‹false = true› (by decide) | exact absurd ‹true = false› (by decide) | (exfalso; omega) | omega | skip
       with_reducible refine nxt_w (1 + 1) ?_ ?_
       · (try dsimp only)
         (rw [hcs]; simp only [List.map_append, Nat.one_ne_zero, if_false, List.map_cons, List.map_nil])
         exact weak_do3 [(66, 2368)]
       try dsimp only
       omega
   · obtain rfl : k = m := by omega
     have hgd : gdOf k v = (200 + v.a, curv v k) := rfl
     generalize curv v k = C at *
     repeat' (first
       | (with_reducible apply Req_intro); focus (first | omega | assumption | (simp; done))
       | with_reducible (first | apply Req_intro | refine nilT ?_ fun hn => ?_ | apply wk_draw Tryd_mixed | refine drawEnd (by kernel_rfl) ?_)
       | (with_reducible (first | apply condA_if | apply stepDG_ifN | apply stepDG_if | apply stepG_ifN | apply stepG_if)) <;> intro hb <;> (have hif := hb) <;> (try simp only [bo] at hif) <;> (try simp -implicitDefEqProofs (disch := omega) only [go_sem, hb, hvv]) <;> clear hb
       | simp (maxSteps := 1000000) -implicitDefEqProofs (disch := omega) only [go_sem, hvv])
     all_goals first | exact absurd trivial ‹¬True› | exact absurd ‹false = true› (by decide) | exact absurd ‹true = false› (by decide) | (exfalso; omega) | omega | skip
     refine nxt_snapRow [66] 1856 (es' := L.map encGd ++ [encGd (200 + v.a, C)]) (by first | (simp only [go_sem]; done) | (simp only [go_sem]; rfl)) (by rfl) ?_ (by first | assumption | (simp only [go_sem] <;> assumption) | (simp only [go_sem, *]; done) | (simp [go_sem]; done)) (by first | (simp only [go_sem]; done) | (simp only [go_sem]; rfl)) ?_
     · refine PurE.snocR (by first | assumption | (simp only [go_sem] <;> assumption) | (simp only [go_sem, *]; done) | (simp [go_sem]; done)) ?_
       rw [show encGd (200 + v.a, C) = [.lit (.int .i64 (200 + v.a)), .sl 1 (C.map encI) false] from rfl]
       (try simp (maxSteps := 1000000) -implicitDefEqProofs (disch := omega) only [go_sem])
       repeat' (first
         | with_reducible (first | exact PurI.nil | exact Pur.nilsl _ _ | exact PurE.nil)
         | (with_reducible (first | refine PurI.puL ?_ | refine PurE.puE ?_)) <;> (first | assumption | (simp only [go_sem] <;> assumption) | (simp only [go_sem, *]; done) | (simp [go_sem]; done))
         | with_reducible apply PurI.cons
         | (with_reducible refine Pur.pu _ ?_) <;> (first | assumption | (simp only [go_sem] <;> assumption) | (simp only [go_sem, *]; done) | (simp [go_sem]; done))
         | ((with_reducible apply Pur.refR) <;> (first | rfl | decide | (simp only [go_sem]; omega) | (simp only [go_sem]) | skip))
         | ((with_reducible apply Pur.osR) <;> (first | rfl | exact fun h => h | omega | (simp; omega) | (simp; done) | (simp only [go_sem]) | skip))
         | with_reducible (first | apply Pur.fnI | apply Pur.aggI | apply PurE.cons)
         | (with_reducible refine PurI.eqL ?_ ?_); (focus rfl); (focus (first | assumption | (simp only [go_sem] <;> assumption) | (simp only [go_sem, *]; done) | (simp [go_sem]; done)))
         | simp (maxSteps := 1000000) -implicitDefEqProofs (disch := omega) only [go_sem])
     with_reducible refine nxt_w (i + 1) ?_ ?_
     · (try dsimp only)
       rw [htk, List.map_append, hgd]
       exact weak_do3 [(65, 1856)]
     try dsimp only
     omega
 · have hi8 : (l.take i).map (gdOf m) = chL l m := by
     unfold chL
     rcases (show l.length ≤ i ∨ i = 8 by omega) with h | h
     · rw [List.take_of_length_le h, List.take_of_length_le (by omega)]
     · rw [h]
   rw [hi8] at htl ⊢
   rw [← htl]
   generalize chL l m = L at *
   repeat' (first
     | (with_reducible apply Req_intro); focus (first | omega | assumption | (simp; done))
     | with_reducible (first | apply Req_intro | refine nilT ?_ fun hn => ?_ | apply wk_draw Tryd_mixed | refine drawEnd (by kernel_rfl) ?_)
     | (with_reducible (first | apply condA_if | apply stepDG_ifN | apply stepDG_if | apply stepG_ifN | apply stepG_if)) <;> intro hb <;> (have hif := hb) <;> (try simp only [bo] at hif) <;> (try simp -implicitDefEqProofs (disch := omega) only [go_sem, hb]) <;> clear hb
     | simp (maxSteps := 1000000) -implicitDefEqProofs (disch := omega) only [go_sem])
   all_goals first | exact absurd trivial ‹¬True› | exact absurd ‹false = true› (by decide) | exact absurd ‹true = false› (by decide) | (exfalso; omega) | omega | skip
   all_goals
     exact retf [65] [3] [.sl 2 (L.map encGd) false]
theorem made_spec (x : Chst) (h : x.ok) : Ct Tryd.prog 47 [.agg (chC x)] (.tup [encSt (chL x.l (chM x)) (chL x.r (chM x)) false false, encGa (chG x)]) := by
 obtain ⟨hm1, hm2, hm3⟩ := chM_is h
 have q1 := made1_spec x.l false (chM x) hm3 h.ll h.l
 have q2 := made1_spec x.r false (chM x) hm3 h.rl h.r
 have hg : encGa (chG x) = .agg [int (x.g0 % 10), int (x.g1 % 10), int x.g2, int x.g3] := rfl
 have h0 := h.m
 have h1 := h.g0
 have h2 := h.g1
 have h3 := h.g2
 have h4 := h.g3
 unfold okY at h0 h1 h2 h3 h4
 rw [hg]
 generalize chL x.l (chM x) = L1 at *
 generalize chL x.r (chM x) = L2 at *
 rw [hm1] at q1 q2
 refine ct_enterT Tryd.func47 rfl (by decide) Tryd.results47 Tryd.ntmps47 ?_ rfl (by simp (maxSteps := 1000000) -implicitDefEqProofs (disch := omega) only [go_sem]; rfl) fun base => ?_
 · first | assumption | (simp only [go_sem] <;> assumption) | (simp only [go_sem, *]; done) | (simp [go_sem]; done)
 repeat' (first
   | (with_reducible apply Req_intro); focus (first | omega | assumption | (simp; done))
   | with_reducible (first | apply Req_intro | refine nilT ?_ fun hn => ?_ | apply wk_draw Tryd_mixed | refine drawEnd (by kernel_rfl) ?_)
   | (with_reducible (first | apply condA_if | apply stepDG_ifN | apply stepDG_if | apply stepG_ifN | apply stepG_if)) <;> intro hb <;> (have hif := hb) <;> (try simp only [bo] at hif) <;> (try simp -implicitDefEqProofs (disch := omega) only [go_sem, hb]) <;> clear hb
   | simp (maxSteps := 1000000) -implicitDefEqProofs (disch := omega) only [go_sem])
 all_goals first | exact absurd trivial ‹¬True› | exact absurd ‹false = true› (by decide) | exact absurd ‹true = false› (by decide) | (exfalso; omega) | omega | skip
 refine calldf 640 q1 ?_
 try simp (maxSteps := 1000000) -implicitDefEqProofs (disch := omega) only [go_sem]
 repeat' (first
   | (with_reducible apply Req_intro); focus (first | omega | assumption | (simp; done))
   | with_reducible (first | apply Req_intro | refine nilT ?_ fun hn => ?_ | apply wk_draw Tryd_mixed | refine drawEnd (by kernel_rfl) ?_)
   | (with_reducible (first | apply condA_if | apply stepDG_ifN | apply stepDG_if | apply stepG_ifN | apply stepG_if)) <;> intro hb <;> (have hif := hb) <;> (try simp only [bo] at hif) <;> (try simp -implicitDefEqProofs (disch := omega) only [go_sem, hb]) <;> clear hb
   | simp (maxSteps := 1000000) -implicitDefEqProofs (disch := omega) only [go_sem])
 all_goals first | exact absurd trivial ‹¬True› | exact absurd ‹false = true› (by decide) | exact absurd ‹true = false› (by decide) | (exfalso; omega) | omega | skip
 refine calldz 640 q2 ?_
 try simp (maxSteps := 1000000) -implicitDefEqProofs (disch := omega) only [go_sem]
 repeat' (first
   | (with_reducible apply Req_intro); focus (first | omega | assumption | (simp; done))
   | with_reducible (first | apply Req_intro | refine nilT ?_ fun hn => ?_ | apply wk_draw Tryd_mixed | refine drawEnd (by kernel_rfl) ?_)
   | (with_reducible (first | apply condA_if | apply stepDG_ifN | apply stepDG_if | apply stepG_ifN | apply stepG_if)) <;> intro hb <;> (have hif := hb) <;> (try simp only [bo] at hif) <;> (try simp -implicitDefEqProofs (disch := omega) only [go_sem, hb]) <;> clear hb
   | simp (maxSteps := 1000000) -implicitDefEqProofs (disch := omega) only [go_sem])
 all_goals first | exact absurd trivial ‹¬True› | exact absurd ‹false = true› (by decide) | exact absurd ‹true = false› (by decide) | (exfalso; omega) | omega | skip
 exact rett []
def encY (n : Int) : List V := [uy n]
@[go_sem] theorem encY_eq (n : Int) : encY n = [uy n] := rfl
theorem at_spec (b : List Int) (eb : Bool) (i k : Nat) (off : Int) (hb : ∀ v ∈ b, 0 ≤ v ∧ v ≤ 255) (hl : b.length ≤ 4611686018427387904) (hi : i ≤ 100) (hk : k ≤ 100) (ho : 0 ≤ off ∧ off ≤ 1000) : Ct Tryd.prog 89 [int k, int off, .rp [.sl 1 (b.map encY) eb], .rp [int i]] (int (atR b i k off)) := by
 have hidx : (3 * (i : Int) + k) % (b.length : Int) = (((3 * i + k) % b.length : Nat) : Int) := by push_cast; rfl
 have hat : atR b i k off = if b.length = 0 then 0 else b.getD ((3 * i + k) % b.length) 0 % (2 * off + 1) - off := rfl
 have hq : b.length ≠ 0 → (3 * i + k) % b.length < b.length := fun h => Nat.mod_lt _ (by omega)
 generalize (3 * i + k) % b.length = q at *
 have hbq : b.length ≠ 0 → 0 ≤ b.getD q 0 ∧ b.getD q 0 ≤ 255 := fun h => hb _ (getD_mem (hq h))
 refine fn_enter Tryd.func89 rfl (by decide) Tryd.results89 Tryd.ntmps89 ?_ rfl (by simp (maxSteps := 1000000) -implicitDefEqProofs (disch := omega) only [go_sem]; rfl) fun base => ?_
 · first | assumption | (simp only [go_sem] <;> assumption) | (simp only [go_sem, *]; done) | (simp [go_sem]; done)
 by_cases hb0 : b.length = 0
 · repeat' (first
     | (with_reducible apply Req_intro); focus (first | omega | assumption | (simp; done))
     | with_reducible (first | apply Req_intro | refine nilT ?_ fun hn => ?_ | apply wk_draw Tryd_mixed | refine drawEnd (by kernel_rfl) ?_)
     | (with_reducible (first | apply condA_if | apply stepDG_ifN | apply stepDG_if | apply stepG_ifN | apply stepG_if)) <;> intro hb <;> (have hif := hb) <;> (try simp only [bo] at hif) <;> (try simp -implicitDefEqProofs (disch := omega) only [go_sem, hb]) <;> clear hb
     | simp (maxSteps := 1000000) -implicitDefEqProofs (disch := omega) only [go_sem])
   all_goals first | exact absurd trivial ‹¬True› | exact absurd ‹false = true› (by decide) | exact absurd ‹true = false› (by decide) | (exfalso; omega) | omega | skip
   refine ret_do ?_
   rw [hat, if_pos hb0]; rfl
 · have hq' := hq hb0
   obtain ⟨c1, c2⟩ := hbq hb0
   rw [hat, if_neg hb0]
   obtain ⟨c, hd⟩ : ∃ c, b.getD q default = c := ⟨_, rfl⟩
   have hd0 : b.getD q 0 = c := hd
   rw [hd0] at c1 c2 ⊢
   have m1 := Int.emod_nonneg c (show 2 * off + 1 ≠ 0 by omega)
   have m2 := Int.emod_lt_of_pos c (show 0 < 2 * off + 1 by omega)
   repeat' (first
     | (with_reducible apply Req_intro); focus (first | omega | assumption | (simp; done))
     | with_reducible (first | apply Req_intro | refine nilT ?_ fun hn => ?_ | apply wk_draw Tryd_mixed | refine drawEnd (by kernel_rfl) ?_)
     | (with_reducible (first | apply condA_if | apply stepDG_ifN | apply stepDG_if | apply stepG_ifN | apply stepG_if)) <;> intro hb <;> (have hif := hb) <;> (try simp only [bo] at hif) <;> (try simp -implicitDefEqProofs (disch := omega) only [go_sem, hb, hidx, hd]) <;> clear hb
     | simp (maxSteps := 1000000) -implicitDefEqProofs (disch := omega) only [go_sem, hidx, hd])
   all_goals first | exact absurd trivial ‹¬True› | exact absurd ‹false = true› (by decide) | exact absurd ‹true = false› (by decide) | (exfalso; omega) | omega | skip
   refine ret_do ?_
   rfl
theorem atR_small {b : List Int} {i k : Nat} {off : Int} (ho : 0 ≤ off ∧ off ≤ 100) : -100 ≤ atR b i k off ∧ atR b i k off ≤ 100 := by
 have := atR_bnd b i k ho.1
 omega
def trTo (g : Gau) (b : List Int) (i : Nat) (x : Grd) (k : Nat) : List Int := (List.range k).map fun k => x.2.getD k default + atR b i (1 + k) g.ga
theorem trTo_succ (g : Gau) (b : List Int) (i : Nat) (x : Grd) (k : Nat) : trTo g b i x (k + 1) = trTo g b i x k ++ [x.2.getD k default + atR b i (1 + k) g.ga] := by rw [trTo, trTo, List.range_succ, List.map_append]; rfl
theorem trTo_len (g : Gau) (b : List Int) (i : Nat) (x : Grd) (k : Nat) : (trTo g b i x k).length = k := by simp [trTo]
theorem true1_spec (g : Gau) (x : Grd) (b : List Int) (eb : Bool) (i m : Nat) (hm : m ≤ 4) (hfx : Fine m x) (hg : GauOk g) (hb : ∀ v ∈ b, 0 ≤ v ∧ v ≤ 255) (hl : b.length ≤ 4611686018427387904) (hi : i ≤ 100) : Ct Tryd.prog 49 [.agg (encGd x), encGa g, .sl 1 (b.map encY) eb, int i] (.agg (encGd (trueG g b i x))) := by
 have w1 := hfx.w1
 have w2 := hfx.w2
 have hxl := hfx.len
 have g1 := hg.sc
 have g2 := hg.ga
 simp only [inR', Bool.and_eq_true, decide_eq_true_eq] at g1 g2
 have ha0 := at_spec b eb i 0 g.sc hb hl hi (by omega) (by omega)
 rw [show ((0 : Nat) : Int) = 0 from rfl] at ha0
 have ha1 : ∀ k, k < m → Ct Tryd.prog 89 [int (1 + (k : Int)), int g.ga, .rp [.sl 1 (b.map encY) eb], .rp [int i]] (int (atR b i (1 + k) g.ga)) := fun k hk => by
   have h := at_spec b eb i (1 + k) g.ga hb hl hi (by omega) (by omega)
   rw [Int.natCast_add] at h
   exact h
 have hs0 := atR_small (b := b) (i := i) (k := 0) g1
 have hs1 := fun k => atR_small (b := b) (i := i) (k := 1 + k) g2
 have htg : trueG g b i x = (x.1 + atR b i 0 g.sc, trTo g b i x m) := by rw [← hxl]; rfl
 have ht0 : trTo g b i x 0 = [] := rfl
 have hts := trTo_succ g b i x
 have htl := trTo_len g b i x
 rw [htg]
 generalize trTo g b i x = T at *
 generalize atR b i 0 g.sc = A0 at *
 refine ct_enterZ Tryd.func49 rfl (by decide) Tryd.results49 Tryd.ntmps49 ?_ rfl (by simp (maxSteps := 1000000) -implicitDefEqProofs (disch := omega) only [go_sem]; rfl) fun base => ?_
 · first | assumption | (simp only [go_sem] <;> assumption) | (simp only [go_sem, *]; done) | (simp [go_sem]; done)
 repeat' (first
   | (with_reducible apply Req_intro); focus (first | omega | assumption | (simp; done))
   | with_reducible (first | apply Req_intro | refine nilT ?_ fun hn => ?_ | apply wk_draw Tryd_mixed | refine drawEnd (by kernel_rfl) ?_)
   | (with_reducible (first | apply condA_if | apply stepDG_ifN | apply stepDG_if | apply stepG_ifN | apply stepG_if)) <;> intro hb <;> (have hif := hb) <;> (try simp only [bo] at hif) <;> (try simp -implicitDefEqProofs (disch := omega) only [go_sem, hb]) <;> clear hb
   | simp (maxSteps := 1000000) -implicitDefEqProofs (disch := omega) only [go_sem])
 all_goals first | exact absurd trivial ‹¬True› | exact absurd ‹false = true› (by decide) | exact absurd ‹true = false› (by decide) | (exfalso; omega) | omega | skip
 refine calldr2 128 192 ha0 ?_
 try simp (maxSteps := 1000000) -implicitDefEqProofs (disch := omega) only [go_sem]
 repeat' (first
   | (with_reducible apply Req_intro); focus (first | omega | assumption | (simp; done))
   | with_reducible (first | apply Req_intro | refine nilT ?_ fun hn => ?_ | apply wk_draw Tryd_mixed | refine drawEnd (by kernel_rfl) ?_)
   | (with_reducible (first | apply condA_if | apply stepDG_ifN | apply stepDG_if | apply stepG_ifN | apply stepG_if)) <;> intro hb <;> (have hif := hb) <;> (try simp only [bo] at hif) <;> (try simp -implicitDefEqProofs (disch := omega) only [go_sem, hb]) <;> clear hb
   | simp (maxSteps := 1000000) -implicitDefEqProofs (disch := omega) only [go_sem])
 all_goals first | exact absurd trivial ‹¬True› | exact absurd ‹false = true› (by decide) | exact absurd ‹true = false› (by decide) | (exfalso; omega) | omega | skip
 refine loop_rows (α := Nat) [11, 21, 22, 23, 24, 25, 26, 27, 28, 29, 30, 31, 32, 33, 34, 35, 36, 37, 38, 39, 40, 41, 42, 43, 44] (fun k => [(11, .lit (.int .i64 k))]) (fun k => [(0, some ⟨2, [[int x.1, .sl 1 (x.2.map encI) false]], 24, .wr⟩), (64, some ⟨4, [[int g.sc, int g.ga, int g.we, int g.cu]], 26, .wr⟩), (128, some ⟨1, [[.sl 1 (b.map encY) eb]], 78, .wr⟩), (192, some ⟨1, [[int i]], 3, .wr⟩), (256, some ⟨2, [[int 0, nilV]], 24, .wr⟩), (960, some ⟨2, [[int (x.1 + A0), .os 66 1 k false]], 24, .wr⟩), (66, some ⟨1, (T k).map encI, 3, .wr⟩)]) (fun k => k ≤ m) (fun k => m - k) 0 (fun x => by simp (maxSteps := 1000000) -implicitDefEqProofs (disch := omega) only [go_sem]; rfl) ?_ ?_ fun x hx => ?_
 · rw [ht0]
   simp only [List.map_nil]
   exact weak_do3 [(66, 1000000)]
 · exact Nat.zero_le _
 rename Nat => k
 have htk := htl k
 by_cases hkm : k < m
 · have h1 := ha1 k hkm
   have h2 := hs1 k
   have h3 := hts k
   have hxc := hfx.c _ (getD_mem (l := x.2) (i := k) (by omega))
   generalize atR b i (1 + k) g.ga = A1 at *
   obtain ⟨c, hc⟩ : ∃ c, x.2.getD k default = c := ⟨_, rfl⟩
   rw [hc] at hxc h3
   repeat' (first
     | (with_reducible apply Req_intro); focus (first | omega | assumption | (simp; done))
     | with_reducible (first | apply Req_intro | refine nilT ?_ fun hn => ?_ | apply wk_draw Tryd_mixed | refine drawEnd (by kernel_rfl) ?_)
     | (with_reducible (first | apply condA_if | apply stepDG_ifN | apply stepDG_if | apply stepG_ifN | apply stepG_if)) <;> intro hb <;> (have hif := hb) <;> (try simp only [bo] at hif) <;> (try simp -implicitDefEqProofs (disch := omega) only [go_sem, hb, hc]) <;> clear hb
     | simp (maxSteps := 1000000) -implicitDefEqProofs (disch := omega) only [go_sem, hc])
   all_goals first | exact absurd trivial ‹¬True› | exact absurd ‹false = true› (by decide) | exact absurd ‹true = false› (by decide) | (exfalso; omega) | omega | skip
   refine calldr2 128 192 h1 ?_
   try simp (maxSteps := 1000000) -implicitDefEqProofs (disch := omega) only [go_sem]
   repeat' (first
     | (with_reducible apply Req_intro); focus (first | omega | assumption | (simp; done))
     | with_reducible (first | apply Req_intro | refine nilT ?_ fun hn => ?_ | apply wk_draw Tryd_mixed | refine drawEnd (by kernel_rfl) ?_)
     | (with_reducible (first | apply condA_if | apply stepDG_ifN | apply stepDG_if | apply stepG_ifN | apply stepG_if)) <;> intro hb <;> (have hif := hb) <;> (try simp only [bo] at hif) <;> (try simp -implicitDefEqProofs (disch := omega) only [go_sem, hb, hc]) <;> clear hb
     | simp (maxSteps := 1000000) -implicitDefEqProofs (disch := omega) only [go_sem, hc])
   all_goals first | exact absurd trivial ‹¬True› | exact absurd ‹false = true› (by decide) | exact absurd ‹true = false› (by decide) | (exfalso; omega) | omega | skip
   with_reducible refine nxt_w (k + 1) ?_ ?_
   · (try dsimp only)
     (rw [h3, List.map_append, List.map_cons, List.map_nil])
     exact weak_do3 [(66, 2432)]
   try dsimp only
   omega
 · obtain rfl : k = m := by omega
   repeat' (first
     | (with_reducible apply Req_intro); focus (first | omega | assumption | (simp; done))
     | with_reducible (first | apply Req_intro | refine nilT ?_ fun hn => ?_ | apply wk_draw Tryd_mixed | refine drawEnd (by kernel_rfl) ?_)
     | (with_reducible (first | apply condA_if | apply stepDG_ifN | apply stepDG_if | apply stepG_ifN | apply stepG_if)) <;> intro hb <;> (have hif := hb) <;> (try simp only [bo] at hif) <;> (try simp -implicitDefEqProofs (disch := omega) only [go_sem, hb]) <;> clear hb
     | simp (maxSteps := 1000000) -implicitDefEqProofs (disch := omega) only [go_sem])
   all_goals first | exact absurd trivial ‹¬True› | exact absurd ‹false = true› (by decide) | exact absurd ‹true = false› (by decide) | (exfalso; omega) | omega | skip
   exact retz [66]
end Go.Aw
end
section
set_option maxRecDepth 20000
set_option maxHeartbeats 4000000
namespace Go.Aw
open Go.RowKit Go.Proofs
def Mild (a : Int) : Prop := -100000 ≤ a ∧ a ≤ 100000
theorem lfar_spec (a b : Int) (ha : Mild a) (hb : Mild b) : Ct Tryd.prog 90 [int a, int b] (int (farR a b)) := by
 unfold Mild at ha hb
 refine fn_enter Tryd.func90 rfl (by decide) Tryd.results90 Tryd.ntmps90 ?_ rfl (by simp (maxSteps := 1000000) -implicitDefEqProofs (disch := omega) only [go_sem]; rfl) fun base => ?_
 · first | assumption | (simp only [go_sem] <;> assumption) | (simp only [go_sem, *]; done) | (simp [go_sem]; done)
 repeat' (first
   | (with_reducible apply Req_intro); focus (first | omega | assumption | (simp; done))
   | with_reducible (first | apply Req_intro | refine nilT ?_ fun hn => ?_ | apply wk_draw Tryd_mixed | refine drawEnd (by kernel_rfl) ?_)
   | (with_reducible (first | apply condA_if | apply stepDG_ifN | apply stepDG_if | apply stepG_ifN | apply stepG_if)) <;> intro hb <;> (have hif := hb) <;> (try simp only [bo] at hif) <;> (try simp -implicitDefEqProofs (disch := omega) only [go_sem, hb]) <;> clear hb
   | simp (maxSteps := 1000000) -implicitDefEqProofs (disch := omega) only [go_sem])
 refine ret_do ?_
 rfl
theorem lalike_spec (g : Gau) (a b : Grd) (m : Nat) (hm : m ≤ 4) (hg : GauOk g) (ha : a.2.length = m) (hb : b.2.length = m) (hwa : Mild a.1) (hwb : Mild b.1) (hca : ∀ i, i < m → Mild (a.2.getD i default)) (hcb : ∀ i, i < m → Mild (b.2.getD i default)) : Ct Tryd.prog 50 [.agg (encGd a), .agg (encGd b), encGa g] (.lit (.bool (alikeR g a b 0))) := by
 have hw := lfar_spec a.1 b.1 hwa hwb
 have hc : ∀ i, i < m → Ct Tryd.prog 90 [int (a.2.getD i default), int (b.2.getD i default)] (int (farR (a.2.getD i default) (b.2.getD i default))) := fun i hi => lfar_spec _ _ (hca i hi) (hcb i hi)
 have hiff := alikeR_iff (g := g) (a := a) (b := b) (k := 0)
 simp only [Int.zero_mul, Int.add_zero] at hiff
 rw [ha] at hiff
 have hno : ¬ (farR a.1 b.1 ≤ g.we ∧ ∀ i, i < m → farR (a.2.getD i default) (b.2.getD i default) ≤ g.cu) → alikeR g a b 0 = false := fun h => by
   cases hh : alikeR g a b 0 with
   | false => rfl
   | true => exact absurd (hiff.1 hh) h
 generalize alikeR g a b 0 = R at *
 generalize farR a.1 b.1 = fw at *
 refine fn_enter Tryd.func50 rfl (by decide) Tryd.results50 Tryd.ntmps50 ?_ rfl (by simp (maxSteps := 1000000) -implicitDefEqProofs (disch := omega) only [go_sem]; rfl) fun base => ?_
 · first | assumption | (simp only [go_sem] <;> assumption) | (simp only [go_sem, *]; done) | (simp [go_sem]; done)
 repeat' (first
   | (with_reducible apply Req_intro); focus (first | omega | assumption | (simp; done))
   | with_reducible (first | apply Req_intro | refine nilT ?_ fun hn => ?_ | apply wk_draw Tryd_mixed | refine drawEnd (by kernel_rfl) ?_)
   | (with_reducible (first | apply condA_if | apply stepDG_ifN | apply stepDG_if | apply stepG_ifN | apply stepG_if)) <;> intro hb <;> (have hif := hb) <;> (try simp only [bo] at hif) <;> (try simp -implicitDefEqProofs (disch := omega) only [go_sem, hb]) <;> clear hb
   | simp (maxSteps := 1000000) -implicitDefEqProofs (disch := omega) only [go_sem])
 all_goals first | exact absurd trivial ‹¬True› | exact absurd ‹false = true› (by decide) | exact absurd ‹true = false› (by decide) | (exfalso; omega) | omega | skip
 first | refine callp hw ?_ | refine calld hw ?_
 try simp (maxSteps := 1000000) -implicitDefEqProofs (disch := omega) only [go_sem]
 repeat' (first
   | (with_reducible apply Req_intro); focus (first | omega | assumption | (simp; done))
   | with_reducible (first | apply Req_intro | refine nilT ?_ fun hn => ?_ | apply wk_draw Tryd_mixed | refine drawEnd (by kernel_rfl) ?_)
   | (with_reducible (first | apply condA_if | apply stepDG_ifN | apply stepDG_if | apply stepG_ifN | apply stepG_if)) <;> intro hb <;> (have hif := hb) <;> (try simp only [bo] at hif) <;> (try simp -implicitDefEqProofs (disch := omega) only [go_sem, hb]) <;> clear hb
   | simp (maxSteps := 1000000) -implicitDefEqProofs (disch := omega) only [go_sem])
 all_goals first | exact absurd trivial ‹¬True› | exact absurd ‹false = true› (by decide) | exact absurd ‹true = false› (by decide) | (exfalso; omega) | omega | skip
 · refine ret_do ?_
   rw [hno (fun h => by omega)]; rfl
 refine loop_at (α := Nat) [6, 7, 25, 26, 27, 28, 29, 30, 31, 32, 33, 34, 35, 36, 37, 38, 39, 40, 41, 42, 43, 44, 45] (fun i => [(7, .lit (.int .i64 i))]) (fun i => i ≤ m ∧ ∀ j, j < i → farR (a.2.getD j default) (b.2.getD j default) ≤ g.cu) (fun i => m - i) 0 (fun x => by simp (maxSteps := 1000000) -implicitDefEqProofs (disch := omega) only [go_sem]; rfl) ?_ ?_ fun x hx => ?_
 · exact weak_do []
 · exact ⟨Nat.zero_le _, fun j hj => by omega⟩
 obtain ⟨hi, hp⟩ := hx
 by_cases hlt : x < m
 · have hcx := hc x hlt
   obtain ⟨fx, hfx⟩ : ∃ fx, farR (a.2.getD x default) (b.2.getD x default) = fx := ⟨_, rfl⟩
   rw [hfx] at hcx
   repeat' (first
     | (with_reducible apply Req_intro); focus (first | omega | assumption | (simp; done))
     | with_reducible (first | apply Req_intro | refine nilT ?_ fun hn => ?_ | apply wk_draw Tryd_mixed | refine drawEnd (by kernel_rfl) ?_)
     | (with_reducible (first | apply condA_if | apply stepDG_ifN | apply stepDG_if | apply stepG_ifN | apply stepG_if)) <;> intro hb <;> (have hif := hb) <;> (try simp only [bo] at hif) <;> (try simp -implicitDefEqProofs (disch := omega) only [go_sem, hb]) <;> clear hb
     | simp (maxSteps := 1000000) -implicitDefEqProofs (disch := omega) only [go_sem])
   all_goals first | exact absurd trivial ‹¬True› | exact absurd ‹false = true› (by decide) | exact absurd ‹true = false› (by decide) | (exfalso; omega) | omega | skip
   first | refine callp hcx ?_ | refine calld hcx ?_
   try simp (maxSteps := 1000000) -implicitDefEqProofs (disch := omega) only [go_sem]
   repeat' (first
     | (with_reducible apply Req_intro); focus (first | omega | assumption | (simp; done))
     | with_reducible (first | apply Req_intro | refine nilT ?_ fun hn => ?_ | apply wk_draw Tryd_mixed | refine drawEnd (by kernel_rfl) ?_)
     | (with_reducible (first | apply condA_if | apply stepDG_ifN | apply stepDG_if | apply stepG_ifN | apply stepG_if)) <;> intro hb <;> (have hif := hb) <;> (try simp only [bo] at hif) <;> (try simp -implicitDefEqProofs (disch := omega) only [go_sem, hb]) <;> clear hb
     | simp (maxSteps := 1000000) -implicitDefEqProofs (disch := omega) only [go_sem])
   all_goals first | exact absurd trivial ‹¬True› | exact absurd ‹false = true› (by decide) | exact absurd ‹true = false› (by decide) | (exfalso; omega) | omega | skip
   · refine ret_do ?_
     rw [hno (fun h => by have := h.2 x hlt; omega)]; rfl
   · refine nxt_w (x + 1) (weak_do []) ?_
     try dsimp only
     refine ⟨by omega, fun j hj => ?_⟩
     rcases Nat.lt_succ_iff_lt_or_eq.1 hj with h | rfl
     · exact hp j h
     · omega
 · repeat' (first
     | (with_reducible apply Req_intro); focus (first | omega | assumption | (simp; done))
     | with_reducible (first | apply Req_intro | refine nilT ?_ fun hn => ?_ | apply wk_draw Tryd_mixed | refine drawEnd (by kernel_rfl) ?_)
     | (with_reducible (first | apply condA_if | apply stepDG_ifN | apply stepDG_if | apply stepG_ifN | apply stepG_if)) <;> intro hb <;> (have hif := hb) <;> (try simp only [bo] at hif) <;> (try simp -implicitDefEqProofs (disch := omega) only [go_sem, hb]) <;> clear hb
     | simp (maxSteps := 1000000) -implicitDefEqProofs (disch := omega) only [go_sem])
   all_goals first | exact absurd trivial ‹¬True› | exact absurd ‹false = true› (by decide) | exact absurd ‹true = false› (by decide) | (exfalso; omega) | omega | skip
   refine ret_do ?_
   rw [hiff.2 ⟨by omega, fun i hi => hp i (by omega)⟩]; rfl
theorem natL_at (l : List Nat) {i : Nat} (h : i < l.length) : (natL l).getD i default = ((l.getD i default : Nat) : Int) := by
 rw [natL, List.getD_eq_getElem?_getD, List.getElem?_map, List.getElem?_eq_getElem h, getD_default h]; rfl
theorem has_spec (l : List Nat) (e : Bool) (n : Nat) (hl : l.length ≤ 100) : Ct Tryd.prog 53 [.sl 1 ((natL l).map encI) e, int n] (.lit (.bool (decide (n ∈ l)))) := by
 have hnl := natL_len l
 refine fn_enter Tryd.func53 rfl (by decide) Tryd.results53 Tryd.ntmps53 ?_ rfl (by simp (maxSteps := 1000000) -implicitDefEqProofs (disch := omega) only [go_sem]; rfl) fun base => ?_
 · first | assumption | (simp only [go_sem] <;> assumption) | (simp only [go_sem, *]; done) | (simp [go_sem]; done)
 repeat' (first
   | (with_reducible apply Req_intro); focus (first | omega | assumption | (simp; done))
   | with_reducible (first | apply Req_intro | refine nilT ?_ fun hn => ?_ | apply wk_draw Tryd_mixed | refine drawEnd (by kernel_rfl) ?_)
   | (with_reducible (first | apply condA_if | apply stepDG_ifN | apply stepDG_if | apply stepG_ifN | apply stepG_if)) <;> intro hb <;> (have hif := hb) <;> (try simp only [bo] at hif) <;> (try simp -implicitDefEqProofs (disch := omega) only [go_sem, hb]) <;> clear hb
   | simp (maxSteps := 1000000) -implicitDefEqProofs (disch := omega) only [go_sem])
 refine loop_at (α := Nat) [4, 5, 6, 7, 8, 9, 10, 11, 12, 13, 14, 15, 16, 17] (fun i => [(5, .lit (.int .i64 i))]) (fun i => i ≤ l.length ∧ n ∉ l.take i) (fun i => l.length - i) 0 (fun x => by simp (maxSteps := 1000000) -implicitDefEqProofs (disch := omega) only [go_sem]; rfl) ?_ ?_ fun x hx => ?_
 · exact weak_do []
 · simp
 obtain ⟨hi, hp⟩ := hx
 by_cases hlt : x < l.length
 · have hg := natL_at l hlt
   have hm := getD_mem hlt
   have ht := take_succ_getD hlt
   generalize l.getD x default = lx at *
   repeat' (first
     | (with_reducible apply Req_intro); focus (first | omega | assumption | (simp; done))
     | with_reducible (first | apply Req_intro | refine nilT ?_ fun hn => ?_ | apply wk_draw Tryd_mixed | refine drawEnd (by kernel_rfl) ?_)
     | (with_reducible (first | apply condA_if | apply stepDG_ifN | apply stepDG_if | apply stepG_ifN | apply stepG_if)) <;> intro hb <;> (have hif := hb) <;> (try simp only [bo] at hif) <;> (try simp -implicitDefEqProofs (disch := omega) only [go_sem, hb, hg]) <;> clear hb
     | simp (maxSteps := 1000000) -implicitDefEqProofs (disch := omega) only [go_sem, hg])
   all_goals first | exact absurd trivial ‹¬True› | exact absurd ‹false = true› (by decide) | exact absurd ‹true = false› (by decide) | (exfalso; omega) | omega | skip
   · refine ret_do ?_
     have : n = lx := by omega
     rw [this, decide_eq_true hm]; rfl
   · refine nxt_w (x + 1) (weak_do []) ?_
     try dsimp only
     refine ⟨by omega, ?_⟩
     rw [ht, List.mem_append, List.mem_singleton]
     rintro (h | h)
     · exact hp h
     · omega
 · repeat' (first
     | (with_reducible apply Req_intro); focus (first | omega | assumption | (simp; done))
     | with_reducible (first | apply Req_intro | refine nilT ?_ fun hn => ?_ | apply wk_draw Tryd_mixed | refine drawEnd (by kernel_rfl) ?_)
     | (with_reducible (first | apply condA_if | apply stepDG_ifN | apply stepDG_if | apply stepG_ifN | apply stepG_if)) <;> intro hb <;> (have hif := hb) <;> (try simp only [bo] at hif) <;> (try simp -implicitDefEqProofs (disch := omega) only [go_sem, hb]) <;> clear hb
     | simp (maxSteps := 1000000) -implicitDefEqProofs (disch := omega) only [go_sem])
   all_goals first | exact absurd trivial ‹¬True› | exact absurd ‹false = true› (by decide) | exact absurd ‹true = false› (by decide) | (exfalso; omega) | omega | skip
   refine ret_do ?_
   rw [List.take_of_length_le (by omega)] at hp
   rw [decide_eq_false hp]; rfl
theorem asc_get {l : List Nat} (h : l.Pairwise (· < ·)) {i : Nat} (hi : i + 1 < l.length) : l.getD i default < l.getD (i + 1) default := by
 rw [getD_default (by omega), getD_default hi]
 exact List.pairwise_iff_getElem.1 h i (i + 1) (by omega) hi (by omega)
theorem marked_spec (l : List Nat) (e : Bool) (n : Nat) (hl : l.length ≤ 100) (hn : ∀ x ∈ l, x < n) (ha : l.Pairwise (· < ·)) : Ct Tryd.prog 52 [.sl 1 ((natL l).map encI) e, int n] (.lit (.bool true)) := by
 have hnl := natL_len l
 refine fn_enter Tryd.func52 rfl (by decide) Tryd.results52 Tryd.ntmps52 ?_ rfl (by simp (maxSteps := 1000000) -implicitDefEqProofs (disch := omega) only [go_sem]; rfl) fun base => ?_
 · first | assumption | (simp only [go_sem] <;> assumption) | (simp only [go_sem, *]; done) | (simp [go_sem]; done)
 repeat' (first
   | (with_reducible apply Req_intro); focus (first | omega | assumption | (simp; done))
   | with_reducible (first | apply Req_intro | refine nilT ?_ fun hn => ?_ | apply wk_draw Tryd_mixed | refine drawEnd (by kernel_rfl) ?_)
   | (with_reducible (first | apply condA_if | apply stepDG_ifN | apply stepDG_if | apply stepG_ifN | apply stepG_if)) <;> intro hb <;> (have hif := hb) <;> (try simp only [bo] at hif) <;> (try simp -implicitDefEqProofs (disch := omega) only [go_sem, hb]) <;> clear hb
   | simp (maxSteps := 1000000) -implicitDefEqProofs (disch := omega) only [go_sem])
 refine loop_at (α := Nat) [4, 5, 6, 7, 8, 9, 10, 11, 12, 13, 14, 15, 16, 17, 18, 19, 20, 21, 22, 23, 24, 25, 26, 27, 28, 29, 30, 31, 32, 33, 34, 35, 36, 37, 38, 39, 40] (fun i => [(5, .lit (.int .i64 i))]) (fun i => i ≤ l.length) (fun i => l.length - i) 0 (fun x => by simp (maxSteps := 1000000) -implicitDefEqProofs (disch := omega) only [go_sem]; rfl) ?_ ?_ fun x hx => ?_
 · exact weak_do []
 · exact Nat.zero_le _
 by_cases hlt : x < l.length
 · have hg := natL_at l hlt
   have hm := hn _ (getD_mem hlt)
   rcases Nat.eq_zero_or_pos x with h0 | h0
   · subst h0
     generalize l.getD 0 default = lx at *
     repeat' (first
       | (with_reducible apply Req_intro); focus (first | omega | assumption | (simp; done))
       | with_reducible (first | apply Req_intro | refine nilT ?_ fun hn => ?_ | apply wk_draw Tryd_mixed | refine drawEnd (by kernel_rfl) ?_)
       | (with_reducible (first | apply condA_if | apply stepDG_ifN | apply stepDG_if | apply stepG_ifN | apply stepG_if)) <;> intro hb <;> (have hif := hb) <;> (try simp only [bo] at hif) <;> (try simp -implicitDefEqProofs (disch := omega) only [go_sem, hb, hg]) <;> clear hb
       | simp (maxSteps := 1000000) -implicitDefEqProofs (disch := omega) only [go_sem, hg])
     all_goals first | exact absurd trivial ‹¬True› | exact absurd ‹false = true› (by decide) | exact absurd ‹true = false› (by decide) | (exfalso; omega) | omega | skip
     refine nxt_w (0 + 1) (weak_do []) ?_
     try dsimp only
     omega
   · obtain ⟨y, rfl⟩ : ∃ y, x = y + 1 := ⟨x - 1, by omega⟩
     have hg2 := natL_at l (show y < l.length by omega)
     have hac := asc_get ha hlt
     generalize l.getD (y + 1) default = lx at *
     generalize l.getD y default = ly at *
     have hy : (((y + 1 : Nat) : Int) - 1).toNat = y := by omega
     repeat' (first
       | (with_reducible apply Req_intro); focus (first | omega | assumption | (simp; done))
       | with_reducible (first | apply Req_intro | refine nilT ?_ fun hn => ?_ | apply wk_draw Tryd_mixed | refine drawEnd (by kernel_rfl) ?_)
       | (with_reducible (first | apply condA_if | apply stepDG_ifN | apply stepDG_if | apply stepG_ifN | apply stepG_if)) <;> intro hb <;> (have hif := hb) <;> (try simp only [bo] at hif) <;> (try simp -implicitDefEqProofs (disch := omega) only [go_sem, hb, hg, hg2, hy]) <;> clear hb
       | simp (maxSteps := 1000000) -implicitDefEqProofs (disch := omega) only [go_sem, hg, hg2, hy])
     all_goals first | exact absurd trivial ‹¬True› | exact absurd ‹false = true› (by decide) | exact absurd ‹true = false› (by decide) | (exfalso; omega) | omega | skip
     refine nxt_w (y + 1 + 1) (weak_do []) ?_
     try dsimp only
     omega
 · repeat' (first
     | (with_reducible apply Req_intro); focus (first | omega | assumption | (simp; done))
     | with_reducible (first | apply Req_intro | refine nilT ?_ fun hn => ?_ | apply wk_draw Tryd_mixed | refine drawEnd (by kernel_rfl) ?_)
     | (with_reducible (first | apply condA_if | apply stepDG_ifN | apply stepDG_if | apply stepG_ifN | apply stepG_if)) <;> intro hb <;> (have hif := hb) <;> (try simp only [bo] at hif) <;> (try simp -implicitDefEqProofs (disch := omega) only [go_sem, hb]) <;> clear hb
     | simp (maxSteps := 1000000) -implicitDefEqProofs (disch := omega) only [go_sem])
   all_goals first | exact absurd trivial ‹¬True› | exact absurd ‹false = true› (by decide) | exact absurd ‹true = false› (by decide) | (exfalso; omega) | omega | skip
   refine ret_do ?_
   rfl
end Go.Aw
end
section
set_option maxRecDepth 20000
set_option maxHeartbeats 4000000
namespace Go.Aw
open Go.RowKit Go.Proofs
theorem asc_getP {l : List (Nat × Nat)} (h : (l.map (·.1)).Pairwise (· < ·)) {i : Nat} (hi : i + 1 < l.length) : (l.getD i default).1 < (l.getD (i + 1) default).1 := by
 rw [getD_default (by omega), getD_default hi]
 have := List.pairwise_iff_getElem.1 h i (i + 1) (by simp; omega) (by simp; omega) (by omega)
 simpa using this
theorem nodup_getP {l : List (Nat × Nat)} (h : (l.map (·.2)).Nodup) {i k : Nat} (hi : i < l.length) (hk : k < i) : (l.getD k default).2 ≠ (l.getD i default).2 := by
 rw [getD_default (by omega), getD_default hi]
 have := List.pairwise_iff_getElem.1 h k i (by simp; omega) (by simp; omega) (by omega)
 simpa using this
theorem apart_spec (ls rs : List Grd) (e1 e2 e : Bool) (l : List (Nat × Nat)) (hl : l.length ≤ 100) (h1 : ∀ p ∈ l, p.1 < ls.length ∧ p.2 < rs.length) (ha : (l.map (·.1)).Pairwise (· < ·)) (hn : (l.map (·.2)).Nodup) : Ct Tryd.prog 48 [encSt ls rs e1 e2, .sl 2 (l.map encP) e] (.lit (.bool true)) := by
 refine fn_enter Tryd.func48 rfl (by decide) Tryd.results48 Tryd.ntmps48 ?_ rfl (by simp (maxSteps := 1000000) -implicitDefEqProofs (disch := omega) only [go_sem]; rfl) fun base => ?_
 · first | assumption | (simp only [go_sem] <;> assumption) | (simp only [go_sem, *]; done) | (simp [go_sem]; done)
 repeat' (first
   | (with_reducible apply Req_intro); focus (first | omega | assumption | (simp; done))
   | with_reducible (first | apply Req_intro | refine nilT ?_ fun hn => ?_ | apply wk_draw Tryd_mixed | refine drawEnd (by kernel_rfl) ?_)
   | (with_reducible (first | apply condA_if | apply stepDG_ifN | apply stepDG_if | apply stepG_ifN | apply stepG_if)) <;> intro hb <;> (have hif := hb) <;> (try simp only [bo] at hif) <;> (try simp -implicitDefEqProofs (disch := omega) only [go_sem, hb]) <;> clear hb
   | simp (maxSteps := 1000000) -implicitDefEqProofs (disch := omega) only [go_sem])
 refine loop_rows (α := Nat) (6 :: [4, 5, 6, 7, 8, 9, 10, 11, 12, 13, 14, 15, 16, 17, 18, 19, 20, 21, 22, 23, 24, 25, 26, 27, 28, 29, 30, 31, 32, 33, 34, 35, 36, 37, 38, 39, 40, 41, 42, 43, 44, 45, 46, 47, 48, 49, 50, 51, 52, 53, 54, 55, 56, 57, 58, 59, 60, 61, 62, 63, 64, 65, 66, 67, 68, 69, 70, 71, 72, 73, 74, 75, 76, 77, 78, 79, 80, 81, 82]) (fun i => [(5, .lit (.int .i64 i))]) (fun i => [(0, some ⟨2, [[.sl 2 (ls.map encGd) e1, .sl 2 (rs.map encGd) e2]], 38, .wr⟩)]) (fun i => i ≤ l.length) (fun i => l.length - i) 0 (fun x => by simp (maxSteps := 1000000) -implicitDefEqProofs (disch := omega) only [go_sem]; rfl) ?_ ?_ fun x hx => ?_
 · exact weak_do3 []
 · exact Nat.zero_le _
 rename Nat => i
 by_cases hlt : i < l.length
 · obtain ⟨b1, b2⟩ := h1 _ (getD_mem hlt)
   have hnd := fun k (hk : k < i) => nodup_getP hn hlt hk
   have hrest : ∀ (Q : Prop), Q → Q := fun _ h => h
   obtain ⟨pa, hpa⟩ : ∃ pa, (l.getD i default).1 = pa := ⟨_, rfl⟩
   obtain ⟨pb, hpb⟩ : ∃ pb, (l.getD i default).2 = pb := ⟨_, rfl⟩
   rw [hpa] at b1
   rw [hpb] at b2
   rcases Nat.eq_zero_or_pos i with h0 | h0
   · subst h0
     repeat' (first
       | (with_reducible apply Req_intro); focus (first | omega | assumption | (simp; done))
       | with_reducible (first | apply Req_intro | refine nilT ?_ fun hn => ?_ | apply wk_draw Tryd_mixed | refine drawEnd (by kernel_rfl) ?_)
       | (with_reducible (first | apply condA_if | apply stepDG_ifN | apply stepDG_if | apply stepG_ifN | apply stepG_if)) <;> intro hb <;> (have hif := hb) <;> (try simp only [bo] at hif) <;> (try simp -implicitDefEqProofs (disch := omega) only [go_sem, hb, hpa, hpb]) <;> clear hb
       | simp (maxSteps := 1000000) -implicitDefEqProofs (disch := omega) only [go_sem, hpa, hpb])
     all_goals first | exact absurd trivial ‹¬True› | exact absurd ‹false = true› (by decide) | exact absurd ‹true = false› (by decide) | (exfalso; omega) | omega | skip
     refine loop_rows (α := Nat) ([4, 6, 67, 68, 69, 70, 71, 72, 73, 74, 75, 76, 77, 78, 79, 80, 81, 82]) (fun k => [(6, .lit (.int .i64 k))]) (fun i => [(0, some ⟨2, [[.sl 2 (ls.map encGd) e1, .sl 2 (rs.map encGd) e2]], 38, .wr⟩)]) (fun k => k ≤ 0) (fun k => 0 - k) 0 (fun x => by simp (maxSteps := 1000000) -implicitDefEqProofs (disch := omega) only [go_sem]; rfl) ?_ ?_ fun x hx => ?_
     · exact weak_do3 []
     · exact Nat.zero_le _
     obtain rfl : x = 0 := by omega
     repeat' (first
       | (with_reducible apply Req_intro); focus (first | omega | assumption | (simp; done))
       | with_reducible (first | apply Req_intro | refine nilT ?_ fun hn => ?_ | apply wk_draw Tryd_mixed | refine drawEnd (by kernel_rfl) ?_)
       | (with_reducible (first | apply condA_if | apply stepDG_ifN | apply stepDG_if | apply stepG_ifN | apply stepG_if)) <;> intro hb <;> (have hif := hb) <;> (try simp only [bo] at hif) <;> (try simp -implicitDefEqProofs (disch := omega) only [go_sem, hb]) <;> clear hb
       | simp (maxSteps := 1000000) -implicitDefEqProofs (disch := omega) only [go_sem])
     all_goals first | exact absurd trivial ‹¬True› | exact absurd ‹false = true› (by decide) | exact absurd ‹true = false› (by decide) | (exfalso; omega) | omega | skip
     with_reducible refine nxt_w (0 + 1) ?_ ?_
     · (try dsimp only)
       skip
       exact weak_do3 []
     try dsimp only
     omega
   · obtain ⟨y, rfl⟩ : ∃ y, i = y + 1 := ⟨i - 1, by omega⟩
     have hac := asc_getP ha hlt
     rw [hpa] at hac
     obtain ⟨pc, hpc⟩ : ∃ pc, (l.getD y default).1 = pc := ⟨_, rfl⟩
     rw [hpc] at hac
     have hy : (((y + 1 : Nat) : Int) - 1).toNat = y := by omega
     repeat' (first
       | (with_reducible apply Req_intro); focus (first | omega | assumption | (simp; done))
       | with_reducible (first | apply Req_intro | refine nilT ?_ fun hn => ?_ | apply wk_draw Tryd_mixed | refine drawEnd (by kernel_rfl) ?_)
       | (with_reducible (first | apply condA_if | apply stepDG_ifN | apply stepDG_if | apply stepG_ifN | apply stepG_if)) <;> intro hb <;> (have hif := hb) <;> (try simp only [bo] at hif) <;> (try simp -implicitDefEqProofs (disch := omega) only [go_sem, hb, hpa, hpb, hy, hpc]) <;> clear hb
       | simp (maxSteps := 1000000) -implicitDefEqProofs (disch := omega) only [go_sem, hpa, hpb, hy, hpc])
     all_goals first | exact absurd trivial ‹¬True› | exact absurd ‹false = true› (by decide) | exact absurd ‹true = false› (by decide) | (exfalso; omega) | omega | skip
     refine loop_rows (α := Nat) ([4, 6, 67, 68, 69, 70, 71, 72, 73, 74, 75, 76, 77, 78, 79, 80, 81, 82]) (fun k => [(6, .lit (.int .i64 k))]) (fun i => [(0, some ⟨2, [[.sl 2 (ls.map encGd) e1, .sl 2 (rs.map encGd) e2]], 38, .wr⟩)]) (fun k => k ≤ y + 1) (fun k => y + 1 - k) 0 (fun x => by simp (maxSteps := 1000000) -implicitDefEqProofs (disch := omega) only [go_sem]; rfl) ?_ ?_ fun x hx => ?_
     · exact weak_do3 []
     · exact Nat.zero_le _
     by_cases hk : x < y + 1
     · have hne := hnd x hk
       rw [hpb] at hne
       obtain ⟨pd, hpd⟩ : ∃ pd, (l.getD x default).2 = pd := ⟨_, rfl⟩
       rw [hpd] at hne
       repeat' (first
         | (with_reducible apply Req_intro); focus (first | omega | assumption | (simp; done))
         | with_reducible (first | apply Req_intro | refine nilT ?_ fun hn => ?_ | apply wk_draw Tryd_mixed | refine drawEnd (by kernel_rfl) ?_)
         | (with_reducible (first | apply condA_if | apply stepDG_ifN | apply stepDG_if | apply stepG_ifN | apply stepG_if)) <;> intro hb <;> (have hif := hb) <;> (try simp only [bo] at hif) <;> (try simp -implicitDefEqProofs (disch := omega) only [go_sem, hb, hpb, hpd]) <;> clear hb
         | simp (maxSteps := 1000000) -implicitDefEqProofs (disch := omega) only [go_sem, hpb, hpd])
       all_goals first | exact absurd trivial ‹¬True› | exact absurd ‹false = true› (by decide) | exact absurd ‹true = false› (by decide) | (exfalso; omega) | omega | skip
       with_reducible refine nxt_w (x + 1) ?_ ?_
       · (try dsimp only)
         skip
         exact weak_do3 []
       try dsimp only
       omega
     · repeat' (first
         | (with_reducible apply Req_intro); focus (first | omega | assumption | (simp; done))
         | with_reducible (first | apply Req_intro | refine nilT ?_ fun hn => ?_ | apply wk_draw Tryd_mixed | refine drawEnd (by kernel_rfl) ?_)
         | (with_reducible (first | apply condA_if | apply stepDG_ifN | apply stepDG_if | apply stepG_ifN | apply stepG_if)) <;> intro hb <;> (have hif := hb) <;> (try simp only [bo] at hif) <;> (try simp -implicitDefEqProofs (disch := omega) only [go_sem, hb]) <;> clear hb
         | simp (maxSteps := 1000000) -implicitDefEqProofs (disch := omega) only [go_sem])
       all_goals first | exact absurd trivial ‹¬True› | exact absurd ‹false = true› (by decide) | exact absurd ‹true = false› (by decide) | (exfalso; omega) | omega | skip
       with_reducible refine nxt_w (y + 1 + 1) ?_ ?_
       · (try dsimp only)
         skip
         exact weak_do3 []
       try dsimp only
       omega
 · repeat' (first
     | (with_reducible apply Req_intro); focus (first | omega | assumption | (simp; done))
     | with_reducible (first | apply Req_intro | refine nilT ?_ fun hn => ?_ | apply wk_draw Tryd_mixed | refine drawEnd (by kernel_rfl) ?_)
     | (with_reducible (first | apply condA_if | apply stepDG_ifN | apply stepDG_if | apply stepG_ifN | apply stepG_if)) <;> intro hb <;> (have hif := hb) <;> (try simp only [bo] at hif) <;> (try simp -implicitDefEqProofs (disch := omega) only [go_sem, hb]) <;> clear hb
     | simp (maxSteps := 1000000) -implicitDefEqProofs (disch := omega) only [go_sem])
   all_goals first | exact absurd trivial ‹¬True› | exact absurd ‹false = true› (by decide) | exact absurd ‹true = false› (by decide) | (exfalso; omega) | omega | skip
   refine ret_do ?_
   rfl
end Go.Aw
end
section
set_option maxRecDepth 20000
set_option maxHeartbeats 4000000
namespace Go.Aw
open Go.RowKit Go.Proofs
theorem bits_asc (x : Nat) : (bitsL x).Pairwise (· < ·) := List.Pairwise.filter _ (List.pairwise_lt_range)
theorem bits_mem {x r : Nat} (hx : x < 65536) : (decide (r ∈ bitsL x)) = x.testBit r := by
 rw [Bool.eq_iff_iff, decide_eq_true_eq, bitsL_mem hx]
@[go_sem] theorem und_bool10 : Tryd.prog.underlying 4 = some .bool := Tryd.underlying4
theorem bits16 (x : Nat) : (bitsL x).length ≤ 16 := by have := List.length_filter_le (fun i => x.testBit i) (List.range 16); rwa [List.length_range] at this
theorem GuardProof_spec (x : Chst) (h : x.ok) : Ct Tryd.prog 12 [.agg (chC x)] (.lit (.bool true)) := by
 obtain ⟨_, hm1, hm2⟩ := chM_is h
 have hmade := made_spec x h
 have hfl := chL_fine h.l hm2
 have hfr := chL_fine h.r hm2
 have hgg := chG_ok h
 have hl8 : (chL x.l (chM x)).length ≤ 8 := by rw [chL_len]; omega
 have hr8 : (chL x.r (chM x)).length ≤ 8 := by rw [chL_len]; omega
 generalize chL x.l (chM x) = ls at *
 generalize chL x.r (chM x) = rs at *
 generalize chG x = g at *
 generalize chM x = m at *
 have h0 := check_fine hm1 (by omega) hl8 hr8 hfl hfr hgg
 have hst : StOk ls rs := ⟨by omega, by omega, fun x hx => by have := (hfl x hx).len; omega, fun x hx => by have := (hfr x hx).len; omega⟩
 have hown := own_spec ls rs false false hst
 have hp := Pairs_ok g ls rs false false hst h0
 have hc := Cover_ok g ls rs false false hst h0
 obtain ⟨hb1, hb2, hb3, hb4⟩ := pairs_bnd (g := g) (ls := ls) (rs := rs) (k := 2) (by omega)
 have hfew := tableR_few (g := g) (ls := ls) (rs := rs) (k := 2) (by omega)
 have hTl := tableR_len g ls rs 2
 have hkon := konig hfew (by omega)
 have hone := fun p hp => one_each hfew (by omega) hkon (p := p) hp
 have hlt := bestTo_lt (tableR g ls rs 2) (2 ^ ls.length) (Nat.one_le_two_pow)
 have hmle := most_left_le (g := g) (ls := ls) (rs := rs) (k := 2) (by omega)
 have hbit : ∀ i k, i < ls.length → k < rs.length → ((tableR g ls rs 2).getD i 0).testBit k = alikeR g (ls.getD i default) (rs.getD k default) 2 := fun i k hi hk => by
   rw [tableR_get hi, rowR_bit, decide_eq_true hk, Bool.true_and]
 have hsub := fun i hi hS => row_sub_cover (T := tableR g ls rs 2) (S := bestS (tableR g ls rs 2)) (i := i) hi hS
 have hcl : ∀ k, (coverR (tableR g ls rs 2) (bestS (tableR g ls rs 2))).testBit k = true → k < rs.length := fun k hk => by
   obtain ⟨i, hi, _, hb⟩ := (coverTo_bit _ _ _ _).1 hk
   rw [hTl] at hi
   rw [tableR_get hi, rowR_bit, Bool.and_eq_true, decide_eq_true_eq] at hb
   exact hb.1
 rw [show bestTo (tableR g ls rs 2) (2 ^ ls.length) = bestS (tableR g ls rs 2) from by rw [bestS, hTl]] at hlt
 rw [hTl] at hsub
 have hp8 : 2 ^ ls.length ≤ 256 := Nat.pow_le_pow_right (n := 2) (by decide) hl8
 have hC16 : coverR (tableR g ls rs 2) (bestS (tableR g ls rs 2)) < 65536 := Nat.lt_of_lt_of_le (Nat.lt_pow_two_of_testBit _ fun k hk => by
   cases hh : (coverR (tableR g ls rs 2) (bestS (tableR g ls rs 2))).testBit k with
   | false => rfl
   | true => exact absurd (hcl k hh) (by omega)) (Nat.pow_le_pow_right (n := 2) (show 0 < 2 by decide) (show rs.length ≤ 16 by omega))
 rw [show sizeR (tableR g ls rs 2) (bestS (tableR g ls rs 2)) = (bitsL (bestS (tableR g ls rs 2))).length + (bitsL (coverR (tableR g ls rs 2) (bestS (tableR g ls rs 2)))).length from by rw [sizeR, bitsL_len, bitsL_len], ← hb4] at hkon
 have hab1 : ∀ i, i < ls.length → ∀ k, k < rs.length → alikeR g (ls.getD i default) (rs.getD k default) 2 = true → (bestS (tableR g ls rs 2)).testBit i = false → (coverR (tableR g ls rs 2) (bestS (tableR g ls rs 2))).testBit k = true := fun i hi k hk ha hS => hsub i hi hS k (by rw [hbit i k hi hk]; exact ha)
 generalize coverR (tableR g ls rs 2) (bestS (tableR g ls rs 2)) = C at *
 generalize bestS (tableR g ls rs 2) = S at *
 generalize pairsR (tableR g ls rs 2) = PR at *
 clear hsub hbit hfew
 have hSl : ∀ r ∈ bitsL S, r < ls.length := fun r hr => by
   have hb := (bitsL_mem (by omega)).1 hr
   refine Classical.byContradiction fun hc => ?_
   have := Nat.ge_two_pow_of_testBit hb
   have := Nat.pow_le_pow_right (n := 2) (by decide) (show ls.length ≤ r by omega)
   omega
 have hCl : ∀ r ∈ bitsL C, r < rs.length := fun r hr => hcl r ((bitsL_mem hC16).1 hr)
 have hap := apart_spec ls rs false false false PR (by omega) (fun p hp => ⟨(hb1 p hp).1, (hb1 p hp).2.1⟩) hb2 hb3
 have hSL := bits16 S
 have hCL := bits16 C
 have hmk1 := marked_spec (bitsL S) false ls.length (by omega) hSl (bits_asc S)
 have hmk2 := marked_spec (bitsL C) false rs.length (by omega) hCl (bits_asc C)
 have hh1 := fun n => has_spec (bitsL S) false n (by omega)
 have hh2 := fun n => has_spec (bitsL C) false n (by omega)
 have hd1 : ∀ r, decide (r ∈ bitsL S) = S.testBit r := fun r => bits_mem (by omega)
 have hd2 : ∀ r, decide (r ∈ bitsL C) = C.testBit r := fun r => bits_mem hC16
 simp only [hd1] at hh1
 simp only [hd2] at hh2
 have hnS := natL_len (bitsL S)
 have hnC := natL_len (bitsL C)
 generalize bitsL S = BS at *
 generalize bitsL C = BC at *
 refine fn_enter Tryd.func12 rfl (by decide) Tryd.results12 Tryd.ntmps12 ?_ rfl (by simp (maxSteps := 1000000) -implicitDefEqProofs (disch := omega) only [go_sem]; rfl) fun base => ?_
 · first | assumption | (simp only [go_sem] <;> assumption) | (simp only [go_sem, *]; done) | (simp [go_sem]; done)
 repeat' (first
   | (with_reducible apply Req_intro); focus (first | omega | assumption | (simp; done))
   | with_reducible (first | apply Req_intro | refine nilT ?_ fun hn => ?_ | apply wk_draw Tryd_mixed | refine drawEnd (by kernel_rfl) ?_)
   | (with_reducible (first | apply condA_if | apply stepDG_ifN | apply stepDG_if | apply stepG_ifN | apply stepG_if)) <;> intro hb <;> (have hif := hb) <;> (try simp only [bo] at hif) <;> (try simp -implicitDefEqProofs (disch := omega) only [go_sem, hb]) <;> clear hb
   | simp (maxSteps := 1000000) -implicitDefEqProofs (disch := omega) only [go_sem])
 first | refine callp hmade ?_ | refine calld hmade ?_
 try simp (maxSteps := 1000000) -implicitDefEqProofs (disch := omega) only [go_sem]
 repeat' (first
   | (with_reducible apply Req_intro); focus (first | omega | assumption | (simp; done))
   | with_reducible (first | apply Req_intro | refine nilT ?_ fun hn => ?_ | apply wk_draw Tryd_mixed | refine drawEnd (by kernel_rfl) ?_)
   | (with_reducible (first | apply condA_if | apply stepDG_ifN | apply stepDG_if | apply stepG_ifN | apply stepG_if)) <;> intro hb <;> (have hif := hb) <;> (try simp only [bo] at hif) <;> (try simp -implicitDefEqProofs (disch := omega) only [go_sem, hb]) <;> clear hb
   | simp (maxSteps := 1000000) -implicitDefEqProofs (disch := omega) only [go_sem])
 all_goals first | exact absurd trivial ‹¬True› | exact absurd ‹false = true› (by decide) | exact absurd ‹true = false› (by decide) | (exfalso; omega) | omega | skip
 first | refine callp hown ?_ | refine calld hown ?_
 try simp (maxSteps := 1000000) -implicitDefEqProofs (disch := omega) only [go_sem]
 repeat' (first
   | (with_reducible apply Req_intro); focus (first | omega | assumption | (simp; done))
   | with_reducible (first | apply Req_intro | refine nilT ?_ fun hn => ?_ | apply wk_draw Tryd_mixed | refine drawEnd (by kernel_rfl) ?_)
   | (with_reducible (first | apply condA_if | apply stepDG_ifN | apply stepDG_if | apply stepG_ifN | apply stepG_if)) <;> intro hb <;> (have hif := hb) <;> (try simp only [bo] at hif) <;> (try simp -implicitDefEqProofs (disch := omega) only [go_sem, hb]) <;> clear hb
   | simp (maxSteps := 1000000) -implicitDefEqProofs (disch := omega) only [go_sem])
 all_goals first | exact absurd trivial ‹¬True› | exact absurd ‹false = true› (by decide) | exact absurd ‹true = false› (by decide) | (exfalso; omega) | omega | skip
 first | refine callp hp ?_ | refine calld hp ?_
 try simp (maxSteps := 1000000) -implicitDefEqProofs (disch := omega) only [go_sem]
 repeat' (first
   | (with_reducible apply Req_intro); focus (first | omega | assumption | (simp; done))
   | with_reducible (first | apply Req_intro | refine nilT ?_ fun hn => ?_ | apply wk_draw Tryd_mixed | refine drawEnd (by kernel_rfl) ?_)
   | (with_reducible (first | apply condA_if | apply stepDG_ifN | apply stepDG_if | apply stepG_ifN | apply stepG_if)) <;> intro hb <;> (have hif := hb) <;> (try simp only [bo] at hif) <;> (try simp -implicitDefEqProofs (disch := omega) only [go_sem, hb]) <;> clear hb
   | simp (maxSteps := 1000000) -implicitDefEqProofs (disch := omega) only [go_sem])
 all_goals first | exact absurd trivial ‹¬True› | exact absurd ‹false = true› (by decide) | exact absurd ‹true = false› (by decide) | (exfalso; omega) | omega | skip
 first | refine callp hown ?_ | refine calld hown ?_
 try simp (maxSteps := 1000000) -implicitDefEqProofs (disch := omega) only [go_sem]
 repeat' (first
   | (with_reducible apply Req_intro); focus (first | omega | assumption | (simp; done))
   | with_reducible (first | apply Req_intro | refine nilT ?_ fun hn => ?_ | apply wk_draw Tryd_mixed | refine drawEnd (by kernel_rfl) ?_)
   | (with_reducible (first | apply condA_if | apply stepDG_ifN | apply stepDG_if | apply stepG_ifN | apply stepG_if)) <;> intro hb <;> (have hif := hb) <;> (try simp only [bo] at hif) <;> (try simp -implicitDefEqProofs (disch := omega) only [go_sem, hb]) <;> clear hb
   | simp (maxSteps := 1000000) -implicitDefEqProofs (disch := omega) only [go_sem])
 all_goals first | exact absurd trivial ‹¬True› | exact absurd ‹false = true› (by decide) | exact absurd ‹true = false› (by decide) | (exfalso; omega) | omega | skip
 first | refine callp hc ?_ | refine calld hc ?_
 try simp (maxSteps := 1000000) -implicitDefEqProofs (disch := omega) only [go_sem]
 repeat' (first
   | (with_reducible apply Req_intro); focus (first | omega | assumption | (simp; done))
   | with_reducible (first | apply Req_intro | refine nilT ?_ fun hn => ?_ | apply wk_draw Tryd_mixed | refine drawEnd (by kernel_rfl) ?_)
   | (with_reducible (first | apply condA_if | apply stepDG_ifN | apply stepDG_if | apply stepG_ifN | apply stepG_if)) <;> intro hb <;> (have hif := hb) <;> (try simp only [bo] at hif) <;> (try simp -implicitDefEqProofs (disch := omega) only [go_sem, hb]) <;> clear hb
   | simp (maxSteps := 1000000) -implicitDefEqProofs (disch := omega) only [go_sem])
 all_goals first | exact absurd trivial ‹¬True› | exact absurd ‹false = true› (by decide) | exact absurd ‹true = false› (by decide) | (exfalso; omega) | omega | skip
 first | refine callp hap ?_ | refine calld hap ?_
 try simp (maxSteps := 1000000) -implicitDefEqProofs (disch := omega) only [go_sem]
 repeat' (first
   | (with_reducible apply Req_intro); focus (first | omega | assumption | (simp; done))
   | with_reducible (first | apply Req_intro | refine nilT ?_ fun hn => ?_ | apply wk_draw Tryd_mixed | refine drawEnd (by kernel_rfl) ?_)
   | (with_reducible (first | apply condA_if | apply stepDG_ifN | apply stepDG_if | apply stepG_ifN | apply stepG_if)) <;> intro hb <;> (have hif := hb) <;> (try simp only [bo] at hif) <;> (try simp -implicitDefEqProofs (disch := omega) only [go_sem, hb]) <;> clear hb
   | simp (maxSteps := 1000000) -implicitDefEqProofs (disch := omega) only [go_sem])
 all_goals first | exact absurd trivial ‹¬True› | exact absurd ‹false = true› (by decide) | exact absurd ‹true = false› (by decide) | (exfalso; omega) | omega | skip
 first | refine callp hmk1 ?_ | refine calld hmk1 ?_
 try simp (maxSteps := 1000000) -implicitDefEqProofs (disch := omega) only [go_sem]
 repeat' (first
   | (with_reducible apply Req_intro); focus (first | omega | assumption | (simp; done))
   | with_reducible (first | apply Req_intro | refine nilT ?_ fun hn => ?_ | apply wk_draw Tryd_mixed | refine drawEnd (by kernel_rfl) ?_)
   | (with_reducible (first | apply condA_if | apply stepDG_ifN | apply stepDG_if | apply stepG_ifN | apply stepG_if)) <;> intro hb <;> (have hif := hb) <;> (try simp only [bo] at hif) <;> (try simp -implicitDefEqProofs (disch := omega) only [go_sem, hb]) <;> clear hb
   | simp (maxSteps := 1000000) -implicitDefEqProofs (disch := omega) only [go_sem])
 all_goals first | exact absurd trivial ‹¬True› | exact absurd ‹false = true› (by decide) | exact absurd ‹true = false› (by decide) | (exfalso; omega) | omega | skip
 first | refine callp hmk2 ?_ | refine calld hmk2 ?_
 try simp (maxSteps := 1000000) -implicitDefEqProofs (disch := omega) only [go_sem]
 repeat' (first
   | (with_reducible apply Req_intro); focus (first | omega | assumption | (simp; done))
   | with_reducible (first | apply Req_intro | refine nilT ?_ fun hn => ?_ | apply wk_draw Tryd_mixed | refine drawEnd (by kernel_rfl) ?_)
   | (with_reducible (first | apply condA_if | apply stepDG_ifN | apply stepDG_if | apply stepG_ifN | apply stepG_if)) <;> intro hb <;> (have hif := hb) <;> (try simp only [bo] at hif) <;> (try simp -implicitDefEqProofs (disch := omega) only [go_sem, hb]) <;> clear hb
   | simp (maxSteps := 1000000) -implicitDefEqProofs (disch := omega) only [go_sem])
 all_goals first | exact absurd trivial ‹¬True› | exact absurd ‹false = true› (by decide) | exact absurd ‹true = false› (by decide) | (exfalso; omega) | omega | skip
 refine loop_rows (α := Nat) (11 :: 12 :: 13 :: 14 :: 15 :: [2, 10, 11, 12, 13, 14, 15, 75, 76, 77, 78, 79, 80, 81, 82, 83, 84, 85, 86, 87, 88, 89, 90, 91, 92, 93, 94, 95, 96, 97, 98, 99, 100, 101, 102, 103, 104, 105, 106, 107, 108, 109, 110, 111, 112, 113, 114, 115, 116, 117, 118, 119, 120, 121, 122, 123]) (fun i => [(10, .lit (.int .i64 i))]) (fun i => [(448, some ⟨2, [[.sl 2 (ls.map encGd) false, .sl 2 (rs.map encGd) false]], 38, .wr⟩), (512, some ⟨4, [[int g.sc, int g.ga, int g.we, int g.cu]], 26, .wr⟩)]) (fun i => i ≤ ls.length) (fun i => ls.length - i) 0 (fun x => by simp (maxSteps := 1000000) -implicitDefEqProofs (disch := omega) only [go_sem]; rfl) ?_ ?_ fun x hx => ?_
 · exact weak_do3 []
 · exact Nat.zero_le _
 rename Nat => i
 by_cases hi : i < ls.length
 · have hfi := hfl _ (getD_mem hi)
   repeat' (first
     | (with_reducible apply Req_intro); focus (first | omega | assumption | (simp; done))
     | with_reducible (first | apply Req_intro | refine nilT ?_ fun hn => ?_ | apply wk_draw Tryd_mixed | refine drawEnd (by kernel_rfl) ?_)
     | (with_reducible (first | apply condA_if | apply stepDG_ifN | apply stepDG_if | apply stepG_ifN | apply stepG_if)) <;> intro hb <;> (have hif := hb) <;> (try simp only [bo] at hif) <;> (try simp -implicitDefEqProofs (disch := omega) only [go_sem, hb]) <;> clear hb
     | simp (maxSteps := 1000000) -implicitDefEqProofs (disch := omega) only [go_sem])
   all_goals first | exact absurd trivial ‹¬True› | exact absurd ‹false = true› (by decide) | exact absurd ‹true = false› (by decide) | (exfalso; omega) | omega | skip
   refine loop_rows (α := Nat) (12 :: 13 :: 14 :: 15 :: [2, 11, 12, 13, 14, 15, 82, 83, 84, 85, 86, 87, 88, 89, 90, 91, 92, 93, 94, 95, 96, 97, 98, 99, 100, 101, 102, 103, 104, 105, 106, 107, 108, 109, 110, 111, 112, 113, 114, 115, 116, 117, 118, 119, 120, 121, 122, 123]) (fun k => [(11, .lit (.int .i64 k))]) (fun k => [(448, some ⟨2, [[.sl 2 (ls.map encGd) false, .sl 2 (rs.map encGd) false]], 38, .wr⟩), (512, some ⟨4, [[int g.sc, int g.ga, int g.we, int g.cu]], 26, .wr⟩)]) (fun k => k ≤ rs.length) (fun k => rs.length - k) 0 (fun x => by simp (maxSteps := 1000000) -implicitDefEqProofs (disch := omega) only [go_sem]; rfl) ?_ ?_ fun x hx => ?_
   · exact weak_do3 []
   · exact Nat.zero_le _
   rename Nat => k
   by_cases hk : k < rs.length
   · have hfk := hfr _ (getD_mem hk)
     have hal := Alike_spec g (ls.getD i default) (rs.getD k default) (by have := hfi.len; omega) (by have := hfk.len; omega)
     rw [if_pos (chk_two hm1 (by omega) hfi hfk hgg)] at hal
     have hab := hab1 i hi k hk
     have hi1 := hh1 i
     have hk1 := hh2 k
     generalize alikeR g (ls.getD i default) (rs.getD k default) 2 = a2 at *
     generalize alikeR g (ls.getD i default) (rs.getD k default) (-2) = a3 at *
     generalize S.testBit i = si at *
     generalize C.testBit k = ck at *
     repeat' (first
       | (with_reducible apply Req_intro); focus (first | omega | assumption | (simp; done))
       | with_reducible (first | apply Req_intro | refine nilT ?_ fun hn => ?_ | apply wk_draw Tryd_mixed | refine drawEnd (by kernel_rfl) ?_)
       | (with_reducible (first | apply condA_if | apply stepDG_ifN | apply stepDG_if | apply stepG_ifN | apply stepG_if)) <;> intro hb <;> (have hif := hb) <;> (try simp only [bo] at hif) <;> (try simp -implicitDefEqProofs (disch := omega) only [go_sem, hb]) <;> clear hb
       | simp (maxSteps := 1000000) -implicitDefEqProofs (disch := omega) only [go_sem])
     all_goals first | exact absurd trivial ‹¬True› | exact absurd ‹false = true› (by decide) | exact absurd ‹true = false› (by decide) | (exfalso; omega) | omega | skip
     first | refine callp hown ?_ | refine calld hown ?_
     try simp (maxSteps := 1000000) -implicitDefEqProofs (disch := omega) only [go_sem]
     repeat' (first
       | (with_reducible apply Req_intro); focus (first | omega | assumption | (simp; done))
       | with_reducible (first | apply Req_intro | refine nilT ?_ fun hn => ?_ | apply wk_draw Tryd_mixed | refine drawEnd (by kernel_rfl) ?_)
       | (with_reducible (first | apply condA_if | apply stepDG_ifN | apply stepDG_if | apply stepG_ifN | apply stepG_if)) <;> intro hb <;> (have hif := hb) <;> (try simp only [bo] at hif) <;> (try simp -implicitDefEqProofs (disch := omega) only [go_sem, hb]) <;> clear hb
       | simp (maxSteps := 1000000) -implicitDefEqProofs (disch := omega) only [go_sem])
     all_goals first | exact absurd trivial ‹¬True› | exact absurd ‹false = true› (by decide) | exact absurd ‹true = false› (by decide) | (exfalso; omega) | omega | skip
     first | refine callp hal ?_ | refine calld hal ?_
     try simp (maxSteps := 1000000) -implicitDefEqProofs (disch := omega) only [go_sem]
     cases a2 with
     | false =>
       try simp (maxSteps := 1000000) -implicitDefEqProofs (disch := omega) only [go_sem]
       repeat' (first
         | (with_reducible apply Req_intro); focus (first | omega | assumption | (simp; done))
         | with_reducible (first | apply Req_intro | refine nilT ?_ fun hn => ?_ | apply wk_draw Tryd_mixed | refine drawEnd (by kernel_rfl) ?_)
         | (with_reducible (first | apply condA_if | apply stepDG_ifN | apply stepDG_if | apply stepG_ifN | apply stepG_if)) <;> intro hb <;> (have hif := hb) <;> (try simp only [bo] at hif) <;> (try simp -implicitDefEqProofs (disch := omega) only [go_sem, hb]) <;> clear hb
         | simp (maxSteps := 1000000) -implicitDefEqProofs (disch := omega) only [go_sem])
       all_goals first | exact absurd trivial ‹¬True› | exact absurd ‹false = true› (by decide) | exact absurd ‹true = false› (by decide) | (exfalso; omega) | omega | skip
       with_reducible refine nxt_w (k + 1) ?_ ?_
       · (try dsimp only)
         skip
         exact weak_do3 []
       try dsimp only
       omega
     | true =>
       try simp (maxSteps := 1000000) -implicitDefEqProofs (disch := omega) only [go_sem]
       repeat' (first
         | (with_reducible apply Req_intro); focus (first | omega | assumption | (simp; done))
         | with_reducible (first | apply Req_intro | refine nilT ?_ fun hn => ?_ | apply wk_draw Tryd_mixed | refine drawEnd (by kernel_rfl) ?_)
         | (with_reducible (first | apply condA_if | apply stepDG_ifN | apply stepDG_if | apply stepG_ifN | apply stepG_if)) <;> intro hb <;> (have hif := hb) <;> (try simp only [bo] at hif) <;> (try simp -implicitDefEqProofs (disch := omega) only [go_sem, hb]) <;> clear hb
         | simp (maxSteps := 1000000) -implicitDefEqProofs (disch := omega) only [go_sem])
       all_goals first | exact absurd trivial ‹¬True› | exact absurd ‹false = true› (by decide) | exact absurd ‹true = false› (by decide) | (exfalso; omega) | omega | skip
       first | refine callp hi1 ?_ | refine calld hi1 ?_
       try simp (maxSteps := 1000000) -implicitDefEqProofs (disch := omega) only [go_sem]
       cases si with
       | true =>
         try simp (maxSteps := 1000000) -implicitDefEqProofs (disch := omega) only [go_sem]
         repeat' (first
           | (with_reducible apply Req_intro); focus (first | omega | assumption | (simp; done))
           | with_reducible (first | apply Req_intro | refine nilT ?_ fun hn => ?_ | apply wk_draw Tryd_mixed | refine drawEnd (by kernel_rfl) ?_)
           | (with_reducible (first | apply condA_if | apply stepDG_ifN | apply stepDG_if | apply stepG_ifN | apply stepG_if)) <;> intro hb <;> (have hif := hb) <;> (try simp only [bo] at hif) <;> (try simp -implicitDefEqProofs (disch := omega) only [go_sem, hb]) <;> clear hb
           | simp (maxSteps := 1000000) -implicitDefEqProofs (disch := omega) only [go_sem])
         all_goals first | exact absurd trivial ‹¬True› | exact absurd ‹false = true› (by decide) | exact absurd ‹true = false› (by decide) | (exfalso; omega) | omega | skip
         with_reducible refine nxt_w (k + 1) ?_ ?_
         · (try dsimp only)
           skip
           exact weak_do3 []
         try dsimp only
         omega
       | false =>
         have hck := hab rfl rfl
         subst hck
         try simp (maxSteps := 1000000) -implicitDefEqProofs (disch := omega) only [go_sem]
         repeat' (first
           | (with_reducible apply Req_intro); focus (first | omega | assumption | (simp; done))
           | with_reducible (first | apply Req_intro | refine nilT ?_ fun hn => ?_ | apply wk_draw Tryd_mixed | refine drawEnd (by kernel_rfl) ?_)
           | (with_reducible (first | apply condA_if | apply stepDG_ifN | apply stepDG_if | apply stepG_ifN | apply stepG_if)) <;> intro hb <;> (have hif := hb) <;> (try simp only [bo] at hif) <;> (try simp -implicitDefEqProofs (disch := omega) only [go_sem, hb]) <;> clear hb
           | simp (maxSteps := 1000000) -implicitDefEqProofs (disch := omega) only [go_sem])
         all_goals first | exact absurd trivial ‹¬True› | exact absurd ‹false = true› (by decide) | exact absurd ‹true = false› (by decide) | (exfalso; omega) | omega | skip
         first | refine callp hk1 ?_ | refine calld hk1 ?_
         try simp (maxSteps := 1000000) -implicitDefEqProofs (disch := omega) only [go_sem]
         repeat' (first
           | (with_reducible apply Req_intro); focus (first | omega | assumption | (simp; done))
           | with_reducible (first | apply Req_intro | refine nilT ?_ fun hn => ?_ | apply wk_draw Tryd_mixed | refine drawEnd (by kernel_rfl) ?_)
           | (with_reducible (first | apply condA_if | apply stepDG_ifN | apply stepDG_if | apply stepG_ifN | apply stepG_if)) <;> intro hb <;> (have hif := hb) <;> (try simp only [bo] at hif) <;> (try simp -implicitDefEqProofs (disch := omega) only [go_sem, hb]) <;> clear hb
           | simp (maxSteps := 1000000) -implicitDefEqProofs (disch := omega) only [go_sem])
         all_goals first | exact absurd trivial ‹¬True› | exact absurd ‹false = true› (by decide) | exact absurd ‹true = false› (by decide) | (exfalso; omega) | omega | skip
         with_reducible refine nxt_w (k + 1) ?_ ?_
         · (try dsimp only)
           skip
           exact weak_do3 []
         try dsimp only
         omega
   · repeat' (first
       | (with_reducible apply Req_intro); focus (first | omega | assumption | (simp; done))
       | with_reducible (first | apply Req_intro | refine nilT ?_ fun hn => ?_ | apply wk_draw Tryd_mixed | refine drawEnd (by kernel_rfl) ?_)
       | (with_reducible (first | apply condA_if | apply stepDG_ifN | apply stepDG_if | apply stepG_ifN | apply stepG_if)) <;> intro hb <;> (have hif := hb) <;> (try simp only [bo] at hif) <;> (try simp -implicitDefEqProofs (disch := omega) only [go_sem, hb]) <;> clear hb
       | simp (maxSteps := 1000000) -implicitDefEqProofs (disch := omega) only [go_sem])
     all_goals first | exact absurd trivial ‹¬True› | exact absurd ‹false = true› (by decide) | exact absurd ‹true = false› (by decide) | (exfalso; omega) | omega | skip
     with_reducible refine nxt_w (i + 1) ?_ ?_
     · (try dsimp only)
       skip
       exact weak_do3 []
     try dsimp only
     omega
 · repeat' (first
     | (with_reducible apply Req_intro); focus (first | omega | assumption | (simp; done))
     | with_reducible (first | apply Req_intro | refine nilT ?_ fun hn => ?_ | apply wk_draw Tryd_mixed | refine drawEnd (by kernel_rfl) ?_)
     | (with_reducible (first | apply condA_if | apply stepDG_ifN | apply stepDG_if | apply stepG_ifN | apply stepG_if)) <;> intro hb <;> (have hif := hb) <;> (try simp only [bo] at hif) <;> (try simp -implicitDefEqProofs (disch := omega) only [go_sem, hb]) <;> clear hb
     | simp (maxSteps := 1000000) -implicitDefEqProofs (disch := omega) only [go_sem])
   all_goals first | exact absurd trivial ‹¬True› | exact absurd ‹false = true› (by decide) | exact absurd ‹true = false› (by decide) | (exfalso; omega) | omega | skip
   refine loop_rows (α := Nat) ([2, 16, 124, 125, 126, 127, 128, 129, 130, 131, 132, 133, 134, 135, 136, 137, 138, 139, 140, 141, 142, 143, 144]) (fun i => [(16, .lit (.int .i64 i))]) (fun i => [(448, some ⟨2, [[.sl 2 (ls.map encGd) false, .sl 2 (rs.map encGd) false]], 38, .wr⟩), (512, some ⟨4, [[int g.sc, int g.ga, int g.we, int g.cu]], 26, .wr⟩)]) (fun i => i ≤ PR.length) (fun i => PR.length - i) 0 (fun x => by simp (maxSteps := 1000000) -implicitDefEqProofs (disch := omega) only [go_sem]; rfl) ?_ ?_ fun x hx => ?_
   · exact weak_do3 []
   · exact Nat.zero_le _
   rename Nat => k
   by_cases hk : k < PR.length
   · have ho := hone _ (getD_mem hk)
     obtain ⟨pa, hpa⟩ : ∃ pa, (PR.getD k default).1 = pa := ⟨_, rfl⟩
     obtain ⟨pb, hpb⟩ : ∃ pb, (PR.getD k default).2 = pb := ⟨_, rfl⟩
     rw [hpa, hpb] at ho
     have hi1 := hh1 pa
     have hk1 := hh2 pb
     generalize S.testBit pa = si at *
     generalize C.testBit pb = ck at *
     subst ho
     cases ck with
     | true =>
       repeat' (first
         | (with_reducible apply Req_intro); focus (first | omega | assumption | (simp; done))
         | with_reducible (first | apply Req_intro | refine nilT ?_ fun hn => ?_ | apply wk_draw Tryd_mixed | refine drawEnd (by kernel_rfl) ?_)
         | (with_reducible (first | apply condA_if | apply stepDG_ifN | apply stepDG_if | apply stepG_ifN | apply stepG_if)) <;> intro hb <;> (have hif := hb) <;> (try simp only [bo] at hif) <;> (try simp -implicitDefEqProofs (disch := omega) only [go_sem, hb, hpa, hpb]) <;> clear hb
         | simp (maxSteps := 1000000) -implicitDefEqProofs (disch := omega) only [go_sem, hpa, hpb])
       all_goals first | exact absurd trivial ‹¬True› | exact absurd ‹false = true› (by decide) | exact absurd ‹true = false› (by decide) | (exfalso; omega) | omega | skip
       first | refine callp hi1 ?_ | refine calld hi1 ?_
       try simp (maxSteps := 1000000) -implicitDefEqProofs (disch := omega) only [go_sem]
       repeat' (first
         | (with_reducible apply Req_intro); focus (first | omega | assumption | (simp; done))
         | with_reducible (first | apply Req_intro | refine nilT ?_ fun hn => ?_ | apply wk_draw Tryd_mixed | refine drawEnd (by kernel_rfl) ?_)
         | (with_reducible (first | apply condA_if | apply stepDG_ifN | apply stepDG_if | apply stepG_ifN | apply stepG_if)) <;> intro hb <;> (have hif := hb) <;> (try simp only [bo] at hif) <;> (try simp -implicitDefEqProofs (disch := omega) only [go_sem, hb, hpa, hpb]) <;> clear hb
         | simp (maxSteps := 1000000) -implicitDefEqProofs (disch := omega) only [go_sem, hpa, hpb])
       all_goals first | exact absurd trivial ‹¬True› | exact absurd ‹false = true› (by decide) | exact absurd ‹true = false› (by decide) | (exfalso; omega) | omega | skip
       first | refine callp hk1 ?_ | refine calld hk1 ?_
       try simp (maxSteps := 1000000) -implicitDefEqProofs (disch := omega) only [go_sem]
       repeat' (first
         | (with_reducible apply Req_intro); focus (first | omega | assumption | (simp; done))
         | with_reducible (first | apply Req_intro | refine nilT ?_ fun hn => ?_ | apply wk_draw Tryd_mixed | refine drawEnd (by kernel_rfl) ?_)
         | (with_reducible (first | apply condA_if | apply stepDG_ifN | apply stepDG_if | apply stepG_ifN | apply stepG_if)) <;> intro hb <;> (have hif := hb) <;> (try simp only [bo] at hif) <;> (try simp -implicitDefEqProofs (disch := omega) only [go_sem, hb]) <;> clear hb
         | simp (maxSteps := 1000000) -implicitDefEqProofs (disch := omega) only [go_sem])
       all_goals first | exact absurd trivial ‹¬True› | exact absurd ‹false = true› (by decide) | exact absurd ‹true = false› (by decide) | (exfalso; omega) | omega | skip
       with_reducible refine nxt_w (k + 1) ?_ ?_
       · (try dsimp only)
         skip
         exact weak_do3 []
       try dsimp only
       omega
     | false =>
       repeat' (first
         | (with_reducible apply Req_intro); focus (first | omega | assumption | (simp; done))
         | with_reducible (first | apply Req_intro | refine nilT ?_ fun hn => ?_ | apply wk_draw Tryd_mixed | refine drawEnd (by kernel_rfl) ?_)
         | (with_reducible (first | apply condA_if | apply stepDG_ifN | apply stepDG_if | apply stepG_ifN | apply stepG_if)) <;> intro hb <;> (have hif := hb) <;> (try simp only [bo] at hif) <;> (try simp -implicitDefEqProofs (disch := omega) only [go_sem, hb, hpa, hpb]) <;> clear hb
         | simp (maxSteps := 1000000) -implicitDefEqProofs (disch := omega) only [go_sem, hpa, hpb])
       all_goals first | exact absurd trivial ‹¬True› | exact absurd ‹false = true› (by decide) | exact absurd ‹true = false› (by decide) | (exfalso; omega) | omega | skip
       first | refine callp hi1 ?_ | refine calld hi1 ?_
       try simp (maxSteps := 1000000) -implicitDefEqProofs (disch := omega) only [go_sem]
       repeat' (first
         | (with_reducible apply Req_intro); focus (first | omega | assumption | (simp; done))
         | with_reducible (first | apply Req_intro | refine nilT ?_ fun hn => ?_ | apply wk_draw Tryd_mixed | refine drawEnd (by kernel_rfl) ?_)
         | (with_reducible (first | apply condA_if | apply stepDG_ifN | apply stepDG_if | apply stepG_ifN | apply stepG_if)) <;> intro hb <;> (have hif := hb) <;> (try simp only [bo] at hif) <;> (try simp -implicitDefEqProofs (disch := omega) only [go_sem, hb, hpa, hpb]) <;> clear hb
         | simp (maxSteps := 1000000) -implicitDefEqProofs (disch := omega) only [go_sem, hpa, hpb])
       all_goals first | exact absurd trivial ‹¬True› | exact absurd ‹false = true› (by decide) | exact absurd ‹true = false› (by decide) | (exfalso; omega) | omega | skip
       first | refine callp hk1 ?_ | refine calld hk1 ?_
       try simp (maxSteps := 1000000) -implicitDefEqProofs (disch := omega) only [go_sem]
       repeat' (first
         | (with_reducible apply Req_intro); focus (first | omega | assumption | (simp; done))
         | with_reducible (first | apply Req_intro | refine nilT ?_ fun hn => ?_ | apply wk_draw Tryd_mixed | refine drawEnd (by kernel_rfl) ?_)
         | (with_reducible (first | apply condA_if | apply stepDG_ifN | apply stepDG_if | apply stepG_ifN | apply stepG_if)) <;> intro hb <;> (have hif := hb) <;> (try simp only [bo] at hif) <;> (try simp -implicitDefEqProofs (disch := omega) only [go_sem, hb]) <;> clear hb
         | simp (maxSteps := 1000000) -implicitDefEqProofs (disch := omega) only [go_sem])
       all_goals first | exact absurd trivial ‹¬True› | exact absurd ‹false = true› (by decide) | exact absurd ‹true = false› (by decide) | (exfalso; omega) | omega | skip
       with_reducible refine nxt_w (k + 1) ?_ ?_
       · (try dsimp only)
         skip
         exact weak_do3 []
       try dsimp only
       omega
   · repeat' (first
       | (with_reducible apply Req_intro); focus (first | omega | assumption | (simp; done))
       | with_reducible (first | apply Req_intro | refine nilT ?_ fun hn => ?_ | apply wk_draw Tryd_mixed | refine drawEnd (by kernel_rfl) ?_)
       | (with_reducible (first | apply condA_if | apply stepDG_ifN | apply stepDG_if | apply stepG_ifN | apply stepG_if)) <;> intro hb <;> (have hif := hb) <;> (try simp only [bo] at hif) <;> (try simp -implicitDefEqProofs (disch := omega) only [go_sem, hb]) <;> clear hb
       | simp (maxSteps := 1000000) -implicitDefEqProofs (disch := omega) only [go_sem])
     all_goals first | exact absurd trivial ‹¬True› | exact absurd ‹false = true› (by decide) | exact absurd ‹true = false› (by decide) | (exfalso; omega) | omega | skip
     refine callp gknown_spec ?_
     try simp (maxSteps := 1000000) -implicitDefEqProofs (disch := omega) only [go_sem]
     repeat' (first
       | (with_reducible apply Req_intro); focus (first | omega | assumption | (simp; done))
       | with_reducible (first | apply Req_intro | refine nilT ?_ fun hn => ?_ | apply wk_draw Tryd_mixed | refine drawEnd (by kernel_rfl) ?_)
       | (with_reducible (first | apply condA_if | apply stepDG_ifN | apply stepDG_if | apply stepG_ifN | apply stepG_if)) <;> intro hb <;> (have hif := hb) <;> (try simp only [bo] at hif) <;> (try simp -implicitDefEqProofs (disch := omega) only [go_sem, hb]) <;> clear hb
       | simp (maxSteps := 1000000) -implicitDefEqProofs (disch := omega) only [go_sem])
     all_goals first | exact absurd trivial ‹¬True› | exact absurd ‹false = true› (by decide) | exact absurd ‹true = false› (by decide) | (exfalso; omega) | omega | skip
     refine ret_do ?_
     rfl
end Go.Aw
end
section
namespace Go.Aw
open Go.RowKit Go.ChangeShapes Go.WideShapes
def RepL (w : World) (ok : Nat → Nat → Prop) (cs : List Value) (ds : List V) : Prop :=
 cs.length = ds.length ∧ ∀ (j : Nat) (d : V) (u : Value), ds[j]? = some d → cs[j]? = some u → Rep w ok (fun _ => none) u d
theorem exists_list {α : Type} {p : Nat → α → Prop} : ∀ n, (∀ i, i < n → ∃ a, p i a) → ∃ l : List α, l.length = n ∧ ∀ i a, l[i]? = some a → p i a
 | 0, _ => ⟨[], rfl, fun i a h => by cases h⟩
 | n + 1, h => by
   obtain ⟨l, hl, hp⟩ := exists_list n fun i hi => h i (by omega)
   obtain ⟨a, ha⟩ := h n (by omega)
   refine ⟨l ++ [a], by simp [hl], fun i b hb => ?_⟩
   rcases Nat.lt_or_ge i l.length with h1 | h1
   · rw [List.getElem?_append_left h1] at hb; exact hp i b hb
   · rw [List.getElem?_append_right h1] at hb
     have : i - l.length = 0 := by
       refine Classical.byContradiction fun hc => ?_
       rw [List.getElem?_eq_none (by simp; omega)] at hb; cases hb
     rw [this] at hb
     cases hb
     obtain rfl : i = n := by omega
     exact ha
theorem cells?_get {w : World} {base : Nat} {a : Addr} {n : Nat} {cs : List Value} (h : w.cells? base a n = some cs) : cs.length = n ∧ ∀ j, j < n → ∃ u, cs[j]? = some u ∧ w.cell? (a.add j) = some u := by
 unfold World.cells? at h
 split at h
 · have hl := mapM_some_length h
   rw [List.length_range] at hl
   refine ⟨hl, fun j hj => ?_⟩
   have := mapM_some_get h j j (by simp [hj])
   obtain ⟨u, hu⟩ : ∃ u, cs[j]? = some u := ⟨cs[j], List.getElem?_eq_getElem (by omega)⟩
   exact ⟨u, hu, by rw [this, hu]⟩
 · cases h
theorem add_at (b o n : Nat) : (⟨b, o, none⟩ : Addr).add n = ⟨b, o + n, none⟩ := by
 unfold Addr.add
 split
 · rename_i h; subst h; rfl
 · rfl
theorem add_add' (b o x j : Nat) : ((⟨b, o, none⟩ : Addr).add x).add j = ⟨b, o + x + j, none⟩ := by rw [add_at, add_at]
section
variable {H : Type} {enc : TypeId × Value → H} {P : Program} {w : World} {ok : Nat → Nat → Prop} {sp : Nat → Bool}
theorem mem_weightsAll {e : TypeId} : ∀ {es : List (DataW H)} {d : DataW H} {m : Nat}, d ∈ es → m ∈ d.weights P e → m ∈ DataW.weightsAll P e es
 | [], d, m, h, _ => by cases h
 | a :: r, d, m, h, hm => by
   simp only [DataW.weightsAll, List.mem_append]
   rcases List.mem_cons.1 h with rfl | h
   · exact .inl hm
   · exact .inr (mem_weightsAll h hm)
theorem slice_rep {α : Type} {en : α → List V} {k : Nat} {q : α → Prop} {t e : TypeId} (hk0 : 0 < k) (ht : P.underlying t = some (.slice e)) (hk : P.cellsOf e = k) (hb : 0 < P.bytesOf e)
   (hlen : ∀ a, (en a).length = k)
   (hel : ∀ n cs x, DataW.trod enc P w 0 sp true n e cs = some x → (∀ m ∈ x.1.weights P e, m ≤ reachBytes) → ∃ a, q a ∧ RepL w ok cs (en a))
   (hok : ∀ b o u, w.cell? ⟨b, o, none⟩ = some u → ok b o)
   {n : Nat} {cs : List Value} {x : DataW H × List MemPlace} (h : DataW.trod enc P w 0 sp true n t cs = some x) (hw : ∀ m ∈ x.1.weights P t, m ≤ reachBytes) :
   ∃ (v : Value) (l : List α), cs = [v] ∧ l.length ≤ reachBytes ∧ (∀ a ∈ l, q a) ∧ Rep w ok (fun _ => none) v (.sl k (l.map en) false) := by
 rcases DataW.trod_slice ht h with ⟨rfl, rfl⟩ | ⟨a, len, cap, elems, rest, m, rfl, rfl, rfl, hbase, hlc, hcm, hel1, hel2, hsp, hsp2⟩
 · exact ⟨_, [], rfl, Nat.zero_le _, fun a ha => (by cases ha), .sl none 0 0 k [] false (fun _ _ => undef) rfl (Nat.le_refl _) (fun h => by cases h) (fun i j hi => absurd hi (Nat.not_lt_zero _)) (fun e he => by cases he) (fun i j e d he => by cases he)⟩
 · rw [hk] at hel2
   have hwt : (elems.length + rest.length) * P.bytesOf e ≤ reachBytes ∧ ∀ d ∈ elems.map (·.1), ∀ m ∈ d.weights P e, m ≤ reachBytes := by
     simp only [DataW.weights, ht, List.length_map] at hw
     refine ⟨hw _ (List.mem_cons_self ..), fun d hd m hm => hw m ?_⟩
     exact List.mem_cons_of_mem _ (List.mem_append_left _ (mem_weightsAll hd hm))
   have key : ∀ i, i < len → ∃ p : α × List Value, w.cells? 0 (a.add (i * k)) k = some p.2 ∧ q p.1 ∧ RepL w ok p.2 (en p.1) := fun i hi => by
     have h1 := hel2 i hi
     obtain ⟨y, hy⟩ : ∃ y, elems[i]? = some y := ⟨elems[i], List.getElem?_eq_getElem (by omega)⟩
     rw [hy, Option.bind_eq_some_iff] at h1
     obtain ⟨cs, hc1, hc2⟩ := h1
     obtain ⟨b, hb1, hb2⟩ := hel _ _ _ hc2 (hwt.2 y.1 (List.mem_map_of_mem (List.mem_of_getElem? hy)))
     exact ⟨(b, cs), hc1, hb1, hb2⟩
   obtain ⟨l, hl, hp⟩ := exists_list len key
   have hspot : 0 < len → a.spot = none := fun h0 => by
     obtain ⟨p, hp1, _, _⟩ := key 0 h0
     obtain ⟨u, _, hu⟩ := (cells?_get hp1).2 0 hk0
     simp only [Nat.zero_mul, Addr.add, if_true] at hu
     unfold World.cell? at hu
     split at hu
     · split at hu
       · cases hu
       · rename_i hn; simpa using hn
     · cases hu
   refine ⟨_, l.map (·.1), rfl, ?_, ?_, ?_⟩
   · rw [List.length_map, hl, ← hel1]
     refine Nat.le_trans ?_ hwt.1
     exact Nat.le_trans (Nat.le_add_right _ _) (Nat.le_mul_of_pos_right _ hb)
   · intro b hb
     obtain ⟨p, hp1, rfl⟩ := List.mem_map.1 hb
     obtain ⟨i, hi⟩ := List.getElem?_of_mem hp1
     exact (hp i p hi).2.1
   · refine .sl (some a) len cap k _ false (fun i j => (w.cell? (a.add (i * k + j))).getD undef) (by simp [hl]) hlc (fun h => by cases h) (fun i j hi hj => ?_) (fun e he => ?_) (fun i j e d he hd => ?_)
     · obtain ⟨b, o, s⟩ := a
       obtain rfl : s = none := hspot (by omega)
       obtain ⟨p, hp1, _, _⟩ := key i hi
       obtain ⟨u, _, hu⟩ := (cells?_get hp1).2 j hj
       rw [add_add'] at hu
       have e1 : (⟨b, o, none⟩ : Addr).add (i * k + j) = ⟨b, o + i * k + j, none⟩ := by rw [add_at, Nat.add_assoc]
       exact ⟨b, o, rfl, hok _ _ _ hu, by rw [e1, hu]; rfl⟩
     · rw [List.map_map] at he
       obtain ⟨p, hp1, rfl⟩ := List.mem_map.1 he
       exact hlen _
     · rw [List.map_map, List.getElem?_map, Option.map_eq_some_iff] at he
       obtain ⟨p, hp1, rfl⟩ := he
       obtain ⟨h1, h2, h3⟩ := hp i p hp1
       have hi : i < len := by rw [← hl]; exact (List.getElem?_eq_some_iff.1 hp1).1
       have hj : j < k := by
         have := (List.getElem?_eq_some_iff.1 hd).1
         simp only [Function.comp] at this
         rwa [hlen] at this
       obtain ⟨u, hu1, hu2⟩ := (cells?_get h1).2 j hj
       have : w.cell? (a.add (i * k + j)) = some u := by
         obtain ⟨b, o, s⟩ := a
         obtain rfl : s = none := hspot (by omega)
         rw [add_add'] at hu2
         rw [← hu2, Nat.add_assoc, add_at]
       show Rep w ok _ ((w.cell? (a.add (i * k + j))).getD undef) d
       rw [this]
       exact h3.2 j d u hd hu1
theorem int_rep {k : IntKind} {t : TypeId} (ht : P.underlying t = some (.int k)) {n : Nat} {cs : List Value} {x : DataW H × List MemPlace} (h : DataW.trod enc P w 0 sp true n t cs = some x) : ∃ i, cs = [.int k i] ∧ k.min ≤ i ∧ i ≤ k.max := by
 obtain ⟨i, h1, _, h2⟩ := DataW.trod_int ht h
 simp only [Lit.wf, Bool.and_eq_true, decide_eq_true_eq] at h2
 exact ⟨i, h1, h2.1, h2.2⟩
theorem struct2_cells {t : TypeId} {f0 f1 : Field} (ht : P.underlying t = some (.struct #[f0, f1])) (hc : P.cellsOf t = 2) (h0 : f0.offset = 0) (h1 : f1.offset = 1) (c0 : P.cellsOf f0.type = 1) (c1 : P.cellsOf f1.type = 1)
   {n : Nat} {cs : List Value} {x : DataW H × List MemPlace} (h : DataW.trod enc P w 0 sp true n t cs = some x) (hw : ∀ m ∈ x.1.weights P t, m ≤ reachBytes) :
   ∃ u v y z m, cs = [u, v] ∧ DataW.trod enc P w 0 sp true m f0.type [u] = some y ∧ DataW.trod enc P w 0 sp true m f1.type [v] = some z ∧ (∀ m ∈ y.1.weights P f0.type, m ≤ reachBytes) ∧ (∀ m ∈ z.1.weights P f1.type, m ≤ reachBytes) := by
 obtain ⟨y0, y1, m, rfl, hl, g0, g1⟩ := trod_struct2 ht h
 rw [hc] at hl
 rw [h0, c0] at g0
 rw [h1, c1] at g1
 simp only [DataW.weights, ht, DataW.weightsEach, List.map_cons, List.map_nil, List.mem_append, List.append_nil] at hw
 match cs, hl with
 | [u, v], _ =>
   refine ⟨u, v, y0, y1, m, rfl, g0, g1, fun m hm => hw m ?_, fun m hm => hw m ?_⟩
   · exact .inl hm
   · exact .inr hm
end
theorem Evol.kept {ok ok' : Nat → Nat → Prop} {own' : Nat → Prop} {w w' : World} (he : Evol (fun _ => False) ok w own' ok' w') : w.keptBut w' (fun _ => False) := by
 refine ⟨he.os, he.output, fun i hi => ?_⟩
 rw [he.unch i hi (fun h => h)]
 cases w.heap[i]? with
 | none => rfl
 | some o => cases o <;> simp
theorem Evol.sameAt {ok ok' : Nat → Nat → Prop} {own' : Nat → Prop} {w w' : World} (he : Evol (fun _ => False) ok w own' ok' w') {p : MemPlace} (hp : p.block < w.heap.size) : w.sameAt w' p := by
 have h := he.unch p.block hp (fun h => h)
 cases p with
 | cell b off => exact World.cell?_of_block (w := w) (a := ⟨b, off, none⟩) h
 | map b => exact h
end Go.Aw
end
section
set_option maxRecDepth 100000
namespace Go.Aw
open Go.RowKit Go.ChangeShapes Go.WideShapes Go.Proofs
theorem own0 : ownKnob Tryd.prog.godebug = none := by kernel_rfl
theorem laidOut0 : laidOutB Tryd.prog = true := by kernel_rfl
theorem rowed0 : mapsRowed Tryd.prog = true := by kernel_rfl
theorem full0 : ∀ t e, t < Tryd.prog.types.size → Tryd.prog.underlying t = some (.slice e) → 0 < Tryd.prog.cellsOf e := slices_full_of _ (by kernel_rfl)
def okAll (w : World) (b o : Nat) : Prop := ∃ u, w.cell? ⟨b, o, none⟩ = some u
theorem glob_of_laid {w : World} (h : laidMetH Tryd.prog YtgpeegdinblnoaaDoor.Rows.guardAlikesRow.laid w) : GlobOk w (okAll w) := by
 have h' : laidMet Tryd.prog YtgpeegdinblnoaaDoor.Rows.guardAlikesRow.laid w := h
 obtain ⟨ps, ⟨g1, t1, c1, n1, p1, q1, a1, a2, a3, a4, ⟨g, t, cs, n, p, q, b1, b2, b3, b4, _⟩, _⟩, _⟩ := h'
 intro g0 vs hg j v hv
 unfold globT at hg
 split at hg
 · rename_i e
   subst e
   cases hg
   obtain rfl : g = 1 := Option.some.inj (b1.symm.trans (by kernel_rfl))
   have ht : t = 170 := Option.some.inj (b2.symm.trans (by kernel_rfl))
   subst ht
   obtain ⟨xs, m, hn, hx, hl, hlen, hf⟩ := DataW.trod_array (P := Tryd.prog) (n := 64) (e := 5) (by kernel_rfl) b4
   obtain ⟨L, hL1, hL2⟩ : ∃ L : List Int, tab64 = L.map (Value.int .u8) ∧ (YtgpeegdinblnoaaDoor.Rows.laid_math_bits_deBruijn64tab : DataW Unit) = .agg (L.map fun n => .lit (.int .u8 n)) := ⟨_, rfl, rfl⟩
   have hc1 : Tryd.prog.cellsOf 5 = 1 := by kernel_rfl
   rw [hL2] at hx
   have hx' : xs.map (·.1) = L.map fun n => (.lit (.int .u8 n) : DataW Unit) := by
     have := congrArg Prod.fst hx
     simp only at this
     injection this with this
     exact this.symm
   rw [hL1, List.getElem?_map, Option.map_eq_some_iff] at hv
   obtain ⟨i, hi, rfl⟩ := hv
   have h1 : (xs.map (·.1))[j]? = some (.lit (.int .u8 i)) := by rw [hx', List.getElem?_map, hi]; rfl
   rw [List.getElem?_map, Option.map_eq_some_iff] at h1
   obtain ⟨y, hy, hy1⟩ := h1
   have hj : j < 64 := by rw [← hlen]; exact (List.getElem?_eq_some_iff.1 hy).1
   have h2 := hf j hj
   rw [hy, hc1, Nat.mul_one] at h2
   obtain ⟨i', h3, h4, _⟩ := DataW.trod_int (P := Tryd.prog) (k := .u8) (by kernel_rfl) h2
   rw [h4] at hy1
   simp only [DataW.lit.injEq, Lit.int.injEq, true_and] at hy1
   subst hy1
   have h5 : w.cell? ⟨1, j, none⟩ = some (.int .u8 i') := by
     rw [World.var?_cell b1 b3 j, ← Array.getElem?_toList]
     have h6 : (cs.toList.drop j)[0]? = some (.int .u8 i') := by
       have := congrArg (fun l => l[0]?) h3
       simpa [List.getElem?_take] using this
     simpa using h6
   exact ⟨⟨_, h5⟩, h5⟩
 · cases hg
theorem all_kept {H : Type} {enc : TypeId × Value → H} {w w' : World} {own' : Nat → Prop} {ok ok' : Nat → Nat → Prop} (he : Evol (fun _ => False) ok w own' ok' w') :
   ∀ {ts : List TypeId} {vs : List Value} {ds : List (DataW H)} {ps : List MemPlace}, DataW.TrodAll enc Tryd.prog w 0 (fun _ => true) true ts vs ds ps → DataW.TrodAll enc Tryd.prog w' 0 (fun _ => true) true ts vs ds ps
 | [], [], [], _, h => h
 | _ :: _, _ :: _, _ :: _, _, ⟨p, q, ⟨n, h1⟩, h2, e⟩ => ⟨p, q, ⟨n, DataW.trod_carry _ _ _ _ h1 fun a ha => he.sameAt (DataW.trod_lt _ _ _ _ h1 a ha)⟩, all_kept he h2, e⟩
theorem lifted_of {f : FuncId} {fn : Func} {s : ChangeSpec} (hfn : Tryd.prog.funcs[f]? = some fn) (hvars : s.vars = []) (hni : Tryd.prog.inits.idxOf? f = none)
   (hspec : ∀ (H : Type) (ds : List (DataW H)), ds.length = fn.params.toList.length → s.fn H ds = { results := [.lit (.bool true)], args := ds })
   (hres : fn.resultTypes.toList = [4]) (hps : ∀ t ∈ fn.params.toList, t < Tryd.prog.types.size)
   (hread : ∀ {H : Type} {enc : TypeId × Value → H} (w : World) (base : Nat) (args : Array Value) (ds : List (DataW H)) (p : List MemPlace), (∀ (j : Nat) t v, fn.params[j]? = some t → args[j]? = some v → Value.okWide Tryd.prog w .any base t v) →
     DataW.TrodAll enc Tryd.prog w 0 (fun _ => true) true fn.params.toList args.toList ds p → (∀ m ∈ DataW.weightsEach Tryd.prog fn.params.toList ds, m ≤ reachBytes) →
     ∃ av : List V, args.size = av.length ∧ (∀ (i : Nat) (d : V) (v : Value), av[i]? = some d → args[i]? = some v → Rep w (okAll w) (fun _ => none) v d) ∧ CallsTo Tryd.prog f av (.lit (.bool true)))
   (os : Os) (started : os.Started) (H : Type) (enc : TypeId × Value → H)
   (hwit : ∃ (w : World) (tape : Tape) (i : Input), w.os = os ∧ (w.forCall tape i).Shaped Tryd.checked.prog ∧ i.vars = [] ∧ Input.okWide Tryd.checked.prog (w.forCall tape i) .any w.heap.size f i ∧
     ((s.pre enc Tryd.checked.prog fn [] false (w.forCall tape i).memory i.args ∧ laidMetH Tryd.prog YtgpeegdinblnoaaDoor.Rows.guardAlikesRow.laid (w.forCall tape i).memory) ∧ sizedMet enc Tryd.checked.prog fn (OpenSpec.ofChange s) false (w.forCall tape i).memory i.args) ∧ ({} : Assume).holds Tryd.checked.prog (lone (Frame.enter Tryd.checked.prog f i.args .normal) [] (w.forCall tape i))) :
   ReturnsInHanded {} Tryd.checked os f .any (fun w args => (s.pre enc Tryd.checked.prog fn [] false w args ∧ laidMetH Tryd.prog YtgpeegdinblnoaaDoor.Rows.guardAlikesRow.laid w) ∧ sizedMet enc Tryd.checked.prog fn (OpenSpec.ofChange s) false w args)
     (s.post enc Tryd.checked.prog fn false true false false) := by
 refine returnsInHanded_of_change_and (C := Tryd.checked) (X := fun w _ => laidMetH Tryd.prog YtgpeegdinblnoaaDoor.Rows.guardAlikesRow.laid w) (fun _ _ _ hh h => h.of_heap hh) own0 started hni hfn hwit ?_
 intro W base args ds gs before hval hW _ hwts hL _
 have hW' := hW
 obtain ⟨p, q, hA, hV, hpq, hfz, hnd⟩ := hW
 rw [hvars] at hV
 obtain ⟨rfl, rfl⟩ : gs = [] ∧ q = [] := by
   cases gs with
   | nil => exact ⟨rfl, hV⟩
   | cons g r => exact absurd hV (by intro h; cases h)
 have hvt : s.plain.varTypes Tryd.checked.prog = [] := by unfold DataSpec.varTypes ChangeSpec.plain; rw [hvars]; rfl
 rw [hvt, List.append_nil, List.append_nil, List.all_eq_true] at hwts
 obtain ⟨av, hsz, hrep, hct⟩ := hread W base args ds p hval hA (fun m hm => by simpa using hwts m hm)
 refine ((hct W (okAll W) args (fun b o h => h) (glob_of_laid hL) hsz hrep).calls (FW_room _)).mono fun e W' ⟨v, own', ok', he, hev, _, hrv⟩ => ?_
 subst he
 refine ⟨v, rfl, ?_⟩
 have hv : v = .bool true := by cases hrv; rfl
 subst hv
 have hlen : ds.length = fn.params.toList.length := by
   have key : ∀ {ts : List TypeId} {vs : List Value} {ds : List (DataW H)} {ps : List MemPlace}, DataW.TrodAll enc Tryd.prog W 0 (fun _ => true) true ts vs ds ps → ds.length = ts.length := by
     intro ts
     induction ts with
     | nil => intro vs ds ps h; obtain ⟨_, rfl, _⟩ := trodAll_nil h; rfl
     | cons t ts ih =>
       intro vs ds ps h
       obtain ⟨v, vs', d, ds', p, q, _, rfl, _, _, h2⟩ := trodAll_cons h
       simp [ih h2]
   exact key hA
 have hfnd : s.fn H (ds ++ []) = { results := [.lit (.bool true)], args := ds } := by rw [List.append_nil]; exact hspec H ds hlen
 refine ⟨ds, [], before, [], p, [], hW', ?_, ?_, ?_, World.keptBut_mono (fun _ f => f.elim) hev.kept, fun h => by cases h⟩
 · rw [hfnd, hres]
   have : (Value.bool true).resultList fn.resultTypes.size = [.bool true] := by
     have : fn.resultTypes.size = 1 := by rw [← Array.length_toList, hres]; rfl
     rw [this]; rfl
   rw [this]
   exact trodAll_mk1 (shut_bool (P := Tryd.prog) (by kernel_rfl) true)
 · rw [hfnd]
   refine DataW.TrodAll.respare (P := Tryd.prog) (T := (· < Tryd.prog.types.size)) (kids_rows laidOut0 rowed0) full0 hps (all_kept hev hA) fun a ha => ?_
   exact decide_eq_true (DataW.TrodAll.lt hA a ha)
 · rw [hfnd, hvars]; rfl
end Go.Aw
end
section
set_option maxRecDepth 100000
namespace Go.Aw
open Go.RowKit Go.ChangeShapes Go.WideShapes Go.Proofs
section
variable {H : Type} {enc : TypeId × Value → H} {w : World}
theorem gint_read {n : Nat} {cs : List Value} {x : DataW H × List MemPlace} (h : DataW.trod enc Tryd.prog w 0 (fun _ => true) true n 3 cs = some x) : ∃ i, cs = [.int .i64 i] := by
 obtain ⟨i, e, _⟩ := int_rep Tryd.underlying3 h
 exact ⟨i, e⟩
theorem gints_read {n : Nat} {cs : List Value} {x : DataW H × List MemPlace} (h : DataW.trod enc Tryd.prog w 0 (fun _ => true) true n 22 cs = some x) (hw : ∀ m ∈ x.1.weights Tryd.prog 22, m ≤ reachBytes) :
   ∃ (v : Value) (l : List Int), cs = [v] ∧ l.length ≤ reachBytes ∧ (∀ a ∈ l, True) ∧ Rep w (okAll w) (fun _ => none) v (.sl 1 (l.map encI) false) :=
 slice_rep (k := 1) (en := encI) (q := fun _ => True) (by decide) Tryd.underlying22 (by kernel_rfl) (of_decide_eq_true (by kernel_rfl)) (fun _ => rfl) (fun n cs x h _ => by
   obtain ⟨i, rfl⟩ := gint_read h
   refine ⟨i, trivial, rfl, fun k d u hd hu => ?_⟩
   match k with
   | 0 => cases hd; cases hu; exact .lit _ rfl
   | k + 1 => cases hd) (fun b o u h => ⟨u, h⟩) h hw
theorem guard_read (n : Nat) (cs : List Value) (x : DataW H × List MemPlace) (h : DataW.trod enc Tryd.prog w 0 (fun _ => true) true n 24 cs = some x) (hw : ∀ m ∈ x.1.weights Tryd.prog 24, m ≤ reachBytes) :
   ∃ a : Grd, a.2.length ≤ reachBytes ∧ RepL w (okAll w) cs (encGd a) := by
 obtain ⟨u, v, y, z, m, rfl, h1, h2, _, h3⟩ := struct2_cells Tryd.underlying24 (by kernel_rfl) rfl rfl (by kernel_rfl) (by kernel_rfl) h hw
 obtain ⟨i, e1⟩ := gint_read h1
 obtain ⟨v, l, e, hl, _, hr⟩ := gints_read h2 h3
 cases e
 cases e1
 refine ⟨(i, l), hl, rfl, fun k d u hd hu => ?_⟩
 match k with
 | 0 => cases hd; cases hu; exact .lit _ rfl
 | 1 => cases hd; cases hu; exact hr
 | k + 2 => cases hd
theorem gaugeA_read {base : Nat} {v : Value} {d : DataW H} {p : List MemPlace} (hv : Value.okWide Tryd.prog w .any base 26 v) (h : DataW.Trod enc Tryd.prog w 0 (fun _ => true) true 26 v d p) :
   ∃ g : Gau, Rep w (okAll w) (fun _ => none) v (encGa g) := by
 obtain ⟨vs, rfl, hsz⟩ := okWide_struct Tryd.underlying26 hv
 obtain ⟨n, h⟩ := h
 obtain ⟨y0, y1, y2, y3, m, e, hl, g0, g1, g2, g3⟩ := Go.Joins.trod_struct4 Tryd.underlying26 h
 have hc4 : Tryd.prog.cellsOf 26 = 4 := by kernel_rfl
 have hc1 : Tryd.prog.cellsOf 3 = 1 := by kernel_rfl
 rw [hc4] at hl
 simp only [hc1] at g0 g1 g2 g3
 have hl' : vs.toList.length = 4 := hl
 have hcs : (Value.agg vs).cells.toList = vs.toList := rfl
 rw [hcs] at g0 g1 g2 g3
 match hvs : vs.toList, hl' with
 | [c0, c1, c2, c3], _ =>
   rw [hvs] at g0 g1 g2 g3
   simp only [List.drop_zero, List.drop_succ_cons, List.take_succ_cons, List.take_zero] at g0 g1 g2 g3
   obtain ⟨i0, e0⟩ := gint_read g0
   obtain ⟨i1, e1⟩ := gint_read g1
   obtain ⟨i2, e2⟩ := gint_read g2
   obtain ⟨i3, e3⟩ := gint_read g3
   cases e0
   cases e1
   cases e2
   cases e3
   refine ⟨⟨i0, i1, i2, i3⟩, .agg vs _ (by rw [← Array.length_toList, hvs]; rfl) fun i d u hd hu => ?_⟩
   have hu' : vs.toList[i]? = some u := by rw [Array.getElem?_toList]; exact hu
   rw [hvs] at hu'
   match i with
   | 0 => cases hd; cases hu'; exact .lit _ rfl
   | 1 => cases hd; cases hu'; exact .lit _ rfl
   | 2 => cases hd; cases hu'; exact .lit _ rfl
   | 3 => cases hd; cases hu'; exact .lit _ rfl
   | i + 4 => cases hd
theorem stockA_read {base : Nat} {v : Value} {d : DataW H} {p : List MemPlace} (hv : Value.okWide Tryd.prog w .any base 38 v) (h : DataW.Trod enc Tryd.prog w 0 (fun _ => true) true 38 v d p) (hw : ∀ m ∈ d.weights Tryd.prog 38, m ≤ reachBytes) :
   ∃ ls rs : List Grd, Rep w (okAll w) (fun _ => none) v (encSt ls rs false false) ∧ ls.length ≤ 4611686018427387904 ∧ rs.length ≤ 4611686018427387904 ∧ (∀ x ∈ ls, x.2.length ≤ 4611686018427387904) ∧ (∀ x ∈ rs, x.2.length ≤ 4611686018427387904) := by
 obtain ⟨vs, rfl, hsz⟩ := okWide_struct Tryd.underlying38 hv
 obtain ⟨n, h⟩ := h
 obtain ⟨a, b, y, z, m, e, h1, h2, h3, h4⟩ := struct2_cells Tryd.underlying38 (by kernel_rfl) rfl rfl (by kernel_rfl) (by kernel_rfl) h hw
 obtain ⟨v1, ls, e1, hl1, hq1, hr1⟩ := slice_rep (k := 2) (en := encGd) (by decide) Tryd.underlying28 (by kernel_rfl) (of_decide_eq_true (by kernel_rfl)) (fun _ => rfl) guard_read (fun b o u h => ⟨u, h⟩) h1 h3
 obtain ⟨v2, rs, e2, hl2, hq2, hr2⟩ := slice_rep (k := 2) (en := encGd) (by decide) Tryd.underlying28 (by kernel_rfl) (of_decide_eq_true (by kernel_rfl)) (fun _ => rfl) guard_read (fun b o u h => ⟨u, h⟩) h2 h4
 cases e1
 cases e2
 have hr : reachBytes ≤ 4611686018427387904 := by decide
 refine ⟨ls, rs, .agg vs _ (by rw [← Array.length_toList]; exact congrArg List.length e) fun i d u hd hu => ?_, by omega, by omega, fun b hb => Nat.le_trans (hq1 b hb) hr, fun c hc => Nat.le_trans (hq2 c hc) hr⟩
 have e' : vs.toList = [a, b] := e
 have hu' : vs.toList[i]? = some u := by rw [Array.getElem?_toList]; exact hu
 rw [e'] at hu'
 match i with
 | 0 => cases hd; cases hu'; exact hr1
 | 1 => cases hd; cases hu'; exact hr2
 | i + 2 => cases hd
end
noncomputable def laidWorld (os : Os) : World :=
 let w0 := World.holding Tryd.prog os ⟨#[], #[], []⟩
 let put (w : World) (g : Nat) (vs : List Int) : World := { w with heap := w.heap.modify g fun
     | .cells _ t frozen => .cells (vs.map (Value.int .u8)).toArray t frozen
     | o => o }
 put (put w0 0 [0, 1, 28, 2, 29, 14, 24, 3, 30, 22, 20, 15, 25, 17, 4, 8, 31, 27, 13, 23, 21, 19, 16, 7, 26, 12, 18, 6, 11, 5, 10, 9]) 1
   [0, 1, 56, 2, 57, 49, 28, 3, 61, 58, 42, 50, 38, 29, 17, 4, 62, 47, 59, 36, 45, 43, 51, 22, 53, 39, 33, 30, 24, 18, 12, 5, 63, 55, 48, 27, 60, 41, 37, 16, 46, 35, 44, 21, 52, 32, 23, 11, 54, 26, 40, 15, 34, 20, 31, 10, 25, 14, 19, 9, 13, 8, 7, 6]
theorem laidWorld_met (os : Os) (args : Array Value) : laidMetH Tryd.prog YtgpeegdinblnoaaDoor.Rows.guardAlikesRow.laid ((laidWorld os).forCall (fun _ _ => 0) ⟨#[], args, []⟩).memory := by
 show laidMet _ _ _
 exact laidMet_of_run' 8 (by kernel_rfl) (by kernel_rfl)
end Go.Aw
end
section
set_option maxRecDepth 100000
namespace Go.Aw
open Go.RowKit Go.ChangeShapes Go.WideShapes Go.Proofs
section
variable {H : Type} {enc : TypeId × Value → H} {w : World}
theorem y_read {n : Nat} {cs : List Value} {x : DataW H × List MemPlace} (h : DataW.trod enc Tryd.prog w 0 (fun _ => true) true n 5 cs = some x) : ∃ i, cs = [.int .u8 i] ∧ okY i := by
 obtain ⟨i, e, h1, h2⟩ := int_rep Tryd.underlying5 h
 exact ⟨i, e, h1, h2⟩
theorem ys_read {k : Nat} {t : TypeId} (ht : Tryd.prog.underlying t = some (.array k 5)) (hc : Tryd.prog.cellsOf t = k) {n : Nat} {cs : List Value} {x : DataW H × List MemPlace} (h : DataW.trod enc Tryd.prog w 0 (fun _ => true) true n t cs = some x) :
   cs.length = k ∧ ∀ (i : Nat) (c : Value), cs[i]? = some c → ∃ m, c = .int .u8 m ∧ okY m := by
 obtain ⟨xs, m, rfl, rfl, hl, hlen, hf⟩ := DataW.trod_array ht h
 rw [hc] at hl
 refine ⟨hl, fun i c hi => ?_⟩
 have hik : i < k := by rw [← hl]; exact (List.getElem?_eq_some_iff.1 hi).1
 have h1 := hf i hik
 have hc1 : Tryd.prog.cellsOf 5 = 1 := by kernel_rfl
 obtain ⟨y, hy⟩ : ∃ y, xs[i]? = some y := ⟨xs[i], List.getElem?_eq_getElem (by omega)⟩
 rw [hc1, Nat.mul_one, hy] at h1
 obtain ⟨j, e, h2⟩ := y_read h1
 have h3 : (cs.drop i).take 1 = [c] := by
   have hlt := (List.getElem?_eq_some_iff.1 hi)
   obtain ⟨hlt, he⟩ := hlt
   rw [List.drop_eq_getElem_cons hlt, he]; rfl
 rw [h3] at e
 cases e
 exact ⟨j, rfl, h2⟩
theorem b3e_read (n : Nat) (cs : List Value) (x : DataW H × List MemPlace) (h : DataW.trod enc Tryd.prog w 0 (fun _ => true) true n 133 cs = some x) (hw : ∀ m ∈ x.1.weights Tryd.prog 133, m ≤ reachBytes) :
   ∃ a : B3, a.ok ∧ RepL w (okAll w) cs (enc3 a) := by
 obtain ⟨hl, hc⟩ := ys_read Tryd.underlying133 (by kernel_rfl) h
 match cs, hl with
 | [c0, c1, c2], _ =>
   obtain ⟨n0, rfl, h0⟩ := hc 0 c0 rfl
   obtain ⟨n1, rfl, h1⟩ := hc 1 c1 rfl
   obtain ⟨n2, rfl, h2⟩ := hc 2 c2 rfl
   refine ⟨⟨n0, n1, n2⟩, ⟨h0, h1, h2⟩, rfl, fun k d u hd hu => ?_⟩
   match k with
   | 0 => cases hd; cases hu; exact .lit _ rfl
   | 1 => cases hd; cases hu; exact .lit _ rfl
   | 2 => cases hd; cases hu; exact .lit _ rfl
   | k + 3 => cases hd
theorem chestA_read {base : Nat} {v : Value} {d : DataW H} {p : List MemPlace} (hv : Value.okWide Tryd.prog w .any base 77 v) (h : DataW.Trod enc Tryd.prog w 0 (fun _ => true) true 77 v d p) (hw : ∀ m ∈ d.weights Tryd.prog 77, m ≤ reachBytes) :
   ∃ x : Chst, Rep w (okAll w) (fun _ => none) v (.agg (chC x)) ∧ x.ok := by
 obtain ⟨vs, rfl, hsz⟩ := okWide_struct Tryd.underlying77 hv
 obtain ⟨n, h⟩ := h
 obtain ⟨y0, y1, y2, y3, m, he, hl, g0, g1, g2, g3⟩ := Go.Joins.trod_struct4 Tryd.underlying77 h
 cases he
 have hc7 : Tryd.prog.cellsOf 77 = 7 := by kernel_rfl
 have hcs : Tryd.prog.cellsOf 74 = 1 := by kernel_rfl
 have hc1 : Tryd.prog.cellsOf 5 = 1 := by kernel_rfl
 have hc4 : Tryd.prog.cellsOf 75 = 4 := by kernel_rfl
 rw [hc7] at hl
 simp only [hcs, hc1, hc4] at g0 g1 g2 g3
 simp only [DataW.weights, Tryd.underlying77, DataW.weightsEach, List.map_cons, List.map_nil, List.mem_append, List.append_nil] at hw
 have hl' : vs.toList.length = 7 := hl
 have hcl : (Value.agg vs).cells.toList = vs.toList := rfl
 rw [hcl] at g0 g1 g2 g3
 have hr2 : reachBytes ≤ 4611686018427387904 := by decide
 match hvs : vs.toList, hl' with
 | [c0, c1, c2, c3, c4, c5, c6], _ =>
   rw [hvs] at g0 g1 g2 g3
   simp only [List.drop_zero, List.drop_succ_cons, List.take_succ_cons, List.take_zero] at g0 g1 g2 g3
   obtain ⟨v1, l1, e0, hl1, hq1, hr1⟩ := slice_rep (k := 3) (en := enc3) (by decide) Tryd.underlying74 (by kernel_rfl) (of_decide_eq_true (by kernel_rfl)) (fun _ => rfl) b3e_read (fun b o u h => ⟨u, h⟩) g0 (fun m hm => hw m (.inl hm))
   obtain ⟨v2, l2, e1, hl2, hq2, hr2'⟩ := slice_rep (k := 3) (en := enc3) (by decide) Tryd.underlying74 (by kernel_rfl) (of_decide_eq_true (by kernel_rfl)) (fun _ => rfl) b3e_read (fun b o u h => ⟨u, h⟩) g1 (fun m hm => hw m (.inr (.inl hm)))
   obtain ⟨i2, e2, k2⟩ := y_read g2
   obtain ⟨hl3, hc3⟩ := ys_read Tryd.underlying75 (by kernel_rfl) g3
   obtain ⟨m0, r0, k3⟩ := hc3 0 c3 rfl
   obtain ⟨m1, r1, k4⟩ := hc3 1 c4 rfl
   obtain ⟨m2, r2, k5⟩ := hc3 2 c5 rfl
   obtain ⟨m3, r3, k6⟩ := hc3 3 c6 rfl
   cases e0
   cases e1
   cases e2
   subst r0 r1 r2 r3
   refine ⟨⟨l1, l2, i2, m0, m1, m2, m3⟩, .agg vs _ (by rw [← Array.length_toList, hvs]; rfl) fun i d u hd hu => ?_, ⟨hq1, hq2, by show l1.length ≤ _; omega, by show l2.length ≤ _; omega, k2, k3, k4, k5, k6⟩⟩
   have hu' : vs.toList[i]? = some u := by rw [Array.getElem?_toList]; exact hu
   rw [hvs] at hu'
   match i with
   | 0 => cases hd; cases hu'; exact hr1
   | 1 => cases hd; cases hu'; exact hr2'
   | 2 => cases hd; cases hu'; exact .lit _ rfl
   | 3 => cases hd; cases hu'; exact .lit _ rfl
   | 4 => cases hd; cases hu'; exact .lit _ rfl
   | 5 => cases hd; cases hu'; exact .lit _ rfl
   | 6 => cases hd; cases hu'; exact .lit _ rfl
   | i + 7 => cases hd
theorem bytesA_read {base : Nat} {v : Value} {d : DataW H} {p : List MemPlace} (hv : Value.okWide Tryd.prog w .any base 78 v) (h : DataW.Trod enc Tryd.prog w 0 (fun _ => true) true 78 v d p) (hw : ∀ m ∈ d.weights Tryd.prog 78, m ≤ reachBytes) :
   ∃ l : List Int, Rep w (okAll w) (fun _ => none) v (.sl 1 (l.map encY) false) ∧ (∀ n ∈ l, 0 ≤ n ∧ n ≤ 255) ∧ l.length ≤ 4611686018427387904 := by
 obtain ⟨a, len, cap, rfl⟩ := okWide_slice Tryd.underlying78 hv
 obtain ⟨n, h⟩ := h
 have hel : ∀ n cs x, DataW.trod enc Tryd.prog w 0 (fun _ => true) true n 5 cs = some x → (∀ m ∈ x.1.weights Tryd.prog 5, m ≤ reachBytes) → ∃ a : Int, (0 ≤ a ∧ a ≤ 255) ∧ RepL w (okAll w) cs (encY a) := fun n cs x h _ => by
   obtain ⟨i, rfl, hi⟩ := y_read h
   refine ⟨i, hi, rfl, fun k d u hd hu => ?_⟩
   match k with
   | 0 => cases hd; cases hu; exact .lit _ rfl
   | k + 1 => cases hd
 obtain ⟨v1, l, e, hl, hq, hr⟩ := slice_rep (k := 1) (en := encY) (by decide) Tryd.underlying78 (by kernel_rfl) (of_decide_eq_true (by kernel_rfl)) (fun _ => rfl) hel (fun b o u h => ⟨u, h⟩) h hw
 have hr2 : reachBytes ≤ 4611686018427387904 := by decide
 cases e
 exact ⟨l, hr, hq, by omega⟩
end
end Go.Aw
end
section
set_option maxRecDepth 100000
namespace Go.Proofs.YtgpeegdinblnoaaDoor
open Go Go.Aw Go.RowKit Go.ChangeShapes Go.WideShapes
theorem guardProof_wit (os : Os) (H : Type) (enc : TypeId × Value → H) : ∃ (w : World) (tape : Tape) (i : Input), w.os = os ∧ (w.forCall tape i).Shaped Tryd.checked.prog ∧ i.vars = [] ∧ Input.okWide Tryd.checked.prog (w.forCall tape i) .any w.heap.size 12 i ∧
     ((Rows.guardProofSpec.pre enc Tryd.checked.prog Tryd.f12 [] false (w.forCall tape i).memory i.args ∧ laidMetH Tryd.prog Rows.guardProofRow.laid (w.forCall tape i).memory) ∧ sizedMet enc Tryd.checked.prog Tryd.f12 (OpenSpec.ofChange Rows.guardProofSpec) false (w.forCall tape i).memory i.args) ∧ ({} : Assume).holds Tryd.checked.prog (lone (Frame.enter Tryd.checked.prog 12 i.args .normal) [] (w.forCall tape i)) :=
 ChangeSpec.witness_at (enc := enc) (C := Tryd.checked) (os := os) (X := fun w _ => laidMetH Tryd.prog Rows.guardProofRow.laid w) false (laidWorld os) #[.agg #[.slice none 0 0, .slice none 0 0, .int .u8 0, .int .u8 0, .int .u8 0, .int .u8 0, .int .u8 0]] 8 rfl (by kernel_rfl) (by kernel_rfl) (by kernel_rfl) (by kernel_rfl) (by kernel_rfl) (laidWorld_met os _)
theorem guardProof_said : Rows.GuardProofSaid :=
 OpenClaim.holds_of_wide 12 Tryd.f12 rfl rfl rfl rfl rfl rfl rfl ⟨rfl, rfl, rfl, rfl, rfl⟩ rfl rfl rfl rfl rfl (by kernel_rfl) Tryd.func12 (by kernel_rfl)
   (of_decide_eq_true (by kernel_rfl)) (by unfold Func.isWrapper; first | (rw [if_pos (by decide +kernel)]; kernel_rfl) | (rw [if_neg (by decide +kernel)]; exact ⟨rfl, rfl⟩))
   (fun os started H enc _ => lifted_of Tryd.func12 rfl (by kernel_rfl) (fun H ds hd => by
       match ds, hd with
       | [_], _ => rfl) (by kernel_rfl) (fun t ht => by
         have : Tryd.f12.params.toList.all (fun t => decide (t < Tryd.prog.types.size)) = true := by kernel_rfl
         simpa using List.all_eq_true.1 this t ht)
     (fun {H enc} w base args ds p hv hA hw => by
       rw [Tryd.params12] at hA hv hw
       obtain ⟨v0, vs0, d0, ds0, p0, q0, e0, rfl, _, g0, r0⟩ := trodAll_cons hA
       obtain ⟨rfl, rfl, _⟩ := trodAll_nil r0
       obtain rfl : args = #[v0] := by cases args; simp_all
       obtain ⟨a0, h0, k0⟩ := chestA_read (hv 0 77 v0 rfl rfl) g0 (fun m hm => hw m (by simp only [DataW.weightsEach, List.mem_append]; exact .inl hm))
       refine ⟨[.agg (chC a0)], rfl, fun i d u hd hu => ?_, (GuardProof_spec a0 k0).1⟩
       match i with
       | 0 => cases hd; cases hu; exact h0
       | i + 1 => cases hd) os started H enc (guardProof_wit os H enc))
theorem guardProof_card : Rows.GuardProofCardSaid :=
 Claim7.holds_tied_plain_at .later [] [.data, .data] true (true, "2743f537752629cc39242edba28dddd2878ae44136102d9440533fb6bdff82ae") false
   guardProof_said (fun _ h => by cases h) (by kernel_rfl) (fun _ h => by cases h) guardProof_row_tie rfl ⟨rfl, rfl⟩ (by kernel_rfl) rfl
   (fun f fn hf hfn => by
     obtain rfl : f = 12 := Option.some.inj ((show Tryd.prog.funcNamed "panache/panachelaw06.GuardProof" = some 12 by kernel_rfl).symm.trans hf) |>.symm
     obtain rfl : fn = Tryd.f12 := (Option.some.inj (Tryd.func12.symm.trans hfn)).symm
     exact ⟨by kernel_rfl, fun j t ht => by
       have h3 : Tryd.f12.params.toList.all (fun t => !Tryd.prog.wantsStandIn t) = true := by kernel_rfl
       have h4 : (!Tryd.prog.wantsStandIn t) = true := List.all_eq_true.1 h3 t (by rw [← Array.getElem?_toList] at ht; exact List.mem_of_getElem? ht)
       have h5 : Tryd.prog.wantsStandIn t = false := by rwa [Bool.not_eq_true'] at h4
       exact h5⟩)
   (by kernel_rfl)
#print axioms guardProof_card
end Go.Proofs.YtgpeegdinblnoaaDoor
end
