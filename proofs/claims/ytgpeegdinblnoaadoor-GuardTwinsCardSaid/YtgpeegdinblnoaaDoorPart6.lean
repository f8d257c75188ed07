/-
  A part of the proof that a law returns true for every input that the given row speaks of: an own verified walk over the program (namespace Go.Aw), contracts of the functions that the law calls, and the law itself. Conditions: those of the given row, no other.
-/
import Derived.Test.YtgpeegdinblnoaaDoorPart5
import Derived.ReadAgain
import Derived.ChangeSame
import Derived.Test.YtgpeegdinblnoaaDoorTie
import Derived.Test.YtgpeegdinblnoaaDoorCards
import Derived.SevenTiedAt
import Derived.JoinedOf
import Derived.RowKit
import Derived.RowKitTokens
import Derived.LaidLaws
import Derived.Stop.Joined
import Derived.OpenShut
import Derived.ChangeVars
import Derived.ProofKit
import Derived.Lib.SmallJoins
set_option linter.unusedVariables false
set_option linter.unusedSimpArgs false
section
set_option maxRecDepth 20000
set_option maxHeartbeats 4000000
namespace Go.Aw
open Go.RowKit Go.Proofs
theorem kAll (l : List (Nat × Nat)) (e f : Bool) (hl : l.length ≤ 10) : Ct Tryd.prog 30 [.sl 2 (l.map encP) e, .sl 2 (l.map encP) f] (.lit (.bool true)) := by
 have h := rAll_spec l l e f (by omega) (by omega)
 rwa [beq_self_eq_true] at h
theorem kInts (l : List Int) (e f : Bool) (hl : l.length ≤ 10) : Ct Tryd.prog 36 [.sl 1 (l.map encI) e, .sl 1 (l.map encI) f] (.lit (.bool true)) := by
 have h := rInts_spec l l e f (by omega) (by omega)
 rwa [beq_self_eq_true] at h
theorem gknown_spec : Ct Tryd.prog 15 [] (.lit (.bool true)) := by
 refine fn_enter Tryd.func15 rfl (by decide) Tryd.results15 Tryd.ntmps15 ?_ rfl (by simp (maxSteps := 1000000) -implicitDefEqProofs (disch := omega) only [go_sem]; rfl) fun base => ?_
 · first | assumption | (simp only [go_sem] <;> assumption) | (simp only [go_sem, *]; done) | (simp [go_sem]; done)
 repeat' (first
   | (with_reducible apply Req_intro); focus (first | omega | assumption | (simp; done))
   | with_reducible (first | apply Req_intro | refine nilT ?_ fun hn => ?_ | apply wk_draw Tryd_mixed | refine drawEnd (by kernel_rfl) ?_)
   | (with_reducible (first | apply condA_if | apply stepDG_ifN | apply stepDG_if | apply stepG_ifN | apply stepG_if)) <;> intro hb <;> (have hif := hb) <;> (try simp only [bo] at hif) <;> (try simp -implicitDefEqProofs (disch := omega) only [go_sem, hb]) <;> clear hb
   | simp (maxSteps := 1000000) -implicitDefEqProofs (disch := omega) only [go_sem])
 refine callp (one_spec 100 20) ?_
 try simp (maxSteps := 1000000) -implicitDefEqProofs (disch := omega) only [go_sem]
 repeat' (first
   | (with_reducible apply Req_intro); focus (first | omega | assumption | (simp; done))
   | with_reducible (first | apply Req_intro | refine nilT ?_ fun hn => ?_ | apply wk_draw Tryd_mixed | refine drawEnd (by kernel_rfl) ?_)
   | (with_reducible (first | apply condA_if | apply stepDG_ifN | apply stepDG_if | apply stepG_ifN | apply stepG_if)) <;> intro hb <;> (have hif := hb) <;> (try simp only [bo] at hif) <;> (try simp -implicitDefEqProofs (disch := omega) only [go_sem, hb]) <;> clear hb
   | simp (maxSteps := 1000000) -implicitDefEqProofs (disch := omega) only [go_sem])
 refine callp (one_spec 104 24) ?_
 try simp (maxSteps := 1000000) -implicitDefEqProofs (disch := omega) only [go_sem]
 repeat' (first
   | (with_reducible apply Req_intro); focus (first | omega | assumption | (simp; done))
   | with_reducible (first | apply Req_intro | refine nilT ?_ fun hn => ?_ | apply wk_draw Tryd_mixed | refine drawEnd (by kernel_rfl) ?_)
   | (with_reducible (first | apply condA_if | apply stepDG_ifN | apply stepDG_if | apply stepG_ifN | apply stepG_if)) <;> intro hb <;> (have hif := hb) <;> (try simp only [bo] at hif) <;> (try simp -implicitDefEqProofs (disch := omega) only [go_sem, hb]) <;> clear hb
   | simp (maxSteps := 1000000) -implicitDefEqProofs (disch := omega) only [go_sem])
 refine callp (gauge_spec 5) ?_
 try simp (maxSteps := 1000000) -implicitDefEqProofs (disch := omega) only [go_sem]
 repeat' (first
   | (with_reducible apply Req_intro); focus (first | omega | assumption | (simp; done))
   | with_reducible (first | apply Req_intro | refine nilT ?_ fun hn => ?_ | apply wk_draw Tryd_mixed | refine drawEnd (by kernel_rfl) ?_)
   | (with_reducible (first | apply condA_if | apply stepDG_ifN | apply stepDG_if | apply stepG_ifN | apply stepG_if)) <;> intro hb <;> (have hif := hb) <;> (try simp only [bo] at hif) <;> (try simp -implicitDefEqProofs (disch := omega) only [go_sem, hb]) <;> clear hb
   | simp (maxSteps := 1000000) -implicitDefEqProofs (disch := omega) only [go_sem])
 refine callp kAlike ?_
 try simp (maxSteps := 1000000) -implicitDefEqProofs (disch := omega) only [go_sem]
 repeat' (first
   | (with_reducible apply Req_intro); focus (first | omega | assumption | (simp; done))
   | with_reducible (first | apply Req_intro | refine nilT ?_ fun hn => ?_ | apply wk_draw Tryd_mixed | refine drawEnd (by kernel_rfl) ?_)
   | (with_reducible (first | apply condA_if | apply stepDG_ifN | apply stepDG_if | apply stepG_ifN | apply stepG_if)) <;> intro hb <;> (have hif := hb) <;> (try simp only [bo] at hif) <;> (try simp -implicitDefEqProofs (disch := omega) only [go_sem, hb]) <;> clear hb
   | simp (maxSteps := 1000000) -implicitDefEqProofs (disch := omega) only [go_sem])
 refine callp stock_spec ?_
 try simp (maxSteps := 1000000) -implicitDefEqProofs (disch := omega) only [go_sem]
 repeat' (first
   | (with_reducible apply Req_intro); focus (first | omega | assumption | (simp; done))
   | with_reducible (first | apply Req_intro | refine nilT ?_ fun hn => ?_ | apply wk_draw Tryd_mixed | refine drawEnd (by kernel_rfl) ?_)
   | (with_reducible (first | apply condA_if | apply stepDG_ifN | apply stepDG_if | apply stepG_ifN | apply stepG_if)) <;> intro hb <;> (have hif := hb) <;> (try simp only [bo] at hif) <;> (try simp -implicitDefEqProofs (disch := omega) only [go_sem, hb]) <;> clear hb
   | simp (maxSteps := 1000000) -implicitDefEqProofs (disch := omega) only [go_sem])
 refine callp (gauge_spec 5) ?_
 try simp (maxSteps := 1000000) -implicitDefEqProofs (disch := omega) only [go_sem]
 repeat' (first
   | (with_reducible apply Req_intro); focus (first | omega | assumption | (simp; done))
   | with_reducible (first | apply Req_intro | refine nilT ?_ fun hn => ?_ | apply wk_draw Tryd_mixed | refine drawEnd (by kernel_rfl) ?_)
   | (with_reducible (first | apply condA_if | apply stepDG_ifN | apply stepDG_if | apply stepG_ifN | apply stepG_if)) <;> intro hb <;> (have hif := hb) <;> (try simp only [bo] at hif) <;> (try simp -implicitDefEqProofs (disch := omega) only [go_sem, hb]) <;> clear hb
   | simp (maxSteps := 1000000) -implicitDefEqProofs (disch := omega) only [go_sem])
 refine callp kPairs ?_
 try simp (maxSteps := 1000000) -implicitDefEqProofs (disch := omega) only [go_sem]
 repeat' (first
   | (with_reducible apply Req_intro); focus (first | omega | assumption | (simp; done))
   | with_reducible (first | apply Req_intro | refine nilT ?_ fun hn => ?_ | apply wk_draw Tryd_mixed | refine drawEnd (by kernel_rfl) ?_)
   | (with_reducible (first | apply condA_if | apply stepDG_ifN | apply stepDG_if | apply stepG_ifN | apply stepG_if)) <;> intro hb <;> (have hif := hb) <;> (try simp only [bo] at hif) <;> (try simp -implicitDefEqProofs (disch := omega) only [go_sem, hb]) <;> clear hb
   | simp (maxSteps := 1000000) -implicitDefEqProofs (disch := omega) only [go_sem])
 refine callp stock_spec ?_
 try simp (maxSteps := 1000000) -implicitDefEqProofs (disch := omega) only [go_sem]
 repeat' (first
   | (with_reducible apply Req_intro); focus (first | omega | assumption | (simp; done))
   | with_reducible (first | apply Req_intro | refine nilT ?_ fun hn => ?_ | apply wk_draw Tryd_mixed | refine drawEnd (by kernel_rfl) ?_)
   | (with_reducible (first | apply condA_if | apply stepDG_ifN | apply stepDG_if | apply stepG_ifN | apply stepG_if)) <;> intro hb <;> (have hif := hb) <;> (try simp only [bo] at hif) <;> (try simp -implicitDefEqProofs (disch := omega) only [go_sem, hb]) <;> clear hb
   | simp (maxSteps := 1000000) -implicitDefEqProofs (disch := omega) only [go_sem])
 refine callp (gauge_spec 5) ?_
 try simp (maxSteps := 1000000) -implicitDefEqProofs (disch := omega) only [go_sem]
 repeat' (first
   | (with_reducible apply Req_intro); focus (first | omega | assumption | (simp; done))
   | with_reducible (first | apply Req_intro | refine nilT ?_ fun hn => ?_ | apply wk_draw Tryd_mixed | refine drawEnd (by kernel_rfl) ?_)
   | (with_reducible (first | apply condA_if | apply stepDG_ifN | apply stepDG_if | apply stepG_ifN | apply stepG_if)) <;> intro hb <;> (have hif := hb) <;> (try simp only [bo] at hif) <;> (try simp -implicitDefEqProofs (disch := omega) only [go_sem, hb]) <;> clear hb
   | simp (maxSteps := 1000000) -implicitDefEqProofs (disch := omega) only [go_sem])
 refine callp kPossible ?_
 try simp (maxSteps := 1000000) -implicitDefEqProofs (disch := omega) only [go_sem]
 repeat' (first
   | (with_reducible apply Req_intro); focus (first | omega | assumption | (simp; done))
   | with_reducible (first | apply Req_intro | refine nilT ?_ fun hn => ?_ | apply wk_draw Tryd_mixed | refine drawEnd (by kernel_rfl) ?_)
   | (with_reducible (first | apply condA_if | apply stepDG_ifN | apply stepDG_if | apply stepG_ifN | apply stepG_if)) <;> intro hb <;> (have hif := hb) <;> (try simp only [bo] at hif) <;> (try simp -implicitDefEqProofs (disch := omega) only [go_sem, hb]) <;> clear hb
   | simp (maxSteps := 1000000) -implicitDefEqProofs (disch := omega) only [go_sem])
 refine callp stock_spec ?_
 try simp (maxSteps := 1000000) -implicitDefEqProofs (disch := omega) only [go_sem]
 repeat' (first
   | (with_reducible apply Req_intro); focus (first | omega | assumption | (simp; done))
   | with_reducible (first | apply Req_intro | refine nilT ?_ fun hn => ?_ | apply wk_draw Tryd_mixed | refine drawEnd (by kernel_rfl) ?_)
   | (with_reducible (first | apply condA_if | apply stepDG_ifN | apply stepDG_if | apply stepG_ifN | apply stepG_if)) <;> intro hb <;> (have hif := hb) <;> (try simp only [bo] at hif) <;> (try simp -implicitDefEqProofs (disch := omega) only [go_sem, hb]) <;> clear hb
   | simp (maxSteps := 1000000) -implicitDefEqProofs (disch := omega) only [go_sem])
 refine callp (gauge_spec 5) ?_
 try simp (maxSteps := 1000000) -implicitDefEqProofs (disch := omega) only [go_sem]
 repeat' (first
   | (with_reducible apply Req_intro); focus (first | omega | assumption | (simp; done))
   | with_reducible (first | apply Req_intro | refine nilT ?_ fun hn => ?_ | apply wk_draw Tryd_mixed | refine drawEnd (by kernel_rfl) ?_)
   | (with_reducible (first | apply condA_if | apply stepDG_ifN | apply stepDG_if | apply stepG_ifN | apply stepG_if)) <;> intro hb <;> (have hif := hb) <;> (try simp only [bo] at hif) <;> (try simp -implicitDefEqProofs (disch := omega) only [go_sem, hb]) <;> clear hb
   | simp (maxSteps := 1000000) -implicitDefEqProofs (disch := omega) only [go_sem])
 refine callp kCover ?_
 try simp (maxSteps := 1000000) -implicitDefEqProofs (disch := omega) only [go_sem]
 repeat' (first
   | (with_reducible apply Req_intro); focus (first | omega | assumption | (simp; done))
   | with_reducible (first | apply Req_intro | refine nilT ?_ fun hn => ?_ | apply wk_draw Tryd_mixed | refine drawEnd (by kernel_rfl) ?_)
   | (with_reducible (first | apply condA_if | apply stepDG_ifN | apply stepDG_if | apply stepG_ifN | apply stepG_if)) <;> intro hb <;> (have hif := hb) <;> (try simp only [bo] at hif) <;> (try simp -implicitDefEqProofs (disch := omega) only [go_sem, hb]) <;> clear hb
   | simp (maxSteps := 1000000) -implicitDefEqProofs (disch := omega) only [go_sem])
 refine callp stock_spec ?_
 try simp (maxSteps := 1000000) -implicitDefEqProofs (disch := omega) only [go_sem]
 repeat' (first
   | (with_reducible apply Req_intro); focus (first | omega | assumption | (simp; done))
   | with_reducible (first | apply Req_intro | refine nilT ?_ fun hn => ?_ | apply wk_draw Tryd_mixed | refine drawEnd (by kernel_rfl) ?_)
   | (with_reducible (first | apply condA_if | apply stepDG_ifN | apply stepDG_if | apply stepG_ifN | apply stepG_if)) <;> intro hb <;> (have hif := hb) <;> (try simp only [bo] at hif) <;> (try simp -implicitDefEqProofs (disch := omega) only [go_sem, hb]) <;> clear hb
   | simp (maxSteps := 1000000) -implicitDefEqProofs (disch := omega) only [go_sem])
 refine callp (gauge_spec 5) ?_
 try simp (maxSteps := 1000000) -implicitDefEqProofs (disch := omega) only [go_sem]
 repeat' (first
   | (with_reducible apply Req_intro); focus (first | omega | assumption | (simp; done))
   | with_reducible (first | apply Req_intro | refine nilT ?_ fun hn => ?_ | apply wk_draw Tryd_mixed | refine drawEnd (by kernel_rfl) ?_)
   | (with_reducible (first | apply condA_if | apply stepDG_ifN | apply stepDG_if | apply stepG_ifN | apply stepG_if)) <;> intro hb <;> (have hif := hb) <;> (try simp only [bo] at hif) <;> (try simp -implicitDefEqProofs (disch := omega) only [go_sem, hb]) <;> clear hb
   | simp (maxSteps := 1000000) -implicitDefEqProofs (disch := omega) only [go_sem])
 refine callp kSpare ?_
 try simp (maxSteps := 1000000) -implicitDefEqProofs (disch := omega) only [go_sem]
 repeat' (first
   | (with_reducible apply Req_intro); focus (first | omega | assumption | (simp; done))
   | with_reducible (first | apply Req_intro | refine nilT ?_ fun hn => ?_ | apply wk_draw Tryd_mixed | refine drawEnd (by kernel_rfl) ?_)
   | (with_reducible (first | apply condA_if | apply stepDG_ifN | apply stepDG_if | apply stepG_ifN | apply stepG_if)) <;> intro hb <;> (have hif := hb) <;> (try simp only [bo] at hif) <;> (try simp -implicitDefEqProofs (disch := omega) only [go_sem, hb]) <;> clear hb
   | simp (maxSteps := 1000000) -implicitDefEqProofs (disch := omega) only [go_sem])
 refine callp stock_spec ?_
 try simp (maxSteps := 1000000) -implicitDefEqProofs (disch := omega) only [go_sem]
 repeat' (first
   | (with_reducible apply Req_intro); focus (first | omega | assumption | (simp; done))
   | with_reducible (first | apply Req_intro | refine nilT ?_ fun hn => ?_ | apply wk_draw Tryd_mixed | refine drawEnd (by kernel_rfl) ?_)
   | (with_reducible (first | apply condA_if | apply stepDG_ifN | apply stepDG_if | apply stepG_ifN | apply stepG_if)) <;> intro hb <;> (have hif := hb) <;> (try simp only [bo] at hif) <;> (try simp -implicitDefEqProofs (disch := omega) only [go_sem, hb]) <;> clear hb
   | simp (maxSteps := 1000000) -implicitDefEqProofs (disch := omega) only [go_sem])
 refine callp (gauge_spec 6) ?_
 try simp (maxSteps := 1000000) -implicitDefEqProofs (disch := omega) only [go_sem]
 repeat' (first
   | (with_reducible apply Req_intro); focus (first | omega | assumption | (simp; done))
   | with_reducible (first | apply Req_intro | refine nilT ?_ fun hn => ?_ | apply wk_draw Tryd_mixed | refine drawEnd (by kernel_rfl) ?_)
   | (with_reducible (first | apply condA_if | apply stepDG_ifN | apply stepDG_if | apply stepG_ifN | apply stepG_if)) <;> intro hb <;> (have hif := hb) <;> (try simp only [bo] at hif) <;> (try simp -implicitDefEqProofs (disch := omega) only [go_sem, hb]) <;> clear hb
   | simp (maxSteps := 1000000) -implicitDefEqProofs (disch := omega) only [go_sem])
 refine callp kTwins ?_
 try simp (maxSteps := 1000000) -implicitDefEqProofs (disch := omega) only [go_sem]
 repeat' (first
   | (with_reducible apply Req_intro); focus (first | omega | assumption | (simp; done))
   | with_reducible (first | apply Req_intro | refine nilT ?_ fun hn => ?_ | apply wk_draw Tryd_mixed | refine drawEnd (by kernel_rfl) ?_)
   | (with_reducible (first | apply condA_if | apply stepDG_ifN | apply stepDG_if | apply stepG_ifN | apply stepG_if)) <;> intro hb <;> (have hif := hb) <;> (try simp only [bo] at hif) <;> (try simp -implicitDefEqProofs (disch := omega) only [go_sem, hb]) <;> clear hb
   | simp (maxSteps := 1000000) -implicitDefEqProofs (disch := omega) only [go_sem])
 refine callp stock_spec ?_
 try simp (maxSteps := 1000000) -implicitDefEqProofs (disch := omega) only [go_sem]
 repeat' (first
   | (with_reducible apply Req_intro); focus (first | omega | assumption | (simp; done))
   | with_reducible (first | apply Req_intro | refine nilT ?_ fun hn => ?_ | apply wk_draw Tryd_mixed | refine drawEnd (by kernel_rfl) ?_)
   | (with_reducible (first | apply condA_if | apply stepDG_ifN | apply stepDG_if | apply stepG_ifN | apply stepG_if)) <;> intro hb <;> (have hif := hb) <;> (try simp only [bo] at hif) <;> (try simp -implicitDefEqProofs (disch := omega) only [go_sem, hb]) <;> clear hb
   | simp (maxSteps := 1000000) -implicitDefEqProofs (disch := omega) only [go_sem])
 refine callp (gauge_spec 5) ?_
 try simp (maxSteps := 1000000) -implicitDefEqProofs (disch := omega) only [go_sem]
 repeat' (first
   | (with_reducible apply Req_intro); focus (first | omega | assumption | (simp; done))
   | with_reducible (first | apply Req_intro | refine nilT ?_ fun hn => ?_ | apply wk_draw Tryd_mixed | refine drawEnd (by kernel_rfl) ?_)
   | (with_reducible (first | apply condA_if | apply stepDG_ifN | apply stepDG_if | apply stepG_ifN | apply stepG_if)) <;> intro hb <;> (have hif := hb) <;> (try simp only [bo] at hif) <;> (try simp -implicitDefEqProofs (disch := omega) only [go_sem, hb]) <;> clear hb
   | simp (maxSteps := 1000000) -implicitDefEqProofs (disch := omega) only [go_sem])
 refine callp kCut ?_
 try simp (maxSteps := 1000000) -implicitDefEqProofs (disch := omega) only [go_sem]
 repeat' (first
   | (with_reducible apply Req_intro); focus (first | omega | assumption | (simp; done))
   | with_reducible (first | apply Req_intro | refine nilT ?_ fun hn => ?_ | apply wk_draw Tryd_mixed | refine drawEnd (by kernel_rfl) ?_)
   | (with_reducible (first | apply condA_if | apply stepDG_ifN | apply stepDG_if | apply stepG_ifN | apply stepG_if)) <;> intro hb <;> (have hif := hb) <;> (try simp only [bo] at hif) <;> (try simp -implicitDefEqProofs (disch := omega) only [go_sem, hb]) <;> clear hb
   | simp (maxSteps := 1000000) -implicitDefEqProofs (disch := omega) only [go_sem])
 refine callp stock_spec ?_
 try simp (maxSteps := 1000000) -implicitDefEqProofs (disch := omega) only [go_sem]
 repeat' (first
   | (with_reducible apply Req_intro); focus (first | omega | assumption | (simp; done))
   | with_reducible (first | apply Req_intro | refine nilT ?_ fun hn => ?_ | apply wk_draw Tryd_mixed | refine drawEnd (by kernel_rfl) ?_)
   | (with_reducible (first | apply condA_if | apply stepDG_ifN | apply stepDG_if | apply stepG_ifN | apply stepG_if)) <;> intro hb <;> (have hif := hb) <;> (try simp only [bo] at hif) <;> (try simp -implicitDefEqProofs (disch := omega) only [go_sem, hb]) <;> clear hb
   | simp (maxSteps := 1000000) -implicitDefEqProofs (disch := omega) only [go_sem])
 refine callp (gauge_spec 5) ?_
 try simp (maxSteps := 1000000) -implicitDefEqProofs (disch := omega) only [go_sem]
 repeat' (first
   | (with_reducible apply Req_intro); focus (first | omega | assumption | (simp; done))
   | with_reducible (first | apply Req_intro | refine nilT ?_ fun hn => ?_ | apply wk_draw Tryd_mixed | refine drawEnd (by kernel_rfl) ?_)
   | (with_reducible (first | apply condA_if | apply stepDG_ifN | apply stepDG_if | apply stepG_ifN | apply stepG_if)) <;> intro hb <;> (have hif := hb) <;> (try simp only [bo] at hif) <;> (try simp -implicitDefEqProofs (disch := omega) only [go_sem, hb]) <;> clear hb
   | simp (maxSteps := 1000000) -implicitDefEqProofs (disch := omega) only [go_sem])
 refine callp kLook ?_
 try simp (maxSteps := 1000000) -implicitDefEqProofs (disch := omega) only [go_sem]
 repeat' (first
   | (with_reducible apply Req_intro); focus (first | omega | assumption | (simp; done))
   | with_reducible (first | apply Req_intro | refine nilT ?_ fun hn => ?_ | apply wk_draw Tryd_mixed | refine drawEnd (by kernel_rfl) ?_)
   | (with_reducible (first | apply condA_if | apply stepDG_ifN | apply stepDG_if | apply stepG_ifN | apply stepG_if)) <;> intro hb <;> (have hif := hb) <;> (try simp only [bo] at hif) <;> (try simp -implicitDefEqProofs (disch := omega) only [go_sem, hb]) <;> clear hb
   | simp (maxSteps := 1000000) -implicitDefEqProofs (disch := omega) only [go_sem])
 refine callp stock_spec ?_
 try simp (maxSteps := 1000000) -implicitDefEqProofs (disch := omega) only [go_sem]
 repeat' (first
   | (with_reducible apply Req_intro); focus (first | omega | assumption | (simp; done))
   | with_reducible (first | apply Req_intro | refine nilT ?_ fun hn => ?_ | apply wk_draw Tryd_mixed | refine drawEnd (by kernel_rfl) ?_)
   | (with_reducible (first | apply condA_if | apply stepDG_ifN | apply stepDG_if | apply stepG_ifN | apply stepG_if)) <;> intro hb <;> (have hif := hb) <;> (try simp only [bo] at hif) <;> (try simp -implicitDefEqProofs (disch := omega) only [go_sem, hb]) <;> clear hb
   | simp (maxSteps := 1000000) -implicitDefEqProofs (disch := omega) only [go_sem])
 refine callp (gauge_spec 5) ?_
 try simp (maxSteps := 1000000) -implicitDefEqProofs (disch := omega) only [go_sem]
 repeat' (first
   | (with_reducible apply Req_intro); focus (first | omega | assumption | (simp; done))
   | with_reducible (first | apply Req_intro | refine nilT ?_ fun hn => ?_ | apply wk_draw Tryd_mixed | refine drawEnd (by kernel_rfl) ?_)
   | (with_reducible (first | apply condA_if | apply stepDG_ifN | apply stepDG_if | apply stepG_ifN | apply stepG_if)) <;> intro hb <;> (have hif := hb) <;> (try simp only [bo] at hif) <;> (try simp -implicitDefEqProofs (disch := omega) only [go_sem, hb]) <;> clear hb
   | simp (maxSteps := 1000000) -implicitDefEqProofs (disch := omega) only [go_sem])
 refine callp kBalance ?_
 try simp (maxSteps := 1000000) -implicitDefEqProofs (disch := omega) only [go_sem]
 repeat' (first
   | (with_reducible apply Req_intro); focus (first | omega | assumption | (simp; done))
   | with_reducible (first | apply Req_intro | refine nilT ?_ fun hn => ?_ | apply wk_draw Tryd_mixed | refine drawEnd (by kernel_rfl) ?_)
   | (with_reducible (first | apply condA_if | apply stepDG_ifN | apply stepDG_if | apply stepG_ifN | apply stepG_if)) <;> intro hb <;> (have hif := hb) <;> (try simp only [bo] at hif) <;> (try simp -implicitDefEqProofs (disch := omega) only [go_sem, hb]) <;> clear hb
   | simp (maxSteps := 1000000) -implicitDefEqProofs (disch := omega) only [go_sem])
 refine callp (pair_spec 0 0) ?_
 try simp (maxSteps := 1000000) -implicitDefEqProofs (disch := omega) only [go_sem]
 repeat' (first
   | (with_reducible apply Req_intro); focus (first | omega | assumption | (simp; done))
   | with_reducible (first | apply Req_intro | refine nilT ?_ fun hn => ?_ | apply wk_draw Tryd_mixed | refine drawEnd (by kernel_rfl) ?_)
   | (with_reducible (first | apply condA_if | apply stepDG_ifN | apply stepDG_if | apply stepG_ifN | apply stepG_if)) <;> intro hb <;> (have hif := hb) <;> (try simp only [bo] at hif) <;> (try simp -implicitDefEqProofs (disch := omega) only [go_sem, hb]) <;> clear hb
   | simp (maxSteps := 1000000) -implicitDefEqProofs (disch := omega) only [go_sem])
 all_goals first | (exfalso; omega) | skip
 refine callp (pair_spec 1 1) ?_
 try simp (maxSteps := 1000000) -implicitDefEqProofs (disch := omega) only [go_sem]
 repeat' (first
   | (with_reducible apply Req_intro); focus (first | omega | assumption | (simp; done))
   | with_reducible (first | apply Req_intro | refine nilT ?_ fun hn => ?_ | apply wk_draw Tryd_mixed | refine drawEnd (by kernel_rfl) ?_)
   | (with_reducible (first | apply condA_if | apply stepDG_ifN | apply stepDG_if | apply stepG_ifN | apply stepG_if)) <;> intro hb <;> (have hif := hb) <;> (try simp only [bo] at hif) <;> (try simp -implicitDefEqProofs (disch := omega) only [go_sem, hb]) <;> clear hb
   | simp (maxSteps := 1000000) -implicitDefEqProofs (disch := omega) only [go_sem])
 all_goals first | (exfalso; omega) | skip
 refine callc (kAll [(0, 0), (1, 1)] false true (by decide)) ?_
 try simp (maxSteps := 1000000) -implicitDefEqProofs (disch := omega) only [go_sem]
 repeat' (first
   | (with_reducible apply Req_intro); focus (first | omega | assumption | (simp; done))
   | with_reducible (first | apply Req_intro | refine nilT ?_ fun hn => ?_ | apply wk_draw Tryd_mixed | refine drawEnd (by kernel_rfl) ?_)
   | (with_reducible (first | apply condA_if | apply stepDG_ifN | apply stepDG_if | apply stepG_ifN | apply stepG_if)) <;> intro hb <;> (have hif := hb) <;> (try simp only [bo] at hif) <;> (try simp -implicitDefEqProofs (disch := omega) only [go_sem, hb]) <;> clear hb
   | simp (maxSteps := 1000000) -implicitDefEqProofs (disch := omega) only [go_sem])
 all_goals first | (exfalso; omega) | skip
 refine callc (kInts [0, 1] false true (by decide)) ?_
 try simp (maxSteps := 1000000) -implicitDefEqProofs (disch := omega) only [go_sem]
 repeat' (first
   | (with_reducible apply Req_intro); focus (first | omega | assumption | (simp; done))
   | with_reducible (first | apply Req_intro | refine nilT ?_ fun hn => ?_ | apply wk_draw Tryd_mixed | refine drawEnd (by kernel_rfl) ?_)
   | (with_reducible (first | apply condA_if | apply stepDG_ifN | apply stepDG_if | apply stepG_ifN | apply stepG_if)) <;> intro hb <;> (have hif := hb) <;> (try simp only [bo] at hif) <;> (try simp -implicitDefEqProofs (disch := omega) only [go_sem, hb]) <;> clear hb
   | simp (maxSteps := 1000000) -implicitDefEqProofs (disch := omega) only [go_sem])
 all_goals first | (exfalso; omega) | skip
 refine callc (kInts [2] false true (by decide)) ?_
 try simp (maxSteps := 1000000) -implicitDefEqProofs (disch := omega) only [go_sem]
 repeat' (first
   | (with_reducible apply Req_intro); focus (first | omega | assumption | (simp; done))
   | with_reducible (first | apply Req_intro | refine nilT ?_ fun hn => ?_ | apply wk_draw Tryd_mixed | refine drawEnd (by kernel_rfl) ?_)
   | (with_reducible (first | apply condA_if | apply stepDG_ifN | apply stepDG_if | apply stepG_ifN | apply stepG_if)) <;> intro hb <;> (have hif := hb) <;> (try simp only [bo] at hif) <;> (try simp -implicitDefEqProofs (disch := omega) only [go_sem, hb]) <;> clear hb
   | simp (maxSteps := 1000000) -implicitDefEqProofs (disch := omega) only [go_sem])
 all_goals first | (exfalso; omega) | skip
 refine callc (kInts [2] false true (by decide)) ?_
 try simp (maxSteps := 1000000) -implicitDefEqProofs (disch := omega) only [go_sem]
 repeat' (first
   | (with_reducible apply Req_intro); focus (first | omega | assumption | (simp; done))
   | with_reducible (first | apply Req_intro | refine nilT ?_ fun hn => ?_ | apply wk_draw Tryd_mixed | refine drawEnd (by kernel_rfl) ?_)
   | (with_reducible (first | apply condA_if | apply stepDG_ifN | apply stepDG_if | apply stepG_ifN | apply stepG_if)) <;> intro hb <;> (have hif := hb) <;> (try simp only [bo] at hif) <;> (try simp -implicitDefEqProofs (disch := omega) only [go_sem, hb]) <;> clear hb
   | simp (maxSteps := 1000000) -implicitDefEqProofs (disch := omega) only [go_sem])
 all_goals first | (exfalso; omega) | skip
 refine callc (kAll [(0, 0), (1, 1)] false false (by decide)) ?_
 try simp (maxSteps := 1000000) -implicitDefEqProofs (disch := omega) only [go_sem]
 repeat' (first
   | (with_reducible apply Req_intro); focus (first | omega | assumption | (simp; done))
   | with_reducible (first | apply Req_intro | refine nilT ?_ fun hn => ?_ | apply wk_draw Tryd_mixed | refine drawEnd (by kernel_rfl) ?_)
   | (with_reducible (first | apply condA_if | apply stepDG_ifN | apply stepDG_if | apply stepG_ifN | apply stepG_if)) <;> intro hb <;> (have hif := hb) <;> (try simp only [bo] at hif) <;> (try simp -implicitDefEqProofs (disch := omega) only [go_sem, hb]) <;> clear hb
   | simp (maxSteps := 1000000) -implicitDefEqProofs (disch := omega) only [go_sem])
 all_goals first | (exfalso; omega) | skip
 refine callp (pair_spec 0 1) ?_
 try simp (maxSteps := 1000000) -implicitDefEqProofs (disch := omega) only [go_sem]
 repeat' (first
   | (with_reducible apply Req_intro); focus (first | omega | assumption | (simp; done))
   | with_reducible (first | apply Req_intro | refine nilT ?_ fun hn => ?_ | apply wk_draw Tryd_mixed | refine drawEnd (by kernel_rfl) ?_)
   | (with_reducible (first | apply condA_if | apply stepDG_ifN | apply stepDG_if | apply stepG_ifN | apply stepG_if)) <;> intro hb <;> (have hif := hb) <;> (try simp only [bo] at hif) <;> (try simp -implicitDefEqProofs (disch := omega) only [go_sem, hb]) <;> clear hb
   | simp (maxSteps := 1000000) -implicitDefEqProofs (disch := omega) only [go_sem])
 all_goals first | (exfalso; omega) | skip
 refine callp (pair_spec 1 0) ?_
 try simp (maxSteps := 1000000) -implicitDefEqProofs (disch := omega) only [go_sem]
 repeat' (first
   | (with_reducible apply Req_intro); focus (first | omega | assumption | (simp; done))
   | with_reducible (first | apply Req_intro | refine nilT ?_ fun hn => ?_ | apply wk_draw Tryd_mixed | refine drawEnd (by kernel_rfl) ?_)
   | (with_reducible (first | apply condA_if | apply stepDG_ifN | apply stepDG_if | apply stepG_ifN | apply stepG_if)) <;> intro hb <;> (have hif := hb) <;> (try simp only [bo] at hif) <;> (try simp -implicitDefEqProofs (disch := omega) only [go_sem, hb]) <;> clear hb
   | simp (maxSteps := 1000000) -implicitDefEqProofs (disch := omega) only [go_sem])
 all_goals first | (exfalso; omega) | skip
 refine callp (pair_spec 2 2) ?_
 try simp (maxSteps := 1000000) -implicitDefEqProofs (disch := omega) only [go_sem]
 repeat' (first
   | (with_reducible apply Req_intro); focus (first | omega | assumption | (simp; done))
   | with_reducible (first | apply Req_intro | refine nilT ?_ fun hn => ?_ | apply wk_draw Tryd_mixed | refine drawEnd (by kernel_rfl) ?_)
   | (with_reducible (first | apply condA_if | apply stepDG_ifN | apply stepDG_if | apply stepG_ifN | apply stepG_if)) <;> intro hb <;> (have hif := hb) <;> (try simp only [bo] at hif) <;> (try simp -implicitDefEqProofs (disch := omega) only [go_sem, hb]) <;> clear hb
   | simp (maxSteps := 1000000) -implicitDefEqProofs (disch := omega) only [go_sem])
 all_goals first | (exfalso; omega) | skip
 refine callc (kAll [(0, 1), (1, 0), (2, 2)] false true (by decide)) ?_
 try simp (maxSteps := 1000000) -implicitDefEqProofs (disch := omega) only [go_sem]
 repeat' (first
   | (with_reducible apply Req_intro); focus (first | omega | assumption | (simp; done))
   | with_reducible (first | apply Req_intro | refine nilT ?_ fun hn => ?_ | apply wk_draw Tryd_mixed | refine drawEnd (by kernel_rfl) ?_)
   | (with_reducible (first | apply condA_if | apply stepDG_ifN | apply stepDG_if | apply stepG_ifN | apply stepG_if)) <;> intro hb <;> (have hif := hb) <;> (try simp only [bo] at hif) <;> (try simp -implicitDefEqProofs (disch := omega) only [go_sem, hb]) <;> clear hb
   | simp (maxSteps := 1000000) -implicitDefEqProofs (disch := omega) only [go_sem])
 all_goals first | (exfalso; omega) | skip
 refine callp stock_spec ?_
 try simp (maxSteps := 1000000) -implicitDefEqProofs (disch := omega) only [go_sem]
 repeat' (first
   | (with_reducible apply Req_intro); focus (first | omega | assumption | (simp; done))
   | with_reducible (first | apply Req_intro | refine nilT ?_ fun hn => ?_ | apply wk_draw Tryd_mixed | refine drawEnd (by kernel_rfl) ?_)
   | (with_reducible (first | apply condA_if | apply stepDG_ifN | apply stepDG_if | apply stepG_ifN | apply stepG_if)) <;> intro hb <;> (have hif := hb) <;> (try simp only [bo] at hif) <;> (try simp -implicitDefEqProofs (disch := omega) only [go_sem, hb]) <;> clear hb
   | simp (maxSteps := 1000000) -implicitDefEqProofs (disch := omega) only [go_sem])
 all_goals first | (exfalso; omega) | skip
 refine callp kCheck ?_
 try simp (maxSteps := 1000000) -implicitDefEqProofs (disch := omega) only [go_sem]
 repeat' (first
   | (with_reducible apply Req_intro); focus (first | omega | assumption | (simp; done))
   | with_reducible (first | apply Req_intro | refine nilT ?_ fun hn => ?_ | apply wk_draw Tryd_mixed | refine drawEnd (by kernel_rfl) ?_)
   | (with_reducible (first | apply condA_if | apply stepDG_ifN | apply stepDG_if | apply stepG_ifN | apply stepG_if)) <;> intro hb <;> (have hif := hb) <;> (try simp only [bo] at hif) <;> (try simp -implicitDefEqProofs (disch := omega) only [go_sem, hb]) <;> clear hb
   | simp (maxSteps := 1000000) -implicitDefEqProofs (disch := omega) only [go_sem])
 all_goals first | (exfalso; omega) | skip
 refine ret_do ?_
 rfl
end Go.Aw
end
section
namespace Go.Aw
open Go.RowKit
def permsR (n : Nat) : Nat → Nat → List (List Nat)
 | 0, _ => [[]]
 | m + 1, taken => (List.range n).flatMap fun k => if taken.testBit k then [] else (permsR n m (taken ||| 2 ^ k)).map (k :: ·)
def valTo (f : Nat → Nat → Int) (ks : List Nat) : Nat → Int
 | 0 => 0
 | k + 1 => max (valTo f ks k) (f k (ks.getD k 0))
def valR (f : Nat → Nat → Int) (ks : List Nat) : Int := valTo f ks ks.length
def balStep (f : Nat → Nat → Int) (st : List Nat × Int) (ks : List Nat) : List Nat × Int := if valR f ks < st.2 then (ks, valR f ks) else st
def refBal (f : Nat → Nat → Int) (n : Nat) : Nat → List Nat → List Nat × Int → List Nat × Int
 | 0, now, st => balStep f st now
 | m + 1, now, st => (List.range n).foldl (fun st k => if decide (k ∈ now) then st else refBal f n m (now ++ [k]) st) st
theorem valTo_le (f : Nat → Nat → Int) (ks : List Nat) {w : Int} (h0 : 0 ≤ w) : ∀ n, valTo f ks n ≤ w ↔ ∀ i, i < n → f i (ks.getD i 0) ≤ w
 | 0 => ⟨fun _ i hi => absurd hi (Nat.not_lt_zero _), fun _ => h0⟩
 | n + 1 => by
   rw [valTo, Int.max_le, valTo_le f ks h0 n]
   constructor
   · rintro ⟨h1, h2⟩ i hi
     rcases Nat.lt_succ_iff_lt_or_eq.1 hi with h | rfl
     · exact h1 i h
     · exact h2
   · intro h
     exact ⟨fun i hi => h i (by omega), h n (by omega)⟩
def okFrom (T : List Nat) : Nat → List Nat → Bool
 | _, [] => true
 | i, k :: s => (T.getD i 0).testBit k && okFrom T (i + 1) s
theorem okFrom_iff (T : List Nat) : ∀ (s : List Nat) (i : Nat), okFrom T i s = true ↔ ∀ j, j < s.length → (T.getD (i + j) 0).testBit (s.getD j 0) = true
 | [], i => by simp [okFrom]
 | k :: s, i => by
   rw [okFrom, Bool.and_eq_true, okFrom_iff T s (i + 1)]
   constructor
   · rintro ⟨h1, h2⟩ j hj
     cases j with
     | zero => exact h1
     | succ j =>
       have := h2 j (by simpa using hj)
       rw [show i + 1 + j = i + (j + 1) from by omega] at this
       simpa using this
   · intro h
     refine ⟨h 0 (by simp), fun j hj => ?_⟩
     have := h (j + 1) (by simpa using hj)
     rw [show i + 1 + j = i + (j + 1) from by omega]
     simpa using this
theorem findSome_range {β : Type} {f : Nat → Option β} {b : β} : ∀ {n : Nat}, (List.range n).findSome? f = some b ↔ ∃ k, k < n ∧ f k = some b ∧ ∀ j, j < k → f j = none
 | 0 => by simp
 | n + 1 => by
   rw [List.range_succ, List.findSome?_append]
   constructor
   · intro h
     cases h1 : (List.range n).findSome? f with
     | some c =>
       rw [h1] at h
       cases h
       obtain ⟨k, hk, h2, h3⟩ := findSome_range.1 h1
       exact ⟨k, by omega, h2, h3⟩
     | none =>
       rw [h1] at h
       rw [List.findSome?_eq_none_iff] at h1
       refine ⟨n, by omega, by simpa using h, fun j hj => h1 j (List.mem_range.2 hj)⟩
   · rintro ⟨k, hk, h2, h3⟩
     rcases Nat.lt_succ_iff_lt_or_eq.1 hk with h | rfl
     · rw [findSome_range.2 ⟨k, h, h2, h3⟩]; rfl
     · rw [List.findSome?_eq_none_iff.2 fun j hj => h3 j (List.mem_range.1 hj)]
       simp [h2]
theorem maxM_len : ∀ (t : List Nat) (x : Nat), maxM t x ≤ t.length
 | [], x => Nat.le_refl _
 | a :: t, x => by
   have := maxM_head a t x
   have := maxM_len t x
   rw [List.length_cons]; omega
def farF (ls rs : List Grd) (i k : Nat) : Int := farR (ls.getD i default).1 (rs.getD k default).1
def nearB (ls rs : List Grd) (w : Int) : List (List Bool) := ls.map fun a => rs.map fun b => decide (farR a.1 b.1 ≤ w)
end Go.Aw
end
section
namespace Go.Aw
open Go.RowKit
def tabB (g : Gau) (ls rs : List Grd) (k : Int) : List (List Bool) := ls.map fun a => rs.map fun b => alikeR g a b k
def manyR (g : Gau) (ls rs : List Grd) (k : Int) : Nat := refM (tabB g ls rs k) 0
theorem farR_comm (a b : Int) : farR a b = farR b a := by unfold farR; omega
theorem alikeR_comm (g : Gau) {a b : Grd} (h : a.2.length = b.2.length) (k : Int) : alikeR g a b k = alikeR g b a k := by
 unfold alikeR
 rw [farR_comm, h]
 congr 2
 funext i
 rw [farR_comm]
def okTwin (g : Gau) (ls rs : List Grd) (a b : Nat × Nat) : Bool :=
 decide (a.1 ≠ b.1 ∧ a.2 ≠ b.2) && alikeR g (rs.getD a.2 default) (ls.getD a.1 default) 2 && alikeR g (ls.getD b.1 default) (ls.getD a.1 default) 2 && alikeR g (ls.getD b.1 default) (rs.getD a.2 default) 2 &&
   alikeR g (rs.getD b.2 default) (ls.getD a.1 default) 2 && alikeR g (rs.getD b.2 default) (rs.getD a.2 default) 2 && alikeR g (rs.getD b.2 default) (ls.getD b.1 default) 2
theorem twins_ref {g : Gau} {ls rs : List Grd} {n : Nat} (hr : rs.length ≤ 16) (hl1 : ∀ x ∈ ls, x.2.length = n) (hr1 : ∀ x ∈ rs, x.2.length = n) :
   (refTwinList ls.length rs.length (okTwin g ls rs)).head? = twinsR (tableR g ls rs 2) (fun i j => alikeR g (ls.getD i default) (ls.getD j default) 2) (fun i j => alikeR g (rs.getD i default) (rs.getD j default) 2) := by
 have hb : ∀ i r, i < ls.length → r < rs.length → ((tableR g ls rs 2).getD i 0).testBit r = alikeR g (ls.getD i default) (rs.getD r default) 2 := fun i r hi hr => by
   rw [tableR_get hi, rowR_bit, decide_eq_true hr, Bool.true_and]
 rw [twinsR_eq hr fun i r h => by
   rcases Nat.lt_or_ge i ls.length with hi | hi
   · rw [tableR_get hi, rowR_bit, decide_eq_false (by omega), Bool.false_and]
   · rw [List.getD_eq_getElem?_getD, List.getElem?_eq_none (by rw [tableR_len]; exact hi)]; exact Nat.zero_testBit r]
 rw [← tableR_len g ls rs 2, refTwinList_eq]
 intro i k j m hi hj hk hm
 rw [tableR_len] at hi hj
 have m1 : ∀ {i}, i < ls.length → (ls.getD i default).2.length = n := fun h => hl1 _ (by rw [List.getD_eq_getElem?_getD, List.getElem?_eq_getElem h]; exact List.getElem_mem h)
 have m2 : ∀ {i}, i < rs.length → (rs.getD i default).2.length = n := fun h => hr1 _ (by rw [List.getD_eq_getElem?_getD, List.getElem?_eq_getElem h]; exact List.getElem_mem h)
 rw [hb i k hi hk, hb j k hj hk, hb i m hi hm, hb j m hj hm]
 unfold okTwin
 simp only
 rw [alikeR_comm g (a := rs.getD k default) (b := ls.getD i default) (by rw [m2 hk, m1 hi]), alikeR_comm g (a := ls.getD j default) (b := ls.getD i default) (by rw [m1 hi, m1 hj]),
   alikeR_comm g (a := rs.getD m default) (b := ls.getD i default) (by rw [m2 hm, m1 hi]), alikeR_comm g (a := rs.getD m default) (b := rs.getD k default) (by rw [m2 hm, m2 hk]), alikeR_comm g (a := rs.getD m default) (b := ls.getD j default) (by rw [m2 hm, m1 hj]),
   show decide (i ≠ j ∧ k ≠ m) = (decide (i ≠ j) && decide (k ≠ m)) from Bool.decide_and ..]
def refCutTo (g : Gau) (ls rs : List Grd) : Nat → Nat × Nat × Bool
 | 0 => (0, manyR g ls rs 2, false)
 | i + 1 => if (refCutTo g ls rs i).2.1 < manyR g ls (rs ++ [ls.getD i default]) 2 then (i, manyR g ls (rs ++ [ls.getD i default]) 2, true) else refCutTo g ls rs i
def lookB (g : Gau) (ls rs : List Grd) (right : Bool) (n : Nat) : List (List Bool) :=
 (List.range ls.length).map fun i => (List.range rs.length).map fun k => if (if right then k else i) = n then alikeR g (ls.getD i default) (rs.getD k default) 1 else alikeR g (ls.getD i default) (rs.getD k default) 2
end Go.Aw
end
section
namespace Go.Aw
open Go.RowKit
structure Fine (m : Nat) (x : Grd) : Prop where
 w1 : 1 ≤ x.1
 w2 : x.1 ≤ 10000
 len : x.2.length = m
 c : ∀ v ∈ x.2, 0 ≤ v ∧ v ≤ 500
theorem check_fine {g : Gau} {ls rs : List Grd} {m : Nat} (h1 : 1 ≤ m) (h4 : m ≤ 4) (hl8 : ls.length ≤ 8) (hr8 : rs.length ≤ 8) (hl : ∀ x ∈ ls, Fine m x) (hr : ∀ x ∈ rs, Fine m x) (hg : gaugeR g = true) : checkS g ls rs = 0 := by
 have hall : ∀ x ∈ ls ++ rs, Fine m x := fun x hx => (List.mem_append.1 hx).elim (hl x) (hr x)
 rw [checkS, if_neg (by omega)]
 generalize ls ++ rs = l at *
 have h0 : ∀ x ∈ l, otherR l x = false := fun x hx => by
   have e : (l.getD 0 default).2.length = m := by
     cases l with
     | nil => cases hx
     | cons y l => exact (hall y (by simp)).len
   simp only [otherR, inR', e, (hall x hx).len, Bool.or_eq_false_iff, Bool.not_eq_false', Bool.and_eq_true, decide_eq_true_eq]
   refine ⟨⟨by omega, by omega⟩, by simp⟩
 have h2 : ∀ x ∈ l, noneR x = false := fun x hx => by
   have := hall x hx
   simp only [noneR, inR', Bool.or_eq_false_iff, Bool.not_eq_false', Bool.and_eq_true, decide_eq_true_eq, List.all_eq_true]
   exact ⟨⟨this.w1, this.w2⟩, fun v hv => this.c v hv⟩
 rw [chkR, if_neg (by rw [List.any_eq_true]; rintro ⟨x, hx, hh⟩; rw [h0 x hx] at hh; cases hh), if_neg (by rw [List.any_eq_true]; rintro ⟨x, hx, hh⟩; rw [h2 x hx] at hh; cases hh), if_pos hg]
theorem chk_two {g : Gau} {a b : Grd} {m : Nat} (h1 : 1 ≤ m) (h4 : m ≤ 4) (ha : Fine m a) (hb : Fine m b) (hg : gaugeR g = true) : chkR g [a, b] = 0 := by
 have := check_fine (g := g) (ls := [a]) (rs := [b]) h1 h4 (by simp) (by simp) (by simpa using ha) (by simpa using hb) hg
 rw [checkS, if_neg (by simp)] at this
 exact this
theorem alikeR_iff {g : Gau} {a b : Grd} {k : Int} : alikeR g a b k = true ↔ farR a.1 b.1 + k * g.sc ≤ g.we ∧ ∀ i, i < a.2.length → farR (a.2.getD i default) (b.2.getD i default) + k * g.ga ≤ g.cu := by
 simp only [alikeR, Bool.and_eq_true, Bool.not_eq_true', decide_eq_false_iff_not, List.all_eq_true, List.mem_range]
 constructor
 · rintro ⟨h1, h2⟩; exact ⟨by omega, fun i hi => by have := h2 i hi; omega⟩
 · rintro ⟨h1, h2⟩; exact ⟨by omega, fun i hi => by have := h2 i hi; omega⟩
def atR (by' : List Int) (i k : Nat) (off : Int) : Int := if by'.length = 0 then 0 else by'.getD ((3 * i + k) % by'.length) 0 % (2 * off + 1) - off
theorem atR_bnd (by' : List Int) (i k : Nat) {off : Int} (h : 0 ≤ off) : -off ≤ atR by' i k off ∧ atR by' i k off ≤ off := by
 unfold atR
 split
 · omega
 · have h1 := Int.emod_nonneg (by'.getD ((3 * i + k) % by'.length) 0) (show 2 * off + 1 ≠ 0 by omega)
   have h2 := Int.emod_lt_of_pos (by'.getD ((3 * i + k) % by'.length) 0) (show 0 < 2 * off + 1 by omega)
   omega
def trueG (g : Gau) (by' : List Int) (i : Nat) (x : Grd) : Grd := (x.1 + atR by' i 0 g.sc, (List.range x.2.length).map fun k => x.2.getD k default + atR by' i (1 + k) g.ga)
theorem trueG_len (g : Gau) (by' : List Int) (i : Nat) (x : Grd) : (trueG g by' i x).2.length = x.2.length := by simp [trueG]
theorem trueG_get {g : Gau} {by' : List Int} {i : Nat} {x : Grd} {k : Nat} (h : k < x.2.length) : (trueG g by' i x).2.getD k default = x.2.getD k default + atR by' i (1 + k) g.ga := by
 simp [trueG, List.getD_eq_getElem?_getD, h]
theorem farR_move {a b x y o : Int} (hx : -o ≤ x ∧ x ≤ o) (hy : -o ≤ y ∧ y ≤ o) : farR (a + x) (b + y) ≤ farR a b + 2 * o ∧ farR a b ≤ farR (a + x) (b + y) + 2 * o := by unfold farR; omega
theorem truth_sure {g : Gau} {a b : Grd} {by' : List Int} {i k : Nat} (h1 : 0 ≤ g.sc) (h2 : 0 ≤ g.ga) (hl : a.2.length = b.2.length) (h : alikeR g a b 2 = true) : alikeR g (trueG g by' i a) (trueG g by' k b) 0 = true := by
 rw [alikeR_iff] at h ⊢
 rw [trueG_len]
 refine ⟨?_, fun j hj => ?_⟩
 · have := (farR_move (a := a.1) (b := b.1) (atR_bnd by' i 0 h1) (atR_bnd by' k 0 h1)).1
   simp only [trueG]; omega
 · have := (farR_move (a := a.2.getD j default) (b := b.2.getD j default) (atR_bnd by' i (1 + j) h2) (atR_bnd by' k (1 + j) h2)).1
   have := h.2 j hj
   rw [trueG_get hj, trueG_get (by omega)]; omega
theorem truth_may {g : Gau} {a b : Grd} {by' : List Int} {i k : Nat} (h1 : 0 ≤ g.sc) (h2 : 0 ≤ g.ga) (hl : a.2.length = b.2.length) (h : alikeR g (trueG g by' i a) (trueG g by' k b) 0 = true) : alikeR g a b (-2) = true := by
 rw [alikeR_iff] at h ⊢
 rw [trueG_len] at h
 refine ⟨?_, fun j hj => ?_⟩
 · have := (farR_move (a := a.1) (b := b.1) (atR_bnd by' i 0 h1) (atR_bnd by' k 0 h1)).2
   have := h.1
   simp only [trueG] at this; omega
 · have := (farR_move (a := a.2.getD j default) (b := b.2.getD j default) (atR_bnd by' i (1 + j) h2) (atR_bnd by' k (1 + j) h2)).2
   have := h.2 j hj
   rw [trueG_get hj, trueG_get (by omega)] at this; omega
theorem sure_may {g : Gau} {a b : Grd} (h1 : 0 ≤ g.sc) (h2 : 0 ≤ g.ga) (h : alikeR g a b 2 = true) : alikeR g a b (-2) = true := alike_more (by omega) (by omega) (Int.le_refl _) (Int.le_refl _) h
def grK (is : Nat → Nat → Bool) (L : List (Nat × Nat)) (i : Nat) : Nat → List (Nat × Nat)
 | 0 => L
 | k + 1 => if is i k && !((grK is L i k).any fun p => p.1 == i) && !((grK is L i k).any fun p => p.2 == k) then grK is L i k ++ [(i, k)] else grK is L i k
def grT (is : Nat → Nat → Bool) (nr : Nat) : Nat → List (Nat × Nat)
 | 0 => []
 | i + 1 => grK is (grT is nr i) i nr
structure GrOk (is : Nat → Nat → Bool) (nl nr : Nat) (l : List (Nat × Nat)) : Prop where
 e : ∀ p ∈ l, p.1 < nl ∧ p.2 < nr ∧ is p.1 p.2 = true
 a : (l.map (·.1)).Nodup
 b : (l.map (·.2)).Nodup
theorem nodup_snoc {l : List Nat} {x : Nat} (h : l.Nodup) (hx : x ∉ l) : (l ++ [x]).Nodup := by
 rw [List.nodup_append]
 exact ⟨h, by simp, fun a ha b hb e => hx (by rw [List.mem_singleton] at hb; rw [← hb, ← e]; exact ha)⟩
theorem grK_ok {is : Nat → Nat → Bool} {nl nr : Nat} {L : List (Nat × Nat)} {i : Nat} (hi : i < nl) (h : GrOk is nl nr L) : ∀ k, k ≤ nr → GrOk is nl nr (grK is L i k)
 | 0, _ => h
 | k + 1, hk => by
   have ih := grK_ok hi h k (by omega)
   rw [grK]
   split
   · rename_i hc
     simp only [Bool.and_eq_true, Bool.not_eq_true', List.any_eq_false, beq_iff_eq] at hc
     obtain ⟨⟨h1, h2⟩, h3⟩ := hc
     refine ⟨fun p hp => ?_, ?_, ?_⟩
     · rcases List.mem_append.1 hp with hp | hp
       · exact ih.e p hp
       · rw [List.mem_singleton] at hp; subst hp; exact ⟨hi, by omega, h1⟩
     · rw [List.map_append]
       exact nodup_snoc ih.a fun hm => by
         obtain ⟨p, hp, e⟩ := List.mem_map.1 hm
         exact h2 p hp e
     · rw [List.map_append]
       exact nodup_snoc ih.b fun hm => by
         obtain ⟨p, hp, e⟩ := List.mem_map.1 hm
         exact h3 p hp e
   · exact ih
theorem grT_ok {is : Nat → Nat → Bool} {nl nr : Nat} : ∀ i, i ≤ nl → GrOk is nl nr (grT is nr i)
 | 0, _ => ⟨fun p hp => (by cases hp), List.nodup_nil, List.nodup_nil⟩
 | i + 1, hi => grK_ok (by omega) (grT_ok i (by omega)) nr (Nat.le_refl _)
theorem gr_most {g : Gau} {ls rs : List Grd} {is : Nat → Nat → Bool} (hr : rs.length ≤ 16) (hm : ∀ i k, i < ls.length → k < rs.length → is i k = true → alikeR g (ls.getD i default) (rs.getD k default) (-2) = true) : (grT is rs.length ls.length).length ≤ mostR (tableR g ls rs (-2)) := by
 have h := grT_ok (is := is) (nl := ls.length) (nr := rs.length) ls.length (Nat.le_refl _)
 rw [mostR_eq (tableR_few hr)]
 refine Apart.le ⟨fun p hp => ?_, h.a, h.b⟩
 obtain ⟨h1, h2, h3⟩ := h.e p hp
 refine ⟨by rw [tableR_len]; exact h1, ?_, by omega⟩
 rw [tableR_get h1, rowR_bit, decide_eq_true h2, hm _ _ h1 h2 h3]; rfl
theorem pairs_bnd {g : Gau} {ls rs : List Grd} {k : Int} (hr : rs.length ≤ 16) : (∀ p ∈ pairsR (tableR g ls rs k), p.1 < ls.length ∧ p.2 < rs.length ∧ alikeR g (ls.getD p.1 default) (rs.getD p.2 default) k = true) ∧
   ((pairsR (tableR g ls rs k)).map (·.1)).Pairwise (· < ·) ∧ ((pairsR (tableR g ls rs k)).map (·.2)).Nodup ∧ (pairsR (tableR g ls rs k)).length = mostR (tableR g ls rs k) := by
 obtain ⟨h1, h2, h3, h4⟩ := pairsR_ok (tableR_few (g := g) (ls := ls) (k := k) hr)
 refine ⟨fun p hp => ?_, h3, h4, h1⟩
 obtain ⟨q1, q2, q3⟩ := h2 p hp
 rw [tableR_len] at q1
 rw [tableR_get q1, rowR_bit, Bool.and_eq_true, decide_eq_true_eq] at q2
 exact ⟨q1, q2.1, q2.2⟩
theorem most_left_le {g : Gau} {ls rs : List Grd} {k : Int} (hr : rs.length ≤ 16) : mostR (tableR g ls rs k) ≤ ls.length := by
 rw [mostR_eq (tableR_few hr)]
 have := maxM_len (tableR g ls rs k) 0
 rwa [tableR_len] at this
theorem most_right_le {g : Gau} {ls rs : List Grd} {k : Int} (hr : rs.length ≤ 16) : mostR (tableR g ls rs k) ≤ rs.length := by
 obtain ⟨h1, _, h3, h4⟩ := pairs_bnd (g := g) (ls := ls) (k := k) hr
 rw [← h4, ← List.length_map (f := fun p : Nat × Nat => p.2)]
 have := nodup_len (a := (pairsR (tableR g ls rs k)).map (·.2)) (b := List.range rs.length) h3 fun x hx => by
   obtain ⟨p, hp, rfl⟩ := List.mem_map.1 hx
   exact List.mem_range.2 (h1 p hp).2.1
 rwa [List.length_range] at this
end Go.Aw
end
section
set_option maxRecDepth 20000
set_option maxHeartbeats 4000000
namespace Go.Aw
open Go.RowKit Go.Proofs
theorem gIn_spec (n l m : Int) : Ct Tryd.prog 62 [int n, int l, int m] (.lit (.bool (inR' l m n))) := by
 refine fn_enter Tryd.func62 rfl (by decide) Tryd.results62 Tryd.ntmps62 ?_ rfl (by simp (maxSteps := 1000000) -implicitDefEqProofs (disch := omega) only [go_sem]; rfl) fun base => ?_
 · simp
 repeat' (first
   | (with_reducible apply Req_intro); focus (first | omega | assumption | (simp; done))
   | with_reducible (first | apply Req_intro | refine nilT ?_ fun hn => ?_ | apply wk_draw Tryd_mixed | refine drawEnd (by kernel_rfl) ?_)
   | (with_reducible (first | apply condA_if | apply stepDG_ifN | apply stepDG_if | apply stepG_ifN | apply stepG_if)) <;> intro hb <;> (have hif := hb) <;> (try simp only [bo] at hif) <;> (try simp -implicitDefEqProofs (disch := omega) only [go_sem, hb]) <;> clear hb
   | simp (maxSteps := 1000000) -implicitDefEqProofs (disch := omega) only [go_sem])
 · refine ret_do ?_
   simp [inR', hif, retV]
 · refine ret_do ?_
   have : inR' l m n = false := by simp [inR']; omega
   rw [this]; rfl
theorem rFar_spec (a b : Int) (ha : inR' 0 1000000 a = true) (hb : inR' 0 1000000 b = true) : Ct Tryd.prog 87 [int a, int b] (int (farR a b)) := by
 simp only [inR', Bool.and_eq_true, decide_eq_true_eq] at ha hb
 refine fn_enter Tryd.func87 rfl (by decide) Tryd.results87 Tryd.ntmps87 ?_ rfl (by simp (maxSteps := 1000000) -implicitDefEqProofs (disch := omega) only [go_sem]; rfl) fun base => ?_
 · first | assumption | (simp only [go_sem] <;> assumption) | (simp only [go_sem, *]; done) | (simp [go_sem]; done)
 repeat' (first
   | (with_reducible apply Req_intro); focus (first | omega | assumption | (simp; done))
   | with_reducible (first | apply Req_intro | refine nilT ?_ fun hn => ?_ | apply wk_draw Tryd_mixed | refine drawEnd (by kernel_rfl) ?_)
   | (with_reducible (first | apply condA_if | apply stepDG_ifN | apply stepDG_if | apply stepG_ifN | apply stepG_if)) <;> intro hb <;> (have hif := hb) <;> (try simp only [bo] at hif) <;> (try simp -implicitDefEqProofs (disch := omega) only [go_sem, hb]) <;> clear hb
   | simp (maxSteps := 1000000) -implicitDefEqProofs (disch := omega) only [go_sem])
 refine ret_do ?_
 have : max a b - min a b = farR a b := by unfold farR; omega
 rw [this]; rfl
def alTo (g : Gau) (a b : Grd) (k : Int) (i : Nat) : Bool := decide (farR a.1 b.1 + k * g.sc ≤ g.we) && (List.range i).all fun j => decide (farR (a.2.getD j default) (b.2.getD j default) + k * g.ga ≤ g.cu)
theorem alTo_succ (g : Gau) (a b : Grd) (k : Int) (i : Nat) : alTo g a b k (i + 1) = (alTo g a b k i && decide (farR (a.2.getD i default) (b.2.getD i default) + k * g.ga ≤ g.cu)) := by
 rw [alTo, alTo, List.range_succ, List.all_append, Bool.and_assoc]; simp
theorem alTo_all (g : Gau) (a b : Grd) (k : Int) : alTo g a b k a.2.length = alikeR g a b k := by
 rw [Bool.eq_iff_iff, alikeR_iff, alTo, Bool.and_eq_true, decide_eq_true_eq, List.all_eq_true]
 simp only [List.mem_range, decide_eq_true_eq]
theorem rAlike_spec (g : Gau) (a b : Grd) (k : Int) (n : Nat) (hn : n ≤ 4) (hg : GauOk g) (ha : GrdOk n a) (hb : GrdOk n b) (hk : inR' (-2) 2 k = true) : Ct Tryd.prog 63 [.agg (encGd a), .agg (encGd b), encGa g, int (k * g.sc), int (k * g.ga)] (.lit (.bool (alikeR g a b k))) := by
 have g1 := hg.sc
 have g2 := hg.ga
 have a2 := ha.len
 have b2 := hb.len
 have hw := rFar_spec a.1 b.1 ha.w hb.w
 have hc : ∀ i, i < n → Ct Tryd.prog 87 [int (a.2.getD i default), int (b.2.getD i default)] (int (farR (a.2.getD i default) (b.2.getD i default))) := fun i hi => rFar_spec _ _ (ha.c _ (getD_mem (by omega))) (hb.c _ (getD_mem (by omega)))
 have hkr : -2 ≤ k ∧ k ≤ 2 := by simpa [inR'] using hk
 have hs : 0 ≤ g.sc ∧ g.sc ≤ 100 := by simpa [inR'] using g1
 have hga : 0 ≤ g.ga ∧ g.ga ≤ 100 := by simpa [inR'] using g2
 have k1 := mul_small hkr hs
 have k2 := mul_small hkr hga
 have hb1 := farR_small ha.w hb.w
 have hc1 : ∀ i, i < n → 0 ≤ farR (a.2.getD i default) (b.2.getD i default) ∧ farR (a.2.getD i default) (b.2.getD i default) ≤ 1000000 := fun i hi => farR_small (ha.c _ (getD_mem (by omega))) (hb.c _ (getD_mem (by omega)))
 have h0 : alTo g a b k 0 = decide (farR a.1 b.1 + k * g.sc ≤ g.we) := by simp [alTo]
 have hstep := alTo_succ g a b k
 have hend := alTo_all g a b k
 rw [a2] at hend
 generalize farR a.1 b.1 = fw at *
 generalize alTo g a b k = AL at *
 generalize k * g.sc = ks at *
 generalize k * g.ga = kg at *
 refine fn_enter Tryd.func63 rfl (by decide) Tryd.results63 Tryd.ntmps63 ?_ rfl (by simp (maxSteps := 1000000) -implicitDefEqProofs (disch := omega) only [go_sem]; rfl) fun base => ?_
 · first | assumption | (simp only [go_sem] <;> assumption) | (simp only [go_sem, *]; done) | (simp [go_sem]; done)
 repeat' (first
   | (with_reducible apply Req_intro); focus (first | omega | assumption | (simp; done))
   | with_reducible (first | apply Req_intro | refine nilT ?_ fun hn => ?_ | apply wk_draw Tryd_mixed | refine drawEnd (by kernel_rfl) ?_)
   | (with_reducible (first | apply condA_if | apply stepDG_ifN | apply stepDG_if | apply stepG_ifN | apply stepG_if)) <;> intro hb <;> (have hif := hb) <;> (try simp only [bo] at hif) <;> (try simp -implicitDefEqProofs (disch := omega) only [go_sem, hb]) <;> clear hb
   | simp (maxSteps := 1000000) -implicitDefEqProofs (disch := omega) only [go_sem])
 refine calld hw ?_
 try simp (maxSteps := 1000000) -implicitDefEqProofs (disch := omega) only [go_sem]
 repeat' (first
   | (with_reducible apply Req_intro); focus (first | omega | assumption | (simp; done))
   | with_reducible (first | apply Req_intro | refine nilT ?_ fun hn => ?_ | apply wk_draw Tryd_mixed | refine drawEnd (by kernel_rfl) ?_)
   | (with_reducible (first | apply condA_if | apply stepDG_ifN | apply stepDG_if | apply stepG_ifN | apply stepG_if)) <;> intro hb <;> (have hif := hb) <;> (try simp only [bo] at hif) <;> (try simp -implicitDefEqProofs (disch := omega) only [go_sem, hb]) <;> clear hb
   | simp (maxSteps := 1000000) -implicitDefEqProofs (disch := omega) only [go_sem])
 refine loop_at (α := Nat) [11, 12, 23, 24, 25, 26, 27, 28, 29, 30, 31, 32, 33, 34, 35, 36, 37, 38, 39, 40, 41, 42, 43, 44, 45, 46, 47, 48] (fun i => [(12, .lit (.int .i64 i)), (11, .lit (.bool (AL i)))]) (fun i => i ≤ n) (fun i => n - i) 0 (fun x => by simp (maxSteps := 1000000) -implicitDefEqProofs (disch := omega) only [go_sem]; rfl) ?_ ?_ fun x hx => ?_
 · rw [h0]
   exact weak_do []
 · exact Nat.zero_le _
 by_cases hlt : x < n
 · have hcx := hc x hlt
   have hcb := hc1 x hlt
   have hsx := hstep x
   generalize farR (a.2.getD x default) (b.2.getD x default) = fx at *
   cases hal : AL x with
   | true =>
     rw [hal, Bool.true_and] at hsx
     repeat' (first
       | (with_reducible apply Req_intro); focus (first | omega | assumption | (simp; done))
       | with_reducible (first | apply Req_intro | refine nilT ?_ fun hn => ?_ | apply wk_draw Tryd_mixed | refine drawEnd (by kernel_rfl) ?_)
       | (with_reducible (first | apply condA_if | apply stepDG_ifN | apply stepDG_if | apply stepG_ifN | apply stepG_if)) <;> intro hb <;> (have hif := hb) <;> (try simp only [bo] at hif) <;> (try simp -implicitDefEqProofs (disch := omega) only [go_sem, hb]) <;> clear hb
       | simp (maxSteps := 1000000) -implicitDefEqProofs (disch := omega) only [go_sem])
     all_goals first | exact absurd ‹false = true› (by decide) | exact absurd ‹true = false› (by decide) | (exfalso; omega) | omega | skip
     refine calld hcx ?_
     try simp (maxSteps := 1000000) -implicitDefEqProofs (disch := omega) only [go_sem]
     repeat' (first
       | (with_reducible apply Req_intro); focus (first | omega | assumption | (simp; done))
       | with_reducible (first | apply Req_intro | refine nilT ?_ fun hn => ?_ | apply wk_draw Tryd_mixed | refine drawEnd (by kernel_rfl) ?_)
       | (with_reducible (first | apply condA_if | apply stepDG_ifN | apply stepDG_if | apply stepG_ifN | apply stepG_if)) <;> intro hb <;> (have hif := hb) <;> (try simp only [bo] at hif) <;> (try simp -implicitDefEqProofs (disch := omega) only [go_sem, hb]) <;> clear hb
       | simp (maxSteps := 1000000) -implicitDefEqProofs (disch := omega) only [go_sem])
     with_reducible refine nxt_w (x + 1) ?_ ?_
     · (try dsimp only)
       rw [hsx]
       exact weak_do []
     try dsimp only
     omega
   | false =>
     rw [hal, Bool.false_and] at hsx
     repeat' (first
       | (with_reducible apply Req_intro); focus (first | omega | assumption | (simp; done))
       | with_reducible (first | apply Req_intro | refine nilT ?_ fun hn => ?_ | apply wk_draw Tryd_mixed | refine drawEnd (by kernel_rfl) ?_)
       | (with_reducible (first | apply condA_if | apply stepDG_ifN | apply stepDG_if | apply stepG_ifN | apply stepG_if)) <;> intro hb <;> (have hif := hb) <;> (try simp only [bo] at hif) <;> (try simp -implicitDefEqProofs (disch := omega) only [go_sem, hb]) <;> clear hb
       | simp (maxSteps := 1000000) -implicitDefEqProofs (disch := omega) only [go_sem])
     all_goals first | exact absurd ‹false = true› (by decide) | exact absurd ‹true = false› (by decide) | (exfalso; omega) | omega | skip
     with_reducible refine nxt_w (x + 1) ?_ ?_
     · (try dsimp only)
       rw [hsx]
       exact weak_do []
     try dsimp only
     omega
 · obtain rfl : x = n := by omega
   rw [hend]
   repeat' (first
     | (with_reducible apply Req_intro); focus (first | omega | assumption | (simp; done))
     | with_reducible (first | apply Req_intro | refine nilT ?_ fun hn => ?_ | apply wk_draw Tryd_mixed | refine drawEnd (by kernel_rfl) ?_)
     | (with_reducible (first | apply condA_if | apply stepDG_ifN | apply stepDG_if | apply stepG_ifN | apply stepG_if)) <;> intro hb <;> (have hif := hb) <;> (try simp only [bo] at hif) <;> (try simp -implicitDefEqProofs (disch := omega) only [go_sem, hb]) <;> clear hb
     | simp (maxSteps := 1000000) -implicitDefEqProofs (disch := omega) only [go_sem])
   all_goals first | exact absurd ‹false = true› (by decide) | exact absurd ‹true = false› (by decide) | (exfalso; omega) | omega | skip
   refine ret_do ?_
   rfl
theorem rSurely_spec (g : Gau) (a b : Grd) (n : Nat) (hn : n ≤ 4) (hg : GauOk g) (ha : GrdOk n a) (hb : GrdOk n b) : Ct Tryd.prog 21 [.agg (encGd a), .agg (encGd b), encGa g] (.lit (.bool (alikeR g a b 2))) := by
 have h := rAlike_spec g a b 2 n hn hg ha hb (by decide)
 have g1 := hg.sc
 have g2 := hg.ga
 simp only [inR', Bool.and_eq_true, decide_eq_true_eq] at g1 g2
 refine fn_enter Tryd.func21 rfl (by decide) Tryd.results21 Tryd.ntmps21 ?_ rfl (by simp (maxSteps := 1000000) -implicitDefEqProofs (disch := omega) only [go_sem]; rfl) fun base => ?_
 · first | assumption | (simp only [go_sem] <;> assumption) | (simp only [go_sem, *]; done) | (simp [go_sem]; done)
 repeat' (first
   | (with_reducible apply Req_intro); focus (first | omega | assumption | (simp; done))
   | with_reducible (first | apply Req_intro | refine nilT ?_ fun hn => ?_ | apply wk_draw Tryd_mixed | refine drawEnd (by kernel_rfl) ?_)
   | (with_reducible (first | apply condA_if | apply stepDG_ifN | apply stepDG_if | apply stepG_ifN | apply stepG_if)) <;> intro hb <;> (have hif := hb) <;> (try simp only [bo] at hif) <;> (try simp -implicitDefEqProofs (disch := omega) only [go_sem, hb]) <;> clear hb
   | simp (maxSteps := 1000000) -implicitDefEqProofs (disch := omega) only [go_sem])
 refine callp h ?_
 try simp (maxSteps := 1000000) -implicitDefEqProofs (disch := omega) only [go_sem]
 repeat' (first
   | (with_reducible apply Req_intro); focus (first | omega | assumption | (simp; done))
   | with_reducible (first | apply Req_intro | refine nilT ?_ fun hn => ?_ | apply wk_draw Tryd_mixed | refine drawEnd (by kernel_rfl) ?_)
   | (with_reducible (first | apply condA_if | apply stepDG_ifN | apply stepDG_if | apply stepG_ifN | apply stepG_if)) <;> intro hb <;> (have hif := hb) <;> (try simp only [bo] at hif) <;> (try simp -implicitDefEqProofs (disch := omega) only [go_sem, hb]) <;> clear hb
   | simp (maxSteps := 1000000) -implicitDefEqProofs (disch := omega) only [go_sem])
 refine ret_do ?_
 rfl
theorem rGauge_spec (g : Gau) : Ct Tryd.prog 20 [encGa g] (.lit (.bool (gaugeR g))) := by
 refine fn_enter Tryd.func20 rfl (by decide) Tryd.results20 Tryd.ntmps20 ?_ rfl (by simp (maxSteps := 1000000) -implicitDefEqProofs (disch := omega) only [go_sem]; rfl) fun base => ?_
 · first | assumption | (simp only [go_sem] <;> assumption) | (simp only [go_sem, *]; done) | (simp [go_sem]; done)
 repeat' (first
   | (with_reducible apply Req_intro); focus (first | omega | assumption | (simp; done))
   | with_reducible (first | apply Req_intro | refine nilT ?_ fun hn => ?_ | apply wk_draw Tryd_mixed | refine drawEnd (by kernel_rfl) ?_)
   | (with_reducible (first | apply condA_if | apply stepDG_ifN | apply stepDG_if | apply stepG_ifN | apply stepG_if)) <;> intro hb <;> (have hif := hb) <;> (try simp only [bo] at hif) <;> (try simp -implicitDefEqProofs (disch := omega) only [go_sem, hb]) <;> clear hb
   | simp (maxSteps := 1000000) -implicitDefEqProofs (disch := omega) only [go_sem])
 all_goals first | exact absurd ‹false = true› (by decide) | exact absurd ‹true = false› (by decide) | (exfalso; omega) | omega | skip
 refine callp (gIn_spec g.sc 0 100) ?_
 try simp (maxSteps := 1000000) -implicitDefEqProofs (disch := omega) only [go_sem]
 unfold gaugeR
 cases h1 : inR' 0 100 g.sc with
 | false =>
   repeat' (first
     | (with_reducible apply Req_intro); focus (first | omega | assumption | (simp; done))
     | with_reducible (first | apply Req_intro | refine nilT ?_ fun hn => ?_ | apply wk_draw Tryd_mixed | refine drawEnd (by kernel_rfl) ?_)
     | (with_reducible (first | apply condA_if | apply stepDG_ifN | apply stepDG_if | apply stepG_ifN | apply stepG_if)) <;> intro hb <;> (have hif := hb) <;> (try simp only [bo] at hif) <;> (try simp -implicitDefEqProofs (disch := omega) only [go_sem, hb]) <;> clear hb
     | simp (maxSteps := 1000000) -implicitDefEqProofs (disch := omega) only [go_sem])
   all_goals first | exact absurd ‹false = true› (by decide) | exact absurd ‹true = false› (by decide) | (exfalso; omega) | omega | skip
   refine ret_do ?_
   rfl
 | true =>
   repeat' (first
     | (with_reducible apply Req_intro); focus (first | omega | assumption | (simp; done))
     | with_reducible (first | apply Req_intro | refine nilT ?_ fun hn => ?_ | apply wk_draw Tryd_mixed | refine drawEnd (by kernel_rfl) ?_)
     | (with_reducible (first | apply condA_if | apply stepDG_ifN | apply stepDG_if | apply stepG_ifN | apply stepG_if)) <;> intro hb <;> (have hif := hb) <;> (try simp only [bo] at hif) <;> (try simp -implicitDefEqProofs (disch := omega) only [go_sem, hb]) <;> clear hb
     | simp (maxSteps := 1000000) -implicitDefEqProofs (disch := omega) only [go_sem])
   all_goals first | exact absurd ‹false = true› (by decide) | exact absurd ‹true = false› (by decide) | (exfalso; omega) | omega | skip
   refine callp (gIn_spec g.ga 0 100) ?_
   try simp (maxSteps := 1000000) -implicitDefEqProofs (disch := omega) only [go_sem]
   cases h2 : inR' 0 100 g.ga with
   | false =>
     repeat' (first
       | (with_reducible apply Req_intro); focus (first | omega | assumption | (simp; done))
       | with_reducible (first | apply Req_intro | refine nilT ?_ fun hn => ?_ | apply wk_draw Tryd_mixed | refine drawEnd (by kernel_rfl) ?_)
       | (with_reducible (first | apply condA_if | apply stepDG_ifN | apply stepDG_if | apply stepG_ifN | apply stepG_if)) <;> intro hb <;> (have hif := hb) <;> (try simp only [bo] at hif) <;> (try simp -implicitDefEqProofs (disch := omega) only [go_sem, hb]) <;> clear hb
       | simp (maxSteps := 1000000) -implicitDefEqProofs (disch := omega) only [go_sem])
     all_goals first | exact absurd ‹false = true› (by decide) | exact absurd ‹true = false› (by decide) | (exfalso; omega) | omega | skip
     refine ret_do ?_
     rfl
   | true =>
     repeat' (first
       | (with_reducible apply Req_intro); focus (first | omega | assumption | (simp; done))
       | with_reducible (first | apply Req_intro | refine nilT ?_ fun hn => ?_ | apply wk_draw Tryd_mixed | refine drawEnd (by kernel_rfl) ?_)
       | (with_reducible (first | apply condA_if | apply stepDG_ifN | apply stepDG_if | apply stepG_ifN | apply stepG_if)) <;> intro hb <;> (have hif := hb) <;> (try simp only [bo] at hif) <;> (try simp -implicitDefEqProofs (disch := omega) only [go_sem, hb]) <;> clear hb
       | simp (maxSteps := 1000000) -implicitDefEqProofs (disch := omega) only [go_sem])
     all_goals first | exact absurd ‹false = true› (by decide) | exact absurd ‹true = false› (by decide) | (exfalso; omega) | omega | skip
     refine callp (gIn_spec g.we 0 10000) ?_
     try simp (maxSteps := 1000000) -implicitDefEqProofs (disch := omega) only [go_sem]
     cases h3 : inR' 0 10000 g.we with
     | false =>
       repeat' (first
         | (with_reducible apply Req_intro); focus (first | omega | assumption | (simp; done))
         | with_reducible (first | apply Req_intro | refine nilT ?_ fun hn => ?_ | apply wk_draw Tryd_mixed | refine drawEnd (by kernel_rfl) ?_)
         | (with_reducible (first | apply condA_if | apply stepDG_ifN | apply stepDG_if | apply stepG_ifN | apply stepG_if)) <;> intro hb <;> (have hif := hb) <;> (try simp only [bo] at hif) <;> (try simp -implicitDefEqProofs (disch := omega) only [go_sem, hb]) <;> clear hb
         | simp (maxSteps := 1000000) -implicitDefEqProofs (disch := omega) only [go_sem])
       all_goals first | exact absurd ‹false = true› (by decide) | exact absurd ‹true = false› (by decide) | (exfalso; omega) | omega | skip
       refine ret_do ?_
       rfl
     | true =>
       repeat' (first
         | (with_reducible apply Req_intro); focus (first | omega | assumption | (simp; done))
         | with_reducible (first | apply Req_intro | refine nilT ?_ fun hn => ?_ | apply wk_draw Tryd_mixed | refine drawEnd (by kernel_rfl) ?_)
         | (with_reducible (first | apply condA_if | apply stepDG_ifN | apply stepDG_if | apply stepG_ifN | apply stepG_if)) <;> intro hb <;> (have hif := hb) <;> (try simp only [bo] at hif) <;> (try simp -implicitDefEqProofs (disch := omega) only [go_sem, hb]) <;> clear hb
         | simp (maxSteps := 1000000) -implicitDefEqProofs (disch := omega) only [go_sem])
       all_goals first | exact absurd ‹false = true› (by decide) | exact absurd ‹true = false› (by decide) | (exfalso; omega) | omega | skip
       refine callp (gIn_spec g.cu 0 500) ?_
       try simp (maxSteps := 1000000) -implicitDefEqProofs (disch := omega) only [go_sem]
       repeat' (first
         | (with_reducible apply Req_intro); focus (first | omega | assumption | (simp; done))
         | with_reducible (first | apply Req_intro | refine nilT ?_ fun hn => ?_ | apply wk_draw Tryd_mixed | refine drawEnd (by kernel_rfl) ?_)
         | (with_reducible (first | apply condA_if | apply stepDG_ifN | apply stepDG_if | apply stepG_ifN | apply stepG_if)) <;> intro hb <;> (have hif := hb) <;> (try simp only [bo] at hif) <;> (try simp -implicitDefEqProofs (disch := omega) only [go_sem, hb]) <;> clear hb
         | simp (maxSteps := 1000000) -implicitDefEqProofs (disch := omega) only [go_sem])
       all_goals first | exact absurd ‹false = true› (by decide) | exact absurd ‹true = false› (by decide) | (exfalso; omega) | omega | skip
       refine ret_do ?_
       rfl
def formR (l : List Grd) : Int := if l.any (otherR l) then 4 else if l.any noneR then 2 else 0
theorem form_chk (g : Gau) (l : List Grd) : chkR g l = if formR l = 0 then (if gaugeR g then 0 else 3) else formR l := by
 unfold chkR formR
 split
 · rfl
 · split
   · rfl
   · rfl
theorem rForm_spec (l : List Grd) (e : Bool) (hl : l.length ≤ 4611686018427387904) (hlc : ∀ x ∈ l, x.2.length ≤ 4611686018427387904) : Ct Tryd.prog 19 [.sl 2 (l.map encGd) e] (int (formR l)) := by
 refine fn_enter Tryd.func19 rfl (by decide) Tryd.results19 Tryd.ntmps19 ?_ rfl (by simp (maxSteps := 1000000) -implicitDefEqProofs (disch := omega) only [go_sem]; rfl) fun base => ?_
 · first | assumption | (simp only [go_sem] <;> assumption) | (simp only [go_sem, *]; done) | (simp [go_sem]; done)
 repeat' (first
   | (with_reducible apply Req_intro); focus (first | omega | assumption | (simp; done))
   | with_reducible (first | apply Req_intro | refine nilT ?_ fun hn => ?_ | apply wk_draw Tryd_mixed | refine drawEnd (by kernel_rfl) ?_)
   | (with_reducible (first | apply condA_if | apply stepDG_ifN | apply stepDG_if | apply stepG_ifN | apply stepG_if)) <;> intro hb <;> (have hif := hb) <;> (try simp only [bo] at hif) <;> (try simp -implicitDefEqProofs (disch := omega) only [go_sem, hb]) <;> clear hb
   | simp (maxSteps := 1000000) -implicitDefEqProofs (disch := omega) only [go_sem])
 refine loop_at (α := Nat) [2, 3, 6, 7, 8, 9, 10, 11, 12, 13, 14, 15, 16, 17, 18, 19, 20, 21, 22, 23, 24, 25, 26, 27, 28, 29, 30, 31, 32, 33] (fun i => [(3, .lit (.int .i64 i))]) (fun i => i ≤ l.length ∧ ∀ j, j < i → otherR l (l.getD j default) = false) (fun i => l.length - i) 0 (fun x => by simp (maxSteps := 1000000) -implicitDefEqProofs (disch := omega) only [go_sem]; rfl) ?_ ?_ fun x hx => ?_
 · exact weak_do []
 · exact ⟨Nat.zero_le _, fun j hj => absurd hj (Nat.not_lt_zero _)⟩
 obtain ⟨hi, hp⟩ := hx
 by_cases hlt : x < l.length
 · have hcl := hlc _ (getD_mem hlt)
   have hc0 := hlc _ (getD_mem (show 0 < l.length by omega))
   have hbad : otherR l (l.getD x default) = true → formR l = 4 := fun h => by
     rw [formR, if_pos (List.any_eq_true.2 ⟨_, getD_mem hlt, h⟩)]
   have hot : otherR l (l.getD x default) = (!inR' 1 4 (l.getD x default).2.length || (((l.getD x default).2.length : Int) != ((l.getD 0 default).2.length : Int))) := rfl
   rw [hot] at hbad
   repeat' (first
     | (with_reducible apply Req_intro); focus (first | omega | assumption | (simp; done))
     | with_reducible (first | apply Req_intro | refine nilT ?_ fun hn => ?_ | apply wk_draw Tryd_mixed | refine drawEnd (by kernel_rfl) ?_)
     | (with_reducible (first | apply condA_if | apply stepDG_ifN | apply stepDG_if | apply stepG_ifN | apply stepG_if)) <;> intro hb <;> (have hif := hb) <;> (try simp only [bo] at hif) <;> (try simp -implicitDefEqProofs (disch := omega) only [go_sem, hb]) <;> clear hb
     | simp (maxSteps := 1000000) -implicitDefEqProofs (disch := omega) only [go_sem])
   all_goals first | exact absurd ‹false = true› (by decide) | exact absurd ‹true = false› (by decide) | (exfalso; omega) | omega | skip
   refine calld (gIn_spec _ 1 4) ?_
   try simp (maxSteps := 1000000) -implicitDefEqProofs (disch := omega) only [go_sem]
   cases h1 : inR' 1 4 ((l.getD x default).2.length : Int) with
   | false =>
     repeat' (first
       | (with_reducible apply Req_intro); focus (first | omega | assumption | (simp; done))
       | with_reducible (first | apply Req_intro | refine nilT ?_ fun hn => ?_ | apply wk_draw Tryd_mixed | refine drawEnd (by kernel_rfl) ?_)
       | (with_reducible (first | apply condA_if | apply stepDG_ifN | apply stepDG_if | apply stepG_ifN | apply stepG_if)) <;> intro hb <;> (have hif := hb) <;> (try simp only [bo] at hif) <;> (try simp -implicitDefEqProofs (disch := omega) only [go_sem, hb]) <;> clear hb
       | simp (maxSteps := 1000000) -implicitDefEqProofs (disch := omega) only [go_sem])
     all_goals first | exact absurd ‹false = true› (by decide) | exact absurd ‹true = false› (by decide) | (exfalso; omega) | omega | skip
     refine ret_do ?_
     rw [hbad (by rw [h1]; rfl)]; rfl
   | true =>
     repeat' (first
       | (with_reducible apply Req_intro); focus (first | omega | assumption | (simp; done))
       | with_reducible (first | apply Req_intro | refine nilT ?_ fun hn => ?_ | apply wk_draw Tryd_mixed | refine drawEnd (by kernel_rfl) ?_)
       | (with_reducible (first | apply condA_if | apply stepDG_ifN | apply stepDG_if | apply stepG_ifN | apply stepG_if)) <;> intro hb <;> (have hif := hb) <;> (try simp only [bo] at hif) <;> (try simp -implicitDefEqProofs (disch := omega) only [go_sem, hb]) <;> clear hb
       | simp (maxSteps := 1000000) -implicitDefEqProofs (disch := omega) only [go_sem])
     all_goals first | exact absurd ‹false = true› (by decide) | exact absurd ‹true = false› (by decide) | (exfalso; omega) | omega | skip
     · refine ret_do ?_
       rw [hbad (by rw [h1, bne_iff_ne.2 (by omega)]; rfl)]; rfl
     · refine nxt_w (x + 1) (weak_do []) ?_
       try dsimp only
       refine ⟨by omega, fun j hj => ?_⟩
       rcases Nat.lt_succ_iff_lt_or_eq.1 hj with h | rfl
       · exact hp j h
       · rw [hot, h1, Bool.not_true, Bool.false_or, bne_eq_false_iff_eq]; omega
 · obtain rfl : x = l.length := by omega
   clear hlt
   have hno : ¬ l.any (otherR l) = true := by
     rw [List.any_eq_true]
     rintro ⟨y, hy, hh⟩
     obtain ⟨j, hj, rfl⟩ := List.getElem_of_mem hy
     have := hp j hj
     rw [getD_default hj] at this
     rw [this] at hh; cases hh
   clear hp
   have hf : formR l = if l.any noneR then 2 else 0 := by rw [formR, if_neg hno]
   repeat' (first
     | (with_reducible apply Req_intro); focus (first | omega | assumption | (simp; done))
     | with_reducible (first | apply Req_intro | refine nilT ?_ fun hn => ?_ | apply wk_draw Tryd_mixed | refine drawEnd (by kernel_rfl) ?_)
     | (with_reducible (first | apply condA_if | apply stepDG_ifN | apply stepDG_if | apply stepG_ifN | apply stepG_if)) <;> intro hb <;> (have hif := hb) <;> (try simp only [bo] at hif) <;> (try simp -implicitDefEqProofs (disch := omega) only [go_sem, hb]) <;> clear hb
     | simp (maxSteps := 1000000) -implicitDefEqProofs (disch := omega) only [go_sem])
   all_goals first | exact absurd ‹false = true› (by decide) | exact absurd ‹true = false› (by decide) | (exfalso; omega) | omega | skip
   refine loop_at (α := Nat) [2, 4, 5, 34, 35, 36, 37, 38, 39, 40, 41, 42, 43, 44, 45, 46, 47, 48, 49, 50, 51, 52, 53, 54, 55, 56, 57, 58, 59, 60, 61, 62, 63, 64, 65, 66] (fun i => [(4, .lit (.int .i64 i))]) (fun i => i ≤ l.length ∧ ∀ j, j < i → noneR (l.getD j default) = false) (fun i => l.length - i) 0 (fun x => by simp (maxSteps := 1000000) -implicitDefEqProofs (disch := omega) only [go_sem]; rfl) ?_ ?_ fun x hx => ?_
   · exact weak_do []
   · exact ⟨Nat.zero_le _, fun j hj => absurd hj (Nat.not_lt_zero _)⟩
   obtain ⟨hi, hp⟩ := hx
   rename Nat => ox
   by_cases hlt : ox < l.length
   · have hcl := hlc _ (getD_mem hlt)
     have hbad : noneR (l.getD ox default) = true → formR l = 2 := fun h => by
       rw [hf, if_pos (List.any_eq_true.2 ⟨_, getD_mem hlt, h⟩)]
     have hnn : noneR (l.getD ox default) = (!inR' 1 10000 (l.getD ox default).1 || !(l.getD ox default).2.all (inR' 0 500)) := rfl
     rw [hnn] at hbad
     repeat' (first
       | (with_reducible apply Req_intro); focus (first | omega | assumption | (simp; done))
       | with_reducible (first | apply Req_intro | refine nilT ?_ fun hn => ?_ | apply wk_draw Tryd_mixed | refine drawEnd (by kernel_rfl) ?_)
       | (with_reducible (first | apply condA_if | apply stepDG_ifN | apply stepDG_if | apply stepG_ifN | apply stepG_if)) <;> intro hb <;> (have hif := hb) <;> (try simp only [bo] at hif) <;> (try simp -implicitDefEqProofs (disch := omega) only [go_sem, hb]) <;> clear hb
       | simp (maxSteps := 1000000) -implicitDefEqProofs (disch := omega) only [go_sem])
     all_goals first | exact absurd ‹false = true› (by decide) | exact absurd ‹true = false› (by decide) | (exfalso; omega) | omega | skip
     refine callp (gIn_spec _ 1 10000) ?_
     try simp (maxSteps := 1000000) -implicitDefEqProofs (disch := omega) only [go_sem]
     cases h1 : inR' 1 10000 (l.getD ox default).1 with
     | false =>
       repeat' (first
         | (with_reducible apply Req_intro); focus (first | omega | assumption | (simp; done))
         | with_reducible (first | apply Req_intro | refine nilT ?_ fun hn => ?_ | apply wk_draw Tryd_mixed | refine drawEnd (by kernel_rfl) ?_)
         | (with_reducible (first | apply condA_if | apply stepDG_ifN | apply stepDG_if | apply stepG_ifN | apply stepG_if)) <;> intro hb <;> (have hif := hb) <;> (try simp only [bo] at hif) <;> (try simp -implicitDefEqProofs (disch := omega) only [go_sem, hb]) <;> clear hb
         | simp (maxSteps := 1000000) -implicitDefEqProofs (disch := omega) only [go_sem])
       all_goals first | exact absurd ‹false = true› (by decide) | exact absurd ‹true = false› (by decide) | (exfalso; omega) | omega | skip
       refine ret_do ?_
       rw [hbad (by rw [h1]; rfl)]; rfl
     | true =>
       repeat' (first
         | (with_reducible apply Req_intro); focus (first | omega | assumption | (simp; done))
         | with_reducible (first | apply Req_intro | refine nilT ?_ fun hn => ?_ | apply wk_draw Tryd_mixed | refine drawEnd (by kernel_rfl) ?_)
         | (with_reducible (first | apply condA_if | apply stepDG_ifN | apply stepDG_if | apply stepG_ifN | apply stepG_if)) <;> intro hb <;> (have hif := hb) <;> (try simp only [bo] at hif) <;> (try simp -implicitDefEqProofs (disch := omega) only [go_sem, hb]) <;> clear hb
         | simp (maxSteps := 1000000) -implicitDefEqProofs (disch := omega) only [go_sem])
       all_goals first | exact absurd ‹false = true› (by decide) | exact absurd ‹true = false› (by decide) | (exfalso; omega) | omega | skip
       refine loop_at (α := Nat) [2, 5, 47, 48, 49, 50, 51, 52, 53, 54, 55, 56, 57, 58, 59, 60, 61, 62, 63, 64, 65, 66] (fun i => [(5, .lit (.int .i64 i))]) (fun i => i ≤ (l.getD ox default).2.length ∧ ∀ j, j < i → inR' 0 500 ((l.getD ox default).2.getD j default) = true) (fun i => (l.getD ox default).2.length - i) 0 (fun x => by simp (maxSteps := 1000000) -implicitDefEqProofs (disch := omega) only [go_sem]; rfl) ?_ ?_ fun x hx => ?_
       · exact weak_do []
       · exact ⟨Nat.zero_le _, fun j hj => absurd hj (Nat.not_lt_zero _)⟩
       obtain ⟨hi2, hp2⟩ := hx
       by_cases hlt2 : x < (l.getD ox default).2.length
       · repeat' (first
           | (with_reducible apply Req_intro); focus (first | omega | assumption | (simp; done))
           | with_reducible (first | apply Req_intro | refine nilT ?_ fun hn => ?_ | apply wk_draw Tryd_mixed | refine drawEnd (by kernel_rfl) ?_)
           | (with_reducible (first | apply condA_if | apply stepDG_ifN | apply stepDG_if | apply stepG_ifN | apply stepG_if)) <;> intro hb <;> (have hif := hb) <;> (try simp only [bo] at hif) <;> (try simp -implicitDefEqProofs (disch := omega) only [go_sem, hb]) <;> clear hb
           | simp (maxSteps := 1000000) -implicitDefEqProofs (disch := omega) only [go_sem])
         all_goals first | exact absurd ‹false = true› (by decide) | exact absurd ‹true = false› (by decide) | (exfalso; omega) | omega | skip
         refine callp (gIn_spec _ 0 500) ?_
         try simp (maxSteps := 1000000) -implicitDefEqProofs (disch := omega) only [go_sem]
         cases h2 : inR' 0 500 ((l.getD ox default).2.getD x default) with
         | false =>
           repeat' (first
             | (with_reducible apply Req_intro); focus (first | omega | assumption | (simp; done))
             | with_reducible (first | apply Req_intro | refine nilT ?_ fun hn => ?_ | apply wk_draw Tryd_mixed | refine drawEnd (by kernel_rfl) ?_)
             | (with_reducible (first | apply condA_if | apply stepDG_ifN | apply stepDG_if | apply stepG_ifN | apply stepG_if)) <;> intro hb <;> (have hif := hb) <;> (try simp only [bo] at hif) <;> (try simp -implicitDefEqProofs (disch := omega) only [go_sem, hb]) <;> clear hb
             | simp (maxSteps := 1000000) -implicitDefEqProofs (disch := omega) only [go_sem])
           all_goals first | exact absurd ‹false = true› (by decide) | exact absurd ‹true = false› (by decide) | (exfalso; omega) | omega | skip
           refine ret_do ?_
           rw [hbad (by
             rw [h1, Bool.not_true, Bool.false_or, Bool.not_eq_true', List.all_eq_false]
             exact ⟨_, getD_mem hlt2, by rw [h2]; decide⟩)]; rfl
         | true =>
           repeat' (first
             | (with_reducible apply Req_intro); focus (first | omega | assumption | (simp; done))
             | with_reducible (first | apply Req_intro | refine nilT ?_ fun hn => ?_ | apply wk_draw Tryd_mixed | refine drawEnd (by kernel_rfl) ?_)
             | (with_reducible (first | apply condA_if | apply stepDG_ifN | apply stepDG_if | apply stepG_ifN | apply stepG_if)) <;> intro hb <;> (have hif := hb) <;> (try simp only [bo] at hif) <;> (try simp -implicitDefEqProofs (disch := omega) only [go_sem, hb]) <;> clear hb
             | simp (maxSteps := 1000000) -implicitDefEqProofs (disch := omega) only [go_sem])
           all_goals first | exact absurd ‹false = true› (by decide) | exact absurd ‹true = false› (by decide) | (exfalso; omega) | omega | skip
           refine nxt_w (x + 1) (weak_do []) ?_
           try dsimp only
           refine ⟨by omega, fun j hj => ?_⟩
           rcases Nat.lt_succ_iff_lt_or_eq.1 hj with h | rfl
           · exact hp2 j h
           · exact h2
       · repeat' (first
           | (with_reducible apply Req_intro); focus (first | omega | assumption | (simp; done))
           | with_reducible (first | apply Req_intro | refine nilT ?_ fun hn => ?_ | apply wk_draw Tryd_mixed | refine drawEnd (by kernel_rfl) ?_)
           | (with_reducible (first | apply condA_if | apply stepDG_ifN | apply stepDG_if | apply stepG_ifN | apply stepG_if)) <;> intro hb <;> (have hif := hb) <;> (try simp only [bo] at hif) <;> (try simp -implicitDefEqProofs (disch := omega) only [go_sem, hb]) <;> clear hb
           | simp (maxSteps := 1000000) -implicitDefEqProofs (disch := omega) only [go_sem])
         all_goals first | exact absurd ‹false = true› (by decide) | exact absurd ‹true = false› (by decide) | (exfalso; omega) | omega | skip
         refine nxt_w (ox + 1) (weak_do []) ?_
         try dsimp only
         refine ⟨by omega, fun j hj => ?_⟩
         rcases Nat.lt_succ_iff_lt_or_eq.1 hj with h | rfl
         · exact hp j h
         · rw [hnn, h1, Bool.not_true, Bool.false_or, Bool.not_eq_false', List.all_eq_true]
           intro v hv
           obtain ⟨q, hq, rfl⟩ := List.getElem_of_mem hv
           have := hp2 q (by omega)
           rwa [getD_default hq] at this
   · obtain rfl : ox = l.length := by omega
     have hno2 : ¬ l.any noneR = true := by
       rw [List.any_eq_true]
       rintro ⟨y, hy, hh⟩
       obtain ⟨j, hj, rfl⟩ := List.getElem_of_mem hy
       have := hp j hj
       rw [getD_default hj] at this
       rw [this] at hh; cases hh
     repeat' (first
       | (with_reducible apply Req_intro); focus (first | omega | assumption | (simp; done))
       | with_reducible (first | apply Req_intro | refine nilT ?_ fun hn => ?_ | apply wk_draw Tryd_mixed | refine drawEnd (by kernel_rfl) ?_)
       | (with_reducible (first | apply condA_if | apply stepDG_ifN | apply stepDG_if | apply stepG_ifN | apply stepG_if)) <;> intro hb <;> (have hif := hb) <;> (try simp only [bo] at hif) <;> (try simp -implicitDefEqProofs (disch := omega) only [go_sem, hb]) <;> clear hb
       | simp (maxSteps := 1000000) -implicitDefEqProofs (disch := omega) only [go_sem])
     all_goals first | exact absurd ‹false = true› (by decide) | exact absurd ‹true = false› (by decide) | (exfalso; omega) | omega | skip
     refine ret_do ?_
     rw [hf, if_neg hno2]; rfl
end Go.Aw
end
section
set_option maxRecDepth 20000
set_option maxHeartbeats 4000000
namespace Go.Aw
open Go.RowKit Go.Proofs
@[go_sem] theorem take_cat_gd (ls rs : List Grd) (n : Nat) (h : ls.length + rs.length = n) : List.take n (ls.map encGd ++ rs.map encGd) = ls.map encGd ++ rs.map encGd := List.take_of_length_le (by simp; omega)
theorem rCheck_spec (g : Gau) (ls rs : List Grd) (e1 e2 : Bool) (hs : StOk ls rs) : Ct Tryd.prog 28 [encSt ls rs e1 e2, encGa g] (int (checkS g ls rs)) := by
 obtain ⟨h1, h2, h3, h4⟩ := hs
 have hf := rForm_spec (ls ++ rs) false (by rw [List.length_append]; omega) (fun x hx => by
   rcases List.mem_append.1 hx with h | h
   · have := h3 x h; omega
   · have := h4 x h; omega)
 have hch := form_chk g (ls ++ rs)
 have hck : checkS g ls rs = if 8 < ls.length ∨ 8 < rs.length then 5 else chkR g (ls ++ rs) := rfl
 rw [List.map_append] at hf
 generalize formR (ls ++ rs) = fm at *
 refine fn_enter Tryd.func28 rfl (by decide) Tryd.results28 Tryd.ntmps28 ?_ rfl (by simp (maxSteps := 1000000) -implicitDefEqProofs (disch := omega) only [go_sem]; rfl) fun base => ?_
 · first | assumption | (simp only [go_sem] <;> assumption) | (simp only [go_sem, *]; done) | (simp [go_sem]; done)
 repeat' (first
   | (with_reducible apply Req_intro); focus (first | omega | assumption | (simp; done))
   | with_reducible (first | apply Req_intro | refine nilT ?_ fun hn => ?_ | apply wk_draw Tryd_mixed | refine drawEnd (by kernel_rfl) ?_)
   | (with_reducible (first | apply condA_if | apply stepDG_ifN | apply stepDG_if | apply stepG_ifN | apply stepG_if)) <;> intro hb <;> (have hif := hb) <;> (try simp only [bo] at hif) <;> (try simp -implicitDefEqProofs (disch := omega) only [go_sem, hb]) <;> clear hb
   | simp (maxSteps := 1000000) -implicitDefEqProofs (disch := omega) only [go_sem])
 · refine ret_do ?_
   rw [hck, if_pos (by omega)]; rfl
 · refine ret_do ?_
   rw [hck, if_pos (by omega)]; rfl
 rw [if_neg (by omega)] at hck
 refine calldf 1216 hf ?_
 try simp (maxSteps := 1000000) -implicitDefEqProofs (disch := omega) only [go_sem]
 repeat' (first
   | (with_reducible apply Req_intro); focus (first | omega | assumption | (simp; done))
   | with_reducible (first | apply Req_intro | refine nilT ?_ fun hn => ?_ | apply wk_draw Tryd_mixed | refine drawEnd (by kernel_rfl) ?_)
   | (with_reducible (first | apply condA_if | apply stepDG_ifN | apply stepDG_if | apply stepG_ifN | apply stepG_if)) <;> intro hb <;> (have hif := hb) <;> (try simp only [bo] at hif) <;> (try simp -implicitDefEqProofs (disch := omega) only [go_sem, hb]) <;> clear hb
   | simp (maxSteps := 1000000) -implicitDefEqProofs (disch := omega) only [go_sem])
 · refine ret_do ?_
   rw [hck, hch, if_neg hif]; rfl
 rw [hch, if_pos hif] at hck
 refine callp (rGauge_spec g) ?_
 try simp (maxSteps := 1000000) -implicitDefEqProofs (disch := omega) only [go_sem]
 repeat' (first
   | (with_reducible apply Req_intro); focus (first | omega | assumption | (simp; done))
   | with_reducible (first | apply Req_intro | refine nilT ?_ fun hn => ?_ | apply wk_draw Tryd_mixed | refine drawEnd (by kernel_rfl) ?_)
   | (with_reducible (first | apply condA_if | apply stepDG_ifN | apply stepDG_if | apply stepG_ifN | apply stepG_if)) <;> intro hb <;> (have hif := hb) <;> (try simp only [bo] at hif) <;> (try simp -implicitDefEqProofs (disch := omega) only [go_sem, hb]) <;> clear hb
   | simp (maxSteps := 1000000) -implicitDefEqProofs (disch := omega) only [go_sem])
 all_goals first | exact absurd ‹false = true› (by decide) | exact absurd ‹true = false› (by decide) | (exfalso; omega) | omega | skip
 · refine ret_do ?_
   rw [hck, hif]; rfl
 · refine ret_do ?_
   rw [hck, hif]; rfl
theorem rCopy_spec (l : List Grd) (e : Bool) (hl : l.length ≤ 1000) (hlc : ∀ x ∈ l, x.2.length ≤ 1000) : Ct Tryd.prog 16 [.sl 2 (l.map encGd) e] (.sl 2 (l.map encGd) false) := by
 refine fn_enter Tryd.func16 rfl (by decide) Tryd.results16 Tryd.ntmps16 ?_ rfl (by simp (maxSteps := 1000000) -implicitDefEqProofs (disch := omega) only [go_sem]; rfl) fun base => ?_
 · first | assumption | (simp only [go_sem] <;> assumption) | (simp only [go_sem, *]; done) | (simp [go_sem]; done)
 repeat' (first
   | (with_reducible apply Req_intro); focus (first | omega | assumption | (simp; done))
   | with_reducible (first | apply Req_intro | refine nilT ?_ fun hn => ?_ | apply wk_draw Tryd_mixed | refine drawEnd (by kernel_rfl) ?_)
   | (with_reducible (first | apply condA_if | apply stepDG_ifN | apply stepDG_if | apply stepG_ifN | apply stepG_if)) <;> intro hb <;> (have hif := hb) <;> (try simp only [bo] at hif) <;> (try simp -implicitDefEqProofs (disch := omega) only [go_sem, hb]) <;> clear hb
   | simp (maxSteps := 1000000) -implicitDefEqProofs (disch := omega) only [go_sem])
 refine loop_rows (α := Nat) [3, 4, 6, 7, 8, 9, 10, 11, 12, 13, 14, 15, 16, 17, 18, 19, 20, 21, 22, 23, 24, 25, 26, 27] (fun i => [(4, .lit (.int .i64 i)), (3, .os 65 2 i false), (5, .undef)]) (fun i => [(65, some ⟨2, (l.take i).map encGd, 24, .wr⟩)]) (fun i => i ≤ l.length) (fun i => l.length - i) 0 (fun x => by simp (maxSteps := 1000000) -implicitDefEqProofs (disch := omega) only [go_sem]; rfl) ?_ ?_ fun x hx => ?_
 · simp only [List.take_zero, List.map_nil]
   exact weak_do3 [(65, 64)]
 · exact Nat.zero_le _
 have htl : (l.take x).length = x := by rw [List.length_take]; omega
 by_cases hlt : x < l.length
 · have hcl := hlc _ (getD_mem hlt)
   repeat' (first
     | (with_reducible apply Req_intro); focus (first | omega | assumption | (simp; done))
     | with_reducible (first | apply Req_intro | refine nilT ?_ fun hn => ?_ | apply wk_draw Tryd_mixed | refine drawEnd (by kernel_rfl) ?_)
     | (with_reducible (first | apply condA_if | apply stepDG_ifN | apply stepDG_if | apply stepG_ifN | apply stepG_if)) <;> intro hb <;> (have hif := hb) <;> (try simp only [bo] at hif) <;> (try simp -implicitDefEqProofs (disch := omega) only [go_sem, hb]) <;> clear hb
     | simp (maxSteps := 1000000) -implicitDefEqProofs (disch := omega) only [go_sem])
   all_goals first | exact absurd ‹false = true› (by decide) | exact absurd ‹true = false› (by decide) | (exfalso; omega) | omega | skip
   have ht := take_succ_getD hlt
   generalize l.getD x default = b at *
   refine nxt_snapRow [1280] 1472 (es' := (l.take x).map encGd ++ [encGd b]) (by first | (simp only [go_sem]; done) | (simp only [go_sem]; rfl)) (by rfl) ?_ (by first | assumption | (simp only [go_sem] <;> assumption) | (simp only [go_sem, *]; done) | (simp [go_sem]; done)) (by first | (simp only [go_sem]; done) | (simp only [go_sem]; rfl)) ?_
   · refine PurE.snocR (by first | assumption | (simp only [go_sem] <;> assumption) | (simp only [go_sem, *]; done) | (simp [go_sem]; done)) ?_
     rw [show encGd b = [.lit (.int .i64 b.1), .sl 1 (b.2.map encI) false] from rfl]
     (try simp (maxSteps := 1000000) -implicitDefEqProofs (disch := omega) only [go_sem])
     repeat' (first
       | with_reducible (first | exact PurI.nil | exact Pur.nilsl _ _ | exact PurE.nil)
       | (with_reducible (first | refine PurI.puL ?_ | refine PurE.puE ?_)) <;> (first | assumption | (simp only [go_sem] <;> assumption) | (simp only [go_sem, *]; done) | (simp [go_sem]; done))
       | with_reducible apply PurI.cons
       | (with_reducible refine Pur.pu _ ?_) <;> (first | assumption | (simp only [go_sem] <;> assumption) | (simp only [go_sem, *]; done) | (simp [go_sem]; done))
       | ((with_reducible apply Pur.refR) <;> (first | rfl | decide | (simp only [go_sem]; omega) | (simp only [go_sem]) | skip))
       | ((with_reducible apply Pur.osR) <;> (first | rfl | exact fun h => h | omega | (simp; omega) | (simp; done) | (simp only [go_sem]) | skip))
       | with_reducible (first | apply Pur.fnI | apply Pur.aggI | apply PurE.cons)
       | (with_reducible refine PurI.eqL ?_ ?_); (focus rfl); (focus (first | assumption | (simp only [go_sem] <;> assumption) | (simp only [go_sem, *]; done) | (simp [go_sem]; done)))
       | simp (maxSteps := 1000000) -implicitDefEqProofs (disch := omega) only [go_sem])
   with_reducible refine nxt_w (x + 1) ?_ ?_
   · (try dsimp only)
     rw [ht, List.map_append]
     exact weak_do3 [(65, 1472)]
   try dsimp only
   omega
 · obtain rfl : x = l.length := by omega
   rw [List.take_length]
   repeat' (first
     | (with_reducible apply Req_intro); focus (first | omega | assumption | (simp; done))
     | with_reducible (first | apply Req_intro | refine nilT ?_ fun hn => ?_ | apply wk_draw Tryd_mixed | refine drawEnd (by kernel_rfl) ?_)
     | (with_reducible (first | apply condA_if | apply stepDG_ifN | apply stepDG_if | apply stepG_ifN | apply stepG_if)) <;> intro hb <;> (have hif := hb) <;> (try simp only [bo] at hif) <;> (try simp -implicitDefEqProofs (disch := omega) only [go_sem, hb]) <;> clear hb
     | simp (maxSteps := 1000000) -implicitDefEqProofs (disch := omega) only [go_sem])
   all_goals first | exact absurd ‹false = true› (by decide) | exact absurd ‹true = false› (by decide) | (exfalso; omega) | omega | skip
   exact retf [65] [2] [.sl 2 (l.map encGd) false]
theorem rSame_spec (a b : List Grd) (ea eb : Bool) (ha : a.length ≤ 1000) (hb : b.length ≤ 1000) (hac : ∀ x ∈ a, x.2.length ≤ 1000) (hbc : ∀ x ∈ b, x.2.length ≤ 1000) : Ct Tryd.prog 18 [.sl 2 (a.map encGd) ea, .sl 2 (b.map encGd) eb] (.lit (.bool (a == b))) := by
 refine fn_enter Tryd.func18 rfl (by decide) Tryd.results18 Tryd.ntmps18 ?_ rfl (by simp (maxSteps := 1000000) -implicitDefEqProofs (disch := omega) only [go_sem]; rfl) fun base => ?_
 · first | assumption | (simp only [go_sem] <;> assumption) | (simp only [go_sem, *]; done) | (simp [go_sem]; done)
 repeat' (first
   | (with_reducible apply Req_intro); focus (first | omega | assumption | (simp; done))
   | with_reducible (first | apply Req_intro | refine nilT ?_ fun hn => ?_ | apply wk_draw Tryd_mixed | refine drawEnd (by kernel_rfl) ?_)
   | (with_reducible (first | apply condA_if | apply stepDG_ifN | apply stepDG_if | apply stepG_ifN | apply stepG_if)) <;> intro hb <;> (have hif := hb) <;> (try simp only [bo] at hif) <;> (try simp -implicitDefEqProofs (disch := omega) only [go_sem, hb]) <;> clear hb
   | simp (maxSteps := 1000000) -implicitDefEqProofs (disch := omega) only [go_sem])
 · refine ret_do ?_
   have : (a == b) = false := by rw [beq_eq_false_iff_ne]; intro e; subst e; exact hif rfl
   rw [this]; rfl
 refine loop_at (α := Nat) [4, 5, 11, 12, 13, 14, 15, 16, 17, 18, 19, 20, 21, 22, 23, 24, 25, 26, 27, 28, 29, 30, 31, 32, 33, 34, 35, 36, 37, 38, 39, 40, 41] (fun i => [(5, .lit (.int .i64 i))]) (fun i => i ≤ a.length ∧ a.take i = b.take i) (fun i => a.length - i) 0 (fun x => by simp (maxSteps := 1000000) -implicitDefEqProofs (disch := omega) only [go_sem]; rfl) ?_ ?_ fun x hx => ?_
 · exact weak_do []
 · simp
 obtain ⟨hi, he⟩ := hx
 by_cases hlt : x < a.length
 · have h1 := hac _ (getD_mem hlt)
   have h2 := hbc _ (getD_mem (l := b) (i := x) (by omega))
   have hno : a.getD x default ≠ b.getD x default → (a == b) = false := fun h => by rw [beq_eq_false_iff_ne]; intro e; subst e; exact h rfl
   have hin := rInts_spec (a.getD x default).2 (b.getD x default).2 false false (by omega) (by omega)
   repeat' (first
     | (with_reducible apply Req_intro); focus (first | omega | assumption | (simp; done))
     | with_reducible (first | apply Req_intro | refine nilT ?_ fun hn => ?_ | apply wk_draw Tryd_mixed | refine drawEnd (by kernel_rfl) ?_)
     | (with_reducible (first | apply condA_if | apply stepDG_ifN | apply stepDG_if | apply stepG_ifN | apply stepG_if)) <;> intro hb <;> (have hif := hb) <;> (try simp only [bo] at hif) <;> (try simp -implicitDefEqProofs (disch := omega) only [go_sem, hb]) <;> clear hb
     | simp (maxSteps := 1000000) -implicitDefEqProofs (disch := omega) only [go_sem])
   all_goals first | exact absurd ‹false = true› (by decide) | exact absurd ‹true = false› (by decide) | (exfalso; omega) | omega | skip
   · refine ret_do ?_
     rw [hno (fun e => hif (by rw [e]))]; rfl
   · refine calld hin ?_
     try simp (maxSteps := 1000000) -implicitDefEqProofs (disch := omega) only [go_sem]
     repeat' (first
       | (with_reducible apply Req_intro); focus (first | omega | assumption | (simp; done))
       | with_reducible (first | apply Req_intro | refine nilT ?_ fun hn => ?_ | apply wk_draw Tryd_mixed | refine drawEnd (by kernel_rfl) ?_)
       | (with_reducible (first | apply condA_if | apply stepDG_ifN | apply stepDG_if | apply stepG_ifN | apply stepG_if)) <;> intro hb <;> (have hif := hb) <;> (try simp only [bo] at hif) <;> (try simp -implicitDefEqProofs (disch := omega) only [go_sem, hb]) <;> clear hb
       | simp (maxSteps := 1000000) -implicitDefEqProofs (disch := omega) only [go_sem])
     all_goals first | exact absurd ‹false = true› (by decide) | exact absurd ‹true = false› (by decide) | (exfalso; omega) | omega | skip
     · refine ret_do ?_
       rw [hno (fun e => by rw [e] at hif; simp at hif)]; rfl
     · refine nxt_w (x + 1) (weak_do []) ?_
       try dsimp only
       refine ⟨by omega, ?_⟩
       rw [take_succ_getD (by omega), take_succ_getD (by omega), he, show a.getD x default = b.getD x default from Prod.ext (by assumption) (by simpa using hif)]
 · repeat' (first
     | (with_reducible apply Req_intro); focus (first | omega | assumption | (simp; done))
     | with_reducible (first | apply Req_intro | refine nilT ?_ fun hn => ?_ | apply wk_draw Tryd_mixed | refine drawEnd (by kernel_rfl) ?_)
     | (with_reducible (first | apply condA_if | apply stepDG_ifN | apply stepDG_if | apply stepG_ifN | apply stepG_if)) <;> intro hb <;> (have hif := hb) <;> (try simp only [bo] at hif) <;> (try simp -implicitDefEqProofs (disch := omega) only [go_sem, hb]) <;> clear hb
     | simp (maxSteps := 1000000) -implicitDefEqProofs (disch := omega) only [go_sem])
   all_goals first | exact absurd ‹false = true› (by decide) | exact absurd ‹true = false› (by decide) | (exfalso; omega) | omega | skip
   refine ret_do ?_
   have : a = b := by
     rw [List.take_of_length_le (by omega), List.take_of_length_le (by omega)] at he; exact he
   subst this; simp; rfl
theorem own_spec (ls rs : List Grd) (e1 e2 : Bool) (hs : StOk ls rs) : Ct Tryd.prog 24 [encSt ls rs e1 e2] (encSt ls rs false false) := by
 refine ct_enterZ Tryd.func24 rfl (by decide) Tryd.results24 Tryd.ntmps24 ?_ rfl (by simp (maxSteps := 1000000) -implicitDefEqProofs (disch := omega) only [go_sem]; rfl) fun base => ?_
 · first | assumption | (simp only [go_sem] <;> assumption) | (simp only [go_sem, *]; done) | (simp [go_sem]; done)
 repeat' (first
   | (with_reducible apply Req_intro); focus (first | omega | assumption | (simp; done))
   | with_reducible (first | apply Req_intro | refine nilT ?_ fun hn => ?_ | apply wk_draw Tryd_mixed | refine drawEnd (by kernel_rfl) ?_)
   | (with_reducible (first | apply condA_if | apply stepDG_ifN | apply stepDG_if | apply stepG_ifN | apply stepG_if)) <;> intro hb <;> (have hif := hb) <;> (try simp only [bo] at hif) <;> (try simp -implicitDefEqProofs (disch := omega) only [go_sem, hb]) <;> clear hb
   | simp (maxSteps := 1000000) -implicitDefEqProofs (disch := omega) only [go_sem])
 refine calld (rCopy_spec ls e1 hs.l hs.lc) ?_
 try simp (maxSteps := 1000000) -implicitDefEqProofs (disch := omega) only [go_sem]
 repeat' (first
   | (with_reducible apply Req_intro); focus (first | omega | assumption | (simp; done))
   | with_reducible (first | apply Req_intro | refine nilT ?_ fun hn => ?_ | apply wk_draw Tryd_mixed | refine drawEnd (by kernel_rfl) ?_)
   | (with_reducible (first | apply condA_if | apply stepDG_ifN | apply stepDG_if | apply stepG_ifN | apply stepG_if)) <;> intro hb <;> (have hif := hb) <;> (try simp only [bo] at hif) <;> (try simp -implicitDefEqProofs (disch := omega) only [go_sem, hb]) <;> clear hb
   | simp (maxSteps := 1000000) -implicitDefEqProofs (disch := omega) only [go_sem])
 refine calld (rCopy_spec rs e2 hs.r hs.rc) ?_
 try simp (maxSteps := 1000000) -implicitDefEqProofs (disch := omega) only [go_sem]
 repeat' (first
   | (with_reducible apply Req_intro); focus (first | omega | assumption | (simp; done))
   | with_reducible (first | apply Req_intro | refine nilT ?_ fun hn => ?_ | apply wk_draw Tryd_mixed | refine drawEnd (by kernel_rfl) ?_)
   | (with_reducible (first | apply condA_if | apply stepDG_ifN | apply stepDG_if | apply stepG_ifN | apply stepG_if)) <;> intro hb <;> (have hif := hb) <;> (try simp only [bo] at hif) <;> (try simp -implicitDefEqProofs (disch := omega) only [go_sem, hb]) <;> clear hb
   | simp (maxSteps := 1000000) -implicitDefEqProofs (disch := omega) only [go_sem])
 exact retz []
theorem same_spec (ls rs : List Grd) (e1 e2 e3 e4 : Bool) (hs : StOk ls rs) : Ct Tryd.prog 29 [encSt ls rs e1 e2, encSt ls rs e3 e4] (.lit (.bool true)) := by
 have h1 := rSame_spec ls ls e1 e3 hs.l hs.l hs.lc hs.lc
 have h2 := rSame_spec rs rs e2 e4 hs.r hs.r hs.rc hs.rc
 rw [beq_self_eq_true] at h1 h2
 refine fn_enter Tryd.func29 rfl (by decide) Tryd.results29 Tryd.ntmps29 ?_ rfl (by simp (maxSteps := 1000000) -implicitDefEqProofs (disch := omega) only [go_sem]; rfl) fun base => ?_
 · first | assumption | (simp only [go_sem] <;> assumption) | (simp only [go_sem, *]; done) | (simp [go_sem]; done)
 repeat' (first
   | (with_reducible apply Req_intro); focus (first | omega | assumption | (simp; done))
   | with_reducible (first | apply Req_intro | refine nilT ?_ fun hn => ?_ | apply wk_draw Tryd_mixed | refine drawEnd (by kernel_rfl) ?_)
   | (with_reducible (first | apply condA_if | apply stepDG_ifN | apply stepDG_if | apply stepG_ifN | apply stepG_if)) <;> intro hb <;> (have hif := hb) <;> (try simp only [bo] at hif) <;> (try simp -implicitDefEqProofs (disch := omega) only [go_sem, hb]) <;> clear hb
   | simp (maxSteps := 1000000) -implicitDefEqProofs (disch := omega) only [go_sem])
 refine callp h1 ?_
 try simp (maxSteps := 1000000) -implicitDefEqProofs (disch := omega) only [go_sem]
 repeat' (first
   | (with_reducible apply Req_intro); focus (first | omega | assumption | (simp; done))
   | with_reducible (first | apply Req_intro | refine nilT ?_ fun hn => ?_ | apply wk_draw Tryd_mixed | refine drawEnd (by kernel_rfl) ?_)
   | (with_reducible (first | apply condA_if | apply stepDG_ifN | apply stepDG_if | apply stepG_ifN | apply stepG_if)) <;> intro hb <;> (have hif := hb) <;> (try simp only [bo] at hif) <;> (try simp -implicitDefEqProofs (disch := omega) only [go_sem, hb]) <;> clear hb
   | simp (maxSteps := 1000000) -implicitDefEqProofs (disch := omega) only [go_sem])
 all_goals first | exact absurd ‹false = true› (by decide) | exact absurd ‹true = false› (by decide) | (exfalso; omega) | omega | skip
 refine callp h2 ?_
 try simp (maxSteps := 1000000) -implicitDefEqProofs (disch := omega) only [go_sem]
 repeat' (first
   | (with_reducible apply Req_intro); focus (first | omega | assumption | (simp; done))
   | with_reducible (first | apply Req_intro | refine nilT ?_ fun hn => ?_ | apply wk_draw Tryd_mixed | refine drawEnd (by kernel_rfl) ?_)
   | (with_reducible (first | apply condA_if | apply stepDG_ifN | apply stepDG_if | apply stepG_ifN | apply stepG_if)) <;> intro hb <;> (have hif := hb) <;> (try simp only [bo] at hif) <;> (try simp -implicitDefEqProofs (disch := omega) only [go_sem, hb]) <;> clear hb
   | simp (maxSteps := 1000000) -implicitDefEqProofs (disch := omega) only [go_sem])
 all_goals first | exact absurd ‹false = true› (by decide) | exact absurd ‹true = false› (by decide) | (exfalso; omega) | omega | skip
 refine ret_do ?_
 rfl
def sideR (ls rs : List Grd) (k : Nat) : List Grd := if k = 0 then ls else rs
def bigGR (ls rs : List Grd) : Bool := decide (12 < ls.length) || decide (12 < rs.length) || (ls.any fun x => decide (8 < x.2.length)) || (rs.any fun x => decide (8 < x.2.length))
def largeG (g : Gau) (ls rs : List Grd) (most : Int) : Bool :=
 (List.range 2).any (fun k => ((sideR ls rs k).take 13).any (fun x => decide (8 < x.2.length)) || decide (12 < (sideR ls rs k).length)) || decide (most < max (ls.length : Int) rs.length) && (checkS g ls rs == 0)
theorem large_spec06 (g : Gau) (ls rs : List Grd) (most : Int) (e1 e2 : Bool) (hl : ls.length ≤ 4611686018427387904) (hr : rs.length ≤ 4611686018427387904) (hlc : ∀ x ∈ ls, x.2.length ≤ 4611686018427387904) (hrc : ∀ x ∈ rs, x.2.length ≤ 4611686018427387904) :
   Ct Tryd.prog 23 [encSt ls rs e1 e2, encGa g, int most] (.lit (.bool (largeG g ls rs most))) := by
 have hbad : ∀ k, k < 2 → (((sideR ls rs k).take 13).any (fun x => decide (8 < x.2.length)) || decide (12 < (sideR ls rs k).length)) = true → largeG g ls rs most = true := fun k hk h => by
   unfold largeG
   rw [Bool.or_eq_true]; left
   exact List.any_eq_true.2 ⟨k, List.mem_range.2 hk, h⟩
 refine fn_enter Tryd.func23 rfl (by decide) Tryd.results23 Tryd.ntmps23 ?_ rfl (by simp (maxSteps := 1000000) -implicitDefEqProofs (disch := omega) only [go_sem]; rfl) fun base => ?_
 · first | assumption | (simp only [go_sem] <;> assumption) | (simp only [go_sem, *]; done) | (simp [go_sem]; done)
 repeat' (first
   | (with_reducible apply Req_intro); focus (first | omega | assumption | (simp; done))
   | with_reducible (first | apply Req_intro | refine nilT ?_ fun hn => ?_ | apply wk_draw Tryd_mixed | refine drawEnd (by kernel_rfl) ?_)
   | (with_reducible (first | apply condA_if | apply stepDG_ifN | apply stepDG_if | apply stepG_ifN | apply stepG_if)) <;> intro hb <;> (have hif := hb) <;> (try simp only [bo] at hif) <;> (try simp -implicitDefEqProofs (disch := omega) only [go_sem, hb]) <;> clear hb
   | simp (maxSteps := 1000000) -implicitDefEqProofs (disch := omega) only [go_sem])
 refine loop_rows (α := Nat) [6, 7, 8, 9, 10, 11, 12, 13, 14, 15, 16, 17, 18, 19, 20, 21, 22, 23, 24, 25, 26, 27, 28, 29, 30, 31, 32, 33, 34, 35, 36, 37, 38, 39, 40] (fun i => [(7, .lit (.int .i64 i))]) (fun i => [(0, some ⟨2, [[.sl 2 (ls.map encGd) e1, .sl 2 (rs.map encGd) e2]], 38, .wr⟩), (64, some ⟨4, [[int g.sc, int g.ga, int g.we, int g.cu]], 26, .wr⟩)]) (fun i => i ≤ 2 ∧ ∀ k, k < i → (((sideR ls rs k).take 13).any (fun x => decide (8 < x.2.length)) || decide (12 < (sideR ls rs k).length)) = false) (fun i => 2 - i) 0 (fun x => by simp (maxSteps := 1000000) -implicitDefEqProofs (disch := omega) only [go_sem]; rfl) ?_ ?_ fun x hx => ?_
 · exact weak_do3 []
 · exact ⟨by omega, fun k hk => by omega⟩
 obtain ⟨hx2, hxp⟩ := hx
 have h012 : x = 0 ∨ x = 1 ∨ x = 2 := by omega
 rcases h012 with rfl | rfl | rfl
 · have hsd : sideR ls rs 0 = ls := rfl
   have hb0 := hbad 0 (by decide)
   rw [hsd] at hb0
   repeat' (first
     | (with_reducible apply Req_intro); focus (first | omega | assumption | (simp; done))
     | with_reducible (first | apply Req_intro | refine nilT ?_ fun hn => ?_ | apply wk_draw Tryd_mixed | refine drawEnd (by kernel_rfl) ?_)
     | (with_reducible (first | apply condA_if | apply stepDG_ifN | apply stepDG_if | apply stepG_ifN | apply stepG_if)) <;> intro hb <;> (have hif := hb) <;> (try simp only [bo] at hif) <;> (try simp -implicitDefEqProofs (disch := omega) only [go_sem, hb]) <;> clear hb
     | simp (maxSteps := 1000000) -implicitDefEqProofs (disch := omega) only [go_sem])
   all_goals first | exact absurd ‹false = true› (by decide) | exact absurd ‹true = false› (by decide) | (exfalso; omega) | omega | skip
   refine loop_rows (α := Nat) [6, 9, 21, 22, 23, 24, 25, 26, 27, 28, 29, 30, 31, 32, 33, 34, 35, 36, 37] (fun i => [(9, .lit (.int .i64 i)), (8, .sl 2 (ls.map encGd) e1)]) (fun i => [(0, some ⟨2, [[.sl 2 (ls.map encGd) e1, .sl 2 (rs.map encGd) e2]], 38, .wr⟩), (64, some ⟨4, [[int g.sc, int g.ga, int g.we, int g.cu]], 26, .wr⟩)]) (fun i => i ≤ ls.length ∧ i ≤ 13 ∧ ∀ j, j < i → ¬ 8 < (ls.getD j default).2.length) (fun i => ls.length - i) 0 (fun x => by simp (maxSteps := 1000000) -implicitDefEqProofs (disch := omega) only [go_sem]; rfl) ?_ ?_ fun x hx => ?_
   · exact weak_do3 []
   · exact ⟨Nat.zero_le _, by omega, fun k hk => absurd hk (Nat.not_lt_zero _)⟩
   obtain ⟨hx1, hx2, hx3⟩ := hx
   by_cases hlt : x < ls.length ∧ x < 13
   · obtain ⟨hlt1, hlt2⟩ := hlt
     have hcl := hlc _ (getD_mem hlt1)
     repeat' (first
       | (with_reducible apply Req_intro); focus (first | omega | assumption | (simp; done))
       | with_reducible (first | apply Req_intro | refine nilT ?_ fun hn => ?_ | apply wk_draw Tryd_mixed | refine drawEnd (by kernel_rfl) ?_)
       | (with_reducible (first | apply condA_if | apply stepDG_ifN | apply stepDG_if | apply stepG_ifN | apply stepG_if)) <;> intro hb <;> (have hif := hb) <;> (try simp only [bo] at hif) <;> (try simp -implicitDefEqProofs (disch := omega) only [go_sem, hb]) <;> clear hb
       | simp (maxSteps := 1000000) -implicitDefEqProofs (disch := omega) only [go_sem])
     all_goals first | exact absurd ‹false = true› (by decide) | exact absurd ‹true = false› (by decide) | (exfalso; omega) | omega | skip
     · refine ret_do ?_
       rw [hb0 (by
         rw [Bool.or_eq_true, List.any_eq_true]; left
         refine ⟨ls.getD x default, ?_, by simp only [decide_eq_true_eq]; omega⟩
         rw [getD_default hlt1]
         exact List.mem_take_iff_getElem.2 ⟨x, by omega, rfl⟩)]; rfl
     · refine nxt_w (x + 1) (weak_do []) ?_
       try dsimp only
       refine ⟨by omega, by omega, fun j hj => ?_⟩
       rcases Nat.lt_succ_iff_lt_or_eq.1 hj with h | rfl
       · exact hx3 j h
       · omega
   · have hend : ls.length ≤ x ∨ x = 13 := by omega
     repeat' (first
       | (with_reducible apply Req_intro); focus (first | omega | assumption | (simp; done))
       | with_reducible (first | apply Req_intro | refine nilT ?_ fun hn => ?_ | apply wk_draw Tryd_mixed | refine drawEnd (by kernel_rfl) ?_)
       | (with_reducible (first | apply condA_if | apply stepDG_ifN | apply stepDG_if | apply stepG_ifN | apply stepG_if)) <;> intro hb <;> (have hif := hb) <;> (try simp only [bo] at hif) <;> (try simp -implicitDefEqProofs (disch := omega) only [go_sem, hb]) <;> clear hb
       | simp (maxSteps := 1000000) -implicitDefEqProofs (disch := omega) only [go_sem])
     all_goals first | (exfalso; omega) | skip
     all_goals (first
       | (refine ret_do ?_
          rw [hb0 (by rw [Bool.or_eq_true]; right; simp only [decide_eq_true_eq]; omega)]; rfl)
       | (refine nxt_w (0 + 1) (weak_do []) ?_
          try dsimp only
          refine ⟨by omega, fun k hk => ?_⟩
          rcases Nat.lt_succ_iff_lt_or_eq.1 hk with h | rfl
          · omega
          · rw [hsd, Bool.or_eq_false_iff, List.any_eq_false]
            refine ⟨fun y hy => ?_, by simp only [decide_eq_false_iff_not]; omega⟩
            obtain ⟨j, hj, rfl⟩ := List.mem_take_iff_getElem.1 hy
            have := hx3 j (by omega)
            rw [getD_default (by omega)] at this
            simp only [decide_eq_true_eq]; exact this))
 · have hsd : sideR ls rs 1 = rs := rfl
   have hb0 := hbad 1 (by decide)
   rw [hsd] at hb0
   repeat' (first
     | (with_reducible apply Req_intro); focus (first | omega | assumption | (simp; done))
     | with_reducible (first | apply Req_intro | refine nilT ?_ fun hn => ?_ | apply wk_draw Tryd_mixed | refine drawEnd (by kernel_rfl) ?_)
     | (with_reducible (first | apply condA_if | apply stepDG_ifN | apply stepDG_if | apply stepG_ifN | apply stepG_if)) <;> intro hb <;> (have hif := hb) <;> (try simp only [bo] at hif) <;> (try simp -implicitDefEqProofs (disch := omega) only [go_sem, hb]) <;> clear hb
     | simp (maxSteps := 1000000) -implicitDefEqProofs (disch := omega) only [go_sem])
   all_goals first | exact absurd ‹false = true› (by decide) | exact absurd ‹true = false› (by decide) | (exfalso; omega) | omega | skip
   refine loop_rows (α := Nat) [6, 9, 21, 22, 23, 24, 25, 26, 27, 28, 29, 30, 31, 32, 33, 34, 35, 36, 37] (fun i => [(9, .lit (.int .i64 i)), (8, .sl 2 (rs.map encGd) e2)]) (fun i => [(0, some ⟨2, [[.sl 2 (ls.map encGd) e1, .sl 2 (rs.map encGd) e2]], 38, .wr⟩), (64, some ⟨4, [[int g.sc, int g.ga, int g.we, int g.cu]], 26, .wr⟩)]) (fun i => i ≤ rs.length ∧ i ≤ 13 ∧ ∀ j, j < i → ¬ 8 < (rs.getD j default).2.length) (fun i => rs.length - i) 0 (fun x => by simp (maxSteps := 1000000) -implicitDefEqProofs (disch := omega) only [go_sem]; rfl) ?_ ?_ fun x hx => ?_
   · exact weak_do3 []
   · exact ⟨Nat.zero_le _, by omega, fun k hk => absurd hk (Nat.not_lt_zero _)⟩
   obtain ⟨hx1, hx2, hx3⟩ := hx
   by_cases hlt : x < rs.length ∧ x < 13
   · obtain ⟨hlt1, hlt2⟩ := hlt
     have hcl := hrc _ (getD_mem hlt1)
     repeat' (first
       | (with_reducible apply Req_intro); focus (first | omega | assumption | (simp; done))
       | with_reducible (first | apply Req_intro | refine nilT ?_ fun hn => ?_ | apply wk_draw Tryd_mixed | refine drawEnd (by kernel_rfl) ?_)
       | (with_reducible (first | apply condA_if | apply stepDG_ifN | apply stepDG_if | apply stepG_ifN | apply stepG_if)) <;> intro hb <;> (have hif := hb) <;> (try simp only [bo] at hif) <;> (try simp -implicitDefEqProofs (disch := omega) only [go_sem, hb]) <;> clear hb
       | simp (maxSteps := 1000000) -implicitDefEqProofs (disch := omega) only [go_sem])
     all_goals first | exact absurd ‹false = true› (by decide) | exact absurd ‹true = false› (by decide) | (exfalso; omega) | omega | skip
     · refine ret_do ?_
       rw [hb0 (by
         rw [Bool.or_eq_true, List.any_eq_true]; left
         refine ⟨rs.getD x default, ?_, by simp only [decide_eq_true_eq]; omega⟩
         rw [getD_default hlt1]
         exact List.mem_take_iff_getElem.2 ⟨x, by omega, rfl⟩)]; rfl
     · refine nxt_w (x + 1) (weak_do []) ?_
       try dsimp only
       refine ⟨by omega, by omega, fun j hj => ?_⟩
       rcases Nat.lt_succ_iff_lt_or_eq.1 hj with h | rfl
       · exact hx3 j h
       · omega
   · have hend : rs.length ≤ x ∨ x = 13 := by omega
     repeat' (first
       | (with_reducible apply Req_intro); focus (first | omega | assumption | (simp; done))
       | with_reducible (first | apply Req_intro | refine nilT ?_ fun hn => ?_ | apply wk_draw Tryd_mixed | refine drawEnd (by kernel_rfl) ?_)
       | (with_reducible (first | apply condA_if | apply stepDG_ifN | apply stepDG_if | apply stepG_ifN | apply stepG_if)) <;> intro hb <;> (have hif := hb) <;> (try simp only [bo] at hif) <;> (try simp -implicitDefEqProofs (disch := omega) only [go_sem, hb]) <;> clear hb
       | simp (maxSteps := 1000000) -implicitDefEqProofs (disch := omega) only [go_sem])
     all_goals first | (exfalso; omega) | skip
     all_goals (first
       | (refine ret_do ?_
          rw [hb0 (by rw [Bool.or_eq_true]; right; simp only [decide_eq_true_eq]; omega)]; rfl)
       | (refine nxt_w (1 + 1) (weak_do []) ?_
          try dsimp only
          refine ⟨by omega, fun k hk => ?_⟩
          rcases Nat.lt_succ_iff_lt_or_eq.1 hk with h | rfl
          · exact hxp k h
          · rw [hsd, Bool.or_eq_false_iff, List.any_eq_false]
            refine ⟨fun y hy => ?_, by simp only [decide_eq_false_iff_not]; omega⟩
            obtain ⟨j, hj, rfl⟩ := List.mem_take_iff_getElem.1 hy
            have := hx3 j (by omega)
            rw [getD_default (by omega)] at this
            simp only [decide_eq_true_eq]; exact this))
 · have hl0 := hxp 0 (by decide)
   have hr0 := hxp 1 (by decide)
   simp only [sideR, if_true, Nat.one_ne_zero, if_false, Bool.or_eq_false_iff, List.any_eq_false, decide_eq_false_iff_not, decide_eq_true_eq] at hl0 hr0
   have hst : StOk ls rs := ⟨by omega, by omega, fun x hx => by
     have := hl0.1 x (by rw [List.take_of_length_le (by omega)]; exact hx)
     omega, fun x hx => by
     have := hr0.1 x (by rw [List.take_of_length_le (by omega)]; exact hx)
     omega⟩
   have hck := rCheck_spec g ls rs e1 e2 hst
   have hlg : largeG g ls rs most = (decide (most < max (ls.length : Int) rs.length) && (checkS g ls rs == 0)) := by
     unfold largeG
     rw [show (List.range 2).any (fun k => ((sideR ls rs k).take 13).any (fun x => decide (8 < x.2.length)) || decide (12 < (sideR ls rs k).length)) = false from ?_, Bool.false_or]
     rw [List.any_eq_false]
     intro k hk
     rw [hxp k (List.mem_range.1 hk)]; decide
   repeat' (first
     | (with_reducible apply Req_intro); focus (first | omega | assumption | (simp; done))
     | with_reducible (first | apply Req_intro | refine nilT ?_ fun hn => ?_ | apply wk_draw Tryd_mixed | refine drawEnd (by kernel_rfl) ?_)
     | (with_reducible (first | apply condA_if | apply stepDG_ifN | apply stepDG_if | apply stepG_ifN | apply stepG_if)) <;> intro hb <;> (have hif := hb) <;> (try simp only [bo] at hif) <;> (try simp -implicitDefEqProofs (disch := omega) only [go_sem, hb]) <;> clear hb
     | simp (maxSteps := 1000000) -implicitDefEqProofs (disch := omega) only [go_sem])
   all_goals first | exact absurd ‹false = true› (by decide) | exact absurd ‹true = false› (by decide) | (exfalso; omega) | omega | skip
   · refine callp hck ?_
     try simp (maxSteps := 1000000) -implicitDefEqProofs (disch := omega) only [go_sem]
     repeat' (first
       | (with_reducible apply Req_intro); focus (first | omega | assumption | (simp; done))
       | with_reducible (first | apply Req_intro | refine nilT ?_ fun hn => ?_ | apply wk_draw Tryd_mixed | refine drawEnd (by kernel_rfl) ?_)
       | (with_reducible (first | apply condA_if | apply stepDG_ifN | apply stepDG_if | apply stepG_ifN | apply stepG_if)) <;> intro hb <;> (have hif := hb) <;> (try simp only [bo] at hif) <;> (try simp -implicitDefEqProofs (disch := omega) only [go_sem, hb]) <;> clear hb
       | simp (maxSteps := 1000000) -implicitDefEqProofs (disch := omega) only [go_sem])
     all_goals first | exact absurd ‹false = true› (by decide) | exact absurd ‹true = false› (by decide) | (exfalso; omega) | omega | skip
     refine ret_do ?_
     rw [hlg, decide_eq_true hif, Bool.true_and]; rfl
   · refine ret_do ?_
     rw [hlg, decide_eq_false (by omega)]; rfl
end Go.Aw
end
section
set_option maxRecDepth 20000
set_option maxHeartbeats 4000000
namespace Go.Aw
open Go.RowKit Go.Proofs
@[go_sem ↓] theorem actBin_eqB (a b : Bool) : actBin Tryd.prog .eql 4 (.lit (.bool a)) (.lit (.bool b)) = some (.val (.lit (.bool (a == b)))) := by
 show (if litT Tryd.prog 4 (.bool a) then _ else none) = _
 rw [show litT Tryd.prog 4 (.bool a) = true by kernel_rfl]
 rfl
@[go_sem ↓] theorem actBin_neB (a b : Bool) : actBin Tryd.prog .neq 4 (.lit (.bool a)) (.lit (.bool b)) = some (.val (.lit (.bool (a != b)))) := by
 show (if litT Tryd.prog 4 (.bool a) then _ else none) = _
 rw [show litT Tryd.prog 4 (.bool a) = true by kernel_rfl]
 rfl
@[go_sem] theorem eqB_ff : (false == false) = true := rfl
@[go_sem] theorem eqB_tt : (true == true) = true := rfl
@[go_sem] theorem eqB_ft : (false == true) = false := rfl
@[go_sem] theorem eqB_tf : (true == false) = false := rfl
@[go_sem] theorem neB_ff : (false != false) = false := rfl
@[go_sem] theorem neB_tt : (true != true) = false := rfl
@[go_sem] theorem neB_ft : (false != true) = true := rfl
@[go_sem] theorem neB_tf : (true != false) = true := rfl
theorem largeG_no {g : Gau} {ls rs : List Grd} {most : Int} (h : largeG g ls rs most = false) : StOk ls rs ∧ ls.length ≤ 12 ∧ rs.length ≤ 12 ∧ (checkS g ls rs = 0 → (ls.length : Int) ≤ most ∧ (rs.length : Int) ≤ most) := by
 unfold largeG at h
 rw [Bool.or_eq_false_iff] at h
 obtain ⟨h1, h2⟩ := h
 rw [List.any_eq_false] at h1
 have h3 := h1 0 (by simp)
 have h4 := h1 1 (by simp)
 simp only [sideR, if_true, Nat.one_ne_zero, if_false, Bool.or_eq_true, not_or, List.any_eq_true, decide_eq_true_eq, not_exists, not_and] at h3 h4
 refine ⟨⟨by omega, by omega, fun x hx => ?_, fun x hx => ?_⟩, by omega, by omega, fun hc => ?_⟩
 · have := h3.1 x (by rw [List.take_of_length_le (by omega)]; exact hx)
   omega
 · have := h4.1 x (by rw [List.take_of_length_le (by omega)]; exact hx)
   omega
 · rw [hc, Bool.and_eq_false_iff, decide_eq_false_iff_not] at h2
   rcases h2 with h2 | h2
   · omega
   · cases h2
end Go.Aw
end
section
set_option maxRecDepth 20000
set_option maxHeartbeats 4000000
namespace Go.Aw
open Go.RowKit Go.Proofs
def encBo (b : Bool) : List V := [.lit (.bool b)]
@[go_sem] theorem encBo_eq (b : Bool) : encBo b = [.lit (.bool b)] := rfl
def encBr (r : List Bool) : List V := [.sl 1 (r.map encBo) false]
@[go_sem] theorem encBr_eq (r : List Bool) : encBr r = [.sl 1 (r.map encBo) false] := rfl
@[go_sem] theorem take_map_Bo (l : List Bool) (n : Nat) (h : l.length = n) : (l.map encBo).take n = l.map encBo := List.take_of_length_le (by simp; omega)
@[go_sem] theorem take_map_Br (l : List (List Bool)) (n : Nat) (h : l.length = n) : (l.map encBr).take n = l.map encBr := List.take_of_length_le (by simp; omega)
def rowTo (g : Gau) (a : Grd) (rs : List Grd) (k : Int) (j : Nat) : List Bool := (rs.take j).map fun b => alikeR g a b k
end Go.Aw
end
section
set_option maxRecDepth 20000
set_option maxHeartbeats 4000000
namespace Go.Aw
open Go.RowKit Go.Proofs
def bestM (row : List Bool) (rest : List (List Bool)) (taken k : Nat) : Nat := (List.range k).foldl (fun b j => if row.getD j false && !taken.testBit j then max b (1 + refM rest (taken ||| 2 ^ j)) else b) (refM rest taken)
def condP (t : List (List Bool)) (i taken k : Nat) : Bool := (t.getD i default).getD k default && !taken.testBit k && 1 + refM (t.drop (i + 1)) (taken ||| 2 ^ k) == refM (t.drop i) taken
end Go.Aw
end
section
set_option maxRecDepth 20000
set_option maxHeartbeats 4000000
namespace Go.Aw
open Go.RowKit Go.Proofs
structure GoodSt (g : Gau) (ls rs : List Grd) (n : Nat) : Prop where
 n4 : n ≤ 4
 g : GauOk g
 l : ∀ x ∈ ls, GrdOk n x
 r : ∀ x ∈ rs, GrdOk n x
end Go.Aw
end
section
set_option maxRecDepth 20000
set_option maxHeartbeats 4000000
namespace Go.Aw
open Go.RowKit Go.Proofs
def exTo (l : List Grd) (d : Int) : Nat → List Grd
 | 0 => []
 | i + 1 => if (i : Int) = d then exTo l d i else exTo l d i ++ [l.getD i default]
theorem GoodSt.left {g : Gau} {ls rs : List Grd} {n : Nat} (h : GoodSt g ls rs n) (i : Nat) : GoodSt g (ls.eraseIdx i) rs n := ⟨h.n4, h.g, fun x hx => h.l x (List.mem_of_mem_eraseIdx hx), h.r⟩
theorem GoodSt.right {g : Gau} {ls rs : List Grd} {n : Nat} (h : GoodSt g ls rs n) (i : Nat) : GoodSt g ls (rs.eraseIdx i) n := ⟨h.n4, h.g, h.l, fun x hx => h.r x (List.mem_of_mem_eraseIdx hx)⟩
end Go.Aw
end
section
set_option maxRecDepth 20000
set_option maxHeartbeats 4000000
namespace Go.Aw
open Go.RowKit Go.Proofs
section
variable {P : Program} {g : FuncId} {args0 first args cap : List V} {rows0 l : List (Nat × Option Blk)} {m1 m2 k l1 l2 nx0 n : Nat} {b1 b2 : Blk} {dst : Option Tmp} {K : St → Prop} {tm : List V} {gh : Gh}
def TwoNew (P : Program) (g : FuncId) (args : List V) (m1 m2 k l1 l2 : Nat) (b1 b2 : Blk) (nx0 : Nat) : Prop :=
 ∃ rows0, CallH P g args (fun _ => none) 0 (fun r h n => r = .agg [.os m1 k l1 false, .os m2 k l2 false] ∧ h = hpOf (fun _ => none) rows0 ∧ n = nx0) ∧ hpOf (fun _ => none) rows0 m1 = some b1 ∧ hpOf (fun _ => none) rows0 m2 = some b2
end
end Go.Aw
end
section
set_option maxRecDepth 20000
set_option maxHeartbeats 4000000
namespace Go.Aw
open Go.RowKit Go.Proofs
def pairNo (nr x : Nat) : Nat × Nat := (x / nr, x % nr)
def allTo (nr n : Nat) : List (Nat × Nat) := (List.range n).map (pairNo nr)
theorem allTo_zero (nr : Nat) : allTo nr 0 = [] := rfl
theorem allTo_len (nr n : Nat) : (allTo nr n).length = n := by simp [allTo]
theorem allTo_succ {nr i k : Nat} (hk : k < nr) : allTo nr (i * nr + (k + 1)) = allTo nr (i * nr + k) ++ [(i, k)] := by
 have h0 : 0 < nr := by omega
 rw [← Nat.add_assoc, allTo, allTo, List.range_succ, List.map_append, List.map_cons, List.map_nil, pairNo,
   show (i * nr + k) / nr = i from by rw [Nat.mul_comm, Nat.mul_add_div h0, Nat.div_eq_of_lt hk, Nat.add_zero], show (i * nr + k) % nr = k from by rw [Nat.mul_comm, Nat.mul_add_mod, Nat.mod_eq_of_lt hk]]
theorem allTo_get {nr n x : Nat} (h : x < n) : (allTo nr n).getD x default = pairNo nr x := by
 rw [List.getD_eq_getElem?_getD, allTo, List.getElem?_map, List.getElem?_range h]; rfl
theorem pairNo_lt {nl nr x : Nat} (h : x < nl * nr) : (pairNo nr x).1 < nl ∧ (pairNo nr x).2 < nr := by
 have h0 : 0 < nr := by
   rcases Nat.eq_zero_or_pos nr with h1 | h1
   · subst h1; rw [Nat.mul_zero] at h; omega
   · exact h1
 exact ⟨(Nat.div_lt_iff_lt_mul h0).2 h, Nat.mod_lt _ h0⟩
def twQ (nr : Nat) (ok : Nat × Nat → Nat × Nat → Bool) (x y : Nat) : Bool := decide (x < y) && ok (pairNo nr x) (pairNo nr y)
theorem twin_head (nl nr : Nat) (ok : Nat × Nat → Nat × Nat → Bool) : (refTwinList nl nr ok).head? = (List.range (nl * nr)).findSome? fun x => (List.range (nl * nr)).findSome? fun y => if twQ nr ok x y then some (pairNo nr x, pairNo nr y) else none := by
 rw [refTwinList, List.head?_flatMap]
 congr 1
 funext x
 rw [List.head?_flatMap]
 congr 1
 funext y
 show (if twQ nr ok x y then [(pairNo nr x, pairNo nr y)] else []).head? = _
 split <;> rfl
theorem twin_some {nl nr : Nat} {ok : Nat × Nat → Nat × Nat → Bool} {i k : Nat} (hi : i < nl * nr) (hk : k < nl * nr) (h : twQ nr ok i k = true) (h1 : ∀ x, x < i → ∀ y, y < nl * nr → twQ nr ok x y = false) (h2 : ∀ y, y < k → twQ nr ok i y = false) :
   (refTwinList nl nr ok).head? = some (pairNo nr i, pairNo nr k) := by
 rw [twin_head, findSome_range]
 refine ⟨i, hi, findSome_range.2 ⟨k, hk, by rw [h]; rfl, fun y hy => by rw [h2 y hy]; rfl⟩, fun x hx => ?_⟩
 rw [List.findSome?_eq_none_iff]
 intro y hy
 rw [h1 x hx y (List.mem_range.1 hy)]; rfl
theorem twin_none {nl nr : Nat} {ok : Nat × Nat → Nat × Nat → Bool} (h1 : ∀ x, x < nl * nr → ∀ y, y < nl * nr → twQ nr ok x y = false) : (refTwinList nl nr ok).head? = none := by
 rw [twin_head, List.findSome?_eq_none_iff]
 intro x hx
 rw [List.findSome?_eq_none_iff]
 intro y hy
 rw [h1 x (List.mem_range.1 hx) y (List.mem_range.1 hy)]; rfl
def okRw (g : Gau) (F : List Grd) (m : Nat) (b : Bool) : Nat → Bool
 | 0 => b
 | n + 1 => okRw g F m b n && alikeR g (F.getD m default) (F.getD n default) 2
def okFour (g : Gau) (F : List Grd) (b : Bool) : Nat → Bool
 | 0 => b
 | m + 1 => okRw g F m (okFour g F b m) m
theorem okFour_four (g : Gau) (ls rs : List Grd) (a b : Nat × Nat) : okFour g [ls.getD a.1 default, rs.getD a.2 default, ls.getD b.1 default, rs.getD b.2 default] (decide (a.1 ≠ b.1 ∧ a.2 ≠ b.2)) 4 = okTwin g ls rs a b := by
 simp only [okFour, okRw, okTwin, List.getD_cons_zero, List.getD_cons_succ]
theorem rTwins_spec (g : Gau) (ls rs : List Grd) (e1 e2 : Bool) (n : Nat) (hg : GoodSt g ls rs n) (hl : ls.length ≤ 12) (hr : rs.length ≤ 12) : Ct Tryd.prog 40 [encSt ls rs e1 e2, encGa g] (match (refTwinList ls.length rs.length (okTwin g ls rs)).head? with
   | some (p, q) => .tup [.sl 2 ([p, q].map encP) false, .lit (.bool true)]
   | none => .tup [.sl 2 (([] : List (Nat × Nat)).map encP) false, .lit (.bool false)]) := by
 refine fn_enter Tryd.func40 rfl (by decide) Tryd.results40 Tryd.ntmps40 ?_ rfl (by simp (maxSteps := 1000000) -implicitDefEqProofs (disch := omega) only [go_sem]; rfl) fun base => ?_
 · split <;> first | assumption | (simp only [go_sem] <;> assumption) | (simp only [go_sem, *]; done) | (simp [go_sem]; done)
 repeat' (first
   | (with_reducible apply Req_intro); focus (first | omega | assumption | (simp; done))
   | with_reducible (first | apply Req_intro | refine nilT ?_ fun hn => ?_ | apply wk_draw Tryd_mixed | refine drawEnd (by kernel_rfl) ?_)
   | (with_reducible (first | apply condA_if | apply stepDG_ifN | apply stepDG_if | apply stepG_ifN | apply stepG_if)) <;> intro hb <;> (have hif := hb) <;> (try simp only [bo] at hif) <;> (try simp -implicitDefEqProofs (disch := omega) only [go_sem, hb]) <;> clear hb
   | simp (maxSteps := 1000000) -implicitDefEqProofs (disch := omega) only [go_sem])
 all_goals first | exact absurd trivial ‹¬True› | exact absurd ‹false = true› (by decide) | exact absurd ‹true = false› (by decide) | (exfalso; omega) | omega | skip
 refine loop_rows (α := Nat) (8 :: [6, 7, 8, 18, 19, 20, 21, 22, 23, 24, 25, 26, 27, 28, 29, 30, 31, 32, 33, 34, 35, 36, 37]) (fun i => [(7, .lit (.int .i64 i)), (6, .os 65 2 (i * rs.length) false), (17, .undef)]) (fun i => [(0, some ⟨2, [[.sl 2 (ls.map encGd) e1, .sl 2 (rs.map encGd) e2]], 38, .wr⟩), (64, some ⟨4, [[int g.sc, int g.ga, int g.we, int g.cu]], 26, .wr⟩), (65, some ⟨2, (allTo rs.length (i * rs.length)).map encP, 85, .wr⟩)]) (fun i => i ≤ ls.length) (fun i => ls.length - i) 0 (fun x => by simp (maxSteps := 1000000) -implicitDefEqProofs (disch := omega) only [go_sem]; rfl) ?_ ?_ fun x hx => ?_
 · simp only [Nat.zero_mul, allTo_zero, List.map_nil]
   exact weak_do3 [(65, 256)]
 · exact Nat.zero_le _
 rename Nat => i
 have hb : i * rs.length ≤ 144 := Nat.le_trans (Nat.mul_le_mul (show i ≤ 12 by omega) hr) (by decide)
 by_cases hlt : i < ls.length
 · have hsu := fun k => allTo_succ (nr := rs.length) (i := i) (k := k)
   have hln := fun k => allTo_len rs.length (i * rs.length + k)
   have h0 : allTo rs.length (i * rs.length + 0) = allTo rs.length (i * rs.length) := rfl
   have he : i * rs.length + rs.length = (i + 1) * rs.length := by rw [Nat.succ_mul]
   repeat' (first
     | (with_reducible apply Req_intro); focus (first | omega | assumption | (simp; done))
     | with_reducible (first | apply Req_intro | refine nilT ?_ fun hn => ?_ | apply wk_draw Tryd_mixed | refine drawEnd (by kernel_rfl) ?_)
     | (with_reducible (first | apply condA_if | apply stepDG_ifN | apply stepDG_if | apply stepG_ifN | apply stepG_if)) <;> intro hb <;> (have hif := hb) <;> (try simp only [bo] at hif) <;> (try simp -implicitDefEqProofs (disch := omega) only [go_sem, hb]) <;> clear hb
     | simp (maxSteps := 1000000) -implicitDefEqProofs (disch := omega) only [go_sem])
   all_goals first | exact absurd trivial ‹¬True› | exact absurd ‹false = true› (by decide) | exact absurd ‹true = false› (by decide) | (exfalso; omega) | omega | skip
   refine loop_rows (α := Nat) ([6, 8, 25, 26, 27, 28, 29, 30, 31, 32, 33, 34, 35, 36, 37]) (fun k => [(8, .lit (.int .i64 k)), (6, .os 65 2 (i * rs.length + k) false)]) (fun k => [(0, some ⟨2, [[.sl 2 (ls.map encGd) e1, .sl 2 (rs.map encGd) e2]], 38, .wr⟩), (64, some ⟨4, [[int g.sc, int g.ga, int g.we, int g.cu]], 26, .wr⟩), (65, some ⟨2, (allTo rs.length (i * rs.length + k)).map encP, 85, .wr⟩)]) (fun k => k ≤ rs.length) (fun k => rs.length - k) 0 (fun x => by simp (maxSteps := 1000000) -implicitDefEqProofs (disch := omega) only [go_sem]; rfl) ?_ ?_ fun x hx => ?_
   · exact weak_do3 []
   · exact Nat.zero_le _
   rename Nat => k
   have hlk := hln k
   by_cases hlt2 : k < rs.length
   · have hsk := hsu k hlt2
     repeat' (first
       | (with_reducible apply Req_intro); focus (first | omega | assumption | (simp; done))
       | with_reducible (first | apply Req_intro | refine nilT ?_ fun hn => ?_ | apply wk_draw Tryd_mixed | refine drawEnd (by kernel_rfl) ?_)
       | (with_reducible (first | apply condA_if | apply stepDG_ifN | apply stepDG_if | apply stepG_ifN | apply stepG_if)) <;> intro hb <;> (have hif := hb) <;> (try simp only [bo] at hif) <;> (try simp -implicitDefEqProofs (disch := omega) only [go_sem, hb]) <;> clear hb
       | simp (maxSteps := 1000000) -implicitDefEqProofs (disch := omega) only [go_sem])
     all_goals first | exact absurd trivial ‹¬True› | exact absurd ‹false = true› (by decide) | exact absurd ‹true = false› (by decide) | (exfalso; omega) | omega | skip
     with_reducible refine nxt_w (k + 1) ?_ ?_
     · (try dsimp only)
       rw [hsk, List.map_append]
       exact weak_do3 [(65, 1472)]
     try dsimp only
     omega
   · obtain rfl : k = rs.length := by omega
     repeat' (first
       | (with_reducible apply Req_intro); focus (first | omega | assumption | (simp; done))
       | with_reducible (first | apply Req_intro | refine nilT ?_ fun hn => ?_ | apply wk_draw Tryd_mixed | refine drawEnd (by kernel_rfl) ?_)
       | (with_reducible (first | apply condA_if | apply stepDG_ifN | apply stepDG_if | apply stepG_ifN | apply stepG_if)) <;> intro hb <;> (have hif := hb) <;> (try simp only [bo] at hif) <;> (try simp -implicitDefEqProofs (disch := omega) only [go_sem, hb]) <;> clear hb
       | simp (maxSteps := 1000000) -implicitDefEqProofs (disch := omega) only [go_sem])
     all_goals first | exact absurd trivial ‹¬True› | exact absurd ‹false = true› (by decide) | exact absurd ‹true = false› (by decide) | (exfalso; omega) | omega | skip
     rw [he]
     with_reducible refine nxt_w (i + 1) ?_ ?_
     · (try dsimp only)
       skip
       exact weak_do3 []
     try dsimp only
     omega
 · obtain rfl : i = ls.length := by omega
   have hlA := allTo_len rs.length (ls.length * rs.length)
   have hget := fun x => allTo_get (nr := rs.length) (n := ls.length * rs.length) (x := x)
   have hplt := fun x => pairNo_lt (nl := ls.length) (nr := rs.length) (x := x)
   have hsome := fun i k => twin_some (nl := ls.length) (nr := rs.length) (ok := okTwin g ls rs) (i := i) (k := k)
   have hnone := twin_none (nl := ls.length) (nr := rs.length) (ok := okTwin g ls rs)
   generalize ls.length * rs.length = NN at *
   generalize allTo rs.length NN = A at *
   generalize (refTwinList ls.length rs.length (okTwin g ls rs)).head? = RES at *
   repeat' (first
     | (with_reducible apply Req_intro); focus (first | omega | assumption | (simp; done))
     | with_reducible (first | apply Req_intro | refine nilT ?_ fun hn => ?_ | apply wk_draw Tryd_mixed | refine drawEnd (by kernel_rfl) ?_)
     | (with_reducible (first | apply condA_if | apply stepDG_ifN | apply stepDG_if | apply stepG_ifN | apply stepG_if)) <;> intro hb <;> (have hif := hb) <;> (try simp only [bo] at hif) <;> (try simp -implicitDefEqProofs (disch := omega) only [go_sem, hb]) <;> clear hb
     | simp (maxSteps := 1000000) -implicitDefEqProofs (disch := omega) only [go_sem])
   all_goals first | exact absurd trivial ‹¬True› | exact absurd ‹false = true› (by decide) | exact absurd ‹true = false› (by decide) | (exfalso; omega) | omega | skip
   refine loop_rows (α := Nat) (10 :: 11 :: 12 :: 13 :: 14 :: 15 :: 16 :: [4, 5, 9, 10, 11, 12, 13, 14, 15, 16, 38, 39, 40, 41, 42, 43, 44, 45, 46, 47, 48, 49, 50, 51, 52, 53, 54, 55, 56, 57, 58, 59, 60, 61, 62, 63, 64, 65, 66, 67, 68, 69, 70, 71, 72, 73, 74, 75, 76, 77, 78, 79, 80, 81, 82, 83, 84, 85, 86, 87, 88, 89, 90, 91, 92, 93, 94, 95, 96, 97, 98, 99, 100, 101, 102, 103, 104, 105, 106, 107, 108, 109, 110, 111, 112, 113, 114, 115, 116, 117, 118, 119, 120, 121, 122]) (fun i => [(9, .lit (.int .i64 i)), (6, .os 65 2 NN false)]) (fun i => [(0, some ⟨2, [[.sl 2 (ls.map encGd) e1, .sl 2 (rs.map encGd) e2]], 38, .wr⟩), (64, some ⟨4, [[int g.sc, int g.ga, int g.we, int g.cu]], 26, .wr⟩), (65, some ⟨2, A.map encP, 85, .wr⟩)]) (fun i => i ≤ NN ∧ ∀ x, x < i → ∀ y, y < NN → twQ rs.length (okTwin g ls rs) x y = false) (fun i => NN - i) 0 (fun x => by simp (maxSteps := 1000000) -implicitDefEqProofs (disch := omega) only [go_sem]; rfl) ?_ ?_ fun x hx => ?_
   · exact weak_do3 []
   · exact ⟨Nat.zero_le _, fun x hx => absurd hx (Nat.not_lt_zero _)⟩
   obtain ⟨hi1, hi2⟩ := hx
   rename Nat => i
   by_cases hlt : i < NN
   · have hpi := hplt i hlt
     have hgi := hget i hlt
     repeat' (first
       | (with_reducible apply Req_intro); focus (first | omega | assumption | (simp; done))
       | with_reducible (first | apply Req_intro | refine nilT ?_ fun hn => ?_ | apply wk_draw Tryd_mixed | refine drawEnd (by kernel_rfl) ?_)
       | (with_reducible (first | apply condA_if | apply stepDG_ifN | apply stepDG_if | apply stepG_ifN | apply stepG_if)) <;> intro hb <;> (have hif := hb) <;> (try simp only [bo] at hif) <;> (try simp -implicitDefEqProofs (disch := omega) only [go_sem, hb]) <;> clear hb
       | simp (maxSteps := 1000000) -implicitDefEqProofs (disch := omega) only [go_sem])
     all_goals first | exact absurd trivial ‹¬True› | exact absurd ‹false = true› (by decide) | exact absurd ‹true = false› (by decide) | (exfalso; omega) | omega | skip
     refine loop_rows (α := Nat) (11 :: 12 :: 13 :: 14 :: 15 :: 16 :: [4, 5, 10, 11, 12, 13, 14, 15, 16, 46, 47, 48, 49, 50, 51, 52, 53, 54, 55, 56, 57, 58, 59, 60, 61, 62, 63, 64, 65, 66, 67, 68, 69, 70, 71, 72, 73, 74, 75, 76, 77, 78, 79, 80, 81, 82, 83, 84, 85, 86, 87, 88, 89, 90, 91, 92, 93, 94, 95, 96, 97, 98, 99, 100, 101, 102, 103, 104, 105, 106, 107, 108, 109, 110, 111, 112, 113, 114, 115, 116, 117, 118, 119, 120, 121, 122]) (fun k => [(10, .lit (.int .i64 k)), (6, .os 65 2 NN false)]) (fun i => [(0, some ⟨2, [[.sl 2 (ls.map encGd) e1, .sl 2 (rs.map encGd) e2]], 38, .wr⟩), (64, some ⟨4, [[int g.sc, int g.ga, int g.we, int g.cu]], 26, .wr⟩), (65, some ⟨2, A.map encP, 85, .wr⟩)]) (fun k => i < k ∧ k ≤ NN ∧ ∀ y, y < k → twQ rs.length (okTwin g ls rs) i y = false) (fun k => NN - k) (i + 1) (fun x => by simp (maxSteps := 1000000) -implicitDefEqProofs (disch := omega) only [go_sem]; rfl) ?_ ?_ fun x hx => ?_
     · exact weak_do3 []
     · refine ⟨by omega, by omega, fun y hy => ?_⟩
       unfold twQ
       rw [decide_eq_false (by omega), Bool.false_and]
     obtain ⟨hk0, hk1, hk2⟩ := hx
     rename Nat => k
     by_cases hlt2 : k < NN
     · have hpk := hplt k hlt2
       have hgk := hget k hlt2
       rcases hpi' : pairNo rs.length i with ⟨a1, a2⟩
       rcases hpk' : pairNo rs.length k with ⟨b1, b2⟩
       rw [hpi'] at hpi hgi
       rw [hpk'] at hpk hgk
       simp only at hpi hpk
       have hFk : ∀ x ∈ [ls.getD a1 default, rs.getD a2 default, ls.getD b1 default, rs.getD b2 default], GrdOk n x := fun x hx => by
         simp only [List.mem_cons, List.not_mem_nil, or_false] at hx
         rcases hx with rfl | rfl | rfl | rfl
         · exact hg.l _ (getD_mem hpi.1)
         · exact hg.r _ (getD_mem hpi.2)
         · exact hg.l _ (getD_mem hpk.1)
         · exact hg.r _ (getD_mem hpk.2)
       have hF4 : [ls.getD a1 default, rs.getD a2 default, ls.getD b1 default, rs.getD b2 default].length = 4 := rfl
       generalize hFd : [ls.getD a1 default, rs.getD a2 default, ls.getD b1 default, rs.getD b2 default] = F at *
       by_cases h1 : a1 = b1
       · repeat' (first
           | (with_reducible apply Req_intro); focus (first | omega | assumption | (simp; done))
           | with_reducible (first | apply Req_intro | refine nilT ?_ fun hn => ?_ | apply wk_draw Tryd_mixed | refine drawEnd (by kernel_rfl) ?_)
           | (with_reducible (first | apply condA_if | apply stepDG_ifN | apply stepDG_if | apply stepG_ifN | apply stepG_if)) <;> intro hb <;> (have hif := hb) <;> (try simp only [bo] at hif) <;> (try simp -implicitDefEqProofs (disch := omega) only [go_sem, hb, hgi, hgk]) <;> clear hb
           | simp (maxSteps := 1000000) -implicitDefEqProofs (disch := omega) only [go_sem, hgi, hgk])
         all_goals first | exact absurd trivial ‹¬True› | exact absurd ‹false = true› (by decide) | exact absurd ‹true = false› (by decide) | (exfalso; omega) | omega | skip
         have hq : twQ rs.length (okTwin g ls rs) i k = okFour g F false 4 := by
           rw [← hF4, show false = decide (a1 ≠ b1 ∧ a2 ≠ b2) from by rw [decide_eq_false (fun h => h.1 h1)]]
           rw [hF4, ← hFd, okFour_four g ls rs (a1, a2) (b1, b2)]
           unfold twQ
           rw [hpi', hpk', decide_eq_true hk0, Bool.true_and]
         have hA0 : okFour g F false 0 = false := rfl
         have hAs : ∀ m, okFour g F false (m + 1) = okRw g F m (okFour g F false m) m := fun m => rfl
         rw [show [[V.lit (.int .i64 (ls.getD a1 default).1), V.sl 1 ((ls.getD a1 default).2.map encI) false], [V.lit (.int .i64 (rs.getD a2 default).1), V.sl 1 ((rs.getD a2 default).2.map encI) false], [V.lit (.int .i64 (ls.getD b1 default).1), V.sl 1 ((ls.getD b1 default).2.map encI) false], [V.lit (.int .i64 (rs.getD b2 default).1), V.sl 1 ((rs.getD b2 default).2.map encI) false]] = F.map encGd from by rw [← hFd]; rfl]
         generalize okFour g F false = OA at *
         clear hFd
         refine loop_rows (α := Nat) (16 :: [14, 15, 16, 97, 98, 99, 100, 101, 102, 103, 104, 105, 106, 107, 108, 109, 110, 111, 112, 113, 114, 115, 116, 117, 118]) (fun m => [(15, .lit (.int .i64 m)), (14, .lit (.bool (OA m)))]) (fun m => [(0, some ⟨2, [[.sl 2 (ls.map encGd) e1, .sl 2 (rs.map encGd) e2]], 38, .wr⟩), (64, some ⟨4, [[int g.sc, int g.ga, int g.we, int g.cu]], 26, .wr⟩), (65, some ⟨2, A.map encP, 85, .wr⟩), (2048, some ⟨2, [[int a1, int a2]], 85, .wr⟩), (2112, some ⟨2, [[int b1, int b2]], 85, .wr⟩), (3840, some ⟨2, F.map encGd, 24, .wr⟩)]) (fun m => m ≤ 4) (fun m => 4 - m) 0 (fun x => by simp (maxSteps := 1000000) -implicitDefEqProofs (disch := omega) only [go_sem]; rfl) ?_ ?_ fun x hx => ?_
         · rw [hA0]
           exact weak_do3 []
         · exact Nat.zero_le _
         rename Nat => m
         by_cases hm4 : m < 4
         · have hR0 : okRw g F m (OA m) 0 = OA m := rfl
           have hRs : ∀ q, okRw g F m (OA m) (q + 1) = (okRw g F m (OA m) q && alikeR g (F.getD m default) (F.getD q default) 2) := fun q => rfl
           have hAm := hAs m
           have hgm := hFk _ (getD_mem (l := F) (i := m) (by omega))
           generalize okRw g F m (OA m) = OR at *
           repeat' (first
             | (with_reducible apply Req_intro); focus (first | omega | assumption | (simp; done))
             | with_reducible (first | apply Req_intro | refine nilT ?_ fun hn => ?_ | apply wk_draw Tryd_mixed | refine drawEnd (by kernel_rfl) ?_)
             | (with_reducible (first | apply condA_if | apply stepDG_ifN | apply stepDG_if | apply stepG_ifN | apply stepG_if)) <;> intro hb <;> (have hif := hb) <;> (try simp only [bo] at hif) <;> (try simp -implicitDefEqProofs (disch := omega) only [go_sem, hb]) <;> clear hb
             | simp (maxSteps := 1000000) -implicitDefEqProofs (disch := omega) only [go_sem])
           all_goals first | exact absurd trivial ‹¬True› | exact absurd ‹false = true› (by decide) | exact absurd ‹true = false› (by decide) | (exfalso; omega) | omega | skip
           refine loop_rows (α := Nat) ([14, 16, 101, 102, 103, 104, 105, 106, 107, 108, 109, 110, 111, 112, 113, 114, 115, 116, 117, 118]) (fun q => [(16, .lit (.int .i64 q)), (14, .lit (.bool (OR q)))]) (fun q => [(0, some ⟨2, [[.sl 2 (ls.map encGd) e1, .sl 2 (rs.map encGd) e2]], 38, .wr⟩), (64, some ⟨4, [[int g.sc, int g.ga, int g.we, int g.cu]], 26, .wr⟩), (65, some ⟨2, A.map encP, 85, .wr⟩), (2048, some ⟨2, [[int a1, int a2]], 85, .wr⟩), (2112, some ⟨2, [[int b1, int b2]], 85, .wr⟩), (3840, some ⟨2, F.map encGd, 24, .wr⟩)]) (fun q => q ≤ m) (fun q => m - q) 0 (fun x => by simp (maxSteps := 1000000) -implicitDefEqProofs (disch := omega) only [go_sem]; rfl) ?_ ?_ fun x hx => ?_
           · rw [hR0]
             exact weak_do3 []
           · exact Nat.zero_le _
           rename Nat => q
           by_cases hqm : q < m
           · have hRq := hRs q
             have hgq := hFk _ (getD_mem (l := F) (i := q) (by omega))
             have hsu := rSurely_spec g (F.getD m default) (F.getD q default) n hg.n4 hg.g hgm hgq
             generalize alikeR g (F.getD m default) (F.getD q default) 2 = av at *
             cases ho : OR q with
             | true =>
               rw [ho, Bool.true_and] at hRq
               repeat' (first
                 | (with_reducible apply Req_intro); focus (first | omega | assumption | (simp; done))
                 | with_reducible (first | apply Req_intro | refine nilT ?_ fun hn => ?_ | apply wk_draw Tryd_mixed | refine drawEnd (by kernel_rfl) ?_)
                 | (with_reducible (first | apply condA_if | apply stepDG_ifN | apply stepDG_if | apply stepG_ifN | apply stepG_if)) <;> intro hb <;> (have hif := hb) <;> (try simp only [bo] at hif) <;> (try simp -implicitDefEqProofs (disch := omega) only [go_sem, hb, ho]) <;> clear hb
                 | simp (maxSteps := 1000000) -implicitDefEqProofs (disch := omega) only [go_sem, ho])
               all_goals first | exact absurd trivial ‹¬True› | exact absurd ‹false = true› (by decide) | exact absurd ‹true = false› (by decide) | (exfalso; omega) | omega | skip
               first | refine callp hsu ?_ | refine calld hsu ?_
               try simp (maxSteps := 1000000) -implicitDefEqProofs (disch := omega) only [go_sem]
               repeat' (first
                 | (with_reducible apply Req_intro); focus (first | omega | assumption | (simp; done))
                 | with_reducible (first | apply Req_intro | refine nilT ?_ fun hn => ?_ | apply wk_draw Tryd_mixed | refine drawEnd (by kernel_rfl) ?_)
                 | (with_reducible (first | apply condA_if | apply stepDG_ifN | apply stepDG_if | apply stepG_ifN | apply stepG_if)) <;> intro hb <;> (have hif := hb) <;> (try simp only [bo] at hif) <;> (try simp -implicitDefEqProofs (disch := omega) only [go_sem, hb]) <;> clear hb
                 | simp (maxSteps := 1000000) -implicitDefEqProofs (disch := omega) only [go_sem])
               all_goals first | exact absurd trivial ‹¬True› | exact absurd ‹false = true› (by decide) | exact absurd ‹true = false› (by decide) | (exfalso; omega) | omega | skip
               with_reducible refine nxt_w (q + 1) ?_ ?_
               · (try dsimp only)
                 rw [hRq]
                 exact weak_do3 []
               try dsimp only
               omega
             | false =>
               rw [ho, Bool.false_and] at hRq
               repeat' (first
                 | (with_reducible apply Req_intro); focus (first | omega | assumption | (simp; done))
                 | with_reducible (first | apply Req_intro | refine nilT ?_ fun hn => ?_ | apply wk_draw Tryd_mixed | refine drawEnd (by kernel_rfl) ?_)
                 | (with_reducible (first | apply condA_if | apply stepDG_ifN | apply stepDG_if | apply stepG_ifN | apply stepG_if)) <;> intro hb <;> (have hif := hb) <;> (try simp only [bo] at hif) <;> (try simp -implicitDefEqProofs (disch := omega) only [go_sem, hb, ho]) <;> clear hb
                 | simp (maxSteps := 1000000) -implicitDefEqProofs (disch := omega) only [go_sem, ho])
               all_goals first | exact absurd trivial ‹¬True› | exact absurd ‹false = true› (by decide) | exact absurd ‹true = false› (by decide) | (exfalso; omega) | omega | skip
               with_reducible refine nxt_w (q + 1) ?_ ?_
               · (try dsimp only)
                 rw [hRq]
                 exact weak_do3 []
               try dsimp only
               omega
           · obtain rfl : q = m := by omega
             rw [← hAm]
             repeat' (first
               | (with_reducible apply Req_intro); focus (first | omega | assumption | (simp; done))
               | with_reducible (first | apply Req_intro | refine nilT ?_ fun hn => ?_ | apply wk_draw Tryd_mixed | refine drawEnd (by kernel_rfl) ?_)
               | (with_reducible (first | apply condA_if | apply stepDG_ifN | apply stepDG_if | apply stepG_ifN | apply stepG_if)) <;> intro hb <;> (have hif := hb) <;> (try simp only [bo] at hif) <;> (try simp -implicitDefEqProofs (disch := omega) only [go_sem, hb]) <;> clear hb
               | simp (maxSteps := 1000000) -implicitDefEqProofs (disch := omega) only [go_sem])
             all_goals first | exact absurd trivial ‹¬True› | exact absurd ‹false = true› (by decide) | exact absurd ‹true = false› (by decide) | (exfalso; omega) | omega | skip
             with_reducible refine nxt_w (q + 1) ?_ ?_
             · (try dsimp only)
               skip
               exact weak_do3 []
             try dsimp only
             omega
         · obtain rfl : m = 4 := by omega
           cases ho : OA 4 with
           | true =>
             have hr := hsome i k hlt hlt2 (by rw [hq, ho]) hi2 hk2
             rw [hpi', hpk'] at hr
             subst hr
             repeat' (first
               | (with_reducible apply Req_intro); focus (first | omega | assumption | (simp; done))
               | with_reducible (first | apply Req_intro | refine nilT ?_ fun hn => ?_ | apply wk_draw Tryd_mixed | refine drawEnd (by kernel_rfl) ?_)
               | (with_reducible (first | apply condA_if | apply stepDG_ifN | apply stepDG_if | apply stepG_ifN | apply stepG_if)) <;> intro hb <;> (have hif := hb) <;> (try simp only [bo] at hif) <;> (try simp -implicitDefEqProofs (disch := omega) only [go_sem, hb, ho]) <;> clear hb
               | simp (maxSteps := 1000000) -implicitDefEqProofs (disch := omega) only [go_sem, ho])
             all_goals first | exact absurd trivial ‹¬True› | exact absurd ‹false = true› (by decide) | exact absurd ‹true = false› (by decide) | (exfalso; omega) | omega | skip
             exact retf [5184] [4, 5] [.sl 2 [[int a1, int a2], [int b1, int b2]] false, .lit (.bool true)]
           | false =>
             rw [ho] at hq
             repeat' (first
               | (with_reducible apply Req_intro); focus (first | omega | assumption | (simp; done))
               | with_reducible (first | apply Req_intro | refine nilT ?_ fun hn => ?_ | apply wk_draw Tryd_mixed | refine drawEnd (by kernel_rfl) ?_)
               | (with_reducible (first | apply condA_if | apply stepDG_ifN | apply stepDG_if | apply stepG_ifN | apply stepG_if)) <;> intro hb <;> (have hif := hb) <;> (try simp only [bo] at hif) <;> (try simp -implicitDefEqProofs (disch := omega) only [go_sem, hb, ho]) <;> clear hb
               | simp (maxSteps := 1000000) -implicitDefEqProofs (disch := omega) only [go_sem, ho])
             all_goals first | exact absurd trivial ‹¬True› | exact absurd ‹false = true› (by decide) | exact absurd ‹true = false› (by decide) | (exfalso; omega) | omega | skip
             with_reducible refine nxt_w (k + 1) ?_ ?_
             · (try dsimp only)
               skip
               exact weak_do3 []
             try dsimp only
             refine ⟨by omega, by omega, fun y hy => ?_⟩
             rcases Nat.lt_succ_iff_lt_or_eq.1 hy with h | rfl
             · exact hk2 y h
             · exact hq
       · repeat' (first
           | (with_reducible apply Req_intro); focus (first | omega | assumption | (simp; done))
           | with_reducible (first | apply Req_intro | refine nilT ?_ fun hn => ?_ | apply wk_draw Tryd_mixed | refine drawEnd (by kernel_rfl) ?_)
           | (with_reducible (first | apply condA_if | apply stepDG_ifN | apply stepDG_if | apply stepG_ifN | apply stepG_if)) <;> intro hb <;> (have hif := hb) <;> (try simp only [bo] at hif) <;> (try simp -implicitDefEqProofs (disch := omega) only [go_sem, hb, hgi, hgk]) <;> clear hb
           | simp (maxSteps := 1000000) -implicitDefEqProofs (disch := omega) only [go_sem, hgi, hgk])
         all_goals first | exact absurd trivial ‹¬True› | exact absurd ‹false = true› (by decide) | exact absurd ‹true = false› (by decide) | (exfalso; omega) | omega | skip
         have hq : twQ rs.length (okTwin g ls rs) i k = okFour g F ((a2 : Int) != (b2 : Int)) 4 := by
           rw [← hF4, show ((a2 : Int) != (b2 : Int)) = decide (a1 ≠ b1 ∧ a2 ≠ b2) from by by_cases h2 : a2 = b2 <;> simp [h1, h2] <;> omega]
           rw [hF4, ← hFd, okFour_four g ls rs (a1, a2) (b1, b2)]
           unfold twQ
           rw [hpi', hpk', decide_eq_true hk0, Bool.true_and]
         have hA0 : okFour g F ((a2 : Int) != (b2 : Int)) 0 = ((a2 : Int) != (b2 : Int)) := rfl
         have hAs : ∀ m, okFour g F ((a2 : Int) != (b2 : Int)) (m + 1) = okRw g F m (okFour g F ((a2 : Int) != (b2 : Int)) m) m := fun m => rfl
         rw [show [[V.lit (.int .i64 (ls.getD a1 default).1), V.sl 1 ((ls.getD a1 default).2.map encI) false], [V.lit (.int .i64 (rs.getD a2 default).1), V.sl 1 ((rs.getD a2 default).2.map encI) false], [V.lit (.int .i64 (ls.getD b1 default).1), V.sl 1 ((ls.getD b1 default).2.map encI) false], [V.lit (.int .i64 (rs.getD b2 default).1), V.sl 1 ((rs.getD b2 default).2.map encI) false]] = F.map encGd from by rw [← hFd]; rfl]
         generalize okFour g F ((a2 : Int) != (b2 : Int)) = OA at *
         clear hFd
         refine loop_rows (α := Nat) (16 :: [14, 15, 16, 97, 98, 99, 100, 101, 102, 103, 104, 105, 106, 107, 108, 109, 110, 111, 112, 113, 114, 115, 116, 117, 118]) (fun m => [(15, .lit (.int .i64 m)), (14, .lit (.bool (OA m)))]) (fun m => [(0, some ⟨2, [[.sl 2 (ls.map encGd) e1, .sl 2 (rs.map encGd) e2]], 38, .wr⟩), (64, some ⟨4, [[int g.sc, int g.ga, int g.we, int g.cu]], 26, .wr⟩), (65, some ⟨2, A.map encP, 85, .wr⟩), (2048, some ⟨2, [[int a1, int a2]], 85, .wr⟩), (2112, some ⟨2, [[int b1, int b2]], 85, .wr⟩), (3840, some ⟨2, F.map encGd, 24, .wr⟩)]) (fun m => m ≤ 4) (fun m => 4 - m) 0 (fun x => by simp (maxSteps := 1000000) -implicitDefEqProofs (disch := omega) only [go_sem]; rfl) ?_ ?_ fun x hx => ?_
         · rw [hA0]
           exact weak_do3 []
         · exact Nat.zero_le _
         rename Nat => m
         by_cases hm4 : m < 4
         · have hR0 : okRw g F m (OA m) 0 = OA m := rfl
           have hRs : ∀ q, okRw g F m (OA m) (q + 1) = (okRw g F m (OA m) q && alikeR g (F.getD m default) (F.getD q default) 2) := fun q => rfl
           have hAm := hAs m
           have hgm := hFk _ (getD_mem (l := F) (i := m) (by omega))
           generalize okRw g F m (OA m) = OR at *
           repeat' (first
             | (with_reducible apply Req_intro); focus (first | omega | assumption | (simp; done))
             | with_reducible (first | apply Req_intro | refine nilT ?_ fun hn => ?_ | apply wk_draw Tryd_mixed | refine drawEnd (by kernel_rfl) ?_)
             | (with_reducible (first | apply condA_if | apply stepDG_ifN | apply stepDG_if | apply stepG_ifN | apply stepG_if)) <;> intro hb <;> (have hif := hb) <;> (try simp only [bo] at hif) <;> (try simp -implicitDefEqProofs (disch := omega) only [go_sem, hb]) <;> clear hb
             | simp (maxSteps := 1000000) -implicitDefEqProofs (disch := omega) only [go_sem])
           all_goals first | exact absurd trivial ‹¬True› | exact absurd ‹false = true› (by decide) | exact absurd ‹true = false› (by decide) | (exfalso; omega) | omega | skip
           refine loop_rows (α := Nat) ([14, 16, 101, 102, 103, 104, 105, 106, 107, 108, 109, 110, 111, 112, 113, 114, 115, 116, 117, 118]) (fun q => [(16, .lit (.int .i64 q)), (14, .lit (.bool (OR q)))]) (fun q => [(0, some ⟨2, [[.sl 2 (ls.map encGd) e1, .sl 2 (rs.map encGd) e2]], 38, .wr⟩), (64, some ⟨4, [[int g.sc, int g.ga, int g.we, int g.cu]], 26, .wr⟩), (65, some ⟨2, A.map encP, 85, .wr⟩), (2048, some ⟨2, [[int a1, int a2]], 85, .wr⟩), (2112, some ⟨2, [[int b1, int b2]], 85, .wr⟩), (3840, some ⟨2, F.map encGd, 24, .wr⟩)]) (fun q => q ≤ m) (fun q => m - q) 0 (fun x => by simp (maxSteps := 1000000) -implicitDefEqProofs (disch := omega) only [go_sem]; rfl) ?_ ?_ fun x hx => ?_
           · rw [hR0]
             exact weak_do3 []
           · exact Nat.zero_le _
           rename Nat => q
           by_cases hqm : q < m
           · have hRq := hRs q
             have hgq := hFk _ (getD_mem (l := F) (i := q) (by omega))
             have hsu := rSurely_spec g (F.getD m default) (F.getD q default) n hg.n4 hg.g hgm hgq
             generalize alikeR g (F.getD m default) (F.getD q default) 2 = av at *
             cases ho : OR q with
             | true =>
               rw [ho, Bool.true_and] at hRq
               repeat' (first
                 | (with_reducible apply Req_intro); focus (first | omega | assumption | (simp; done))
                 | with_reducible (first | apply Req_intro | refine nilT ?_ fun hn => ?_ | apply wk_draw Tryd_mixed | refine drawEnd (by kernel_rfl) ?_)
                 | (with_reducible (first | apply condA_if | apply stepDG_ifN | apply stepDG_if | apply stepG_ifN | apply stepG_if)) <;> intro hb <;> (have hif := hb) <;> (try simp only [bo] at hif) <;> (try simp -implicitDefEqProofs (disch := omega) only [go_sem, hb, ho]) <;> clear hb
                 | simp (maxSteps := 1000000) -implicitDefEqProofs (disch := omega) only [go_sem, ho])
               all_goals first | exact absurd trivial ‹¬True› | exact absurd ‹false = true› (by decide) | exact absurd ‹true = false› (by decide) | (exfalso; omega) | omega | skip
               first | refine callp hsu ?_ | refine calld hsu ?_
               try simp (maxSteps := 1000000) -implicitDefEqProofs (disch := omega) only [go_sem]
               repeat' (first
                 | (with_reducible apply Req_intro); focus (first | omega | assumption | (simp; done))
                 | with_reducible (first | apply Req_intro | refine nilT ?_ fun hn => ?_ | apply wk_draw Tryd_mixed | refine drawEnd (by kernel_rfl) ?_)
                 | (with_reducible (first | apply condA_if | apply stepDG_ifN | apply stepDG_if | apply stepG_ifN | apply stepG_if)) <;> intro hb <;> (have hif := hb) <;> (try simp only [bo] at hif) <;> (try simp -implicitDefEqProofs (disch := omega) only [go_sem, hb]) <;> clear hb
                 | simp (maxSteps := 1000000) -implicitDefEqProofs (disch := omega) only [go_sem])
               all_goals first | exact absurd trivial ‹¬True› | exact absurd ‹false = true› (by decide) | exact absurd ‹true = false› (by decide) | (exfalso; omega) | omega | skip
               with_reducible refine nxt_w (q + 1) ?_ ?_
               · (try dsimp only)
                 rw [hRq]
                 exact weak_do3 []
               try dsimp only
               omega
             | false =>
               rw [ho, Bool.false_and] at hRq
               repeat' (first
                 | (with_reducible apply Req_intro); focus (first | omega | assumption | (simp; done))
                 | with_reducible (first | apply Req_intro | refine nilT ?_ fun hn => ?_ | apply wk_draw Tryd_mixed | refine drawEnd (by kernel_rfl) ?_)
                 | (with_reducible (first | apply condA_if | apply stepDG_ifN | apply stepDG_if | apply stepG_ifN | apply stepG_if)) <;> intro hb <;> (have hif := hb) <;> (try simp only [bo] at hif) <;> (try simp -implicitDefEqProofs (disch := omega) only [go_sem, hb, ho]) <;> clear hb
                 | simp (maxSteps := 1000000) -implicitDefEqProofs (disch := omega) only [go_sem, ho])
               all_goals first | exact absurd trivial ‹¬True› | exact absurd ‹false = true› (by decide) | exact absurd ‹true = false› (by decide) | (exfalso; omega) | omega | skip
               with_reducible refine nxt_w (q + 1) ?_ ?_
               · (try dsimp only)
                 rw [hRq]
                 exact weak_do3 []
               try dsimp only
               omega
           · obtain rfl : q = m := by omega
             rw [← hAm]
             repeat' (first
               | (with_reducible apply Req_intro); focus (first | omega | assumption | (simp; done))
               | with_reducible (first | apply Req_intro | refine nilT ?_ fun hn => ?_ | apply wk_draw Tryd_mixed | refine drawEnd (by kernel_rfl) ?_)
               | (with_reducible (first | apply condA_if | apply stepDG_ifN | apply stepDG_if | apply stepG_ifN | apply stepG_if)) <;> intro hb <;> (have hif := hb) <;> (try simp only [bo] at hif) <;> (try simp -implicitDefEqProofs (disch := omega) only [go_sem, hb]) <;> clear hb
               | simp (maxSteps := 1000000) -implicitDefEqProofs (disch := omega) only [go_sem])
             all_goals first | exact absurd trivial ‹¬True› | exact absurd ‹false = true› (by decide) | exact absurd ‹true = false› (by decide) | (exfalso; omega) | omega | skip
             with_reducible refine nxt_w (q + 1) ?_ ?_
             · (try dsimp only)
               skip
               exact weak_do3 []
             try dsimp only
             omega
         · obtain rfl : m = 4 := by omega
           cases ho : OA 4 with
           | true =>
             have hr := hsome i k hlt hlt2 (by rw [hq, ho]) hi2 hk2
             rw [hpi', hpk'] at hr
             subst hr
             repeat' (first
               | (with_reducible apply Req_intro); focus (first | omega | assumption | (simp; done))
               | with_reducible (first | apply Req_intro | refine nilT ?_ fun hn => ?_ | apply wk_draw Tryd_mixed | refine drawEnd (by kernel_rfl) ?_)
               | (with_reducible (first | apply condA_if | apply stepDG_ifN | apply stepDG_if | apply stepG_ifN | apply stepG_if)) <;> intro hb <;> (have hif := hb) <;> (try simp only [bo] at hif) <;> (try simp -implicitDefEqProofs (disch := omega) only [go_sem, hb, ho]) <;> clear hb
               | simp (maxSteps := 1000000) -implicitDefEqProofs (disch := omega) only [go_sem, ho])
             all_goals first | exact absurd trivial ‹¬True› | exact absurd ‹false = true› (by decide) | exact absurd ‹true = false› (by decide) | (exfalso; omega) | omega | skip
             exact retf [5184] [4, 5] [.sl 2 [[int a1, int a2], [int b1, int b2]] false, .lit (.bool true)]
           | false =>
             rw [ho] at hq
             repeat' (first
               | (with_reducible apply Req_intro); focus (first | omega | assumption | (simp; done))
               | with_reducible (first | apply Req_intro | refine nilT ?_ fun hn => ?_ | apply wk_draw Tryd_mixed | refine drawEnd (by kernel_rfl) ?_)
               | (with_reducible (first | apply condA_if | apply stepDG_ifN | apply stepDG_if | apply stepG_ifN | apply stepG_if)) <;> intro hb <;> (have hif := hb) <;> (try simp only [bo] at hif) <;> (try simp -implicitDefEqProofs (disch := omega) only [go_sem, hb, ho]) <;> clear hb
               | simp (maxSteps := 1000000) -implicitDefEqProofs (disch := omega) only [go_sem, ho])
             all_goals first | exact absurd trivial ‹¬True› | exact absurd ‹false = true› (by decide) | exact absurd ‹true = false› (by decide) | (exfalso; omega) | omega | skip
             with_reducible refine nxt_w (k + 1) ?_ ?_
             · (try dsimp only)
               skip
               exact weak_do3 []
             try dsimp only
             refine ⟨by omega, by omega, fun y hy => ?_⟩
             rcases Nat.lt_succ_iff_lt_or_eq.1 hy with h | rfl
             · exact hk2 y h
             · exact hq
     · repeat' (first
         | (with_reducible apply Req_intro); focus (first | omega | assumption | (simp; done))
         | with_reducible (first | apply Req_intro | refine nilT ?_ fun hn => ?_ | apply wk_draw Tryd_mixed | refine drawEnd (by kernel_rfl) ?_)
         | (with_reducible (first | apply condA_if | apply stepDG_ifN | apply stepDG_if | apply stepG_ifN | apply stepG_if)) <;> intro hb <;> (have hif := hb) <;> (try simp only [bo] at hif) <;> (try simp -implicitDefEqProofs (disch := omega) only [go_sem, hb]) <;> clear hb
         | simp (maxSteps := 1000000) -implicitDefEqProofs (disch := omega) only [go_sem])
       all_goals first | exact absurd trivial ‹¬True› | exact absurd ‹false = true› (by decide) | exact absurd ‹true = false› (by decide) | (exfalso; omega) | omega | skip
       with_reducible refine nxt_w (i + 1) ?_ ?_
       · (try dsimp only)
         skip
         exact weak_do3 []
       try dsimp only
       refine ⟨by omega, fun x hx y hy => ?_⟩
       rcases Nat.lt_succ_iff_lt_or_eq.1 hx with h | rfl
       · exact hi2 x h y hy
       · exact hk2 y (by omega)
   · have hn := hnone fun x hx y hy => hi2 x (by omega) y hy
     subst hn
     repeat' (first
       | (with_reducible apply Req_intro); focus (first | omega | assumption | (simp; done))
       | with_reducible (first | apply Req_intro | refine nilT ?_ fun hn => ?_ | apply wk_draw Tryd_mixed | refine drawEnd (by kernel_rfl) ?_)
       | (with_reducible (first | apply condA_if | apply stepDG_ifN | apply stepDG_if | apply stepG_ifN | apply stepG_if)) <;> intro hb <;> (have hif := hb) <;> (try simp only [bo] at hif) <;> (try simp -implicitDefEqProofs (disch := omega) only [go_sem, hb]) <;> clear hb
       | simp (maxSteps := 1000000) -implicitDefEqProofs (disch := omega) only [go_sem])
     all_goals first | exact absurd trivial ‹¬True› | exact absurd ‹false = true› (by decide) | exact absurd ‹true = false› (by decide) | (exfalso; omega) | omega | skip
     exact retf [] [4, 5] [.sl 2 [] false, .lit (.bool false)]
end Go.Aw
end
section
set_option maxRecDepth 20000
set_option maxHeartbeats 4000000
namespace Go.Aw
open Go.RowKit Go.Proofs
theorem GuardTwins_spec (ls rs : List Grd) (g : Gau) (hl : ls.length ≤ 4611686018427387904) (hr : rs.length ≤ 4611686018427387904) (hlc : ∀ x ∈ ls, x.2.length ≤ 4611686018427387904) (hrc : ∀ x ∈ rs, x.2.length ≤ 4611686018427387904) : Ct Tryd.prog 7 [encSt ls rs false false, encGa g] (.lit (.bool true)) := by
 have hlg := large_spec06 g ls rs 8 false false hl hr hlc hrc
 cases hL : largeG g ls rs 8 with
 | true =>
   rw [hL] at hlg
   refine fn_enter Tryd.func7 rfl (by decide) Tryd.results7 Tryd.ntmps7 ?_ rfl (by simp (maxSteps := 1000000) -implicitDefEqProofs (disch := omega) only [go_sem]; rfl) fun base => ?_
   · first | assumption | (simp only [go_sem] <;> assumption) | (simp only [go_sem, *]; done) | (simp [go_sem]; done)
   repeat' (first
     | (with_reducible apply Req_intro); focus (first | omega | assumption | (simp; done))
     | with_reducible (first | apply Req_intro | refine nilT ?_ fun hn => ?_ | apply wk_draw Tryd_mixed | refine drawEnd (by kernel_rfl) ?_)
     | (with_reducible (first | apply condA_if | apply stepDG_ifN | apply stepDG_if | apply stepG_ifN | apply stepG_if)) <;> intro hb <;> (have hif := hb) <;> (try simp only [bo] at hif) <;> (try simp -implicitDefEqProofs (disch := omega) only [go_sem, hb]) <;> clear hb
     | simp (maxSteps := 1000000) -implicitDefEqProofs (disch := omega) only [go_sem])
   refine callp hlg ?_
   try simp (maxSteps := 1000000) -implicitDefEqProofs (disch := omega) only [go_sem]
   repeat' (first
     | (with_reducible apply Req_intro); focus (first | omega | assumption | (simp; done))
     | with_reducible (first | apply Req_intro | refine nilT ?_ fun hn => ?_ | apply wk_draw Tryd_mixed | refine drawEnd (by kernel_rfl) ?_)
     | (with_reducible (first | apply condA_if | apply stepDG_ifN | apply stepDG_if | apply stepG_ifN | apply stepG_if)) <;> intro hb <;> (have hif := hb) <;> (try simp only [bo] at hif) <;> (try simp -implicitDefEqProofs (disch := omega) only [go_sem, hb]) <;> clear hb
     | simp (maxSteps := 1000000) -implicitDefEqProofs (disch := omega) only [go_sem])
   all_goals first | exact absurd trivial ‹¬True› | exact absurd ‹false = true› (by decide) | exact absurd ‹true = false› (by decide) | (exfalso; omega) | omega | skip
   refine callp gknown_spec ?_
   try simp (maxSteps := 1000000) -implicitDefEqProofs (disch := omega) only [go_sem]
   repeat' (first
     | (with_reducible apply Req_intro); focus (first | omega | assumption | (simp; done))
     | with_reducible (first | apply Req_intro | refine nilT ?_ fun hn => ?_ | apply wk_draw Tryd_mixed | refine drawEnd (by kernel_rfl) ?_)
     | (with_reducible (first | apply condA_if | apply stepDG_ifN | apply stepDG_if | apply stepG_ifN | apply stepG_if)) <;> intro hb <;> (have hif := hb) <;> (try simp only [bo] at hif) <;> (try simp -implicitDefEqProofs (disch := omega) only [go_sem, hb]) <;> clear hb
     | simp (maxSteps := 1000000) -implicitDefEqProofs (disch := omega) only [go_sem])
   refine ret_do ?_
   rfl
 | false =>
   rw [hL] at hlg
   obtain ⟨hst, hl12, hr12, hmost⟩ := largeG_no hL
   have hown := own_spec ls rs false false hst
   have hsame := same_spec ls rs false false false false hst
   have hrc' := rCheck_spec g ls rs false false hst
   by_cases h0 : checkS g ls rs = 0
   · obtain ⟨hl8, hr8, hg, n, hn, hgl, hgr⟩ := checkS_ok h0
     rw [h0] at hrc'
     have hp := Twins_ok g ls rs false false hst h0
     have hC := rTwins_spec g ls rs false false n ⟨hn, hg, hgl, hgr⟩ hl12 hr12
     rw [← twins_eq, ← twins_ref (n := n) (by omega) (fun x hx => (hgl x hx).len) (fun x hx => (hgr x hx).len)] at hp
     rcases hR : (refTwinList ls.length rs.length (okTwin g ls rs)).head? with _ | ⟨p, q⟩
     · rw [hR] at hp hC
       simp only [twV] at hp
       refine fn_enter Tryd.func7 rfl (by decide) Tryd.results7 Tryd.ntmps7 ?_ rfl (by simp (maxSteps := 1000000) -implicitDefEqProofs (disch := omega) only [go_sem]; rfl) fun base => ?_
       · first | assumption | (simp only [go_sem] <;> assumption) | (simp only [go_sem, *]; done) | (simp [go_sem]; done)
       repeat' (first
         | (with_reducible apply Req_intro); focus (first | omega | assumption | (simp; done))
         | with_reducible (first | apply Req_intro | refine nilT ?_ fun hn => ?_ | apply wk_draw Tryd_mixed | refine drawEnd (by kernel_rfl) ?_)
         | (with_reducible (first | apply condA_if | apply stepDG_ifN | apply stepDG_if | apply stepG_ifN | apply stepG_if)) <;> intro hb <;> (have hif := hb) <;> (try simp only [bo] at hif) <;> (try simp -implicitDefEqProofs (disch := omega) only [go_sem, hb]) <;> clear hb
         | simp (maxSteps := 1000000) -implicitDefEqProofs (disch := omega) only [go_sem])
       refine callp hlg ?_
       try simp (maxSteps := 1000000) -implicitDefEqProofs (disch := omega) only [go_sem]
       repeat' (first
         | (with_reducible apply Req_intro); focus (first | omega | assumption | (simp; done))
         | with_reducible (first | apply Req_intro | refine nilT ?_ fun hn => ?_ | apply wk_draw Tryd_mixed | refine drawEnd (by kernel_rfl) ?_)
         | (with_reducible (first | apply condA_if | apply stepDG_ifN | apply stepDG_if | apply stepG_ifN | apply stepG_if)) <;> intro hb <;> (have hif := hb) <;> (try simp only [bo] at hif) <;> (try simp -implicitDefEqProofs (disch := omega) only [go_sem, hb]) <;> clear hb
         | simp (maxSteps := 1000000) -implicitDefEqProofs (disch := omega) only [go_sem])
       all_goals first | exact absurd trivial ‹¬True› | exact absurd ‹false = true› (by decide) | exact absurd ‹true = false› (by decide) | (exfalso; omega) | omega | skip
       refine callp hown ?_
       try simp (maxSteps := 1000000) -implicitDefEqProofs (disch := omega) only [go_sem]
       repeat' (first
         | (with_reducible apply Req_intro); focus (first | omega | assumption | (simp; done))
         | with_reducible (first | apply Req_intro | refine nilT ?_ fun hn => ?_ | apply wk_draw Tryd_mixed | refine drawEnd (by kernel_rfl) ?_)
         | (with_reducible (first | apply condA_if | apply stepDG_ifN | apply stepDG_if | apply stepG_ifN | apply stepG_if)) <;> intro hb <;> (have hif := hb) <;> (try simp only [bo] at hif) <;> (try simp -implicitDefEqProofs (disch := omega) only [go_sem, hb]) <;> clear hb
         | simp (maxSteps := 1000000) -implicitDefEqProofs (disch := omega) only [go_sem])
       first | refine callp hp ?_ | refine calld hp ?_
       try simp (maxSteps := 1000000) -implicitDefEqProofs (disch := omega) only [go_sem]
       repeat' (first
         | (with_reducible apply Req_intro); focus (first | omega | assumption | (simp; done))
         | with_reducible (first | apply Req_intro | refine nilT ?_ fun hn => ?_ | apply wk_draw Tryd_mixed | refine drawEnd (by kernel_rfl) ?_)
         | (with_reducible (first | apply condA_if | apply stepDG_ifN | apply stepDG_if | apply stepG_ifN | apply stepG_if)) <;> intro hb <;> (have hif := hb) <;> (try simp only [bo] at hif) <;> (try simp -implicitDefEqProofs (disch := omega) only [go_sem, hb]) <;> clear hb
         | simp (maxSteps := 1000000) -implicitDefEqProofs (disch := omega) only [go_sem])
       all_goals first | exact absurd trivial ‹¬True› | exact absurd ‹false = true› (by decide) | exact absurd ‹true = false› (by decide) | (exfalso; omega) | omega | skip
       first | refine callp hsame ?_ | refine calld hsame ?_
       try simp (maxSteps := 1000000) -implicitDefEqProofs (disch := omega) only [go_sem]
       repeat' (first
         | (with_reducible apply Req_intro); focus (first | omega | assumption | (simp; done))
         | with_reducible (first | apply Req_intro | refine nilT ?_ fun hn => ?_ | apply wk_draw Tryd_mixed | refine drawEnd (by kernel_rfl) ?_)
         | (with_reducible (first | apply condA_if | apply stepDG_ifN | apply stepDG_if | apply stepG_ifN | apply stepG_if)) <;> intro hb <;> (have hif := hb) <;> (try simp only [bo] at hif) <;> (try simp -implicitDefEqProofs (disch := omega) only [go_sem, hb]) <;> clear hb
         | simp (maxSteps := 1000000) -implicitDefEqProofs (disch := omega) only [go_sem])
       all_goals first | exact absurd trivial ‹¬True› | exact absurd ‹false = true› (by decide) | exact absurd ‹true = false› (by decide) | (exfalso; omega) | omega | skip
       first | refine callp hrc' ?_ | refine calld hrc' ?_
       try simp (maxSteps := 1000000) -implicitDefEqProofs (disch := omega) only [go_sem]
       repeat' (first
         | (with_reducible apply Req_intro); focus (first | omega | assumption | (simp; done))
         | with_reducible (first | apply Req_intro | refine nilT ?_ fun hn => ?_ | apply wk_draw Tryd_mixed | refine drawEnd (by kernel_rfl) ?_)
         | (with_reducible (first | apply condA_if | apply stepDG_ifN | apply stepDG_if | apply stepG_ifN | apply stepG_if)) <;> intro hb <;> (have hif := hb) <;> (try simp only [bo] at hif) <;> (try simp -implicitDefEqProofs (disch := omega) only [go_sem, hb]) <;> clear hb
         | simp (maxSteps := 1000000) -implicitDefEqProofs (disch := omega) only [go_sem])
       all_goals first | exact absurd trivial ‹¬True› | exact absurd ‹false = true› (by decide) | exact absurd ‹true = false› (by decide) | (exfalso; omega) | omega | skip
       first | refine callp hC ?_ | refine calld hC ?_
       try simp (maxSteps := 1000000) -implicitDefEqProofs (disch := omega) only [go_sem]
       repeat' (first
         | (with_reducible apply Req_intro); focus (first | omega | assumption | (simp; done))
         | with_reducible (first | apply Req_intro | refine nilT ?_ fun hn => ?_ | apply wk_draw Tryd_mixed | refine drawEnd (by kernel_rfl) ?_)
         | (with_reducible (first | apply condA_if | apply stepDG_ifN | apply stepDG_if | apply stepG_ifN | apply stepG_if)) <;> intro hb <;> (have hif := hb) <;> (try simp only [bo] at hif) <;> (try simp -implicitDefEqProofs (disch := omega) only [go_sem, hb]) <;> clear hb
         | simp (maxSteps := 1000000) -implicitDefEqProofs (disch := omega) only [go_sem])
       all_goals first | exact absurd trivial ‹¬True› | exact absurd ‹false = true› (by decide) | exact absurd ‹true = false› (by decide) | (exfalso; omega) | omega | skip
       refine callp gknown_spec ?_
       try simp (maxSteps := 1000000) -implicitDefEqProofs (disch := omega) only [go_sem]
       repeat' (first
         | (with_reducible apply Req_intro); focus (first | omega | assumption | (simp; done))
         | with_reducible (first | apply Req_intro | refine nilT ?_ fun hn => ?_ | apply wk_draw Tryd_mixed | refine drawEnd (by kernel_rfl) ?_)
         | (with_reducible (first | apply condA_if | apply stepDG_ifN | apply stepDG_if | apply stepG_ifN | apply stepG_if)) <;> intro hb <;> (have hif := hb) <;> (try simp only [bo] at hif) <;> (try simp -implicitDefEqProofs (disch := omega) only [go_sem, hb]) <;> clear hb
         | simp (maxSteps := 1000000) -implicitDefEqProofs (disch := omega) only [go_sem])
       all_goals first | exact absurd trivial ‹¬True› | exact absurd ‹false = true› (by decide) | exact absurd ‹true = false› (by decide) | (exfalso; omega) | omega | skip
       refine ret_do ?_
       rfl
     · rw [hR] at hp hC
       simp only [twV] at hp
       have hA := rAll_spec [p, q] [p, q] false false (by simp) (by simp)
       rw [beq_self_eq_true] at hA
       refine fn_enter Tryd.func7 rfl (by decide) Tryd.results7 Tryd.ntmps7 ?_ rfl (by simp (maxSteps := 1000000) -implicitDefEqProofs (disch := omega) only [go_sem]; rfl) fun base => ?_
       · first | assumption | (simp only [go_sem] <;> assumption) | (simp only [go_sem, *]; done) | (simp [go_sem]; done)
       repeat' (first
         | (with_reducible apply Req_intro); focus (first | omega | assumption | (simp; done))
         | with_reducible (first | apply Req_intro | refine nilT ?_ fun hn => ?_ | apply wk_draw Tryd_mixed | refine drawEnd (by kernel_rfl) ?_)
         | (with_reducible (first | apply condA_if | apply stepDG_ifN | apply stepDG_if | apply stepG_ifN | apply stepG_if)) <;> intro hb <;> (have hif := hb) <;> (try simp only [bo] at hif) <;> (try simp -implicitDefEqProofs (disch := omega) only [go_sem, hb]) <;> clear hb
         | simp (maxSteps := 1000000) -implicitDefEqProofs (disch := omega) only [go_sem])
       refine callp hlg ?_
       try simp (maxSteps := 1000000) -implicitDefEqProofs (disch := omega) only [go_sem]
       repeat' (first
         | (with_reducible apply Req_intro); focus (first | omega | assumption | (simp; done))
         | with_reducible (first | apply Req_intro | refine nilT ?_ fun hn => ?_ | apply wk_draw Tryd_mixed | refine drawEnd (by kernel_rfl) ?_)
         | (with_reducible (first | apply condA_if | apply stepDG_ifN | apply stepDG_if | apply stepG_ifN | apply stepG_if)) <;> intro hb <;> (have hif := hb) <;> (try simp only [bo] at hif) <;> (try simp -implicitDefEqProofs (disch := omega) only [go_sem, hb]) <;> clear hb
         | simp (maxSteps := 1000000) -implicitDefEqProofs (disch := omega) only [go_sem])
       all_goals first | exact absurd trivial ‹¬True› | exact absurd ‹false = true› (by decide) | exact absurd ‹true = false› (by decide) | (exfalso; omega) | omega | skip
       refine callp hown ?_
       try simp (maxSteps := 1000000) -implicitDefEqProofs (disch := omega) only [go_sem]
       repeat' (first
         | (with_reducible apply Req_intro); focus (first | omega | assumption | (simp; done))
         | with_reducible (first | apply Req_intro | refine nilT ?_ fun hn => ?_ | apply wk_draw Tryd_mixed | refine drawEnd (by kernel_rfl) ?_)
         | (with_reducible (first | apply condA_if | apply stepDG_ifN | apply stepDG_if | apply stepG_ifN | apply stepG_if)) <;> intro hb <;> (have hif := hb) <;> (try simp only [bo] at hif) <;> (try simp -implicitDefEqProofs (disch := omega) only [go_sem, hb]) <;> clear hb
         | simp (maxSteps := 1000000) -implicitDefEqProofs (disch := omega) only [go_sem])
       first | refine callp hp ?_ | refine calld hp ?_
       try simp (maxSteps := 1000000) -implicitDefEqProofs (disch := omega) only [go_sem]
       repeat' (first
         | (with_reducible apply Req_intro); focus (first | omega | assumption | (simp; done))
         | with_reducible (first | apply Req_intro | refine nilT ?_ fun hn => ?_ | apply wk_draw Tryd_mixed | refine drawEnd (by kernel_rfl) ?_)
         | (with_reducible (first | apply condA_if | apply stepDG_ifN | apply stepDG_if | apply stepG_ifN | apply stepG_if)) <;> intro hb <;> (have hif := hb) <;> (try simp only [bo] at hif) <;> (try simp -implicitDefEqProofs (disch := omega) only [go_sem, hb]) <;> clear hb
         | simp (maxSteps := 1000000) -implicitDefEqProofs (disch := omega) only [go_sem])
       all_goals first | exact absurd trivial ‹¬True› | exact absurd ‹false = true› (by decide) | exact absurd ‹true = false› (by decide) | (exfalso; omega) | omega | skip
       first | refine callp hsame ?_ | refine calld hsame ?_
       try simp (maxSteps := 1000000) -implicitDefEqProofs (disch := omega) only [go_sem]
       repeat' (first
         | (with_reducible apply Req_intro); focus (first | omega | assumption | (simp; done))
         | with_reducible (first | apply Req_intro | refine nilT ?_ fun hn => ?_ | apply wk_draw Tryd_mixed | refine drawEnd (by kernel_rfl) ?_)
         | (with_reducible (first | apply condA_if | apply stepDG_ifN | apply stepDG_if | apply stepG_ifN | apply stepG_if)) <;> intro hb <;> (have hif := hb) <;> (try simp only [bo] at hif) <;> (try simp -implicitDefEqProofs (disch := omega) only [go_sem, hb]) <;> clear hb
         | simp (maxSteps := 1000000) -implicitDefEqProofs (disch := omega) only [go_sem])
       all_goals first | exact absurd trivial ‹¬True› | exact absurd ‹false = true› (by decide) | exact absurd ‹true = false› (by decide) | (exfalso; omega) | omega | skip
       first | refine callp hrc' ?_ | refine calld hrc' ?_
       try simp (maxSteps := 1000000) -implicitDefEqProofs (disch := omega) only [go_sem]
       repeat' (first
         | (with_reducible apply Req_intro); focus (first | omega | assumption | (simp; done))
         | with_reducible (first | apply Req_intro | refine nilT ?_ fun hn => ?_ | apply wk_draw Tryd_mixed | refine drawEnd (by kernel_rfl) ?_)
         | (with_reducible (first | apply condA_if | apply stepDG_ifN | apply stepDG_if | apply stepG_ifN | apply stepG_if)) <;> intro hb <;> (have hif := hb) <;> (try simp only [bo] at hif) <;> (try simp -implicitDefEqProofs (disch := omega) only [go_sem, hb]) <;> clear hb
         | simp (maxSteps := 1000000) -implicitDefEqProofs (disch := omega) only [go_sem])
       all_goals first | exact absurd trivial ‹¬True› | exact absurd ‹false = true› (by decide) | exact absurd ‹true = false› (by decide) | (exfalso; omega) | omega | skip
       first | refine callp hC ?_ | refine calld hC ?_
       try simp (maxSteps := 1000000) -implicitDefEqProofs (disch := omega) only [go_sem]
       repeat' (first
         | (with_reducible apply Req_intro); focus (first | omega | assumption | (simp; done))
         | with_reducible (first | apply Req_intro | refine nilT ?_ fun hn => ?_ | apply wk_draw Tryd_mixed | refine drawEnd (by kernel_rfl) ?_)
         | (with_reducible (first | apply condA_if | apply stepDG_ifN | apply stepDG_if | apply stepG_ifN | apply stepG_if)) <;> intro hb <;> (have hif := hb) <;> (try simp only [bo] at hif) <;> (try simp -implicitDefEqProofs (disch := omega) only [go_sem, hb]) <;> clear hb
         | simp (maxSteps := 1000000) -implicitDefEqProofs (disch := omega) only [go_sem])
       all_goals first | exact absurd trivial ‹¬True› | exact absurd ‹false = true› (by decide) | exact absurd ‹true = false› (by decide) | (exfalso; omega) | omega | skip
       first | refine callp hA ?_ | refine calld hA ?_
       try simp (maxSteps := 1000000) -implicitDefEqProofs (disch := omega) only [go_sem]
       repeat' (first
         | (with_reducible apply Req_intro); focus (first | omega | assumption | (simp; done))
         | with_reducible (first | apply Req_intro | refine nilT ?_ fun hn => ?_ | apply wk_draw Tryd_mixed | refine drawEnd (by kernel_rfl) ?_)
         | (with_reducible (first | apply condA_if | apply stepDG_ifN | apply stepDG_if | apply stepG_ifN | apply stepG_if)) <;> intro hb <;> (have hif := hb) <;> (try simp only [bo] at hif) <;> (try simp -implicitDefEqProofs (disch := omega) only [go_sem, hb]) <;> clear hb
         | simp (maxSteps := 1000000) -implicitDefEqProofs (disch := omega) only [go_sem])
       all_goals first | exact absurd trivial ‹¬True› | exact absurd ‹false = true› (by decide) | exact absurd ‹true = false› (by decide) | (exfalso; omega) | omega | skip
       refine callp gknown_spec ?_
       try simp (maxSteps := 1000000) -implicitDefEqProofs (disch := omega) only [go_sem]
       repeat' (first
         | (with_reducible apply Req_intro); focus (first | omega | assumption | (simp; done))
         | with_reducible (first | apply Req_intro | refine nilT ?_ fun hn => ?_ | apply wk_draw Tryd_mixed | refine drawEnd (by kernel_rfl) ?_)
         | (with_reducible (first | apply condA_if | apply stepDG_ifN | apply stepDG_if | apply stepG_ifN | apply stepG_if)) <;> intro hb <;> (have hif := hb) <;> (try simp only [bo] at hif) <;> (try simp -implicitDefEqProofs (disch := omega) only [go_sem, hb]) <;> clear hb
         | simp (maxSteps := 1000000) -implicitDefEqProofs (disch := omega) only [go_sem])
       all_goals first | exact absurd trivial ‹¬True› | exact absurd ‹false = true› (by decide) | exact absurd ‹true = false› (by decide) | (exfalso; omega) | omega | skip
       refine ret_do ?_
       rfl
   · have hp := Twins_err g ls rs false false hst h0
     generalize checkS g ls rs = c at *
     refine fn_enter Tryd.func7 rfl (by decide) Tryd.results7 Tryd.ntmps7 ?_ rfl (by simp (maxSteps := 1000000) -implicitDefEqProofs (disch := omega) only [go_sem]; rfl) fun base => ?_
     · first | assumption | (simp only [go_sem] <;> assumption) | (simp only [go_sem, *]; done) | (simp [go_sem]; done)
     repeat' (first
       | (with_reducible apply Req_intro); focus (first | omega | assumption | (simp; done))
       | with_reducible (first | apply Req_intro | refine nilT ?_ fun hn => ?_ | apply wk_draw Tryd_mixed | refine drawEnd (by kernel_rfl) ?_)
       | (with_reducible (first | apply condA_if | apply stepDG_ifN | apply stepDG_if | apply stepG_ifN | apply stepG_if)) <;> intro hb <;> (have hif := hb) <;> (try simp only [bo] at hif) <;> (try simp -implicitDefEqProofs (disch := omega) only [go_sem, hb]) <;> clear hb
       | simp (maxSteps := 1000000) -implicitDefEqProofs (disch := omega) only [go_sem])
     refine callp hlg ?_
     try simp (maxSteps := 1000000) -implicitDefEqProofs (disch := omega) only [go_sem]
     repeat' (first
       | (with_reducible apply Req_intro); focus (first | omega | assumption | (simp; done))
       | with_reducible (first | apply Req_intro | refine nilT ?_ fun hn => ?_ | apply wk_draw Tryd_mixed | refine drawEnd (by kernel_rfl) ?_)
       | (with_reducible (first | apply condA_if | apply stepDG_ifN | apply stepDG_if | apply stepG_ifN | apply stepG_if)) <;> intro hb <;> (have hif := hb) <;> (try simp only [bo] at hif) <;> (try simp -implicitDefEqProofs (disch := omega) only [go_sem, hb]) <;> clear hb
       | simp (maxSteps := 1000000) -implicitDefEqProofs (disch := omega) only [go_sem])
     all_goals first | exact absurd trivial ‹¬True› | exact absurd ‹false = true› (by decide) | exact absurd ‹true = false› (by decide) | (exfalso; omega) | omega | skip
     refine callp hown ?_
     try simp (maxSteps := 1000000) -implicitDefEqProofs (disch := omega) only [go_sem]
     repeat' (first
       | (with_reducible apply Req_intro); focus (first | omega | assumption | (simp; done))
       | with_reducible (first | apply Req_intro | refine nilT ?_ fun hn => ?_ | apply wk_draw Tryd_mixed | refine drawEnd (by kernel_rfl) ?_)
       | (with_reducible (first | apply condA_if | apply stepDG_ifN | apply stepDG_if | apply stepG_ifN | apply stepG_if)) <;> intro hb <;> (have hif := hb) <;> (try simp only [bo] at hif) <;> (try simp -implicitDefEqProofs (disch := omega) only [go_sem, hb]) <;> clear hb
       | simp (maxSteps := 1000000) -implicitDefEqProofs (disch := omega) only [go_sem])
     refine callp hp ?_
     try simp (maxSteps := 1000000) -implicitDefEqProofs (disch := omega) only [go_sem]
     repeat' (first
       | (with_reducible apply Req_intro); focus (first | omega | assumption | (simp; done))
       | with_reducible (first | apply Req_intro | refine nilT ?_ fun hn => ?_ | apply wk_draw Tryd_mixed | refine drawEnd (by kernel_rfl) ?_)
       | (with_reducible (first | apply condA_if | apply stepDG_ifN | apply stepDG_if | apply stepG_ifN | apply stepG_if)) <;> intro hb <;> (have hif := hb) <;> (try simp only [bo] at hif) <;> (try simp -implicitDefEqProofs (disch := omega) only [go_sem, hb]) <;> clear hb
       | simp (maxSteps := 1000000) -implicitDefEqProofs (disch := omega) only [go_sem])
     all_goals first | exact absurd trivial ‹¬True› | exact absurd ‹_› h0 | exact absurd rfl ‹¬ c = c› | (exfalso; omega) | skip
     refine callp hsame ?_
     try simp (maxSteps := 1000000) -implicitDefEqProofs (disch := omega) only [go_sem]
     repeat' (first
       | (with_reducible apply Req_intro); focus (first | omega | assumption | (simp; done))
       | with_reducible (first | apply Req_intro | refine nilT ?_ fun hn => ?_ | apply wk_draw Tryd_mixed | refine drawEnd (by kernel_rfl) ?_)
       | (with_reducible (first | apply condA_if | apply stepDG_ifN | apply stepDG_if | apply stepG_ifN | apply stepG_if)) <;> intro hb <;> (have hif := hb) <;> (try simp only [bo] at hif) <;> (try simp -implicitDefEqProofs (disch := omega) only [go_sem, hb]) <;> clear hb
       | simp (maxSteps := 1000000) -implicitDefEqProofs (disch := omega) only [go_sem])
     all_goals first | exact absurd trivial ‹¬True› | exact absurd ‹_› h0 | exact absurd rfl ‹¬ c = c› | (exfalso; omega) | skip
     refine callp hrc' ?_
     try simp (maxSteps := 1000000) -implicitDefEqProofs (disch := omega) only [go_sem]
     repeat' (first
       | (with_reducible apply Req_intro); focus (first | omega | assumption | (simp; done))
       | with_reducible (first | apply Req_intro | refine nilT ?_ fun hn => ?_ | apply wk_draw Tryd_mixed | refine drawEnd (by kernel_rfl) ?_)
       | (with_reducible (first | apply condA_if | apply stepDG_ifN | apply stepDG_if | apply stepG_ifN | apply stepG_if)) <;> intro hb <;> (have hif := hb) <;> (try simp only [bo] at hif) <;> (try simp -implicitDefEqProofs (disch := omega) only [go_sem, hb]) <;> clear hb
       | simp (maxSteps := 1000000) -implicitDefEqProofs (disch := omega) only [go_sem])
     all_goals first | exact absurd trivial ‹¬True› | exact absurd ‹_› h0 | exact absurd rfl ‹¬ c = c› | (exfalso; omega) | skip
     refine callp gknown_spec ?_
     try simp (maxSteps := 1000000) -implicitDefEqProofs (disch := omega) only [go_sem]
     repeat' (first
       | (with_reducible apply Req_intro); focus (first | omega | assumption | (simp; done))
       | with_reducible (first | apply Req_intro | refine nilT ?_ fun hn => ?_ | apply wk_draw Tryd_mixed | refine drawEnd (by kernel_rfl) ?_)
       | (with_reducible (first | apply condA_if | apply stepDG_ifN | apply stepDG_if | apply stepG_ifN | apply stepG_if)) <;> intro hb <;> (have hif := hb) <;> (try simp only [bo] at hif) <;> (try simp -implicitDefEqProofs (disch := omega) only [go_sem, hb]) <;> clear hb
       | simp (maxSteps := 1000000) -implicitDefEqProofs (disch := omega) only [go_sem])
     all_goals first | exact absurd trivial ‹¬True› | exact absurd ‹false = true› (by decide) | exact absurd ‹true = false› (by decide) | (exfalso; omega) | omega | skip
     refine ret_do ?_
     rfl
end Go.Aw
end
section
namespace Go.Aw
open Go.RowKit Go.ChangeShapes Go.WideShapes
def RepL (w : World) (ok : Nat → Nat → Prop) (cs : List Value) (ds : List V) : Prop :=
 cs.length = ds.length ∧ ∀ (j : Nat) (d : V) (u : Value), ds[j]? = some d → cs[j]? = some u → Rep w ok (fun _ => none) u d
theorem exists_list {α : Type} {p : Nat → α → Prop} : ∀ n, (∀ i, i < n → ∃ a, p i a) → ∃ l : List α, l.length = n ∧ ∀ i a, l[i]? = some a → p i a
 | 0, _ => ⟨[], rfl, fun i a h => by cases h⟩
 | n + 1, h => by
   obtain ⟨l, hl, hp⟩ := exists_list n fun i hi => h i (by omega)
   obtain ⟨a, ha⟩ := h n (by omega)
   refine ⟨l ++ [a], by simp [hl], fun i b hb => ?_⟩
   rcases Nat.lt_or_ge i l.length with h1 | h1
   · rw [List.getElem?_append_left h1] at hb; exact hp i b hb
   · rw [List.getElem?_append_right h1] at hb
     have : i - l.length = 0 := by
       refine Classical.byContradiction fun hc => ?_
       rw [List.getElem?_eq_none (by simp; omega)] at hb; cases hb
     rw [this] at hb
     cases hb
     obtain rfl : i = n := by omega
     exact ha
theorem cells?_get {w : World} {base : Nat} {a : Addr} {n : Nat} {cs : List Value} (h : w.cells? base a n = some cs) : cs.length = n ∧ ∀ j, j < n → ∃ u, cs[j]? = some u ∧ w.cell? (a.add j) = some u := by
 unfold World.cells? at h
 split at h
 · have hl := mapM_some_length h
   rw [List.length_range] at hl
   refine ⟨hl, fun j hj => ?_⟩
   have := mapM_some_get h j j (by simp [hj])
   obtain ⟨u, hu⟩ : ∃ u, cs[j]? = some u := ⟨cs[j], List.getElem?_eq_getElem (by omega)⟩
   exact ⟨u, hu, by rw [this, hu]⟩
 · cases h
theorem add_at (b o n : Nat) : (⟨b, o, none⟩ : Addr).add n = ⟨b, o + n, none⟩ := by
 unfold Addr.add
 split
 · rename_i h; subst h; rfl
 · rfl
theorem add_add' (b o x j : Nat) : ((⟨b, o, none⟩ : Addr).add x).add j = ⟨b, o + x + j, none⟩ := by rw [add_at, add_at]
section
variable {H : Type} {enc : TypeId × Value → H} {P : Program} {w : World} {ok : Nat → Nat → Prop} {sp : Nat → Bool}
theorem mem_weightsAll {e : TypeId} : ∀ {es : List (DataW H)} {d : DataW H} {m : Nat}, d ∈ es → m ∈ d.weights P e → m ∈ DataW.weightsAll P e es
 | [], d, m, h, _ => by cases h
 | a :: r, d, m, h, hm => by
   simp only [DataW.weightsAll, List.mem_append]
   rcases List.mem_cons.1 h with rfl | h
   · exact .inl hm
   · exact .inr (mem_weightsAll h hm)
theorem slice_rep {α : Type} {en : α → List V} {k : Nat} {q : α → Prop} {t e : TypeId} (hk0 : 0 < k) (ht : P.underlying t = some (.slice e)) (hk : P.cellsOf e = k) (hb : 0 < P.bytesOf e)
   (hlen : ∀ a, (en a).length = k)
   (hel : ∀ n cs x, DataW.trod enc P w 0 sp true n e cs = some x → (∀ m ∈ x.1.weights P e, m ≤ reachBytes) → ∃ a, q a ∧ RepL w ok cs (en a))
   (hok : ∀ b o u, w.cell? ⟨b, o, none⟩ = some u → ok b o)
   {n : Nat} {cs : List Value} {x : DataW H × List MemPlace} (h : DataW.trod enc P w 0 sp true n t cs = some x) (hw : ∀ m ∈ x.1.weights P t, m ≤ reachBytes) :
   ∃ (v : Value) (l : List α), cs = [v] ∧ l.length ≤ reachBytes ∧ (∀ a ∈ l, q a) ∧ Rep w ok (fun _ => none) v (.sl k (l.map en) false) := by
 rcases DataW.trod_slice ht h with ⟨rfl, rfl⟩ | ⟨a, len, cap, elems, rest, m, rfl, rfl, rfl, hbase, hlc, hcm, hel1, hel2, hsp, hsp2⟩
 · exact ⟨_, [], rfl, Nat.zero_le _, fun a ha => (by cases ha), .sl none 0 0 k [] false (fun _ _ => undef) rfl (Nat.le_refl _) (fun h => by cases h) (fun i j hi => absurd hi (Nat.not_lt_zero _)) (fun e he => by cases he) (fun i j e d he => by cases he)⟩
 · rw [hk] at hel2
   have hwt : (elems.length + rest.length) * P.bytesOf e ≤ reachBytes ∧ ∀ d ∈ elems.map (·.1), ∀ m ∈ d.weights P e, m ≤ reachBytes := by
     simp only [DataW.weights, ht, List.length_map] at hw
     refine ⟨hw _ (List.mem_cons_self ..), fun d hd m hm => hw m ?_⟩
     exact List.mem_cons_of_mem _ (List.mem_append_left _ (mem_weightsAll hd hm))
   have key : ∀ i, i < len → ∃ p : α × List Value, w.cells? 0 (a.add (i * k)) k = some p.2 ∧ q p.1 ∧ RepL w ok p.2 (en p.1) := fun i hi => by
     have h1 := hel2 i hi
     obtain ⟨y, hy⟩ : ∃ y, elems[i]? = some y := ⟨elems[i], List.getElem?_eq_getElem (by omega)⟩
     rw [hy, Option.bind_eq_some_iff] at h1
     obtain ⟨cs, hc1, hc2⟩ := h1
     obtain ⟨b, hb1, hb2⟩ := hel _ _ _ hc2 (hwt.2 y.1 (List.mem_map_of_mem (List.mem_of_getElem? hy)))
     exact ⟨(b, cs), hc1, hb1, hb2⟩
   obtain ⟨l, hl, hp⟩ := exists_list len key
   have hspot : 0 < len → a.spot = none := fun h0 => by
     obtain ⟨p, hp1, _, _⟩ := key 0 h0
     obtain ⟨u, _, hu⟩ := (cells?_get hp1).2 0 hk0
     simp only [Nat.zero_mul, Addr.add, if_true] at hu
     unfold World.cell? at hu
     split at hu
     · split at hu
       · cases hu
       · rename_i hn; simpa using hn
     · cases hu
   refine ⟨_, l.map (·.1), rfl, ?_, ?_, ?_⟩
   · rw [List.length_map, hl, ← hel1]
     refine Nat.le_trans ?_ hwt.1
     exact Nat.le_trans (Nat.le_add_right _ _) (Nat.le_mul_of_pos_right _ hb)
   · intro b hb
     obtain ⟨p, hp1, rfl⟩ := List.mem_map.1 hb
     obtain ⟨i, hi⟩ := List.getElem?_of_mem hp1
     exact (hp i p hi).2.1
   · refine .sl (some a) len cap k _ false (fun i j => (w.cell? (a.add (i * k + j))).getD undef) (by simp [hl]) hlc (fun h => by cases h) (fun i j hi hj => ?_) (fun e he => ?_) (fun i j e d he hd => ?_)
     · obtain ⟨b, o, s⟩ := a
       obtain rfl : s = none := hspot (by omega)
       obtain ⟨p, hp1, _, _⟩ := key i hi
       obtain ⟨u, _, hu⟩ := (cells?_get hp1).2 j hj
       rw [add_add'] at hu
       have e1 : (⟨b, o, none⟩ : Addr).add (i * k + j) = ⟨b, o + i * k + j, none⟩ := by rw [add_at, Nat.add_assoc]
       exact ⟨b, o, rfl, hok _ _ _ hu, by rw [e1, hu]; rfl⟩
     · rw [List.map_map] at he
       obtain ⟨p, hp1, rfl⟩ := List.mem_map.1 he
       exact hlen _
     · rw [List.map_map, List.getElem?_map, Option.map_eq_some_iff] at he
       obtain ⟨p, hp1, rfl⟩ := he
       obtain ⟨h1, h2, h3⟩ := hp i p hp1
       have hi : i < len := by rw [← hl]; exact (List.getElem?_eq_some_iff.1 hp1).1
       have hj : j < k := by
         have := (List.getElem?_eq_some_iff.1 hd).1
         simp only [Function.comp] at this
         rwa [hlen] at this
       obtain ⟨u, hu1, hu2⟩ := (cells?_get h1).2 j hj
       have : w.cell? (a.add (i * k + j)) = some u := by
         obtain ⟨b, o, s⟩ := a
         obtain rfl : s = none := hspot (by omega)
         rw [add_add'] at hu2
         rw [← hu2, Nat.add_assoc, add_at]
       show Rep w ok _ ((w.cell? (a.add (i * k + j))).getD undef) d
       rw [this]
       exact h3.2 j d u hd hu1
theorem int_rep {k : IntKind} {t : TypeId} (ht : P.underlying t = some (.int k)) {n : Nat} {cs : List Value} {x : DataW H × List MemPlace} (h : DataW.trod enc P w 0 sp true n t cs = some x) : ∃ i, cs = [.int k i] ∧ k.min ≤ i ∧ i ≤ k.max := by
 obtain ⟨i, h1, _, h2⟩ := DataW.trod_int ht h
 simp only [Lit.wf, Bool.and_eq_true, decide_eq_true_eq] at h2
 exact ⟨i, h1, h2.1, h2.2⟩
theorem struct2_cells {t : TypeId} {f0 f1 : Field} (ht : P.underlying t = some (.struct #[f0, f1])) (hc : P.cellsOf t = 2) (h0 : f0.offset = 0) (h1 : f1.offset = 1) (c0 : P.cellsOf f0.type = 1) (c1 : P.cellsOf f1.type = 1)
   {n : Nat} {cs : List Value} {x : DataW H × List MemPlace} (h : DataW.trod enc P w 0 sp true n t cs = some x) (hw : ∀ m ∈ x.1.weights P t, m ≤ reachBytes) :
   ∃ u v y z m, cs = [u, v] ∧ DataW.trod enc P w 0 sp true m f0.type [u] = some y ∧ DataW.trod enc P w 0 sp true m f1.type [v] = some z ∧ (∀ m ∈ y.1.weights P f0.type, m ≤ reachBytes) ∧ (∀ m ∈ z.1.weights P f1.type, m ≤ reachBytes) := by
 obtain ⟨y0, y1, m, rfl, hl, g0, g1⟩ := trod_struct2 ht h
 rw [hc] at hl
 rw [h0, c0] at g0
 rw [h1, c1] at g1
 simp only [DataW.weights, ht, DataW.weightsEach, List.map_cons, List.map_nil, List.mem_append, List.append_nil] at hw
 match cs, hl with
 | [u, v], _ =>
   refine ⟨u, v, y0, y1, m, rfl, g0, g1, fun m hm => hw m ?_, fun m hm => hw m ?_⟩
   · exact .inl hm
   · exact .inr hm
end
theorem Evol.kept {ok ok' : Nat → Nat → Prop} {own' : Nat → Prop} {w w' : World} (he : Evol (fun _ => False) ok w own' ok' w') : w.keptBut w' (fun _ => False) := by
 refine ⟨he.os, he.output, fun i hi => ?_⟩
 rw [he.unch i hi (fun h => h)]
 cases w.heap[i]? with
 | none => rfl
 | some o => cases o <;> simp
theorem Evol.sameAt {ok ok' : Nat → Nat → Prop} {own' : Nat → Prop} {w w' : World} (he : Evol (fun _ => False) ok w own' ok' w') {p : MemPlace} (hp : p.block < w.heap.size) : w.sameAt w' p := by
 have h := he.unch p.block hp (fun h => h)
 cases p with
 | cell b off => exact World.cell?_of_block (w := w) (a := ⟨b, off, none⟩) h
 | map b => exact h
end Go.Aw
end
section
set_option maxRecDepth 100000
namespace Go.Aw
open Go.RowKit Go.ChangeShapes Go.WideShapes Go.Proofs
theorem own0 : ownKnob Tryd.prog.godebug = none := by kernel_rfl
theorem laidOut0 : laidOutB Tryd.prog = true := by kernel_rfl
theorem rowed0 : mapsRowed Tryd.prog = true := by kernel_rfl
theorem full0 : ∀ t e, t < Tryd.prog.types.size → Tryd.prog.underlying t = some (.slice e) → 0 < Tryd.prog.cellsOf e := slices_full_of _ (by kernel_rfl)
def okAll (w : World) (b o : Nat) : Prop := ∃ u, w.cell? ⟨b, o, none⟩ = some u
theorem glob_of_laid {w : World} (h : laidMetH Tryd.prog YtgpeegdinblnoaaDoor.Rows.guardAlikesRow.laid w) : GlobOk w (okAll w) := by
 have h' : laidMet Tryd.prog YtgpeegdinblnoaaDoor.Rows.guardAlikesRow.laid w := h
 obtain ⟨ps, ⟨g1, t1, c1, n1, p1, q1, a1, a2, a3, a4, ⟨g, t, cs, n, p, q, b1, b2, b3, b4, _⟩, _⟩, _⟩ := h'
 intro g0 vs hg j v hv
 unfold globT at hg
 split at hg
 · rename_i e
   subst e
   cases hg
   obtain rfl : g = 1 := Option.some.inj (b1.symm.trans (by kernel_rfl))
   have ht : t = 170 := Option.some.inj (b2.symm.trans (by kernel_rfl))
   subst ht
   obtain ⟨xs, m, hn, hx, hl, hlen, hf⟩ := DataW.trod_array (P := Tryd.prog) (n := 64) (e := 5) (by kernel_rfl) b4
   obtain ⟨L, hL1, hL2⟩ : ∃ L : List Int, tab64 = L.map (Value.int .u8) ∧ (YtgpeegdinblnoaaDoor.Rows.laid_math_bits_deBruijn64tab : DataW Unit) = .agg (L.map fun n => .lit (.int .u8 n)) := ⟨_, rfl, rfl⟩
   have hc1 : Tryd.prog.cellsOf 5 = 1 := by kernel_rfl
   rw [hL2] at hx
   have hx' : xs.map (·.1) = L.map fun n => (.lit (.int .u8 n) : DataW Unit) := by
     have := congrArg Prod.fst hx
     simp only at this
     injection this with this
     exact this.symm
   rw [hL1, List.getElem?_map, Option.map_eq_some_iff] at hv
   obtain ⟨i, hi, rfl⟩ := hv
   have h1 : (xs.map (·.1))[j]? = some (.lit (.int .u8 i)) := by rw [hx', List.getElem?_map, hi]; rfl
   rw [List.getElem?_map, Option.map_eq_some_iff] at h1
   obtain ⟨y, hy, hy1⟩ := h1
   have hj : j < 64 := by rw [← hlen]; exact (List.getElem?_eq_some_iff.1 hy).1
   have h2 := hf j hj
   rw [hy, hc1, Nat.mul_one] at h2
   obtain ⟨i', h3, h4, _⟩ := DataW.trod_int (P := Tryd.prog) (k := .u8) (by kernel_rfl) h2
   rw [h4] at hy1
   simp only [DataW.lit.injEq, Lit.int.injEq, true_and] at hy1
   subst hy1
   have h5 : w.cell? ⟨1, j, none⟩ = some (.int .u8 i') := by
     rw [World.var?_cell b1 b3 j, ← Array.getElem?_toList]
     have h6 : (cs.toList.drop j)[0]? = some (.int .u8 i') := by
       have := congrArg (fun l => l[0]?) h3
       simpa [List.getElem?_take] using this
     simpa using h6
   exact ⟨⟨_, h5⟩, h5⟩
 · cases hg
theorem all_kept {H : Type} {enc : TypeId × Value → H} {w w' : World} {own' : Nat → Prop} {ok ok' : Nat → Nat → Prop} (he : Evol (fun _ => False) ok w own' ok' w') :
   ∀ {ts : List TypeId} {vs : List Value} {ds : List (DataW H)} {ps : List MemPlace}, DataW.TrodAll enc Tryd.prog w 0 (fun _ => true) true ts vs ds ps → DataW.TrodAll enc Tryd.prog w' 0 (fun _ => true) true ts vs ds ps
 | [], [], [], _, h => h
 | _ :: _, _ :: _, _ :: _, _, ⟨p, q, ⟨n, h1⟩, h2, e⟩ => ⟨p, q, ⟨n, DataW.trod_carry _ _ _ _ h1 fun a ha => he.sameAt (DataW.trod_lt _ _ _ _ h1 a ha)⟩, all_kept he h2, e⟩
theorem lifted_of {f : FuncId} {fn : Func} {s : ChangeSpec} (hfn : Tryd.prog.funcs[f]? = some fn) (hvars : s.vars = []) (hni : Tryd.prog.inits.idxOf? f = none)
   (hspec : ∀ (H : Type) (ds : List (DataW H)), ds.length = fn.params.toList.length → s.fn H ds = { results := [.lit (.bool true)], args := ds })
   (hres : fn.resultTypes.toList = [4]) (hps : ∀ t ∈ fn.params.toList, t < Tryd.prog.types.size)
   (hread : ∀ {H : Type} {enc : TypeId × Value → H} (w : World) (base : Nat) (args : Array Value) (ds : List (DataW H)) (p : List MemPlace), (∀ (j : Nat) t v, fn.params[j]? = some t → args[j]? = some v → Value.okWide Tryd.prog w .any base t v) →
     DataW.TrodAll enc Tryd.prog w 0 (fun _ => true) true fn.params.toList args.toList ds p → (∀ m ∈ DataW.weightsEach Tryd.prog fn.params.toList ds, m ≤ reachBytes) →
     ∃ av : List V, args.size = av.length ∧ (∀ (i : Nat) (d : V) (v : Value), av[i]? = some d → args[i]? = some v → Rep w (okAll w) (fun _ => none) v d) ∧ CallsTo Tryd.prog f av (.lit (.bool true)))
   (os : Os) (started : os.Started) (H : Type) (enc : TypeId × Value → H)
   (hwit : ∃ (w : World) (tape : Tape) (i : Input), w.os = os ∧ (w.forCall tape i).Shaped Tryd.checked.prog ∧ i.vars = [] ∧ Input.okWide Tryd.checked.prog (w.forCall tape i) .any w.heap.size f i ∧
     ((s.pre enc Tryd.checked.prog fn [] false (w.forCall tape i).memory i.args ∧ laidMetH Tryd.prog YtgpeegdinblnoaaDoor.Rows.guardAlikesRow.laid (w.forCall tape i).memory) ∧ sizedMet enc Tryd.checked.prog fn (OpenSpec.ofChange s) false (w.forCall tape i).memory i.args) ∧ ({} : Assume).holds Tryd.checked.prog (lone (Frame.enter Tryd.checked.prog f i.args .normal) [] (w.forCall tape i))) :
   ReturnsInHanded {} Tryd.checked os f .any (fun w args => (s.pre enc Tryd.checked.prog fn [] false w args ∧ laidMetH Tryd.prog YtgpeegdinblnoaaDoor.Rows.guardAlikesRow.laid w) ∧ sizedMet enc Tryd.checked.prog fn (OpenSpec.ofChange s) false w args)
     (s.post enc Tryd.checked.prog fn false true false false) := by
 refine returnsInHanded_of_change_and (C := Tryd.checked) (X := fun w _ => laidMetH Tryd.prog YtgpeegdinblnoaaDoor.Rows.guardAlikesRow.laid w) (fun _ _ _ hh h => h.of_heap hh) own0 started hni hfn hwit ?_
 intro W base args ds gs before hval hW _ hwts hL _
 have hW' := hW
 obtain ⟨p, q, hA, hV, hpq, hfz, hnd⟩ := hW
 rw [hvars] at hV
 obtain ⟨rfl, rfl⟩ : gs = [] ∧ q = [] := by
   cases gs with
   | nil => exact ⟨rfl, hV⟩
   | cons g r => exact absurd hV (by intro h; cases h)
 have hvt : s.plain.varTypes Tryd.checked.prog = [] := by unfold DataSpec.varTypes ChangeSpec.plain; rw [hvars]; rfl
 rw [hvt, List.append_nil, List.append_nil, List.all_eq_true] at hwts
 obtain ⟨av, hsz, hrep, hct⟩ := hread W base args ds p hval hA (fun m hm => by simpa using hwts m hm)
 refine ((hct W (okAll W) args (fun b o h => h) (glob_of_laid hL) hsz hrep).calls (FW_room _)).mono fun e W' ⟨v, own', ok', he, hev, _, hrv⟩ => ?_
 subst he
 refine ⟨v, rfl, ?_⟩
 have hv : v = .bool true := by cases hrv; rfl
 subst hv
 have hlen : ds.length = fn.params.toList.length := by
   have key : ∀ {ts : List TypeId} {vs : List Value} {ds : List (DataW H)} {ps : List MemPlace}, DataW.TrodAll enc Tryd.prog W 0 (fun _ => true) true ts vs ds ps → ds.length = ts.length := by
     intro ts
     induction ts with
     | nil => intro vs ds ps h; obtain ⟨_, rfl, _⟩ := trodAll_nil h; rfl
     | cons t ts ih =>
       intro vs ds ps h
       obtain ⟨v, vs', d, ds', p, q, _, rfl, _, _, h2⟩ := trodAll_cons h
       simp [ih h2]
   exact key hA
 have hfnd : s.fn H (ds ++ []) = { results := [.lit (.bool true)], args := ds } := by rw [List.append_nil]; exact hspec H ds hlen
 refine ⟨ds, [], before, [], p, [], hW', ?_, ?_, ?_, World.keptBut_mono (fun _ f => f.elim) hev.kept, fun h => by cases h⟩
 · rw [hfnd, hres]
   have : (Value.bool true).resultList fn.resultTypes.size = [.bool true] := by
     have : fn.resultTypes.size = 1 := by rw [← Array.length_toList, hres]; rfl
     rw [this]; rfl
   rw [this]
   exact trodAll_mk1 (shut_bool (P := Tryd.prog) (by kernel_rfl) true)
 · rw [hfnd]
   refine DataW.TrodAll.respare (P := Tryd.prog) (T := (· < Tryd.prog.types.size)) (kids_rows laidOut0 rowed0) full0 hps (all_kept hev hA) fun a ha => ?_
   exact decide_eq_true (DataW.TrodAll.lt hA a ha)
 · rw [hfnd, hvars]; rfl
end Go.Aw
end
section
set_option maxRecDepth 100000
namespace Go.Aw
open Go.RowKit Go.ChangeShapes Go.WideShapes Go.Proofs
section
variable {H : Type} {enc : TypeId × Value → H} {w : World}
theorem gint_read {n : Nat} {cs : List Value} {x : DataW H × List MemPlace} (h : DataW.trod enc Tryd.prog w 0 (fun _ => true) true n 3 cs = some x) : ∃ i, cs = [.int .i64 i] := by
 obtain ⟨i, e, _⟩ := int_rep Tryd.underlying3 h
 exact ⟨i, e⟩
theorem gints_read {n : Nat} {cs : List Value} {x : DataW H × List MemPlace} (h : DataW.trod enc Tryd.prog w 0 (fun _ => true) true n 22 cs = some x) (hw : ∀ m ∈ x.1.weights Tryd.prog 22, m ≤ reachBytes) :
   ∃ (v : Value) (l : List Int), cs = [v] ∧ l.length ≤ reachBytes ∧ (∀ a ∈ l, True) ∧ Rep w (okAll w) (fun _ => none) v (.sl 1 (l.map encI) false) :=
 slice_rep (k := 1) (en := encI) (q := fun _ => True) (by decide) Tryd.underlying22 (by kernel_rfl) (of_decide_eq_true (by kernel_rfl)) (fun _ => rfl) (fun n cs x h _ => by
   obtain ⟨i, rfl⟩ := gint_read h
   refine ⟨i, trivial, rfl, fun k d u hd hu => ?_⟩
   match k with
   | 0 => cases hd; cases hu; exact .lit _ rfl
   | k + 1 => cases hd) (fun b o u h => ⟨u, h⟩) h hw
theorem guard_read (n : Nat) (cs : List Value) (x : DataW H × List MemPlace) (h : DataW.trod enc Tryd.prog w 0 (fun _ => true) true n 24 cs = some x) (hw : ∀ m ∈ x.1.weights Tryd.prog 24, m ≤ reachBytes) :
   ∃ a : Grd, a.2.length ≤ reachBytes ∧ RepL w (okAll w) cs (encGd a) := by
 obtain ⟨u, v, y, z, m, rfl, h1, h2, _, h3⟩ := struct2_cells Tryd.underlying24 (by kernel_rfl) rfl rfl (by kernel_rfl) (by kernel_rfl) h hw
 obtain ⟨i, e1⟩ := gint_read h1
 obtain ⟨v, l, e, hl, _, hr⟩ := gints_read h2 h3
 cases e
 cases e1
 refine ⟨(i, l), hl, rfl, fun k d u hd hu => ?_⟩
 match k with
 | 0 => cases hd; cases hu; exact .lit _ rfl
 | 1 => cases hd; cases hu; exact hr
 | k + 2 => cases hd
theorem gaugeA_read {base : Nat} {v : Value} {d : DataW H} {p : List MemPlace} (hv : Value.okWide Tryd.prog w .any base 26 v) (h : DataW.Trod enc Tryd.prog w 0 (fun _ => true) true 26 v d p) :
   ∃ g : Gau, Rep w (okAll w) (fun _ => none) v (encGa g) := by
 obtain ⟨vs, rfl, hsz⟩ := okWide_struct Tryd.underlying26 hv
 obtain ⟨n, h⟩ := h
 obtain ⟨y0, y1, y2, y3, m, e, hl, g0, g1, g2, g3⟩ := Go.Joins.trod_struct4 Tryd.underlying26 h
 have hc4 : Tryd.prog.cellsOf 26 = 4 := by kernel_rfl
 have hc1 : Tryd.prog.cellsOf 3 = 1 := by kernel_rfl
 rw [hc4] at hl
 simp only [hc1] at g0 g1 g2 g3
 have hl' : vs.toList.length = 4 := hl
 have hcs : (Value.agg vs).cells.toList = vs.toList := rfl
 rw [hcs] at g0 g1 g2 g3
 match hvs : vs.toList, hl' with
 | [c0, c1, c2, c3], _ =>
   rw [hvs] at g0 g1 g2 g3
   simp only [List.drop_zero, List.drop_succ_cons, List.take_succ_cons, List.take_zero] at g0 g1 g2 g3
   obtain ⟨i0, e0⟩ := gint_read g0
   obtain ⟨i1, e1⟩ := gint_read g1
   obtain ⟨i2, e2⟩ := gint_read g2
   obtain ⟨i3, e3⟩ := gint_read g3
   cases e0
   cases e1
   cases e2
   cases e3
   refine ⟨⟨i0, i1, i2, i3⟩, .agg vs _ (by rw [← Array.length_toList, hvs]; rfl) fun i d u hd hu => ?_⟩
   have hu' : vs.toList[i]? = some u := by rw [Array.getElem?_toList]; exact hu
   rw [hvs] at hu'
   match i with
   | 0 => cases hd; cases hu'; exact .lit _ rfl
   | 1 => cases hd; cases hu'; exact .lit _ rfl
   | 2 => cases hd; cases hu'; exact .lit _ rfl
   | 3 => cases hd; cases hu'; exact .lit _ rfl
   | i + 4 => cases hd
theorem stockA_read {base : Nat} {v : Value} {d : DataW H} {p : List MemPlace} (hv : Value.okWide Tryd.prog w .any base 38 v) (h : DataW.Trod enc Tryd.prog w 0 (fun _ => true) true 38 v d p) (hw : ∀ m ∈ d.weights Tryd.prog 38, m ≤ reachBytes) :
   ∃ ls rs : List Grd, Rep w (okAll w) (fun _ => none) v (encSt ls rs false false) ∧ ls.length ≤ 4611686018427387904 ∧ rs.length ≤ 4611686018427387904 ∧ (∀ x ∈ ls, x.2.length ≤ 4611686018427387904) ∧ (∀ x ∈ rs, x.2.length ≤ 4611686018427387904) := by
 obtain ⟨vs, rfl, hsz⟩ := okWide_struct Tryd.underlying38 hv
 obtain ⟨n, h⟩ := h
 obtain ⟨a, b, y, z, m, e, h1, h2, h3, h4⟩ := struct2_cells Tryd.underlying38 (by kernel_rfl) rfl rfl (by kernel_rfl) (by kernel_rfl) h hw
 obtain ⟨v1, ls, e1, hl1, hq1, hr1⟩ := slice_rep (k := 2) (en := encGd) (by decide) Tryd.underlying28 (by kernel_rfl) (of_decide_eq_true (by kernel_rfl)) (fun _ => rfl) guard_read (fun b o u h => ⟨u, h⟩) h1 h3
 obtain ⟨v2, rs, e2, hl2, hq2, hr2⟩ := slice_rep (k := 2) (en := encGd) (by decide) Tryd.underlying28 (by kernel_rfl) (of_decide_eq_true (by kernel_rfl)) (fun _ => rfl) guard_read (fun b o u h => ⟨u, h⟩) h2 h4
 cases e1
 cases e2
 have hr : reachBytes ≤ 4611686018427387904 := by decide
 refine ⟨ls, rs, .agg vs _ (by rw [← Array.length_toList]; exact congrArg List.length e) fun i d u hd hu => ?_, by omega, by omega, fun b hb => Nat.le_trans (hq1 b hb) hr, fun c hc => Nat.le_trans (hq2 c hc) hr⟩
 have e' : vs.toList = [a, b] := e
 have hu' : vs.toList[i]? = some u := by rw [Array.getElem?_toList]; exact hu
 rw [e'] at hu'
 match i with
 | 0 => cases hd; cases hu'; exact hr1
 | 1 => cases hd; cases hu'; exact hr2
 | i + 2 => cases hd
end
noncomputable def laidWorld (os : Os) : World :=
 let w0 := World.holding Tryd.prog os ⟨#[], #[], []⟩
 let put (w : World) (g : Nat) (vs : List Int) : World := { w with heap := w.heap.modify g fun
     | .cells _ t frozen => .cells (vs.map (Value.int .u8)).toArray t frozen
     | o => o }
 put (put w0 0 [0, 1, 28, 2, 29, 14, 24, 3, 30, 22, 20, 15, 25, 17, 4, 8, 31, 27, 13, 23, 21, 19, 16, 7, 26, 12, 18, 6, 11, 5, 10, 9]) 1
   [0, 1, 56, 2, 57, 49, 28, 3, 61, 58, 42, 50, 38, 29, 17, 4, 62, 47, 59, 36, 45, 43, 51, 22, 53, 39, 33, 30, 24, 18, 12, 5, 63, 55, 48, 27, 60, 41, 37, 16, 46, 35, 44, 21, 52, 32, 23, 11, 54, 26, 40, 15, 34, 20, 31, 10, 25, 14, 19, 9, 13, 8, 7, 6]
theorem laidWorld_met (os : Os) (args : Array Value) : laidMetH Tryd.prog YtgpeegdinblnoaaDoor.Rows.guardAlikesRow.laid ((laidWorld os).forCall (fun _ _ => 0) ⟨#[], args, []⟩).memory := by
 show laidMet _ _ _
 exact laidMet_of_run' 8 (by kernel_rfl) (by kernel_rfl)
end Go.Aw
end
section
set_option maxRecDepth 100000
namespace Go.Proofs.YtgpeegdinblnoaaDoor
open Go Go.Aw Go.RowKit Go.ChangeShapes Go.WideShapes
theorem guardTwins_wit (os : Os) (H : Type) (enc : TypeId × Value → H) : ∃ (w : World) (tape : Tape) (i : Input), w.os = os ∧ (w.forCall tape i).Shaped Tryd.checked.prog ∧ i.vars = [] ∧ Input.okWide Tryd.checked.prog (w.forCall tape i) .any w.heap.size 7 i ∧
     ((Rows.guardTwinsSpec.pre enc Tryd.checked.prog Tryd.f7 [] false (w.forCall tape i).memory i.args ∧ laidMetH Tryd.prog Rows.guardTwinsRow.laid (w.forCall tape i).memory) ∧ sizedMet enc Tryd.checked.prog Tryd.f7 (OpenSpec.ofChange Rows.guardTwinsSpec) false (w.forCall tape i).memory i.args) ∧ ({} : Assume).holds Tryd.checked.prog (lone (Frame.enter Tryd.checked.prog 7 i.args .normal) [] (w.forCall tape i)) :=
 ChangeSpec.witness_at (enc := enc) (C := Tryd.checked) (os := os) (X := fun w _ => laidMetH Tryd.prog Rows.guardTwinsRow.laid w) false (laidWorld os) #[.agg #[.slice none 0 0, .slice none 0 0], .agg #[.int .i64 0, .int .i64 0, .int .i64 0, .int .i64 0]] 8 rfl (by kernel_rfl) (by kernel_rfl) (by kernel_rfl) (by kernel_rfl) (by kernel_rfl) (laidWorld_met os _)
theorem guardTwins_said : Rows.GuardTwinsSaid :=
 OpenClaim.holds_of_wide 7 Tryd.f7 rfl rfl rfl rfl rfl rfl rfl ⟨rfl, rfl, rfl, rfl, rfl⟩ rfl rfl rfl rfl rfl (by kernel_rfl) Tryd.func7 (by kernel_rfl)
   (of_decide_eq_true (by kernel_rfl)) (by unfold Func.isWrapper; first | (rw [if_pos (by decide +kernel)]; kernel_rfl) | (rw [if_neg (by decide +kernel)]; exact ⟨rfl, rfl⟩))
   (fun os started H enc _ => lifted_of Tryd.func7 rfl (by kernel_rfl) (fun H ds hd => by
       match ds, hd with
       | [_, _], _ => rfl) (by kernel_rfl) (fun t ht => by
         have : Tryd.f7.params.toList.all (fun t => decide (t < Tryd.prog.types.size)) = true := by kernel_rfl
         simpa using List.all_eq_true.1 this t ht)
     (fun {H enc} w base args ds p hv hA hw => by
       rw [Tryd.params7] at hA hv hw
       obtain ⟨v0, vs0, d0, ds0, p0, q0, e0, rfl, _, g0, r0⟩ := trodAll_cons hA
       obtain ⟨v1, vs1, d1, ds1, p1, q1, rfl, rfl, _, g1, r1⟩ := trodAll_cons r0
       obtain ⟨rfl, rfl, _⟩ := trodAll_nil r1
       obtain rfl : args = #[v0, v1] := by cases args; simp_all
       obtain ⟨a0, b0, h0, k0, l0, m0, n0⟩ := stockA_read (hv 0 38 v0 rfl rfl) g0 (fun m hm => hw m (by simp only [DataW.weightsEach, List.mem_append]; exact .inl hm))
       obtain ⟨a1, h1⟩ := gaugeA_read (hv 1 26 v1 rfl rfl) g1
       refine ⟨[encSt a0 b0 false false, encGa a1], rfl, fun i d u hd hu => ?_, (GuardTwins_spec a0 b0 a1 k0 l0 m0 n0 ).1⟩
       match i with
       | 0 => cases hd; cases hu; exact h0
       | 1 => cases hd; cases hu; exact h1
       | i + 2 => cases hd) os started H enc (guardTwins_wit os H enc))
theorem guardTwins_card : Rows.GuardTwinsCardSaid :=
 Claim7.holds_tied_plain_at .later [] [.data, .data] true (true, "2743f537752629cc39242edba28dddd2878ae44136102d9440533fb6bdff82ae") false
   guardTwins_said (fun _ h => by cases h) (by kernel_rfl) (fun _ h => by cases h) guardTwins_row_tie rfl ⟨rfl, rfl⟩ (by kernel_rfl) rfl
   (fun f fn hf hfn => by
     obtain rfl : f = 7 := Option.some.inj ((show Tryd.prog.funcNamed "panache/panachelaw06.GuardTwins" = some 7 by kernel_rfl).symm.trans hf) |>.symm
     obtain rfl : fn = Tryd.f7 := (Option.some.inj (Tryd.func7.symm.trans hfn)).symm
     exact ⟨by kernel_rfl, fun j t ht => by
       have h3 : Tryd.f7.params.toList.all (fun t => !Tryd.prog.wantsStandIn t) = true := by kernel_rfl
       have h4 : (!Tryd.prog.wantsStandIn t) = true := List.all_eq_true.1 h3 t (by rw [← Array.getElem?_toList] at ht; exact List.mem_of_getElem? ht)
       have h5 : Tryd.prog.wantsStandIn t = false := by rwa [Bool.not_eq_true'] at h4
       exact h5⟩)
   (by kernel_rfl)
#print axioms guardTwins_card
end Go.Proofs.YtgpeegdinblnoaaDoor
end
