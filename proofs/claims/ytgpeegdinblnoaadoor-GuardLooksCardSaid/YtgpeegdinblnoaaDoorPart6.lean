/-
  A part of the proof that a law returns true for every input that the given row speaks of: an own verified walk over the program (namespace Go.Aw), contracts of the functions that the law calls, and the law itself. Conditions: those of the given row, no other.
-/
import Derived.Test.YtgpeegdinblnoaaDoorPart5
set_option linter.unusedVariables false
set_option linter.unusedSimpArgs false
set_option maxHeartbeats 4000000
set_option maxRecDepth 20000
section
namespace Go.Aw
open Go.RowKit Go.Proofs
theorem kAll (l : List (Nat × Nat)) (e f : Bool) (hl : l.length ≤ 10) : Ct Tryd.prog 30 [.sl 2 (l.map encP) e, .sl 2 (l.map encP) f] (.lit (.bool true)) := by
 have h := rAll_spec l l e f (by omega) (by omega)
 rwa [beq_self_eq_true] at h
theorem kInts (l : List Int) (e f : Bool) (hl : l.length ≤ 10) : Ct Tryd.prog 36 [.sl 1 (l.map encI) e, .sl 1 (l.map encI) f] (.lit (.bool true)) := by
 have h := rInts_spec l l e f (by omega) (by omega)
 rwa [beq_self_eq_true] at h
theorem gknown_spec : Ct Tryd.prog 15 [] (.lit (.bool true)) := by
 refine fn_enter Tryd.func15 rfl (by decide) Tryd.results15 Tryd.ntmps15 ?_ rfl (by simp (maxSteps := 1000000) -implicitDefEqProofs (disch := omega) only [go_sem]; rfl) fun base => ?_
 · first | assumption | (simp only [go_sem] <;> assumption) | (simp only [go_sem, *]; done) | (simp [go_sem]; done)
 repeat' (first
   | (with_reducible apply Req_intro); focus (first | omega | assumption | (simp; done))
   | with_reducible (first | apply Req_intro | refine nilT ?_ fun hn => ?_ | apply wk_draw Tryd_mixed | refine drawEnd (by kernel_rfl) ?_)
   | (with_reducible (first | apply condA_if | apply stepDG_ifN | apply stepDG_if | apply stepG_ifN | apply stepG_if)) <;> intro hb <;> (have hif := hb) <;> (try simp only [bo] at hif) <;> (try simp -implicitDefEqProofs (disch := omega) only [go_sem, hb]) <;> clear hb
   | simp (maxSteps := 1000000) -implicitDefEqProofs (disch := omega) only [go_sem])
 refine callp (one_spec 100 20) ?_
 try simp (maxSteps := 1000000) -implicitDefEqProofs (disch := omega) only [go_sem]
 repeat' (first
   | (with_reducible apply Req_intro); focus (first | omega | assumption | (simp; done))
   | with_reducible (first | apply Req_intro | refine nilT ?_ fun hn => ?_ | apply wk_draw Tryd_mixed | refine drawEnd (by kernel_rfl) ?_)
   | (with_reducible (first | apply condA_if | apply stepDG_ifN | apply stepDG_if | apply stepG_ifN | apply stepG_if)) <;> intro hb <;> (have hif := hb) <;> (try simp only [bo] at hif) <;> (try simp -implicitDefEqProofs (disch := omega) only [go_sem, hb]) <;> clear hb
   | simp (maxSteps := 1000000) -implicitDefEqProofs (disch := omega) only [go_sem])
 refine callp (one_spec 104 24) ?_
 try simp (maxSteps := 1000000) -implicitDefEqProofs (disch := omega) only [go_sem]
 repeat' (first
   | (with_reducible apply Req_intro); focus (first | omega | assumption | (simp; done))
   | with_reducible (first | apply Req_intro | refine nilT ?_ fun hn => ?_ | apply wk_draw Tryd_mixed | refine drawEnd (by kernel_rfl) ?_)
   | (with_reducible (first | apply condA_if | apply stepDG_ifN | apply stepDG_if | apply stepG_ifN | apply stepG_if)) <;> intro hb <;> (have hif := hb) <;> (try simp only [bo] at hif) <;> (try simp -implicitDefEqProofs (disch := omega) only [go_sem, hb]) <;> clear hb
   | simp (maxSteps := 1000000) -implicitDefEqProofs (disch := omega) only [go_sem])
 refine callp (gauge_spec 5) ?_
 try simp (maxSteps := 1000000) -implicitDefEqProofs (disch := omega) only [go_sem]
 repeat' (first
   | (with_reducible apply Req_intro); focus (first | omega | assumption | (simp; done))
   | with_reducible (first | apply Req_intro | refine nilT ?_ fun hn => ?_ | apply wk_draw Tryd_mixed | refine drawEnd (by kernel_rfl) ?_)
   | (with_reducible (first | apply condA_if | apply stepDG_ifN | apply stepDG_if | apply stepG_ifN | apply stepG_if)) <;> intro hb <;> (have hif := hb) <;> (try simp only [bo] at hif) <;> (try simp -implicitDefEqProofs (disch := omega) only [go_sem, hb]) <;> clear hb
   | simp (maxSteps := 1000000) -implicitDefEqProofs (disch := omega) only [go_sem])
 refine callp kAlike ?_
 try simp (maxSteps := 1000000) -implicitDefEqProofs (disch := omega) only [go_sem]
 repeat' (first
   | (with_reducible apply Req_intro); focus (first | omega | assumption | (simp; done))
   | with_reducible (first | apply Req_intro | refine nilT ?_ fun hn => ?_ | apply wk_draw Tryd_mixed | refine drawEnd (by kernel_rfl) ?_)
   | (with_reducible (first | apply condA_if | apply stepDG_ifN | apply stepDG_if | apply stepG_ifN | apply stepG_if)) <;> intro hb <;> (have hif := hb) <;> (try simp only [bo] at hif) <;> (try simp -implicitDefEqProofs (disch := omega) only [go_sem, hb]) <;> clear hb
   | simp (maxSteps := 1000000) -implicitDefEqProofs (disch := omega) only [go_sem])
 refine callp stock_spec ?_
 try simp (maxSteps := 1000000) -implicitDefEqProofs (disch := omega) only [go_sem]
 repeat' (first
   | (with_reducible apply Req_intro); focus (first | omega | assumption | (simp; done))
   | with_reducible (first | apply Req_intro | refine nilT ?_ fun hn => ?_ | apply wk_draw Tryd_mixed | refine drawEnd (by kernel_rfl) ?_)
   | (with_reducible (first | apply condA_if | apply stepDG_ifN | apply stepDG_if | apply stepG_ifN | apply stepG_if)) <;> intro hb <;> (have hif := hb) <;> (try simp only [bo] at hif) <;> (try simp -implicitDefEqProofs (disch := omega) only [go_sem, hb]) <;> clear hb
   | simp (maxSteps := 1000000) -implicitDefEqProofs (disch := omega) only [go_sem])
 refine callp (gauge_spec 5) ?_
 try simp (maxSteps := 1000000) -implicitDefEqProofs (disch := omega) only [go_sem]
 repeat' (first
   | (with_reducible apply Req_intro); focus (first | omega | assumption | (simp; done))
   | with_reducible (first | apply Req_intro | refine nilT ?_ fun hn => ?_ | apply wk_draw Tryd_mixed | refine drawEnd (by kernel_rfl) ?_)
   | (with_reducible (first | apply condA_if | apply stepDG_ifN | apply stepDG_if | apply stepG_ifN | apply stepG_if)) <;> intro hb <;> (have hif := hb) <;> (try simp only [bo] at hif) <;> (try simp -implicitDefEqProofs (disch := omega) only [go_sem, hb]) <;> clear hb
   | simp (maxSteps := 1000000) -implicitDefEqProofs (disch := omega) only [go_sem])
 refine callp kPairs ?_
 try simp (maxSteps := 1000000) -implicitDefEqProofs (disch := omega) only [go_sem]
 repeat' (first
   | (with_reducible apply Req_intro); focus (first | omega | assumption | (simp; done))
   | with_reducible (first | apply Req_intro | refine nilT ?_ fun hn => ?_ | apply wk_draw Tryd_mixed | refine drawEnd (by kernel_rfl) ?_)
   | (with_reducible (first | apply condA_if | apply stepDG_ifN | apply stepDG_if | apply stepG_ifN | apply stepG_if)) <;> intro hb <;> (have hif := hb) <;> (try simp only [bo] at hif) <;> (try simp -implicitDefEqProofs (disch := omega) only [go_sem, hb]) <;> clear hb
   | simp (maxSteps := 1000000) -implicitDefEqProofs (disch := omega) only [go_sem])
 refine callp stock_spec ?_
 try simp (maxSteps := 1000000) -implicitDefEqProofs (disch := omega) only [go_sem]
 repeat' (first
   | (with_reducible apply Req_intro); focus (first | omega | assumption | (simp; done))
   | with_reducible (first | apply Req_intro | refine nilT ?_ fun hn => ?_ | apply wk_draw Tryd_mixed | refine drawEnd (by kernel_rfl) ?_)
   | (with_reducible (first | apply condA_if | apply stepDG_ifN | apply stepDG_if | apply stepG_ifN | apply stepG_if)) <;> intro hb <;> (have hif := hb) <;> (try simp only [bo] at hif) <;> (try simp -implicitDefEqProofs (disch := omega) only [go_sem, hb]) <;> clear hb
   | simp (maxSteps := 1000000) -implicitDefEqProofs (disch := omega) only [go_sem])
 refine callp (gauge_spec 5) ?_
 try simp (maxSteps := 1000000) -implicitDefEqProofs (disch := omega) only [go_sem]
 repeat' (first
   | (with_reducible apply Req_intro); focus (first | omega | assumption | (simp; done))
   | with_reducible (first | apply Req_intro | refine nilT ?_ fun hn => ?_ | apply wk_draw Tryd_mixed | refine drawEnd (by kernel_rfl) ?_)
   | (with_reducible (first | apply condA_if | apply stepDG_ifN | apply stepDG_if | apply stepG_ifN | apply stepG_if)) <;> intro hb <;> (have hif := hb) <;> (try simp only [bo] at hif) <;> (try simp -implicitDefEqProofs (disch := omega) only [go_sem, hb]) <;> clear hb
   | simp (maxSteps := 1000000) -implicitDefEqProofs (disch := omega) only [go_sem])
 refine callp kPossible ?_
 try simp (maxSteps := 1000000) -implicitDefEqProofs (disch := omega) only [go_sem]
 repeat' (first
   | (with_reducible apply Req_intro); focus (first | omega | assumption | (simp; done))
   | with_reducible (first | apply Req_intro | refine nilT ?_ fun hn => ?_ | apply wk_draw Tryd_mixed | refine drawEnd (by kernel_rfl) ?_)
   | (with_reducible (first | apply condA_if | apply stepDG_ifN | apply stepDG_if | apply stepG_ifN | apply stepG_if)) <;> intro hb <;> (have hif := hb) <;> (try simp only [bo] at hif) <;> (try simp -implicitDefEqProofs (disch := omega) only [go_sem, hb]) <;> clear hb
   | simp (maxSteps := 1000000) -implicitDefEqProofs (disch := omega) only [go_sem])
 refine callp stock_spec ?_
 try simp (maxSteps := 1000000) -implicitDefEqProofs (disch := omega) only [go_sem]
 repeat' (first
   | (with_reducible apply Req_intro); focus (first | omega | assumption | (simp; done))
   | with_reducible (first | apply Req_intro | refine nilT ?_ fun hn => ?_ | apply wk_draw Tryd_mixed | refine drawEnd (by kernel_rfl) ?_)
   | (with_reducible (first | apply condA_if | apply stepDG_ifN | apply stepDG_if | apply stepG_ifN | apply stepG_if)) <;> intro hb <;> (have hif := hb) <;> (try simp only [bo] at hif) <;> (try simp -implicitDefEqProofs (disch := omega) only [go_sem, hb]) <;> clear hb
   | simp (maxSteps := 1000000) -implicitDefEqProofs (disch := omega) only [go_sem])
 refine callp (gauge_spec 5) ?_
 try simp (maxSteps := 1000000) -implicitDefEqProofs (disch := omega) only [go_sem]
 repeat' (first
   | (with_reducible apply Req_intro); focus (first | omega | assumption | (simp; done))
   | with_reducible (first | apply Req_intro | refine nilT ?_ fun hn => ?_ | apply wk_draw Tryd_mixed | refine drawEnd (by kernel_rfl) ?_)
   | (with_reducible (first | apply condA_if | apply stepDG_ifN | apply stepDG_if | apply stepG_ifN | apply stepG_if)) <;> intro hb <;> (have hif := hb) <;> (try simp only [bo] at hif) <;> (try simp -implicitDefEqProofs (disch := omega) only [go_sem, hb]) <;> clear hb
   | simp (maxSteps := 1000000) -implicitDefEqProofs (disch := omega) only [go_sem])
 refine callp kCover ?_
 try simp (maxSteps := 1000000) -implicitDefEqProofs (disch := omega) only [go_sem]
 repeat' (first
   | (with_reducible apply Req_intro); focus (first | omega | assumption | (simp; done))
   | with_reducible (first | apply Req_intro | refine nilT ?_ fun hn => ?_ | apply wk_draw Tryd_mixed | refine drawEnd (by kernel_rfl) ?_)
   | (with_reducible (first | apply condA_if | apply stepDG_ifN | apply stepDG_if | apply stepG_ifN | apply stepG_if)) <;> intro hb <;> (have hif := hb) <;> (try simp only [bo] at hif) <;> (try simp -implicitDefEqProofs (disch := omega) only [go_sem, hb]) <;> clear hb
   | simp (maxSteps := 1000000) -implicitDefEqProofs (disch := omega) only [go_sem])
 refine callp stock_spec ?_
 try simp (maxSteps := 1000000) -implicitDefEqProofs (disch := omega) only [go_sem]
 repeat' (first
   | (with_reducible apply Req_intro); focus (first | omega | assumption | (simp; done))
   | with_reducible (first | apply Req_intro | refine nilT ?_ fun hn => ?_ | apply wk_draw Tryd_mixed | refine drawEnd (by kernel_rfl) ?_)
   | (with_reducible (first | apply condA_if | apply stepDG_ifN | apply stepDG_if | apply stepG_ifN | apply stepG_if)) <;> intro hb <;> (have hif := hb) <;> (try simp only [bo] at hif) <;> (try simp -implicitDefEqProofs (disch := omega) only [go_sem, hb]) <;> clear hb
   | simp (maxSteps := 1000000) -implicitDefEqProofs (disch := omega) only [go_sem])
 refine callp (gauge_spec 5) ?_
 try simp (maxSteps := 1000000) -implicitDefEqProofs (disch := omega) only [go_sem]
 repeat' (first
   | (with_reducible apply Req_intro); focus (first | omega | assumption | (simp; done))
   | with_reducible (first | apply Req_intro | refine nilT ?_ fun hn => ?_ | apply wk_draw Tryd_mixed | refine drawEnd (by kernel_rfl) ?_)
   | (with_reducible (first | apply condA_if | apply stepDG_ifN | apply stepDG_if | apply stepG_ifN | apply stepG_if)) <;> intro hb <;> (have hif := hb) <;> (try simp only [bo] at hif) <;> (try simp -implicitDefEqProofs (disch := omega) only [go_sem, hb]) <;> clear hb
   | simp (maxSteps := 1000000) -implicitDefEqProofs (disch := omega) only [go_sem])
 refine callp kSpare ?_
 try simp (maxSteps := 1000000) -implicitDefEqProofs (disch := omega) only [go_sem]
 repeat' (first
   | (with_reducible apply Req_intro); focus (first | omega | assumption | (simp; done))
   | with_reducible (first | apply Req_intro | refine nilT ?_ fun hn => ?_ | apply wk_draw Tryd_mixed | refine drawEnd (by kernel_rfl) ?_)
   | (with_reducible (first | apply condA_if | apply stepDG_ifN | apply stepDG_if | apply stepG_ifN | apply stepG_if)) <;> intro hb <;> (have hif := hb) <;> (try simp only [bo] at hif) <;> (try simp -implicitDefEqProofs (disch := omega) only [go_sem, hb]) <;> clear hb
   | simp (maxSteps := 1000000) -implicitDefEqProofs (disch := omega) only [go_sem])
 refine callp stock_spec ?_
 try simp (maxSteps := 1000000) -implicitDefEqProofs (disch := omega) only [go_sem]
 repeat' (first
   | (with_reducible apply Req_intro); focus (first | omega | assumption | (simp; done))
   | with_reducible (first | apply Req_intro | refine nilT ?_ fun hn => ?_ | apply wk_draw Tryd_mixed | refine drawEnd (by kernel_rfl) ?_)
   | (with_reducible (first | apply condA_if | apply stepDG_ifN | apply stepDG_if | apply stepG_ifN | apply stepG_if)) <;> intro hb <;> (have hif := hb) <;> (try simp only [bo] at hif) <;> (try simp -implicitDefEqProofs (disch := omega) only [go_sem, hb]) <;> clear hb
   | simp (maxSteps := 1000000) -implicitDefEqProofs (disch := omega) only [go_sem])
 refine callp (gauge_spec 6) ?_
 try simp (maxSteps := 1000000) -implicitDefEqProofs (disch := omega) only [go_sem]
 repeat' (first
   | (with_reducible apply Req_intro); focus (first | omega | assumption | (simp; done))
   | with_reducible (first | apply Req_intro | refine nilT ?_ fun hn => ?_ | apply wk_draw Tryd_mixed | refine drawEnd (by kernel_rfl) ?_)
   | (with_reducible (first | apply condA_if | apply stepDG_ifN | apply stepDG_if | apply stepG_ifN | apply stepG_if)) <;> intro hb <;> (have hif := hb) <;> (try simp only [bo] at hif) <;> (try simp -implicitDefEqProofs (disch := omega) only [go_sem, hb]) <;> clear hb
   | simp (maxSteps := 1000000) -implicitDefEqProofs (disch := omega) only [go_sem])
 refine callp kTwins ?_
 try simp (maxSteps := 1000000) -implicitDefEqProofs (disch := omega) only [go_sem]
 repeat' (first
   | (with_reducible apply Req_intro); focus (first | omega | assumption | (simp; done))
   | with_reducible (first | apply Req_intro | refine nilT ?_ fun hn => ?_ | apply wk_draw Tryd_mixed | refine drawEnd (by kernel_rfl) ?_)
   | (with_reducible (first | apply condA_if | apply stepDG_ifN | apply stepDG_if | apply stepG_ifN | apply stepG_if)) <;> intro hb <;> (have hif := hb) <;> (try simp only [bo] at hif) <;> (try simp -implicitDefEqProofs (disch := omega) only [go_sem, hb]) <;> clear hb
   | simp (maxSteps := 1000000) -implicitDefEqProofs (disch := omega) only [go_sem])
 refine callp stock_spec ?_
 try simp (maxSteps := 1000000) -implicitDefEqProofs (disch := omega) only [go_sem]
 repeat' (first
   | (with_reducible apply Req_intro); focus (first | omega | assumption | (simp; done))
   | with_reducible (first | apply Req_intro | refine nilT ?_ fun hn => ?_ | apply wk_draw Tryd_mixed | refine drawEnd (by kernel_rfl) ?_)
   | (with_reducible (first | apply condA_if | apply stepDG_ifN | apply stepDG_if | apply stepG_ifN | apply stepG_if)) <;> intro hb <;> (have hif := hb) <;> (try simp only [bo] at hif) <;> (try simp -implicitDefEqProofs (disch := omega) only [go_sem, hb]) <;> clear hb
   | simp (maxSteps := 1000000) -implicitDefEqProofs (disch := omega) only [go_sem])
 refine callp (gauge_spec 5) ?_
 try simp (maxSteps := 1000000) -implicitDefEqProofs (disch := omega) only [go_sem]
 repeat' (first
   | (with_reducible apply Req_intro); focus (first | omega | assumption | (simp; done))
   | with_reducible (first | apply Req_intro | refine nilT ?_ fun hn => ?_ | apply wk_draw Tryd_mixed | refine drawEnd (by kernel_rfl) ?_)
   | (with_reducible (first | apply condA_if | apply stepDG_ifN | apply stepDG_if | apply stepG_ifN | apply stepG_if)) <;> intro hb <;> (have hif := hb) <;> (try simp only [bo] at hif) <;> (try simp -implicitDefEqProofs (disch := omega) only [go_sem, hb]) <;> clear hb
   | simp (maxSteps := 1000000) -implicitDefEqProofs (disch := omega) only [go_sem])
 refine callp kCut ?_
 try simp (maxSteps := 1000000) -implicitDefEqProofs (disch := omega) only [go_sem]
 repeat' (first
   | (with_reducible apply Req_intro); focus (first | omega | assumption | (simp; done))
   | with_reducible (first | apply Req_intro | refine nilT ?_ fun hn => ?_ | apply wk_draw Tryd_mixed | refine drawEnd (by kernel_rfl) ?_)
   | (with_reducible (first | apply condA_if | apply stepDG_ifN | apply stepDG_if | apply stepG_ifN | apply stepG_if)) <;> intro hb <;> (have hif := hb) <;> (try simp only [bo] at hif) <;> (try simp -implicitDefEqProofs (disch := omega) only [go_sem, hb]) <;> clear hb
   | simp (maxSteps := 1000000) -implicitDefEqProofs (disch := omega) only [go_sem])
 refine callp stock_spec ?_
 try simp (maxSteps := 1000000) -implicitDefEqProofs (disch := omega) only [go_sem]
 repeat' (first
   | (with_reducible apply Req_intro); focus (first | omega | assumption | (simp; done))
   | with_reducible (first | apply Req_intro | refine nilT ?_ fun hn => ?_ | apply wk_draw Tryd_mixed | refine drawEnd (by kernel_rfl) ?_)
   | (with_reducible (first | apply condA_if | apply stepDG_ifN | apply stepDG_if | apply stepG_ifN | apply stepG_if)) <;> intro hb <;> (have hif := hb) <;> (try simp only [bo] at hif) <;> (try simp -implicitDefEqProofs (disch := omega) only [go_sem, hb]) <;> clear hb
   | simp (maxSteps := 1000000) -implicitDefEqProofs (disch := omega) only [go_sem])
 refine callp (gauge_spec 5) ?_
 try simp (maxSteps := 1000000) -implicitDefEqProofs (disch := omega) only [go_sem]
 repeat' (first
   | (with_reducible apply Req_intro); focus (first | omega | assumption | (simp; done))
   | with_reducible (first | apply Req_intro | refine nilT ?_ fun hn => ?_ | apply wk_draw Tryd_mixed | refine drawEnd (by kernel_rfl) ?_)
   | (with_reducible (first | apply condA_if | apply stepDG_ifN | apply stepDG_if | apply stepG_ifN | apply stepG_if)) <;> intro hb <;> (have hif := hb) <;> (try simp only [bo] at hif) <;> (try simp -implicitDefEqProofs (disch := omega) only [go_sem, hb]) <;> clear hb
   | simp (maxSteps := 1000000) -implicitDefEqProofs (disch := omega) only [go_sem])
 refine callp kLook ?_
 try simp (maxSteps := 1000000) -implicitDefEqProofs (disch := omega) only [go_sem]
 repeat' (first
   | (with_reducible apply Req_intro); focus (first | omega | assumption | (simp; done))
   | with_reducible (first | apply Req_intro | refine nilT ?_ fun hn => ?_ | apply wk_draw Tryd_mixed | refine drawEnd (by kernel_rfl) ?_)
   | (with_reducible (first | apply condA_if | apply stepDG_ifN | apply stepDG_if | apply stepG_ifN | apply stepG_if)) <;> intro hb <;> (have hif := hb) <;> (try simp only [bo] at hif) <;> (try simp -implicitDefEqProofs (disch := omega) only [go_sem, hb]) <;> clear hb
   | simp (maxSteps := 1000000) -implicitDefEqProofs (disch := omega) only [go_sem])
 refine callp stock_spec ?_
 try simp (maxSteps := 1000000) -implicitDefEqProofs (disch := omega) only [go_sem]
 repeat' (first
   | (with_reducible apply Req_intro); focus (first | omega | assumption | (simp; done))
   | with_reducible (first | apply Req_intro | refine nilT ?_ fun hn => ?_ | apply wk_draw Tryd_mixed | refine drawEnd (by kernel_rfl) ?_)
   | (with_reducible (first | apply condA_if | apply stepDG_ifN | apply stepDG_if | apply stepG_ifN | apply stepG_if)) <;> intro hb <;> (have hif := hb) <;> (try simp only [bo] at hif) <;> (try simp -implicitDefEqProofs (disch := omega) only [go_sem, hb]) <;> clear hb
   | simp (maxSteps := 1000000) -implicitDefEqProofs (disch := omega) only [go_sem])
 refine callp (gauge_spec 5) ?_
 try simp (maxSteps := 1000000) -implicitDefEqProofs (disch := omega) only [go_sem]
 repeat' (first
   | (with_reducible apply Req_intro); focus (first | omega | assumption | (simp; done))
   | with_reducible (first | apply Req_intro | refine nilT ?_ fun hn => ?_ | apply wk_draw Tryd_mixed | refine drawEnd (by kernel_rfl) ?_)
   | (with_reducible (first | apply condA_if | apply stepDG_ifN | apply stepDG_if | apply stepG_ifN | apply stepG_if)) <;> intro hb <;> (have hif := hb) <;> (try simp only [bo] at hif) <;> (try simp -implicitDefEqProofs (disch := omega) only [go_sem, hb]) <;> clear hb
   | simp (maxSteps := 1000000) -implicitDefEqProofs (disch := omega) only [go_sem])
 refine callp kBalance ?_
 try simp (maxSteps := 1000000) -implicitDefEqProofs (disch := omega) only [go_sem]
 repeat' (first
   | (with_reducible apply Req_intro); focus (first | omega | assumption | (simp; done))
   | with_reducible (first | apply Req_intro | refine nilT ?_ fun hn => ?_ | apply wk_draw Tryd_mixed | refine drawEnd (by kernel_rfl) ?_)
   | (with_reducible (first | apply condA_if | apply stepDG_ifN | apply stepDG_if | apply stepG_ifN | apply stepG_if)) <;> intro hb <;> (have hif := hb) <;> (try simp only [bo] at hif) <;> (try simp -implicitDefEqProofs (disch := omega) only [go_sem, hb]) <;> clear hb
   | simp (maxSteps := 1000000) -implicitDefEqProofs (disch := omega) only [go_sem])
 refine callp (pair_spec 0 0) ?_
 try simp (maxSteps := 1000000) -implicitDefEqProofs (disch := omega) only [go_sem]
 repeat' (first
   | (with_reducible apply Req_intro); focus (first | omega | assumption | (simp; done))
   | with_reducible (first | apply Req_intro | refine nilT ?_ fun hn => ?_ | apply wk_draw Tryd_mixed | refine drawEnd (by kernel_rfl) ?_)
   | (with_reducible (first | apply condA_if | apply stepDG_ifN | apply stepDG_if | apply stepG_ifN | apply stepG_if)) <;> intro hb <;> (have hif := hb) <;> (try simp only [bo] at hif) <;> (try simp -implicitDefEqProofs (disch := omega) only [go_sem, hb]) <;> clear hb
   | simp (maxSteps := 1000000) -implicitDefEqProofs (disch := omega) only [go_sem])
 all_goals first | (exfalso; omega) | skip
 refine callp (pair_spec 1 1) ?_
 try simp (maxSteps := 1000000) -implicitDefEqProofs (disch := omega) only [go_sem]
 repeat' (first
   | (with_reducible apply Req_intro); focus (first | omega | assumption | (simp; done))
   | with_reducible (first | apply Req_intro | refine nilT ?_ fun hn => ?_ | apply wk_draw Tryd_mixed | refine drawEnd (by kernel_rfl) ?_)
   | (with_reducible (first | apply condA_if | apply stepDG_ifN | apply stepDG_if | apply stepG_ifN | apply stepG_if)) <;> intro hb <;> (have hif := hb) <;> (try simp only [bo] at hif) <;> (try simp -implicitDefEqProofs (disch := omega) only [go_sem, hb]) <;> clear hb
   | simp (maxSteps := 1000000) -implicitDefEqProofs (disch := omega) only [go_sem])
 all_goals first | (exfalso; omega) | skip
 refine callc (kAll [(0, 0), (1, 1)] false true (by decide)) ?_
 try simp (maxSteps := 1000000) -implicitDefEqProofs (disch := omega) only [go_sem]
 repeat' (first
   | (with_reducible apply Req_intro); focus (first | omega | assumption | (simp; done))
   | with_reducible (first | apply Req_intro | refine nilT ?_ fun hn => ?_ | apply wk_draw Tryd_mixed | refine drawEnd (by kernel_rfl) ?_)
   | (with_reducible (first | apply condA_if | apply stepDG_ifN | apply stepDG_if | apply stepG_ifN | apply stepG_if)) <;> intro hb <;> (have hif := hb) <;> (try simp only [bo] at hif) <;> (try simp -implicitDefEqProofs (disch := omega) only [go_sem, hb]) <;> clear hb
   | simp (maxSteps := 1000000) -implicitDefEqProofs (disch := omega) only [go_sem])
 all_goals first | (exfalso; omega) | skip
 refine callc (kInts [0, 1] false true (by decide)) ?_
 try simp (maxSteps := 1000000) -implicitDefEqProofs (disch := omega) only [go_sem]
 repeat' (first
   | (with_reducible apply Req_intro); focus (first | omega | assumption | (simp; done))
   | with_reducible (first | apply Req_intro | refine nilT ?_ fun hn => ?_ | apply wk_draw Tryd_mixed | refine drawEnd (by kernel_rfl) ?_)
   | (with_reducible (first | apply condA_if | apply stepDG_ifN | apply stepDG_if | apply stepG_ifN | apply stepG_if)) <;> intro hb <;> (have hif := hb) <;> (try simp only [bo] at hif) <;> (try simp -implicitDefEqProofs (disch := omega) only [go_sem, hb]) <;> clear hb
   | simp (maxSteps := 1000000) -implicitDefEqProofs (disch := omega) only [go_sem])
 all_goals first | (exfalso; omega) | skip
 refine callc (kInts [2] false true (by decide)) ?_
 try simp (maxSteps := 1000000) -implicitDefEqProofs (disch := omega) only [go_sem]
 repeat' (first
   | (with_reducible apply Req_intro); focus (first | omega | assumption | (simp; done))
   | with_reducible (first | apply Req_intro | refine nilT ?_ fun hn => ?_ | apply wk_draw Tryd_mixed | refine drawEnd (by kernel_rfl) ?_)
   | (with_reducible (first | apply condA_if | apply stepDG_ifN | apply stepDG_if | apply stepG_ifN | apply stepG_if)) <;> intro hb <;> (have hif := hb) <;> (try simp only [bo] at hif) <;> (try simp -implicitDefEqProofs (disch := omega) only [go_sem, hb]) <;> clear hb
   | simp (maxSteps := 1000000) -implicitDefEqProofs (disch := omega) only [go_sem])
 all_goals first | (exfalso; omega) | skip
 refine callc (kInts [2] false true (by decide)) ?_
 try simp (maxSteps := 1000000) -implicitDefEqProofs (disch := omega) only [go_sem]
 repeat' (first
   | (with_reducible apply Req_intro); focus (first | omega | assumption | (simp; done))
   | with_reducible (first | apply Req_intro | refine nilT ?_ fun hn => ?_ | apply wk_draw Tryd_mixed | refine drawEnd (by kernel_rfl) ?_)
   | (with_reducible (first | apply condA_if | apply stepDG_ifN | apply stepDG_if | apply stepG_ifN | apply stepG_if)) <;> intro hb <;> (have hif := hb) <;> (try simp only [bo] at hif) <;> (try simp -implicitDefEqProofs (disch := omega) only [go_sem, hb]) <;> clear hb
   | simp (maxSteps := 1000000) -implicitDefEqProofs (disch := omega) only [go_sem])
 all_goals first | (exfalso; omega) | skip
 refine callc (kAll [(0, 0), (1, 1)] false false (by decide)) ?_
 try simp (maxSteps := 1000000) -implicitDefEqProofs (disch := omega) only [go_sem]
 repeat' (first
   | (with_reducible apply Req_intro); focus (first | omega | assumption | (simp; done))
   | with_reducible (first | apply Req_intro | refine nilT ?_ fun hn => ?_ | apply wk_draw Tryd_mixed | refine drawEnd (by kernel_rfl) ?_)
   | (with_reducible (first | apply condA_if | apply stepDG_ifN | apply stepDG_if | apply stepG_ifN | apply stepG_if)) <;> intro hb <;> (have hif := hb) <;> (try simp only [bo] at hif) <;> (try simp -implicitDefEqProofs (disch := omega) only [go_sem, hb]) <;> clear hb
   | simp (maxSteps := 1000000) -implicitDefEqProofs (disch := omega) only [go_sem])
 all_goals first | (exfalso; omega) | skip
 refine callp (pair_spec 0 1) ?_
 try simp (maxSteps := 1000000) -implicitDefEqProofs (disch := omega) only [go_sem]
 repeat' (first
   | (with_reducible apply Req_intro); focus (first | omega | assumption | (simp; done))
   | with_reducible (first | apply Req_intro | refine nilT ?_ fun hn => ?_ | apply wk_draw Tryd_mixed | refine drawEnd (by kernel_rfl) ?_)
   | (with_reducible (first | apply condA_if | apply stepDG_ifN | apply stepDG_if | apply stepG_ifN | apply stepG_if)) <;> intro hb <;> (have hif := hb) <;> (try simp only [bo] at hif) <;> (try simp -implicitDefEqProofs (disch := omega) only [go_sem, hb]) <;> clear hb
   | simp (maxSteps := 1000000) -implicitDefEqProofs (disch := omega) only [go_sem])
 all_goals first | (exfalso; omega) | skip
 refine callp (pair_spec 1 0) ?_
 try simp (maxSteps := 1000000) -implicitDefEqProofs (disch := omega) only [go_sem]
 repeat' (first
   | (with_reducible apply Req_intro); focus (first | omega | assumption | (simp; done))
   | with_reducible (first | apply Req_intro | refine nilT ?_ fun hn => ?_ | apply wk_draw Tryd_mixed | refine drawEnd (by kernel_rfl) ?_)
   | (with_reducible (first | apply condA_if | apply stepDG_ifN | apply stepDG_if | apply stepG_ifN | apply stepG_if)) <;> intro hb <;> (have hif := hb) <;> (try simp only [bo] at hif) <;> (try simp -implicitDefEqProofs (disch := omega) only [go_sem, hb]) <;> clear hb
   | simp (maxSteps := 1000000) -implicitDefEqProofs (disch := omega) only [go_sem])
 all_goals first | (exfalso; omega) | skip
 refine callp (pair_spec 2 2) ?_
 try simp (maxSteps := 1000000) -implicitDefEqProofs (disch := omega) only [go_sem]
 repeat' (first
   | (with_reducible apply Req_intro); focus (first | omega | assumption | (simp; done))
   | with_reducible (first | apply Req_intro | refine nilT ?_ fun hn => ?_ | apply wk_draw Tryd_mixed | refine drawEnd (by kernel_rfl) ?_)
   | (with_reducible (first | apply condA_if | apply stepDG_ifN | apply stepDG_if | apply stepG_ifN | apply stepG_if)) <;> intro hb <;> (have hif := hb) <;> (try simp only [bo] at hif) <;> (try simp -implicitDefEqProofs (disch := omega) only [go_sem, hb]) <;> clear hb
   | simp (maxSteps := 1000000) -implicitDefEqProofs (disch := omega) only [go_sem])
 all_goals first | (exfalso; omega) | skip
 refine callc (kAll [(0, 1), (1, 0), (2, 2)] false true (by decide)) ?_
 try simp (maxSteps := 1000000) -implicitDefEqProofs (disch := omega) only [go_sem]
 repeat' (first
   | (with_reducible apply Req_intro); focus (first | omega | assumption | (simp; done))
   | with_reducible (first | apply Req_intro | refine nilT ?_ fun hn => ?_ | apply wk_draw Tryd_mixed | refine drawEnd (by kernel_rfl) ?_)
   | (with_reducible (first | apply condA_if | apply stepDG_ifN | apply stepDG_if | apply stepG_ifN | apply stepG_if)) <;> intro hb <;> (have hif := hb) <;> (try simp only [bo] at hif) <;> (try simp -implicitDefEqProofs (disch := omega) only [go_sem, hb]) <;> clear hb
   | simp (maxSteps := 1000000) -implicitDefEqProofs (disch := omega) only [go_sem])
 all_goals first | (exfalso; omega) | skip
 refine callp stock_spec ?_
 try simp (maxSteps := 1000000) -implicitDefEqProofs (disch := omega) only [go_sem]
 repeat' (first
   | (with_reducible apply Req_intro); focus (first | omega | assumption | (simp; done))
   | with_reducible (first | apply Req_intro | refine nilT ?_ fun hn => ?_ | apply wk_draw Tryd_mixed | refine drawEnd (by kernel_rfl) ?_)
   | (with_reducible (first | apply condA_if | apply stepDG_ifN | apply stepDG_if | apply stepG_ifN | apply stepG_if)) <;> intro hb <;> (have hif := hb) <;> (try simp only [bo] at hif) <;> (try simp -implicitDefEqProofs (disch := omega) only [go_sem, hb]) <;> clear hb
   | simp (maxSteps := 1000000) -implicitDefEqProofs (disch := omega) only [go_sem])
 all_goals first | (exfalso; omega) | skip
 refine callp kCheck ?_
 try simp (maxSteps := 1000000) -implicitDefEqProofs (disch := omega) only [go_sem]
 repeat' (first
   | (with_reducible apply Req_intro); focus (first | omega | assumption | (simp; done))
   | with_reducible (first | apply Req_intro | refine nilT ?_ fun hn => ?_ | apply wk_draw Tryd_mixed | refine drawEnd (by kernel_rfl) ?_)
   | (with_reducible (first | apply condA_if | apply stepDG_ifN | apply stepDG_if | apply stepG_ifN | apply stepG_if)) <;> intro hb <;> (have hif := hb) <;> (try simp only [bo] at hif) <;> (try simp -implicitDefEqProofs (disch := omega) only [go_sem, hb]) <;> clear hb
   | simp (maxSteps := 1000000) -implicitDefEqProofs (disch := omega) only [go_sem])
 all_goals first | (exfalso; omega) | skip
 refine ret_do ?_
 rfl
end Go.Aw
end
section
namespace Go.Aw
open Go.RowKit
def permsR (n : Nat) : Nat → Nat → List (List Nat)
 | 0, _ => [[]]
 | m + 1, taken => (List.range n).flatMap fun k => if taken.testBit k then [] else (permsR n m (taken ||| 2 ^ k)).map (k :: ·)
def valTo (f : Nat → Nat → Int) (ks : List Nat) : Nat → Int
 | 0 => 0
 | k + 1 => max (valTo f ks k) (f k (ks.getD k 0))
def valR (f : Nat → Nat → Int) (ks : List Nat) : Int := valTo f ks ks.length
def balStep (f : Nat → Nat → Int) (st : List Nat × Int) (ks : List Nat) : List Nat × Int := if valR f ks < st.2 then (ks, valR f ks) else st
def refBal (f : Nat → Nat → Int) (n : Nat) : Nat → List Nat → List Nat × Int → List Nat × Int
 | 0, now, st => balStep f st now
 | m + 1, now, st => (List.range n).foldl (fun st k => if decide (k ∈ now) then st else refBal f n m (now ++ [k]) st) st
def okFrom (T : List Nat) : Nat → List Nat → Bool
 | _, [] => true
 | i, k :: s => (T.getD i 0).testBit k && okFrom T (i + 1) s
theorem okFrom_iff (T : List Nat) : ∀ (s : List Nat) (i : Nat), okFrom T i s = true ↔ ∀ j, j < s.length → (T.getD (i + j) 0).testBit (s.getD j 0) = true
 | [], i => by simp [okFrom]
 | k :: s, i => by
   rw [okFrom, Bool.and_eq_true, okFrom_iff T s (i + 1)]
   constructor
   · rintro ⟨h1, h2⟩ j hj
     cases j with
     | zero => exact h1
     | succ j =>
       have := h2 j (by simpa using hj)
       rw [show i + 1 + j = i + (j + 1) from by omega] at this
       simpa using this
   · intro h
     refine ⟨h 0 (by simp), fun j hj => ?_⟩
     have := h (j + 1) (by simpa using hj)
     rw [show i + 1 + j = i + (j + 1) from by omega]
     simpa using this
theorem maxM_len : ∀ (t : List Nat) (x : Nat), maxM t x ≤ t.length
 | [], x => Nat.le_refl _
 | a :: t, x => by
   have := maxM_head a t x
   have := maxM_len t x
   rw [List.length_cons]; omega
def farF (ls rs : List Grd) (i k : Nat) : Int := farR (ls.getD i default).1 (rs.getD k default).1
def nearB (ls rs : List Grd) (w : Int) : List (List Bool) := ls.map fun a => rs.map fun b => decide (farR a.1 b.1 ≤ w)
theorem rowBits_map (rs : List Grd) (p : Grd → Bool) : rowBits (rs.map p) = bitsIf (fun r => p (rs.getD r default)) rs.length := by
 refine Nat.eq_of_testBit_eq fun k => ?_
 rw [rowBits_bit, bitsIf_bit, List.getD_eq_getElem?_getD, List.getElem?_map]
 rcases Nat.lt_or_ge k rs.length with h | h
 · rw [List.getElem?_eq_getElem h, decide_eq_true h, Bool.true_and, List.getD_eq_getElem?_getD, List.getElem?_eq_getElem h]; rfl
 · rw [List.getElem?_eq_none h, decide_eq_false (by omega)]; rfl
end Go.Aw
end
section
namespace Go.Aw
open Go.RowKit
def tabB (g : Gau) (ls rs : List Grd) (k : Int) : List (List Bool) := ls.map fun a => rs.map fun b => alikeR g a b k
theorem tabB_bits (g : Gau) (ls rs : List Grd) (k : Int) : (tabB g ls rs k).map rowBits = tableR g ls rs k := by
 rw [tabB, tableR, List.map_map]
 congr 1
 funext a
 exact rowBits_map rs fun b => alikeR g a b k
theorem tabB_len (g : Gau) (ls rs : List Grd) (k : Int) : (tabB g ls rs k).length = ls.length := by simp [tabB]
theorem tabB_row (g : Gau) (ls rs : List Grd) (k : Int) : ∀ row ∈ tabB g ls rs k, row.length = rs.length := fun row h => by
 obtain ⟨a, _, rfl⟩ := List.mem_map.1 h
 simp
theorem tabB_short {g : Gau} {ls rs : List Grd} {k : Int} (h : rs.length ≤ 16) : Short16 (tabB g ls rs k) := fun row hr => by rw [tabB_row _ _ _ _ row hr]; exact h
def manyR (g : Gau) (ls rs : List Grd) (k : Int) : Nat := refM (tabB g ls rs k) 0
theorem many_eq {g : Gau} {ls rs : List Grd} {k : Int} (h : rs.length ≤ 16) : manyR g ls rs k = mostR (tableR g ls rs k) := by
 rw [manyR, refM_eq _ _ (tabB_short h), tabB_bits, mostR_eq (tableR_few h)]
def okTwin (g : Gau) (ls rs : List Grd) (a b : Nat × Nat) : Bool :=
 decide (a.1 ≠ b.1 ∧ a.2 ≠ b.2) && alikeR g (rs.getD a.2 default) (ls.getD a.1 default) 2 && alikeR g (ls.getD b.1 default) (ls.getD a.1 default) 2 && alikeR g (ls.getD b.1 default) (rs.getD a.2 default) 2 &&
   alikeR g (rs.getD b.2 default) (ls.getD a.1 default) 2 && alikeR g (rs.getD b.2 default) (rs.getD a.2 default) 2 && alikeR g (rs.getD b.2 default) (ls.getD b.1 default) 2
def refCutTo (g : Gau) (ls rs : List Grd) : Nat → Nat × Nat × Bool
 | 0 => (0, manyR g ls rs 2, false)
 | i + 1 => if (refCutTo g ls rs i).2.1 < manyR g ls (rs ++ [ls.getD i default]) 2 then (i, manyR g ls (rs ++ [ls.getD i default]) 2, true) else refCutTo g ls rs i
def lookB (g : Gau) (ls rs : List Grd) (right : Bool) (n : Nat) : List (List Bool) :=
 (List.range ls.length).map fun i => (List.range rs.length).map fun k => if (if right then k else i) = n then alikeR g (ls.getD i default) (rs.getD k default) 1 else alikeR g (ls.getD i default) (rs.getD k default) 2
theorem alike_one {g : Gau} {a b : Grd} (h1 : 0 ≤ g.sc) (h2 : 0 ≤ g.ga) (h : alikeR g a b 2 = true) : alikeR g a b 1 = true := alike_more (by omega) (by omega) (Int.le_refl _) (Int.le_refl _) h
theorem lookB_bits {g : Gau} {ls rs : List Grd} (h1 : 0 ≤ g.sc) (h2 : 0 ≤ g.ga) (right : Bool) (n : Nat) : (lookB g ls rs right n).map rowBits = lookT (tableR g ls rs 2) (tableR g ls rs 1) right n := by
 refine List.ext_getElem (by simp [lookB, lookT, tableR_len]) fun i a1 a2 => ?_
 have hi : i < ls.length := by simpa [lookB] using a1
 have hg := fun k => tableR_get (g := g) (rs := rs) (k := k) hi
 have he : (tableR g ls rs 2)[i]'(by rw [tableR_len]; exact hi) = rowR g (ls.getD i default) rs 2 := by
   have := hg 2
   rwa [List.getD_eq_getElem?_getD, List.getElem?_eq_getElem (by rw [tableR_len]; exact hi), Option.getD_some] at this
 simp only [lookT, List.getElem_mapIdx, lookB, List.getElem_map, List.getElem_range]
 rw [he, hg 1]
 refine Nat.eq_of_testBit_eq fun k => ?_
 rw [rowBits_bit, List.getD_eq_getElem?_getD, List.getElem?_map]
 have hsub := fun b => alike_one (g := g) (a := ls.getD i default) (b := b) h1 h2
 rcases Nat.lt_or_ge k rs.length with hk | hk
 · rw [List.getElem?_range hk, Option.map_some, Option.getD_some]
   cases right with
   | false =>
     simp only [Bool.false_eq_true, if_false]
     split
     · rw [rowR_bit, decide_eq_true hk, Bool.true_and]
     · rw [rowR_bit, decide_eq_true hk, Bool.true_and]
   | true =>
     simp only [if_true]
     rw [Nat.testBit_or, Nat.testBit_and, Nat.testBit_two_pow, rowR_bit, rowR_bit, decide_eq_true hk, Bool.true_and, Bool.true_and]
     have := hsub (rs.getD k default)
     split
     · rename_i e
       subst e
       rw [decide_eq_true rfl, Bool.and_true]
       cases hx : alikeR g (ls.getD i default) (rs.getD k default) 2 with
       | true => rw [this hx]; rfl
       | false => rfl
     · rename_i e
       rw [decide_eq_false (fun h => e h.symm), Bool.and_false, Bool.or_false]
 · rw [List.getElem?_eq_none (by simpa using hk)]
   cases right with
   | false =>
     simp only [Bool.false_eq_true, if_false]
     split <;> rw [rowR_bit, decide_eq_false (by omega)] <;> rfl
   | true =>
     simp only [if_true]
     rw [Nat.testBit_or, Nat.testBit_and, rowR_bit, rowR_bit, decide_eq_false (by omega)]; rfl
theorem lookB_short {g : Gau} {ls rs : List Grd} (h : rs.length ≤ 16) (right : Bool) (n : Nat) : Short16 (lookB g ls rs right n) := fun row hr => by
 obtain ⟨i, _, rfl⟩ := List.mem_map.1 hr
 simpa using h
theorem lookB_most {g : Gau} {ls rs : List Grd} (h : rs.length ≤ 16) (h1 : 0 ≤ g.sc) (h2 : 0 ≤ g.ga) (right : Bool) (n : Nat) : refM (lookB g ls rs right n) 0 = mostR (lookT (tableR g ls rs 2) (tableR g ls rs 1) right n) := by
 rw [refM_eq _ _ (lookB_short h right n), lookB_bits h1 h2, mostR_eq (look_few (tableR_few h) (tableR_few h) right n)]
end Go.Aw
end
section
namespace Go.Aw
open Go.RowKit
structure Fine (m : Nat) (x : Grd) : Prop where
 w1 : 1 ≤ x.1
 w2 : x.1 ≤ 10000
 len : x.2.length = m
 c : ∀ v ∈ x.2, 0 ≤ v ∧ v ≤ 500
theorem check_fine {g : Gau} {ls rs : List Grd} {m : Nat} (h1 : 1 ≤ m) (h4 : m ≤ 4) (hl8 : ls.length ≤ 8) (hr8 : rs.length ≤ 8) (hl : ∀ x ∈ ls, Fine m x) (hr : ∀ x ∈ rs, Fine m x) (hg : gaugeR g = true) : checkS g ls rs = 0 := by
 have hall : ∀ x ∈ ls ++ rs, Fine m x := fun x hx => (List.mem_append.1 hx).elim (hl x) (hr x)
 rw [checkS, if_neg (by omega)]
 generalize ls ++ rs = l at *
 have h0 : ∀ x ∈ l, otherR l x = false := fun x hx => by
   have e : (l.getD 0 default).2.length = m := by
     cases l with
     | nil => cases hx
     | cons y l => exact (hall y (by simp)).len
   simp only [otherR, inR', e, (hall x hx).len, Bool.or_eq_false_iff, Bool.not_eq_false', Bool.and_eq_true, decide_eq_true_eq]
   refine ⟨⟨by omega, by omega⟩, by simp⟩
 have h2 : ∀ x ∈ l, noneR x = false := fun x hx => by
   have := hall x hx
   simp only [noneR, inR', Bool.or_eq_false_iff, Bool.not_eq_false', Bool.and_eq_true, decide_eq_true_eq, List.all_eq_true]
   exact ⟨⟨this.w1, this.w2⟩, fun v hv => this.c v hv⟩
 rw [chkR, if_neg (by rw [List.any_eq_true]; rintro ⟨x, hx, hh⟩; rw [h0 x hx] at hh; cases hh), if_neg (by rw [List.any_eq_true]; rintro ⟨x, hx, hh⟩; rw [h2 x hx] at hh; cases hh), if_pos hg]
theorem alikeR_iff {g : Gau} {a b : Grd} {k : Int} : alikeR g a b k = true ↔ farR a.1 b.1 + k * g.sc ≤ g.we ∧ ∀ i, i < a.2.length → farR (a.2.getD i default) (b.2.getD i default) + k * g.ga ≤ g.cu := by
 simp only [alikeR, Bool.and_eq_true, Bool.not_eq_true', decide_eq_false_iff_not, List.all_eq_true, List.mem_range]
 constructor
 · rintro ⟨h1, h2⟩; exact ⟨by omega, fun i hi => by have := h2 i hi; omega⟩
 · rintro ⟨h1, h2⟩; exact ⟨by omega, fun i hi => by have := h2 i hi; omega⟩
def atR (by' : List Int) (i k : Nat) (off : Int) : Int := if by'.length = 0 then 0 else by'.getD ((3 * i + k) % by'.length) 0 % (2 * off + 1) - off
def trueG (g : Gau) (by' : List Int) (i : Nat) (x : Grd) : Grd := (x.1 + atR by' i 0 g.sc, (List.range x.2.length).map fun k => x.2.getD k default + atR by' i (1 + k) g.ga)
def grK (is : Nat → Nat → Bool) (L : List (Nat × Nat)) (i : Nat) : Nat → List (Nat × Nat)
 | 0 => L
 | k + 1 => if is i k && !((grK is L i k).any fun p => p.1 == i) && !((grK is L i k).any fun p => p.2 == k) then grK is L i k ++ [(i, k)] else grK is L i k
def grT (is : Nat → Nat → Bool) (nr : Nat) : Nat → List (Nat × Nat)
 | 0 => []
 | i + 1 => grK is (grT is nr i) i nr
structure GrOk (is : Nat → Nat → Bool) (nl nr : Nat) (l : List (Nat × Nat)) : Prop where
 e : ∀ p ∈ l, p.1 < nl ∧ p.2 < nr ∧ is p.1 p.2 = true
 a : (l.map (·.1)).Nodup
 b : (l.map (·.2)).Nodup
end Go.Aw
end
section
namespace Go.Aw
open Go.RowKit Go.Proofs
theorem gIn_spec (n l m : Int) : Ct Tryd.prog 62 [int n, int l, int m] (.lit (.bool (inR' l m n))) := by
 refine fn_enter Tryd.func62 rfl (by decide) Tryd.results62 Tryd.ntmps62 ?_ rfl (by simp (maxSteps := 1000000) -implicitDefEqProofs (disch := omega) only [go_sem]; rfl) fun base => ?_
 · simp
 repeat' (first
   | (with_reducible apply Req_intro); focus (first | omega | assumption | (simp; done))
   | with_reducible (first | apply Req_intro | refine nilT ?_ fun hn => ?_ | apply wk_draw Tryd_mixed | refine drawEnd (by kernel_rfl) ?_)
   | (with_reducible (first | apply condA_if | apply stepDG_ifN | apply stepDG_if | apply stepG_ifN | apply stepG_if)) <;> intro hb <;> (have hif := hb) <;> (try simp only [bo] at hif) <;> (try simp -implicitDefEqProofs (disch := omega) only [go_sem, hb]) <;> clear hb
   | simp (maxSteps := 1000000) -implicitDefEqProofs (disch := omega) only [go_sem])
 · refine ret_do ?_
   simp [inR', hif, retV]
 · refine ret_do ?_
   have : inR' l m n = false := by simp [inR']; omega
   rw [this]; rfl
theorem rFar_spec (a b : Int) (ha : inR' 0 1000000 a = true) (hb : inR' 0 1000000 b = true) : Ct Tryd.prog 87 [int a, int b] (int (farR a b)) := by
 simp only [inR', Bool.and_eq_true, decide_eq_true_eq] at ha hb
 refine fn_enter Tryd.func87 rfl (by decide) Tryd.results87 Tryd.ntmps87 ?_ rfl (by simp (maxSteps := 1000000) -implicitDefEqProofs (disch := omega) only [go_sem]; rfl) fun base => ?_
 · first | assumption | (simp only [go_sem] <;> assumption) | (simp only [go_sem, *]; done) | (simp [go_sem]; done)
 repeat' (first
   | (with_reducible apply Req_intro); focus (first | omega | assumption | (simp; done))
   | with_reducible (first | apply Req_intro | refine nilT ?_ fun hn => ?_ | apply wk_draw Tryd_mixed | refine drawEnd (by kernel_rfl) ?_)
   | (with_reducible (first | apply condA_if | apply stepDG_ifN | apply stepDG_if | apply stepG_ifN | apply stepG_if)) <;> intro hb <;> (have hif := hb) <;> (try simp only [bo] at hif) <;> (try simp -implicitDefEqProofs (disch := omega) only [go_sem, hb]) <;> clear hb
   | simp (maxSteps := 1000000) -implicitDefEqProofs (disch := omega) only [go_sem])
 refine ret_do ?_
 have : max a b - min a b = farR a b := by unfold farR; omega
 rw [this]; rfl
def alTo (g : Gau) (a b : Grd) (k : Int) (i : Nat) : Bool := decide (farR a.1 b.1 + k * g.sc ≤ g.we) && (List.range i).all fun j => decide (farR (a.2.getD j default) (b.2.getD j default) + k * g.ga ≤ g.cu)
theorem alTo_succ (g : Gau) (a b : Grd) (k : Int) (i : Nat) : alTo g a b k (i + 1) = (alTo g a b k i && decide (farR (a.2.getD i default) (b.2.getD i default) + k * g.ga ≤ g.cu)) := by
 rw [alTo, alTo, List.range_succ, List.all_append, Bool.and_assoc]; simp
theorem alTo_all (g : Gau) (a b : Grd) (k : Int) : alTo g a b k a.2.length = alikeR g a b k := by
 rw [Bool.eq_iff_iff, alikeR_iff, alTo, Bool.and_eq_true, decide_eq_true_eq, List.all_eq_true]
 simp only [List.mem_range, decide_eq_true_eq]
theorem rAlike_spec (g : Gau) (a b : Grd) (k : Int) (n : Nat) (hn : n ≤ 4) (hg : GauOk g) (ha : GrdOk n a) (hb : GrdOk n b) (hk : inR' (-2) 2 k = true) : Ct Tryd.prog 63 [.agg (encGd a), .agg (encGd b), encGa g, int (k * g.sc), int (k * g.ga)] (.lit (.bool (alikeR g a b k))) := by
 have g1 := hg.sc
 have g2 := hg.ga
 have a2 := ha.len
 have b2 := hb.len
 have hw := rFar_spec a.1 b.1 ha.w hb.w
 have hc : ∀ i, i < n → Ct Tryd.prog 87 [int (a.2.getD i default), int (b.2.getD i default)] (int (farR (a.2.getD i default) (b.2.getD i default))) := fun i hi => rFar_spec _ _ (ha.c _ (getD_mem (by omega))) (hb.c _ (getD_mem (by omega)))
 have hkr : -2 ≤ k ∧ k ≤ 2 := by simpa [inR'] using hk
 have hs : 0 ≤ g.sc ∧ g.sc ≤ 100 := by simpa [inR'] using g1
 have hga : 0 ≤ g.ga ∧ g.ga ≤ 100 := by simpa [inR'] using g2
 have k1 := mul_small hkr hs
 have k2 := mul_small hkr hga
 have hb1 := farR_small ha.w hb.w
 have hc1 : ∀ i, i < n → 0 ≤ farR (a.2.getD i default) (b.2.getD i default) ∧ farR (a.2.getD i default) (b.2.getD i default) ≤ 1000000 := fun i hi => farR_small (ha.c _ (getD_mem (by omega))) (hb.c _ (getD_mem (by omega)))
 have h0 : alTo g a b k 0 = decide (farR a.1 b.1 + k * g.sc ≤ g.we) := by simp [alTo]
 have hstep := alTo_succ g a b k
 have hend := alTo_all g a b k
 rw [a2] at hend
 generalize farR a.1 b.1 = fw at *
 generalize alTo g a b k = AL at *
 generalize k * g.sc = ks at *
 generalize k * g.ga = kg at *
 refine fn_enter Tryd.func63 rfl (by decide) Tryd.results63 Tryd.ntmps63 ?_ rfl (by simp (maxSteps := 1000000) -implicitDefEqProofs (disch := omega) only [go_sem]; rfl) fun base => ?_
 · first | assumption | (simp only [go_sem] <;> assumption) | (simp only [go_sem, *]; done) | (simp [go_sem]; done)
 repeat' (first
   | (with_reducible apply Req_intro); focus (first | omega | assumption | (simp; done))
   | with_reducible (first | apply Req_intro | refine nilT ?_ fun hn => ?_ | apply wk_draw Tryd_mixed | refine drawEnd (by kernel_rfl) ?_)
   | (with_reducible (first | apply condA_if | apply stepDG_ifN | apply stepDG_if | apply stepG_ifN | apply stepG_if)) <;> intro hb <;> (have hif := hb) <;> (try simp only [bo] at hif) <;> (try simp -implicitDefEqProofs (disch := omega) only [go_sem, hb]) <;> clear hb
   | simp (maxSteps := 1000000) -implicitDefEqProofs (disch := omega) only [go_sem])
 refine calld hw ?_
 try simp (maxSteps := 1000000) -implicitDefEqProofs (disch := omega) only [go_sem]
 repeat' (first
   | (with_reducible apply Req_intro); focus (first | omega | assumption | (simp; done))
   | with_reducible (first | apply Req_intro | refine nilT ?_ fun hn => ?_ | apply wk_draw Tryd_mixed | refine drawEnd (by kernel_rfl) ?_)
   | (with_reducible (first | apply condA_if | apply stepDG_ifN | apply stepDG_if | apply stepG_ifN | apply stepG_if)) <;> intro hb <;> (have hif := hb) <;> (try simp only [bo] at hif) <;> (try simp -implicitDefEqProofs (disch := omega) only [go_sem, hb]) <;> clear hb
   | simp (maxSteps := 1000000) -implicitDefEqProofs (disch := omega) only [go_sem])
 refine loop_at (α := Nat) [11, 12, 23, 24, 25, 26, 27, 28, 29, 30, 31, 32, 33, 34, 35, 36, 37, 38, 39, 40, 41, 42, 43, 44, 45, 46, 47, 48] (fun i => [(12, .lit (.int .i64 i)), (11, .lit (.bool (AL i)))]) (fun i => i ≤ n) (fun i => n - i) 0 (fun x => by simp (maxSteps := 1000000) -implicitDefEqProofs (disch := omega) only [go_sem]; rfl) ?_ ?_ fun x hx => ?_
 · rw [h0]
   exact weak_do []
 · exact Nat.zero_le _
 by_cases hlt : x < n
 · have hcx := hc x hlt
   have hcb := hc1 x hlt
   have hsx := hstep x
   generalize farR (a.2.getD x default) (b.2.getD x default) = fx at *
   cases hal : AL x with
   | true =>
     rw [hal, Bool.true_and] at hsx
     repeat' (first
       | (with_reducible apply Req_intro); focus (first | omega | assumption | (simp; done))
       | with_reducible (first | apply Req_intro | refine nilT ?_ fun hn => ?_ | apply wk_draw Tryd_mixed | refine drawEnd (by kernel_rfl) ?_)
       | (with_reducible (first | apply condA_if | apply stepDG_ifN | apply stepDG_if | apply stepG_ifN | apply stepG_if)) <;> intro hb <;> (have hif := hb) <;> (try simp only [bo] at hif) <;> (try simp -implicitDefEqProofs (disch := omega) only [go_sem, hb]) <;> clear hb
       | simp (maxSteps := 1000000) -implicitDefEqProofs (disch := omega) only [go_sem])
     all_goals first | exact absurd trivial ‹¬True› | exact absurd ‹false = true› (by decide) | exact absurd ‹true = false› (by decide) | (exfalso; omega) | omega | skip
     refine calld hcx ?_
     try simp (maxSteps := 1000000) -implicitDefEqProofs (disch := omega) only [go_sem]
     repeat' (first
       | (with_reducible apply Req_intro); focus (first | omega | assumption | (simp; done))
       | with_reducible (first | apply Req_intro | refine nilT ?_ fun hn => ?_ | apply wk_draw Tryd_mixed | refine drawEnd (by kernel_rfl) ?_)
       | (with_reducible (first | apply condA_if | apply stepDG_ifN | apply stepDG_if | apply stepG_ifN | apply stepG_if)) <;> intro hb <;> (have hif := hb) <;> (try simp only [bo] at hif) <;> (try simp -implicitDefEqProofs (disch := omega) only [go_sem, hb]) <;> clear hb
       | simp (maxSteps := 1000000) -implicitDefEqProofs (disch := omega) only [go_sem])
     with_reducible refine nxt_w (x + 1) ?_ ?_
     · (try dsimp only)
       rw [hsx]
       exact weak_do []
     try dsimp only
     omega
   | false =>
     rw [hal, Bool.false_and] at hsx
     repeat' (first
       | (with_reducible apply Req_intro); focus (first | omega | assumption | (simp; done))
       | with_reducible (first | apply Req_intro | refine nilT ?_ fun hn => ?_ | apply wk_draw Tryd_mixed | refine drawEnd (by kernel_rfl) ?_)
       | (with_reducible (first | apply condA_if | apply stepDG_ifN | apply stepDG_if | apply stepG_ifN | apply stepG_if)) <;> intro hb <;> (have hif := hb) <;> (try simp only [bo] at hif) <;> (try simp -implicitDefEqProofs (disch := omega) only [go_sem, hb]) <;> clear hb
       | simp (maxSteps := 1000000) -implicitDefEqProofs (disch := omega) only [go_sem])
     all_goals first | exact absurd trivial ‹¬True› | exact absurd ‹false = true› (by decide) | exact absurd ‹true = false› (by decide) | (exfalso; omega) | omega | skip
     with_reducible refine nxt_w (x + 1) ?_ ?_
     · (try dsimp only)
       rw [hsx]
       exact weak_do []
     try dsimp only
     omega
 · obtain rfl : x = n := by omega
   rw [hend]
   repeat' (first
     | (with_reducible apply Req_intro); focus (first | omega | assumption | (simp; done))
     | with_reducible (first | apply Req_intro | refine nilT ?_ fun hn => ?_ | apply wk_draw Tryd_mixed | refine drawEnd (by kernel_rfl) ?_)
     | (with_reducible (first | apply condA_if | apply stepDG_ifN | apply stepDG_if | apply stepG_ifN | apply stepG_if)) <;> intro hb <;> (have hif := hb) <;> (try simp only [bo] at hif) <;> (try simp -implicitDefEqProofs (disch := omega) only [go_sem, hb]) <;> clear hb
     | simp (maxSteps := 1000000) -implicitDefEqProofs (disch := omega) only [go_sem])
   all_goals first | exact absurd trivial ‹¬True› | exact absurd ‹false = true› (by decide) | exact absurd ‹true = false› (by decide) | (exfalso; omega) | omega | skip
   refine ret_do ?_
   rfl
theorem rSurely_spec (g : Gau) (a b : Grd) (n : Nat) (hn : n ≤ 4) (hg : GauOk g) (ha : GrdOk n a) (hb : GrdOk n b) : Ct Tryd.prog 21 [.agg (encGd a), .agg (encGd b), encGa g] (.lit (.bool (alikeR g a b 2))) := by
 have h := rAlike_spec g a b 2 n hn hg ha hb (by decide)
 have g1 := hg.sc
 have g2 := hg.ga
 simp only [inR', Bool.and_eq_true, decide_eq_true_eq] at g1 g2
 refine fn_enter Tryd.func21 rfl (by decide) Tryd.results21 Tryd.ntmps21 ?_ rfl (by simp (maxSteps := 1000000) -implicitDefEqProofs (disch := omega) only [go_sem]; rfl) fun base => ?_
 · first | assumption | (simp only [go_sem] <;> assumption) | (simp only [go_sem, *]; done) | (simp [go_sem]; done)
 repeat' (first
   | (with_reducible apply Req_intro); focus (first | omega | assumption | (simp; done))
   | with_reducible (first | apply Req_intro | refine nilT ?_ fun hn => ?_ | apply wk_draw Tryd_mixed | refine drawEnd (by kernel_rfl) ?_)
   | (with_reducible (first | apply condA_if | apply stepDG_ifN | apply stepDG_if | apply stepG_ifN | apply stepG_if)) <;> intro hb <;> (have hif := hb) <;> (try simp only [bo] at hif) <;> (try simp -implicitDefEqProofs (disch := omega) only [go_sem, hb]) <;> clear hb
   | simp (maxSteps := 1000000) -implicitDefEqProofs (disch := omega) only [go_sem])
 refine callp h ?_
 try simp (maxSteps := 1000000) -implicitDefEqProofs (disch := omega) only [go_sem]
 repeat' (first
   | (with_reducible apply Req_intro); focus (first | omega | assumption | (simp; done))
   | with_reducible (first | apply Req_intro | refine nilT ?_ fun hn => ?_ | apply wk_draw Tryd_mixed | refine drawEnd (by kernel_rfl) ?_)
   | (with_reducible (first | apply condA_if | apply stepDG_ifN | apply stepDG_if | apply stepG_ifN | apply stepG_if)) <;> intro hb <;> (have hif := hb) <;> (try simp only [bo] at hif) <;> (try simp -implicitDefEqProofs (disch := omega) only [go_sem, hb]) <;> clear hb
   | simp (maxSteps := 1000000) -implicitDefEqProofs (disch := omega) only [go_sem])
 refine ret_do ?_
 rfl
theorem rGauge_spec (g : Gau) : Ct Tryd.prog 20 [encGa g] (.lit (.bool (gaugeR g))) := by
 refine fn_enter Tryd.func20 rfl (by decide) Tryd.results20 Tryd.ntmps20 ?_ rfl (by simp (maxSteps := 1000000) -implicitDefEqProofs (disch := omega) only [go_sem]; rfl) fun base => ?_
 · first | assumption | (simp only [go_sem] <;> assumption) | (simp only [go_sem, *]; done) | (simp [go_sem]; done)
 repeat' (first
   | (with_reducible apply Req_intro); focus (first | omega | assumption | (simp; done))
   | with_reducible (first | apply Req_intro | refine nilT ?_ fun hn => ?_ | apply wk_draw Tryd_mixed | refine drawEnd (by kernel_rfl) ?_)
   | (with_reducible (first | apply condA_if | apply stepDG_ifN | apply stepDG_if | apply stepG_ifN | apply stepG_if)) <;> intro hb <;> (have hif := hb) <;> (try simp only [bo] at hif) <;> (try simp -implicitDefEqProofs (disch := omega) only [go_sem, hb]) <;> clear hb
   | simp (maxSteps := 1000000) -implicitDefEqProofs (disch := omega) only [go_sem])
 all_goals first | exact absurd trivial ‹¬True› | exact absurd ‹false = true› (by decide) | exact absurd ‹true = false› (by decide) | (exfalso; omega) | omega | skip
 refine callp (gIn_spec g.sc 0 100) ?_
 try simp (maxSteps := 1000000) -implicitDefEqProofs (disch := omega) only [go_sem]
 unfold gaugeR
 cases h1 : inR' 0 100 g.sc with
 | false =>
   repeat' (first
     | (with_reducible apply Req_intro); focus (first | omega | assumption | (simp; done))
     | with_reducible (first | apply Req_intro | refine nilT ?_ fun hn => ?_ | apply wk_draw Tryd_mixed | refine drawEnd (by kernel_rfl) ?_)
     | (with_reducible (first | apply condA_if | apply stepDG_ifN | apply stepDG_if | apply stepG_ifN | apply stepG_if)) <;> intro hb <;> (have hif := hb) <;> (try simp only [bo] at hif) <;> (try simp -implicitDefEqProofs (disch := omega) only [go_sem, hb]) <;> clear hb
     | simp (maxSteps := 1000000) -implicitDefEqProofs (disch := omega) only [go_sem])
   all_goals first | exact absurd trivial ‹¬True› | exact absurd ‹false = true› (by decide) | exact absurd ‹true = false› (by decide) | (exfalso; omega) | omega | skip
   refine ret_do ?_
   rfl
 | true =>
   repeat' (first
     | (with_reducible apply Req_intro); focus (first | omega | assumption | (simp; done))
     | with_reducible (first | apply Req_intro | refine nilT ?_ fun hn => ?_ | apply wk_draw Tryd_mixed | refine drawEnd (by kernel_rfl) ?_)
     | (with_reducible (first | apply condA_if | apply stepDG_ifN | apply stepDG_if | apply stepG_ifN | apply stepG_if)) <;> intro hb <;> (have hif := hb) <;> (try simp only [bo] at hif) <;> (try simp -implicitDefEqProofs (disch := omega) only [go_sem, hb]) <;> clear hb
     | simp (maxSteps := 1000000) -implicitDefEqProofs (disch := omega) only [go_sem])
   all_goals first | exact absurd trivial ‹¬True› | exact absurd ‹false = true› (by decide) | exact absurd ‹true = false› (by decide) | (exfalso; omega) | omega | skip
   refine callp (gIn_spec g.ga 0 100) ?_
   try simp (maxSteps := 1000000) -implicitDefEqProofs (disch := omega) only [go_sem]
   cases h2 : inR' 0 100 g.ga with
   | false =>
     repeat' (first
       | (with_reducible apply Req_intro); focus (first | omega | assumption | (simp; done))
       | with_reducible (first | apply Req_intro | refine nilT ?_ fun hn => ?_ | apply wk_draw Tryd_mixed | refine drawEnd (by kernel_rfl) ?_)
       | (with_reducible (first | apply condA_if | apply stepDG_ifN | apply stepDG_if | apply stepG_ifN | apply stepG_if)) <;> intro hb <;> (have hif := hb) <;> (try simp only [bo] at hif) <;> (try simp -implicitDefEqProofs (disch := omega) only [go_sem, hb]) <;> clear hb
       | simp (maxSteps := 1000000) -implicitDefEqProofs (disch := omega) only [go_sem])
     all_goals first | exact absurd trivial ‹¬True› | exact absurd ‹false = true› (by decide) | exact absurd ‹true = false› (by decide) | (exfalso; omega) | omega | skip
     refine ret_do ?_
     rfl
   | true =>
     repeat' (first
       | (with_reducible apply Req_intro); focus (first | omega | assumption | (simp; done))
       | with_reducible (first | apply Req_intro | refine nilT ?_ fun hn => ?_ | apply wk_draw Tryd_mixed | refine drawEnd (by kernel_rfl) ?_)
       | (with_reducible (first | apply condA_if | apply stepDG_ifN | apply stepDG_if | apply stepG_ifN | apply stepG_if)) <;> intro hb <;> (have hif := hb) <;> (try simp only [bo] at hif) <;> (try simp -implicitDefEqProofs (disch := omega) only [go_sem, hb]) <;> clear hb
       | simp (maxSteps := 1000000) -implicitDefEqProofs (disch := omega) only [go_sem])
     all_goals first | exact absurd trivial ‹¬True› | exact absurd ‹false = true› (by decide) | exact absurd ‹true = false› (by decide) | (exfalso; omega) | omega | skip
     refine callp (gIn_spec g.we 0 10000) ?_
     try simp (maxSteps := 1000000) -implicitDefEqProofs (disch := omega) only [go_sem]
     cases h3 : inR' 0 10000 g.we with
     | false =>
       repeat' (first
         | (with_reducible apply Req_intro); focus (first | omega | assumption | (simp; done))
         | with_reducible (first | apply Req_intro | refine nilT ?_ fun hn => ?_ | apply wk_draw Tryd_mixed | refine drawEnd (by kernel_rfl) ?_)
         | (with_reducible (first | apply condA_if | apply stepDG_ifN | apply stepDG_if | apply stepG_ifN | apply stepG_if)) <;> intro hb <;> (have hif := hb) <;> (try simp only [bo] at hif) <;> (try simp -implicitDefEqProofs (disch := omega) only [go_sem, hb]) <;> clear hb
         | simp (maxSteps := 1000000) -implicitDefEqProofs (disch := omega) only [go_sem])
       all_goals first | exact absurd trivial ‹¬True› | exact absurd ‹false = true› (by decide) | exact absurd ‹true = false› (by decide) | (exfalso; omega) | omega | skip
       refine ret_do ?_
       rfl
     | true =>
       repeat' (first
         | (with_reducible apply Req_intro); focus (first | omega | assumption | (simp; done))
         | with_reducible (first | apply Req_intro | refine nilT ?_ fun hn => ?_ | apply wk_draw Tryd_mixed | refine drawEnd (by kernel_rfl) ?_)
         | (with_reducible (first | apply condA_if | apply stepDG_ifN | apply stepDG_if | apply stepG_ifN | apply stepG_if)) <;> intro hb <;> (have hif := hb) <;> (try simp only [bo] at hif) <;> (try simp -implicitDefEqProofs (disch := omega) only [go_sem, hb]) <;> clear hb
         | simp (maxSteps := 1000000) -implicitDefEqProofs (disch := omega) only [go_sem])
       all_goals first | exact absurd trivial ‹¬True› | exact absurd ‹false = true› (by decide) | exact absurd ‹true = false› (by decide) | (exfalso; omega) | omega | skip
       refine callp (gIn_spec g.cu 0 500) ?_
       try simp (maxSteps := 1000000) -implicitDefEqProofs (disch := omega) only [go_sem]
       repeat' (first
         | (with_reducible apply Req_intro); focus (first | omega | assumption | (simp; done))
         | with_reducible (first | apply Req_intro | refine nilT ?_ fun hn => ?_ | apply wk_draw Tryd_mixed | refine drawEnd (by kernel_rfl) ?_)
         | (with_reducible (first | apply condA_if | apply stepDG_ifN | apply stepDG_if | apply stepG_ifN | apply stepG_if)) <;> intro hb <;> (have hif := hb) <;> (try simp only [bo] at hif) <;> (try simp -implicitDefEqProofs (disch := omega) only [go_sem, hb]) <;> clear hb
         | simp (maxSteps := 1000000) -implicitDefEqProofs (disch := omega) only [go_sem])
       all_goals first | exact absurd trivial ‹¬True› | exact absurd ‹false = true› (by decide) | exact absurd ‹true = false› (by decide) | (exfalso; omega) | omega | skip
       refine ret_do ?_
       rfl
def formR (l : List Grd) : Int := if l.any (otherR l) then 4 else if l.any noneR then 2 else 0
theorem form_chk (g : Gau) (l : List Grd) : chkR g l = if formR l = 0 then (if gaugeR g then 0 else 3) else formR l := by
 unfold chkR formR
 split
 · rfl
 · split
   · rfl
   · rfl
theorem rForm_spec (l : List Grd) (e : Bool) (hl : l.length ≤ 4611686018427387904) (hlc : ∀ x ∈ l, x.2.length ≤ 4611686018427387904) : Ct Tryd.prog 19 [.sl 2 (l.map encGd) e] (int (formR l)) := by
 refine fn_enter Tryd.func19 rfl (by decide) Tryd.results19 Tryd.ntmps19 ?_ rfl (by simp (maxSteps := 1000000) -implicitDefEqProofs (disch := omega) only [go_sem]; rfl) fun base => ?_
 · first | assumption | (simp only [go_sem] <;> assumption) | (simp only [go_sem, *]; done) | (simp [go_sem]; done)
 repeat' (first
   | (with_reducible apply Req_intro); focus (first | omega | assumption | (simp; done))
   | with_reducible (first | apply Req_intro | refine nilT ?_ fun hn => ?_ | apply wk_draw Tryd_mixed | refine drawEnd (by kernel_rfl) ?_)
   | (with_reducible (first | apply condA_if | apply stepDG_ifN | apply stepDG_if | apply stepG_ifN | apply stepG_if)) <;> intro hb <;> (have hif := hb) <;> (try simp only [bo] at hif) <;> (try simp -implicitDefEqProofs (disch := omega) only [go_sem, hb]) <;> clear hb
   | simp (maxSteps := 1000000) -implicitDefEqProofs (disch := omega) only [go_sem])
 refine loop_at (α := Nat) [2, 3, 6, 7, 8, 9, 10, 11, 12, 13, 14, 15, 16, 17, 18, 19, 20, 21, 22, 23, 24, 25, 26, 27, 28, 29, 30, 31, 32, 33] (fun i => [(3, .lit (.int .i64 i))]) (fun i => i ≤ l.length ∧ ∀ j, j < i → otherR l (l.getD j default) = false) (fun i => l.length - i) 0 (fun x => by simp (maxSteps := 1000000) -implicitDefEqProofs (disch := omega) only [go_sem]; rfl) ?_ ?_ fun x hx => ?_
 · exact weak_do []
 · exact ⟨Nat.zero_le _, fun j hj => absurd hj (Nat.not_lt_zero _)⟩
 obtain ⟨hi, hp⟩ := hx
 by_cases hlt : x < l.length
 · have hcl := hlc _ (getD_mem hlt)
   have hc0 := hlc _ (getD_mem (show 0 < l.length by omega))
   have hbad : otherR l (l.getD x default) = true → formR l = 4 := fun h => by
     rw [formR, if_pos (List.any_eq_true.2 ⟨_, getD_mem hlt, h⟩)]
   have hot : otherR l (l.getD x default) = (!inR' 1 4 (l.getD x default).2.length || (((l.getD x default).2.length : Int) != ((l.getD 0 default).2.length : Int))) := rfl
   rw [hot] at hbad
   repeat' (first
     | (with_reducible apply Req_intro); focus (first | omega | assumption | (simp; done))
     | with_reducible (first | apply Req_intro | refine nilT ?_ fun hn => ?_ | apply wk_draw Tryd_mixed | refine drawEnd (by kernel_rfl) ?_)
     | (with_reducible (first | apply condA_if | apply stepDG_ifN | apply stepDG_if | apply stepG_ifN | apply stepG_if)) <;> intro hb <;> (have hif := hb) <;> (try simp only [bo] at hif) <;> (try simp -implicitDefEqProofs (disch := omega) only [go_sem, hb]) <;> clear hb
     | simp (maxSteps := 1000000) -implicitDefEqProofs (disch := omega) only [go_sem])
   all_goals first | exact absurd trivial ‹¬True› | exact absurd ‹false = true› (by decide) | exact absurd ‹true = false› (by decide) | (exfalso; omega) | omega | skip
   refine calld (gIn_spec _ 1 4) ?_
   try simp (maxSteps := 1000000) -implicitDefEqProofs (disch := omega) only [go_sem]
   cases h1 : inR' 1 4 ((l.getD x default).2.length : Int) with
   | false =>
     repeat' (first
       | (with_reducible apply Req_intro); focus (first | omega | assumption | (simp; done))
       | with_reducible (first | apply Req_intro | refine nilT ?_ fun hn => ?_ | apply wk_draw Tryd_mixed | refine drawEnd (by kernel_rfl) ?_)
       | (with_reducible (first | apply condA_if | apply stepDG_ifN | apply stepDG_if | apply stepG_ifN | apply stepG_if)) <;> intro hb <;> (have hif := hb) <;> (try simp only [bo] at hif) <;> (try simp -implicitDefEqProofs (disch := omega) only [go_sem, hb]) <;> clear hb
       | simp (maxSteps := 1000000) -implicitDefEqProofs (disch := omega) only [go_sem])
     all_goals first | exact absurd trivial ‹¬True› | exact absurd ‹false = true› (by decide) | exact absurd ‹true = false› (by decide) | (exfalso; omega) | omega | skip
     refine ret_do ?_
     rw [hbad (by rw [h1]; rfl)]; rfl
   | true =>
     repeat' (first
       | (with_reducible apply Req_intro); focus (first | omega | assumption | (simp; done))
       | with_reducible (first | apply Req_intro | refine nilT ?_ fun hn => ?_ | apply wk_draw Tryd_mixed | refine drawEnd (by kernel_rfl) ?_)
       | (with_reducible (first | apply condA_if | apply stepDG_ifN | apply stepDG_if | apply stepG_ifN | apply stepG_if)) <;> intro hb <;> (have hif := hb) <;> (try simp only [bo] at hif) <;> (try simp -implicitDefEqProofs (disch := omega) only [go_sem, hb]) <;> clear hb
       | simp (maxSteps := 1000000) -implicitDefEqProofs (disch := omega) only [go_sem])
     all_goals first | exact absurd trivial ‹¬True› | exact absurd ‹false = true› (by decide) | exact absurd ‹true = false› (by decide) | (exfalso; omega) | omega | skip
     · refine ret_do ?_
       rw [hbad (by rw [h1, bne_iff_ne.2 (by omega)]; rfl)]; rfl
     · refine nxt_w (x + 1) (weak_do []) ?_
       try dsimp only
       refine ⟨by omega, fun j hj => ?_⟩
       rcases Nat.lt_succ_iff_lt_or_eq.1 hj with h | rfl
       · exact hp j h
       · rw [hot, h1, Bool.not_true, Bool.false_or, bne_eq_false_iff_eq]; omega
 · obtain rfl : x = l.length := by omega
   clear hlt
   have hno : ¬ l.any (otherR l) = true := by
     rw [List.any_eq_true]
     rintro ⟨y, hy, hh⟩
     obtain ⟨j, hj, rfl⟩ := List.getElem_of_mem hy
     have := hp j hj
     rw [getD_default hj] at this
     rw [this] at hh; cases hh
   clear hp
   have hf : formR l = if l.any noneR then 2 else 0 := by rw [formR, if_neg hno]
   repeat' (first
     | (with_reducible apply Req_intro); focus (first | omega | assumption | (simp; done))
     | with_reducible (first | apply Req_intro | refine nilT ?_ fun hn => ?_ | apply wk_draw Tryd_mixed | refine drawEnd (by kernel_rfl) ?_)
     | (with_reducible (first | apply condA_if | apply stepDG_ifN | apply stepDG_if | apply stepG_ifN | apply stepG_if)) <;> intro hb <;> (have hif := hb) <;> (try simp only [bo] at hif) <;> (try simp -implicitDefEqProofs (disch := omega) only [go_sem, hb]) <;> clear hb
     | simp (maxSteps := 1000000) -implicitDefEqProofs (disch := omega) only [go_sem])
   all_goals first | exact absurd trivial ‹¬True› | exact absurd ‹false = true› (by decide) | exact absurd ‹true = false› (by decide) | (exfalso; omega) | omega | skip
   refine loop_at (α := Nat) [2, 4, 5, 34, 35, 36, 37, 38, 39, 40, 41, 42, 43, 44, 45, 46, 47, 48, 49, 50, 51, 52, 53, 54, 55, 56, 57, 58, 59, 60, 61, 62, 63, 64, 65, 66] (fun i => [(4, .lit (.int .i64 i))]) (fun i => i ≤ l.length ∧ ∀ j, j < i → noneR (l.getD j default) = false) (fun i => l.length - i) 0 (fun x => by simp (maxSteps := 1000000) -implicitDefEqProofs (disch := omega) only [go_sem]; rfl) ?_ ?_ fun x hx => ?_
   · exact weak_do []
   · exact ⟨Nat.zero_le _, fun j hj => absurd hj (Nat.not_lt_zero _)⟩
   obtain ⟨hi, hp⟩ := hx
   rename Nat => ox
   by_cases hlt : ox < l.length
   · have hcl := hlc _ (getD_mem hlt)
     have hbad : noneR (l.getD ox default) = true → formR l = 2 := fun h => by
       rw [hf, if_pos (List.any_eq_true.2 ⟨_, getD_mem hlt, h⟩)]
     have hnn : noneR (l.getD ox default) = (!inR' 1 10000 (l.getD ox default).1 || !(l.getD ox default).2.all (inR' 0 500)) := rfl
     rw [hnn] at hbad
     repeat' (first
       | (with_reducible apply Req_intro); focus (first | omega | assumption | (simp; done))
       | with_reducible (first | apply Req_intro | refine nilT ?_ fun hn => ?_ | apply wk_draw Tryd_mixed | refine drawEnd (by kernel_rfl) ?_)
       | (with_reducible (first | apply condA_if | apply stepDG_ifN | apply stepDG_if | apply stepG_ifN | apply stepG_if)) <;> intro hb <;> (have hif := hb) <;> (try simp only [bo] at hif) <;> (try simp -implicitDefEqProofs (disch := omega) only [go_sem, hb]) <;> clear hb
       | simp (maxSteps := 1000000) -implicitDefEqProofs (disch := omega) only [go_sem])
     all_goals first | exact absurd trivial ‹¬True› | exact absurd ‹false = true› (by decide) | exact absurd ‹true = false› (by decide) | (exfalso; omega) | omega | skip
     refine callp (gIn_spec _ 1 10000) ?_
     try simp (maxSteps := 1000000) -implicitDefEqProofs (disch := omega) only [go_sem]
     cases h1 : inR' 1 10000 (l.getD ox default).1 with
     | false =>
       repeat' (first
         | (with_reducible apply Req_intro); focus (first | omega | assumption | (simp; done))
         | with_reducible (first | apply Req_intro | refine nilT ?_ fun hn => ?_ | apply wk_draw Tryd_mixed | refine drawEnd (by kernel_rfl) ?_)
         | (with_reducible (first | apply condA_if | apply stepDG_ifN | apply stepDG_if | apply stepG_ifN | apply stepG_if)) <;> intro hb <;> (have hif := hb) <;> (try simp only [bo] at hif) <;> (try simp -implicitDefEqProofs (disch := omega) only [go_sem, hb]) <;> clear hb
         | simp (maxSteps := 1000000) -implicitDefEqProofs (disch := omega) only [go_sem])
       all_goals first | exact absurd trivial ‹¬True› | exact absurd ‹false = true› (by decide) | exact absurd ‹true = false› (by decide) | (exfalso; omega) | omega | skip
       refine ret_do ?_
       rw [hbad (by rw [h1]; rfl)]; rfl
     | true =>
       repeat' (first
         | (with_reducible apply Req_intro); focus (first | omega | assumption | (simp; done))
         | with_reducible (first | apply Req_intro | refine nilT ?_ fun hn => ?_ | apply wk_draw Tryd_mixed | refine drawEnd (by kernel_rfl) ?_)
         | (with_reducible (first | apply condA_if | apply stepDG_ifN | apply stepDG_if | apply stepG_ifN | apply stepG_if)) <;> intro hb <;> (have hif := hb) <;> (try simp only [bo] at hif) <;> (try simp -implicitDefEqProofs (disch := omega) only [go_sem, hb]) <;> clear hb
         | simp (maxSteps := 1000000) -implicitDefEqProofs (disch := omega) only [go_sem])
       all_goals first | exact absurd trivial ‹¬True› | exact absurd ‹false = true› (by decide) | exact absurd ‹true = false› (by decide) | (exfalso; omega) | omega | skip
       refine loop_at (α := Nat) [2, 5, 47, 48, 49, 50, 51, 52, 53, 54, 55, 56, 57, 58, 59, 60, 61, 62, 63, 64, 65, 66] (fun i => [(5, .lit (.int .i64 i))]) (fun i => i ≤ (l.getD ox default).2.length ∧ ∀ j, j < i → inR' 0 500 ((l.getD ox default).2.getD j default) = true) (fun i => (l.getD ox default).2.length - i) 0 (fun x => by simp (maxSteps := 1000000) -implicitDefEqProofs (disch := omega) only [go_sem]; rfl) ?_ ?_ fun x hx => ?_
       · exact weak_do []
       · exact ⟨Nat.zero_le _, fun j hj => absurd hj (Nat.not_lt_zero _)⟩
       obtain ⟨hi2, hp2⟩ := hx
       by_cases hlt2 : x < (l.getD ox default).2.length
       · repeat' (first
           | (with_reducible apply Req_intro); focus (first | omega | assumption | (simp; done))
           | with_reducible (first | apply Req_intro | refine nilT ?_ fun hn => ?_ | apply wk_draw Tryd_mixed | refine drawEnd (by kernel_rfl) ?_)
           | (with_reducible (first | apply condA_if | apply stepDG_ifN | apply stepDG_if | apply stepG_ifN | apply stepG_if)) <;> intro hb <;> (have hif := hb) <;> (try simp only [bo] at hif) <;> (try simp -implicitDefEqProofs (disch := omega) only [go_sem, hb]) <;> clear hb
           | simp (maxSteps := 1000000) -implicitDefEqProofs (disch := omega) only [go_sem])
         all_goals first | exact absurd trivial ‹¬True› | exact absurd ‹false = true› (by decide) | exact absurd ‹true = false› (by decide) | (exfalso; omega) | omega | skip
         refine callp (gIn_spec _ 0 500) ?_
         try simp (maxSteps := 1000000) -implicitDefEqProofs (disch := omega) only [go_sem]
         cases h2 : inR' 0 500 ((l.getD ox default).2.getD x default) with
         | false =>
           repeat' (first
             | (with_reducible apply Req_intro); focus (first | omega | assumption | (simp; done))
             | with_reducible (first | apply Req_intro | refine nilT ?_ fun hn => ?_ | apply wk_draw Tryd_mixed | refine drawEnd (by kernel_rfl) ?_)
             | (with_reducible (first | apply condA_if | apply stepDG_ifN | apply stepDG_if | apply stepG_ifN | apply stepG_if)) <;> intro hb <;> (have hif := hb) <;> (try simp only [bo] at hif) <;> (try simp -implicitDefEqProofs (disch := omega) only [go_sem, hb]) <;> clear hb
             | simp (maxSteps := 1000000) -implicitDefEqProofs (disch := omega) only [go_sem])
           all_goals first | exact absurd trivial ‹¬True› | exact absurd ‹false = true› (by decide) | exact absurd ‹true = false› (by decide) | (exfalso; omega) | omega | skip
           refine ret_do ?_
           rw [hbad (by
             rw [h1, Bool.not_true, Bool.false_or, Bool.not_eq_true', List.all_eq_false]
             exact ⟨_, getD_mem hlt2, by rw [h2]; decide⟩)]; rfl
         | true =>
           repeat' (first
             | (with_reducible apply Req_intro); focus (first | omega | assumption | (simp; done))
             | with_reducible (first | apply Req_intro | refine nilT ?_ fun hn => ?_ | apply wk_draw Tryd_mixed | refine drawEnd (by kernel_rfl) ?_)
             | (with_reducible (first | apply condA_if | apply stepDG_ifN | apply stepDG_if | apply stepG_ifN | apply stepG_if)) <;> intro hb <;> (have hif := hb) <;> (try simp only [bo] at hif) <;> (try simp -implicitDefEqProofs (disch := omega) only [go_sem, hb]) <;> clear hb
             | simp (maxSteps := 1000000) -implicitDefEqProofs (disch := omega) only [go_sem])
           all_goals first | exact absurd trivial ‹¬True› | exact absurd ‹false = true› (by decide) | exact absurd ‹true = false› (by decide) | (exfalso; omega) | omega | skip
           refine nxt_w (x + 1) (weak_do []) ?_
           try dsimp only
           refine ⟨by omega, fun j hj => ?_⟩
           rcases Nat.lt_succ_iff_lt_or_eq.1 hj with h | rfl
           · exact hp2 j h
           · exact h2
       · repeat' (first
           | (with_reducible apply Req_intro); focus (first | omega | assumption | (simp; done))
           | with_reducible (first | apply Req_intro | refine nilT ?_ fun hn => ?_ | apply wk_draw Tryd_mixed | refine drawEnd (by kernel_rfl) ?_)
           | (with_reducible (first | apply condA_if | apply stepDG_ifN | apply stepDG_if | apply stepG_ifN | apply stepG_if)) <;> intro hb <;> (have hif := hb) <;> (try simp only [bo] at hif) <;> (try simp -implicitDefEqProofs (disch := omega) only [go_sem, hb]) <;> clear hb
           | simp (maxSteps := 1000000) -implicitDefEqProofs (disch := omega) only [go_sem])
         all_goals first | exact absurd trivial ‹¬True› | exact absurd ‹false = true› (by decide) | exact absurd ‹true = false› (by decide) | (exfalso; omega) | omega | skip
         refine nxt_w (ox + 1) (weak_do []) ?_
         try dsimp only
         refine ⟨by omega, fun j hj => ?_⟩
         rcases Nat.lt_succ_iff_lt_or_eq.1 hj with h | rfl
         · exact hp j h
         · rw [hnn, h1, Bool.not_true, Bool.false_or, Bool.not_eq_false', List.all_eq_true]
           intro v hv
           obtain ⟨q, hq, rfl⟩ := List.getElem_of_mem hv
           have := hp2 q (by omega)
           rwa [getD_default hq] at this
   · obtain rfl : ox = l.length := by omega
     have hno2 : ¬ l.any noneR = true := by
       rw [List.any_eq_true]
       rintro ⟨y, hy, hh⟩
       obtain ⟨j, hj, rfl⟩ := List.getElem_of_mem hy
       have := hp j hj
       rw [getD_default hj] at this
       rw [this] at hh; cases hh
     repeat' (first
       | (with_reducible apply Req_intro); focus (first | omega | assumption | (simp; done))
       | with_reducible (first | apply Req_intro | refine nilT ?_ fun hn => ?_ | apply wk_draw Tryd_mixed | refine drawEnd (by kernel_rfl) ?_)
       | (with_reducible (first | apply condA_if | apply stepDG_ifN | apply stepDG_if | apply stepG_ifN | apply stepG_if)) <;> intro hb <;> (have hif := hb) <;> (try simp only [bo] at hif) <;> (try simp -implicitDefEqProofs (disch := omega) only [go_sem, hb]) <;> clear hb
       | simp (maxSteps := 1000000) -implicitDefEqProofs (disch := omega) only [go_sem])
     all_goals first | exact absurd trivial ‹¬True› | exact absurd ‹false = true› (by decide) | exact absurd ‹true = false› (by decide) | (exfalso; omega) | omega | skip
     refine ret_do ?_
     rw [hf, if_neg hno2]; rfl
end Go.Aw
end
section
namespace Go.Aw
open Go.RowKit Go.Proofs
@[go_sem] theorem take_cat_gd (ls rs : List Grd) (n : Nat) (h : ls.length + rs.length = n) : List.take n (ls.map encGd ++ rs.map encGd) = ls.map encGd ++ rs.map encGd := List.take_of_length_le (by simp; omega)
theorem rCheck_spec (g : Gau) (ls rs : List Grd) (e1 e2 : Bool) (hs : StOk ls rs) : Ct Tryd.prog 28 [encSt ls rs e1 e2, encGa g] (int (checkS g ls rs)) := by
 obtain ⟨h1, h2, h3, h4⟩ := hs
 have hf := rForm_spec (ls ++ rs) false (by rw [List.length_append]; omega) (fun x hx => by
   rcases List.mem_append.1 hx with h | h
   · have := h3 x h; omega
   · have := h4 x h; omega)
 have hch := form_chk g (ls ++ rs)
 have hck : checkS g ls rs = if 8 < ls.length ∨ 8 < rs.length then 5 else chkR g (ls ++ rs) := rfl
 rw [List.map_append] at hf
 generalize formR (ls ++ rs) = fm at *
 refine fn_enter Tryd.func28 rfl (by decide) Tryd.results28 Tryd.ntmps28 ?_ rfl (by simp (maxSteps := 1000000) -implicitDefEqProofs (disch := omega) only [go_sem]; rfl) fun base => ?_
 · first | assumption | (simp only [go_sem] <;> assumption) | (simp only [go_sem, *]; done) | (simp [go_sem]; done)
 repeat' (first
   | (with_reducible apply Req_intro); focus (first | omega | assumption | (simp; done))
   | with_reducible (first | apply Req_intro | refine nilT ?_ fun hn => ?_ | apply wk_draw Tryd_mixed | refine drawEnd (by kernel_rfl) ?_)
   | (with_reducible (first | apply condA_if | apply stepDG_ifN | apply stepDG_if | apply stepG_ifN | apply stepG_if)) <;> intro hb <;> (have hif := hb) <;> (try simp only [bo] at hif) <;> (try simp -implicitDefEqProofs (disch := omega) only [go_sem, hb]) <;> clear hb
   | simp (maxSteps := 1000000) -implicitDefEqProofs (disch := omega) only [go_sem])
 · refine ret_do ?_
   rw [hck, if_pos (by omega)]; rfl
 · refine ret_do ?_
   rw [hck, if_pos (by omega)]; rfl
 rw [if_neg (by omega)] at hck
 refine calldf 1216 hf ?_
 try simp (maxSteps := 1000000) -implicitDefEqProofs (disch := omega) only [go_sem]
 repeat' (first
   | (with_reducible apply Req_intro); focus (first | omega | assumption | (simp; done))
   | with_reducible (first | apply Req_intro | refine nilT ?_ fun hn => ?_ | apply wk_draw Tryd_mixed | refine drawEnd (by kernel_rfl) ?_)
   | (with_reducible (first | apply condA_if | apply stepDG_ifN | apply stepDG_if | apply stepG_ifN | apply stepG_if)) <;> intro hb <;> (have hif := hb) <;> (try simp only [bo] at hif) <;> (try simp -implicitDefEqProofs (disch := omega) only [go_sem, hb]) <;> clear hb
   | simp (maxSteps := 1000000) -implicitDefEqProofs (disch := omega) only [go_sem])
 · refine ret_do ?_
   rw [hck, hch, if_neg hif]; rfl
 rw [hch, if_pos hif] at hck
 refine callp (rGauge_spec g) ?_
 try simp (maxSteps := 1000000) -implicitDefEqProofs (disch := omega) only [go_sem]
 repeat' (first
   | (with_reducible apply Req_intro); focus (first | omega | assumption | (simp; done))
   | with_reducible (first | apply Req_intro | refine nilT ?_ fun hn => ?_ | apply wk_draw Tryd_mixed | refine drawEnd (by kernel_rfl) ?_)
   | (with_reducible (first | apply condA_if | apply stepDG_ifN | apply stepDG_if | apply stepG_ifN | apply stepG_if)) <;> intro hb <;> (have hif := hb) <;> (try simp only [bo] at hif) <;> (try simp -implicitDefEqProofs (disch := omega) only [go_sem, hb]) <;> clear hb
   | simp (maxSteps := 1000000) -implicitDefEqProofs (disch := omega) only [go_sem])
 all_goals first | exact absurd trivial ‹¬True› | exact absurd ‹false = true› (by decide) | exact absurd ‹true = false› (by decide) | (exfalso; omega) | omega | skip
 · refine ret_do ?_
   rw [hck, hif]; rfl
 · refine ret_do ?_
   rw [hck, hif]; rfl
theorem rCopy_spec (l : List Grd) (e : Bool) (hl : l.length ≤ 1000) (hlc : ∀ x ∈ l, x.2.length ≤ 1000) : Ct Tryd.prog 16 [.sl 2 (l.map encGd) e] (.sl 2 (l.map encGd) false) := by
 refine fn_enter Tryd.func16 rfl (by decide) Tryd.results16 Tryd.ntmps16 ?_ rfl (by simp (maxSteps := 1000000) -implicitDefEqProofs (disch := omega) only [go_sem]; rfl) fun base => ?_
 · first | assumption | (simp only [go_sem] <;> assumption) | (simp only [go_sem, *]; done) | (simp [go_sem]; done)
 repeat' (first
   | (with_reducible apply Req_intro); focus (first | omega | assumption | (simp; done))
   | with_reducible (first | apply Req_intro | refine nilT ?_ fun hn => ?_ | apply wk_draw Tryd_mixed | refine drawEnd (by kernel_rfl) ?_)
   | (with_reducible (first | apply condA_if | apply stepDG_ifN | apply stepDG_if | apply stepG_ifN | apply stepG_if)) <;> intro hb <;> (have hif := hb) <;> (try simp only [bo] at hif) <;> (try simp -implicitDefEqProofs (disch := omega) only [go_sem, hb]) <;> clear hb
   | simp (maxSteps := 1000000) -implicitDefEqProofs (disch := omega) only [go_sem])
 refine loop_rows (α := Nat) [3, 4, 6, 7, 8, 9, 10, 11, 12, 13, 14, 15, 16, 17, 18, 19, 20, 21, 22, 23, 24, 25, 26, 27] (fun i => [(4, .lit (.int .i64 i)), (3, .os 65 2 i false), (5, .undef)]) (fun i => [(65, some ⟨2, (l.take i).map encGd, 24, .wr⟩)]) (fun i => i ≤ l.length) (fun i => l.length - i) 0 (fun x => by simp (maxSteps := 1000000) -implicitDefEqProofs (disch := omega) only [go_sem]; rfl) ?_ ?_ fun x hx => ?_
 · simp only [List.take_zero, List.map_nil]
   exact weak_do3 [(65, 64)]
 · exact Nat.zero_le _
 have htl : (l.take x).length = x := by rw [List.length_take]; omega
 by_cases hlt : x < l.length
 · have hcl := hlc _ (getD_mem hlt)
   repeat' (first
     | (with_reducible apply Req_intro); focus (first | omega | assumption | (simp; done))
     | with_reducible (first | apply Req_intro | refine nilT ?_ fun hn => ?_ | apply wk_draw Tryd_mixed | refine drawEnd (by kernel_rfl) ?_)
     | (with_reducible (first | apply condA_if | apply stepDG_ifN | apply stepDG_if | apply stepG_ifN | apply stepG_if)) <;> intro hb <;> (have hif := hb) <;> (try simp only [bo] at hif) <;> (try simp -implicitDefEqProofs (disch := omega) only [go_sem, hb]) <;> clear hb
     | simp (maxSteps := 1000000) -implicitDefEqProofs (disch := omega) only [go_sem])
   all_goals first | exact absurd trivial ‹¬True› | exact absurd ‹false = true› (by decide) | exact absurd ‹true = false› (by decide) | (exfalso; omega) | omega | skip
   have ht := take_succ_getD hlt
   generalize l.getD x default = b at *
   refine nxt_snapRow [1280] 1472 (es' := (l.take x).map encGd ++ [encGd b]) (by first | (simp only [go_sem]; done) | (simp only [go_sem]; rfl)) (by rfl) ?_ (by first | assumption | (simp only [go_sem] <;> assumption) | (simp only [go_sem, *]; done) | (simp [go_sem]; done)) (by first | (simp only [go_sem]; done) | (simp only [go_sem]; rfl)) ?_
   · refine PurE.snocR (by first | assumption | (simp only [go_sem] <;> assumption) | (simp only [go_sem, *]; done) | (simp [go_sem]; done)) ?_
     rw [show encGd b = [.lit (.int .i64 b.1), .sl 1 (b.2.map encI) false] from rfl]
     (try simp (maxSteps := 1000000) -implicitDefEqProofs (disch := omega) only [go_sem])
     repeat' (first
       | with_reducible (first | exact PurI.nil | exact Pur.nilsl _ _ | exact PurE.nil)
       | (with_reducible (first | refine PurI.puL ?_ | refine PurE.puE ?_)) <;> (first | assumption | (simp only [go_sem] <;> assumption) | (simp only [go_sem, *]; done) | (simp [go_sem]; done))
       | with_reducible apply PurI.cons
       | (with_reducible refine Pur.pu _ ?_) <;> (first | assumption | (simp only [go_sem] <;> assumption) | (simp only [go_sem, *]; done) | (simp [go_sem]; done))
       | ((with_reducible apply Pur.refR) <;> (first | rfl | decide | (simp only [go_sem]; omega) | (simp only [go_sem]) | skip))
       | ((with_reducible apply Pur.osR) <;> (first | rfl | exact fun h => h | omega | (simp; omega) | (simp; done) | (simp only [go_sem]) | skip))
       | with_reducible (first | apply Pur.fnI | apply Pur.aggI | apply PurE.cons)
       | (with_reducible refine PurI.eqL ?_ ?_); (focus rfl); (focus (first | assumption | (simp only [go_sem] <;> assumption) | (simp only [go_sem, *]; done) | (simp [go_sem]; done)))
       | simp (maxSteps := 1000000) -implicitDefEqProofs (disch := omega) only [go_sem])
   with_reducible refine nxt_w (x + 1) ?_ ?_
   · (try dsimp only)
     rw [ht, List.map_append]
     exact weak_do3 [(65, 1472)]
   try dsimp only
   omega
 · obtain rfl : x = l.length := by omega
   rw [List.take_length]
   repeat' (first
     | (with_reducible apply Req_intro); focus (first | omega | assumption | (simp; done))
     | with_reducible (first | apply Req_intro | refine nilT ?_ fun hn => ?_ | apply wk_draw Tryd_mixed | refine drawEnd (by kernel_rfl) ?_)
     | (with_reducible (first | apply condA_if | apply stepDG_ifN | apply stepDG_if | apply stepG_ifN | apply stepG_if)) <;> intro hb <;> (have hif := hb) <;> (try simp only [bo] at hif) <;> (try simp -implicitDefEqProofs (disch := omega) only [go_sem, hb]) <;> clear hb
     | simp (maxSteps := 1000000) -implicitDefEqProofs (disch := omega) only [go_sem])
   all_goals first | exact absurd trivial ‹¬True› | exact absurd ‹false = true› (by decide) | exact absurd ‹true = false› (by decide) | (exfalso; omega) | omega | skip
   exact retf [65] [2] [.sl 2 (l.map encGd) false]
theorem rSame_spec (a b : List Grd) (ea eb : Bool) (ha : a.length ≤ 1000) (hb : b.length ≤ 1000) (hac : ∀ x ∈ a, x.2.length ≤ 1000) (hbc : ∀ x ∈ b, x.2.length ≤ 1000) : Ct Tryd.prog 18 [.sl 2 (a.map encGd) ea, .sl 2 (b.map encGd) eb] (.lit (.bool (a == b))) := by
 refine fn_enter Tryd.func18 rfl (by decide) Tryd.results18 Tryd.ntmps18 ?_ rfl (by simp (maxSteps := 1000000) -implicitDefEqProofs (disch := omega) only [go_sem]; rfl) fun base => ?_
 · first | assumption | (simp only [go_sem] <;> assumption) | (simp only [go_sem, *]; done) | (simp [go_sem]; done)
 repeat' (first
   | (with_reducible apply Req_intro); focus (first | omega | assumption | (simp; done))
   | with_reducible (first | apply Req_intro | refine nilT ?_ fun hn => ?_ | apply wk_draw Tryd_mixed | refine drawEnd (by kernel_rfl) ?_)
   | (with_reducible (first | apply condA_if | apply stepDG_ifN | apply stepDG_if | apply stepG_ifN | apply stepG_if)) <;> intro hb <;> (have hif := hb) <;> (try simp only [bo] at hif) <;> (try simp -implicitDefEqProofs (disch := omega) only [go_sem, hb]) <;> clear hb
   | simp (maxSteps := 1000000) -implicitDefEqProofs (disch := omega) only [go_sem])
 · refine ret_do ?_
   have : (a == b) = false := by rw [beq_eq_false_iff_ne]; intro e; subst e; exact hif rfl
   rw [this]; rfl
 refine loop_at (α := Nat) [4, 5, 11, 12, 13, 14, 15, 16, 17, 18, 19, 20, 21, 22, 23, 24, 25, 26, 27, 28, 29, 30, 31, 32, 33, 34, 35, 36, 37, 38, 39, 40, 41] (fun i => [(5, .lit (.int .i64 i))]) (fun i => i ≤ a.length ∧ a.take i = b.take i) (fun i => a.length - i) 0 (fun x => by simp (maxSteps := 1000000) -implicitDefEqProofs (disch := omega) only [go_sem]; rfl) ?_ ?_ fun x hx => ?_
 · exact weak_do []
 · simp
 obtain ⟨hi, he⟩ := hx
 by_cases hlt : x < a.length
 · have h1 := hac _ (getD_mem hlt)
   have h2 := hbc _ (getD_mem (l := b) (i := x) (by omega))
   have hno : a.getD x default ≠ b.getD x default → (a == b) = false := fun h => by rw [beq_eq_false_iff_ne]; intro e; subst e; exact h rfl
   have hin := rInts_spec (a.getD x default).2 (b.getD x default).2 false false (by omega) (by omega)
   repeat' (first
     | (with_reducible apply Req_intro); focus (first | omega | assumption | (simp; done))
     | with_reducible (first | apply Req_intro | refine nilT ?_ fun hn => ?_ | apply wk_draw Tryd_mixed | refine drawEnd (by kernel_rfl) ?_)
     | (with_reducible (first | apply condA_if | apply stepDG_ifN | apply stepDG_if | apply stepG_ifN | apply stepG_if)) <;> intro hb <;> (have hif := hb) <;> (try simp only [bo] at hif) <;> (try simp -implicitDefEqProofs (disch := omega) only [go_sem, hb]) <;> clear hb
     | simp (maxSteps := 1000000) -implicitDefEqProofs (disch := omega) only [go_sem])
   all_goals first | exact absurd trivial ‹¬True› | exact absurd ‹false = true› (by decide) | exact absurd ‹true = false› (by decide) | (exfalso; omega) | omega | skip
   · refine ret_do ?_
     rw [hno (fun e => hif (by rw [e]))]; rfl
   · refine calld hin ?_
     try simp (maxSteps := 1000000) -implicitDefEqProofs (disch := omega) only [go_sem]
     repeat' (first
       | (with_reducible apply Req_intro); focus (first | omega | assumption | (simp; done))
       | with_reducible (first | apply Req_intro | refine nilT ?_ fun hn => ?_ | apply wk_draw Tryd_mixed | refine drawEnd (by kernel_rfl) ?_)
       | (with_reducible (first | apply condA_if | apply stepDG_ifN | apply stepDG_if | apply stepG_ifN | apply stepG_if)) <;> intro hb <;> (have hif := hb) <;> (try simp only [bo] at hif) <;> (try simp -implicitDefEqProofs (disch := omega) only [go_sem, hb]) <;> clear hb
       | simp (maxSteps := 1000000) -implicitDefEqProofs (disch := omega) only [go_sem])
     all_goals first | exact absurd trivial ‹¬True› | exact absurd ‹false = true› (by decide) | exact absurd ‹true = false› (by decide) | (exfalso; omega) | omega | skip
     · refine ret_do ?_
       rw [hno (fun e => by rw [e] at hif; simp at hif)]; rfl
     · refine nxt_w (x + 1) (weak_do []) ?_
       try dsimp only
       refine ⟨by omega, ?_⟩
       rw [take_succ_getD (by omega), take_succ_getD (by omega), he, show a.getD x default = b.getD x default from Prod.ext (by assumption) (by simpa using hif)]
 · repeat' (first
     | (with_reducible apply Req_intro); focus (first | omega | assumption | (simp; done))
     | with_reducible (first | apply Req_intro | refine nilT ?_ fun hn => ?_ | apply wk_draw Tryd_mixed | refine drawEnd (by kernel_rfl) ?_)
     | (with_reducible (first | apply condA_if | apply stepDG_ifN | apply stepDG_if | apply stepG_ifN | apply stepG_if)) <;> intro hb <;> (have hif := hb) <;> (try simp only [bo] at hif) <;> (try simp -implicitDefEqProofs (disch := omega) only [go_sem, hb]) <;> clear hb
     | simp (maxSteps := 1000000) -implicitDefEqProofs (disch := omega) only [go_sem])
   all_goals first | exact absurd trivial ‹¬True› | exact absurd ‹false = true› (by decide) | exact absurd ‹true = false› (by decide) | (exfalso; omega) | omega | skip
   refine ret_do ?_
   have : a = b := by
     rw [List.take_of_length_le (by omega), List.take_of_length_le (by omega)] at he; exact he
   subst this; simp; rfl
theorem own_spec (ls rs : List Grd) (e1 e2 : Bool) (hs : StOk ls rs) : Ct Tryd.prog 24 [encSt ls rs e1 e2] (encSt ls rs false false) := by
 refine ct_enterZ Tryd.func24 rfl (by decide) Tryd.results24 Tryd.ntmps24 ?_ rfl (by simp (maxSteps := 1000000) -implicitDefEqProofs (disch := omega) only [go_sem]; rfl) fun base => ?_
 · first | assumption | (simp only [go_sem] <;> assumption) | (simp only [go_sem, *]; done) | (simp [go_sem]; done)
 repeat' (first
   | (with_reducible apply Req_intro); focus (first | omega | assumption | (simp; done))
   | with_reducible (first | apply Req_intro | refine nilT ?_ fun hn => ?_ | apply wk_draw Tryd_mixed | refine drawEnd (by kernel_rfl) ?_)
   | (with_reducible (first | apply condA_if | apply stepDG_ifN | apply stepDG_if | apply stepG_ifN | apply stepG_if)) <;> intro hb <;> (have hif := hb) <;> (try simp only [bo] at hif) <;> (try simp -implicitDefEqProofs (disch := omega) only [go_sem, hb]) <;> clear hb
   | simp (maxSteps := 1000000) -implicitDefEqProofs (disch := omega) only [go_sem])
 refine calld (rCopy_spec ls e1 hs.l hs.lc) ?_
 try simp (maxSteps := 1000000) -implicitDefEqProofs (disch := omega) only [go_sem]
 repeat' (first
   | (with_reducible apply Req_intro); focus (first | omega | assumption | (simp; done))
   | with_reducible (first | apply Req_intro | refine nilT ?_ fun hn => ?_ | apply wk_draw Tryd_mixed | refine drawEnd (by kernel_rfl) ?_)
   | (with_reducible (first | apply condA_if | apply stepDG_ifN | apply stepDG_if | apply stepG_ifN | apply stepG_if)) <;> intro hb <;> (have hif := hb) <;> (try simp only [bo] at hif) <;> (try simp -implicitDefEqProofs (disch := omega) only [go_sem, hb]) <;> clear hb
   | simp (maxSteps := 1000000) -implicitDefEqProofs (disch := omega) only [go_sem])
 refine calld (rCopy_spec rs e2 hs.r hs.rc) ?_
 try simp (maxSteps := 1000000) -implicitDefEqProofs (disch := omega) only [go_sem]
 repeat' (first
   | (with_reducible apply Req_intro); focus (first | omega | assumption | (simp; done))
   | with_reducible (first | apply Req_intro | refine nilT ?_ fun hn => ?_ | apply wk_draw Tryd_mixed | refine drawEnd (by kernel_rfl) ?_)
   | (with_reducible (first | apply condA_if | apply stepDG_ifN | apply stepDG_if | apply stepG_ifN | apply stepG_if)) <;> intro hb <;> (have hif := hb) <;> (try simp only [bo] at hif) <;> (try simp -implicitDefEqProofs (disch := omega) only [go_sem, hb]) <;> clear hb
   | simp (maxSteps := 1000000) -implicitDefEqProofs (disch := omega) only [go_sem])
 exact retz []
theorem same_spec (ls rs : List Grd) (e1 e2 e3 e4 : Bool) (hs : StOk ls rs) : Ct Tryd.prog 29 [encSt ls rs e1 e2, encSt ls rs e3 e4] (.lit (.bool true)) := by
 have h1 := rSame_spec ls ls e1 e3 hs.l hs.l hs.lc hs.lc
 have h2 := rSame_spec rs rs e2 e4 hs.r hs.r hs.rc hs.rc
 rw [beq_self_eq_true] at h1 h2
 refine fn_enter Tryd.func29 rfl (by decide) Tryd.results29 Tryd.ntmps29 ?_ rfl (by simp (maxSteps := 1000000) -implicitDefEqProofs (disch := omega) only [go_sem]; rfl) fun base => ?_
 · first | assumption | (simp only [go_sem] <;> assumption) | (simp only [go_sem, *]; done) | (simp [go_sem]; done)
 repeat' (first
   | (with_reducible apply Req_intro); focus (first | omega | assumption | (simp; done))
   | with_reducible (first | apply Req_intro | refine nilT ?_ fun hn => ?_ | apply wk_draw Tryd_mixed | refine drawEnd (by kernel_rfl) ?_)
   | (with_reducible (first | apply condA_if | apply stepDG_ifN | apply stepDG_if | apply stepG_ifN | apply stepG_if)) <;> intro hb <;> (have hif := hb) <;> (try simp only [bo] at hif) <;> (try simp -implicitDefEqProofs (disch := omega) only [go_sem, hb]) <;> clear hb
   | simp (maxSteps := 1000000) -implicitDefEqProofs (disch := omega) only [go_sem])
 refine callp h1 ?_
 try simp (maxSteps := 1000000) -implicitDefEqProofs (disch := omega) only [go_sem]
 repeat' (first
   | (with_reducible apply Req_intro); focus (first | omega | assumption | (simp; done))
   | with_reducible (first | apply Req_intro | refine nilT ?_ fun hn => ?_ | apply wk_draw Tryd_mixed | refine drawEnd (by kernel_rfl) ?_)
   | (with_reducible (first | apply condA_if | apply stepDG_ifN | apply stepDG_if | apply stepG_ifN | apply stepG_if)) <;> intro hb <;> (have hif := hb) <;> (try simp only [bo] at hif) <;> (try simp -implicitDefEqProofs (disch := omega) only [go_sem, hb]) <;> clear hb
   | simp (maxSteps := 1000000) -implicitDefEqProofs (disch := omega) only [go_sem])
 all_goals first | exact absurd trivial ‹¬True› | exact absurd ‹false = true› (by decide) | exact absurd ‹true = false› (by decide) | (exfalso; omega) | omega | skip
 refine callp h2 ?_
 try simp (maxSteps := 1000000) -implicitDefEqProofs (disch := omega) only [go_sem]
 repeat' (first
   | (with_reducible apply Req_intro); focus (first | omega | assumption | (simp; done))
   | with_reducible (first | apply Req_intro | refine nilT ?_ fun hn => ?_ | apply wk_draw Tryd_mixed | refine drawEnd (by kernel_rfl) ?_)
   | (with_reducible (first | apply condA_if | apply stepDG_ifN | apply stepDG_if | apply stepG_ifN | apply stepG_if)) <;> intro hb <;> (have hif := hb) <;> (try simp only [bo] at hif) <;> (try simp -implicitDefEqProofs (disch := omega) only [go_sem, hb]) <;> clear hb
   | simp (maxSteps := 1000000) -implicitDefEqProofs (disch := omega) only [go_sem])
 all_goals first | exact absurd trivial ‹¬True› | exact absurd ‹false = true› (by decide) | exact absurd ‹true = false› (by decide) | (exfalso; omega) | omega | skip
 refine ret_do ?_
 rfl
def sideR (ls rs : List Grd) (k : Nat) : List Grd := if k = 0 then ls else rs
def bigGR (ls rs : List Grd) : Bool := decide (12 < ls.length) || decide (12 < rs.length) || (ls.any fun x => decide (8 < x.2.length)) || (rs.any fun x => decide (8 < x.2.length))
def largeG (g : Gau) (ls rs : List Grd) (most : Int) : Bool :=
 (List.range 2).any (fun k => ((sideR ls rs k).take 13).any (fun x => decide (8 < x.2.length)) || decide (12 < (sideR ls rs k).length)) || decide (most < max (ls.length : Int) rs.length) && (checkS g ls rs == 0)
theorem large_spec06 (g : Gau) (ls rs : List Grd) (most : Int) (e1 e2 : Bool) (hl : ls.length ≤ 4611686018427387904) (hr : rs.length ≤ 4611686018427387904) (hlc : ∀ x ∈ ls, x.2.length ≤ 4611686018427387904) (hrc : ∀ x ∈ rs, x.2.length ≤ 4611686018427387904) :
   Ct Tryd.prog 23 [encSt ls rs e1 e2, encGa g, int most] (.lit (.bool (largeG g ls rs most))) := by
 have hbad : ∀ k, k < 2 → (((sideR ls rs k).take 13).any (fun x => decide (8 < x.2.length)) || decide (12 < (sideR ls rs k).length)) = true → largeG g ls rs most = true := fun k hk h => by
   unfold largeG
   rw [Bool.or_eq_true]; left
   exact List.any_eq_true.2 ⟨k, List.mem_range.2 hk, h⟩
 refine fn_enter Tryd.func23 rfl (by decide) Tryd.results23 Tryd.ntmps23 ?_ rfl (by simp (maxSteps := 1000000) -implicitDefEqProofs (disch := omega) only [go_sem]; rfl) fun base => ?_
 · first | assumption | (simp only [go_sem] <;> assumption) | (simp only [go_sem, *]; done) | (simp [go_sem]; done)
 repeat' (first
   | (with_reducible apply Req_intro); focus (first | omega | assumption | (simp; done))
   | with_reducible (first | apply Req_intro | refine nilT ?_ fun hn => ?_ | apply wk_draw Tryd_mixed | refine drawEnd (by kernel_rfl) ?_)
   | (with_reducible (first | apply condA_if | apply stepDG_ifN | apply stepDG_if | apply stepG_ifN | apply stepG_if)) <;> intro hb <;> (have hif := hb) <;> (try simp only [bo] at hif) <;> (try simp -implicitDefEqProofs (disch := omega) only [go_sem, hb]) <;> clear hb
   | simp (maxSteps := 1000000) -implicitDefEqProofs (disch := omega) only [go_sem])
 refine loop_rows (α := Nat) [6, 7, 8, 9, 10, 11, 12, 13, 14, 15, 16, 17, 18, 19, 20, 21, 22, 23, 24, 25, 26, 27, 28, 29, 30, 31, 32, 33, 34, 35, 36, 37, 38, 39, 40] (fun i => [(7, .lit (.int .i64 i))]) (fun i => [(0, some ⟨2, [[.sl 2 (ls.map encGd) e1, .sl 2 (rs.map encGd) e2]], 38, .wr⟩), (64, some ⟨4, [[int g.sc, int g.ga, int g.we, int g.cu]], 26, .wr⟩)]) (fun i => i ≤ 2 ∧ ∀ k, k < i → (((sideR ls rs k).take 13).any (fun x => decide (8 < x.2.length)) || decide (12 < (sideR ls rs k).length)) = false) (fun i => 2 - i) 0 (fun x => by simp (maxSteps := 1000000) -implicitDefEqProofs (disch := omega) only [go_sem]; rfl) ?_ ?_ fun x hx => ?_
 · exact weak_do3 []
 · exact ⟨by omega, fun k hk => by omega⟩
 obtain ⟨hx2, hxp⟩ := hx
 have h012 : x = 0 ∨ x = 1 ∨ x = 2 := by omega
 rcases h012 with rfl | rfl | rfl
 · have hsd : sideR ls rs 0 = ls := rfl
   have hb0 := hbad 0 (by decide)
   rw [hsd] at hb0
   repeat' (first
     | (with_reducible apply Req_intro); focus (first | omega | assumption | (simp; done))
     | with_reducible (first | apply Req_intro | refine nilT ?_ fun hn => ?_ | apply wk_draw Tryd_mixed | refine drawEnd (by kernel_rfl) ?_)
     | (with_reducible (first | apply condA_if | apply stepDG_ifN | apply stepDG_if | apply stepG_ifN | apply stepG_if)) <;> intro hb <;> (have hif := hb) <;> (try simp only [bo] at hif) <;> (try simp -implicitDefEqProofs (disch := omega) only [go_sem, hb]) <;> clear hb
     | simp (maxSteps := 1000000) -implicitDefEqProofs (disch := omega) only [go_sem])
   all_goals first | exact absurd trivial ‹¬True› | exact absurd ‹false = true› (by decide) | exact absurd ‹true = false› (by decide) | (exfalso; omega) | omega | skip
   refine loop_rows (α := Nat) [6, 9, 21, 22, 23, 24, 25, 26, 27, 28, 29, 30, 31, 32, 33, 34, 35, 36, 37] (fun i => [(9, .lit (.int .i64 i)), (8, .sl 2 (ls.map encGd) e1)]) (fun i => [(0, some ⟨2, [[.sl 2 (ls.map encGd) e1, .sl 2 (rs.map encGd) e2]], 38, .wr⟩), (64, some ⟨4, [[int g.sc, int g.ga, int g.we, int g.cu]], 26, .wr⟩)]) (fun i => i ≤ ls.length ∧ i ≤ 13 ∧ ∀ j, j < i → ¬ 8 < (ls.getD j default).2.length) (fun i => ls.length - i) 0 (fun x => by simp (maxSteps := 1000000) -implicitDefEqProofs (disch := omega) only [go_sem]; rfl) ?_ ?_ fun x hx => ?_
   · exact weak_do3 []
   · exact ⟨Nat.zero_le _, by omega, fun k hk => absurd hk (Nat.not_lt_zero _)⟩
   obtain ⟨hx1, hx2, hx3⟩ := hx
   by_cases hlt : x < ls.length ∧ x < 13
   · obtain ⟨hlt1, hlt2⟩ := hlt
     have hcl := hlc _ (getD_mem hlt1)
     repeat' (first
       | (with_reducible apply Req_intro); focus (first | omega | assumption | (simp; done))
       | with_reducible (first | apply Req_intro | refine nilT ?_ fun hn => ?_ | apply wk_draw Tryd_mixed | refine drawEnd (by kernel_rfl) ?_)
       | (with_reducible (first | apply condA_if | apply stepDG_ifN | apply stepDG_if | apply stepG_ifN | apply stepG_if)) <;> intro hb <;> (have hif := hb) <;> (try simp only [bo] at hif) <;> (try simp -implicitDefEqProofs (disch := omega) only [go_sem, hb]) <;> clear hb
       | simp (maxSteps := 1000000) -implicitDefEqProofs (disch := omega) only [go_sem])
     all_goals first | exact absurd trivial ‹¬True› | exact absurd ‹false = true› (by decide) | exact absurd ‹true = false› (by decide) | (exfalso; omega) | omega | skip
     · refine ret_do ?_
       rw [hb0 (by
         rw [Bool.or_eq_true, List.any_eq_true]; left
         refine ⟨ls.getD x default, ?_, by simp only [decide_eq_true_eq]; omega⟩
         rw [getD_default hlt1]
         exact List.mem_take_iff_getElem.2 ⟨x, by omega, rfl⟩)]; rfl
     · refine nxt_w (x + 1) (weak_do []) ?_
       try dsimp only
       refine ⟨by omega, by omega, fun j hj => ?_⟩
       rcases Nat.lt_succ_iff_lt_or_eq.1 hj with h | rfl
       · exact hx3 j h
       · omega
   · have hend : ls.length ≤ x ∨ x = 13 := by omega
     repeat' (first
       | (with_reducible apply Req_intro); focus (first | omega | assumption | (simp; done))
       | with_reducible (first | apply Req_intro | refine nilT ?_ fun hn => ?_ | apply wk_draw Tryd_mixed | refine drawEnd (by kernel_rfl) ?_)
       | (with_reducible (first | apply condA_if | apply stepDG_ifN | apply stepDG_if | apply stepG_ifN | apply stepG_if)) <;> intro hb <;> (have hif := hb) <;> (try simp only [bo] at hif) <;> (try simp -implicitDefEqProofs (disch := omega) only [go_sem, hb]) <;> clear hb
       | simp (maxSteps := 1000000) -implicitDefEqProofs (disch := omega) only [go_sem])
     all_goals first | (exfalso; omega) | skip
     all_goals (first
       | (refine ret_do ?_
          rw [hb0 (by rw [Bool.or_eq_true]; right; simp only [decide_eq_true_eq]; omega)]; rfl)
       | (refine nxt_w (0 + 1) (weak_do []) ?_
          try dsimp only
          refine ⟨by omega, fun k hk => ?_⟩
          rcases Nat.lt_succ_iff_lt_or_eq.1 hk with h | rfl
          · omega
          · rw [hsd, Bool.or_eq_false_iff, List.any_eq_false]
            refine ⟨fun y hy => ?_, by simp only [decide_eq_false_iff_not]; omega⟩
            obtain ⟨j, hj, rfl⟩ := List.mem_take_iff_getElem.1 hy
            have := hx3 j (by omega)
            rw [getD_default (by omega)] at this
            simp only [decide_eq_true_eq]; exact this))
 · have hsd : sideR ls rs 1 = rs := rfl
   have hb0 := hbad 1 (by decide)
   rw [hsd] at hb0
   repeat' (first
     | (with_reducible apply Req_intro); focus (first | omega | assumption | (simp; done))
     | with_reducible (first | apply Req_intro | refine nilT ?_ fun hn => ?_ | apply wk_draw Tryd_mixed | refine drawEnd (by kernel_rfl) ?_)
     | (with_reducible (first | apply condA_if | apply stepDG_ifN | apply stepDG_if | apply stepG_ifN | apply stepG_if)) <;> intro hb <;> (have hif := hb) <;> (try simp only [bo] at hif) <;> (try simp -implicitDefEqProofs (disch := omega) only [go_sem, hb]) <;> clear hb
     | simp (maxSteps := 1000000) -implicitDefEqProofs (disch := omega) only [go_sem])
   all_goals first | exact absurd trivial ‹¬True› | exact absurd ‹false = true› (by decide) | exact absurd ‹true = false› (by decide) | (exfalso; omega) | omega | skip
   refine loop_rows (α := Nat) [6, 9, 21, 22, 23, 24, 25, 26, 27, 28, 29, 30, 31, 32, 33, 34, 35, 36, 37] (fun i => [(9, .lit (.int .i64 i)), (8, .sl 2 (rs.map encGd) e2)]) (fun i => [(0, some ⟨2, [[.sl 2 (ls.map encGd) e1, .sl 2 (rs.map encGd) e2]], 38, .wr⟩), (64, some ⟨4, [[int g.sc, int g.ga, int g.we, int g.cu]], 26, .wr⟩)]) (fun i => i ≤ rs.length ∧ i ≤ 13 ∧ ∀ j, j < i → ¬ 8 < (rs.getD j default).2.length) (fun i => rs.length - i) 0 (fun x => by simp (maxSteps := 1000000) -implicitDefEqProofs (disch := omega) only [go_sem]; rfl) ?_ ?_ fun x hx => ?_
   · exact weak_do3 []
   · exact ⟨Nat.zero_le _, by omega, fun k hk => absurd hk (Nat.not_lt_zero _)⟩
   obtain ⟨hx1, hx2, hx3⟩ := hx
   by_cases hlt : x < rs.length ∧ x < 13
   · obtain ⟨hlt1, hlt2⟩ := hlt
     have hcl := hrc _ (getD_mem hlt1)
     repeat' (first
       | (with_reducible apply Req_intro); focus (first | omega | assumption | (simp; done))
       | with_reducible (first | apply Req_intro | refine nilT ?_ fun hn => ?_ | apply wk_draw Tryd_mixed | refine drawEnd (by kernel_rfl) ?_)
       | (with_reducible (first | apply condA_if | apply stepDG_ifN | apply stepDG_if | apply stepG_ifN | apply stepG_if)) <;> intro hb <;> (have hif := hb) <;> (try simp only [bo] at hif) <;> (try simp -implicitDefEqProofs (disch := omega) only [go_sem, hb]) <;> clear hb
       | simp (maxSteps := 1000000) -implicitDefEqProofs (disch := omega) only [go_sem])
     all_goals first | exact absurd trivial ‹¬True› | exact absurd ‹false = true› (by decide) | exact absurd ‹true = false› (by decide) | (exfalso; omega) | omega | skip
     · refine ret_do ?_
       rw [hb0 (by
         rw [Bool.or_eq_true, List.any_eq_true]; left
         refine ⟨rs.getD x default, ?_, by simp only [decide_eq_true_eq]; omega⟩
         rw [getD_default hlt1]
         exact List.mem_take_iff_getElem.2 ⟨x, by omega, rfl⟩)]; rfl
     · refine nxt_w (x + 1) (weak_do []) ?_
       try dsimp only
       refine ⟨by omega, by omega, fun j hj => ?_⟩
       rcases Nat.lt_succ_iff_lt_or_eq.1 hj with h | rfl
       · exact hx3 j h
       · omega
   · have hend : rs.length ≤ x ∨ x = 13 := by omega
     repeat' (first
       | (with_reducible apply Req_intro); focus (first | omega | assumption | (simp; done))
       | with_reducible (first | apply Req_intro | refine nilT ?_ fun hn => ?_ | apply wk_draw Tryd_mixed | refine drawEnd (by kernel_rfl) ?_)
       | (with_reducible (first | apply condA_if | apply stepDG_ifN | apply stepDG_if | apply stepG_ifN | apply stepG_if)) <;> intro hb <;> (have hif := hb) <;> (try simp only [bo] at hif) <;> (try simp -implicitDefEqProofs (disch := omega) only [go_sem, hb]) <;> clear hb
       | simp (maxSteps := 1000000) -implicitDefEqProofs (disch := omega) only [go_sem])
     all_goals first | (exfalso; omega) | skip
     all_goals (first
       | (refine ret_do ?_
          rw [hb0 (by rw [Bool.or_eq_true]; right; simp only [decide_eq_true_eq]; omega)]; rfl)
       | (refine nxt_w (1 + 1) (weak_do []) ?_
          try dsimp only
          refine ⟨by omega, fun k hk => ?_⟩
          rcases Nat.lt_succ_iff_lt_or_eq.1 hk with h | rfl
          · exact hxp k h
          · rw [hsd, Bool.or_eq_false_iff, List.any_eq_false]
            refine ⟨fun y hy => ?_, by simp only [decide_eq_false_iff_not]; omega⟩
            obtain ⟨j, hj, rfl⟩ := List.mem_take_iff_getElem.1 hy
            have := hx3 j (by omega)
            rw [getD_default (by omega)] at this
            simp only [decide_eq_true_eq]; exact this))
 · have hl0 := hxp 0 (by decide)
   have hr0 := hxp 1 (by decide)
   simp only [sideR, if_true, Nat.one_ne_zero, if_false, Bool.or_eq_false_iff, List.any_eq_false, decide_eq_false_iff_not, decide_eq_true_eq] at hl0 hr0
   have hst : StOk ls rs := ⟨by omega, by omega, fun x hx => by
     have := hl0.1 x (by rw [List.take_of_length_le (by omega)]; exact hx)
     omega, fun x hx => by
     have := hr0.1 x (by rw [List.take_of_length_le (by omega)]; exact hx)
     omega⟩
   have hck := rCheck_spec g ls rs e1 e2 hst
   have hlg : largeG g ls rs most = (decide (most < max (ls.length : Int) rs.length) && (checkS g ls rs == 0)) := by
     unfold largeG
     rw [show (List.range 2).any (fun k => ((sideR ls rs k).take 13).any (fun x => decide (8 < x.2.length)) || decide (12 < (sideR ls rs k).length)) = false from ?_, Bool.false_or]
     rw [List.any_eq_false]
     intro k hk
     rw [hxp k (List.mem_range.1 hk)]; decide
   repeat' (first
     | (with_reducible apply Req_intro); focus (first | omega | assumption | (simp; done))
     | with_reducible (first | apply Req_intro | refine nilT ?_ fun hn => ?_ | apply wk_draw Tryd_mixed | refine drawEnd (by kernel_rfl) ?_)
     | (with_reducible (first | apply condA_if | apply stepDG_ifN | apply stepDG_if | apply stepG_ifN | apply stepG_if)) <;> intro hb <;> (have hif := hb) <;> (try simp only [bo] at hif) <;> (try simp -implicitDefEqProofs (disch := omega) only [go_sem, hb]) <;> clear hb
     | simp (maxSteps := 1000000) -implicitDefEqProofs (disch := omega) only [go_sem])
   all_goals first | exact absurd trivial ‹¬True› | exact absurd ‹false = true› (by decide) | exact absurd ‹true = false› (by decide) | (exfalso; omega) | omega | skip
   · refine callp hck ?_
     try simp (maxSteps := 1000000) -implicitDefEqProofs (disch := omega) only [go_sem]
     repeat' (first
       | (with_reducible apply Req_intro); focus (first | omega | assumption | (simp; done))
       | with_reducible (first | apply Req_intro | refine nilT ?_ fun hn => ?_ | apply wk_draw Tryd_mixed | refine drawEnd (by kernel_rfl) ?_)
       | (with_reducible (first | apply condA_if | apply stepDG_ifN | apply stepDG_if | apply stepG_ifN | apply stepG_if)) <;> intro hb <;> (have hif := hb) <;> (try simp only [bo] at hif) <;> (try simp -implicitDefEqProofs (disch := omega) only [go_sem, hb]) <;> clear hb
       | simp (maxSteps := 1000000) -implicitDefEqProofs (disch := omega) only [go_sem])
     all_goals first | exact absurd trivial ‹¬True› | exact absurd ‹false = true› (by decide) | exact absurd ‹true = false› (by decide) | (exfalso; omega) | omega | skip
     refine ret_do ?_
     rw [hlg, decide_eq_true hif, Bool.true_and]; rfl
   · refine ret_do ?_
     rw [hlg, decide_eq_false (by omega)]; rfl
end Go.Aw
end
section
namespace Go.Aw
open Go.RowKit Go.Proofs
@[go_sem ↓] theorem actBin_eqB (a b : Bool) : actBin Tryd.prog .eql 4 (.lit (.bool a)) (.lit (.bool b)) = some (.val (.lit (.bool (a == b)))) := by
 show (if litT Tryd.prog 4 (.bool a) then _ else none) = _
 rw [show litT Tryd.prog 4 (.bool a) = true by kernel_rfl]
 rfl
@[go_sem ↓] theorem actBin_neB (a b : Bool) : actBin Tryd.prog .neq 4 (.lit (.bool a)) (.lit (.bool b)) = some (.val (.lit (.bool (a != b)))) := by
 show (if litT Tryd.prog 4 (.bool a) then _ else none) = _
 rw [show litT Tryd.prog 4 (.bool a) = true by kernel_rfl]
 rfl
@[go_sem] theorem eqB_ff : (false == false) = true := rfl
@[go_sem] theorem eqB_tt : (true == true) = true := rfl
@[go_sem] theorem eqB_ft : (false == true) = false := rfl
@[go_sem] theorem eqB_tf : (true == false) = false := rfl
@[go_sem] theorem neB_ff : (false != false) = false := rfl
@[go_sem] theorem neB_tt : (true != true) = false := rfl
@[go_sem] theorem neB_ft : (false != true) = true := rfl
@[go_sem] theorem neB_tf : (true != false) = true := rfl
theorem largeG_no {g : Gau} {ls rs : List Grd} {most : Int} (h : largeG g ls rs most = false) : StOk ls rs ∧ ls.length ≤ 12 ∧ rs.length ≤ 12 ∧ (checkS g ls rs = 0 → (ls.length : Int) ≤ most ∧ (rs.length : Int) ≤ most) := by
 unfold largeG at h
 rw [Bool.or_eq_false_iff] at h
 obtain ⟨h1, h2⟩ := h
 rw [List.any_eq_false] at h1
 have h3 := h1 0 (by simp)
 have h4 := h1 1 (by simp)
 simp only [sideR, if_true, Nat.one_ne_zero, if_false, Bool.or_eq_true, not_or, List.any_eq_true, decide_eq_true_eq, not_exists, not_and] at h3 h4
 refine ⟨⟨by omega, by omega, fun x hx => ?_, fun x hx => ?_⟩, by omega, by omega, fun hc => ?_⟩
 · have := h3.1 x (by rw [List.take_of_length_le (by omega)]; exact hx)
   omega
 · have := h4.1 x (by rw [List.take_of_length_le (by omega)]; exact hx)
   omega
 · rw [hc, Bool.and_eq_false_iff, decide_eq_false_iff_not] at h2
   rcases h2 with h2 | h2
   · omega
   · cases h2
end Go.Aw
end
section
namespace Go.Aw
open Go.RowKit Go.Proofs
def encBo (b : Bool) : List V := [.lit (.bool b)]
@[go_sem] theorem encBo_eq (b : Bool) : encBo b = [.lit (.bool b)] := rfl
def encBr (r : List Bool) : List V := [.sl 1 (r.map encBo) false]
@[go_sem] theorem encBr_eq (r : List Bool) : encBr r = [.sl 1 (r.map encBo) false] := rfl
@[go_sem] theorem take_map_Bo (l : List Bool) (n : Nat) (h : l.length = n) : (l.map encBo).take n = l.map encBo := List.take_of_length_le (by simp; omega)
@[go_sem] theorem take_map_Br (l : List (List Bool)) (n : Nat) (h : l.length = n) : (l.map encBr).take n = l.map encBr := List.take_of_length_le (by simp; omega)
def rowTo (g : Gau) (a : Grd) (rs : List Grd) (k : Int) (j : Nat) : List Bool := (rs.take j).map fun b => alikeR g a b k
theorem rowTo_zero (g : Gau) (a : Grd) (rs : List Grd) (k : Int) : rowTo g a rs k 0 = [] := by simp [rowTo]
theorem rowTo_len {g : Gau} {a : Grd} {rs : List Grd} {k : Int} {j : Nat} (h : j ≤ rs.length) : (rowTo g a rs k j).length = j := by simp [rowTo]; omega
theorem rowTo_succ {g : Gau} {a : Grd} {rs : List Grd} {k : Int} {j : Nat} (h : j < rs.length) : rowTo g a rs k (j + 1) = rowTo g a rs k j ++ [alikeR g a (rs.getD j default) k] := by
 rw [rowTo, rowTo, take_succ_getD h, List.map_append]; rfl
theorem rowTo_all (g : Gau) (a : Grd) (rs : List Grd) (k : Int) : rowTo g a rs k rs.length = rs.map fun b => alikeR g a b k := by rw [rowTo, List.take_length]
theorem tabB_take (g : Gau) (ls rs : List Grd) (k : Int) {i : Nat} (h : i < ls.length) : tabB g (ls.take (i + 1)) rs k = tabB g (ls.take i) rs k ++ [rowTo g (ls.getD i default) rs k rs.length] := by
 rw [tabB, take_succ_getD h, List.map_append, rowTo_all]; rfl
theorem rTable_sure (g : Gau) (ls rs : List Grd) (e1 e2 : Bool) (n : Nat) (hn : n ≤ 4) (hg : GauOk g) (hl : ∀ x ∈ ls, GrdOk n x) (hr : ∀ x ∈ rs, GrdOk n x) (hl8 : ls.length ≤ 12) (hr9 : rs.length ≤ 12) :
   Ct Tryd.prog 32 [encSt ls rs e1 e2, encGa g, .lit (.bool true)] (.sl 1 ((tabB g ls rs 2).map encBr) false) := by
 refine fn_enter Tryd.func32 rfl (by decide) Tryd.results32 Tryd.ntmps32 ?_ rfl (by simp (maxSteps := 1000000) -implicitDefEqProofs (disch := omega) only [go_sem]; rfl) fun base => ?_
 · first | assumption | (simp only [go_sem] <;> assumption) | (simp only [go_sem, *]; done) | (simp [go_sem]; done)
 repeat' (first
   | (with_reducible apply Req_intro); focus (first | omega | assumption | (simp; done))
   | with_reducible (first | apply Req_intro | refine nilT ?_ fun hn => ?_ | apply wk_draw Tryd_mixed | refine drawEnd (by kernel_rfl) ?_)
   | (with_reducible (first | apply condA_if | apply stepDG_ifN | apply stepDG_if | apply stepG_ifN | apply stepG_if)) <;> intro hb <;> (have hif := hb) <;> (try simp only [bo] at hif) <;> (try simp -implicitDefEqProofs (disch := omega) only [go_sem, hb]) <;> clear hb
   | simp (maxSteps := 1000000) -implicitDefEqProofs (disch := omega) only [go_sem])
 refine loop_rows (α := Nat) (9 :: [7, 8, 9, 10, 12, 13, 14, 15, 16, 17, 18, 19, 20, 21, 22, 23, 24, 25, 26, 27, 28, 29, 30, 31, 32, 33, 34, 35, 36, 37, 38, 39, 40, 41, 42, 43, 44, 45, 46, 47, 48, 49, 50, 51, 52, 53, 54, 55, 56, 57, 58, 59, 60, 61, 62, 63, 64, 65, 66]) (fun i => [(8, .lit (.int .i64 i)), (7, .os 65 1 i false), (11, .undef), (12, .undef)]) (fun i => [(0, some ⟨2, [[.sl 2 (ls.map encGd) e1, .sl 2 (rs.map encGd) e2]], 38, .wr⟩), (64, some ⟨4, [[int g.sc, int g.ga, int g.we, int g.cu]], 26, .wr⟩), (65, some ⟨1, (tabB g (ls.take i) rs 2).map encBr, 111, .wr⟩)]) (fun i => i ≤ ls.length) (fun i => ls.length - i) 0 (fun x => by simp (maxSteps := 1000000) -implicitDefEqProofs (disch := omega) only [go_sem]; rfl) ?_ ?_ fun x hx => ?_
 · simp only [List.take_zero, tabB, List.map_nil]
   exact weak_do3 [(65, 192)]
 · exact Nat.zero_le _
 have htl : (tabB g (ls.take x) rs 2).length = x := by rw [tabB_len, List.length_take]; omega
 by_cases hlt : x < ls.length
 · have hgx := hl _ (getD_mem hlt)
   have htk := tabB_take g ls rs 2 hlt
   generalize tabB g (ls.take x) rs 2 = tb at *
   rename Nat => ox
   repeat' (first
     | (with_reducible apply Req_intro); focus (first | omega | assumption | (simp; done))
     | with_reducible (first | apply Req_intro | refine nilT ?_ fun hn => ?_ | apply wk_draw Tryd_mixed | refine drawEnd (by kernel_rfl) ?_)
     | (with_reducible (first | apply condA_if | apply stepDG_ifN | apply stepDG_if | apply stepG_ifN | apply stepG_if)) <;> intro hb <;> (have hif := hb) <;> (try simp only [bo] at hif) <;> (try simp -implicitDefEqProofs (disch := omega) only [go_sem, hb]) <;> clear hb
     | simp (maxSteps := 1000000) -implicitDefEqProofs (disch := omega) only [go_sem])
   all_goals first | exact absurd trivial ‹¬True› | exact absurd ‹false = true› (by decide) | exact absurd ‹true = false› (by decide) | (exfalso; omega) | omega | skip
   refine loop_rows (α := Nat) ([9, 10, 20, 21, 22, 23, 24, 25, 26, 27, 28, 29, 30, 31, 32, 33, 34, 35, 36, 37, 38, 39, 40, 41, 42, 43, 44, 45, 46, 47, 48, 49, 50, 51, 52, 53, 54, 55, 56, 57, 58, 59, 60, 61, 62]) (fun i => [(10, .lit (.int .i64 i)), (9, .os 66 1 i false), (19, .undef)]) (fun i => [(0, some ⟨2, [[.sl 2 (ls.map encGd) e1, .sl 2 (rs.map encGd) e2]], 38, .wr⟩), (64, some ⟨4, [[int g.sc, int g.ga, int g.we, int g.cu]], 26, .wr⟩), (65, some ⟨1, tb.map encBr, 111, .wr⟩), (66, some ⟨1, (rowTo g (ls.getD ox default) rs 2 i).map encBo, 4, .wr⟩)]) (fun i => i ≤ rs.length) (fun i => rs.length - i) 0 (fun x => by simp (maxSteps := 1000000) -implicitDefEqProofs (disch := omega) only [go_sem]; rfl) ?_ ?_ fun x hx => ?_
   · rw [rowTo_zero]
     simp only [List.map_nil]
     exact weak_do3 [(66, 704)]
   · exact Nat.zero_le _
   have hrl := rowTo_len (g := g) (a := ls.getD ox default) (k := 2) hx
   by_cases hlt2 : x < rs.length
   · have hgy := hr _ (getD_mem hlt2)
     have hsu := rowTo_succ (g := g) (a := ls.getD ox default) (k := 2) hlt2
     generalize rowTo g (ls.getD ox default) rs 2 x = rw' at *
     repeat' (first
       | (with_reducible apply Req_intro); focus (first | omega | assumption | (simp; done))
       | with_reducible (first | apply Req_intro | refine nilT ?_ fun hn => ?_ | apply wk_draw Tryd_mixed | refine drawEnd (by kernel_rfl) ?_)
       | (with_reducible (first | apply condA_if | apply stepDG_ifN | apply stepDG_if | apply stepG_ifN | apply stepG_if)) <;> intro hb <;> (have hif := hb) <;> (try simp only [bo] at hif) <;> (try simp -implicitDefEqProofs (disch := omega) only [go_sem, hb]) <;> clear hb
       | simp (maxSteps := 1000000) -implicitDefEqProofs (disch := omega) only [go_sem])
     all_goals first | exact absurd trivial ‹¬True› | exact absurd ‹false = true› (by decide) | exact absurd ‹true = false› (by decide) | (exfalso; omega) | omega | skip
     refine calld (rSurely_spec g (ls.getD ox default) (rs.getD x default) n hn hg hgx hgy) ?_
     try simp (maxSteps := 1000000) -implicitDefEqProofs (disch := omega) only [go_sem]
     generalize alikeR g (ls.getD ox default) (rs.getD x default) 2 = ab at *
     cases ab with
     | true =>
       try simp (maxSteps := 1000000) -implicitDefEqProofs (disch := omega) only [go_sem]
       repeat' (first
         | (with_reducible apply Req_intro); focus (first | omega | assumption | (simp; done))
         | with_reducible (first | apply Req_intro | refine nilT ?_ fun hn => ?_ | apply wk_draw Tryd_mixed | refine drawEnd (by kernel_rfl) ?_)
         | (with_reducible (first | apply condA_if | apply stepDG_ifN | apply stepDG_if | apply stepG_ifN | apply stepG_if)) <;> intro hb <;> (have hif := hb) <;> (try simp only [bo] at hif) <;> (try simp -implicitDefEqProofs (disch := omega) only [go_sem, hb]) <;> clear hb
         | simp (maxSteps := 1000000) -implicitDefEqProofs (disch := omega) only [go_sem])
       all_goals first | exact absurd trivial ‹¬True› | exact absurd ‹false = true› (by decide) | exact absurd ‹true = false› (by decide) | (exfalso; omega) | omega | skip
       with_reducible refine nxt_w (x + 1) ?_ ?_
       · (try dsimp only)
         rw [hsu, List.map_append, List.map_cons, List.map_nil]
         exact weak_do3 [(66, 3456)]
       try dsimp only
       omega
     | false =>
       try simp (maxSteps := 1000000) -implicitDefEqProofs (disch := omega) only [go_sem]
       repeat' (first
         | (with_reducible apply Req_intro); focus (first | omega | assumption | (simp; done))
         | with_reducible (first | apply Req_intro | refine nilT ?_ fun hn => ?_ | apply wk_draw Tryd_mixed | refine drawEnd (by kernel_rfl) ?_)
         | (with_reducible (first | apply condA_if | apply stepDG_ifN | apply stepDG_if | apply stepG_ifN | apply stepG_if)) <;> intro hb <;> (have hif := hb) <;> (try simp only [bo] at hif) <;> (try simp -implicitDefEqProofs (disch := omega) only [go_sem, hb]) <;> clear hb
         | simp (maxSteps := 1000000) -implicitDefEqProofs (disch := omega) only [go_sem])
       all_goals first | exact absurd trivial ‹¬True› | exact absurd ‹false = true› (by decide) | exact absurd ‹true = false› (by decide) | (exfalso; omega) | omega | skip
       with_reducible refine nxt_w (x + 1) ?_ ?_
       · (try dsimp only)
         rw [hsu, List.map_append, List.map_cons, List.map_nil]
         exact weak_do3 [(66, 3456)]
       try dsimp only
       omega
   · obtain rfl : x = rs.length := by omega
     generalize rowTo g (ls.getD ox default) rs 2 rs.length = row at *
     repeat' (first
       | (with_reducible apply Req_intro); focus (first | omega | assumption | (simp; done))
       | with_reducible (first | apply Req_intro | refine nilT ?_ fun hn => ?_ | apply wk_draw Tryd_mixed | refine drawEnd (by kernel_rfl) ?_)
       | (with_reducible (first | apply condA_if | apply stepDG_ifN | apply stepDG_if | apply stepG_ifN | apply stepG_if)) <;> intro hb <;> (have hif := hb) <;> (try simp only [bo] at hif) <;> (try simp -implicitDefEqProofs (disch := omega) only [go_sem, hb]) <;> clear hb
       | simp (maxSteps := 1000000) -implicitDefEqProofs (disch := omega) only [go_sem])
     all_goals first | exact absurd trivial ‹¬True› | exact absurd ‹false = true› (by decide) | exact absurd ‹true = false› (by decide) | (exfalso; omega) | omega | skip
     refine nxt_snapRow [66] 1408 (es' := tb.map encBr ++ [encBr row]) (by first | (simp only [go_sem]; done) | (simp only [go_sem]; rfl)) (by rfl) ?_ (by first | assumption | (simp only [go_sem] <;> assumption) | (simp only [go_sem, *]; done) | (simp [go_sem]; done)) (by first | (simp only [go_sem]; done) | (simp only [go_sem]; rfl)) ?_
     · refine PurE.snocR (by first | assumption | (simp only [go_sem] <;> assumption) | (simp only [go_sem, *]; done) | (simp [go_sem]; done)) ?_
       rw [show encBr row = [.sl 1 (row.map encBo) false] from rfl]
       (try simp (maxSteps := 1000000) -implicitDefEqProofs (disch := omega) only [go_sem])
       repeat' (first
         | with_reducible (first | exact PurI.nil | exact Pur.nilsl _ _ | exact PurE.nil)
         | (with_reducible (first | refine PurI.puL ?_ | refine PurE.puE ?_)) <;> (first | assumption | (simp only [go_sem] <;> assumption) | (simp only [go_sem, *]; done) | (simp [go_sem]; done))
         | with_reducible apply PurI.cons
         | (with_reducible refine Pur.pu _ ?_) <;> (first | assumption | (simp only [go_sem] <;> assumption) | (simp only [go_sem, *]; done) | (simp [go_sem]; done))
         | ((with_reducible apply Pur.refR) <;> (first | rfl | decide | (simp only [go_sem]; omega) | (simp only [go_sem]) | skip))
         | ((with_reducible apply Pur.osR) <;> (first | rfl | exact fun h => h | omega | (simp; omega) | (simp; done) | (simp only [go_sem]) | skip))
         | with_reducible (first | apply Pur.fnI | apply Pur.aggI | apply PurE.cons)
         | (with_reducible refine PurI.eqL ?_ ?_); (focus rfl); (focus (first | assumption | (simp only [go_sem] <;> assumption) | (simp only [go_sem, *]; done) | (simp [go_sem]; done)))
         | simp (maxSteps := 1000000) -implicitDefEqProofs (disch := omega) only [go_sem])
     with_reducible refine nxt_w (ox + 1) ?_ ?_
     · (try dsimp only)
       rw [htk, List.map_append, List.map_cons, List.map_nil]
       exact weak_do3 [(65, 1408)]
     try dsimp only
     omega
 · obtain rfl : x = ls.length := by omega
   rw [List.take_length]
   generalize hT : tabB g ls rs 2 = T at *
   have hTl : T.length = ls.length := by rw [← hT]; exact tabB_len ..
   repeat' (first
     | (with_reducible apply Req_intro); focus (first | omega | assumption | (simp; done))
     | with_reducible (first | apply Req_intro | refine nilT ?_ fun hn => ?_ | apply wk_draw Tryd_mixed | refine drawEnd (by kernel_rfl) ?_)
     | (with_reducible (first | apply condA_if | apply stepDG_ifN | apply stepDG_if | apply stepG_ifN | apply stepG_if)) <;> intro hb <;> (have hif := hb) <;> (try simp only [bo] at hif) <;> (try simp -implicitDefEqProofs (disch := omega) only [go_sem, hb]) <;> clear hb
     | simp (maxSteps := 1000000) -implicitDefEqProofs (disch := omega) only [go_sem])
   all_goals first | exact absurd trivial ‹¬True› | exact absurd ‹false = true› (by decide) | exact absurd ‹true = false› (by decide) | (exfalso; omega) | omega | skip
   rw [← hTl]
   exact retf [65] [6] [.sl 1 (T.map encBr) false]
end Go.Aw
end
section
namespace Go.Aw
open Go.RowKit Go.Proofs
theorem bit9_all : ∀ s : Nat, s < 512 → ∀ i : Nat, i < 9 → ibits .and .i64 ((s : Int).fdiv (2 ^ min i 64)) 1 = if s.testBit i then 1 else 0 := by decide +kernel
theorem or9_all : ∀ s : Nat, s < 512 → ∀ i : Nat, i < 9 → s.testBit i = false → s + 2 ^ i = s ||| 2 ^ i := by decide +kernel
theorem or_lt512 {s i : Nat} (h : s < 512) (hi : i < 9) : s ||| 2 ^ i < 512 := or_lt9 h (pow_lt9 hi)
def bestM (row : List Bool) (rest : List (List Bool)) (taken k : Nat) : Nat := (List.range k).foldl (fun b j => if row.getD j false && !taken.testBit j then max b (1 + refM rest (taken ||| 2 ^ j)) else b) (refM rest taken)
theorem bestM_zero (row : List Bool) (rest : List (List Bool)) (taken : Nat) : bestM row rest taken 0 = refM rest taken := rfl
theorem bestM_succ (row : List Bool) (rest : List (List Bool)) (taken k : Nat) : bestM row rest taken (k + 1) = if row.getD k default && !taken.testBit k then max (bestM row rest taken k) (1 + refM rest (taken ||| 2 ^ k)) else bestM row rest taken k := by
 rw [bestM, List.range_succ, List.foldl_append]; rfl
theorem bestM_all (row : List Bool) (rest : List (List Bool)) (taken : Nat) : bestM row rest taken row.length = refM (row :: rest) taken := rfl
theorem refM_len : ∀ (t : List (List Bool)) (x : Nat), refM t x ≤ t.length
 | [], _ => Nat.le_refl _
 | row :: rest, x => by
   have h : ∀ k, bestM row rest x k ≤ rest.length + 1 := by
     intro k
     induction k with
     | zero => have := refM_len rest x; rw [bestM_zero]; omega
     | succ k ih =>
       have := refM_len rest (x ||| 2 ^ k)
       rw [bestM_succ]; split <;> omega
   rw [← bestM_all]; exact h _
theorem bestM_len (row : List Bool) (rest : List (List Bool)) (taken : Nat) : ∀ k, bestM row rest taken k ≤ rest.length + 1
 | 0 => by have := refM_len rest taken; rw [bestM_zero]; omega
 | k + 1 => by
   have := bestM_len row rest taken k
   have := refM_len rest (taken ||| 2 ^ k)
   rw [bestM_succ]; split <;> omega
theorem rMost_spec (t : List (List Bool)) (e : Bool) (hrow : ∀ row ∈ t, row.length ≤ 9) (hl : t.length ≤ 9) : ∀ m i taken : Nat, i + m = t.length → taken < 512 → Ct Tryd.prog 33 [.sl 1 (t.map encBr) e, int i, int taken] (int (refM (t.drop i) taken)) := by
 intro m
 induction m with
 | zero =>
   intro i taken h h9
   obtain rfl : i = t.length := by omega
   rw [List.drop_length]
   refine fn_enter Tryd.func33 rfl (by decide) Tryd.results33 Tryd.ntmps33 ?_ rfl (by simp (maxSteps := 1000000) -implicitDefEqProofs (disch := omega) only [go_sem]; rfl) fun base => ?_
   · first | assumption | (simp only [go_sem] <;> assumption) | (simp only [go_sem, *]; done) | (simp [go_sem]; done)
   repeat' (first
     | (with_reducible apply Req_intro); focus (first | omega | assumption | (simp; done))
     | with_reducible (first | apply Req_intro | refine nilT ?_ fun hn => ?_ | apply wk_draw Tryd_mixed | refine drawEnd (by kernel_rfl) ?_)
     | (with_reducible (first | apply condA_if | apply stepDG_ifN | apply stepDG_if | apply stepG_ifN | apply stepG_if)) <;> intro hb <;> (have hif := hb) <;> (try simp only [bo] at hif) <;> (try simp -implicitDefEqProofs (disch := omega) only [go_sem, hb]) <;> clear hb
     | simp (maxSteps := 1000000) -implicitDefEqProofs (disch := omega) only [go_sem])
   all_goals first | exact absurd trivial ‹¬True› | exact absurd ‹false = true› (by decide) | exact absurd ‹true = false› (by decide) | (exfalso; omega) | omega | skip
   refine ret_do ?_
   rfl
 | succ m ih =>
   intro i taken h h9
   have hi : i < t.length := by omega
   have hd : t.drop i = t.getD i default :: t.drop (i + 1) := by rw [List.drop_eq_getElem_cons hi, getD_default hi]
   have hr9 := hrow _ (getD_mem hi)
   have hrl : (t.drop (i + 1)).length = m := by rw [List.length_drop]; omega
   have hlen := fun x => refM_len (t.drop (i + 1)) x
   have hbl := bestM_len (t.getD i default) (t.drop (i + 1)) taken
   have h0 := bestM_zero (t.getD i default) (t.drop (i + 1)) taken
   have hsu := bestM_succ (t.getD i default) (t.drop (i + 1)) taken
   rw [hd, ← bestM_all]
   have ih1 := fun x => ih (i + 1) x (by omega)
   generalize refM (t.drop (i + 1)) = RM at *
   generalize bestM (t.getD i default) (t.drop (i + 1)) taken = BM at *
   rw [hrl] at hlen hbl
   refine fn_enter Tryd.func33 rfl (by decide) Tryd.results33 Tryd.ntmps33 ?_ rfl (by simp (maxSteps := 1000000) -implicitDefEqProofs (disch := omega) only [go_sem]; rfl) fun base => ?_
   · first | assumption | (simp only [go_sem] <;> assumption) | (simp only [go_sem, *]; done) | (simp [go_sem]; done)
   repeat' (first
     | (with_reducible apply Req_intro); focus (first | omega | assumption | (simp; done))
     | with_reducible (first | apply Req_intro | refine nilT ?_ fun hn => ?_ | apply wk_draw Tryd_mixed | refine drawEnd (by kernel_rfl) ?_)
     | (with_reducible (first | apply condA_if | apply stepDG_ifN | apply stepDG_if | apply stepG_ifN | apply stepG_if)) <;> intro hb <;> (have hif := hb) <;> (try simp only [bo] at hif) <;> (try simp -implicitDefEqProofs (disch := omega) only [go_sem, hb]) <;> clear hb
     | simp (maxSteps := 1000000) -implicitDefEqProofs (disch := omega) only [go_sem])
   all_goals first | exact absurd trivial ‹¬True› | exact absurd ‹false = true› (by decide) | exact absurd ‹true = false› (by decide) | (exfalso; omega) | omega | skip
   refine callp (ih1 taken h9) ?_
   try simp (maxSteps := 1000000) -implicitDefEqProofs (disch := omega) only [go_sem]
   repeat' (first
     | (with_reducible apply Req_intro); focus (first | omega | assumption | (simp; done))
     | with_reducible (first | apply Req_intro | refine nilT ?_ fun hn => ?_ | apply wk_draw Tryd_mixed | refine drawEnd (by kernel_rfl) ?_)
     | (with_reducible (first | apply condA_if | apply stepDG_ifN | apply stepDG_if | apply stepG_ifN | apply stepG_if)) <;> intro hb <;> (have hif := hb) <;> (try simp only [bo] at hif) <;> (try simp -implicitDefEqProofs (disch := omega) only [go_sem, hb]) <;> clear hb
     | simp (maxSteps := 1000000) -implicitDefEqProofs (disch := omega) only [go_sem])
   all_goals first | exact absurd trivial ‹¬True› | exact absurd ‹false = true› (by decide) | exact absurd ‹true = false› (by decide) | (exfalso; omega) | omega | skip
   refine loop_at (α := Nat) [7, 8, 18, 19, 20, 21, 22, 23, 24, 25, 26, 27, 28, 29, 30, 31, 32, 33, 34, 35, 36, 37, 38, 39, 40, 41, 42, 43, 44, 45, 46, 47, 48, 49, 50, 51, 52, 53] (fun k => [(8, .lit (.int .i64 k)), (7, int (BM k))]) (fun k => k ≤ (t.getD i default).length) (fun k => (t.getD i default).length - k) 0 (fun x => by simp (maxSteps := 1000000) -implicitDefEqProofs (disch := omega) only [go_sem]; rfl) ?_ ?_ fun x hx => ?_
   · rw [h0]
     exact weak_do []
   · exact Nat.zero_le _
   by_cases hlt : x < (t.getD i default).length
   · have hb9 := bit9_all taken h9 x (by omega)
     have ho9 := or9_all taken h9 x (by omega)
     have hl9 := or_lt512 h9 (show x < 9 by omega)
     have hp9 := pow_lt9 (r := x) (by omega)
     have f3 : (1 : Int) * 2 ^ min x 64 = ((2 ^ x : Nat) : Int) := by rw [Nat.min_eq_left (by omega), Int.one_mul, Int.natCast_pow]; rfl
     have ih2 := ih1 (taken ||| 2 ^ x) hl9
     have hsx := hsu x
     have hbx := hbl x
     have hlx := hlen (taken ||| 2 ^ x)
     generalize taken ||| 2 ^ x = tx at *
     generalize 2 ^ x = qx at *
     cases hrx : (t.getD i default).getD x default with
     | false =>
       rw [hrx, Bool.false_and] at hsx
       simp only [Bool.false_eq_true, if_false] at hsx
       repeat' (first
         | (with_reducible apply Req_intro); focus (first | omega | assumption | (simp; done))
         | with_reducible (first | apply Req_intro | refine nilT ?_ fun hn => ?_ | apply wk_draw Tryd_mixed | refine drawEnd (by kernel_rfl) ?_)
         | (with_reducible (first | apply condA_if | apply stepDG_ifN | apply stepDG_if | apply stepG_ifN | apply stepG_if)) <;> intro hb <;> (have hif := hb) <;> (try simp only [bo] at hif) <;> (try simp -implicitDefEqProofs (disch := omega) only [go_sem, hb, hrx]) <;> clear hb
         | simp (maxSteps := 1000000) -implicitDefEqProofs (disch := omega) only [go_sem, hrx])
       all_goals first | exact absurd trivial ‹¬True› | exact absurd ‹false = true› (by decide) | exact absurd ‹true = false› (by decide) | (exfalso; omega) | omega | skip
       with_reducible refine nxt_w (x + 1) ?_ ?_
       · (try dsimp only)
         rw [hsx]
         exact weak_do []
       try dsimp only
       omega
     | true =>
       cases htx : taken.testBit x with
       | true =>
         rw [hrx, htx] at hsx
         simp only [Bool.not_true, Bool.and_false, Bool.false_eq_true, if_false] at hsx
         rw [htx, if_pos rfl] at hb9
         repeat' (first
           | (with_reducible apply Req_intro); focus (first | omega | assumption | (simp; done))
           | with_reducible (first | apply Req_intro | refine nilT ?_ fun hn => ?_ | apply wk_draw Tryd_mixed | refine drawEnd (by kernel_rfl) ?_)
           | (with_reducible (first | apply condA_if | apply stepDG_ifN | apply stepDG_if | apply stepG_ifN | apply stepG_if)) <;> intro hb <;> (have hif := hb) <;> (try simp only [bo] at hif) <;> (try simp -implicitDefEqProofs (disch := omega) only [go_sem, hb, hrx, hb9]) <;> clear hb
           | simp (maxSteps := 1000000) -implicitDefEqProofs (disch := omega) only [go_sem, hrx, hb9])
         all_goals first | exact absurd trivial ‹¬True› | exact absurd ‹false = true› (by decide) | exact absurd ‹true = false› (by decide) | (exfalso; omega) | omega | skip
         with_reducible refine nxt_w (x + 1) ?_ ?_
         · (try dsimp only)
           rw [hsx]
           exact weak_do []
         try dsimp only
         omega
       | false =>
         rw [hrx, htx] at hsx
         simp only [Bool.not_false, Bool.and_true, if_true] at hsx
         rw [htx] at hb9
         simp only [Bool.false_eq_true, if_false] at hb9
         have ho := ho9 htx
         repeat' (first
           | (with_reducible apply Req_intro); focus (first | omega | assumption | (simp; done))
           | with_reducible (first | apply Req_intro | refine nilT ?_ fun hn => ?_ | apply wk_draw Tryd_mixed | refine drawEnd (by kernel_rfl) ?_)
           | (with_reducible (first | apply condA_if | apply stepDG_ifN | apply stepDG_if | apply stepG_ifN | apply stepG_if)) <;> intro hb <;> (have hif := hb) <;> (try simp only [bo] at hif) <;> (try simp -implicitDefEqProofs (disch := omega) only [go_sem, hb, hrx, hb9, f3]) <;> clear hb
           | simp (maxSteps := 1000000) -implicitDefEqProofs (disch := omega) only [go_sem, hrx, hb9, f3])
         all_goals first | exact absurd trivial ‹¬True› | exact absurd ‹false = true› (by decide) | exact absurd ‹true = false› (by decide) | (exfalso; omega) | omega | skip
         rw [show ((tx : Nat) : Int) = (taken : Int) + (qx : Int) from by omega] at ih2
         refine callp ih2 ?_
         try simp (maxSteps := 1000000) -implicitDefEqProofs (disch := omega) only [go_sem]
         repeat' (first
           | (with_reducible apply Req_intro); focus (first | omega | assumption | (simp; done))
           | with_reducible (first | apply Req_intro | refine nilT ?_ fun hn => ?_ | apply wk_draw Tryd_mixed | refine drawEnd (by kernel_rfl) ?_)
           | (with_reducible (first | apply condA_if | apply stepDG_ifN | apply stepDG_if | apply stepG_ifN | apply stepG_if)) <;> intro hb <;> (have hif := hb) <;> (try simp only [bo] at hif) <;> (try simp -implicitDefEqProofs (disch := omega) only [go_sem, hb]) <;> clear hb
           | simp (maxSteps := 1000000) -implicitDefEqProofs (disch := omega) only [go_sem])
         all_goals first | exact absurd trivial ‹¬True› | exact absurd ‹false = true› (by decide) | exact absurd ‹true = false› (by decide) | (exfalso; omega) | omega | skip
         with_reducible refine nxt_w (x + 1) ?_ ?_
         · (try dsimp only)
           rw [hsx]
           exact weak_do []
         try dsimp only
         omega
   · obtain hxe : x = (t.getD i default).length := by omega
     subst hxe
     repeat' (first
       | (with_reducible apply Req_intro); focus (first | omega | assumption | (simp; done))
       | with_reducible (first | apply Req_intro | refine nilT ?_ fun hn => ?_ | apply wk_draw Tryd_mixed | refine drawEnd (by kernel_rfl) ?_)
       | (with_reducible (first | apply condA_if | apply stepDG_ifN | apply stepDG_if | apply stepG_ifN | apply stepG_if)) <;> intro hb <;> (have hif := hb) <;> (try simp only [bo] at hif) <;> (try simp -implicitDefEqProofs (disch := omega) only [go_sem, hb]) <;> clear hb
       | simp (maxSteps := 1000000) -implicitDefEqProofs (disch := omega) only [go_sem])
     all_goals first | exact absurd trivial ‹¬True› | exact absurd ‹false = true› (by decide) | exact absurd ‹true = false› (by decide) | (exfalso; omega) | omega | skip
     refine ret_do ?_
     rfl
def condP (t : List (List Bool)) (i taken k : Nat) : Bool := (t.getD i default).getD k default && !taken.testBit k && 1 + refM (t.drop (i + 1)) (taken ||| 2 ^ k) == refM (t.drop i) taken
end Go.Aw
end
section
namespace Go.Aw
open Go.RowKit Go.Proofs
structure GoodSt (g : Gau) (ls rs : List Grd) (n : Nat) : Prop where
 n4 : n ≤ 4
 g : GauOk g
 l : ∀ x ∈ ls, GrdOk n x
 r : ∀ x ∈ rs, GrdOk n x
theorem rMany_spec (g : Gau) (ls rs : List Grd) (e1 e2 : Bool) (n : Nat) (hg : GoodSt g ls rs n) (hl : ls.length ≤ 9) (hr : rs.length ≤ 9) : Ct Tryd.prog 78 [encSt ls rs e1 e2, encGa g] (int (manyR g ls rs 2)) := by
 have hT := rTable_sure g ls rs e1 e2 n hg.n4 hg.g hg.l hg.r (by omega) (by omega)
 have hM := rMost_spec (tabB g ls rs 2) false (fun row h => by rw [tabB_row g ls rs 2 row h]; exact hr) (by rw [tabB_len]; exact hl) ls.length 0 0 (by rw [tabB_len]; omega) (by decide)
 rw [List.drop_zero] at hM
 have hm : manyR g ls rs 2 = refM (tabB g ls rs 2) 0 := rfl
 rw [← hm] at hM
 generalize manyR g ls rs 2 = M at *
 generalize tabB g ls rs 2 = T at *
 refine fn_enter Tryd.func78 rfl (by decide) Tryd.results78 Tryd.ntmps78 ?_ rfl (by simp (maxSteps := 1000000) -implicitDefEqProofs (disch := omega) only [go_sem]; rfl) fun base => ?_
 · first | assumption | (simp only [go_sem] <;> assumption) | (simp only [go_sem, *]; done) | (simp [go_sem]; done)
 repeat' (first
   | (with_reducible apply Req_intro); focus (first | omega | assumption | (simp; done))
   | with_reducible (first | apply Req_intro | refine nilT ?_ fun hn => ?_ | apply wk_draw Tryd_mixed | refine drawEnd (by kernel_rfl) ?_)
   | (with_reducible (first | apply condA_if | apply stepDG_ifN | apply stepDG_if | apply stepG_ifN | apply stepG_if)) <;> intro hb <;> (have hif := hb) <;> (try simp only [bo] at hif) <;> (try simp -implicitDefEqProofs (disch := omega) only [go_sem, hb]) <;> clear hb
   | simp (maxSteps := 1000000) -implicitDefEqProofs (disch := omega) only [go_sem])
 refine callp hT ?_
 try simp (maxSteps := 1000000) -implicitDefEqProofs (disch := omega) only [go_sem]
 repeat' (first
   | (with_reducible apply Req_intro); focus (first | omega | assumption | (simp; done))
   | with_reducible (first | apply Req_intro | refine nilT ?_ fun hn => ?_ | apply wk_draw Tryd_mixed | refine drawEnd (by kernel_rfl) ?_)
   | (with_reducible (first | apply condA_if | apply stepDG_ifN | apply stepDG_if | apply stepG_ifN | apply stepG_if)) <;> intro hb <;> (have hif := hb) <;> (try simp only [bo] at hif) <;> (try simp -implicitDefEqProofs (disch := omega) only [go_sem, hb]) <;> clear hb
   | simp (maxSteps := 1000000) -implicitDefEqProofs (disch := omega) only [go_sem])
 refine callp hM ?_
 try simp (maxSteps := 1000000) -implicitDefEqProofs (disch := omega) only [go_sem]
 repeat' (first
   | (with_reducible apply Req_intro); focus (first | omega | assumption | (simp; done))
   | with_reducible (first | apply Req_intro | refine nilT ?_ fun hn => ?_ | apply wk_draw Tryd_mixed | refine drawEnd (by kernel_rfl) ?_)
   | (with_reducible (first | apply condA_if | apply stepDG_ifN | apply stepDG_if | apply stepG_ifN | apply stepG_if)) <;> intro hb <;> (have hif := hb) <;> (try simp only [bo] at hif) <;> (try simp -implicitDefEqProofs (disch := omega) only [go_sem, hb]) <;> clear hb
   | simp (maxSteps := 1000000) -implicitDefEqProofs (disch := omega) only [go_sem])
 refine ret_do ?_
 rfl
end Go.Aw
end
section
namespace Go.Aw
open Go.RowKit Go.Proofs
def famB (F n m : Nat) : List (List V) := (List.range n).map fun j => [.os (F + j) 1 m false]
@[go_sem] theorem famB_len (F n m : Nat) : (famB F n m).length = n := by simp [famB]
theorem famB_zero (F m : Nat) : famB F 0 m = [] := rfl
theorem famB_at {F n m j : Nat} (h : j < n) : (famB F n m)[j]? = some [.os (F + j) 1 m false] := by simp [famB, h]
@[go_sem] theorem famB_get (F n m j : Nat) (h : j < n) : (famB F n m).getD j [] = [.os (F + j) 1 m false] := by rw [List.getD_eq_getElem?_getD, famB_at h]; rfl
theorem famB_lt {F n m j : Nat} {e : List V} (h : (famB F n m)[j]? = some e) : j < n := by have := (List.getElem?_eq_some_iff.1 h).1; rwa [famB_len] at this
theorem RenE.famB {ρ : Nat → Nat} {mx F n m : Nat} (hB : n ≤ 6) (hr : ∀ j, j < 6 → ρ (F + j) = F + j ∧ F + j < mx) : RenE ρ mx (famB F n m) (famB F n m) := by
 refine RenE.get rfl fun j d d' h1 h2 => ?_
 have hj := famB_lt h1
 rw [famB_at hj] at h1 h2
 cases h1
 cases h2
 have := hr j (by omega)
 exact .cons _ _ _ _ (Ren.osN _ _ rfl this.1 this.2 (fun h => h)) .nil
theorem RenE.famBShift {ρ : Nat → Nat} {mx F F' n m : Nat} (hB : n ≤ 6) (hr : ∀ j, j < 6 → ρ (F' + j) = F + j ∧ F' + j < mx) : RenE ρ mx (Go.Aw.famB F' n m) (Go.Aw.famB F n m) := by
 refine RenE.get (by simp only [famB_len]) fun j d d' h1 h2 => ?_
 have hj := famB_lt h1
 rw [famB_at hj] at h1 h2
 cases h1
 cases h2
 have := hr j (by omega)
 exact .cons _ _ _ _ (Ren.osN _ _ rfl this.1 this.2 (fun h => h)) .nil
theorem RenE.famBSnoc {ρ : Nat → Nat} {mx F n n1 m X : Nat} {ex : Bool} (hn : n1 = n + 1) (hr : ∀ j, j < n → ρ (F + j) = F + j) (hm : F + n < mx) (hX : ρ (F + n) = X) : RenE ρ mx (Go.Aw.famB F n1 m) (Go.Aw.famB F n m ++ [[.os X 1 m ex]]) := by
 subst hn
 refine RenE.get (by simp [famB_len]) fun j d d' h1 h2 => ?_
 have hj := famB_lt h1
 rw [famB_at hj] at h1
 cases h1
 rcases Nat.lt_or_ge j n with h | h
 · rw [List.getElem?_append_left (by rw [famB_len]; exact h), famB_at h] at h2
   cases h2
   exact .cons _ _ _ _ (Ren.osN _ _ rfl (hr j h) (by omega) (fun h => h)) .nil
 · obtain rfl : j = n := by omega
   rw [List.getElem?_append_right (by rw [famB_len]; exact h), famB_len, Nat.sub_self] at h2
   cases h2
   exact .cons _ _ _ _ (Ren.osN _ _ rfl hX hm (fun h => by cases h)) .nil
theorem weak_do5 (ρl : List (Nat × Nat)) {tm tm' : List V} {h : Hp} {l' : List (Nat × Option Blk)} {nx nx' : Nat} {gh : Gh} (hlow : (ρl.all fun p => decide (gh.lim ≤ p.1)) = true := by rfl)
   (ht : RenL (renOf ρl) nx' tm' tm := by
     repeat' (first
       | with_reducible (first | exact RenL.nil | refine RenL.cons _ _ _ _ ?_ ?_ | exact Ren.any _ | exact Ren.lit _)
       | (with_reducible (first | refine Ren.int _ _ _ ?_ | refine Ren.bool _ _ ?_)) <;> (first | rfl | omega | (simp <;> omega) | (simp only [go_sem]; done) | (push_cast; omega))
       | with_reducible (first | exact Ren.nil _ _ _ | exact Ren.nilsl _ _ | exact RowsRen.nil | exact RenE.nil)
       | (with_reducible refine Ren.ref _ _ _ _ _ ?_ ?_) <;> decide
       | (with_reducible refine Ren.mp _ _ ?_ ?_) <;> decide
       | (with_reducible refine Ren.osN _ _ ?_ ?_ ?_ ?_) <;> (first | decide | first | rfl | omega | (simp <;> omega) | (simp only [go_sem]; done) | (push_cast; omega) | (intro h; exact h) | (intro h; cases h))
       | with_reducible (first | refine Ren.fnL _ _ ?_ ?_ | refine Ren.aggL _ _ ?_)
       | (with_reducible (first | refine Ren.pu _ ?_ | refine RenE.puE ?_)) <;> (first | assumption | (simp only [go_sem] <;> assumption) | (simp only [go_sem, *]; done) | (simp [go_sem]; done))
       | (with_reducible apply RowsRen.row); (focus decide); (focus rfl)
       | (with_reducible refine RowsRen.virt _ _ _ _ _ ?_ ?_ ?_ ?_); (focus decide); (focus decide); (focus decide)
       | with_reducible (first | refine RowsRen.gone _ _ ?_ | refine RenE.cons _ _ _ _ ?_ ?_)
       | (with_reducible (first | refine Ren.slE _ _ _ ?_ ?_ | refine RenE.eqE ?_ ?_)); (focus (first | rfl | omega | (simp <;> omega) | (simp only [go_sem]; done) | (push_cast; omega))); (focus (first | assumption | (simp only [go_sem] <;> assumption) | (simp only [go_sem, *]; done) | (simp [go_sem]; done)))
       | (with_reducible refine RenL.puL ?_) <;> (first | assumption | (simp only [go_sem] <;> assumption) | (simp only [go_sem, *]; done) | (simp [go_sem]; done))
       | (with_reducible refine RenL.eqL ?_ ?_); (focus (first | rfl | omega | (simp <;> omega) | (simp only [go_sem]; done) | (push_cast; omega))); (focus (first | assumption | (simp only [go_sem] <;> assumption) | (simp only [go_sem, *]; done) | (simp [go_sem]; done)))))
   (hh : RowsRen (renOf ρl) nx' nx h l' := by
     repeat' (first
       | with_reducible (first | exact RenL.nil | refine RenL.cons _ _ _ _ ?_ ?_ | exact Ren.any _ | exact Ren.lit _)
       | (with_reducible (first | refine Ren.int _ _ _ ?_ | refine Ren.bool _ _ ?_)) <;> (first | rfl | omega | (simp <;> omega) | (simp only [go_sem]; done) | (push_cast; omega))
       | with_reducible (first | exact Ren.nil _ _ _ | exact Ren.nilsl _ _ | exact RowsRen.nil | exact RenE.nil)
       | (with_reducible refine Ren.ref _ _ _ _ _ ?_ ?_) <;> decide
       | (with_reducible refine Ren.mp _ _ ?_ ?_) <;> decide
       | (with_reducible refine Ren.osN _ _ ?_ ?_ ?_ ?_) <;> (first | decide | first | rfl | omega | (simp <;> omega) | (simp only [go_sem]; done) | (push_cast; omega) | (intro h; exact h) | (intro h; cases h))
       | with_reducible (first | refine Ren.fnL _ _ ?_ ?_ | refine Ren.aggL _ _ ?_)
       | (with_reducible (first | refine Ren.pu _ ?_ | refine RenE.puE ?_)) <;> (first | assumption | (simp only [go_sem] <;> assumption) | (simp only [go_sem, *]; done) | (simp [go_sem]; done))
       | (with_reducible apply RowsRen.row); (focus decide); (focus rfl)
       | (with_reducible refine RowsRen.virt _ _ _ _ _ ?_ ?_ ?_ ?_); (focus decide); (focus decide); (focus decide)
       | with_reducible (first | refine RowsRen.gone _ _ ?_ | refine RenE.cons _ _ _ _ ?_ ?_)
       | (with_reducible refine RenE.setR ?_ ?_); (focus (first | assumption | (simp only [go_sem] <;> assumption) | (simp only [go_sem, *]; done) | (simp [go_sem]; done)))
       | (with_reducible refine RenE.fam (B := 8) ?_ ?_ ?_) <;> (first | omega | decide | (intro j hj; rfl) | assumption)
       | (with_reducible refine RenE.famCt (B := 3) ?_ ?_ ?_ ?_) <;> (first | omega | decide | (intro j hj; rfl) | assumption)
       | (with_reducible refine RenE.famB ?_ ?_) <;> (first | omega | decide)
       | (with_reducible refine RenE.famBSnoc rfl ?_ ?_ ?_) <;> (first | decide | rfl | first | rfl | omega | (simp <;> omega) | (simp only [go_sem]; done) | (push_cast; omega))
       | (with_reducible refine RenE.famSnoc rfl ?_ ?_ ?_ ?_) <;> (first | decide | rfl | first | rfl | omega | (simp <;> omega) | (simp only [go_sem]; done) | (push_cast; omega))
       | (with_reducible refine RenE.famCSnoc rfl ?_ ?_ ?_ ?_ ?_) <;> (first | decide | rfl | first | rfl | omega | (simp <;> omega) | (simp only [go_sem]; done) | (push_cast; omega))
       | (with_reducible refine RenE.famSet (B := 8) ?_ ?_ ?_ ?_ ?_ ?_) <;> (first | omega | decide | rfl | assumption | first | rfl | omega | (simp <;> omega) | (simp only [go_sem]; done) | (push_cast; omega))
       | (with_reducible refine RenE.famCSet (B := 3) ?_ ?_ ?_ ?_ ?_ ?_ ?_ ?_) <;> (first | omega | decide | rfl | assumption | (intro j _ _; rfl) | first | rfl | omega | (simp <;> omega) | (simp only [go_sem]; done) | (push_cast; omega))
       | (with_reducible (first | refine Ren.slE _ _ _ ?_ ?_ | refine RenE.eqE ?_ ?_)); (focus (first | rfl | omega | (simp <;> omega) | (simp only [go_sem]; done) | (push_cast; omega))); (focus (first | assumption | (simp only [go_sem] <;> assumption) | (simp only [go_sem, *]; done) | (simp [go_sem]; done)))
       | (with_reducible refine RenL.puL ?_) <;> (first | assumption | (simp only [go_sem] <;> assumption) | (simp only [go_sem, *]; done) | (simp [go_sem]; done))
       | (with_reducible refine RenL.eqL ?_ ?_); (focus (first | rfl | omega | (simp <;> omega) | (simp only [go_sem]; done) | (push_cast; omega))); (focus (first | assumption | (simp only [go_sem] <;> assumption) | (simp only [go_sem, *]; done) | (simp [go_sem]; done)))))
   (hi : renInj (renOf ρl) (keysOf l') = true := by rfl) (hl : gh.lim ≤ nx' := by exact Nat.le_of_ble_eq_true rfl) : Weak ⟨tm, h, nx, gh⟩ ⟨tm', hpOf (fun _ => none) l', nx', gh⟩ := Weak.rows ρl hl hlow ht hh hi
end Go.Aw
end
section
namespace Go.Aw
open Go.RowKit Go.Proofs
def rowQ (T : List (List Bool)) (i j : Nat) : List Bool := if j < i then T.getD j [] else []
theorem rowQ_zero (T : List (List Bool)) (j : Nat) : rowQ T 0 j = [] := rfl
theorem rowQ_next {g : Gau} {ls rs : List Grd} {i : Nat} (h : i < ls.length) : rowQ (tabB g ls rs 2) (i + 1) i = rowTo g (ls.getD i default) rs 2 rs.length := by
 rw [rowQ, if_pos (Nat.lt_succ_self _), rowTo_all, List.getD_eq_getElem?_getD, tabB, List.getElem?_map, List.getElem?_eq_getElem h, List.getD_eq_getElem?_getD, List.getElem?_eq_getElem h]; rfl
theorem rTable_F (g : Gau) (ls rs : List Grd) (e1 e2 : Bool) (n : Nat) (hn : n ≤ 4) (hg : GauOk g) (hl : ∀ x ∈ ls, GrdOk n x) (hr : ∀ x ∈ rs, GrdOk n x) (hl8 : ls.length ≤ 6) (hr9 : rs.length ≤ 12) : CallH Tryd.prog 32 [encSt ls rs e1 e2, encGa g, .lit (.bool true)] (fun _ => none) 0 (fun r h nx => r = .os 65 1 ls.length false ∧ h = hpOf (fun _ => none) [(0, some ⟨2, [[.sl 2 (ls.map encGd) e1, .sl 2 (rs.map encGd) e2]], 38, .wr⟩), (64, some ⟨4, [[int g.sc, int g.ga, int g.we, int g.cu]], 26, .wr⟩), (65, some ⟨1, famB 66 ls.length rs.length, 111, .wr⟩), (66, some ⟨1, (rowQ (tabB g ls rs 2) ls.length 0).map encBo, 4, .wr⟩), (67, some ⟨1, (rowQ (tabB g ls rs 2) ls.length 1).map encBo, 4, .wr⟩), (68, some ⟨1, (rowQ (tabB g ls rs 2) ls.length 2).map encBo, 4, .wr⟩), (69, some ⟨1, (rowQ (tabB g ls rs 2) ls.length 3).map encBo, 4, .wr⟩), (70, some ⟨1, (rowQ (tabB g ls rs 2) ls.length 4).map encBo, 4, .wr⟩), (71, some ⟨1, (rowQ (tabB g ls rs 2) ls.length 5).map encBo, 4, .wr⟩)] ∧ nx = 832) := by
 refine callH_enter Tryd.func32 rfl Tryd.results32 Tryd.ntmps32 rfl (by simp (maxSteps := 1000000) -implicitDefEqProofs (disch := omega) only [go_sem]; rfl) fun base => ?_
 repeat' (first
   | (with_reducible apply Req_intro); focus (first | omega | assumption | (simp; done))
   | with_reducible (first | apply Req_intro | refine nilT ?_ fun hn => ?_ | apply wk_draw Tryd_mixed | refine drawEnd (by kernel_rfl) ?_)
   | (with_reducible (first | apply condA_if | apply stepDG_ifN | apply stepDG_if | apply stepG_ifN | apply stepG_if)) <;> intro hb <;> (have hif := hb) <;> (try simp only [bo] at hif) <;> (try simp -implicitDefEqProofs (disch := omega) only [go_sem, hb]) <;> clear hb
   | simp (maxSteps := 1000000) -implicitDefEqProofs (disch := omega) only [go_sem])
 refine loop_rows (α := Nat) (9 :: [7, 8, 9, 10, 12, 13, 14, 15, 16, 17, 18, 19, 20, 21, 22, 23, 24, 25, 26, 27, 28, 29, 30, 31, 32, 33, 34, 35, 36, 37, 38, 39, 40, 41, 42, 43, 44, 45, 46, 47, 48, 49, 50, 51, 52, 53, 54, 55, 56, 57, 58, 59, 60, 61, 62, 63, 64, 65, 66]) (fun i => [(8, .lit (.int .i64 i)), (7, .os 65 1 i false), (11, .undef), (12, .undef)]) (fun i => [(0, some ⟨2, [[.sl 2 (ls.map encGd) e1, .sl 2 (rs.map encGd) e2]], 38, .wr⟩), (64, some ⟨4, [[int g.sc, int g.ga, int g.we, int g.cu]], 26, .wr⟩), (65, some ⟨1, famB 66 i rs.length, 111, .wr⟩), (66, some ⟨1, (rowQ (tabB g ls rs 2) i 0).map encBo, 4, .wr⟩), (67, some ⟨1, (rowQ (tabB g ls rs 2) i 1).map encBo, 4, .wr⟩), (68, some ⟨1, (rowQ (tabB g ls rs 2) i 2).map encBo, 4, .wr⟩), (69, some ⟨1, (rowQ (tabB g ls rs 2) i 3).map encBo, 4, .wr⟩), (70, some ⟨1, (rowQ (tabB g ls rs 2) i 4).map encBo, 4, .wr⟩), (71, some ⟨1, (rowQ (tabB g ls rs 2) i 5).map encBo, 4, .wr⟩)]) (fun i => i ≤ ls.length) (fun i => ls.length - i) 0 (fun x => by simp (maxSteps := 1000000) -implicitDefEqProofs (disch := omega) only [go_sem]; rfl) ?_ ?_ fun x hx => ?_
 · simp only [famB_zero, rowQ_zero, List.map_nil]
   exact weak_do5 [(65, 192), (66, 1000001), (67, 1000002), (68, 1000003), (69, 1000004), (70, 1000005), (71, 1000006)]
 · exact Nat.zero_le _
 by_cases hlt : x < ls.length
 · have hgx := hl _ (getD_mem hlt)
   have hqn := rowQ_next (g := g) (rs := rs) hlt
   rename Nat => ox
   repeat' (first
     | (with_reducible apply Req_intro); focus (first | omega | assumption | (simp; done))
     | with_reducible (first | apply Req_intro | refine nilT ?_ fun hn => ?_ | apply wk_draw Tryd_mixed | refine drawEnd (by kernel_rfl) ?_)
     | (with_reducible (first | apply condA_if | apply stepDG_ifN | apply stepDG_if | apply stepG_ifN | apply stepG_if)) <;> intro hb <;> (have hif := hb) <;> (try simp only [bo] at hif) <;> (try simp -implicitDefEqProofs (disch := omega) only [go_sem, hb]) <;> clear hb
     | simp (maxSteps := 1000000) -implicitDefEqProofs (disch := omega) only [go_sem])
   all_goals first | exact absurd trivial ‹¬True› | exact absurd ‹false = true› (by decide) | exact absurd ‹true = false› (by decide) | (exfalso; omega) | omega | skip
   refine loop_rows (α := Nat) ([9, 10, 20, 21, 22, 23, 24, 25, 26, 27, 28, 29, 30, 31, 32, 33, 34, 35, 36, 37, 38, 39, 40, 41, 42, 43, 44, 45, 46, 47, 48, 49, 50, 51, 52, 53, 54, 55, 56, 57, 58, 59, 60, 61, 62]) (fun i => [(10, .lit (.int .i64 i)), (9, .os 72 1 i false), (19, .undef)]) (fun i => [(0, some ⟨2, [[.sl 2 (ls.map encGd) e1, .sl 2 (rs.map encGd) e2]], 38, .wr⟩), (64, some ⟨4, [[int g.sc, int g.ga, int g.we, int g.cu]], 26, .wr⟩), (65, some ⟨1, famB 66 ox rs.length, 111, .wr⟩), (66, some ⟨1, (rowQ (tabB g ls rs 2) ox 0).map encBo, 4, .wr⟩), (67, some ⟨1, (rowQ (tabB g ls rs 2) ox 1).map encBo, 4, .wr⟩), (68, some ⟨1, (rowQ (tabB g ls rs 2) ox 2).map encBo, 4, .wr⟩), (69, some ⟨1, (rowQ (tabB g ls rs 2) ox 3).map encBo, 4, .wr⟩), (70, some ⟨1, (rowQ (tabB g ls rs 2) ox 4).map encBo, 4, .wr⟩), (71, some ⟨1, (rowQ (tabB g ls rs 2) ox 5).map encBo, 4, .wr⟩), (72, some ⟨1, (rowTo g (ls.getD ox default) rs 2 i).map encBo, 4, .wr⟩)]) (fun i => i ≤ rs.length) (fun i => rs.length - i) 0 (fun x => by simp (maxSteps := 1000000) -implicitDefEqProofs (disch := omega) only [go_sem]; rfl) ?_ ?_ fun x hx => ?_
   · rw [rowTo_zero]
     simp only [List.map_nil]
     exact weak_do5 [(72, 704)]
   · exact Nat.zero_le _
   have hrl := rowTo_len (g := g) (a := ls.getD ox default) (k := 2) hx
   by_cases hlt2 : x < rs.length
   · have hgy := hr _ (getD_mem hlt2)
     have hsu := rowTo_succ (g := g) (a := ls.getD ox default) (k := 2) hlt2
     generalize rowTo g (ls.getD ox default) rs 2 x = rw' at *
     repeat' (first
       | (with_reducible apply Req_intro); focus (first | omega | assumption | (simp; done))
       | with_reducible (first | apply Req_intro | refine nilT ?_ fun hn => ?_ | apply wk_draw Tryd_mixed | refine drawEnd (by kernel_rfl) ?_)
       | (with_reducible (first | apply condA_if | apply stepDG_ifN | apply stepDG_if | apply stepG_ifN | apply stepG_if)) <;> intro hb <;> (have hif := hb) <;> (try simp only [bo] at hif) <;> (try simp -implicitDefEqProofs (disch := omega) only [go_sem, hb]) <;> clear hb
       | simp (maxSteps := 1000000) -implicitDefEqProofs (disch := omega) only [go_sem])
     all_goals first | exact absurd trivial ‹¬True› | exact absurd ‹false = true› (by decide) | exact absurd ‹true = false› (by decide) | (exfalso; omega) | omega | skip
     refine calld (rSurely_spec g (ls.getD ox default) (rs.getD x default) n hn hg hgx hgy) ?_
     try simp (maxSteps := 1000000) -implicitDefEqProofs (disch := omega) only [go_sem]
     generalize alikeR g (ls.getD ox default) (rs.getD x default) 2 = ab at *
     cases ab with
     | true =>
       try simp (maxSteps := 1000000) -implicitDefEqProofs (disch := omega) only [go_sem]
       repeat' (first
         | (with_reducible apply Req_intro); focus (first | omega | assumption | (simp; done))
         | with_reducible (first | apply Req_intro | refine nilT ?_ fun hn => ?_ | apply wk_draw Tryd_mixed | refine drawEnd (by kernel_rfl) ?_)
         | (with_reducible (first | apply condA_if | apply stepDG_ifN | apply stepDG_if | apply stepG_ifN | apply stepG_if)) <;> intro hb <;> (have hif := hb) <;> (try simp only [bo] at hif) <;> (try simp -implicitDefEqProofs (disch := omega) only [go_sem, hb]) <;> clear hb
         | simp (maxSteps := 1000000) -implicitDefEqProofs (disch := omega) only [go_sem])
       all_goals first | exact absurd trivial ‹¬True› | exact absurd ‹false = true› (by decide) | exact absurd ‹true = false› (by decide) | (exfalso; omega) | omega | skip
       with_reducible refine nxt_w (x + 1) ?_ ?_
       · (try dsimp only)
         rw [hsu, List.map_append, List.map_cons, List.map_nil]
         exact weak_do5 [(72, 3456)]
       try dsimp only
       omega
     | false =>
       try simp (maxSteps := 1000000) -implicitDefEqProofs (disch := omega) only [go_sem]
       repeat' (first
         | (with_reducible apply Req_intro); focus (first | omega | assumption | (simp; done))
         | with_reducible (first | apply Req_intro | refine nilT ?_ fun hn => ?_ | apply wk_draw Tryd_mixed | refine drawEnd (by kernel_rfl) ?_)
         | (with_reducible (first | apply condA_if | apply stepDG_ifN | apply stepDG_if | apply stepG_ifN | apply stepG_if)) <;> intro hb <;> (have hif := hb) <;> (try simp only [bo] at hif) <;> (try simp -implicitDefEqProofs (disch := omega) only [go_sem, hb]) <;> clear hb
         | simp (maxSteps := 1000000) -implicitDefEqProofs (disch := omega) only [go_sem])
       all_goals first | exact absurd trivial ‹¬True› | exact absurd ‹false = true› (by decide) | exact absurd ‹true = false› (by decide) | (exfalso; omega) | omega | skip
       with_reducible refine nxt_w (x + 1) ?_ ?_
       · (try dsimp only)
         rw [hsu, List.map_append, List.map_cons, List.map_nil]
         exact weak_do5 [(72, 3456)]
       try dsimp only
       omega
   · obtain rfl : x = rs.length := by omega
     repeat' (first
       | (with_reducible apply Req_intro); focus (first | omega | assumption | (simp; done))
       | with_reducible (first | apply Req_intro | refine nilT ?_ fun hn => ?_ | apply wk_draw Tryd_mixed | refine drawEnd (by kernel_rfl) ?_)
       | (with_reducible (first | apply condA_if | apply stepDG_ifN | apply stepDG_if | apply stepG_ifN | apply stepG_if)) <;> intro hb <;> (have hif := hb) <;> (try simp only [bo] at hif) <;> (try simp -implicitDefEqProofs (disch := omega) only [go_sem, hb]) <;> clear hb
       | simp (maxSteps := 1000000) -implicitDefEqProofs (disch := omega) only [go_sem])
     all_goals first | exact absurd trivial ‹¬True› | exact absurd ‹false = true› (by decide) | exact absurd ‹true = false› (by decide) | (exfalso; omega) | omega | skip
     have h012 : ox = 0 ∨ ox = 1 ∨ ox = 2 ∨ ox = 3 ∨ ox = 4 ∨ ox = 5 := by omega
     rcases h012 with rfl | rfl | rfl | rfl | rfl | rfl
     · with_reducible refine nxt_w (0 + 1) ?_ ?_
       · (try dsimp only)
         rw [hqn]
         exact weak_do5 [(65, 1408), (66, 72)]
       try dsimp only
       omega
     · with_reducible refine nxt_w (1 + 1) ?_ ?_
       · (try dsimp only)
         rw [hqn]
         exact weak_do5 [(65, 1408), (67, 72)]
       try dsimp only
       omega
     · with_reducible refine nxt_w (2 + 1) ?_ ?_
       · (try dsimp only)
         rw [hqn]
         exact weak_do5 [(65, 1408), (68, 72)]
       try dsimp only
       omega
     · with_reducible refine nxt_w (3 + 1) ?_ ?_
       · (try dsimp only)
         rw [hqn]
         exact weak_do5 [(65, 1408), (69, 72)]
       try dsimp only
       omega
     · with_reducible refine nxt_w (4 + 1) ?_ ?_
       · (try dsimp only)
         rw [hqn]
         exact weak_do5 [(65, 1408), (70, 72)]
       try dsimp only
       omega
     · with_reducible refine nxt_w (5 + 1) ?_ ?_
       · (try dsimp only)
         rw [hqn]
         exact weak_do5 [(65, 1408), (71, 72)]
       try dsimp only
       omega
 · obtain rfl : x = ls.length := by omega
   repeat' (first
     | (with_reducible apply Req_intro); focus (first | omega | assumption | (simp; done))
     | with_reducible (first | apply Req_intro | refine nilT ?_ fun hn => ?_ | apply wk_draw Tryd_mixed | refine drawEnd (by kernel_rfl) ?_)
     | (with_reducible (first | apply condA_if | apply stepDG_ifN | apply stepDG_if | apply stepG_ifN | apply stepG_if)) <;> intro hb <;> (have hif := hb) <;> (try simp only [bo] at hif) <;> (try simp -implicitDefEqProofs (disch := omega) only [go_sem, hb]) <;> clear hb
     | simp (maxSteps := 1000000) -implicitDefEqProofs (disch := omega) only [go_sem])
   all_goals first | exact absurd trivial ‹¬True› | exact absurd ‹false = true› (by decide) | exact absurd ‹true = false› (by decide) | (exfalso; omega) | omega | skip
   refine ret_do ?_
   exact ⟨rfl, rfl, rfl⟩
end Go.Aw
end
section
namespace Go.Aw
open Go.RowKit
def LookOk (nl nr : Nat) (b : Bool × Nat × Nat) : Prop := b.2.2 = 0 ∨ b.2.2 = 1 ∧ b.2.1 < (if b.1 then nr else nl)
theorem lookTo_ok {t sure : List Nat} (hf : Few t) (hs : Few sure) {nl nr : Nat} : ∀ (l : List (Bool × Nat)) (b : Bool × Nat × Nat), (∀ p ∈ l, p.2 < (if p.1 then nr else nl)) → LookOk nl nr b → LookOk nl nr (lookTo t sure l b)
 | [], b, _, hb => hb
 | p :: ps, b, hp, hb => by
   rw [lookTo]
   refine lookTo_ok hf hs ps _ (fun q hq => hp q (List.mem_cons_of_mem _ hq)) ?_
   split
   · rename_i h
     have := look_most hf hs p.1 p.2
     have hpp := hp p (List.mem_cons_self ..)
     refine .inr ⟨?_, hpp⟩
     show mostR (lookT t sure p.1 p.2) - mostR t = 1
     omega
   · exact hb
theorem lookR_ok {t sure : List Nat} (hf : Few t) (hs : Few sure) (nr : Nat) : LookOk t.length nr (lookR t sure nr) := by
 refine lookTo_ok hf hs _ _ (fun p hp => ?_) (.inl rfl)
 rw [List.mem_append, List.mem_map, List.mem_map] at hp
 rcases hp with ⟨i, hi, rfl⟩ | ⟨i, hi, rfl⟩
 · simpa using hi
 · simpa using hi
end Go.Aw
end
section
namespace Go.Aw
open Go.RowKit Go.Proofs
theorem rhoF_at (x i : Nat) : rhoF x (x + i) = i := by unfold rhoF; rw [if_neg (by omega)]; omega
def tabRows (x : Nat) (g : Gau) (ls rs : List Grd) : List (Nat × Option Blk) := [(x + 65, some ⟨1, famB (x + 66) ls.length rs.length, 111, .wr⟩), (x + 66, some ⟨1, (rowQ (tabB g ls rs 2) ls.length 0).map encBo, 4, .wr⟩), (x + 67, some ⟨1, (rowQ (tabB g ls rs 2) ls.length 1).map encBo, 4, .wr⟩), (x + 68, some ⟨1, (rowQ (tabB g ls rs 2) ls.length 2).map encBo, 4, .wr⟩), (x + 69, some ⟨1, (rowQ (tabB g ls rs 2) ls.length 3).map encBo, 4, .wr⟩), (x + 70, some ⟨1, (rowQ (tabB g ls rs 2) ls.length 4).map encBo, 4, .wr⟩), (x + 71, some ⟨1, (rowQ (tabB g ls rs 2) ls.length 5).map encBo, 4, .wr⟩)]
@[go_sem] theorem rowQ_pu (T : List (List Bool)) (i j : Nat) : PuE ((rowQ T i j).map encBo) = True := by first | assumption | (simp only [go_sem] <;> assumption) | (simp only [go_sem, *]; done) | (simp [go_sem]; done)
theorem call_table {first args cap : List V} {dst : Option Tmp} {K : St → Prop} {tm : List V} {l : List (Nat × Option Blk)} {x : Nat} {gh : Gh} (g : Gau) (ls rs : List Grd) (e1 e2 : Bool) (n : Nat) (hn : n ≤ 4) (hg : GauOk g) (hl : ∀ x ∈ ls, GrdOk n x) (hr : ∀ x ∈ rs, GrdOk n x) (hl8 : ls.length ≤ 6) (hr9 : rs.length ≤ 12)
   (hk : K ⟨putT tm dst (.os (x + 65) 1 ls.length false), hpOf (fun _ => none) (l ++ tabRows x g ls rs), x + 832, gh⟩)
   (ha : first ++ args ++ cap = [encSt ls rs e1 e2, encGa g, .lit (.bool true)]) : CallA Tryd.prog (.fn (.func 32) first cap) args dst K ⟨tm, hpOf (fun _ => none) l, x, gh⟩ := by
 have hpin : PuL [encSt ls rs e1 e2, encGa g, .lit (.bool true)] := by first | assumption | (simp only [go_sem] <;> assumption) | (simp only [go_sem, *]; done) | (simp [go_sem]; done)
 have hp : PurL true (hpOf (fun _ => none) l) (first ++ args ++ cap) [encSt ls rs e1 e2, encGa g, .lit (.bool true)] := by
   rw [ha]
   exact ⟨rfl, fun i d d' h1 h2 => by rw [h1] at h2; cases h2; exact .pu _ (hpin _ (List.mem_of_getElem? h1))⟩
 refine callA_shared _ (CallH.fresh (nx := x) (l := l) (rows := tabRows x g ls rs) (rTable_F g ls rs e1 e2 n hn hg hl hr hl8 hr9) hp (by decide) (r' := .os (x + 65) 1 ls.length false) (Ren.osN _ _ rfl (rhoF_at _ _) (by omega) (fun h => h)) ?_ ?_) ⟨_, Tryd.func32, by rfl, by decide⟩ fun r h' nx' hp => ?_
 · unfold tabRows
   refine .row _ _ _ _ _ _ _ (by omega) (by rw [rhoF_at]; rfl) (RenE.famBShift hl8 fun j hj => ⟨by rw [Nat.add_assoc, rhoF_at], by omega⟩) ?_
   iterate 6 refine .row _ _ _ _ _ _ _ (by omega) (by rw [rhoF_at]; rfl) (.pu _ (of_eq_true (rowQ_pu ..))) ?_
   exact .nil
 · simp [tabRows]
 · obtain ⟨rfl, rfl, rfl⟩ := hp
   exact hk
theorem lookTo_end (t s : List Nat) (p : Bool × Nat) (ps : List (Bool × Nat)) (b : Bool × Nat × Nat) : lookTo t s (ps ++ [p]) b = if (lookTo t s ps b).2.2 < mostR (lookT t s p.1 p.2) - mostR t then (p.1, p.2, mostR (lookT t s p.1 p.2) - mostR t) else lookTo t s ps b := by
 rw [lookTo_snoc]; rfl
def lkL (t s : List Nat) (k : Nat) : Bool × Nat × Nat := lookTo t s ((List.range k).map fun i => (false, i)) (false, 0, 0)
def lkR (t s : List Nat) (k : Nat) : Bool × Nat × Nat := lookTo t s ((List.range t.length).map (fun i => (false, i)) ++ (List.range k).map fun i => (true, i)) (false, 0, 0)
theorem lkL_zero (t s : List Nat) : lkL t s 0 = (false, 0, 0) := rfl
theorem lkL_succ (t s : List Nat) (k : Nat) : lkL t s (k + 1) = if (lkL t s k).2.2 < mostR (lookT t s false k) - mostR t then (false, k, mostR (lookT t s false k) - mostR t) else lkL t s k := by
 rw [lkL, List.range_succ, List.map_append, List.map_cons, List.map_nil, lookTo_end]; rfl
theorem lkR_zero (t s : List Nat) : lkR t s 0 = lkL t s t.length := by simp [lkR, lkL]
theorem lkR_succ (t s : List Nat) (k : Nat) : lkR t s (k + 1) = if (lkR t s k).2.2 < mostR (lookT t s true k) - mostR t then (true, k, mostR (lookT t s true k) - mostR t) else lkR t s k := by
 rw [lkR, List.range_succ, List.map_append, List.map_cons, List.map_nil, ← List.append_assoc, lookTo_end]; rfl
theorem lkR_all (t s : List Nat) (n : Nat) : lkR t s n = lookR t s n := rfl
def lkRow (g : Gau) (ls rs : List Grd) (right : Bool) (n i k : Nat) : List Bool := (List.range rs.length).map fun j => if j < k ∧ (if right then j else i) = n then alikeR g (ls.getD i default) (rs.getD j default) 1 else alikeR g (ls.getD i default) (rs.getD j default) 2
def lkAt (g : Gau) (ls rs : List Grd) (right : Bool) (n i j : Nat) : List Bool := if j < ls.length then lkRow g ls rs right n j (if j < i then rs.length else 0) else []
theorem lkRow_len (g : Gau) (ls rs : List Grd) (right : Bool) (n i k : Nat) : (lkRow g ls rs right n i k).length = rs.length := by simp [lkRow]
theorem lkRow_zero (g : Gau) (ls rs : List Grd) (right : Bool) (n i : Nat) : lkRow g ls rs right n i 0 = rowTo g (ls.getD i default) rs 2 rs.length := by
 rw [rowTo_all, lkRow]
 refine List.ext_getElem (by simp) fun j h1 h2 => ?_
 have hj : j < rs.length := by simpa using h2
 simp [List.getElem?_eq_getElem hj]
theorem lkAt_zero (g : Gau) (ls rs : List Grd) (right : Bool) (n j : Nat) : lkAt g ls rs right n 0 j = rowQ (tabB g ls rs 2) ls.length j := by
 unfold lkAt rowQ
 split
 · rename_i h
   rw [if_neg (Nat.not_lt_zero _), lkRow_zero, rowTo_all, tabB, getD_default h, List.getD_eq_getElem?_getD, List.getElem?_map, List.getElem?_eq_getElem h]; rfl
 · rfl
theorem lkAt_self {g : Gau} {ls rs : List Grd} {right : Bool} {n i : Nat} (h : i < ls.length) : lkAt g ls rs right n i i = lkRow g ls rs right n i 0 := by rw [lkAt, if_pos h, if_neg (Nat.lt_irrefl _)]
theorem lkAt_next {g : Gau} {ls rs : List Grd} {right : Bool} {n i : Nat} (h : i < ls.length) : lkAt g ls rs right n (i + 1) i = lkRow g ls rs right n i rs.length := by rw [lkAt, if_pos h, if_pos (Nat.lt_succ_self _)]
theorem lkRow_hit {g : Gau} {ls rs : List Grd} {right : Bool} {n i k : Nat} (hk : k < rs.length) (hc : (if right then k else i) = n) : lkRow g ls rs right n i (k + 1) = (lkRow g ls rs right n i k).set k (alikeR g (ls.getD i default) (rs.getD k default) 1) := by
 refine List.ext_getElem (by simp [lkRow]) fun j h1 h2 => ?_
 simp only [lkRow, List.getElem_map, List.getElem_range, List.getElem_set]
 by_cases e : k = j
 · subst e
   rw [if_pos ⟨Nat.lt_succ_self _, hc⟩, if_pos rfl]
 · rw [if_neg e]
   by_cases h3 : j < k
   · simp only [h3, show j < k + 1 from by omega]
   · simp only [h3, show ¬ j < k + 1 from by omega]
theorem lkRow_miss {g : Gau} {ls rs : List Grd} {right : Bool} {n i k : Nat} (hc : ¬ (if right then k else i) = n) : lkRow g ls rs right n i (k + 1) = lkRow g ls rs right n i k := by
 refine List.ext_getElem (by simp [lkRow]) fun j h1 h2 => ?_
 simp only [lkRow, List.getElem_map, List.getElem_range]
 by_cases e : k = j
 · subst e
   rw [if_neg (fun h => hc h.2), if_neg (fun h => hc h.2)]
 · by_cases h3 : j < k
   · simp only [h3, show j < k + 1 from by omega]
   · simp only [h3, show ¬ j < k + 1 from by omega]
theorem lkRow_all (g : Gau) (ls rs : List Grd) (right : Bool) (n i : Nat) (hi : i < ls.length) : lkRow g ls rs right n i rs.length = (lookB g ls rs right n).getD i [] := by
 rw [lookB, List.getD_eq_getElem?_getD, List.getElem?_map, List.getElem?_range hi]
 show _ = (List.range rs.length).map _
 refine List.ext_getElem (by simp [lkRow]) fun j h1 h2 => ?_
 have hj : j < rs.length := by simpa using h2
 simp only [lkRow, List.getElem_map, List.getElem_range, hj, true_and]
theorem lkAt_all {g : Gau} {ls rs : List Grd} {right : Bool} {n j : Nat} (hj : j < ls.length) : lkAt g ls rs right n ls.length j = (lookB g ls rs right n).getD j [] := by
 rw [lkAt, if_pos hj, if_pos hj, lkRow_all _ _ _ _ _ _ hj]
theorem lookB_len (g : Gau) (ls rs : List Grd) (right : Bool) (n : Nat) : (lookB g ls rs right n).length = ls.length := by simp [lookB]
theorem lookB_row (g : Gau) (ls rs : List Grd) (right : Bool) (n : Nat) : ∀ row ∈ lookB g ls rs right n, row.length = rs.length := fun row hr => by
 obtain ⟨i, _, rfl⟩ := List.mem_map.1 hr
 simp
theorem PurE.famB {h : Hp} {F n m : Nat} {T : List (List Bool)} (hn : T.length = n) (hm : ∀ row ∈ T, row.length = m) (hh : ∀ j, j < n → h (F + j) = some ⟨1, (T.getD j []).map encBo, 4, .fz⟩) : PurE true h ((Go.Aw.famB F n m).take n) (T.map encBr) := by
 rw [List.take_of_length_le (by rw [famB_len]; exact Nat.le_refl _)]
 refine PurE.get (by rw [famB_len, List.length_map, hn]) fun j d d' h1 h2 => ?_
 have hj := famB_lt h1
 rw [famB_at hj] at h1
 rw [List.getElem?_map, List.getElem?_eq_getElem (by omega)] at h2
 cases h1
 cases h2
 have h3 := hh j hj
 rw [List.getD_eq_getElem?_getD, List.getElem?_eq_getElem (by omega), Option.getD_some] at h3
 have h4 := hm _ (List.getElem_mem (show j < T.length by omega))
 rw [← h4]
 refine .cons _ _ _ _ (Pur.osR h3 rfl (by rw [List.length_map]; exact Nat.le_refl _) (fun h => h) ?_) .nil
 rw [List.take_of_length_le (by rw [List.length_map]; exact Nat.le_refl _)]
 exact .puE (by first | assumption | (simp only [go_sem] <;> assumption) | (simp only [go_sem, *]; done) | (simp [go_sem]; done))
end Go.Aw
end
