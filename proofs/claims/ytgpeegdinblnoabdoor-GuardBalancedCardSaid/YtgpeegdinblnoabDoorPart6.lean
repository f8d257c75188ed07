/-
  A part of the proof that a law returns true for every input that the given row speaks of: an own verified walk over the program (namespace Go.Aw), contracts of the functions that the law calls, and the law itself. Conditions: those of the given row, no other.
-/
import Derived.Test.YtgpeegdinblnoabDoorPart5
import Derived.Shelf.Lays
import Derived.Shelf.Sort.Plain
import Derived.Shelf.Slices.In.SortNone
set_option linter.unusedVariables false
set_option linter.unusedSimpArgs false
section
set_option maxRecDepth 20000
set_option maxHeartbeats 4000000
namespace Go.Aw
open Go.RowKit Go.Proofs
theorem kAll (l : List (Nat × Nat)) (e f : Bool) (hl : l.length ≤ 10) : Ct Tryd.prog 28 [.sl 2 (l.map encP) e, .sl 2 (l.map encP) f] (.lit (.bool true)) := by
 have h := rAll_spec l l e f (by omega) (by omega)
 rwa [beq_self_eq_true] at h
theorem kInts (l : List Int) (e f : Bool) (hl : l.length ≤ 10) : Ct Tryd.prog 30 [.sl 1 (l.map encI) e, .sl 1 (l.map encI) f] (.lit (.bool true)) := by
 have h := rInts_spec l l e f (by omega) (by omega)
 rwa [beq_self_eq_true] at h
theorem gknown_spec : Ct Tryd.prog 9 [] (.lit (.bool true)) := by
 refine fn_enter Tryd.func9 rfl (by decide) Tryd.results9 Tryd.ntmps9 ?_ rfl (by simp (maxSteps := 1000000) -implicitDefEqProofs (disch := omega) only [go_sem]; rfl) fun base => ?_
 · first | assumption | (simp only [go_sem] <;> assumption) | (simp only [go_sem, *]; done) | (simp [go_sem]; done)
 repeat' (first
   | (with_reducible apply Req_intro); focus (first | omega | assumption | (simp; done))
   | with_reducible (first | apply Req_intro | refine nilT ?_ fun hn => ?_ | apply wk_draw Tryd_mixed | refine drawEnd (by kernel_rfl) ?_)
   | (with_reducible (first | apply condA_if | apply stepDG_ifN | apply stepDG_if | apply stepG_ifN | apply stepG_if)) <;> intro hb <;> (have hif := hb) <;> (try simp only [bo] at hif) <;> (try simp -implicitDefEqProofs (disch := omega) only [go_sem, hb]) <;> clear hb
   | simp (maxSteps := 1000000) -implicitDefEqProofs (disch := omega) only [go_sem])
 refine callp (one_spec 100 20) ?_
 try simp (maxSteps := 1000000) -implicitDefEqProofs (disch := omega) only [go_sem]
 repeat' (first
   | (with_reducible apply Req_intro); focus (first | omega | assumption | (simp; done))
   | with_reducible (first | apply Req_intro | refine nilT ?_ fun hn => ?_ | apply wk_draw Tryd_mixed | refine drawEnd (by kernel_rfl) ?_)
   | (with_reducible (first | apply condA_if | apply stepDG_ifN | apply stepDG_if | apply stepG_ifN | apply stepG_if)) <;> intro hb <;> (have hif := hb) <;> (try simp only [bo] at hif) <;> (try simp -implicitDefEqProofs (disch := omega) only [go_sem, hb]) <;> clear hb
   | simp (maxSteps := 1000000) -implicitDefEqProofs (disch := omega) only [go_sem])
 refine callp (one_spec 104 24) ?_
 try simp (maxSteps := 1000000) -implicitDefEqProofs (disch := omega) only [go_sem]
 repeat' (first
   | (with_reducible apply Req_intro); focus (first | omega | assumption | (simp; done))
   | with_reducible (first | apply Req_intro | refine nilT ?_ fun hn => ?_ | apply wk_draw Tryd_mixed | refine drawEnd (by kernel_rfl) ?_)
   | (with_reducible (first | apply condA_if | apply stepDG_ifN | apply stepDG_if | apply stepG_ifN | apply stepG_if)) <;> intro hb <;> (have hif := hb) <;> (try simp only [bo] at hif) <;> (try simp -implicitDefEqProofs (disch := omega) only [go_sem, hb]) <;> clear hb
   | simp (maxSteps := 1000000) -implicitDefEqProofs (disch := omega) only [go_sem])
 refine callp (gauge_spec 5) ?_
 try simp (maxSteps := 1000000) -implicitDefEqProofs (disch := omega) only [go_sem]
 repeat' (first
   | (with_reducible apply Req_intro); focus (first | omega | assumption | (simp; done))
   | with_reducible (first | apply Req_intro | refine nilT ?_ fun hn => ?_ | apply wk_draw Tryd_mixed | refine drawEnd (by kernel_rfl) ?_)
   | (with_reducible (first | apply condA_if | apply stepDG_ifN | apply stepDG_if | apply stepG_ifN | apply stepG_if)) <;> intro hb <;> (have hif := hb) <;> (try simp only [bo] at hif) <;> (try simp -implicitDefEqProofs (disch := omega) only [go_sem, hb]) <;> clear hb
   | simp (maxSteps := 1000000) -implicitDefEqProofs (disch := omega) only [go_sem])
 refine callp kAlike ?_
 try simp (maxSteps := 1000000) -implicitDefEqProofs (disch := omega) only [go_sem]
 repeat' (first
   | (with_reducible apply Req_intro); focus (first | omega | assumption | (simp; done))
   | with_reducible (first | apply Req_intro | refine nilT ?_ fun hn => ?_ | apply wk_draw Tryd_mixed | refine drawEnd (by kernel_rfl) ?_)
   | (with_reducible (first | apply condA_if | apply stepDG_ifN | apply stepDG_if | apply stepG_ifN | apply stepG_if)) <;> intro hb <;> (have hif := hb) <;> (try simp only [bo] at hif) <;> (try simp -implicitDefEqProofs (disch := omega) only [go_sem, hb]) <;> clear hb
   | simp (maxSteps := 1000000) -implicitDefEqProofs (disch := omega) only [go_sem])
 refine callp stock_spec ?_
 try simp (maxSteps := 1000000) -implicitDefEqProofs (disch := omega) only [go_sem]
 repeat' (first
   | (with_reducible apply Req_intro); focus (first | omega | assumption | (simp; done))
   | with_reducible (first | apply Req_intro | refine nilT ?_ fun hn => ?_ | apply wk_draw Tryd_mixed | refine drawEnd (by kernel_rfl) ?_)
   | (with_reducible (first | apply condA_if | apply stepDG_ifN | apply stepDG_if | apply stepG_ifN | apply stepG_if)) <;> intro hb <;> (have hif := hb) <;> (try simp only [bo] at hif) <;> (try simp -implicitDefEqProofs (disch := omega) only [go_sem, hb]) <;> clear hb
   | simp (maxSteps := 1000000) -implicitDefEqProofs (disch := omega) only [go_sem])
 refine callp (gauge_spec 5) ?_
 try simp (maxSteps := 1000000) -implicitDefEqProofs (disch := omega) only [go_sem]
 repeat' (first
   | (with_reducible apply Req_intro); focus (first | omega | assumption | (simp; done))
   | with_reducible (first | apply Req_intro | refine nilT ?_ fun hn => ?_ | apply wk_draw Tryd_mixed | refine drawEnd (by kernel_rfl) ?_)
   | (with_reducible (first | apply condA_if | apply stepDG_ifN | apply stepDG_if | apply stepG_ifN | apply stepG_if)) <;> intro hb <;> (have hif := hb) <;> (try simp only [bo] at hif) <;> (try simp -implicitDefEqProofs (disch := omega) only [go_sem, hb]) <;> clear hb
   | simp (maxSteps := 1000000) -implicitDefEqProofs (disch := omega) only [go_sem])
 refine callp kPairs ?_
 try simp (maxSteps := 1000000) -implicitDefEqProofs (disch := omega) only [go_sem]
 repeat' (first
   | (with_reducible apply Req_intro); focus (first | omega | assumption | (simp; done))
   | with_reducible (first | apply Req_intro | refine nilT ?_ fun hn => ?_ | apply wk_draw Tryd_mixed | refine drawEnd (by kernel_rfl) ?_)
   | (with_reducible (first | apply condA_if | apply stepDG_ifN | apply stepDG_if | apply stepG_ifN | apply stepG_if)) <;> intro hb <;> (have hif := hb) <;> (try simp only [bo] at hif) <;> (try simp -implicitDefEqProofs (disch := omega) only [go_sem, hb]) <;> clear hb
   | simp (maxSteps := 1000000) -implicitDefEqProofs (disch := omega) only [go_sem])
 refine callp stock_spec ?_
 try simp (maxSteps := 1000000) -implicitDefEqProofs (disch := omega) only [go_sem]
 repeat' (first
   | (with_reducible apply Req_intro); focus (first | omega | assumption | (simp; done))
   | with_reducible (first | apply Req_intro | refine nilT ?_ fun hn => ?_ | apply wk_draw Tryd_mixed | refine drawEnd (by kernel_rfl) ?_)
   | (with_reducible (first | apply condA_if | apply stepDG_ifN | apply stepDG_if | apply stepG_ifN | apply stepG_if)) <;> intro hb <;> (have hif := hb) <;> (try simp only [bo] at hif) <;> (try simp -implicitDefEqProofs (disch := omega) only [go_sem, hb]) <;> clear hb
   | simp (maxSteps := 1000000) -implicitDefEqProofs (disch := omega) only [go_sem])
 refine callp (gauge_spec 5) ?_
 try simp (maxSteps := 1000000) -implicitDefEqProofs (disch := omega) only [go_sem]
 repeat' (first
   | (with_reducible apply Req_intro); focus (first | omega | assumption | (simp; done))
   | with_reducible (first | apply Req_intro | refine nilT ?_ fun hn => ?_ | apply wk_draw Tryd_mixed | refine drawEnd (by kernel_rfl) ?_)
   | (with_reducible (first | apply condA_if | apply stepDG_ifN | apply stepDG_if | apply stepG_ifN | apply stepG_if)) <;> intro hb <;> (have hif := hb) <;> (try simp only [bo] at hif) <;> (try simp -implicitDefEqProofs (disch := omega) only [go_sem, hb]) <;> clear hb
   | simp (maxSteps := 1000000) -implicitDefEqProofs (disch := omega) only [go_sem])
 refine callp kPossible ?_
 try simp (maxSteps := 1000000) -implicitDefEqProofs (disch := omega) only [go_sem]
 repeat' (first
   | (with_reducible apply Req_intro); focus (first | omega | assumption | (simp; done))
   | with_reducible (first | apply Req_intro | refine nilT ?_ fun hn => ?_ | apply wk_draw Tryd_mixed | refine drawEnd (by kernel_rfl) ?_)
   | (with_reducible (first | apply condA_if | apply stepDG_ifN | apply stepDG_if | apply stepG_ifN | apply stepG_if)) <;> intro hb <;> (have hif := hb) <;> (try simp only [bo] at hif) <;> (try simp -implicitDefEqProofs (disch := omega) only [go_sem, hb]) <;> clear hb
   | simp (maxSteps := 1000000) -implicitDefEqProofs (disch := omega) only [go_sem])
 refine callp stock_spec ?_
 try simp (maxSteps := 1000000) -implicitDefEqProofs (disch := omega) only [go_sem]
 repeat' (first
   | (with_reducible apply Req_intro); focus (first | omega | assumption | (simp; done))
   | with_reducible (first | apply Req_intro | refine nilT ?_ fun hn => ?_ | apply wk_draw Tryd_mixed | refine drawEnd (by kernel_rfl) ?_)
   | (with_reducible (first | apply condA_if | apply stepDG_ifN | apply stepDG_if | apply stepG_ifN | apply stepG_if)) <;> intro hb <;> (have hif := hb) <;> (try simp only [bo] at hif) <;> (try simp -implicitDefEqProofs (disch := omega) only [go_sem, hb]) <;> clear hb
   | simp (maxSteps := 1000000) -implicitDefEqProofs (disch := omega) only [go_sem])
 refine callp (gauge_spec 5) ?_
 try simp (maxSteps := 1000000) -implicitDefEqProofs (disch := omega) only [go_sem]
 repeat' (first
   | (with_reducible apply Req_intro); focus (first | omega | assumption | (simp; done))
   | with_reducible (first | apply Req_intro | refine nilT ?_ fun hn => ?_ | apply wk_draw Tryd_mixed | refine drawEnd (by kernel_rfl) ?_)
   | (with_reducible (first | apply condA_if | apply stepDG_ifN | apply stepDG_if | apply stepG_ifN | apply stepG_if)) <;> intro hb <;> (have hif := hb) <;> (try simp only [bo] at hif) <;> (try simp -implicitDefEqProofs (disch := omega) only [go_sem, hb]) <;> clear hb
   | simp (maxSteps := 1000000) -implicitDefEqProofs (disch := omega) only [go_sem])
 refine callp kCover ?_
 try simp (maxSteps := 1000000) -implicitDefEqProofs (disch := omega) only [go_sem]
 repeat' (first
   | (with_reducible apply Req_intro); focus (first | omega | assumption | (simp; done))
   | with_reducible (first | apply Req_intro | refine nilT ?_ fun hn => ?_ | apply wk_draw Tryd_mixed | refine drawEnd (by kernel_rfl) ?_)
   | (with_reducible (first | apply condA_if | apply stepDG_ifN | apply stepDG_if | apply stepG_ifN | apply stepG_if)) <;> intro hb <;> (have hif := hb) <;> (try simp only [bo] at hif) <;> (try simp -implicitDefEqProofs (disch := omega) only [go_sem, hb]) <;> clear hb
   | simp (maxSteps := 1000000) -implicitDefEqProofs (disch := omega) only [go_sem])
 refine callp stock_spec ?_
 try simp (maxSteps := 1000000) -implicitDefEqProofs (disch := omega) only [go_sem]
 repeat' (first
   | (with_reducible apply Req_intro); focus (first | omega | assumption | (simp; done))
   | with_reducible (first | apply Req_intro | refine nilT ?_ fun hn => ?_ | apply wk_draw Tryd_mixed | refine drawEnd (by kernel_rfl) ?_)
   | (with_reducible (first | apply condA_if | apply stepDG_ifN | apply stepDG_if | apply stepG_ifN | apply stepG_if)) <;> intro hb <;> (have hif := hb) <;> (try simp only [bo] at hif) <;> (try simp -implicitDefEqProofs (disch := omega) only [go_sem, hb]) <;> clear hb
   | simp (maxSteps := 1000000) -implicitDefEqProofs (disch := omega) only [go_sem])
 refine callp (gauge_spec 5) ?_
 try simp (maxSteps := 1000000) -implicitDefEqProofs (disch := omega) only [go_sem]
 repeat' (first
   | (with_reducible apply Req_intro); focus (first | omega | assumption | (simp; done))
   | with_reducible (first | apply Req_intro | refine nilT ?_ fun hn => ?_ | apply wk_draw Tryd_mixed | refine drawEnd (by kernel_rfl) ?_)
   | (with_reducible (first | apply condA_if | apply stepDG_ifN | apply stepDG_if | apply stepG_ifN | apply stepG_if)) <;> intro hb <;> (have hif := hb) <;> (try simp only [bo] at hif) <;> (try simp -implicitDefEqProofs (disch := omega) only [go_sem, hb]) <;> clear hb
   | simp (maxSteps := 1000000) -implicitDefEqProofs (disch := omega) only [go_sem])
 refine callp kSpare ?_
 try simp (maxSteps := 1000000) -implicitDefEqProofs (disch := omega) only [go_sem]
 repeat' (first
   | (with_reducible apply Req_intro); focus (first | omega | assumption | (simp; done))
   | with_reducible (first | apply Req_intro | refine nilT ?_ fun hn => ?_ | apply wk_draw Tryd_mixed | refine drawEnd (by kernel_rfl) ?_)
   | (with_reducible (first | apply condA_if | apply stepDG_ifN | apply stepDG_if | apply stepG_ifN | apply stepG_if)) <;> intro hb <;> (have hif := hb) <;> (try simp only [bo] at hif) <;> (try simp -implicitDefEqProofs (disch := omega) only [go_sem, hb]) <;> clear hb
   | simp (maxSteps := 1000000) -implicitDefEqProofs (disch := omega) only [go_sem])
 refine callp stock_spec ?_
 try simp (maxSteps := 1000000) -implicitDefEqProofs (disch := omega) only [go_sem]
 repeat' (first
   | (with_reducible apply Req_intro); focus (first | omega | assumption | (simp; done))
   | with_reducible (first | apply Req_intro | refine nilT ?_ fun hn => ?_ | apply wk_draw Tryd_mixed | refine drawEnd (by kernel_rfl) ?_)
   | (with_reducible (first | apply condA_if | apply stepDG_ifN | apply stepDG_if | apply stepG_ifN | apply stepG_if)) <;> intro hb <;> (have hif := hb) <;> (try simp only [bo] at hif) <;> (try simp -implicitDefEqProofs (disch := omega) only [go_sem, hb]) <;> clear hb
   | simp (maxSteps := 1000000) -implicitDefEqProofs (disch := omega) only [go_sem])
 refine callp (gauge_spec 6) ?_
 try simp (maxSteps := 1000000) -implicitDefEqProofs (disch := omega) only [go_sem]
 repeat' (first
   | (with_reducible apply Req_intro); focus (first | omega | assumption | (simp; done))
   | with_reducible (first | apply Req_intro | refine nilT ?_ fun hn => ?_ | apply wk_draw Tryd_mixed | refine drawEnd (by kernel_rfl) ?_)
   | (with_reducible (first | apply condA_if | apply stepDG_ifN | apply stepDG_if | apply stepG_ifN | apply stepG_if)) <;> intro hb <;> (have hif := hb) <;> (try simp only [bo] at hif) <;> (try simp -implicitDefEqProofs (disch := omega) only [go_sem, hb]) <;> clear hb
   | simp (maxSteps := 1000000) -implicitDefEqProofs (disch := omega) only [go_sem])
 refine callp kTwins ?_
 try simp (maxSteps := 1000000) -implicitDefEqProofs (disch := omega) only [go_sem]
 repeat' (first
   | (with_reducible apply Req_intro); focus (first | omega | assumption | (simp; done))
   | with_reducible (first | apply Req_intro | refine nilT ?_ fun hn => ?_ | apply wk_draw Tryd_mixed | refine drawEnd (by kernel_rfl) ?_)
   | (with_reducible (first | apply condA_if | apply stepDG_ifN | apply stepDG_if | apply stepG_ifN | apply stepG_if)) <;> intro hb <;> (have hif := hb) <;> (try simp only [bo] at hif) <;> (try simp -implicitDefEqProofs (disch := omega) only [go_sem, hb]) <;> clear hb
   | simp (maxSteps := 1000000) -implicitDefEqProofs (disch := omega) only [go_sem])
 refine callp stock_spec ?_
 try simp (maxSteps := 1000000) -implicitDefEqProofs (disch := omega) only [go_sem]
 repeat' (first
   | (with_reducible apply Req_intro); focus (first | omega | assumption | (simp; done))
   | with_reducible (first | apply Req_intro | refine nilT ?_ fun hn => ?_ | apply wk_draw Tryd_mixed | refine drawEnd (by kernel_rfl) ?_)
   | (with_reducible (first | apply condA_if | apply stepDG_ifN | apply stepDG_if | apply stepG_ifN | apply stepG_if)) <;> intro hb <;> (have hif := hb) <;> (try simp only [bo] at hif) <;> (try simp -implicitDefEqProofs (disch := omega) only [go_sem, hb]) <;> clear hb
   | simp (maxSteps := 1000000) -implicitDefEqProofs (disch := omega) only [go_sem])
 refine callp (gauge_spec 5) ?_
 try simp (maxSteps := 1000000) -implicitDefEqProofs (disch := omega) only [go_sem]
 repeat' (first
   | (with_reducible apply Req_intro); focus (first | omega | assumption | (simp; done))
   | with_reducible (first | apply Req_intro | refine nilT ?_ fun hn => ?_ | apply wk_draw Tryd_mixed | refine drawEnd (by kernel_rfl) ?_)
   | (with_reducible (first | apply condA_if | apply stepDG_ifN | apply stepDG_if | apply stepG_ifN | apply stepG_if)) <;> intro hb <;> (have hif := hb) <;> (try simp only [bo] at hif) <;> (try simp -implicitDefEqProofs (disch := omega) only [go_sem, hb]) <;> clear hb
   | simp (maxSteps := 1000000) -implicitDefEqProofs (disch := omega) only [go_sem])
 refine callp kCut ?_
 try simp (maxSteps := 1000000) -implicitDefEqProofs (disch := omega) only [go_sem]
 repeat' (first
   | (with_reducible apply Req_intro); focus (first | omega | assumption | (simp; done))
   | with_reducible (first | apply Req_intro | refine nilT ?_ fun hn => ?_ | apply wk_draw Tryd_mixed | refine drawEnd (by kernel_rfl) ?_)
   | (with_reducible (first | apply condA_if | apply stepDG_ifN | apply stepDG_if | apply stepG_ifN | apply stepG_if)) <;> intro hb <;> (have hif := hb) <;> (try simp only [bo] at hif) <;> (try simp -implicitDefEqProofs (disch := omega) only [go_sem, hb]) <;> clear hb
   | simp (maxSteps := 1000000) -implicitDefEqProofs (disch := omega) only [go_sem])
 refine callp stock_spec ?_
 try simp (maxSteps := 1000000) -implicitDefEqProofs (disch := omega) only [go_sem]
 repeat' (first
   | (with_reducible apply Req_intro); focus (first | omega | assumption | (simp; done))
   | with_reducible (first | apply Req_intro | refine nilT ?_ fun hn => ?_ | apply wk_draw Tryd_mixed | refine drawEnd (by kernel_rfl) ?_)
   | (with_reducible (first | apply condA_if | apply stepDG_ifN | apply stepDG_if | apply stepG_ifN | apply stepG_if)) <;> intro hb <;> (have hif := hb) <;> (try simp only [bo] at hif) <;> (try simp -implicitDefEqProofs (disch := omega) only [go_sem, hb]) <;> clear hb
   | simp (maxSteps := 1000000) -implicitDefEqProofs (disch := omega) only [go_sem])
 refine callp (gauge_spec 5) ?_
 try simp (maxSteps := 1000000) -implicitDefEqProofs (disch := omega) only [go_sem]
 repeat' (first
   | (with_reducible apply Req_intro); focus (first | omega | assumption | (simp; done))
   | with_reducible (first | apply Req_intro | refine nilT ?_ fun hn => ?_ | apply wk_draw Tryd_mixed | refine drawEnd (by kernel_rfl) ?_)
   | (with_reducible (first | apply condA_if | apply stepDG_ifN | apply stepDG_if | apply stepG_ifN | apply stepG_if)) <;> intro hb <;> (have hif := hb) <;> (try simp only [bo] at hif) <;> (try simp -implicitDefEqProofs (disch := omega) only [go_sem, hb]) <;> clear hb
   | simp (maxSteps := 1000000) -implicitDefEqProofs (disch := omega) only [go_sem])
 refine callp kLook ?_
 try simp (maxSteps := 1000000) -implicitDefEqProofs (disch := omega) only [go_sem]
 repeat' (first
   | (with_reducible apply Req_intro); focus (first | omega | assumption | (simp; done))
   | with_reducible (first | apply Req_intro | refine nilT ?_ fun hn => ?_ | apply wk_draw Tryd_mixed | refine drawEnd (by kernel_rfl) ?_)
   | (with_reducible (first | apply condA_if | apply stepDG_ifN | apply stepDG_if | apply stepG_ifN | apply stepG_if)) <;> intro hb <;> (have hif := hb) <;> (try simp only [bo] at hif) <;> (try simp -implicitDefEqProofs (disch := omega) only [go_sem, hb]) <;> clear hb
   | simp (maxSteps := 1000000) -implicitDefEqProofs (disch := omega) only [go_sem])
 refine callp stock_spec ?_
 try simp (maxSteps := 1000000) -implicitDefEqProofs (disch := omega) only [go_sem]
 repeat' (first
   | (with_reducible apply Req_intro); focus (first | omega | assumption | (simp; done))
   | with_reducible (first | apply Req_intro | refine nilT ?_ fun hn => ?_ | apply wk_draw Tryd_mixed | refine drawEnd (by kernel_rfl) ?_)
   | (with_reducible (first | apply condA_if | apply stepDG_ifN | apply stepDG_if | apply stepG_ifN | apply stepG_if)) <;> intro hb <;> (have hif := hb) <;> (try simp only [bo] at hif) <;> (try simp -implicitDefEqProofs (disch := omega) only [go_sem, hb]) <;> clear hb
   | simp (maxSteps := 1000000) -implicitDefEqProofs (disch := omega) only [go_sem])
 refine callp (gauge_spec 5) ?_
 try simp (maxSteps := 1000000) -implicitDefEqProofs (disch := omega) only [go_sem]
 repeat' (first
   | (with_reducible apply Req_intro); focus (first | omega | assumption | (simp; done))
   | with_reducible (first | apply Req_intro | refine nilT ?_ fun hn => ?_ | apply wk_draw Tryd_mixed | refine drawEnd (by kernel_rfl) ?_)
   | (with_reducible (first | apply condA_if | apply stepDG_ifN | apply stepDG_if | apply stepG_ifN | apply stepG_if)) <;> intro hb <;> (have hif := hb) <;> (try simp only [bo] at hif) <;> (try simp -implicitDefEqProofs (disch := omega) only [go_sem, hb]) <;> clear hb
   | simp (maxSteps := 1000000) -implicitDefEqProofs (disch := omega) only [go_sem])
 refine callp kBalance ?_
 try simp (maxSteps := 1000000) -implicitDefEqProofs (disch := omega) only [go_sem]
 repeat' (first
   | (with_reducible apply Req_intro); focus (first | omega | assumption | (simp; done))
   | with_reducible (first | apply Req_intro | refine nilT ?_ fun hn => ?_ | apply wk_draw Tryd_mixed | refine drawEnd (by kernel_rfl) ?_)
   | (with_reducible (first | apply condA_if | apply stepDG_ifN | apply stepDG_if | apply stepG_ifN | apply stepG_if)) <;> intro hb <;> (have hif := hb) <;> (try simp only [bo] at hif) <;> (try simp -implicitDefEqProofs (disch := omega) only [go_sem, hb]) <;> clear hb
   | simp (maxSteps := 1000000) -implicitDefEqProofs (disch := omega) only [go_sem])
 refine callp (pair_spec 0 0) ?_
 try simp (maxSteps := 1000000) -implicitDefEqProofs (disch := omega) only [go_sem]
 repeat' (first
   | (with_reducible apply Req_intro); focus (first | omega | assumption | (simp; done))
   | with_reducible (first | apply Req_intro | refine nilT ?_ fun hn => ?_ | apply wk_draw Tryd_mixed | refine drawEnd (by kernel_rfl) ?_)
   | (with_reducible (first | apply condA_if | apply stepDG_ifN | apply stepDG_if | apply stepG_ifN | apply stepG_if)) <;> intro hb <;> (have hif := hb) <;> (try simp only [bo] at hif) <;> (try simp -implicitDefEqProofs (disch := omega) only [go_sem, hb]) <;> clear hb
   | simp (maxSteps := 1000000) -implicitDefEqProofs (disch := omega) only [go_sem])
 all_goals first | (exfalso; omega) | skip
 refine callp (pair_spec 1 1) ?_
 try simp (maxSteps := 1000000) -implicitDefEqProofs (disch := omega) only [go_sem]
 repeat' (first
   | (with_reducible apply Req_intro); focus (first | omega | assumption | (simp; done))
   | with_reducible (first | apply Req_intro | refine nilT ?_ fun hn => ?_ | apply wk_draw Tryd_mixed | refine drawEnd (by kernel_rfl) ?_)
   | (with_reducible (first | apply condA_if | apply stepDG_ifN | apply stepDG_if | apply stepG_ifN | apply stepG_if)) <;> intro hb <;> (have hif := hb) <;> (try simp only [bo] at hif) <;> (try simp -implicitDefEqProofs (disch := omega) only [go_sem, hb]) <;> clear hb
   | simp (maxSteps := 1000000) -implicitDefEqProofs (disch := omega) only [go_sem])
 all_goals first | (exfalso; omega) | skip
 refine callc (kAll [(0, 0), (1, 1)] false true (by decide)) ?_
 try simp (maxSteps := 1000000) -implicitDefEqProofs (disch := omega) only [go_sem]
 repeat' (first
   | (with_reducible apply Req_intro); focus (first | omega | assumption | (simp; done))
   | with_reducible (first | apply Req_intro | refine nilT ?_ fun hn => ?_ | apply wk_draw Tryd_mixed | refine drawEnd (by kernel_rfl) ?_)
   | (with_reducible (first | apply condA_if | apply stepDG_ifN | apply stepDG_if | apply stepG_ifN | apply stepG_if)) <;> intro hb <;> (have hif := hb) <;> (try simp only [bo] at hif) <;> (try simp -implicitDefEqProofs (disch := omega) only [go_sem, hb]) <;> clear hb
   | simp (maxSteps := 1000000) -implicitDefEqProofs (disch := omega) only [go_sem])
 all_goals first | (exfalso; omega) | skip
 refine callc (kInts [0, 1] false true (by decide)) ?_
 try simp (maxSteps := 1000000) -implicitDefEqProofs (disch := omega) only [go_sem]
 repeat' (first
   | (with_reducible apply Req_intro); focus (first | omega | assumption | (simp; done))
   | with_reducible (first | apply Req_intro | refine nilT ?_ fun hn => ?_ | apply wk_draw Tryd_mixed | refine drawEnd (by kernel_rfl) ?_)
   | (with_reducible (first | apply condA_if | apply stepDG_ifN | apply stepDG_if | apply stepG_ifN | apply stepG_if)) <;> intro hb <;> (have hif := hb) <;> (try simp only [bo] at hif) <;> (try simp -implicitDefEqProofs (disch := omega) only [go_sem, hb]) <;> clear hb
   | simp (maxSteps := 1000000) -implicitDefEqProofs (disch := omega) only [go_sem])
 all_goals first | (exfalso; omega) | skip
 refine callc (kInts [2] false true (by decide)) ?_
 try simp (maxSteps := 1000000) -implicitDefEqProofs (disch := omega) only [go_sem]
 repeat' (first
   | (with_reducible apply Req_intro); focus (first | omega | assumption | (simp; done))
   | with_reducible (first | apply Req_intro | refine nilT ?_ fun hn => ?_ | apply wk_draw Tryd_mixed | refine drawEnd (by kernel_rfl) ?_)
   | (with_reducible (first | apply condA_if | apply stepDG_ifN | apply stepDG_if | apply stepG_ifN | apply stepG_if)) <;> intro hb <;> (have hif := hb) <;> (try simp only [bo] at hif) <;> (try simp -implicitDefEqProofs (disch := omega) only [go_sem, hb]) <;> clear hb
   | simp (maxSteps := 1000000) -implicitDefEqProofs (disch := omega) only [go_sem])
 all_goals first | (exfalso; omega) | skip
 refine callc (kInts [2] false true (by decide)) ?_
 try simp (maxSteps := 1000000) -implicitDefEqProofs (disch := omega) only [go_sem]
 repeat' (first
   | (with_reducible apply Req_intro); focus (first | omega | assumption | (simp; done))
   | with_reducible (first | apply Req_intro | refine nilT ?_ fun hn => ?_ | apply wk_draw Tryd_mixed | refine drawEnd (by kernel_rfl) ?_)
   | (with_reducible (first | apply condA_if | apply stepDG_ifN | apply stepDG_if | apply stepG_ifN | apply stepG_if)) <;> intro hb <;> (have hif := hb) <;> (try simp only [bo] at hif) <;> (try simp -implicitDefEqProofs (disch := omega) only [go_sem, hb]) <;> clear hb
   | simp (maxSteps := 1000000) -implicitDefEqProofs (disch := omega) only [go_sem])
 all_goals first | (exfalso; omega) | skip
 refine callc (kAll [(0, 0), (1, 1)] false false (by decide)) ?_
 try simp (maxSteps := 1000000) -implicitDefEqProofs (disch := omega) only [go_sem]
 repeat' (first
   | (with_reducible apply Req_intro); focus (first | omega | assumption | (simp; done))
   | with_reducible (first | apply Req_intro | refine nilT ?_ fun hn => ?_ | apply wk_draw Tryd_mixed | refine drawEnd (by kernel_rfl) ?_)
   | (with_reducible (first | apply condA_if | apply stepDG_ifN | apply stepDG_if | apply stepG_ifN | apply stepG_if)) <;> intro hb <;> (have hif := hb) <;> (try simp only [bo] at hif) <;> (try simp -implicitDefEqProofs (disch := omega) only [go_sem, hb]) <;> clear hb
   | simp (maxSteps := 1000000) -implicitDefEqProofs (disch := omega) only [go_sem])
 all_goals first | (exfalso; omega) | skip
 refine callp (pair_spec 0 1) ?_
 try simp (maxSteps := 1000000) -implicitDefEqProofs (disch := omega) only [go_sem]
 repeat' (first
   | (with_reducible apply Req_intro); focus (first | omega | assumption | (simp; done))
   | with_reducible (first | apply Req_intro | refine nilT ?_ fun hn => ?_ | apply wk_draw Tryd_mixed | refine drawEnd (by kernel_rfl) ?_)
   | (with_reducible (first | apply condA_if | apply stepDG_ifN | apply stepDG_if | apply stepG_ifN | apply stepG_if)) <;> intro hb <;> (have hif := hb) <;> (try simp only [bo] at hif) <;> (try simp -implicitDefEqProofs (disch := omega) only [go_sem, hb]) <;> clear hb
   | simp (maxSteps := 1000000) -implicitDefEqProofs (disch := omega) only [go_sem])
 all_goals first | (exfalso; omega) | skip
 refine callp (pair_spec 1 0) ?_
 try simp (maxSteps := 1000000) -implicitDefEqProofs (disch := omega) only [go_sem]
 repeat' (first
   | (with_reducible apply Req_intro); focus (first | omega | assumption | (simp; done))
   | with_reducible (first | apply Req_intro | refine nilT ?_ fun hn => ?_ | apply wk_draw Tryd_mixed | refine drawEnd (by kernel_rfl) ?_)
   | (with_reducible (first | apply condA_if | apply stepDG_ifN | apply stepDG_if | apply stepG_ifN | apply stepG_if)) <;> intro hb <;> (have hif := hb) <;> (try simp only [bo] at hif) <;> (try simp -implicitDefEqProofs (disch := omega) only [go_sem, hb]) <;> clear hb
   | simp (maxSteps := 1000000) -implicitDefEqProofs (disch := omega) only [go_sem])
 all_goals first | (exfalso; omega) | skip
 refine callp (pair_spec 2 2) ?_
 try simp (maxSteps := 1000000) -implicitDefEqProofs (disch := omega) only [go_sem]
 repeat' (first
   | (with_reducible apply Req_intro); focus (first | omega | assumption | (simp; done))
   | with_reducible (first | apply Req_intro | refine nilT ?_ fun hn => ?_ | apply wk_draw Tryd_mixed | refine drawEnd (by kernel_rfl) ?_)
   | (with_reducible (first | apply condA_if | apply stepDG_ifN | apply stepDG_if | apply stepG_ifN | apply stepG_if)) <;> intro hb <;> (have hif := hb) <;> (try simp only [bo] at hif) <;> (try simp -implicitDefEqProofs (disch := omega) only [go_sem, hb]) <;> clear hb
   | simp (maxSteps := 1000000) -implicitDefEqProofs (disch := omega) only [go_sem])
 all_goals first | (exfalso; omega) | skip
 refine callc (kAll [(0, 1), (1, 0), (2, 2)] false true (by decide)) ?_
 try simp (maxSteps := 1000000) -implicitDefEqProofs (disch := omega) only [go_sem]
 repeat' (first
   | (with_reducible apply Req_intro); focus (first | omega | assumption | (simp; done))
   | with_reducible (first | apply Req_intro | refine nilT ?_ fun hn => ?_ | apply wk_draw Tryd_mixed | refine drawEnd (by kernel_rfl) ?_)
   | (with_reducible (first | apply condA_if | apply stepDG_ifN | apply stepDG_if | apply stepG_ifN | apply stepG_if)) <;> intro hb <;> (have hif := hb) <;> (try simp only [bo] at hif) <;> (try simp -implicitDefEqProofs (disch := omega) only [go_sem, hb]) <;> clear hb
   | simp (maxSteps := 1000000) -implicitDefEqProofs (disch := omega) only [go_sem])
 all_goals first | (exfalso; omega) | skip
 refine callp stock_spec ?_
 try simp (maxSteps := 1000000) -implicitDefEqProofs (disch := omega) only [go_sem]
 repeat' (first
   | (with_reducible apply Req_intro); focus (first | omega | assumption | (simp; done))
   | with_reducible (first | apply Req_intro | refine nilT ?_ fun hn => ?_ | apply wk_draw Tryd_mixed | refine drawEnd (by kernel_rfl) ?_)
   | (with_reducible (first | apply condA_if | apply stepDG_ifN | apply stepDG_if | apply stepG_ifN | apply stepG_if)) <;> intro hb <;> (have hif := hb) <;> (try simp only [bo] at hif) <;> (try simp -implicitDefEqProofs (disch := omega) only [go_sem, hb]) <;> clear hb
   | simp (maxSteps := 1000000) -implicitDefEqProofs (disch := omega) only [go_sem])
 all_goals first | (exfalso; omega) | skip
 refine callp kCheck ?_
 try simp (maxSteps := 1000000) -implicitDefEqProofs (disch := omega) only [go_sem]
 repeat' (first
   | (with_reducible apply Req_intro); focus (first | omega | assumption | (simp; done))
   | with_reducible (first | apply Req_intro | refine nilT ?_ fun hn => ?_ | apply wk_draw Tryd_mixed | refine drawEnd (by kernel_rfl) ?_)
   | (with_reducible (first | apply condA_if | apply stepDG_ifN | apply stepDG_if | apply stepG_ifN | apply stepG_if)) <;> intro hb <;> (have hif := hb) <;> (try simp only [bo] at hif) <;> (try simp -implicitDefEqProofs (disch := omega) only [go_sem, hb]) <;> clear hb
   | simp (maxSteps := 1000000) -implicitDefEqProofs (disch := omega) only [go_sem])
 all_goals first | (exfalso; omega) | skip
 refine ret_do ?_
 rfl
end Go.Aw
end
section
namespace Go.Aw
open Go.RowKit
def permsR (n : Nat) : Nat → Nat → List (List Nat)
 | 0, _ => [[]]
 | m + 1, taken => (List.range n).flatMap fun k => if taken.testBit k then [] else (permsR n m (taken ||| 2 ^ k)).map (k :: ·)
def valTo (f : Nat → Nat → Int) (ks : List Nat) : Nat → Int
 | 0 => 0
 | k + 1 => max (valTo f ks k) (f k (ks.getD k 0))
def valR (f : Nat → Nat → Int) (ks : List Nat) : Int := valTo f ks ks.length
def balStep (f : Nat → Nat → Int) (st : List Nat × Int) (ks : List Nat) : List Nat × Int := if valR f ks < st.2 then (ks, valR f ks) else st
def refBal (f : Nat → Nat → Int) (n : Nat) : Nat → List Nat → List Nat × Int → List Nat × Int
 | 0, now, st => balStep f st now
 | m + 1, now, st => (List.range n).foldl (fun st k => if decide (k ∈ now) then st else refBal f n m (now ++ [k]) st) st
theorem foldl_flat {α β γ : Type} (g : α → List β) (s : γ → β → γ) : ∀ (l : List α) (b : γ), (l.flatMap g).foldl s b = l.foldl (fun b x => (g x).foldl s b) b
 | [], b => rfl
 | a :: l, b => by rw [List.flatMap_cons, List.foldl_append, List.foldl_cons, foldl_flat g s l]
theorem foldl_cong {α γ : Type} {s s' : γ → α → γ} : ∀ (l : List α) (b : γ), (∀ b, ∀ x ∈ l, s b x = s' b x) → l.foldl s b = l.foldl s' b
 | [], b, _ => rfl
 | a :: l, b, h => by rw [List.foldl_cons, List.foldl_cons, h b a (by simp), foldl_cong l _ fun b x hx => h b x (List.mem_cons_of_mem _ hx)]
theorem refBal_eq (f : Nat → Nat → Int) (n : Nat) : ∀ (m : Nat) (now : List Nat) (taken : Nat) (st : List Nat × Int), (∀ k, taken.testBit k = decide (k ∈ now)) →
   refBal f n m now st = ((permsR n m taken).map (now ++ ·)).foldl (balStep f) st
 | 0, now, taken, st, _ => by simp [refBal, permsR]
 | m + 1, now, taken, st, h => by
   rw [refBal, permsR, List.map_flatMap, foldl_flat]
   refine foldl_cong _ _ fun b k _ => ?_
   rw [← h k]
   cases hk : taken.testBit k with
   | true => simp
   | false =>
     simp only [Bool.false_eq_true, if_false]
     rw [refBal_eq f n m (now ++ [k]) (taken ||| 2 ^ k) b fun j => by
       rw [Nat.testBit_or, h j, Nat.testBit_two_pow]
       by_cases e : j = k
       · subst e; simp
       · simp [e, Ne.symm e]]
     rw [List.map_map]
     congr 2
     funext s
     simp
theorem fold_best (f : Nat → Nat → Int) : ∀ (L : List (List Nat)) (st : List Nat × Int),
   (∀ ks ∈ L, (L.foldl (balStep f) st).2 ≤ valR f ks) ∧ (L.foldl (balStep f) st).2 ≤ st.2 ∧
   ((L.foldl (balStep f) st = st ∧ ∀ ks ∈ L, st.2 ≤ valR f ks) ∨ (L.find? (fun ks => decide (valR f ks ≤ (L.foldl (balStep f) st).2)) = some (L.foldl (balStep f) st).1 ∧ valR f (L.foldl (balStep f) st).1 = (L.foldl (balStep f) st).2 ∧ (L.foldl (balStep f) st).2 < st.2))
 | [], st => ⟨fun ks h => (by cases h), Int.le_refl _, .inl ⟨rfl, fun ks h => by cases h⟩⟩
 | a :: L, st => by
   obtain ⟨h1, h2, h3⟩ := fold_best f L (balStep f st a)
   rw [List.foldl_cons]
   generalize hr : L.foldl (balStep f) (balStep f st a) = r at *
   by_cases hlt : valR f a < st.2
   · rw [balStep, if_pos hlt] at h2 h3
     simp only at h2 h3
     refine ⟨fun ks hk => ?_, by omega, .inr ?_⟩
     · rcases List.mem_cons.1 hk with rfl | hk
       · exact h2
       · exact h1 ks hk
     · rcases h3 with ⟨rfl, h4⟩ | ⟨h4, h5, h6⟩
       · exact ⟨by rw [List.find?_cons_of_pos (by simp)], rfl, hlt⟩
       · exact ⟨by rw [List.find?_cons_of_neg (by simp only [decide_eq_true_eq]; omega)]; exact h4, h5, by omega⟩
   · rw [balStep, if_neg hlt] at h2 h3
     refine ⟨fun ks hk => ?_, h2, ?_⟩
     · rcases List.mem_cons.1 hk with rfl | hk
       · omega
       · exact h1 ks hk
     · rcases h3 with ⟨h4, h5⟩ | ⟨h4, h5, h6⟩
       · refine .inl ⟨h4, fun ks hk => ?_⟩
         rcases List.mem_cons.1 hk with rfl | hk
         · omega
         · exact h5 ks hk
       · exact .inr ⟨by rw [List.find?_cons_of_neg (by simp only [decide_eq_true_eq]; omega)]; exact h4, h5, h6⟩
theorem mem_perms (n : Nat) : ∀ (m taken : Nat) (ks : List Nat), ks ∈ permsR n m taken ↔ ks.length = m ∧ ks.Nodup ∧ ∀ k ∈ ks, k < n ∧ taken.testBit k = false
 | 0, taken, ks => by
   rw [permsR, List.mem_singleton]
   constructor
   · rintro rfl; simp
   · rintro ⟨h, _⟩; exact List.eq_nil_of_length_eq_zero h
 | m + 1, taken, ks => by
   rw [permsR, List.mem_flatMap]
   constructor
   · rintro ⟨k, hk, h⟩
     rw [List.mem_range] at hk
     cases ht : taken.testBit k with
     | true => simp [ht] at h
     | false =>
       simp only [ht, Bool.false_eq_true, if_false, List.mem_map] at h
       obtain ⟨s, hs, rfl⟩ := h
       obtain ⟨h1, h2, h3⟩ := (mem_perms n m _ s).1 hs
       refine ⟨by simp [h1], List.nodup_cons.2 ⟨fun hm => ?_, h2⟩, fun x hx => ?_⟩
       · have := (h3 k hm).2
         rw [Nat.testBit_or, Nat.testBit_two_pow_self] at this
         simp at this
       · rcases List.mem_cons.1 hx with rfl | hx
         · exact ⟨hk, ht⟩
         · have := h3 x hx
           rw [Nat.testBit_or, Bool.or_eq_false_iff] at this
           exact ⟨this.1, this.2.1⟩
   · rintro ⟨h1, h2, h3⟩
     cases ks with
     | nil => cases h1
     | cons k s =>
       obtain ⟨h4, h5⟩ := h3 k (by simp)
       rw [List.nodup_cons] at h2
       refine ⟨k, List.mem_range.2 h4, ?_⟩
       rw [h5]
       simp only [Bool.false_eq_true, if_false, List.mem_map]
       refine ⟨s, (mem_perms n m _ s).2 ⟨by simpa using h1, h2.2, fun x hx => ⟨(h3 x (by simp [hx])).1, ?_⟩⟩, rfl⟩
       rw [Nat.testBit_or, Nat.testBit_two_pow, (h3 x (by simp [hx])).2]
       simp only [Bool.false_or, decide_eq_false_iff_not]
       rintro rfl
       exact h2.1 hx
theorem valTo_le (f : Nat → Nat → Int) (ks : List Nat) {w : Int} (h0 : 0 ≤ w) : ∀ n, valTo f ks n ≤ w ↔ ∀ i, i < n → f i (ks.getD i 0) ≤ w
 | 0 => ⟨fun _ i hi => absurd hi (Nat.not_lt_zero _), fun _ => h0⟩
 | n + 1 => by
   rw [valTo, Int.max_le, valTo_le f ks h0 n]
   constructor
   · rintro ⟨h1, h2⟩ i hi
     rcases Nat.lt_succ_iff_lt_or_eq.1 hi with h | rfl
     · exact h1 i h
     · exact h2
   · intro h
     exact ⟨fun i hi => h i (by omega), h n (by omega)⟩
theorem valTo_nonneg (f : Nat → Nat → Int) (ks : List Nat) : ∀ n, 0 ≤ valTo f ks n
 | 0 => Int.le_refl _
 | n + 1 => by have := valTo_nonneg f ks n; rw [valTo]; omega
theorem valTo_is (f : Nat → Nat → Int) (ks : List Nat) : ∀ n, valTo f ks n = 0 ∨ ∃ i, i < n ∧ valTo f ks n = f i (ks.getD i 0)
 | 0 => .inl rfl
 | n + 1 => by
   rw [valTo]
   rcases Int.le_total (valTo f ks n) (f n (ks.getD n 0)) with h | h
   · exact .inr ⟨n, by omega, by omega⟩
   · rcases valTo_is f ks n with h1 | ⟨i, hi, h1⟩
     · exact .inl (by omega)
     · exact .inr ⟨i, by omega, by omega⟩
def okFrom (T : List Nat) : Nat → List Nat → Bool
 | _, [] => true
 | i, k :: s => (T.getD i 0).testBit k && okFrom T (i + 1) s
theorem okFrom_iff (T : List Nat) : ∀ (s : List Nat) (i : Nat), okFrom T i s = true ↔ ∀ j, j < s.length → (T.getD (i + j) 0).testBit (s.getD j 0) = true
 | [], i => by simp [okFrom]
 | k :: s, i => by
   rw [okFrom, Bool.and_eq_true, okFrom_iff T s (i + 1)]
   constructor
   · rintro ⟨h1, h2⟩ j hj
     cases j with
     | zero => exact h1
     | succ j =>
       have := h2 j (by simpa using hj)
       rw [show i + 1 + j = i + (j + 1) from by omega] at this
       simpa using this
   · intro h
     refine ⟨h 0 (by simp), fun j hj => ?_⟩
     have := h (j + 1) (by simpa using hj)
     rw [show i + 1 + j = i + (j + 1) from by omega]
     simpa using this
theorem findSome_range {β : Type} {f : Nat → Option β} {b : β} : ∀ {n : Nat}, (List.range n).findSome? f = some b ↔ ∃ k, k < n ∧ f k = some b ∧ ∀ j, j < k → f j = none
 | 0 => by simp
 | n + 1 => by
   rw [List.range_succ, List.findSome?_append]
   constructor
   · intro h
     cases h1 : (List.range n).findSome? f with
     | some c =>
       rw [h1] at h
       cases h
       obtain ⟨k, hk, h2, h3⟩ := findSome_range.1 h1
       exact ⟨k, by omega, h2, h3⟩
     | none =>
       rw [h1] at h
       rw [List.findSome?_eq_none_iff] at h1
       refine ⟨n, by omega, by simpa using h, fun j hj => h1 j (List.mem_range.2 hj)⟩
   · rintro ⟨k, hk, h2, h3⟩
     rcases Nat.lt_succ_iff_lt_or_eq.1 hk with h | rfl
     · rw [findSome_range.2 ⟨k, h, h2, h3⟩]; rfl
     · rw [List.findSome?_eq_none_iff.2 fun j hj => h3 j (List.mem_range.1 hj)]
       simp [h2]
theorem find_rec (T : List Nat) (n m taken i : Nat) : (permsR n (m + 1) taken).find? (okFrom T i) = (List.range n).findSome? fun k => if taken.testBit k || !(T.getD i 0).testBit k then none else ((permsR n m (taken ||| 2 ^ k)).find? (okFrom T (i + 1))).map (k :: ·) := by
 rw [permsR, List.find?_flatMap]
 congr 1
 funext k
 cases ht : taken.testBit k with
 | true => simp
 | false =>
   simp only [Bool.false_eq_true, if_false, Bool.false_or, List.find?_map]
   cases hb : (T.getD i 0).testBit k with
   | true =>
     simp only [Bool.not_true, Bool.false_eq_true, if_false]
     congr 2
     funext s
     rw [Function.comp, okFrom, hb, Bool.true_and]
   | false =>
     simp only [Bool.not_false, if_true, Option.map_eq_none_iff, List.find?_eq_none]
     intro s _
     rw [Function.comp, okFrom, hb, Bool.false_and]
     decide
theorem maxM_len : ∀ (t : List Nat) (x : Nat), maxM t x ≤ t.length
 | [], x => Nat.le_refl _
 | a :: t, x => by
   have := maxM_head a t x
   have := maxM_len t x
   rw [List.length_cons]; omega
theorem maxM_full {T : List Nat} {n : Nat} (hb : ∀ i k, (T.getD i 0).testBit k = true → k < n) (hf : Few T) : ∀ (m i taken : Nat), i + m = T.length → (maxM (T.drop i) taken = m ↔ ((permsR n m taken).find? (okFrom T i)).isSome = true)
 | 0, i, taken, h => by
   rw [List.drop_of_length_le (by omega)]
   simp [permsR, okFrom, maxM]
 | m + 1, i, taken, h => by
   have hi : i < T.length := by omega
   have hd : T.drop i = T.getD i 0 :: T.drop (i + 1) := by rw [List.drop_eq_getElem_cons hi, List.getD_eq_getElem?_getD, List.getElem?_eq_getElem hi]; rfl
   have ih := fun x => maxM_full hb hf m (i + 1) x (by omega)
   have hlen := fun x => maxM_len (T.drop (i + 1)) x
   rw [List.length_drop] at hlen
   rw [find_rec, hd]
   constructor
   · intro hm
     rcases maxM_at (T.getD i 0) (T.drop (i + 1)) taken with h1 | ⟨r, h1, h2, h3, h4⟩
     · have := hlen taken; omega
     · have h5 : maxM (T.drop (i + 1)) (taken ||| 2 ^ r) = m := by omega
       have h6 := (ih _).1 h5
       rw [List.findSome?_isSome_iff]
       refine ⟨r, List.mem_range.2 (hb i r h2), ?_⟩
       rw [h2, h3]
       simp only [Bool.not_true, Bool.or_self, Bool.false_eq_true, if_false, Option.isSome_map]
       exact h6
   · intro hs
     rw [List.findSome?_isSome_iff] at hs
     obtain ⟨r, hr, hs⟩ := hs
     split at hs
     · cases hs
     · rename_i h1
       simp only [Bool.or_eq_true, Bool.not_eq_true', not_or, Bool.not_eq_true, Bool.not_eq_false] at h1
       rw [Option.isSome_map] at hs
       have h5 := (ih _).2 hs
       have h6 := maxM_take (T.drop (i + 1)) (few_bit (hf.get i) h1.2) h1.2 h1.1
       have h7 := maxM_head (T.getD i 0) (T.drop (i + 1)) taken
       have := hlen taken
       omega
theorem greedy_eq {t : List (List Bool)} {n : Nat} (hrow : ∀ row ∈ t, row.length = n) (hn : n ≤ 16) : ∀ (m i : Nat) (s : List Nat), i + m = t.length →
   (permsR n m (refPairsTo t i).2).find? (okFrom (t.map rowBits) i) = some s → (refPairsTo t t.length).1 = (refPairsTo t i).1 ++ s.mapIdx fun j k => (i + j, k)
 | 0, i, s, h, hs => by
   obtain rfl : s = [] := by simpa [permsR, okFrom] using hs.symm
   rw [show t.length = i from by omega]; simp
 | m + 1, i, s, h, hs => by
   have hi : i < t.length := by omega
   have hs16 : Short16 t := fun r hr => by rw [hrow r hr]; exact hn
   have hT : (t.map rowBits).length = t.length := List.length_map ..
   have hget : ∀ j, (t.map rowBits).getD j 0 = rowBits (t.getD j []) := fun j => by
     rw [List.getD_eq_getElem?_getD, List.getD_eq_getElem?_getD, List.getElem?_map]
     cases t[j]? with
     | none => rfl
     | some r => rfl
   have hbit : ∀ j k, ((t.map rowBits).getD j 0).testBit k = (t.getD j []).getD k false := fun j k => by rw [hget, rowBits_bit]
   have hb : ∀ j k, ((t.map rowBits).getD j 0).testBit k = true → k < n := fun j k hk => by
     rw [hbit] at hk
     refine Classical.byContradiction fun hc => ?_
     rcases Nat.lt_or_ge j t.length with hj | hj
     · have := hrow _ (List.getElem_mem hj)
       rw [List.getD_eq_getElem?_getD, List.getD_eq_getElem?_getD, List.getElem?_eq_getElem hj, List.getElem?_eq_none (by simp only [Option.getD_some]; omega)] at hk
       cases hk
     · rw [List.getD_eq_getElem?_getD, List.getD_eq_getElem?_getD, List.getElem?_eq_none hj] at hk
       simp at hk
   have hf : Few (t.map rowBits) := fun x hx => by
     obtain ⟨r, hr, rfl⟩ := List.mem_map.1 hx
     exact rowBits_few (hs16 r hr)
   have hM : ∀ j x, refM (t.drop j) x = maxM ((t.map rowBits).drop j) x := fun j x => by
     rw [refM_eq _ _ fun r hr => hs16 r (List.mem_of_mem_drop hr), List.map_drop]
   have hfull := fun m' i' x h' => maxM_full hb hf m' i' x (by rw [hT]; exact h')
   have h0 : refM (t.drop i) (refPairsTo t i).2 = m + 1 := by
     rw [hM]; exact (hfull (m + 1) i _ h).2 (by rw [hs]; rfl)
   rw [find_rec, findSome_range] at hs
   obtain ⟨k, hk, h1, h2⟩ := hs
   split at h1
   · cases h1
   rename_i h3
   simp only [Bool.or_eq_true, Bool.not_eq_true', not_or, Bool.not_eq_true, Bool.not_eq_false] at h3
   rw [Option.map_eq_some_iff] at h1
   obtain ⟨s', hs', rfl⟩ := h1
   have hrl : (t.getD i []).length = n := by
     rw [List.getD_eq_getElem?_getD, List.getElem?_eq_getElem hi]; exact hrow _ (List.getElem_mem hi)
   have hat : refPairAt t i (refPairsTo t i).2 = some k := by
     rw [refPairAt, List.find?_range_eq_some, hrl]
     refine ⟨?_, List.mem_range.2 hk, fun j hj => ?_⟩
     · have : refM (t.drop (i + 1)) ((refPairsTo t i).2 ||| 2 ^ k) = m := by
         rw [hM]; exact (hfull m (i + 1) _ (by omega)).2 (by rw [hs']; rfl)
       rw [← hbit, h3.2, h3.1, this, h0]; simp [Nat.add_comm]
     · have := h2 j hj
       rw [Bool.not_eq_true', Bool.and_eq_false_iff, Bool.and_eq_false_iff, ← hbit]
       split at this
       · rename_i h4
         rw [Bool.or_eq_true, Bool.not_eq_true'] at h4
         rcases h4 with h4 | h4
         · exact .inl (.inr (by rw [h4]; rfl))
         · exact .inl (.inl h4)
       · refine .inr ?_
         rw [Option.map_eq_none_iff] at this
         rw [h0, beq_eq_false_iff_ne]
         intro he
         have : refM (t.drop (i + 1)) ((refPairsTo t i).2 ||| 2 ^ j) = m := by omega
         rw [hM] at this
         have := (hfull m (i + 1) _ (by omega)).1 this
         rw [‹List.find? _ _ = none›] at this
         cases this
   have e2 : refPairsTo t (i + 1) = ((refPairsTo t i).1 ++ [(i, k)], (refPairsTo t i).2 ||| 2 ^ k) := by rw [refPairsTo, hat]
   have ih := greedy_eq hrow hn m (i + 1) s' (by omega) (by rw [e2]; exact hs')
   rw [ih, e2, List.mapIdx_cons]
   simp only [List.append_assoc, List.cons_append, List.nil_append, Nat.add_zero]
   congr 2
   refine congrArg (fun F => List.mapIdx F s') ?_
   funext j k'
   rw [show i + 1 + j = i + (j + 1) from by omega]
theorem balanceTo_first {ls rs : List Grd} {w : Int} : ∀ {D : List Int}, D.Pairwise (· ≤ ·) → w ∈ D → mostR (nearR ls rs w) = ls.length → (∀ d ∈ D, d < w → mostR (nearR ls rs d) ≠ ls.length) → balanceTo ls rs D = some (pairsR (nearR ls rs w), w)
 | [], _, h, _, _ => by cases h
 | d :: D, hs, hw, h1, h2 => by
   rw [balanceTo]
   rw [List.pairwise_cons] at hs
   split
   · rename_i hd
     have h3 : ¬ d < w := fun h => h2 d (by simp) h hd
     have : w = d := by
       rcases List.mem_cons.1 hw with h | h
       · exact h
       · have := hs.1 w h; omega
     rw [this]
   · rename_i hd
     rcases List.mem_cons.1 hw with h | h
     · subst h; exact absurd h1 hd
     · exact balanceTo_first hs.2 h h1 fun d' hd' => h2 d' (by simp [hd'])
def farF (ls rs : List Grd) (i k : Nat) : Int := farR (ls.getD i default).1 (rs.getD k default).1
def nearB (ls rs : List Grd) (w : Int) : List (List Bool) := ls.map fun a => rs.map fun b => decide (farR a.1 b.1 ≤ w)
theorem rowBits_map (rs : List Grd) (p : Grd → Bool) : rowBits (rs.map p) = bitsIf (fun r => p (rs.getD r default)) rs.length := by
 refine Nat.eq_of_testBit_eq fun k => ?_
 rw [rowBits_bit, bitsIf_bit, List.getD_eq_getElem?_getD, List.getElem?_map]
 rcases Nat.lt_or_ge k rs.length with h | h
 · rw [List.getElem?_eq_getElem h, decide_eq_true h, Bool.true_and, List.getD_eq_getElem?_getD, List.getElem?_eq_getElem h]; rfl
 · rw [List.getElem?_eq_none h, decide_eq_false (by omega)]; rfl
theorem nearB_eq (ls rs : List Grd) (w : Int) : (nearB ls rs w).map rowBits = nearR ls rs w := by
 rw [nearB, nearR, List.map_map]
 congr 1
 funext a
 exact rowBits_map rs fun b => decide (farR a.1 b.1 ≤ w)
theorem nearR_bit {ls rs : List Grd} {w : Int} {i k : Nat} (hi : i < ls.length) (hk : k < rs.length) : ((nearR ls rs w).getD i 0).testBit k = decide (farF ls rs i k ≤ w) := by
 rw [List.getD_eq_getElem?_getD, nearR, List.getElem?_map, List.getElem?_eq_getElem hi, Option.map_some, Option.getD_some, bitsIf_bit, decide_eq_true hk, Bool.true_and]
 unfold farF
 rw [List.getD_eq_getElem?_getD, List.getD_eq_getElem?_getD, List.getElem?_eq_getElem hi]; rfl
theorem nearR_lt {ls rs : List Grd} {w : Int} {i k : Nat} (h : ((nearR ls rs w).getD i 0).testBit k = true) : k < rs.length := by
 rw [List.getD_eq_getElem?_getD, nearR, List.getElem?_map] at h
 cases hl : ls[i]? with
 | none => rw [hl] at h; simp at h
 | some a =>
   rw [hl, Option.map_some, Option.getD_some, bitsIf_bit, Bool.and_eq_true, decide_eq_true_eq] at h
   exact h.1
theorem nearR_few {ls rs : List Grd} (w : Int) (h : rs.length ≤ 16) : Few (nearR ls rs w) := fun x hx => by
 obtain ⟨a, _, rfl⟩ := List.mem_map.1 hx
 exact Nat.lt_of_lt_of_le (bitsIf_lt _ _) (Nat.pow_le_pow_right (n := 2) (by decide) h)
theorem mem_diffs {ls rs : List Grd} {i k : Nat} (hi : i < ls.length) (hk : k < rs.length) : farF ls rs i k ∈ diffs ls rs := by
 unfold farF diffs
 rw [List.getD_eq_getElem?_getD, List.getD_eq_getElem?_getD, List.getElem?_eq_getElem hi, List.getElem?_eq_getElem hk]
 exact List.mem_cons_of_mem _ (List.mem_flatMap.2 ⟨_, List.getElem_mem hi, List.mem_map.2 ⟨_, List.getElem_mem hk, rfl⟩⟩)
theorem near_full {ls rs : List Grd} {w : Int} (hlr : ls.length = rs.length) (h16 : ls.length ≤ 16) (h0 : 0 ≤ w) : mostR (nearR ls rs w) = ls.length ↔ ∃ ks, ks ∈ permsR ls.length ls.length 0 ∧ valR (farF ls rs) ks ≤ w := by
 have hf := nearR_few (ls := ls) (rs := rs) w (by omega)
 have hl : (nearR ls rs w).length = ls.length := by simp [nearR]
 have h := maxM_full (T := nearR ls rs w) (n := ls.length) (fun i k hk => by rw [hlr]; exact nearR_lt hk) hf ls.length 0 0 (by omega)
 rw [mostR_eq hf]
 rw [List.drop_zero] at h
 rw [h, List.find?_isSome]
 constructor
 · rintro ⟨ks, h1, h2⟩
   refine ⟨ks, h1, ?_⟩
   obtain ⟨g1, g2, g3⟩ := (mem_perms _ _ _ _).1 h1
   rw [okFrom_iff] at h2
   rw [valR, valTo_le _ _ h0]
   intro i hi
   have h4 := h2 i hi
   rw [Nat.zero_add, nearR_bit (by omega) (by
     rw [← hlr]
     exact (g3 _ (by rw [List.getD_eq_getElem?_getD, List.getElem?_eq_getElem hi]; exact List.getElem_mem hi)).1), decide_eq_true_eq] at h4
   exact h4
 · rintro ⟨ks, h1, h2⟩
   refine ⟨ks, h1, ?_⟩
   obtain ⟨g1, g2, g3⟩ := (mem_perms _ _ _ _).1 h1
   rw [okFrom_iff]
   rw [valR, valTo_le _ _ h0] at h2
   intro i hi
   have h4 := h2 i hi
   rw [Nat.zero_add, nearR_bit (by omega) (by
     rw [← hlr]
     exact (g3 _ (by rw [List.getD_eq_getElem?_getD, List.getElem?_eq_getElem hi]; exact List.getElem_mem hi)).1), decide_eq_true_eq]
   exact h4
theorem ok_near {ls rs : List Grd} {w : Int} (hlr : ls.length = rs.length) (h0 : 0 ≤ w) {ks : List Nat} (hk : ks ∈ permsR ls.length ls.length 0) : okFrom (nearR ls rs w) 0 ks = decide (valR (farF ls rs) ks ≤ w) := by
 obtain ⟨g1, g2, g3⟩ := (mem_perms _ _ _ _).1 hk
 have hb : ∀ i, i < ks.length → ((nearR ls rs w).getD (0 + i) 0).testBit (ks.getD i 0) = decide (farF ls rs i (ks.getD i 0) ≤ w) := fun i hi => by
   rw [Nat.zero_add, nearR_bit (by omega) (by
     rw [← hlr]
     exact (g3 _ (by rw [List.getD_eq_getElem?_getD, List.getElem?_eq_getElem hi]; exact List.getElem_mem hi)).1)]
 rw [Bool.eq_iff_iff, okFrom_iff, decide_eq_true_eq, valR, valTo_le _ _ h0]
 constructor
 · intro h i hi
   have := h i hi
   rwa [hb i hi, decide_eq_true_eq] at this
 · intro h i hi
   rw [hb i hi, decide_eq_true_eq]
   exact h i hi
theorem perm_some (n : Nat) : List.range n ∈ permsR n n 0 := (mem_perms _ _ _ _).2 ⟨List.length_range, List.nodup_range, fun k hk => ⟨List.mem_range.1 hk, Nat.zero_testBit _⟩⟩
theorem val_diffs {ls rs : List Grd} (hlr : ls.length = rs.length) {ks : List Nat} (hk : ks ∈ permsR ls.length ls.length 0) : valR (farF ls rs) ks ∈ diffs ls rs := by
 obtain ⟨g1, g2, g3⟩ := (mem_perms _ _ _ _).1 hk
 rcases valTo_is (farF ls rs) ks ks.length with h | ⟨i, hi, h⟩
 · rw [valR, h]; exact List.mem_cons_self
 · rw [valR, h]
   refine mem_diffs (by omega) ?_
   rw [← hlr]
   exact (g3 _ (by rw [List.getD_eq_getElem?_getD, List.getElem?_eq_getElem hi]; exact List.getElem_mem hi)).1
theorem balance_eq {ls rs : List Grd} (hlr : ls.length = rs.length) (h16 : ls.length ≤ 16) {D : List Int} (hs : D.Pairwise (· ≤ ·)) (hD : ∀ x, x ∈ D ↔ x ∈ diffs ls rs) {W : Int} (hW : ∀ d ∈ diffs ls rs, 0 ≤ d ∧ d < W) :
   balanceTo ls rs D = some ((refBal (farF ls rs) ls.length ls.length [] ([], W)).1.mapIdx (fun i k => (i, k)), (refBal (farF ls rs) ls.length ls.length [] ([], W)).2) ∧
   (∀ ks ∈ permsR ls.length ls.length 0, (refBal (farF ls rs) ls.length ls.length [] ([], W)).2 ≤ valR (farF ls rs) ks) ∧
   (refBal (farF ls rs) ls.length ls.length [] ([], W)).1 ∈ permsR ls.length ls.length 0 ∧ valR (farF ls rs) (refBal (farF ls rs) ls.length ls.length [] ([], W)).1 = (refBal (farF ls rs) ls.length ls.length [] ([], W)).2 := by
 rw [refBal_eq _ _ _ _ 0 _ fun k => by rw [Nat.zero_testBit]; simp]
 rw [show ((permsR ls.length ls.length 0).map (([] : List Nat) ++ ·)) = permsR ls.length ls.length 0 from by simp]
 obtain ⟨h1, h2, h3⟩ := fold_best (farF ls rs) (permsR ls.length ls.length 0) ([], W)
 generalize hr : (permsR ls.length ls.length 0).foldl (balStep (farF ls rs)) ([], W) = r at *
 rcases h3 with ⟨h3, h4⟩ | ⟨h3, h4, h5⟩
 · have := h4 _ (perm_some ls.length)
   have := hW _ (val_diffs hlr (perm_some ls.length))
   simp only at *
   omega
 have hm := List.mem_of_find?_eq_some h3
 have hd := val_diffs hlr hm
 rw [h4] at hd
 have h0 := (hW _ hd).1
 refine ⟨?_, h1, hm, h4⟩
 rw [balanceTo_first hs ((hD _).2 hd) ((near_full hlr h16 h0).2 ⟨_, hm, by omega⟩) fun d hd' hlt hc => by
   obtain ⟨ks, k1, k2⟩ := (near_full hlr h16 (hW d ((hD d).1 hd')).1).1 hc
   have := h1 ks k1
   omega]
 have hrow : ∀ row ∈ nearB ls rs r.2, row.length = ls.length := fun row hrw => by
   obtain ⟨a, _, rfl⟩ := List.mem_map.1 hrw
   rw [List.length_map, hlr]
 have hnl : (nearB ls rs r.2).length = ls.length := by simp [nearB]
 have hg := greedy_eq hrow h16 ls.length 0 r.1 (by omega) (by
   rw [nearB_eq]
   rw [← h3]
   have key : ∀ {l : List (List Nat)}, (∀ x ∈ l, okFrom (nearR ls rs r.2) 0 x = decide (valR (farF ls rs) x ≤ r.2)) → l.find? (okFrom (nearR ls rs r.2) 0) = l.find? fun x => decide (valR (farF ls rs) x ≤ r.2) := by
     intro l
     induction l with
     | nil => intro _; rfl
     | cons a l ih =>
       intro h
       rw [List.find?_cons, List.find?_cons, h a (by simp), ih fun x hx => h x (by simp [hx])]
   exact key fun x hx => ok_near hlr h0 hx)
 rw [← nearB_eq, pairsR_ref (fun row hrw => by rw [hrow row hrw]; exact h16), hg]
 simp [refPairsTo]
end Go.Aw
end
section
namespace Go.Aw
open Go.RowKit
def tabB (g : Gau) (ls rs : List Grd) (k : Int) : List (List Bool) := ls.map fun a => rs.map fun b => alikeR g a b k
def manyR (g : Gau) (ls rs : List Grd) (k : Int) : Nat := refM (tabB g ls rs k) 0
def okTwin (g : Gau) (ls rs : List Grd) (a b : Nat × Nat) : Bool :=
 decide (a.1 ≠ b.1 ∧ a.2 ≠ b.2) && alikeR g (rs.getD a.2 default) (ls.getD a.1 default) 2 && alikeR g (ls.getD b.1 default) (ls.getD a.1 default) 2 && alikeR g (ls.getD b.1 default) (rs.getD a.2 default) 2 &&
   alikeR g (rs.getD b.2 default) (ls.getD a.1 default) 2 && alikeR g (rs.getD b.2 default) (rs.getD a.2 default) 2 && alikeR g (rs.getD b.2 default) (ls.getD b.1 default) 2
def refCutTo (g : Gau) (ls rs : List Grd) : Nat → Nat × Nat × Bool
 | 0 => (0, manyR g ls rs 2, false)
 | i + 1 => if (refCutTo g ls rs i).2.1 < manyR g ls (rs ++ [ls.getD i default]) 2 then (i, manyR g ls (rs ++ [ls.getD i default]) 2, true) else refCutTo g ls rs i
def lookB (g : Gau) (ls rs : List Grd) (right : Bool) (n : Nat) : List (List Bool) :=
 (List.range ls.length).map fun i => (List.range rs.length).map fun k => if (if right then k else i) = n then alikeR g (ls.getD i default) (rs.getD k default) 1 else alikeR g (ls.getD i default) (rs.getD k default) 2
end Go.Aw
end
section
namespace Go.Aw
open Go.RowKit
structure Fine (m : Nat) (x : Grd) : Prop where
 w1 : 1 ≤ x.1
 w2 : x.1 ≤ 10000
 len : x.2.length = m
 c : ∀ v ∈ x.2, 0 ≤ v ∧ v ≤ 500
theorem check_fine {g : Gau} {ls rs : List Grd} {m : Nat} (h1 : 1 ≤ m) (h4 : m ≤ 4) (hl8 : ls.length ≤ 8) (hr8 : rs.length ≤ 8) (hl : ∀ x ∈ ls, Fine m x) (hr : ∀ x ∈ rs, Fine m x) (hg : gaugeR g = true) : checkS g ls rs = 0 := by
 have hall : ∀ x ∈ ls ++ rs, Fine m x := fun x hx => (List.mem_append.1 hx).elim (hl x) (hr x)
 rw [checkS, if_neg (by omega)]
 generalize ls ++ rs = l at *
 have h0 : ∀ x ∈ l, otherR l x = false := fun x hx => by
   have e : (l.getD 0 default).2.length = m := by
     cases l with
     | nil => cases hx
     | cons y l => exact (hall y (by simp)).len
   simp only [otherR, inR', e, (hall x hx).len, Bool.or_eq_false_iff, Bool.not_eq_false', Bool.and_eq_true, decide_eq_true_eq]
   refine ⟨⟨by omega, by omega⟩, by simp⟩
 have h2 : ∀ x ∈ l, noneR x = false := fun x hx => by
   have := hall x hx
   simp only [noneR, inR', Bool.or_eq_false_iff, Bool.not_eq_false', Bool.and_eq_true, decide_eq_true_eq, List.all_eq_true]
   exact ⟨⟨this.w1, this.w2⟩, fun v hv => this.c v hv⟩
 rw [chkR, if_neg (by rw [List.any_eq_true]; rintro ⟨x, hx, hh⟩; rw [h0 x hx] at hh; cases hh), if_neg (by rw [List.any_eq_true]; rintro ⟨x, hx, hh⟩; rw [h2 x hx] at hh; cases hh), if_pos hg]
def atR (by' : List Int) (i k : Nat) (off : Int) : Int := if by'.length = 0 then 0 else by'.getD ((3 * i + k) % by'.length) 0 % (2 * off + 1) - off
def trueG (g : Gau) (by' : List Int) (i : Nat) (x : Grd) : Grd := (x.1 + atR by' i 0 g.sc, (List.range x.2.length).map fun k => x.2.getD k default + atR by' i (1 + k) g.ga)
def grK (is : Nat → Nat → Bool) (L : List (Nat × Nat)) (i : Nat) : Nat → List (Nat × Nat)
 | 0 => L
 | k + 1 => if is i k && !((grK is L i k).any fun p => p.1 == i) && !((grK is L i k).any fun p => p.2 == k) then grK is L i k ++ [(i, k)] else grK is L i k
def grT (is : Nat → Nat → Bool) (nr : Nat) : Nat → List (Nat × Nat)
 | 0 => []
 | i + 1 => grK is (grT is nr i) i nr
structure GrOk (is : Nat → Nat → Bool) (nl nr : Nat) (l : List (Nat × Nat)) : Prop where
 e : ∀ p ∈ l, p.1 < nl ∧ p.2 < nr ∧ is p.1 p.2 = true
 a : (l.map (·.1)).Nodup
 b : (l.map (·.2)).Nodup
end Go.Aw
end
section
set_option maxRecDepth 20000
set_option maxHeartbeats 4000000
namespace Go.Aw
open Go.RowKit Go.Proofs
def alTo (g : Gau) (a b : Grd) (k : Int) (i : Nat) : Bool := decide (farR a.1 b.1 + k * g.sc ≤ g.we) && (List.range i).all fun j => decide (farR (a.2.getD j default) (b.2.getD j default) + k * g.ga ≤ g.cu)
def formR (l : List Grd) : Int := if l.any (otherR l) then 4 else if l.any noneR then 2 else 0
end Go.Aw
end
section
set_option maxRecDepth 20000
set_option maxHeartbeats 4000000
namespace Go.Aw
open Go.RowKit Go.Proofs
@[go_sem] theorem take_cat_gd (ls rs : List Grd) (n : Nat) (h : ls.length + rs.length = n) : List.take n (ls.map encGd ++ rs.map encGd) = ls.map encGd ++ rs.map encGd := List.take_of_length_le (by simp; omega)
theorem rCopy_spec (l : List Grd) (e : Bool) (hl : l.length ≤ 1000) (hlc : ∀ x ∈ l, x.2.length ≤ 1000) : Ct Tryd.prog 16 [.sl 2 (l.map encGd) e] (.sl 2 (l.map encGd) false) := by
 refine fn_enter Tryd.func16 rfl (by decide) Tryd.results16 Tryd.ntmps16 ?_ rfl (by simp (maxSteps := 1000000) -implicitDefEqProofs (disch := omega) only [go_sem]; rfl) fun base => ?_
 · first | assumption | (simp only [go_sem] <;> assumption) | (simp only [go_sem, *]; done) | (simp [go_sem]; done)
 repeat' (first
   | (with_reducible apply Req_intro); focus (first | omega | assumption | (simp; done))
   | with_reducible (first | apply Req_intro | refine nilT ?_ fun hn => ?_ | apply wk_draw Tryd_mixed | refine drawEnd (by kernel_rfl) ?_)
   | (with_reducible (first | apply condA_if | apply stepDG_ifN | apply stepDG_if | apply stepG_ifN | apply stepG_if)) <;> intro hb <;> (have hif := hb) <;> (try simp only [bo] at hif) <;> (try simp -implicitDefEqProofs (disch := omega) only [go_sem, hb]) <;> clear hb
   | simp (maxSteps := 1000000) -implicitDefEqProofs (disch := omega) only [go_sem])
 refine loop_rows (α := Nat) [3, 4, 6, 7, 8, 9, 10, 11, 12, 13, 14, 15, 16, 17, 18, 19, 20, 21, 22, 23, 24, 25, 26, 27] (fun i => [(4, .lit (.int .i64 i)), (3, .os 65 2 i false), (5, .undef)]) (fun i => [(65, some ⟨2, (l.take i).map encGd, 43, .wr⟩)]) (fun i => i ≤ l.length) (fun i => l.length - i) 0 (fun x => by simp (maxSteps := 1000000) -implicitDefEqProofs (disch := omega) only [go_sem]; rfl) ?_ ?_ fun x hx => ?_
 · simp only [List.take_zero, List.map_nil]
   exact weak_do3 [(65, 64)]
 · exact Nat.zero_le _
 have htl : (l.take x).length = x := by rw [List.length_take]; omega
 by_cases hlt : x < l.length
 · have hcl := hlc _ (getD_mem hlt)
   repeat' (first
     | (with_reducible apply Req_intro); focus (first | omega | assumption | (simp; done))
     | with_reducible (first | apply Req_intro | refine nilT ?_ fun hn => ?_ | apply wk_draw Tryd_mixed | refine drawEnd (by kernel_rfl) ?_)
     | (with_reducible (first | apply condA_if | apply stepDG_ifN | apply stepDG_if | apply stepG_ifN | apply stepG_if)) <;> intro hb <;> (have hif := hb) <;> (try simp only [bo] at hif) <;> (try simp -implicitDefEqProofs (disch := omega) only [go_sem, hb]) <;> clear hb
     | simp (maxSteps := 1000000) -implicitDefEqProofs (disch := omega) only [go_sem])
   all_goals first | exact absurd trivial ‹¬True› | exact absurd ‹false = true› (by decide) | exact absurd ‹true = false› (by decide) | (exfalso; omega) | omega | skip
   have ht := take_succ_getD hlt
   generalize l.getD x default = b at *
   refine nxt_snapRow [1280] 1472 (es' := (l.take x).map encGd ++ [encGd b]) (by first | (simp only [go_sem]; done) | (simp only [go_sem]; rfl)) (by rfl) ?_ (by first | assumption | (simp only [go_sem] <;> assumption) | (simp only [go_sem, *]; done) | (simp [go_sem]; done)) (by first | (simp only [go_sem]; done) | (simp only [go_sem]; rfl)) ?_
   · refine PurE.snocR (by first | assumption | (simp only [go_sem] <;> assumption) | (simp only [go_sem, *]; done) | (simp [go_sem]; done)) ?_
     rw [show encGd b = [.lit (.int .i64 b.1), .sl 1 (b.2.map encI) false] from rfl]
     (try simp (maxSteps := 1000000) -implicitDefEqProofs (disch := omega) only [go_sem])
     repeat' (first
       | with_reducible (first | exact PurI.nil | exact Pur.nilsl _ _ | exact PurE.nil)
       | (with_reducible (first | refine PurI.puL ?_ | refine PurE.puE ?_)) <;> (first | assumption | (simp only [go_sem] <;> assumption) | (simp only [go_sem, *]; done) | (simp [go_sem]; done))
       | with_reducible apply PurI.cons
       | (with_reducible refine Pur.pu _ ?_) <;> (first | assumption | (simp only [go_sem] <;> assumption) | (simp only [go_sem, *]; done) | (simp [go_sem]; done))
       | ((with_reducible apply Pur.refR) <;> (first | rfl | decide | (simp only [go_sem]; omega) | (simp only [go_sem]) | skip))
       | ((with_reducible apply Pur.osR) <;> (first | rfl | exact fun h => h | omega | (simp; omega) | (simp; done) | (simp only [go_sem]) | skip))
       | with_reducible (first | apply Pur.fnI | apply Pur.aggI | apply PurE.cons)
       | (with_reducible refine PurI.eqL ?_ ?_); (focus rfl); (focus (first | assumption | (simp only [go_sem] <;> assumption) | (simp only [go_sem, *]; done) | (simp [go_sem]; done)))
       | simp (maxSteps := 1000000) -implicitDefEqProofs (disch := omega) only [go_sem])
   with_reducible refine nxt_w (x + 1) ?_ ?_
   · (try dsimp only)
     rw [ht, List.map_append]
     exact weak_do3 [(65, 1472)]
   try dsimp only
   omega
 · obtain rfl : x = l.length := by omega
   rw [List.take_length]
   repeat' (first
     | (with_reducible apply Req_intro); focus (first | omega | assumption | (simp; done))
     | with_reducible (first | apply Req_intro | refine nilT ?_ fun hn => ?_ | apply wk_draw Tryd_mixed | refine drawEnd (by kernel_rfl) ?_)
     | (with_reducible (first | apply condA_if | apply stepDG_ifN | apply stepDG_if | apply stepG_ifN | apply stepG_if)) <;> intro hb <;> (have hif := hb) <;> (try simp only [bo] at hif) <;> (try simp -implicitDefEqProofs (disch := omega) only [go_sem, hb]) <;> clear hb
     | simp (maxSteps := 1000000) -implicitDefEqProofs (disch := omega) only [go_sem])
   all_goals first | exact absurd trivial ‹¬True› | exact absurd ‹false = true› (by decide) | exact absurd ‹true = false› (by decide) | (exfalso; omega) | omega | skip
   exact retf [65] [2] [.sl 2 (l.map encGd) false]
theorem own_spec (ls rs : List Grd) (e1 e2 : Bool) (hs : StOk ls rs) : Ct Tryd.prog 6 [encSt ls rs e1 e2] (encSt ls rs false false) := by
 refine ct_enterZ Tryd.func6 rfl (by decide) Tryd.results6 Tryd.ntmps6 ?_ rfl (by simp (maxSteps := 1000000) -implicitDefEqProofs (disch := omega) only [go_sem]; rfl) fun base => ?_
 · first | assumption | (simp only [go_sem] <;> assumption) | (simp only [go_sem, *]; done) | (simp [go_sem]; done)
 repeat' (first
   | (with_reducible apply Req_intro); focus (first | omega | assumption | (simp; done))
   | with_reducible (first | apply Req_intro | refine nilT ?_ fun hn => ?_ | apply wk_draw Tryd_mixed | refine drawEnd (by kernel_rfl) ?_)
   | (with_reducible (first | apply condA_if | apply stepDG_ifN | apply stepDG_if | apply stepG_ifN | apply stepG_if)) <;> intro hb <;> (have hif := hb) <;> (try simp only [bo] at hif) <;> (try simp -implicitDefEqProofs (disch := omega) only [go_sem, hb]) <;> clear hb
   | simp (maxSteps := 1000000) -implicitDefEqProofs (disch := omega) only [go_sem])
 refine calld (rCopy_spec ls e1 hs.l hs.lc) ?_
 try simp (maxSteps := 1000000) -implicitDefEqProofs (disch := omega) only [go_sem]
 repeat' (first
   | (with_reducible apply Req_intro); focus (first | omega | assumption | (simp; done))
   | with_reducible (first | apply Req_intro | refine nilT ?_ fun hn => ?_ | apply wk_draw Tryd_mixed | refine drawEnd (by kernel_rfl) ?_)
   | (with_reducible (first | apply condA_if | apply stepDG_ifN | apply stepDG_if | apply stepG_ifN | apply stepG_if)) <;> intro hb <;> (have hif := hb) <;> (try simp only [bo] at hif) <;> (try simp -implicitDefEqProofs (disch := omega) only [go_sem, hb]) <;> clear hb
   | simp (maxSteps := 1000000) -implicitDefEqProofs (disch := omega) only [go_sem])
 refine calld (rCopy_spec rs e2 hs.r hs.rc) ?_
 try simp (maxSteps := 1000000) -implicitDefEqProofs (disch := omega) only [go_sem]
 repeat' (first
   | (with_reducible apply Req_intro); focus (first | omega | assumption | (simp; done))
   | with_reducible (first | apply Req_intro | refine nilT ?_ fun hn => ?_ | apply wk_draw Tryd_mixed | refine drawEnd (by kernel_rfl) ?_)
   | (with_reducible (first | apply condA_if | apply stepDG_ifN | apply stepDG_if | apply stepG_ifN | apply stepG_if)) <;> intro hb <;> (have hif := hb) <;> (try simp only [bo] at hif) <;> (try simp -implicitDefEqProofs (disch := omega) only [go_sem, hb]) <;> clear hb
   | simp (maxSteps := 1000000) -implicitDefEqProofs (disch := omega) only [go_sem])
 exact retz []
def sideR (ls rs : List Grd) (k : Nat) : List Grd := if k = 0 then ls else rs
def bigGR (ls rs : List Grd) : Bool := decide (12 < ls.length) || decide (12 < rs.length) || (ls.any fun x => decide (8 < x.2.length)) || (rs.any fun x => decide (8 < x.2.length))
def largeG (g : Gau) (ls rs : List Grd) (most : Int) : Bool :=
 (List.range 2).any (fun k => ((sideR ls rs k).take 13).any (fun x => decide (8 < x.2.length)) || decide (12 < (sideR ls rs k).length)) || decide (most < max (ls.length : Int) rs.length) && (checkS g ls rs == 0)
end Go.Aw
end
section
set_option maxRecDepth 20000
set_option maxHeartbeats 4000000
namespace Go.Aw
open Go.RowKit Go.Proofs
@[go_sem ↓] theorem actBin_eqB (a b : Bool) : actBin Tryd.prog .eql 4 (.lit (.bool a)) (.lit (.bool b)) = some (.val (.lit (.bool (a == b)))) := by
 show (if litT Tryd.prog 4 (.bool a) then _ else none) = _
 rw [show litT Tryd.prog 4 (.bool a) = true by kernel_rfl]
 rfl
@[go_sem ↓] theorem actBin_neB (a b : Bool) : actBin Tryd.prog .neq 4 (.lit (.bool a)) (.lit (.bool b)) = some (.val (.lit (.bool (a != b)))) := by
 show (if litT Tryd.prog 4 (.bool a) then _ else none) = _
 rw [show litT Tryd.prog 4 (.bool a) = true by kernel_rfl]
 rfl
@[go_sem] theorem eqB_ff : (false == false) = true := rfl
@[go_sem] theorem eqB_tt : (true == true) = true := rfl
@[go_sem] theorem eqB_ft : (false == true) = false := rfl
@[go_sem] theorem eqB_tf : (true == false) = false := rfl
@[go_sem] theorem neB_ff : (false != false) = false := rfl
@[go_sem] theorem neB_tt : (true != true) = false := rfl
@[go_sem] theorem neB_ft : (false != true) = true := rfl
@[go_sem] theorem neB_tf : (true != false) = true := rfl
end Go.Aw
end
section
set_option maxRecDepth 20000
set_option maxHeartbeats 4000000
namespace Go.Aw
open Go.RowKit Go.Proofs
def encBo (b : Bool) : List V := [.lit (.bool b)]
@[go_sem] theorem encBo_eq (b : Bool) : encBo b = [.lit (.bool b)] := rfl
def encBr (r : List Bool) : List V := [.sl 1 (r.map encBo) false]
@[go_sem] theorem encBr_eq (r : List Bool) : encBr r = [.sl 1 (r.map encBo) false] := rfl
@[go_sem] theorem take_map_Bo (l : List Bool) (n : Nat) (h : l.length = n) : (l.map encBo).take n = l.map encBo := List.take_of_length_le (by simp; omega)
@[go_sem] theorem take_map_Br (l : List (List Bool)) (n : Nat) (h : l.length = n) : (l.map encBr).take n = l.map encBr := List.take_of_length_le (by simp; omega)
def rowTo (g : Gau) (a : Grd) (rs : List Grd) (k : Int) (j : Nat) : List Bool := (rs.take j).map fun b => alikeR g a b k
end Go.Aw
end
section
namespace Go.Aw
open Go.RowKit
def prs (ks : List Nat) : List (Nat × Nat) := ks.mapIdx fun i k => (i, k)
theorem prs_len (ks : List Nat) : (prs ks).length = ks.length := by simp [prs]
theorem prs_get {ks : List Nat} {i : Nat} (h : i < ks.length) : (prs ks).getD i default = (i, ks.getD i default) := by
 rw [List.getD_eq_getElem?_getD, List.getD_eq_getElem?_getD, prs, List.getElem?_mapIdx, List.getElem?_eq_getElem h]; rfl
def usedTo (now : List Nat) (k : Nat) : Nat → Bool
 | 0 => false
 | m + 1 => usedTo now k m || decide (now.getD m default = k)
def balTo (f : Nat → Nat → Int) (n m : Nat) (now : List Nat) (st : List Nat × Int) (k : Nat) : List Nat × Int :=
 (List.range k).foldl (fun st k => if decide (k ∈ now) then st else refBal f n m (now ++ [k]) st) st
structure BalOk (L : Nat) (W : Int) (n : Nat) (st : List Nat × Int) : Prop where
 len : st.1.length ≤ L
 lo : 0 ≤ st.2
 hi : st.2 ≤ W
 lt : ∀ k ∈ st.1, k < n
theorem valR_nonneg (f : Nat → Nat → Int) (ks : List Nat) : 0 ≤ valR f ks := valTo_nonneg f ks _
end Go.Aw
end
section
namespace Go.Aw
open Go.RowKit
theorem nodup_le' {α : Type} : ∀ {l m : List α}, l.Nodup → (∀ x ∈ l, x ∈ m) → l.length ≤ m.length
 | [], m, _, _ => Nat.zero_le _
 | a :: l, m, h, hs => by
   rw [List.nodup_cons] at h
   obtain ⟨m1, m2, rfl⟩ := List.append_of_mem (hs a (by simp))
   have := nodup_le' (m := m1 ++ m2) h.2 fun x hx => by
     have h1 := hs x (List.mem_cons_of_mem _ hx)
     simp only [List.mem_append, List.mem_cons] at h1 ⊢
     rcases h1 with h1 | h1 | h1
     · exact .inl h1
     · subst h1; exact absurd hx h.1
     · exact .inr h1
   simp only [List.length_cons, List.length_append] at *
   omega
theorem perm_onto {n : Nat} {ks : List Nat} (h : ks ∈ permsR n n 0) {k : Nat} (hk : k < n) : ∃ i, i < n ∧ ks.getD i 0 = k := by
 obtain ⟨h1, h2, h3⟩ := (mem_perms _ _ _ _).1 h
 by_cases hm : k ∈ ks
 · obtain ⟨i, hi, rfl⟩ := List.getElem_of_mem hm
   exact ⟨i, by omega, by rw [List.getD_eq_getElem?_getD, List.getElem?_eq_getElem hi]; rfl⟩
 · have := nodup_le' (l := k :: ks) (m := List.range n) (List.nodup_cons.2 ⟨hm, h2⟩) fun x hx => by
     rcases List.mem_cons.1 hx with rfl | hx
     · exact List.mem_range.2 hk
     · exact List.mem_range.2 (h3 x hx).1
   rw [List.length_cons, List.length_range] at this
   omega
theorem perm_get {n : Nat} {ks : List Nat} (h : ks ∈ permsR n n 0) {i : Nat} (hi : i < n) : ks.getD i 0 < n := by
 obtain ⟨h1, h2, h3⟩ := (mem_perms _ _ _ _).1 h
 rw [List.getD_eq_getElem?_getD, List.getElem?_eq_getElem (by omega)]
 exact (h3 _ (List.getElem_mem _)).1
def leastTo (l : List Grd) : Nat → Int
 | 0 => 1073741824
 | i + 1 => min (leastTo l i) (l.getD i default).1
def greatTo (l : List Grd) : Nat → Int
 | 0 => 0
 | i + 1 => max (greatTo l i) (l.getD i default).1
theorem leastTo_le (l : List Grd) : ∀ {n i : Nat}, i < n → leastTo l n ≤ (l.getD i default).1
 | 0, _, h => absurd h (Nat.not_lt_zero _)
 | n + 1, i, h => by
   rw [leastTo]
   rcases Nat.lt_succ_iff_lt_or_eq.1 h with h | rfl
   · have := leastTo_le l h; omega
   · omega
theorem leastTo_is (l : List Grd) : ∀ n, leastTo l n = 1073741824 ∨ ∃ i, i < n ∧ leastTo l n = (l.getD i default).1
 | 0 => .inl rfl
 | n + 1 => by
   rw [leastTo]
   rcases Int.le_total (leastTo l n) (l.getD n default).1 with h | h
   · rcases leastTo_is l n with h1 | ⟨i, hi, h1⟩
     · exact .inl (by omega)
     · exact .inr ⟨i, by omega, by omega⟩
   · exact .inr ⟨n, by omega, by omega⟩
theorem greatTo_ge (l : List Grd) : ∀ {n i : Nat}, i < n → (l.getD i default).1 ≤ greatTo l n
 | 0, _, h => absurd h (Nat.not_lt_zero _)
 | n + 1, i, h => by
   rw [greatTo]
   rcases Nat.lt_succ_iff_lt_or_eq.1 h with h | rfl
   · have := greatTo_ge l h; omega
   · omega
theorem greatTo_is (l : List Grd) : ∀ n, greatTo l n = 0 ∨ ∃ i, i < n ∧ greatTo l n = (l.getD i default).1
 | 0 => .inl rfl
 | n + 1 => by
   rw [greatTo]
   rcases Int.le_total (greatTo l n) (l.getD n default).1 with h | h
   · exact .inr ⟨n, by omega, by omega⟩
   · rcases greatTo_is l n with h1 | ⟨i, hi, h1⟩
     · exact .inl (by omega)
     · exact .inr ⟨i, by omega, by omega⟩
theorem leastTo_bnd {l : List Grd} (hw : ∀ x ∈ l, 0 ≤ x.1 ∧ x.1 ≤ 10000) : ∀ {n : Nat}, n ≤ l.length → 0 ≤ leastTo l n ∧ leastTo l n ≤ 1073741824 ∧ 0 ≤ greatTo l n ∧ greatTo l n ≤ 10000
 | 0, _ => by simp [leastTo, greatTo]
 | n + 1, h => by
   have h1 := leastTo_bnd hw (n := n) (by omega)
   have h2 := hw (l.getD n default) (by rw [List.getD_eq_getElem?_getD, List.getElem?_eq_getElem (by omega)]; exact List.getElem_mem _)
   rw [leastTo, greatTo]; omega
theorem bal_ends {ls rs : List Grd} {n : Nat} {W : Int} (hl : ls.length = n) (hr : rs.length = n) (hlw : ∀ x ∈ ls, 0 ≤ x.1 ∧ x.1 ≤ 10000) (hrw : ∀ x ∈ rs, 0 ≤ x.1 ∧ x.1 ≤ 10000) {ks : List Nat} (hk : ks ∈ permsR n n 0) (hv : valR (farF ls rs) ks = W) :
   farR (leastTo ls n) (leastTo rs n) ≤ W ∧ farR (greatTo ls n) (greatTo rs n) ≤ W := by
 have h0 : 0 ≤ W := by rw [← hv]; exact valR_nonneg _ _
 have hkl := ((mem_perms _ _ _ _).1 hk).1
 have hp : ∀ i, i < n → farR (ls.getD i default).1 (rs.getD (ks.getD i 0) default).1 ≤ W := fun i hi => by
   rw [← hv]
   exact (valTo_le (farF ls rs) ks (valR_nonneg _ _) ks.length).1 (Int.le_refl _) i (by omega)
 have hab : ∀ a b : Int, farR a b ≤ W ↔ a - b ≤ W ∧ b - a ≤ W := fun a b => by unfold farR; omega
 rcases Nat.eq_zero_or_pos n with rfl | hn
 · rw [hab, hab]; simp [leastTo, greatTo, h0]
 have ll : ∀ i, i < n → 0 ≤ (ls.getD i default).1 ∧ (ls.getD i default).1 ≤ 10000 := fun i hi => hlw _ (by rw [List.getD_eq_getElem?_getD, List.getElem?_eq_getElem (by omega)]; exact List.getElem_mem _)
 have lr : ∀ i, i < n → 0 ≤ (rs.getD i default).1 ∧ (rs.getD i default).1 ≤ 10000 := fun i hi => hrw _ (by rw [List.getD_eq_getElem?_getD, List.getElem?_eq_getElem (by omega)]; exact List.getElem_mem _)
 have a0 := ll 0 hn
 have b0 := lr 0 hn
 have p0 := leastTo_le ls hn
 have p1 := leastTo_le rs hn
 have q0 := greatTo_ge ls hn
 have q1 := greatTo_ge rs hn
 constructor
 · rw [hab]
   constructor
   · -- the right side's lightest is in a pair
     rcases leastTo_is rs n with h | ⟨k, hk', h⟩
     · omega
     · obtain ⟨i, hi, rfl⟩ := perm_onto hk hk'
       have h1 := (hab _ _).1 (hp i hi)
       have h2 := leastTo_le ls hi
       omega
   · rcases leastTo_is ls n with h | ⟨i, hi, h⟩
     · omega
     · have h1 := (hab _ _).1 (hp i hi)
       have h2 := leastTo_le rs (perm_get hk hi)
       omega
 · rw [hab]
   constructor
   · rcases greatTo_is ls n with h | ⟨i, hi, h⟩
     · omega
     · have h1 := (hab _ _).1 (hp i hi)
       have h2 := greatTo_ge rs (perm_get hk hi)
       omega
   · rcases greatTo_is rs n with h | ⟨k, hk', h⟩
     · omega
     · obtain ⟨i, hi, rfl⟩ := perm_onto hk hk'
       have h1 := (hab _ _).1 (hp i hi)
       have h2 := greatTo_ge ls hi
       omega
def shufTo (t : Nat → Nat) (n : Nat) : Nat → List Nat
 | 0 => List.range n
 | k + 1 => ((shufTo t n k).set (k + t k % (n - k)) ((shufTo t n k).getD k 0)).set k ((shufTo t n k).getD (k + t k % (n - k)) 0)
theorem shufTo_zero (t : Nat → Nat) (n : Nat) : shufTo t n 0 = List.range n := rfl
theorem shufTo_succ (t : Nat → Nat) (n k : Nat) : shufTo t n (k + 1) = ((shufTo t n k).set (k + t k % (n - k)) ((shufTo t n k).getD k 0)).set k ((shufTo t n k).getD (k + t k % (n - k)) 0) := rfl
theorem shufTo_len (t : Nat → Nat) (n : Nat) : ∀ k, (shufTo t n k).length = n
 | 0 => List.length_range
 | k + 1 => by rw [shufTo, List.length_set, List.length_set, shufTo_len t n k]
theorem shufTo_get {t : Nat → Nat} {n k j : Nat} (hk : k < n) (hj : j < n) : (shufTo t n (k + 1)).getD j 0 = if j = k then (shufTo t n k).getD (k + t k % (n - k)) 0 else if j = k + t k % (n - k) then (shufTo t n k).getD k 0 else (shufTo t n k).getD j 0 := by
 have hl := shufTo_len t n k
 have hm : t k % (n - k) < n - k := Nat.mod_lt _ (by omega)
 rw [shufTo]
 generalize shufTo t n k = O at *
 generalize hmm : k + t k % (n - k) = m at *
 simp only [List.getD_eq_getElem?_getD, List.getElem?_set, List.length_set]
 by_cases h1 : k = j
 · subst h1
   rw [if_pos rfl, if_pos (by omega), if_pos rfl]; rfl
 · rw [if_neg h1, if_neg (Ne.symm h1)]
   by_cases h2 : m = j
   · subst h2
     rw [if_pos rfl, if_pos (by omega), if_pos rfl]; rfl
   · rw [if_neg h2, if_neg (Ne.symm h2)]
theorem shufTo_inj {t : Nat → Nat} {n : Nat} : ∀ {k : Nat}, k ≤ n → (∀ i, i < n → (shufTo t n k).getD i 0 < n) ∧ ∀ i j, i < n → j < n → (shufTo t n k).getD i 0 = (shufTo t n k).getD j 0 → i = j
 | 0, _ => by
   have h : ∀ i, i < n → (shufTo t n 0).getD i 0 = i := fun i hi => by rw [shufTo_zero, List.getD_eq_getElem?_getD, List.getElem?_range hi]; rfl
   exact ⟨fun i hi => by rw [h i hi]; exact hi, fun i j hi hj e => by rwa [h i hi, h j hj] at e⟩
 | k + 1, hk => by
   obtain ⟨h1, h2⟩ := shufTo_inj (t := t) (n := n) (k := k) (by omega)
   have hm : k + t k % (n - k) < n := by
     have : t k % (n - k) < n - k := Nat.mod_lt _ (by omega)
     omega
   have hg : ∀ i, i < n → ∃ i', i' < n ∧ (shufTo t n (k + 1)).getD i 0 = (shufTo t n k).getD i' 0 ∧ i' = (if i = k then k + t k % (n - k) else if i = k + t k % (n - k) then k else i) := fun i hi => by
     refine ⟨_, ?_, ?_, rfl⟩
     · split
       · exact hm
       · split <;> omega
     · rw [shufTo_get (by omega) hi]
       split
       · rfl
       · split <;> rfl
   refine ⟨fun i hi => ?_, fun i j hi hj e => ?_⟩
   · obtain ⟨i', hi', e, _⟩ := hg i hi
     rw [e]; exact h1 i' hi'
   · obtain ⟨i', hi', e1, e2⟩ := hg i hi
     obtain ⟨j', hj', e3, e4⟩ := hg j hj
     rw [e1, e3] at e
     have := h2 i' j' hi' hj' e
     generalize k + t k % (n - k) = m at *
     rw [e2, e4] at this
     split at this <;> split at this <;> (try split at this) <;> (try split at this) <;> omega
theorem shuf_perm (t : Nat → Nat) (n : Nat) : shufTo t n n ∈ permsR n n 0 := by
 obtain ⟨h1, h2⟩ := shufTo_inj (t := t) (n := n) (Nat.le_refl _)
 have hl := shufTo_len t n n
 have hg : ∀ i (hi : i < (shufTo t n n).length), (shufTo t n n).getD i 0 = (shufTo t n n)[i] := fun i hi => by rw [List.getD_eq_getElem?_getD, List.getElem?_eq_getElem hi]; rfl
 refine (mem_perms _ _ _ _).2 ⟨hl, ?_, fun k hk => ⟨?_, Nat.zero_testBit _⟩⟩
 · rw [List.Nodup, List.pairwise_iff_getElem]
   intro i j hi hj hij e
   have := h2 i j (by omega) (by omega) (by rw [hg i hi, hg j hj]; exact e)
   omega
 · obtain ⟨i, hi, rfl⟩ := List.getElem_of_mem hk
   rw [← hg i hi]; exact h1 i (by omega)
theorem valTo_cong (f : Nat → Nat → Int) {ks ks' : List Nat} : ∀ n, (∀ i, i < n → ks.getD i 0 = ks'.getD i 0) → valTo f ks n = valTo f ks' n
 | 0, _ => rfl
 | n + 1, h => by rw [valTo, valTo, valTo_cong f n fun i hi => h i (by omega), h n (by omega)]
theorem shuf_top (f : Nat → Nat → Int) {t : Nat → Nat} {n k : Nat} (hk : k < n) : valTo f (shufTo t n (k + 1)) (k + 1) = max (valTo f (shufTo t n k) k) (f k ((shufTo t n k).getD (k + t k % (n - k)) 0)) := by
 rw [valTo, shufTo_get hk hk, if_pos rfl, valTo_cong f (ks := shufTo t n (k + 1)) (ks' := shufTo t n k) k fun i hi => by
   rw [shufTo_get hk (by omega), if_neg (by omega), if_neg (by omega)]]
theorem shuf_worst {f : Nat → Nat → Int} {n : Nat} {W : Int} (hW : ∀ ks ∈ permsR n n 0, W ≤ valR f ks) (t : Nat → Nat) : W ≤ valTo f (shufTo t n n) n := by
 have := hW _ (shuf_perm t n)
 rwa [valR, shufTo_len] at this
end Go.Aw
end
section
set_option maxRecDepth 20000
set_option maxHeartbeats 4000000
namespace Go.Aw
open Go.RowKit Go.Proofs
theorem wlt {n : Nat} {l : List Grd} (h : ∀ x ∈ l, GrdOk n x) {i : Nat} (hi : i < l.length) : 0 ≤ (l.getD i default).1 ∧ (l.getD i default).1 ≤ 1000000 := by
 have := (h _ (getD_mem hi)).w
 simpa [inR'] using this
theorem farF_bnd {n : Nat} {ls rs : List Grd} (hl : ∀ x ∈ ls, GrdOk n x) (hr : ∀ x ∈ rs, GrdOk n x) {i k : Nat} (hi : i < ls.length) (hk : k < rs.length) : 0 ≤ farF ls rs i k ∧ farF ls rs i k ≤ 1000000 := by
 have h1 := wlt hl hi
 have h2 := wlt hr hk
 unfold farF farR; omega
theorem valTo_bnd {n : Nat} {ls rs : List Grd} (hl : ∀ x ∈ ls, GrdOk n x) (hr : ∀ x ∈ rs, GrdOk n x) {ks : List Nat} (hk : ∀ k ∈ ks, k < rs.length) : ∀ i, i ≤ ks.length → i ≤ ls.length → 0 ≤ valTo (farF ls rs) ks i ∧ valTo (farF ls rs) ks i ≤ 1000000
 | 0, _, _ => by simp [valTo]
 | i + 1, h1, h2 => by
   have ih := valTo_bnd hl hr hk i (by omega) (by omega)
   have := farF_bnd hl hr (i := i) (k := ks.getD i 0) (by omega) (hk _ (getD_mem (by omega)))
   rw [valTo]; omega
end Go.Aw
end
section
set_option maxRecDepth 20000
set_option maxHeartbeats 4000000
namespace Go.Aw
open Go.RowKit Go.Proofs
theorem calldz {P : Program} {nx : Nat} {g : FuncId} {first cap args as1 as2 : List V} {h : Hp} {r : V} {K : V → List Nat → Wr → Prop} (id : Nat) {k : Nat} {es : List (List V)} {ty : TypeId} (hc : Ct P g as2 r) (hk : K r [id] []) (ha : first ++ args ++ cap = as1 := by first | (simp only [go_sem]; done) | (simp only [go_sem]; rfl)) (hb : h id = some ⟨k, es, ty, .fz⟩ := by rfl)
   (hp : PurI true (hpOf (fun _ => none) [(id, some ⟨k, es, ty, .fz⟩)]) as1 as2 := by
     (try simp (maxSteps := 1000000) -implicitDefEqProofs (disch := omega) only [go_sem])
     repeat' (first
       | with_reducible (first | exact PurI.nil | exact Pur.nilsl _ _ | exact PurE.nil)
       | (with_reducible (first | refine PurI.puL ?_ | refine PurE.puE ?_)) <;> (first | assumption | (simp only [go_sem] <;> assumption) | (simp only [go_sem, *]; done) | (simp [go_sem]; done))
       | with_reducible apply PurI.cons
       | (with_reducible refine Pur.pu _ ?_) <;> (first | assumption | (simp only [go_sem] <;> assumption) | (simp only [go_sem, *]; done) | (simp [go_sem]; done))
       | ((with_reducible apply Pur.refR) <;> (first | rfl | decide | (simp only [go_sem]; omega) | (simp only [go_sem]) | skip))
       | ((with_reducible apply Pur.osR) <;> (first | rfl | exact fun h => h | omega | (simp; omega) | (simp; done) | (simp only [go_sem]) | skip))
       | with_reducible (first | apply Pur.fnI | apply Pur.aggI | apply PurE.cons)
       | (with_reducible refine PurI.eqL ?_ ?_); (focus rfl); (focus (first | assumption | (simp only [go_sem] <;> assumption) | (simp only [go_sem, *]; done) | (simp [go_sem]; done)))
       | simp (maxSteps := 1000000) -implicitDefEqProofs (disch := omega) only [go_sem])) (hr : Pu r := by first | assumption | (simp only [go_sem] <;> assumption) | (simp only [go_sem, *]; done) | (simp [go_sem]; done)) : CallD P (.fn (.func g) first cap) args h nx K := by
 subst ha
 exact .mk g first cap as2 r [id] rfl (.inr ⟨by rw [restr_one hb]; exact hp.spec, hr⟩) hc.1 hc.2 hk
structure B3 where
 a : Int
 b : Int
 c : Int
instance : Inhabited B3 := ⟨⟨0, 0, 0⟩⟩
def okY (n : Int) : Prop := 0 ≤ n ∧ n ≤ 255
structure B3.ok (v : B3) : Prop where
 a : okY v.a
 b : okY v.b
 c : okY v.c
abbrev uy (n : Int) : V := .lit (.int .u8 n)
def enc3 (v : B3) : List V := [uy v.a, uy v.b, uy v.c]
@[go_sem] theorem enc3_eq (v : B3) : enc3 v = [uy v.a, uy v.b, uy v.c] := rfl
structure Chst where
 l : List B3
 r : List B3
 m : Int
 g0 : Int
 g1 : Int
 g2 : Int
 g3 : Int
structure Chst.ok (x : Chst) : Prop where
 l : ∀ v ∈ x.l, v.ok
 r : ∀ v ∈ x.r, v.ok
 ll : x.l.length ≤ 4611686018427387904
 rl : x.r.length ≤ 4611686018427387904
 m : okY x.m
 g0 : okY x.g0
 g1 : okY x.g1
 g2 : okY x.g2
 g3 : okY x.g3
def chC (x : Chst) : List V := [.sl 3 (x.l.map enc3) false, .sl 3 (x.r.map enc3) false, uy x.m, uy x.g0, uy x.g1, uy x.g2, uy x.g3]
@[go_sem] theorem chC_eq (x : Chst) : chC x = [.sl 3 (x.l.map enc3) false, .sl 3 (x.r.map enc3) false, uy x.m, uy x.g0, uy x.g1, uy x.g2, uy x.g3] := rfl
def curv (v : B3) (m : Nat) : List Int := [v.b, v.c].take m
def gdOf (m : Nat) (v : B3) : Grd := (200 + v.a, curv v m)
def chL (l : List B3) (m : Nat) : List Grd := (l.take 8).map (gdOf m)
def chG (x : Chst) : Gau := ⟨x.g0 % 10, x.g1 % 10, x.g2, x.g3⟩
def chM (x : Chst) : Nat := (1 + x.m % 2).toNat
theorem chM_is {x : Chst} (h : x.ok) : ((chM x : Nat) : Int) = 1 + x.m % 2 ∧ 1 ≤ chM x ∧ chM x ≤ 2 := by
 have := h.m
 unfold okY at this
 unfold chM
 omega
theorem chL_len (l : List B3) (m : Nat) : (chL l m).length = min 8 l.length := by simp [chL]
theorem curv_len {v : B3} {m : Nat} (h : m ≤ 2) : (curv v m).length = m := by simp [curv]; omega
theorem curv_succ {v : B3} {k : Nat} (h : k < 2) : curv v (k + 1) = curv v k ++ [if k = 0 then v.b else v.c] := by
 unfold curv
 have : k = 0 ∨ k = 1 := by omega
 rcases this with rfl | rfl <;> rfl
theorem gdOf_fine {v : B3} (h : v.ok) {m : Nat} (hm : m ≤ 2) : Fine m (gdOf m v) := by
 obtain ⟨h1, h2, h3⟩ := h
 unfold okY at h1 h2 h3
 refine ⟨by unfold gdOf; simp only; omega, by unfold gdOf; simp only; omega, curv_len hm, fun c hc => ?_⟩
 have : c ∈ [v.b, v.c] := List.mem_of_mem_take hc
 simp only [List.mem_cons, List.not_mem_nil, or_false] at this
 rcases this with rfl | rfl <;> omega
theorem chL_fine {l : List B3} {m : Nat} (h : ∀ v ∈ l, v.ok) (hm : m ≤ 2) : ∀ x ∈ chL l m, Fine m x := fun x hx => by
 obtain ⟨v, hv, rfl⟩ := List.mem_map.1 hx
 exact gdOf_fine (h v (List.mem_of_mem_take hv)) hm
theorem chG_ok {x : Chst} (h : x.ok) : gaugeR (chG x) = true := by
 have h0 := h.g0
 have h1 := h.g1
 have h2 := h.g2
 have h3 := h.g3
 unfold okY at h0 h1 h2 h3
 show (inR' 0 100 (x.g0 % 10) && inR' 0 100 (x.g1 % 10) && inR' 0 10000 x.g2 && inR' 0 500 x.g3) = true
 simp only [inR', Bool.and_eq_true, decide_eq_true_eq]
 omega
theorem made1_spec (l : List B3) (e : Bool) (m : Nat) (hm : m ≤ 2) (hl : l.length ≤ 4611686018427387904) (hb : ∀ v ∈ l, v.ok) : Ct Tryd.prog 10 [.sl 3 (l.map enc3) e, .rp [int m]] (.sl 2 ((chL l m).map encGd) false) := by
 refine fn_enter Tryd.func10 rfl (by decide) Tryd.results10 Tryd.ntmps10 ?_ rfl (by simp (maxSteps := 1000000) -implicitDefEqProofs (disch := omega) only [go_sem]; rfl) fun base => ?_
 · first | assumption | (simp only [go_sem] <;> assumption) | (simp only [go_sem, *]; done) | (simp [go_sem]; done)
 repeat' (first
   | (with_reducible apply Req_intro); focus (first | omega | assumption | (simp; done))
   | with_reducible (first | apply Req_intro | refine nilT ?_ fun hn => ?_ | apply wk_draw Tryd_mixed | refine drawEnd (by kernel_rfl) ?_)
   | (with_reducible (first | apply condA_if | apply stepDG_ifN | apply stepDG_if | apply stepG_ifN | apply stepG_if)) <;> intro hb <;> (have hif := hb) <;> (try simp only [bo] at hif) <;> (try simp -implicitDefEqProofs (disch := omega) only [go_sem, hb]) <;> clear hb
   | simp (maxSteps := 1000000) -implicitDefEqProofs (disch := omega) only [go_sem])
 refine loop_rows (α := Nat) (6 :: 7 :: [4, 5, 6, 7, 9, 10, 11, 12, 13, 14, 15, 16, 17, 18, 19, 20, 21, 22, 23, 24, 25, 26, 27, 28, 29, 30, 31, 32, 33, 34, 35, 36, 37, 38, 39, 40, 41, 42, 43, 44, 45, 46, 47, 48]) (fun i => [(5, .lit (.int .i64 i)), (4, .os 65 2 i false), (8, .undef)]) (fun i => [(65, some ⟨2, ((l.take i).map (gdOf m)).map encGd, 43, .wr⟩)]) (fun i => i ≤ l.length ∧ i ≤ 8) (fun i => 8 - i) 0 (fun x => by simp (maxSteps := 1000000) -implicitDefEqProofs (disch := omega) only [go_sem]; rfl) ?_ ?_ fun x hx => ?_
 · simp only [List.take_zero, List.map_nil]
   exact weak_do3 [(65, 64)]
 · exact ⟨Nat.zero_le _, by omega⟩
 rename Nat => i
 obtain ⟨hi1, hi2⟩ := hx
 have htl : ((l.take i).map (gdOf m)).length = i := by simp; omega
 by_cases hlt : i < l.length ∧ i < 8
 · obtain ⟨hlt1, hlt2⟩ := hlt
   have hv := hb _ (getD_mem hlt1)
   obtain ⟨v1, v2, v3⟩ := hv
   unfold okY at v1 v2 v3
   have htk : (l.take (i + 1)).map (gdOf m) = (l.take i).map (gdOf m) ++ [gdOf m (l.getD i default)] := by rw [take_succ_getD hlt1, List.map_append]; rfl
   generalize (l.take i).map (gdOf m) = L at *
   generalize hvv : l.getD i default = v at *
   repeat' (first
     | (with_reducible apply Req_intro); focus (first | omega | assumption | (simp; done))
     | with_reducible (first | apply Req_intro | refine nilT ?_ fun hn => ?_ | apply wk_draw Tryd_mixed | refine drawEnd (by kernel_rfl) ?_)
     | (with_reducible (first | apply condA_if | apply stepDG_ifN | apply stepDG_if | apply stepG_ifN | apply stepG_if)) <;> intro hb <;> (have hif := hb) <;> (try simp only [bo] at hif) <;> (try simp -implicitDefEqProofs (disch := omega) only [go_sem, hb, hvv]) <;> clear hb
     | simp (maxSteps := 1000000) -implicitDefEqProofs (disch := omega) only [go_sem, hvv])
   all_goals first | exact absurd trivial ‹¬True› | exact absurd ‹false = true› (by decide) | exact absurd ‹true = false› (by decide) | (exfalso; omega) | omega | skip
   refine loop_rows (α := Nat) ([7, 27, 28, 29, 30, 31, 32, 33, 34, 35, 36, 37, 38, 39, 40, 41, 42, 43, 44]) (fun k => [(7, .lit (.int .i64 k)), (4, .os 65 2 i false)]) (fun k => [(65, some ⟨2, L.map encGd, 43, .wr⟩), (1280, some ⟨2, [[int (200 + v.a), .os 66 1 k false]], 43, .wr⟩), (66, some ⟨1, (curv v k).map encI, 3, .wr⟩)]) (fun k => k ≤ m) (fun k => m - k) 0 (fun x => by simp (maxSteps := 1000000) -implicitDefEqProofs (disch := omega) only [go_sem]; rfl) ?_ ?_ fun x hx => ?_
   · rw [show curv v 0 = [] from rfl]
     simp only [List.map_nil]
     exact weak_do3 [(66, 1000000)]
   · exact Nat.zero_le _
   rename Nat => k
   have hcl := curv_len (v := v) (m := k) (by omega)
   by_cases hkm : k < m
   · have hk01 : k = 0 ∨ k = 1 := by omega
     have hcs := curv_succ (v := v) (k := k) (by omega)
     generalize curv v k = C at *
     rcases hk01 with rfl | rfl
     · have hd0 : (List.drop ((1 + ((0 : Nat) : Int)).toNat * 1) [uy v.a, uy v.b, uy v.c]).headD V.undef = uy v.b := rfl
       repeat' (first
         | (with_reducible apply Req_intro); focus (first | omega | assumption | (simp; done))
         | with_reducible (first | apply Req_intro | refine nilT ?_ fun hn => ?_ | apply wk_draw Tryd_mixed | refine drawEnd (by kernel_rfl) ?_)
         | (with_reducible (first | apply condA_if | apply stepDG_ifN | apply stepDG_if | apply stepG_ifN | apply stepG_if)) <;> intro hb <;> (have hif := hb) <;> (try simp only [bo] at hif) <;> (try simp -implicitDefEqProofs (disch := omega) only [go_sem, hb, hvv, hd0]) <;> clear hb
         | simp (maxSteps := 1000000) -implicitDefEqProofs (disch := omega) only [go_sem, hvv, hd0])
       all_goals first | exact absurd trivial ‹¬True› | exact absurd ‹false = true› (by decide) | exact absurd ‹true = false› (by decide) | (exfalso; omega) | omega | skip
       with_reducible refine nxt_w (0 + 1) ?_ ?_
       · (try dsimp only)
         (rw [hcs]; simp only [List.map_append, if_true, List.map_cons, List.map_nil])
         exact weak_do3 [(66, 2368)]
       try dsimp only
       omega
     · have hd0 : (List.drop ((1 + ((1 : Nat) : Int)).toNat * 1) [uy v.a, uy v.b, uy v.c]).headD V.undef = uy v.c := rfl
       repeat' (first
         | (with_reducible apply Req_intro); focus (first | omega | assumption | (simp; done))
         | with_reducible (first | apply Req_intro | refine nilT ?_ fun hn => ?_ | apply wk_draw Tryd_mixed | refine drawEnd (by kernel_rfl) ?_)
         | (with_reducible (first | apply condA_if | apply stepDG_ifN | apply stepDG_if | apply stepG_ifN | apply stepG_if)) <;> intro hb <;> (have hif := hb) <;> (try simp only [bo] at hif) <;> (try simp -implicitDefEqProofs (disch := omega) only [go_sem, hb, hvv, hd0]) <;> clear hb
         | simp (maxSteps := 1000000) -implicitDefEqProofs (disch := omega) only [go_sem, hvv, hd0])
       all_goals first | exact absurd trivial ‹¬True› | exact absurd ‹false = true› (by decide) | exact absurd ‹true = false› (by decide) | (exfalso; omega) | omega | skip
       with_reducible refine nxt_w (1 + 1) ?_ ?_
       · (try dsimp only)
         (rw [hcs]; simp only [List.map_append, Nat.one_ne_zero, if_false, List.map_cons, List.map_nil])
         exact weak_do3 [(66, 2368)]
       try dsimp only
       omega
   · obtain rfl : k = m := by omega
     have hgd : gdOf k v = (200 + v.a, curv v k) := rfl
     generalize curv v k = C at *
     repeat' (first
       | (with_reducible apply Req_intro); focus (first | omega | assumption | (simp; done))
       | with_reducible (first | apply Req_intro | refine nilT ?_ fun hn => ?_ | apply wk_draw Tryd_mixed | refine drawEnd (by kernel_rfl) ?_)
       | (with_reducible (first | apply condA_if | apply stepDG_ifN | apply stepDG_if | apply stepG_ifN | apply stepG_if)) <;> intro hb <;> (have hif := hb) <;> (try simp only [bo] at hif) <;> (try simp -implicitDefEqProofs (disch := omega) only [go_sem, hb, hvv]) <;> clear hb
       | simp (maxSteps := 1000000) -implicitDefEqProofs (disch := omega) only [go_sem, hvv])
     all_goals first | exact absurd trivial ‹¬True› | exact absurd ‹false = true› (by decide) | exact absurd ‹true = false› (by decide) | (exfalso; omega) | omega | skip
     refine nxt_snapRow [66] 1856 (es' := L.map encGd ++ [encGd (200 + v.a, C)]) (by first | (simp only [go_sem]; done) | (simp only [go_sem]; rfl)) (by rfl) ?_ (by first | assumption | (simp only [go_sem] <;> assumption) | (simp only [go_sem, *]; done) | (simp [go_sem]; done)) (by first | (simp only [go_sem]; done) | (simp only [go_sem]; rfl)) ?_
     · refine PurE.snocR (by first | assumption | (simp only [go_sem] <;> assumption) | (simp only [go_sem, *]; done) | (simp [go_sem]; done)) ?_
       rw [show encGd (200 + v.a, C) = [.lit (.int .i64 (200 + v.a)), .sl 1 (C.map encI) false] from rfl]
       (try simp (maxSteps := 1000000) -implicitDefEqProofs (disch := omega) only [go_sem])
       repeat' (first
         | with_reducible (first | exact PurI.nil | exact Pur.nilsl _ _ | exact PurE.nil)
         | (with_reducible (first | refine PurI.puL ?_ | refine PurE.puE ?_)) <;> (first | assumption | (simp only [go_sem] <;> assumption) | (simp only [go_sem, *]; done) | (simp [go_sem]; done))
         | with_reducible apply PurI.cons
         | (with_reducible refine Pur.pu _ ?_) <;> (first | assumption | (simp only [go_sem] <;> assumption) | (simp only [go_sem, *]; done) | (simp [go_sem]; done))
         | ((with_reducible apply Pur.refR) <;> (first | rfl | decide | (simp only [go_sem]; omega) | (simp only [go_sem]) | skip))
         | ((with_reducible apply Pur.osR) <;> (first | rfl | exact fun h => h | omega | (simp; omega) | (simp; done) | (simp only [go_sem]) | skip))
         | with_reducible (first | apply Pur.fnI | apply Pur.aggI | apply PurE.cons)
         | (with_reducible refine PurI.eqL ?_ ?_); (focus rfl); (focus (first | assumption | (simp only [go_sem] <;> assumption) | (simp only [go_sem, *]; done) | (simp [go_sem]; done)))
         | simp (maxSteps := 1000000) -implicitDefEqProofs (disch := omega) only [go_sem])
     with_reducible refine nxt_w (i + 1) ?_ ?_
     · (try dsimp only)
       rw [htk, List.map_append, hgd]
       exact weak_do3 [(65, 1856)]
     try dsimp only
     omega
 · have hi8 : (l.take i).map (gdOf m) = chL l m := by
     unfold chL
     rcases (show l.length ≤ i ∨ i = 8 by omega) with h | h
     · rw [List.take_of_length_le h, List.take_of_length_le (by omega)]
     · rw [h]
   rw [hi8] at htl ⊢
   rw [← htl]
   generalize chL l m = L at *
   repeat' (first
     | (with_reducible apply Req_intro); focus (first | omega | assumption | (simp; done))
     | with_reducible (first | apply Req_intro | refine nilT ?_ fun hn => ?_ | apply wk_draw Tryd_mixed | refine drawEnd (by kernel_rfl) ?_)
     | (with_reducible (first | apply condA_if | apply stepDG_ifN | apply stepDG_if | apply stepG_ifN | apply stepG_if)) <;> intro hb <;> (have hif := hb) <;> (try simp only [bo] at hif) <;> (try simp -implicitDefEqProofs (disch := omega) only [go_sem, hb]) <;> clear hb
     | simp (maxSteps := 1000000) -implicitDefEqProofs (disch := omega) only [go_sem])
   all_goals first | exact absurd trivial ‹¬True› | exact absurd ‹false = true› (by decide) | exact absurd ‹true = false› (by decide) | (exfalso; omega) | omega | skip
   all_goals
     exact retf [65] [3] [.sl 2 (L.map encGd) false]
theorem made_spec (x : Chst) (h : x.ok) : Ct Tryd.prog 4 [.agg (chC x)] (.tup [encSt (chL x.l (chM x)) (chL x.r (chM x)) false false, encGa (chG x)]) := by
 obtain ⟨hm1, hm2, hm3⟩ := chM_is h
 have q1 := made1_spec x.l false (chM x) hm3 h.ll h.l
 have q2 := made1_spec x.r false (chM x) hm3 h.rl h.r
 have hg : encGa (chG x) = .agg [int (x.g0 % 10), int (x.g1 % 10), int x.g2, int x.g3] := rfl
 have h0 := h.m
 have h1 := h.g0
 have h2 := h.g1
 have h3 := h.g2
 have h4 := h.g3
 unfold okY at h0 h1 h2 h3 h4
 rw [hg]
 generalize chL x.l (chM x) = L1 at *
 generalize chL x.r (chM x) = L2 at *
 rw [hm1] at q1 q2
 refine ct_enterT Tryd.func4 rfl (by decide) Tryd.results4 Tryd.ntmps4 ?_ rfl (by simp (maxSteps := 1000000) -implicitDefEqProofs (disch := omega) only [go_sem]; rfl) fun base => ?_
 · first | assumption | (simp only [go_sem] <;> assumption) | (simp only [go_sem, *]; done) | (simp [go_sem]; done)
 repeat' (first
   | (with_reducible apply Req_intro); focus (first | omega | assumption | (simp; done))
   | with_reducible (first | apply Req_intro | refine nilT ?_ fun hn => ?_ | apply wk_draw Tryd_mixed | refine drawEnd (by kernel_rfl) ?_)
   | (with_reducible (first | apply condA_if | apply stepDG_ifN | apply stepDG_if | apply stepG_ifN | apply stepG_if)) <;> intro hb <;> (have hif := hb) <;> (try simp only [bo] at hif) <;> (try simp -implicitDefEqProofs (disch := omega) only [go_sem, hb]) <;> clear hb
   | simp (maxSteps := 1000000) -implicitDefEqProofs (disch := omega) only [go_sem])
 all_goals first | exact absurd trivial ‹¬True› | exact absurd ‹false = true› (by decide) | exact absurd ‹true = false› (by decide) | (exfalso; omega) | omega | skip
 refine calldf 640 q1 ?_
 try simp (maxSteps := 1000000) -implicitDefEqProofs (disch := omega) only [go_sem]
 repeat' (first
   | (with_reducible apply Req_intro); focus (first | omega | assumption | (simp; done))
   | with_reducible (first | apply Req_intro | refine nilT ?_ fun hn => ?_ | apply wk_draw Tryd_mixed | refine drawEnd (by kernel_rfl) ?_)
   | (with_reducible (first | apply condA_if | apply stepDG_ifN | apply stepDG_if | apply stepG_ifN | apply stepG_if)) <;> intro hb <;> (have hif := hb) <;> (try simp only [bo] at hif) <;> (try simp -implicitDefEqProofs (disch := omega) only [go_sem, hb]) <;> clear hb
   | simp (maxSteps := 1000000) -implicitDefEqProofs (disch := omega) only [go_sem])
 all_goals first | exact absurd trivial ‹¬True› | exact absurd ‹false = true› (by decide) | exact absurd ‹true = false› (by decide) | (exfalso; omega) | omega | skip
 refine calldz 640 q2 ?_
 try simp (maxSteps := 1000000) -implicitDefEqProofs (disch := omega) only [go_sem]
 repeat' (first
   | (with_reducible apply Req_intro); focus (first | omega | assumption | (simp; done))
   | with_reducible (first | apply Req_intro | refine nilT ?_ fun hn => ?_ | apply wk_draw Tryd_mixed | refine drawEnd (by kernel_rfl) ?_)
   | (with_reducible (first | apply condA_if | apply stepDG_ifN | apply stepDG_if | apply stepG_ifN | apply stepG_if)) <;> intro hb <;> (have hif := hb) <;> (try simp only [bo] at hif) <;> (try simp -implicitDefEqProofs (disch := omega) only [go_sem, hb]) <;> clear hb
   | simp (maxSteps := 1000000) -implicitDefEqProofs (disch := omega) only [go_sem])
 all_goals first | exact absurd trivial ‹¬True› | exact absurd ‹false = true› (by decide) | exact absurd ‹true = false› (by decide) | (exfalso; omega) | omega | skip
 exact rett []
def encY (n : Int) : List V := [uy n]
@[go_sem] theorem encY_eq (n : Int) : encY n = [uy n] := rfl
def trTo (g : Gau) (b : List Int) (i : Nat) (x : Grd) (k : Nat) : List Int := (List.range k).map fun k => x.2.getD k default + atR b i (1 + k) g.ga
end Go.Aw
end
section
set_option maxRecDepth 20000
set_option maxHeartbeats 4000000
namespace Go.Aw
open Go.RowKit Go.Proofs
def Mild (a : Int) : Prop := -100000 ≤ a ∧ a ≤ 100000
theorem lfar_spec (a b : Int) (ha : Mild a) (hb : Mild b) : Ct Tryd.prog 8 [int a, int b] (int (farR a b)) := by
 unfold Mild at ha hb
 refine fn_enter Tryd.func8 rfl (by decide) Tryd.results8 Tryd.ntmps8 ?_ rfl (by simp (maxSteps := 1000000) -implicitDefEqProofs (disch := omega) only [go_sem]; rfl) fun base => ?_
 · first | assumption | (simp only [go_sem] <;> assumption) | (simp only [go_sem, *]; done) | (simp [go_sem]; done)
 repeat' (first
   | (with_reducible apply Req_intro); focus (first | omega | assumption | (simp; done))
   | with_reducible (first | apply Req_intro | refine nilT ?_ fun hn => ?_ | apply wk_draw Tryd_mixed | refine drawEnd (by kernel_rfl) ?_)
   | (with_reducible (first | apply condA_if | apply stepDG_ifN | apply stepDG_if | apply stepG_ifN | apply stepG_if)) <;> intro hb <;> (have hif := hb) <;> (try simp only [bo] at hif) <;> (try simp -implicitDefEqProofs (disch := omega) only [go_sem, hb]) <;> clear hb
   | simp (maxSteps := 1000000) -implicitDefEqProofs (disch := omega) only [go_sem])
 refine ret_do ?_
 rfl
end Go.Aw
end
section
set_option maxRecDepth 20000
set_option maxHeartbeats 4000000
namespace Go.Aw
open Go.RowKit Go.Proofs
theorem asc_getP {l : List (Nat × Nat)} (h : (l.map (·.1)).Pairwise (· < ·)) {i : Nat} (hi : i + 1 < l.length) : (l.getD i default).1 < (l.getD (i + 1) default).1 := by
 rw [getD_default (by omega), getD_default hi]
 have := List.pairwise_iff_getElem.1 h i (i + 1) (by simp; omega) (by simp; omega) (by omega)
 simpa using this
theorem nodup_getP {l : List (Nat × Nat)} (h : (l.map (·.2)).Nodup) {i k : Nat} (hi : i < l.length) (hk : k < i) : (l.getD k default).2 ≠ (l.getD i default).2 := by
 rw [getD_default (by omega), getD_default hi]
 have := List.pairwise_iff_getElem.1 h k i (by simp; omega) (by simp; omega) (by omega)
 simpa using this
theorem apart_spec (ls rs : List Grd) (e1 e2 e : Bool) (l : List (Nat × Nat)) (hl : l.length ≤ 100) (h1 : ∀ p ∈ l, p.1 < ls.length ∧ p.2 < rs.length) (ha : (l.map (·.1)).Pairwise (· < ·)) (hn : (l.map (·.2)).Nodup) : Ct Tryd.prog 7 [encSt ls rs e1 e2, .sl 2 (l.map encP) e] (.lit (.bool true)) := by
 refine fn_enter Tryd.func7 rfl (by decide) Tryd.results7 Tryd.ntmps7 ?_ rfl (by simp (maxSteps := 1000000) -implicitDefEqProofs (disch := omega) only [go_sem]; rfl) fun base => ?_
 · first | assumption | (simp only [go_sem] <;> assumption) | (simp only [go_sem, *]; done) | (simp [go_sem]; done)
 repeat' (first
   | (with_reducible apply Req_intro); focus (first | omega | assumption | (simp; done))
   | with_reducible (first | apply Req_intro | refine nilT ?_ fun hn => ?_ | apply wk_draw Tryd_mixed | refine drawEnd (by kernel_rfl) ?_)
   | (with_reducible (first | apply condA_if | apply stepDG_ifN | apply stepDG_if | apply stepG_ifN | apply stepG_if)) <;> intro hb <;> (have hif := hb) <;> (try simp only [bo] at hif) <;> (try simp -implicitDefEqProofs (disch := omega) only [go_sem, hb]) <;> clear hb
   | simp (maxSteps := 1000000) -implicitDefEqProofs (disch := omega) only [go_sem])
 refine loop_rows (α := Nat) (6 :: [4, 5, 6, 7, 8, 9, 10, 11, 12, 13, 14, 15, 16, 17, 18, 19, 20, 21, 22, 23, 24, 25, 26, 27, 28, 29, 30, 31, 32, 33, 34, 35, 36, 37, 38, 39, 40, 41, 42, 43, 44, 45, 46, 47, 48, 49, 50, 51, 52, 53, 54, 55, 56, 57, 58, 59, 60, 61, 62, 63, 64, 65, 66, 67, 68, 69, 70, 71, 72, 73, 74, 75, 76, 77, 78, 79, 80, 81, 82]) (fun i => [(5, .lit (.int .i64 i))]) (fun i => [(0, some ⟨2, [[.sl 2 (ls.map encGd) e1, .sl 2 (rs.map encGd) e2]], 29, .wr⟩)]) (fun i => i ≤ l.length) (fun i => l.length - i) 0 (fun x => by simp (maxSteps := 1000000) -implicitDefEqProofs (disch := omega) only [go_sem]; rfl) ?_ ?_ fun x hx => ?_
 · exact weak_do3 []
 · exact Nat.zero_le _
 rename Nat => i
 by_cases hlt : i < l.length
 · obtain ⟨b1, b2⟩ := h1 _ (getD_mem hlt)
   have hnd := fun k (hk : k < i) => nodup_getP hn hlt hk
   have hrest : ∀ (Q : Prop), Q → Q := fun _ h => h
   obtain ⟨pa, hpa⟩ : ∃ pa, (l.getD i default).1 = pa := ⟨_, rfl⟩
   obtain ⟨pb, hpb⟩ : ∃ pb, (l.getD i default).2 = pb := ⟨_, rfl⟩
   rw [hpa] at b1
   rw [hpb] at b2
   rcases Nat.eq_zero_or_pos i with h0 | h0
   · subst h0
     repeat' (first
       | (with_reducible apply Req_intro); focus (first | omega | assumption | (simp; done))
       | with_reducible (first | apply Req_intro | refine nilT ?_ fun hn => ?_ | apply wk_draw Tryd_mixed | refine drawEnd (by kernel_rfl) ?_)
       | (with_reducible (first | apply condA_if | apply stepDG_ifN | apply stepDG_if | apply stepG_ifN | apply stepG_if)) <;> intro hb <;> (have hif := hb) <;> (try simp only [bo] at hif) <;> (try simp -implicitDefEqProofs (disch := omega) only [go_sem, hb, hpa, hpb]) <;> clear hb
       | simp (maxSteps := 1000000) -implicitDefEqProofs (disch := omega) only [go_sem, hpa, hpb])
     all_goals first | exact absurd trivial ‹¬True› | exact absurd ‹false = true› (by decide) | exact absurd ‹true = false› (by decide) | (exfalso; omega) | omega | skip
     refine loop_rows (α := Nat) ([4, 6, 67, 68, 69, 70, 71, 72, 73, 74, 75, 76, 77, 78, 79, 80, 81, 82]) (fun k => [(6, .lit (.int .i64 k))]) (fun i => [(0, some ⟨2, [[.sl 2 (ls.map encGd) e1, .sl 2 (rs.map encGd) e2]], 29, .wr⟩)]) (fun k => k ≤ 0) (fun k => 0 - k) 0 (fun x => by simp (maxSteps := 1000000) -implicitDefEqProofs (disch := omega) only [go_sem]; rfl) ?_ ?_ fun x hx => ?_
     · exact weak_do3 []
     · exact Nat.zero_le _
     obtain rfl : x = 0 := by omega
     repeat' (first
       | (with_reducible apply Req_intro); focus (first | omega | assumption | (simp; done))
       | with_reducible (first | apply Req_intro | refine nilT ?_ fun hn => ?_ | apply wk_draw Tryd_mixed | refine drawEnd (by kernel_rfl) ?_)
       | (with_reducible (first | apply condA_if | apply stepDG_ifN | apply stepDG_if | apply stepG_ifN | apply stepG_if)) <;> intro hb <;> (have hif := hb) <;> (try simp only [bo] at hif) <;> (try simp -implicitDefEqProofs (disch := omega) only [go_sem, hb]) <;> clear hb
       | simp (maxSteps := 1000000) -implicitDefEqProofs (disch := omega) only [go_sem])
     all_goals first | exact absurd trivial ‹¬True› | exact absurd ‹false = true› (by decide) | exact absurd ‹true = false› (by decide) | (exfalso; omega) | omega | skip
     with_reducible refine nxt_w (0 + 1) ?_ ?_
     · (try dsimp only)
       skip
       exact weak_do3 []
     try dsimp only
     omega
   · obtain ⟨y, rfl⟩ : ∃ y, i = y + 1 := ⟨i - 1, by omega⟩
     have hac := asc_getP ha hlt
     rw [hpa] at hac
     obtain ⟨pc, hpc⟩ : ∃ pc, (l.getD y default).1 = pc := ⟨_, rfl⟩
     rw [hpc] at hac
     have hy : (((y + 1 : Nat) : Int) - 1).toNat = y := by omega
     repeat' (first
       | (with_reducible apply Req_intro); focus (first | omega | assumption | (simp; done))
       | with_reducible (first | apply Req_intro | refine nilT ?_ fun hn => ?_ | apply wk_draw Tryd_mixed | refine drawEnd (by kernel_rfl) ?_)
       | (with_reducible (first | apply condA_if | apply stepDG_ifN | apply stepDG_if | apply stepG_ifN | apply stepG_if)) <;> intro hb <;> (have hif := hb) <;> (try simp only [bo] at hif) <;> (try simp -implicitDefEqProofs (disch := omega) only [go_sem, hb, hpa, hpb, hy, hpc]) <;> clear hb
       | simp (maxSteps := 1000000) -implicitDefEqProofs (disch := omega) only [go_sem, hpa, hpb, hy, hpc])
     all_goals first | exact absurd trivial ‹¬True› | exact absurd ‹false = true› (by decide) | exact absurd ‹true = false› (by decide) | (exfalso; omega) | omega | skip
     refine loop_rows (α := Nat) ([4, 6, 67, 68, 69, 70, 71, 72, 73, 74, 75, 76, 77, 78, 79, 80, 81, 82]) (fun k => [(6, .lit (.int .i64 k))]) (fun i => [(0, some ⟨2, [[.sl 2 (ls.map encGd) e1, .sl 2 (rs.map encGd) e2]], 29, .wr⟩)]) (fun k => k ≤ y + 1) (fun k => y + 1 - k) 0 (fun x => by simp (maxSteps := 1000000) -implicitDefEqProofs (disch := omega) only [go_sem]; rfl) ?_ ?_ fun x hx => ?_
     · exact weak_do3 []
     · exact Nat.zero_le _
     by_cases hk : x < y + 1
     · have hne := hnd x hk
       rw [hpb] at hne
       obtain ⟨pd, hpd⟩ : ∃ pd, (l.getD x default).2 = pd := ⟨_, rfl⟩
       rw [hpd] at hne
       repeat' (first
         | (with_reducible apply Req_intro); focus (first | omega | assumption | (simp; done))
         | with_reducible (first | apply Req_intro | refine nilT ?_ fun hn => ?_ | apply wk_draw Tryd_mixed | refine drawEnd (by kernel_rfl) ?_)
         | (with_reducible (first | apply condA_if | apply stepDG_ifN | apply stepDG_if | apply stepG_ifN | apply stepG_if)) <;> intro hb <;> (have hif := hb) <;> (try simp only [bo] at hif) <;> (try simp -implicitDefEqProofs (disch := omega) only [go_sem, hb, hpb, hpd]) <;> clear hb
         | simp (maxSteps := 1000000) -implicitDefEqProofs (disch := omega) only [go_sem, hpb, hpd])
       all_goals first | exact absurd trivial ‹¬True› | exact absurd ‹false = true› (by decide) | exact absurd ‹true = false› (by decide) | (exfalso; omega) | omega | skip
       with_reducible refine nxt_w (x + 1) ?_ ?_
       · (try dsimp only)
         skip
         exact weak_do3 []
       try dsimp only
       omega
     · repeat' (first
         | (with_reducible apply Req_intro); focus (first | omega | assumption | (simp; done))
         | with_reducible (first | apply Req_intro | refine nilT ?_ fun hn => ?_ | apply wk_draw Tryd_mixed | refine drawEnd (by kernel_rfl) ?_)
         | (with_reducible (first | apply condA_if | apply stepDG_ifN | apply stepDG_if | apply stepG_ifN | apply stepG_if)) <;> intro hb <;> (have hif := hb) <;> (try simp only [bo] at hif) <;> (try simp -implicitDefEqProofs (disch := omega) only [go_sem, hb]) <;> clear hb
         | simp (maxSteps := 1000000) -implicitDefEqProofs (disch := omega) only [go_sem])
       all_goals first | exact absurd trivial ‹¬True› | exact absurd ‹false = true› (by decide) | exact absurd ‹true = false› (by decide) | (exfalso; omega) | omega | skip
       with_reducible refine nxt_w (y + 1 + 1) ?_ ?_
       · (try dsimp only)
         skip
         exact weak_do3 []
       try dsimp only
       omega
 · repeat' (first
     | (with_reducible apply Req_intro); focus (first | omega | assumption | (simp; done))
     | with_reducible (first | apply Req_intro | refine nilT ?_ fun hn => ?_ | apply wk_draw Tryd_mixed | refine drawEnd (by kernel_rfl) ?_)
     | (with_reducible (first | apply condA_if | apply stepDG_ifN | apply stepDG_if | apply stepG_ifN | apply stepG_if)) <;> intro hb <;> (have hif := hb) <;> (try simp only [bo] at hif) <;> (try simp -implicitDefEqProofs (disch := omega) only [go_sem, hb]) <;> clear hb
     | simp (maxSteps := 1000000) -implicitDefEqProofs (disch := omega) only [go_sem])
   all_goals first | exact absurd trivial ‹¬True› | exact absurd ‹false = true› (by decide) | exact absurd ‹true = false› (by decide) | (exfalso; omega) | omega | skip
   refine ret_do ?_
   rfl
end Go.Aw
end
section
namespace Go.Proofs
open Go.Shelf
def Tryd.lays189_ren : Ren := ⟨fun | 125 => 34 | 128 => 64 | 129 => 65 | 189 => 13 | 215 => 81 | 216 => 61 | 257 => 33 | 294 => 55 | 295 => 56 | 296 => 57 | 297 => 58 | 298 => 59 | 299 => 60 | 300 => 62 | 301 => 63 | 328 => 76 | 329 => 77 | 330 => 78 | 331 => 79 | 332 => 80 | 343 => 86 | n => n, fun | 28 => 41 | 46 => 56 | 51 => 119 | 53 => 121 | 131 => 116 | 182 => 110 | 183 => 111 | 218 => 129 | 222 => 133 | 228 => 138 | 229 => 139 | n => n, fun | n => n⟩
theorem Tryd.lays189 : Lays.n189 Tryd.prog Tryd.lays189_ren := {
 mixed := by kernel_rfl,
 f125 := Tryd.func34.trans (congrArg some (by kernel_rfl)),
 f128 := Tryd.func64.trans (congrArg some (by kernel_rfl)),
 f129 := Tryd.func65.trans (congrArg some (by kernel_rfl)),
 f189 := Tryd.func13.trans (congrArg some (by kernel_rfl)),
 f215 := Tryd.func81.trans (congrArg some (by kernel_rfl)),
 f216 := Tryd.func61.trans (congrArg some (by kernel_rfl)),
 f257 := Tryd.func33.trans (congrArg some (by kernel_rfl)),
 f294 := Tryd.func55.trans (congrArg some (by kernel_rfl)),
 f295 := Tryd.func56.trans (congrArg some (by kernel_rfl)),
 f296 := Tryd.func57.trans (congrArg some (by kernel_rfl)),
 f297 := Tryd.func58.trans (congrArg some (by kernel_rfl)),
 f298 := Tryd.func59.trans (congrArg some (by kernel_rfl)),
 f299 := Tryd.func60.trans (congrArg some (by kernel_rfl)),
 f300 := Tryd.func62.trans (congrArg some (by kernel_rfl)),
 f301 := Tryd.func63.trans (congrArg some (by kernel_rfl)),
 f328 := Tryd.func76.trans (congrArg some (by kernel_rfl)),
 f329 := Tryd.func77.trans (congrArg some (by kernel_rfl)),
 f330 := Tryd.func78.trans (congrArg some (by kernel_rfl)),
 f331 := Tryd.func79.trans (congrArg some (by kernel_rfl)),
 f332 := Tryd.func80.trans (congrArg some (by kernel_rfl)),
 f343 := Tryd.func86.trans (congrArg some (by kernel_rfl)),
 t0 := Tryd.underlying0,
 a0 := Tryd.isAgg0,
 z0 := Tryd.sizeOf0,
 v0 := Tryd.zeroValue0,
 t3 := Tryd.underlying3,
 a3 := Tryd.isAgg3,
 z3 := Tryd.sizeOf3,
 v3 := Tryd.zeroValue3,
 t4 := Tryd.underlying4,
 a4 := Tryd.isAgg4,
 z4 := Tryd.sizeOf4,
 v4 := Tryd.zeroValue4,
 t5 := Tryd.underlying5,
 a5 := Tryd.isAgg5,
 z5 := Tryd.sizeOf5,
 v5 := Tryd.zeroValue5,
 t9 := Tryd.underlying9,
 a9 := Tryd.isAgg9,
 z9 := Tryd.sizeOf9,
 v9 := Tryd.zeroValue9,
 t28 := Tryd.underlying41,
 a28 := Tryd.isAgg41,
 z28 := Tryd.sizeOf41,
 v28 := Tryd.zeroValue41,
 t46 := Tryd.underlying56,
 a46 := Tryd.isAgg56,
 z46 := Tryd.sizeOf56,
 v46 := Tryd.zeroValue56,
 t51 := Tryd.underlying119,
 a51 := Tryd.isAgg119,
 z51 := Tryd.sizeOf119,
 v51 := Tryd.zeroValue119,
 t53 := Tryd.underlying121,
 a53 := Tryd.isAgg121,
 z53 := Tryd.sizeOf121,
 v53 := Tryd.zeroValue121,
 t131 := Tryd.underlying116,
 a131 := Tryd.isAgg116,
 z131 := Tryd.sizeOf116,
 v131 := Tryd.zeroValue116,
 t182 := Tryd.underlying110,
 a182 := Tryd.isAgg110,
 z182 := Tryd.sizeOf110,
 v182 := Tryd.zeroValue110,
 t183 := Tryd.underlying111,
 a183 := Tryd.isAgg111,
 z183 := Tryd.sizeOf111,
 v183 := Tryd.zeroValue111,
 t218 := Tryd.underlying129,
 a218 := Tryd.isAgg129,
 z218 := Tryd.sizeOf129,
 v218 := Tryd.zeroValue129,
 t222 := Tryd.underlying133,
 a222 := Tryd.isAgg133,
 z222 := Tryd.sizeOf133,
 v222 := Tryd.zeroValue133,
 t228 := Tryd.underlying138,
 a228 := Tryd.isAgg138,
 z228 := Tryd.sizeOf138,
 v228 := Tryd.zeroValue138,
 t229 := Tryd.underlying139,
 a229 := Tryd.isAgg139,
 z229 := Tryd.sizeOf139,
 v229 := Tryd.zeroValue139
 }
end Go.Proofs
end
section
set_option maxRecDepth 20000
namespace Go.Aw
open Go.RowKit Go.Proofs Go.Sort
def sorted (l : List Int) : List Int := l.mergeSort fun x y => decide (x ≤ y)
theorem sorted_len (l : List Int) : (sorted l).length = l.length := List.length_mergeSort _
theorem sorted_mem (l : List Int) (x : Int) : x ∈ sorted l ↔ x ∈ l := List.mem_mergeSort
theorem sorted_pw (l : List Int) : (sorted l).Pairwise (· ≤ ·) := by
 have h := List.pairwise_mergeSort (le := fun x y : Int => decide (x ≤ y)) (fun a b c h1 h2 => by simp only [decide_eq_true_eq] at *; omega) (fun a b => by simp only [Bool.or_eq_true, decide_eq_true_eq]; omega) l
 exact h.imp fun h => by simpa using h
theorem sort_all (l : List Int) (hl : l.length ≤ 1000) : RowTo 13 [.os 0 1 l.length false] l (sorted l) := by
 intro w own ok s vals hrh hfr hsz hargs
 obtain ⟨v, rfl⟩ := Array.size_eq_one_iff.1 hsz
 have hv := hargs 0 _ v rfl rfl
 have hp0 : ∀ (es : List (List V)) (id : Nat) (b : Blk), hpOf (fun _ => none) [(0, some (⟨1, es, 3, .wr⟩ : Blk))] id = some b → id = 0 ∧ b = ⟨1, es, 3, .wr⟩ := fun es id b h => by
   by_cases e : id = 0
   · subst e; simp [hpOf, hget] at h; exact ⟨rfl, h.symm⟩
   · simp [hpOf, hget, Ne.symm e, e] at h
 have hpn : ∀ (es : List (List V)) (id : Nat), 1 ≤ id → hpOf (fun _ => none) [(0, some (⟨1, es, 3, .wr⟩ : Blk))] id = none := fun es id h => by
   cases hx : hpOf (fun _ => none) [(0, some (⟨1, es, 3, .wr⟩ : Blk))] id with
   | none => rfl
   | some b => have := (hp0 es id b hx).1; omega
 have hb : hpOf (fun _ => none) [(0, some (⟨1, l.map encI, 3, .wr⟩ : Blk))] 0 = some ⟨1, l.map encI, 3, .wr⟩ := by simp [hpOf, hget]
 have hbk := hrh.blk 0 _ hb
 have hslen := sorted_len l
 generalize hn : l.length = n at hv hslen
 cases hv with
 | os0 _ _ _ a =>
   obtain rfl : l = [] := List.eq_nil_of_length_eq_zero hn
   have hs0 : sorted [] = [] := by simp [sorted]
   have hc := Any.slices_Sort_int_none Tryd.lays189 a 0 w
   refine CallsIn.mono ((callsIn_wide (n := 0)).2 hc) ?_
   rintro e w' ⟨rfl, rfl⟩
   exact ⟨_, .tup [], _, 1, own, ok, s, rfl, ⟨rfl, fun k hk => by obtain rfl : k = 0 := by omega
                                                                  rw [hs0]; exact hb⟩, hrh, .tup _ _ rfl (fun i d v h => by cases h), Evol.refl _ _ _, Nat.le_refl _, hfr, fun _ _ => rfl⟩
 | os _ _ _ _ B cap ty sz hB hn' hex hsh hcap =>
   have hcell : ∀ j x, l[j]? = some x → w.cell? ⟨B, j, none⟩ = some (.int .i64 x) := fun j x hx => by
     obtain ⟨u, h1, h2⟩ := hbk.cells B hB j 0 (encI x) (.lit (.int .i64 x)) (by simp [hx]) rfl
     cases h2
     simpa using h1
   obtain ⟨hown, hfz⟩ := hbk.own B hB (fun h => by cases h)
   have hno := hbk.fwr B hB rfl
   have hBlt := hrh.sw 0 B hB
   have hH : Holds (Value.int .i64) w B 0 l.toArray := fun j hj => by
     rw [Nat.zero_add]
     refine ⟨?_, hfz j⟩
     have hj' : j < l.length := by simpa using hj
     rw [hcell j _ (List.getElem?_eq_getElem hj'), getElem!_pos l.toArray j hj]
     rfl
   have hc := Any.slices_Sort_int Tryd.lays189 B 0 cap l w hH hBlt (by omega)
   rw [hn] at hc
   refine CallsIn.mono ((callsIn_wide (n := 0)).2 hc) ?_
   rintro e w' ⟨rfl, m, os, rfl⟩
   have hds : (l.mergeSort fun x y => decide (x ≤ y)).toArray.size = l.toArray.size := by
     rw [List.size_toArray, List.size_toArray]; exact sorted_len l
   have hH1 : Holds (Value.int .i64) (Go.Sort.ahead w m) B 0 l.toArray := holds_ahead _ _ _ _ _ _ hH
   generalize hwd : (l.mergeSort fun x y => decide (x ≤ y)).toArray = d at *
   have hun1 : ∀ b, b ≠ B → (putRow (Value.int .i64) (Go.Sort.ahead w m) B 0 d).heap[b]? = w.heap[b]? := fun b hb => by
     unfold putRow mapBlock
     rw [Array.getElem?_modify, if_neg (Ne.symm hb)]; rfl
   have hsz1 : (putRow (Value.int .i64) (Go.Sort.ahead w m) B 0 d).heap.size = w.heap.size := by rw [size_putRow]; rfl
   have hun : ∀ b, b < w.heap.size → b ≠ B → (grow (putRow (Value.int .i64) (Go.Sort.ahead w m) B 0 d) os).heap[b]? = w.heap[b]? := fun b hb hne => by
     rw [heap_grow_old _ _ (by rw [hsz1]; exact hb)]; exact hun1 b hne
   have hcB : ∀ j x, (sorted l)[j]? = some x → (grow (putRow (Value.int .i64) (Go.Sort.ahead w m) B 0 d) os).cell? ⟨B, j, none⟩ = some (.int .i64 x) := fun j x hx => by
     rw [cell?_grow _ _ _ (by rw [hsz1]; exact hBlt)]
     have hj : j < (sorted l).length := (List.getElem?_eq_some_iff.1 hx).1
     have hj' : j < d.size := by rw [← hwd, List.size_toArray]; exact hj
     have := cell?_putRow (Value.int .i64) (Go.Sort.ahead w m) B 0 l.toArray d hH1 hds j hj'
     rw [Nat.zero_add] at this
     rw [this, getElem!_pos d j hj']
     have h2 := (List.getElem?_eq_some_iff.1 hx).2
     subst hwd
     rw [← h2]; rfl
   have hfr' : ∀ b o, b < w.heap.size → (grow (putRow (Value.int .i64) (Go.Sort.ahead w m) B 0 d) os).frozen? ⟨b, o, none⟩ = w.frozen? ⟨b, o, none⟩ := fun b o hb => by
     rw [frozen?_grow _ _ _ (by rw [hsz1]; exact hb), frozen?_putRow, frozen?_ahead]
   have hB0 : ∃ c el fr, w.heap[B]? = some (.cells c el fr) := by
     unfold World.shape? at hsh
     split at hsh
     · rename_i c el fr hc; exact ⟨c, el, fr, hc⟩
     · cases hsh
   obtain ⟨c0, el0, fr0, hB0⟩ := hB0
   have hB1 : (grow (putRow (Value.int .i64) (Go.Sort.ahead w m) B 0 d) os).heap[B]? = some (.cells (putCells (Value.int .i64) 0 d c0) el0 fr0) := by
     rw [heap_grow_old _ _ (by rw [hsz1]; exact hBlt)]
     unfold putRow mapBlock
     rw [Array.getElem?_modify, if_pos rfl]
     show Option.map _ w.heap[B]? = _
     rw [hB0]; rfl
   have hshape : ∀ b ty sz, w.shape? b = some (ty, sz) → (grow (putRow (Value.int .i64) (Go.Sort.ahead w m) B 0 d) os).shape? b = some (ty, sz) := fun b ty sz hb => by
     by_cases e : b = B
     · subst e
       unfold World.shape? at hb ⊢
       rw [hB0] at hb
       rw [hB1]
       simpa [putCells] using hb
     · have := shape_lt hb
       unfold World.shape? at hb ⊢
       rw [hun b this e]; exact hb
   have hev : Evol own ok w own ok (grow (putRow (Value.int .i64) (Go.Sort.ahead w m) B 0 d) os) := by
     refine ⟨rfl, rfl, rfl, ?_, fun b hb hn => hun b hb (fun e => hn (e ▸ hown)), fun _ h => .inl h, fun _ _ h => h, fun b o hb => ?_, fun _ _ h => .inl h, hshape, fun b o hb hc => ?_⟩
     · rw [size_grow, hsz1]; omega
     · have hne : b ≠ B := fun e => hno o (e ▸ hb)
       exact World.cell?_of_block (w := w) (a := ⟨b, o, none⟩) (hun b (hrh.ok_lt hb) hne)
     · by_cases e : b = B
       · subst e; rw [hB0] at hb; cases hb; cases hc
       · rw [hun b (Array.getElem?_eq_some_iff.1 hb).1 e]; exact hb
   refine ⟨_, .tup [], hpOf (fun _ => none) [(0, some (⟨1, (sorted l).map encI, 3, .wr⟩ : Blk))], 1, own, ok, s, rfl, ⟨rfl, fun k hk => ?_⟩, ⟨fun b o hb => ?_, fun b hb => Nat.lt_of_lt_of_le (hrh.ownw b hb) hev.size, fun id b hb => Nat.lt_of_lt_of_le (hrh.sw id b hb) hev.size, fun id b hb => ?_, fun id1 id2 b1 b2 _ h1 h2 _ _ _ _ => ?_, hrh.gl.evol hev⟩, .tup _ _ rfl (fun i d v h => by cases h), hev, Nat.le_refl _, fun id hid => ⟨(hfr id hid).1, hpn _ id hid⟩, fun _ _ => rfl⟩
   · obtain rfl : k = 0 := by omega
     simp [hpOf, hget]
   · obtain ⟨u, hu⟩ := hrh.okw b o hb
     exact ⟨u, (hev.okc b o hb).trans hu⟩
   · obtain ⟨rfl, rfl⟩ := hp0 _ id b hb
     refine ⟨Nat.one_pos, fun e he => ?_, fun h => (by rw [hB] at h; cases h), fun B' hB' _ => ?_, fun B' hB' _ => ?_, fun B' hB' i j e d' hi hj => ?_, fun B' hB' _ o => ?_, fun B' hB' hm => (by cases hm), fun B' hB' hm => (by cases hm), fun m' hm => (by cases hm), fun B' hB' m' hm => (by cases hm)⟩
     · obtain ⟨x, _, rfl⟩ := List.mem_map.1 he; rfl
     · rw [hB] at hB'; cases hB'
       exact ⟨hown, fun o => (hfr' B o hBlt).trans (hfz o)⟩
     · rw [hB] at hB'; cases hB'
       obtain ⟨sz', h1, h2⟩ := hbk.shape B hB (fun m h => by cases h)
       exact ⟨sz', hshape _ _ _ h1, by simpa [sorted_len] using h2⟩
     · rw [hB] at hB'; cases hB'
       rw [List.getElem?_map, Option.map_eq_some_iff] at hi
       obtain ⟨x, hx, rfl⟩ := hi
       match j, hj with
       | 0, hj =>
         cases hj
         exact ⟨_, by simpa using hcB i x hx, .lit _ rfl⟩
       | j + 1, hj => cases hj
     · rw [hB] at hB'; cases hB'; exact hno o
   · rw [(hp0 _ _ _ h1).1, (hp0 _ _ _ h2).1]
#print axioms sort_all
end Go.Aw
end
