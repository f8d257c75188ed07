/-
  A part of the proof that a law returns true for every input that the given row speaks of: an own verified walk over the program (namespace Go.Aw), contracts of the functions that the law calls, and the law itself. Conditions: those of the given row, no other.
-/
import Derived.Test.YtgpeegdinblnoaaDoorPart7
import Derived.ReadAgain
import Derived.ChangeSame
import Derived.Test.YtgpeegdinblnoaaDoorTie
import Derived.Test.YtgpeegdinblnoaaDoorCards
import Derived.SevenTiedAt
import Derived.JoinedOf
import Derived.RowKit
import Derived.RowKitTokens
import Derived.LaidLaws
import Derived.Stop.Joined
import Derived.OpenShut
import Derived.ChangeVars
import Derived.ProofKit
import Derived.Lib.SmallJoins
set_option linter.unusedVariables false
set_option linter.unusedSimpArgs false
section
set_option maxRecDepth 20000
set_option maxHeartbeats 4000000
namespace Go.Aw
open Go.RowKit Go.Proofs
theorem GuardLooks_spec (ls rs : List Grd) (g : Gau) (hl : ls.length ≤ 4611686018427387904) (hr : rs.length ≤ 4611686018427387904) (hlc : ∀ x ∈ ls, x.2.length ≤ 4611686018427387904) (hrc : ∀ x ∈ rs, x.2.length ≤ 4611686018427387904) : Ct Tryd.prog 9 [encSt ls rs false false, encGa g] (.lit (.bool true)) := by
 have hlg := large_spec06 g ls rs 5 false false hl hr hlc hrc
 cases hL : largeG g ls rs 5 with
 | true =>
   rw [hL] at hlg
   refine fn_enter Tryd.func9 rfl (by decide) Tryd.results9 Tryd.ntmps9 ?_ rfl (by simp (maxSteps := 1000000) -implicitDefEqProofs (disch := omega) only [go_sem]; rfl) fun base => ?_
   · first | assumption | (simp only [go_sem] <;> assumption) | (simp only [go_sem, *]; done) | (simp [go_sem]; done)
   repeat' (first
     | (with_reducible apply Req_intro); focus (first | omega | assumption | (simp; done))
     | with_reducible (first | apply Req_intro | refine nilT ?_ fun hn => ?_ | apply wk_draw Tryd_mixed | refine drawEnd (by kernel_rfl) ?_)
     | (with_reducible (first | apply condA_if | apply stepDG_ifN | apply stepDG_if | apply stepG_ifN | apply stepG_if)) <;> intro hb <;> (have hif := hb) <;> (try simp only [bo] at hif) <;> (try simp -implicitDefEqProofs (disch := omega) only [go_sem, hb]) <;> clear hb
     | simp (maxSteps := 1000000) -implicitDefEqProofs (disch := omega) only [go_sem])
   refine callp hlg ?_
   try simp (maxSteps := 1000000) -implicitDefEqProofs (disch := omega) only [go_sem]
   repeat' (first
     | (with_reducible apply Req_intro); focus (first | omega | assumption | (simp; done))
     | with_reducible (first | apply Req_intro | refine nilT ?_ fun hn => ?_ | apply wk_draw Tryd_mixed | refine drawEnd (by kernel_rfl) ?_)
     | (with_reducible (first | apply condA_if | apply stepDG_ifN | apply stepDG_if | apply stepG_ifN | apply stepG_if)) <;> intro hb <;> (have hif := hb) <;> (try simp only [bo] at hif) <;> (try simp -implicitDefEqProofs (disch := omega) only [go_sem, hb]) <;> clear hb
     | simp (maxSteps := 1000000) -implicitDefEqProofs (disch := omega) only [go_sem])
   all_goals first | exact absurd trivial ‹¬True› | exact absurd ‹false = true› (by decide) | exact absurd ‹true = false› (by decide) | (exfalso; omega) | omega | skip
   refine callp gknown_spec ?_
   try simp (maxSteps := 1000000) -implicitDefEqProofs (disch := omega) only [go_sem]
   repeat' (first
     | (with_reducible apply Req_intro); focus (first | omega | assumption | (simp; done))
     | with_reducible (first | apply Req_intro | refine nilT ?_ fun hn => ?_ | apply wk_draw Tryd_mixed | refine drawEnd (by kernel_rfl) ?_)
     | (with_reducible (first | apply condA_if | apply stepDG_ifN | apply stepDG_if | apply stepG_ifN | apply stepG_if)) <;> intro hb <;> (have hif := hb) <;> (try simp only [bo] at hif) <;> (try simp -implicitDefEqProofs (disch := omega) only [go_sem, hb]) <;> clear hb
     | simp (maxSteps := 1000000) -implicitDefEqProofs (disch := omega) only [go_sem])
   refine ret_do ?_
   rfl
 | false =>
   rw [hL] at hlg
   obtain ⟨hst, hl12, hr12, hmost⟩ := largeG_no hL
   have hown := own_spec ls rs false false hst
   have hsame := same_spec ls rs false false false false hst
   have hrc' := rCheck_spec g ls rs false false hst
   by_cases h0 : checkS g ls rs = 0
   · obtain ⟨hl8, hr8, hg, n, hn, hgl, hgr⟩ := checkS_ok h0
     rw [h0] at hrc'
     have hsz := hmost h0
     have hp := Look_ok g ls rs false false hst h0
     have hR := rLook_spec g ls rs false false n ⟨hn, hg, hgl, hgr⟩ (by omega) (by omega)
     have hlo := lookR_ok (t := tableR g ls rs 2) (sure := tableR g ls rs 1) (tableR_few (by omega)) (tableR_few (by omega)) rs.length
     rw [tableR_len] at hlo
     generalize lookR (tableR g ls rs 2) (tableR g ls rs 1) rs.length = LK at *
     rcases hlo with ho | ⟨ho1, ho2⟩
     · rw [lookV, if_pos ho] at hp
       have hb1 : (LK.2.2 : Int) = 0 := by omega
       rw [hb1] at hR
       generalize LK.1 = L1 at *
       generalize hL2 : LK.2.1 = L2 at *
       refine fn_enter Tryd.func9 rfl (by decide) Tryd.results9 Tryd.ntmps9 ?_ rfl (by simp (maxSteps := 1000000) -implicitDefEqProofs (disch := omega) only [go_sem]; rfl) fun base => ?_
       · first | assumption | (simp only [go_sem] <;> assumption) | (simp only [go_sem, *]; done) | (simp [go_sem]; done)
       repeat' (first
         | (with_reducible apply Req_intro); focus (first | omega | assumption | (simp; done))
         | with_reducible (first | apply Req_intro | refine nilT ?_ fun hn => ?_ | apply wk_draw Tryd_mixed | refine drawEnd (by kernel_rfl) ?_)
         | (with_reducible (first | apply condA_if | apply stepDG_ifN | apply stepDG_if | apply stepG_ifN | apply stepG_if)) <;> intro hb <;> (have hif := hb) <;> (try simp only [bo] at hif) <;> (try simp -implicitDefEqProofs (disch := omega) only [go_sem, hb]) <;> clear hb
         | simp (maxSteps := 1000000) -implicitDefEqProofs (disch := omega) only [go_sem])
       refine callp hlg ?_
       try simp (maxSteps := 1000000) -implicitDefEqProofs (disch := omega) only [go_sem]
       repeat' (first
         | (with_reducible apply Req_intro); focus (first | omega | assumption | (simp; done))
         | with_reducible (first | apply Req_intro | refine nilT ?_ fun hn => ?_ | apply wk_draw Tryd_mixed | refine drawEnd (by kernel_rfl) ?_)
         | (with_reducible (first | apply condA_if | apply stepDG_ifN | apply stepDG_if | apply stepG_ifN | apply stepG_if)) <;> intro hb <;> (have hif := hb) <;> (try simp only [bo] at hif) <;> (try simp -implicitDefEqProofs (disch := omega) only [go_sem, hb]) <;> clear hb
         | simp (maxSteps := 1000000) -implicitDefEqProofs (disch := omega) only [go_sem])
       all_goals first | exact absurd trivial ‹¬True› | exact absurd ‹false = true› (by decide) | exact absurd ‹true = false› (by decide) | (exfalso; omega) | omega | skip
       refine callp hown ?_
       try simp (maxSteps := 1000000) -implicitDefEqProofs (disch := omega) only [go_sem]
       repeat' (first
         | (with_reducible apply Req_intro); focus (first | omega | assumption | (simp; done))
         | with_reducible (first | apply Req_intro | refine nilT ?_ fun hn => ?_ | apply wk_draw Tryd_mixed | refine drawEnd (by kernel_rfl) ?_)
         | (with_reducible (first | apply condA_if | apply stepDG_ifN | apply stepDG_if | apply stepG_ifN | apply stepG_if)) <;> intro hb <;> (have hif := hb) <;> (try simp only [bo] at hif) <;> (try simp -implicitDefEqProofs (disch := omega) only [go_sem, hb]) <;> clear hb
         | simp (maxSteps := 1000000) -implicitDefEqProofs (disch := omega) only [go_sem])
       first | refine callp hp ?_ | refine calld hp ?_
       try simp (maxSteps := 1000000) -implicitDefEqProofs (disch := omega) only [go_sem]
       repeat' (first
         | (with_reducible apply Req_intro); focus (first | omega | assumption | (simp; done))
         | with_reducible (first | apply Req_intro | refine nilT ?_ fun hn => ?_ | apply wk_draw Tryd_mixed | refine drawEnd (by kernel_rfl) ?_)
         | (with_reducible (first | apply condA_if | apply stepDG_ifN | apply stepDG_if | apply stepG_ifN | apply stepG_if)) <;> intro hb <;> (have hif := hb) <;> (try simp only [bo] at hif) <;> (try simp -implicitDefEqProofs (disch := omega) only [go_sem, hb]) <;> clear hb
         | simp (maxSteps := 1000000) -implicitDefEqProofs (disch := omega) only [go_sem])
       all_goals first | exact absurd trivial ‹¬True› | exact absurd ‹false = true› (by decide) | exact absurd ‹true = false› (by decide) | (exfalso; omega) | omega | skip
       first | refine callp hsame ?_ | refine calld hsame ?_
       try simp (maxSteps := 1000000) -implicitDefEqProofs (disch := omega) only [go_sem]
       repeat' (first
         | (with_reducible apply Req_intro); focus (first | omega | assumption | (simp; done))
         | with_reducible (first | apply Req_intro | refine nilT ?_ fun hn => ?_ | apply wk_draw Tryd_mixed | refine drawEnd (by kernel_rfl) ?_)
         | (with_reducible (first | apply condA_if | apply stepDG_ifN | apply stepDG_if | apply stepG_ifN | apply stepG_if)) <;> intro hb <;> (have hif := hb) <;> (try simp only [bo] at hif) <;> (try simp -implicitDefEqProofs (disch := omega) only [go_sem, hb]) <;> clear hb
         | simp (maxSteps := 1000000) -implicitDefEqProofs (disch := omega) only [go_sem])
       all_goals first | exact absurd trivial ‹¬True› | exact absurd ‹false = true› (by decide) | exact absurd ‹true = false› (by decide) | (exfalso; omega) | omega | skip
       first | refine callp hrc' ?_ | refine calld hrc' ?_
       try simp (maxSteps := 1000000) -implicitDefEqProofs (disch := omega) only [go_sem]
       repeat' (first
         | (with_reducible apply Req_intro); focus (first | omega | assumption | (simp; done))
         | with_reducible (first | apply Req_intro | refine nilT ?_ fun hn => ?_ | apply wk_draw Tryd_mixed | refine drawEnd (by kernel_rfl) ?_)
         | (with_reducible (first | apply condA_if | apply stepDG_ifN | apply stepDG_if | apply stepG_ifN | apply stepG_if)) <;> intro hb <;> (have hif := hb) <;> (try simp only [bo] at hif) <;> (try simp -implicitDefEqProofs (disch := omega) only [go_sem, hb]) <;> clear hb
         | simp (maxSteps := 1000000) -implicitDefEqProofs (disch := omega) only [go_sem])
       all_goals first | exact absurd trivial ‹¬True› | exact absurd ‹false = true› (by decide) | exact absurd ‹true = false› (by decide) | (exfalso; omega) | omega | skip
       first | refine callp hR ?_ | refine calld hR ?_
       try simp (maxSteps := 1000000) -implicitDefEqProofs (disch := omega) only [go_sem]
       repeat' (first
         | (with_reducible apply Req_intro); focus (first | omega | assumption | (simp; done))
         | with_reducible (first | apply Req_intro | refine nilT ?_ fun hn => ?_ | apply wk_draw Tryd_mixed | refine drawEnd (by kernel_rfl) ?_)
         | (with_reducible (first | apply condA_if | apply stepDG_ifN | apply stepDG_if | apply stepG_ifN | apply stepG_if)) <;> intro hb <;> (have hif := hb) <;> (try simp only [bo] at hif) <;> (try simp -implicitDefEqProofs (disch := omega) only [go_sem, hb]) <;> clear hb
         | simp (maxSteps := 1000000) -implicitDefEqProofs (disch := omega) only [go_sem])
       all_goals first | exact absurd trivial ‹¬True› | exact absurd ‹false = true› (by decide) | exact absurd ‹true = false› (by decide) | (exfalso; omega) | omega | skip
       refine callp gknown_spec ?_
       try simp (maxSteps := 1000000) -implicitDefEqProofs (disch := omega) only [go_sem]
       repeat' (first
         | (with_reducible apply Req_intro); focus (first | omega | assumption | (simp; done))
         | with_reducible (first | apply Req_intro | refine nilT ?_ fun hn => ?_ | apply wk_draw Tryd_mixed | refine drawEnd (by kernel_rfl) ?_)
         | (with_reducible (first | apply condA_if | apply stepDG_ifN | apply stepDG_if | apply stepG_ifN | apply stepG_if)) <;> intro hb <;> (have hif := hb) <;> (try simp only [bo] at hif) <;> (try simp -implicitDefEqProofs (disch := omega) only [go_sem, hb]) <;> clear hb
         | simp (maxSteps := 1000000) -implicitDefEqProofs (disch := omega) only [go_sem])
       all_goals first | exact absurd trivial ‹¬True› | exact absurd ‹false = true› (by decide) | exact absurd ‹true = false› (by decide) | (exfalso; omega) | omega | skip
       refine ret_do ?_
       rfl
     · rw [lookV, if_neg (by omega), ho1] at hp
       rw [ho1] at hR
       have hL2b : LK.2.1 ≤ 12 := by
         cases hb : LK.1 <;> rw [hb] at ho2 <;> simp only [Bool.false_eq_true, if_true, if_false] at ho2 <;> omega
       generalize LK.2.1 = L2 at *
       cases hb : LK.1 <;> (
         simp only [hb] at hp hR
         refine fn_enter Tryd.func9 rfl (by decide) Tryd.results9 Tryd.ntmps9 ?_ rfl (by simp (maxSteps := 1000000) -implicitDefEqProofs (disch := omega) only [go_sem]; rfl) fun base => ?_
         · first | assumption | (simp only [go_sem] <;> assumption) | (simp only [go_sem, *]; done) | (simp [go_sem]; done)
         repeat' (first
           | (with_reducible apply Req_intro); focus (first | omega | assumption | (simp; done))
           | with_reducible (first | apply Req_intro | refine nilT ?_ fun hn => ?_ | apply wk_draw Tryd_mixed | refine drawEnd (by kernel_rfl) ?_)
           | (with_reducible (first | apply condA_if | apply stepDG_ifN | apply stepDG_if | apply stepG_ifN | apply stepG_if)) <;> intro hb <;> (have hif := hb) <;> (try simp only [bo] at hif) <;> (try simp -implicitDefEqProofs (disch := omega) only [go_sem, hb]) <;> clear hb
           | simp (maxSteps := 1000000) -implicitDefEqProofs (disch := omega) only [go_sem])
         refine callp hlg ?_
         try simp (maxSteps := 1000000) -implicitDefEqProofs (disch := omega) only [go_sem]
         repeat' (first
           | (with_reducible apply Req_intro); focus (first | omega | assumption | (simp; done))
           | with_reducible (first | apply Req_intro | refine nilT ?_ fun hn => ?_ | apply wk_draw Tryd_mixed | refine drawEnd (by kernel_rfl) ?_)
           | (with_reducible (first | apply condA_if | apply stepDG_ifN | apply stepDG_if | apply stepG_ifN | apply stepG_if)) <;> intro hb <;> (have hif := hb) <;> (try simp only [bo] at hif) <;> (try simp -implicitDefEqProofs (disch := omega) only [go_sem, hb]) <;> clear hb
           | simp (maxSteps := 1000000) -implicitDefEqProofs (disch := omega) only [go_sem])
         all_goals first | exact absurd trivial ‹¬True› | exact absurd ‹false = true› (by decide) | exact absurd ‹true = false› (by decide) | (exfalso; omega) | omega | skip
         refine callp hown ?_
         try simp (maxSteps := 1000000) -implicitDefEqProofs (disch := omega) only [go_sem]
         repeat' (first
           | (with_reducible apply Req_intro); focus (first | omega | assumption | (simp; done))
           | with_reducible (first | apply Req_intro | refine nilT ?_ fun hn => ?_ | apply wk_draw Tryd_mixed | refine drawEnd (by kernel_rfl) ?_)
           | (with_reducible (first | apply condA_if | apply stepDG_ifN | apply stepDG_if | apply stepG_ifN | apply stepG_if)) <;> intro hb <;> (have hif := hb) <;> (try simp only [bo] at hif) <;> (try simp -implicitDefEqProofs (disch := omega) only [go_sem, hb]) <;> clear hb
           | simp (maxSteps := 1000000) -implicitDefEqProofs (disch := omega) only [go_sem])
         first | refine callp hp ?_ | refine calld hp ?_
         try simp (maxSteps := 1000000) -implicitDefEqProofs (disch := omega) only [go_sem]
         repeat' (first
           | (with_reducible apply Req_intro); focus (first | omega | assumption | (simp; done))
           | with_reducible (first | apply Req_intro | refine nilT ?_ fun hn => ?_ | apply wk_draw Tryd_mixed | refine drawEnd (by kernel_rfl) ?_)
           | (with_reducible (first | apply condA_if | apply stepDG_ifN | apply stepDG_if | apply stepG_ifN | apply stepG_if)) <;> intro hb <;> (have hif := hb) <;> (try simp only [bo] at hif) <;> (try simp -implicitDefEqProofs (disch := omega) only [go_sem, hb]) <;> clear hb
           | simp (maxSteps := 1000000) -implicitDefEqProofs (disch := omega) only [go_sem])
         all_goals first | exact absurd trivial ‹¬True› | exact absurd ‹false = true› (by decide) | exact absurd ‹true = false› (by decide) | (exfalso; omega) | omega | skip
         first | refine callp hsame ?_ | refine calld hsame ?_
         try simp (maxSteps := 1000000) -implicitDefEqProofs (disch := omega) only [go_sem]
         repeat' (first
           | (with_reducible apply Req_intro); focus (first | omega | assumption | (simp; done))
           | with_reducible (first | apply Req_intro | refine nilT ?_ fun hn => ?_ | apply wk_draw Tryd_mixed | refine drawEnd (by kernel_rfl) ?_)
           | (with_reducible (first | apply condA_if | apply stepDG_ifN | apply stepDG_if | apply stepG_ifN | apply stepG_if)) <;> intro hb <;> (have hif := hb) <;> (try simp only [bo] at hif) <;> (try simp -implicitDefEqProofs (disch := omega) only [go_sem, hb]) <;> clear hb
           | simp (maxSteps := 1000000) -implicitDefEqProofs (disch := omega) only [go_sem])
         all_goals first | exact absurd trivial ‹¬True› | exact absurd ‹false = true› (by decide) | exact absurd ‹true = false› (by decide) | (exfalso; omega) | omega | skip
         first | refine callp hrc' ?_ | refine calld hrc' ?_
         try simp (maxSteps := 1000000) -implicitDefEqProofs (disch := omega) only [go_sem]
         repeat' (first
           | (with_reducible apply Req_intro); focus (first | omega | assumption | (simp; done))
           | with_reducible (first | apply Req_intro | refine nilT ?_ fun hn => ?_ | apply wk_draw Tryd_mixed | refine drawEnd (by kernel_rfl) ?_)
           | (with_reducible (first | apply condA_if | apply stepDG_ifN | apply stepDG_if | apply stepG_ifN | apply stepG_if)) <;> intro hb <;> (have hif := hb) <;> (try simp only [bo] at hif) <;> (try simp -implicitDefEqProofs (disch := omega) only [go_sem, hb]) <;> clear hb
           | simp (maxSteps := 1000000) -implicitDefEqProofs (disch := omega) only [go_sem])
         all_goals first | exact absurd trivial ‹¬True› | exact absurd ‹false = true› (by decide) | exact absurd ‹true = false› (by decide) | (exfalso; omega) | omega | skip
         first | refine callp hR ?_ | refine calld hR ?_
         try simp (maxSteps := 1000000) -implicitDefEqProofs (disch := omega) only [go_sem]
         repeat' (first
           | (with_reducible apply Req_intro); focus (first | omega | assumption | (simp; done))
           | with_reducible (first | apply Req_intro | refine nilT ?_ fun hn => ?_ | apply wk_draw Tryd_mixed | refine drawEnd (by kernel_rfl) ?_)
           | (with_reducible (first | apply condA_if | apply stepDG_ifN | apply stepDG_if | apply stepG_ifN | apply stepG_if)) <;> intro hb <;> (have hif := hb) <;> (try simp only [bo] at hif) <;> (try simp -implicitDefEqProofs (disch := omega) only [go_sem, hb]) <;> clear hb
           | simp (maxSteps := 1000000) -implicitDefEqProofs (disch := omega) only [go_sem])
         all_goals first | exact absurd trivial ‹¬True› | exact absurd ‹false = true› (by decide) | exact absurd ‹true = false› (by decide) | (exfalso; omega) | omega | skip
         refine callp gknown_spec ?_
         try simp (maxSteps := 1000000) -implicitDefEqProofs (disch := omega) only [go_sem]
         repeat' (first
           | (with_reducible apply Req_intro); focus (first | omega | assumption | (simp; done))
           | with_reducible (first | apply Req_intro | refine nilT ?_ fun hn => ?_ | apply wk_draw Tryd_mixed | refine drawEnd (by kernel_rfl) ?_)
           | (with_reducible (first | apply condA_if | apply stepDG_ifN | apply stepDG_if | apply stepG_ifN | apply stepG_if)) <;> intro hb <;> (have hif := hb) <;> (try simp only [bo] at hif) <;> (try simp -implicitDefEqProofs (disch := omega) only [go_sem, hb]) <;> clear hb
           | simp (maxSteps := 1000000) -implicitDefEqProofs (disch := omega) only [go_sem])
         all_goals first | exact absurd trivial ‹¬True› | exact absurd ‹false = true› (by decide) | exact absurd ‹true = false› (by decide) | (exfalso; omega) | omega | skip
         refine ret_do ?_
         rfl)
   · have hp := Look_err g ls rs false false hst h0
     generalize checkS g ls rs = c at *
     refine fn_enter Tryd.func9 rfl (by decide) Tryd.results9 Tryd.ntmps9 ?_ rfl (by simp (maxSteps := 1000000) -implicitDefEqProofs (disch := omega) only [go_sem]; rfl) fun base => ?_
     · first | assumption | (simp only [go_sem] <;> assumption) | (simp only [go_sem, *]; done) | (simp [go_sem]; done)
     repeat' (first
       | (with_reducible apply Req_intro); focus (first | omega | assumption | (simp; done))
       | with_reducible (first | apply Req_intro | refine nilT ?_ fun hn => ?_ | apply wk_draw Tryd_mixed | refine drawEnd (by kernel_rfl) ?_)
       | (with_reducible (first | apply condA_if | apply stepDG_ifN | apply stepDG_if | apply stepG_ifN | apply stepG_if)) <;> intro hb <;> (have hif := hb) <;> (try simp only [bo] at hif) <;> (try simp -implicitDefEqProofs (disch := omega) only [go_sem, hb]) <;> clear hb
       | simp (maxSteps := 1000000) -implicitDefEqProofs (disch := omega) only [go_sem])
     refine callp hlg ?_
     try simp (maxSteps := 1000000) -implicitDefEqProofs (disch := omega) only [go_sem]
     repeat' (first
       | (with_reducible apply Req_intro); focus (first | omega | assumption | (simp; done))
       | with_reducible (first | apply Req_intro | refine nilT ?_ fun hn => ?_ | apply wk_draw Tryd_mixed | refine drawEnd (by kernel_rfl) ?_)
       | (with_reducible (first | apply condA_if | apply stepDG_ifN | apply stepDG_if | apply stepG_ifN | apply stepG_if)) <;> intro hb <;> (have hif := hb) <;> (try simp only [bo] at hif) <;> (try simp -implicitDefEqProofs (disch := omega) only [go_sem, hb]) <;> clear hb
       | simp (maxSteps := 1000000) -implicitDefEqProofs (disch := omega) only [go_sem])
     all_goals first | exact absurd trivial ‹¬True› | exact absurd ‹false = true› (by decide) | exact absurd ‹true = false› (by decide) | (exfalso; omega) | omega | skip
     refine callp hown ?_
     try simp (maxSteps := 1000000) -implicitDefEqProofs (disch := omega) only [go_sem]
     repeat' (first
       | (with_reducible apply Req_intro); focus (first | omega | assumption | (simp; done))
       | with_reducible (first | apply Req_intro | refine nilT ?_ fun hn => ?_ | apply wk_draw Tryd_mixed | refine drawEnd (by kernel_rfl) ?_)
       | (with_reducible (first | apply condA_if | apply stepDG_ifN | apply stepDG_if | apply stepG_ifN | apply stepG_if)) <;> intro hb <;> (have hif := hb) <;> (try simp only [bo] at hif) <;> (try simp -implicitDefEqProofs (disch := omega) only [go_sem, hb]) <;> clear hb
       | simp (maxSteps := 1000000) -implicitDefEqProofs (disch := omega) only [go_sem])
     first | refine callp hp ?_ | refine calld hp ?_
     try simp (maxSteps := 1000000) -implicitDefEqProofs (disch := omega) only [go_sem]
     repeat' (first
       | (with_reducible apply Req_intro); focus (first | omega | assumption | (simp; done))
       | with_reducible (first | apply Req_intro | refine nilT ?_ fun hn => ?_ | apply wk_draw Tryd_mixed | refine drawEnd (by kernel_rfl) ?_)
       | (with_reducible (first | apply condA_if | apply stepDG_ifN | apply stepDG_if | apply stepG_ifN | apply stepG_if)) <;> intro hb <;> (have hif := hb) <;> (try simp only [bo] at hif) <;> (try simp -implicitDefEqProofs (disch := omega) only [go_sem, hb]) <;> clear hb
       | simp (maxSteps := 1000000) -implicitDefEqProofs (disch := omega) only [go_sem])
     all_goals first | exact absurd trivial ‹¬True› | exact absurd ‹false = true› (by decide) | exact absurd ‹true = false› (by decide) | (exfalso; omega) | omega | skip
     first | refine callp hsame ?_ | refine calld hsame ?_
     try simp (maxSteps := 1000000) -implicitDefEqProofs (disch := omega) only [go_sem]
     repeat' (first
       | (with_reducible apply Req_intro); focus (first | omega | assumption | (simp; done))
       | with_reducible (first | apply Req_intro | refine nilT ?_ fun hn => ?_ | apply wk_draw Tryd_mixed | refine drawEnd (by kernel_rfl) ?_)
       | (with_reducible (first | apply condA_if | apply stepDG_ifN | apply stepDG_if | apply stepG_ifN | apply stepG_if)) <;> intro hb <;> (have hif := hb) <;> (try simp only [bo] at hif) <;> (try simp -implicitDefEqProofs (disch := omega) only [go_sem, hb]) <;> clear hb
       | simp (maxSteps := 1000000) -implicitDefEqProofs (disch := omega) only [go_sem])
     all_goals first | exact absurd trivial ‹¬True› | exact absurd ‹false = true› (by decide) | exact absurd ‹true = false› (by decide) | (exfalso; omega) | omega | skip
     first | refine callp hrc' ?_ | refine calld hrc' ?_
     try simp (maxSteps := 1000000) -implicitDefEqProofs (disch := omega) only [go_sem]
     repeat' (first
       | (with_reducible apply Req_intro); focus (first | omega | assumption | (simp; done))
       | with_reducible (first | apply Req_intro | refine nilT ?_ fun hn => ?_ | apply wk_draw Tryd_mixed | refine drawEnd (by kernel_rfl) ?_)
       | (with_reducible (first | apply condA_if | apply stepDG_ifN | apply stepDG_if | apply stepG_ifN | apply stepG_if)) <;> intro hb <;> (have hif := hb) <;> (try simp only [bo] at hif) <;> (try simp -implicitDefEqProofs (disch := omega) only [go_sem, hb]) <;> clear hb
       | simp (maxSteps := 1000000) -implicitDefEqProofs (disch := omega) only [go_sem])
     all_goals first | exact absurd trivial ‹¬True› | exact absurd ‹false = true› (by decide) | exact absurd ‹true = false› (by decide) | (exfalso; omega) | omega | skip
     refine callp gknown_spec ?_
     try simp (maxSteps := 1000000) -implicitDefEqProofs (disch := omega) only [go_sem]
     repeat' (first
       | (with_reducible apply Req_intro); focus (first | omega | assumption | (simp; done))
       | with_reducible (first | apply Req_intro | refine nilT ?_ fun hn => ?_ | apply wk_draw Tryd_mixed | refine drawEnd (by kernel_rfl) ?_)
       | (with_reducible (first | apply condA_if | apply stepDG_ifN | apply stepDG_if | apply stepG_ifN | apply stepG_if)) <;> intro hb <;> (have hif := hb) <;> (try simp only [bo] at hif) <;> (try simp -implicitDefEqProofs (disch := omega) only [go_sem, hb]) <;> clear hb
       | simp (maxSteps := 1000000) -implicitDefEqProofs (disch := omega) only [go_sem])
     all_goals first | exact absurd trivial ‹¬True› | exact absurd ‹false = true› (by decide) | exact absurd ‹true = false› (by decide) | (exfalso; omega) | omega | skip
     refine ret_do ?_
     rfl
end Go.Aw
end
section
namespace Go.Aw
open Go.RowKit Go.ChangeShapes Go.WideShapes
def RepL (w : World) (ok : Nat → Nat → Prop) (cs : List Value) (ds : List V) : Prop :=
 cs.length = ds.length ∧ ∀ (j : Nat) (d : V) (u : Value), ds[j]? = some d → cs[j]? = some u → Rep w ok (fun _ => none) u d
theorem exists_list {α : Type} {p : Nat → α → Prop} : ∀ n, (∀ i, i < n → ∃ a, p i a) → ∃ l : List α, l.length = n ∧ ∀ i a, l[i]? = some a → p i a
 | 0, _ => ⟨[], rfl, fun i a h => by cases h⟩
 | n + 1, h => by
   obtain ⟨l, hl, hp⟩ := exists_list n fun i hi => h i (by omega)
   obtain ⟨a, ha⟩ := h n (by omega)
   refine ⟨l ++ [a], by simp [hl], fun i b hb => ?_⟩
   rcases Nat.lt_or_ge i l.length with h1 | h1
   · rw [List.getElem?_append_left h1] at hb; exact hp i b hb
   · rw [List.getElem?_append_right h1] at hb
     have : i - l.length = 0 := by
       refine Classical.byContradiction fun hc => ?_
       rw [List.getElem?_eq_none (by simp; omega)] at hb; cases hb
     rw [this] at hb
     cases hb
     obtain rfl : i = n := by omega
     exact ha
theorem cells?_get {w : World} {base : Nat} {a : Addr} {n : Nat} {cs : List Value} (h : w.cells? base a n = some cs) : cs.length = n ∧ ∀ j, j < n → ∃ u, cs[j]? = some u ∧ w.cell? (a.add j) = some u := by
 unfold World.cells? at h
 split at h
 · have hl := mapM_some_length h
   rw [List.length_range] at hl
   refine ⟨hl, fun j hj => ?_⟩
   have := mapM_some_get h j j (by simp [hj])
   obtain ⟨u, hu⟩ : ∃ u, cs[j]? = some u := ⟨cs[j], List.getElem?_eq_getElem (by omega)⟩
   exact ⟨u, hu, by rw [this, hu]⟩
 · cases h
theorem add_at (b o n : Nat) : (⟨b, o, none⟩ : Addr).add n = ⟨b, o + n, none⟩ := by
 unfold Addr.add
 split
 · rename_i h; subst h; rfl
 · rfl
theorem add_add' (b o x j : Nat) : ((⟨b, o, none⟩ : Addr).add x).add j = ⟨b, o + x + j, none⟩ := by rw [add_at, add_at]
section
variable {H : Type} {enc : TypeId × Value → H} {P : Program} {w : World} {ok : Nat → Nat → Prop} {sp : Nat → Bool}
theorem mem_weightsAll {e : TypeId} : ∀ {es : List (DataW H)} {d : DataW H} {m : Nat}, d ∈ es → m ∈ d.weights P e → m ∈ DataW.weightsAll P e es
 | [], d, m, h, _ => by cases h
 | a :: r, d, m, h, hm => by
   simp only [DataW.weightsAll, List.mem_append]
   rcases List.mem_cons.1 h with rfl | h
   · exact .inl hm
   · exact .inr (mem_weightsAll h hm)
theorem slice_rep {α : Type} {en : α → List V} {k : Nat} {q : α → Prop} {t e : TypeId} (hk0 : 0 < k) (ht : P.underlying t = some (.slice e)) (hk : P.cellsOf e = k) (hb : 0 < P.bytesOf e)
   (hlen : ∀ a, (en a).length = k)
   (hel : ∀ n cs x, DataW.trod enc P w 0 sp true n e cs = some x → (∀ m ∈ x.1.weights P e, m ≤ reachBytes) → ∃ a, q a ∧ RepL w ok cs (en a))
   (hok : ∀ b o u, w.cell? ⟨b, o, none⟩ = some u → ok b o)
   {n : Nat} {cs : List Value} {x : DataW H × List MemPlace} (h : DataW.trod enc P w 0 sp true n t cs = some x) (hw : ∀ m ∈ x.1.weights P t, m ≤ reachBytes) :
   ∃ (v : Value) (l : List α), cs = [v] ∧ l.length ≤ reachBytes ∧ (∀ a ∈ l, q a) ∧ Rep w ok (fun _ => none) v (.sl k (l.map en) false) := by
 rcases DataW.trod_slice ht h with ⟨rfl, rfl⟩ | ⟨a, len, cap, elems, rest, m, rfl, rfl, rfl, hbase, hlc, hcm, hel1, hel2, hsp, hsp2⟩
 · exact ⟨_, [], rfl, Nat.zero_le _, fun a ha => (by cases ha), .sl none 0 0 k [] false (fun _ _ => undef) rfl (Nat.le_refl _) (fun h => by cases h) (fun i j hi => absurd hi (Nat.not_lt_zero _)) (fun e he => by cases he) (fun i j e d he => by cases he)⟩
 · rw [hk] at hel2
   have hwt : (elems.length + rest.length) * P.bytesOf e ≤ reachBytes ∧ ∀ d ∈ elems.map (·.1), ∀ m ∈ d.weights P e, m ≤ reachBytes := by
     simp only [DataW.weights, ht, List.length_map] at hw
     refine ⟨hw _ (List.mem_cons_self ..), fun d hd m hm => hw m ?_⟩
     exact List.mem_cons_of_mem _ (List.mem_append_left _ (mem_weightsAll hd hm))
   have key : ∀ i, i < len → ∃ p : α × List Value, w.cells? 0 (a.add (i * k)) k = some p.2 ∧ q p.1 ∧ RepL w ok p.2 (en p.1) := fun i hi => by
     have h1 := hel2 i hi
     obtain ⟨y, hy⟩ : ∃ y, elems[i]? = some y := ⟨elems[i], List.getElem?_eq_getElem (by omega)⟩
     rw [hy, Option.bind_eq_some_iff] at h1
     obtain ⟨cs, hc1, hc2⟩ := h1
     obtain ⟨b, hb1, hb2⟩ := hel _ _ _ hc2 (hwt.2 y.1 (List.mem_map_of_mem (List.mem_of_getElem? hy)))
     exact ⟨(b, cs), hc1, hb1, hb2⟩
   obtain ⟨l, hl, hp⟩ := exists_list len key
   have hspot : 0 < len → a.spot = none := fun h0 => by
     obtain ⟨p, hp1, _, _⟩ := key 0 h0
     obtain ⟨u, _, hu⟩ := (cells?_get hp1).2 0 hk0
     simp only [Nat.zero_mul, Addr.add, if_true] at hu
     unfold World.cell? at hu
     split at hu
     · split at hu
       · cases hu
       · rename_i hn; simpa using hn
     · cases hu
   refine ⟨_, l.map (·.1), rfl, ?_, ?_, ?_⟩
   · rw [List.length_map, hl, ← hel1]
     refine Nat.le_trans ?_ hwt.1
     exact Nat.le_trans (Nat.le_add_right _ _) (Nat.le_mul_of_pos_right _ hb)
   · intro b hb
     obtain ⟨p, hp1, rfl⟩ := List.mem_map.1 hb
     obtain ⟨i, hi⟩ := List.getElem?_of_mem hp1
     exact (hp i p hi).2.1
   · refine .sl (some a) len cap k _ false (fun i j => (w.cell? (a.add (i * k + j))).getD undef) (by simp [hl]) hlc (fun h => by cases h) (fun i j hi hj => ?_) (fun e he => ?_) (fun i j e d he hd => ?_)
     · obtain ⟨b, o, s⟩ := a
       obtain rfl : s = none := hspot (by omega)
       obtain ⟨p, hp1, _, _⟩ := key i hi
       obtain ⟨u, _, hu⟩ := (cells?_get hp1).2 j hj
       rw [add_add'] at hu
       have e1 : (⟨b, o, none⟩ : Addr).add (i * k + j) = ⟨b, o + i * k + j, none⟩ := by rw [add_at, Nat.add_assoc]
       exact ⟨b, o, rfl, hok _ _ _ hu, by rw [e1, hu]; rfl⟩
     · rw [List.map_map] at he
       obtain ⟨p, hp1, rfl⟩ := List.mem_map.1 he
       exact hlen _
     · rw [List.map_map, List.getElem?_map, Option.map_eq_some_iff] at he
       obtain ⟨p, hp1, rfl⟩ := he
       obtain ⟨h1, h2, h3⟩ := hp i p hp1
       have hi : i < len := by rw [← hl]; exact (List.getElem?_eq_some_iff.1 hp1).1
       have hj : j < k := by
         have := (List.getElem?_eq_some_iff.1 hd).1
         simp only [Function.comp] at this
         rwa [hlen] at this
       obtain ⟨u, hu1, hu2⟩ := (cells?_get h1).2 j hj
       have : w.cell? (a.add (i * k + j)) = some u := by
         obtain ⟨b, o, s⟩ := a
         obtain rfl : s = none := hspot (by omega)
         rw [add_add'] at hu2
         rw [← hu2, Nat.add_assoc, add_at]
       show Rep w ok _ ((w.cell? (a.add (i * k + j))).getD undef) d
       rw [this]
       exact h3.2 j d u hd hu1
theorem int_rep {k : IntKind} {t : TypeId} (ht : P.underlying t = some (.int k)) {n : Nat} {cs : List Value} {x : DataW H × List MemPlace} (h : DataW.trod enc P w 0 sp true n t cs = some x) : ∃ i, cs = [.int k i] ∧ k.min ≤ i ∧ i ≤ k.max := by
 obtain ⟨i, h1, _, h2⟩ := DataW.trod_int ht h
 simp only [Lit.wf, Bool.and_eq_true, decide_eq_true_eq] at h2
 exact ⟨i, h1, h2.1, h2.2⟩
theorem struct2_cells {t : TypeId} {f0 f1 : Field} (ht : P.underlying t = some (.struct #[f0, f1])) (hc : P.cellsOf t = 2) (h0 : f0.offset = 0) (h1 : f1.offset = 1) (c0 : P.cellsOf f0.type = 1) (c1 : P.cellsOf f1.type = 1)
   {n : Nat} {cs : List Value} {x : DataW H × List MemPlace} (h : DataW.trod enc P w 0 sp true n t cs = some x) (hw : ∀ m ∈ x.1.weights P t, m ≤ reachBytes) :
   ∃ u v y z m, cs = [u, v] ∧ DataW.trod enc P w 0 sp true m f0.type [u] = some y ∧ DataW.trod enc P w 0 sp true m f1.type [v] = some z ∧ (∀ m ∈ y.1.weights P f0.type, m ≤ reachBytes) ∧ (∀ m ∈ z.1.weights P f1.type, m ≤ reachBytes) := by
 obtain ⟨y0, y1, m, rfl, hl, g0, g1⟩ := trod_struct2 ht h
 rw [hc] at hl
 rw [h0, c0] at g0
 rw [h1, c1] at g1
 simp only [DataW.weights, ht, DataW.weightsEach, List.map_cons, List.map_nil, List.mem_append, List.append_nil] at hw
 match cs, hl with
 | [u, v], _ =>
   refine ⟨u, v, y0, y1, m, rfl, g0, g1, fun m hm => hw m ?_, fun m hm => hw m ?_⟩
   · exact .inl hm
   · exact .inr hm
end
theorem Evol.kept {ok ok' : Nat → Nat → Prop} {own' : Nat → Prop} {w w' : World} (he : Evol (fun _ => False) ok w own' ok' w') : w.keptBut w' (fun _ => False) := by
 refine ⟨he.os, he.output, fun i hi => ?_⟩
 rw [he.unch i hi (fun h => h)]
 cases w.heap[i]? with
 | none => rfl
 | some o => cases o <;> simp
theorem Evol.sameAt {ok ok' : Nat → Nat → Prop} {own' : Nat → Prop} {w w' : World} (he : Evol (fun _ => False) ok w own' ok' w') {p : MemPlace} (hp : p.block < w.heap.size) : w.sameAt w' p := by
 have h := he.unch p.block hp (fun h => h)
 cases p with
 | cell b off => exact World.cell?_of_block (w := w) (a := ⟨b, off, none⟩) h
 | map b => exact h
end Go.Aw
end
section
set_option maxRecDepth 100000
namespace Go.Aw
open Go.RowKit Go.ChangeShapes Go.WideShapes Go.Proofs
theorem own0 : ownKnob Tryd.prog.godebug = none := by kernel_rfl
theorem laidOut0 : laidOutB Tryd.prog = true := by kernel_rfl
theorem rowed0 : mapsRowed Tryd.prog = true := by kernel_rfl
theorem full0 : ∀ t e, t < Tryd.prog.types.size → Tryd.prog.underlying t = some (.slice e) → 0 < Tryd.prog.cellsOf e := slices_full_of _ (by kernel_rfl)
def okAll (w : World) (b o : Nat) : Prop := ∃ u, w.cell? ⟨b, o, none⟩ = some u
theorem glob_of_laid {w : World} (h : laidMetH Tryd.prog YtgpeegdinblnoaaDoor.Rows.guardAlikesRow.laid w) : GlobOk w (okAll w) := by
 have h' : laidMet Tryd.prog YtgpeegdinblnoaaDoor.Rows.guardAlikesRow.laid w := h
 obtain ⟨ps, ⟨g1, t1, c1, n1, p1, q1, a1, a2, a3, a4, ⟨g, t, cs, n, p, q, b1, b2, b3, b4, _⟩, _⟩, _⟩ := h'
 intro g0 vs hg j v hv
 unfold globT at hg
 split at hg
 · rename_i e
   subst e
   cases hg
   obtain rfl : g = 1 := Option.some.inj (b1.symm.trans (by kernel_rfl))
   have ht : t = 170 := Option.some.inj (b2.symm.trans (by kernel_rfl))
   subst ht
   obtain ⟨xs, m, hn, hx, hl, hlen, hf⟩ := DataW.trod_array (P := Tryd.prog) (n := 64) (e := 5) (by kernel_rfl) b4
   obtain ⟨L, hL1, hL2⟩ : ∃ L : List Int, tab64 = L.map (Value.int .u8) ∧ (YtgpeegdinblnoaaDoor.Rows.laid_math_bits_deBruijn64tab : DataW Unit) = .agg (L.map fun n => .lit (.int .u8 n)) := ⟨_, rfl, rfl⟩
   have hc1 : Tryd.prog.cellsOf 5 = 1 := by kernel_rfl
   rw [hL2] at hx
   have hx' : xs.map (·.1) = L.map fun n => (.lit (.int .u8 n) : DataW Unit) := by
     have := congrArg Prod.fst hx
     simp only at this
     injection this with this
     exact this.symm
   rw [hL1, List.getElem?_map, Option.map_eq_some_iff] at hv
   obtain ⟨i, hi, rfl⟩ := hv
   have h1 : (xs.map (·.1))[j]? = some (.lit (.int .u8 i)) := by rw [hx', List.getElem?_map, hi]; rfl
   rw [List.getElem?_map, Option.map_eq_some_iff] at h1
   obtain ⟨y, hy, hy1⟩ := h1
   have hj : j < 64 := by rw [← hlen]; exact (List.getElem?_eq_some_iff.1 hy).1
   have h2 := hf j hj
   rw [hy, hc1, Nat.mul_one] at h2
   obtain ⟨i', h3, h4, _⟩ := DataW.trod_int (P := Tryd.prog) (k := .u8) (by kernel_rfl) h2
   rw [h4] at hy1
   simp only [DataW.lit.injEq, Lit.int.injEq, true_and] at hy1
   subst hy1
   have h5 : w.cell? ⟨1, j, none⟩ = some (.int .u8 i') := by
     rw [World.var?_cell b1 b3 j, ← Array.getElem?_toList]
     have h6 : (cs.toList.drop j)[0]? = some (.int .u8 i') := by
       have := congrArg (fun l => l[0]?) h3
       simpa [List.getElem?_take] using this
     simpa using h6
   exact ⟨⟨_, h5⟩, h5⟩
 · cases hg
theorem all_kept {H : Type} {enc : TypeId × Value → H} {w w' : World} {own' : Nat → Prop} {ok ok' : Nat → Nat → Prop} (he : Evol (fun _ => False) ok w own' ok' w') :
   ∀ {ts : List TypeId} {vs : List Value} {ds : List (DataW H)} {ps : List MemPlace}, DataW.TrodAll enc Tryd.prog w 0 (fun _ => true) true ts vs ds ps → DataW.TrodAll enc Tryd.prog w' 0 (fun _ => true) true ts vs ds ps
 | [], [], [], _, h => h
 | _ :: _, _ :: _, _ :: _, _, ⟨p, q, ⟨n, h1⟩, h2, e⟩ => ⟨p, q, ⟨n, DataW.trod_carry _ _ _ _ h1 fun a ha => he.sameAt (DataW.trod_lt _ _ _ _ h1 a ha)⟩, all_kept he h2, e⟩
theorem lifted_of {f : FuncId} {fn : Func} {s : ChangeSpec} (hfn : Tryd.prog.funcs[f]? = some fn) (hvars : s.vars = []) (hni : Tryd.prog.inits.idxOf? f = none)
   (hspec : ∀ (H : Type) (ds : List (DataW H)), ds.length = fn.params.toList.length → s.fn H ds = { results := [.lit (.bool true)], args := ds })
   (hres : fn.resultTypes.toList = [4]) (hps : ∀ t ∈ fn.params.toList, t < Tryd.prog.types.size)
   (hread : ∀ {H : Type} {enc : TypeId × Value → H} (w : World) (base : Nat) (args : Array Value) (ds : List (DataW H)) (p : List MemPlace), (∀ (j : Nat) t v, fn.params[j]? = some t → args[j]? = some v → Value.okWide Tryd.prog w .any base t v) →
     DataW.TrodAll enc Tryd.prog w 0 (fun _ => true) true fn.params.toList args.toList ds p → (∀ m ∈ DataW.weightsEach Tryd.prog fn.params.toList ds, m ≤ reachBytes) →
     ∃ av : List V, args.size = av.length ∧ (∀ (i : Nat) (d : V) (v : Value), av[i]? = some d → args[i]? = some v → Rep w (okAll w) (fun _ => none) v d) ∧ CallsTo Tryd.prog f av (.lit (.bool true)))
   (os : Os) (started : os.Started) (H : Type) (enc : TypeId × Value → H)
   (hwit : ∃ (w : World) (tape : Tape) (i : Input), w.os = os ∧ (w.forCall tape i).Shaped Tryd.checked.prog ∧ i.vars = [] ∧ Input.okWide Tryd.checked.prog (w.forCall tape i) .any w.heap.size f i ∧
     ((s.pre enc Tryd.checked.prog fn [] false (w.forCall tape i).memory i.args ∧ laidMetH Tryd.prog YtgpeegdinblnoaaDoor.Rows.guardAlikesRow.laid (w.forCall tape i).memory) ∧ sizedMet enc Tryd.checked.prog fn (OpenSpec.ofChange s) false (w.forCall tape i).memory i.args) ∧ ({} : Assume).holds Tryd.checked.prog (lone (Frame.enter Tryd.checked.prog f i.args .normal) [] (w.forCall tape i))) :
   ReturnsInHanded {} Tryd.checked os f .any (fun w args => (s.pre enc Tryd.checked.prog fn [] false w args ∧ laidMetH Tryd.prog YtgpeegdinblnoaaDoor.Rows.guardAlikesRow.laid w) ∧ sizedMet enc Tryd.checked.prog fn (OpenSpec.ofChange s) false w args)
     (s.post enc Tryd.checked.prog fn false true false false) := by
 refine returnsInHanded_of_change_and (C := Tryd.checked) (X := fun w _ => laidMetH Tryd.prog YtgpeegdinblnoaaDoor.Rows.guardAlikesRow.laid w) (fun _ _ _ hh h => h.of_heap hh) own0 started hni hfn hwit ?_
 intro W base args ds gs before hval hW _ hwts hL _
 have hW' := hW
 obtain ⟨p, q, hA, hV, hpq, hfz, hnd⟩ := hW
 rw [hvars] at hV
 obtain ⟨rfl, rfl⟩ : gs = [] ∧ q = [] := by
   cases gs with
   | nil => exact ⟨rfl, hV⟩
   | cons g r => exact absurd hV (by intro h; cases h)
 have hvt : s.plain.varTypes Tryd.checked.prog = [] := by unfold DataSpec.varTypes ChangeSpec.plain; rw [hvars]; rfl
 rw [hvt, List.append_nil, List.append_nil, List.all_eq_true] at hwts
 obtain ⟨av, hsz, hrep, hct⟩ := hread W base args ds p hval hA (fun m hm => by simpa using hwts m hm)
 refine ((hct W (okAll W) args (fun b o h => h) (glob_of_laid hL) hsz hrep).calls (FW_room _)).mono fun e W' ⟨v, own', ok', he, hev, _, hrv⟩ => ?_
 subst he
 refine ⟨v, rfl, ?_⟩
 have hv : v = .bool true := by cases hrv; rfl
 subst hv
 have hlen : ds.length = fn.params.toList.length := by
   have key : ∀ {ts : List TypeId} {vs : List Value} {ds : List (DataW H)} {ps : List MemPlace}, DataW.TrodAll enc Tryd.prog W 0 (fun _ => true) true ts vs ds ps → ds.length = ts.length := by
     intro ts
     induction ts with
     | nil => intro vs ds ps h; obtain ⟨_, rfl, _⟩ := trodAll_nil h; rfl
     | cons t ts ih =>
       intro vs ds ps h
       obtain ⟨v, vs', d, ds', p, q, _, rfl, _, _, h2⟩ := trodAll_cons h
       simp [ih h2]
   exact key hA
 have hfnd : s.fn H (ds ++ []) = { results := [.lit (.bool true)], args := ds } := by rw [List.append_nil]; exact hspec H ds hlen
 refine ⟨ds, [], before, [], p, [], hW', ?_, ?_, ?_, World.keptBut_mono (fun _ f => f.elim) hev.kept, fun h => by cases h⟩
 · rw [hfnd, hres]
   have : (Value.bool true).resultList fn.resultTypes.size = [.bool true] := by
     have : fn.resultTypes.size = 1 := by rw [← Array.length_toList, hres]; rfl
     rw [this]; rfl
   rw [this]
   exact trodAll_mk1 (shut_bool (P := Tryd.prog) (by kernel_rfl) true)
 · rw [hfnd]
   refine DataW.TrodAll.respare (P := Tryd.prog) (T := (· < Tryd.prog.types.size)) (kids_rows laidOut0 rowed0) full0 hps (all_kept hev hA) fun a ha => ?_
   exact decide_eq_true (DataW.TrodAll.lt hA a ha)
 · rw [hfnd, hvars]; rfl
end Go.Aw
end
section
set_option maxRecDepth 100000
namespace Go.Aw
open Go.RowKit Go.ChangeShapes Go.WideShapes Go.Proofs
section
variable {H : Type} {enc : TypeId × Value → H} {w : World}
theorem gint_read {n : Nat} {cs : List Value} {x : DataW H × List MemPlace} (h : DataW.trod enc Tryd.prog w 0 (fun _ => true) true n 3 cs = some x) : ∃ i, cs = [.int .i64 i] := by
 obtain ⟨i, e, _⟩ := int_rep Tryd.underlying3 h
 exact ⟨i, e⟩
theorem gints_read {n : Nat} {cs : List Value} {x : DataW H × List MemPlace} (h : DataW.trod enc Tryd.prog w 0 (fun _ => true) true n 22 cs = some x) (hw : ∀ m ∈ x.1.weights Tryd.prog 22, m ≤ reachBytes) :
   ∃ (v : Value) (l : List Int), cs = [v] ∧ l.length ≤ reachBytes ∧ (∀ a ∈ l, True) ∧ Rep w (okAll w) (fun _ => none) v (.sl 1 (l.map encI) false) :=
 slice_rep (k := 1) (en := encI) (q := fun _ => True) (by decide) Tryd.underlying22 (by kernel_rfl) (of_decide_eq_true (by kernel_rfl)) (fun _ => rfl) (fun n cs x h _ => by
   obtain ⟨i, rfl⟩ := gint_read h
   refine ⟨i, trivial, rfl, fun k d u hd hu => ?_⟩
   match k with
   | 0 => cases hd; cases hu; exact .lit _ rfl
   | k + 1 => cases hd) (fun b o u h => ⟨u, h⟩) h hw
theorem guard_read (n : Nat) (cs : List Value) (x : DataW H × List MemPlace) (h : DataW.trod enc Tryd.prog w 0 (fun _ => true) true n 24 cs = some x) (hw : ∀ m ∈ x.1.weights Tryd.prog 24, m ≤ reachBytes) :
   ∃ a : Grd, a.2.length ≤ reachBytes ∧ RepL w (okAll w) cs (encGd a) := by
 obtain ⟨u, v, y, z, m, rfl, h1, h2, _, h3⟩ := struct2_cells Tryd.underlying24 (by kernel_rfl) rfl rfl (by kernel_rfl) (by kernel_rfl) h hw
 obtain ⟨i, e1⟩ := gint_read h1
 obtain ⟨v, l, e, hl, _, hr⟩ := gints_read h2 h3
 cases e
 cases e1
 refine ⟨(i, l), hl, rfl, fun k d u hd hu => ?_⟩
 match k with
 | 0 => cases hd; cases hu; exact .lit _ rfl
 | 1 => cases hd; cases hu; exact hr
 | k + 2 => cases hd
theorem gaugeA_read {base : Nat} {v : Value} {d : DataW H} {p : List MemPlace} (hv : Value.okWide Tryd.prog w .any base 26 v) (h : DataW.Trod enc Tryd.prog w 0 (fun _ => true) true 26 v d p) :
   ∃ g : Gau, Rep w (okAll w) (fun _ => none) v (encGa g) := by
 obtain ⟨vs, rfl, hsz⟩ := okWide_struct Tryd.underlying26 hv
 obtain ⟨n, h⟩ := h
 obtain ⟨y0, y1, y2, y3, m, e, hl, g0, g1, g2, g3⟩ := Go.Joins.trod_struct4 Tryd.underlying26 h
 have hc4 : Tryd.prog.cellsOf 26 = 4 := by kernel_rfl
 have hc1 : Tryd.prog.cellsOf 3 = 1 := by kernel_rfl
 rw [hc4] at hl
 simp only [hc1] at g0 g1 g2 g3
 have hl' : vs.toList.length = 4 := hl
 have hcs : (Value.agg vs).cells.toList = vs.toList := rfl
 rw [hcs] at g0 g1 g2 g3
 match hvs : vs.toList, hl' with
 | [c0, c1, c2, c3], _ =>
   rw [hvs] at g0 g1 g2 g3
   simp only [List.drop_zero, List.drop_succ_cons, List.take_succ_cons, List.take_zero] at g0 g1 g2 g3
   obtain ⟨i0, e0⟩ := gint_read g0
   obtain ⟨i1, e1⟩ := gint_read g1
   obtain ⟨i2, e2⟩ := gint_read g2
   obtain ⟨i3, e3⟩ := gint_read g3
   cases e0
   cases e1
   cases e2
   cases e3
   refine ⟨⟨i0, i1, i2, i3⟩, .agg vs _ (by rw [← Array.length_toList, hvs]; rfl) fun i d u hd hu => ?_⟩
   have hu' : vs.toList[i]? = some u := by rw [Array.getElem?_toList]; exact hu
   rw [hvs] at hu'
   match i with
   | 0 => cases hd; cases hu'; exact .lit _ rfl
   | 1 => cases hd; cases hu'; exact .lit _ rfl
   | 2 => cases hd; cases hu'; exact .lit _ rfl
   | 3 => cases hd; cases hu'; exact .lit _ rfl
   | i + 4 => cases hd
theorem stockA_read {base : Nat} {v : Value} {d : DataW H} {p : List MemPlace} (hv : Value.okWide Tryd.prog w .any base 38 v) (h : DataW.Trod enc Tryd.prog w 0 (fun _ => true) true 38 v d p) (hw : ∀ m ∈ d.weights Tryd.prog 38, m ≤ reachBytes) :
   ∃ ls rs : List Grd, Rep w (okAll w) (fun _ => none) v (encSt ls rs false false) ∧ ls.length ≤ 4611686018427387904 ∧ rs.length ≤ 4611686018427387904 ∧ (∀ x ∈ ls, x.2.length ≤ 4611686018427387904) ∧ (∀ x ∈ rs, x.2.length ≤ 4611686018427387904) := by
 obtain ⟨vs, rfl, hsz⟩ := okWide_struct Tryd.underlying38 hv
 obtain ⟨n, h⟩ := h
 obtain ⟨a, b, y, z, m, e, h1, h2, h3, h4⟩ := struct2_cells Tryd.underlying38 (by kernel_rfl) rfl rfl (by kernel_rfl) (by kernel_rfl) h hw
 obtain ⟨v1, ls, e1, hl1, hq1, hr1⟩ := slice_rep (k := 2) (en := encGd) (by decide) Tryd.underlying28 (by kernel_rfl) (of_decide_eq_true (by kernel_rfl)) (fun _ => rfl) guard_read (fun b o u h => ⟨u, h⟩) h1 h3
 obtain ⟨v2, rs, e2, hl2, hq2, hr2⟩ := slice_rep (k := 2) (en := encGd) (by decide) Tryd.underlying28 (by kernel_rfl) (of_decide_eq_true (by kernel_rfl)) (fun _ => rfl) guard_read (fun b o u h => ⟨u, h⟩) h2 h4
 cases e1
 cases e2
 have hr : reachBytes ≤ 4611686018427387904 := by decide
 refine ⟨ls, rs, .agg vs _ (by rw [← Array.length_toList]; exact congrArg List.length e) fun i d u hd hu => ?_, by omega, by omega, fun b hb => Nat.le_trans (hq1 b hb) hr, fun c hc => Nat.le_trans (hq2 c hc) hr⟩
 have e' : vs.toList = [a, b] := e
 have hu' : vs.toList[i]? = some u := by rw [Array.getElem?_toList]; exact hu
 rw [e'] at hu'
 match i with
 | 0 => cases hd; cases hu'; exact hr1
 | 1 => cases hd; cases hu'; exact hr2
 | i + 2 => cases hd
end
noncomputable def laidWorld (os : Os) : World :=
 let w0 := World.holding Tryd.prog os ⟨#[], #[], []⟩
 let put (w : World) (g : Nat) (vs : List Int) : World := { w with heap := w.heap.modify g fun
     | .cells _ t frozen => .cells (vs.map (Value.int .u8)).toArray t frozen
     | o => o }
 put (put w0 0 [0, 1, 28, 2, 29, 14, 24, 3, 30, 22, 20, 15, 25, 17, 4, 8, 31, 27, 13, 23, 21, 19, 16, 7, 26, 12, 18, 6, 11, 5, 10, 9]) 1
   [0, 1, 56, 2, 57, 49, 28, 3, 61, 58, 42, 50, 38, 29, 17, 4, 62, 47, 59, 36, 45, 43, 51, 22, 53, 39, 33, 30, 24, 18, 12, 5, 63, 55, 48, 27, 60, 41, 37, 16, 46, 35, 44, 21, 52, 32, 23, 11, 54, 26, 40, 15, 34, 20, 31, 10, 25, 14, 19, 9, 13, 8, 7, 6]
theorem laidWorld_met (os : Os) (args : Array Value) : laidMetH Tryd.prog YtgpeegdinblnoaaDoor.Rows.guardAlikesRow.laid ((laidWorld os).forCall (fun _ _ => 0) ⟨#[], args, []⟩).memory := by
 show laidMet _ _ _
 exact laidMet_of_run' 8 (by kernel_rfl) (by kernel_rfl)
end Go.Aw
end
section
set_option maxRecDepth 100000
namespace Go.Proofs.YtgpeegdinblnoaaDoor
open Go Go.Aw Go.RowKit Go.ChangeShapes Go.WideShapes
theorem guardLooks_wit (os : Os) (H : Type) (enc : TypeId × Value → H) : ∃ (w : World) (tape : Tape) (i : Input), w.os = os ∧ (w.forCall tape i).Shaped Tryd.checked.prog ∧ i.vars = [] ∧ Input.okWide Tryd.checked.prog (w.forCall tape i) .any w.heap.size 9 i ∧
     ((Rows.guardLooksSpec.pre enc Tryd.checked.prog Tryd.f9 [] false (w.forCall tape i).memory i.args ∧ laidMetH Tryd.prog Rows.guardLooksRow.laid (w.forCall tape i).memory) ∧ sizedMet enc Tryd.checked.prog Tryd.f9 (OpenSpec.ofChange Rows.guardLooksSpec) false (w.forCall tape i).memory i.args) ∧ ({} : Assume).holds Tryd.checked.prog (lone (Frame.enter Tryd.checked.prog 9 i.args .normal) [] (w.forCall tape i)) :=
 ChangeSpec.witness_at (enc := enc) (C := Tryd.checked) (os := os) (X := fun w _ => laidMetH Tryd.prog Rows.guardLooksRow.laid w) false (laidWorld os) #[.agg #[.slice none 0 0, .slice none 0 0], .agg #[.int .i64 0, .int .i64 0, .int .i64 0, .int .i64 0]] 8 rfl (by kernel_rfl) (by kernel_rfl) (by kernel_rfl) (by kernel_rfl) (by kernel_rfl) (laidWorld_met os _)
theorem guardLooks_said : Rows.GuardLooksSaid :=
 OpenClaim.holds_of_wide 9 Tryd.f9 rfl rfl rfl rfl rfl rfl rfl ⟨rfl, rfl, rfl, rfl, rfl⟩ rfl rfl rfl rfl rfl (by kernel_rfl) Tryd.func9 (by kernel_rfl)
   (of_decide_eq_true (by kernel_rfl)) (by unfold Func.isWrapper; first | (rw [if_pos (by decide +kernel)]; kernel_rfl) | (rw [if_neg (by decide +kernel)]; exact ⟨rfl, rfl⟩))
   (fun os started H enc _ => lifted_of Tryd.func9 rfl (by kernel_rfl) (fun H ds hd => by
       match ds, hd with
       | [_, _], _ => rfl) (by kernel_rfl) (fun t ht => by
         have : Tryd.f9.params.toList.all (fun t => decide (t < Tryd.prog.types.size)) = true := by kernel_rfl
         simpa using List.all_eq_true.1 this t ht)
     (fun {H enc} w base args ds p hv hA hw => by
       rw [Tryd.params9] at hA hv hw
       obtain ⟨v0, vs0, d0, ds0, p0, q0, e0, rfl, _, g0, r0⟩ := trodAll_cons hA
       obtain ⟨v1, vs1, d1, ds1, p1, q1, rfl, rfl, _, g1, r1⟩ := trodAll_cons r0
       obtain ⟨rfl, rfl, _⟩ := trodAll_nil r1
       obtain rfl : args = #[v0, v1] := by cases args; simp_all
       obtain ⟨a0, b0, h0, k0, l0, m0, n0⟩ := stockA_read (hv 0 38 v0 rfl rfl) g0 (fun m hm => hw m (by simp only [DataW.weightsEach, List.mem_append]; exact .inl hm))
       obtain ⟨a1, h1⟩ := gaugeA_read (hv 1 26 v1 rfl rfl) g1
       refine ⟨[encSt a0 b0 false false, encGa a1], rfl, fun i d u hd hu => ?_, (GuardLooks_spec a0 b0 a1 k0 l0 m0 n0 ).1⟩
       match i with
       | 0 => cases hd; cases hu; exact h0
       | 1 => cases hd; cases hu; exact h1
       | i + 2 => cases hd) os started H enc (guardLooks_wit os H enc))
theorem guardLooks_card : Rows.GuardLooksCardSaid :=
 Claim7.holds_tied_plain_at .later [] [.data, .data] true (true, "2743f537752629cc39242edba28dddd2878ae44136102d9440533fb6bdff82ae") false
   guardLooks_said (fun _ h => by cases h) (by kernel_rfl) (fun _ h => by cases h) guardLooks_row_tie rfl ⟨rfl, rfl⟩ (by kernel_rfl) rfl
   (fun f fn hf hfn => by
     obtain rfl : f = 9 := Option.some.inj ((show Tryd.prog.funcNamed "panache/panachelaw06.GuardLooks" = some 9 by kernel_rfl).symm.trans hf) |>.symm
     obtain rfl : fn = Tryd.f9 := (Option.some.inj (Tryd.func9.symm.trans hfn)).symm
     exact ⟨by kernel_rfl, fun j t ht => by
       have h3 : Tryd.f9.params.toList.all (fun t => !Tryd.prog.wantsStandIn t) = true := by kernel_rfl
       have h4 : (!Tryd.prog.wantsStandIn t) = true := List.all_eq_true.1 h3 t (by rw [← Array.getElem?_toList] at ht; exact List.mem_of_getElem? ht)
       have h5 : Tryd.prog.wantsStandIn t = false := by rwa [Bool.not_eq_true'] at h4
       exact h5⟩)
   (by kernel_rfl)
#print axioms guardLooks_card
end Go.Proofs.YtgpeegdinblnoaaDoor
end
