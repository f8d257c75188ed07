/-
  A part of the proof that a law returns true for every input that the given row speaks of: an own verified walk over the program (namespace Go.Aw), contracts of the functions that the law calls, and the law itself. Conditions: those of the given row, no other.
-/
import Derived.Test.YtebdecfnimdhmaaPart9
set_option linter.unusedVariables false
set_option linter.unusedSimpArgs false
section
set_option maxRecDepth 20000
set_option maxHeartbeats 4000000
namespace Go.Aw
open Go.RowKit Go.Proofs
theorem home_tail (rb : List Int) (bx : List (Int × Int)) (e : Bool) (f : Nat) (hr : Byt rb) (hb : ∀ x ∈ bx, BxOk x) (hf : f ≤ 255) (hl : bx.length ≤ 4611686018427387904) (hp0 : 0 < min bx.length 6) : (home_cut rb bx e f hr hb hf hl hp0).G := by
 delta home_cut
 dsimp only
 intro base n hnn1 hnn2 hn1 hn6 hpt T o loads hlen hdl x hx
 have hlb := brH_len hn1
 have hlf := feH_len hn1
 have hal := allN_len n
 have hlk := bookH_len bx n
 have hbk := book_ok bx n hn6
 have hdx := diffH_bd bx x
 have hdn := diffH_bd bx n
 by_cases hlt : x < n
 · have h1 := outN_bd (bx.getD x default)
   have h2 := bckN_bd (bx.getD x default)
   have hg1 := brH_get hn1 hlt
   have hg2 := feH_get hn1 hlt
   have hhs : Ct Try.prog 15 [houseV, .sl 4 ((bookH bx n).map encEn) false, int x] (.tup [.sl 2 ([(outN (bx.getD x default) - bckN (bx.getD x default), outN (bx.getD x default) - bckN (bx.getD x default))].map encS) false, int 0]) := by
     have := Has_spec (bookH bx n) false hbk x (by omega)
     rw [outA_book, backA_book, if_pos hlt, if_pos hlt] at this
     exact this
   repeat' (first
     | (with_reducible apply Req_intro); focus (first | omega | assumption | (simp; done))
     | with_reducible (first | apply Req_intro | refine nilT ?_ fun hn => ?_ | apply wk_draw Try_mixed | refine drawEnd (by kernel_rfl) ?_)
     | (with_reducible (first | apply condA_if | apply stepDG_ifN | apply stepDG_if | apply stepG_ifN | apply stepG_if)) <;> intro hb <;> (have hif := hb) <;> (try simp only [bo] at hif) <;> (try simp -implicitDefEqProofs (disch := omega) only [go_sem, hb]) <;> clear hb
     | simp (maxSteps := 1000000) -implicitDefEqProofs (disch := omega) only [go_sem])
   all_goals first | (exfalso; omega) | omega | skip
   refine calldf 6208 hhs ?_
   try simp (maxSteps := 1000000) -implicitDefEqProofs (disch := omega) only [go_sem]
   repeat' (first
     | (with_reducible apply Req_intro); focus (first | omega | assumption | (simp; done))
     | with_reducible (first | apply Req_intro | refine nilT ?_ fun hn => ?_ | apply wk_draw Try_mixed | refine drawEnd (by kernel_rfl) ?_)
     | (with_reducible (first | apply condA_if | apply stepDG_ifN | apply stepDG_if | apply stepG_ifN | apply stepG_if)) <;> intro hb <;> (have hif := hb) <;> (try simp only [bo] at hif) <;> (try simp -implicitDefEqProofs (disch := omega) only [go_sem, hb, hg1, hg2]) <;> clear hb
     | simp (maxSteps := 1000000) -implicitDefEqProofs (disch := omega) only [go_sem, hg1, hg2])
   all_goals first | (exfalso; omega) | omega | skip
   refine calld (oakSpan_spec (outN (bx.getD x default) - bckN (bx.getD x default)) (outN (bx.getD x default) - bckN (bx.getD x default))) ?_
   try simp (maxSteps := 1000000) -implicitDefEqProofs (disch := omega) only [go_sem]
   repeat' (first
     | (with_reducible apply Req_intro); focus (first | omega | assumption | (simp; done))
     | with_reducible (first | apply Req_intro | refine nilT ?_ fun hn => ?_ | apply wk_draw Try_mixed | refine drawEnd (by kernel_rfl) ?_)
     | (with_reducible (first | apply condA_if | apply stepDG_ifN | apply stepDG_if | apply stepG_ifN | apply stepG_if)) <;> intro hb <;> (have hif := hb) <;> (try simp only [bo] at hif) <;> (try simp -implicitDefEqProofs (disch := omega) only [go_sem, hb, hg1, hg2]) <;> clear hb
     | simp (maxSteps := 1000000) -implicitDefEqProofs (disch := omega) only [go_sem, hg1, hg2])
   all_goals first | (exfalso; omega) | omega | skip
   with_reducible refine nxt_w (x + 1) ?_ ?_
   · (try dsimp only)
     rw [diffH]
     exact weak_do3 []
   try dsimp only
   omega
 · obtain rfl : x = n := by omega
   repeat' (first
     | (with_reducible apply Req_intro); focus (first | omega | assumption | (simp; done))
     | with_reducible (first | apply Req_intro | refine nilT ?_ fun hn => ?_ | apply wk_draw Try_mixed | refine drawEnd (by kernel_rfl) ?_)
     | (with_reducible (first | apply condA_if | apply stepDG_ifN | apply stepDG_if | apply stepG_ifN | apply stepG_if)) <;> intro hb <;> (have hif := hb) <;> (try simp only [bo] at hif) <;> (try simp -implicitDefEqProofs (disch := omega) only [go_sem, hb, hdl]) <;> clear hb
     | simp (maxSteps := 1000000) -implicitDefEqProofs (disch := omega) only [go_sem, hdl])
   all_goals first | (exfalso; omega) | omega | skip
   refine calld (oakSpan_spec (diffH bx x) (diffH bx x)) ?_
   try simp (maxSteps := 1000000) -implicitDefEqProofs (disch := omega) only [go_sem]
   repeat' (first
     | (with_reducible apply Req_intro); focus (first | omega | assumption | (simp; done))
     | with_reducible (first | apply Req_intro | refine nilT ?_ fun hn => ?_ | apply wk_draw Try_mixed | refine drawEnd (by kernel_rfl) ?_)
     | (with_reducible (first | apply condA_if | apply stepDG_ifN | apply stepDG_if | apply stepG_ifN | apply stepG_if)) <;> intro hb <;> (have hif := hb) <;> (try simp only [bo] at hif) <;> (try simp -implicitDefEqProofs (disch := omega) only [go_sem, hb]) <;> clear hb
     | simp (maxSteps := 1000000) -implicitDefEqProofs (disch := omega) only [go_sem])
   all_goals first | (exfalso; omega) | omega | skip
   refine calld (oakKnown10_spec) ?_
   try simp (maxSteps := 1000000) -implicitDefEqProofs (disch := omega) only [go_sem]
   repeat' (first
     | (with_reducible apply Req_intro); focus (first | omega | assumption | (simp; done))
     | with_reducible (first | apply Req_intro | refine nilT ?_ fun hn => ?_ | apply wk_draw Try_mixed | refine drawEnd (by kernel_rfl) ?_)
     | (with_reducible (first | apply condA_if | apply stepDG_ifN | apply stepDG_if | apply stepG_ifN | apply stepG_if)) <;> intro hb <;> (have hif := hb) <;> (try simp only [bo] at hif) <;> (try simp -implicitDefEqProofs (disch := omega) only [go_sem, hb]) <;> clear hb
     | simp (maxSteps := 1000000) -implicitDefEqProofs (disch := omega) only [go_sem])
   refine ret_do ?_
   rfl
end Go.Aw
end
