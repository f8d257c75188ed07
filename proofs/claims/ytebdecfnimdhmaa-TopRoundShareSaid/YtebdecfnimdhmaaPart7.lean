/-
  A part of the proof that a law returns true for every input that the given row speaks of: an own verified walk over the program (namespace Go.Aw), contracts of the functions that the law calls, and the law itself. Conditions: those of the given row, no other.
-/
import Derived.Test.YtebdecfnimdhmaaPart6
set_option linter.unusedVariables false
set_option linter.unusedSimpArgs false
section
set_option maxRecDepth 20000
set_option maxHeartbeats 4000000
namespace Go.Aw
open Go.RowKit Go.Proofs
theorem share_r0 (rb : List Int) (bx : List (Int × Int)) (e : Bool) (f : Nat) (hr : Byt rb) (hb : ∀ x ∈ bx, BxOk x) (hf : f ≤ 255) (hl : bx.length ≤ 4611686018427387904) : (share_cut rb bx e f hr hb hf hl).G0 := by
 delta share_cut
 dsimp only
 intro base W hwc n hn6 d hdl hwl hd T hT hTn hTs hTl hbl
 have hS0 := sumK_bd hd W 0 n (by omega)
 have hS1 := sumK_bd hd W 1 n (by omega)
 have hC : sharpC d W = [(((cartL W 0 n).length : Int), [(sumK d W 0 n, sumK d W 0 n)]), (((cartL W 1 n).length : Int), [(sumK d W 1 n, sumK d W 1 n)])] := by unfold sharpC billK; rw [hdl, ← cartL_len, ← cartL_len]
 have m0 : lastTo 0 (sumK d W 0 n) (0 + 1) = sumK d W 0 n := rfl
 have m1 : lastTo 1 (sumK d W 1 n) (0 + 1) = 0 := rfl
 have hcl := cartL_le W 0 n
 have l0 : lastTo 0 (sumK d W 0 n) 0 = 0 := rfl
 have l1 : lastTo 1 (sumK d W 1 n) 0 = 0 := rfl
 simp only [l0, l1]
 repeat' (first
   | (with_reducible apply Req_intro); focus (first | omega | assumption | (simp; done))
   | with_reducible (first | apply Req_intro | refine nilT ?_ fun hn => ?_ | apply wk_draw Try_mixed | refine drawEnd (by kernel_rfl) ?_)
   | (with_reducible (first | apply condA_if | apply stepDG_ifN | apply stepDG_if | apply stepG_ifN | apply stepG_if)) <;> intro hb <;> (have hif := hb) <;> (try simp only [bo] at hif) <;> (try simp -implicitDefEqProofs (disch := omega) only [go_sem, hb]) <;> clear hb
   | simp (maxSteps := 1000000) -implicitDefEqProofs (disch := omega) only [go_sem])
 all_goals first | (exfalso; omega) | omega | (rw [hC]; rfl) | skip
 refine calld (oakOrder_spec (cartL W 0 n) false f (by omega) hf) ?_
 try simp (maxSteps := 1000000) -implicitDefEqProofs (disch := omega) only [go_sem]
 repeat' (first
   | (with_reducible apply Req_intro); focus (first | omega | assumption | (simp; done))
   | with_reducible (first | apply Req_intro | refine nilT ?_ fun hn => ?_ | apply wk_draw Try_mixed | refine drawEnd (by kernel_rfl) ?_)
   | (with_reducible (first | apply condA_if | apply stepDG_ifN | apply stepDG_if | apply stepG_ifN | apply stepG_if)) <;> intro hb <;> (have hif := hb) <;> (try simp only [bo] at hif) <;> (try simp -implicitDefEqProofs (disch := omega) only [go_sem, hb]) <;> clear hb
   | simp (maxSteps := 1000000) -implicitDefEqProofs (disch := omega) only [go_sem])
 by_cases h0 : cartL W 0 n = []
 · have hl0 : ((cartL W 0 n).length : Int) = 0 := by rw [h0]; rfl
   have hs0 : sumK d W 0 n = 0 := by rw [← cartL_sum, h0]; rfl
   rw [show rotR (cartL W 0 n) f = [] from by rw [h0]; rfl]
   simp only [List.map_nil]
   refine calld (Load_none T hT false) ?_
   try simp (maxSteps := 1000000) -implicitDefEqProofs (disch := omega) only [go_sem]
   repeat' (first
     | (with_reducible apply Req_intro); focus (first | omega | assumption | (simp; done))
     | with_reducible (first | apply Req_intro | refine nilT ?_ fun hn => ?_ | apply wk_draw Try_mixed | refine drawEnd (by kernel_rfl) ?_)
     | (with_reducible (first | apply condA_if | apply stepDG_ifN | apply stepDG_if | apply stepG_ifN | apply stepG_if)) <;> intro hb <;> (have hif := hb) <;> (try simp only [bo] at hif) <;> (try simp -implicitDefEqProofs (disch := omega) only [go_sem, hb, hl0]) <;> clear hb
     | simp (maxSteps := 1000000) -implicitDefEqProofs (disch := omega) only [go_sem, hl0])
   all_goals first | (exfalso; omega) | omega | (rw [hC]; rfl) | skip
   refine calld (oakSpan_spec _ _) ?_
   try simp (maxSteps := 1000000) -implicitDefEqProofs (disch := omega) only [go_sem]
   repeat' (first
     | (with_reducible apply Req_intro); focus (first | omega | assumption | (simp; done))
     | with_reducible (first | apply Req_intro | refine nilT ?_ fun hn => ?_ | apply wk_draw Try_mixed | refine drawEnd (by kernel_rfl) ?_)
     | (with_reducible (first | apply condA_if | apply stepDG_ifN | apply stepDG_if | apply stepG_ifN | apply stepG_if)) <;> intro hb <;> (have hif := hb) <;> (try simp only [bo] at hif) <;> (try simp -implicitDefEqProofs (disch := omega) only [go_sem, hb, hl0]) <;> clear hb
     | simp (maxSteps := 1000000) -implicitDefEqProofs (disch := omega) only [go_sem, hl0])
   refine calldf 6912 (oakBill_spec 0 (0, 0) true) ?_
   try simp (maxSteps := 1000000) -implicitDefEqProofs (disch := omega) only [go_sem]
   repeat' (first
     | (with_reducible apply Req_intro); focus (first | omega | assumption | (simp; done))
     | with_reducible (first | apply Req_intro | refine nilT ?_ fun hn => ?_ | apply wk_draw Try_mixed | refine drawEnd (by kernel_rfl) ?_)
     | (with_reducible (first | apply condA_if | apply stepDG_ifN | apply stepDG_if | apply stepG_ifN | apply stepG_if)) <;> intro hb <;> (have hif := hb) <;> (try simp only [bo] at hif) <;> (try simp -implicitDefEqProofs (disch := omega) only [go_sem, hb, hl0]) <;> clear hb
     | simp (maxSteps := 1000000) -implicitDefEqProofs (disch := omega) only [go_sem, hl0])
   all_goals first | (exfalso; omega) | omega | (rw [hC]; rfl) | skip
   with_reducible refine nxt_w (0 + 1) ?_ ?_
   · (try dsimp only)
     simp only [hC, hs0, hl0, l0, l1, m0, m1, List.take_succ_cons, List.take_zero, List.map_cons, List.map_nil, List.nil_append, List.cons_append, encBill, encS]
     exact weak_do3 [(5, 7104)]
   try dsimp only
   omega
 · obtain ⟨loads, hL, hll, hlast⟩ := Load_cart T hT W d n 0 f hTn (hTl 0 f) h0
   have hpos : 0 < (cartL W 0 n).length := List.length_pos_iff.2 h0
   have eidx : ((loads.length : Int) - 1).toNat = (cartL W 0 n).length := by omega
   refine calld hL ?_
   try simp (maxSteps := 1000000) -implicitDefEqProofs (disch := omega) only [go_sem]
   repeat' (first
     | (with_reducible apply Req_intro); focus (first | omega | assumption | (simp; done))
     | with_reducible (first | apply Req_intro | refine nilT ?_ fun hn => ?_ | apply wk_draw Try_mixed | refine drawEnd (by kernel_rfl) ?_)
     | (with_reducible (first | apply condA_if | apply stepDG_ifN | apply stepDG_if | apply stepG_ifN | apply stepG_if)) <;> intro hb <;> (have hif := hb) <;> (try simp only [bo] at hif) <;> (try simp -implicitDefEqProofs (disch := omega) only [go_sem, hb, eidx, hlast]) <;> clear hb
     | simp (maxSteps := 1000000) -implicitDefEqProofs (disch := omega) only [go_sem, eidx, hlast])
   all_goals first | (exfalso; omega) | omega | (rw [hC]; rfl) | skip
   refine calld (oakSpan_spec _ _) ?_
   try simp (maxSteps := 1000000) -implicitDefEqProofs (disch := omega) only [go_sem]
   repeat' (first
     | (with_reducible apply Req_intro); focus (first | omega | assumption | (simp; done))
     | with_reducible (first | apply Req_intro | refine nilT ?_ fun hn => ?_ | apply wk_draw Try_mixed | refine drawEnd (by kernel_rfl) ?_)
     | (with_reducible (first | apply condA_if | apply stepDG_ifN | apply stepDG_if | apply stepG_ifN | apply stepG_if)) <;> intro hb <;> (have hif := hb) <;> (try simp only [bo] at hif) <;> (try simp -implicitDefEqProofs (disch := omega) only [go_sem, hb]) <;> clear hb
     | simp (maxSteps := 1000000) -implicitDefEqProofs (disch := omega) only [go_sem])
   refine calldf 7488 (oakBill_spec ((cartL W 0 n).length : Int) (sumK d W 0 n, sumK d W 0 n) true) ?_
   try simp (maxSteps := 1000000) -implicitDefEqProofs (disch := omega) only [go_sem]
   repeat' (first
     | (with_reducible apply Req_intro); focus (first | omega | assumption | (simp; done))
     | with_reducible (first | apply Req_intro | refine nilT ?_ fun hn => ?_ | apply wk_draw Try_mixed | refine drawEnd (by kernel_rfl) ?_)
     | (with_reducible (first | apply condA_if | apply stepDG_ifN | apply stepDG_if | apply stepG_ifN | apply stepG_if)) <;> intro hb <;> (have hif := hb) <;> (try simp only [bo] at hif) <;> (try simp -implicitDefEqProofs (disch := omega) only [go_sem, hb]) <;> clear hb
     | simp (maxSteps := 1000000) -implicitDefEqProofs (disch := omega) only [go_sem])
   all_goals first | (exfalso; omega) | omega | (rw [hC]; rfl) | skip
   with_reducible refine nxt_w (0 + 1) ?_ ?_
   · (try dsimp only)
     simp only [hC, l0, l1, m0, m1, List.take_succ_cons, List.take_zero, List.map_cons, List.map_nil, List.nil_append, List.cons_append, encBill, encS]
     exact weak_do3 [(5, 7680)]
   try dsimp only
   omega
end Go.Aw
end
