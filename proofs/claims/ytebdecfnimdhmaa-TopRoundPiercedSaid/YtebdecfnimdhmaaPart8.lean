/-
  A part of the proof that a law returns true for every input that the given row speaks of: an own verified walk over the program (namespace Go.Aw), contracts of the functions that the law calls, and the law itself. Conditions: those of the given row, no other.
-/
import Derived.Test.YtebdecfnimdhmaaPart7
set_option linter.unusedVariables false
set_option linter.unusedSimpArgs false
section
set_option maxRecDepth 20000
set_option maxHeartbeats 4000000
namespace Go.Aw
open Go.RowKit Go.Proofs
theorem pier_tail (rb bx : List Int) (v : Int × Int) (e : Bool) (hr : Byt rb) (hb : ∀ x ∈ bx, 0 ≤ x ∧ x ≤ 255) (hv : BxOk v) (hl : bx.length ≤ 4611686018427387904) (hp0 : 0 < min bx.length 6) : (pier_cut rb bx v e hr hb hv hl hp0).G := by
 delta pier_cut
 dsimp only
 intro base F hF K hK n hnn1 hnn2 hn1 hn6 T loads hlf0 hld hlen x hx
 obtain ⟨h61, hby⟩ := id hr
 have hlb := brL_len hn1
 have hlf := feL_len (f := F) (k := K) hn1
 have hfs := firstN_bd (bx := bx) n
 have hal := allN_len n
 change 0 ≤ (brL bx n).sum ∧ (brL bx n).sum ≤ _ at hfs
 by_cases hlt : x < n + 1
 · have h1 := hld x hlt
   have hx0 : x = 0 → loads.getD x default = (brL bx n).sum := fun h => by rw [h]; exact hlf0
   repeat' (first
     | (with_reducible apply Req_intro); focus (first | omega | assumption | (simp; done))
     | with_reducible (first | apply Req_intro | refine nilT ?_ fun hn => ?_ | apply wk_draw Try_mixed | refine drawEnd (by kernel_rfl) ?_)
     | (with_reducible (first | apply condA_if | apply stepDG_ifN | apply stepDG_if | apply stepG_ifN | apply stepG_if)) <;> intro hb <;> (have hif := hb) <;> (try simp only [bo] at hif) <;> (try simp -implicitDefEqProofs (disch := omega) only [go_sem, hb]) <;> clear hb
     | simp (maxSteps := 1000000) -implicitDefEqProofs (disch := omega) only [go_sem])
   all_goals first | (exfalso; omega) | (exfalso; have := hx0 (by omega); omega) | omega | skip
   · with_reducible refine nxt_w (x + 1) ?_ ?_
     · (try dsimp only)
       skip
       exact weak_do3 []
     try dsimp only
     omega
   · with_reducible refine nxt_w (x + 1) ?_ ?_
     · (try dsimp only)
       skip
       exact weak_do3 []
     try dsimp only
     omega
 · by_cases hs : 0 < (brL bx n).sum
   · have hts := task_spec rb (brL bx n) (feL F K bx n) false false ((brL bx n).sum - 1) hr (by omega) (by omega)
     have hok := taskR_ok (holds := (brL bx n).sum - 1) hr (by omega : (brL bx n).length ≤ 6) (by omega : (feL F K bx n).length = _) brL_rg (feL_rg hF hK) (by omega)
     have hps := taskR_n rb (brL bx n) (feL F K bx n) ((brL bx n).sum - 1)
     have hsb := sumBr_all (rb := rb) (br := brL bx n) (fe := feL F K bx n) (holds := (brL bx n).sum - 1)
     have hho : (taskR rb (brL bx n) (feL F K bx n) ((brL bx n).sum - 1)).holds = (brL bx n).sum - 1 := rfl
     rw [hlb] at hsb hps
     generalize taskR rb (brL bx n) (feL F K bx n) ((brL bx n).sum - 1) = T2 at *
     have hord : OrdOk T2.ps.length (allN n) := by rw [hps]; exact allN_ord n
     have hff := Fault_first T2 hok (allN n) false hord (by rw [hho, hsb]; omega)
     repeat' (first
       | (with_reducible apply Req_intro); focus (first | omega | assumption | (simp; done))
       | with_reducible (first | apply Req_intro | refine nilT ?_ fun hn => ?_ | apply wk_draw Try_mixed | refine drawEnd (by kernel_rfl) ?_)
       | (with_reducible (first | apply condA_if | apply stepDG_ifN | apply stepDG_if | apply stepG_ifN | apply stepG_if)) <;> intro hb <;> (have hif := hb) <;> (try simp only [bo] at hif) <;> (try simp -implicitDefEqProofs (disch := omega) only [go_sem, hb]) <;> clear hb
       | simp (maxSteps := 1000000) -implicitDefEqProofs (disch := omega) only [go_sem])
     all_goals first | (exfalso; omega) | omega | skip
     refine callf [] hts ?_
     try simp (maxSteps := 1000000) -implicitDefEqProofs (disch := omega) only [go_sem]
     repeat' (first
       | (with_reducible apply Req_intro); focus (first | omega | assumption | (simp; done))
       | with_reducible (first | apply Req_intro | refine nilT ?_ fun hn => ?_ | apply wk_draw Try_mixed | refine drawEnd (by kernel_rfl) ?_)
       | (with_reducible (first | apply condA_if | apply stepDG_ifN | apply stepDG_if | apply stepG_ifN | apply stepG_if)) <;> intro hb <;> (have hif := hb) <;> (try simp only [bo] at hif) <;> (try simp -implicitDefEqProofs (disch := omega) only [go_sem, hb]) <;> clear hb
       | simp (maxSteps := 1000000) -implicitDefEqProofs (disch := omega) only [go_sem])
     all_goals first | (exfalso; omega) | omega | skip
     refine callf [6656] hff ?_
     try simp (maxSteps := 1000000) -implicitDefEqProofs (disch := omega) only [go_sem]
     repeat' (first
       | (with_reducible apply Req_intro); focus (first | omega | assumption | (simp; done))
       | with_reducible (first | apply Req_intro | refine nilT ?_ fun hn => ?_ | apply wk_draw Try_mixed | refine drawEnd (by kernel_rfl) ?_)
       | (with_reducible (first | apply condA_if | apply stepDG_ifN | apply stepDG_if | apply stepG_ifN | apply stepG_if)) <;> intro hb <;> (have hif := hb) <;> (try simp only [bo] at hif) <;> (try simp -implicitDefEqProofs (disch := omega) only [go_sem, hb]) <;> clear hb
       | simp (maxSteps := 1000000) -implicitDefEqProofs (disch := omega) only [go_sem])
     all_goals first | (exfalso; omega) | omega | skip
     refine callp (oakKnown10_spec) ?_
     try simp (maxSteps := 1000000) -implicitDefEqProofs (disch := omega) only [go_sem]
     repeat' (first
       | (with_reducible apply Req_intro); focus (first | omega | assumption | (simp; done))
       | with_reducible (first | apply Req_intro | refine nilT ?_ fun hn => ?_ | apply wk_draw Try_mixed | refine drawEnd (by kernel_rfl) ?_)
       | (with_reducible (first | apply condA_if | apply stepDG_ifN | apply stepDG_if | apply stepG_ifN | apply stepG_if)) <;> intro hb <;> (have hif := hb) <;> (try simp only [bo] at hif) <;> (try simp -implicitDefEqProofs (disch := omega) only [go_sem, hb]) <;> clear hb
       | simp (maxSteps := 1000000) -implicitDefEqProofs (disch := omega) only [go_sem])
     refine ret_do ?_
     rfl
   · repeat' (first
       | (with_reducible apply Req_intro); focus (first | omega | assumption | (simp; done))
       | with_reducible (first | apply Req_intro | refine nilT ?_ fun hn => ?_ | apply wk_draw Try_mixed | refine drawEnd (by kernel_rfl) ?_)
       | (with_reducible (first | apply condA_if | apply stepDG_ifN | apply stepDG_if | apply stepG_ifN | apply stepG_if)) <;> intro hb <;> (have hif := hb) <;> (try simp only [bo] at hif) <;> (try simp -implicitDefEqProofs (disch := omega) only [go_sem, hb]) <;> clear hb
       | simp (maxSteps := 1000000) -implicitDefEqProofs (disch := omega) only [go_sem])
     all_goals first | (exfalso; omega) | omega | skip
     refine callp (oakKnown10_spec) ?_
     try simp (maxSteps := 1000000) -implicitDefEqProofs (disch := omega) only [go_sem]
     repeat' (first
       | (with_reducible apply Req_intro); focus (first | omega | assumption | (simp; done))
       | with_reducible (first | apply Req_intro | refine nilT ?_ fun hn => ?_ | apply wk_draw Try_mixed | refine drawEnd (by kernel_rfl) ?_)
       | (with_reducible (first | apply condA_if | apply stepDG_ifN | apply stepDG_if | apply stepG_ifN | apply stepG_if)) <;> intro hb <;> (have hif := hb) <;> (try simp only [bo] at hif) <;> (try simp -implicitDefEqProofs (disch := omega) only [go_sem, hb]) <;> clear hb
       | simp (maxSteps := 1000000) -implicitDefEqProofs (disch := omega) only [go_sem])
     refine ret_do ?_
     rfl
end Go.Aw
end
