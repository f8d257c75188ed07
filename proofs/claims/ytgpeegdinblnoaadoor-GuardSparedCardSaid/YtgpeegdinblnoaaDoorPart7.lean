/-
  A part of the proof that a law returns true for every input that the given row speaks of: an own verified walk over the program (namespace Go.Aw), contracts of the functions that the law calls, and the law itself. Conditions: those of the given row, no other.
-/
import Derived.Test.YtgpeegdinblnoaaDoorPart6
set_option linter.unusedVariables false
set_option linter.unusedSimpArgs false
section
set_option maxRecDepth 20000
set_option maxHeartbeats 4000000
namespace Go.Aw
open Go.RowKit Go.Proofs
@[go_sem] theorem und_bool11 : Tryd.prog.underlying 4 = some .bool := Tryd.underlying4
theorem GuardSpared_spec (x : Chst) (h : x.ok) : Ct Tryd.prog 13 [.agg (chC x)] (.lit (.bool true)) := by
 obtain ⟨_, hm1, hm2⟩ := chM_is h
 have hmade := made_spec x h
 have hfl := chL_fine h.l hm2
 have hfr := chL_fine h.r hm2
 have hgg := chG_ok h
 have hl8 : (chL x.l (chM x)).length ≤ 8 := by rw [chL_len]; omega
 have hr8 : (chL x.r (chM x)).length ≤ 8 := by rw [chL_len]; omega
 generalize chL x.l (chM x) = ls at *
 generalize chL x.r (chM x) = rs at *
 generalize chG x = g at *
 generalize chM x = m at *
 have h0 := check_fine hm1 (by omega) hl8 hr8 hfl hfr hgg
 have hst : StOk ls rs := ⟨by omega, by omega, fun x hx => by have := (hfl x hx).len; omega, fun x hx => by have := (hfr x hx).len; omega⟩
 have hown := own_spec ls rs false false hst
 have hp := Pairs_ok g ls rs false false hst h0
 have hc := Spare_ok g ls rs false false hst h0
 obtain ⟨hb1, hb2, hb3, hb4⟩ := pairs_bnd (g := g) (ls := ls) (rs := rs) (k := 2) (by omega)
 have hmle := most_left_le (g := g) (ls := ls) (rs := rs) (k := 2) (by omega)
 have hTl := tableR_len g ls rs 2
 have hw1 : ∀ n, n < ls.length → Ct Tryd.prog 54 [encSt ls rs false false, .lit (.bool false), int n] (encSt (ls.eraseIdx n) rs false false) := fun n hn => without_L ls rs false false n hst hn
 have hw2 : ∀ n, n < rs.length → Ct Tryd.prog 54 [encSt ls rs false false, .lit (.bool true), int n] (encSt ls (rs.eraseIdx n) false false) := fun n hn => without_R ls rs false false n hst hn
 have hq1 : ∀ n, n < ls.length → Ct Tryd.prog 26 [encSt (ls.eraseIdx n) rs false false, encGa g] (.tup [.sl 2 ((pairsR (tableR g (ls.eraseIdx n) rs 2)).map encP) false, int 0]) := fun n hn => by
   have hfl' : ∀ x ∈ ls.eraseIdx n, Fine m x := fun x hx => hfl x (List.mem_of_mem_eraseIdx hx)
   have hl' : (ls.eraseIdx n).length ≤ 8 := by rw [List.length_eraseIdx_of_lt hn]; omega
   exact Pairs_ok g _ rs false false ⟨by omega, by omega, fun x hx => by have := (hfl' x hx).len; omega, fun x hx => by have := (hfr x hx).len; omega⟩ (check_fine hm1 (by omega) hl' hr8 hfl' hfr hgg)
 have hq2 : ∀ n, n < rs.length → Ct Tryd.prog 26 [encSt ls (rs.eraseIdx n) false false, encGa g] (.tup [.sl 2 ((pairsR (tableR g ls (rs.eraseIdx n) 2)).map encP) false, int 0]) := fun n hn => by
   have hfr' : ∀ x ∈ rs.eraseIdx n, Fine m x := fun x hx => hfr x (List.mem_of_mem_eraseIdx hx)
   have hr' : (rs.eraseIdx n).length ≤ 8 := by rw [List.length_eraseIdx_of_lt hn]; omega
   exact Pairs_ok g ls _ false false ⟨by omega, by omega, fun x hx => by have := (hfl x hx).len; omega, fun x hx => by have := (hfr' x hx).len; omega⟩ (check_fine hm1 (by omega) hl8 hr' hfl hfr' hgg)
 have hn1 : ∀ n, n < ls.length → (pairsR (tableR g (ls.eraseIdx n) rs 2)).length = mostR (withoutR (tableR g ls rs 2) (2 ^ n) 0) := fun n hn => pairs_wol (by omega) hn
 have hn2 : ∀ n, n < rs.length → (pairsR (tableR g ls (rs.eraseIdx n) 2)).length = mostR (withoutR (tableR g ls rs 2) 0 (2 ^ n)) := fun n hn => pairs_wor (by omega) hn
 have hs1 : ∀ n, n < ls.length → _ := fun n hn => spared_left (g := g) (ls := ls) (rs := rs) (by omega) hn
 have hs2 : ∀ n, _ := fun n => spared_right (g := g) (ls := ls) (rs := rs) (i := n) (by omega)
 have hB1 := spareL_len (tableR g ls rs 2)
 have hB2 := spareRt_len (tableR g ls rs 2) rs.length
 have hm1' := marked_spec (spareL (tableR g ls rs 2)) false ls.length (by omega) (by rw [← hTl]; exact spareL_lt _) (spareL_asc _)
 have hm2' := marked_spec (spareRt (tableR g ls rs 2) rs.length) false rs.length (by omega) (spareRt_lt _ _) (spareRt_asc _ _)
 have hh1 : ∀ n, n < ls.length → _ := fun n hn => (spareL_mem (tableR g ls rs 2) (i := n) (by rw [hTl]; exact hn)) ▸ has_spec (spareL (tableR g ls rs 2)) false n (by omega)
 have hh2 : ∀ n, n < rs.length → _ := fun n hn => (spareRt_mem (tableR g ls rs 2) (n := rs.length) hn) ▸ has_spec (spareRt (tableR g ls rs 2) rs.length) false n (by omega)
 have hnS := natL_len (spareL (tableR g ls rs 2))
 have hnC := natL_len (spareRt (tableR g ls rs 2) rs.length)
 generalize spareL (tableR g ls rs 2) = BS at *
 generalize spareRt (tableR g ls rs 2) rs.length = BC at *
 rw [← hb4] at hmle
 simp only [← hb4] at hs1 hs2 hh1 hh2
 generalize pairsR (tableR g ls rs 2) = PR at *
 have hap := apart_spec ls rs false false false PR (by omega) (fun p hp => ⟨(hb1 p hp).1, (hb1 p hp).2.1⟩) hb2 hb3
 clear hb1 hb2 hb3
 refine fn_enter Tryd.func13 rfl (by decide) Tryd.results13 Tryd.ntmps13 ?_ rfl (by simp (maxSteps := 1000000) -implicitDefEqProofs (disch := omega) only [go_sem]; rfl) fun base => ?_
 · first | assumption | (simp only [go_sem] <;> assumption) | (simp only [go_sem, *]; done) | (simp [go_sem]; done)
 repeat' (first
   | (with_reducible apply Req_intro); focus (first | omega | assumption | (simp; done))
   | with_reducible (first | apply Req_intro | refine nilT ?_ fun hn => ?_ | apply wk_draw Tryd_mixed | refine drawEnd (by kernel_rfl) ?_)
   | (with_reducible (first | apply condA_if | apply stepDG_ifN | apply stepDG_if | apply stepG_ifN | apply stepG_if)) <;> intro hb <;> (have hif := hb) <;> (try simp only [bo] at hif) <;> (try simp -implicitDefEqProofs (disch := omega) only [go_sem, hb]) <;> clear hb
   | simp (maxSteps := 1000000) -implicitDefEqProofs (disch := omega) only [go_sem])
 first | refine callp hmade ?_ | refine calld hmade ?_
 try simp (maxSteps := 1000000) -implicitDefEqProofs (disch := omega) only [go_sem]
 repeat' (first
   | (with_reducible apply Req_intro); focus (first | omega | assumption | (simp; done))
   | with_reducible (first | apply Req_intro | refine nilT ?_ fun hn => ?_ | apply wk_draw Tryd_mixed | refine drawEnd (by kernel_rfl) ?_)
   | (with_reducible (first | apply condA_if | apply stepDG_ifN | apply stepDG_if | apply stepG_ifN | apply stepG_if)) <;> intro hb <;> (have hif := hb) <;> (try simp only [bo] at hif) <;> (try simp -implicitDefEqProofs (disch := omega) only [go_sem, hb]) <;> clear hb
   | simp (maxSteps := 1000000) -implicitDefEqProofs (disch := omega) only [go_sem])
 all_goals first | exact absurd trivial ‹¬True› | exact absurd ‹false = true› (by decide) | exact absurd ‹true = false› (by decide) | (exfalso; omega) | omega | skip
 first | refine callp hown ?_ | refine calld hown ?_
 try simp (maxSteps := 1000000) -implicitDefEqProofs (disch := omega) only [go_sem]
 repeat' (first
   | (with_reducible apply Req_intro); focus (first | omega | assumption | (simp; done))
   | with_reducible (first | apply Req_intro | refine nilT ?_ fun hn => ?_ | apply wk_draw Tryd_mixed | refine drawEnd (by kernel_rfl) ?_)
   | (with_reducible (first | apply condA_if | apply stepDG_ifN | apply stepDG_if | apply stepG_ifN | apply stepG_if)) <;> intro hb <;> (have hif := hb) <;> (try simp only [bo] at hif) <;> (try simp -implicitDefEqProofs (disch := omega) only [go_sem, hb]) <;> clear hb
   | simp (maxSteps := 1000000) -implicitDefEqProofs (disch := omega) only [go_sem])
 all_goals first | exact absurd trivial ‹¬True› | exact absurd ‹false = true› (by decide) | exact absurd ‹true = false› (by decide) | (exfalso; omega) | omega | skip
 first | refine callp hp ?_ | refine calld hp ?_
 try simp (maxSteps := 1000000) -implicitDefEqProofs (disch := omega) only [go_sem]
 repeat' (first
   | (with_reducible apply Req_intro); focus (first | omega | assumption | (simp; done))
   | with_reducible (first | apply Req_intro | refine nilT ?_ fun hn => ?_ | apply wk_draw Tryd_mixed | refine drawEnd (by kernel_rfl) ?_)
   | (with_reducible (first | apply condA_if | apply stepDG_ifN | apply stepDG_if | apply stepG_ifN | apply stepG_if)) <;> intro hb <;> (have hif := hb) <;> (try simp only [bo] at hif) <;> (try simp -implicitDefEqProofs (disch := omega) only [go_sem, hb]) <;> clear hb
   | simp (maxSteps := 1000000) -implicitDefEqProofs (disch := omega) only [go_sem])
 all_goals first | exact absurd trivial ‹¬True› | exact absurd ‹false = true› (by decide) | exact absurd ‹true = false› (by decide) | (exfalso; omega) | omega | skip
 first | refine callp hown ?_ | refine calld hown ?_
 try simp (maxSteps := 1000000) -implicitDefEqProofs (disch := omega) only [go_sem]
 repeat' (first
   | (with_reducible apply Req_intro); focus (first | omega | assumption | (simp; done))
   | with_reducible (first | apply Req_intro | refine nilT ?_ fun hn => ?_ | apply wk_draw Tryd_mixed | refine drawEnd (by kernel_rfl) ?_)
   | (with_reducible (first | apply condA_if | apply stepDG_ifN | apply stepDG_if | apply stepG_ifN | apply stepG_if)) <;> intro hb <;> (have hif := hb) <;> (try simp only [bo] at hif) <;> (try simp -implicitDefEqProofs (disch := omega) only [go_sem, hb]) <;> clear hb
   | simp (maxSteps := 1000000) -implicitDefEqProofs (disch := omega) only [go_sem])
 all_goals first | exact absurd trivial ‹¬True› | exact absurd ‹false = true› (by decide) | exact absurd ‹true = false› (by decide) | (exfalso; omega) | omega | skip
 first | refine callp hc ?_ | refine calld hc ?_
 try simp (maxSteps := 1000000) -implicitDefEqProofs (disch := omega) only [go_sem]
 repeat' (first
   | (with_reducible apply Req_intro); focus (first | omega | assumption | (simp; done))
   | with_reducible (first | apply Req_intro | refine nilT ?_ fun hn => ?_ | apply wk_draw Tryd_mixed | refine drawEnd (by kernel_rfl) ?_)
   | (with_reducible (first | apply condA_if | apply stepDG_ifN | apply stepDG_if | apply stepG_ifN | apply stepG_if)) <;> intro hb <;> (have hif := hb) <;> (try simp only [bo] at hif) <;> (try simp -implicitDefEqProofs (disch := omega) only [go_sem, hb]) <;> clear hb
   | simp (maxSteps := 1000000) -implicitDefEqProofs (disch := omega) only [go_sem])
 all_goals first | exact absurd trivial ‹¬True› | exact absurd ‹false = true› (by decide) | exact absurd ‹true = false› (by decide) | (exfalso; omega) | omega | skip
 first | refine callp hap ?_ | refine calld hap ?_
 try simp (maxSteps := 1000000) -implicitDefEqProofs (disch := omega) only [go_sem]
 repeat' (first
   | (with_reducible apply Req_intro); focus (first | omega | assumption | (simp; done))
   | with_reducible (first | apply Req_intro | refine nilT ?_ fun hn => ?_ | apply wk_draw Tryd_mixed | refine drawEnd (by kernel_rfl) ?_)
   | (with_reducible (first | apply condA_if | apply stepDG_ifN | apply stepDG_if | apply stepG_ifN | apply stepG_if)) <;> intro hb <;> (have hif := hb) <;> (try simp only [bo] at hif) <;> (try simp -implicitDefEqProofs (disch := omega) only [go_sem, hb]) <;> clear hb
   | simp (maxSteps := 1000000) -implicitDefEqProofs (disch := omega) only [go_sem])
 all_goals first | exact absurd trivial ‹¬True› | exact absurd ‹false = true› (by decide) | exact absurd ‹true = false› (by decide) | (exfalso; omega) | omega | skip
 first | refine callp hm1' ?_ | refine calld hm1' ?_
 try simp (maxSteps := 1000000) -implicitDefEqProofs (disch := omega) only [go_sem]
 repeat' (first
   | (with_reducible apply Req_intro); focus (first | omega | assumption | (simp; done))
   | with_reducible (first | apply Req_intro | refine nilT ?_ fun hn => ?_ | apply wk_draw Tryd_mixed | refine drawEnd (by kernel_rfl) ?_)
   | (with_reducible (first | apply condA_if | apply stepDG_ifN | apply stepDG_if | apply stepG_ifN | apply stepG_if)) <;> intro hb <;> (have hif := hb) <;> (try simp only [bo] at hif) <;> (try simp -implicitDefEqProofs (disch := omega) only [go_sem, hb]) <;> clear hb
   | simp (maxSteps := 1000000) -implicitDefEqProofs (disch := omega) only [go_sem])
 all_goals first | exact absurd trivial ‹¬True› | exact absurd ‹false = true› (by decide) | exact absurd ‹true = false› (by decide) | (exfalso; omega) | omega | skip
 first | refine callp hm2' ?_ | refine calld hm2' ?_
 try simp (maxSteps := 1000000) -implicitDefEqProofs (disch := omega) only [go_sem]
 repeat' (first
   | (with_reducible apply Req_intro); focus (first | omega | assumption | (simp; done))
   | with_reducible (first | apply Req_intro | refine nilT ?_ fun hn => ?_ | apply wk_draw Tryd_mixed | refine drawEnd (by kernel_rfl) ?_)
   | (with_reducible (first | apply condA_if | apply stepDG_ifN | apply stepDG_if | apply stepG_ifN | apply stepG_if)) <;> intro hb <;> (have hif := hb) <;> (try simp only [bo] at hif) <;> (try simp -implicitDefEqProofs (disch := omega) only [go_sem, hb]) <;> clear hb
   | simp (maxSteps := 1000000) -implicitDefEqProofs (disch := omega) only [go_sem])
 all_goals first | exact absurd trivial ‹¬True› | exact absurd ‹false = true› (by decide) | exact absurd ‹true = false› (by decide) | (exfalso; omega) | omega | skip
 refine loop_rows (α := Nat) (11 :: 12 :: 13 :: 14 :: 15 :: 16 :: [2, 10, 11, 12, 13, 14, 15, 16, 65, 66, 67, 68, 69, 70, 71, 72, 73, 74, 75, 76, 77, 78, 79, 80, 81, 82, 83, 84, 85, 86, 87, 88, 89, 90, 91, 92, 93, 94, 95, 96, 97, 98, 99, 100, 101, 102, 103, 104, 105, 106, 107, 108, 109, 110, 111, 112, 113, 114, 115, 116, 117, 118, 119, 120, 121, 122, 123, 124, 125, 126, 127, 128, 129, 130, 131, 132, 133, 134, 135, 136, 137, 138, 139, 140, 141, 142, 143, 144, 145, 146, 147, 148, 149, 150, 151, 152, 153, 154]) (fun k => [(10, .lit (.int .i64 k))]) (fun k => [(448, some ⟨2, [[.sl 2 (ls.map encGd) false, .sl 2 (rs.map encGd) false]], 38, .wr⟩), (512, some ⟨4, [[int g.sc, int g.ga, int g.we, int g.cu]], 26, .wr⟩)]) (fun k => k ≤ 2) (fun k => 2 - k) 0 (fun x => by simp (maxSteps := 1000000) -implicitDefEqProofs (disch := omega) only [go_sem]; rfl) ?_ ?_ fun x hx => ?_
 · exact weak_do3 []
 · exact Nat.zero_le _
 rename Nat => k
 by_cases hk0 : k = 0
 · subst hk0
   repeat' (first
     | (with_reducible apply Req_intro); focus (first | omega | assumption | (simp; done))
     | with_reducible (first | apply Req_intro | refine nilT ?_ fun hn => ?_ | apply wk_draw Tryd_mixed | refine drawEnd (by kernel_rfl) ?_)
     | (with_reducible (first | apply condA_if | apply stepDG_ifN | apply stepDG_if | apply stepG_ifN | apply stepG_if)) <;> intro hb <;> (have hif := hb) <;> (try simp only [bo] at hif) <;> (try simp -implicitDefEqProofs (disch := omega) only [go_sem, hb]) <;> clear hb
     | simp (maxSteps := 1000000) -implicitDefEqProofs (disch := omega) only [go_sem])
   all_goals first | exact absurd trivial ‹¬True› | exact absurd ‹false = true› (by decide) | exact absurd ‹true = false› (by decide) | (exfalso; omega) | omega | skip
   refine loop_rows (α := Nat) (12 :: 13 :: 14 :: 15 :: 16 :: [2, 11, 12, 13, 14, 15, 16, 69, 70, 71, 72, 73, 74, 75, 76, 77, 78, 79, 80, 81, 82, 83, 84, 85, 86, 87, 88, 89, 90, 91, 92, 93, 94, 95, 96, 97, 98, 99, 100, 101, 102, 103, 104, 105, 106, 107, 108, 109, 110, 111, 112, 113, 114, 115, 116, 117, 118, 119, 120, 121, 122, 123, 124, 125, 126, 127, 128, 129, 130, 131, 132, 133, 134, 135, 136, 137, 138, 139, 140, 141, 142, 143, 144, 145, 146, 147, 148, 149, 150, 151, 152, 153, 154]) (fun n => [(11, .lit (.int .i64 n))]) (fun n => [(448, some ⟨2, [[.sl 2 (ls.map encGd) false, .sl 2 (rs.map encGd) false]], 38, .wr⟩), (512, some ⟨4, [[int g.sc, int g.ga, int g.we, int g.cu]], 26, .wr⟩)]) (fun n => n ≤ ls.length) (fun n => ls.length - n) 0 (fun x => by simp (maxSteps := 1000000) -implicitDefEqProofs (disch := omega) only [go_sem]; rfl) ?_ ?_ fun x hx => ?_
   · exact weak_do3 []
   · exact Nat.zero_le _
   rename Nat => n
   by_cases hn : n < ls.length
   · have hw := hw1 n hn
     have hq := hq1 n hn
     have hnn := hn1 n hn
     have hs' := hs1 n hn
     have hh := hh1 n hn
     generalize mostR (withoutR (tableR g ls rs 2) (2 ^ n) 0) = W at *
     generalize pairsR (tableR g (ls.eraseIdx n) rs 2) = QR at *
     have hA0 := pairedL_zero PR n
     have hAs := fun i hi => pairedL_succ (l := PR) (n := n) (i := i) hi
     generalize pairedL PR n = A at *
     repeat' (first
       | (with_reducible apply Req_intro); focus (first | omega | assumption | (simp; done))
       | with_reducible (first | apply Req_intro | refine nilT ?_ fun hn => ?_ | apply wk_draw Tryd_mixed | refine drawEnd (by kernel_rfl) ?_)
       | (with_reducible (first | apply condA_if | apply stepDG_ifN | apply stepDG_if | apply stepG_ifN | apply stepG_if)) <;> intro hb <;> (have hif := hb) <;> (try simp only [bo] at hif) <;> (try simp -implicitDefEqProofs (disch := omega) only [go_sem, hb]) <;> clear hb
       | simp (maxSteps := 1000000) -implicitDefEqProofs (disch := omega) only [go_sem])
     all_goals first | exact absurd trivial ‹¬True› | exact absurd ‹false = true› (by decide) | exact absurd ‹true = false› (by decide) | (exfalso; omega) | omega | skip
     first | refine callp hw ?_ | refine calld hw ?_
     try simp (maxSteps := 1000000) -implicitDefEqProofs (disch := omega) only [go_sem]
     repeat' (first
       | (with_reducible apply Req_intro); focus (first | omega | assumption | (simp; done))
       | with_reducible (first | apply Req_intro | refine nilT ?_ fun hn => ?_ | apply wk_draw Tryd_mixed | refine drawEnd (by kernel_rfl) ?_)
       | (with_reducible (first | apply condA_if | apply stepDG_ifN | apply stepDG_if | apply stepG_ifN | apply stepG_if)) <;> intro hb <;> (have hif := hb) <;> (try simp only [bo] at hif) <;> (try simp -implicitDefEqProofs (disch := omega) only [go_sem, hb]) <;> clear hb
       | simp (maxSteps := 1000000) -implicitDefEqProofs (disch := omega) only [go_sem])
     all_goals first | exact absurd trivial ‹¬True› | exact absurd ‹false = true› (by decide) | exact absurd ‹true = false› (by decide) | (exfalso; omega) | omega | skip
     first | refine callp hq ?_ | refine calld hq ?_
     try simp (maxSteps := 1000000) -implicitDefEqProofs (disch := omega) only [go_sem]
     repeat' (first
       | (with_reducible apply Req_intro); focus (first | omega | assumption | (simp; done))
       | with_reducible (first | apply Req_intro | refine nilT ?_ fun hn => ?_ | apply wk_draw Tryd_mixed | refine drawEnd (by kernel_rfl) ?_)
       | (with_reducible (first | apply condA_if | apply stepDG_ifN | apply stepDG_if | apply stepG_ifN | apply stepG_if)) <;> intro hb <;> (have hif := hb) <;> (try simp only [bo] at hif) <;> (try simp -implicitDefEqProofs (disch := omega) only [go_sem, hb]) <;> clear hb
       | simp (maxSteps := 1000000) -implicitDefEqProofs (disch := omega) only [go_sem])
     all_goals first | exact absurd trivial ‹¬True› | exact absurd ‹false = true› (by decide) | exact absurd ‹true = false› (by decide) | (exfalso; omega) | omega | skip
     first | refine callp hh ?_ | refine calld hh ?_
     try simp (maxSteps := 1000000) -implicitDefEqProofs (disch := omega) only [go_sem]
     repeat' (first
       | (with_reducible apply Req_intro); focus (first | omega | assumption | (simp; done))
       | with_reducible (first | apply Req_intro | refine nilT ?_ fun hn => ?_ | apply wk_draw Tryd_mixed | refine drawEnd (by kernel_rfl) ?_)
       | (with_reducible (first | apply condA_if | apply stepDG_ifN | apply stepDG_if | apply stepG_ifN | apply stepG_if)) <;> intro hb <;> (have hif := hb) <;> (try simp only [bo] at hif) <;> (try simp -implicitDefEqProofs (disch := omega) only [go_sem, hb]) <;> clear hb
       | simp (maxSteps := 1000000) -implicitDefEqProofs (disch := omega) only [go_sem])
     all_goals first | exact absurd trivial ‹¬True› | exact absurd ‹false = true› (by decide) | exact absurd ‹true = false› (by decide) | (exfalso; omega) | omega | skip
     refine loop_rows (α := Nat) ([15, 16, 99, 100, 101, 102, 103, 104, 105, 106, 107, 108, 109, 110, 111, 112, 113, 114, 115, 116, 117, 118, 119, 120, 121, 122]) (fun i => [(16, .lit (.int .i64 i)), (15, .lit (.bool (A i)))]) (fun i => [(448, some ⟨2, [[.sl 2 (ls.map encGd) false, .sl 2 (rs.map encGd) false]], 38, .wr⟩), (512, some ⟨4, [[int g.sc, int g.ga, int g.we, int g.cu]], 26, .wr⟩)]) (fun i => i ≤ PR.length) (fun i => PR.length - i) 0 (fun x => by simp (maxSteps := 1000000) -implicitDefEqProofs (disch := omega) only [go_sem]; rfl) ?_ ?_ fun x hx => ?_
     · rw [hA0]
       exact weak_do3 []
     · exact Nat.zero_le _
     rename Nat => i
     by_cases hi : i < PR.length
     · have hAi := hAs i hi
       obtain ⟨pa, hpa⟩ : ∃ pa, (PR.getD i default).1 = pa := ⟨_, rfl⟩
       obtain ⟨pb, hpb⟩ : ∃ pb, (PR.getD i default).2 = pb := ⟨_, rfl⟩
       rw [hpa] at hAi
       cases hAa : A i with
       | true =>
         rw [hAa, Bool.true_or] at hAi
         try simp (maxSteps := 1000000) -implicitDefEqProofs (disch := omega) only [go_sem]
         repeat' (first
           | (with_reducible apply Req_intro); focus (first | omega | assumption | (simp; done))
           | with_reducible (first | apply Req_intro | refine nilT ?_ fun hn => ?_ | apply wk_draw Tryd_mixed | refine drawEnd (by kernel_rfl) ?_)
           | (with_reducible (first | apply condA_if | apply stepDG_ifN | apply stepDG_if | apply stepG_ifN | apply stepG_if)) <;> intro hb <;> (have hif := hb) <;> (try simp only [bo] at hif) <;> (try simp -implicitDefEqProofs (disch := omega) only [go_sem, hb]) <;> clear hb
           | simp (maxSteps := 1000000) -implicitDefEqProofs (disch := omega) only [go_sem])
         all_goals first | exact absurd trivial ‹¬True› | exact absurd ‹false = true› (by decide) | exact absurd ‹true = false› (by decide) | (exfalso; omega) | omega | skip
         with_reducible refine nxt_w (i + 1) ?_ ?_
         · (try dsimp only)
           rw [hAi]
           exact weak_do3 []
         try dsimp only
         omega
       | false =>
         rw [hAa, Bool.false_or] at hAi
         try simp (maxSteps := 1000000) -implicitDefEqProofs (disch := omega) only [go_sem]
         by_cases hpn : pa = n
         · rw [beq_iff_eq.2 hpn] at hAi
           repeat' (first
             | (with_reducible apply Req_intro); focus (first | omega | assumption | (simp; done))
             | with_reducible (first | apply Req_intro | refine nilT ?_ fun hn => ?_ | apply wk_draw Tryd_mixed | refine drawEnd (by kernel_rfl) ?_)
             | (with_reducible (first | apply condA_if | apply stepDG_ifN | apply stepDG_if | apply stepG_ifN | apply stepG_if)) <;> intro hb <;> (have hif := hb) <;> (try simp only [bo] at hif) <;> (try simp -implicitDefEqProofs (disch := omega) only [go_sem, hb, hpa, hpb]) <;> clear hb
             | simp (maxSteps := 1000000) -implicitDefEqProofs (disch := omega) only [go_sem, hpa, hpb])
           all_goals first | exact absurd trivial ‹¬True› | exact absurd ‹false = true› (by decide) | exact absurd ‹true = false› (by decide) | (exfalso; omega) | omega | skip
           with_reducible refine nxt_w (i + 1) ?_ ?_
           · (try dsimp only)
             rw [hAi]
             exact weak_do3 []
           try dsimp only
           omega
         · rw [beq_eq_false_iff_ne.2 hpn] at hAi
           repeat' (first
             | (with_reducible apply Req_intro); focus (first | omega | assumption | (simp; done))
             | with_reducible (first | apply Req_intro | refine nilT ?_ fun hn => ?_ | apply wk_draw Tryd_mixed | refine drawEnd (by kernel_rfl) ?_)
             | (with_reducible (first | apply condA_if | apply stepDG_ifN | apply stepDG_if | apply stepG_ifN | apply stepG_if)) <;> intro hb <;> (have hif := hb) <;> (try simp only [bo] at hif) <;> (try simp -implicitDefEqProofs (disch := omega) only [go_sem, hb, hpa, hpb]) <;> clear hb
             | simp (maxSteps := 1000000) -implicitDefEqProofs (disch := omega) only [go_sem, hpa, hpb])
           all_goals first | exact absurd trivial ‹¬True› | exact absurd ‹false = true› (by decide) | exact absurd ‹true = false› (by decide) | (exfalso; omega) | omega | skip
           with_reducible refine nxt_w (i + 1) ?_ ?_
           · (try dsimp only)
             rw [hAi]
             exact weak_do3 []
           try dsimp only
           omega
     · obtain rfl : i = PR.length := by omega
       obtain ⟨hs1', hs2', hs3'⟩ := hs'
       by_cases hWM : W = PR.length
       · have hbq : (W == PR.length) = true := by rw [hWM]; exact beq_self_eq_true _
         rw [hbq]
         cases hAa : A PR.length <;> (
           try simp (maxSteps := 1000000) -implicitDefEqProofs (disch := omega) only [go_sem]
           repeat' (first
             | (with_reducible apply Req_intro); focus (first | omega | assumption | (simp; done))
             | with_reducible (first | apply Req_intro | refine nilT ?_ fun hn => ?_ | apply wk_draw Tryd_mixed | refine drawEnd (by kernel_rfl) ?_)
             | (with_reducible (first | apply condA_if | apply stepDG_ifN | apply stepDG_if | apply stepG_ifN | apply stepG_if)) <;> intro hb <;> (have hif := hb) <;> (try simp only [bo] at hif) <;> (try simp -implicitDefEqProofs (disch := omega) only [go_sem, hb]) <;> clear hb
             | simp (maxSteps := 1000000) -implicitDefEqProofs (disch := omega) only [go_sem])
           all_goals first | exact absurd trivial ‹¬True› | exact absurd ‹false = true› (by decide) | exact absurd ‹true = false› (by decide) | (exfalso; omega) | omega | skip
           with_reducible refine nxt_w (n + 1) ?_ ?_
           · (try dsimp only)
             skip
             exact weak_do3 []
           try dsimp only
           omega)
       · have hbq : (W == PR.length) = false := beq_eq_false_iff_ne.2 hWM
         rw [hbq]
         cases hAa : A PR.length with
         | false => exact absurd (hs3' hAa) hWM
         | true =>
           try simp (maxSteps := 1000000) -implicitDefEqProofs (disch := omega) only [go_sem]
           repeat' (first
             | (with_reducible apply Req_intro); focus (first | omega | assumption | (simp; done))
             | with_reducible (first | apply Req_intro | refine nilT ?_ fun hn => ?_ | apply wk_draw Tryd_mixed | refine drawEnd (by kernel_rfl) ?_)
             | (with_reducible (first | apply condA_if | apply stepDG_ifN | apply stepDG_if | apply stepG_ifN | apply stepG_if)) <;> intro hb <;> (have hif := hb) <;> (try simp only [bo] at hif) <;> (try simp -implicitDefEqProofs (disch := omega) only [go_sem, hb]) <;> clear hb
             | simp (maxSteps := 1000000) -implicitDefEqProofs (disch := omega) only [go_sem])
           all_goals first | exact absurd trivial ‹¬True› | exact absurd ‹false = true› (by decide) | exact absurd ‹true = false› (by decide) | (exfalso; omega) | omega | skip
           with_reducible refine nxt_w (n + 1) ?_ ?_
           · (try dsimp only)
             skip
             exact weak_do3 []
           try dsimp only
           omega
   · repeat' (first
       | (with_reducible apply Req_intro); focus (first | omega | assumption | (simp; done))
       | with_reducible (first | apply Req_intro | refine nilT ?_ fun hn => ?_ | apply wk_draw Tryd_mixed | refine drawEnd (by kernel_rfl) ?_)
       | (with_reducible (first | apply condA_if | apply stepDG_ifN | apply stepDG_if | apply stepG_ifN | apply stepG_if)) <;> intro hb <;> (have hif := hb) <;> (try simp only [bo] at hif) <;> (try simp -implicitDefEqProofs (disch := omega) only [go_sem, hb]) <;> clear hb
       | simp (maxSteps := 1000000) -implicitDefEqProofs (disch := omega) only [go_sem])
     all_goals first | exact absurd trivial ‹¬True› | exact absurd ‹false = true› (by decide) | exact absurd ‹true = false› (by decide) | (exfalso; omega) | omega | skip
     with_reducible refine nxt_w (0 + 1) ?_ ?_
     · (try dsimp only)
       skip
       exact weak_do3 []
     try dsimp only
     omega
 · by_cases hk1 : k = 1
   · subst hk1
     repeat' (first
       | (with_reducible apply Req_intro); focus (first | omega | assumption | (simp; done))
       | with_reducible (first | apply Req_intro | refine nilT ?_ fun hn => ?_ | apply wk_draw Tryd_mixed | refine drawEnd (by kernel_rfl) ?_)
       | (with_reducible (first | apply condA_if | apply stepDG_ifN | apply stepDG_if | apply stepG_ifN | apply stepG_if)) <;> intro hb <;> (have hif := hb) <;> (try simp only [bo] at hif) <;> (try simp -implicitDefEqProofs (disch := omega) only [go_sem, hb]) <;> clear hb
       | simp (maxSteps := 1000000) -implicitDefEqProofs (disch := omega) only [go_sem])
     all_goals first | exact absurd trivial ‹¬True› | exact absurd ‹false = true› (by decide) | exact absurd ‹true = false› (by decide) | (exfalso; omega) | omega | skip
     refine loop_rows (α := Nat) (12 :: 13 :: 14 :: 15 :: 16 :: [2, 11, 12, 13, 14, 15, 16, 69, 70, 71, 72, 73, 74, 75, 76, 77, 78, 79, 80, 81, 82, 83, 84, 85, 86, 87, 88, 89, 90, 91, 92, 93, 94, 95, 96, 97, 98, 99, 100, 101, 102, 103, 104, 105, 106, 107, 108, 109, 110, 111, 112, 113, 114, 115, 116, 117, 118, 119, 120, 121, 122, 123, 124, 125, 126, 127, 128, 129, 130, 131, 132, 133, 134, 135, 136, 137, 138, 139, 140, 141, 142, 143, 144, 145, 146, 147, 148, 149, 150, 151, 152, 153, 154]) (fun n => [(11, .lit (.int .i64 n))]) (fun n => [(448, some ⟨2, [[.sl 2 (ls.map encGd) false, .sl 2 (rs.map encGd) false]], 38, .wr⟩), (512, some ⟨4, [[int g.sc, int g.ga, int g.we, int g.cu]], 26, .wr⟩)]) (fun n => n ≤ rs.length) (fun n => rs.length - n) 0 (fun x => by simp (maxSteps := 1000000) -implicitDefEqProofs (disch := omega) only [go_sem]; rfl) ?_ ?_ fun x hx => ?_
     · exact weak_do3 []
     · exact Nat.zero_le _
     rename Nat => n
     by_cases hn : n < rs.length
     · have hw := hw2 n hn
       have hq := hq2 n hn
       have hnn := hn2 n hn
       have hs' := hs2 n
       have hh := hh2 n hn
       generalize mostR (withoutR (tableR g ls rs 2) 0 (2 ^ n)) = W at *
       generalize pairsR (tableR g ls (rs.eraseIdx n) 2) = QR at *
       have hA0 := pairedR_zero PR n
       have hAs := fun i hi => pairedR_succ (l := PR) (n := n) (i := i) hi
       generalize pairedR PR n = A at *
       repeat' (first
         | (with_reducible apply Req_intro); focus (first | omega | assumption | (simp; done))
         | with_reducible (first | apply Req_intro | refine nilT ?_ fun hn => ?_ | apply wk_draw Tryd_mixed | refine drawEnd (by kernel_rfl) ?_)
         | (with_reducible (first | apply condA_if | apply stepDG_ifN | apply stepDG_if | apply stepG_ifN | apply stepG_if)) <;> intro hb <;> (have hif := hb) <;> (try simp only [bo] at hif) <;> (try simp -implicitDefEqProofs (disch := omega) only [go_sem, hb]) <;> clear hb
         | simp (maxSteps := 1000000) -implicitDefEqProofs (disch := omega) only [go_sem])
       all_goals first | exact absurd trivial ‹¬True› | exact absurd ‹false = true› (by decide) | exact absurd ‹true = false› (by decide) | (exfalso; omega) | omega | skip
       first | refine callp hw ?_ | refine calld hw ?_
       try simp (maxSteps := 1000000) -implicitDefEqProofs (disch := omega) only [go_sem]
       repeat' (first
         | (with_reducible apply Req_intro); focus (first | omega | assumption | (simp; done))
         | with_reducible (first | apply Req_intro | refine nilT ?_ fun hn => ?_ | apply wk_draw Tryd_mixed | refine drawEnd (by kernel_rfl) ?_)
         | (with_reducible (first | apply condA_if | apply stepDG_ifN | apply stepDG_if | apply stepG_ifN | apply stepG_if)) <;> intro hb <;> (have hif := hb) <;> (try simp only [bo] at hif) <;> (try simp -implicitDefEqProofs (disch := omega) only [go_sem, hb]) <;> clear hb
         | simp (maxSteps := 1000000) -implicitDefEqProofs (disch := omega) only [go_sem])
       all_goals first | exact absurd trivial ‹¬True› | exact absurd ‹false = true› (by decide) | exact absurd ‹true = false› (by decide) | (exfalso; omega) | omega | skip
       first | refine callp hq ?_ | refine calld hq ?_
       try simp (maxSteps := 1000000) -implicitDefEqProofs (disch := omega) only [go_sem]
       repeat' (first
         | (with_reducible apply Req_intro); focus (first | omega | assumption | (simp; done))
         | with_reducible (first | apply Req_intro | refine nilT ?_ fun hn => ?_ | apply wk_draw Tryd_mixed | refine drawEnd (by kernel_rfl) ?_)
         | (with_reducible (first | apply condA_if | apply stepDG_ifN | apply stepDG_if | apply stepG_ifN | apply stepG_if)) <;> intro hb <;> (have hif := hb) <;> (try simp only [bo] at hif) <;> (try simp -implicitDefEqProofs (disch := omega) only [go_sem, hb]) <;> clear hb
         | simp (maxSteps := 1000000) -implicitDefEqProofs (disch := omega) only [go_sem])
       all_goals first | exact absurd trivial ‹¬True› | exact absurd ‹false = true› (by decide) | exact absurd ‹true = false› (by decide) | (exfalso; omega) | omega | skip
       first | refine callp hh ?_ | refine calld hh ?_
       try simp (maxSteps := 1000000) -implicitDefEqProofs (disch := omega) only [go_sem]
       repeat' (first
         | (with_reducible apply Req_intro); focus (first | omega | assumption | (simp; done))
         | with_reducible (first | apply Req_intro | refine nilT ?_ fun hn => ?_ | apply wk_draw Tryd_mixed | refine drawEnd (by kernel_rfl) ?_)
         | (with_reducible (first | apply condA_if | apply stepDG_ifN | apply stepDG_if | apply stepG_ifN | apply stepG_if)) <;> intro hb <;> (have hif := hb) <;> (try simp only [bo] at hif) <;> (try simp -implicitDefEqProofs (disch := omega) only [go_sem, hb]) <;> clear hb
         | simp (maxSteps := 1000000) -implicitDefEqProofs (disch := omega) only [go_sem])
       all_goals first | exact absurd trivial ‹¬True› | exact absurd ‹false = true› (by decide) | exact absurd ‹true = false› (by decide) | (exfalso; omega) | omega | skip
       refine loop_rows (α := Nat) ([15, 16, 99, 100, 101, 102, 103, 104, 105, 106, 107, 108, 109, 110, 111, 112, 113, 114, 115, 116, 117, 118, 119, 120, 121, 122]) (fun i => [(16, .lit (.int .i64 i)), (15, .lit (.bool (A i)))]) (fun i => [(448, some ⟨2, [[.sl 2 (ls.map encGd) false, .sl 2 (rs.map encGd) false]], 38, .wr⟩), (512, some ⟨4, [[int g.sc, int g.ga, int g.we, int g.cu]], 26, .wr⟩)]) (fun i => i ≤ PR.length) (fun i => PR.length - i) 0 (fun x => by simp (maxSteps := 1000000) -implicitDefEqProofs (disch := omega) only [go_sem]; rfl) ?_ ?_ fun x hx => ?_
       · rw [hA0]
         exact weak_do3 []
       · exact Nat.zero_le _
       rename Nat => i
       by_cases hi : i < PR.length
       · have hAi := hAs i hi
         obtain ⟨pa, hpa⟩ : ∃ pa, (PR.getD i default).1 = pa := ⟨_, rfl⟩
         obtain ⟨pb, hpb⟩ : ∃ pb, (PR.getD i default).2 = pb := ⟨_, rfl⟩
         rw [hpb] at hAi
         cases hAa : A i with
         | true =>
           rw [hAa, Bool.true_or] at hAi
           try simp (maxSteps := 1000000) -implicitDefEqProofs (disch := omega) only [go_sem]
           repeat' (first
             | (with_reducible apply Req_intro); focus (first | omega | assumption | (simp; done))
             | with_reducible (first | apply Req_intro | refine nilT ?_ fun hn => ?_ | apply wk_draw Tryd_mixed | refine drawEnd (by kernel_rfl) ?_)
             | (with_reducible (first | apply condA_if | apply stepDG_ifN | apply stepDG_if | apply stepG_ifN | apply stepG_if)) <;> intro hb <;> (have hif := hb) <;> (try simp only [bo] at hif) <;> (try simp -implicitDefEqProofs (disch := omega) only [go_sem, hb]) <;> clear hb
             | simp (maxSteps := 1000000) -implicitDefEqProofs (disch := omega) only [go_sem])
           all_goals first | exact absurd trivial ‹¬True› | exact absurd ‹false = true› (by decide) | exact absurd ‹true = false› (by decide) | (exfalso; omega) | omega | skip
           with_reducible refine nxt_w (i + 1) ?_ ?_
           · (try dsimp only)
             rw [hAi]
             exact weak_do3 []
           try dsimp only
           omega
         | false =>
           rw [hAa, Bool.false_or] at hAi
           try simp (maxSteps := 1000000) -implicitDefEqProofs (disch := omega) only [go_sem]
           by_cases hpn : pb = n
           · rw [beq_iff_eq.2 hpn] at hAi
             repeat' (first
               | (with_reducible apply Req_intro); focus (first | omega | assumption | (simp; done))
               | with_reducible (first | apply Req_intro | refine nilT ?_ fun hn => ?_ | apply wk_draw Tryd_mixed | refine drawEnd (by kernel_rfl) ?_)
               | (with_reducible (first | apply condA_if | apply stepDG_ifN | apply stepDG_if | apply stepG_ifN | apply stepG_if)) <;> intro hb <;> (have hif := hb) <;> (try simp only [bo] at hif) <;> (try simp -implicitDefEqProofs (disch := omega) only [go_sem, hb, hpa, hpb]) <;> clear hb
               | simp (maxSteps := 1000000) -implicitDefEqProofs (disch := omega) only [go_sem, hpa, hpb])
             all_goals first | exact absurd trivial ‹¬True› | exact absurd ‹false = true› (by decide) | exact absurd ‹true = false› (by decide) | (exfalso; omega) | omega | skip
             with_reducible refine nxt_w (i + 1) ?_ ?_
             · (try dsimp only)
               rw [hAi]
               exact weak_do3 []
             try dsimp only
             omega
           · rw [beq_eq_false_iff_ne.2 hpn] at hAi
             repeat' (first
               | (with_reducible apply Req_intro); focus (first | omega | assumption | (simp; done))
               | with_reducible (first | apply Req_intro | refine nilT ?_ fun hn => ?_ | apply wk_draw Tryd_mixed | refine drawEnd (by kernel_rfl) ?_)
               | (with_reducible (first | apply condA_if | apply stepDG_ifN | apply stepDG_if | apply stepG_ifN | apply stepG_if)) <;> intro hb <;> (have hif := hb) <;> (try simp only [bo] at hif) <;> (try simp -implicitDefEqProofs (disch := omega) only [go_sem, hb, hpa, hpb]) <;> clear hb
               | simp (maxSteps := 1000000) -implicitDefEqProofs (disch := omega) only [go_sem, hpa, hpb])
             all_goals first | exact absurd trivial ‹¬True› | exact absurd ‹false = true› (by decide) | exact absurd ‹true = false› (by decide) | (exfalso; omega) | omega | skip
             with_reducible refine nxt_w (i + 1) ?_ ?_
             · (try dsimp only)
               rw [hAi]
               exact weak_do3 []
             try dsimp only
             omega
       · obtain rfl : i = PR.length := by omega
         obtain ⟨hs1', hs2', hs3'⟩ := hs'
         by_cases hWM : W = PR.length
         · have hbq : (W == PR.length) = true := by rw [hWM]; exact beq_self_eq_true _
           rw [hbq]
           cases hAa : A PR.length <;> (
             try simp (maxSteps := 1000000) -implicitDefEqProofs (disch := omega) only [go_sem]
             repeat' (first
               | (with_reducible apply Req_intro); focus (first | omega | assumption | (simp; done))
               | with_reducible (first | apply Req_intro | refine nilT ?_ fun hn => ?_ | apply wk_draw Tryd_mixed | refine drawEnd (by kernel_rfl) ?_)
               | (with_reducible (first | apply condA_if | apply stepDG_ifN | apply stepDG_if | apply stepG_ifN | apply stepG_if)) <;> intro hb <;> (have hif := hb) <;> (try simp only [bo] at hif) <;> (try simp -implicitDefEqProofs (disch := omega) only [go_sem, hb]) <;> clear hb
               | simp (maxSteps := 1000000) -implicitDefEqProofs (disch := omega) only [go_sem])
             all_goals first | exact absurd trivial ‹¬True› | exact absurd ‹false = true› (by decide) | exact absurd ‹true = false› (by decide) | (exfalso; omega) | omega | skip
             with_reducible refine nxt_w (n + 1) ?_ ?_
             · (try dsimp only)
               skip
               exact weak_do3 []
             try dsimp only
             omega)
         · have hbq : (W == PR.length) = false := beq_eq_false_iff_ne.2 hWM
           rw [hbq]
           cases hAa : A PR.length with
           | false => exact absurd (hs3' hAa) hWM
           | true =>
             try simp (maxSteps := 1000000) -implicitDefEqProofs (disch := omega) only [go_sem]
             repeat' (first
               | (with_reducible apply Req_intro); focus (first | omega | assumption | (simp; done))
               | with_reducible (first | apply Req_intro | refine nilT ?_ fun hn => ?_ | apply wk_draw Tryd_mixed | refine drawEnd (by kernel_rfl) ?_)
               | (with_reducible (first | apply condA_if | apply stepDG_ifN | apply stepDG_if | apply stepG_ifN | apply stepG_if)) <;> intro hb <;> (have hif := hb) <;> (try simp only [bo] at hif) <;> (try simp -implicitDefEqProofs (disch := omega) only [go_sem, hb]) <;> clear hb
               | simp (maxSteps := 1000000) -implicitDefEqProofs (disch := omega) only [go_sem])
             all_goals first | exact absurd trivial ‹¬True› | exact absurd ‹false = true› (by decide) | exact absurd ‹true = false› (by decide) | (exfalso; omega) | omega | skip
             with_reducible refine nxt_w (n + 1) ?_ ?_
             · (try dsimp only)
               skip
               exact weak_do3 []
             try dsimp only
             omega
     · repeat' (first
         | (with_reducible apply Req_intro); focus (first | omega | assumption | (simp; done))
         | with_reducible (first | apply Req_intro | refine nilT ?_ fun hn => ?_ | apply wk_draw Tryd_mixed | refine drawEnd (by kernel_rfl) ?_)
         | (with_reducible (first | apply condA_if | apply stepDG_ifN | apply stepDG_if | apply stepG_ifN | apply stepG_if)) <;> intro hb <;> (have hif := hb) <;> (try simp only [bo] at hif) <;> (try simp -implicitDefEqProofs (disch := omega) only [go_sem, hb]) <;> clear hb
         | simp (maxSteps := 1000000) -implicitDefEqProofs (disch := omega) only [go_sem])
       all_goals first | exact absurd trivial ‹¬True› | exact absurd ‹false = true› (by decide) | exact absurd ‹true = false› (by decide) | (exfalso; omega) | omega | skip
       with_reducible refine nxt_w (1 + 1) ?_ ?_
       · (try dsimp only)
         skip
         exact weak_do3 []
       try dsimp only
       omega
   · obtain rfl : k = 2 := by omega
     repeat' (first
       | (with_reducible apply Req_intro); focus (first | omega | assumption | (simp; done))
       | with_reducible (first | apply Req_intro | refine nilT ?_ fun hn => ?_ | apply wk_draw Tryd_mixed | refine drawEnd (by kernel_rfl) ?_)
       | (with_reducible (first | apply condA_if | apply stepDG_ifN | apply stepDG_if | apply stepG_ifN | apply stepG_if)) <;> intro hb <;> (have hif := hb) <;> (try simp only [bo] at hif) <;> (try simp -implicitDefEqProofs (disch := omega) only [go_sem, hb]) <;> clear hb
       | simp (maxSteps := 1000000) -implicitDefEqProofs (disch := omega) only [go_sem])
     all_goals first | exact absurd trivial ‹¬True› | exact absurd ‹false = true› (by decide) | exact absurd ‹true = false› (by decide) | (exfalso; omega) | omega | skip
     refine callp gknown_spec ?_
     try simp (maxSteps := 1000000) -implicitDefEqProofs (disch := omega) only [go_sem]
     repeat' (first
       | (with_reducible apply Req_intro); focus (first | omega | assumption | (simp; done))
       | with_reducible (first | apply Req_intro | refine nilT ?_ fun hn => ?_ | apply wk_draw Tryd_mixed | refine drawEnd (by kernel_rfl) ?_)
       | (with_reducible (first | apply condA_if | apply stepDG_ifN | apply stepDG_if | apply stepG_ifN | apply stepG_if)) <;> intro hb <;> (have hif := hb) <;> (try simp only [bo] at hif) <;> (try simp -implicitDefEqProofs (disch := omega) only [go_sem, hb]) <;> clear hb
       | simp (maxSteps := 1000000) -implicitDefEqProofs (disch := omega) only [go_sem])
     all_goals first | exact absurd trivial ‹¬True› | exact absurd ‹false = true› (by decide) | exact absurd ‹true = false› (by decide) | (exfalso; omega) | omega | skip
     refine ret_do ?_
     rfl
end Go.Aw
end
