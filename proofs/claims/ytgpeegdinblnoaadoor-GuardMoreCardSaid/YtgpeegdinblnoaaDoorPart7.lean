/-
  A part of the proof that a law returns true for every input that the given row speaks of: an own verified walk over the program (namespace Go.Aw), contracts of the functions that the law calls, and the law itself. Conditions: those of the given row, no other.
-/
import Derived.Test.YtgpeegdinblnoaaDoorPart6
set_option linter.unusedVariables false
set_option linter.unusedSimpArgs false
section
set_option maxRecDepth 20000
set_option maxHeartbeats 4000000
namespace Go.Aw
open Go.RowKit Go.Proofs
@[go_sem] theorem und_bool12 : Tryd.prog.underlying 4 = some .bool := Tryd.underlying4
theorem hsc0 {a v : Int} (ha : 0 ≤ a) (hv : 0 ≤ v ∧ v ≤ 255) : a * v / 255 ≤ a := by
 have : a * v ≤ a * 255 := Int.mul_le_mul_of_nonneg_left hv.2 ha
 omega
theorem GuardMore_spec (x : Chst) (h : x.ok) (v0 v1 v2 v3 : Int) (b0 : okY v0) (b1 : okY v1) (b2 : okY v2) (b3 : okY v3) : Ct Tryd.prog 14 [.agg (chC x), .agg [uy v0, uy v1, uy v2, uy v3]] (.lit (.bool true)) := by
 obtain ⟨_, hm1, hm2⟩ := chM_is h
 have hmade := made_spec x h
 have hfl := chL_fine h.l hm2
 have hfr := chL_fine h.r hm2
 have hgg := chG_ok h
 have hwe : (chG x).we ≤ 255 := h.g2.2
 have hl8 : (chL x.l (chM x)).length ≤ 8 := by rw [chL_len]; omega
 have hr8 : (chL x.r (chM x)).length ≤ 8 := by rw [chL_len]; omega
 generalize chL x.l (chM x) = ls at *
 generalize chL x.r (chM x) = rs at *
 generalize chG x = g at *
 generalize chM x = m at *
 have h0 := check_fine hm1 (by omega) hl8 hr8 hfl hfr hgg
 have hst : StOk ls rs := ⟨by omega, by omega, fun x hx => by have := (hfl x hx).len; omega, fun x hx => by have := (hfr x hx).len; omega⟩
 have hown := own_spec ls rs false false hst
 have hp := Pairs_ok g ls rs false false hst h0
 refine fn_enter Tryd.func14 rfl (by decide) Tryd.results14 Tryd.ntmps14 ?_ rfl (by simp (maxSteps := 1000000) -implicitDefEqProofs (disch := omega) only [go_sem]; rfl) fun base => ?_
 · first | assumption | (simp only [go_sem] <;> assumption) | (simp only [go_sem, *]; done) | (simp [go_sem]; done)
 repeat' (first
   | (with_reducible apply Req_intro); focus (first | omega | assumption | (simp; done))
   | with_reducible (first | apply Req_intro | refine nilT ?_ fun hn => ?_ | apply wk_draw Tryd_mixed | refine drawEnd (by kernel_rfl) ?_)
   | (with_reducible (first | apply condA_if | apply stepDG_ifN | apply stepDG_if | apply stepG_ifN | apply stepG_if)) <;> intro hb <;> (have hif := hb) <;> (try simp only [bo] at hif) <;> (try simp -implicitDefEqProofs (disch := omega) only [go_sem, hb]) <;> clear hb
   | simp (maxSteps := 1000000) -implicitDefEqProofs (disch := omega) only [go_sem])
 first | refine callp hmade ?_ | refine calld hmade ?_
 try simp (maxSteps := 1000000) -implicitDefEqProofs (disch := omega) only [go_sem]
 repeat' (first
   | (with_reducible apply Req_intro); focus (first | omega | assumption | (simp; done))
   | with_reducible (first | apply Req_intro | refine nilT ?_ fun hn => ?_ | apply wk_draw Tryd_mixed | refine drawEnd (by kernel_rfl) ?_)
   | (with_reducible (first | apply condA_if | apply stepDG_ifN | apply stepDG_if | apply stepG_ifN | apply stepG_if)) <;> intro hb <;> (have hif := hb) <;> (try simp only [bo] at hif) <;> (try simp -implicitDefEqProofs (disch := omega) only [go_sem, hb]) <;> clear hb
   | simp (maxSteps := 1000000) -implicitDefEqProofs (disch := omega) only [go_sem])
 all_goals first | exact absurd trivial ‹¬True› | exact absurd ‹false = true› (by decide) | exact absurd ‹true = false› (by decide) | (exfalso; omega) | omega | skip
 first | refine callp hown ?_ | refine calld hown ?_
 try simp (maxSteps := 1000000) -implicitDefEqProofs (disch := omega) only [go_sem]
 repeat' (first
   | (with_reducible apply Req_intro); focus (first | omega | assumption | (simp; done))
   | with_reducible (first | apply Req_intro | refine nilT ?_ fun hn => ?_ | apply wk_draw Tryd_mixed | refine drawEnd (by kernel_rfl) ?_)
   | (with_reducible (first | apply condA_if | apply stepDG_ifN | apply stepDG_if | apply stepG_ifN | apply stepG_if)) <;> intro hb <;> (have hif := hb) <;> (try simp only [bo] at hif) <;> (try simp -implicitDefEqProofs (disch := omega) only [go_sem, hb]) <;> clear hb
   | simp (maxSteps := 1000000) -implicitDefEqProofs (disch := omega) only [go_sem])
 all_goals first | exact absurd trivial ‹¬True› | exact absurd ‹false = true› (by decide) | exact absurd ‹true = false› (by decide) | (exfalso; omega) | omega | skip
 first | refine callp hp ?_ | refine calld hp ?_
 try simp (maxSteps := 1000000) -implicitDefEqProofs (disch := omega) only [go_sem]
 have hgi : (0 ≤ g.sc ∧ g.sc ≤ 100) ∧ (0 ≤ g.ga ∧ g.ga ≤ 100) ∧ (0 ≤ g.we ∧ g.we ≤ 10000) ∧ 0 ≤ g.cu ∧ g.cu ≤ 500 := by
   simpa [gaugeR, inR', and_assoc] using hgg
 obtain ⟨hg1, hg2, hg3, hg4⟩ := hgi
 unfold okY at b0 b1 b2 b3
 have hx0 : 0 ≤ g.sc * v0 ∧ g.sc * v0 ≤ 100 * 255 := ⟨Int.mul_nonneg hg1.1 b0.1, Int.mul_le_mul hg1.2 b0.2 b0.1 (by decide)⟩
 have hx1 : 0 ≤ g.ga * v1 ∧ g.ga * v1 ≤ 100 * 255 := ⟨Int.mul_nonneg hg2.1 b1.1, Int.mul_le_mul hg2.2 b1.2 b1.1 (by decide)⟩
 repeat' (first
   | (with_reducible apply Req_intro); focus (first | omega | assumption | (simp; done))
   | with_reducible (first | apply Req_intro | refine nilT ?_ fun hn => ?_ | apply wk_draw Tryd_mixed | refine drawEnd (by kernel_rfl) ?_)
   | (with_reducible (first | apply condA_if | apply stepDG_ifN | apply stepDG_if | apply stepG_ifN | apply stepG_if)) <;> intro hb <;> (have hif := hb) <;> (try simp only [bo] at hif) <;> (try simp -implicitDefEqProofs (disch := omega) only [go_sem, hb]) <;> clear hb
   | simp (maxSteps := 1000000) -implicitDefEqProofs (disch := omega) only [go_sem])
 all_goals first | exact absurd trivial ‹¬True› | exact absurd ‹false = true› (by decide) | exact absurd ‹true = false› (by decide) | (exfalso; omega) | omega | skip
 have hgb : gaugeR ⟨g.sc * v0 / 255, g.ga * v1 / 255, g.we, g.cu⟩ = true := by
   simp only [gaugeR, inR', Bool.and_eq_true, decide_eq_true_eq]; omega
 have hgl : gaugeR ⟨g.sc, g.ga, g.we + v2, min 500 (g.cu + v3)⟩ = true := by
   simp only [gaugeR, inR', Bool.and_eq_true, decide_eq_true_eq]; omega
 obtain ⟨_, _, _, hb4⟩ := pairs_bnd (g := g) (ls := ls) (rs := rs) (k := 2) (by omega)
 have hw1 : ∀ n, n < ls.length → Ct Tryd.prog 54 [encSt ls rs false false, .lit (.bool false), int n] (encSt (ls.eraseIdx n) rs false false) := fun n hn => without_L ls rs false false n hst hn
 have hq1 : ∀ n, n < ls.length → Ct Tryd.prog 26 [encSt (ls.eraseIdx n) rs false false, encGa g] (.tup [.sl 2 ((pairsR (tableR g (ls.eraseIdx n) rs 2)).map encP) false, int 0]) := fun n hn => by
   have hfl' : ∀ x ∈ ls.eraseIdx n, Fine m x := fun x hx => hfl x (List.mem_of_mem_eraseIdx hx)
   have hl' : (ls.eraseIdx n).length ≤ 8 := by rw [List.length_eraseIdx_of_lt hn]; omega
   exact Pairs_ok g _ rs false false ⟨by omega, by omega, fun x hx => by have := (hfl' x hx).len; omega, fun x hx => by have := (hfr x hx).len; omega⟩ (check_fine hm1 (by omega) hl' hr8 hfl' hfr hgg)
 have hn1 : ∀ n, n < ls.length → (pairsR (tableR g (ls.eraseIdx n) rs 2)).length = mostR (withoutR (tableR g ls rs 2) (2 ^ n) 0) := fun n hn => pairs_wol (by omega) hn
 have hs1 : ∀ n, n < ls.length → _ := fun n hn => spared_left (g := g) (ls := ls) (rs := rs) (by omega) hn
 have hQ : ∀ n, n < ls.length → (pairsR (tableR g ls rs 2)).length ≤ (pairsR (tableR g (ls.eraseIdx n) rs 2)).length + 1 ∧ (pairsR (tableR g (ls.eraseIdx n) rs 2)).length ≤ (pairsR (tableR g ls rs 2)).length := fun n hn => by
   obtain ⟨a, b, _⟩ := hs1 n hn
   have c := hn1 n hn
   omega
 have hmle := most_left_le (g := g) (ls := ls) (rs := rs) (k := 2) (by omega)
 have hct := Cut_ok g ls rs false false hst h0
 have hcs := cutTo_spec g ls rs (by omega) ls.length (Nat.le_refl _)
 have hlk := Look_ok g ls rs false false hst h0
 have hlo := lookR_ok (t := tableR g ls rs 2) (sure := tableR g ls rs 1) (tableR_few (by omega)) (tableR_few (by omega)) rs.length
 rw [tableR_len] at hlo
 generalize lookR (tableR g ls rs 2) (tableR g ls rs 1) rs.length = LK at *
 have htw := twins_spec g ls rs m hm1 (by omega) hl8 hr8 hfl hfr hgg
 have hnew := own_new ls rs false false hst
 rw [← hb4] at hmle
 have hpb := Pairs_ok ⟨g.sc * v0 / 255, g.ga * v1 / 255, g.we, g.cu⟩ ls rs false false hst (check_fine hm1 (by omega) hl8 hr8 hfl hfr hgb)
 have hpl := Pairs_ok ⟨g.sc, g.ga, g.we + v2, min 500 (g.cu + v3)⟩ ls rs false false hst (check_fine hm1 (by omega) hl8 hr8 hfl hfr hgl)
 have hmb := pairs_more (g := g) (h := ⟨g.sc * v0 / 255, g.ga * v1 / 255, g.we, g.cu⟩) (ls := ls) (rs := rs) (by omega) (hsc0 hg1.1 b0) (hsc0 hg2.1 b1) (Int.le_refl _) (Int.le_refl _)
 have hml := pairs_more (g := g) (h := ⟨g.sc, g.ga, g.we + v2, min 500 (g.cu + v3)⟩) (ls := ls) (rs := rs) (by omega) (Int.le_refl _) (Int.le_refl _) (by show g.we ≤ g.we + v2; omega) (by show g.cu ≤ min 500 (g.cu + v3); omega)
 generalize pairsR (tableR ⟨g.sc * v0 / 255, g.ga * v1 / 255, g.we, g.cu⟩ ls rs 2) = PB at *
 generalize pairsR (tableR ⟨g.sc, g.ga, g.we + v2, min 500 (g.cu + v3)⟩ ls rs 2) = PL at *
 generalize hPR : pairsR (tableR g ls rs 2) = PR at *
 first | refine callp hown ?_ | refine calld hown ?_
 try simp (maxSteps := 1000000) -implicitDefEqProofs (disch := omega) only [go_sem]
 repeat' (first
   | (with_reducible apply Req_intro); focus (first | omega | assumption | (simp; done))
   | with_reducible (first | apply Req_intro | refine nilT ?_ fun hn => ?_ | apply wk_draw Tryd_mixed | refine drawEnd (by kernel_rfl) ?_)
   | (with_reducible (first | apply condA_if | apply stepDG_ifN | apply stepDG_if | apply stepG_ifN | apply stepG_if)) <;> intro hb <;> (have hif := hb) <;> (try simp only [bo] at hif) <;> (try simp -implicitDefEqProofs (disch := omega) only [go_sem, hb]) <;> clear hb
   | simp (maxSteps := 1000000) -implicitDefEqProofs (disch := omega) only [go_sem])
 all_goals first | exact absurd trivial ‹¬True› | exact absurd ‹false = true› (by decide) | exact absurd ‹true = false› (by decide) | (exfalso; omega) | omega | skip
 first | refine callp hpb ?_ | refine calld hpb ?_
 try simp (maxSteps := 1000000) -implicitDefEqProofs (disch := omega) only [go_sem]
 repeat' (first
   | (with_reducible apply Req_intro); focus (first | omega | assumption | (simp; done))
   | with_reducible (first | apply Req_intro | refine nilT ?_ fun hn => ?_ | apply wk_draw Tryd_mixed | refine drawEnd (by kernel_rfl) ?_)
   | (with_reducible (first | apply condA_if | apply stepDG_ifN | apply stepDG_if | apply stepG_ifN | apply stepG_if)) <;> intro hb <;> (have hif := hb) <;> (try simp only [bo] at hif) <;> (try simp -implicitDefEqProofs (disch := omega) only [go_sem, hb]) <;> clear hb
   | simp (maxSteps := 1000000) -implicitDefEqProofs (disch := omega) only [go_sem])
 all_goals first | exact absurd trivial ‹¬True› | exact absurd ‹false = true› (by decide) | exact absurd ‹true = false› (by decide) | (exfalso; omega) | omega | skip
 first | refine callp hown ?_ | refine calld hown ?_
 try simp (maxSteps := 1000000) -implicitDefEqProofs (disch := omega) only [go_sem]
 repeat' (first
   | (with_reducible apply Req_intro); focus (first | omega | assumption | (simp; done))
   | with_reducible (first | apply Req_intro | refine nilT ?_ fun hn => ?_ | apply wk_draw Tryd_mixed | refine drawEnd (by kernel_rfl) ?_)
   | (with_reducible (first | apply condA_if | apply stepDG_ifN | apply stepDG_if | apply stepG_ifN | apply stepG_if)) <;> intro hb <;> (have hif := hb) <;> (try simp only [bo] at hif) <;> (try simp -implicitDefEqProofs (disch := omega) only [go_sem, hb]) <;> clear hb
   | simp (maxSteps := 1000000) -implicitDefEqProofs (disch := omega) only [go_sem])
 all_goals first | exact absurd trivial ‹¬True› | exact absurd ‹false = true› (by decide) | exact absurd ‹true = false› (by decide) | (exfalso; omega) | omega | skip
 first | refine callp hpl ?_ | refine calld hpl ?_
 try simp (maxSteps := 1000000) -implicitDefEqProofs (disch := omega) only [go_sem]
 repeat' (first
   | (with_reducible apply Req_intro); focus (first | omega | assumption | (simp; done))
   | with_reducible (first | apply Req_intro | refine nilT ?_ fun hn => ?_ | apply wk_draw Tryd_mixed | refine drawEnd (by kernel_rfl) ?_)
   | (with_reducible (first | apply condA_if | apply stepDG_ifN | apply stepDG_if | apply stepG_ifN | apply stepG_if)) <;> intro hb <;> (have hif := hb) <;> (try simp only [bo] at hif) <;> (try simp -implicitDefEqProofs (disch := omega) only [go_sem, hb]) <;> clear hb
   | simp (maxSteps := 1000000) -implicitDefEqProofs (disch := omega) only [go_sem])
 all_goals first | exact absurd trivial ‹¬True› | exact absurd ‹false = true› (by decide) | exact absurd ‹true = false› (by decide) | (exfalso; omega) | omega | skip
 refine loop_rows (α := Nat) (16 :: 17 :: [4, 15, 16, 17, 111, 112, 113, 114, 115, 116, 117, 118, 119, 120, 121, 122, 123, 124, 125, 126, 127, 128, 129, 130, 131, 132, 133, 134, 135, 136, 137, 138, 139, 140, 141, 142]) (fun i => [(15, .lit (.int .i64 i))]) (fun i => [(512, some ⟨2, [[.sl 2 (ls.map encGd) false, .sl 2 (rs.map encGd) false]], 38, .wr⟩), (576, some ⟨4, [[int g.sc, int g.ga, int g.we, int g.cu]], 26, .wr⟩)]) (fun i => i ≤ ls.length) (fun i => ls.length - i) 0 (fun x => by simp (maxSteps := 1000000) -implicitDefEqProofs (disch := omega) only [go_sem]; rfl) ?_ ?_ fun x hx => ?_
 · exact weak_do3 []
 · exact Nat.zero_le _
 rename Nat => n
 by_cases hn : n < ls.length
 · have hw := hw1 n hn
   have hq := hq1 n hn
   have hQn := hQ n hn
   generalize pairsR (tableR g (ls.eraseIdx n) rs 2) = QR at *
   repeat' (first
     | (with_reducible apply Req_intro); focus (first | omega | assumption | (simp; done))
     | with_reducible (first | apply Req_intro | refine nilT ?_ fun hn => ?_ | apply wk_draw Tryd_mixed | refine drawEnd (by kernel_rfl) ?_)
     | (with_reducible (first | apply condA_if | apply stepDG_ifN | apply stepDG_if | apply stepG_ifN | apply stepG_if)) <;> intro hb <;> (have hif := hb) <;> (try simp only [bo] at hif) <;> (try simp -implicitDefEqProofs (disch := omega) only [go_sem, hb]) <;> clear hb
     | simp (maxSteps := 1000000) -implicitDefEqProofs (disch := omega) only [go_sem])
   all_goals first | exact absurd trivial ‹¬True› | exact absurd ‹false = true› (by decide) | exact absurd ‹true = false› (by decide) | (exfalso; omega) | omega | skip
   first | refine callp hw ?_ | refine calld hw ?_
   try simp (maxSteps := 1000000) -implicitDefEqProofs (disch := omega) only [go_sem]
   repeat' (first
     | (with_reducible apply Req_intro); focus (first | omega | assumption | (simp; done))
     | with_reducible (first | apply Req_intro | refine nilT ?_ fun hn => ?_ | apply wk_draw Tryd_mixed | refine drawEnd (by kernel_rfl) ?_)
     | (with_reducible (first | apply condA_if | apply stepDG_ifN | apply stepDG_if | apply stepG_ifN | apply stepG_if)) <;> intro hb <;> (have hif := hb) <;> (try simp only [bo] at hif) <;> (try simp -implicitDefEqProofs (disch := omega) only [go_sem, hb]) <;> clear hb
     | simp (maxSteps := 1000000) -implicitDefEqProofs (disch := omega) only [go_sem])
   all_goals first | exact absurd trivial ‹¬True› | exact absurd ‹false = true› (by decide) | exact absurd ‹true = false› (by decide) | (exfalso; omega) | omega | skip
   first | refine callp hq ?_ | refine calld hq ?_
   try simp (maxSteps := 1000000) -implicitDefEqProofs (disch := omega) only [go_sem]
   repeat' (first
     | (with_reducible apply Req_intro); focus (first | omega | assumption | (simp; done))
     | with_reducible (first | apply Req_intro | refine nilT ?_ fun hn => ?_ | apply wk_draw Tryd_mixed | refine drawEnd (by kernel_rfl) ?_)
     | (with_reducible (first | apply condA_if | apply stepDG_ifN | apply stepDG_if | apply stepG_ifN | apply stepG_if)) <;> intro hb <;> (have hif := hb) <;> (try simp only [bo] at hif) <;> (try simp -implicitDefEqProofs (disch := omega) only [go_sem, hb]) <;> clear hb
     | simp (maxSteps := 1000000) -implicitDefEqProofs (disch := omega) only [go_sem])
   all_goals first | exact absurd trivial ‹¬True› | exact absurd ‹false = true› (by decide) | exact absurd ‹true = false› (by decide) | (exfalso; omega) | omega | skip
   with_reducible refine nxt_w (n + 1) ?_ ?_
   · (try dsimp only)
     skip
     exact weak_do3 []
   try dsimp only
   omega
 · repeat' (first
     | (with_reducible apply Req_intro); focus (first | omega | assumption | (simp; done))
     | with_reducible (first | apply Req_intro | refine nilT ?_ fun hn => ?_ | apply wk_draw Tryd_mixed | refine drawEnd (by kernel_rfl) ?_)
     | (with_reducible (first | apply condA_if | apply stepDG_ifN | apply stepDG_if | apply stepG_ifN | apply stepG_if)) <;> intro hb <;> (have hif := hb) <;> (try simp only [bo] at hif) <;> (try simp -implicitDefEqProofs (disch := omega) only [go_sem, hb]) <;> clear hb
     | simp (maxSteps := 1000000) -implicitDefEqProofs (disch := omega) only [go_sem])
   all_goals first | exact absurd trivial ‹¬True› | exact absurd ‹false = true› (by decide) | exact absurd ‹true = false› (by decide) | (exfalso; omega) | omega | skip
   first | refine callp hown ?_ | refine calld hown ?_
   try simp (maxSteps := 1000000) -implicitDefEqProofs (disch := omega) only [go_sem]
   repeat' (first
     | (with_reducible apply Req_intro); focus (first | omega | assumption | (simp; done))
     | with_reducible (first | apply Req_intro | refine nilT ?_ fun hn => ?_ | apply wk_draw Tryd_mixed | refine drawEnd (by kernel_rfl) ?_)
     | (with_reducible (first | apply condA_if | apply stepDG_ifN | apply stepDG_if | apply stepG_ifN | apply stepG_if)) <;> intro hb <;> (have hif := hb) <;> (try simp only [bo] at hif) <;> (try simp -implicitDefEqProofs (disch := omega) only [go_sem, hb]) <;> clear hb
     | simp (maxSteps := 1000000) -implicitDefEqProofs (disch := omega) only [go_sem])
   all_goals first | exact absurd trivial ‹¬True› | exact absurd ‹false = true› (by decide) | exact absurd ‹true = false› (by decide) | (exfalso; omega) | omega | skip
   rcases hcs with ⟨c1, c2, _⟩ | ⟨j, c1, c2, c3⟩
   · rw [cutV, if_pos c1] at hct
     first | refine callp hct ?_ | refine calld hct ?_
     try simp (maxSteps := 1000000) -implicitDefEqProofs (disch := omega) only [go_sem]
     repeat' (first
       | (with_reducible apply Req_intro); focus (first | omega | assumption | (simp; done))
       | with_reducible (first | apply Req_intro | refine nilT ?_ fun hn => ?_ | apply wk_draw Tryd_mixed | refine drawEnd (by kernel_rfl) ?_)
       | (with_reducible (first | apply condA_if | apply stepDG_ifN | apply stepDG_if | apply stepG_ifN | apply stepG_if)) <;> intro hb <;> (have hif := hb) <;> (try simp only [bo] at hif) <;> (try simp -implicitDefEqProofs (disch := omega) only [go_sem, hb]) <;> clear hb
       | simp (maxSteps := 1000000) -implicitDefEqProofs (disch := omega) only [go_sem])
     all_goals first | exact absurd trivial ‹¬True› | exact absurd ‹false = true› (by decide) | exact absurd ‹true = false› (by decide) | (exfalso; omega) | omega | skip
     first | refine callp hown ?_ | refine calld hown ?_
     try simp (maxSteps := 1000000) -implicitDefEqProofs (disch := omega) only [go_sem]
     repeat' (first
       | (with_reducible apply Req_intro); focus (first | omega | assumption | (simp; done))
       | with_reducible (first | apply Req_intro | refine nilT ?_ fun hn => ?_ | apply wk_draw Tryd_mixed | refine drawEnd (by kernel_rfl) ?_)
       | (with_reducible (first | apply condA_if | apply stepDG_ifN | apply stepDG_if | apply stepG_ifN | apply stepG_if)) <;> intro hb <;> (have hif := hb) <;> (try simp only [bo] at hif) <;> (try simp -implicitDefEqProofs (disch := omega) only [go_sem, hb]) <;> clear hb
       | simp (maxSteps := 1000000) -implicitDefEqProofs (disch := omega) only [go_sem])
     all_goals first | exact absurd trivial ‹¬True› | exact absurd ‹false = true› (by decide) | exact absurd ‹true = false› (by decide) | (exfalso; omega) | omega | skip
     rcases hlo with ho | ⟨ho1, ho2⟩
     · rw [lookV, if_pos ho] at hlk
       first | refine callp hlk ?_ | refine calld hlk ?_
       try simp (maxSteps := 1000000) -implicitDefEqProofs (disch := omega) only [go_sem]
       repeat' (first
         | (with_reducible apply Req_intro); focus (first | omega | assumption | (simp; done))
         | with_reducible (first | apply Req_intro | refine nilT ?_ fun hn => ?_ | apply wk_draw Tryd_mixed | refine drawEnd (by kernel_rfl) ?_)
         | (with_reducible (first | apply condA_if | apply stepDG_ifN | apply stepDG_if | apply stepG_ifN | apply stepG_if)) <;> intro hb <;> (have hif := hb) <;> (try simp only [bo] at hif) <;> (try simp -implicitDefEqProofs (disch := omega) only [go_sem, hb]) <;> clear hb
         | simp (maxSteps := 1000000) -implicitDefEqProofs (disch := omega) only [go_sem])
       all_goals first | exact absurd trivial ‹¬True› | exact absurd ‹false = true› (by decide) | exact absurd ‹true = false› (by decide) | (exfalso; omega) | omega | skip
       first | refine callp htw ?_ | refine calld htw ?_
       try simp (maxSteps := 1000000) -implicitDefEqProofs (disch := omega) only [go_sem]
       repeat' (first
         | (with_reducible apply Req_intro); focus (first | omega | assumption | (simp; done))
         | with_reducible (first | apply Req_intro | refine nilT ?_ fun hn => ?_ | apply wk_draw Tryd_mixed | refine drawEnd (by kernel_rfl) ?_)
         | (with_reducible (first | apply condA_if | apply stepDG_ifN | apply stepDG_if | apply stepG_ifN | apply stepG_if)) <;> intro hb <;> (have hif := hb) <;> (try simp only [bo] at hif) <;> (try simp -implicitDefEqProofs (disch := omega) only [go_sem, hb]) <;> clear hb
         | simp (maxSteps := 1000000) -implicitDefEqProofs (disch := omega) only [go_sem])
       all_goals first | exact absurd trivial ‹¬True› | exact absurd ‹false = true› (by decide) | exact absurd ‹true = false› (by decide) | (exfalso; omega) | omega | skip
       first | refine callp gknown_spec ?_ | refine calld gknown_spec ?_
       try simp (maxSteps := 1000000) -implicitDefEqProofs (disch := omega) only [go_sem]
       repeat' (first
         | (with_reducible apply Req_intro); focus (first | omega | assumption | (simp; done))
         | with_reducible (first | apply Req_intro | refine nilT ?_ fun hn => ?_ | apply wk_draw Tryd_mixed | refine drawEnd (by kernel_rfl) ?_)
         | (with_reducible (first | apply condA_if | apply stepDG_ifN | apply stepDG_if | apply stepG_ifN | apply stepG_if)) <;> intro hb <;> (have hif := hb) <;> (try simp only [bo] at hif) <;> (try simp -implicitDefEqProofs (disch := omega) only [go_sem, hb]) <;> clear hb
         | simp (maxSteps := 1000000) -implicitDefEqProofs (disch := omega) only [go_sem])
       all_goals first | exact absurd trivial ‹¬True› | exact absurd ‹false = true› (by decide) | exact absurd ‹true = false› (by decide) | (exfalso; omega) | omega | skip
       refine ret_do ?_
       rfl
     · rw [lookV, if_neg (by omega), ho1] at hlk
       cases hb : LK.1 <;> (
         simp only [hb, if_true, if_false, Bool.false_eq_true] at ho2 hlk
         first | refine callp hlk ?_ | refine calld hlk ?_
         try simp (maxSteps := 1000000) -implicitDefEqProofs (disch := omega) only [go_sem]
         repeat' (first
           | (with_reducible apply Req_intro); focus (first | omega | assumption | (simp; done))
           | with_reducible (first | apply Req_intro | refine nilT ?_ fun hn => ?_ | apply wk_draw Tryd_mixed | refine drawEnd (by kernel_rfl) ?_)
           | (with_reducible (first | apply condA_if | apply stepDG_ifN | apply stepDG_if | apply stepG_ifN | apply stepG_if)) <;> intro hb <;> (have hif := hb) <;> (try simp only [bo] at hif) <;> (try simp -implicitDefEqProofs (disch := omega) only [go_sem, hb]) <;> clear hb
           | simp (maxSteps := 1000000) -implicitDefEqProofs (disch := omega) only [go_sem])
         all_goals first | exact absurd trivial ‹¬True› | exact absurd ‹false = true› (by decide) | exact absurd ‹true = false› (by decide) | (exfalso; omega) | omega | skip
         first | refine callp (bit_spec _) ?_ | refine calld (bit_spec _) ?_
         try simp (maxSteps := 1000000) -implicitDefEqProofs (disch := omega) only [go_sem]
         repeat' (first
           | (with_reducible apply Req_intro); focus (first | omega | assumption | (simp; done))
           | with_reducible (first | apply Req_intro | refine nilT ?_ fun hn => ?_ | apply wk_draw Tryd_mixed | refine drawEnd (by kernel_rfl) ?_)
           | (with_reducible (first | apply condA_if | apply stepDG_ifN | apply stepDG_if | apply stepG_ifN | apply stepG_if)) <;> intro hb <;> (have hif := hb) <;> (try simp only [bo] at hif) <;> (try simp -implicitDefEqProofs (disch := omega) only [go_sem, hb]) <;> clear hb
           | simp (maxSteps := 1000000) -implicitDefEqProofs (disch := omega) only [go_sem])
         all_goals first | exact absurd trivial ‹¬True› | exact absurd ‹false = true› (by decide) | exact absurd ‹true = false› (by decide) | (exfalso; omega) | omega | skip
         first | refine callp htw ?_ | refine calld htw ?_
         try simp (maxSteps := 1000000) -implicitDefEqProofs (disch := omega) only [go_sem]
         repeat' (first
           | (with_reducible apply Req_intro); focus (first | omega | assumption | (simp; done))
           | with_reducible (first | apply Req_intro | refine nilT ?_ fun hn => ?_ | apply wk_draw Tryd_mixed | refine drawEnd (by kernel_rfl) ?_)
           | (with_reducible (first | apply condA_if | apply stepDG_ifN | apply stepDG_if | apply stepG_ifN | apply stepG_if)) <;> intro hb <;> (have hif := hb) <;> (try simp only [bo] at hif) <;> (try simp -implicitDefEqProofs (disch := omega) only [go_sem, hb]) <;> clear hb
           | simp (maxSteps := 1000000) -implicitDefEqProofs (disch := omega) only [go_sem])
         all_goals first | exact absurd trivial ‹¬True› | exact absurd ‹false = true› (by decide) | exact absurd ‹true = false› (by decide) | (exfalso; omega) | omega | skip
         first | refine callp gknown_spec ?_ | refine calld gknown_spec ?_
         try simp (maxSteps := 1000000) -implicitDefEqProofs (disch := omega) only [go_sem]
         repeat' (first
           | (with_reducible apply Req_intro); focus (first | omega | assumption | (simp; done))
           | with_reducible (first | apply Req_intro | refine nilT ?_ fun hn => ?_ | apply wk_draw Tryd_mixed | refine drawEnd (by kernel_rfl) ?_)
           | (with_reducible (first | apply condA_if | apply stepDG_ifN | apply stepDG_if | apply stepG_ifN | apply stepG_if)) <;> intro hb <;> (have hif := hb) <;> (try simp only [bo] at hif) <;> (try simp -implicitDefEqProofs (disch := omega) only [go_sem, hb]) <;> clear hb
           | simp (maxSteps := 1000000) -implicitDefEqProofs (disch := omega) only [go_sem])
         all_goals first | exact absurd trivial ‹¬True› | exact absurd ‹false = true› (by decide) | exact absurd ‹true = false› (by decide) | (exfalso; omega) | omega | skip
         refine ret_do ?_
         rfl)
   · rw [cutV, c2, if_neg (by show ¬ (mostR (tableR g ls rs 2) + 1 = _); omega)] at hct
     simp only [← hb4] at hct
     first | refine callp hct ?_ | refine calld hct ?_
     try simp (maxSteps := 1000000) -implicitDefEqProofs (disch := omega) only [go_sem]
     repeat' (first
       | (with_reducible apply Req_intro); focus (first | omega | assumption | (simp; done))
       | with_reducible (first | apply Req_intro | refine nilT ?_ fun hn => ?_ | apply wk_draw Tryd_mixed | refine drawEnd (by kernel_rfl) ?_)
       | (with_reducible (first | apply condA_if | apply stepDG_ifN | apply stepDG_if | apply stepG_ifN | apply stepG_if)) <;> intro hb <;> (have hif := hb) <;> (try simp only [bo] at hif) <;> (try simp -implicitDefEqProofs (disch := omega) only [go_sem, hb]) <;> clear hb
       | simp (maxSteps := 1000000) -implicitDefEqProofs (disch := omega) only [go_sem])
     all_goals first | exact absurd trivial ‹¬True› | exact absurd ‹false = true› (by decide) | exact absurd ‹true = false› (by decide) | (exfalso; omega) | omega | skip
     refine call_two hnew ?_ ⟨_, Tryd.func24, by rfl, by decide⟩
     try simp (maxSteps := 1000000) -implicitDefEqProofs (disch := omega) only [go_sem]
     repeat' (first
       | (with_reducible apply Req_intro); focus (first | omega | assumption | (simp; done))
       | with_reducible (first | apply Req_intro | refine nilT ?_ fun hn => ?_ | apply wk_draw Tryd_mixed | refine drawEnd (by kernel_rfl) ?_)
       | (with_reducible (first | apply condA_if | apply stepDG_ifN | apply stepDG_if | apply stepG_ifN | apply stepG_if)) <;> intro hb <;> (have hif := hb) <;> (try simp only [bo] at hif) <;> (try simp -implicitDefEqProofs (disch := omega) only [go_sem, hb]) <;> clear hb
       | simp (maxSteps := 1000000) -implicitDefEqProofs (disch := omega) only [go_sem])
     all_goals first | exact absurd trivial ‹¬True› | exact absurd ‹false = true› (by decide) | exact absurd ‹true = false› (by decide) | (exfalso; omega) | omega | skip
     first | refine callp hown ?_ | refine calld hown ?_
     try simp (maxSteps := 1000000) -implicitDefEqProofs (disch := omega) only [go_sem]
     repeat' (first
       | (with_reducible apply Req_intro); focus (first | omega | assumption | (simp; done))
       | with_reducible (first | apply Req_intro | refine nilT ?_ fun hn => ?_ | apply wk_draw Tryd_mixed | refine drawEnd (by kernel_rfl) ?_)
       | (with_reducible (first | apply condA_if | apply stepDG_ifN | apply stepDG_if | apply stepG_ifN | apply stepG_if)) <;> intro hb <;> (have hif := hb) <;> (try simp only [bo] at hif) <;> (try simp -implicitDefEqProofs (disch := omega) only [go_sem, hb]) <;> clear hb
       | simp (maxSteps := 1000000) -implicitDefEqProofs (disch := omega) only [go_sem])
     all_goals first | exact absurd trivial ‹¬True› | exact absurd ‹false = true› (by decide) | exact absurd ‹true = false› (by decide) | (exfalso; omega) | omega | skip
     have hrx : List.map encGd rs ++ [[V.lit (.int .i64 (ls.getD j default).1), V.sl 1 ((ls.getD j default).2.map encI) false]] = (rs ++ [ls.getD j default]).map encGd := by rw [List.map_append]; rfl
     have hrl : (rs ++ [ls.getD j default]).length = rs.length + 1 := by simp
     have hst2 : StOk ls (rs ++ [ls.getD j default]) := ⟨by omega, by omega, hst.lc, fun x hx => by
       rcases List.mem_append.1 hx with hx | hx
       · exact hst.rc x hx
       · rw [List.mem_singleton] at hx; subst hx; exact hst.lc _ (getD_mem c1)⟩
     have hfr2 : ∀ x ∈ rs ++ [ls.getD j default], Fine m x := fun x hx => by
       rcases List.mem_append.1 hx with hx | hx
       · exact hfr x hx
       · rw [List.mem_singleton] at hx; subst hx; exact hfl _ (getD_mem c1)
     by_cases hr7 : rs.length < 8
     · have hpm := Pairs_ok g ls (rs ++ [ls.getD j default]) false false hst2 (check_fine hm1 (by omega) hl8 (by omega) hfl hfr2 hgg)
       obtain ⟨_, _, _, hb5⟩ := pairs_bnd (g := g) (ls := ls) (rs := rs ++ [ls.getD j default]) (k := 2) (by omega)
       rw [c3, ← hb4] at hb5
       generalize pairsR (tableR g ls (rs ++ [ls.getD j default]) 2) = PM at *
       rw [hrx]
       generalize rs ++ [ls.getD j default] = R at *
       rw [← hrl]
       refine callf2 [9216, 10368] hpm ?_
       try simp (maxSteps := 1000000) -implicitDefEqProofs (disch := omega) only [go_sem]
       repeat' (first
         | (with_reducible apply Req_intro); focus (first | omega | assumption | (simp; done))
         | with_reducible (first | apply Req_intro | refine nilT ?_ fun hn => ?_ | apply wk_draw Tryd_mixed | refine drawEnd (by kernel_rfl) ?_)
         | (with_reducible (first | apply condA_if | apply stepDG_ifN | apply stepDG_if | apply stepG_ifN | apply stepG_if)) <;> intro hb <;> (have hif := hb) <;> (try simp only [bo] at hif) <;> (try simp -implicitDefEqProofs (disch := omega) only [go_sem, hb]) <;> clear hb
         | simp (maxSteps := 1000000) -implicitDefEqProofs (disch := omega) only [go_sem])
       all_goals first | exact absurd trivial ‹¬True› | exact absurd ‹false = true› (by decide) | exact absurd ‹true = false› (by decide) | (exfalso; omega) | omega | skip
       first | refine callp hown ?_ | refine calld hown ?_
       try simp (maxSteps := 1000000) -implicitDefEqProofs (disch := omega) only [go_sem]
       repeat' (first
         | (with_reducible apply Req_intro); focus (first | omega | assumption | (simp; done))
         | with_reducible (first | apply Req_intro | refine nilT ?_ fun hn => ?_ | apply wk_draw Tryd_mixed | refine drawEnd (by kernel_rfl) ?_)
         | (with_reducible (first | apply condA_if | apply stepDG_ifN | apply stepDG_if | apply stepG_ifN | apply stepG_if)) <;> intro hb <;> (have hif := hb) <;> (try simp only [bo] at hif) <;> (try simp -implicitDefEqProofs (disch := omega) only [go_sem, hb]) <;> clear hb
         | simp (maxSteps := 1000000) -implicitDefEqProofs (disch := omega) only [go_sem])
       all_goals first | exact absurd trivial ‹¬True› | exact absurd ‹false = true› (by decide) | exact absurd ‹true = false› (by decide) | (exfalso; omega) | omega | skip
       rcases hlo with ho | ⟨ho1, ho2⟩
       · rw [lookV, if_pos ho] at hlk
         first | refine callp hlk ?_ | refine calld hlk ?_
         try simp (maxSteps := 1000000) -implicitDefEqProofs (disch := omega) only [go_sem]
         repeat' (first
           | (with_reducible apply Req_intro); focus (first | omega | assumption | (simp; done))
           | with_reducible (first | apply Req_intro | refine nilT ?_ fun hn => ?_ | apply wk_draw Tryd_mixed | refine drawEnd (by kernel_rfl) ?_)
           | (with_reducible (first | apply condA_if | apply stepDG_ifN | apply stepDG_if | apply stepG_ifN | apply stepG_if)) <;> intro hb <;> (have hif := hb) <;> (try simp only [bo] at hif) <;> (try simp -implicitDefEqProofs (disch := omega) only [go_sem, hb]) <;> clear hb
           | simp (maxSteps := 1000000) -implicitDefEqProofs (disch := omega) only [go_sem])
         all_goals first | exact absurd trivial ‹¬True› | exact absurd ‹false = true› (by decide) | exact absurd ‹true = false› (by decide) | (exfalso; omega) | omega | skip
         first | refine callp htw ?_ | refine calld htw ?_
         try simp (maxSteps := 1000000) -implicitDefEqProofs (disch := omega) only [go_sem]
         repeat' (first
           | (with_reducible apply Req_intro); focus (first | omega | assumption | (simp; done))
           | with_reducible (first | apply Req_intro | refine nilT ?_ fun hn => ?_ | apply wk_draw Tryd_mixed | refine drawEnd (by kernel_rfl) ?_)
           | (with_reducible (first | apply condA_if | apply stepDG_ifN | apply stepDG_if | apply stepG_ifN | apply stepG_if)) <;> intro hb <;> (have hif := hb) <;> (try simp only [bo] at hif) <;> (try simp -implicitDefEqProofs (disch := omega) only [go_sem, hb]) <;> clear hb
           | simp (maxSteps := 1000000) -implicitDefEqProofs (disch := omega) only [go_sem])
         all_goals first | exact absurd trivial ‹¬True› | exact absurd ‹false = true› (by decide) | exact absurd ‹true = false› (by decide) | (exfalso; omega) | omega | skip
         first | refine callp gknown_spec ?_ | refine calld gknown_spec ?_
         try simp (maxSteps := 1000000) -implicitDefEqProofs (disch := omega) only [go_sem]
         repeat' (first
           | (with_reducible apply Req_intro); focus (first | omega | assumption | (simp; done))
           | with_reducible (first | apply Req_intro | refine nilT ?_ fun hn => ?_ | apply wk_draw Tryd_mixed | refine drawEnd (by kernel_rfl) ?_)
           | (with_reducible (first | apply condA_if | apply stepDG_ifN | apply stepDG_if | apply stepG_ifN | apply stepG_if)) <;> intro hb <;> (have hif := hb) <;> (try simp only [bo] at hif) <;> (try simp -implicitDefEqProofs (disch := omega) only [go_sem, hb]) <;> clear hb
           | simp (maxSteps := 1000000) -implicitDefEqProofs (disch := omega) only [go_sem])
         all_goals first | exact absurd trivial ‹¬True› | exact absurd ‹false = true› (by decide) | exact absurd ‹true = false› (by decide) | (exfalso; omega) | omega | skip
         refine ret_do ?_
         rfl
       · rw [lookV, if_neg (by omega), ho1] at hlk
         cases hb : LK.1 <;> (
           simp only [hb, if_true, if_false, Bool.false_eq_true] at ho2 hlk
           first | refine callp hlk ?_ | refine calld hlk ?_
           try simp (maxSteps := 1000000) -implicitDefEqProofs (disch := omega) only [go_sem]
           repeat' (first
             | (with_reducible apply Req_intro); focus (first | omega | assumption | (simp; done))
             | with_reducible (first | apply Req_intro | refine nilT ?_ fun hn => ?_ | apply wk_draw Tryd_mixed | refine drawEnd (by kernel_rfl) ?_)
             | (with_reducible (first | apply condA_if | apply stepDG_ifN | apply stepDG_if | apply stepG_ifN | apply stepG_if)) <;> intro hb <;> (have hif := hb) <;> (try simp only [bo] at hif) <;> (try simp -implicitDefEqProofs (disch := omega) only [go_sem, hb]) <;> clear hb
             | simp (maxSteps := 1000000) -implicitDefEqProofs (disch := omega) only [go_sem])
           all_goals first | exact absurd trivial ‹¬True› | exact absurd ‹false = true› (by decide) | exact absurd ‹true = false› (by decide) | (exfalso; omega) | omega | skip
           first | refine callp (bit_spec _) ?_ | refine calld (bit_spec _) ?_
           try simp (maxSteps := 1000000) -implicitDefEqProofs (disch := omega) only [go_sem]
           repeat' (first
             | (with_reducible apply Req_intro); focus (first | omega | assumption | (simp; done))
             | with_reducible (first | apply Req_intro | refine nilT ?_ fun hn => ?_ | apply wk_draw Tryd_mixed | refine drawEnd (by kernel_rfl) ?_)
             | (with_reducible (first | apply condA_if | apply stepDG_ifN | apply stepDG_if | apply stepG_ifN | apply stepG_if)) <;> intro hb <;> (have hif := hb) <;> (try simp only [bo] at hif) <;> (try simp -implicitDefEqProofs (disch := omega) only [go_sem, hb]) <;> clear hb
             | simp (maxSteps := 1000000) -implicitDefEqProofs (disch := omega) only [go_sem])
           all_goals first | exact absurd trivial ‹¬True› | exact absurd ‹false = true› (by decide) | exact absurd ‹true = false› (by decide) | (exfalso; omega) | omega | skip
           first | refine callp htw ?_ | refine calld htw ?_
           try simp (maxSteps := 1000000) -implicitDefEqProofs (disch := omega) only [go_sem]
           repeat' (first
             | (with_reducible apply Req_intro); focus (first | omega | assumption | (simp; done))
             | with_reducible (first | apply Req_intro | refine nilT ?_ fun hn => ?_ | apply wk_draw Tryd_mixed | refine drawEnd (by kernel_rfl) ?_)
             | (with_reducible (first | apply condA_if | apply stepDG_ifN | apply stepDG_if | apply stepG_ifN | apply stepG_if)) <;> intro hb <;> (have hif := hb) <;> (try simp only [bo] at hif) <;> (try simp -implicitDefEqProofs (disch := omega) only [go_sem, hb]) <;> clear hb
             | simp (maxSteps := 1000000) -implicitDefEqProofs (disch := omega) only [go_sem])
           all_goals first | exact absurd trivial ‹¬True› | exact absurd ‹false = true› (by decide) | exact absurd ‹true = false› (by decide) | (exfalso; omega) | omega | skip
           first | refine callp gknown_spec ?_ | refine calld gknown_spec ?_
           try simp (maxSteps := 1000000) -implicitDefEqProofs (disch := omega) only [go_sem]
           repeat' (first
             | (with_reducible apply Req_intro); focus (first | omega | assumption | (simp; done))
             | with_reducible (first | apply Req_intro | refine nilT ?_ fun hn => ?_ | apply wk_draw Tryd_mixed | refine drawEnd (by kernel_rfl) ?_)
             | (with_reducible (first | apply condA_if | apply stepDG_ifN | apply stepDG_if | apply stepG_ifN | apply stepG_if)) <;> intro hb <;> (have hif := hb) <;> (try simp only [bo] at hif) <;> (try simp -implicitDefEqProofs (disch := omega) only [go_sem, hb]) <;> clear hb
             | simp (maxSteps := 1000000) -implicitDefEqProofs (disch := omega) only [go_sem])
           all_goals first | exact absurd trivial ‹¬True› | exact absurd ‹false = true› (by decide) | exact absurd ‹true = false› (by decide) | (exfalso; omega) | omega | skip
           refine ret_do ?_
           rfl)
     · have hpm := Pairs_err g ls (rs ++ [ls.getD j default]) false false hst2 (by rw [checkS, if_pos (by omega)]; decide)
       rw [hrx]
       generalize rs ++ [ls.getD j default] = R at *
       rw [← hrl]
       refine callf2 [9216, 10368] hpm ?_
       try simp (maxSteps := 1000000) -implicitDefEqProofs (disch := omega) only [go_sem]
       repeat' (first
         | (with_reducible apply Req_intro); focus (first | omega | assumption | (simp; done))
         | with_reducible (first | apply Req_intro | refine nilT ?_ fun hn => ?_ | apply wk_draw Tryd_mixed | refine drawEnd (by kernel_rfl) ?_)
         | (with_reducible (first | apply condA_if | apply stepDG_ifN | apply stepDG_if | apply stepG_ifN | apply stepG_if)) <;> intro hb <;> (have hif := hb) <;> (try simp only [bo] at hif) <;> (try simp -implicitDefEqProofs (disch := omega) only [go_sem, hb]) <;> clear hb
         | simp (maxSteps := 1000000) -implicitDefEqProofs (disch := omega) only [go_sem])
       all_goals first | exact absurd trivial ‹¬True› | exact absurd ‹false = true› (by decide) | exact absurd ‹true = false› (by decide) | (exfalso; omega) | omega | skip
       first | refine callp hown ?_ | refine calld hown ?_
       try simp (maxSteps := 1000000) -implicitDefEqProofs (disch := omega) only [go_sem]
       repeat' (first
         | (with_reducible apply Req_intro); focus (first | omega | assumption | (simp; done))
         | with_reducible (first | apply Req_intro | refine nilT ?_ fun hn => ?_ | apply wk_draw Tryd_mixed | refine drawEnd (by kernel_rfl) ?_)
         | (with_reducible (first | apply condA_if | apply stepDG_ifN | apply stepDG_if | apply stepG_ifN | apply stepG_if)) <;> intro hb <;> (have hif := hb) <;> (try simp only [bo] at hif) <;> (try simp -implicitDefEqProofs (disch := omega) only [go_sem, hb]) <;> clear hb
         | simp (maxSteps := 1000000) -implicitDefEqProofs (disch := omega) only [go_sem])
       all_goals first | exact absurd trivial ‹¬True› | exact absurd ‹false = true› (by decide) | exact absurd ‹true = false› (by decide) | (exfalso; omega) | omega | skip
       rcases hlo with ho | ⟨ho1, ho2⟩
       · rw [lookV, if_pos ho] at hlk
         first | refine callp hlk ?_ | refine calld hlk ?_
         try simp (maxSteps := 1000000) -implicitDefEqProofs (disch := omega) only [go_sem]
         repeat' (first
           | (with_reducible apply Req_intro); focus (first | omega | assumption | (simp; done))
           | with_reducible (first | apply Req_intro | refine nilT ?_ fun hn => ?_ | apply wk_draw Tryd_mixed | refine drawEnd (by kernel_rfl) ?_)
           | (with_reducible (first | apply condA_if | apply stepDG_ifN | apply stepDG_if | apply stepG_ifN | apply stepG_if)) <;> intro hb <;> (have hif := hb) <;> (try simp only [bo] at hif) <;> (try simp -implicitDefEqProofs (disch := omega) only [go_sem, hb]) <;> clear hb
           | simp (maxSteps := 1000000) -implicitDefEqProofs (disch := omega) only [go_sem])
         all_goals first | exact absurd trivial ‹¬True› | exact absurd ‹false = true› (by decide) | exact absurd ‹true = false› (by decide) | (exfalso; omega) | omega | skip
         first | refine callp htw ?_ | refine calld htw ?_
         try simp (maxSteps := 1000000) -implicitDefEqProofs (disch := omega) only [go_sem]
         repeat' (first
           | (with_reducible apply Req_intro); focus (first | omega | assumption | (simp; done))
           | with_reducible (first | apply Req_intro | refine nilT ?_ fun hn => ?_ | apply wk_draw Tryd_mixed | refine drawEnd (by kernel_rfl) ?_)
           | (with_reducible (first | apply condA_if | apply stepDG_ifN | apply stepDG_if | apply stepG_ifN | apply stepG_if)) <;> intro hb <;> (have hif := hb) <;> (try simp only [bo] at hif) <;> (try simp -implicitDefEqProofs (disch := omega) only [go_sem, hb]) <;> clear hb
           | simp (maxSteps := 1000000) -implicitDefEqProofs (disch := omega) only [go_sem])
         all_goals first | exact absurd trivial ‹¬True› | exact absurd ‹false = true› (by decide) | exact absurd ‹true = false› (by decide) | (exfalso; omega) | omega | skip
         first | refine callp gknown_spec ?_ | refine calld gknown_spec ?_
         try simp (maxSteps := 1000000) -implicitDefEqProofs (disch := omega) only [go_sem]
         repeat' (first
           | (with_reducible apply Req_intro); focus (first | omega | assumption | (simp; done))
           | with_reducible (first | apply Req_intro | refine nilT ?_ fun hn => ?_ | apply wk_draw Tryd_mixed | refine drawEnd (by kernel_rfl) ?_)
           | (with_reducible (first | apply condA_if | apply stepDG_ifN | apply stepDG_if | apply stepG_ifN | apply stepG_if)) <;> intro hb <;> (have hif := hb) <;> (try simp only [bo] at hif) <;> (try simp -implicitDefEqProofs (disch := omega) only [go_sem, hb]) <;> clear hb
           | simp (maxSteps := 1000000) -implicitDefEqProofs (disch := omega) only [go_sem])
         all_goals first | exact absurd trivial ‹¬True› | exact absurd ‹false = true› (by decide) | exact absurd ‹true = false› (by decide) | (exfalso; omega) | omega | skip
         refine ret_do ?_
         rfl
       · rw [lookV, if_neg (by omega), ho1] at hlk
         cases hb : LK.1 <;> (
           simp only [hb, if_true, if_false, Bool.false_eq_true] at ho2 hlk
           first | refine callp hlk ?_ | refine calld hlk ?_
           try simp (maxSteps := 1000000) -implicitDefEqProofs (disch := omega) only [go_sem]
           repeat' (first
             | (with_reducible apply Req_intro); focus (first | omega | assumption | (simp; done))
             | with_reducible (first | apply Req_intro | refine nilT ?_ fun hn => ?_ | apply wk_draw Tryd_mixed | refine drawEnd (by kernel_rfl) ?_)
             | (with_reducible (first | apply condA_if | apply stepDG_ifN | apply stepDG_if | apply stepG_ifN | apply stepG_if)) <;> intro hb <;> (have hif := hb) <;> (try simp only [bo] at hif) <;> (try simp -implicitDefEqProofs (disch := omega) only [go_sem, hb]) <;> clear hb
             | simp (maxSteps := 1000000) -implicitDefEqProofs (disch := omega) only [go_sem])
           all_goals first | exact absurd trivial ‹¬True› | exact absurd ‹false = true› (by decide) | exact absurd ‹true = false› (by decide) | (exfalso; omega) | omega | skip
           first | refine callp (bit_spec _) ?_ | refine calld (bit_spec _) ?_
           try simp (maxSteps := 1000000) -implicitDefEqProofs (disch := omega) only [go_sem]
           repeat' (first
             | (with_reducible apply Req_intro); focus (first | omega | assumption | (simp; done))
             | with_reducible (first | apply Req_intro | refine nilT ?_ fun hn => ?_ | apply wk_draw Tryd_mixed | refine drawEnd (by kernel_rfl) ?_)
             | (with_reducible (first | apply condA_if | apply stepDG_ifN | apply stepDG_if | apply stepG_ifN | apply stepG_if)) <;> intro hb <;> (have hif := hb) <;> (try simp only [bo] at hif) <;> (try simp -implicitDefEqProofs (disch := omega) only [go_sem, hb]) <;> clear hb
             | simp (maxSteps := 1000000) -implicitDefEqProofs (disch := omega) only [go_sem])
           all_goals first | exact absurd trivial ‹¬True› | exact absurd ‹false = true› (by decide) | exact absurd ‹true = false› (by decide) | (exfalso; omega) | omega | skip
           first | refine callp htw ?_ | refine calld htw ?_
           try simp (maxSteps := 1000000) -implicitDefEqProofs (disch := omega) only [go_sem]
           repeat' (first
             | (with_reducible apply Req_intro); focus (first | omega | assumption | (simp; done))
             | with_reducible (first | apply Req_intro | refine nilT ?_ fun hn => ?_ | apply wk_draw Tryd_mixed | refine drawEnd (by kernel_rfl) ?_)
             | (with_reducible (first | apply condA_if | apply stepDG_ifN | apply stepDG_if | apply stepG_ifN | apply stepG_if)) <;> intro hb <;> (have hif := hb) <;> (try simp only [bo] at hif) <;> (try simp -implicitDefEqProofs (disch := omega) only [go_sem, hb]) <;> clear hb
             | simp (maxSteps := 1000000) -implicitDefEqProofs (disch := omega) only [go_sem])
           all_goals first | exact absurd trivial ‹¬True› | exact absurd ‹false = true› (by decide) | exact absurd ‹true = false› (by decide) | (exfalso; omega) | omega | skip
           first | refine callp gknown_spec ?_ | refine calld gknown_spec ?_
           try simp (maxSteps := 1000000) -implicitDefEqProofs (disch := omega) only [go_sem]
           repeat' (first
             | (with_reducible apply Req_intro); focus (first | omega | assumption | (simp; done))
             | with_reducible (first | apply Req_intro | refine nilT ?_ fun hn => ?_ | apply wk_draw Tryd_mixed | refine drawEnd (by kernel_rfl) ?_)
             | (with_reducible (first | apply condA_if | apply stepDG_ifN | apply stepDG_if | apply stepG_ifN | apply stepG_if)) <;> intro hb <;> (have hif := hb) <;> (try simp only [bo] at hif) <;> (try simp -implicitDefEqProofs (disch := omega) only [go_sem, hb]) <;> clear hb
             | simp (maxSteps := 1000000) -implicitDefEqProofs (disch := omega) only [go_sem])
           all_goals first | exact absurd trivial ‹¬True› | exact absurd ‹false = true› (by decide) | exact absurd ‹true = false› (by decide) | (exfalso; omega) | omega | skip
           refine ret_do ?_
           rfl)
end Go.Aw
end
