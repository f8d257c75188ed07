/-
  A part of the proof that a law returns true for every input that the given row speaks of: an own verified walk over the program (namespace Go.Aw), contracts of the functions that the law calls, and the law itself. Conditions: those of the given row, no other.
-/
import Derived.Test.YtgpeegdinblnoaaDoorPart6
set_option linter.unusedVariables false
set_option linter.unusedSimpArgs false
set_option maxHeartbeats 4000000
set_option maxRecDepth 20000
section
namespace Go.Aw
open Go.RowKit Go.Proofs
def lkS (t s : List Nat) (nr : Nat) : Nat → Bool × Nat × Nat
 | 0 => (false, 0, 0)
 | 1 => lkL t s t.length
 | _ => lkR t s nr
theorem lkL_bnd (t s : List Nat) {m : Nat} (h : ∀ b n, mostR (lookT t s b n) ≤ m) : ∀ k, (lkL t s k).2.1 ≤ k ∧ (lkL t s k).2.2 ≤ m
 | 0 => by simp [lkL_zero]
 | k + 1 => by
   have := lkL_bnd t s h k
   have := h false k
   rw [lkL_succ]
   split
   · simp only; omega
   · omega
theorem lkR_bnd (t s : List Nat) {m : Nat} (h : ∀ b n, mostR (lookT t s b n) ≤ m) : ∀ k, (lkR t s k).2.1 ≤ t.length + k ∧ (lkR t s k).2.2 ≤ m
 | 0 => by rw [lkR_zero]; exact lkL_bnd t s h _
 | k + 1 => by
   have := lkR_bnd t s h k
   have := h true k
   rw [lkR_succ]
   split
   · simp only; omega
   · omega
theorem rLook_spec (g : Gau) (ls rs : List Grd) (e1 e2 : Bool) (n : Nat) (hg : GoodSt g ls rs n) (hl : ls.length ≤ 6) (hr : rs.length ≤ 6) :
   Ct Tryd.prog 44 [encSt ls rs e1 e2, encGa g] (.tup [.lit (.bool (lookR (tableR g ls rs 2) (tableR g ls rs 1) rs.length).1), int (lookR (tableR g ls rs 2) (tableR g ls rs 1) rs.length).2.1, int (lookR (tableR g ls rs 2) (tableR g ls rs 1) rs.length).2.2]) := by
 have hn4 := hg.n4
 have hgo := hg.g
 have hgl := hg.l
 have hgr := hg.r
 have hsc : 0 ≤ g.sc ∧ g.sc ≤ 100 := by have := hgo.sc; simpa [inR'] using this
 have hga : 0 ≤ g.ga ∧ g.ga ≤ 100 := by have := hgo.ga; simpa [inR'] using this
 have hM := rMany_spec g ls rs e1 e2 n hg (by omega) (by omega)
 rw [many_eq (by omega)] at hM
 have hAl : ∀ i k, i < ls.length → k < rs.length → Ct Tryd.prog 63 [.agg (encGd (ls.getD i default)), .agg (encGd (rs.getD k default)), encGa g, int g.sc, int g.ga] (.lit (.bool (alikeR g (ls.getD i default) (rs.getD k default) 1))) := fun i k hi hk => by
   have := rAlike_spec g (ls.getD i default) (rs.getD k default) 1 n hn4 hgo (hgl _ (getD_mem hi)) (hgr _ (getD_mem hk)) (by decide)
   rwa [Int.one_mul, Int.one_mul] at this
 have hMost : ∀ b k, Ct Tryd.prog 33 [.sl 1 ((lookB g ls rs b k).map encBr) false, int 0, int 0] (int (mostR (lookT (tableR g ls rs 2) (tableR g ls rs 1) b k))) := fun b k => by
   have := rMost_spec (lookB g ls rs b k) false (fun row h => by rw [lookB_row g ls rs b k row h]; omega) (by rw [lookB_len]; omega) ls.length 0 0 (by rw [lookB_len]; omega) (by decide)
   rwa [List.drop_zero, lookB_most (by omega) hsc.1 hga.1] at this
 have hTl := tableR_len g ls rs 2
 have hmb : ∀ b k, mostR (lookT (tableR g ls rs 2) (tableR g ls rs 1) b k) ≤ 6 := fun b k => by
   rw [mostR_eq (look_few (tableR_few (by omega)) (tableR_few (by omega)) b k)]
   have := maxM_len (lookT (tableR g ls rs 2) (tableR g ls rs 1) b k) 0
   rw [lookT_len, hTl] at this; omega
 have hm0 : mostR (tableR g ls rs 2) ≤ 6 := by
   rw [mostR_eq (tableR_few (by omega))]
   have := maxM_len (tableR g ls rs 2) 0
   rw [hTl] at this; omega
 have hLb := lkL_bnd _ _ hmb
 have hRb := lkR_bnd _ _ hmb
 have hL0 := lkL_zero (tableR g ls rs 2) (tableR g ls rs 1)
 have hLs := lkL_succ (tableR g ls rs 2) (tableR g ls rs 1)
 have hR0 := lkR_zero (tableR g ls rs 2) (tableR g ls rs 1)
 have hRs := lkR_succ (tableR g ls rs 2) (tableR g ls rs 1)
 have hS0 : lkS (tableR g ls rs 2) (tableR g ls rs 1) rs.length 0 = (false, 0, 0) := rfl
 have hS1 : lkS (tableR g ls rs 2) (tableR g ls rs 1) rs.length 1 = lkL (tableR g ls rs 2) (tableR g ls rs 1) ls.length := by rw [← hTl]; rfl
 have hS2 : lkS (tableR g ls rs 2) (tableR g ls rs 1) rs.length 2 = lkR (tableR g ls rs 2) (tableR g ls rs 1) rs.length := rfl
 rw [← lkR_all, ← hS2]
 rw [hTl] at hRb hR0
 generalize lkL (tableR g ls rs 2) (tableR g ls rs 1) = LL at *
 generalize lkR (tableR g ls rs 2) (tableR g ls rs 1) = RR at *
 generalize lkS (tableR g ls rs 2) (tableR g ls rs 1) rs.length = SS at *
 generalize mostR (tableR g ls rs 2) = M0 at *
 generalize hMM : (fun b k => mostR (lookT (tableR g ls rs 2) (tableR g ls rs 1) b k)) = MM at *
 have hMM' : ∀ b k, mostR (lookT (tableR g ls rs 2) (tableR g ls rs 1) b k) = MM b k := fun b k => by rw [← hMM]
 simp only [hMM'] at *
 have hsS : ∀ s, s ≤ 2 → (SS s).2.1 ≤ 12 ∧ (SS s).2.2 ≤ 6 := fun s hs => by
   rcases (show s = 0 ∨ s = 1 ∨ s = 2 by omega) with rfl | rfl | rfl
   · rw [hS0]; simp
   · rw [hS1]; have := hLb ls.length; omega
   · rw [hS2]; have := hRb rs.length; omega
 refine fn_enter Tryd.func44 rfl (by decide) Tryd.results44 Tryd.ntmps44 ?_ rfl (by simp (maxSteps := 1000000) -implicitDefEqProofs (disch := omega) only [go_sem]; rfl) fun base => ?_
 · first | assumption | (simp only [go_sem] <;> assumption) | (simp only [go_sem, *]; done) | (simp [go_sem]; done)
 repeat' (first
   | (with_reducible apply Req_intro); focus (first | omega | assumption | (simp; done))
   | with_reducible (first | apply Req_intro | refine nilT ?_ fun hn => ?_ | apply wk_draw Tryd_mixed | refine drawEnd (by kernel_rfl) ?_)
   | (with_reducible (first | apply condA_if | apply stepDG_ifN | apply stepDG_if | apply stepG_ifN | apply stepG_if)) <;> intro hb <;> (have hif := hb) <;> (try simp only [bo] at hif) <;> (try simp -implicitDefEqProofs (disch := omega) only [go_sem, hb]) <;> clear hb
   | simp (maxSteps := 1000000) -implicitDefEqProofs (disch := omega) only [go_sem])
 all_goals first | exact absurd trivial ‹¬True› | exact absurd ‹false = true› (by decide) | exact absurd ‹true = false› (by decide) | (exfalso; omega) | omega | skip
 first | refine callp hM ?_ | refine calld hM ?_
 try simp (maxSteps := 1000000) -implicitDefEqProofs (disch := omega) only [go_sem]
 repeat' (first
   | (with_reducible apply Req_intro); focus (first | omega | assumption | (simp; done))
   | with_reducible (first | apply Req_intro | refine nilT ?_ fun hn => ?_ | apply wk_draw Tryd_mixed | refine drawEnd (by kernel_rfl) ?_)
   | (with_reducible (first | apply condA_if | apply stepDG_ifN | apply stepDG_if | apply stepG_ifN | apply stepG_if)) <;> intro hb <;> (have hif := hb) <;> (try simp only [bo] at hif) <;> (try simp -implicitDefEqProofs (disch := omega) only [go_sem, hb]) <;> clear hb
   | simp (maxSteps := 1000000) -implicitDefEqProofs (disch := omega) only [go_sem])
 all_goals first | exact absurd trivial ‹¬True› | exact absurd ‹false = true› (by decide) | exact absurd ‹true = false› (by decide) | (exfalso; omega) | omega | skip
 refine loop_at (α := Nat) [7, 8, 9, 11, 12, 13, 14, 15, 16, 20, 21, 22, 23, 24, 25, 26, 27, 28, 29, 30, 31, 32, 33, 34, 35, 36, 37, 38, 39, 40, 41, 42, 43, 44, 45, 46, 47, 48, 49, 50, 51, 52, 53, 54, 55, 56, 57, 58, 59, 60, 61, 62, 63, 64, 65, 66, 67, 68, 69, 70, 71, 72, 73, 74, 75, 76, 77, 78, 79, 80, 81, 82, 83, 84, 85, 86, 87, 88, 89, 90, 91, 92, 93] (fun s => [(11, .lit (.int .i64 s)), (7, .lit (.bool (SS s).1)), (8, int (SS s).2.1), (9, int (SS s).2.2)]) (fun s => s ≤ 2) (fun s => 2 - s) 0 (fun x => by simp (maxSteps := 1000000) -implicitDefEqProofs (disch := omega) only [go_sem]; rfl) ?_ ?_ fun x hx => ?_
 · rw [hS0]
   exact weak_do []
 · exact Nat.zero_le _
 have hsx := hsS x hx
 rcases (show x = 0 ∨ x = 1 ∨ x = 2 by omega) with rfl | rfl | rfl
 · rw [hS0]
   repeat' (first
     | (with_reducible apply Req_intro); focus (first | omega | assumption | (simp; done))
     | with_reducible (first | apply Req_intro | refine nilT ?_ fun hn => ?_ | apply wk_draw Tryd_mixed | refine drawEnd (by kernel_rfl) ?_)
     | (with_reducible (first | apply condA_if | apply stepDG_ifN | apply stepDG_if | apply stepG_ifN | apply stepG_if)) <;> intro hb <;> (have hif := hb) <;> (try simp only [bo] at hif) <;> (try simp -implicitDefEqProofs (disch := omega) only [go_sem, hb]) <;> clear hb
     | simp (maxSteps := 1000000) -implicitDefEqProofs (disch := omega) only [go_sem])
   all_goals first | exact absurd trivial ‹¬True› | exact absurd ‹false = true› (by decide) | exact absurd ‹true = false› (by decide) | (exfalso; omega) | omega | skip
   refine loop_at (α := Nat) [7, 8, 9, 12, 13, 14, 15, 16, 24, 25, 26, 27, 28, 29, 30, 31, 32, 33, 34, 35, 36, 37, 38, 39, 40, 41, 42, 43, 44, 45, 46, 47, 48, 49, 50, 51, 52, 53, 54, 55, 56, 57, 58, 59, 60, 61, 62, 63, 64, 65, 66, 67, 68, 69, 70, 71, 72, 73, 74, 75, 76, 77, 78, 79, 80, 81, 82, 83, 84, 85, 86, 87, 88, 89, 90, 91, 92, 93] (fun k => [(12, .lit (.int .i64 k)), (7, .lit (.bool (LL k).1)), (8, int (LL k).2.1), (9, int (LL k).2.2)]) (fun k => k ≤ ls.length) (fun k => ls.length - k) 0 (fun x => by simp (maxSteps := 1000000) -implicitDefEqProofs (disch := omega) only [go_sem]; rfl) ?_ ?_ fun x hx => ?_
   · rw [hL0]
     exact weak_do []
   · exact Nat.zero_le _
   have hLx := hLb x
   by_cases hlt : x < ls.length
   · have hmx := hmb false x
     have hLsx := hLs x
     have hmo := hMost false x
     rename Nat => ox
     repeat' (first
       | (with_reducible apply Req_intro); focus (first | omega | assumption | (simp; done))
       | with_reducible (first | apply Req_intro | refine nilT ?_ fun hn => ?_ | apply wk_draw Tryd_mixed | refine drawEnd (by kernel_rfl) ?_)
       | (with_reducible (first | apply condA_if | apply stepDG_ifN | apply stepDG_if | apply stepG_ifN | apply stepG_if)) <;> intro hb <;> (have hif := hb) <;> (try simp only [bo] at hif) <;> (try simp -implicitDefEqProofs (disch := omega) only [go_sem, hb]) <;> clear hb
       | simp (maxSteps := 1000000) -implicitDefEqProofs (disch := omega) only [go_sem])
     all_goals first | exact absurd trivial ‹¬True› | exact absurd ‹false = true› (by decide) | exact absurd ‹true = false› (by decide) | (exfalso; omega) | omega | skip
     refine call_table g ls rs e1 e2 n hn4 hgo hgl hgr hl (by omega) ?_ (by first | (simp only [go_sem]; done) | (simp only [go_sem]; rfl))
     try simp (maxSteps := 1000000) -implicitDefEqProofs (disch := omega) only [go_sem]
     simp only [tabRows, Nat.reduceAdd]
     refine loop_rows (α := Nat) [14, 15, 40, 41, 42, 43, 44, 45, 46, 47, 48, 49, 50, 51, 52, 53, 54, 55, 56, 57, 58, 59, 60, 61, 62, 63, 64, 65, 66, 67, 68, 69, 70, 71, 72, 73, 74, 75, 76, 77, 78, 79, 80, 81, 82] (fun i => [(14, .lit (.int .i64 i))]) (fun i => [(0, some ⟨2, [[.sl 2 (ls.map encGd) e1, .sl 2 (rs.map encGd) e2]], 38, .wr⟩), (64, some ⟨4, [[int g.sc, int g.ga, int g.we, int g.cu]], 26, .wr⟩), (1921, some ⟨1, famB 1922 ls.length rs.length, 111, .wr⟩), (1922, some ⟨1, (lkAt g ls rs false ox i 0).map encBo, 4, .wr⟩), (1923, some ⟨1, (lkAt g ls rs false ox i 1).map encBo, 4, .wr⟩), (1924, some ⟨1, (lkAt g ls rs false ox i 2).map encBo, 4, .wr⟩), (1925, some ⟨1, (lkAt g ls rs false ox i 3).map encBo, 4, .wr⟩), (1926, some ⟨1, (lkAt g ls rs false ox i 4).map encBo, 4, .wr⟩), (1927, some ⟨1, (lkAt g ls rs false ox i 5).map encBo, 4, .wr⟩)]) (fun i => i ≤ ls.length) (fun i => ls.length - i) 0 (fun x => by simp (maxSteps := 1000000) -implicitDefEqProofs (disch := omega) only [go_sem]; rfl) ?_ ?_ fun x hx => ?_
     · simp only [lkAt_zero]
       exact weak_do5 []
     · exact Nat.zero_le _
     by_cases hi1 : x < ls.length
     · rcases (show x = 0 ∨ x = 1 ∨ x = 2 ∨ x = 3 ∨ x = 4 ∨ x = 5 by omega) with rfl | rfl | rfl | rfl | rfl | rfl
       · rw [lkAt_self hi1]
         have hnx := lkAt_next (g := g) (ls := ls) (rs := rs) (right := false) (n := ox) hi1
         repeat' (first
           | (with_reducible apply Req_intro); focus (first | omega | assumption | (simp; done))
           | with_reducible (first | apply Req_intro | refine nilT ?_ fun hn => ?_ | apply wk_draw Tryd_mixed | refine drawEnd (by kernel_rfl) ?_)
           | (with_reducible (first | apply condA_if | apply stepDG_ifN | apply stepDG_if | apply stepG_ifN | apply stepG_if)) <;> intro hb <;> (have hif := hb) <;> (try simp only [bo] at hif) <;> (try simp -implicitDefEqProofs (disch := omega) only [go_sem, hb]) <;> clear hb
           | simp (maxSteps := 1000000) -implicitDefEqProofs (disch := omega) only [go_sem])
         all_goals first | exact absurd trivial ‹¬True› | exact absurd ‹false = true› (by decide) | exact absurd ‹true = false› (by decide) | (exfalso; omega) | omega | skip
         refine loop_rows (α := Nat) [15, 47, 48, 49, 50, 51, 52, 53, 54, 55, 56, 57, 58, 59, 60, 61, 62, 63, 64, 65, 66, 67, 68, 69, 70, 71, 72, 73, 74, 75, 76, 77, 78, 79, 80, 81, 82] (fun k => [(15, .lit (.int .i64 k))]) (fun k => [(0, some ⟨2, [[.sl 2 (ls.map encGd) e1, .sl 2 (rs.map encGd) e2]], 38, .wr⟩), (64, some ⟨4, [[int g.sc, int g.ga, int g.we, int g.cu]], 26, .wr⟩), (1921, some ⟨1, famB 1922 ls.length rs.length, 111, .wr⟩), (1922, some ⟨1, (lkRow g ls rs false ox 0 k).map encBo, 4, .wr⟩), (1923, some ⟨1, (lkAt g ls rs false ox 0 1).map encBo, 4, .wr⟩), (1924, some ⟨1, (lkAt g ls rs false ox 0 2).map encBo, 4, .wr⟩), (1925, some ⟨1, (lkAt g ls rs false ox 0 3).map encBo, 4, .wr⟩), (1926, some ⟨1, (lkAt g ls rs false ox 0 4).map encBo, 4, .wr⟩), (1927, some ⟨1, (lkAt g ls rs false ox 0 5).map encBo, 4, .wr⟩)]) (fun k => k ≤ rs.length) (fun k => rs.length - k) 0 (fun x => by simp (maxSteps := 1000000) -implicitDefEqProofs (disch := omega) only [go_sem]; rfl) ?_ ?_ fun x hx => ?_
         · exact weak_do5 []
         · exact Nat.zero_le _
         rename Nat => k
         have hrl := lkRow_len g ls rs false ox 0 k
         by_cases hk1 : k < rs.length
         · have hal := hAl 0 k hi1 hk1
           by_cases hc : 0 = ox
           · have hit := lkRow_hit (g := g) (ls := ls) (rs := rs) (right := false) (n := ox) (i := 0) (k := k) hk1 (by simpa using hc)
             generalize lkRow g ls rs false ox 0 k = L at *
             repeat' (first
               | (with_reducible apply Req_intro); focus (first | omega | assumption | (simp; done))
               | with_reducible (first | apply Req_intro | refine nilT ?_ fun hn => ?_ | apply wk_draw Tryd_mixed | refine drawEnd (by kernel_rfl) ?_)
               | (with_reducible (first | apply condA_if | apply stepDG_ifN | apply stepDG_if | apply stepG_ifN | apply stepG_if)) <;> intro hb <;> (have hif := hb) <;> (try simp only [bo] at hif) <;> (try simp -implicitDefEqProofs (disch := omega) only [go_sem, hb]) <;> clear hb
               | simp (maxSteps := 1000000) -implicitDefEqProofs (disch := omega) only [go_sem])
             all_goals first | exact absurd trivial ‹¬True› | exact absurd ‹false = true› (by decide) | exact absurd ‹true = false› (by decide) | (exfalso; omega) | omega | skip
             refine calld hal ?_
             try simp (maxSteps := 1000000) -implicitDefEqProofs (disch := omega) only [go_sem]
             repeat' (first
               | (with_reducible apply Req_intro); focus (first | omega | assumption | (simp; done))
               | with_reducible (first | apply Req_intro | refine nilT ?_ fun hn => ?_ | apply wk_draw Tryd_mixed | refine drawEnd (by kernel_rfl) ?_)
               | (with_reducible (first | apply condA_if | apply stepDG_ifN | apply stepDG_if | apply stepG_ifN | apply stepG_if)) <;> intro hb <;> (have hif := hb) <;> (try simp only [bo] at hif) <;> (try simp -implicitDefEqProofs (disch := omega) only [go_sem, hb]) <;> clear hb
               | simp (maxSteps := 1000000) -implicitDefEqProofs (disch := omega) only [go_sem])
             all_goals first | exact absurd trivial ‹¬True› | exact absurd ‹false = true› (by decide) | exact absurd ‹true = false› (by decide) | (exfalso; omega) | omega | skip
             with_reducible refine nxt_w (k + 1) ?_ ?_
             · (try dsimp only)
               rw [hit, List.map_set]
               exact weak_do5 []
             try dsimp only
             omega
           · have hms := lkRow_miss (g := g) (ls := ls) (rs := rs) (right := false) (n := ox) (i := 0) (k := k) (by simpa using hc)
             generalize lkRow g ls rs false ox 0 k = L at *
             repeat' (first
               | (with_reducible apply Req_intro); focus (first | omega | assumption | (simp; done))
               | with_reducible (first | apply Req_intro | refine nilT ?_ fun hn => ?_ | apply wk_draw Tryd_mixed | refine drawEnd (by kernel_rfl) ?_)
               | (with_reducible (first | apply condA_if | apply stepDG_ifN | apply stepDG_if | apply stepG_ifN | apply stepG_if)) <;> intro hb <;> (have hif := hb) <;> (try simp only [bo] at hif) <;> (try simp -implicitDefEqProofs (disch := omega) only [go_sem, hb]) <;> clear hb
               | simp (maxSteps := 1000000) -implicitDefEqProofs (disch := omega) only [go_sem])
             all_goals first | exact absurd trivial ‹¬True› | exact absurd ‹false = true› (by decide) | exact absurd ‹true = false› (by decide) | (exfalso; omega) | omega | skip
             with_reducible refine nxt_w (k + 1) ?_ ?_
             · (try dsimp only)
               rw [hms]
               exact weak_do5 []
             try dsimp only
             omega
         · obtain rfl : k = rs.length := by omega
           generalize lkRow g ls rs false ox 0 rs.length = L at *
           repeat' (first
             | (with_reducible apply Req_intro); focus (first | omega | assumption | (simp; done))
             | with_reducible (first | apply Req_intro | refine nilT ?_ fun hn => ?_ | apply wk_draw Tryd_mixed | refine drawEnd (by kernel_rfl) ?_)
             | (with_reducible (first | apply condA_if | apply stepDG_ifN | apply stepDG_if | apply stepG_ifN | apply stepG_if)) <;> intro hb <;> (have hif := hb) <;> (try simp only [bo] at hif) <;> (try simp -implicitDefEqProofs (disch := omega) only [go_sem, hb]) <;> clear hb
             | simp (maxSteps := 1000000) -implicitDefEqProofs (disch := omega) only [go_sem])
           all_goals first | exact absurd trivial ‹¬True› | exact absurd ‹false = true› (by decide) | exact absurd ‹true = false› (by decide) | (exfalso; omega) | omega | skip
           with_reducible refine nxt_w (0 + 1) ?_ ?_
           · (try dsimp only)
             rw [hnx]
             exact weak_do5 []
           try dsimp only
           omega
       · rw [lkAt_self hi1]
         have hnx := lkAt_next (g := g) (ls := ls) (rs := rs) (right := false) (n := ox) hi1
         repeat' (first
           | (with_reducible apply Req_intro); focus (first | omega | assumption | (simp; done))
           | with_reducible (first | apply Req_intro | refine nilT ?_ fun hn => ?_ | apply wk_draw Tryd_mixed | refine drawEnd (by kernel_rfl) ?_)
           | (with_reducible (first | apply condA_if | apply stepDG_ifN | apply stepDG_if | apply stepG_ifN | apply stepG_if)) <;> intro hb <;> (have hif := hb) <;> (try simp only [bo] at hif) <;> (try simp -implicitDefEqProofs (disch := omega) only [go_sem, hb]) <;> clear hb
           | simp (maxSteps := 1000000) -implicitDefEqProofs (disch := omega) only [go_sem])
         all_goals first | exact absurd trivial ‹¬True› | exact absurd ‹false = true› (by decide) | exact absurd ‹true = false› (by decide) | (exfalso; omega) | omega | skip
         refine loop_rows (α := Nat) [15, 47, 48, 49, 50, 51, 52, 53, 54, 55, 56, 57, 58, 59, 60, 61, 62, 63, 64, 65, 66, 67, 68, 69, 70, 71, 72, 73, 74, 75, 76, 77, 78, 79, 80, 81, 82] (fun k => [(15, .lit (.int .i64 k))]) (fun k => [(0, some ⟨2, [[.sl 2 (ls.map encGd) e1, .sl 2 (rs.map encGd) e2]], 38, .wr⟩), (64, some ⟨4, [[int g.sc, int g.ga, int g.we, int g.cu]], 26, .wr⟩), (1921, some ⟨1, famB 1922 ls.length rs.length, 111, .wr⟩), (1922, some ⟨1, (lkAt g ls rs false ox 1 0).map encBo, 4, .wr⟩), (1923, some ⟨1, (lkRow g ls rs false ox 1 k).map encBo, 4, .wr⟩), (1924, some ⟨1, (lkAt g ls rs false ox 1 2).map encBo, 4, .wr⟩), (1925, some ⟨1, (lkAt g ls rs false ox 1 3).map encBo, 4, .wr⟩), (1926, some ⟨1, (lkAt g ls rs false ox 1 4).map encBo, 4, .wr⟩), (1927, some ⟨1, (lkAt g ls rs false ox 1 5).map encBo, 4, .wr⟩)]) (fun k => k ≤ rs.length) (fun k => rs.length - k) 0 (fun x => by simp (maxSteps := 1000000) -implicitDefEqProofs (disch := omega) only [go_sem]; rfl) ?_ ?_ fun x hx => ?_
         · exact weak_do5 []
         · exact Nat.zero_le _
         rename Nat => k
         have hrl := lkRow_len g ls rs false ox 1 k
         by_cases hk1 : k < rs.length
         · have hal := hAl 1 k hi1 hk1
           by_cases hc : 1 = ox
           · have hit := lkRow_hit (g := g) (ls := ls) (rs := rs) (right := false) (n := ox) (i := 1) (k := k) hk1 (by simpa using hc)
             generalize lkRow g ls rs false ox 1 k = L at *
             repeat' (first
               | (with_reducible apply Req_intro); focus (first | omega | assumption | (simp; done))
               | with_reducible (first | apply Req_intro | refine nilT ?_ fun hn => ?_ | apply wk_draw Tryd_mixed | refine drawEnd (by kernel_rfl) ?_)
               | (with_reducible (first | apply condA_if | apply stepDG_ifN | apply stepDG_if | apply stepG_ifN | apply stepG_if)) <;> intro hb <;> (have hif := hb) <;> (try simp only [bo] at hif) <;> (try simp -implicitDefEqProofs (disch := omega) only [go_sem, hb]) <;> clear hb
               | simp (maxSteps := 1000000) -implicitDefEqProofs (disch := omega) only [go_sem])
             all_goals first | exact absurd trivial ‹¬True› | exact absurd ‹false = true› (by decide) | exact absurd ‹true = false› (by decide) | (exfalso; omega) | omega | skip
             refine calld hal ?_
             try simp (maxSteps := 1000000) -implicitDefEqProofs (disch := omega) only [go_sem]
             repeat' (first
               | (with_reducible apply Req_intro); focus (first | omega | assumption | (simp; done))
               | with_reducible (first | apply Req_intro | refine nilT ?_ fun hn => ?_ | apply wk_draw Tryd_mixed | refine drawEnd (by kernel_rfl) ?_)
               | (with_reducible (first | apply condA_if | apply stepDG_ifN | apply stepDG_if | apply stepG_ifN | apply stepG_if)) <;> intro hb <;> (have hif := hb) <;> (try simp only [bo] at hif) <;> (try simp -implicitDefEqProofs (disch := omega) only [go_sem, hb]) <;> clear hb
               | simp (maxSteps := 1000000) -implicitDefEqProofs (disch := omega) only [go_sem])
             all_goals first | exact absurd trivial ‹¬True› | exact absurd ‹false = true› (by decide) | exact absurd ‹true = false› (by decide) | (exfalso; omega) | omega | skip
             with_reducible refine nxt_w (k + 1) ?_ ?_
             · (try dsimp only)
               rw [hit, List.map_set]
               exact weak_do5 []
             try dsimp only
             omega
           · have hms := lkRow_miss (g := g) (ls := ls) (rs := rs) (right := false) (n := ox) (i := 1) (k := k) (by simpa using hc)
             generalize lkRow g ls rs false ox 1 k = L at *
             repeat' (first
               | (with_reducible apply Req_intro); focus (first | omega | assumption | (simp; done))
               | with_reducible (first | apply Req_intro | refine nilT ?_ fun hn => ?_ | apply wk_draw Tryd_mixed | refine drawEnd (by kernel_rfl) ?_)
               | (with_reducible (first | apply condA_if | apply stepDG_ifN | apply stepDG_if | apply stepG_ifN | apply stepG_if)) <;> intro hb <;> (have hif := hb) <;> (try simp only [bo] at hif) <;> (try simp -implicitDefEqProofs (disch := omega) only [go_sem, hb]) <;> clear hb
               | simp (maxSteps := 1000000) -implicitDefEqProofs (disch := omega) only [go_sem])
             all_goals first | exact absurd trivial ‹¬True› | exact absurd ‹false = true› (by decide) | exact absurd ‹true = false› (by decide) | (exfalso; omega) | omega | skip
             with_reducible refine nxt_w (k + 1) ?_ ?_
             · (try dsimp only)
               rw [hms]
               exact weak_do5 []
             try dsimp only
             omega
         · obtain rfl : k = rs.length := by omega
           generalize lkRow g ls rs false ox 1 rs.length = L at *
           repeat' (first
             | (with_reducible apply Req_intro); focus (first | omega | assumption | (simp; done))
             | with_reducible (first | apply Req_intro | refine nilT ?_ fun hn => ?_ | apply wk_draw Tryd_mixed | refine drawEnd (by kernel_rfl) ?_)
             | (with_reducible (first | apply condA_if | apply stepDG_ifN | apply stepDG_if | apply stepG_ifN | apply stepG_if)) <;> intro hb <;> (have hif := hb) <;> (try simp only [bo] at hif) <;> (try simp -implicitDefEqProofs (disch := omega) only [go_sem, hb]) <;> clear hb
             | simp (maxSteps := 1000000) -implicitDefEqProofs (disch := omega) only [go_sem])
           all_goals first | exact absurd trivial ‹¬True› | exact absurd ‹false = true› (by decide) | exact absurd ‹true = false› (by decide) | (exfalso; omega) | omega | skip
           with_reducible refine nxt_w (1 + 1) ?_ ?_
           · (try dsimp only)
             rw [hnx]
             exact weak_do5 []
           try dsimp only
           omega
       · rw [lkAt_self hi1]
         have hnx := lkAt_next (g := g) (ls := ls) (rs := rs) (right := false) (n := ox) hi1
         repeat' (first
           | (with_reducible apply Req_intro); focus (first | omega | assumption | (simp; done))
           | with_reducible (first | apply Req_intro | refine nilT ?_ fun hn => ?_ | apply wk_draw Tryd_mixed | refine drawEnd (by kernel_rfl) ?_)
           | (with_reducible (first | apply condA_if | apply stepDG_ifN | apply stepDG_if | apply stepG_ifN | apply stepG_if)) <;> intro hb <;> (have hif := hb) <;> (try simp only [bo] at hif) <;> (try simp -implicitDefEqProofs (disch := omega) only [go_sem, hb]) <;> clear hb
           | simp (maxSteps := 1000000) -implicitDefEqProofs (disch := omega) only [go_sem])
         all_goals first | exact absurd trivial ‹¬True› | exact absurd ‹false = true› (by decide) | exact absurd ‹true = false› (by decide) | (exfalso; omega) | omega | skip
         refine loop_rows (α := Nat) [15, 47, 48, 49, 50, 51, 52, 53, 54, 55, 56, 57, 58, 59, 60, 61, 62, 63, 64, 65, 66, 67, 68, 69, 70, 71, 72, 73, 74, 75, 76, 77, 78, 79, 80, 81, 82] (fun k => [(15, .lit (.int .i64 k))]) (fun k => [(0, some ⟨2, [[.sl 2 (ls.map encGd) e1, .sl 2 (rs.map encGd) e2]], 38, .wr⟩), (64, some ⟨4, [[int g.sc, int g.ga, int g.we, int g.cu]], 26, .wr⟩), (1921, some ⟨1, famB 1922 ls.length rs.length, 111, .wr⟩), (1922, some ⟨1, (lkAt g ls rs false ox 2 0).map encBo, 4, .wr⟩), (1923, some ⟨1, (lkAt g ls rs false ox 2 1).map encBo, 4, .wr⟩), (1924, some ⟨1, (lkRow g ls rs false ox 2 k).map encBo, 4, .wr⟩), (1925, some ⟨1, (lkAt g ls rs false ox 2 3).map encBo, 4, .wr⟩), (1926, some ⟨1, (lkAt g ls rs false ox 2 4).map encBo, 4, .wr⟩), (1927, some ⟨1, (lkAt g ls rs false ox 2 5).map encBo, 4, .wr⟩)]) (fun k => k ≤ rs.length) (fun k => rs.length - k) 0 (fun x => by simp (maxSteps := 1000000) -implicitDefEqProofs (disch := omega) only [go_sem]; rfl) ?_ ?_ fun x hx => ?_
         · exact weak_do5 []
         · exact Nat.zero_le _
         rename Nat => k
         have hrl := lkRow_len g ls rs false ox 2 k
         by_cases hk1 : k < rs.length
         · have hal := hAl 2 k hi1 hk1
           by_cases hc : 2 = ox
           · have hit := lkRow_hit (g := g) (ls := ls) (rs := rs) (right := false) (n := ox) (i := 2) (k := k) hk1 (by simpa using hc)
             generalize lkRow g ls rs false ox 2 k = L at *
             repeat' (first
               | (with_reducible apply Req_intro); focus (first | omega | assumption | (simp; done))
               | with_reducible (first | apply Req_intro | refine nilT ?_ fun hn => ?_ | apply wk_draw Tryd_mixed | refine drawEnd (by kernel_rfl) ?_)
               | (with_reducible (first | apply condA_if | apply stepDG_ifN | apply stepDG_if | apply stepG_ifN | apply stepG_if)) <;> intro hb <;> (have hif := hb) <;> (try simp only [bo] at hif) <;> (try simp -implicitDefEqProofs (disch := omega) only [go_sem, hb]) <;> clear hb
               | simp (maxSteps := 1000000) -implicitDefEqProofs (disch := omega) only [go_sem])
             all_goals first | exact absurd trivial ‹¬True› | exact absurd ‹false = true› (by decide) | exact absurd ‹true = false› (by decide) | (exfalso; omega) | omega | skip
             refine calld hal ?_
             try simp (maxSteps := 1000000) -implicitDefEqProofs (disch := omega) only [go_sem]
             repeat' (first
               | (with_reducible apply Req_intro); focus (first | omega | assumption | (simp; done))
               | with_reducible (first | apply Req_intro | refine nilT ?_ fun hn => ?_ | apply wk_draw Tryd_mixed | refine drawEnd (by kernel_rfl) ?_)
               | (with_reducible (first | apply condA_if | apply stepDG_ifN | apply stepDG_if | apply stepG_ifN | apply stepG_if)) <;> intro hb <;> (have hif := hb) <;> (try simp only [bo] at hif) <;> (try simp -implicitDefEqProofs (disch := omega) only [go_sem, hb]) <;> clear hb
               | simp (maxSteps := 1000000) -implicitDefEqProofs (disch := omega) only [go_sem])
             all_goals first | exact absurd trivial ‹¬True› | exact absurd ‹false = true› (by decide) | exact absurd ‹true = false› (by decide) | (exfalso; omega) | omega | skip
             with_reducible refine nxt_w (k + 1) ?_ ?_
             · (try dsimp only)
               rw [hit, List.map_set]
               exact weak_do5 []
             try dsimp only
             omega
           · have hms := lkRow_miss (g := g) (ls := ls) (rs := rs) (right := false) (n := ox) (i := 2) (k := k) (by simpa using hc)
             generalize lkRow g ls rs false ox 2 k = L at *
             repeat' (first
               | (with_reducible apply Req_intro); focus (first | omega | assumption | (simp; done))
               | with_reducible (first | apply Req_intro | refine nilT ?_ fun hn => ?_ | apply wk_draw Tryd_mixed | refine drawEnd (by kernel_rfl) ?_)
               | (with_reducible (first | apply condA_if | apply stepDG_ifN | apply stepDG_if | apply stepG_ifN | apply stepG_if)) <;> intro hb <;> (have hif := hb) <;> (try simp only [bo] at hif) <;> (try simp -implicitDefEqProofs (disch := omega) only [go_sem, hb]) <;> clear hb
               | simp (maxSteps := 1000000) -implicitDefEqProofs (disch := omega) only [go_sem])
             all_goals first | exact absurd trivial ‹¬True› | exact absurd ‹false = true› (by decide) | exact absurd ‹true = false› (by decide) | (exfalso; omega) | omega | skip
             with_reducible refine nxt_w (k + 1) ?_ ?_
             · (try dsimp only)
               rw [hms]
               exact weak_do5 []
             try dsimp only
             omega
         · obtain rfl : k = rs.length := by omega
           generalize lkRow g ls rs false ox 2 rs.length = L at *
           repeat' (first
             | (with_reducible apply Req_intro); focus (first | omega | assumption | (simp; done))
             | with_reducible (first | apply Req_intro | refine nilT ?_ fun hn => ?_ | apply wk_draw Tryd_mixed | refine drawEnd (by kernel_rfl) ?_)
             | (with_reducible (first | apply condA_if | apply stepDG_ifN | apply stepDG_if | apply stepG_ifN | apply stepG_if)) <;> intro hb <;> (have hif := hb) <;> (try simp only [bo] at hif) <;> (try simp -implicitDefEqProofs (disch := omega) only [go_sem, hb]) <;> clear hb
             | simp (maxSteps := 1000000) -implicitDefEqProofs (disch := omega) only [go_sem])
           all_goals first | exact absurd trivial ‹¬True› | exact absurd ‹false = true› (by decide) | exact absurd ‹true = false› (by decide) | (exfalso; omega) | omega | skip
           with_reducible refine nxt_w (2 + 1) ?_ ?_
           · (try dsimp only)
             rw [hnx]
             exact weak_do5 []
           try dsimp only
           omega
       · rw [lkAt_self hi1]
         have hnx := lkAt_next (g := g) (ls := ls) (rs := rs) (right := false) (n := ox) hi1
         repeat' (first
           | (with_reducible apply Req_intro); focus (first | omega | assumption | (simp; done))
           | with_reducible (first | apply Req_intro | refine nilT ?_ fun hn => ?_ | apply wk_draw Tryd_mixed | refine drawEnd (by kernel_rfl) ?_)
           | (with_reducible (first | apply condA_if | apply stepDG_ifN | apply stepDG_if | apply stepG_ifN | apply stepG_if)) <;> intro hb <;> (have hif := hb) <;> (try simp only [bo] at hif) <;> (try simp -implicitDefEqProofs (disch := omega) only [go_sem, hb]) <;> clear hb
           | simp (maxSteps := 1000000) -implicitDefEqProofs (disch := omega) only [go_sem])
         all_goals first | exact absurd trivial ‹¬True› | exact absurd ‹false = true› (by decide) | exact absurd ‹true = false› (by decide) | (exfalso; omega) | omega | skip
         refine loop_rows (α := Nat) [15, 47, 48, 49, 50, 51, 52, 53, 54, 55, 56, 57, 58, 59, 60, 61, 62, 63, 64, 65, 66, 67, 68, 69, 70, 71, 72, 73, 74, 75, 76, 77, 78, 79, 80, 81, 82] (fun k => [(15, .lit (.int .i64 k))]) (fun k => [(0, some ⟨2, [[.sl 2 (ls.map encGd) e1, .sl 2 (rs.map encGd) e2]], 38, .wr⟩), (64, some ⟨4, [[int g.sc, int g.ga, int g.we, int g.cu]], 26, .wr⟩), (1921, some ⟨1, famB 1922 ls.length rs.length, 111, .wr⟩), (1922, some ⟨1, (lkAt g ls rs false ox 3 0).map encBo, 4, .wr⟩), (1923, some ⟨1, (lkAt g ls rs false ox 3 1).map encBo, 4, .wr⟩), (1924, some ⟨1, (lkAt g ls rs false ox 3 2).map encBo, 4, .wr⟩), (1925, some ⟨1, (lkRow g ls rs false ox 3 k).map encBo, 4, .wr⟩), (1926, some ⟨1, (lkAt g ls rs false ox 3 4).map encBo, 4, .wr⟩), (1927, some ⟨1, (lkAt g ls rs false ox 3 5).map encBo, 4, .wr⟩)]) (fun k => k ≤ rs.length) (fun k => rs.length - k) 0 (fun x => by simp (maxSteps := 1000000) -implicitDefEqProofs (disch := omega) only [go_sem]; rfl) ?_ ?_ fun x hx => ?_
         · exact weak_do5 []
         · exact Nat.zero_le _
         rename Nat => k
         have hrl := lkRow_len g ls rs false ox 3 k
         by_cases hk1 : k < rs.length
         · have hal := hAl 3 k hi1 hk1
           by_cases hc : 3 = ox
           · have hit := lkRow_hit (g := g) (ls := ls) (rs := rs) (right := false) (n := ox) (i := 3) (k := k) hk1 (by simpa using hc)
             generalize lkRow g ls rs false ox 3 k = L at *
             repeat' (first
               | (with_reducible apply Req_intro); focus (first | omega | assumption | (simp; done))
               | with_reducible (first | apply Req_intro | refine nilT ?_ fun hn => ?_ | apply wk_draw Tryd_mixed | refine drawEnd (by kernel_rfl) ?_)
               | (with_reducible (first | apply condA_if | apply stepDG_ifN | apply stepDG_if | apply stepG_ifN | apply stepG_if)) <;> intro hb <;> (have hif := hb) <;> (try simp only [bo] at hif) <;> (try simp -implicitDefEqProofs (disch := omega) only [go_sem, hb]) <;> clear hb
               | simp (maxSteps := 1000000) -implicitDefEqProofs (disch := omega) only [go_sem])
             all_goals first | exact absurd trivial ‹¬True› | exact absurd ‹false = true› (by decide) | exact absurd ‹true = false› (by decide) | (exfalso; omega) | omega | skip
             refine calld hal ?_
             try simp (maxSteps := 1000000) -implicitDefEqProofs (disch := omega) only [go_sem]
             repeat' (first
               | (with_reducible apply Req_intro); focus (first | omega | assumption | (simp; done))
               | with_reducible (first | apply Req_intro | refine nilT ?_ fun hn => ?_ | apply wk_draw Tryd_mixed | refine drawEnd (by kernel_rfl) ?_)
               | (with_reducible (first | apply condA_if | apply stepDG_ifN | apply stepDG_if | apply stepG_ifN | apply stepG_if)) <;> intro hb <;> (have hif := hb) <;> (try simp only [bo] at hif) <;> (try simp -implicitDefEqProofs (disch := omega) only [go_sem, hb]) <;> clear hb
               | simp (maxSteps := 1000000) -implicitDefEqProofs (disch := omega) only [go_sem])
             all_goals first | exact absurd trivial ‹¬True› | exact absurd ‹false = true› (by decide) | exact absurd ‹true = false› (by decide) | (exfalso; omega) | omega | skip
             with_reducible refine nxt_w (k + 1) ?_ ?_
             · (try dsimp only)
               rw [hit, List.map_set]
               exact weak_do5 []
             try dsimp only
             omega
           · have hms := lkRow_miss (g := g) (ls := ls) (rs := rs) (right := false) (n := ox) (i := 3) (k := k) (by simpa using hc)
             generalize lkRow g ls rs false ox 3 k = L at *
             repeat' (first
               | (with_reducible apply Req_intro); focus (first | omega | assumption | (simp; done))
               | with_reducible (first | apply Req_intro | refine nilT ?_ fun hn => ?_ | apply wk_draw Tryd_mixed | refine drawEnd (by kernel_rfl) ?_)
               | (with_reducible (first | apply condA_if | apply stepDG_ifN | apply stepDG_if | apply stepG_ifN | apply stepG_if)) <;> intro hb <;> (have hif := hb) <;> (try simp only [bo] at hif) <;> (try simp -implicitDefEqProofs (disch := omega) only [go_sem, hb]) <;> clear hb
               | simp (maxSteps := 1000000) -implicitDefEqProofs (disch := omega) only [go_sem])
             all_goals first | exact absurd trivial ‹¬True› | exact absurd ‹false = true› (by decide) | exact absurd ‹true = false› (by decide) | (exfalso; omega) | omega | skip
             with_reducible refine nxt_w (k + 1) ?_ ?_
             · (try dsimp only)
               rw [hms]
               exact weak_do5 []
             try dsimp only
             omega
         · obtain rfl : k = rs.length := by omega
           generalize lkRow g ls rs false ox 3 rs.length = L at *
           repeat' (first
             | (with_reducible apply Req_intro); focus (first | omega | assumption | (simp; done))
             | with_reducible (first | apply Req_intro | refine nilT ?_ fun hn => ?_ | apply wk_draw Tryd_mixed | refine drawEnd (by kernel_rfl) ?_)
             | (with_reducible (first | apply condA_if | apply stepDG_ifN | apply stepDG_if | apply stepG_ifN | apply stepG_if)) <;> intro hb <;> (have hif := hb) <;> (try simp only [bo] at hif) <;> (try simp -implicitDefEqProofs (disch := omega) only [go_sem, hb]) <;> clear hb
             | simp (maxSteps := 1000000) -implicitDefEqProofs (disch := omega) only [go_sem])
           all_goals first | exact absurd trivial ‹¬True› | exact absurd ‹false = true› (by decide) | exact absurd ‹true = false› (by decide) | (exfalso; omega) | omega | skip
           with_reducible refine nxt_w (3 + 1) ?_ ?_
           · (try dsimp only)
             rw [hnx]
             exact weak_do5 []
           try dsimp only
           omega
       · rw [lkAt_self hi1]
         have hnx := lkAt_next (g := g) (ls := ls) (rs := rs) (right := false) (n := ox) hi1
         repeat' (first
           | (with_reducible apply Req_intro); focus (first | omega | assumption | (simp; done))
           | with_reducible (first | apply Req_intro | refine nilT ?_ fun hn => ?_ | apply wk_draw Tryd_mixed | refine drawEnd (by kernel_rfl) ?_)
           | (with_reducible (first | apply condA_if | apply stepDG_ifN | apply stepDG_if | apply stepG_ifN | apply stepG_if)) <;> intro hb <;> (have hif := hb) <;> (try simp only [bo] at hif) <;> (try simp -implicitDefEqProofs (disch := omega) only [go_sem, hb]) <;> clear hb
           | simp (maxSteps := 1000000) -implicitDefEqProofs (disch := omega) only [go_sem])
         all_goals first | exact absurd trivial ‹¬True› | exact absurd ‹false = true› (by decide) | exact absurd ‹true = false› (by decide) | (exfalso; omega) | omega | skip
         refine loop_rows (α := Nat) [15, 47, 48, 49, 50, 51, 52, 53, 54, 55, 56, 57, 58, 59, 60, 61, 62, 63, 64, 65, 66, 67, 68, 69, 70, 71, 72, 73, 74, 75, 76, 77, 78, 79, 80, 81, 82] (fun k => [(15, .lit (.int .i64 k))]) (fun k => [(0, some ⟨2, [[.sl 2 (ls.map encGd) e1, .sl 2 (rs.map encGd) e2]], 38, .wr⟩), (64, some ⟨4, [[int g.sc, int g.ga, int g.we, int g.cu]], 26, .wr⟩), (1921, some ⟨1, famB 1922 ls.length rs.length, 111, .wr⟩), (1922, some ⟨1, (lkAt g ls rs false ox 4 0).map encBo, 4, .wr⟩), (1923, some ⟨1, (lkAt g ls rs false ox 4 1).map encBo, 4, .wr⟩), (1924, some ⟨1, (lkAt g ls rs false ox 4 2).map encBo, 4, .wr⟩), (1925, some ⟨1, (lkAt g ls rs false ox 4 3).map encBo, 4, .wr⟩), (1926, some ⟨1, (lkRow g ls rs false ox 4 k).map encBo, 4, .wr⟩), (1927, some ⟨1, (lkAt g ls rs false ox 4 5).map encBo, 4, .wr⟩)]) (fun k => k ≤ rs.length) (fun k => rs.length - k) 0 (fun x => by simp (maxSteps := 1000000) -implicitDefEqProofs (disch := omega) only [go_sem]; rfl) ?_ ?_ fun x hx => ?_
         · exact weak_do5 []
         · exact Nat.zero_le _
         rename Nat => k
         have hrl := lkRow_len g ls rs false ox 4 k
         by_cases hk1 : k < rs.length
         · have hal := hAl 4 k hi1 hk1
           by_cases hc : 4 = ox
           · have hit := lkRow_hit (g := g) (ls := ls) (rs := rs) (right := false) (n := ox) (i := 4) (k := k) hk1 (by simpa using hc)
             generalize lkRow g ls rs false ox 4 k = L at *
             repeat' (first
               | (with_reducible apply Req_intro); focus (first | omega | assumption | (simp; done))
               | with_reducible (first | apply Req_intro | refine nilT ?_ fun hn => ?_ | apply wk_draw Tryd_mixed | refine drawEnd (by kernel_rfl) ?_)
               | (with_reducible (first | apply condA_if | apply stepDG_ifN | apply stepDG_if | apply stepG_ifN | apply stepG_if)) <;> intro hb <;> (have hif := hb) <;> (try simp only [bo] at hif) <;> (try simp -implicitDefEqProofs (disch := omega) only [go_sem, hb]) <;> clear hb
               | simp (maxSteps := 1000000) -implicitDefEqProofs (disch := omega) only [go_sem])
             all_goals first | exact absurd trivial ‹¬True› | exact absurd ‹false = true› (by decide) | exact absurd ‹true = false› (by decide) | (exfalso; omega) | omega | skip
             refine calld hal ?_
             try simp (maxSteps := 1000000) -implicitDefEqProofs (disch := omega) only [go_sem]
             repeat' (first
               | (with_reducible apply Req_intro); focus (first | omega | assumption | (simp; done))
               | with_reducible (first | apply Req_intro | refine nilT ?_ fun hn => ?_ | apply wk_draw Tryd_mixed | refine drawEnd (by kernel_rfl) ?_)
               | (with_reducible (first | apply condA_if | apply stepDG_ifN | apply stepDG_if | apply stepG_ifN | apply stepG_if)) <;> intro hb <;> (have hif := hb) <;> (try simp only [bo] at hif) <;> (try simp -implicitDefEqProofs (disch := omega) only [go_sem, hb]) <;> clear hb
               | simp (maxSteps := 1000000) -implicitDefEqProofs (disch := omega) only [go_sem])
             all_goals first | exact absurd trivial ‹¬True› | exact absurd ‹false = true› (by decide) | exact absurd ‹true = false› (by decide) | (exfalso; omega) | omega | skip
             with_reducible refine nxt_w (k + 1) ?_ ?_
             · (try dsimp only)
               rw [hit, List.map_set]
               exact weak_do5 []
             try dsimp only
             omega
           · have hms := lkRow_miss (g := g) (ls := ls) (rs := rs) (right := false) (n := ox) (i := 4) (k := k) (by simpa using hc)
             generalize lkRow g ls rs false ox 4 k = L at *
             repeat' (first
               | (with_reducible apply Req_intro); focus (first | omega | assumption | (simp; done))
               | with_reducible (first | apply Req_intro | refine nilT ?_ fun hn => ?_ | apply wk_draw Tryd_mixed | refine drawEnd (by kernel_rfl) ?_)
               | (with_reducible (first | apply condA_if | apply stepDG_ifN | apply stepDG_if | apply stepG_ifN | apply stepG_if)) <;> intro hb <;> (have hif := hb) <;> (try simp only [bo] at hif) <;> (try simp -implicitDefEqProofs (disch := omega) only [go_sem, hb]) <;> clear hb
               | simp (maxSteps := 1000000) -implicitDefEqProofs (disch := omega) only [go_sem])
             all_goals first | exact absurd trivial ‹¬True› | exact absurd ‹false = true› (by decide) | exact absurd ‹true = false› (by decide) | (exfalso; omega) | omega | skip
             with_reducible refine nxt_w (k + 1) ?_ ?_
             · (try dsimp only)
               rw [hms]
               exact weak_do5 []
             try dsimp only
             omega
         · obtain rfl : k = rs.length := by omega
           generalize lkRow g ls rs false ox 4 rs.length = L at *
           repeat' (first
             | (with_reducible apply Req_intro); focus (first | omega | assumption | (simp; done))
             | with_reducible (first | apply Req_intro | refine nilT ?_ fun hn => ?_ | apply wk_draw Tryd_mixed | refine drawEnd (by kernel_rfl) ?_)
             | (with_reducible (first | apply condA_if | apply stepDG_ifN | apply stepDG_if | apply stepG_ifN | apply stepG_if)) <;> intro hb <;> (have hif := hb) <;> (try simp only [bo] at hif) <;> (try simp -implicitDefEqProofs (disch := omega) only [go_sem, hb]) <;> clear hb
             | simp (maxSteps := 1000000) -implicitDefEqProofs (disch := omega) only [go_sem])
           all_goals first | exact absurd trivial ‹¬True› | exact absurd ‹false = true› (by decide) | exact absurd ‹true = false› (by decide) | (exfalso; omega) | omega | skip
           with_reducible refine nxt_w (4 + 1) ?_ ?_
           · (try dsimp only)
             rw [hnx]
             exact weak_do5 []
           try dsimp only
           omega
       · rw [lkAt_self hi1]
         have hnx := lkAt_next (g := g) (ls := ls) (rs := rs) (right := false) (n := ox) hi1
         repeat' (first
           | (with_reducible apply Req_intro); focus (first | omega | assumption | (simp; done))
           | with_reducible (first | apply Req_intro | refine nilT ?_ fun hn => ?_ | apply wk_draw Tryd_mixed | refine drawEnd (by kernel_rfl) ?_)
           | (with_reducible (first | apply condA_if | apply stepDG_ifN | apply stepDG_if | apply stepG_ifN | apply stepG_if)) <;> intro hb <;> (have hif := hb) <;> (try simp only [bo] at hif) <;> (try simp -implicitDefEqProofs (disch := omega) only [go_sem, hb]) <;> clear hb
           | simp (maxSteps := 1000000) -implicitDefEqProofs (disch := omega) only [go_sem])
         all_goals first | exact absurd trivial ‹¬True› | exact absurd ‹false = true› (by decide) | exact absurd ‹true = false› (by decide) | (exfalso; omega) | omega | skip
         refine loop_rows (α := Nat) [15, 47, 48, 49, 50, 51, 52, 53, 54, 55, 56, 57, 58, 59, 60, 61, 62, 63, 64, 65, 66, 67, 68, 69, 70, 71, 72, 73, 74, 75, 76, 77, 78, 79, 80, 81, 82] (fun k => [(15, .lit (.int .i64 k))]) (fun k => [(0, some ⟨2, [[.sl 2 (ls.map encGd) e1, .sl 2 (rs.map encGd) e2]], 38, .wr⟩), (64, some ⟨4, [[int g.sc, int g.ga, int g.we, int g.cu]], 26, .wr⟩), (1921, some ⟨1, famB 1922 ls.length rs.length, 111, .wr⟩), (1922, some ⟨1, (lkAt g ls rs false ox 5 0).map encBo, 4, .wr⟩), (1923, some ⟨1, (lkAt g ls rs false ox 5 1).map encBo, 4, .wr⟩), (1924, some ⟨1, (lkAt g ls rs false ox 5 2).map encBo, 4, .wr⟩), (1925, some ⟨1, (lkAt g ls rs false ox 5 3).map encBo, 4, .wr⟩), (1926, some ⟨1, (lkAt g ls rs false ox 5 4).map encBo, 4, .wr⟩), (1927, some ⟨1, (lkRow g ls rs false ox 5 k).map encBo, 4, .wr⟩)]) (fun k => k ≤ rs.length) (fun k => rs.length - k) 0 (fun x => by simp (maxSteps := 1000000) -implicitDefEqProofs (disch := omega) only [go_sem]; rfl) ?_ ?_ fun x hx => ?_
         · exact weak_do5 []
         · exact Nat.zero_le _
         rename Nat => k
         have hrl := lkRow_len g ls rs false ox 5 k
         by_cases hk1 : k < rs.length
         · have hal := hAl 5 k hi1 hk1
           by_cases hc : 5 = ox
           · have hit := lkRow_hit (g := g) (ls := ls) (rs := rs) (right := false) (n := ox) (i := 5) (k := k) hk1 (by simpa using hc)
             generalize lkRow g ls rs false ox 5 k = L at *
             repeat' (first
               | (with_reducible apply Req_intro); focus (first | omega | assumption | (simp; done))
               | with_reducible (first | apply Req_intro | refine nilT ?_ fun hn => ?_ | apply wk_draw Tryd_mixed | refine drawEnd (by kernel_rfl) ?_)
               | (with_reducible (first | apply condA_if | apply stepDG_ifN | apply stepDG_if | apply stepG_ifN | apply stepG_if)) <;> intro hb <;> (have hif := hb) <;> (try simp only [bo] at hif) <;> (try simp -implicitDefEqProofs (disch := omega) only [go_sem, hb]) <;> clear hb
               | simp (maxSteps := 1000000) -implicitDefEqProofs (disch := omega) only [go_sem])
             all_goals first | exact absurd trivial ‹¬True› | exact absurd ‹false = true› (by decide) | exact absurd ‹true = false› (by decide) | (exfalso; omega) | omega | skip
             refine calld hal ?_
             try simp (maxSteps := 1000000) -implicitDefEqProofs (disch := omega) only [go_sem]
             repeat' (first
               | (with_reducible apply Req_intro); focus (first | omega | assumption | (simp; done))
               | with_reducible (first | apply Req_intro | refine nilT ?_ fun hn => ?_ | apply wk_draw Tryd_mixed | refine drawEnd (by kernel_rfl) ?_)
               | (with_reducible (first | apply condA_if | apply stepDG_ifN | apply stepDG_if | apply stepG_ifN | apply stepG_if)) <;> intro hb <;> (have hif := hb) <;> (try simp only [bo] at hif) <;> (try simp -implicitDefEqProofs (disch := omega) only [go_sem, hb]) <;> clear hb
               | simp (maxSteps := 1000000) -implicitDefEqProofs (disch := omega) only [go_sem])
             all_goals first | exact absurd trivial ‹¬True› | exact absurd ‹false = true› (by decide) | exact absurd ‹true = false› (by decide) | (exfalso; omega) | omega | skip
             with_reducible refine nxt_w (k + 1) ?_ ?_
             · (try dsimp only)
               rw [hit, List.map_set]
               exact weak_do5 []
             try dsimp only
             omega
           · have hms := lkRow_miss (g := g) (ls := ls) (rs := rs) (right := false) (n := ox) (i := 5) (k := k) (by simpa using hc)
             generalize lkRow g ls rs false ox 5 k = L at *
             repeat' (first
               | (with_reducible apply Req_intro); focus (first | omega | assumption | (simp; done))
               | with_reducible (first | apply Req_intro | refine nilT ?_ fun hn => ?_ | apply wk_draw Tryd_mixed | refine drawEnd (by kernel_rfl) ?_)
               | (with_reducible (first | apply condA_if | apply stepDG_ifN | apply stepDG_if | apply stepG_ifN | apply stepG_if)) <;> intro hb <;> (have hif := hb) <;> (try simp only [bo] at hif) <;> (try simp -implicitDefEqProofs (disch := omega) only [go_sem, hb]) <;> clear hb
               | simp (maxSteps := 1000000) -implicitDefEqProofs (disch := omega) only [go_sem])
             all_goals first | exact absurd trivial ‹¬True› | exact absurd ‹false = true› (by decide) | exact absurd ‹true = false› (by decide) | (exfalso; omega) | omega | skip
             with_reducible refine nxt_w (k + 1) ?_ ?_
             · (try dsimp only)
               rw [hms]
               exact weak_do5 []
             try dsimp only
             omega
         · obtain rfl : k = rs.length := by omega
           generalize lkRow g ls rs false ox 5 rs.length = L at *
           repeat' (first
             | (with_reducible apply Req_intro); focus (first | omega | assumption | (simp; done))
             | with_reducible (first | apply Req_intro | refine nilT ?_ fun hn => ?_ | apply wk_draw Tryd_mixed | refine drawEnd (by kernel_rfl) ?_)
             | (with_reducible (first | apply condA_if | apply stepDG_ifN | apply stepDG_if | apply stepG_ifN | apply stepG_if)) <;> intro hb <;> (have hif := hb) <;> (try simp only [bo] at hif) <;> (try simp -implicitDefEqProofs (disch := omega) only [go_sem, hb]) <;> clear hb
             | simp (maxSteps := 1000000) -implicitDefEqProofs (disch := omega) only [go_sem])
           all_goals first | exact absurd trivial ‹¬True› | exact absurd ‹false = true› (by decide) | exact absurd ‹true = false› (by decide) | (exfalso; omega) | omega | skip
           with_reducible refine nxt_w (5 + 1) ?_ ?_
           · (try dsimp only)
             rw [hnx]
             exact weak_do5 []
           try dsimp only
           omega
     · obtain rfl : x = ls.length := by omega
       have hall := fun j (hj : j < ls.length) => lkAt_all (g := g) (rs := rs) (right := false) (n := ox) hj
       have hBr := lookB_row g ls rs false ox
       have hBl := lookB_len g ls rs false ox
       repeat' (first
         | (with_reducible apply Req_intro); focus (first | omega | assumption | (simp; done))
         | with_reducible (first | apply Req_intro | refine nilT ?_ fun hn => ?_ | apply wk_draw Tryd_mixed | refine drawEnd (by kernel_rfl) ?_)
         | (with_reducible (first | apply condA_if | apply stepDG_ifN | apply stepDG_if | apply stepG_ifN | apply stepG_if)) <;> intro hb <;> (have hif := hb) <;> (try simp only [bo] at hif) <;> (try simp -implicitDefEqProofs (disch := omega) only [go_sem, hb]) <;> clear hb
         | simp (maxSteps := 1000000) -implicitDefEqProofs (disch := omega) only [go_sem])
       all_goals first | exact absurd trivial ‹¬True› | exact absurd ‹false = true› (by decide) | exact absurd ‹true = false› (by decide) | (exfalso; omega) | omega | skip
       refine callf [1921, 1922, 1923, 1924, 1925, 1926, 1927] (hp := ?_) hmo ?_
       rotate_left
       · refine .cons _ _ _ _ (Pur.osR (by rfl) rfl (by rw [famB_len]; exact Nat.le_refl _) (fun h => h) (PurE.famB hBl hBr fun j hj => ?_)) (.cons _ _ _ _ (.pu _ (.lit _)) (.cons _ _ _ _ (.pu _ (.lit _)) .nil))
         rw [← hall j hj]
         rcases (show j = 0 ∨ j = 1 ∨ j = 2 ∨ j = 3 ∨ j = 4 ∨ j = 5 by omega) with rfl | rfl | rfl | rfl | rfl | rfl <;> rfl
       try simp (maxSteps := 1000000) -implicitDefEqProofs (disch := omega) only [go_sem]
       repeat' (first
         | (with_reducible apply Req_intro); focus (first | omega | assumption | (simp; done))
         | with_reducible (first | apply Req_intro | refine nilT ?_ fun hn => ?_ | apply wk_draw Tryd_mixed | refine drawEnd (by kernel_rfl) ?_)
         | (with_reducible (first | apply condA_if | apply stepDG_ifN | apply stepDG_if | apply stepG_ifN | apply stepG_if)) <;> intro hb <;> (have hif := hb) <;> (try simp only [bo] at hif) <;> (try simp -implicitDefEqProofs (disch := omega) only [go_sem, hb]) <;> clear hb
         | simp (maxSteps := 1000000) -implicitDefEqProofs (disch := omega) only [go_sem])
       all_goals first | exact absurd trivial ‹¬True› | exact absurd ‹false = true› (by decide) | exact absurd ‹true = false› (by decide) | (exfalso; omega) | omega | skip
       · with_reducible refine nxt_w (ox + 1) ?_ ?_
         · (try dsimp only)
           rw [hLsx, if_pos (by omega)]
           exact weak_do5 []
         try dsimp only
         omega
       · with_reducible refine nxt_w (ox + 1) ?_ ?_
         · (try dsimp only)
           rw [hLsx, if_neg (by omega)]
           exact weak_do5 []
         try dsimp only
         omega
   · obtain rfl : x = ls.length := by omega
     repeat' (first
       | (with_reducible apply Req_intro); focus (first | omega | assumption | (simp; done))
       | with_reducible (first | apply Req_intro | refine nilT ?_ fun hn => ?_ | apply wk_draw Tryd_mixed | refine drawEnd (by kernel_rfl) ?_)
       | (with_reducible (first | apply condA_if | apply stepDG_ifN | apply stepDG_if | apply stepG_ifN | apply stepG_if)) <;> intro hb <;> (have hif := hb) <;> (try simp only [bo] at hif) <;> (try simp -implicitDefEqProofs (disch := omega) only [go_sem, hb]) <;> clear hb
       | simp (maxSteps := 1000000) -implicitDefEqProofs (disch := omega) only [go_sem])
     all_goals first | exact absurd trivial ‹¬True› | exact absurd ‹false = true› (by decide) | exact absurd ‹true = false› (by decide) | (exfalso; omega) | omega | skip
     with_reducible refine nxt_w (0 + 1) ?_ ?_
     · (try dsimp only)
       rw [hS1]
       exact weak_do []
     try dsimp only
     omega
 · rw [hS1]
   repeat' (first
     | (with_reducible apply Req_intro); focus (first | omega | assumption | (simp; done))
     | with_reducible (first | apply Req_intro | refine nilT ?_ fun hn => ?_ | apply wk_draw Tryd_mixed | refine drawEnd (by kernel_rfl) ?_)
     | (with_reducible (first | apply condA_if | apply stepDG_ifN | apply stepDG_if | apply stepG_ifN | apply stepG_if)) <;> intro hb <;> (have hif := hb) <;> (try simp only [bo] at hif) <;> (try simp -implicitDefEqProofs (disch := omega) only [go_sem, hb]) <;> clear hb
     | simp (maxSteps := 1000000) -implicitDefEqProofs (disch := omega) only [go_sem])
   all_goals first | exact absurd trivial ‹¬True› | exact absurd ‹false = true› (by decide) | exact absurd ‹true = false› (by decide) | (exfalso; omega) | omega | skip
   refine loop_at (α := Nat) [7, 8, 9, 12, 13, 14, 15, 16, 24, 25, 26, 27, 28, 29, 30, 31, 32, 33, 34, 35, 36, 37, 38, 39, 40, 41, 42, 43, 44, 45, 46, 47, 48, 49, 50, 51, 52, 53, 54, 55, 56, 57, 58, 59, 60, 61, 62, 63, 64, 65, 66, 67, 68, 69, 70, 71, 72, 73, 74, 75, 76, 77, 78, 79, 80, 81, 82, 83, 84, 85, 86, 87, 88, 89, 90, 91, 92, 93] (fun k => [(12, .lit (.int .i64 k)), (7, .lit (.bool (RR k).1)), (8, int (RR k).2.1), (9, int (RR k).2.2)]) (fun k => k ≤ rs.length) (fun k => rs.length - k) 0 (fun x => by simp (maxSteps := 1000000) -implicitDefEqProofs (disch := omega) only [go_sem]; rfl) ?_ ?_ fun x hx => ?_
   · rw [hR0]
     exact weak_do []
   · exact Nat.zero_le _
   have hLx := hRb x
   by_cases hlt : x < rs.length
   · have hmx := hmb true x
     have hLsx := hRs x
     have hmo := hMost true x
     rename Nat => ox
     repeat' (first
       | (with_reducible apply Req_intro); focus (first | omega | assumption | (simp; done))
       | with_reducible (first | apply Req_intro | refine nilT ?_ fun hn => ?_ | apply wk_draw Tryd_mixed | refine drawEnd (by kernel_rfl) ?_)
       | (with_reducible (first | apply condA_if | apply stepDG_ifN | apply stepDG_if | apply stepG_ifN | apply stepG_if)) <;> intro hb <;> (have hif := hb) <;> (try simp only [bo] at hif) <;> (try simp -implicitDefEqProofs (disch := omega) only [go_sem, hb]) <;> clear hb
       | simp (maxSteps := 1000000) -implicitDefEqProofs (disch := omega) only [go_sem])
     all_goals first | exact absurd trivial ‹¬True› | exact absurd ‹false = true› (by decide) | exact absurd ‹true = false› (by decide) | (exfalso; omega) | omega | skip
     refine call_table g ls rs e1 e2 n hn4 hgo hgl hgr hl (by omega) ?_ (by first | (simp only [go_sem]; done) | (simp only [go_sem]; rfl))
     try simp (maxSteps := 1000000) -implicitDefEqProofs (disch := omega) only [go_sem]
     simp only [tabRows, Nat.reduceAdd]
     refine loop_rows (α := Nat) [14, 15, 40, 41, 42, 43, 44, 45, 46, 47, 48, 49, 50, 51, 52, 53, 54, 55, 56, 57, 58, 59, 60, 61, 62, 63, 64, 65, 66, 67, 68, 69, 70, 71, 72, 73, 74, 75, 76, 77, 78, 79, 80, 81, 82] (fun i => [(14, .lit (.int .i64 i))]) (fun i => [(0, some ⟨2, [[.sl 2 (ls.map encGd) e1, .sl 2 (rs.map encGd) e2]], 38, .wr⟩), (64, some ⟨4, [[int g.sc, int g.ga, int g.we, int g.cu]], 26, .wr⟩), (1921, some ⟨1, famB 1922 ls.length rs.length, 111, .wr⟩), (1922, some ⟨1, (lkAt g ls rs true ox i 0).map encBo, 4, .wr⟩), (1923, some ⟨1, (lkAt g ls rs true ox i 1).map encBo, 4, .wr⟩), (1924, some ⟨1, (lkAt g ls rs true ox i 2).map encBo, 4, .wr⟩), (1925, some ⟨1, (lkAt g ls rs true ox i 3).map encBo, 4, .wr⟩), (1926, some ⟨1, (lkAt g ls rs true ox i 4).map encBo, 4, .wr⟩), (1927, some ⟨1, (lkAt g ls rs true ox i 5).map encBo, 4, .wr⟩)]) (fun i => i ≤ ls.length) (fun i => ls.length - i) 0 (fun x => by simp (maxSteps := 1000000) -implicitDefEqProofs (disch := omega) only [go_sem]; rfl) ?_ ?_ fun x hx => ?_
     · simp only [lkAt_zero]
       exact weak_do5 []
     · exact Nat.zero_le _
     by_cases hi1 : x < ls.length
     · rcases (show x = 0 ∨ x = 1 ∨ x = 2 ∨ x = 3 ∨ x = 4 ∨ x = 5 by omega) with rfl | rfl | rfl | rfl | rfl | rfl
       · rw [lkAt_self hi1]
         have hnx := lkAt_next (g := g) (ls := ls) (rs := rs) (right := true) (n := ox) hi1
         repeat' (first
           | (with_reducible apply Req_intro); focus (first | omega | assumption | (simp; done))
           | with_reducible (first | apply Req_intro | refine nilT ?_ fun hn => ?_ | apply wk_draw Tryd_mixed | refine drawEnd (by kernel_rfl) ?_)
           | (with_reducible (first | apply condA_if | apply stepDG_ifN | apply stepDG_if | apply stepG_ifN | apply stepG_if)) <;> intro hb <;> (have hif := hb) <;> (try simp only [bo] at hif) <;> (try simp -implicitDefEqProofs (disch := omega) only [go_sem, hb]) <;> clear hb
           | simp (maxSteps := 1000000) -implicitDefEqProofs (disch := omega) only [go_sem])
         all_goals first | exact absurd trivial ‹¬True› | exact absurd ‹false = true› (by decide) | exact absurd ‹true = false› (by decide) | (exfalso; omega) | omega | skip
         refine loop_rows (α := Nat) [15, 47, 48, 49, 50, 51, 52, 53, 54, 55, 56, 57, 58, 59, 60, 61, 62, 63, 64, 65, 66, 67, 68, 69, 70, 71, 72, 73, 74, 75, 76, 77, 78, 79, 80, 81, 82] (fun k => [(15, .lit (.int .i64 k))]) (fun k => [(0, some ⟨2, [[.sl 2 (ls.map encGd) e1, .sl 2 (rs.map encGd) e2]], 38, .wr⟩), (64, some ⟨4, [[int g.sc, int g.ga, int g.we, int g.cu]], 26, .wr⟩), (1921, some ⟨1, famB 1922 ls.length rs.length, 111, .wr⟩), (1922, some ⟨1, (lkRow g ls rs true ox 0 k).map encBo, 4, .wr⟩), (1923, some ⟨1, (lkAt g ls rs true ox 0 1).map encBo, 4, .wr⟩), (1924, some ⟨1, (lkAt g ls rs true ox 0 2).map encBo, 4, .wr⟩), (1925, some ⟨1, (lkAt g ls rs true ox 0 3).map encBo, 4, .wr⟩), (1926, some ⟨1, (lkAt g ls rs true ox 0 4).map encBo, 4, .wr⟩), (1927, some ⟨1, (lkAt g ls rs true ox 0 5).map encBo, 4, .wr⟩)]) (fun k => k ≤ rs.length) (fun k => rs.length - k) 0 (fun x => by simp (maxSteps := 1000000) -implicitDefEqProofs (disch := omega) only [go_sem]; rfl) ?_ ?_ fun x hx => ?_
         · exact weak_do5 []
         · exact Nat.zero_le _
         rename Nat => k
         have hrl := lkRow_len g ls rs true ox 0 k
         by_cases hk1 : k < rs.length
         · have hal := hAl 0 k hi1 hk1
           by_cases hc : k = ox
           · have hit := lkRow_hit (g := g) (ls := ls) (rs := rs) (right := true) (n := ox) (i := 0) (k := k) hk1 (by simpa using hc)
             generalize lkRow g ls rs true ox 0 k = L at *
             repeat' (first
               | (with_reducible apply Req_intro); focus (first | omega | assumption | (simp; done))
               | with_reducible (first | apply Req_intro | refine nilT ?_ fun hn => ?_ | apply wk_draw Tryd_mixed | refine drawEnd (by kernel_rfl) ?_)
               | (with_reducible (first | apply condA_if | apply stepDG_ifN | apply stepDG_if | apply stepG_ifN | apply stepG_if)) <;> intro hb <;> (have hif := hb) <;> (try simp only [bo] at hif) <;> (try simp -implicitDefEqProofs (disch := omega) only [go_sem, hb]) <;> clear hb
               | simp (maxSteps := 1000000) -implicitDefEqProofs (disch := omega) only [go_sem])
             all_goals first | exact absurd trivial ‹¬True› | exact absurd ‹false = true› (by decide) | exact absurd ‹true = false› (by decide) | (exfalso; omega) | omega | skip
             refine calld hal ?_
             try simp (maxSteps := 1000000) -implicitDefEqProofs (disch := omega) only [go_sem]
             repeat' (first
               | (with_reducible apply Req_intro); focus (first | omega | assumption | (simp; done))
               | with_reducible (first | apply Req_intro | refine nilT ?_ fun hn => ?_ | apply wk_draw Tryd_mixed | refine drawEnd (by kernel_rfl) ?_)
               | (with_reducible (first | apply condA_if | apply stepDG_ifN | apply stepDG_if | apply stepG_ifN | apply stepG_if)) <;> intro hb <;> (have hif := hb) <;> (try simp only [bo] at hif) <;> (try simp -implicitDefEqProofs (disch := omega) only [go_sem, hb]) <;> clear hb
               | simp (maxSteps := 1000000) -implicitDefEqProofs (disch := omega) only [go_sem])
             all_goals first | exact absurd trivial ‹¬True› | exact absurd ‹false = true› (by decide) | exact absurd ‹true = false› (by decide) | (exfalso; omega) | omega | skip
             with_reducible refine nxt_w (k + 1) ?_ ?_
             · (try dsimp only)
               rw [hit, List.map_set]
               exact weak_do5 []
             try dsimp only
             omega
           · have hms := lkRow_miss (g := g) (ls := ls) (rs := rs) (right := true) (n := ox) (i := 0) (k := k) (by simpa using hc)
             generalize lkRow g ls rs true ox 0 k = L at *
             repeat' (first
               | (with_reducible apply Req_intro); focus (first | omega | assumption | (simp; done))
               | with_reducible (first | apply Req_intro | refine nilT ?_ fun hn => ?_ | apply wk_draw Tryd_mixed | refine drawEnd (by kernel_rfl) ?_)
               | (with_reducible (first | apply condA_if | apply stepDG_ifN | apply stepDG_if | apply stepG_ifN | apply stepG_if)) <;> intro hb <;> (have hif := hb) <;> (try simp only [bo] at hif) <;> (try simp -implicitDefEqProofs (disch := omega) only [go_sem, hb]) <;> clear hb
               | simp (maxSteps := 1000000) -implicitDefEqProofs (disch := omega) only [go_sem])
             all_goals first | exact absurd trivial ‹¬True› | exact absurd ‹false = true› (by decide) | exact absurd ‹true = false› (by decide) | (exfalso; omega) | omega | skip
             with_reducible refine nxt_w (k + 1) ?_ ?_
             · (try dsimp only)
               rw [hms]
               exact weak_do5 []
             try dsimp only
             omega
         · obtain rfl : k = rs.length := by omega
           generalize lkRow g ls rs true ox 0 rs.length = L at *
           repeat' (first
             | (with_reducible apply Req_intro); focus (first | omega | assumption | (simp; done))
             | with_reducible (first | apply Req_intro | refine nilT ?_ fun hn => ?_ | apply wk_draw Tryd_mixed | refine drawEnd (by kernel_rfl) ?_)
             | (with_reducible (first | apply condA_if | apply stepDG_ifN | apply stepDG_if | apply stepG_ifN | apply stepG_if)) <;> intro hb <;> (have hif := hb) <;> (try simp only [bo] at hif) <;> (try simp -implicitDefEqProofs (disch := omega) only [go_sem, hb]) <;> clear hb
             | simp (maxSteps := 1000000) -implicitDefEqProofs (disch := omega) only [go_sem])
           all_goals first | exact absurd trivial ‹¬True› | exact absurd ‹false = true› (by decide) | exact absurd ‹true = false› (by decide) | (exfalso; omega) | omega | skip
           with_reducible refine nxt_w (0 + 1) ?_ ?_
           · (try dsimp only)
             rw [hnx]
             exact weak_do5 []
           try dsimp only
           omega
       · rw [lkAt_self hi1]
         have hnx := lkAt_next (g := g) (ls := ls) (rs := rs) (right := true) (n := ox) hi1
         repeat' (first
           | (with_reducible apply Req_intro); focus (first | omega | assumption | (simp; done))
           | with_reducible (first | apply Req_intro | refine nilT ?_ fun hn => ?_ | apply wk_draw Tryd_mixed | refine drawEnd (by kernel_rfl) ?_)
           | (with_reducible (first | apply condA_if | apply stepDG_ifN | apply stepDG_if | apply stepG_ifN | apply stepG_if)) <;> intro hb <;> (have hif := hb) <;> (try simp only [bo] at hif) <;> (try simp -implicitDefEqProofs (disch := omega) only [go_sem, hb]) <;> clear hb
           | simp (maxSteps := 1000000) -implicitDefEqProofs (disch := omega) only [go_sem])
         all_goals first | exact absurd trivial ‹¬True› | exact absurd ‹false = true› (by decide) | exact absurd ‹true = false› (by decide) | (exfalso; omega) | omega | skip
         refine loop_rows (α := Nat) [15, 47, 48, 49, 50, 51, 52, 53, 54, 55, 56, 57, 58, 59, 60, 61, 62, 63, 64, 65, 66, 67, 68, 69, 70, 71, 72, 73, 74, 75, 76, 77, 78, 79, 80, 81, 82] (fun k => [(15, .lit (.int .i64 k))]) (fun k => [(0, some ⟨2, [[.sl 2 (ls.map encGd) e1, .sl 2 (rs.map encGd) e2]], 38, .wr⟩), (64, some ⟨4, [[int g.sc, int g.ga, int g.we, int g.cu]], 26, .wr⟩), (1921, some ⟨1, famB 1922 ls.length rs.length, 111, .wr⟩), (1922, some ⟨1, (lkAt g ls rs true ox 1 0).map encBo, 4, .wr⟩), (1923, some ⟨1, (lkRow g ls rs true ox 1 k).map encBo, 4, .wr⟩), (1924, some ⟨1, (lkAt g ls rs true ox 1 2).map encBo, 4, .wr⟩), (1925, some ⟨1, (lkAt g ls rs true ox 1 3).map encBo, 4, .wr⟩), (1926, some ⟨1, (lkAt g ls rs true ox 1 4).map encBo, 4, .wr⟩), (1927, some ⟨1, (lkAt g ls rs true ox 1 5).map encBo, 4, .wr⟩)]) (fun k => k ≤ rs.length) (fun k => rs.length - k) 0 (fun x => by simp (maxSteps := 1000000) -implicitDefEqProofs (disch := omega) only [go_sem]; rfl) ?_ ?_ fun x hx => ?_
         · exact weak_do5 []
         · exact Nat.zero_le _
         rename Nat => k
         have hrl := lkRow_len g ls rs true ox 1 k
         by_cases hk1 : k < rs.length
         · have hal := hAl 1 k hi1 hk1
           by_cases hc : k = ox
           · have hit := lkRow_hit (g := g) (ls := ls) (rs := rs) (right := true) (n := ox) (i := 1) (k := k) hk1 (by simpa using hc)
             generalize lkRow g ls rs true ox 1 k = L at *
             repeat' (first
               | (with_reducible apply Req_intro); focus (first | omega | assumption | (simp; done))
               | with_reducible (first | apply Req_intro | refine nilT ?_ fun hn => ?_ | apply wk_draw Tryd_mixed | refine drawEnd (by kernel_rfl) ?_)
               | (with_reducible (first | apply condA_if | apply stepDG_ifN | apply stepDG_if | apply stepG_ifN | apply stepG_if)) <;> intro hb <;> (have hif := hb) <;> (try simp only [bo] at hif) <;> (try simp -implicitDefEqProofs (disch := omega) only [go_sem, hb]) <;> clear hb
               | simp (maxSteps := 1000000) -implicitDefEqProofs (disch := omega) only [go_sem])
             all_goals first | exact absurd trivial ‹¬True› | exact absurd ‹false = true› (by decide) | exact absurd ‹true = false› (by decide) | (exfalso; omega) | omega | skip
             refine calld hal ?_
             try simp (maxSteps := 1000000) -implicitDefEqProofs (disch := omega) only [go_sem]
             repeat' (first
               | (with_reducible apply Req_intro); focus (first | omega | assumption | (simp; done))
               | with_reducible (first | apply Req_intro | refine nilT ?_ fun hn => ?_ | apply wk_draw Tryd_mixed | refine drawEnd (by kernel_rfl) ?_)
               | (with_reducible (first | apply condA_if | apply stepDG_ifN | apply stepDG_if | apply stepG_ifN | apply stepG_if)) <;> intro hb <;> (have hif := hb) <;> (try simp only [bo] at hif) <;> (try simp -implicitDefEqProofs (disch := omega) only [go_sem, hb]) <;> clear hb
               | simp (maxSteps := 1000000) -implicitDefEqProofs (disch := omega) only [go_sem])
             all_goals first | exact absurd trivial ‹¬True› | exact absurd ‹false = true› (by decide) | exact absurd ‹true = false› (by decide) | (exfalso; omega) | omega | skip
             with_reducible refine nxt_w (k + 1) ?_ ?_
             · (try dsimp only)
               rw [hit, List.map_set]
               exact weak_do5 []
             try dsimp only
             omega
           · have hms := lkRow_miss (g := g) (ls := ls) (rs := rs) (right := true) (n := ox) (i := 1) (k := k) (by simpa using hc)
             generalize lkRow g ls rs true ox 1 k = L at *
             repeat' (first
               | (with_reducible apply Req_intro); focus (first | omega | assumption | (simp; done))
               | with_reducible (first | apply Req_intro | refine nilT ?_ fun hn => ?_ | apply wk_draw Tryd_mixed | refine drawEnd (by kernel_rfl) ?_)
               | (with_reducible (first | apply condA_if | apply stepDG_ifN | apply stepDG_if | apply stepG_ifN | apply stepG_if)) <;> intro hb <;> (have hif := hb) <;> (try simp only [bo] at hif) <;> (try simp -implicitDefEqProofs (disch := omega) only [go_sem, hb]) <;> clear hb
               | simp (maxSteps := 1000000) -implicitDefEqProofs (disch := omega) only [go_sem])
             all_goals first | exact absurd trivial ‹¬True› | exact absurd ‹false = true› (by decide) | exact absurd ‹true = false› (by decide) | (exfalso; omega) | omega | skip
             with_reducible refine nxt_w (k + 1) ?_ ?_
             · (try dsimp only)
               rw [hms]
               exact weak_do5 []
             try dsimp only
             omega
         · obtain rfl : k = rs.length := by omega
           generalize lkRow g ls rs true ox 1 rs.length = L at *
           repeat' (first
             | (with_reducible apply Req_intro); focus (first | omega | assumption | (simp; done))
             | with_reducible (first | apply Req_intro | refine nilT ?_ fun hn => ?_ | apply wk_draw Tryd_mixed | refine drawEnd (by kernel_rfl) ?_)
             | (with_reducible (first | apply condA_if | apply stepDG_ifN | apply stepDG_if | apply stepG_ifN | apply stepG_if)) <;> intro hb <;> (have hif := hb) <;> (try simp only [bo] at hif) <;> (try simp -implicitDefEqProofs (disch := omega) only [go_sem, hb]) <;> clear hb
             | simp (maxSteps := 1000000) -implicitDefEqProofs (disch := omega) only [go_sem])
           all_goals first | exact absurd trivial ‹¬True› | exact absurd ‹false = true› (by decide) | exact absurd ‹true = false› (by decide) | (exfalso; omega) | omega | skip
           with_reducible refine nxt_w (1 + 1) ?_ ?_
           · (try dsimp only)
             rw [hnx]
             exact weak_do5 []
           try dsimp only
           omega
       · rw [lkAt_self hi1]
         have hnx := lkAt_next (g := g) (ls := ls) (rs := rs) (right := true) (n := ox) hi1
         repeat' (first
           | (with_reducible apply Req_intro); focus (first | omega | assumption | (simp; done))
           | with_reducible (first | apply Req_intro | refine nilT ?_ fun hn => ?_ | apply wk_draw Tryd_mixed | refine drawEnd (by kernel_rfl) ?_)
           | (with_reducible (first | apply condA_if | apply stepDG_ifN | apply stepDG_if | apply stepG_ifN | apply stepG_if)) <;> intro hb <;> (have hif := hb) <;> (try simp only [bo] at hif) <;> (try simp -implicitDefEqProofs (disch := omega) only [go_sem, hb]) <;> clear hb
           | simp (maxSteps := 1000000) -implicitDefEqProofs (disch := omega) only [go_sem])
         all_goals first | exact absurd trivial ‹¬True› | exact absurd ‹false = true› (by decide) | exact absurd ‹true = false› (by decide) | (exfalso; omega) | omega | skip
         refine loop_rows (α := Nat) [15, 47, 48, 49, 50, 51, 52, 53, 54, 55, 56, 57, 58, 59, 60, 61, 62, 63, 64, 65, 66, 67, 68, 69, 70, 71, 72, 73, 74, 75, 76, 77, 78, 79, 80, 81, 82] (fun k => [(15, .lit (.int .i64 k))]) (fun k => [(0, some ⟨2, [[.sl 2 (ls.map encGd) e1, .sl 2 (rs.map encGd) e2]], 38, .wr⟩), (64, some ⟨4, [[int g.sc, int g.ga, int g.we, int g.cu]], 26, .wr⟩), (1921, some ⟨1, famB 1922 ls.length rs.length, 111, .wr⟩), (1922, some ⟨1, (lkAt g ls rs true ox 2 0).map encBo, 4, .wr⟩), (1923, some ⟨1, (lkAt g ls rs true ox 2 1).map encBo, 4, .wr⟩), (1924, some ⟨1, (lkRow g ls rs true ox 2 k).map encBo, 4, .wr⟩), (1925, some ⟨1, (lkAt g ls rs true ox 2 3).map encBo, 4, .wr⟩), (1926, some ⟨1, (lkAt g ls rs true ox 2 4).map encBo, 4, .wr⟩), (1927, some ⟨1, (lkAt g ls rs true ox 2 5).map encBo, 4, .wr⟩)]) (fun k => k ≤ rs.length) (fun k => rs.length - k) 0 (fun x => by simp (maxSteps := 1000000) -implicitDefEqProofs (disch := omega) only [go_sem]; rfl) ?_ ?_ fun x hx => ?_
         · exact weak_do5 []
         · exact Nat.zero_le _
         rename Nat => k
         have hrl := lkRow_len g ls rs true ox 2 k
         by_cases hk1 : k < rs.length
         · have hal := hAl 2 k hi1 hk1
           by_cases hc : k = ox
           · have hit := lkRow_hit (g := g) (ls := ls) (rs := rs) (right := true) (n := ox) (i := 2) (k := k) hk1 (by simpa using hc)
             generalize lkRow g ls rs true ox 2 k = L at *
             repeat' (first
               | (with_reducible apply Req_intro); focus (first | omega | assumption | (simp; done))
               | with_reducible (first | apply Req_intro | refine nilT ?_ fun hn => ?_ | apply wk_draw Tryd_mixed | refine drawEnd (by kernel_rfl) ?_)
               | (with_reducible (first | apply condA_if | apply stepDG_ifN | apply stepDG_if | apply stepG_ifN | apply stepG_if)) <;> intro hb <;> (have hif := hb) <;> (try simp only [bo] at hif) <;> (try simp -implicitDefEqProofs (disch := omega) only [go_sem, hb]) <;> clear hb
               | simp (maxSteps := 1000000) -implicitDefEqProofs (disch := omega) only [go_sem])
             all_goals first | exact absurd trivial ‹¬True› | exact absurd ‹false = true› (by decide) | exact absurd ‹true = false› (by decide) | (exfalso; omega) | omega | skip
             refine calld hal ?_
             try simp (maxSteps := 1000000) -implicitDefEqProofs (disch := omega) only [go_sem]
             repeat' (first
               | (with_reducible apply Req_intro); focus (first | omega | assumption | (simp; done))
               | with_reducible (first | apply Req_intro | refine nilT ?_ fun hn => ?_ | apply wk_draw Tryd_mixed | refine drawEnd (by kernel_rfl) ?_)
               | (with_reducible (first | apply condA_if | apply stepDG_ifN | apply stepDG_if | apply stepG_ifN | apply stepG_if)) <;> intro hb <;> (have hif := hb) <;> (try simp only [bo] at hif) <;> (try simp -implicitDefEqProofs (disch := omega) only [go_sem, hb]) <;> clear hb
               | simp (maxSteps := 1000000) -implicitDefEqProofs (disch := omega) only [go_sem])
             all_goals first | exact absurd trivial ‹¬True› | exact absurd ‹false = true› (by decide) | exact absurd ‹true = false› (by decide) | (exfalso; omega) | omega | skip
             with_reducible refine nxt_w (k + 1) ?_ ?_
             · (try dsimp only)
               rw [hit, List.map_set]
               exact weak_do5 []
             try dsimp only
             omega
           · have hms := lkRow_miss (g := g) (ls := ls) (rs := rs) (right := true) (n := ox) (i := 2) (k := k) (by simpa using hc)
             generalize lkRow g ls rs true ox 2 k = L at *
             repeat' (first
               | (with_reducible apply Req_intro); focus (first | omega | assumption | (simp; done))
               | with_reducible (first | apply Req_intro | refine nilT ?_ fun hn => ?_ | apply wk_draw Tryd_mixed | refine drawEnd (by kernel_rfl) ?_)
               | (with_reducible (first | apply condA_if | apply stepDG_ifN | apply stepDG_if | apply stepG_ifN | apply stepG_if)) <;> intro hb <;> (have hif := hb) <;> (try simp only [bo] at hif) <;> (try simp -implicitDefEqProofs (disch := omega) only [go_sem, hb]) <;> clear hb
               | simp (maxSteps := 1000000) -implicitDefEqProofs (disch := omega) only [go_sem])
             all_goals first | exact absurd trivial ‹¬True› | exact absurd ‹false = true› (by decide) | exact absurd ‹true = false› (by decide) | (exfalso; omega) | omega | skip
             with_reducible refine nxt_w (k + 1) ?_ ?_
             · (try dsimp only)
               rw [hms]
               exact weak_do5 []
             try dsimp only
             omega
         · obtain rfl : k = rs.length := by omega
           generalize lkRow g ls rs true ox 2 rs.length = L at *
           repeat' (first
             | (with_reducible apply Req_intro); focus (first | omega | assumption | (simp; done))
             | with_reducible (first | apply Req_intro | refine nilT ?_ fun hn => ?_ | apply wk_draw Tryd_mixed | refine drawEnd (by kernel_rfl) ?_)
             | (with_reducible (first | apply condA_if | apply stepDG_ifN | apply stepDG_if | apply stepG_ifN | apply stepG_if)) <;> intro hb <;> (have hif := hb) <;> (try simp only [bo] at hif) <;> (try simp -implicitDefEqProofs (disch := omega) only [go_sem, hb]) <;> clear hb
             | simp (maxSteps := 1000000) -implicitDefEqProofs (disch := omega) only [go_sem])
           all_goals first | exact absurd trivial ‹¬True› | exact absurd ‹false = true› (by decide) | exact absurd ‹true = false› (by decide) | (exfalso; omega) | omega | skip
           with_reducible refine nxt_w (2 + 1) ?_ ?_
           · (try dsimp only)
             rw [hnx]
             exact weak_do5 []
           try dsimp only
           omega
       · rw [lkAt_self hi1]
         have hnx := lkAt_next (g := g) (ls := ls) (rs := rs) (right := true) (n := ox) hi1
         repeat' (first
           | (with_reducible apply Req_intro); focus (first | omega | assumption | (simp; done))
           | with_reducible (first | apply Req_intro | refine nilT ?_ fun hn => ?_ | apply wk_draw Tryd_mixed | refine drawEnd (by kernel_rfl) ?_)
           | (with_reducible (first | apply condA_if | apply stepDG_ifN | apply stepDG_if | apply stepG_ifN | apply stepG_if)) <;> intro hb <;> (have hif := hb) <;> (try simp only [bo] at hif) <;> (try simp -implicitDefEqProofs (disch := omega) only [go_sem, hb]) <;> clear hb
           | simp (maxSteps := 1000000) -implicitDefEqProofs (disch := omega) only [go_sem])
         all_goals first | exact absurd trivial ‹¬True› | exact absurd ‹false = true› (by decide) | exact absurd ‹true = false› (by decide) | (exfalso; omega) | omega | skip
         refine loop_rows (α := Nat) [15, 47, 48, 49, 50, 51, 52, 53, 54, 55, 56, 57, 58, 59, 60, 61, 62, 63, 64, 65, 66, 67, 68, 69, 70, 71, 72, 73, 74, 75, 76, 77, 78, 79, 80, 81, 82] (fun k => [(15, .lit (.int .i64 k))]) (fun k => [(0, some ⟨2, [[.sl 2 (ls.map encGd) e1, .sl 2 (rs.map encGd) e2]], 38, .wr⟩), (64, some ⟨4, [[int g.sc, int g.ga, int g.we, int g.cu]], 26, .wr⟩), (1921, some ⟨1, famB 1922 ls.length rs.length, 111, .wr⟩), (1922, some ⟨1, (lkAt g ls rs true ox 3 0).map encBo, 4, .wr⟩), (1923, some ⟨1, (lkAt g ls rs true ox 3 1).map encBo, 4, .wr⟩), (1924, some ⟨1, (lkAt g ls rs true ox 3 2).map encBo, 4, .wr⟩), (1925, some ⟨1, (lkRow g ls rs true ox 3 k).map encBo, 4, .wr⟩), (1926, some ⟨1, (lkAt g ls rs true ox 3 4).map encBo, 4, .wr⟩), (1927, some ⟨1, (lkAt g ls rs true ox 3 5).map encBo, 4, .wr⟩)]) (fun k => k ≤ rs.length) (fun k => rs.length - k) 0 (fun x => by simp (maxSteps := 1000000) -implicitDefEqProofs (disch := omega) only [go_sem]; rfl) ?_ ?_ fun x hx => ?_
         · exact weak_do5 []
         · exact Nat.zero_le _
         rename Nat => k
         have hrl := lkRow_len g ls rs true ox 3 k
         by_cases hk1 : k < rs.length
         · have hal := hAl 3 k hi1 hk1
           by_cases hc : k = ox
           · have hit := lkRow_hit (g := g) (ls := ls) (rs := rs) (right := true) (n := ox) (i := 3) (k := k) hk1 (by simpa using hc)
             generalize lkRow g ls rs true ox 3 k = L at *
             repeat' (first
               | (with_reducible apply Req_intro); focus (first | omega | assumption | (simp; done))
               | with_reducible (first | apply Req_intro | refine nilT ?_ fun hn => ?_ | apply wk_draw Tryd_mixed | refine drawEnd (by kernel_rfl) ?_)
               | (with_reducible (first | apply condA_if | apply stepDG_ifN | apply stepDG_if | apply stepG_ifN | apply stepG_if)) <;> intro hb <;> (have hif := hb) <;> (try simp only [bo] at hif) <;> (try simp -implicitDefEqProofs (disch := omega) only [go_sem, hb]) <;> clear hb
               | simp (maxSteps := 1000000) -implicitDefEqProofs (disch := omega) only [go_sem])
             all_goals first | exact absurd trivial ‹¬True› | exact absurd ‹false = true› (by decide) | exact absurd ‹true = false› (by decide) | (exfalso; omega) | omega | skip
             refine calld hal ?_
             try simp (maxSteps := 1000000) -implicitDefEqProofs (disch := omega) only [go_sem]
             repeat' (first
               | (with_reducible apply Req_intro); focus (first | omega | assumption | (simp; done))
               | with_reducible (first | apply Req_intro | refine nilT ?_ fun hn => ?_ | apply wk_draw Tryd_mixed | refine drawEnd (by kernel_rfl) ?_)
               | (with_reducible (first | apply condA_if | apply stepDG_ifN | apply stepDG_if | apply stepG_ifN | apply stepG_if)) <;> intro hb <;> (have hif := hb) <;> (try simp only [bo] at hif) <;> (try simp -implicitDefEqProofs (disch := omega) only [go_sem, hb]) <;> clear hb
               | simp (maxSteps := 1000000) -implicitDefEqProofs (disch := omega) only [go_sem])
             all_goals first | exact absurd trivial ‹¬True› | exact absurd ‹false = true› (by decide) | exact absurd ‹true = false› (by decide) | (exfalso; omega) | omega | skip
             with_reducible refine nxt_w (k + 1) ?_ ?_
             · (try dsimp only)
               rw [hit, List.map_set]
               exact weak_do5 []
             try dsimp only
             omega
           · have hms := lkRow_miss (g := g) (ls := ls) (rs := rs) (right := true) (n := ox) (i := 3) (k := k) (by simpa using hc)
             generalize lkRow g ls rs true ox 3 k = L at *
             repeat' (first
               | (with_reducible apply Req_intro); focus (first | omega | assumption | (simp; done))
               | with_reducible (first | apply Req_intro | refine nilT ?_ fun hn => ?_ | apply wk_draw Tryd_mixed | refine drawEnd (by kernel_rfl) ?_)
               | (with_reducible (first | apply condA_if | apply stepDG_ifN | apply stepDG_if | apply stepG_ifN | apply stepG_if)) <;> intro hb <;> (have hif := hb) <;> (try simp only [bo] at hif) <;> (try simp -implicitDefEqProofs (disch := omega) only [go_sem, hb]) <;> clear hb
               | simp (maxSteps := 1000000) -implicitDefEqProofs (disch := omega) only [go_sem])
             all_goals first | exact absurd trivial ‹¬True› | exact absurd ‹false = true› (by decide) | exact absurd ‹true = false› (by decide) | (exfalso; omega) | omega | skip
             with_reducible refine nxt_w (k + 1) ?_ ?_
             · (try dsimp only)
               rw [hms]
               exact weak_do5 []
             try dsimp only
             omega
         · obtain rfl : k = rs.length := by omega
           generalize lkRow g ls rs true ox 3 rs.length = L at *
           repeat' (first
             | (with_reducible apply Req_intro); focus (first | omega | assumption | (simp; done))
             | with_reducible (first | apply Req_intro | refine nilT ?_ fun hn => ?_ | apply wk_draw Tryd_mixed | refine drawEnd (by kernel_rfl) ?_)
             | (with_reducible (first | apply condA_if | apply stepDG_ifN | apply stepDG_if | apply stepG_ifN | apply stepG_if)) <;> intro hb <;> (have hif := hb) <;> (try simp only [bo] at hif) <;> (try simp -implicitDefEqProofs (disch := omega) only [go_sem, hb]) <;> clear hb
             | simp (maxSteps := 1000000) -implicitDefEqProofs (disch := omega) only [go_sem])
           all_goals first | exact absurd trivial ‹¬True› | exact absurd ‹false = true› (by decide) | exact absurd ‹true = false› (by decide) | (exfalso; omega) | omega | skip
           with_reducible refine nxt_w (3 + 1) ?_ ?_
           · (try dsimp only)
             rw [hnx]
             exact weak_do5 []
           try dsimp only
           omega
       · rw [lkAt_self hi1]
         have hnx := lkAt_next (g := g) (ls := ls) (rs := rs) (right := true) (n := ox) hi1
         repeat' (first
           | (with_reducible apply Req_intro); focus (first | omega | assumption | (simp; done))
           | with_reducible (first | apply Req_intro | refine nilT ?_ fun hn => ?_ | apply wk_draw Tryd_mixed | refine drawEnd (by kernel_rfl) ?_)
           | (with_reducible (first | apply condA_if | apply stepDG_ifN | apply stepDG_if | apply stepG_ifN | apply stepG_if)) <;> intro hb <;> (have hif := hb) <;> (try simp only [bo] at hif) <;> (try simp -implicitDefEqProofs (disch := omega) only [go_sem, hb]) <;> clear hb
           | simp (maxSteps := 1000000) -implicitDefEqProofs (disch := omega) only [go_sem])
         all_goals first | exact absurd trivial ‹¬True› | exact absurd ‹false = true› (by decide) | exact absurd ‹true = false› (by decide) | (exfalso; omega) | omega | skip
         refine loop_rows (α := Nat) [15, 47, 48, 49, 50, 51, 52, 53, 54, 55, 56, 57, 58, 59, 60, 61, 62, 63, 64, 65, 66, 67, 68, 69, 70, 71, 72, 73, 74, 75, 76, 77, 78, 79, 80, 81, 82] (fun k => [(15, .lit (.int .i64 k))]) (fun k => [(0, some ⟨2, [[.sl 2 (ls.map encGd) e1, .sl 2 (rs.map encGd) e2]], 38, .wr⟩), (64, some ⟨4, [[int g.sc, int g.ga, int g.we, int g.cu]], 26, .wr⟩), (1921, some ⟨1, famB 1922 ls.length rs.length, 111, .wr⟩), (1922, some ⟨1, (lkAt g ls rs true ox 4 0).map encBo, 4, .wr⟩), (1923, some ⟨1, (lkAt g ls rs true ox 4 1).map encBo, 4, .wr⟩), (1924, some ⟨1, (lkAt g ls rs true ox 4 2).map encBo, 4, .wr⟩), (1925, some ⟨1, (lkAt g ls rs true ox 4 3).map encBo, 4, .wr⟩), (1926, some ⟨1, (lkRow g ls rs true ox 4 k).map encBo, 4, .wr⟩), (1927, some ⟨1, (lkAt g ls rs true ox 4 5).map encBo, 4, .wr⟩)]) (fun k => k ≤ rs.length) (fun k => rs.length - k) 0 (fun x => by simp (maxSteps := 1000000) -implicitDefEqProofs (disch := omega) only [go_sem]; rfl) ?_ ?_ fun x hx => ?_
         · exact weak_do5 []
         · exact Nat.zero_le _
         rename Nat => k
         have hrl := lkRow_len g ls rs true ox 4 k
         by_cases hk1 : k < rs.length
         · have hal := hAl 4 k hi1 hk1
           by_cases hc : k = ox
           · have hit := lkRow_hit (g := g) (ls := ls) (rs := rs) (right := true) (n := ox) (i := 4) (k := k) hk1 (by simpa using hc)
             generalize lkRow g ls rs true ox 4 k = L at *
             repeat' (first
               | (with_reducible apply Req_intro); focus (first | omega | assumption | (simp; done))
               | with_reducible (first | apply Req_intro | refine nilT ?_ fun hn => ?_ | apply wk_draw Tryd_mixed | refine drawEnd (by kernel_rfl) ?_)
               | (with_reducible (first | apply condA_if | apply stepDG_ifN | apply stepDG_if | apply stepG_ifN | apply stepG_if)) <;> intro hb <;> (have hif := hb) <;> (try simp only [bo] at hif) <;> (try simp -implicitDefEqProofs (disch := omega) only [go_sem, hb]) <;> clear hb
               | simp (maxSteps := 1000000) -implicitDefEqProofs (disch := omega) only [go_sem])
             all_goals first | exact absurd trivial ‹¬True› | exact absurd ‹false = true› (by decide) | exact absurd ‹true = false› (by decide) | (exfalso; omega) | omega | skip
             refine calld hal ?_
             try simp (maxSteps := 1000000) -implicitDefEqProofs (disch := omega) only [go_sem]
             repeat' (first
               | (with_reducible apply Req_intro); focus (first | omega | assumption | (simp; done))
               | with_reducible (first | apply Req_intro | refine nilT ?_ fun hn => ?_ | apply wk_draw Tryd_mixed | refine drawEnd (by kernel_rfl) ?_)
               | (with_reducible (first | apply condA_if | apply stepDG_ifN | apply stepDG_if | apply stepG_ifN | apply stepG_if)) <;> intro hb <;> (have hif := hb) <;> (try simp only [bo] at hif) <;> (try simp -implicitDefEqProofs (disch := omega) only [go_sem, hb]) <;> clear hb
               | simp (maxSteps := 1000000) -implicitDefEqProofs (disch := omega) only [go_sem])
             all_goals first | exact absurd trivial ‹¬True› | exact absurd ‹false = true› (by decide) | exact absurd ‹true = false› (by decide) | (exfalso; omega) | omega | skip
             with_reducible refine nxt_w (k + 1) ?_ ?_
             · (try dsimp only)
               rw [hit, List.map_set]
               exact weak_do5 []
             try dsimp only
             omega
           · have hms := lkRow_miss (g := g) (ls := ls) (rs := rs) (right := true) (n := ox) (i := 4) (k := k) (by simpa using hc)
             generalize lkRow g ls rs true ox 4 k = L at *
             repeat' (first
               | (with_reducible apply Req_intro); focus (first | omega | assumption | (simp; done))
               | with_reducible (first | apply Req_intro | refine nilT ?_ fun hn => ?_ | apply wk_draw Tryd_mixed | refine drawEnd (by kernel_rfl) ?_)
               | (with_reducible (first | apply condA_if | apply stepDG_ifN | apply stepDG_if | apply stepG_ifN | apply stepG_if)) <;> intro hb <;> (have hif := hb) <;> (try simp only [bo] at hif) <;> (try simp -implicitDefEqProofs (disch := omega) only [go_sem, hb]) <;> clear hb
               | simp (maxSteps := 1000000) -implicitDefEqProofs (disch := omega) only [go_sem])
             all_goals first | exact absurd trivial ‹¬True› | exact absurd ‹false = true› (by decide) | exact absurd ‹true = false› (by decide) | (exfalso; omega) | omega | skip
             with_reducible refine nxt_w (k + 1) ?_ ?_
             · (try dsimp only)
               rw [hms]
               exact weak_do5 []
             try dsimp only
             omega
         · obtain rfl : k = rs.length := by omega
           generalize lkRow g ls rs true ox 4 rs.length = L at *
           repeat' (first
             | (with_reducible apply Req_intro); focus (first | omega | assumption | (simp; done))
             | with_reducible (first | apply Req_intro | refine nilT ?_ fun hn => ?_ | apply wk_draw Tryd_mixed | refine drawEnd (by kernel_rfl) ?_)
             | (with_reducible (first | apply condA_if | apply stepDG_ifN | apply stepDG_if | apply stepG_ifN | apply stepG_if)) <;> intro hb <;> (have hif := hb) <;> (try simp only [bo] at hif) <;> (try simp -implicitDefEqProofs (disch := omega) only [go_sem, hb]) <;> clear hb
             | simp (maxSteps := 1000000) -implicitDefEqProofs (disch := omega) only [go_sem])
           all_goals first | exact absurd trivial ‹¬True› | exact absurd ‹false = true› (by decide) | exact absurd ‹true = false› (by decide) | (exfalso; omega) | omega | skip
           with_reducible refine nxt_w (4 + 1) ?_ ?_
           · (try dsimp only)
             rw [hnx]
             exact weak_do5 []
           try dsimp only
           omega
       · rw [lkAt_self hi1]
         have hnx := lkAt_next (g := g) (ls := ls) (rs := rs) (right := true) (n := ox) hi1
         repeat' (first
           | (with_reducible apply Req_intro); focus (first | omega | assumption | (simp; done))
           | with_reducible (first | apply Req_intro | refine nilT ?_ fun hn => ?_ | apply wk_draw Tryd_mixed | refine drawEnd (by kernel_rfl) ?_)
           | (with_reducible (first | apply condA_if | apply stepDG_ifN | apply stepDG_if | apply stepG_ifN | apply stepG_if)) <;> intro hb <;> (have hif := hb) <;> (try simp only [bo] at hif) <;> (try simp -implicitDefEqProofs (disch := omega) only [go_sem, hb]) <;> clear hb
           | simp (maxSteps := 1000000) -implicitDefEqProofs (disch := omega) only [go_sem])
         all_goals first | exact absurd trivial ‹¬True› | exact absurd ‹false = true› (by decide) | exact absurd ‹true = false› (by decide) | (exfalso; omega) | omega | skip
         refine loop_rows (α := Nat) [15, 47, 48, 49, 50, 51, 52, 53, 54, 55, 56, 57, 58, 59, 60, 61, 62, 63, 64, 65, 66, 67, 68, 69, 70, 71, 72, 73, 74, 75, 76, 77, 78, 79, 80, 81, 82] (fun k => [(15, .lit (.int .i64 k))]) (fun k => [(0, some ⟨2, [[.sl 2 (ls.map encGd) e1, .sl 2 (rs.map encGd) e2]], 38, .wr⟩), (64, some ⟨4, [[int g.sc, int g.ga, int g.we, int g.cu]], 26, .wr⟩), (1921, some ⟨1, famB 1922 ls.length rs.length, 111, .wr⟩), (1922, some ⟨1, (lkAt g ls rs true ox 5 0).map encBo, 4, .wr⟩), (1923, some ⟨1, (lkAt g ls rs true ox 5 1).map encBo, 4, .wr⟩), (1924, some ⟨1, (lkAt g ls rs true ox 5 2).map encBo, 4, .wr⟩), (1925, some ⟨1, (lkAt g ls rs true ox 5 3).map encBo, 4, .wr⟩), (1926, some ⟨1, (lkAt g ls rs true ox 5 4).map encBo, 4, .wr⟩), (1927, some ⟨1, (lkRow g ls rs true ox 5 k).map encBo, 4, .wr⟩)]) (fun k => k ≤ rs.length) (fun k => rs.length - k) 0 (fun x => by simp (maxSteps := 1000000) -implicitDefEqProofs (disch := omega) only [go_sem]; rfl) ?_ ?_ fun x hx => ?_
         · exact weak_do5 []
         · exact Nat.zero_le _
         rename Nat => k
         have hrl := lkRow_len g ls rs true ox 5 k
         by_cases hk1 : k < rs.length
         · have hal := hAl 5 k hi1 hk1
           by_cases hc : k = ox
           · have hit := lkRow_hit (g := g) (ls := ls) (rs := rs) (right := true) (n := ox) (i := 5) (k := k) hk1 (by simpa using hc)
             generalize lkRow g ls rs true ox 5 k = L at *
             repeat' (first
               | (with_reducible apply Req_intro); focus (first | omega | assumption | (simp; done))
               | with_reducible (first | apply Req_intro | refine nilT ?_ fun hn => ?_ | apply wk_draw Tryd_mixed | refine drawEnd (by kernel_rfl) ?_)
               | (with_reducible (first | apply condA_if | apply stepDG_ifN | apply stepDG_if | apply stepG_ifN | apply stepG_if)) <;> intro hb <;> (have hif := hb) <;> (try simp only [bo] at hif) <;> (try simp -implicitDefEqProofs (disch := omega) only [go_sem, hb]) <;> clear hb
               | simp (maxSteps := 1000000) -implicitDefEqProofs (disch := omega) only [go_sem])
             all_goals first | exact absurd trivial ‹¬True› | exact absurd ‹false = true› (by decide) | exact absurd ‹true = false› (by decide) | (exfalso; omega) | omega | skip
             refine calld hal ?_
             try simp (maxSteps := 1000000) -implicitDefEqProofs (disch := omega) only [go_sem]
             repeat' (first
               | (with_reducible apply Req_intro); focus (first | omega | assumption | (simp; done))
               | with_reducible (first | apply Req_intro | refine nilT ?_ fun hn => ?_ | apply wk_draw Tryd_mixed | refine drawEnd (by kernel_rfl) ?_)
               | (with_reducible (first | apply condA_if | apply stepDG_ifN | apply stepDG_if | apply stepG_ifN | apply stepG_if)) <;> intro hb <;> (have hif := hb) <;> (try simp only [bo] at hif) <;> (try simp -implicitDefEqProofs (disch := omega) only [go_sem, hb]) <;> clear hb
               | simp (maxSteps := 1000000) -implicitDefEqProofs (disch := omega) only [go_sem])
             all_goals first | exact absurd trivial ‹¬True› | exact absurd ‹false = true› (by decide) | exact absurd ‹true = false› (by decide) | (exfalso; omega) | omega | skip
             with_reducible refine nxt_w (k + 1) ?_ ?_
             · (try dsimp only)
               rw [hit, List.map_set]
               exact weak_do5 []
             try dsimp only
             omega
           · have hms := lkRow_miss (g := g) (ls := ls) (rs := rs) (right := true) (n := ox) (i := 5) (k := k) (by simpa using hc)
             generalize lkRow g ls rs true ox 5 k = L at *
             repeat' (first
               | (with_reducible apply Req_intro); focus (first | omega | assumption | (simp; done))
               | with_reducible (first | apply Req_intro | refine nilT ?_ fun hn => ?_ | apply wk_draw Tryd_mixed | refine drawEnd (by kernel_rfl) ?_)
               | (with_reducible (first | apply condA_if | apply stepDG_ifN | apply stepDG_if | apply stepG_ifN | apply stepG_if)) <;> intro hb <;> (have hif := hb) <;> (try simp only [bo] at hif) <;> (try simp -implicitDefEqProofs (disch := omega) only [go_sem, hb]) <;> clear hb
               | simp (maxSteps := 1000000) -implicitDefEqProofs (disch := omega) only [go_sem])
             all_goals first | exact absurd trivial ‹¬True› | exact absurd ‹false = true› (by decide) | exact absurd ‹true = false› (by decide) | (exfalso; omega) | omega | skip
             with_reducible refine nxt_w (k + 1) ?_ ?_
             · (try dsimp only)
               rw [hms]
               exact weak_do5 []
             try dsimp only
             omega
         · obtain rfl : k = rs.length := by omega
           generalize lkRow g ls rs true ox 5 rs.length = L at *
           repeat' (first
             | (with_reducible apply Req_intro); focus (first | omega | assumption | (simp; done))
             | with_reducible (first | apply Req_intro | refine nilT ?_ fun hn => ?_ | apply wk_draw Tryd_mixed | refine drawEnd (by kernel_rfl) ?_)
             | (with_reducible (first | apply condA_if | apply stepDG_ifN | apply stepDG_if | apply stepG_ifN | apply stepG_if)) <;> intro hb <;> (have hif := hb) <;> (try simp only [bo] at hif) <;> (try simp -implicitDefEqProofs (disch := omega) only [go_sem, hb]) <;> clear hb
             | simp (maxSteps := 1000000) -implicitDefEqProofs (disch := omega) only [go_sem])
           all_goals first | exact absurd trivial ‹¬True› | exact absurd ‹false = true› (by decide) | exact absurd ‹true = false› (by decide) | (exfalso; omega) | omega | skip
           with_reducible refine nxt_w (5 + 1) ?_ ?_
           · (try dsimp only)
             rw [hnx]
             exact weak_do5 []
           try dsimp only
           omega
     · obtain rfl : x = ls.length := by omega
       have hall := fun j (hj : j < ls.length) => lkAt_all (g := g) (rs := rs) (right := true) (n := ox) hj
       have hBr := lookB_row g ls rs true ox
       have hBl := lookB_len g ls rs true ox
       repeat' (first
         | (with_reducible apply Req_intro); focus (first | omega | assumption | (simp; done))
         | with_reducible (first | apply Req_intro | refine nilT ?_ fun hn => ?_ | apply wk_draw Tryd_mixed | refine drawEnd (by kernel_rfl) ?_)
         | (with_reducible (first | apply condA_if | apply stepDG_ifN | apply stepDG_if | apply stepG_ifN | apply stepG_if)) <;> intro hb <;> (have hif := hb) <;> (try simp only [bo] at hif) <;> (try simp -implicitDefEqProofs (disch := omega) only [go_sem, hb]) <;> clear hb
         | simp (maxSteps := 1000000) -implicitDefEqProofs (disch := omega) only [go_sem])
       all_goals first | exact absurd trivial ‹¬True› | exact absurd ‹false = true› (by decide) | exact absurd ‹true = false› (by decide) | (exfalso; omega) | omega | skip
       refine callf [1921, 1922, 1923, 1924, 1925, 1926, 1927] (hp := ?_) hmo ?_
       rotate_left
       · refine .cons _ _ _ _ (Pur.osR (by rfl) rfl (by rw [famB_len]; exact Nat.le_refl _) (fun h => h) (PurE.famB hBl hBr fun j hj => ?_)) (.cons _ _ _ _ (.pu _ (.lit _)) (.cons _ _ _ _ (.pu _ (.lit _)) .nil))
         rw [← hall j hj]
         rcases (show j = 0 ∨ j = 1 ∨ j = 2 ∨ j = 3 ∨ j = 4 ∨ j = 5 by omega) with rfl | rfl | rfl | rfl | rfl | rfl <;> rfl
       try simp (maxSteps := 1000000) -implicitDefEqProofs (disch := omega) only [go_sem]
       repeat' (first
         | (with_reducible apply Req_intro); focus (first | omega | assumption | (simp; done))
         | with_reducible (first | apply Req_intro | refine nilT ?_ fun hn => ?_ | apply wk_draw Tryd_mixed | refine drawEnd (by kernel_rfl) ?_)
         | (with_reducible (first | apply condA_if | apply stepDG_ifN | apply stepDG_if | apply stepG_ifN | apply stepG_if)) <;> intro hb <;> (have hif := hb) <;> (try simp only [bo] at hif) <;> (try simp -implicitDefEqProofs (disch := omega) only [go_sem, hb]) <;> clear hb
         | simp (maxSteps := 1000000) -implicitDefEqProofs (disch := omega) only [go_sem])
       all_goals first | exact absurd trivial ‹¬True› | exact absurd ‹false = true› (by decide) | exact absurd ‹true = false› (by decide) | (exfalso; omega) | omega | skip
       · with_reducible refine nxt_w (ox + 1) ?_ ?_
         · (try dsimp only)
           rw [hLsx, if_pos (by omega)]
           exact weak_do5 []
         try dsimp only
         omega
       · with_reducible refine nxt_w (ox + 1) ?_ ?_
         · (try dsimp only)
           rw [hLsx, if_neg (by omega)]
           exact weak_do5 []
         try dsimp only
         omega
   · obtain rfl : x = rs.length := by omega
     repeat' (first
       | (with_reducible apply Req_intro); focus (first | omega | assumption | (simp; done))
       | with_reducible (first | apply Req_intro | refine nilT ?_ fun hn => ?_ | apply wk_draw Tryd_mixed | refine drawEnd (by kernel_rfl) ?_)
       | (with_reducible (first | apply condA_if | apply stepDG_ifN | apply stepDG_if | apply stepG_ifN | apply stepG_if)) <;> intro hb <;> (have hif := hb) <;> (try simp only [bo] at hif) <;> (try simp -implicitDefEqProofs (disch := omega) only [go_sem, hb]) <;> clear hb
       | simp (maxSteps := 1000000) -implicitDefEqProofs (disch := omega) only [go_sem])
     all_goals first | exact absurd trivial ‹¬True› | exact absurd ‹false = true› (by decide) | exact absurd ‹true = false› (by decide) | (exfalso; omega) | omega | skip
     with_reducible refine nxt_w (1 + 1) ?_ ?_
     · (try dsimp only)
       rw [hS2]
       exact weak_do []
     try dsimp only
     omega
 · repeat' (first
     | (with_reducible apply Req_intro); focus (first | omega | assumption | (simp; done))
     | with_reducible (first | apply Req_intro | refine nilT ?_ fun hn => ?_ | apply wk_draw Tryd_mixed | refine drawEnd (by kernel_rfl) ?_)
     | (with_reducible (first | apply condA_if | apply stepDG_ifN | apply stepDG_if | apply stepG_ifN | apply stepG_if)) <;> intro hb <;> (have hif := hb) <;> (try simp only [bo] at hif) <;> (try simp -implicitDefEqProofs (disch := omega) only [go_sem, hb]) <;> clear hb
     | simp (maxSteps := 1000000) -implicitDefEqProofs (disch := omega) only [go_sem])
   all_goals first | exact absurd trivial ‹¬True› | exact absurd ‹false = true› (by decide) | exact absurd ‹true = false› (by decide) | (exfalso; omega) | omega | skip
   refine ret_do ?_
   rfl
end Go.Aw
end
