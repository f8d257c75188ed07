/-
  A part of the proof that a law returns true for every input that the given row speaks of: an own verified walk over the program (namespace Go.Aw), contracts of the functions that the law calls, and the law itself. Conditions: those of the given row, no other.
-/
import Derived.Test.YtofoildhohgngaaDoorPart9
set_option linter.unusedVariables false
set_option linter.unusedSimpArgs false
section
set_option maxRecDepth 20000
set_option maxHeartbeats 16000000
namespace Go.Aw
open Go.RowKit Go.Proofs
theorem spoilt_tailTA2 (bx : List B5) (ca st b0 b1 b2 b3 b4 b5 : Int) (sp : List B3) (hsl : sp.length ≤ 4611686018427387904) (hsp : ∀ v ∈ sp, v.ok) (hcase : sp.length ≤ 3) (bs : List Box) (cs : List Bill) (way : List Int) (held : List (List Int))
   (h0 : checkR bs cs = 0) (hmem : way ∈ allW bs cs) (h2 : stuffs cs ≤ 2) (hT : Truth bs cs way held) (hn1 : 1 ≤ bs.length)
   (hmade : ∀ {first args cap : List V} {dst : Option Tmp} {K : St → Prop} {tm : List V} {l : List (Nat × Option Blk)} {x : Nat} {gh : Gh},
       K ⟨putT tm dst (.tup [.agg [.os (x + 68) 1 bs.length false, .os (x + 65) 2 cs.length false], .os (x + 66) 1 bs.length false, .os (x + 67) 1 bs.length false]), hpOf (fun _ => none) (l ++ madeRowsN x bs cs way held), x + 3200, gh⟩ →
       first ++ args ++ cap = [.agg (innC bx ca st b0 b1 b2 b3 b4 b5)] → CallA Tryd.prog (.fn (.func 37) first cap) args dst K ⟨tm, hpOf (fun _ => none) l, x, gh⟩) :
   (spoilt_cutTA bx ca st b0 b1 b2 b3 b4 b5 sp hsl hsp hcase bs cs way held h0 hmem h2 hT hn1 hmade).G2 := by
 have hg := good_of_check h0
 have h8 := hg.nb
 have h3 := hg.nc
 have h1 := hg.n1
 have hs3 := hg.st
 have hok := allW_ok bs cs
 have hwl : way.length = bs.length := (hok _ hmem).1
 delta spoilt_cutTA
 dsimp only
 intro base i _ M B hBl hsl8 h256 hlB hpB hgB hzB hown hfz hA hW0 b hb j hj hjp hones hN8 L hL hmin hWr hbj hlen1 hw1 hw2 hw3 hw4 hlen0 hif1 hif2 y hy hyl hif3 t ht htl w hwv hwB hwt hpre hlnB W hWl hbox hsame hnext hzero hfull hif4 hif5 hif6 hif7
 refine loop_rows (α := Nat) [22, 185, 186, 187, 188, 189, 190, 191, 192, 193, 194, 195, 196, 197, 198, 199, 200, 201, 202, 203, 204, 205, 206, 207, 208, 209, 210, 211, 212, 213, 214, 215, 216] (fun s => [(22, .lit (.int .i64 s)), (149, .undef), (150, .undef), (151, .undef), (152, .undef), (155, .undef), (156, .undef), (157, .undef), (158, .undef), (159, .undef), (160, .undef), (161, .undef), (162, .undef), (163, .undef), (164, .undef), (165, .undef), (166, .undef), (167, .undef), (168, .undef), (169, .undef), (170, .undef), (171, .undef), (172, .undef), (173, .undef), (174, .undef), (175, .undef), (176, .undef), (177, .undef), (178, .undef), (179, .undef), (180, .undef), (181, .undef), (182, .undef), (183, .undef), (184, .undef)]) (fun s => [(260, some ⟨1, famE 264 bs.length (lnB bs), 67, .fz⟩), (257, some ⟨2, cs.map encBill, 64, .fz⟩), (258, some ⟨1, way.map encI, 3, .wr⟩), (264, some ⟨2, rowB B B.length 0, 60, .fz⟩), (265, some ⟨2, rowB B B.length 1, 60, .fz⟩), (266, some ⟨2, rowB B B.length 2, 60, .fz⟩), (267, some ⟨2, rowB B B.length 3, 60, .fz⟩), (268, some ⟨2, rowB B B.length 4, 60, .fz⟩), (269, some ⟨2, rowB B B.length 5, 60, .fz⟩), (270, some ⟨2, rowB B B.length 6, 60, .fz⟩), (271, some ⟨2, rowB B B.length 7, 60, .fz⟩), (3712, some ⟨2, [[.os 260 1 bs.length false, .os 257 2 cs.length false]], 25, .wr⟩), (7745, some ⟨1, famE 7752 B.length (lnB B), 67, .wr⟩), (7746, some ⟨2, famC 7760 cs.length (ctC cs) (lnC cs), 64, .wr⟩), (7752, some ⟨2, spRow W w (0, 1000) s 0, 60, .wr⟩), (7753, some ⟨2, spRow W w (0, 1000) s 1, 60, .wr⟩), (7754, some ⟨2, spRow W w (0, 1000) s 2, 60, .wr⟩), (7755, some ⟨2, spRow W w (0, 1000) s 3, 60, .wr⟩), (7756, some ⟨2, spRow W w (0, 1000) s 4, 60, .wr⟩), (7757, some ⟨2, spRow W w (0, 1000) s 5, 60, .wr⟩), (7758, some ⟨2, spRow W w (0, 1000) s 6, 60, .wr⟩), (7759, some ⟨2, spRow W w (0, 1000) s 7, 60, .wr⟩), (7760, some ⟨2, rowC cs cs.length 0, 60, .wr⟩), (7761, some ⟨2, rowC cs cs.length 1, 60, .wr⟩), (7762, some ⟨2, rowC cs cs.length 2, 60, .wr⟩), (9024, some ⟨2, [[.os 7745 1 B.length false, .os 7746 2 cs.length false]], 25, .wr⟩)]) (fun s => s ≤ stuffs cs ∧ ((t : Int) = (y : Int) - 1 → s = 0)) (fun s => stuffs cs - s) 0 (fun x => by simp (maxSteps := 1000000) -implicitDefEqProofs (disch := omega) only [go_sem]; rfl) ?_ ?_ fun x hx => ?_
 · simp only [hzero]
   exact weak_do3 []
 · exact ⟨Nat.zero_le _, fun _ => rfl⟩
 rename Nat => s
 obtain ⟨hs1, hs2⟩ := hx
 have hrow := spRow_at (bs := W) (i := w) (q := (0, 1000)) s
 have hll : (spK (W.getD w default) (0, 1000) s).length = stuffs cs := by rw [spK_len (by omega), hbox]
 by_cases hk : (t : Int) = (y : Int) - 1
 · obtain rfl := hs2 hk
   have hkb : ((t : Int) != (y : Int) - 1) = false := by simp [hk]
   repeat' (first
     | (with_reducible apply Req_intro); focus (first | omega | assumption | (simp; done))
     | with_reducible (first | apply Req_intro | refine nilT ?_ fun hn => ?_ | apply wk_draw Tryd_mixed | refine drawEnd (by kernel_rfl) ?_)
     | (with_reducible (first | apply condA_if | apply stepDG_ifN | apply stepDG_if | apply stepG_ifN | apply stepG_if)) <;> intro hb <;> (have hif := hb) <;> (try simp only [bo] at hif) <;> (try simp -implicitDefEqProofs (disch := omega) only [go_sem, hb, hwv, hlnB, hkb]) <;> clear hb
     | simp (maxSteps := 1000000) -implicitDefEqProofs (disch := omega) only [go_sem, hwv, hlnB, hkb])
   all_goals first | exact absurd trivial ‹¬True› | (exfalso; omega) | omega | skip
   with_reducible refine nxt_w (t + 1) ?_ ?_
   · (try dsimp only)
     (rw [hsame hk]; simp only [hzero])
     exact weak_do3 []
   try dsimp only
   omega
 · have hkb : ((t : Int) != (y : Int) - 1) = true := by simp [hk]
   by_cases hls : s < stuffs cs
   · have hstep := spK_step (b := W.getD w default) (q := (0, 1000)) (k := s) (by omega)
     have hnx : spRow W w (0, 1000) (s + 1) w = ((spK (W.getD w default) (0, 1000) s).set s (0, 1000)).map encS := by
       rw [spRow_at, ← hstep]
     rcases Nat.eq_or_lt_of_le (show 0 ≤ w by omega) with he | he
     · subst he
       repeat' (first
         | (with_reducible apply Req_intro); focus (first | omega | assumption | (simp; done))
         | with_reducible (first | apply Req_intro | refine nilT ?_ fun hn => ?_ | apply wk_draw Tryd_mixed | refine drawEnd (by kernel_rfl) ?_)
         | (with_reducible (first | apply condA_if | apply stepDG_ifN | apply stepDG_if | apply stepG_ifN | apply stepG_if)) <;> intro hb <;> (have hif := hb) <;> (try simp only [bo] at hif) <;> (try simp -implicitDefEqProofs (disch := omega) only [go_sem, hb, hwv, hrow, hlnB, hll, hkb]) <;> clear hb
         | simp (maxSteps := 1000000) -implicitDefEqProofs (disch := omega) only [go_sem, hwv, hrow, hlnB, hll, hkb])
       all_goals first | exact absurd trivial ‹¬True› | (exfalso; omega) | omega | skip
       refine calld (span_spec _ _) ?_
       try simp (maxSteps := 1000000) -implicitDefEqProofs (disch := omega) only [go_sem]
       repeat' (first
         | (with_reducible apply Req_intro); focus (first | omega | assumption | (simp; done))
         | with_reducible (first | apply Req_intro | refine nilT ?_ fun hn => ?_ | apply wk_draw Tryd_mixed | refine drawEnd (by kernel_rfl) ?_)
         | (with_reducible (first | apply condA_if | apply stepDG_ifN | apply stepDG_if | apply stepG_ifN | apply stepG_if)) <;> intro hb <;> (have hif := hb) <;> (try simp only [bo] at hif) <;> (try simp -implicitDefEqProofs (disch := omega) only [go_sem, hb, hwv, hrow, hlnB, hll, hkb]) <;> clear hb
         | simp (maxSteps := 1000000) -implicitDefEqProofs (disch := omega) only [go_sem, hwv, hrow, hlnB, hll, hkb])
       all_goals first | exact absurd trivial ‹¬True› | (exfalso; omega) | omega | skip
       with_reducible refine nxt_w (s + 1) ?_ ?_
       · (try dsimp only)
         rw [hnx]
         exact weak_do3 []
       try dsimp only
       exact ⟨by omega, fun h => absurd h hk⟩
     rcases Nat.eq_or_lt_of_le (show 1 ≤ w by omega) with he | he
     · subst he
       repeat' (first
         | (with_reducible apply Req_intro); focus (first | omega | assumption | (simp; done))
         | with_reducible (first | apply Req_intro | refine nilT ?_ fun hn => ?_ | apply wk_draw Tryd_mixed | refine drawEnd (by kernel_rfl) ?_)
         | (with_reducible (first | apply condA_if | apply stepDG_ifN | apply stepDG_if | apply stepG_ifN | apply stepG_if)) <;> intro hb <;> (have hif := hb) <;> (try simp only [bo] at hif) <;> (try simp -implicitDefEqProofs (disch := omega) only [go_sem, hb, hwv, hrow, hlnB, hll, hkb]) <;> clear hb
         | simp (maxSteps := 1000000) -implicitDefEqProofs (disch := omega) only [go_sem, hwv, hrow, hlnB, hll, hkb])
       all_goals first | exact absurd trivial ‹¬True› | (exfalso; omega) | omega | skip
       refine calld (span_spec _ _) ?_
       try simp (maxSteps := 1000000) -implicitDefEqProofs (disch := omega) only [go_sem]
       repeat' (first
         | (with_reducible apply Req_intro); focus (first | omega | assumption | (simp; done))
         | with_reducible (first | apply Req_intro | refine nilT ?_ fun hn => ?_ | apply wk_draw Tryd_mixed | refine drawEnd (by kernel_rfl) ?_)
         | (with_reducible (first | apply condA_if | apply stepDG_ifN | apply stepDG_if | apply stepG_ifN | apply stepG_if)) <;> intro hb <;> (have hif := hb) <;> (try simp only [bo] at hif) <;> (try simp -implicitDefEqProofs (disch := omega) only [go_sem, hb, hwv, hrow, hlnB, hll, hkb]) <;> clear hb
         | simp (maxSteps := 1000000) -implicitDefEqProofs (disch := omega) only [go_sem, hwv, hrow, hlnB, hll, hkb])
       all_goals first | exact absurd trivial ‹¬True› | (exfalso; omega) | omega | skip
       with_reducible refine nxt_w (s + 1) ?_ ?_
       · (try dsimp only)
         rw [hnx]
         exact weak_do3 []
       try dsimp only
       exact ⟨by omega, fun h => absurd h hk⟩
     rcases Nat.eq_or_lt_of_le (show 2 ≤ w by omega) with he | he
     · subst he
       repeat' (first
         | (with_reducible apply Req_intro); focus (first | omega | assumption | (simp; done))
         | with_reducible (first | apply Req_intro | refine nilT ?_ fun hn => ?_ | apply wk_draw Tryd_mixed | refine drawEnd (by kernel_rfl) ?_)
         | (with_reducible (first | apply condA_if | apply stepDG_ifN | apply stepDG_if | apply stepG_ifN | apply stepG_if)) <;> intro hb <;> (have hif := hb) <;> (try simp only [bo] at hif) <;> (try simp -implicitDefEqProofs (disch := omega) only [go_sem, hb, hwv, hrow, hlnB, hll, hkb]) <;> clear hb
         | simp (maxSteps := 1000000) -implicitDefEqProofs (disch := omega) only [go_sem, hwv, hrow, hlnB, hll, hkb])
       all_goals first | exact absurd trivial ‹¬True› | (exfalso; omega) | omega | skip
       refine calld (span_spec _ _) ?_
       try simp (maxSteps := 1000000) -implicitDefEqProofs (disch := omega) only [go_sem]
       repeat' (first
         | (with_reducible apply Req_intro); focus (first | omega | assumption | (simp; done))
         | with_reducible (first | apply Req_intro | refine nilT ?_ fun hn => ?_ | apply wk_draw Tryd_mixed | refine drawEnd (by kernel_rfl) ?_)
         | (with_reducible (first | apply condA_if | apply stepDG_ifN | apply stepDG_if | apply stepG_ifN | apply stepG_if)) <;> intro hb <;> (have hif := hb) <;> (try simp only [bo] at hif) <;> (try simp -implicitDefEqProofs (disch := omega) only [go_sem, hb, hwv, hrow, hlnB, hll, hkb]) <;> clear hb
         | simp (maxSteps := 1000000) -implicitDefEqProofs (disch := omega) only [go_sem, hwv, hrow, hlnB, hll, hkb])
       all_goals first | exact absurd trivial ‹¬True› | (exfalso; omega) | omega | skip
       with_reducible refine nxt_w (s + 1) ?_ ?_
       · (try dsimp only)
         rw [hnx]
         exact weak_do3 []
       try dsimp only
       exact ⟨by omega, fun h => absurd h hk⟩
     rcases Nat.eq_or_lt_of_le (show 3 ≤ w by omega) with he | he
     · subst he
       repeat' (first
         | (with_reducible apply Req_intro); focus (first | omega | assumption | (simp; done))
         | with_reducible (first | apply Req_intro | refine nilT ?_ fun hn => ?_ | apply wk_draw Tryd_mixed | refine drawEnd (by kernel_rfl) ?_)
         | (with_reducible (first | apply condA_if | apply stepDG_ifN | apply stepDG_if | apply stepG_ifN | apply stepG_if)) <;> intro hb <;> (have hif := hb) <;> (try simp only [bo] at hif) <;> (try simp -implicitDefEqProofs (disch := omega) only [go_sem, hb, hwv, hrow, hlnB, hll, hkb]) <;> clear hb
         | simp (maxSteps := 1000000) -implicitDefEqProofs (disch := omega) only [go_sem, hwv, hrow, hlnB, hll, hkb])
       all_goals first | exact absurd trivial ‹¬True› | (exfalso; omega) | omega | skip
       refine calld (span_spec _ _) ?_
       try simp (maxSteps := 1000000) -implicitDefEqProofs (disch := omega) only [go_sem]
       repeat' (first
         | (with_reducible apply Req_intro); focus (first | omega | assumption | (simp; done))
         | with_reducible (first | apply Req_intro | refine nilT ?_ fun hn => ?_ | apply wk_draw Tryd_mixed | refine drawEnd (by kernel_rfl) ?_)
         | (with_reducible (first | apply condA_if | apply stepDG_ifN | apply stepDG_if | apply stepG_ifN | apply stepG_if)) <;> intro hb <;> (have hif := hb) <;> (try simp only [bo] at hif) <;> (try simp -implicitDefEqProofs (disch := omega) only [go_sem, hb, hwv, hrow, hlnB, hll, hkb]) <;> clear hb
         | simp (maxSteps := 1000000) -implicitDefEqProofs (disch := omega) only [go_sem, hwv, hrow, hlnB, hll, hkb])
       all_goals first | exact absurd trivial ‹¬True› | (exfalso; omega) | omega | skip
       with_reducible refine nxt_w (s + 1) ?_ ?_
       · (try dsimp only)
         rw [hnx]
         exact weak_do3 []
       try dsimp only
       exact ⟨by omega, fun h => absurd h hk⟩
     rcases Nat.eq_or_lt_of_le (show 4 ≤ w by omega) with he | he
     · subst he
       repeat' (first
         | (with_reducible apply Req_intro); focus (first | omega | assumption | (simp; done))
         | with_reducible (first | apply Req_intro | refine nilT ?_ fun hn => ?_ | apply wk_draw Tryd_mixed | refine drawEnd (by kernel_rfl) ?_)
         | (with_reducible (first | apply condA_if | apply stepDG_ifN | apply stepDG_if | apply stepG_ifN | apply stepG_if)) <;> intro hb <;> (have hif := hb) <;> (try simp only [bo] at hif) <;> (try simp -implicitDefEqProofs (disch := omega) only [go_sem, hb, hwv, hrow, hlnB, hll, hkb]) <;> clear hb
         | simp (maxSteps := 1000000) -implicitDefEqProofs (disch := omega) only [go_sem, hwv, hrow, hlnB, hll, hkb])
       all_goals first | exact absurd trivial ‹¬True› | (exfalso; omega) | omega | skip
       refine calld (span_spec _ _) ?_
       try simp (maxSteps := 1000000) -implicitDefEqProofs (disch := omega) only [go_sem]
       repeat' (first
         | (with_reducible apply Req_intro); focus (first | omega | assumption | (simp; done))
         | with_reducible (first | apply Req_intro | refine nilT ?_ fun hn => ?_ | apply wk_draw Tryd_mixed | refine drawEnd (by kernel_rfl) ?_)
         | (with_reducible (first | apply condA_if | apply stepDG_ifN | apply stepDG_if | apply stepG_ifN | apply stepG_if)) <;> intro hb <;> (have hif := hb) <;> (try simp only [bo] at hif) <;> (try simp -implicitDefEqProofs (disch := omega) only [go_sem, hb, hwv, hrow, hlnB, hll, hkb]) <;> clear hb
         | simp (maxSteps := 1000000) -implicitDefEqProofs (disch := omega) only [go_sem, hwv, hrow, hlnB, hll, hkb])
       all_goals first | exact absurd trivial ‹¬True› | (exfalso; omega) | omega | skip
       with_reducible refine nxt_w (s + 1) ?_ ?_
       · (try dsimp only)
         rw [hnx]
         exact weak_do3 []
       try dsimp only
       exact ⟨by omega, fun h => absurd h hk⟩
     rcases Nat.eq_or_lt_of_le (show 5 ≤ w by omega) with he | he
     · subst he
       repeat' (first
         | (with_reducible apply Req_intro); focus (first | omega | assumption | (simp; done))
         | with_reducible (first | apply Req_intro | refine nilT ?_ fun hn => ?_ | apply wk_draw Tryd_mixed | refine drawEnd (by kernel_rfl) ?_)
         | (with_reducible (first | apply condA_if | apply stepDG_ifN | apply stepDG_if | apply stepG_ifN | apply stepG_if)) <;> intro hb <;> (have hif := hb) <;> (try simp only [bo] at hif) <;> (try simp -implicitDefEqProofs (disch := omega) only [go_sem, hb, hwv, hrow, hlnB, hll, hkb]) <;> clear hb
         | simp (maxSteps := 1000000) -implicitDefEqProofs (disch := omega) only [go_sem, hwv, hrow, hlnB, hll, hkb])
       all_goals first | exact absurd trivial ‹¬True› | (exfalso; omega) | omega | skip
       refine calld (span_spec _ _) ?_
       try simp (maxSteps := 1000000) -implicitDefEqProofs (disch := omega) only [go_sem]
       repeat' (first
         | (with_reducible apply Req_intro); focus (first | omega | assumption | (simp; done))
         | with_reducible (first | apply Req_intro | refine nilT ?_ fun hn => ?_ | apply wk_draw Tryd_mixed | refine drawEnd (by kernel_rfl) ?_)
         | (with_reducible (first | apply condA_if | apply stepDG_ifN | apply stepDG_if | apply stepG_ifN | apply stepG_if)) <;> intro hb <;> (have hif := hb) <;> (try simp only [bo] at hif) <;> (try simp -implicitDefEqProofs (disch := omega) only [go_sem, hb, hwv, hrow, hlnB, hll, hkb]) <;> clear hb
         | simp (maxSteps := 1000000) -implicitDefEqProofs (disch := omega) only [go_sem, hwv, hrow, hlnB, hll, hkb])
       all_goals first | exact absurd trivial ‹¬True› | (exfalso; omega) | omega | skip
       with_reducible refine nxt_w (s + 1) ?_ ?_
       · (try dsimp only)
         rw [hnx]
         exact weak_do3 []
       try dsimp only
       exact ⟨by omega, fun h => absurd h hk⟩
     rcases Nat.eq_or_lt_of_le (show 6 ≤ w by omega) with he | he
     · subst he
       repeat' (first
         | (with_reducible apply Req_intro); focus (first | omega | assumption | (simp; done))
         | with_reducible (first | apply Req_intro | refine nilT ?_ fun hn => ?_ | apply wk_draw Tryd_mixed | refine drawEnd (by kernel_rfl) ?_)
         | (with_reducible (first | apply condA_if | apply stepDG_ifN | apply stepDG_if | apply stepG_ifN | apply stepG_if)) <;> intro hb <;> (have hif := hb) <;> (try simp only [bo] at hif) <;> (try simp -implicitDefEqProofs (disch := omega) only [go_sem, hb, hwv, hrow, hlnB, hll, hkb]) <;> clear hb
         | simp (maxSteps := 1000000) -implicitDefEqProofs (disch := omega) only [go_sem, hwv, hrow, hlnB, hll, hkb])
       all_goals first | exact absurd trivial ‹¬True› | (exfalso; omega) | omega | skip
       refine calld (span_spec _ _) ?_
       try simp (maxSteps := 1000000) -implicitDefEqProofs (disch := omega) only [go_sem]
       repeat' (first
         | (with_reducible apply Req_intro); focus (first | omega | assumption | (simp; done))
         | with_reducible (first | apply Req_intro | refine nilT ?_ fun hn => ?_ | apply wk_draw Tryd_mixed | refine drawEnd (by kernel_rfl) ?_)
         | (with_reducible (first | apply condA_if | apply stepDG_ifN | apply stepDG_if | apply stepG_ifN | apply stepG_if)) <;> intro hb <;> (have hif := hb) <;> (try simp only [bo] at hif) <;> (try simp -implicitDefEqProofs (disch := omega) only [go_sem, hb, hwv, hrow, hlnB, hll, hkb]) <;> clear hb
         | simp (maxSteps := 1000000) -implicitDefEqProofs (disch := omega) only [go_sem, hwv, hrow, hlnB, hll, hkb])
       all_goals first | exact absurd trivial ‹¬True› | (exfalso; omega) | omega | skip
       with_reducible refine nxt_w (s + 1) ?_ ?_
       · (try dsimp only)
         rw [hnx]
         exact weak_do3 []
       try dsimp only
       exact ⟨by omega, fun h => absurd h hk⟩
     rcases Nat.eq_or_lt_of_le (show 7 ≤ w by omega) with he | he
     · subst he
       repeat' (first
         | (with_reducible apply Req_intro); focus (first | omega | assumption | (simp; done))
         | with_reducible (first | apply Req_intro | refine nilT ?_ fun hn => ?_ | apply wk_draw Tryd_mixed | refine drawEnd (by kernel_rfl) ?_)
         | (with_reducible (first | apply condA_if | apply stepDG_ifN | apply stepDG_if | apply stepG_ifN | apply stepG_if)) <;> intro hb <;> (have hif := hb) <;> (try simp only [bo] at hif) <;> (try simp -implicitDefEqProofs (disch := omega) only [go_sem, hb, hwv, hrow, hlnB, hll, hkb]) <;> clear hb
         | simp (maxSteps := 1000000) -implicitDefEqProofs (disch := omega) only [go_sem, hwv, hrow, hlnB, hll, hkb])
       all_goals first | exact absurd trivial ‹¬True› | (exfalso; omega) | omega | skip
       refine calld (span_spec _ _) ?_
       try simp (maxSteps := 1000000) -implicitDefEqProofs (disch := omega) only [go_sem]
       repeat' (first
         | (with_reducible apply Req_intro); focus (first | omega | assumption | (simp; done))
         | with_reducible (first | apply Req_intro | refine nilT ?_ fun hn => ?_ | apply wk_draw Tryd_mixed | refine drawEnd (by kernel_rfl) ?_)
         | (with_reducible (first | apply condA_if | apply stepDG_ifN | apply stepDG_if | apply stepG_ifN | apply stepG_if)) <;> intro hb <;> (have hif := hb) <;> (try simp only [bo] at hif) <;> (try simp -implicitDefEqProofs (disch := omega) only [go_sem, hb, hwv, hrow, hlnB, hll, hkb]) <;> clear hb
         | simp (maxSteps := 1000000) -implicitDefEqProofs (disch := omega) only [go_sem, hwv, hrow, hlnB, hll, hkb])
       all_goals first | exact absurd trivial ‹¬True› | (exfalso; omega) | omega | skip
       with_reducible refine nxt_w (s + 1) ?_ ?_
       · (try dsimp only)
         rw [hnx]
         exact weak_do3 []
       try dsimp only
       exact ⟨by omega, fun h => absurd h hk⟩
     omega
   · obtain rfl : s = stuffs cs := by omega
     repeat' (first
       | (with_reducible apply Req_intro); focus (first | omega | assumption | (simp; done))
       | with_reducible (first | apply Req_intro | refine nilT ?_ fun hn => ?_ | apply wk_draw Tryd_mixed | refine drawEnd (by kernel_rfl) ?_)
       | (with_reducible (first | apply condA_if | apply stepDG_ifN | apply stepDG_if | apply stepG_ifN | apply stepG_if)) <;> intro hb <;> (have hif := hb) <;> (try simp only [bo] at hif) <;> (try simp -implicitDefEqProofs (disch := omega) only [go_sem, hb, hwv, hlnB, hkb]) <;> clear hb
       | simp (maxSteps := 1000000) -implicitDefEqProofs (disch := omega) only [go_sem, hwv, hlnB, hkb])
     all_goals first | exact absurd trivial ‹¬True› | (exfalso; omega) | omega | skip
     with_reducible refine nxt_w (t + 1) ?_ ?_
     · (try dsimp only)
       (rw [hnext hk]; simp only [hfull])
       exact weak_do3 []
     try dsimp only
     omega
end Go.Aw
end
