/-
  A part of the proof that a law returns true for every input that the given row speaks of: an own verified walk over the program (namespace Go.Aw), contracts of the functions that the law calls, and the law itself. Conditions: those of the given row, no other.
-/
import Derived.Test.YtofoildhohgngaaDoorPart4
set_option linter.unusedVariables false
set_option linter.unusedSimpArgs false
section
set_option maxRecDepth 20000
set_option maxHeartbeats 4000000
namespace Go.Aw
open Go.RowKit Go.Proofs
def rowM (bx : List B5) (ns i j : Nat) : List (List V) := if j < i then (bBox (bx.getD j default) ns).map encS else []
theorem rowM_zero (bx : List B5) (ns j : Nat) : rowM bx ns 0 j = [] := rfl
theorem rowM_next (bx : List B5) (ns i : Nat) : rowM bx ns (i + 1) i = (bBox (bx.getD i default) ns).map encS := by rw [rowM, if_pos (Nat.lt_succ_self _)]
@[go_sem] theorem rowM_pu (bx : List B5) (ns i j : Nat) : PuE (rowM bx ns i j) = True := by
 unfold rowM; split
 · first | assumption | (simp only [go_sem] <;> assumption) | (simp only [go_sem, *]; done) | (simp [go_sem]; done)
 · first | assumption | (simp only [go_sem] <;> assumption) | (simp only [go_sem, *]; done) | (simp [go_sem]; done)
theorem made_F (bx : List B5) (ca st b0 b1 b2 b3 b4 b5 : Int) (hbx : ∀ v ∈ bx, v.ok) (hca : okU ca) (hst : okU st) (h0 : okU b0) (h1 : okU b1) (h2 : okU b2) (h3 : okU b3) (h4 : okU b4) (h5 : okU b5) (hlen : bx.length ≤ 4611686018427387904)
   (nc ns n : Nat) (hnc : 1 + ca % 3 = nc) (hns : 1 + st % 2 = ns) (hn : n = min bx.length 8) : CallH Tryd.prog 37 [.agg (innC bx ca st b0 b1 b2 b3 b4 b5)] (fun _ => none) 0 (fun r h nx => r = .tup [.agg [.os 68 1 n false, .os 65 2 nc false], .os 66 1 n false, .os 67 1 n false] ∧
     h = hpOf (fun _ => none) [(0, some ⟨9, [innC bx ca st b0 b1 b2 b3 b4 b5], 73, .wr⟩), (64, some ⟨2, [[.os 68 1 n false, .os 65 2 nc false]], 25, .wr⟩), (65, some ⟨2, bl2 nc (cntB bx nc n) nc (mHeld (sumB5 bx nc ns n) (bq b0 b1 b2 b3 b4 b5) ns), 64, .wr⟩), (960, some ⟨2, [[.os 68 1 n false, .os 65 2 nc false]], 25, .wr⟩), (66, some ⟨1, (bx.take n).map (fun v => encI (bWho nc v)), 3, .wr⟩), (67, some ⟨1, (bx.take n).map (fun v => encW (bHeld v ns)), 31, .wr⟩), (68, some ⟨1, famE 72 n (fun _ => ns), 67, .wr⟩), (72, some ⟨2, rowM bx ns n 0, 60, .wr⟩), (73, some ⟨2, rowM bx ns n 1, 60, .wr⟩), (74, some ⟨2, rowM bx ns n 2, 60, .wr⟩), (75, some ⟨2, rowM bx ns n 3, 60, .wr⟩), (76, some ⟨2, rowM bx ns n 4, 60, .wr⟩), (77, some ⟨2, rowM bx ns n 5, 60, .wr⟩), (78, some ⟨2, rowM bx ns n 6, 60, .wr⟩), (79, some ⟨2, rowM bx ns n 7, 60, .wr⟩), (1408, some ⟨6, [encSm (sumB5 bx nc ns n)], 117, .wr⟩)] ∧ nx = 3200) := by
 unfold okU at hca hst
 have hnc3 : 1 ≤ nc ∧ nc ≤ 3 := by omega
 have hns2 : 1 ≤ ns ∧ ns ≤ 2 := by omega
 refine callH_enter Tryd.func37 rfl Tryd.results37 Tryd.ntmps37 rfl (by simp (maxSteps := 1000000) -implicitDefEqProofs (disch := omega) only [go_sem]; rfl) fun base => ?_
 repeat' (first
   | (with_reducible apply Req_intro); focus (first | omega | assumption | (simp; done))
   | with_reducible (first | apply Req_intro | refine nilT ?_ fun hn => ?_ | apply wk_draw Tryd_mixed | refine drawEnd (by kernel_rfl) ?_)
   | (with_reducible (first | apply condA_if | apply stepDG_ifN | apply stepDG_if | apply stepG_ifN | apply stepG_if)) <;> intro hb <;> (have hif := hb) <;> (try simp only [bo] at hif) <;> (try simp -implicitDefEqProofs (disch := omega) only [go_sem, hb, hnc, hns]) <;> clear hb
   | simp (maxSteps := 1000000) -implicitDefEqProofs (disch := omega) only [go_sem, hnc, hns])
 refine loop_rows (α := Nat) [11, 35, 36, 37, 38, 39, 40, 41, 42, 43, 44, 45] (fun i => [(11, .lit (.int .i64 i))]) (fun i => [(0, some ⟨9, [innC bx ca st b0 b1 b2 b3 b4 b5], 73, .wr⟩), (64, some ⟨2, [[nilV, nilV]], 25, .wr⟩), (960, some ⟨2, [[nilV, .os 65 2 i false]], 25, .wr⟩), (65, some ⟨2, bl i fun _ => 0, 64, .wr⟩), (1280, some ⟨1, [], 3, .wr⟩), (1344, some ⟨1, [], 31, .wr⟩), (1408, some ⟨6, [encSm fun _ _ => 0], 117, .wr⟩)]) (fun i => i ≤ nc) (fun i => nc - i) 0 (fun x => by simp (maxSteps := 1000000) -implicitDefEqProofs (disch := omega) only [go_sem]; rfl) ?_ ?_ fun x hx => ?_
 · simp only [bl, List.range_zero, List.map_nil, encSm]
   exact weak_do3 [(65, 1000000)]
 · exact Nat.zero_le _
 rename Nat => y
 by_cases hlt : y < nc
 · repeat' (first
     | (with_reducible apply Req_intro); focus (first | omega | assumption | (simp; done))
     | with_reducible (first | apply Req_intro | refine nilT ?_ fun hn => ?_ | apply wk_draw Tryd_mixed | refine drawEnd (by kernel_rfl) ?_)
     | (with_reducible (first | apply condA_if | apply stepDG_ifN | apply stepDG_if | apply stepG_ifN | apply stepG_if)) <;> intro hb <;> (have hif := hb) <;> (try simp only [bo] at hif) <;> (try simp -implicitDefEqProofs (disch := omega) only [go_sem, hb]) <;> clear hb
     | simp (maxSteps := 1000000) -implicitDefEqProofs (disch := omega) only [go_sem])
   all_goals first | exact absurd trivial ‹¬True› | (exfalso; omega) | skip
   with_reducible refine nxt_w (y + 1) ?_ ?_
   · (try dsimp only)
     rw [bl_succ]
     exact weak_do3 [(65, 2176)]
   try dsimp only
   omega
 · obtain rfl : y = nc := by omega
   clear hlt
   repeat' (first
     | (with_reducible apply Req_intro); focus (first | omega | assumption | (simp; done))
     | with_reducible (first | apply Req_intro | refine nilT ?_ fun hn => ?_ | apply wk_draw Tryd_mixed | refine drawEnd (by kernel_rfl) ?_)
     | (with_reducible (first | apply condA_if | apply stepDG_ifN | apply stepDG_if | apply stepG_ifN | apply stepG_if)) <;> intro hb <;> (have hif := hb) <;> (try simp only [bo] at hif) <;> (try simp -implicitDefEqProofs (disch := omega) only [go_sem, hb]) <;> clear hb
     | simp (maxSteps := 1000000) -implicitDefEqProofs (disch := omega) only [go_sem])
   all_goals first | exact absurd trivial ‹¬True› | (exfalso; omega) | skip
   refine loop_rows (α := Nat) [9, 10, 12, 13, 14, 15, 16, 17, 18, 46, 47, 48, 49, 50, 51, 52, 53, 54, 55, 56, 57, 58, 59, 60, 61, 62, 63, 64, 65, 66, 67, 68, 69, 70, 71, 72, 73, 74, 75, 76, 77, 78, 79, 80, 81, 82, 83, 84, 85, 86, 87, 88, 89, 90, 91, 92, 93, 94, 95, 96, 97, 98, 99, 100, 101, 102, 103, 104, 105, 106, 107, 108, 109, 110, 111, 112, 113, 114, 115, 116, 117, 118, 119, 120, 121, 122, 123, 124, 125, 126, 127, 128, 129, 130, 131, 132, 133] (fun i => [(12, .lit (.int .i64 i)), (9, .os 66 1 i false), (10, .os 67 1 i false), (33, .undef), (34, .undef)]) (fun i => [(0, some ⟨9, [innC bx ca st b0 b1 b2 b3 b4 b5], 73, .wr⟩), (64, some ⟨2, [[nilV, nilV]], 25, .wr⟩), (960, some ⟨2, [[.os 68 1 i false, .os 65 2 y false]], 25, .wr⟩), (65, some ⟨2, bl y (cntB bx y i), 64, .wr⟩), (66, some ⟨1, (bx.take i).map (fun v => encI (bWho y v)), 3, .wr⟩), (67, some ⟨1, (bx.take i).map (fun v => encW (bHeld v ns)), 31, .wr⟩), (68, some ⟨1, famE 72 i (fun _ => ns), 67, .wr⟩), (72, some ⟨2, rowM bx ns i 0, 60, .wr⟩), (73, some ⟨2, rowM bx ns i 1, 60, .wr⟩), (74, some ⟨2, rowM bx ns i 2, 60, .wr⟩), (75, some ⟨2, rowM bx ns i 3, 60, .wr⟩), (76, some ⟨2, rowM bx ns i 4, 60, .wr⟩), (77, some ⟨2, rowM bx ns i 5, 60, .wr⟩), (78, some ⟨2, rowM bx ns i 6, 60, .wr⟩), (79, some ⟨2, rowM bx ns i 7, 60, .wr⟩), (1408, some ⟨6, [encSm (sumB5 bx y ns i)], 117, .wr⟩)]) (fun i => i ≤ bx.length ∧ i ≤ 8) (fun i => bx.length - i) 0 (fun x => by simp (maxSteps := 1000000) -implicitDefEqProofs (disch := omega) only [go_sem]; rfl) ?_ ?_ fun x hx => ?_
   · simp only [List.take_zero, List.map_nil, cntB, sumB5, famE_zero, rowM_zero]
     exact weak_do3 [(66, 1280), (67, 1344), (68, 1000000), (72, 1000001), (73, 1000002), (74, 1000003), (75, 1000004), (76, 1000005), (77, 1000006), (78, 1000007), (79, 1000008)]
   · exact ⟨Nat.zero_le _, Nat.zero_le _⟩
   obtain ⟨hxl, hx8⟩ := hx
   rename Nat => i
   by_cases hlt : i < bx.length ∧ i < 8
   · obtain ⟨hlt1, hlt2⟩ := hlt
     have hv := hbx _ (getD_mem hlt1)
     obtain ⟨v1, v2, v3, v4, v5⟩ := hv
     unfold okU at v1 v2 v3 v4 v5
     repeat' (first
       | (with_reducible apply Req_intro); focus (first | omega | assumption | (simp; done))
       | with_reducible (first | apply Req_intro | refine nilT ?_ fun hn => ?_ | apply wk_draw Tryd_mixed | refine drawEnd (by kernel_rfl) ?_)
       | (with_reducible (first | apply condA_if | apply stepDG_ifN | apply stepDG_if | apply stepG_ifN | apply stepG_if)) <;> intro hb <;> (have hif := hb) <;> (try simp only [bo] at hif) <;> (try simp -implicitDefEqProofs (disch := omega) only [go_sem, hb]) <;> clear hb
       | simp (maxSteps := 1000000) -implicitDefEqProofs (disch := omega) only [go_sem])
     all_goals first | exact absurd trivial ‹¬True› | (exfalso; omega) | skip
     have hsb := sumB5_bnd hbx y ns i (by omega)
     have hcb := cntB_bnd bx y i
     have hvok := hbx _ (getD_mem hlt1)
     have hwho : bWho y (bx.getD i default) = ((bx.getD i default).a % y).toNat := rfl
     have hsm : sumB5 bx y ns (i + 1) = smTo (sumB5 bx y ns i) (bWho y (bx.getD i default)) (bx.getD i default) ns := rfl
     have hcn : cntB bx y (i + 1) = updF (cntB bx y i) (bWho y (bx.getD i default)) (cntB bx y i (bWho y (bx.getD i default)) + 1) := by
       funext c; simp only [cntB, updF]
     have ht := take_succ_getD hlt1
     have hrow := rowM_next bx ns i
     generalize bx.getD i default = v at *
     have hc1 := Int.emod_nonneg v.a (show (y : Int) ≠ 0 by omega)
     have hc2 := Int.emod_lt_of_pos v.a (show (0 : Int) < y by omega)
     have hcw : v.a % (y : Int) = (bWho y v : Int) := by rw [hwho]; omega
     have hcy : bWho y v < y := by omega
     clear hwho hc1 hc2
     simp only [hcw]
     generalize hwc : bWho y v = c at *
     generalize sumB5 bx y ns i = sm at *
     generalize cntB bx y i = cn at *
     refine loop_rows (α := Nat) [16, 17, 18, 69, 70, 71, 72, 73, 74, 75, 76, 77, 78, 79, 80, 81, 82, 83, 84, 85, 86, 87, 88, 89, 90, 91, 92, 93, 94, 95, 96, 97, 98, 99, 100, 101, 102, 103, 104, 105, 106, 107, 108, 109, 110] (fun k => [(17, .lit (.int .i64 k)), (16, .os 69 1 k false), (68, .undef)]) (fun k => [(0, some ⟨9, [innC bx ca st b0 b1 b2 b3 b4 b5], 73, .wr⟩), (64, some ⟨2, [[nilV, nilV]], 25, .wr⟩), (960, some ⟨2, [[.os 68 1 i false, .os 65 2 y false]], 25, .wr⟩), (65, some ⟨2, bl y cn, 64, .wr⟩), (66, some ⟨1, (bx.take i).map (fun v => encI (bWho y v)), 3, .wr⟩), (67, some ⟨1, (bx.take i).map (fun v => encW (bHeld v ns)), 31, .wr⟩), (68, some ⟨1, famE 72 i (fun _ => ns), 67, .wr⟩), (72, some ⟨2, rowM bx ns i 0, 60, .wr⟩), (73, some ⟨2, rowM bx ns i 1, 60, .wr⟩), (74, some ⟨2, rowM bx ns i 2, 60, .wr⟩), (75, some ⟨2, rowM bx ns i 3, 60, .wr⟩), (76, some ⟨2, rowM bx ns i 4, 60, .wr⟩), (77, some ⟨2, rowM bx ns i 5, 60, .wr⟩), (78, some ⟨2, rowM bx ns i 6, 60, .wr⟩), (79, some ⟨2, rowM bx ns i 7, 60, .wr⟩), (1408, some ⟨6, [encSm (smTo sm c v k)], 117, .wr⟩), (2880, some ⟨5, [encU v], 118, .wr⟩), (3456, some ⟨1, [[.os 70 2 k false]], 67, .wr⟩), (69, some ⟨1, (bHeld v k).map encI, 3, .wr⟩), (70, some ⟨2, (bBox v k).map encS, 60, .wr⟩)]) (fun k => k ≤ ns) (fun k => ns - k) 0 (fun x => by simp (maxSteps := 1000000) -implicitDefEqProofs (disch := omega) only [go_sem]; rfl) ?_ ?_ fun x hx => ?_
     · simp only [smTo, bHeld, bBox, List.range_zero, List.map_nil]
       exact weak_do3 [(69, 3392), (70, 1000000)]
     · exact Nat.zero_le _
     by_cases hlk : x < ns
     · have hk : x = 0 ∨ x = 1 := by omega
       rcases hk with rfl | rfl
       · simp only [smTo, show bHeld v 0 = [] from rfl, show bBox v 0 = [] from rfl, List.map_nil, show ((0 : Nat) : Int) = 0 from rfl]
         have hs0 := hsb c 0
         repeat' (first
           | (with_reducible apply Req_intro); focus (first | omega | assumption | (simp; done))
           | with_reducible (first | apply Req_intro | refine nilT ?_ fun hn => ?_ | apply wk_draw Tryd_mixed | refine drawEnd (by kernel_rfl) ?_)
           | (with_reducible (first | apply condA_if | apply stepDG_ifN | apply stepDG_if | apply stepG_ifN | apply stepG_if)) <;> intro hb <;> (have hif := hb) <;> (try simp only [bo] at hif) <;> (try simp -implicitDefEqProofs (disch := omega) only [go_sem, hb]) <;> clear hb
           | simp (maxSteps := 1000000) -implicitDefEqProofs (disch := omega) only [go_sem])
         all_goals first | exact absurd trivial ‹¬True› | (exfalso; omega) | skip
         refine calld (span_spec _ _) ?_
         try simp (maxSteps := 1000000) -implicitDefEqProofs (disch := omega) only [go_sem]
         repeat' (first
           | (with_reducible apply Req_intro); focus (first | omega | assumption | (simp; done))
           | with_reducible (first | apply Req_intro | refine nilT ?_ fun hn => ?_ | apply wk_draw Tryd_mixed | refine drawEnd (by kernel_rfl) ?_)
           | (with_reducible (first | apply condA_if | apply stepDG_ifN | apply stepDG_if | apply stepG_ifN | apply stepG_if)) <;> intro hb <;> (have hif := hb) <;> (try simp only [bo] at hif) <;> (try simp -implicitDefEqProofs (disch := omega) only [go_sem, hb]) <;> clear hb
           | simp (maxSteps := 1000000) -implicitDefEqProofs (disch := omega) only [go_sem])
         all_goals first | exact absurd trivial ‹¬True› | (exfalso; omega) | skip
         with_reducible refine nxt_w 1 ?_ ?_
         · (try dsimp only)
           simp only [smTo, show bHeld v 1 = [v.b] from rfl, show bBox v 1 = [(max 0 (v.b - v.d % 8), v.b + v.e % 8)] from rfl, List.map_cons, List.map_nil, encI_eq, encS, bN]
           exact weak_do3 [(69, 4544), (70, 5760)]
         try dsimp only
         omega
       · have hs1 := (smTo_bnd hsb c hvok 1) c 1
         simp only [smTo, show bHeld v 1 = [v.b] from rfl, show bBox v 1 = [(max 0 (v.b - v.d % 8), v.b + v.e % 8)] from rfl, List.map_cons, List.map_nil, show ((1 : Nat) : Int) = 1 from rfl] at hs1 ⊢
         rw [if_neg (by decide)] at hs1
         generalize hsm1 : upd2 sm c 0 (sm c 0 + bN v 0) = sm1 at *
         repeat' (first
           | (with_reducible apply Req_intro); focus (first | omega | assumption | (simp; done))
           | with_reducible (first | apply Req_intro | refine nilT ?_ fun hn => ?_ | apply wk_draw Tryd_mixed | refine drawEnd (by kernel_rfl) ?_)
           | (with_reducible (first | apply condA_if | apply stepDG_ifN | apply stepDG_if | apply stepG_ifN | apply stepG_if)) <;> intro hb <;> (have hif := hb) <;> (try simp only [bo] at hif) <;> (try simp -implicitDefEqProofs (disch := omega) only [go_sem, hb]) <;> clear hb
           | simp (maxSteps := 1000000) -implicitDefEqProofs (disch := omega) only [go_sem])
         all_goals first | exact absurd trivial ‹¬True› | (exfalso; omega) | skip
         refine calld (span_spec _ _) ?_
         try simp (maxSteps := 1000000) -implicitDefEqProofs (disch := omega) only [go_sem]
         repeat' (first
           | (with_reducible apply Req_intro); focus (first | omega | assumption | (simp; done))
           | with_reducible (first | apply Req_intro | refine nilT ?_ fun hn => ?_ | apply wk_draw Tryd_mixed | refine drawEnd (by kernel_rfl) ?_)
           | (with_reducible (first | apply condA_if | apply stepDG_ifN | apply stepDG_if | apply stepG_ifN | apply stepG_if)) <;> intro hb <;> (have hif := hb) <;> (try simp only [bo] at hif) <;> (try simp -implicitDefEqProofs (disch := omega) only [go_sem, hb]) <;> clear hb
           | simp (maxSteps := 1000000) -implicitDefEqProofs (disch := omega) only [go_sem])
         all_goals first | exact absurd trivial ‹¬True› | (exfalso; omega) | skip
         have hs2 : smTo sm c v 2 = upd2 sm1 c 1 (sm1 c 1 + v.c) := by rw [← hsm1]; rfl
         with_reducible refine nxt_w 2 ?_ ?_
         · (try dsimp only)
           simp only [hs2, show bHeld v 2 = [v.b, v.c] from rfl, show bBox v 2 = [(max 0 (v.b - v.d % 8), v.b + v.e % 8), (max 0 (v.c - v.d % 8), v.c + v.e % 8)] from rfl, List.map_cons, List.map_nil, encI_eq, encS, bN]
           exact weak_do3 [(69, 4544), (70, 5760)]
         try dsimp only
         omega
     · obtain rfl : x = ns := by omega
       have htl : (bx.take i).length = i := by rw [List.length_take]; omega
       have hcc := hcb c
       have hll1 : (bHeld v x).length = x := by simp [bHeld]
       have hll2 : (bBox v x).length = x := by simp [bBox]
       repeat' (first
         | (with_reducible apply Req_intro); focus (first | omega | assumption | (simp; done))
         | with_reducible (first | apply Req_intro | refine nilT ?_ fun hn => ?_ | apply wk_draw Tryd_mixed | refine drawEnd (by kernel_rfl) ?_)
         | (with_reducible (first | apply condA_if | apply stepDG_ifN | apply stepDG_if | apply stepG_ifN | apply stepG_if)) <;> intro hb <;> (have hif := hb) <;> (try simp only [bo] at hif) <;> (try simp -implicitDefEqProofs (disch := omega) only [go_sem, hb]) <;> clear hb
         | simp (maxSteps := 1000000) -implicitDefEqProofs (disch := omega) only [go_sem])
       all_goals first | exact absurd trivial ‹¬True› | (exfalso; omega) | skip
       refine nxt_snapRow [69] 4736 (es' := (bx.take i).map (fun v => encW (bHeld v x)) ++ [encW (bHeld v x)]) (by first | (simp only [go_sem]; done) | (simp only [go_sem]; rfl)) (by rfl) ?_ (by first | assumption | (simp only [go_sem] <;> assumption) | (simp only [go_sem, *]; done) | (simp [go_sem]; done)) (by first | (simp only [go_sem]; done) | (simp only [go_sem]; rfl)) ?_
       · refine PurE.snocR (by first | assumption | (simp only [go_sem] <;> assumption) | (simp only [go_sem, *]; done) | (simp [go_sem]; done)) ?_
         rw [show encW (bHeld v x) = [.sl 1 ((bHeld v x).map encI) false] from rfl]
         (try simp (maxSteps := 1000000) -implicitDefEqProofs (disch := omega) only [go_sem])
         repeat' (first
           | with_reducible (first | exact PurI.nil | exact Pur.nilsl _ _ | exact PurE.nil)
           | (with_reducible (first | refine PurI.puL ?_ | refine PurE.puE ?_)) <;> (first | assumption | (simp only [go_sem] <;> assumption) | (simp only [go_sem, *]; done) | (simp [go_sem]; done))
           | with_reducible apply PurI.cons
           | (with_reducible refine Pur.pu _ ?_) <;> (first | assumption | (simp only [go_sem] <;> assumption) | (simp only [go_sem, *]; done) | (simp [go_sem]; done))
           | ((with_reducible apply Pur.refR) <;> (first | rfl | decide | (simp only [go_sem]; omega) | (simp only [go_sem]) | skip))
           | ((with_reducible apply Pur.osR) <;> (first | rfl | exact fun h => h | omega | (simp; omega) | (simp; done) | (simp only [go_sem]) | skip))
           | with_reducible (first | apply Pur.fnI | apply Pur.aggI | apply PurE.cons)
           | (with_reducible refine PurI.eqL ?_ ?_); (focus rfl); (focus (first | assumption | (simp only [go_sem] <;> assumption) | (simp only [go_sem, *]; done) | (simp [go_sem]; done)))
           | simp (maxSteps := 1000000) -implicitDefEqProofs (disch := omega) only [go_sem])
       rcases Nat.eq_or_lt_of_le (show 0 ≤ i by omega) with he | he
       · subst he
         with_reducible refine nxt_w (0 + 1) ?_ ?_
         · (try dsimp only)
           (rw [ht, hsm, hcn, hrow, List.map_append, List.map_append]; simp only [List.map_cons, List.map_nil, hwc])
           exact weak_do3 [(66, 4480), (67, 4736), (68, 4224), (72, 70)]
         try dsimp only
         omega
       rcases Nat.eq_or_lt_of_le (show 1 ≤ i by omega) with he | he
       · subst he
         with_reducible refine nxt_w (1 + 1) ?_ ?_
         · (try dsimp only)
           (rw [ht, hsm, hcn, hrow, List.map_append, List.map_append]; simp only [List.map_cons, List.map_nil, hwc])
           exact weak_do3 [(66, 4480), (67, 4736), (68, 4224), (73, 70)]
         try dsimp only
         omega
       rcases Nat.eq_or_lt_of_le (show 2 ≤ i by omega) with he | he
       · subst he
         with_reducible refine nxt_w (2 + 1) ?_ ?_
         · (try dsimp only)
           (rw [ht, hsm, hcn, hrow, List.map_append, List.map_append]; simp only [List.map_cons, List.map_nil, hwc])
           exact weak_do3 [(66, 4480), (67, 4736), (68, 4224), (74, 70)]
         try dsimp only
         omega
       rcases Nat.eq_or_lt_of_le (show 3 ≤ i by omega) with he | he
       · subst he
         with_reducible refine nxt_w (3 + 1) ?_ ?_
         · (try dsimp only)
           (rw [ht, hsm, hcn, hrow, List.map_append, List.map_append]; simp only [List.map_cons, List.map_nil, hwc])
           exact weak_do3 [(66, 4480), (67, 4736), (68, 4224), (75, 70)]
         try dsimp only
         omega
       rcases Nat.eq_or_lt_of_le (show 4 ≤ i by omega) with he | he
       · subst he
         with_reducible refine nxt_w (4 + 1) ?_ ?_
         · (try dsimp only)
           (rw [ht, hsm, hcn, hrow, List.map_append, List.map_append]; simp only [List.map_cons, List.map_nil, hwc])
           exact weak_do3 [(66, 4480), (67, 4736), (68, 4224), (76, 70)]
         try dsimp only
         omega
       rcases Nat.eq_or_lt_of_le (show 5 ≤ i by omega) with he | he
       · subst he
         with_reducible refine nxt_w (5 + 1) ?_ ?_
         · (try dsimp only)
           (rw [ht, hsm, hcn, hrow, List.map_append, List.map_append]; simp only [List.map_cons, List.map_nil, hwc])
           exact weak_do3 [(66, 4480), (67, 4736), (68, 4224), (77, 70)]
         try dsimp only
         omega
       rcases Nat.eq_or_lt_of_le (show 6 ≤ i by omega) with he | he
       · subst he
         with_reducible refine nxt_w (6 + 1) ?_ ?_
         · (try dsimp only)
           (rw [ht, hsm, hcn, hrow, List.map_append, List.map_append]; simp only [List.map_cons, List.map_nil, hwc])
           exact weak_do3 [(66, 4480), (67, 4736), (68, 4224), (78, 70)]
         try dsimp only
         omega
       rcases Nat.eq_or_lt_of_le (show 7 ≤ i by omega) with he | he
       · subst he
         with_reducible refine nxt_w (7 + 1) ?_ ?_
         · (try dsimp only)
           (rw [ht, hsm, hcn, hrow, List.map_append, List.map_append]; simp only [List.map_cons, List.map_nil, hwc])
           exact weak_do3 [(66, 4480), (67, 4736), (68, 4224), (79, 70)]
         try dsimp only
         omega
       omega
   · have hsb := sumB5_bnd hbx y ns i (by omega)
     obtain rfl : i = n := by omega
     generalize hS : sumB5 bx y ns i = S at *
     generalize hf : cntB bx y i = f at *
     generalize hM : mHeld S (bq b0 b1 b2 b3 b4 b5) ns = M
     have htl : (bx.take i).length = i := by rw [List.length_take]; omega
     repeat' (first
       | (with_reducible apply Req_intro); focus (first | omega | assumption | (simp; done))
       | with_reducible (first | apply Req_intro | refine nilT ?_ fun hn => ?_ | apply wk_draw Tryd_mixed | refine drawEnd (by kernel_rfl) ?_)
       | (with_reducible (first | apply condA_if | apply stepDG_ifN | apply stepDG_if | apply stepG_ifN | apply stepG_if)) <;> intro hb <;> (have hif := hb) <;> (try simp only [bo] at hif) <;> (try simp -implicitDefEqProofs (disch := omega) only [go_sem, hb]) <;> clear hb
       | simp (maxSteps := 1000000) -implicitDefEqProofs (disch := omega) only [go_sem])
     all_goals first | exact absurd trivial ‹¬True› | (exfalso; omega) | skip
     all_goals clear hlt
     all_goals
       refine loop_rows (α := Nat) [19, 20, 134, 135, 136, 137, 138, 139, 140, 141, 142, 143, 144, 145, 146, 147, 148, 149, 150, 151, 152, 153, 154, 155, 156, 157, 158, 159, 160, 161, 162, 163, 164, 165, 166, 167, 168, 169, 170, 171, 172, 173, 174, 175, 176, 177, 178, 179, 180, 181, 182, 183, 184] (fun c => [(19, .lit (.int .i64 c))]) (fun c => [(0, some ⟨9, [innC bx ca st b0 b1 b2 b3 b4 b5], 73, .wr⟩), (64, some ⟨2, [[nilV, nilV]], 25, .wr⟩), (65, some ⟨2, bl2 y f c M, 64, .wr⟩), (960, some ⟨2, [[.os 68 1 i false, .os 65 2 y false]], 25, .wr⟩), (66, some ⟨1, (bx.take i).map (fun v => encI (bWho y v)), 3, .wr⟩), (67, some ⟨1, (bx.take i).map (fun v => encW (bHeld v ns)), 31, .wr⟩), (68, some ⟨1, famE 72 i (fun _ => ns), 67, .wr⟩), (72, some ⟨2, rowM bx ns i 0, 60, .wr⟩), (73, some ⟨2, rowM bx ns i 1, 60, .wr⟩), (74, some ⟨2, rowM bx ns i 2, 60, .wr⟩), (75, some ⟨2, rowM bx ns i 3, 60, .wr⟩), (76, some ⟨2, rowM bx ns i 4, 60, .wr⟩), (77, some ⟨2, rowM bx ns i 5, 60, .wr⟩), (78, some ⟨2, rowM bx ns i 6, 60, .wr⟩), (79, some ⟨2, rowM bx ns i 7, 60, .wr⟩), (1408, some ⟨6, [encSm S], 117, .wr⟩)]) (fun c => c ≤ y) (fun c => y - c) 0 (fun x => by simp (maxSteps := 1000000) -implicitDefEqProofs (disch := omega) only [go_sem]; rfl) ?_ ?_ fun x hx => ?_
       · rw [bl2_zero]
         exact weak_do3 []
       · exact Nat.zero_le _
       rename Nat => c
       by_cases hcy : c < y
       · repeat' (first
           | (with_reducible apply Req_intro); focus (first | omega | assumption | (simp; done))
           | with_reducible (first | apply Req_intro | refine nilT ?_ fun hn => ?_ | apply wk_draw Tryd_mixed | refine drawEnd (by kernel_rfl) ?_)
           | (with_reducible (first | apply condA_if | apply stepDG_ifN | apply stepDG_if | apply stepG_ifN | apply stepG_if)) <;> intro hb <;> (have hif := hb) <;> (try simp only [bo] at hif) <;> (try simp -implicitDefEqProofs (disch := omega) only [go_sem, hb]) <;> clear hb
           | simp (maxSteps := 1000000) -implicitDefEqProofs (disch := omega) only [go_sem])
         all_goals first | exact absurd trivial ‹¬True› | (exfalso; omega) | skip
         refine loop_rows (α := Nat) [20, 139, 140, 141, 142, 143, 144, 145, 146, 147, 148, 149, 150, 151, 152, 153, 154, 155, 156, 157, 158, 159, 160, 161, 162, 163, 164, 165, 166, 167, 168, 169, 170, 171, 172, 173, 174, 175, 176, 177, 178, 179, 180, 181, 182, 183, 184] (fun k => [(20, .lit (.int .i64 k))]) (fun k => [(0, some ⟨9, [innC bx ca st b0 b1 b2 b3 b4 b5], 73, .wr⟩), (64, some ⟨2, [[nilV, nilV]], 25, .wr⟩), (65, some ⟨2, rowK y f c M k, 64, .wr⟩), (71, row71 (mSpan S (bq b0 b1 b2 b3 b4 b5) c) k), (960, some ⟨2, [[.os 68 1 i false, .os 65 2 y false]], 25, .wr⟩), (66, some ⟨1, (bx.take i).map (fun v => encI (bWho y v)), 3, .wr⟩), (67, some ⟨1, (bx.take i).map (fun v => encW (bHeld v ns)), 31, .wr⟩), (68, some ⟨1, famE 72 i (fun _ => ns), 67, .wr⟩), (72, some ⟨2, rowM bx ns i 0, 60, .wr⟩), (73, some ⟨2, rowM bx ns i 1, 60, .wr⟩), (74, some ⟨2, rowM bx ns i 2, 60, .wr⟩), (75, some ⟨2, rowM bx ns i 3, 60, .wr⟩), (76, some ⟨2, rowM bx ns i 4, 60, .wr⟩), (77, some ⟨2, rowM bx ns i 5, 60, .wr⟩), (78, some ⟨2, rowM bx ns i 6, 60, .wr⟩), (79, some ⟨2, rowM bx ns i 7, 60, .wr⟩), (1408, some ⟨6, [encSm S], 117, .wr⟩)]) (fun k => k ≤ ns) (fun k => ns - k) 0 (fun x => by simp (maxSteps := 1000000) -implicitDefEqProofs (disch := omega) only [go_sem]; rfl) ?_ ?_ fun x hx => ?_
         · simp only [rowK0, row71_0]
           exact weak_do3 []
         · exact Nat.zero_le _
         by_cases hlk : x < ns
         · have hk : x = 0 ∨ x = 1 := by omega
           have hs0 := hsb c 0
           have hs1 := hsb c 1
           have hc3 : c = 0 ∨ c = 1 ∨ c = 2 := by omega
           unfold okU at h0 h1 h2 h3 h4 h5
           rcases hk with rfl | rfl
           · rcases hc3 with rfl | rfl | rfl
             all_goals
               simp only [rowK0, row71_0, bSpan0, bSpan1, bSpan2, show ((0 : Nat) : Int) = 0 from rfl, show ((1 : Nat) : Int) = 1 from rfl, show ((2 : Nat) : Int) = 2 from rfl]
               repeat' (first
                 | (with_reducible apply Req_intro); focus (first | omega | assumption | (simp; done))
                 | with_reducible (first | apply Req_intro | refine nilT ?_ fun hn => ?_ | apply wk_draw Tryd_mixed | refine drawEnd (by kernel_rfl) ?_)
                 | (with_reducible (first | apply condA_if | apply stepDG_ifN | apply stepDG_if | apply stepG_ifN | apply stepG_if)) <;> intro hb <;> (have hif := hb) <;> (try simp only [bo] at hif) <;> (try simp -implicitDefEqProofs (disch := omega) only [go_sem, hb, encSm]) <;> clear hb
                 | simp (maxSteps := 1000000) -implicitDefEqProofs (disch := omega) only [go_sem, encSm])
               all_goals first | exact absurd trivial ‹¬True› | (exfalso; omega) | skip
               refine calld (span_spec _ _) ?_
               try simp (maxSteps := 1000000) -implicitDefEqProofs (disch := omega) only [go_sem]
               repeat' (first
                 | (with_reducible apply Req_intro); focus (first | omega | assumption | (simp; done))
                 | with_reducible (first | apply Req_intro | refine nilT ?_ fun hn => ?_ | apply wk_draw Tryd_mixed | refine drawEnd (by kernel_rfl) ?_)
                 | (with_reducible (first | apply condA_if | apply stepDG_ifN | apply stepDG_if | apply stepG_ifN | apply stepG_if)) <;> intro hb <;> (have hif := hb) <;> (try simp only [bo] at hif) <;> (try simp -implicitDefEqProofs (disch := omega) only [go_sem, hb, encSm]) <;> clear hb
                 | simp (maxSteps := 1000000) -implicitDefEqProofs (disch := omega) only [go_sem, encSm])
               all_goals first | exact absurd trivial ‹¬True› | (exfalso; omega) | skip
               refine nxt_w 1 ?_ ?_
               · (try dsimp only)
                 simp only [rowK1, row71_1, bSpan0, bSpan1, bSpan2]
                 exact weak_do3 [(71, 5504)]
               omega
           · rcases hc3 with rfl | rfl | rfl
             all_goals
               simp only [rowK1, row71_1, bSpan0, bSpan1, bSpan2, show ((0 : Nat) : Int) = 0 from rfl, show ((1 : Nat) : Int) = 1 from rfl, show ((2 : Nat) : Int) = 2 from rfl]
               repeat' (first
                 | (with_reducible apply Req_intro); focus (first | omega | assumption | (simp; done))
                 | with_reducible (first | apply Req_intro | refine nilT ?_ fun hn => ?_ | apply wk_draw Tryd_mixed | refine drawEnd (by kernel_rfl) ?_)
                 | (with_reducible (first | apply condA_if | apply stepDG_ifN | apply stepDG_if | apply stepG_ifN | apply stepG_if)) <;> intro hb <;> (have hif := hb) <;> (try simp only [bo] at hif) <;> (try simp -implicitDefEqProofs (disch := omega) only [go_sem, hb, encSm]) <;> clear hb
                 | simp (maxSteps := 1000000) -implicitDefEqProofs (disch := omega) only [go_sem, encSm])
               all_goals first | exact absurd trivial ‹¬True› | (exfalso; omega) | skip
               refine calld (span_spec _ _) ?_
               try simp (maxSteps := 1000000) -implicitDefEqProofs (disch := omega) only [go_sem]
               repeat' (first
                 | (with_reducible apply Req_intro); focus (first | omega | assumption | (simp; done))
                 | with_reducible (first | apply Req_intro | refine nilT ?_ fun hn => ?_ | apply wk_draw Tryd_mixed | refine drawEnd (by kernel_rfl) ?_)
                 | (with_reducible (first | apply condA_if | apply stepDG_ifN | apply stepDG_if | apply stepG_ifN | apply stepG_if)) <;> intro hb <;> (have hif := hb) <;> (try simp only [bo] at hif) <;> (try simp -implicitDefEqProofs (disch := omega) only [go_sem, hb, encSm]) <;> clear hb
                 | simp (maxSteps := 1000000) -implicitDefEqProofs (disch := omega) only [go_sem, encSm])
               all_goals first | exact absurd trivial ‹¬True› | (exfalso; omega) | skip
               refine nxt_w 2 ?_ ?_
               · (try dsimp only)
                 simp only [rowK2, row71_2, bSpan0, bSpan1, bSpan2]
                 exact weak_do3 [(71, 5504)]
               omega
         · obtain rfl : x = ns := by omega
           have hMc : M c = mHeld S (bq b0 b1 b2 b3 b4 b5) x c := by rw [← hM]
           have hn12 : x = 1 ∨ x = 2 := by omega
           rcases hn12 with rfl | rfl
           · have hMm : (M c).map encS = [encS (mSpan S (bq b0 b1 b2 b3 b4 b5) c 0)] := by rw [hMc]; rfl
             simp only [rowK1, row71_1, show ((1 : Nat) : Int) = 1 from rfl]
             repeat' (first
               | (with_reducible apply Req_intro); focus (first | omega | assumption | (simp; done))
               | with_reducible (first | apply Req_intro | refine nilT ?_ fun hn => ?_ | apply wk_draw Tryd_mixed | refine drawEnd (by kernel_rfl) ?_)
               | (with_reducible (first | apply condA_if | apply stepDG_ifN | apply stepDG_if | apply stepG_ifN | apply stepG_if)) <;> intro hb <;> (have hif := hb) <;> (try simp only [bo] at hif) <;> (try simp -implicitDefEqProofs (disch := omega) only [go_sem, hb]) <;> clear hb
               | simp (maxSteps := 1000000) -implicitDefEqProofs (disch := omega) only [go_sem])
             all_goals first | exact absurd trivial ‹¬True› | (exfalso; omega) | skip
             refine nxt_snapRow [71] 65 (es' := bl2 y f (c + 1) M) (by first | (simp only [go_sem]; done) | (simp only [go_sem]; rfl)) (by rfl) ?_ (by first | assumption | (simp only [go_sem] <;> assumption) | (simp only [go_sem, *]; done) | (simp [go_sem]; done)) (by first | (simp only [go_sem]; done) | (simp only [go_sem]; rfl)) ?_
             · rw [← bl2_next]
               refine PurE.setR ?_ (by first | assumption | (simp only [go_sem] <;> assumption) | (simp only [go_sem, *]; done) | (simp [go_sem]; done))
               rw [hMm]
               (try simp (maxSteps := 1000000) -implicitDefEqProofs (disch := omega) only [go_sem])
               repeat' (first
                 | with_reducible (first | exact PurI.nil | exact Pur.nilsl _ _ | exact PurE.nil)
                 | (with_reducible (first | refine PurI.puL ?_ | refine PurE.puE ?_)) <;> (first | assumption | (simp only [go_sem] <;> assumption) | (simp only [go_sem, *]; done) | (simp [go_sem]; done))
                 | with_reducible apply PurI.cons
                 | (with_reducible refine Pur.pu _ ?_) <;> (first | assumption | (simp only [go_sem] <;> assumption) | (simp only [go_sem, *]; done) | (simp [go_sem]; done))
                 | ((with_reducible apply Pur.refR) <;> (first | rfl | decide | (simp only [go_sem]; omega) | (simp only [go_sem]) | skip))
                 | ((with_reducible apply Pur.osR) <;> (first | rfl | exact fun h => h | omega | (simp; omega) | (simp; done) | (simp only [go_sem]) | skip))
                 | with_reducible (first | apply Pur.fnI | apply Pur.aggI | apply PurE.cons)
                 | (with_reducible refine PurI.eqL ?_ ?_); (focus rfl); (focus (first | assumption | (simp only [go_sem] <;> assumption) | (simp only [go_sem, *]; done) | (simp [go_sem]; done)))
                 | simp (maxSteps := 1000000) -implicitDefEqProofs (disch := omega) only [go_sem])
             with_reducible refine nxt_w (c + 1) ?_ ?_
             · (try dsimp only)
               skip
               exact weak_do3 []
             try dsimp only
             omega
           · have hMm : (M c).map encS = [encS (mSpan S (bq b0 b1 b2 b3 b4 b5) c 0), encS (mSpan S (bq b0 b1 b2 b3 b4 b5) c 1)] := by rw [hMc]; rfl
             simp only [rowK2, row71_2, show ((2 : Nat) : Int) = 2 from rfl]
             repeat' (first
               | (with_reducible apply Req_intro); focus (first | omega | assumption | (simp; done))
               | with_reducible (first | apply Req_intro | refine nilT ?_ fun hn => ?_ | apply wk_draw Tryd_mixed | refine drawEnd (by kernel_rfl) ?_)
               | (with_reducible (first | apply condA_if | apply stepDG_ifN | apply stepDG_if | apply stepG_ifN | apply stepG_if)) <;> intro hb <;> (have hif := hb) <;> (try simp only [bo] at hif) <;> (try simp -implicitDefEqProofs (disch := omega) only [go_sem, hb]) <;> clear hb
               | simp (maxSteps := 1000000) -implicitDefEqProofs (disch := omega) only [go_sem])
             all_goals first | exact absurd trivial ‹¬True› | (exfalso; omega) | skip
             refine nxt_snapRow [71] 65 (es' := bl2 y f (c + 1) M) (by first | (simp only [go_sem]; done) | (simp only [go_sem]; rfl)) (by rfl) ?_ (by first | assumption | (simp only [go_sem] <;> assumption) | (simp only [go_sem, *]; done) | (simp [go_sem]; done)) (by first | (simp only [go_sem]; done) | (simp only [go_sem]; rfl)) ?_
             · rw [← bl2_next]
               refine PurE.setR ?_ (by first | assumption | (simp only [go_sem] <;> assumption) | (simp only [go_sem, *]; done) | (simp [go_sem]; done))
               rw [hMm]
               (try simp (maxSteps := 1000000) -implicitDefEqProofs (disch := omega) only [go_sem])
               repeat' (first
                 | with_reducible (first | exact PurI.nil | exact Pur.nilsl _ _ | exact PurE.nil)
                 | (with_reducible (first | refine PurI.puL ?_ | refine PurE.puE ?_)) <;> (first | assumption | (simp only [go_sem] <;> assumption) | (simp only [go_sem, *]; done) | (simp [go_sem]; done))
                 | with_reducible apply PurI.cons
                 | (with_reducible refine Pur.pu _ ?_) <;> (first | assumption | (simp only [go_sem] <;> assumption) | (simp only [go_sem, *]; done) | (simp [go_sem]; done))
                 | ((with_reducible apply Pur.refR) <;> (first | rfl | decide | (simp only [go_sem]; omega) | (simp only [go_sem]) | skip))
                 | ((with_reducible apply Pur.osR) <;> (first | rfl | exact fun h => h | omega | (simp; omega) | (simp; done) | (simp only [go_sem]) | skip))
                 | with_reducible (first | apply Pur.fnI | apply Pur.aggI | apply PurE.cons)
                 | (with_reducible refine PurI.eqL ?_ ?_); (focus rfl); (focus (first | assumption | (simp only [go_sem] <;> assumption) | (simp only [go_sem, *]; done) | (simp [go_sem]; done)))
                 | simp (maxSteps := 1000000) -implicitDefEqProofs (disch := omega) only [go_sem])
             with_reducible refine nxt_w (c + 1) ?_ ?_
             · (try dsimp only)
               skip
               exact weak_do3 []
             try dsimp only
             omega
       · obtain rfl : c = y := by omega
         repeat' (first
           | (with_reducible apply Req_intro); focus (first | omega | assumption | (simp; done))
           | with_reducible (first | apply Req_intro | refine nilT ?_ fun hn => ?_ | apply wk_draw Tryd_mixed | refine drawEnd (by kernel_rfl) ?_)
           | (with_reducible (first | apply condA_if | apply stepDG_ifN | apply stepDG_if | apply stepG_ifN | apply stepG_if)) <;> intro hb <;> (have hif := hb) <;> (try simp only [bo] at hif) <;> (try simp -implicitDefEqProofs (disch := omega) only [go_sem, hb]) <;> clear hb
           | simp (maxSteps := 1000000) -implicitDefEqProofs (disch := omega) only [go_sem])
         all_goals first | exact absurd trivial ‹¬True› | (exfalso; omega) | skip
         refine ret_do ?_
         exact ⟨rfl, rfl, rfl⟩
end Go.Aw
end
