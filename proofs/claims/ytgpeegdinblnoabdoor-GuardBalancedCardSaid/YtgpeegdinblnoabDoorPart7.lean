/-
  A part of the proof that a law returns true for every input that the given row speaks of: an own verified walk over the program (namespace Go.Aw), contracts of the functions that the law calls, and the law itself. Conditions: those of the given row, no other.
-/
import Derived.Test.YtgpeegdinblnoabDoorPart6
set_option linter.unusedVariables false
set_option linter.unusedSimpArgs false
section
set_option maxRecDepth 20000
set_option maxHeartbeats 4000000
namespace Go.Aw
open Go.RowKit Go.Proofs
def enc8 (v : List Int) : List V := [uy (v.getD 0 0), uy (v.getD 1 0), uy (v.getD 2 0), uy (v.getD 3 0), uy (v.getD 4 0), uy (v.getD 5 0), uy (v.getD 6 0), uy (v.getD 7 0)]
def ok8 (v : List Int) : Prop := ∀ k, k < 8 → okY (v.getD k 0)
@[go_sem] theorem enc8_eq (v : List Int) : enc8 v = [uy (v.getD 0 0), uy (v.getD 1 0), uy (v.getD 2 0), uy (v.getD 3 0), uy (v.getD 4 0), uy (v.getD 5 0), uy (v.getD 6 0), uy (v.getD 7 0)] := rfl
theorem rd8 (v : List Int) {k : Nat} (h : k < 8) : (List.drop (k * 1) [uy (v.getD 0 0), uy (v.getD 1 0), uy (v.getD 2 0), uy (v.getD 3 0), uy (v.getD 4 0), uy (v.getD 5 0), uy (v.getD 6 0), uy (v.getD 7 0)]).headD V.undef = uy (v.getD k 0) := by
 rcases (show k = 0 ∨ k = 1 ∨ k = 2 ∨ k = 3 ∨ k = 4 ∨ k = 5 ∨ k = 6 ∨ k = 7 by omega) with rfl | rfl | rfl | rfl | rfl | rfl | rfl | rfl <;> rfl
theorem rl8 (v : List Int) {k : Nat} (h : k < 8) : 0 < (List.drop (k * 1) [uy (v.getD 0 0), uy (v.getD 1 0), uy (v.getD 2 0), uy (v.getD 3 0), uy (v.getD 4 0), uy (v.getD 5 0), uy (v.getD 6 0), uy (v.getD 7 0)]).length := by
 rcases (show k = 0 ∨ k = 1 ∨ k = 2 ∨ k = 3 ∨ k = 4 ∨ k = 5 ∨ k = 6 ∨ k = 7 by omega) with rfl | rfl | rfl | rfl | rfl | rfl | rfl | rfl <;> exact Nat.succ_pos _
def shT (v : List Int) (k : Nat) : Nat := (v.getD k 0).toNat
theorem fine_w {m : Nat} {l : List Grd} (h : ∀ x ∈ l, Fine m x) : ∀ x ∈ l, 0 ≤ x.1 ∧ x.1 ≤ 10000 := fun x hx => by
 have h1 := h x hx
 exact ⟨by have := h1.w1; omega, h1.w2⟩
def Wild (a : Int) : Prop := -10000000000 ≤ a ∧ a ≤ 10000000000
theorem bfar_spec (a b : Int) (ha : Wild a) (hb : Wild b) : Ct Tryd.prog 8 [int a, int b] (int (farR a b)) := by
 unfold Wild at ha hb
 refine fn_enter Tryd.func8 rfl (by decide) Tryd.results8 Tryd.ntmps8 ?_ rfl (by simp (maxSteps := 1000000) -implicitDefEqProofs (disch := omega) only [go_sem]; rfl) fun base => ?_
 · first | assumption | (simp only [go_sem] <;> assumption) | (simp only [go_sem, *]; done) | (simp [go_sem]; done)
 repeat' (first
   | (with_reducible apply Req_intro); focus (first | omega | assumption | (simp; done))
   | with_reducible (first | apply Req_intro | refine nilT ?_ fun hn => ?_ | apply wk_draw Tryd_mixed | refine drawEnd (by kernel_rfl) ?_)
   | (with_reducible (first | apply condA_if | apply stepDG_ifN | apply stepDG_if | apply stepG_ifN | apply stepG_if)) <;> intro hb <;> (have hif := hb) <;> (try simp only [bo] at hif) <;> (try simp -implicitDefEqProofs (disch := omega) only [go_sem, hb]) <;> clear hb
   | simp (maxSteps := 1000000) -implicitDefEqProofs (disch := omega) only [go_sem])
 refine ret_do ?_
 rfl
theorem GuardBalanced_spec (x : Chst) (h : x.ok) (ts : List (List Int)) (ht : ∀ v ∈ ts, ok8 v) (htl : ts.length ≤ 4611686018427387904) : Ct Tryd.prog 3 [.agg (chC x), .sl 8 (ts.map enc8) false] (.lit (.bool true)) := by
 obtain ⟨_, hm1, hm2⟩ := chM_is h
 have hmade := made_spec x h
 have hfl := chL_fine h.l hm2
 have hfr := chL_fine h.r hm2
 have hgg := chG_ok h
 have hl8 : (chL x.l (chM x)).length ≤ 8 := by rw [chL_len]; omega
 have hr8 : (chL x.r (chM x)).length ≤ 8 := by rw [chL_len]; omega
 generalize chL x.l (chM x) = ls at *
 generalize chL x.r (chM x) = rs at *
 generalize chG x = g at *
 generalize chM x = m at *
 obtain ⟨n, hn⟩ : ∃ n, n = min ls.length rs.length := ⟨_, rfl⟩
 have hfl2 : ∀ x ∈ ls.take n, Fine m x := fun x hx => hfl x (List.mem_of_mem_take hx)
 have hfr2 : ∀ x ∈ rs.take n, Fine m x := fun x hx => hfr x (List.mem_of_mem_take hx)
 have hL : (ls.take n).length = n := by rw [List.length_take]; omega
 have hR : (rs.take n).length = n := by rw [List.length_take]; omega
 have hmn : min (ls.length : Int) (rs.length : Int) = (n : Int) := by omega
 have hn8 : n ≤ 8 := by omega
 clear hfl hfr
 generalize hLS : ls.take n = LS at *
 generalize hRS : rs.take n = RS at *
 have hLR : LS.length = RS.length := by omega
 have h0 := check_fine hm1 (by omega) (by omega) (by omega) hfl2 hfr2 hgg
 have hst : StOk LS RS := ⟨by omega, by omega, fun x hx => by have := (hfl2 x hx).len; omega, fun x hx => by have := (hfr2 x hx).len; omega⟩
 have hown := own_spec LS RS false false hst
 obtain ⟨hl8', hr8', hg', q, hq, hgl, hgr⟩ := checkS_ok h0
 have hdl : (diffs LS RS).length ≤ 1000 := by
   have := dK_len (ls := LS) (rs := RS) (i := LS.length) (k := 0) (Nat.le_refl _) hl8' hr8'
   rw [dK_zero, dTo_all] at this; omega
 have hdb := diffs_small hgl hgr
 have hp := Balance_ok g LS RS false false hst h0 hLR (sorted (diffs LS RS)) (sorted_len _) (fun x hx => (sorted_mem _ _).1 hx) (sort_all _ hdl)
 obtain ⟨hbe, hbm, hbp, hbv⟩ := balance_eq hLR (by omega) (sorted_pw (diffs LS RS)) (fun x => sorted_mem _ x) (W := 1073741824) (fun d hd => by have := hdb d hd; omega)
 rw [hL] at hbm hbp hbe hbv
 generalize refBal (farF LS RS) n n [] ([], 1073741824) = R at *
 rw [hbe, balV] at hp
 change Ct _ _ _ (.tup [.sl 2 ((prs R.1).map encP) false, int R.2, int 0]) at hp
 obtain ⟨hk1, hk2, hk3⟩ := (mem_perms _ _ _ _).1 hbp
 have hpl : (prs R.1).length = n := by rw [prs_len]; exact hk1
 have hap := apart_spec LS RS false false false (prs R.1) (by omega) (fun p hp => by
   obtain ⟨i, hi, rfl⟩ := List.getElem_of_mem hp
   have hi' : i < R.1.length := by rw [prs_len] at hi; exact hi
   have := hk3 _ (List.getElem_mem hi')
   simp only [prs, List.getElem_mapIdx]
   exact ⟨by omega, by omega⟩) (by
   have : (prs R.1).map (·.1) = List.range R.1.length := by
     refine List.ext_getElem (by simp [prs]) fun i h1 h2 => ?_
     simp [prs]
   rw [this]; exact List.pairwise_lt_range) (by
   have : (prs R.1).map (·.2) = R.1 := by
     refine List.ext_getElem (by simp [prs]) fun i h1 h2 => ?_
     simp [prs]
   rw [this]; exact hk2)
 have hpg : ∀ k, k < n → (prs R.1).getD k default = (k, R.1.getD k default) := fun k hk => prs_get (by omega)
 have hng : ∀ k, k < n → R.1.getD k default < n := fun k hk => (hk3 _ (getD_mem (by omega))).1
 have hvb := valTo_bnd hgl hgr (ks := R.1) (fun k hk => by have := (hk3 k hk).1; omega)
 have hvs : ∀ k, valTo (farF LS RS) R.1 (k + 1) = max (valTo (farF LS RS) R.1 k) (farF LS RS k (R.1.getD k default)) := fun _ => rfl
 have hv0 : valTo (farF LS RS) R.1 0 = 0 := rfl
 rw [valR, hk1] at hbv
 obtain ⟨hend1, hend2⟩ := bal_ends (W := R.2) hL hR (fine_w hfl2) (fine_w hfr2) hbp (by rw [valR, hk1]; exact hbv)
 have hlb := fun i (hi : i ≤ n) => leastTo_bnd (fine_w hfl2) (n := i) (by omega)
 have hrb := fun i (hi : i ≤ n) => leastTo_bnd (fine_w hfr2) (n := i) (by omega)
 have hl0 : leastTo LS 0 = 1073741824 := rfl
 have hr0 : leastTo RS 0 = 1073741824 := rfl
 have hgl0 : greatTo LS 0 = 0 := rfl
 have hgr0 : greatTo RS 0 = 0 := rfl
 have hls0 : ∀ i, leastTo LS (i + 1) = min (leastTo LS i) (LS.getD i default).1 := fun _ => rfl
 have hrs0 : ∀ i, leastTo RS (i + 1) = min (leastTo RS i) (RS.getD i default).1 := fun _ => rfl
 have hgls0 : ∀ i, greatTo LS (i + 1) = max (greatTo LS i) (LS.getD i default).1 := fun _ => rfl
 have hgrs0 : ∀ i, greatTo RS (i + 1) = max (greatTo RS i) (RS.getD i default).1 := fun _ => rfl
 generalize valTo (farF LS RS) R.1 = VT at *
 generalize leastTo LS = LL at *
 generalize leastTo RS = LR at *
 generalize greatTo LS = GL at *
 generalize greatTo RS = GR at *
 refine fn_enter Tryd.func3 rfl (by decide) Tryd.results3 Tryd.ntmps3 ?_ rfl (by simp (maxSteps := 1000000) -implicitDefEqProofs (disch := omega) only [go_sem]; rfl) fun base => ?_
 · first | assumption | (simp only [go_sem] <;> assumption) | (simp only [go_sem, *]; done) | (simp [go_sem]; done)
 repeat' (first
   | (with_reducible apply Req_intro); focus (first | omega | assumption | (simp; done))
   | with_reducible (first | apply Req_intro | refine nilT ?_ fun hn => ?_ | apply wk_draw Tryd_mixed | refine drawEnd (by kernel_rfl) ?_)
   | (with_reducible (first | apply condA_if | apply stepDG_ifN | apply stepDG_if | apply stepG_ifN | apply stepG_if)) <;> intro hb <;> (have hif := hb) <;> (try simp only [bo] at hif) <;> (try simp -implicitDefEqProofs (disch := omega) only [go_sem, hb]) <;> clear hb
   | simp (maxSteps := 1000000) -implicitDefEqProofs (disch := omega) only [go_sem])
 all_goals first | exact absurd trivial ‹¬True› | exact absurd ‹false = true› (by decide) | exact absurd ‹true = false› (by decide) | (exfalso; omega) | omega | skip
 first | refine callp hmade ?_ | refine calld hmade ?_
 try simp (maxSteps := 1000000) -implicitDefEqProofs (disch := omega) only [go_sem]
 repeat' (first
   | (with_reducible apply Req_intro); focus (first | omega | assumption | (simp; done))
   | with_reducible (first | apply Req_intro | refine nilT ?_ fun hn => ?_ | apply wk_draw Tryd_mixed | refine drawEnd (by kernel_rfl) ?_)
   | (with_reducible (first | apply condA_if | apply stepDG_ifN | apply stepDG_if | apply stepG_ifN | apply stepG_if)) <;> intro hb <;> (have hif := hb) <;> (try simp only [bo] at hif) <;> (try simp -implicitDefEqProofs (disch := omega) only [go_sem, hb]) <;> clear hb
   | simp (maxSteps := 1000000) -implicitDefEqProofs (disch := omega) only [go_sem])
 all_goals first | exact absurd trivial ‹¬True› | exact absurd ‹false = true› (by decide) | exact absurd ‹true = false› (by decide) | (exfalso; omega) | omega | skip
 rw [hmn, Int.toNat_natCast, ← List.map_take, ← List.map_take, hLS, hRS]
 first | refine callp hown ?_ | refine calld hown ?_
 try simp (maxSteps := 1000000) -implicitDefEqProofs (disch := omega) only [go_sem]
 repeat' (first
   | (with_reducible apply Req_intro); focus (first | omega | assumption | (simp; done))
   | with_reducible (first | apply Req_intro | refine nilT ?_ fun hn => ?_ | apply wk_draw Tryd_mixed | refine drawEnd (by kernel_rfl) ?_)
   | (with_reducible (first | apply condA_if | apply stepDG_ifN | apply stepDG_if | apply stepG_ifN | apply stepG_if)) <;> intro hb <;> (have hif := hb) <;> (try simp only [bo] at hif) <;> (try simp -implicitDefEqProofs (disch := omega) only [go_sem, hb]) <;> clear hb
   | simp (maxSteps := 1000000) -implicitDefEqProofs (disch := omega) only [go_sem])
 all_goals first | exact absurd trivial ‹¬True› | exact absurd ‹false = true› (by decide) | exact absurd ‹true = false› (by decide) | (exfalso; omega) | omega | skip
 first | refine callp hp ?_ | refine calld hp ?_
 try simp (maxSteps := 1000000) -implicitDefEqProofs (disch := omega) only [go_sem]
 repeat' (first
   | (with_reducible apply Req_intro); focus (first | omega | assumption | (simp; done))
   | with_reducible (first | apply Req_intro | refine nilT ?_ fun hn => ?_ | apply wk_draw Tryd_mixed | refine drawEnd (by kernel_rfl) ?_)
   | (with_reducible (first | apply condA_if | apply stepDG_ifN | apply stepDG_if | apply stepG_ifN | apply stepG_if)) <;> intro hb <;> (have hif := hb) <;> (try simp only [bo] at hif) <;> (try simp -implicitDefEqProofs (disch := omega) only [go_sem, hb]) <;> clear hb
   | simp (maxSteps := 1000000) -implicitDefEqProofs (disch := omega) only [go_sem])
 all_goals first | exact absurd trivial ‹¬True› | exact absurd ‹false = true› (by decide) | exact absurd ‹true = false› (by decide) | (exfalso; omega) | omega | skip
 first | refine callp hap ?_ | refine calld hap ?_
 try simp (maxSteps := 1000000) -implicitDefEqProofs (disch := omega) only [go_sem]
 repeat' (first
   | (with_reducible apply Req_intro); focus (first | omega | assumption | (simp; done))
   | with_reducible (first | apply Req_intro | refine nilT ?_ fun hn => ?_ | apply wk_draw Tryd_mixed | refine drawEnd (by kernel_rfl) ?_)
   | (with_reducible (first | apply condA_if | apply stepDG_ifN | apply stepDG_if | apply stepG_ifN | apply stepG_if)) <;> intro hb <;> (have hif := hb) <;> (try simp only [bo] at hif) <;> (try simp -implicitDefEqProofs (disch := omega) only [go_sem, hb]) <;> clear hb
   | simp (maxSteps := 1000000) -implicitDefEqProofs (disch := omega) only [go_sem])
 all_goals first | exact absurd trivial ‹¬True› | exact absurd ‹false = true› (by decide) | exact absurd ‹true = false› (by decide) | (exfalso; omega) | omega | skip
 refine loop_rows (α := Nat) [11, 14, 15, 16, 70, 71, 72, 73, 74, 75, 76, 77, 78, 79, 80, 81, 82, 83, 84, 85, 86, 87, 88, 89, 90, 91, 92, 93, 94, 95, 96, 97, 98, 99, 100, 101, 102, 103, 104, 105, 106, 107, 108, 109, 110, 111, 112, 113, 114, 115, 116, 117, 118, 119, 120, 121, 122, 123, 124, 125, 126, 127] (fun i => [(14, .lit (.int .i64 i)), (11, int (VT i))]) (fun i => [(0, some ⟨7, [[.sl 3 (x.l.map enc3) false, .sl 3 (x.r.map enc3) false, uy x.m, uy x.g0, uy x.g1, uy x.g2, uy x.g3]], 25, .wr⟩), (448, some ⟨2, [[.sl 2 (LS.map encGd) false, .sl 2 (RS.map encGd) false]], 29, .wr⟩), (512, some ⟨4, [[int g.sc, int g.ga, int g.we, int g.cu]], 31, .wr⟩), (3776, some ⟨2, [[int (LL i), int (LR i)]], 40, .wr⟩), (3840, some ⟨2, [[int (GL i), int (GR i)]], 40, .wr⟩)]) (fun i => i ≤ n) (fun i => n - i) 0 (fun x => by simp (maxSteps := 1000000) -implicitDefEqProofs (disch := omega) only [go_sem]; rfl) ?_ ?_ fun x hx => ?_
 · rw [hv0, hl0, hr0, hgl0, hgr0]
   exact weak_do3 []
 · exact Nat.zero_le _
 rename Nat => i
 have hvi := hvb i (by omega) (by omega)
 have hlbi := hlb i (by omega)
 have hrbi := hrb i (by omega)
 by_cases hi1 : i < n
 · have hw1 := fine_w hfl2 _ (getD_mem (show i < LS.length by omega))
   have hw2 := fine_w hfr2 _ (getD_mem (show i < RS.length by omega))
   have hg1 := hpg i hi1
   have hn1 := hng i hi1
   have hw3 := fine_w hfr2 _ (getD_mem (show R.1.getD i default < RS.length by omega))
   have hf1 : Ct Tryd.prog 8 [int (LS.getD i default).1, int (RS.getD (R.1.getD i default) default).1] (int (farF LS RS i (R.1.getD i default))) := lfar_spec _ _ (by unfold Mild; omega) (by unfold Mild; omega)
   have hfb := farF_bnd hgl hgr (i := i) (k := R.1.getD i default) (by omega) (by omega)
   have hvsi := hvs i
   have hls := hls0 i
   have hrs := hrs0 i
   have hgls := hgls0 i
   have hgrs := hgrs0 i
   repeat' (first
     | (with_reducible apply Req_intro); focus (first | omega | assumption | (simp; done))
     | with_reducible (first | apply Req_intro | refine nilT ?_ fun hn => ?_ | apply wk_draw Tryd_mixed | refine drawEnd (by kernel_rfl) ?_)
     | (with_reducible (first | apply condA_if | apply stepDG_ifN | apply stepDG_if | apply stepG_ifN | apply stepG_if)) <;> intro hb <;> (have hif := hb) <;> (try simp only [bo] at hif) <;> (try simp -implicitDefEqProofs (disch := omega) only [go_sem, hb, hg1]) <;> clear hb
     | simp (maxSteps := 1000000) -implicitDefEqProofs (disch := omega) only [go_sem, hg1])
   all_goals first | exact absurd trivial ‹¬True› | exact absurd ‹false = true› (by decide) | exact absurd ‹true = false› (by decide) | (exfalso; omega) | omega | skip
   refine calld hf1 ?_
   try simp (maxSteps := 1000000) -implicitDefEqProofs (disch := omega) only [go_sem]
   repeat' (first
     | (with_reducible apply Req_intro); focus (first | omega | assumption | (simp; done))
     | with_reducible (first | apply Req_intro | refine nilT ?_ fun hn => ?_ | apply wk_draw Tryd_mixed | refine drawEnd (by kernel_rfl) ?_)
     | (with_reducible (first | apply condA_if | apply stepDG_ifN | apply stepDG_if | apply stepG_ifN | apply stepG_if)) <;> intro hb <;> (have hif := hb) <;> (try simp only [bo] at hif) <;> (try simp -implicitDefEqProofs (disch := omega) only [go_sem, hb]) <;> clear hb
     | simp (maxSteps := 1000000) -implicitDefEqProofs (disch := omega) only [go_sem])
   all_goals first | exact absurd trivial ‹¬True› | exact absurd ‹false = true› (by decide) | exact absurd ‹true = false› (by decide) | (exfalso; omega) | omega | skip
   with_reducible refine nxt_w (i + 1) ?_ ?_
   · (try dsimp only)
     rw [hvsi, hls, hrs, hgls, hgrs]
     exact weak_do3 []
   try dsimp only
   omega
 · obtain rfl : n = i := by omega
   have hf1 : Ct Tryd.prog 8 [int (LL n), int (LR n)] (int (farR (LL n) (LR n))) := bfar_spec _ _ (by unfold Wild; omega) (by unfold Wild; omega)
   have hf2 : Ct Tryd.prog 8 [int (GL n), int (GR n)] (int (farR (GL n) (GR n))) := bfar_spec _ _ (by unfold Wild; omega) (by unfold Wild; omega)
   generalize farR (LL n) (LR n) = F1 at *
   generalize farR (GL n) (GR n) = F2 at *
   repeat' (first
     | (with_reducible apply Req_intro); focus (first | omega | assumption | (simp; done))
     | with_reducible (first | apply Req_intro | refine nilT ?_ fun hn => ?_ | apply wk_draw Tryd_mixed | refine drawEnd (by kernel_rfl) ?_)
     | (with_reducible (first | apply condA_if | apply stepDG_ifN | apply stepDG_if | apply stepG_ifN | apply stepG_if)) <;> intro hb <;> (have hif := hb) <;> (try simp only [bo] at hif) <;> (try simp -implicitDefEqProofs (disch := omega) only [go_sem, hb]) <;> clear hb
     | simp (maxSteps := 1000000) -implicitDefEqProofs (disch := omega) only [go_sem])
   all_goals first | exact absurd trivial ‹¬True› | exact absurd ‹false = true› (by decide) | exact absurd ‹true = false› (by decide) | (exfalso; omega) | omega | skip
   first | refine callp hf1 ?_ | refine calld hf1 ?_
   try simp (maxSteps := 1000000) -implicitDefEqProofs (disch := omega) only [go_sem]
   repeat' (first
     | (with_reducible apply Req_intro); focus (first | omega | assumption | (simp; done))
     | with_reducible (first | apply Req_intro | refine nilT ?_ fun hn => ?_ | apply wk_draw Tryd_mixed | refine drawEnd (by kernel_rfl) ?_)
     | (with_reducible (first | apply condA_if | apply stepDG_ifN | apply stepDG_if | apply stepG_ifN | apply stepG_if)) <;> intro hb <;> (have hif := hb) <;> (try simp only [bo] at hif) <;> (try simp -implicitDefEqProofs (disch := omega) only [go_sem, hb]) <;> clear hb
     | simp (maxSteps := 1000000) -implicitDefEqProofs (disch := omega) only [go_sem])
   all_goals first | exact absurd trivial ‹¬True› | exact absurd ‹false = true› (by decide) | exact absurd ‹true = false› (by decide) | (exfalso; omega) | omega | skip
   first | refine callp hf2 ?_ | refine calld hf2 ?_
   try simp (maxSteps := 1000000) -implicitDefEqProofs (disch := omega) only [go_sem]
   repeat' (first
     | (with_reducible apply Req_intro); focus (first | omega | assumption | (simp; done))
     | with_reducible (first | apply Req_intro | refine nilT ?_ fun hn => ?_ | apply wk_draw Tryd_mixed | refine drawEnd (by kernel_rfl) ?_)
     | (with_reducible (first | apply condA_if | apply stepDG_ifN | apply stepDG_if | apply stepG_ifN | apply stepG_if)) <;> intro hb <;> (have hif := hb) <;> (try simp only [bo] at hif) <;> (try simp -implicitDefEqProofs (disch := omega) only [go_sem, hb]) <;> clear hb
     | simp (maxSteps := 1000000) -implicitDefEqProofs (disch := omega) only [go_sem])
   all_goals first | exact absurd trivial ‹¬True› | exact absurd ‹false = true› (by decide) | exact absurd ‹true = false› (by decide) | (exfalso; omega) | omega | skip
   refine loop_rows (α := Nat) [4, 17, 18, 19, 20, 21, 22, 23, 149, 150, 151, 152, 153, 154, 155, 156, 157, 158, 159, 160, 161, 162, 163, 164, 165, 166, 167, 168, 169, 170, 171, 172, 173, 174, 175, 176, 177, 178, 179, 180, 181, 182, 183, 184, 185, 186, 187, 188, 189, 190, 191, 192, 193, 194, 195, 196, 197, 198, 199, 200, 201, 202, 203, 204, 205, 206, 207, 208, 209, 210, 211, 212, 213, 214, 215, 216, 217, 218, 219] (fun t => [(17, .lit (.int .i64 t))]) (fun t => [(0, some ⟨7, [[.sl 3 (x.l.map enc3) false, .sl 3 (x.r.map enc3) false, uy x.m, uy x.g0, uy x.g1, uy x.g2, uy x.g3]], 25, .wr⟩), (448, some ⟨2, [[.sl 2 (LS.map encGd) false, .sl 2 (RS.map encGd) false]], 29, .wr⟩), (512, some ⟨4, [[int g.sc, int g.ga, int g.we, int g.cu]], 31, .wr⟩), (3776, some ⟨2, [[int (LL n), int (LR n)]], 40, .wr⟩), (3840, some ⟨2, [[int (GL n), int (GR n)]], 40, .wr⟩)]) (fun t => t ≤ ts.length ∧ t ≤ 20) (fun t => 20 - t) 0 (fun x => by simp (maxSteps := 1000000) -implicitDefEqProofs (disch := omega) only [go_sem]; rfl) ?_ ?_ fun x hx => ?_
   · exact weak_do3 []
   · exact ⟨Nat.zero_le _, by omega⟩
   rename Nat => t
   obtain ⟨ht1, ht2⟩ := ‹t ≤ ts.length ∧ t ≤ 20›
   by_cases hlt : t < ts.length ∧ t < 20
   · obtain ⟨hlt1, hlt2⟩ := hlt
     have hv8 := ht _ (getD_mem hlt1)
     generalize hvv : ts.getD t default = v at *
     repeat' (first
       | (with_reducible apply Req_intro); focus (first | omega | assumption | (simp; done))
       | with_reducible (first | apply Req_intro | refine nilT ?_ fun hn => ?_ | apply wk_draw Tryd_mixed | refine drawEnd (by kernel_rfl) ?_)
       | (with_reducible (first | apply condA_if | apply stepDG_ifN | apply stepDG_if | apply stepG_ifN | apply stepG_if)) <;> intro hb <;> (have hif := hb) <;> (try simp only [bo] at hif) <;> (try simp -implicitDefEqProofs (disch := omega) only [go_sem, hb, hvv]) <;> clear hb
       | simp (maxSteps := 1000000) -implicitDefEqProofs (disch := omega) only [go_sem, hvv])
     all_goals first | exact absurd trivial ‹¬True› | exact absurd ‹false = true› (by decide) | exact absurd ‹true = false› (by decide) | (exfalso; omega) | omega | skip
     refine loop_rows (α := Nat) [18, 19, 160, 161, 162, 163, 164, 165, 166, 167, 168] (fun k => [(19, .lit (.int .i64 k)), (18, .os 65 1 k false)]) (fun k => [(0, some ⟨7, [[.sl 3 (x.l.map enc3) false, .sl 3 (x.r.map enc3) false, uy x.m, uy x.g0, uy x.g1, uy x.g2, uy x.g3]], 25, .wr⟩), (448, some ⟨2, [[.sl 2 (LS.map encGd) false, .sl 2 (RS.map encGd) false]], 29, .wr⟩), (512, some ⟨4, [[int g.sc, int g.ga, int g.we, int g.cu]], 31, .wr⟩), (3776, some ⟨2, [[int (LL n), int (LR n)]], 40, .wr⟩), (3840, some ⟨2, [[int (GL n), int (GR n)]], 40, .wr⟩), (65, some ⟨1, (natL (List.range k)).map encI, 3, .wr⟩)]) (fun k => k ≤ n) (fun k => n - k) 0 (fun x => by simp (maxSteps := 1000000) -implicitDefEqProofs (disch := omega) only [go_sem]; rfl) ?_ ?_ fun x hx => ?_
     · simp only [List.range_zero, natL, List.map_nil]
       exact weak_do3 [(65, 6208)]
     · exact Nat.zero_le _
     rename Nat => k
     have hnr : (natL (List.range k)).length = k := by simp [natL]
     by_cases hk1 : k < n
     · have hns : natL (List.range (k + 1)) = natL (List.range k) ++ [(k : Int)] := by rw [List.range_succ]; simp [natL]
       generalize hNL : natL (List.range k) = NL at *
       repeat' (first
         | (with_reducible apply Req_intro); focus (first | omega | assumption | (simp; done))
         | with_reducible (first | apply Req_intro | refine nilT ?_ fun hn => ?_ | apply wk_draw Tryd_mixed | refine drawEnd (by kernel_rfl) ?_)
         | (with_reducible (first | apply condA_if | apply stepDG_ifN | apply stepDG_if | apply stepG_ifN | apply stepG_if)) <;> intro hb <;> (have hif := hb) <;> (try simp only [bo] at hif) <;> (try simp -implicitDefEqProofs (disch := omega) only [go_sem, hb]) <;> clear hb
         | simp (maxSteps := 1000000) -implicitDefEqProofs (disch := omega) only [go_sem])
       all_goals first | exact absurd trivial ‹¬True› | exact absurd ‹false = true› (by decide) | exact absurd ‹true = false› (by decide) | (exfalso; omega) | omega | skip
       with_reducible refine nxt_w (k + 1) ?_ ?_
       · (try dsimp only)
         rw [hns]
         exact weak_do3 [(65, 6784)]
       try dsimp only
       omega
     · obtain rfl : n = k := by omega
       repeat' (first
         | (with_reducible apply Req_intro); focus (first | omega | assumption | (simp; done))
         | with_reducible (first | apply Req_intro | refine nilT ?_ fun hn => ?_ | apply wk_draw Tryd_mixed | refine drawEnd (by kernel_rfl) ?_)
         | (with_reducible (first | apply condA_if | apply stepDG_ifN | apply stepDG_if | apply stepG_ifN | apply stepG_if)) <;> intro hb <;> (have hif := hb) <;> (try simp only [bo] at hif) <;> (try simp -implicitDefEqProofs (disch := omega) only [go_sem, hb]) <;> clear hb
         | simp (maxSteps := 1000000) -implicitDefEqProofs (disch := omega) only [go_sem])
       all_goals first | exact absurd trivial ‹¬True› | exact absurd ‹false = true› (by decide) | exact absurd ‹true = false› (by decide) | (exfalso; omega) | omega | skip
       rw [← shufTo_zero (shT v) n]
       have hsl := shufTo_len (shT v) n
       have hsg := fun k (hk : k < n) => shuf_top (farF LS RS) (t := shT v) hk
       have hss := shufTo_succ (shT v) n
       have hsi := fun k (hk : k ≤ n) => (shufTo_inj (t := shT v) hk).1
       have hsw := shuf_worst hbm (shT v)
       have hsb := fun k (hk : k ≤ n) => valTo_bnd hgl hgr (ks := shufTo (shT v) n k) (fun y hy => by
         obtain ⟨j, hj, rfl⟩ := List.getElem_of_mem hy
         have hj' : j < n := by rw [hsl] at hj; exact hj
         have h2 := hsi k hk j hj'
         rw [List.getD_eq_getElem?_getD, List.getElem?_eq_getElem hj, Option.getD_some] at h2
         omega) k (by rw [hsl]; exact hk) (by omega)
       have htv : ∀ k, k < n → 0 ≤ v.getD k 0 ∧ v.getD k 0 ≤ 255 ∧ ((shT v k : Nat) : Int) = v.getD k 0 := fun k hk => by
         have := hv8 k (by omega)
         unfold okY at this
         unfold shT
         omega
       have hvz : valTo (farF LS RS) (shufTo (shT v) n 0) 0 = 0 := rfl
       generalize shufTo (shT v) n = SH at *
       refine loop_rows (α := Nat) [20, 21, 22, 23, 169, 170, 171, 172, 173, 174, 175, 176, 177, 178, 179, 180, 181, 182, 183, 184, 185, 186, 187, 188, 189, 190, 191, 192, 193, 194, 195, 196, 197, 198, 199, 200, 201, 202, 203, 204, 205, 206, 207, 208, 209, 210, 211, 212, 213, 214, 215, 216] (fun k => [(21, .lit (.int .i64 k)), (20, int (valTo (farF LS RS) (SH k) k))]) (fun k => [(0, some ⟨7, [[.sl 3 (x.l.map enc3) false, .sl 3 (x.r.map enc3) false, uy x.m, uy x.g0, uy x.g1, uy x.g2, uy x.g3]], 25, .wr⟩), (448, some ⟨2, [[.sl 2 (LS.map encGd) false, .sl 2 (RS.map encGd) false]], 29, .wr⟩), (512, some ⟨4, [[int g.sc, int g.ga, int g.we, int g.cu]], 31, .wr⟩), (3776, some ⟨2, [[int (LL n), int (LR n)]], 40, .wr⟩), (3840, some ⟨2, [[int (GL n), int (GR n)]], 40, .wr⟩), (65, some ⟨1, (natL (SH k)).map encI, 3, .wr⟩)]) (fun k => k ≤ n) (fun k => n - k) 0 (fun x => by simp (maxSteps := 1000000) -implicitDefEqProofs (disch := omega) only [go_sem]; rfl) ?_ ?_ fun x hx => ?_
       · rw [hvz]
         exact weak_do3 []
       · exact Nat.zero_le _
       rename Nat => k
       have hsbk := hsb k (by omega)
       have hslk := hsl k
       have hsik := hsi k (by omega)
       by_cases hk1 : k < n
       · have hrdk := rd8 v (k := k) (by omega)
         have hrlk := rl8 v (k := k) (by omega)
         have htvk := htv k hk1
         obtain ⟨mm, hmm⟩ : ∃ mm, mm = k + shT v k % (n - k) := ⟨_, rfl⟩
         have hmd : (k : Int) + v.getD k 0 % ((n : Int) - (k : Int)) = (mm : Int) := by
           rw [hmm, ← htvk.2.2, Int.natCast_add, Int.natCast_emod, Int.ofNat_sub (by omega)]
         have hm2 : mm < n := by
           have : shT v k % (n - k) < n - k := Nat.mod_lt _ (by omega)
           omega
         have hsgk := hsg k hk1
         have hssk := hss k
         rw [← hmm] at hsgk hssk
         have ho1 := hsik mm hm2
         have ho2 := hsik k hk1
         have hsb2 := hsb (k + 1) (by omega)
         have hnl : (natL (SH k)).length = n := by rw [natL, List.length_map]; exact hslk
         have hgm : (natL (SH k)).getD mm default = (((SH k).getD mm 0 : Nat) : Int) := by
           rw [getD_default (by omega), List.getD_eq_getElem?_getD, List.getElem?_eq_getElem (by omega)]; simp [natL]
         have hgk : (natL (SH k)).getD k default = (((SH k).getD k 0 : Nat) : Int) := by
           rw [getD_default (by omega), List.getD_eq_getElem?_getD, List.getElem?_eq_getElem (by omega)]; simp [natL]
         have hnx : natL (SH (k + 1)) = ((natL (SH k)).set mm (((SH k).getD k 0 : Nat) : Int)).set k (((SH k).getD mm 0 : Nat) : Int) := by
           rw [hssk]; simp [natL, List.map_set]
         generalize natL (SH k) = NS at *
         have hkl : (NS.set mm (((SH k).getD k 0 : Nat) : Int)).length = n := by rw [List.length_set]; exact hnl
         generalize (SH k).getD mm 0 = one at *
         generalize (SH k).getD k 0 = old at *
         generalize valTo (farF LS RS) (SH k) k = TK at *
         have hw1 := fine_w hfl2 _ (getD_mem (show k < LS.length by omega))
         have hw2 := fine_w hfr2 _ (getD_mem (show one < RS.length by omega))
         have hf1 : Ct Tryd.prog 8 [int (LS.getD k default).1, int (RS.getD one default).1] (int (farF LS RS k one)) := lfar_spec _ _ (by unfold Mild; omega) (by unfold Mild; omega)
         have hfb := farF_bnd hgl hgr (i := k) (k := one) (by omega) (by omega)
         repeat' (first
           | (with_reducible apply Req_intro); focus (first | omega | assumption | (simp; done))
           | with_reducible (first | apply Req_intro | refine nilT ?_ fun hn => ?_ | apply wk_draw Tryd_mixed | refine drawEnd (by kernel_rfl) ?_)
           | (with_reducible (first | apply condA_if | apply stepDG_ifN | apply stepDG_if | apply stepG_ifN | apply stepG_if)) <;> intro hb <;> (have hif := hb) <;> (try simp only [bo] at hif) <;> (try simp -implicitDefEqProofs (disch := omega) only [go_sem, hb, hvv, hrdk, hrlk, hmd, hgm, hgk]) <;> clear hb
           | simp (maxSteps := 1000000) -implicitDefEqProofs (disch := omega) only [go_sem, hvv, hrdk, hrlk, hmd, hgm, hgk])
         all_goals first | exact absurd trivial ‹¬True› | exact absurd ‹false = true› (by decide) | exact absurd ‹true = false› (by decide) | (exfalso; omega) | omega | skip
         refine calld hf1 ?_
         try simp (maxSteps := 1000000) -implicitDefEqProofs (disch := omega) only [go_sem]
         repeat' (first
           | (with_reducible apply Req_intro); focus (first | omega | assumption | (simp; done))
           | with_reducible (first | apply Req_intro | refine nilT ?_ fun hn => ?_ | apply wk_draw Tryd_mixed | refine drawEnd (by kernel_rfl) ?_)
           | (with_reducible (first | apply condA_if | apply stepDG_ifN | apply stepDG_if | apply stepG_ifN | apply stepG_if)) <;> intro hb <;> (have hif := hb) <;> (try simp only [bo] at hif) <;> (try simp -implicitDefEqProofs (disch := omega) only [go_sem, hb]) <;> clear hb
           | simp (maxSteps := 1000000) -implicitDefEqProofs (disch := omega) only [go_sem])
         all_goals first | exact absurd trivial ‹¬True› | exact absurd ‹false = true› (by decide) | exact absurd ‹true = false› (by decide) | (exfalso; omega) | omega | skip
         with_reducible refine nxt_w (k + 1) ?_ ?_
         · (try dsimp only)
           rw [hsgk, hnx]
           exact weak_do3 []
         try dsimp only
         omega
       · obtain rfl : n = k := by omega
         repeat' (first
           | (with_reducible apply Req_intro); focus (first | omega | assumption | (simp; done))
           | with_reducible (first | apply Req_intro | refine nilT ?_ fun hn => ?_ | apply wk_draw Tryd_mixed | refine drawEnd (by kernel_rfl) ?_)
           | (with_reducible (first | apply condA_if | apply stepDG_ifN | apply stepDG_if | apply stepG_ifN | apply stepG_if)) <;> intro hb <;> (have hif := hb) <;> (try simp only [bo] at hif) <;> (try simp -implicitDefEqProofs (disch := omega) only [go_sem, hb]) <;> clear hb
           | simp (maxSteps := 1000000) -implicitDefEqProofs (disch := omega) only [go_sem])
         all_goals first | exact absurd trivial ‹¬True› | exact absurd ‹false = true› (by decide) | exact absurd ‹true = false› (by decide) | (exfalso; omega) | omega | skip
         with_reducible refine nxt_w (t + 1) ?_ ?_
         · (try dsimp only)
           skip
           exact weak_do3 []
         try dsimp only
         omega
   · repeat' (first
       | (with_reducible apply Req_intro); focus (first | omega | assumption | (simp; done))
       | with_reducible (first | apply Req_intro | refine nilT ?_ fun hn => ?_ | apply wk_draw Tryd_mixed | refine drawEnd (by kernel_rfl) ?_)
       | (with_reducible (first | apply condA_if | apply stepDG_ifN | apply stepDG_if | apply stepG_ifN | apply stepG_if)) <;> intro hb <;> (have hif := hb) <;> (try simp only [bo] at hif) <;> (try simp -implicitDefEqProofs (disch := omega) only [go_sem, hb]) <;> clear hb
       | simp (maxSteps := 1000000) -implicitDefEqProofs (disch := omega) only [go_sem])
     all_goals first | exact absurd trivial ‹¬True› | exact absurd ‹false = true› (by decide) | exact absurd ‹true = false› (by decide) | (exfalso; omega) | omega | skip
     all_goals
       first | refine callp gknown_spec ?_ | refine calld gknown_spec ?_
       try simp (maxSteps := 1000000) -implicitDefEqProofs (disch := omega) only [go_sem]
       repeat' (first
         | (with_reducible apply Req_intro); focus (first | omega | assumption | (simp; done))
         | with_reducible (first | apply Req_intro | refine nilT ?_ fun hn => ?_ | apply wk_draw Tryd_mixed | refine drawEnd (by kernel_rfl) ?_)
         | (with_reducible (first | apply condA_if | apply stepDG_ifN | apply stepDG_if | apply stepG_ifN | apply stepG_if)) <;> intro hb <;> (have hif := hb) <;> (try simp only [bo] at hif) <;> (try simp -implicitDefEqProofs (disch := omega) only [go_sem, hb]) <;> clear hb
         | simp (maxSteps := 1000000) -implicitDefEqProofs (disch := omega) only [go_sem])
       all_goals first | exact absurd trivial ‹¬True› | exact absurd ‹false = true› (by decide) | exact absurd ‹true = false› (by decide) | (exfalso; omega) | omega | skip
       refine ret_do ?_
       rfl
end Go.Aw
end
