/-
  A part of the proof that a law returns true for every input that the given row speaks of: an own verified walk over the program (namespace Go.Aw), contracts of the functions that the law calls, and the law itself. Conditions: those of the given row, no other.
-/
import Derived.Test.YtgpeegdinblnoaaDoorPart5
set_option linter.unusedVariables false
set_option linter.unusedSimpArgs false
section
set_option maxRecDepth 20000
set_option maxHeartbeats 4000000
namespace Go.Aw
open Go.RowKit Go.Proofs
theorem one_spec (w c : Int) : Ct Tryd.prog 57 [int w, int c] (.agg (encGd (w, [c]))) := by
 refine ct_enterZ Tryd.func57 rfl (by decide) Tryd.results57 Tryd.ntmps57 ?_ rfl (by simp (maxSteps := 1000000) -implicitDefEqProofs (disch := omega) only [go_sem]; rfl) fun base => ?_
 · first | assumption | (simp only [go_sem] <;> assumption) | (simp only [go_sem, *]; done) | (simp [go_sem]; done)
 repeat' (first
   | (with_reducible apply Req_intro); focus (first | omega | assumption | (simp; done))
   | with_reducible (first | apply Req_intro | refine nilT ?_ fun hn => ?_ | apply wk_draw Tryd_mixed | refine drawEnd (by kernel_rfl) ?_)
   | (with_reducible (first | apply condA_if | apply stepDG_ifN | apply stepDG_if | apply stepG_ifN | apply stepG_if)) <;> intro hb <;> (have hif := hb) <;> (try simp only [bo] at hif) <;> (try simp -implicitDefEqProofs (disch := omega) only [go_sem, hb]) <;> clear hb
   | simp (maxSteps := 1000000) -implicitDefEqProofs (disch := omega) only [go_sem])
 exact retz [192]
theorem gauge_spec (w : Int) : Ct Tryd.prog 58 [int w] (encGa (exG w)) := by
 refine ct_enterZ Tryd.func58 rfl (by decide) Tryd.results58 Tryd.ntmps58 ?_ rfl (by simp (maxSteps := 1000000) -implicitDefEqProofs (disch := omega) only [go_sem]; rfl) fun base => ?_
 · unfold exG; first | assumption | (simp only [go_sem] <;> assumption) | (simp only [go_sem, *]; done) | (simp [go_sem]; done)
 repeat' (first
   | (with_reducible apply Req_intro); focus (first | omega | assumption | (simp; done))
   | with_reducible (first | apply Req_intro | refine nilT ?_ fun hn => ?_ | apply wk_draw Tryd_mixed | refine drawEnd (by kernel_rfl) ?_)
   | (with_reducible (first | apply condA_if | apply stepDG_ifN | apply stepDG_if | apply stepG_ifN | apply stepG_if)) <;> intro hb <;> (have hif := hb) <;> (try simp only [bo] at hif) <;> (try simp -implicitDefEqProofs (disch := omega) only [go_sem, hb]) <;> clear hb
   | simp (maxSteps := 1000000) -implicitDefEqProofs (disch := omega) only [go_sem])
 unfold exG
 exact retz []
theorem pair_spec (a b : Int) : Ct Tryd.prog 51 [int a, int b] (.agg [int a, int b]) := by
 refine ct_enterZ Tryd.func51 rfl (by decide) Tryd.results51 Tryd.ntmps51 ?_ rfl (by simp (maxSteps := 1000000) -implicitDefEqProofs (disch := omega) only [go_sem]; rfl) fun base => ?_
 · first | assumption | (simp only [go_sem] <;> assumption) | (simp only [go_sem, *]; done) | (simp [go_sem]; done)
 repeat' (first
   | (with_reducible apply Req_intro); focus (first | omega | assumption | (simp; done))
   | with_reducible (first | apply Req_intro | refine nilT ?_ fun hn => ?_ | apply wk_draw Tryd_mixed | refine drawEnd (by kernel_rfl) ?_)
   | (with_reducible (first | apply condA_if | apply stepDG_ifN | apply stepDG_if | apply stepG_ifN | apply stepG_if)) <;> intro hb <;> (have hif := hb) <;> (try simp only [bo] at hif) <;> (try simp -implicitDefEqProofs (disch := omega) only [go_sem, hb]) <;> clear hb
   | simp (maxSteps := 1000000) -implicitDefEqProofs (disch := omega) only [go_sem])
 exact retz []
theorem exL_enc : exL.map encGd = [[int 100, .sl 1 [[int 20]] false], [int 104, .sl 1 [[int 24]] false], [int 120, .sl 1 [[int 20]] false]] := rfl
theorem exR_enc : exR.map encGd = [[int 103, .sl 1 [[int 22]] false], [int 101, .sl 1 [[int 20]] false], [int 118, .sl 1 [[int 30]] false]] := rfl
theorem stock_spec : Ct Tryd.prog 59 [] (encSt exL exR false false) := by
 rw [encSt, exL_enc, exR_enc]
 refine ct_enterZ Tryd.func59 rfl (by decide) Tryd.results59 Tryd.ntmps59 ?_ rfl (by simp (maxSteps := 1000000) -implicitDefEqProofs (disch := omega) only [go_sem]; rfl) fun base => ?_
 · first | assumption | (simp only [go_sem] <;> assumption) | (simp only [go_sem, *]; done) | (simp [go_sem]; done)
 repeat' (first
   | (with_reducible apply Req_intro); focus (first | omega | assumption | (simp; done))
   | with_reducible (first | apply Req_intro | refine nilT ?_ fun hn => ?_ | apply wk_draw Tryd_mixed | refine drawEnd (by kernel_rfl) ?_)
   | (with_reducible (first | apply condA_if | apply stepDG_ifN | apply stepDG_if | apply stepG_ifN | apply stepG_if)) <;> intro hb <;> (have hif := hb) <;> (try simp only [bo] at hif) <;> (try simp -implicitDefEqProofs (disch := omega) only [go_sem, hb]) <;> clear hb
   | simp (maxSteps := 1000000) -implicitDefEqProofs (disch := omega) only [go_sem])
 refine callp (one_spec 100 20) ?_
 try simp (maxSteps := 1000000) -implicitDefEqProofs (disch := omega) only [go_sem]
 repeat' (first
   | (with_reducible apply Req_intro); focus (first | omega | assumption | (simp; done))
   | with_reducible (first | apply Req_intro | refine nilT ?_ fun hn => ?_ | apply wk_draw Tryd_mixed | refine drawEnd (by kernel_rfl) ?_)
   | (with_reducible (first | apply condA_if | apply stepDG_ifN | apply stepDG_if | apply stepG_ifN | apply stepG_if)) <;> intro hb <;> (have hif := hb) <;> (try simp only [bo] at hif) <;> (try simp -implicitDefEqProofs (disch := omega) only [go_sem, hb]) <;> clear hb
   | simp (maxSteps := 1000000) -implicitDefEqProofs (disch := omega) only [go_sem])
 refine callp (one_spec 104 24) ?_
 try simp (maxSteps := 1000000) -implicitDefEqProofs (disch := omega) only [go_sem]
 repeat' (first
   | (with_reducible apply Req_intro); focus (first | omega | assumption | (simp; done))
   | with_reducible (first | apply Req_intro | refine nilT ?_ fun hn => ?_ | apply wk_draw Tryd_mixed | refine drawEnd (by kernel_rfl) ?_)
   | (with_reducible (first | apply condA_if | apply stepDG_ifN | apply stepDG_if | apply stepG_ifN | apply stepG_if)) <;> intro hb <;> (have hif := hb) <;> (try simp only [bo] at hif) <;> (try simp -implicitDefEqProofs (disch := omega) only [go_sem, hb]) <;> clear hb
   | simp (maxSteps := 1000000) -implicitDefEqProofs (disch := omega) only [go_sem])
 refine callp (one_spec 120 20) ?_
 try simp (maxSteps := 1000000) -implicitDefEqProofs (disch := omega) only [go_sem]
 repeat' (first
   | (with_reducible apply Req_intro); focus (first | omega | assumption | (simp; done))
   | with_reducible (first | apply Req_intro | refine nilT ?_ fun hn => ?_ | apply wk_draw Tryd_mixed | refine drawEnd (by kernel_rfl) ?_)
   | (with_reducible (first | apply condA_if | apply stepDG_ifN | apply stepDG_if | apply stepG_ifN | apply stepG_if)) <;> intro hb <;> (have hif := hb) <;> (try simp only [bo] at hif) <;> (try simp -implicitDefEqProofs (disch := omega) only [go_sem, hb]) <;> clear hb
   | simp (maxSteps := 1000000) -implicitDefEqProofs (disch := omega) only [go_sem])
 refine callp (one_spec 103 22) ?_
 try simp (maxSteps := 1000000) -implicitDefEqProofs (disch := omega) only [go_sem]
 repeat' (first
   | (with_reducible apply Req_intro); focus (first | omega | assumption | (simp; done))
   | with_reducible (first | apply Req_intro | refine nilT ?_ fun hn => ?_ | apply wk_draw Tryd_mixed | refine drawEnd (by kernel_rfl) ?_)
   | (with_reducible (first | apply condA_if | apply stepDG_ifN | apply stepDG_if | apply stepG_ifN | apply stepG_if)) <;> intro hb <;> (have hif := hb) <;> (try simp only [bo] at hif) <;> (try simp -implicitDefEqProofs (disch := omega) only [go_sem, hb]) <;> clear hb
   | simp (maxSteps := 1000000) -implicitDefEqProofs (disch := omega) only [go_sem])
 refine callp (one_spec 101 20) ?_
 try simp (maxSteps := 1000000) -implicitDefEqProofs (disch := omega) only [go_sem]
 repeat' (first
   | (with_reducible apply Req_intro); focus (first | omega | assumption | (simp; done))
   | with_reducible (first | apply Req_intro | refine nilT ?_ fun hn => ?_ | apply wk_draw Tryd_mixed | refine drawEnd (by kernel_rfl) ?_)
   | (with_reducible (first | apply condA_if | apply stepDG_ifN | apply stepDG_if | apply stepG_ifN | apply stepG_if)) <;> intro hb <;> (have hif := hb) <;> (try simp only [bo] at hif) <;> (try simp -implicitDefEqProofs (disch := omega) only [go_sem, hb]) <;> clear hb
   | simp (maxSteps := 1000000) -implicitDefEqProofs (disch := omega) only [go_sem])
 refine callp (one_spec 118 30) ?_
 try simp (maxSteps := 1000000) -implicitDefEqProofs (disch := omega) only [go_sem]
 repeat' (first
   | (with_reducible apply Req_intro); focus (first | omega | assumption | (simp; done))
   | with_reducible (first | apply Req_intro | refine nilT ?_ fun hn => ?_ | apply wk_draw Tryd_mixed | refine drawEnd (by kernel_rfl) ?_)
   | (with_reducible (first | apply condA_if | apply stepDG_ifN | apply stepDG_if | apply stepG_ifN | apply stepG_if)) <;> intro hb <;> (have hif := hb) <;> (try simp only [bo] at hif) <;> (try simp -implicitDefEqProofs (disch := omega) only [go_sem, hb]) <;> clear hb
   | simp (maxSteps := 1000000) -implicitDefEqProofs (disch := omega) only [go_sem])
 exact retz [256, 512]
theorem rInts_spec (a b : List Int) (ea eb : Bool) (ha : a.length ≤ 4611686018427387904) (hb : b.length ≤ 4611686018427387904) : Ct Tryd.prog 36 [.sl 1 (a.map encI) ea, .sl 1 (b.map encI) eb] (.lit (.bool (a == b))) := by
 refine fn_enter Tryd.func36 rfl (by decide) Tryd.results36 Tryd.ntmps36 ?_ rfl (by simp (maxSteps := 1000000) -implicitDefEqProofs (disch := omega) only [go_sem]; rfl) fun base => ?_
 · simp
 repeat' (first
   | (with_reducible apply Req_intro); focus (first | omega | assumption | (simp; done))
   | with_reducible (first | apply Req_intro | refine nilT ?_ fun hn => ?_ | apply wk_draw Tryd_mixed | refine drawEnd (by kernel_rfl) ?_)
   | (with_reducible (first | apply condA_if | apply stepDG_ifN | apply stepDG_if | apply stepG_ifN | apply stepG_if)) <;> intro hb <;> (have hif := hb) <;> (try simp only [bo] at hif) <;> (try simp -implicitDefEqProofs (disch := omega) only [go_sem, hb]) <;> clear hb
   | simp (maxSteps := 1000000) -implicitDefEqProofs (disch := omega) only [go_sem])
 · refine ret_do ?_
   have : (a == b) = false := by rw [beq_eq_false_iff_ne]; intro e; subst e; exact hif rfl
   rw [this]; rfl
 refine loop_at (α := Nat) [4, 5, 11, 12, 13, 14, 15, 16, 17, 18, 19, 20, 21, 22, 23, 24, 25] (fun i => [(5, .lit (.int .i64 i))]) (fun i => i ≤ a.length ∧ a.take i = b.take i) (fun i => a.length - i) 0 (fun x => by simp (maxSteps := 1000000) -implicitDefEqProofs (disch := omega) only [go_sem]; rfl) ?_ ?_ fun x hx => ?_
 · exact weak_do []
 · simp
 obtain ⟨hi, he⟩ := hx
 repeat' (first
   | (with_reducible apply Req_intro); focus (first | omega | assumption | (simp; done))
   | with_reducible (first | apply Req_intro | refine nilT ?_ fun hn => ?_ | apply wk_draw Tryd_mixed | refine drawEnd (by kernel_rfl) ?_)
   | (with_reducible (first | apply condA_if | apply stepDG_ifN | apply stepDG_if | apply stepG_ifN | apply stepG_if)) <;> intro hb <;> (have hif := hb) <;> (try simp only [bo] at hif) <;> (try simp -implicitDefEqProofs (disch := omega) only [go_sem, hb]) <;> clear hb
   | simp (maxSteps := 1000000) -implicitDefEqProofs (disch := omega) only [go_sem])
 · refine ret_do ?_
   have : (a == b) = false := by rw [beq_eq_false_iff_ne]; intro e; subst e; exact hif rfl
   rw [this]; rfl
 · refine nxt_w (x + 1) (weak_do []) ?_
   try dsimp only
   refine ⟨by omega, ?_⟩
   rw [take_succ_getD (by omega), take_succ_getD (by omega), he, hif]
 · refine ret_do ?_
   have : a = b := by
     rw [List.take_of_length_le (by omega), List.take_of_length_le (by omega)] at he; exact he
   subst this; simp; rfl
@[go_sem] theorem eqGuardP : Tryd.prog.eqGuardType Tryd.prog.depth 85 = false := by kernel_rfl
@[go_sem] theorem eqCells_P (x y z w : Int) : eqCells (Tryd.prog) 10000 85 [.lit (.int .i64 x), .lit (.int .i64 y)] [.lit (.int .i64 z), .lit (.int .i64 w)] = some ((x == z) && (y == w)) := by
 have h : eqCells (Tryd.prog) 10000 85 [.lit (.int .i64 x), .lit (.int .i64 y)] [.lit (.int .i64 z), .lit (.int .i64 w)] = some ((x == z) && ((y == w) && true)) := by kernel_rfl
 rw [h, Bool.and_true]
theorem rAll_spec (a b : List (Nat × Nat)) (ea eb : Bool) (ha : a.length ≤ 4611686018427387904) (hb : b.length ≤ 4611686018427387904) : Ct Tryd.prog 30 [.sl 2 (a.map encP) ea, .sl 2 (b.map encP) eb] (.lit (.bool (a == b))) := by
 refine fn_enter Tryd.func30 rfl (by decide) Tryd.results30 Tryd.ntmps30 ?_ rfl (by simp (maxSteps := 1000000) -implicitDefEqProofs (disch := omega) only [go_sem]; rfl) fun base => ?_
 · simp
 repeat' (first
   | (with_reducible apply Req_intro); focus (first | omega | assumption | (simp; done))
   | with_reducible (first | apply Req_intro | refine nilT ?_ fun hn => ?_ | apply wk_draw Tryd_mixed | refine drawEnd (by kernel_rfl) ?_)
   | (with_reducible (first | apply condA_if | apply stepDG_ifN | apply stepDG_if | apply stepG_ifN | apply stepG_if)) <;> intro hb <;> (have hif := hb) <;> (try simp only [bo] at hif) <;> (try simp -implicitDefEqProofs (disch := omega) only [go_sem, hb]) <;> clear hb
   | simp (maxSteps := 1000000) -implicitDefEqProofs (disch := omega) only [go_sem])
 · refine ret_do ?_
   have : (a == b) = false := by rw [beq_eq_false_iff_ne]; intro e; subst e; exact hif rfl
   rw [this]; rfl
 refine loop_at (α := Nat) [4, 5, 11, 12, 13, 14, 15, 16, 17, 18, 19, 20, 21, 22, 23, 24, 25] (fun i => [(5, .lit (.int .i64 i))]) (fun i => i ≤ a.length ∧ a.take i = b.take i) (fun i => a.length - i) 0 (fun x => by simp (maxSteps := 1000000) -implicitDefEqProofs (disch := omega) only [go_sem]; rfl) ?_ ?_ fun x hx => ?_
 · exact weak_do []
 · simp
 obtain ⟨hi, he⟩ := hx
 repeat' (first
   | (with_reducible apply Req_intro); focus (first | omega | assumption | (simp; done))
   | with_reducible (first | apply Req_intro | refine nilT ?_ fun hn => ?_ | apply wk_draw Tryd_mixed | refine drawEnd (by kernel_rfl) ?_)
   | (with_reducible (first | apply condA_if | apply stepDG_ifN | apply stepDG_if | apply stepG_ifN | apply stepG_if)) <;> intro hb <;> (have hif := hb) <;> (try simp only [bo] at hif) <;> (try simp -implicitDefEqProofs (disch := omega) only [go_sem, hb]) <;> clear hb
   | simp (maxSteps := 1000000) -implicitDefEqProofs (disch := omega) only [go_sem])
 · refine ret_do ?_
   have : (a == b) = false := by
     rw [beq_eq_false_iff_ne]; intro e; subst e
     exact hif rfl rfl
   rw [this]; rfl
 · refine nxt_w (x + 1) (weak_do []) ?_
   try dsimp only
   refine ⟨by omega, ?_⟩
   rw [take_succ_getD (by omega), take_succ_getD (by omega), he, show a.getD x default = b.getD x default from Prod.ext (by omega) (by omega)]
 · refine ret_do ?_
   have : a = b := by
     rw [List.take_of_length_le (by omega), List.take_of_length_le (by omega)] at he; exact he
   subst this; simp; rfl
end Go.Aw
end
section
set_option maxRecDepth 20000
set_option maxHeartbeats 4000000
namespace Go.Aw
open Go.RowKit Go.Proofs
theorem ex_st : StOk exL exR := ⟨by decide, by decide, by decide, by decide⟩
theorem ex_chk5 : checkS (exG 5) exL exR = 0 := by decide +kernel
theorem ex_chk6 : checkS (exG 6) exL exR = 0 := by decide +kernel
theorem kAlike : Ct Tryd.prog 17 [.agg (encGd (100, [20])), .agg (encGd (104, [24])), encGa (exG 5)] (.tup [.lit (.bool false), .lit (.bool true), int 0]) := by
 have h := Alike_spec (exG 5) (100, [20]) (104, [24]) (by decide) (by decide)
 rwa [if_pos (show chkR (exG 5) [(100, [20]), (104, [24])] = 0 by decide +kernel), show alikeR (exG 5) (100, [20]) (104, [24]) 2 = false by decide +kernel, show alikeR (exG 5) (100, [20]) (104, [24]) (-2) = true by decide +kernel] at h
theorem kPairs : Ct Tryd.prog 26 [encSt exL exR false false, encGa (exG 5)] (.tup [.sl 2 ([(0, 0), (1, 1)].map encP) false, int 0]) := by
 have h := Pairs_ok (exG 5) exL exR false false ex_st ex_chk5
 rwa [ex1] at h
theorem kPossible : Ct Tryd.prog 27 [encSt exL exR false false, encGa (exG 5)] (.tup [int 2, int 0]) := by
 have h := Possible_ok (exG 5) exL exR false false ex_st ex_chk5
 rwa [ex2] at h
theorem kCover : Ct Tryd.prog 34 [encSt exL exR false false, encGa (exG 5)] (.tup [.sl 1 (([] : List Int).map encI) false, .sl 1 (([0, 1] : List Int).map encI) false, int 0]) := by
 have h := Cover_ok (exG 5) exL exR false false ex_st ex_chk5
 rwa [ex3.1, ex3.2, show bitsL 0 = [] from bitsL_zero] at h
theorem kSpare : Ct Tryd.prog 37 [encSt exL exR false false, encGa (exG 5)] (.tup [.sl 1 (([2] : List Int).map encI) false, .sl 1 (([2] : List Int).map encI) false, int 0]) := by
 have h := Spare_ok (exG 5) exL exR false false ex_st ex_chk5
 rwa [ex4.1, show exR.length = 3 from rfl, ex4.2] at h
theorem kTwins : Ct Tryd.prog 39 [encSt exL exR false false, encGa (exG 6)] (.tup [.sl 2 ([(0, 0), (1, 1)].map encP) false, int 0]) := by
 have h := Twins_ok (exG 6) exL exR false false ex_st ex_chk6
 rwa [← twins_eq, ex5] at h
theorem kCut : Ct Tryd.prog 41 [encSt exL exR false false, encGa (exG 5)] (.tup [int 2, int 3, int 0]) := by
 have h := Cut_ok (exG 5) exL exR false false ex_st ex_chk5
 rwa [cutV, show exL.length = 3 from rfl, ex6, if_neg (by decide +kernel)] at h
theorem kLook : Ct Tryd.prog 43 [encSt exL exR false false, encGa (exG 5)] (.tup [.lit (.bool false), int 0, int 0, int 7]) := by
 have h := Look_ok (exG 5) exL exR false false ex_st ex_chk5
 rwa [lookV, show exR.length = 3 from rfl, if_pos ex7] at h
theorem kBalance : Ct Tryd.prog 45 [encSt exL exR false false, encGa (exG 5)] (.tup [.sl 2 ([(0, 1), (1, 0), (2, 2)].map encP) false, int 2, int 0]) := by
 have hd : isort (diffs exL exR) = [0, 1, 1, 2, 3, 3, 14, 17, 18, 19] := by decide +kernel
 have h := Balance_ok (exG 5) exL exR false false ex_st ex_chk5 rfl (isort (diffs exL exR)) (isort_len _) (fun x hx => by
   rw [← List.count_pos_iff, isort_count, List.count_pos_iff] at hx
   exact hx) (Sort_spec _ (by decide))
 rwa [hd, ex8] at h
theorem kCheck : Ct Tryd.prog 25 [encSt exL exR false false, encGa ⟨-1, 0, 0, 0⟩] (int 3) := by
 have h := Check_st ⟨-1, 0, 0, 0⟩ false false ex_st
 rwa [show checkS ⟨-1, 0, 0, 0⟩ exL exR = 3 by decide +kernel] at h
end Go.Aw
end
section
set_option maxRecDepth 20000
set_option maxHeartbeats 4000000
namespace Go.Aw
open Go.RowKit Go.Proofs
theorem kAll (l : List (Nat × Nat)) (e f : Bool) (hl : l.length ≤ 10) : Ct Tryd.prog 30 [.sl 2 (l.map encP) e, .sl 2 (l.map encP) f] (.lit (.bool true)) := by
 have h := rAll_spec l l e f (by omega) (by omega)
 rwa [beq_self_eq_true] at h
theorem kInts (l : List Int) (e f : Bool) (hl : l.length ≤ 10) : Ct Tryd.prog 36 [.sl 1 (l.map encI) e, .sl 1 (l.map encI) f] (.lit (.bool true)) := by
 have h := rInts_spec l l e f (by omega) (by omega)
 rwa [beq_self_eq_true] at h
theorem gknown_spec : Ct Tryd.prog 15 [] (.lit (.bool true)) := by
 refine fn_enter Tryd.func15 rfl (by decide) Tryd.results15 Tryd.ntmps15 ?_ rfl (by simp (maxSteps := 1000000) -implicitDefEqProofs (disch := omega) only [go_sem]; rfl) fun base => ?_
 · first | assumption | (simp only [go_sem] <;> assumption) | (simp only [go_sem, *]; done) | (simp [go_sem]; done)
 repeat' (first
   | (with_reducible apply Req_intro); focus (first | omega | assumption | (simp; done))
   | with_reducible (first | apply Req_intro | refine nilT ?_ fun hn => ?_ | apply wk_draw Tryd_mixed | refine drawEnd (by kernel_rfl) ?_)
   | (with_reducible (first | apply condA_if | apply stepDG_ifN | apply stepDG_if | apply stepG_ifN | apply stepG_if)) <;> intro hb <;> (have hif := hb) <;> (try simp only [bo] at hif) <;> (try simp -implicitDefEqProofs (disch := omega) only [go_sem, hb]) <;> clear hb
   | simp (maxSteps := 1000000) -implicitDefEqProofs (disch := omega) only [go_sem])
 refine callp (one_spec 100 20) ?_
 try simp (maxSteps := 1000000) -implicitDefEqProofs (disch := omega) only [go_sem]
 repeat' (first
   | (with_reducible apply Req_intro); focus (first | omega | assumption | (simp; done))
   | with_reducible (first | apply Req_intro | refine nilT ?_ fun hn => ?_ | apply wk_draw Tryd_mixed | refine drawEnd (by kernel_rfl) ?_)
   | (with_reducible (first | apply condA_if | apply stepDG_ifN | apply stepDG_if | apply stepG_ifN | apply stepG_if)) <;> intro hb <;> (have hif := hb) <;> (try simp only [bo] at hif) <;> (try simp -implicitDefEqProofs (disch := omega) only [go_sem, hb]) <;> clear hb
   | simp (maxSteps := 1000000) -implicitDefEqProofs (disch := omega) only [go_sem])
 refine callp (one_spec 104 24) ?_
 try simp (maxSteps := 1000000) -implicitDefEqProofs (disch := omega) only [go_sem]
 repeat' (first
   | (with_reducible apply Req_intro); focus (first | omega | assumption | (simp; done))
   | with_reducible (first | apply Req_intro | refine nilT ?_ fun hn => ?_ | apply wk_draw Tryd_mixed | refine drawEnd (by kernel_rfl) ?_)
   | (with_reducible (first | apply condA_if | apply stepDG_ifN | apply stepDG_if | apply stepG_ifN | apply stepG_if)) <;> intro hb <;> (have hif := hb) <;> (try simp only [bo] at hif) <;> (try simp -implicitDefEqProofs (disch := omega) only [go_sem, hb]) <;> clear hb
   | simp (maxSteps := 1000000) -implicitDefEqProofs (disch := omega) only [go_sem])
 refine callp (gauge_spec 5) ?_
 try simp (maxSteps := 1000000) -implicitDefEqProofs (disch := omega) only [go_sem]
 repeat' (first
   | (with_reducible apply Req_intro); focus (first | omega | assumption | (simp; done))
   | with_reducible (first | apply Req_intro | refine nilT ?_ fun hn => ?_ | apply wk_draw Tryd_mixed | refine drawEnd (by kernel_rfl) ?_)
   | (with_reducible (first | apply condA_if | apply stepDG_ifN | apply stepDG_if | apply stepG_ifN | apply stepG_if)) <;> intro hb <;> (have hif := hb) <;> (try simp only [bo] at hif) <;> (try simp -implicitDefEqProofs (disch := omega) only [go_sem, hb]) <;> clear hb
   | simp (maxSteps := 1000000) -implicitDefEqProofs (disch := omega) only [go_sem])
 refine callp kAlike ?_
 try simp (maxSteps := 1000000) -implicitDefEqProofs (disch := omega) only [go_sem]
 repeat' (first
   | (with_reducible apply Req_intro); focus (first | omega | assumption | (simp; done))
   | with_reducible (first | apply Req_intro | refine nilT ?_ fun hn => ?_ | apply wk_draw Tryd_mixed | refine drawEnd (by kernel_rfl) ?_)
   | (with_reducible (first | apply condA_if | apply stepDG_ifN | apply stepDG_if | apply stepG_ifN | apply stepG_if)) <;> intro hb <;> (have hif := hb) <;> (try simp only [bo] at hif) <;> (try simp -implicitDefEqProofs (disch := omega) only [go_sem, hb]) <;> clear hb
   | simp (maxSteps := 1000000) -implicitDefEqProofs (disch := omega) only [go_sem])
 refine callp stock_spec ?_
 try simp (maxSteps := 1000000) -implicitDefEqProofs (disch := omega) only [go_sem]
 repeat' (first
   | (with_reducible apply Req_intro); focus (first | omega | assumption | (simp; done))
   | with_reducible (first | apply Req_intro | refine nilT ?_ fun hn => ?_ | apply wk_draw Tryd_mixed | refine drawEnd (by kernel_rfl) ?_)
   | (with_reducible (first | apply condA_if | apply stepDG_ifN | apply stepDG_if | apply stepG_ifN | apply stepG_if)) <;> intro hb <;> (have hif := hb) <;> (try simp only [bo] at hif) <;> (try simp -implicitDefEqProofs (disch := omega) only [go_sem, hb]) <;> clear hb
   | simp (maxSteps := 1000000) -implicitDefEqProofs (disch := omega) only [go_sem])
 refine callp (gauge_spec 5) ?_
 try simp (maxSteps := 1000000) -implicitDefEqProofs (disch := omega) only [go_sem]
 repeat' (first
   | (with_reducible apply Req_intro); focus (first | omega | assumption | (simp; done))
   | with_reducible (first | apply Req_intro | refine nilT ?_ fun hn => ?_ | apply wk_draw Tryd_mixed | refine drawEnd (by kernel_rfl) ?_)
   | (with_reducible (first | apply condA_if | apply stepDG_ifN | apply stepDG_if | apply stepG_ifN | apply stepG_if)) <;> intro hb <;> (have hif := hb) <;> (try simp only [bo] at hif) <;> (try simp -implicitDefEqProofs (disch := omega) only [go_sem, hb]) <;> clear hb
   | simp (maxSteps := 1000000) -implicitDefEqProofs (disch := omega) only [go_sem])
 refine callp kPairs ?_
 try simp (maxSteps := 1000000) -implicitDefEqProofs (disch := omega) only [go_sem]
 repeat' (first
   | (with_reducible apply Req_intro); focus (first | omega | assumption | (simp; done))
   | with_reducible (first | apply Req_intro | refine nilT ?_ fun hn => ?_ | apply wk_draw Tryd_mixed | refine drawEnd (by kernel_rfl) ?_)
   | (with_reducible (first | apply condA_if | apply stepDG_ifN | apply stepDG_if | apply stepG_ifN | apply stepG_if)) <;> intro hb <;> (have hif := hb) <;> (try simp only [bo] at hif) <;> (try simp -implicitDefEqProofs (disch := omega) only [go_sem, hb]) <;> clear hb
   | simp (maxSteps := 1000000) -implicitDefEqProofs (disch := omega) only [go_sem])
 refine callp stock_spec ?_
 try simp (maxSteps := 1000000) -implicitDefEqProofs (disch := omega) only [go_sem]
 repeat' (first
   | (with_reducible apply Req_intro); focus (first | omega | assumption | (simp; done))
   | with_reducible (first | apply Req_intro | refine nilT ?_ fun hn => ?_ | apply wk_draw Tryd_mixed | refine drawEnd (by kernel_rfl) ?_)
   | (with_reducible (first | apply condA_if | apply stepDG_ifN | apply stepDG_if | apply stepG_ifN | apply stepG_if)) <;> intro hb <;> (have hif := hb) <;> (try simp only [bo] at hif) <;> (try simp -implicitDefEqProofs (disch := omega) only [go_sem, hb]) <;> clear hb
   | simp (maxSteps := 1000000) -implicitDefEqProofs (disch := omega) only [go_sem])
 refine callp (gauge_spec 5) ?_
 try simp (maxSteps := 1000000) -implicitDefEqProofs (disch := omega) only [go_sem]
 repeat' (first
   | (with_reducible apply Req_intro); focus (first | omega | assumption | (simp; done))
   | with_reducible (first | apply Req_intro | refine nilT ?_ fun hn => ?_ | apply wk_draw Tryd_mixed | refine drawEnd (by kernel_rfl) ?_)
   | (with_reducible (first | apply condA_if | apply stepDG_ifN | apply stepDG_if | apply stepG_ifN | apply stepG_if)) <;> intro hb <;> (have hif := hb) <;> (try simp only [bo] at hif) <;> (try simp -implicitDefEqProofs (disch := omega) only [go_sem, hb]) <;> clear hb
   | simp (maxSteps := 1000000) -implicitDefEqProofs (disch := omega) only [go_sem])
 refine callp kPossible ?_
 try simp (maxSteps := 1000000) -implicitDefEqProofs (disch := omega) only [go_sem]
 repeat' (first
   | (with_reducible apply Req_intro); focus (first | omega | assumption | (simp; done))
   | with_reducible (first | apply Req_intro | refine nilT ?_ fun hn => ?_ | apply wk_draw Tryd_mixed | refine drawEnd (by kernel_rfl) ?_)
   | (with_reducible (first | apply condA_if | apply stepDG_ifN | apply stepDG_if | apply stepG_ifN | apply stepG_if)) <;> intro hb <;> (have hif := hb) <;> (try simp only [bo] at hif) <;> (try simp -implicitDefEqProofs (disch := omega) only [go_sem, hb]) <;> clear hb
   | simp (maxSteps := 1000000) -implicitDefEqProofs (disch := omega) only [go_sem])
 refine callp stock_spec ?_
 try simp (maxSteps := 1000000) -implicitDefEqProofs (disch := omega) only [go_sem]
 repeat' (first
   | (with_reducible apply Req_intro); focus (first | omega | assumption | (simp; done))
   | with_reducible (first | apply Req_intro | refine nilT ?_ fun hn => ?_ | apply wk_draw Tryd_mixed | refine drawEnd (by kernel_rfl) ?_)
   | (with_reducible (first | apply condA_if | apply stepDG_ifN | apply stepDG_if | apply stepG_ifN | apply stepG_if)) <;> intro hb <;> (have hif := hb) <;> (try simp only [bo] at hif) <;> (try simp -implicitDefEqProofs (disch := omega) only [go_sem, hb]) <;> clear hb
   | simp (maxSteps := 1000000) -implicitDefEqProofs (disch := omega) only [go_sem])
 refine callp (gauge_spec 5) ?_
 try simp (maxSteps := 1000000) -implicitDefEqProofs (disch := omega) only [go_sem]
 repeat' (first
   | (with_reducible apply Req_intro); focus (first | omega | assumption | (simp; done))
   | with_reducible (first | apply Req_intro | refine nilT ?_ fun hn => ?_ | apply wk_draw Tryd_mixed | refine drawEnd (by kernel_rfl) ?_)
   | (with_reducible (first | apply condA_if | apply stepDG_ifN | apply stepDG_if | apply stepG_ifN | apply stepG_if)) <;> intro hb <;> (have hif := hb) <;> (try simp only [bo] at hif) <;> (try simp -implicitDefEqProofs (disch := omega) only [go_sem, hb]) <;> clear hb
   | simp (maxSteps := 1000000) -implicitDefEqProofs (disch := omega) only [go_sem])
 refine callp kCover ?_
 try simp (maxSteps := 1000000) -implicitDefEqProofs (disch := omega) only [go_sem]
 repeat' (first
   | (with_reducible apply Req_intro); focus (first | omega | assumption | (simp; done))
   | with_reducible (first | apply Req_intro | refine nilT ?_ fun hn => ?_ | apply wk_draw Tryd_mixed | refine drawEnd (by kernel_rfl) ?_)
   | (with_reducible (first | apply condA_if | apply stepDG_ifN | apply stepDG_if | apply stepG_ifN | apply stepG_if)) <;> intro hb <;> (have hif := hb) <;> (try simp only [bo] at hif) <;> (try simp -implicitDefEqProofs (disch := omega) only [go_sem, hb]) <;> clear hb
   | simp (maxSteps := 1000000) -implicitDefEqProofs (disch := omega) only [go_sem])
 refine callp stock_spec ?_
 try simp (maxSteps := 1000000) -implicitDefEqProofs (disch := omega) only [go_sem]
 repeat' (first
   | (with_reducible apply Req_intro); focus (first | omega | assumption | (simp; done))
   | with_reducible (first | apply Req_intro | refine nilT ?_ fun hn => ?_ | apply wk_draw Tryd_mixed | refine drawEnd (by kernel_rfl) ?_)
   | (with_reducible (first | apply condA_if | apply stepDG_ifN | apply stepDG_if | apply stepG_ifN | apply stepG_if)) <;> intro hb <;> (have hif := hb) <;> (try simp only [bo] at hif) <;> (try simp -implicitDefEqProofs (disch := omega) only [go_sem, hb]) <;> clear hb
   | simp (maxSteps := 1000000) -implicitDefEqProofs (disch := omega) only [go_sem])
 refine callp (gauge_spec 5) ?_
 try simp (maxSteps := 1000000) -implicitDefEqProofs (disch := omega) only [go_sem]
 repeat' (first
   | (with_reducible apply Req_intro); focus (first | omega | assumption | (simp; done))
   | with_reducible (first | apply Req_intro | refine nilT ?_ fun hn => ?_ | apply wk_draw Tryd_mixed | refine drawEnd (by kernel_rfl) ?_)
   | (with_reducible (first | apply condA_if | apply stepDG_ifN | apply stepDG_if | apply stepG_ifN | apply stepG_if)) <;> intro hb <;> (have hif := hb) <;> (try simp only [bo] at hif) <;> (try simp -implicitDefEqProofs (disch := omega) only [go_sem, hb]) <;> clear hb
   | simp (maxSteps := 1000000) -implicitDefEqProofs (disch := omega) only [go_sem])
 refine callp kSpare ?_
 try simp (maxSteps := 1000000) -implicitDefEqProofs (disch := omega) only [go_sem]
 repeat' (first
   | (with_reducible apply Req_intro); focus (first | omega | assumption | (simp; done))
   | with_reducible (first | apply Req_intro | refine nilT ?_ fun hn => ?_ | apply wk_draw Tryd_mixed | refine drawEnd (by kernel_rfl) ?_)
   | (with_reducible (first | apply condA_if | apply stepDG_ifN | apply stepDG_if | apply stepG_ifN | apply stepG_if)) <;> intro hb <;> (have hif := hb) <;> (try simp only [bo] at hif) <;> (try simp -implicitDefEqProofs (disch := omega) only [go_sem, hb]) <;> clear hb
   | simp (maxSteps := 1000000) -implicitDefEqProofs (disch := omega) only [go_sem])
 refine callp stock_spec ?_
 try simp (maxSteps := 1000000) -implicitDefEqProofs (disch := omega) only [go_sem]
 repeat' (first
   | (with_reducible apply Req_intro); focus (first | omega | assumption | (simp; done))
   | with_reducible (first | apply Req_intro | refine nilT ?_ fun hn => ?_ | apply wk_draw Tryd_mixed | refine drawEnd (by kernel_rfl) ?_)
   | (with_reducible (first | apply condA_if | apply stepDG_ifN | apply stepDG_if | apply stepG_ifN | apply stepG_if)) <;> intro hb <;> (have hif := hb) <;> (try simp only [bo] at hif) <;> (try simp -implicitDefEqProofs (disch := omega) only [go_sem, hb]) <;> clear hb
   | simp (maxSteps := 1000000) -implicitDefEqProofs (disch := omega) only [go_sem])
 refine callp (gauge_spec 6) ?_
 try simp (maxSteps := 1000000) -implicitDefEqProofs (disch := omega) only [go_sem]
 repeat' (first
   | (with_reducible apply Req_intro); focus (first | omega | assumption | (simp; done))
   | with_reducible (first | apply Req_intro | refine nilT ?_ fun hn => ?_ | apply wk_draw Tryd_mixed | refine drawEnd (by kernel_rfl) ?_)
   | (with_reducible (first | apply condA_if | apply stepDG_ifN | apply stepDG_if | apply stepG_ifN | apply stepG_if)) <;> intro hb <;> (have hif := hb) <;> (try simp only [bo] at hif) <;> (try simp -implicitDefEqProofs (disch := omega) only [go_sem, hb]) <;> clear hb
   | simp (maxSteps := 1000000) -implicitDefEqProofs (disch := omega) only [go_sem])
 refine callp kTwins ?_
 try simp (maxSteps := 1000000) -implicitDefEqProofs (disch := omega) only [go_sem]
 repeat' (first
   | (with_reducible apply Req_intro); focus (first | omega | assumption | (simp; done))
   | with_reducible (first | apply Req_intro | refine nilT ?_ fun hn => ?_ | apply wk_draw Tryd_mixed | refine drawEnd (by kernel_rfl) ?_)
   | (with_reducible (first | apply condA_if | apply stepDG_ifN | apply stepDG_if | apply stepG_ifN | apply stepG_if)) <;> intro hb <;> (have hif := hb) <;> (try simp only [bo] at hif) <;> (try simp -implicitDefEqProofs (disch := omega) only [go_sem, hb]) <;> clear hb
   | simp (maxSteps := 1000000) -implicitDefEqProofs (disch := omega) only [go_sem])
 refine callp stock_spec ?_
 try simp (maxSteps := 1000000) -implicitDefEqProofs (disch := omega) only [go_sem]
 repeat' (first
   | (with_reducible apply Req_intro); focus (first | omega | assumption | (simp; done))
   | with_reducible (first | apply Req_intro | refine nilT ?_ fun hn => ?_ | apply wk_draw Tryd_mixed | refine drawEnd (by kernel_rfl) ?_)
   | (with_reducible (first | apply condA_if | apply stepDG_ifN | apply stepDG_if | apply stepG_ifN | apply stepG_if)) <;> intro hb <;> (have hif := hb) <;> (try simp only [bo] at hif) <;> (try simp -implicitDefEqProofs (disch := omega) only [go_sem, hb]) <;> clear hb
   | simp (maxSteps := 1000000) -implicitDefEqProofs (disch := omega) only [go_sem])
 refine callp (gauge_spec 5) ?_
 try simp (maxSteps := 1000000) -implicitDefEqProofs (disch := omega) only [go_sem]
 repeat' (first
   | (with_reducible apply Req_intro); focus (first | omega | assumption | (simp; done))
   | with_reducible (first | apply Req_intro | refine nilT ?_ fun hn => ?_ | apply wk_draw Tryd_mixed | refine drawEnd (by kernel_rfl) ?_)
   | (with_reducible (first | apply condA_if | apply stepDG_ifN | apply stepDG_if | apply stepG_ifN | apply stepG_if)) <;> intro hb <;> (have hif := hb) <;> (try simp only [bo] at hif) <;> (try simp -implicitDefEqProofs (disch := omega) only [go_sem, hb]) <;> clear hb
   | simp (maxSteps := 1000000) -implicitDefEqProofs (disch := omega) only [go_sem])
 refine callp kCut ?_
 try simp (maxSteps := 1000000) -implicitDefEqProofs (disch := omega) only [go_sem]
 repeat' (first
   | (with_reducible apply Req_intro); focus (first | omega | assumption | (simp; done))
   | with_reducible (first | apply Req_intro | refine nilT ?_ fun hn => ?_ | apply wk_draw Tryd_mixed | refine drawEnd (by kernel_rfl) ?_)
   | (with_reducible (first | apply condA_if | apply stepDG_ifN | apply stepDG_if | apply stepG_ifN | apply stepG_if)) <;> intro hb <;> (have hif := hb) <;> (try simp only [bo] at hif) <;> (try simp -implicitDefEqProofs (disch := omega) only [go_sem, hb]) <;> clear hb
   | simp (maxSteps := 1000000) -implicitDefEqProofs (disch := omega) only [go_sem])
 refine callp stock_spec ?_
 try simp (maxSteps := 1000000) -implicitDefEqProofs (disch := omega) only [go_sem]
 repeat' (first
   | (with_reducible apply Req_intro); focus (first | omega | assumption | (simp; done))
   | with_reducible (first | apply Req_intro | refine nilT ?_ fun hn => ?_ | apply wk_draw Tryd_mixed | refine drawEnd (by kernel_rfl) ?_)
   | (with_reducible (first | apply condA_if | apply stepDG_ifN | apply stepDG_if | apply stepG_ifN | apply stepG_if)) <;> intro hb <;> (have hif := hb) <;> (try simp only [bo] at hif) <;> (try simp -implicitDefEqProofs (disch := omega) only [go_sem, hb]) <;> clear hb
   | simp (maxSteps := 1000000) -implicitDefEqProofs (disch := omega) only [go_sem])
 refine callp (gauge_spec 5) ?_
 try simp (maxSteps := 1000000) -implicitDefEqProofs (disch := omega) only [go_sem]
 repeat' (first
   | (with_reducible apply Req_intro); focus (first | omega | assumption | (simp; done))
   | with_reducible (first | apply Req_intro | refine nilT ?_ fun hn => ?_ | apply wk_draw Tryd_mixed | refine drawEnd (by kernel_rfl) ?_)
   | (with_reducible (first | apply condA_if | apply stepDG_ifN | apply stepDG_if | apply stepG_ifN | apply stepG_if)) <;> intro hb <;> (have hif := hb) <;> (try simp only [bo] at hif) <;> (try simp -implicitDefEqProofs (disch := omega) only [go_sem, hb]) <;> clear hb
   | simp (maxSteps := 1000000) -implicitDefEqProofs (disch := omega) only [go_sem])
 refine callp kLook ?_
 try simp (maxSteps := 1000000) -implicitDefEqProofs (disch := omega) only [go_sem]
 repeat' (first
   | (with_reducible apply Req_intro); focus (first | omega | assumption | (simp; done))
   | with_reducible (first | apply Req_intro | refine nilT ?_ fun hn => ?_ | apply wk_draw Tryd_mixed | refine drawEnd (by kernel_rfl) ?_)
   | (with_reducible (first | apply condA_if | apply stepDG_ifN | apply stepDG_if | apply stepG_ifN | apply stepG_if)) <;> intro hb <;> (have hif := hb) <;> (try simp only [bo] at hif) <;> (try simp -implicitDefEqProofs (disch := omega) only [go_sem, hb]) <;> clear hb
   | simp (maxSteps := 1000000) -implicitDefEqProofs (disch := omega) only [go_sem])
 refine callp stock_spec ?_
 try simp (maxSteps := 1000000) -implicitDefEqProofs (disch := omega) only [go_sem]
 repeat' (first
   | (with_reducible apply Req_intro); focus (first | omega | assumption | (simp; done))
   | with_reducible (first | apply Req_intro | refine nilT ?_ fun hn => ?_ | apply wk_draw Tryd_mixed | refine drawEnd (by kernel_rfl) ?_)
   | (with_reducible (first | apply condA_if | apply stepDG_ifN | apply stepDG_if | apply stepG_ifN | apply stepG_if)) <;> intro hb <;> (have hif := hb) <;> (try simp only [bo] at hif) <;> (try simp -implicitDefEqProofs (disch := omega) only [go_sem, hb]) <;> clear hb
   | simp (maxSteps := 1000000) -implicitDefEqProofs (disch := omega) only [go_sem])
 refine callp (gauge_spec 5) ?_
 try simp (maxSteps := 1000000) -implicitDefEqProofs (disch := omega) only [go_sem]
 repeat' (first
   | (with_reducible apply Req_intro); focus (first | omega | assumption | (simp; done))
   | with_reducible (first | apply Req_intro | refine nilT ?_ fun hn => ?_ | apply wk_draw Tryd_mixed | refine drawEnd (by kernel_rfl) ?_)
   | (with_reducible (first | apply condA_if | apply stepDG_ifN | apply stepDG_if | apply stepG_ifN | apply stepG_if)) <;> intro hb <;> (have hif := hb) <;> (try simp only [bo] at hif) <;> (try simp -implicitDefEqProofs (disch := omega) only [go_sem, hb]) <;> clear hb
   | simp (maxSteps := 1000000) -implicitDefEqProofs (disch := omega) only [go_sem])
 refine callp kBalance ?_
 try simp (maxSteps := 1000000) -implicitDefEqProofs (disch := omega) only [go_sem]
 repeat' (first
   | (with_reducible apply Req_intro); focus (first | omega | assumption | (simp; done))
   | with_reducible (first | apply Req_intro | refine nilT ?_ fun hn => ?_ | apply wk_draw Tryd_mixed | refine drawEnd (by kernel_rfl) ?_)
   | (with_reducible (first | apply condA_if | apply stepDG_ifN | apply stepDG_if | apply stepG_ifN | apply stepG_if)) <;> intro hb <;> (have hif := hb) <;> (try simp only [bo] at hif) <;> (try simp -implicitDefEqProofs (disch := omega) only [go_sem, hb]) <;> clear hb
   | simp (maxSteps := 1000000) -implicitDefEqProofs (disch := omega) only [go_sem])
 refine callp (pair_spec 0 0) ?_
 try simp (maxSteps := 1000000) -implicitDefEqProofs (disch := omega) only [go_sem]
 repeat' (first
   | (with_reducible apply Req_intro); focus (first | omega | assumption | (simp; done))
   | with_reducible (first | apply Req_intro | refine nilT ?_ fun hn => ?_ | apply wk_draw Tryd_mixed | refine drawEnd (by kernel_rfl) ?_)
   | (with_reducible (first | apply condA_if | apply stepDG_ifN | apply stepDG_if | apply stepG_ifN | apply stepG_if)) <;> intro hb <;> (have hif := hb) <;> (try simp only [bo] at hif) <;> (try simp -implicitDefEqProofs (disch := omega) only [go_sem, hb]) <;> clear hb
   | simp (maxSteps := 1000000) -implicitDefEqProofs (disch := omega) only [go_sem])
 all_goals first | (exfalso; omega) | skip
 refine callp (pair_spec 1 1) ?_
 try simp (maxSteps := 1000000) -implicitDefEqProofs (disch := omega) only [go_sem]
 repeat' (first
   | (with_reducible apply Req_intro); focus (first | omega | assumption | (simp; done))
   | with_reducible (first | apply Req_intro | refine nilT ?_ fun hn => ?_ | apply wk_draw Tryd_mixed | refine drawEnd (by kernel_rfl) ?_)
   | (with_reducible (first | apply condA_if | apply stepDG_ifN | apply stepDG_if | apply stepG_ifN | apply stepG_if)) <;> intro hb <;> (have hif := hb) <;> (try simp only [bo] at hif) <;> (try simp -implicitDefEqProofs (disch := omega) only [go_sem, hb]) <;> clear hb
   | simp (maxSteps := 1000000) -implicitDefEqProofs (disch := omega) only [go_sem])
 all_goals first | (exfalso; omega) | skip
 refine callc (kAll [(0, 0), (1, 1)] false true (by decide)) ?_
 try simp (maxSteps := 1000000) -implicitDefEqProofs (disch := omega) only [go_sem]
 repeat' (first
   | (with_reducible apply Req_intro); focus (first | omega | assumption | (simp; done))
   | with_reducible (first | apply Req_intro | refine nilT ?_ fun hn => ?_ | apply wk_draw Tryd_mixed | refine drawEnd (by kernel_rfl) ?_)
   | (with_reducible (first | apply condA_if | apply stepDG_ifN | apply stepDG_if | apply stepG_ifN | apply stepG_if)) <;> intro hb <;> (have hif := hb) <;> (try simp only [bo] at hif) <;> (try simp -implicitDefEqProofs (disch := omega) only [go_sem, hb]) <;> clear hb
   | simp (maxSteps := 1000000) -implicitDefEqProofs (disch := omega) only [go_sem])
 all_goals first | (exfalso; omega) | skip
 refine callc (kInts [0, 1] false true (by decide)) ?_
 try simp (maxSteps := 1000000) -implicitDefEqProofs (disch := omega) only [go_sem]
 repeat' (first
   | (with_reducible apply Req_intro); focus (first | omega | assumption | (simp; done))
   | with_reducible (first | apply Req_intro | refine nilT ?_ fun hn => ?_ | apply wk_draw Tryd_mixed | refine drawEnd (by kernel_rfl) ?_)
   | (with_reducible (first | apply condA_if | apply stepDG_ifN | apply stepDG_if | apply stepG_ifN | apply stepG_if)) <;> intro hb <;> (have hif := hb) <;> (try simp only [bo] at hif) <;> (try simp -implicitDefEqProofs (disch := omega) only [go_sem, hb]) <;> clear hb
   | simp (maxSteps := 1000000) -implicitDefEqProofs (disch := omega) only [go_sem])
 all_goals first | (exfalso; omega) | skip
 refine callc (kInts [2] false true (by decide)) ?_
 try simp (maxSteps := 1000000) -implicitDefEqProofs (disch := omega) only [go_sem]
 repeat' (first
   | (with_reducible apply Req_intro); focus (first | omega | assumption | (simp; done))
   | with_reducible (first | apply Req_intro | refine nilT ?_ fun hn => ?_ | apply wk_draw Tryd_mixed | refine drawEnd (by kernel_rfl) ?_)
   | (with_reducible (first | apply condA_if | apply stepDG_ifN | apply stepDG_if | apply stepG_ifN | apply stepG_if)) <;> intro hb <;> (have hif := hb) <;> (try simp only [bo] at hif) <;> (try simp -implicitDefEqProofs (disch := omega) only [go_sem, hb]) <;> clear hb
   | simp (maxSteps := 1000000) -implicitDefEqProofs (disch := omega) only [go_sem])
 all_goals first | (exfalso; omega) | skip
 refine callc (kInts [2] false true (by decide)) ?_
 try simp (maxSteps := 1000000) -implicitDefEqProofs (disch := omega) only [go_sem]
 repeat' (first
   | (with_reducible apply Req_intro); focus (first | omega | assumption | (simp; done))
   | with_reducible (first | apply Req_intro | refine nilT ?_ fun hn => ?_ | apply wk_draw Tryd_mixed | refine drawEnd (by kernel_rfl) ?_)
   | (with_reducible (first | apply condA_if | apply stepDG_ifN | apply stepDG_if | apply stepG_ifN | apply stepG_if)) <;> intro hb <;> (have hif := hb) <;> (try simp only [bo] at hif) <;> (try simp -implicitDefEqProofs (disch := omega) only [go_sem, hb]) <;> clear hb
   | simp (maxSteps := 1000000) -implicitDefEqProofs (disch := omega) only [go_sem])
 all_goals first | (exfalso; omega) | skip
 refine callc (kAll [(0, 0), (1, 1)] false false (by decide)) ?_
 try simp (maxSteps := 1000000) -implicitDefEqProofs (disch := omega) only [go_sem]
 repeat' (first
   | (with_reducible apply Req_intro); focus (first | omega | assumption | (simp; done))
   | with_reducible (first | apply Req_intro | refine nilT ?_ fun hn => ?_ | apply wk_draw Tryd_mixed | refine drawEnd (by kernel_rfl) ?_)
   | (with_reducible (first | apply condA_if | apply stepDG_ifN | apply stepDG_if | apply stepG_ifN | apply stepG_if)) <;> intro hb <;> (have hif := hb) <;> (try simp only [bo] at hif) <;> (try simp -implicitDefEqProofs (disch := omega) only [go_sem, hb]) <;> clear hb
   | simp (maxSteps := 1000000) -implicitDefEqProofs (disch := omega) only [go_sem])
 all_goals first | (exfalso; omega) | skip
 refine callp (pair_spec 0 1) ?_
 try simp (maxSteps := 1000000) -implicitDefEqProofs (disch := omega) only [go_sem]
 repeat' (first
   | (with_reducible apply Req_intro); focus (first | omega | assumption | (simp; done))
   | with_reducible (first | apply Req_intro | refine nilT ?_ fun hn => ?_ | apply wk_draw Tryd_mixed | refine drawEnd (by kernel_rfl) ?_)
   | (with_reducible (first | apply condA_if | apply stepDG_ifN | apply stepDG_if | apply stepG_ifN | apply stepG_if)) <;> intro hb <;> (have hif := hb) <;> (try simp only [bo] at hif) <;> (try simp -implicitDefEqProofs (disch := omega) only [go_sem, hb]) <;> clear hb
   | simp (maxSteps := 1000000) -implicitDefEqProofs (disch := omega) only [go_sem])
 all_goals first | (exfalso; omega) | skip
 refine callp (pair_spec 1 0) ?_
 try simp (maxSteps := 1000000) -implicitDefEqProofs (disch := omega) only [go_sem]
 repeat' (first
   | (with_reducible apply Req_intro); focus (first | omega | assumption | (simp; done))
   | with_reducible (first | apply Req_intro | refine nilT ?_ fun hn => ?_ | apply wk_draw Tryd_mixed | refine drawEnd (by kernel_rfl) ?_)
   | (with_reducible (first | apply condA_if | apply stepDG_ifN | apply stepDG_if | apply stepG_ifN | apply stepG_if)) <;> intro hb <;> (have hif := hb) <;> (try simp only [bo] at hif) <;> (try simp -implicitDefEqProofs (disch := omega) only [go_sem, hb]) <;> clear hb
   | simp (maxSteps := 1000000) -implicitDefEqProofs (disch := omega) only [go_sem])
 all_goals first | (exfalso; omega) | skip
 refine callp (pair_spec 2 2) ?_
 try simp (maxSteps := 1000000) -implicitDefEqProofs (disch := omega) only [go_sem]
 repeat' (first
   | (with_reducible apply Req_intro); focus (first | omega | assumption | (simp; done))
   | with_reducible (first | apply Req_intro | refine nilT ?_ fun hn => ?_ | apply wk_draw Tryd_mixed | refine drawEnd (by kernel_rfl) ?_)
   | (with_reducible (first | apply condA_if | apply stepDG_ifN | apply stepDG_if | apply stepG_ifN | apply stepG_if)) <;> intro hb <;> (have hif := hb) <;> (try simp only [bo] at hif) <;> (try simp -implicitDefEqProofs (disch := omega) only [go_sem, hb]) <;> clear hb
   | simp (maxSteps := 1000000) -implicitDefEqProofs (disch := omega) only [go_sem])
 all_goals first | (exfalso; omega) | skip
 refine callc (kAll [(0, 1), (1, 0), (2, 2)] false true (by decide)) ?_
 try simp (maxSteps := 1000000) -implicitDefEqProofs (disch := omega) only [go_sem]
 repeat' (first
   | (with_reducible apply Req_intro); focus (first | omega | assumption | (simp; done))
   | with_reducible (first | apply Req_intro | refine nilT ?_ fun hn => ?_ | apply wk_draw Tryd_mixed | refine drawEnd (by kernel_rfl) ?_)
   | (with_reducible (first | apply condA_if | apply stepDG_ifN | apply stepDG_if | apply stepG_ifN | apply stepG_if)) <;> intro hb <;> (have hif := hb) <;> (try simp only [bo] at hif) <;> (try simp -implicitDefEqProofs (disch := omega) only [go_sem, hb]) <;> clear hb
   | simp (maxSteps := 1000000) -implicitDefEqProofs (disch := omega) only [go_sem])
 all_goals first | (exfalso; omega) | skip
 refine callp stock_spec ?_
 try simp (maxSteps := 1000000) -implicitDefEqProofs (disch := omega) only [go_sem]
 repeat' (first
   | (with_reducible apply Req_intro); focus (first | omega | assumption | (simp; done))
   | with_reducible (first | apply Req_intro | refine nilT ?_ fun hn => ?_ | apply wk_draw Tryd_mixed | refine drawEnd (by kernel_rfl) ?_)
   | (with_reducible (first | apply condA_if | apply stepDG_ifN | apply stepDG_if | apply stepG_ifN | apply stepG_if)) <;> intro hb <;> (have hif := hb) <;> (try simp only [bo] at hif) <;> (try simp -implicitDefEqProofs (disch := omega) only [go_sem, hb]) <;> clear hb
   | simp (maxSteps := 1000000) -implicitDefEqProofs (disch := omega) only [go_sem])
 all_goals first | (exfalso; omega) | skip
 refine callp kCheck ?_
 try simp (maxSteps := 1000000) -implicitDefEqProofs (disch := omega) only [go_sem]
 repeat' (first
   | (with_reducible apply Req_intro); focus (first | omega | assumption | (simp; done))
   | with_reducible (first | apply Req_intro | refine nilT ?_ fun hn => ?_ | apply wk_draw Tryd_mixed | refine drawEnd (by kernel_rfl) ?_)
   | (with_reducible (first | apply condA_if | apply stepDG_ifN | apply stepDG_if | apply stepG_ifN | apply stepG_if)) <;> intro hb <;> (have hif := hb) <;> (try simp only [bo] at hif) <;> (try simp -implicitDefEqProofs (disch := omega) only [go_sem, hb]) <;> clear hb
   | simp (maxSteps := 1000000) -implicitDefEqProofs (disch := omega) only [go_sem])
 all_goals first | (exfalso; omega) | skip
 refine ret_do ?_
 rfl
end Go.Aw
end
section
namespace Go.Aw
open Go.RowKit
def permsR (n : Nat) : Nat → Nat → List (List Nat)
 | 0, _ => [[]]
 | m + 1, taken => (List.range n).flatMap fun k => if taken.testBit k then [] else (permsR n m (taken ||| 2 ^ k)).map (k :: ·)
def valTo (f : Nat → Nat → Int) (ks : List Nat) : Nat → Int
 | 0 => 0
 | k + 1 => max (valTo f ks k) (f k (ks.getD k 0))
def valR (f : Nat → Nat → Int) (ks : List Nat) : Int := valTo f ks ks.length
def balStep (f : Nat → Nat → Int) (st : List Nat × Int) (ks : List Nat) : List Nat × Int := if valR f ks < st.2 then (ks, valR f ks) else st
def refBal (f : Nat → Nat → Int) (n : Nat) : Nat → List Nat → List Nat × Int → List Nat × Int
 | 0, now, st => balStep f st now
 | m + 1, now, st => (List.range n).foldl (fun st k => if decide (k ∈ now) then st else refBal f n m (now ++ [k]) st) st
def okFrom (T : List Nat) : Nat → List Nat → Bool
 | _, [] => true
 | i, k :: s => (T.getD i 0).testBit k && okFrom T (i + 1) s
theorem okFrom_iff (T : List Nat) : ∀ (s : List Nat) (i : Nat), okFrom T i s = true ↔ ∀ j, j < s.length → (T.getD (i + j) 0).testBit (s.getD j 0) = true
 | [], i => by simp [okFrom]
 | k :: s, i => by
   rw [okFrom, Bool.and_eq_true, okFrom_iff T s (i + 1)]
   constructor
   · rintro ⟨h1, h2⟩ j hj
     cases j with
     | zero => exact h1
     | succ j =>
       have := h2 j (by simpa using hj)
       rw [show i + 1 + j = i + (j + 1) from by omega] at this
       simpa using this
   · intro h
     refine ⟨h 0 (by simp), fun j hj => ?_⟩
     have := h (j + 1) (by simpa using hj)
     rw [show i + 1 + j = i + (j + 1) from by omega]
     simpa using this
theorem maxM_len : ∀ (t : List Nat) (x : Nat), maxM t x ≤ t.length
 | [], x => Nat.le_refl _
 | a :: t, x => by
   have := maxM_head a t x
   have := maxM_len t x
   rw [List.length_cons]; omega
def farF (ls rs : List Grd) (i k : Nat) : Int := farR (ls.getD i default).1 (rs.getD k default).1
def nearB (ls rs : List Grd) (w : Int) : List (List Bool) := ls.map fun a => rs.map fun b => decide (farR a.1 b.1 ≤ w)
end Go.Aw
end
section
namespace Go.Aw
open Go.RowKit
def tabB (g : Gau) (ls rs : List Grd) (k : Int) : List (List Bool) := ls.map fun a => rs.map fun b => alikeR g a b k
def manyR (g : Gau) (ls rs : List Grd) (k : Int) : Nat := refM (tabB g ls rs k) 0
theorem farR_comm (a b : Int) : farR a b = farR b a := by unfold farR; omega
theorem alikeR_comm (g : Gau) {a b : Grd} (h : a.2.length = b.2.length) (k : Int) : alikeR g a b k = alikeR g b a k := by
 unfold alikeR
 rw [farR_comm, h]
 congr 2
 funext i
 rw [farR_comm]
def okTwin (g : Gau) (ls rs : List Grd) (a b : Nat × Nat) : Bool :=
 decide (a.1 ≠ b.1 ∧ a.2 ≠ b.2) && alikeR g (rs.getD a.2 default) (ls.getD a.1 default) 2 && alikeR g (ls.getD b.1 default) (ls.getD a.1 default) 2 && alikeR g (ls.getD b.1 default) (rs.getD a.2 default) 2 &&
   alikeR g (rs.getD b.2 default) (ls.getD a.1 default) 2 && alikeR g (rs.getD b.2 default) (rs.getD a.2 default) 2 && alikeR g (rs.getD b.2 default) (ls.getD b.1 default) 2
def refCutTo (g : Gau) (ls rs : List Grd) : Nat → Nat × Nat × Bool
 | 0 => (0, manyR g ls rs 2, false)
 | i + 1 => if (refCutTo g ls rs i).2.1 < manyR g ls (rs ++ [ls.getD i default]) 2 then (i, manyR g ls (rs ++ [ls.getD i default]) 2, true) else refCutTo g ls rs i
def lookB (g : Gau) (ls rs : List Grd) (right : Bool) (n : Nat) : List (List Bool) :=
 (List.range ls.length).map fun i => (List.range rs.length).map fun k => if (if right then k else i) = n then alikeR g (ls.getD i default) (rs.getD k default) 1 else alikeR g (ls.getD i default) (rs.getD k default) 2
end Go.Aw
end
section
namespace Go.Aw
open Go.RowKit
structure Fine (m : Nat) (x : Grd) : Prop where
 w1 : 1 ≤ x.1
 w2 : x.1 ≤ 10000
 len : x.2.length = m
 c : ∀ v ∈ x.2, 0 ≤ v ∧ v ≤ 500
theorem check_fine {g : Gau} {ls rs : List Grd} {m : Nat} (h1 : 1 ≤ m) (h4 : m ≤ 4) (hl8 : ls.length ≤ 8) (hr8 : rs.length ≤ 8) (hl : ∀ x ∈ ls, Fine m x) (hr : ∀ x ∈ rs, Fine m x) (hg : gaugeR g = true) : checkS g ls rs = 0 := by
 have hall : ∀ x ∈ ls ++ rs, Fine m x := fun x hx => (List.mem_append.1 hx).elim (hl x) (hr x)
 rw [checkS, if_neg (by omega)]
 generalize ls ++ rs = l at *
 have h0 : ∀ x ∈ l, otherR l x = false := fun x hx => by
   have e : (l.getD 0 default).2.length = m := by
     cases l with
     | nil => cases hx
     | cons y l => exact (hall y (by simp)).len
   simp only [otherR, inR', e, (hall x hx).len, Bool.or_eq_false_iff, Bool.not_eq_false', Bool.and_eq_true, decide_eq_true_eq]
   refine ⟨⟨by omega, by omega⟩, by simp⟩
 have h2 : ∀ x ∈ l, noneR x = false := fun x hx => by
   have := hall x hx
   simp only [noneR, inR', Bool.or_eq_false_iff, Bool.not_eq_false', Bool.and_eq_true, decide_eq_true_eq, List.all_eq_true]
   exact ⟨⟨this.w1, this.w2⟩, fun v hv => this.c v hv⟩
 rw [chkR, if_neg (by rw [List.any_eq_true]; rintro ⟨x, hx, hh⟩; rw [h0 x hx] at hh; cases hh), if_neg (by rw [List.any_eq_true]; rintro ⟨x, hx, hh⟩; rw [h2 x hx] at hh; cases hh), if_pos hg]
theorem chk_two {g : Gau} {a b : Grd} {m : Nat} (h1 : 1 ≤ m) (h4 : m ≤ 4) (ha : Fine m a) (hb : Fine m b) (hg : gaugeR g = true) : chkR g [a, b] = 0 := by
 have := check_fine (g := g) (ls := [a]) (rs := [b]) h1 h4 (by simp) (by simp) (by simpa using ha) (by simpa using hb) hg
 rw [checkS, if_neg (by simp)] at this
 exact this
theorem alikeR_iff {g : Gau} {a b : Grd} {k : Int} : alikeR g a b k = true ↔ farR a.1 b.1 + k * g.sc ≤ g.we ∧ ∀ i, i < a.2.length → farR (a.2.getD i default) (b.2.getD i default) + k * g.ga ≤ g.cu := by
 simp only [alikeR, Bool.and_eq_true, Bool.not_eq_true', decide_eq_false_iff_not, List.all_eq_true, List.mem_range]
 constructor
 · rintro ⟨h1, h2⟩; exact ⟨by omega, fun i hi => by have := h2 i hi; omega⟩
 · rintro ⟨h1, h2⟩; exact ⟨by omega, fun i hi => by have := h2 i hi; omega⟩
def atR (by' : List Int) (i k : Nat) (off : Int) : Int := if by'.length = 0 then 0 else by'.getD ((3 * i + k) % by'.length) 0 % (2 * off + 1) - off
def trueG (g : Gau) (by' : List Int) (i : Nat) (x : Grd) : Grd := (x.1 + atR by' i 0 g.sc, (List.range x.2.length).map fun k => x.2.getD k default + atR by' i (1 + k) g.ga)
def grK (is : Nat → Nat → Bool) (L : List (Nat × Nat)) (i : Nat) : Nat → List (Nat × Nat)
 | 0 => L
 | k + 1 => if is i k && !((grK is L i k).any fun p => p.1 == i) && !((grK is L i k).any fun p => p.2 == k) then grK is L i k ++ [(i, k)] else grK is L i k
def grT (is : Nat → Nat → Bool) (nr : Nat) : Nat → List (Nat × Nat)
 | 0 => []
 | i + 1 => grK is (grT is nr i) i nr
structure GrOk (is : Nat → Nat → Bool) (nl nr : Nat) (l : List (Nat × Nat)) : Prop where
 e : ∀ p ∈ l, p.1 < nl ∧ p.2 < nr ∧ is p.1 p.2 = true
 a : (l.map (·.1)).Nodup
 b : (l.map (·.2)).Nodup
theorem pairs_bnd {g : Gau} {ls rs : List Grd} {k : Int} (hr : rs.length ≤ 16) : (∀ p ∈ pairsR (tableR g ls rs k), p.1 < ls.length ∧ p.2 < rs.length ∧ alikeR g (ls.getD p.1 default) (rs.getD p.2 default) k = true) ∧
   ((pairsR (tableR g ls rs k)).map (·.1)).Pairwise (· < ·) ∧ ((pairsR (tableR g ls rs k)).map (·.2)).Nodup ∧ (pairsR (tableR g ls rs k)).length = mostR (tableR g ls rs k) := by
 obtain ⟨h1, h2, h3, h4⟩ := pairsR_ok (tableR_few (g := g) (ls := ls) (k := k) hr)
 refine ⟨fun p hp => ?_, h3, h4, h1⟩
 obtain ⟨q1, q2, q3⟩ := h2 p hp
 rw [tableR_len] at q1
 rw [tableR_get q1, rowR_bit, Bool.and_eq_true, decide_eq_true_eq] at q2
 exact ⟨q1, q2.1, q2.2⟩
theorem most_left_le {g : Gau} {ls rs : List Grd} {k : Int} (hr : rs.length ≤ 16) : mostR (tableR g ls rs k) ≤ ls.length := by
 rw [mostR_eq (tableR_few hr)]
 have := maxM_len (tableR g ls rs k) 0
 rwa [tableR_len] at this
end Go.Aw
end
section
set_option maxRecDepth 20000
set_option maxHeartbeats 4000000
namespace Go.Aw
open Go.RowKit Go.Proofs
theorem gIn_spec (n l m : Int) : Ct Tryd.prog 62 [int n, int l, int m] (.lit (.bool (inR' l m n))) := by
 refine fn_enter Tryd.func62 rfl (by decide) Tryd.results62 Tryd.ntmps62 ?_ rfl (by simp (maxSteps := 1000000) -implicitDefEqProofs (disch := omega) only [go_sem]; rfl) fun base => ?_
 · simp
 repeat' (first
   | (with_reducible apply Req_intro); focus (first | omega | assumption | (simp; done))
   | with_reducible (first | apply Req_intro | refine nilT ?_ fun hn => ?_ | apply wk_draw Tryd_mixed | refine drawEnd (by kernel_rfl) ?_)
   | (with_reducible (first | apply condA_if | apply stepDG_ifN | apply stepDG_if | apply stepG_ifN | apply stepG_if)) <;> intro hb <;> (have hif := hb) <;> (try simp only [bo] at hif) <;> (try simp -implicitDefEqProofs (disch := omega) only [go_sem, hb]) <;> clear hb
   | simp (maxSteps := 1000000) -implicitDefEqProofs (disch := omega) only [go_sem])
 · refine ret_do ?_
   simp [inR', hif, retV]
 · refine ret_do ?_
   have : inR' l m n = false := by simp [inR']; omega
   rw [this]; rfl
def alTo (g : Gau) (a b : Grd) (k : Int) (i : Nat) : Bool := decide (farR a.1 b.1 + k * g.sc ≤ g.we) && (List.range i).all fun j => decide (farR (a.2.getD j default) (b.2.getD j default) + k * g.ga ≤ g.cu)
theorem rGauge_spec (g : Gau) : Ct Tryd.prog 20 [encGa g] (.lit (.bool (gaugeR g))) := by
 refine fn_enter Tryd.func20 rfl (by decide) Tryd.results20 Tryd.ntmps20 ?_ rfl (by simp (maxSteps := 1000000) -implicitDefEqProofs (disch := omega) only [go_sem]; rfl) fun base => ?_
 · first | assumption | (simp only [go_sem] <;> assumption) | (simp only [go_sem, *]; done) | (simp [go_sem]; done)
 repeat' (first
   | (with_reducible apply Req_intro); focus (first | omega | assumption | (simp; done))
   | with_reducible (first | apply Req_intro | refine nilT ?_ fun hn => ?_ | apply wk_draw Tryd_mixed | refine drawEnd (by kernel_rfl) ?_)
   | (with_reducible (first | apply condA_if | apply stepDG_ifN | apply stepDG_if | apply stepG_ifN | apply stepG_if)) <;> intro hb <;> (have hif := hb) <;> (try simp only [bo] at hif) <;> (try simp -implicitDefEqProofs (disch := omega) only [go_sem, hb]) <;> clear hb
   | simp (maxSteps := 1000000) -implicitDefEqProofs (disch := omega) only [go_sem])
 all_goals first | exact absurd trivial ‹¬True› | exact absurd ‹false = true› (by decide) | exact absurd ‹true = false› (by decide) | (exfalso; omega) | omega | skip
 refine callp (gIn_spec g.sc 0 100) ?_
 try simp (maxSteps := 1000000) -implicitDefEqProofs (disch := omega) only [go_sem]
 unfold gaugeR
 cases h1 : inR' 0 100 g.sc with
 | false =>
   repeat' (first
     | (with_reducible apply Req_intro); focus (first | omega | assumption | (simp; done))
     | with_reducible (first | apply Req_intro | refine nilT ?_ fun hn => ?_ | apply wk_draw Tryd_mixed | refine drawEnd (by kernel_rfl) ?_)
     | (with_reducible (first | apply condA_if | apply stepDG_ifN | apply stepDG_if | apply stepG_ifN | apply stepG_if)) <;> intro hb <;> (have hif := hb) <;> (try simp only [bo] at hif) <;> (try simp -implicitDefEqProofs (disch := omega) only [go_sem, hb]) <;> clear hb
     | simp (maxSteps := 1000000) -implicitDefEqProofs (disch := omega) only [go_sem])
   all_goals first | exact absurd trivial ‹¬True› | exact absurd ‹false = true› (by decide) | exact absurd ‹true = false› (by decide) | (exfalso; omega) | omega | skip
   refine ret_do ?_
   rfl
 | true =>
   repeat' (first
     | (with_reducible apply Req_intro); focus (first | omega | assumption | (simp; done))
     | with_reducible (first | apply Req_intro | refine nilT ?_ fun hn => ?_ | apply wk_draw Tryd_mixed | refine drawEnd (by kernel_rfl) ?_)
     | (with_reducible (first | apply condA_if | apply stepDG_ifN | apply stepDG_if | apply stepG_ifN | apply stepG_if)) <;> intro hb <;> (have hif := hb) <;> (try simp only [bo] at hif) <;> (try simp -implicitDefEqProofs (disch := omega) only [go_sem, hb]) <;> clear hb
     | simp (maxSteps := 1000000) -implicitDefEqProofs (disch := omega) only [go_sem])
   all_goals first | exact absurd trivial ‹¬True› | exact absurd ‹false = true› (by decide) | exact absurd ‹true = false› (by decide) | (exfalso; omega) | omega | skip
   refine callp (gIn_spec g.ga 0 100) ?_
   try simp (maxSteps := 1000000) -implicitDefEqProofs (disch := omega) only [go_sem]
   cases h2 : inR' 0 100 g.ga with
   | false =>
     repeat' (first
       | (with_reducible apply Req_intro); focus (first | omega | assumption | (simp; done))
       | with_reducible (first | apply Req_intro | refine nilT ?_ fun hn => ?_ | apply wk_draw Tryd_mixed | refine drawEnd (by kernel_rfl) ?_)
       | (with_reducible (first | apply condA_if | apply stepDG_ifN | apply stepDG_if | apply stepG_ifN | apply stepG_if)) <;> intro hb <;> (have hif := hb) <;> (try simp only [bo] at hif) <;> (try simp -implicitDefEqProofs (disch := omega) only [go_sem, hb]) <;> clear hb
       | simp (maxSteps := 1000000) -implicitDefEqProofs (disch := omega) only [go_sem])
     all_goals first | exact absurd trivial ‹¬True› | exact absurd ‹false = true› (by decide) | exact absurd ‹true = false› (by decide) | (exfalso; omega) | omega | skip
     refine ret_do ?_
     rfl
   | true =>
     repeat' (first
       | (with_reducible apply Req_intro); focus (first | omega | assumption | (simp; done))
       | with_reducible (first | apply Req_intro | refine nilT ?_ fun hn => ?_ | apply wk_draw Tryd_mixed | refine drawEnd (by kernel_rfl) ?_)
       | (with_reducible (first | apply condA_if | apply stepDG_ifN | apply stepDG_if | apply stepG_ifN | apply stepG_if)) <;> intro hb <;> (have hif := hb) <;> (try simp only [bo] at hif) <;> (try simp -implicitDefEqProofs (disch := omega) only [go_sem, hb]) <;> clear hb
       | simp (maxSteps := 1000000) -implicitDefEqProofs (disch := omega) only [go_sem])
     all_goals first | exact absurd trivial ‹¬True› | exact absurd ‹false = true› (by decide) | exact absurd ‹true = false› (by decide) | (exfalso; omega) | omega | skip
     refine callp (gIn_spec g.we 0 10000) ?_
     try simp (maxSteps := 1000000) -implicitDefEqProofs (disch := omega) only [go_sem]
     cases h3 : inR' 0 10000 g.we with
     | false =>
       repeat' (first
         | (with_reducible apply Req_intro); focus (first | omega | assumption | (simp; done))
         | with_reducible (first | apply Req_intro | refine nilT ?_ fun hn => ?_ | apply wk_draw Tryd_mixed | refine drawEnd (by kernel_rfl) ?_)
         | (with_reducible (first | apply condA_if | apply stepDG_ifN | apply stepDG_if | apply stepG_ifN | apply stepG_if)) <;> intro hb <;> (have hif := hb) <;> (try simp only [bo] at hif) <;> (try simp -implicitDefEqProofs (disch := omega) only [go_sem, hb]) <;> clear hb
         | simp (maxSteps := 1000000) -implicitDefEqProofs (disch := omega) only [go_sem])
       all_goals first | exact absurd trivial ‹¬True› | exact absurd ‹false = true› (by decide) | exact absurd ‹true = false› (by decide) | (exfalso; omega) | omega | skip
       refine ret_do ?_
       rfl
     | true =>
       repeat' (first
         | (with_reducible apply Req_intro); focus (first | omega | assumption | (simp; done))
         | with_reducible (first | apply Req_intro | refine nilT ?_ fun hn => ?_ | apply wk_draw Tryd_mixed | refine drawEnd (by kernel_rfl) ?_)
         | (with_reducible (first | apply condA_if | apply stepDG_ifN | apply stepDG_if | apply stepG_ifN | apply stepG_if)) <;> intro hb <;> (have hif := hb) <;> (try simp only [bo] at hif) <;> (try simp -implicitDefEqProofs (disch := omega) only [go_sem, hb]) <;> clear hb
         | simp (maxSteps := 1000000) -implicitDefEqProofs (disch := omega) only [go_sem])
       all_goals first | exact absurd trivial ‹¬True› | exact absurd ‹false = true› (by decide) | exact absurd ‹true = false› (by decide) | (exfalso; omega) | omega | skip
       refine callp (gIn_spec g.cu 0 500) ?_
       try simp (maxSteps := 1000000) -implicitDefEqProofs (disch := omega) only [go_sem]
       repeat' (first
         | (with_reducible apply Req_intro); focus (first | omega | assumption | (simp; done))
         | with_reducible (first | apply Req_intro | refine nilT ?_ fun hn => ?_ | apply wk_draw Tryd_mixed | refine drawEnd (by kernel_rfl) ?_)
         | (with_reducible (first | apply condA_if | apply stepDG_ifN | apply stepDG_if | apply stepG_ifN | apply stepG_if)) <;> intro hb <;> (have hif := hb) <;> (try simp only [bo] at hif) <;> (try simp -implicitDefEqProofs (disch := omega) only [go_sem, hb]) <;> clear hb
         | simp (maxSteps := 1000000) -implicitDefEqProofs (disch := omega) only [go_sem])
       all_goals first | exact absurd trivial ‹¬True› | exact absurd ‹false = true› (by decide) | exact absurd ‹true = false› (by decide) | (exfalso; omega) | omega | skip
       refine ret_do ?_
       rfl
def formR (l : List Grd) : Int := if l.any (otherR l) then 4 else if l.any noneR then 2 else 0
theorem form_chk (g : Gau) (l : List Grd) : chkR g l = if formR l = 0 then (if gaugeR g then 0 else 3) else formR l := by
 unfold chkR formR
 split
 · rfl
 · split
   · rfl
   · rfl
theorem rForm_spec (l : List Grd) (e : Bool) (hl : l.length ≤ 4611686018427387904) (hlc : ∀ x ∈ l, x.2.length ≤ 4611686018427387904) : Ct Tryd.prog 19 [.sl 2 (l.map encGd) e] (int (formR l)) := by
 refine fn_enter Tryd.func19 rfl (by decide) Tryd.results19 Tryd.ntmps19 ?_ rfl (by simp (maxSteps := 1000000) -implicitDefEqProofs (disch := omega) only [go_sem]; rfl) fun base => ?_
 · first | assumption | (simp only [go_sem] <;> assumption) | (simp only [go_sem, *]; done) | (simp [go_sem]; done)
 repeat' (first
   | (with_reducible apply Req_intro); focus (first | omega | assumption | (simp; done))
   | with_reducible (first | apply Req_intro | refine nilT ?_ fun hn => ?_ | apply wk_draw Tryd_mixed | refine drawEnd (by kernel_rfl) ?_)
   | (with_reducible (first | apply condA_if | apply stepDG_ifN | apply stepDG_if | apply stepG_ifN | apply stepG_if)) <;> intro hb <;> (have hif := hb) <;> (try simp only [bo] at hif) <;> (try simp -implicitDefEqProofs (disch := omega) only [go_sem, hb]) <;> clear hb
   | simp (maxSteps := 1000000) -implicitDefEqProofs (disch := omega) only [go_sem])
 refine loop_at (α := Nat) [2, 3, 6, 7, 8, 9, 10, 11, 12, 13, 14, 15, 16, 17, 18, 19, 20, 21, 22, 23, 24, 25, 26, 27, 28, 29, 30, 31, 32, 33] (fun i => [(3, .lit (.int .i64 i))]) (fun i => i ≤ l.length ∧ ∀ j, j < i → otherR l (l.getD j default) = false) (fun i => l.length - i) 0 (fun x => by simp (maxSteps := 1000000) -implicitDefEqProofs (disch := omega) only [go_sem]; rfl) ?_ ?_ fun x hx => ?_
 · exact weak_do []
 · exact ⟨Nat.zero_le _, fun j hj => absurd hj (Nat.not_lt_zero _)⟩
 obtain ⟨hi, hp⟩ := hx
 by_cases hlt : x < l.length
 · have hcl := hlc _ (getD_mem hlt)
   have hc0 := hlc _ (getD_mem (show 0 < l.length by omega))
   have hbad : otherR l (l.getD x default) = true → formR l = 4 := fun h => by
     rw [formR, if_pos (List.any_eq_true.2 ⟨_, getD_mem hlt, h⟩)]
   have hot : otherR l (l.getD x default) = (!inR' 1 4 (l.getD x default).2.length || (((l.getD x default).2.length : Int) != ((l.getD 0 default).2.length : Int))) := rfl
   rw [hot] at hbad
   repeat' (first
     | (with_reducible apply Req_intro); focus (first | omega | assumption | (simp; done))
     | with_reducible (first | apply Req_intro | refine nilT ?_ fun hn => ?_ | apply wk_draw Tryd_mixed | refine drawEnd (by kernel_rfl) ?_)
     | (with_reducible (first | apply condA_if | apply stepDG_ifN | apply stepDG_if | apply stepG_ifN | apply stepG_if)) <;> intro hb <;> (have hif := hb) <;> (try simp only [bo] at hif) <;> (try simp -implicitDefEqProofs (disch := omega) only [go_sem, hb]) <;> clear hb
     | simp (maxSteps := 1000000) -implicitDefEqProofs (disch := omega) only [go_sem])
   all_goals first | exact absurd trivial ‹¬True› | exact absurd ‹false = true› (by decide) | exact absurd ‹true = false› (by decide) | (exfalso; omega) | omega | skip
   refine calld (gIn_spec _ 1 4) ?_
   try simp (maxSteps := 1000000) -implicitDefEqProofs (disch := omega) only [go_sem]
   cases h1 : inR' 1 4 ((l.getD x default).2.length : Int) with
   | false =>
     repeat' (first
       | (with_reducible apply Req_intro); focus (first | omega | assumption | (simp; done))
       | with_reducible (first | apply Req_intro | refine nilT ?_ fun hn => ?_ | apply wk_draw Tryd_mixed | refine drawEnd (by kernel_rfl) ?_)
       | (with_reducible (first | apply condA_if | apply stepDG_ifN | apply stepDG_if | apply stepG_ifN | apply stepG_if)) <;> intro hb <;> (have hif := hb) <;> (try simp only [bo] at hif) <;> (try simp -implicitDefEqProofs (disch := omega) only [go_sem, hb]) <;> clear hb
       | simp (maxSteps := 1000000) -implicitDefEqProofs (disch := omega) only [go_sem])
     all_goals first | exact absurd trivial ‹¬True› | exact absurd ‹false = true› (by decide) | exact absurd ‹true = false› (by decide) | (exfalso; omega) | omega | skip
     refine ret_do ?_
     rw [hbad (by rw [h1]; rfl)]; rfl
   | true =>
     repeat' (first
       | (with_reducible apply Req_intro); focus (first | omega | assumption | (simp; done))
       | with_reducible (first | apply Req_intro | refine nilT ?_ fun hn => ?_ | apply wk_draw Tryd_mixed | refine drawEnd (by kernel_rfl) ?_)
       | (with_reducible (first | apply condA_if | apply stepDG_ifN | apply stepDG_if | apply stepG_ifN | apply stepG_if)) <;> intro hb <;> (have hif := hb) <;> (try simp only [bo] at hif) <;> (try simp -implicitDefEqProofs (disch := omega) only [go_sem, hb]) <;> clear hb
       | simp (maxSteps := 1000000) -implicitDefEqProofs (disch := omega) only [go_sem])
     all_goals first | exact absurd trivial ‹¬True› | exact absurd ‹false = true› (by decide) | exact absurd ‹true = false› (by decide) | (exfalso; omega) | omega | skip
     · refine ret_do ?_
       rw [hbad (by rw [h1, bne_iff_ne.2 (by omega)]; rfl)]; rfl
     · refine nxt_w (x + 1) (weak_do []) ?_
       try dsimp only
       refine ⟨by omega, fun j hj => ?_⟩
       rcases Nat.lt_succ_iff_lt_or_eq.1 hj with h | rfl
       · exact hp j h
       · rw [hot, h1, Bool.not_true, Bool.false_or, bne_eq_false_iff_eq]; omega
 · obtain rfl : x = l.length := by omega
   clear hlt
   have hno : ¬ l.any (otherR l) = true := by
     rw [List.any_eq_true]
     rintro ⟨y, hy, hh⟩
     obtain ⟨j, hj, rfl⟩ := List.getElem_of_mem hy
     have := hp j hj
     rw [getD_default hj] at this
     rw [this] at hh; cases hh
   clear hp
   have hf : formR l = if l.any noneR then 2 else 0 := by rw [formR, if_neg hno]
   repeat' (first
     | (with_reducible apply Req_intro); focus (first | omega | assumption | (simp; done))
     | with_reducible (first | apply Req_intro | refine nilT ?_ fun hn => ?_ | apply wk_draw Tryd_mixed | refine drawEnd (by kernel_rfl) ?_)
     | (with_reducible (first | apply condA_if | apply stepDG_ifN | apply stepDG_if | apply stepG_ifN | apply stepG_if)) <;> intro hb <;> (have hif := hb) <;> (try simp only [bo] at hif) <;> (try simp -implicitDefEqProofs (disch := omega) only [go_sem, hb]) <;> clear hb
     | simp (maxSteps := 1000000) -implicitDefEqProofs (disch := omega) only [go_sem])
   all_goals first | exact absurd trivial ‹¬True› | exact absurd ‹false = true› (by decide) | exact absurd ‹true = false› (by decide) | (exfalso; omega) | omega | skip
   refine loop_at (α := Nat) [2, 4, 5, 34, 35, 36, 37, 38, 39, 40, 41, 42, 43, 44, 45, 46, 47, 48, 49, 50, 51, 52, 53, 54, 55, 56, 57, 58, 59, 60, 61, 62, 63, 64, 65, 66] (fun i => [(4, .lit (.int .i64 i))]) (fun i => i ≤ l.length ∧ ∀ j, j < i → noneR (l.getD j default) = false) (fun i => l.length - i) 0 (fun x => by simp (maxSteps := 1000000) -implicitDefEqProofs (disch := omega) only [go_sem]; rfl) ?_ ?_ fun x hx => ?_
   · exact weak_do []
   · exact ⟨Nat.zero_le _, fun j hj => absurd hj (Nat.not_lt_zero _)⟩
   obtain ⟨hi, hp⟩ := hx
   rename Nat => ox
   by_cases hlt : ox < l.length
   · have hcl := hlc _ (getD_mem hlt)
     have hbad : noneR (l.getD ox default) = true → formR l = 2 := fun h => by
       rw [hf, if_pos (List.any_eq_true.2 ⟨_, getD_mem hlt, h⟩)]
     have hnn : noneR (l.getD ox default) = (!inR' 1 10000 (l.getD ox default).1 || !(l.getD ox default).2.all (inR' 0 500)) := rfl
     rw [hnn] at hbad
     repeat' (first
       | (with_reducible apply Req_intro); focus (first | omega | assumption | (simp; done))
       | with_reducible (first | apply Req_intro | refine nilT ?_ fun hn => ?_ | apply wk_draw Tryd_mixed | refine drawEnd (by kernel_rfl) ?_)
       | (with_reducible (first | apply condA_if | apply stepDG_ifN | apply stepDG_if | apply stepG_ifN | apply stepG_if)) <;> intro hb <;> (have hif := hb) <;> (try simp only [bo] at hif) <;> (try simp -implicitDefEqProofs (disch := omega) only [go_sem, hb]) <;> clear hb
       | simp (maxSteps := 1000000) -implicitDefEqProofs (disch := omega) only [go_sem])
     all_goals first | exact absurd trivial ‹¬True› | exact absurd ‹false = true› (by decide) | exact absurd ‹true = false› (by decide) | (exfalso; omega) | omega | skip
     refine callp (gIn_spec _ 1 10000) ?_
     try simp (maxSteps := 1000000) -implicitDefEqProofs (disch := omega) only [go_sem]
     cases h1 : inR' 1 10000 (l.getD ox default).1 with
     | false =>
       repeat' (first
         | (with_reducible apply Req_intro); focus (first | omega | assumption | (simp; done))
         | with_reducible (first | apply Req_intro | refine nilT ?_ fun hn => ?_ | apply wk_draw Tryd_mixed | refine drawEnd (by kernel_rfl) ?_)
         | (with_reducible (first | apply condA_if | apply stepDG_ifN | apply stepDG_if | apply stepG_ifN | apply stepG_if)) <;> intro hb <;> (have hif := hb) <;> (try simp only [bo] at hif) <;> (try simp -implicitDefEqProofs (disch := omega) only [go_sem, hb]) <;> clear hb
         | simp (maxSteps := 1000000) -implicitDefEqProofs (disch := omega) only [go_sem])
       all_goals first | exact absurd trivial ‹¬True› | exact absurd ‹false = true› (by decide) | exact absurd ‹true = false› (by decide) | (exfalso; omega) | omega | skip
       refine ret_do ?_
       rw [hbad (by rw [h1]; rfl)]; rfl
     | true =>
       repeat' (first
         | (with_reducible apply Req_intro); focus (first | omega | assumption | (simp; done))
         | with_reducible (first | apply Req_intro | refine nilT ?_ fun hn => ?_ | apply wk_draw Tryd_mixed | refine drawEnd (by kernel_rfl) ?_)
         | (with_reducible (first | apply condA_if | apply stepDG_ifN | apply stepDG_if | apply stepG_ifN | apply stepG_if)) <;> intro hb <;> (have hif := hb) <;> (try simp only [bo] at hif) <;> (try simp -implicitDefEqProofs (disch := omega) only [go_sem, hb]) <;> clear hb
         | simp (maxSteps := 1000000) -implicitDefEqProofs (disch := omega) only [go_sem])
       all_goals first | exact absurd trivial ‹¬True› | exact absurd ‹false = true› (by decide) | exact absurd ‹true = false› (by decide) | (exfalso; omega) | omega | skip
       refine loop_at (α := Nat) [2, 5, 47, 48, 49, 50, 51, 52, 53, 54, 55, 56, 57, 58, 59, 60, 61, 62, 63, 64, 65, 66] (fun i => [(5, .lit (.int .i64 i))]) (fun i => i ≤ (l.getD ox default).2.length ∧ ∀ j, j < i → inR' 0 500 ((l.getD ox default).2.getD j default) = true) (fun i => (l.getD ox default).2.length - i) 0 (fun x => by simp (maxSteps := 1000000) -implicitDefEqProofs (disch := omega) only [go_sem]; rfl) ?_ ?_ fun x hx => ?_
       · exact weak_do []
       · exact ⟨Nat.zero_le _, fun j hj => absurd hj (Nat.not_lt_zero _)⟩
       obtain ⟨hi2, hp2⟩ := hx
       by_cases hlt2 : x < (l.getD ox default).2.length
       · repeat' (first
           | (with_reducible apply Req_intro); focus (first | omega | assumption | (simp; done))
           | with_reducible (first | apply Req_intro | refine nilT ?_ fun hn => ?_ | apply wk_draw Tryd_mixed | refine drawEnd (by kernel_rfl) ?_)
           | (with_reducible (first | apply condA_if | apply stepDG_ifN | apply stepDG_if | apply stepG_ifN | apply stepG_if)) <;> intro hb <;> (have hif := hb) <;> (try simp only [bo] at hif) <;> (try simp -implicitDefEqProofs (disch := omega) only [go_sem, hb]) <;> clear hb
           | simp (maxSteps := 1000000) -implicitDefEqProofs (disch := omega) only [go_sem])
         all_goals first | exact absurd trivial ‹¬True› | exact absurd ‹false = true› (by decide) | exact absurd ‹true = false› (by decide) | (exfalso; omega) | omega | skip
         refine callp (gIn_spec _ 0 500) ?_
         try simp (maxSteps := 1000000) -implicitDefEqProofs (disch := omega) only [go_sem]
         cases h2 : inR' 0 500 ((l.getD ox default).2.getD x default) with
         | false =>
           repeat' (first
             | (with_reducible apply Req_intro); focus (first | omega | assumption | (simp; done))
             | with_reducible (first | apply Req_intro | refine nilT ?_ fun hn => ?_ | apply wk_draw Tryd_mixed | refine drawEnd (by kernel_rfl) ?_)
             | (with_reducible (first | apply condA_if | apply stepDG_ifN | apply stepDG_if | apply stepG_ifN | apply stepG_if)) <;> intro hb <;> (have hif := hb) <;> (try simp only [bo] at hif) <;> (try simp -implicitDefEqProofs (disch := omega) only [go_sem, hb]) <;> clear hb
             | simp (maxSteps := 1000000) -implicitDefEqProofs (disch := omega) only [go_sem])
           all_goals first | exact absurd trivial ‹¬True› | exact absurd ‹false = true› (by decide) | exact absurd ‹true = false› (by decide) | (exfalso; omega) | omega | skip
           refine ret_do ?_
           rw [hbad (by
             rw [h1, Bool.not_true, Bool.false_or, Bool.not_eq_true', List.all_eq_false]
             exact ⟨_, getD_mem hlt2, by rw [h2]; decide⟩)]; rfl
         | true =>
           repeat' (first
             | (with_reducible apply Req_intro); focus (first | omega | assumption | (simp; done))
             | with_reducible (first | apply Req_intro | refine nilT ?_ fun hn => ?_ | apply wk_draw Tryd_mixed | refine drawEnd (by kernel_rfl) ?_)
             | (with_reducible (first | apply condA_if | apply stepDG_ifN | apply stepDG_if | apply stepG_ifN | apply stepG_if)) <;> intro hb <;> (have hif := hb) <;> (try simp only [bo] at hif) <;> (try simp -implicitDefEqProofs (disch := omega) only [go_sem, hb]) <;> clear hb
             | simp (maxSteps := 1000000) -implicitDefEqProofs (disch := omega) only [go_sem])
           all_goals first | exact absurd trivial ‹¬True› | exact absurd ‹false = true› (by decide) | exact absurd ‹true = false› (by decide) | (exfalso; omega) | omega | skip
           refine nxt_w (x + 1) (weak_do []) ?_
           try dsimp only
           refine ⟨by omega, fun j hj => ?_⟩
           rcases Nat.lt_succ_iff_lt_or_eq.1 hj with h | rfl
           · exact hp2 j h
           · exact h2
       · repeat' (first
           | (with_reducible apply Req_intro); focus (first | omega | assumption | (simp; done))
           | with_reducible (first | apply Req_intro | refine nilT ?_ fun hn => ?_ | apply wk_draw Tryd_mixed | refine drawEnd (by kernel_rfl) ?_)
           | (with_reducible (first | apply condA_if | apply stepDG_ifN | apply stepDG_if | apply stepG_ifN | apply stepG_if)) <;> intro hb <;> (have hif := hb) <;> (try simp only [bo] at hif) <;> (try simp -implicitDefEqProofs (disch := omega) only [go_sem, hb]) <;> clear hb
           | simp (maxSteps := 1000000) -implicitDefEqProofs (disch := omega) only [go_sem])
         all_goals first | exact absurd trivial ‹¬True› | exact absurd ‹false = true› (by decide) | exact absurd ‹true = false› (by decide) | (exfalso; omega) | omega | skip
         refine nxt_w (ox + 1) (weak_do []) ?_
         try dsimp only
         refine ⟨by omega, fun j hj => ?_⟩
         rcases Nat.lt_succ_iff_lt_or_eq.1 hj with h | rfl
         · exact hp j h
         · rw [hnn, h1, Bool.not_true, Bool.false_or, Bool.not_eq_false', List.all_eq_true]
           intro v hv
           obtain ⟨q, hq, rfl⟩ := List.getElem_of_mem hv
           have := hp2 q (by omega)
           rwa [getD_default hq] at this
   · obtain rfl : ox = l.length := by omega
     have hno2 : ¬ l.any noneR = true := by
       rw [List.any_eq_true]
       rintro ⟨y, hy, hh⟩
       obtain ⟨j, hj, rfl⟩ := List.getElem_of_mem hy
       have := hp j hj
       rw [getD_default hj] at this
       rw [this] at hh; cases hh
     repeat' (first
       | (with_reducible apply Req_intro); focus (first | omega | assumption | (simp; done))
       | with_reducible (first | apply Req_intro | refine nilT ?_ fun hn => ?_ | apply wk_draw Tryd_mixed | refine drawEnd (by kernel_rfl) ?_)
       | (with_reducible (first | apply condA_if | apply stepDG_ifN | apply stepDG_if | apply stepG_ifN | apply stepG_if)) <;> intro hb <;> (have hif := hb) <;> (try simp only [bo] at hif) <;> (try simp -implicitDefEqProofs (disch := omega) only [go_sem, hb]) <;> clear hb
       | simp (maxSteps := 1000000) -implicitDefEqProofs (disch := omega) only [go_sem])
     all_goals first | exact absurd trivial ‹¬True› | exact absurd ‹false = true› (by decide) | exact absurd ‹true = false› (by decide) | (exfalso; omega) | omega | skip
     refine ret_do ?_
     rw [hf, if_neg hno2]; rfl
end Go.Aw
end
section
set_option maxRecDepth 20000
set_option maxHeartbeats 4000000
namespace Go.Aw
open Go.RowKit Go.Proofs
@[go_sem] theorem take_cat_gd (ls rs : List Grd) (n : Nat) (h : ls.length + rs.length = n) : List.take n (ls.map encGd ++ rs.map encGd) = ls.map encGd ++ rs.map encGd := List.take_of_length_le (by simp; omega)
theorem rCheck_spec (g : Gau) (ls rs : List Grd) (e1 e2 : Bool) (hs : StOk ls rs) : Ct Tryd.prog 28 [encSt ls rs e1 e2, encGa g] (int (checkS g ls rs)) := by
 obtain ⟨h1, h2, h3, h4⟩ := hs
 have hf := rForm_spec (ls ++ rs) false (by rw [List.length_append]; omega) (fun x hx => by
   rcases List.mem_append.1 hx with h | h
   · have := h3 x h; omega
   · have := h4 x h; omega)
 have hch := form_chk g (ls ++ rs)
 have hck : checkS g ls rs = if 8 < ls.length ∨ 8 < rs.length then 5 else chkR g (ls ++ rs) := rfl
 rw [List.map_append] at hf
 generalize formR (ls ++ rs) = fm at *
 refine fn_enter Tryd.func28 rfl (by decide) Tryd.results28 Tryd.ntmps28 ?_ rfl (by simp (maxSteps := 1000000) -implicitDefEqProofs (disch := omega) only [go_sem]; rfl) fun base => ?_
 · first | assumption | (simp only [go_sem] <;> assumption) | (simp only [go_sem, *]; done) | (simp [go_sem]; done)
 repeat' (first
   | (with_reducible apply Req_intro); focus (first | omega | assumption | (simp; done))
   | with_reducible (first | apply Req_intro | refine nilT ?_ fun hn => ?_ | apply wk_draw Tryd_mixed | refine drawEnd (by kernel_rfl) ?_)
   | (with_reducible (first | apply condA_if | apply stepDG_ifN | apply stepDG_if | apply stepG_ifN | apply stepG_if)) <;> intro hb <;> (have hif := hb) <;> (try simp only [bo] at hif) <;> (try simp -implicitDefEqProofs (disch := omega) only [go_sem, hb]) <;> clear hb
   | simp (maxSteps := 1000000) -implicitDefEqProofs (disch := omega) only [go_sem])
 · refine ret_do ?_
   rw [hck, if_pos (by omega)]; rfl
 · refine ret_do ?_
   rw [hck, if_pos (by omega)]; rfl
 rw [if_neg (by omega)] at hck
 refine calldf 1216 hf ?_
 try simp (maxSteps := 1000000) -implicitDefEqProofs (disch := omega) only [go_sem]
 repeat' (first
   | (with_reducible apply Req_intro); focus (first | omega | assumption | (simp; done))
   | with_reducible (first | apply Req_intro | refine nilT ?_ fun hn => ?_ | apply wk_draw Tryd_mixed | refine drawEnd (by kernel_rfl) ?_)
   | (with_reducible (first | apply condA_if | apply stepDG_ifN | apply stepDG_if | apply stepG_ifN | apply stepG_if)) <;> intro hb <;> (have hif := hb) <;> (try simp only [bo] at hif) <;> (try simp -implicitDefEqProofs (disch := omega) only [go_sem, hb]) <;> clear hb
   | simp (maxSteps := 1000000) -implicitDefEqProofs (disch := omega) only [go_sem])
 · refine ret_do ?_
   rw [hck, hch, if_neg hif]; rfl
 rw [hch, if_pos hif] at hck
 refine callp (rGauge_spec g) ?_
 try simp (maxSteps := 1000000) -implicitDefEqProofs (disch := omega) only [go_sem]
 repeat' (first
   | (with_reducible apply Req_intro); focus (first | omega | assumption | (simp; done))
   | with_reducible (first | apply Req_intro | refine nilT ?_ fun hn => ?_ | apply wk_draw Tryd_mixed | refine drawEnd (by kernel_rfl) ?_)
   | (with_reducible (first | apply condA_if | apply stepDG_ifN | apply stepDG_if | apply stepG_ifN | apply stepG_if)) <;> intro hb <;> (have hif := hb) <;> (try simp only [bo] at hif) <;> (try simp -implicitDefEqProofs (disch := omega) only [go_sem, hb]) <;> clear hb
   | simp (maxSteps := 1000000) -implicitDefEqProofs (disch := omega) only [go_sem])
 all_goals first | exact absurd trivial ‹¬True› | exact absurd ‹false = true› (by decide) | exact absurd ‹true = false› (by decide) | (exfalso; omega) | omega | skip
 · refine ret_do ?_
   rw [hck, hif]; rfl
 · refine ret_do ?_
   rw [hck, hif]; rfl
theorem rCopy_spec (l : List Grd) (e : Bool) (hl : l.length ≤ 1000) (hlc : ∀ x ∈ l, x.2.length ≤ 1000) : Ct Tryd.prog 16 [.sl 2 (l.map encGd) e] (.sl 2 (l.map encGd) false) := by
 refine fn_enter Tryd.func16 rfl (by decide) Tryd.results16 Tryd.ntmps16 ?_ rfl (by simp (maxSteps := 1000000) -implicitDefEqProofs (disch := omega) only [go_sem]; rfl) fun base => ?_
 · first | assumption | (simp only [go_sem] <;> assumption) | (simp only [go_sem, *]; done) | (simp [go_sem]; done)
 repeat' (first
   | (with_reducible apply Req_intro); focus (first | omega | assumption | (simp; done))
   | with_reducible (first | apply Req_intro | refine nilT ?_ fun hn => ?_ | apply wk_draw Tryd_mixed | refine drawEnd (by kernel_rfl) ?_)
   | (with_reducible (first | apply condA_if | apply stepDG_ifN | apply stepDG_if | apply stepG_ifN | apply stepG_if)) <;> intro hb <;> (have hif := hb) <;> (try simp only [bo] at hif) <;> (try simp -implicitDefEqProofs (disch := omega) only [go_sem, hb]) <;> clear hb
   | simp (maxSteps := 1000000) -implicitDefEqProofs (disch := omega) only [go_sem])
 refine loop_rows (α := Nat) [3, 4, 6, 7, 8, 9, 10, 11, 12, 13, 14, 15, 16, 17, 18, 19, 20, 21, 22, 23, 24, 25, 26, 27] (fun i => [(4, .lit (.int .i64 i)), (3, .os 65 2 i false), (5, .undef)]) (fun i => [(65, some ⟨2, (l.take i).map encGd, 24, .wr⟩)]) (fun i => i ≤ l.length) (fun i => l.length - i) 0 (fun x => by simp (maxSteps := 1000000) -implicitDefEqProofs (disch := omega) only [go_sem]; rfl) ?_ ?_ fun x hx => ?_
 · simp only [List.take_zero, List.map_nil]
   exact weak_do3 [(65, 64)]
 · exact Nat.zero_le _
 have htl : (l.take x).length = x := by rw [List.length_take]; omega
 by_cases hlt : x < l.length
 · have hcl := hlc _ (getD_mem hlt)
   repeat' (first
     | (with_reducible apply Req_intro); focus (first | omega | assumption | (simp; done))
     | with_reducible (first | apply Req_intro | refine nilT ?_ fun hn => ?_ | apply wk_draw Tryd_mixed | refine drawEnd (by kernel_rfl) ?_)
     | (with_reducible (first | apply condA_if | apply stepDG_ifN | apply stepDG_if | apply stepG_ifN | apply stepG_if)) <;> intro hb <;> (have hif := hb) <;> (try simp only [bo] at hif) <;> (try simp -implicitDefEqProofs (disch := omega) only [go_sem, hb]) <;> clear hb
     | simp (maxSteps := 1000000) -implicitDefEqProofs (disch := omega) only [go_sem])
   all_goals first | exact absurd trivial ‹¬True› | exact absurd ‹false = true› (by decide) | exact absurd ‹true = false› (by decide) | (exfalso; omega) | omega | skip
   have ht := take_succ_getD hlt
   generalize l.getD x default = b at *
   refine nxt_snapRow [1280] 1472 (es' := (l.take x).map encGd ++ [encGd b]) (by first | (simp only [go_sem]; done) | (simp only [go_sem]; rfl)) (by rfl) ?_ (by first | assumption | (simp only [go_sem] <;> assumption) | (simp only [go_sem, *]; done) | (simp [go_sem]; done)) (by first | (simp only [go_sem]; done) | (simp only [go_sem]; rfl)) ?_
   · refine PurE.snocR (by first | assumption | (simp only [go_sem] <;> assumption) | (simp only [go_sem, *]; done) | (simp [go_sem]; done)) ?_
     rw [show encGd b = [.lit (.int .i64 b.1), .sl 1 (b.2.map encI) false] from rfl]
     (try simp (maxSteps := 1000000) -implicitDefEqProofs (disch := omega) only [go_sem])
     repeat' (first
       | with_reducible (first | exact PurI.nil | exact Pur.nilsl _ _ | exact PurE.nil)
       | (with_reducible (first | refine PurI.puL ?_ | refine PurE.puE ?_)) <;> (first | assumption | (simp only [go_sem] <;> assumption) | (simp only [go_sem, *]; done) | (simp [go_sem]; done))
       | with_reducible apply PurI.cons
       | (with_reducible refine Pur.pu _ ?_) <;> (first | assumption | (simp only [go_sem] <;> assumption) | (simp only [go_sem, *]; done) | (simp [go_sem]; done))
       | ((with_reducible apply Pur.refR) <;> (first | rfl | decide | (simp only [go_sem]; omega) | (simp only [go_sem]) | skip))
       | ((with_reducible apply Pur.osR) <;> (first | rfl | exact fun h => h | omega | (simp; omega) | (simp; done) | (simp only [go_sem]) | skip))
       | with_reducible (first | apply Pur.fnI | apply Pur.aggI | apply PurE.cons)
       | (with_reducible refine PurI.eqL ?_ ?_); (focus rfl); (focus (first | assumption | (simp only [go_sem] <;> assumption) | (simp only [go_sem, *]; done) | (simp [go_sem]; done)))
       | simp (maxSteps := 1000000) -implicitDefEqProofs (disch := omega) only [go_sem])
   with_reducible refine nxt_w (x + 1) ?_ ?_
   · (try dsimp only)
     rw [ht, List.map_append]
     exact weak_do3 [(65, 1472)]
   try dsimp only
   omega
 · obtain rfl : x = l.length := by omega
   rw [List.take_length]
   repeat' (first
     | (with_reducible apply Req_intro); focus (first | omega | assumption | (simp; done))
     | with_reducible (first | apply Req_intro | refine nilT ?_ fun hn => ?_ | apply wk_draw Tryd_mixed | refine drawEnd (by kernel_rfl) ?_)
     | (with_reducible (first | apply condA_if | apply stepDG_ifN | apply stepDG_if | apply stepG_ifN | apply stepG_if)) <;> intro hb <;> (have hif := hb) <;> (try simp only [bo] at hif) <;> (try simp -implicitDefEqProofs (disch := omega) only [go_sem, hb]) <;> clear hb
     | simp (maxSteps := 1000000) -implicitDefEqProofs (disch := omega) only [go_sem])
   all_goals first | exact absurd trivial ‹¬True› | exact absurd ‹false = true› (by decide) | exact absurd ‹true = false› (by decide) | (exfalso; omega) | omega | skip
   exact retf [65] [2] [.sl 2 (l.map encGd) false]
theorem own_spec (ls rs : List Grd) (e1 e2 : Bool) (hs : StOk ls rs) : Ct Tryd.prog 24 [encSt ls rs e1 e2] (encSt ls rs false false) := by
 refine ct_enterZ Tryd.func24 rfl (by decide) Tryd.results24 Tryd.ntmps24 ?_ rfl (by simp (maxSteps := 1000000) -implicitDefEqProofs (disch := omega) only [go_sem]; rfl) fun base => ?_
 · first | assumption | (simp only [go_sem] <;> assumption) | (simp only [go_sem, *]; done) | (simp [go_sem]; done)
 repeat' (first
   | (with_reducible apply Req_intro); focus (first | omega | assumption | (simp; done))
   | with_reducible (first | apply Req_intro | refine nilT ?_ fun hn => ?_ | apply wk_draw Tryd_mixed | refine drawEnd (by kernel_rfl) ?_)
   | (with_reducible (first | apply condA_if | apply stepDG_ifN | apply stepDG_if | apply stepG_ifN | apply stepG_if)) <;> intro hb <;> (have hif := hb) <;> (try simp only [bo] at hif) <;> (try simp -implicitDefEqProofs (disch := omega) only [go_sem, hb]) <;> clear hb
   | simp (maxSteps := 1000000) -implicitDefEqProofs (disch := omega) only [go_sem])
 refine calld (rCopy_spec ls e1 hs.l hs.lc) ?_
 try simp (maxSteps := 1000000) -implicitDefEqProofs (disch := omega) only [go_sem]
 repeat' (first
   | (with_reducible apply Req_intro); focus (first | omega | assumption | (simp; done))
   | with_reducible (first | apply Req_intro | refine nilT ?_ fun hn => ?_ | apply wk_draw Tryd_mixed | refine drawEnd (by kernel_rfl) ?_)
   | (with_reducible (first | apply condA_if | apply stepDG_ifN | apply stepDG_if | apply stepG_ifN | apply stepG_if)) <;> intro hb <;> (have hif := hb) <;> (try simp only [bo] at hif) <;> (try simp -implicitDefEqProofs (disch := omega) only [go_sem, hb]) <;> clear hb
   | simp (maxSteps := 1000000) -implicitDefEqProofs (disch := omega) only [go_sem])
 refine calld (rCopy_spec rs e2 hs.r hs.rc) ?_
 try simp (maxSteps := 1000000) -implicitDefEqProofs (disch := omega) only [go_sem]
 repeat' (first
   | (with_reducible apply Req_intro); focus (first | omega | assumption | (simp; done))
   | with_reducible (first | apply Req_intro | refine nilT ?_ fun hn => ?_ | apply wk_draw Tryd_mixed | refine drawEnd (by kernel_rfl) ?_)
   | (with_reducible (first | apply condA_if | apply stepDG_ifN | apply stepDG_if | apply stepG_ifN | apply stepG_if)) <;> intro hb <;> (have hif := hb) <;> (try simp only [bo] at hif) <;> (try simp -implicitDefEqProofs (disch := omega) only [go_sem, hb]) <;> clear hb
   | simp (maxSteps := 1000000) -implicitDefEqProofs (disch := omega) only [go_sem])
 exact retz []
def sideR (ls rs : List Grd) (k : Nat) : List Grd := if k = 0 then ls else rs
def bigGR (ls rs : List Grd) : Bool := decide (12 < ls.length) || decide (12 < rs.length) || (ls.any fun x => decide (8 < x.2.length)) || (rs.any fun x => decide (8 < x.2.length))
def largeG (g : Gau) (ls rs : List Grd) (most : Int) : Bool :=
 (List.range 2).any (fun k => ((sideR ls rs k).take 13).any (fun x => decide (8 < x.2.length)) || decide (12 < (sideR ls rs k).length)) || decide (most < max (ls.length : Int) rs.length) && (checkS g ls rs == 0)
end Go.Aw
end
section
set_option maxRecDepth 20000
set_option maxHeartbeats 4000000
namespace Go.Aw
open Go.RowKit Go.Proofs
@[go_sem ↓] theorem actBin_eqB (a b : Bool) : actBin Tryd.prog .eql 4 (.lit (.bool a)) (.lit (.bool b)) = some (.val (.lit (.bool (a == b)))) := by
 show (if litT Tryd.prog 4 (.bool a) then _ else none) = _
 rw [show litT Tryd.prog 4 (.bool a) = true by kernel_rfl]
 rfl
@[go_sem ↓] theorem actBin_neB (a b : Bool) : actBin Tryd.prog .neq 4 (.lit (.bool a)) (.lit (.bool b)) = some (.val (.lit (.bool (a != b)))) := by
 show (if litT Tryd.prog 4 (.bool a) then _ else none) = _
 rw [show litT Tryd.prog 4 (.bool a) = true by kernel_rfl]
 rfl
@[go_sem] theorem eqB_ff : (false == false) = true := rfl
@[go_sem] theorem eqB_tt : (true == true) = true := rfl
@[go_sem] theorem eqB_ft : (false == true) = false := rfl
@[go_sem] theorem eqB_tf : (true == false) = false := rfl
@[go_sem] theorem neB_ff : (false != false) = false := rfl
@[go_sem] theorem neB_tt : (true != true) = false := rfl
@[go_sem] theorem neB_ft : (false != true) = true := rfl
@[go_sem] theorem neB_tf : (true != false) = true := rfl
end Go.Aw
end
section
namespace Go.Aw
open Go.RowKit
theorem pairs_wol {g : Gau} {ls rs : List Grd} (hr : rs.length ≤ 16) {i : Nat} (hi : i < ls.length) : (pairsR (tableR g (ls.eraseIdx i) rs 2)).length = mostR (withoutR (tableR g ls rs 2) (2 ^ i) 0) := by
 rw [(pairsR_ok (tableR_few hr)).1, mostR_eq (tableR_few hr), tableR_left, ← most_left (tableR_few hr) (by rw [tableR_len]; exact hi)]
theorem pairs_wor {g : Gau} {ls rs : List Grd} (hr : rs.length ≤ 16) {i : Nat} (hi : i < rs.length) : (pairsR (tableR g ls (rs.eraseIdx i) 2)).length = mostR (withoutR (tableR g ls rs 2) 0 (2 ^ i)) := by
 have hr' : (rs.eraseIdx i).length ≤ 16 := by rw [List.length_eraseIdx_of_lt hi]; omega
 rw [(pairsR_ok (tableR_few hr')).1, mostR_eq (tableR_few hr'), most_right (by omega) (tableR_right g rs 2 hi ls) (tableR_few hr)]
theorem spareL_mem (T : List Nat) {i : Nat} (hi : i < T.length) : decide (i ∈ spareL T) = (mostR (withoutR T (2 ^ i) 0) == mostR T) := by
 rw [Bool.eq_iff_iff, decide_eq_true_eq, spareL, List.mem_filter, List.mem_range]
 simp [hi]
theorem spareRt_mem (T : List Nat) {n i : Nat} (hi : i < n) : decide (i ∈ spareRt T n) = (mostR (withoutR T 0 (2 ^ i)) == mostR T) := by
 rw [Bool.eq_iff_iff, decide_eq_true_eq, spareRt, List.mem_filter, List.mem_range]
 simp [hi]
theorem spareL_asc (T : List Nat) : (spareL T).Pairwise (· < ·) := List.Pairwise.filter _ (List.pairwise_lt_range)
theorem spareRt_asc (T : List Nat) (n : Nat) : (spareRt T n).Pairwise (· < ·) := List.Pairwise.filter _ (List.pairwise_lt_range)
theorem spareL_lt (T : List Nat) : ∀ x ∈ spareL T, x < T.length := fun x hx => by rw [spareL, List.mem_filter, List.mem_range] at hx; exact hx.1
theorem spareRt_lt (T : List Nat) (n : Nat) : ∀ x ∈ spareRt T n, x < n := fun x hx => by rw [spareRt, List.mem_filter, List.mem_range] at hx; exact hx.1
theorem spareL_len (T : List Nat) : (spareL T).length ≤ T.length := by
 have := List.length_filter_le (fun i => mostR (withoutR T (2 ^ i) 0) == mostR T) (List.range T.length)
 rwa [List.length_range] at this
theorem spareRt_len (T : List Nat) (n : Nat) : (spareRt T n).length ≤ n := by
 have := List.length_filter_le (fun i => mostR (withoutR T 0 (2 ^ i)) == mostR T) (List.range n)
 rwa [List.length_range] at this
def pairedL (l : List (Nat × Nat)) (n i : Nat) : Bool := (l.take i).any fun p => p.1 == n
def pairedR (l : List (Nat × Nat)) (n i : Nat) : Bool := (l.take i).any fun p => p.2 == n
theorem pairedL_zero (l : List (Nat × Nat)) (n : Nat) : pairedL l n 0 = false := by simp [pairedL]
theorem pairedR_zero (l : List (Nat × Nat)) (n : Nat) : pairedR l n 0 = false := by simp [pairedR]
theorem pairedL_succ {l : List (Nat × Nat)} {n i : Nat} (hi : i < l.length) : pairedL l n (i + 1) = (pairedL l n i || (l.getD i default).1 == n) := by
 rw [pairedL, take_succ_getD hi, List.any_append]; simp [pairedL]
theorem pairedR_succ {l : List (Nat × Nat)} {n i : Nat} (hi : i < l.length) : pairedR l n (i + 1) = (pairedR l n i || (l.getD i default).2 == n) := by
 rw [pairedR, take_succ_getD hi, List.any_append]; simp [pairedR]
theorem spared_left {g : Gau} {ls rs : List Grd} (hr : rs.length ≤ 16) {i : Nat} (hi : i < ls.length) : mostR (tableR g ls rs 2) ≤ mostR (withoutR (tableR g ls rs 2) (2 ^ i) 0) + 1 ∧ mostR (withoutR (tableR g ls rs 2) (2 ^ i) 0) ≤ mostR (tableR g ls rs 2) ∧
   (pairedL (pairsR (tableR g ls rs 2)) i (pairsR (tableR g ls rs 2)).length = false → mostR (withoutR (tableR g ls rs 2) (2 ^ i) 0) = mostR (tableR g ls rs 2)) := by
 have hT : i < (tableR g ls rs 2).length := by rw [tableR_len]; exact hi
 obtain ⟨a, b⟩ := most_left_one (tableR_few (g := g) (ls := ls) (k := 2) hr) hT
 refine ⟨a, b, fun h => spare_left (tableR_few hr) hT fun p hp e => ?_⟩
 rw [pairedL, List.take_length, List.any_eq_false] at h
 exact h p hp (by rw [e]; exact beq_self_eq_true _)
theorem spared_right {g : Gau} {ls rs : List Grd} (hr : rs.length ≤ 16) {i : Nat} : mostR (tableR g ls rs 2) ≤ mostR (withoutR (tableR g ls rs 2) 0 (2 ^ i)) + 1 ∧ mostR (withoutR (tableR g ls rs 2) 0 (2 ^ i)) ≤ mostR (tableR g ls rs 2) ∧
   (pairedR (pairsR (tableR g ls rs 2)) i (pairsR (tableR g ls rs 2)).length = false → mostR (withoutR (tableR g ls rs 2) 0 (2 ^ i)) = mostR (tableR g ls rs 2)) := by
 obtain ⟨a, b⟩ := most_right_one (tableR_few (g := g) (ls := ls) (k := 2) hr) i
 refine ⟨a, b, fun h => spare_right (tableR_few hr) fun p hp e => ?_⟩
 rw [pairedR, List.take_length, List.any_eq_false] at h
 exact h p hp (by rw [e]; exact beq_self_eq_true _)
end Go.Aw
end
section
namespace Go.Aw
open Go.RowKit
theorem twinsR_ok {t : List Nat} {isL isR : Nat → Nat → Bool} {p q : Nat × Nat} (h : twinsR t isL isR = some (p, q)) : p.1 < q.1 ∧ q.1 < t.length ∧ p.2 < 16 ∧ q.2 < 16 ∧ p.2 ≠ q.2 ∧
   (t.getD p.1 0).testBit p.2 = true ∧ (t.getD q.1 0).testBit p.2 = true ∧ (t.getD p.1 0).testBit q.2 = true ∧ (t.getD q.1 0).testBit q.2 = true ∧ isL p.1 q.1 = true ∧ isR p.2 q.2 = true := by
 have hm := List.mem_of_mem_head? (show (p, q) ∈ twinsR t isL isR from h)
 simp only [List.mem_flatMap, List.mem_map, List.mem_filter, List.mem_range, bitsL, Bool.and_eq_true, decide_eq_true_eq] at hm
 obtain ⟨i, hi, k, ⟨hk, hk1⟩, j, ⟨hj, ⟨hij, hjk⟩, hl⟩, m, ⟨⟨hm16, hmb⟩, hr⟩, he⟩ := hm
 cases he
 rw [ndiff_bit, Nat.testBit_and, Nat.testBit_two_pow, Bool.and_eq_true, Bool.and_eq_true, Bool.not_eq_true', decide_eq_false_iff_not] at hmb
 exact ⟨hij, hj, hk, hm16, hmb.2, hk1, hjk, hmb.1.1, hmb.1.2, hl, hr⟩
theorem twins_four {g : Gau} {ls rs : List Grd} {p q : Nat × Nat} (h : twinsR (tableR g ls rs 2) (fun i j => alikeR g (ls.getD i default) (ls.getD j default) 2) (fun i j => alikeR g (rs.getD i default) (rs.getD j default) 2) = some (p, q)) :
   p.1 < q.1 ∧ q.1 < ls.length ∧ p.2 < rs.length ∧ q.2 < rs.length ∧ p.2 ≠ q.2 ∧ alikeR g (ls.getD p.1 default) (rs.getD p.2 default) 2 = true ∧ alikeR g (ls.getD q.1 default) (rs.getD p.2 default) 2 = true ∧
   alikeR g (ls.getD p.1 default) (rs.getD q.2 default) 2 = true ∧ alikeR g (ls.getD q.1 default) (rs.getD q.2 default) 2 = true ∧ alikeR g (ls.getD p.1 default) (ls.getD q.1 default) 2 = true ∧ alikeR g (rs.getD p.2 default) (rs.getD q.2 default) 2 = true := by
 obtain ⟨h1, h2, _, _, h5, h6, h7, h8, h9, h10, h11⟩ := twinsR_ok h
 rw [tableR_len] at h2
 rw [tableR_get (by omega), rowR_bit, Bool.and_eq_true, decide_eq_true_eq] at h6 h8
 rw [tableR_get h2, rowR_bit, Bool.and_eq_true, decide_eq_true_eq] at h7 h9
 exact ⟨h1, h2, h6.1, h8.1, h5, h6.2, h7.2, h8.2, h9.2, h10, h11⟩
end Go.Aw
end
section
namespace Go.Aw
open Go.RowKit
def LookOk (nl nr : Nat) (b : Bool × Nat × Nat) : Prop := b.2.2 = 0 ∨ b.2.2 = 1 ∧ b.2.1 < (if b.1 then nr else nl)
theorem lookTo_ok {t sure : List Nat} (hf : Few t) (hs : Few sure) {nl nr : Nat} : ∀ (l : List (Bool × Nat)) (b : Bool × Nat × Nat), (∀ p ∈ l, p.2 < (if p.1 then nr else nl)) → LookOk nl nr b → LookOk nl nr (lookTo t sure l b)
 | [], b, _, hb => hb
 | p :: ps, b, hp, hb => by
   rw [lookTo]
   refine lookTo_ok hf hs ps _ (fun q hq => hp q (List.mem_cons_of_mem _ hq)) ?_
   split
   · rename_i h
     have := look_most hf hs p.1 p.2
     have hpp := hp p (List.mem_cons_self ..)
     refine .inr ⟨?_, hpp⟩
     show mostR (lookT t sure p.1 p.2) - mostR t = 1
     omega
   · exact hb
theorem lookR_ok {t sure : List Nat} (hf : Few t) (hs : Few sure) (nr : Nat) : LookOk t.length nr (lookR t sure nr) := by
 refine lookTo_ok hf hs _ _ (fun p hp => ?_) (.inl rfl)
 rw [List.mem_append, List.mem_map, List.mem_map] at hp
 rcases hp with ⟨i, hi, rfl⟩ | ⟨i, hi, rfl⟩
 · simpa using hi
 · simpa using hi
theorem pairs_more {g h : Gau} {ls rs : List Grd} (hr : rs.length ≤ 16) (h1 : h.sc ≤ g.sc) (h2 : h.ga ≤ g.ga) (h3 : g.we ≤ h.we) (h4 : g.cu ≤ h.cu) : (pairsR (tableR g ls rs 2)).length ≤ (pairsR (tableR h ls rs 2)).length := by
 rw [(pairsR_ok (tableR_few hr)).1, (pairsR_ok (tableR_few hr)).1]
 exact most_more hr fun a b ha => alike_more (by omega) (by omega) h3 h4 ha
end Go.Aw
end
section
set_option maxRecDepth 20000
set_option maxHeartbeats 4000000
namespace Go.Aw
open Go.RowKit Go.Proofs
def encBo (b : Bool) : List V := [.lit (.bool b)]
@[go_sem] theorem encBo_eq (b : Bool) : encBo b = [.lit (.bool b)] := rfl
def encBr (r : List Bool) : List V := [.sl 1 (r.map encBo) false]
@[go_sem] theorem encBr_eq (r : List Bool) : encBr r = [.sl 1 (r.map encBo) false] := rfl
@[go_sem] theorem take_map_Bo (l : List Bool) (n : Nat) (h : l.length = n) : (l.map encBo).take n = l.map encBo := List.take_of_length_le (by simp; omega)
@[go_sem] theorem take_map_Br (l : List (List Bool)) (n : Nat) (h : l.length = n) : (l.map encBr).take n = l.map encBr := List.take_of_length_le (by simp; omega)
def rowTo (g : Gau) (a : Grd) (rs : List Grd) (k : Int) (j : Nat) : List Bool := (rs.take j).map fun b => alikeR g a b k
end Go.Aw
end
section
set_option maxRecDepth 20000
set_option maxHeartbeats 4000000
namespace Go.Aw
open Go.RowKit Go.Proofs
def bestM (row : List Bool) (rest : List (List Bool)) (taken k : Nat) : Nat := (List.range k).foldl (fun b j => if row.getD j false && !taken.testBit j then max b (1 + refM rest (taken ||| 2 ^ j)) else b) (refM rest taken)
def condP (t : List (List Bool)) (i taken k : Nat) : Bool := (t.getD i default).getD k default && !taken.testBit k && 1 + refM (t.drop (i + 1)) (taken ||| 2 ^ k) == refM (t.drop i) taken
end Go.Aw
end
section
set_option maxRecDepth 20000
set_option maxHeartbeats 4000000
namespace Go.Aw
open Go.RowKit Go.Proofs
structure GoodSt (g : Gau) (ls rs : List Grd) (n : Nat) : Prop where
 n4 : n ≤ 4
 g : GauOk g
 l : ∀ x ∈ ls, GrdOk n x
 r : ∀ x ∈ rs, GrdOk n x
end Go.Aw
end
section
set_option maxRecDepth 20000
set_option maxHeartbeats 4000000
namespace Go.Aw
open Go.RowKit Go.Proofs
def exTo (l : List Grd) (d : Int) : Nat → List Grd
 | 0 => []
 | i + 1 => if (i : Int) = d then exTo l d i else exTo l d i ++ [l.getD i default]
theorem GoodSt.left {g : Gau} {ls rs : List Grd} {n : Nat} (h : GoodSt g ls rs n) (i : Nat) : GoodSt g (ls.eraseIdx i) rs n := ⟨h.n4, h.g, fun x hx => h.l x (List.mem_of_mem_eraseIdx hx), h.r⟩
theorem GoodSt.right {g : Gau} {ls rs : List Grd} {n : Nat} (h : GoodSt g ls rs n) (i : Nat) : GoodSt g ls (rs.eraseIdx i) n := ⟨h.n4, h.g, h.l, fun x hx => h.r x (List.mem_of_mem_eraseIdx hx)⟩
end Go.Aw
end
section
set_option maxRecDepth 20000
set_option maxHeartbeats 4000000
namespace Go.Aw
open Go.RowKit Go.Proofs
section
variable {P : Program} {g : FuncId} {args0 first args cap : List V} {rows0 l : List (Nat × Option Blk)} {m1 m2 k l1 l2 nx0 n : Nat} {b1 b2 : Blk} {dst : Option Tmp} {K : St → Prop} {tm : List V} {gh : Gh}
def TwoNew (P : Program) (g : FuncId) (args : List V) (m1 m2 k l1 l2 : Nat) (b1 b2 : Blk) (nx0 : Nat) : Prop :=
 ∃ rows0, CallH P g args (fun _ => none) 0 (fun r h n => r = .agg [.os m1 k l1 false, .os m2 k l2 false] ∧ h = hpOf (fun _ => none) rows0 ∧ n = nx0) ∧ hpOf (fun _ => none) rows0 m1 = some b1 ∧ hpOf (fun _ => none) rows0 m2 = some b2
theorem call_two (hc : TwoNew P g args0 m1 m2 k l1 l2 b1 b2 nx0) (hk : K ⟨putT tm dst (.agg [.os (n + m1) k l1 false, .os (n + m2) k l2 false]), hpOf (fun _ => none) (l ++ [(n + m1, some b1), (n + m2, some b2)]), n + nx0, gh⟩)
   (hbd : ∃ fn, P.funcs[g]? = some fn ∧ fn.body.isSome = true ∧ fn.name ≠ "runtime.NumGoroutine") (ha : first ++ args ++ cap = args0 := by first | (simp only [go_sem]; done) | (simp only [go_sem]; rfl)) (hpu : PuL args0 = True := by first | assumption | (simp only [go_sem] <;> assumption) | (simp only [go_sem, *]; done) | (simp [go_sem]; done))
   (hn : nx0 ≤ 9223372036854775808 := by decide) (hm1 : m1 < nx0 := by decide) (hm2 : m2 < nx0 := by decide) (hp1 : PuE b1.es = True := by first | assumption | (simp only [go_sem] <;> assumption) | (simp only [go_sem, *]; done) | (simp [go_sem]; done)) (hp2 : PuE b2.es = True := by first | assumption | (simp only [go_sem] <;> assumption) | (simp only [go_sem, *]; done) | (simp [go_sem]; done)) :
   CallA P (.fn (.func g) first cap) args dst K ⟨tm, hpOf (fun _ => none) l, n, gh⟩ := by
 obtain ⟨rows0, hc, hb1, hb2⟩ := hc
 have hp : PurL true (hpOf (fun _ => none) l) (first ++ args ++ cap) args0 := by
   rw [ha]
   exact ⟨rfl, fun i d d' h1 h2 => by rw [h1] at h2; cases h2; exact .pu _ (of_eq_true hpu _ (List.mem_of_getElem? h1))⟩
 have e1 : rhoF n (n + m1) = m1 := by unfold rhoF; rw [if_neg (by omega)]; omega
 have e2 : rhoF n (n + m2) = m2 := by unfold rhoF; rw [if_neg (by omega)]; omega
 refine callA_shared _ (CallH.fresh (nx := n) (l := l) hc hp hn (r' := .agg [.os (n + m1) k l1 false, .os (n + m2) k l2 false]) (rows := [(n + m1, some b1), (n + m2, some b2)])
   (Ren.aggL _ _ (.cons _ _ _ _ (Ren.osN _ _ rfl e1 (by omega) (fun h => h)) (.cons _ _ _ _ (Ren.osN _ _ rfl e2 (by omega) (fun h => h)) .nil)))
   (.row _ _ _ _ _ _ _ (by omega) (by rw [e1]; exact hb1) (RenE.pu _ (of_eq_true hp1)) (.row _ _ _ _ _ _ _ (by omega) (by rw [e2]; exact hb2) (RenE.pu _ (of_eq_true hp2)) .nil)) (by simp)) hbd fun r h' nx' hp => ?_
 obtain ⟨rfl, rfl, rfl⟩ := hp
 exact hk
end
theorem Copy_new (l : List Grd) (e : Bool) (hl : l.length ≤ 1000) (hlc : ∀ x ∈ l, x.2.length ≤ 1000) : OneNew Tryd.prog 16 [.sl 2 (l.map encGd) e] 65 2 l.length ⟨2, l.map encGd, 24, .wr⟩ 640 := by
 refine ⟨[(65, some ⟨2, l.map encGd, 24, .wr⟩)], ?_, rfl⟩
 refine callH_enter Tryd.func16 rfl Tryd.results16 Tryd.ntmps16 rfl (by simp (maxSteps := 1000000) -implicitDefEqProofs (disch := omega) only [go_sem]; rfl) fun base => ?_
 repeat' (first
   | (with_reducible apply Req_intro); focus (first | omega | assumption | (simp; done))
   | with_reducible (first | apply Req_intro | refine nilT ?_ fun hn => ?_ | apply wk_draw Tryd_mixed | refine drawEnd (by kernel_rfl) ?_)
   | (with_reducible (first | apply condA_if | apply stepDG_ifN | apply stepDG_if | apply stepG_ifN | apply stepG_if)) <;> intro hb <;> (have hif := hb) <;> (try simp only [bo] at hif) <;> (try simp -implicitDefEqProofs (disch := omega) only [go_sem, hb]) <;> clear hb
   | simp (maxSteps := 1000000) -implicitDefEqProofs (disch := omega) only [go_sem])
 refine loop_rows (α := Nat) [3, 4, 6, 7, 8, 9, 10, 11, 12, 13, 14, 15, 16, 17, 18, 19, 20, 21, 22, 23, 24, 25, 26, 27] (fun i => [(4, .lit (.int .i64 i)), (3, .os 65 2 i false), (5, .undef)]) (fun i => [(65, some ⟨2, (l.take i).map encGd, 24, .wr⟩)]) (fun i => i ≤ l.length) (fun i => l.length - i) 0 (fun x => by simp (maxSteps := 1000000) -implicitDefEqProofs (disch := omega) only [go_sem]; rfl) ?_ ?_ fun x hx => ?_
 · simp only [List.take_zero, List.map_nil]
   exact weak_do3 [(65, 64)]
 · exact Nat.zero_le _
 have htl : (l.take x).length = x := by rw [List.length_take]; omega
 by_cases hlt : x < l.length
 · have hcl := hlc _ (getD_mem hlt)
   repeat' (first
     | (with_reducible apply Req_intro); focus (first | omega | assumption | (simp; done))
     | with_reducible (first | apply Req_intro | refine nilT ?_ fun hn => ?_ | apply wk_draw Tryd_mixed | refine drawEnd (by kernel_rfl) ?_)
     | (with_reducible (first | apply condA_if | apply stepDG_ifN | apply stepDG_if | apply stepG_ifN | apply stepG_if)) <;> intro hb <;> (have hif := hb) <;> (try simp only [bo] at hif) <;> (try simp -implicitDefEqProofs (disch := omega) only [go_sem, hb]) <;> clear hb
     | simp (maxSteps := 1000000) -implicitDefEqProofs (disch := omega) only [go_sem])
   all_goals first | exact absurd trivial ‹¬True› | exact absurd ‹false = true› (by decide) | exact absurd ‹true = false› (by decide) | (exfalso; omega) | omega | skip
   have ht := take_succ_getD hlt
   generalize l.getD x default = b at *
   refine nxt_snapRow [1280] 1472 (es' := (l.take x).map encGd ++ [encGd b]) (by first | (simp only [go_sem]; done) | (simp only [go_sem]; rfl)) (by rfl) ?_ (by first | assumption | (simp only [go_sem] <;> assumption) | (simp only [go_sem, *]; done) | (simp [go_sem]; done)) (by first | (simp only [go_sem]; done) | (simp only [go_sem]; rfl)) ?_
   · refine PurE.snocR (by first | assumption | (simp only [go_sem] <;> assumption) | (simp only [go_sem, *]; done) | (simp [go_sem]; done)) ?_
     rw [show encGd b = [.lit (.int .i64 b.1), .sl 1 (b.2.map encI) false] from rfl]
     (try simp (maxSteps := 1000000) -implicitDefEqProofs (disch := omega) only [go_sem])
     repeat' (first
       | with_reducible (first | exact PurI.nil | exact Pur.nilsl _ _ | exact PurE.nil)
       | (with_reducible (first | refine PurI.puL ?_ | refine PurE.puE ?_)) <;> (first | assumption | (simp only [go_sem] <;> assumption) | (simp only [go_sem, *]; done) | (simp [go_sem]; done))
       | with_reducible apply PurI.cons
       | (with_reducible refine Pur.pu _ ?_) <;> (first | assumption | (simp only [go_sem] <;> assumption) | (simp only [go_sem, *]; done) | (simp [go_sem]; done))
       | ((with_reducible apply Pur.refR) <;> (first | rfl | decide | (simp only [go_sem]; omega) | (simp only [go_sem]) | skip))
       | ((with_reducible apply Pur.osR) <;> (first | rfl | exact fun h => h | omega | (simp; omega) | (simp; done) | (simp only [go_sem]) | skip))
       | with_reducible (first | apply Pur.fnI | apply Pur.aggI | apply PurE.cons)
       | (with_reducible refine PurI.eqL ?_ ?_); (focus rfl); (focus (first | assumption | (simp only [go_sem] <;> assumption) | (simp only [go_sem, *]; done) | (simp [go_sem]; done)))
       | simp (maxSteps := 1000000) -implicitDefEqProofs (disch := omega) only [go_sem])
   with_reducible refine nxt_w (x + 1) ?_ ?_
   · (try dsimp only)
     rw [ht, List.map_append]
     exact weak_do3 [(65, 1472)]
   try dsimp only
   omega
 · obtain rfl : x = l.length := by omega
   rw [List.take_length]
   repeat' (first
     | (with_reducible apply Req_intro); focus (first | omega | assumption | (simp; done))
     | with_reducible (first | apply Req_intro | refine nilT ?_ fun hn => ?_ | apply wk_draw Tryd_mixed | refine drawEnd (by kernel_rfl) ?_)
     | (with_reducible (first | apply condA_if | apply stepDG_ifN | apply stepDG_if | apply stepG_ifN | apply stepG_if)) <;> intro hb <;> (have hif := hb) <;> (try simp only [bo] at hif) <;> (try simp -implicitDefEqProofs (disch := omega) only [go_sem, hb]) <;> clear hb
     | simp (maxSteps := 1000000) -implicitDefEqProofs (disch := omega) only [go_sem])
   all_goals first | exact absurd trivial ‹¬True› | exact absurd ‹false = true› (by decide) | exact absurd ‹true = false› (by decide) | (exfalso; omega) | omega | skip
   refine ret_do ?_
   exact ⟨rfl, rfl, rfl⟩
end Go.Aw
end
section
set_option maxRecDepth 20000
set_option maxHeartbeats 4000000
namespace Go.Aw
open Go.RowKit Go.Proofs
theorem calldz {P : Program} {nx : Nat} {g : FuncId} {first cap args as1 as2 : List V} {h : Hp} {r : V} {K : V → List Nat → Wr → Prop} (id : Nat) {k : Nat} {es : List (List V)} {ty : TypeId} (hc : Ct P g as2 r) (hk : K r [id] []) (ha : first ++ args ++ cap = as1 := by first | (simp only [go_sem]; done) | (simp only [go_sem]; rfl)) (hb : h id = some ⟨k, es, ty, .fz⟩ := by rfl)
   (hp : PurI true (hpOf (fun _ => none) [(id, some ⟨k, es, ty, .fz⟩)]) as1 as2 := by
     (try simp (maxSteps := 1000000) -implicitDefEqProofs (disch := omega) only [go_sem])
     repeat' (first
       | with_reducible (first | exact PurI.nil | exact Pur.nilsl _ _ | exact PurE.nil)
       | (with_reducible (first | refine PurI.puL ?_ | refine PurE.puE ?_)) <;> (first | assumption | (simp only [go_sem] <;> assumption) | (simp only [go_sem, *]; done) | (simp [go_sem]; done))
       | with_reducible apply PurI.cons
       | (with_reducible refine Pur.pu _ ?_) <;> (first | assumption | (simp only [go_sem] <;> assumption) | (simp only [go_sem, *]; done) | (simp [go_sem]; done))
       | ((with_reducible apply Pur.refR) <;> (first | rfl | decide | (simp only [go_sem]; omega) | (simp only [go_sem]) | skip))
       | ((with_reducible apply Pur.osR) <;> (first | rfl | exact fun h => h | omega | (simp; omega) | (simp; done) | (simp only [go_sem]) | skip))
       | with_reducible (first | apply Pur.fnI | apply Pur.aggI | apply PurE.cons)
       | (with_reducible refine PurI.eqL ?_ ?_); (focus rfl); (focus (first | assumption | (simp only [go_sem] <;> assumption) | (simp only [go_sem, *]; done) | (simp [go_sem]; done)))
       | simp (maxSteps := 1000000) -implicitDefEqProofs (disch := omega) only [go_sem])) (hr : Pu r := by first | assumption | (simp only [go_sem] <;> assumption) | (simp only [go_sem, *]; done) | (simp [go_sem]; done)) : CallD P (.fn (.func g) first cap) args h nx K := by
 subst ha
 exact .mk g first cap as2 r [id] rfl (.inr ⟨by rw [restr_one hb]; exact hp.spec, hr⟩) hc.1 hc.2 hk
structure B3 where
 a : Int
 b : Int
 c : Int
instance : Inhabited B3 := ⟨⟨0, 0, 0⟩⟩
def okY (n : Int) : Prop := 0 ≤ n ∧ n ≤ 255
structure B3.ok (v : B3) : Prop where
 a : okY v.a
 b : okY v.b
 c : okY v.c
abbrev uy (n : Int) : V := .lit (.int .u8 n)
def enc3 (v : B3) : List V := [uy v.a, uy v.b, uy v.c]
@[go_sem] theorem enc3_eq (v : B3) : enc3 v = [uy v.a, uy v.b, uy v.c] := rfl
structure Chst where
 l : List B3
 r : List B3
 m : Int
 g0 : Int
 g1 : Int
 g2 : Int
 g3 : Int
structure Chst.ok (x : Chst) : Prop where
 l : ∀ v ∈ x.l, v.ok
 r : ∀ v ∈ x.r, v.ok
 ll : x.l.length ≤ 4611686018427387904
 rl : x.r.length ≤ 4611686018427387904
 m : okY x.m
 g0 : okY x.g0
 g1 : okY x.g1
 g2 : okY x.g2
 g3 : okY x.g3
def chC (x : Chst) : List V := [.sl 3 (x.l.map enc3) false, .sl 3 (x.r.map enc3) false, uy x.m, uy x.g0, uy x.g1, uy x.g2, uy x.g3]
@[go_sem] theorem chC_eq (x : Chst) : chC x = [.sl 3 (x.l.map enc3) false, .sl 3 (x.r.map enc3) false, uy x.m, uy x.g0, uy x.g1, uy x.g2, uy x.g3] := rfl
def curv (v : B3) (m : Nat) : List Int := [v.b, v.c].take m
def gdOf (m : Nat) (v : B3) : Grd := (200 + v.a, curv v m)
def chL (l : List B3) (m : Nat) : List Grd := (l.take 8).map (gdOf m)
def chG (x : Chst) : Gau := ⟨x.g0 % 10, x.g1 % 10, x.g2, x.g3⟩
def chM (x : Chst) : Nat := (1 + x.m % 2).toNat
theorem chM_is {x : Chst} (h : x.ok) : ((chM x : Nat) : Int) = 1 + x.m % 2 ∧ 1 ≤ chM x ∧ chM x ≤ 2 := by
 have := h.m
 unfold okY at this
 unfold chM
 omega
theorem chL_len (l : List B3) (m : Nat) : (chL l m).length = min 8 l.length := by simp [chL]
theorem curv_len {v : B3} {m : Nat} (h : m ≤ 2) : (curv v m).length = m := by simp [curv]; omega
theorem curv_succ {v : B3} {k : Nat} (h : k < 2) : curv v (k + 1) = curv v k ++ [if k = 0 then v.b else v.c] := by
 unfold curv
 have : k = 0 ∨ k = 1 := by omega
 rcases this with rfl | rfl <;> rfl
theorem gdOf_fine {v : B3} (h : v.ok) {m : Nat} (hm : m ≤ 2) : Fine m (gdOf m v) := by
 obtain ⟨h1, h2, h3⟩ := h
 unfold okY at h1 h2 h3
 refine ⟨by unfold gdOf; simp only; omega, by unfold gdOf; simp only; omega, curv_len hm, fun c hc => ?_⟩
 have : c ∈ [v.b, v.c] := List.mem_of_mem_take hc
 simp only [List.mem_cons, List.not_mem_nil, or_false] at this
 rcases this with rfl | rfl <;> omega
theorem chL_fine {l : List B3} {m : Nat} (h : ∀ v ∈ l, v.ok) (hm : m ≤ 2) : ∀ x ∈ chL l m, Fine m x := fun x hx => by
 obtain ⟨v, hv, rfl⟩ := List.mem_map.1 hx
 exact gdOf_fine (h v (List.mem_of_mem_take hv)) hm
theorem chG_ok {x : Chst} (h : x.ok) : gaugeR (chG x) = true := by
 have h0 := h.g0
 have h1 := h.g1
 have h2 := h.g2
 have h3 := h.g3
 unfold okY at h0 h1 h2 h3
 show (inR' 0 100 (x.g0 % 10) && inR' 0 100 (x.g1 % 10) && inR' 0 10000 x.g2 && inR' 0 500 x.g3) = true
 simp only [inR', Bool.and_eq_true, decide_eq_true_eq]
 omega
theorem made1_spec (l : List B3) (e : Bool) (m : Nat) (hm : m ≤ 2) (hl : l.length ≤ 4611686018427387904) (hb : ∀ v ∈ l, v.ok) : Ct Tryd.prog 88 [.sl 3 (l.map enc3) e, .rp [int m]] (.sl 2 ((chL l m).map encGd) false) := by
 refine fn_enter Tryd.func88 rfl (by decide) Tryd.results88 Tryd.ntmps88 ?_ rfl (by simp (maxSteps := 1000000) -implicitDefEqProofs (disch := omega) only [go_sem]; rfl) fun base => ?_
 · first | assumption | (simp only [go_sem] <;> assumption) | (simp only [go_sem, *]; done) | (simp [go_sem]; done)
 repeat' (first
   | (with_reducible apply Req_intro); focus (first | omega | assumption | (simp; done))
   | with_reducible (first | apply Req_intro | refine nilT ?_ fun hn => ?_ | apply wk_draw Tryd_mixed | refine drawEnd (by kernel_rfl) ?_)
   | (with_reducible (first | apply condA_if | apply stepDG_ifN | apply stepDG_if | apply stepG_ifN | apply stepG_if)) <;> intro hb <;> (have hif := hb) <;> (try simp only [bo] at hif) <;> (try simp -implicitDefEqProofs (disch := omega) only [go_sem, hb]) <;> clear hb
   | simp (maxSteps := 1000000) -implicitDefEqProofs (disch := omega) only [go_sem])
 refine loop_rows (α := Nat) (6 :: 7 :: [4, 5, 6, 7, 9, 10, 11, 12, 13, 14, 15, 16, 17, 18, 19, 20, 21, 22, 23, 24, 25, 26, 27, 28, 29, 30, 31, 32, 33, 34, 35, 36, 37, 38, 39, 40, 41, 42, 43, 44, 45, 46, 47, 48]) (fun i => [(5, .lit (.int .i64 i)), (4, .os 65 2 i false), (8, .undef)]) (fun i => [(65, some ⟨2, ((l.take i).map (gdOf m)).map encGd, 24, .wr⟩)]) (fun i => i ≤ l.length ∧ i ≤ 8) (fun i => 8 - i) 0 (fun x => by simp (maxSteps := 1000000) -implicitDefEqProofs (disch := omega) only [go_sem]; rfl) ?_ ?_ fun x hx => ?_
 · simp only [List.take_zero, List.map_nil]
   exact weak_do3 [(65, 64)]
 · exact ⟨Nat.zero_le _, by omega⟩
 rename Nat => i
 obtain ⟨hi1, hi2⟩ := hx
 have htl : ((l.take i).map (gdOf m)).length = i := by simp; omega
 by_cases hlt : i < l.length ∧ i < 8
 · obtain ⟨hlt1, hlt2⟩ := hlt
   have hv := hb _ (getD_mem hlt1)
   obtain ⟨v1, v2, v3⟩ := hv
   unfold okY at v1 v2 v3
   have htk : (l.take (i + 1)).map (gdOf m) = (l.take i).map (gdOf m) ++ [gdOf m (l.getD i default)] := by rw [take_succ_getD hlt1, List.map_append]; rfl
   generalize (l.take i).map (gdOf m) = L at *
   generalize hvv : l.getD i default = v at *
   repeat' (first
     | (with_reducible apply Req_intro); focus (first | omega | assumption | (simp; done))
     | with_reducible (first | apply Req_intro | refine nilT ?_ fun hn => ?_ | apply wk_draw Tryd_mixed | refine drawEnd (by kernel_rfl) ?_)
     | (with_reducible (first | apply condA_if | apply stepDG_ifN | apply stepDG_if | apply stepG_ifN | apply stepG_if)) <;> intro hb <;> (have hif := hb) <;> (try simp only [bo] at hif) <;> (try simp -implicitDefEqProofs (disch := omega) only [go_sem, hb, hvv]) <;> clear hb
     | simp (maxSteps := 1000000) -implicitDefEqProofs (disch := omega) only [go_sem, hvv])
   all_goals first | exact absurd trivial ‹¬True› | exact absurd ‹false = true› (by decide) | exact absurd ‹true = false› (by decide) | (exfalso; omega) | omega | skip
   refine loop_rows (α := Nat) ([7, 27, 28, 29, 30, 31, 32, 33, 34, 35, 36, 37, 38, 39, 40, 41, 42, 43, 44]) (fun k => [(7, .lit (.int .i64 k)), (4, .os 65 2 i false)]) (fun k => [(65, some ⟨2, L.map encGd, 24, .wr⟩), (1280, some ⟨2, [[int (200 + v.a), .os 66 1 k false]], 24, .wr⟩), (66, some ⟨1, (curv v k).map encI, 3, .wr⟩)]) (fun k => k ≤ m) (fun k => m - k) 0 (fun x => by simp (maxSteps := 1000000) -implicitDefEqProofs (disch := omega) only [go_sem]; rfl) ?_ ?_ fun x hx => ?_
   · rw [show curv v 0 = [] from rfl]
     simp only [List.map_nil]
     exact weak_do3 [(66, 1000000)]
   · exact Nat.zero_le _
   rename Nat => k
   have hcl := curv_len (v := v) (m := k) (by omega)
   by_cases hkm : k < m
   · have hk01 : k = 0 ∨ k = 1 := by omega
     have hcs := curv_succ (v := v) (k := k) (by omega)
     generalize curv v k = C at *
     rcases hk01 with rfl | rfl
     · have hd0 : (List.drop ((1 + ((0 : Nat) : Int)).toNat * 1) [uy v.a, uy v.b, uy v.c]).headD V.undef = uy v.b := rfl
       repeat' (first
         | (with_reducible apply Req_intro); focus (first | omega | assumption | (simp; done))
         | with_reducible (first | apply Req_intro | refine nilT ?_ fun hn => ?_ | apply wk_draw Tryd_mixed | refine drawEnd (by kernel_rfl) ?_)
         | (with_reducible (first | apply condA_if | apply stepDG_ifN | apply stepDG_if | apply stepG_ifN | apply stepG_if)) <;> intro hb <;> (have hif := hb) <;> (try simp only [bo] at hif) <;> (try simp -implicitDefEqProofs (disch := omega) only [go_sem, hb, hvv, hd0]) <;> clear hb
         | simp (maxSteps := 1000000) -implicitDefEqProofs (disch := omega) only [go_sem, hvv, hd0])
       all_goals first | exact absurd trivial ‹¬True› | exact absurd ‹false = true› (by decide) | exact absurd ‹true = false› (by decide) | (exfalso; omega) | omega | skip
       with_reducible refine nxt_w (0 + 1) ?_ ?_
       · (try dsimp only)
         (rw [hcs]; simp only [List.map_append, if_true, List.map_cons, List.map_nil])
         exact weak_do3 [(66, 2368)]
       try dsimp only
       omega
     · have hd0 : (List.drop ((1 + ((1 : Nat) : Int)).toNat * 1) [uy v.a, uy v.b, uy v.c]).headD V.undef = uy v.c := rfl
       repeat' (first
         | (with_reducible apply Req_intro); focus (first | omega | assumption | (simp; done))
         | with_reducible (first | apply Req_intro | refine nilT ?_ fun hn => ?_ | apply wk_draw Tryd_mixed | refine drawEnd (by kernel_rfl) ?_)
         | (with_reducible (first | apply condA_if | apply stepDG_ifN | apply stepDG_if | apply stepG_ifN | apply stepG_if)) <;> intro hb <;> (have hif := hb) <;> (try simp only [bo] at hif) <;> (try simp -implicitDefEqProofs (disch := omega) only [go_sem, hb, hvv, hd0]) <;> clear hb
         | simp (maxSteps := 1000000) -implicitDefEqProofs (disch := omega) only [go_sem, hvv, hd0])
       all_goals first | exact absurd trivial ‹¬True› | exact absurd ‹false = true› (by decide) | exact absurd ‹true = false› (by decide) | (exfalso; omega) | omega | skip
       with_reducible refine nxt_w (1 + 1) ?_ ?_
       · (try dsimp only)
         (rw [hcs]; simp only [List.map_append, Nat.one_ne_zero, if_false, List.map_cons, List.map_nil])
         exact weak_do3 [(66, 2368)]
       try dsimp only
       omega
   · obtain rfl : k = m := by omega
     have hgd : gdOf k v = (200 + v.a, curv v k) := rfl
     generalize curv v k = C at *
     repeat' (first
       | (with_reducible apply Req_intro); focus (first | omega | assumption | (simp; done))
       | with_reducible (first | apply Req_intro | refine nilT ?_ fun hn => ?_ | apply wk_draw Tryd_mixed | refine drawEnd (by kernel_rfl) ?_)
       | (with_reducible (first | apply condA_if | apply stepDG_ifN | apply stepDG_if | apply stepG_ifN | apply stepG_if)) <;> intro hb <;> (have hif := hb) <;> (try simp only [bo] at hif) <;> (try simp -implicitDefEqProofs (disch := omega) only [go_sem, hb, hvv]) <;> clear hb
       | simp (maxSteps := 1000000) -implicitDefEqProofs (disch := omega) only [go_sem, hvv])
     all_goals first | exact absurd trivial ‹¬True› | exact absurd ‹false = true› (by decide) | exact absurd ‹true = false› (by decide) | (exfalso; omega) | omega | skip
     refine nxt_snapRow [66] 1856 (es' := L.map encGd ++ [encGd (200 + v.a, C)]) (by first | (simp only [go_sem]; done) | (simp only [go_sem]; rfl)) (by rfl) ?_ (by first | assumption | (simp only [go_sem] <;> assumption) | (simp only [go_sem, *]; done) | (simp [go_sem]; done)) (by first | (simp only [go_sem]; done) | (simp only [go_sem]; rfl)) ?_
     · refine PurE.snocR (by first | assumption | (simp only [go_sem] <;> assumption) | (simp only [go_sem, *]; done) | (simp [go_sem]; done)) ?_
       rw [show encGd (200 + v.a, C) = [.lit (.int .i64 (200 + v.a)), .sl 1 (C.map encI) false] from rfl]
       (try simp (maxSteps := 1000000) -implicitDefEqProofs (disch := omega) only [go_sem])
       repeat' (first
         | with_reducible (first | exact PurI.nil | exact Pur.nilsl _ _ | exact PurE.nil)
         | (with_reducible (first | refine PurI.puL ?_ | refine PurE.puE ?_)) <;> (first | assumption | (simp only [go_sem] <;> assumption) | (simp only [go_sem, *]; done) | (simp [go_sem]; done))
         | with_reducible apply PurI.cons
         | (with_reducible refine Pur.pu _ ?_) <;> (first | assumption | (simp only [go_sem] <;> assumption) | (simp only [go_sem, *]; done) | (simp [go_sem]; done))
         | ((with_reducible apply Pur.refR) <;> (first | rfl | decide | (simp only [go_sem]; omega) | (simp only [go_sem]) | skip))
         | ((with_reducible apply Pur.osR) <;> (first | rfl | exact fun h => h | omega | (simp; omega) | (simp; done) | (simp only [go_sem]) | skip))
         | with_reducible (first | apply Pur.fnI | apply Pur.aggI | apply PurE.cons)
         | (with_reducible refine PurI.eqL ?_ ?_); (focus rfl); (focus (first | assumption | (simp only [go_sem] <;> assumption) | (simp only [go_sem, *]; done) | (simp [go_sem]; done)))
         | simp (maxSteps := 1000000) -implicitDefEqProofs (disch := omega) only [go_sem])
     with_reducible refine nxt_w (i + 1) ?_ ?_
     · (try dsimp only)
       rw [htk, List.map_append, hgd]
       exact weak_do3 [(65, 1856)]
     try dsimp only
     omega
 · have hi8 : (l.take i).map (gdOf m) = chL l m := by
     unfold chL
     rcases (show l.length ≤ i ∨ i = 8 by omega) with h | h
     · rw [List.take_of_length_le h, List.take_of_length_le (by omega)]
     · rw [h]
   rw [hi8] at htl ⊢
   rw [← htl]
   generalize chL l m = L at *
   repeat' (first
     | (with_reducible apply Req_intro); focus (first | omega | assumption | (simp; done))
     | with_reducible (first | apply Req_intro | refine nilT ?_ fun hn => ?_ | apply wk_draw Tryd_mixed | refine drawEnd (by kernel_rfl) ?_)
     | (with_reducible (first | apply condA_if | apply stepDG_ifN | apply stepDG_if | apply stepG_ifN | apply stepG_if)) <;> intro hb <;> (have hif := hb) <;> (try simp only [bo] at hif) <;> (try simp -implicitDefEqProofs (disch := omega) only [go_sem, hb]) <;> clear hb
     | simp (maxSteps := 1000000) -implicitDefEqProofs (disch := omega) only [go_sem])
   all_goals first | exact absurd trivial ‹¬True› | exact absurd ‹false = true› (by decide) | exact absurd ‹true = false› (by decide) | (exfalso; omega) | omega | skip
   all_goals
     exact retf [65] [3] [.sl 2 (L.map encGd) false]
theorem made_spec (x : Chst) (h : x.ok) : Ct Tryd.prog 47 [.agg (chC x)] (.tup [encSt (chL x.l (chM x)) (chL x.r (chM x)) false false, encGa (chG x)]) := by
 obtain ⟨hm1, hm2, hm3⟩ := chM_is h
 have q1 := made1_spec x.l false (chM x) hm3 h.ll h.l
 have q2 := made1_spec x.r false (chM x) hm3 h.rl h.r
 have hg : encGa (chG x) = .agg [int (x.g0 % 10), int (x.g1 % 10), int x.g2, int x.g3] := rfl
 have h0 := h.m
 have h1 := h.g0
 have h2 := h.g1
 have h3 := h.g2
 have h4 := h.g3
 unfold okY at h0 h1 h2 h3 h4
 rw [hg]
 generalize chL x.l (chM x) = L1 at *
 generalize chL x.r (chM x) = L2 at *
 rw [hm1] at q1 q2
 refine ct_enterT Tryd.func47 rfl (by decide) Tryd.results47 Tryd.ntmps47 ?_ rfl (by simp (maxSteps := 1000000) -implicitDefEqProofs (disch := omega) only [go_sem]; rfl) fun base => ?_
 · first | assumption | (simp only [go_sem] <;> assumption) | (simp only [go_sem, *]; done) | (simp [go_sem]; done)
 repeat' (first
   | (with_reducible apply Req_intro); focus (first | omega | assumption | (simp; done))
   | with_reducible (first | apply Req_intro | refine nilT ?_ fun hn => ?_ | apply wk_draw Tryd_mixed | refine drawEnd (by kernel_rfl) ?_)
   | (with_reducible (first | apply condA_if | apply stepDG_ifN | apply stepDG_if | apply stepG_ifN | apply stepG_if)) <;> intro hb <;> (have hif := hb) <;> (try simp only [bo] at hif) <;> (try simp -implicitDefEqProofs (disch := omega) only [go_sem, hb]) <;> clear hb
   | simp (maxSteps := 1000000) -implicitDefEqProofs (disch := omega) only [go_sem])
 all_goals first | exact absurd trivial ‹¬True› | exact absurd ‹false = true› (by decide) | exact absurd ‹true = false› (by decide) | (exfalso; omega) | omega | skip
 refine calldf 640 q1 ?_
 try simp (maxSteps := 1000000) -implicitDefEqProofs (disch := omega) only [go_sem]
 repeat' (first
   | (with_reducible apply Req_intro); focus (first | omega | assumption | (simp; done))
   | with_reducible (first | apply Req_intro | refine nilT ?_ fun hn => ?_ | apply wk_draw Tryd_mixed | refine drawEnd (by kernel_rfl) ?_)
   | (with_reducible (first | apply condA_if | apply stepDG_ifN | apply stepDG_if | apply stepG_ifN | apply stepG_if)) <;> intro hb <;> (have hif := hb) <;> (try simp only [bo] at hif) <;> (try simp -implicitDefEqProofs (disch := omega) only [go_sem, hb]) <;> clear hb
   | simp (maxSteps := 1000000) -implicitDefEqProofs (disch := omega) only [go_sem])
 all_goals first | exact absurd trivial ‹¬True› | exact absurd ‹false = true› (by decide) | exact absurd ‹true = false› (by decide) | (exfalso; omega) | omega | skip
 refine calldz 640 q2 ?_
 try simp (maxSteps := 1000000) -implicitDefEqProofs (disch := omega) only [go_sem]
 repeat' (first
   | (with_reducible apply Req_intro); focus (first | omega | assumption | (simp; done))
   | with_reducible (first | apply Req_intro | refine nilT ?_ fun hn => ?_ | apply wk_draw Tryd_mixed | refine drawEnd (by kernel_rfl) ?_)
   | (with_reducible (first | apply condA_if | apply stepDG_ifN | apply stepDG_if | apply stepG_ifN | apply stepG_if)) <;> intro hb <;> (have hif := hb) <;> (try simp only [bo] at hif) <;> (try simp -implicitDefEqProofs (disch := omega) only [go_sem, hb]) <;> clear hb
   | simp (maxSteps := 1000000) -implicitDefEqProofs (disch := omega) only [go_sem])
 all_goals first | exact absurd trivial ‹¬True› | exact absurd ‹false = true› (by decide) | exact absurd ‹true = false› (by decide) | (exfalso; omega) | omega | skip
 exact rett []
def encY (n : Int) : List V := [uy n]
@[go_sem] theorem encY_eq (n : Int) : encY n = [uy n] := rfl
def trTo (g : Gau) (b : List Int) (i : Nat) (x : Grd) (k : Nat) : List Int := (List.range k).map fun k => x.2.getD k default + atR b i (1 + k) g.ga
end Go.Aw
end
section
set_option maxRecDepth 20000
set_option maxHeartbeats 4000000
namespace Go.Aw
open Go.RowKit Go.Proofs
def Mild (a : Int) : Prop := -100000 ≤ a ∧ a ≤ 100000
theorem lfar_spec (a b : Int) (ha : Mild a) (hb : Mild b) : Ct Tryd.prog 90 [int a, int b] (int (farR a b)) := by
 unfold Mild at ha hb
 refine fn_enter Tryd.func90 rfl (by decide) Tryd.results90 Tryd.ntmps90 ?_ rfl (by simp (maxSteps := 1000000) -implicitDefEqProofs (disch := omega) only [go_sem]; rfl) fun base => ?_
 · first | assumption | (simp only [go_sem] <;> assumption) | (simp only [go_sem, *]; done) | (simp [go_sem]; done)
 repeat' (first
   | (with_reducible apply Req_intro); focus (first | omega | assumption | (simp; done))
   | with_reducible (first | apply Req_intro | refine nilT ?_ fun hn => ?_ | apply wk_draw Tryd_mixed | refine drawEnd (by kernel_rfl) ?_)
   | (with_reducible (first | apply condA_if | apply stepDG_ifN | apply stepDG_if | apply stepG_ifN | apply stepG_if)) <;> intro hb <;> (have hif := hb) <;> (try simp only [bo] at hif) <;> (try simp -implicitDefEqProofs (disch := omega) only [go_sem, hb]) <;> clear hb
   | simp (maxSteps := 1000000) -implicitDefEqProofs (disch := omega) only [go_sem])
 refine ret_do ?_
 rfl
theorem lalike_spec (g : Gau) (a b : Grd) (m : Nat) (hm : m ≤ 4) (hg : GauOk g) (ha : a.2.length = m) (hb : b.2.length = m) (hwa : Mild a.1) (hwb : Mild b.1) (hca : ∀ i, i < m → Mild (a.2.getD i default)) (hcb : ∀ i, i < m → Mild (b.2.getD i default)) : Ct Tryd.prog 50 [.agg (encGd a), .agg (encGd b), encGa g] (.lit (.bool (alikeR g a b 0))) := by
 have hw := lfar_spec a.1 b.1 hwa hwb
 have hc : ∀ i, i < m → Ct Tryd.prog 90 [int (a.2.getD i default), int (b.2.getD i default)] (int (farR (a.2.getD i default) (b.2.getD i default))) := fun i hi => lfar_spec _ _ (hca i hi) (hcb i hi)
 have hiff := alikeR_iff (g := g) (a := a) (b := b) (k := 0)
 simp only [Int.zero_mul, Int.add_zero] at hiff
 rw [ha] at hiff
 have hno : ¬ (farR a.1 b.1 ≤ g.we ∧ ∀ i, i < m → farR (a.2.getD i default) (b.2.getD i default) ≤ g.cu) → alikeR g a b 0 = false := fun h => by
   cases hh : alikeR g a b 0 with
   | false => rfl
   | true => exact absurd (hiff.1 hh) h
 generalize alikeR g a b 0 = R at *
 generalize farR a.1 b.1 = fw at *
 refine fn_enter Tryd.func50 rfl (by decide) Tryd.results50 Tryd.ntmps50 ?_ rfl (by simp (maxSteps := 1000000) -implicitDefEqProofs (disch := omega) only [go_sem]; rfl) fun base => ?_
 · first | assumption | (simp only [go_sem] <;> assumption) | (simp only [go_sem, *]; done) | (simp [go_sem]; done)
 repeat' (first
   | (with_reducible apply Req_intro); focus (first | omega | assumption | (simp; done))
   | with_reducible (first | apply Req_intro | refine nilT ?_ fun hn => ?_ | apply wk_draw Tryd_mixed | refine drawEnd (by kernel_rfl) ?_)
   | (with_reducible (first | apply condA_if | apply stepDG_ifN | apply stepDG_if | apply stepG_ifN | apply stepG_if)) <;> intro hb <;> (have hif := hb) <;> (try simp only [bo] at hif) <;> (try simp -implicitDefEqProofs (disch := omega) only [go_sem, hb]) <;> clear hb
   | simp (maxSteps := 1000000) -implicitDefEqProofs (disch := omega) only [go_sem])
 all_goals first | exact absurd trivial ‹¬True› | exact absurd ‹false = true› (by decide) | exact absurd ‹true = false› (by decide) | (exfalso; omega) | omega | skip
 first | refine callp hw ?_ | refine calld hw ?_
 try simp (maxSteps := 1000000) -implicitDefEqProofs (disch := omega) only [go_sem]
 repeat' (first
   | (with_reducible apply Req_intro); focus (first | omega | assumption | (simp; done))
   | with_reducible (first | apply Req_intro | refine nilT ?_ fun hn => ?_ | apply wk_draw Tryd_mixed | refine drawEnd (by kernel_rfl) ?_)
   | (with_reducible (first | apply condA_if | apply stepDG_ifN | apply stepDG_if | apply stepG_ifN | apply stepG_if)) <;> intro hb <;> (have hif := hb) <;> (try simp only [bo] at hif) <;> (try simp -implicitDefEqProofs (disch := omega) only [go_sem, hb]) <;> clear hb
   | simp (maxSteps := 1000000) -implicitDefEqProofs (disch := omega) only [go_sem])
 all_goals first | exact absurd trivial ‹¬True› | exact absurd ‹false = true› (by decide) | exact absurd ‹true = false› (by decide) | (exfalso; omega) | omega | skip
 · refine ret_do ?_
   rw [hno (fun h => by omega)]; rfl
 refine loop_at (α := Nat) [6, 7, 25, 26, 27, 28, 29, 30, 31, 32, 33, 34, 35, 36, 37, 38, 39, 40, 41, 42, 43, 44, 45] (fun i => [(7, .lit (.int .i64 i))]) (fun i => i ≤ m ∧ ∀ j, j < i → farR (a.2.getD j default) (b.2.getD j default) ≤ g.cu) (fun i => m - i) 0 (fun x => by simp (maxSteps := 1000000) -implicitDefEqProofs (disch := omega) only [go_sem]; rfl) ?_ ?_ fun x hx => ?_
 · exact weak_do []
 · exact ⟨Nat.zero_le _, fun j hj => by omega⟩
 obtain ⟨hi, hp⟩ := hx
 by_cases hlt : x < m
 · have hcx := hc x hlt
   obtain ⟨fx, hfx⟩ : ∃ fx, farR (a.2.getD x default) (b.2.getD x default) = fx := ⟨_, rfl⟩
   rw [hfx] at hcx
   repeat' (first
     | (with_reducible apply Req_intro); focus (first | omega | assumption | (simp; done))
     | with_reducible (first | apply Req_intro | refine nilT ?_ fun hn => ?_ | apply wk_draw Tryd_mixed | refine drawEnd (by kernel_rfl) ?_)
     | (with_reducible (first | apply condA_if | apply stepDG_ifN | apply stepDG_if | apply stepG_ifN | apply stepG_if)) <;> intro hb <;> (have hif := hb) <;> (try simp only [bo] at hif) <;> (try simp -implicitDefEqProofs (disch := omega) only [go_sem, hb]) <;> clear hb
     | simp (maxSteps := 1000000) -implicitDefEqProofs (disch := omega) only [go_sem])
   all_goals first | exact absurd trivial ‹¬True› | exact absurd ‹false = true› (by decide) | exact absurd ‹true = false› (by decide) | (exfalso; omega) | omega | skip
   first | refine callp hcx ?_ | refine calld hcx ?_
   try simp (maxSteps := 1000000) -implicitDefEqProofs (disch := omega) only [go_sem]
   repeat' (first
     | (with_reducible apply Req_intro); focus (first | omega | assumption | (simp; done))
     | with_reducible (first | apply Req_intro | refine nilT ?_ fun hn => ?_ | apply wk_draw Tryd_mixed | refine drawEnd (by kernel_rfl) ?_)
     | (with_reducible (first | apply condA_if | apply stepDG_ifN | apply stepDG_if | apply stepG_ifN | apply stepG_if)) <;> intro hb <;> (have hif := hb) <;> (try simp only [bo] at hif) <;> (try simp -implicitDefEqProofs (disch := omega) only [go_sem, hb]) <;> clear hb
     | simp (maxSteps := 1000000) -implicitDefEqProofs (disch := omega) only [go_sem])
   all_goals first | exact absurd trivial ‹¬True› | exact absurd ‹false = true› (by decide) | exact absurd ‹true = false› (by decide) | (exfalso; omega) | omega | skip
   · refine ret_do ?_
     rw [hno (fun h => by have := h.2 x hlt; omega)]; rfl
   · refine nxt_w (x + 1) (weak_do []) ?_
     try dsimp only
     refine ⟨by omega, fun j hj => ?_⟩
     rcases Nat.lt_succ_iff_lt_or_eq.1 hj with h | rfl
     · exact hp j h
     · omega
 · repeat' (first
     | (with_reducible apply Req_intro); focus (first | omega | assumption | (simp; done))
     | with_reducible (first | apply Req_intro | refine nilT ?_ fun hn => ?_ | apply wk_draw Tryd_mixed | refine drawEnd (by kernel_rfl) ?_)
     | (with_reducible (first | apply condA_if | apply stepDG_ifN | apply stepDG_if | apply stepG_ifN | apply stepG_if)) <;> intro hb <;> (have hif := hb) <;> (try simp only [bo] at hif) <;> (try simp -implicitDefEqProofs (disch := omega) only [go_sem, hb]) <;> clear hb
     | simp (maxSteps := 1000000) -implicitDefEqProofs (disch := omega) only [go_sem])
   all_goals first | exact absurd trivial ‹¬True› | exact absurd ‹false = true› (by decide) | exact absurd ‹true = false› (by decide) | (exfalso; omega) | omega | skip
   refine ret_do ?_
   rw [hiff.2 ⟨by omega, fun i hi => hp i (by omega)⟩]; rfl
theorem natL_at (l : List Nat) {i : Nat} (h : i < l.length) : (natL l).getD i default = ((l.getD i default : Nat) : Int) := by
 rw [natL, List.getD_eq_getElem?_getD, List.getElem?_map, List.getElem?_eq_getElem h, getD_default h]; rfl
theorem has_spec (l : List Nat) (e : Bool) (n : Nat) (hl : l.length ≤ 100) : Ct Tryd.prog 53 [.sl 1 ((natL l).map encI) e, int n] (.lit (.bool (decide (n ∈ l)))) := by
 have hnl := natL_len l
 refine fn_enter Tryd.func53 rfl (by decide) Tryd.results53 Tryd.ntmps53 ?_ rfl (by simp (maxSteps := 1000000) -implicitDefEqProofs (disch := omega) only [go_sem]; rfl) fun base => ?_
 · first | assumption | (simp only [go_sem] <;> assumption) | (simp only [go_sem, *]; done) | (simp [go_sem]; done)
 repeat' (first
   | (with_reducible apply Req_intro); focus (first | omega | assumption | (simp; done))
   | with_reducible (first | apply Req_intro | refine nilT ?_ fun hn => ?_ | apply wk_draw Tryd_mixed | refine drawEnd (by kernel_rfl) ?_)
   | (with_reducible (first | apply condA_if | apply stepDG_ifN | apply stepDG_if | apply stepG_ifN | apply stepG_if)) <;> intro hb <;> (have hif := hb) <;> (try simp only [bo] at hif) <;> (try simp -implicitDefEqProofs (disch := omega) only [go_sem, hb]) <;> clear hb
   | simp (maxSteps := 1000000) -implicitDefEqProofs (disch := omega) only [go_sem])
 refine loop_at (α := Nat) [4, 5, 6, 7, 8, 9, 10, 11, 12, 13, 14, 15, 16, 17] (fun i => [(5, .lit (.int .i64 i))]) (fun i => i ≤ l.length ∧ n ∉ l.take i) (fun i => l.length - i) 0 (fun x => by simp (maxSteps := 1000000) -implicitDefEqProofs (disch := omega) only [go_sem]; rfl) ?_ ?_ fun x hx => ?_
 · exact weak_do []
 · simp
 obtain ⟨hi, hp⟩ := hx
 by_cases hlt : x < l.length
 · have hg := natL_at l hlt
   have hm := getD_mem hlt
   have ht := take_succ_getD hlt
   generalize l.getD x default = lx at *
   repeat' (first
     | (with_reducible apply Req_intro); focus (first | omega | assumption | (simp; done))
     | with_reducible (first | apply Req_intro | refine nilT ?_ fun hn => ?_ | apply wk_draw Tryd_mixed | refine drawEnd (by kernel_rfl) ?_)
     | (with_reducible (first | apply condA_if | apply stepDG_ifN | apply stepDG_if | apply stepG_ifN | apply stepG_if)) <;> intro hb <;> (have hif := hb) <;> (try simp only [bo] at hif) <;> (try simp -implicitDefEqProofs (disch := omega) only [go_sem, hb, hg]) <;> clear hb
     | simp (maxSteps := 1000000) -implicitDefEqProofs (disch := omega) only [go_sem, hg])
   all_goals first | exact absurd trivial ‹¬True› | exact absurd ‹false = true› (by decide) | exact absurd ‹true = false› (by decide) | (exfalso; omega) | omega | skip
   · refine ret_do ?_
     have : n = lx := by omega
     rw [this, decide_eq_true hm]; rfl
   · refine nxt_w (x + 1) (weak_do []) ?_
     try dsimp only
     refine ⟨by omega, ?_⟩
     rw [ht, List.mem_append, List.mem_singleton]
     rintro (h | h)
     · exact hp h
     · omega
 · repeat' (first
     | (with_reducible apply Req_intro); focus (first | omega | assumption | (simp; done))
     | with_reducible (first | apply Req_intro | refine nilT ?_ fun hn => ?_ | apply wk_draw Tryd_mixed | refine drawEnd (by kernel_rfl) ?_)
     | (with_reducible (first | apply condA_if | apply stepDG_ifN | apply stepDG_if | apply stepG_ifN | apply stepG_if)) <;> intro hb <;> (have hif := hb) <;> (try simp only [bo] at hif) <;> (try simp -implicitDefEqProofs (disch := omega) only [go_sem, hb]) <;> clear hb
     | simp (maxSteps := 1000000) -implicitDefEqProofs (disch := omega) only [go_sem])
   all_goals first | exact absurd trivial ‹¬True› | exact absurd ‹false = true› (by decide) | exact absurd ‹true = false› (by decide) | (exfalso; omega) | omega | skip
   refine ret_do ?_
   rw [List.take_of_length_le (by omega)] at hp
   rw [decide_eq_false hp]; rfl
theorem asc_get {l : List Nat} (h : l.Pairwise (· < ·)) {i : Nat} (hi : i + 1 < l.length) : l.getD i default < l.getD (i + 1) default := by
 rw [getD_default (by omega), getD_default hi]
 exact List.pairwise_iff_getElem.1 h i (i + 1) (by omega) hi (by omega)
theorem marked_spec (l : List Nat) (e : Bool) (n : Nat) (hl : l.length ≤ 100) (hn : ∀ x ∈ l, x < n) (ha : l.Pairwise (· < ·)) : Ct Tryd.prog 52 [.sl 1 ((natL l).map encI) e, int n] (.lit (.bool true)) := by
 have hnl := natL_len l
 refine fn_enter Tryd.func52 rfl (by decide) Tryd.results52 Tryd.ntmps52 ?_ rfl (by simp (maxSteps := 1000000) -implicitDefEqProofs (disch := omega) only [go_sem]; rfl) fun base => ?_
 · first | assumption | (simp only [go_sem] <;> assumption) | (simp only [go_sem, *]; done) | (simp [go_sem]; done)
 repeat' (first
   | (with_reducible apply Req_intro); focus (first | omega | assumption | (simp; done))
   | with_reducible (first | apply Req_intro | refine nilT ?_ fun hn => ?_ | apply wk_draw Tryd_mixed | refine drawEnd (by kernel_rfl) ?_)
   | (with_reducible (first | apply condA_if | apply stepDG_ifN | apply stepDG_if | apply stepG_ifN | apply stepG_if)) <;> intro hb <;> (have hif := hb) <;> (try simp only [bo] at hif) <;> (try simp -implicitDefEqProofs (disch := omega) only [go_sem, hb]) <;> clear hb
   | simp (maxSteps := 1000000) -implicitDefEqProofs (disch := omega) only [go_sem])
 refine loop_at (α := Nat) [4, 5, 6, 7, 8, 9, 10, 11, 12, 13, 14, 15, 16, 17, 18, 19, 20, 21, 22, 23, 24, 25, 26, 27, 28, 29, 30, 31, 32, 33, 34, 35, 36, 37, 38, 39, 40] (fun i => [(5, .lit (.int .i64 i))]) (fun i => i ≤ l.length) (fun i => l.length - i) 0 (fun x => by simp (maxSteps := 1000000) -implicitDefEqProofs (disch := omega) only [go_sem]; rfl) ?_ ?_ fun x hx => ?_
 · exact weak_do []
 · exact Nat.zero_le _
 by_cases hlt : x < l.length
 · have hg := natL_at l hlt
   have hm := hn _ (getD_mem hlt)
   rcases Nat.eq_zero_or_pos x with h0 | h0
   · subst h0
     generalize l.getD 0 default = lx at *
     repeat' (first
       | (with_reducible apply Req_intro); focus (first | omega | assumption | (simp; done))
       | with_reducible (first | apply Req_intro | refine nilT ?_ fun hn => ?_ | apply wk_draw Tryd_mixed | refine drawEnd (by kernel_rfl) ?_)
       | (with_reducible (first | apply condA_if | apply stepDG_ifN | apply stepDG_if | apply stepG_ifN | apply stepG_if)) <;> intro hb <;> (have hif := hb) <;> (try simp only [bo] at hif) <;> (try simp -implicitDefEqProofs (disch := omega) only [go_sem, hb, hg]) <;> clear hb
       | simp (maxSteps := 1000000) -implicitDefEqProofs (disch := omega) only [go_sem, hg])
     all_goals first | exact absurd trivial ‹¬True› | exact absurd ‹false = true› (by decide) | exact absurd ‹true = false› (by decide) | (exfalso; omega) | omega | skip
     refine nxt_w (0 + 1) (weak_do []) ?_
     try dsimp only
     omega
   · obtain ⟨y, rfl⟩ : ∃ y, x = y + 1 := ⟨x - 1, by omega⟩
     have hg2 := natL_at l (show y < l.length by omega)
     have hac := asc_get ha hlt
     generalize l.getD (y + 1) default = lx at *
     generalize l.getD y default = ly at *
     have hy : (((y + 1 : Nat) : Int) - 1).toNat = y := by omega
     repeat' (first
       | (with_reducible apply Req_intro); focus (first | omega | assumption | (simp; done))
       | with_reducible (first | apply Req_intro | refine nilT ?_ fun hn => ?_ | apply wk_draw Tryd_mixed | refine drawEnd (by kernel_rfl) ?_)
       | (with_reducible (first | apply condA_if | apply stepDG_ifN | apply stepDG_if | apply stepG_ifN | apply stepG_if)) <;> intro hb <;> (have hif := hb) <;> (try simp only [bo] at hif) <;> (try simp -implicitDefEqProofs (disch := omega) only [go_sem, hb, hg, hg2, hy]) <;> clear hb
       | simp (maxSteps := 1000000) -implicitDefEqProofs (disch := omega) only [go_sem, hg, hg2, hy])
     all_goals first | exact absurd trivial ‹¬True› | exact absurd ‹false = true› (by decide) | exact absurd ‹true = false› (by decide) | (exfalso; omega) | omega | skip
     refine nxt_w (y + 1 + 1) (weak_do []) ?_
     try dsimp only
     omega
 · repeat' (first
     | (with_reducible apply Req_intro); focus (first | omega | assumption | (simp; done))
     | with_reducible (first | apply Req_intro | refine nilT ?_ fun hn => ?_ | apply wk_draw Tryd_mixed | refine drawEnd (by kernel_rfl) ?_)
     | (with_reducible (first | apply condA_if | apply stepDG_ifN | apply stepDG_if | apply stepG_ifN | apply stepG_if)) <;> intro hb <;> (have hif := hb) <;> (try simp only [bo] at hif) <;> (try simp -implicitDefEqProofs (disch := omega) only [go_sem, hb]) <;> clear hb
     | simp (maxSteps := 1000000) -implicitDefEqProofs (disch := omega) only [go_sem])
   all_goals first | exact absurd trivial ‹¬True› | exact absurd ‹false = true› (by decide) | exact absurd ‹true = false› (by decide) | (exfalso; omega) | omega | skip
   refine ret_do ?_
   rfl
end Go.Aw
end
section
set_option maxRecDepth 20000
set_option maxHeartbeats 4000000
namespace Go.Aw
open Go.RowKit Go.Proofs
theorem asc_getP {l : List (Nat × Nat)} (h : (l.map (·.1)).Pairwise (· < ·)) {i : Nat} (hi : i + 1 < l.length) : (l.getD i default).1 < (l.getD (i + 1) default).1 := by
 rw [getD_default (by omega), getD_default hi]
 have := List.pairwise_iff_getElem.1 h i (i + 1) (by simp; omega) (by simp; omega) (by omega)
 simpa using this
theorem nodup_getP {l : List (Nat × Nat)} (h : (l.map (·.2)).Nodup) {i k : Nat} (hi : i < l.length) (hk : k < i) : (l.getD k default).2 ≠ (l.getD i default).2 := by
 rw [getD_default (by omega), getD_default hi]
 have := List.pairwise_iff_getElem.1 h k i (by simp; omega) (by simp; omega) (by omega)
 simpa using this
theorem apart_spec (ls rs : List Grd) (e1 e2 e : Bool) (l : List (Nat × Nat)) (hl : l.length ≤ 100) (h1 : ∀ p ∈ l, p.1 < ls.length ∧ p.2 < rs.length) (ha : (l.map (·.1)).Pairwise (· < ·)) (hn : (l.map (·.2)).Nodup) : Ct Tryd.prog 48 [encSt ls rs e1 e2, .sl 2 (l.map encP) e] (.lit (.bool true)) := by
 refine fn_enter Tryd.func48 rfl (by decide) Tryd.results48 Tryd.ntmps48 ?_ rfl (by simp (maxSteps := 1000000) -implicitDefEqProofs (disch := omega) only [go_sem]; rfl) fun base => ?_
 · first | assumption | (simp only [go_sem] <;> assumption) | (simp only [go_sem, *]; done) | (simp [go_sem]; done)
 repeat' (first
   | (with_reducible apply Req_intro); focus (first | omega | assumption | (simp; done))
   | with_reducible (first | apply Req_intro | refine nilT ?_ fun hn => ?_ | apply wk_draw Tryd_mixed | refine drawEnd (by kernel_rfl) ?_)
   | (with_reducible (first | apply condA_if | apply stepDG_ifN | apply stepDG_if | apply stepG_ifN | apply stepG_if)) <;> intro hb <;> (have hif := hb) <;> (try simp only [bo] at hif) <;> (try simp -implicitDefEqProofs (disch := omega) only [go_sem, hb]) <;> clear hb
   | simp (maxSteps := 1000000) -implicitDefEqProofs (disch := omega) only [go_sem])
 refine loop_rows (α := Nat) (6 :: [4, 5, 6, 7, 8, 9, 10, 11, 12, 13, 14, 15, 16, 17, 18, 19, 20, 21, 22, 23, 24, 25, 26, 27, 28, 29, 30, 31, 32, 33, 34, 35, 36, 37, 38, 39, 40, 41, 42, 43, 44, 45, 46, 47, 48, 49, 50, 51, 52, 53, 54, 55, 56, 57, 58, 59, 60, 61, 62, 63, 64, 65, 66, 67, 68, 69, 70, 71, 72, 73, 74, 75, 76, 77, 78, 79, 80, 81, 82]) (fun i => [(5, .lit (.int .i64 i))]) (fun i => [(0, some ⟨2, [[.sl 2 (ls.map encGd) e1, .sl 2 (rs.map encGd) e2]], 38, .wr⟩)]) (fun i => i ≤ l.length) (fun i => l.length - i) 0 (fun x => by simp (maxSteps := 1000000) -implicitDefEqProofs (disch := omega) only [go_sem]; rfl) ?_ ?_ fun x hx => ?_
 · exact weak_do3 []
 · exact Nat.zero_le _
 rename Nat => i
 by_cases hlt : i < l.length
 · obtain ⟨b1, b2⟩ := h1 _ (getD_mem hlt)
   have hnd := fun k (hk : k < i) => nodup_getP hn hlt hk
   have hrest : ∀ (Q : Prop), Q → Q := fun _ h => h
   obtain ⟨pa, hpa⟩ : ∃ pa, (l.getD i default).1 = pa := ⟨_, rfl⟩
   obtain ⟨pb, hpb⟩ : ∃ pb, (l.getD i default).2 = pb := ⟨_, rfl⟩
   rw [hpa] at b1
   rw [hpb] at b2
   rcases Nat.eq_zero_or_pos i with h0 | h0
   · subst h0
     repeat' (first
       | (with_reducible apply Req_intro); focus (first | omega | assumption | (simp; done))
       | with_reducible (first | apply Req_intro | refine nilT ?_ fun hn => ?_ | apply wk_draw Tryd_mixed | refine drawEnd (by kernel_rfl) ?_)
       | (with_reducible (first | apply condA_if | apply stepDG_ifN | apply stepDG_if | apply stepG_ifN | apply stepG_if)) <;> intro hb <;> (have hif := hb) <;> (try simp only [bo] at hif) <;> (try simp -implicitDefEqProofs (disch := omega) only [go_sem, hb, hpa, hpb]) <;> clear hb
       | simp (maxSteps := 1000000) -implicitDefEqProofs (disch := omega) only [go_sem, hpa, hpb])
     all_goals first | exact absurd trivial ‹¬True› | exact absurd ‹false = true› (by decide) | exact absurd ‹true = false› (by decide) | (exfalso; omega) | omega | skip
     refine loop_rows (α := Nat) ([4, 6, 67, 68, 69, 70, 71, 72, 73, 74, 75, 76, 77, 78, 79, 80, 81, 82]) (fun k => [(6, .lit (.int .i64 k))]) (fun i => [(0, some ⟨2, [[.sl 2 (ls.map encGd) e1, .sl 2 (rs.map encGd) e2]], 38, .wr⟩)]) (fun k => k ≤ 0) (fun k => 0 - k) 0 (fun x => by simp (maxSteps := 1000000) -implicitDefEqProofs (disch := omega) only [go_sem]; rfl) ?_ ?_ fun x hx => ?_
     · exact weak_do3 []
     · exact Nat.zero_le _
     obtain rfl : x = 0 := by omega
     repeat' (first
       | (with_reducible apply Req_intro); focus (first | omega | assumption | (simp; done))
       | with_reducible (first | apply Req_intro | refine nilT ?_ fun hn => ?_ | apply wk_draw Tryd_mixed | refine drawEnd (by kernel_rfl) ?_)
       | (with_reducible (first | apply condA_if | apply stepDG_ifN | apply stepDG_if | apply stepG_ifN | apply stepG_if)) <;> intro hb <;> (have hif := hb) <;> (try simp only [bo] at hif) <;> (try simp -implicitDefEqProofs (disch := omega) only [go_sem, hb]) <;> clear hb
       | simp (maxSteps := 1000000) -implicitDefEqProofs (disch := omega) only [go_sem])
     all_goals first | exact absurd trivial ‹¬True› | exact absurd ‹false = true› (by decide) | exact absurd ‹true = false› (by decide) | (exfalso; omega) | omega | skip
     with_reducible refine nxt_w (0 + 1) ?_ ?_
     · (try dsimp only)
       skip
       exact weak_do3 []
     try dsimp only
     omega
   · obtain ⟨y, rfl⟩ : ∃ y, i = y + 1 := ⟨i - 1, by omega⟩
     have hac := asc_getP ha hlt
     rw [hpa] at hac
     obtain ⟨pc, hpc⟩ : ∃ pc, (l.getD y default).1 = pc := ⟨_, rfl⟩
     rw [hpc] at hac
     have hy : (((y + 1 : Nat) : Int) - 1).toNat = y := by omega
     repeat' (first
       | (with_reducible apply Req_intro); focus (first | omega | assumption | (simp; done))
       | with_reducible (first | apply Req_intro | refine nilT ?_ fun hn => ?_ | apply wk_draw Tryd_mixed | refine drawEnd (by kernel_rfl) ?_)
       | (with_reducible (first | apply condA_if | apply stepDG_ifN | apply stepDG_if | apply stepG_ifN | apply stepG_if)) <;> intro hb <;> (have hif := hb) <;> (try simp only [bo] at hif) <;> (try simp -implicitDefEqProofs (disch := omega) only [go_sem, hb, hpa, hpb, hy, hpc]) <;> clear hb
       | simp (maxSteps := 1000000) -implicitDefEqProofs (disch := omega) only [go_sem, hpa, hpb, hy, hpc])
     all_goals first | exact absurd trivial ‹¬True› | exact absurd ‹false = true› (by decide) | exact absurd ‹true = false› (by decide) | (exfalso; omega) | omega | skip
     refine loop_rows (α := Nat) ([4, 6, 67, 68, 69, 70, 71, 72, 73, 74, 75, 76, 77, 78, 79, 80, 81, 82]) (fun k => [(6, .lit (.int .i64 k))]) (fun i => [(0, some ⟨2, [[.sl 2 (ls.map encGd) e1, .sl 2 (rs.map encGd) e2]], 38, .wr⟩)]) (fun k => k ≤ y + 1) (fun k => y + 1 - k) 0 (fun x => by simp (maxSteps := 1000000) -implicitDefEqProofs (disch := omega) only [go_sem]; rfl) ?_ ?_ fun x hx => ?_
     · exact weak_do3 []
     · exact Nat.zero_le _
     by_cases hk : x < y + 1
     · have hne := hnd x hk
       rw [hpb] at hne
       obtain ⟨pd, hpd⟩ : ∃ pd, (l.getD x default).2 = pd := ⟨_, rfl⟩
       rw [hpd] at hne
       repeat' (first
         | (with_reducible apply Req_intro); focus (first | omega | assumption | (simp; done))
         | with_reducible (first | apply Req_intro | refine nilT ?_ fun hn => ?_ | apply wk_draw Tryd_mixed | refine drawEnd (by kernel_rfl) ?_)
         | (with_reducible (first | apply condA_if | apply stepDG_ifN | apply stepDG_if | apply stepG_ifN | apply stepG_if)) <;> intro hb <;> (have hif := hb) <;> (try simp only [bo] at hif) <;> (try simp -implicitDefEqProofs (disch := omega) only [go_sem, hb, hpb, hpd]) <;> clear hb
         | simp (maxSteps := 1000000) -implicitDefEqProofs (disch := omega) only [go_sem, hpb, hpd])
       all_goals first | exact absurd trivial ‹¬True› | exact absurd ‹false = true› (by decide) | exact absurd ‹true = false› (by decide) | (exfalso; omega) | omega | skip
       with_reducible refine nxt_w (x + 1) ?_ ?_
       · (try dsimp only)
         skip
         exact weak_do3 []
       try dsimp only
       omega
     · repeat' (first
         | (with_reducible apply Req_intro); focus (first | omega | assumption | (simp; done))
         | with_reducible (first | apply Req_intro | refine nilT ?_ fun hn => ?_ | apply wk_draw Tryd_mixed | refine drawEnd (by kernel_rfl) ?_)
         | (with_reducible (first | apply condA_if | apply stepDG_ifN | apply stepDG_if | apply stepG_ifN | apply stepG_if)) <;> intro hb <;> (have hif := hb) <;> (try simp only [bo] at hif) <;> (try simp -implicitDefEqProofs (disch := omega) only [go_sem, hb]) <;> clear hb
         | simp (maxSteps := 1000000) -implicitDefEqProofs (disch := omega) only [go_sem])
       all_goals first | exact absurd trivial ‹¬True› | exact absurd ‹false = true› (by decide) | exact absurd ‹true = false› (by decide) | (exfalso; omega) | omega | skip
       with_reducible refine nxt_w (y + 1 + 1) ?_ ?_
       · (try dsimp only)
         skip
         exact weak_do3 []
       try dsimp only
       omega
 · repeat' (first
     | (with_reducible apply Req_intro); focus (first | omega | assumption | (simp; done))
     | with_reducible (first | apply Req_intro | refine nilT ?_ fun hn => ?_ | apply wk_draw Tryd_mixed | refine drawEnd (by kernel_rfl) ?_)
     | (with_reducible (first | apply condA_if | apply stepDG_ifN | apply stepDG_if | apply stepG_ifN | apply stepG_if)) <;> intro hb <;> (have hif := hb) <;> (try simp only [bo] at hif) <;> (try simp -implicitDefEqProofs (disch := omega) only [go_sem, hb]) <;> clear hb
     | simp (maxSteps := 1000000) -implicitDefEqProofs (disch := omega) only [go_sem])
   all_goals first | exact absurd trivial ‹¬True› | exact absurd ‹false = true› (by decide) | exact absurd ‹true = false› (by decide) | (exfalso; omega) | omega | skip
   refine ret_do ?_
   rfl
end Go.Aw
end
section
set_option maxRecDepth 20000
set_option maxHeartbeats 4000000
namespace Go.Aw
open Go.RowKit Go.Proofs
theorem RH.shorten {w : World} {own : Nat → Prop} {ok : Nat → Nat → Prop} {s : Nat → Option Nat} {h : Hp} (hr : RH w own ok s h) {id : Nat} {b : Blk} (hb : h id = some b) (hm : b.mode = .wr) (n : Nat) :
   RH w own ok s (upd h id (some { b with es := b.es.take n })) := by
 have hk := hr.blk id b hb
 have key : ∀ i c, upd h id (some { b with es := b.es.take n }) i = some c → (i = id ∧ c = { b with es := b.es.take n }) ∨ (i ≠ id ∧ h i = some c) := fun i c hc => by
   unfold upd at hc
   split at hc
   · rename_i e; cases hc; exact .inl ⟨e, rfl⟩
   · rename_i e; exact .inr ⟨e, hc⟩
 have hle : (b.es.take n).length ≤ b.es.length := by rw [List.length_take]; omega
 refine ⟨hr.okw, hr.ownw, hr.sw, fun i c hc => ?_, fun i1 i2 c1 c2 B h1 h2 m1 m2 e1 e2 => ?_, hr.gl⟩
 · rcases key i c hc with ⟨rfl, rfl⟩ | ⟨_, hc⟩
   · refine ⟨hk.pos, fun e he => hk.len e (List.mem_of_mem_take he), fun hv => ?_, hk.own, fun B hB hnm => ?_, fun B hB i j e d hi hj => ?_, hk.fwr, fun B hB hf => ?_, fun B hB ho => ?_, fun m hmm => ?_, hk.map⟩
     · show b.es.take n = []
       rw [hk.virt hv, List.take_nil]
     · obtain ⟨sz, g1, g2⟩ := hk.shape B hB hnm
       exact ⟨sz, g1, Nat.le_trans (Nat.mul_le_mul_right _ hle) g2⟩
     · have : b.es[i]? = some e := by
         have hi : (b.es.take n)[i]? = some e := hi
         rw [List.getElem?_take] at hi
         split at hi
         · exact hi
         · cases hi
       exact hk.cells B hB i j e d this hj
     · have hf : b.mode = .fz := hf
       rw [hm] at hf; cases hf
     · have ho : b.mode = .old := ho
       rw [hm] at ho; cases ho
     · have hmm : b.mode = .mp m := hmm
       rw [hm] at hmm; cases hmm
   · exact hr.blk i c hc
 · have get : ∀ i c, upd h id (some { b with es := b.es.take n }) i = some c → c.mode ≠ .old → ∃ c', h i = some c' ∧ c'.mode ≠ .old := fun i c hc hmo => by
     rcases key i c hc with ⟨rfl, rfl⟩ | ⟨_, hc⟩
     · exact ⟨b, hb, hmo⟩
     · exact ⟨c, hc, hmo⟩
   obtain ⟨d1, g1, g2⟩ := get i1 c1 h1 m1
   obtain ⟨d2, g3, g4⟩ := get i2 c2 h2 m2
   exact hr.exc i1 i2 d1 d2 B g1 g3 g2 g4 e1 e2
section
variable {P : Program} {g : FuncId} {args' : List V} {r : V} {rows rows' : Wr} {nx m m1 m2 k len l1 l2 nx0 : Nat} {b b1 b2 : Blk}
theorem FreshC.shorten (hf : FreshC P g args' r rows nx) (id : Nat) (b : Blk) (n : Nat) (hm : b.mode = .wr) (hb : ∀ h, applyWr h rows id = some b) (hrows : ∀ h, applyWr h rows' = upd (applyWr h rows) id (some { b with es := b.es.take n })) : FreshC P g args' r rows' nx := by
 intro w own ok s h args vals h1 h2 h3 h4 h5
 refine CallsIn.mono (hf w own ok s h args vals h1 h2 h3 h4 h5) ?_
 rintro e w' ⟨v, own', ok', s', rfl, k1, k2, k3, k4⟩
 exact ⟨v, own', ok', s', rfl, k1, by rw [hrows]; exact k2.shorten (hb h) hm n, k3, k4⟩
theorem freshC_one (hc : OneNew P g args' m k len b nx0) (hbp : PuE b.es = True) (hn : nx0 ≤ 9223372036854775808 := by decide) (hm : m < nx0 := by decide) : FreshC P g args' (.os nx k len false) [(nx, some b)] nx := by
 obtain ⟨rows0, hc, hb⟩ := hc
 have e : rhoD (fun i => if i = 0 then m else nx0) nx nx = m := by simp [rhoD]
 refine CallH.freshC (ρ := fun i => if i = 0 then m else nx0) hc hn (fun a b _ _ hab hlt => ?_) (Ren.osN _ _ rfl e (by omega) (fun h => h)) (fun p hp => ?_)
 · try simp only at hab hlt
   split at hab <;> split at hab <;> simp_all
 · rw [List.mem_singleton] at hp; subst hp
   refine ⟨Nat.le_refl _, by show nx < nx + 64; omega, fun b' hb' => ?_⟩
   cases hb'
   exact ⟨b, by simpa using hb, rfl, rfl, rfl, RenE.pu _ (of_eq_true hbp)⟩
theorem freshC_two (hc : TwoNew P g args' m1 m2 k l1 l2 b1 b2 nx0) (hp1 : PuE b1.es = True) (hp2 : PuE b2.es = True) (hn : nx0 ≤ 9223372036854775808 := by decide) (hm1 : m1 < nx0 := by decide) (hm2 : m2 < nx0 := by decide) (hne : m1 ≠ m2 := by decide) :
   FreshC P g args' (.agg [.os nx k l1 false, .os (nx + 1) k l2 false]) [(nx, some b1), (nx + 1, some b2)] nx := by
 obtain ⟨rows0, hc, hb1, hb2⟩ := hc
 have e1 : rhoD (fun i => if i = 0 then m1 else if i = 1 then m2 else nx0) nx nx = m1 := by simp [rhoD]
 have e2 : rhoD (fun i => if i = 0 then m1 else if i = 1 then m2 else nx0) nx (nx + 1) = m2 := by simp [rhoD]
 refine CallH.freshC (ρ := fun i => if i = 0 then m1 else if i = 1 then m2 else nx0) hc hn (fun a b _ _ hab hlt => ?_)
   (Ren.aggL _ _ (.cons _ _ _ _ (Ren.osN _ _ rfl e1 (by omega) (fun h => h)) (.cons _ _ _ _ (Ren.osN _ _ rfl e2 (by omega) (fun h => h)) .nil))) (fun p hp => ?_)
 · try simp only at hab hlt
   by_cases a0 : a = 0 <;> by_cases a1 : a = 1 <;> by_cases b0 : b = 0 <;> by_cases b1 : b = 1 <;> simp_all <;> omega
 · rcases List.mem_cons.1 hp with rfl | hp
   · refine ⟨Nat.le_refl _, by show nx < nx + 64; omega, fun b' hb' => ?_⟩
     cases hb'
     exact ⟨b1, by simpa using hb1, rfl, rfl, rfl, RenE.pu _ (of_eq_true hp1)⟩
   · rw [List.mem_singleton] at hp; subst hp
     refine ⟨by show nx ≤ nx + 1; omega, by show nx + 1 < nx + 64; omega, fun b' hb' => ?_⟩
     cases hb'
     refine ⟨b2, ?_, rfl, rfl, rfl, RenE.pu _ (of_eq_true hp2)⟩
     have : nx + 1 - nx = 1 := by omega
     simpa [this] using hb2
end
theorem encGd_pu (l : List Grd) : PuE (l.map encGd) = True := by first | assumption | (simp only [go_sem] <;> assumption) | (simp only [go_sem, *]; done) | (simp [go_sem]; done)
theorem own_new (ls rs : List Grd) (e1 e2 : Bool) (hs : StOk ls rs) : TwoNew Tryd.prog 24 [encSt ls rs e1 e2] 256 448 2 ls.length rs.length ⟨2, ls.map encGd, 24, .wr⟩ ⟨2, rs.map encGd, 24, .wr⟩ 640 := by
 have c1 := fun nx => freshC_one (nx := nx) (Copy_new ls e1 hs.l hs.lc) (encGd_pu ls)
 have c2 := fun nx => freshC_one (nx := nx) (Copy_new rs e2 hs.r hs.rc) (encGd_pu rs)
 refine ⟨[(0, some ⟨2, [[.sl 2 (ls.map encGd) e1, .sl 2 (rs.map encGd) e2]], 38, .wr⟩), (64, some ⟨2, [[.os 256 2 ls.length false, .os 448 2 rs.length false]], 38, .wr⟩), (256, some ⟨2, ls.map encGd, 24, .wr⟩), (448, some ⟨2, rs.map encGd, 24, .wr⟩)], ?_, rfl, rfl⟩
 refine callH_enter Tryd.func24 rfl Tryd.results24 Tryd.ntmps24 rfl (by simp (maxSteps := 1000000) -implicitDefEqProofs (disch := omega) only [go_sem]; rfl) fun base => ?_
 repeat' (first
   | (with_reducible apply Req_intro); focus (first | omega | assumption | (simp; done))
   | with_reducible (first | apply Req_intro | refine nilT ?_ fun hn => ?_ | apply wk_draw Tryd_mixed | refine drawEnd (by kernel_rfl) ?_)
   | (with_reducible (first | apply condA_if | apply stepDG_ifN | apply stepDG_if | apply stepG_ifN | apply stepG_if)) <;> intro hb <;> (have hif := hb) <;> (try simp only [bo] at hif) <;> (try simp -implicitDefEqProofs (disch := omega) only [go_sem, hb]) <;> clear hb
   | simp (maxSteps := 1000000) -implicitDefEqProofs (disch := omega) only [go_sem])
 refine call_dn0 (c1 _) ?_ ⟨_, Tryd.func16, by rfl, by decide⟩
 try simp (maxSteps := 1000000) -implicitDefEqProofs (disch := omega) only [go_sem]
 repeat' (first
   | (with_reducible apply Req_intro); focus (first | omega | assumption | (simp; done))
   | with_reducible (first | apply Req_intro | refine nilT ?_ fun hn => ?_ | apply wk_draw Tryd_mixed | refine drawEnd (by kernel_rfl) ?_)
   | (with_reducible (first | apply condA_if | apply stepDG_ifN | apply stepDG_if | apply stepG_ifN | apply stepG_if)) <;> intro hb <;> (have hif := hb) <;> (try simp only [bo] at hif) <;> (try simp -implicitDefEqProofs (disch := omega) only [go_sem, hb]) <;> clear hb
   | simp (maxSteps := 1000000) -implicitDefEqProofs (disch := omega) only [go_sem])
 refine call_dn0 (c2 _) ?_ ⟨_, Tryd.func16, by rfl, by decide⟩
 try simp (maxSteps := 1000000) -implicitDefEqProofs (disch := omega) only [go_sem]
 repeat' (first
   | (with_reducible apply Req_intro); focus (first | omega | assumption | (simp; done))
   | with_reducible (first | apply Req_intro | refine nilT ?_ fun hn => ?_ | apply wk_draw Tryd_mixed | refine drawEnd (by kernel_rfl) ?_)
   | (with_reducible (first | apply condA_if | apply stepDG_ifN | apply stepDG_if | apply stepG_ifN | apply stepG_if)) <;> intro hb <;> (have hif := hb) <;> (try simp only [bo] at hif) <;> (try simp -implicitDefEqProofs (disch := omega) only [go_sem, hb]) <;> clear hb
   | simp (maxSteps := 1000000) -implicitDefEqProofs (disch := omega) only [go_sem])
 refine ret_do ?_
 exact ⟨rfl, rfl, rfl⟩
theorem own_cutR (ls rs : List Grd) (e1 e2 : Bool) (hs : StOk ls rs) (n nx : Nat) : FreshC Tryd.prog 24 [encSt ls rs e1 e2] (.agg [.os nx 2 ls.length false, .os (nx + 1) 2 rs.length false]) [(nx, some ⟨2, ls.map encGd, 24, .wr⟩), (nx + 1, some ⟨2, (rs.take n).map encGd, 24, .wr⟩)] nx := by
 refine (freshC_two (nx := nx) (own_new ls rs e1 e2 hs) (encGd_pu ls) (encGd_pu rs)).shorten (nx + 1) ⟨2, rs.map encGd, 24, .wr⟩ n rfl (fun h => ?_) fun h => ?_
 · simp [applyWr, upd]
 · funext i
   simp only [applyWr, upd, List.map_take]
   split <;> rfl
theorem own_cutL (ls rs : List Grd) (e1 e2 : Bool) (hs : StOk ls rs) (n nx : Nat) : FreshC Tryd.prog 24 [encSt ls rs e1 e2] (.agg [.os nx 2 ls.length false, .os (nx + 1) 2 rs.length false]) [(nx, some ⟨2, (ls.take n).map encGd, 24, .wr⟩), (nx + 1, some ⟨2, rs.map encGd, 24, .wr⟩)] nx := by
 refine (freshC_two (nx := nx) (own_new ls rs e1 e2 hs) (encGd_pu ls) (encGd_pu rs)).shorten nx ⟨2, ls.map encGd, 24, .wr⟩ n rfl (fun h => ?_) fun h => ?_
 · simp [applyWr, upd]
 · funext i
   simp only [applyWr, upd, List.map_take]
   by_cases h1 : i = nx + 1
   · subst h1; simp
   · simp only [if_neg h1]
     by_cases h2 : i = nx
     · simp only [if_pos h2]
     · simp only [if_neg h2]
theorem without_R (ls rs : List Grd) (e1 e2 : Bool) (n : Nat) (hs : StOk ls rs) (hn : n < rs.length) : Ct Tryd.prog 54 [encSt ls rs e1 e2, .lit (.bool true), int n] (encSt ls (rs.eraseIdx n) false false) := by
 have hown := own_spec ls rs e1 e2 hs
 have hcut := own_cutR ls rs e1 e2 hs n
 have htl : (rs.take n).length = n := by rw [List.length_take]; omega
 have hdl : (rs.drop (n + 1)).length = rs.length - (n + 1) := List.length_drop
 have hrl := hs.r
 have hdd : List.take (rs.length - ((n : Int) + 1).toNat) (List.drop ((n : Int) + 1).toNat (List.map encGd rs)) = (rs.drop (n + 1)).map encGd := by
   rw [show ((n : Int) + 1).toNat = n + 1 by omega, ← List.map_drop, ← List.map_take, List.take_of_length_le (by omega)]
 rw [List.eraseIdx_eq_take_drop_succ]
 refine ct_enterZ Tryd.func54 rfl (by decide) Tryd.results54 Tryd.ntmps54 ?_ rfl (by simp (maxSteps := 1000000) -implicitDefEqProofs (disch := omega) only [go_sem]; rfl) fun base => ?_
 · first | assumption | (simp only [go_sem] <;> assumption) | (simp only [go_sem, *]; done) | (simp [go_sem]; done)
 repeat' (first
   | (with_reducible apply Req_intro); focus (first | omega | assumption | (simp; done))
   | with_reducible (first | apply Req_intro | refine nilT ?_ fun hn => ?_ | apply wk_draw Tryd_mixed | refine drawEnd (by kernel_rfl) ?_)
   | (with_reducible (first | apply condA_if | apply stepDG_ifN | apply stepDG_if | apply stepG_ifN | apply stepG_if)) <;> intro hb <;> (have hif := hb) <;> (try simp only [bo] at hif) <;> (try simp -implicitDefEqProofs (disch := omega) only [go_sem, hb]) <;> clear hb
   | simp (maxSteps := 1000000) -implicitDefEqProofs (disch := omega) only [go_sem])
 first | refine callp hown ?_ | refine calld hown ?_
 try simp (maxSteps := 1000000) -implicitDefEqProofs (disch := omega) only [go_sem]
 repeat' (first
   | (with_reducible apply Req_intro); focus (first | omega | assumption | (simp; done))
   | with_reducible (first | apply Req_intro | refine nilT ?_ fun hn => ?_ | apply wk_draw Tryd_mixed | refine drawEnd (by kernel_rfl) ?_)
   | (with_reducible (first | apply condA_if | apply stepDG_ifN | apply stepDG_if | apply stepG_ifN | apply stepG_if)) <;> intro hb <;> (have hif := hb) <;> (try simp only [bo] at hif) <;> (try simp -implicitDefEqProofs (disch := omega) only [go_sem, hb]) <;> clear hb
   | simp (maxSteps := 1000000) -implicitDefEqProofs (disch := omega) only [go_sem])
 all_goals first | exact absurd trivial ‹¬True› | exact absurd ‹false = true› (by decide) | exact absurd ‹true = false› (by decide) | (exfalso; omega) | omega | skip
 refine call_dn0 (hcut _) ?_ ⟨_, Tryd.func24, by rfl, by decide⟩
 try simp (maxSteps := 1000000) -implicitDefEqProofs (disch := omega) only [go_sem]
 repeat' (first
   | (with_reducible apply Req_intro); focus (first | omega | assumption | (simp; done))
   | with_reducible (first | apply Req_intro | refine nilT ?_ fun hn => ?_ | apply wk_draw Tryd_mixed | refine drawEnd (by kernel_rfl) ?_)
   | (with_reducible (first | apply condA_if | apply stepDG_ifN | apply stepDG_if | apply stepG_ifN | apply stepG_if)) <;> intro hb <;> (have hif := hb) <;> (try simp only [bo] at hif) <;> (try simp -implicitDefEqProofs (disch := omega) only [go_sem, hb]) <;> clear hb
   | simp (maxSteps := 1000000) -implicitDefEqProofs (disch := omega) only [go_sem])
 · rw [hdd]
   refine ⟨htl.symm, by rw [List.length_map]; omega, ?_⟩
   rw [rowOk_map]
   intro x _ c hc
   simp only [encGd, List.mem_cons, List.not_mem_nil, or_false] at hc
   rcases hc with rfl | rfl <;> rfl
 · simp only [hdd, ← List.map_append]
   have hll : n + ((rs.drop (n + 1)).map encGd).length = (rs.take n ++ rs.drop (n + 1)).length := by rw [List.length_append, List.length_map, htl]
   rw [hll]
   generalize rs.take n ++ rs.drop (n + 1) = L' at *
   exact retz [1088]
theorem without_L (ls rs : List Grd) (e1 e2 : Bool) (n : Nat) (hs : StOk ls rs) (hn : n < ls.length) : Ct Tryd.prog 54 [encSt ls rs e1 e2, .lit (.bool false), int n] (encSt (ls.eraseIdx n) rs false false) := by
 have hown := own_spec ls rs e1 e2 hs
 have hcut := own_cutL ls rs e1 e2 hs n
 have htl : (ls.take n).length = n := by rw [List.length_take]; omega
 have hdl : (ls.drop (n + 1)).length = ls.length - (n + 1) := List.length_drop
 have hrl := hs.l
 have hdd : List.take (ls.length - ((n : Int) + 1).toNat) (List.drop ((n : Int) + 1).toNat (List.map encGd ls)) = (ls.drop (n + 1)).map encGd := by
   rw [show ((n : Int) + 1).toNat = n + 1 by omega, ← List.map_drop, ← List.map_take, List.take_of_length_le (by omega)]
 rw [List.eraseIdx_eq_take_drop_succ]
 refine ct_enterZ Tryd.func54 rfl (by decide) Tryd.results54 Tryd.ntmps54 ?_ rfl (by simp (maxSteps := 1000000) -implicitDefEqProofs (disch := omega) only [go_sem]; rfl) fun base => ?_
 · first | assumption | (simp only [go_sem] <;> assumption) | (simp only [go_sem, *]; done) | (simp [go_sem]; done)
 repeat' (first
   | (with_reducible apply Req_intro); focus (first | omega | assumption | (simp; done))
   | with_reducible (first | apply Req_intro | refine nilT ?_ fun hn => ?_ | apply wk_draw Tryd_mixed | refine drawEnd (by kernel_rfl) ?_)
   | (with_reducible (first | apply condA_if | apply stepDG_ifN | apply stepDG_if | apply stepG_ifN | apply stepG_if)) <;> intro hb <;> (have hif := hb) <;> (try simp only [bo] at hif) <;> (try simp -implicitDefEqProofs (disch := omega) only [go_sem, hb]) <;> clear hb
   | simp (maxSteps := 1000000) -implicitDefEqProofs (disch := omega) only [go_sem])
 first | refine callp hown ?_ | refine calld hown ?_
 try simp (maxSteps := 1000000) -implicitDefEqProofs (disch := omega) only [go_sem]
 repeat' (first
   | (with_reducible apply Req_intro); focus (first | omega | assumption | (simp; done))
   | with_reducible (first | apply Req_intro | refine nilT ?_ fun hn => ?_ | apply wk_draw Tryd_mixed | refine drawEnd (by kernel_rfl) ?_)
   | (with_reducible (first | apply condA_if | apply stepDG_ifN | apply stepDG_if | apply stepG_ifN | apply stepG_if)) <;> intro hb <;> (have hif := hb) <;> (try simp only [bo] at hif) <;> (try simp -implicitDefEqProofs (disch := omega) only [go_sem, hb]) <;> clear hb
   | simp (maxSteps := 1000000) -implicitDefEqProofs (disch := omega) only [go_sem])
 all_goals first | exact absurd trivial ‹¬True› | exact absurd ‹false = true› (by decide) | exact absurd ‹true = false› (by decide) | (exfalso; omega) | omega | skip
 refine call_dn0 (hcut _) ?_ ⟨_, Tryd.func24, by rfl, by decide⟩
 try simp (maxSteps := 1000000) -implicitDefEqProofs (disch := omega) only [go_sem]
 repeat' (first
   | (with_reducible apply Req_intro); focus (first | omega | assumption | (simp; done))
   | with_reducible (first | apply Req_intro | refine nilT ?_ fun hn => ?_ | apply wk_draw Tryd_mixed | refine drawEnd (by kernel_rfl) ?_)
   | (with_reducible (first | apply condA_if | apply stepDG_ifN | apply stepDG_if | apply stepG_ifN | apply stepG_if)) <;> intro hb <;> (have hif := hb) <;> (try simp only [bo] at hif) <;> (try simp -implicitDefEqProofs (disch := omega) only [go_sem, hb]) <;> clear hb
   | simp (maxSteps := 1000000) -implicitDefEqProofs (disch := omega) only [go_sem])
 · rw [hdd]
   refine ⟨htl.symm, by rw [List.length_map]; omega, ?_⟩
   rw [rowOk_map]
   intro x _ c hc
   simp only [encGd, List.mem_cons, List.not_mem_nil, or_false] at hc
   rcases hc with rfl | rfl <;> rfl
 · simp only [hdd, ← List.map_append]
   have hll : n + ((ls.drop (n + 1)).map encGd).length = (ls.take n ++ ls.drop (n + 1)).length := by rw [List.length_append, List.length_map, htl]
   rw [hll]
   generalize ls.take n ++ ls.drop (n + 1) = L' at *
   exact retz [1088]
end Go.Aw
end
section
set_option maxRecDepth 20000
set_option maxHeartbeats 4000000
namespace Go.Aw
open Go.RowKit Go.Proofs
theorem bit_spec (b : Bool) : Ct Tryd.prog 55 [.lit (.bool b)] (int (if b then 1 else 0)) := by
 cases b <;> (
   refine fn_enter Tryd.func55 rfl (by decide) Tryd.results55 Tryd.ntmps55 ?_ rfl (by simp (maxSteps := 1000000) -implicitDefEqProofs (disch := omega) only [go_sem]; rfl) fun base => ?_
   · first | assumption | (simp only [go_sem] <;> assumption) | (simp only [go_sem, *]; done) | (simp [go_sem]; done)
   repeat' (first
     | (with_reducible apply Req_intro); focus (first | omega | assumption | (simp; done))
     | with_reducible (first | apply Req_intro | refine nilT ?_ fun hn => ?_ | apply wk_draw Tryd_mixed | refine drawEnd (by kernel_rfl) ?_)
     | (with_reducible (first | apply condA_if | apply stepDG_ifN | apply stepDG_if | apply stepG_ifN | apply stepG_if)) <;> intro hb <;> (have hif := hb) <;> (try simp only [bo] at hif) <;> (try simp -implicitDefEqProofs (disch := omega) only [go_sem, hb]) <;> clear hb
     | simp (maxSteps := 1000000) -implicitDefEqProofs (disch := omega) only [go_sem])
   all_goals first | exact absurd trivial ‹¬True› | exact absurd ‹false = true› (by decide) | exact absurd ‹true = false› (by decide) | (exfalso; omega) | omega | skip
   refine ret_do ?_
   try rfl)
theorem twins_spec (g : Gau) (ls rs : List Grd) (m : Nat) (hm1 : 1 ≤ m) (hm4 : m ≤ 4) (hl8 : ls.length ≤ 8) (hr8 : rs.length ≤ 8) (hfl : ∀ x ∈ ls, Fine m x) (hfr : ∀ x ∈ rs, Fine m x) (hgg : gaugeR g = true) : Ct Tryd.prog 56 [encSt ls rs false false, encGa g] (.lit (.bool true)) := by
 have h0 := check_fine hm1 hm4 hl8 hr8 hfl hfr hgg
 have hst : StOk ls rs := ⟨by omega, by omega, fun x hx => by have := (hfl x hx).len; omega, fun x hx => by have := (hfr x hx).len; omega⟩
 have hown := own_spec ls rs false false hst
 have ht := Twins_ok g ls rs false false hst h0
 rw [← twins_eq] at ht
 cases hT : twinsR (tableR g ls rs 2) (fun i j => alikeR g (ls.getD i default) (ls.getD j default) 2) (fun i j => alikeR g (rs.getD i default) (rs.getD j default) 2) with
 | none =>
   rw [hT] at ht
   simp only [twV, List.map_nil] at ht
   refine fn_enter Tryd.func56 rfl (by decide) Tryd.results56 Tryd.ntmps56 ?_ rfl (by simp (maxSteps := 1000000) -implicitDefEqProofs (disch := omega) only [go_sem]; rfl) fun base => ?_
   · first | assumption | (simp only [go_sem] <;> assumption) | (simp only [go_sem, *]; done) | (simp [go_sem]; done)
   repeat' (first
     | (with_reducible apply Req_intro); focus (first | omega | assumption | (simp; done))
     | with_reducible (first | apply Req_intro | refine nilT ?_ fun hn => ?_ | apply wk_draw Tryd_mixed | refine drawEnd (by kernel_rfl) ?_)
     | (with_reducible (first | apply condA_if | apply stepDG_ifN | apply stepDG_if | apply stepG_ifN | apply stepG_if)) <;> intro hb <;> (have hif := hb) <;> (try simp only [bo] at hif) <;> (try simp -implicitDefEqProofs (disch := omega) only [go_sem, hb]) <;> clear hb
     | simp (maxSteps := 1000000) -implicitDefEqProofs (disch := omega) only [go_sem])
   first | refine callp hown ?_ | refine calld hown ?_
   try simp (maxSteps := 1000000) -implicitDefEqProofs (disch := omega) only [go_sem]
   repeat' (first
     | (with_reducible apply Req_intro); focus (first | omega | assumption | (simp; done))
     | with_reducible (first | apply Req_intro | refine nilT ?_ fun hn => ?_ | apply wk_draw Tryd_mixed | refine drawEnd (by kernel_rfl) ?_)
     | (with_reducible (first | apply condA_if | apply stepDG_ifN | apply stepDG_if | apply stepG_ifN | apply stepG_if)) <;> intro hb <;> (have hif := hb) <;> (try simp only [bo] at hif) <;> (try simp -implicitDefEqProofs (disch := omega) only [go_sem, hb]) <;> clear hb
     | simp (maxSteps := 1000000) -implicitDefEqProofs (disch := omega) only [go_sem])
   all_goals first | exact absurd trivial ‹¬True› | exact absurd ‹false = true› (by decide) | exact absurd ‹true = false› (by decide) | (exfalso; omega) | omega | skip
   first | refine callp ht ?_ | refine calld ht ?_
   try simp (maxSteps := 1000000) -implicitDefEqProofs (disch := omega) only [go_sem]
   repeat' (first
     | (with_reducible apply Req_intro); focus (first | omega | assumption | (simp; done))
     | with_reducible (first | apply Req_intro | refine nilT ?_ fun hn => ?_ | apply wk_draw Tryd_mixed | refine drawEnd (by kernel_rfl) ?_)
     | (with_reducible (first | apply condA_if | apply stepDG_ifN | apply stepDG_if | apply stepG_ifN | apply stepG_if)) <;> intro hb <;> (have hif := hb) <;> (try simp only [bo] at hif) <;> (try simp -implicitDefEqProofs (disch := omega) only [go_sem, hb]) <;> clear hb
     | simp (maxSteps := 1000000) -implicitDefEqProofs (disch := omega) only [go_sem])
   all_goals first | exact absurd trivial ‹¬True› | exact absurd ‹false = true› (by decide) | exact absurd ‹true = false› (by decide) | (exfalso; omega) | omega | skip
   refine ret_do ?_
   rfl
 | some pq =>
   obtain ⟨⟨p1, p2⟩, q1, q2⟩ := pq
   obtain ⟨t1, t2, t3, t4, t5, t6, t7, t8, t9, t10, t11⟩ := twins_four hT
   rw [hT] at ht
   simp only [twV] at ht
   simp only at t1 t2 t3 t4 t5 t6 t7 t8 t9 t10 t11
   obtain ⟨four, hf⟩ : ∃ four, four = [ls.getD p1 default, ls.getD q1 default, rs.getD p2 default, rs.getD q2 default] := ⟨_, rfl⟩
   have hf4 : four.length = 4 := by rw [hf]; rfl
   have hff : ∀ i, i < 4 → Fine m (four.getD i default) := fun i hi => by
     have : i = 0 ∨ i = 1 ∨ i = 2 ∨ i = 3 := by omega
     rcases this with rfl | rfl | rfl | rfl <;> rw [hf]
     · exact hfl _ (getD_mem (by omega))
     · exact hfl _ (getD_mem t2)
     · exact hfr _ (getD_mem t3)
     · exact hfr _ (getD_mem t4)
   have hal : ∀ i k, i < 4 → k < i → alikeR g (four.getD i default) (four.getD k default) 2 = true := fun i k hi hk => by
     have hfi := hff i hi
     have hfk := hff k (by omega)
     rw [alikeR_comm g (by rw [hfi.len, hfk.len])]
     have : i = 1 ∧ k = 0 ∨ i = 2 ∧ k = 0 ∨ i = 2 ∧ k = 1 ∨ i = 3 ∧ k = 0 ∨ i = 3 ∧ k = 1 ∨ i = 3 ∧ k = 2 := by omega
     rcases this with ⟨rfl, rfl⟩ | ⟨rfl, rfl⟩ | ⟨rfl, rfl⟩ | ⟨rfl, rfl⟩ | ⟨rfl, rfl⟩ | ⟨rfl, rfl⟩ <;> rw [hf] <;> assumption
   have hrow : [[V.lit (.int .i64 (ls.getD p1 default).1), .sl 1 ((ls.getD p1 default).2.map encI) false], [V.lit (.int .i64 (ls.getD q1 default).1), .sl 1 ((ls.getD q1 default).2.map encI) false], [V.lit (.int .i64 (rs.getD p2 default).1), .sl 1 ((rs.getD p2 default).2.map encI) false], [V.lit (.int .i64 (rs.getD q2 default).1), .sl 1 ((rs.getD q2 default).2.map encI) false]] = four.map encGd := by rw [hf]; rfl
   clear hf
   have hap := apart_spec ls rs false false false [(p1, p2), (q1, q2)] (by simp) (fun p hp => by
     simp only [List.mem_cons, List.not_mem_nil, or_false] at hp
     rcases hp with rfl | rfl
     · exact ⟨by show p1 < _; omega, t3⟩
     · exact ⟨t2, t4⟩) (by simpa using t1) (by simpa using t5)
   refine fn_enter Tryd.func56 rfl (by decide) Tryd.results56 Tryd.ntmps56 ?_ rfl (by simp (maxSteps := 1000000) -implicitDefEqProofs (disch := omega) only [go_sem]; rfl) fun base => ?_
   · first | assumption | (simp only [go_sem] <;> assumption) | (simp only [go_sem, *]; done) | (simp [go_sem]; done)
   repeat' (first
     | (with_reducible apply Req_intro); focus (first | omega | assumption | (simp; done))
     | with_reducible (first | apply Req_intro | refine nilT ?_ fun hn => ?_ | apply wk_draw Tryd_mixed | refine drawEnd (by kernel_rfl) ?_)
     | (with_reducible (first | apply condA_if | apply stepDG_ifN | apply stepDG_if | apply stepG_ifN | apply stepG_if)) <;> intro hb <;> (have hif := hb) <;> (try simp only [bo] at hif) <;> (try simp -implicitDefEqProofs (disch := omega) only [go_sem, hb]) <;> clear hb
     | simp (maxSteps := 1000000) -implicitDefEqProofs (disch := omega) only [go_sem])
   first | refine callp hown ?_ | refine calld hown ?_
   try simp (maxSteps := 1000000) -implicitDefEqProofs (disch := omega) only [go_sem]
   repeat' (first
     | (with_reducible apply Req_intro); focus (first | omega | assumption | (simp; done))
     | with_reducible (first | apply Req_intro | refine nilT ?_ fun hn => ?_ | apply wk_draw Tryd_mixed | refine drawEnd (by kernel_rfl) ?_)
     | (with_reducible (first | apply condA_if | apply stepDG_ifN | apply stepDG_if | apply stepG_ifN | apply stepG_if)) <;> intro hb <;> (have hif := hb) <;> (try simp only [bo] at hif) <;> (try simp -implicitDefEqProofs (disch := omega) only [go_sem, hb]) <;> clear hb
     | simp (maxSteps := 1000000) -implicitDefEqProofs (disch := omega) only [go_sem])
   all_goals first | exact absurd trivial ‹¬True› | exact absurd ‹false = true› (by decide) | exact absurd ‹true = false› (by decide) | (exfalso; omega) | omega | skip
   first | refine callp ht ?_ | refine calld ht ?_
   try simp (maxSteps := 1000000) -implicitDefEqProofs (disch := omega) only [go_sem]
   repeat' (first
     | (with_reducible apply Req_intro); focus (first | omega | assumption | (simp; done))
     | with_reducible (first | apply Req_intro | refine nilT ?_ fun hn => ?_ | apply wk_draw Tryd_mixed | refine drawEnd (by kernel_rfl) ?_)
     | (with_reducible (first | apply condA_if | apply stepDG_ifN | apply stepDG_if | apply stepG_ifN | apply stepG_if)) <;> intro hb <;> (have hif := hb) <;> (try simp only [bo] at hif) <;> (try simp -implicitDefEqProofs (disch := omega) only [go_sem, hb]) <;> clear hb
     | simp (maxSteps := 1000000) -implicitDefEqProofs (disch := omega) only [go_sem])
   all_goals first | exact absurd trivial ‹¬True› | exact absurd ‹false = true› (by decide) | exact absurd ‹true = false› (by decide) | (exfalso; omega) | omega | skip
   first | refine callp hap ?_ | refine calld hap ?_
   try simp (maxSteps := 1000000) -implicitDefEqProofs (disch := omega) only [go_sem]
   repeat' (first
     | (with_reducible apply Req_intro); focus (first | omega | assumption | (simp; done))
     | with_reducible (first | apply Req_intro | refine nilT ?_ fun hn => ?_ | apply wk_draw Tryd_mixed | refine drawEnd (by kernel_rfl) ?_)
     | (with_reducible (first | apply condA_if | apply stepDG_ifN | apply stepDG_if | apply stepG_ifN | apply stepG_if)) <;> intro hb <;> (have hif := hb) <;> (try simp only [bo] at hif) <;> (try simp -implicitDefEqProofs (disch := omega) only [go_sem, hb]) <;> clear hb
     | simp (maxSteps := 1000000) -implicitDefEqProofs (disch := omega) only [go_sem])
   all_goals first | exact absurd trivial ‹¬True› | exact absurd ‹false = true› (by decide) | exact absurd ‹true = false› (by decide) | (exfalso; omega) | omega | skip
   rw [hrow]
   refine loop_rows (α := Nat) (9 :: 11 :: 12 :: 13 :: [4, 8, 9, 10, 11, 12, 13, 72, 73, 74, 75, 76, 77, 78, 79, 80, 81, 82, 83, 84, 85, 86, 87, 88, 89, 90, 91, 92, 93, 94, 95, 96, 97, 98, 99, 100, 101, 102, 103, 104, 105, 106, 107, 108, 109, 110, 111]) (fun i => [(8, .lit (.int .i64 i))]) (fun i => [(0, some ⟨2, [[.sl 2 (ls.map encGd) false, .sl 2 (rs.map encGd) false]], 38, .wr⟩), (64, some ⟨4, [[int g.sc, int g.ga, int g.we, int g.cu]], 26, .wr⟩), (3520, some ⟨2, four.map encGd, 24, .wr⟩)]) (fun i => i ≤ 4) (fun i => 4 - i) 0 (fun x => by simp (maxSteps := 1000000) -implicitDefEqProofs (disch := omega) only [go_sem]; rfl) ?_ ?_ fun x hx => ?_
   · exact weak_do3 []
   · exact Nat.zero_le _
   rename Nat => i
   by_cases hi : i < 4
   · repeat' (first
       | (with_reducible apply Req_intro); focus (first | omega | assumption | (simp; done))
       | with_reducible (first | apply Req_intro | refine nilT ?_ fun hn => ?_ | apply wk_draw Tryd_mixed | refine drawEnd (by kernel_rfl) ?_)
       | (with_reducible (first | apply condA_if | apply stepDG_ifN | apply stepDG_if | apply stepG_ifN | apply stepG_if)) <;> intro hb <;> (have hif := hb) <;> (try simp only [bo] at hif) <;> (try simp -implicitDefEqProofs (disch := omega) only [go_sem, hb]) <;> clear hb
       | simp (maxSteps := 1000000) -implicitDefEqProofs (disch := omega) only [go_sem])
     all_goals first | exact absurd trivial ‹¬True› | exact absurd ‹false = true› (by decide) | exact absurd ‹true = false› (by decide) | (exfalso; omega) | omega | skip
     refine loop_rows (α := Nat) (11 :: 12 :: 13 :: [4, 9, 10, 11, 12, 13, 76, 77, 78, 79, 80, 81, 82, 83, 84, 85, 86, 87, 88, 89, 90, 91, 92, 93, 94, 95, 96, 97, 98, 99, 100, 101, 102, 103, 104, 105, 106, 107, 108, 109, 110, 111]) (fun k => [(9, .lit (.int .i64 k))]) (fun k => [(0, some ⟨2, [[.sl 2 (ls.map encGd) false, .sl 2 (rs.map encGd) false]], 38, .wr⟩), (64, some ⟨4, [[int g.sc, int g.ga, int g.we, int g.cu]], 26, .wr⟩), (3520, some ⟨2, four.map encGd, 24, .wr⟩)]) (fun k => k ≤ i) (fun k => i - k) 0 (fun x => by simp (maxSteps := 1000000) -implicitDefEqProofs (disch := omega) only [go_sem]; rfl) ?_ ?_ fun x hx => ?_
     · exact weak_do3 []
     · exact Nat.zero_le _
     rename Nat => k
     by_cases hk : k < i
     · have hfi := hff i hi
       have hfk := hff k (by omega)
       have hsp := Alike_spec g (four.getD i default) (four.getD k default) (by have := hfi.len; omega) (by have := hfk.len; omega)
       rw [if_pos (chk_two hm1 hm4 hfi hfk hgg), hal i k hi hk] at hsp
       have how := own_spec [four.getD i default, four.getD k default] [] false false ⟨by simp, by simp, fun x hx => by
         simp only [List.mem_cons, List.not_mem_nil, or_false] at hx
         rcases hx with rfl | rfl
         · have := hfi.len; omega
         · have := hfk.len; omega, fun x hx => by cases hx⟩
       generalize alikeR g (four.getD i default) (four.getD k default) (-2) = a3 at *
       repeat' (first
         | (with_reducible apply Req_intro); focus (first | omega | assumption | (simp; done))
         | with_reducible (first | apply Req_intro | refine nilT ?_ fun hn => ?_ | apply wk_draw Tryd_mixed | refine drawEnd (by kernel_rfl) ?_)
         | (with_reducible (first | apply condA_if | apply stepDG_ifN | apply stepDG_if | apply stepG_ifN | apply stepG_if)) <;> intro hb <;> (have hif := hb) <;> (try simp only [bo] at hif) <;> (try simp -implicitDefEqProofs (disch := omega) only [go_sem, hb]) <;> clear hb
         | simp (maxSteps := 1000000) -implicitDefEqProofs (disch := omega) only [go_sem])
       all_goals first | exact absurd trivial ‹¬True› | exact absurd ‹false = true› (by decide) | exact absurd ‹true = false› (by decide) | (exfalso; omega) | omega | skip
       refine calldf 4608 how ?_
       try simp (maxSteps := 1000000) -implicitDefEqProofs (disch := omega) only [go_sem]
       repeat' (first
         | (with_reducible apply Req_intro); focus (first | omega | assumption | (simp; done))
         | with_reducible (first | apply Req_intro | refine nilT ?_ fun hn => ?_ | apply wk_draw Tryd_mixed | refine drawEnd (by kernel_rfl) ?_)
         | (with_reducible (first | apply condA_if | apply stepDG_ifN | apply stepDG_if | apply stepG_ifN | apply stepG_if)) <;> intro hb <;> (have hif := hb) <;> (try simp only [bo] at hif) <;> (try simp -implicitDefEqProofs (disch := omega) only [go_sem, hb]) <;> clear hb
         | simp (maxSteps := 1000000) -implicitDefEqProofs (disch := omega) only [go_sem])
       all_goals first | exact absurd trivial ‹¬True› | exact absurd ‹false = true› (by decide) | exact absurd ‹true = false› (by decide) | (exfalso; omega) | omega | skip
       first | refine callp hsp ?_ | refine calld hsp ?_
       try simp (maxSteps := 1000000) -implicitDefEqProofs (disch := omega) only [go_sem]
       repeat' (first
         | (with_reducible apply Req_intro); focus (first | omega | assumption | (simp; done))
         | with_reducible (first | apply Req_intro | refine nilT ?_ fun hn => ?_ | apply wk_draw Tryd_mixed | refine drawEnd (by kernel_rfl) ?_)
         | (with_reducible (first | apply condA_if | apply stepDG_ifN | apply stepDG_if | apply stepG_ifN | apply stepG_if)) <;> intro hb <;> (have hif := hb) <;> (try simp only [bo] at hif) <;> (try simp -implicitDefEqProofs (disch := omega) only [go_sem, hb]) <;> clear hb
         | simp (maxSteps := 1000000) -implicitDefEqProofs (disch := omega) only [go_sem])
       all_goals first | exact absurd trivial ‹¬True› | exact absurd ‹false = true› (by decide) | exact absurd ‹true = false› (by decide) | (exfalso; omega) | omega | skip
       with_reducible refine nxt_w (k + 1) ?_ ?_
       · (try dsimp only)
         skip
         exact weak_do3 []
       try dsimp only
       omega
     · repeat' (first
         | (with_reducible apply Req_intro); focus (first | omega | assumption | (simp; done))
         | with_reducible (first | apply Req_intro | refine nilT ?_ fun hn => ?_ | apply wk_draw Tryd_mixed | refine drawEnd (by kernel_rfl) ?_)
         | (with_reducible (first | apply condA_if | apply stepDG_ifN | apply stepDG_if | apply stepG_ifN | apply stepG_if)) <;> intro hb <;> (have hif := hb) <;> (try simp only [bo] at hif) <;> (try simp -implicitDefEqProofs (disch := omega) only [go_sem, hb]) <;> clear hb
         | simp (maxSteps := 1000000) -implicitDefEqProofs (disch := omega) only [go_sem])
       all_goals first | exact absurd trivial ‹¬True› | exact absurd ‹false = true› (by decide) | exact absurd ‹true = false› (by decide) | (exfalso; omega) | omega | skip
       with_reducible refine nxt_w (i + 1) ?_ ?_
       · (try dsimp only)
         skip
         exact weak_do3 []
       try dsimp only
       omega
   · repeat' (first
       | (with_reducible apply Req_intro); focus (first | omega | assumption | (simp; done))
       | with_reducible (first | apply Req_intro | refine nilT ?_ fun hn => ?_ | apply wk_draw Tryd_mixed | refine drawEnd (by kernel_rfl) ?_)
       | (with_reducible (first | apply condA_if | apply stepDG_ifN | apply stepDG_if | apply stepG_ifN | apply stepG_if)) <;> intro hb <;> (have hif := hb) <;> (try simp only [bo] at hif) <;> (try simp -implicitDefEqProofs (disch := omega) only [go_sem, hb]) <;> clear hb
       | simp (maxSteps := 1000000) -implicitDefEqProofs (disch := omega) only [go_sem])
     all_goals first | exact absurd trivial ‹¬True› | exact absurd ‹false = true› (by decide) | exact absurd ‹true = false› (by decide) | (exfalso; omega) | omega | skip
     refine ret_do ?_
     rfl
end Go.Aw
end
