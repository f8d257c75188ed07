/-
  A part of the proof that a law returns true for every input that the given row speaks of: an own verified walk over the program (namespace Go.Aw), contracts of the functions that the law calls, and the law itself. Conditions: those of the given row, no other.
-/
import Derived.Test.YtgpeegdinblnoaaDoorPart5
import Derived.Shelf.Lays
import Derived.Shelf.Sort.Plain
import Derived.Shelf.Slices.In.SortNone
import Derived.ReadAgain
import Derived.ChangeSame
import Derived.Test.YtgpeegdinblnoaaDoorTie
import Derived.Test.YtgpeegdinblnoaaDoorCards
import Derived.SevenTiedAt
import Derived.JoinedOf
import Derived.RowKit
import Derived.RowKitTokens
import Derived.LaidLaws
import Derived.Stop.Joined
import Derived.OpenShut
import Derived.ChangeVars
import Derived.ProofKit
import Derived.Lib.SmallJoins
set_option linter.unusedVariables false
set_option linter.unusedSimpArgs false
section
set_option maxRecDepth 20000
set_option maxHeartbeats 4000000
namespace Go.Aw
open Go.RowKit Go.Proofs
theorem one_spec (w c : Int) : Ct Tryd.prog 57 [int w, int c] (.agg (encGd (w, [c]))) := by
 refine ct_enterZ Tryd.func57 rfl (by decide) Tryd.results57 Tryd.ntmps57 ?_ rfl (by simp (maxSteps := 1000000) -implicitDefEqProofs (disch := omega) only [go_sem]; rfl) fun base => ?_
 · first | assumption | (simp only [go_sem] <;> assumption) | (simp only [go_sem, *]; done) | (simp [go_sem]; done)
 repeat' (first
   | (with_reducible apply Req_intro); focus (first | omega | assumption | (simp; done))
   | with_reducible (first | apply Req_intro | refine nilT ?_ fun hn => ?_ | apply wk_draw Tryd_mixed | refine drawEnd (by kernel_rfl) ?_)
   | (with_reducible (first | apply condA_if | apply stepDG_ifN | apply stepDG_if | apply stepG_ifN | apply stepG_if)) <;> intro hb <;> (have hif := hb) <;> (try simp only [bo] at hif) <;> (try simp -implicitDefEqProofs (disch := omega) only [go_sem, hb]) <;> clear hb
   | simp (maxSteps := 1000000) -implicitDefEqProofs (disch := omega) only [go_sem])
 exact retz [192]
theorem gauge_spec (w : Int) : Ct Tryd.prog 58 [int w] (encGa (exG w)) := by
 refine ct_enterZ Tryd.func58 rfl (by decide) Tryd.results58 Tryd.ntmps58 ?_ rfl (by simp (maxSteps := 1000000) -implicitDefEqProofs (disch := omega) only [go_sem]; rfl) fun base => ?_
 · unfold exG; first | assumption | (simp only [go_sem] <;> assumption) | (simp only [go_sem, *]; done) | (simp [go_sem]; done)
 repeat' (first
   | (with_reducible apply Req_intro); focus (first | omega | assumption | (simp; done))
   | with_reducible (first | apply Req_intro | refine nilT ?_ fun hn => ?_ | apply wk_draw Tryd_mixed | refine drawEnd (by kernel_rfl) ?_)
   | (with_reducible (first | apply condA_if | apply stepDG_ifN | apply stepDG_if | apply stepG_ifN | apply stepG_if)) <;> intro hb <;> (have hif := hb) <;> (try simp only [bo] at hif) <;> (try simp -implicitDefEqProofs (disch := omega) only [go_sem, hb]) <;> clear hb
   | simp (maxSteps := 1000000) -implicitDefEqProofs (disch := omega) only [go_sem])
 unfold exG
 exact retz []
theorem pair_spec (a b : Int) : Ct Tryd.prog 51 [int a, int b] (.agg [int a, int b]) := by
 refine ct_enterZ Tryd.func51 rfl (by decide) Tryd.results51 Tryd.ntmps51 ?_ rfl (by simp (maxSteps := 1000000) -implicitDefEqProofs (disch := omega) only [go_sem]; rfl) fun base => ?_
 · first | assumption | (simp only [go_sem] <;> assumption) | (simp only [go_sem, *]; done) | (simp [go_sem]; done)
 repeat' (first
   | (with_reducible apply Req_intro); focus (first | omega | assumption | (simp; done))
   | with_reducible (first | apply Req_intro | refine nilT ?_ fun hn => ?_ | apply wk_draw Tryd_mixed | refine drawEnd (by kernel_rfl) ?_)
   | (with_reducible (first | apply condA_if | apply stepDG_ifN | apply stepDG_if | apply stepG_ifN | apply stepG_if)) <;> intro hb <;> (have hif := hb) <;> (try simp only [bo] at hif) <;> (try simp -implicitDefEqProofs (disch := omega) only [go_sem, hb]) <;> clear hb
   | simp (maxSteps := 1000000) -implicitDefEqProofs (disch := omega) only [go_sem])
 exact retz []
theorem exL_enc : exL.map encGd = [[int 100, .sl 1 [[int 20]] false], [int 104, .sl 1 [[int 24]] false], [int 120, .sl 1 [[int 20]] false]] := rfl
theorem exR_enc : exR.map encGd = [[int 103, .sl 1 [[int 22]] false], [int 101, .sl 1 [[int 20]] false], [int 118, .sl 1 [[int 30]] false]] := rfl
theorem stock_spec : Ct Tryd.prog 59 [] (encSt exL exR false false) := by
 rw [encSt, exL_enc, exR_enc]
 refine ct_enterZ Tryd.func59 rfl (by decide) Tryd.results59 Tryd.ntmps59 ?_ rfl (by simp (maxSteps := 1000000) -implicitDefEqProofs (disch := omega) only [go_sem]; rfl) fun base => ?_
 · first | assumption | (simp only [go_sem] <;> assumption) | (simp only [go_sem, *]; done) | (simp [go_sem]; done)
 repeat' (first
   | (with_reducible apply Req_intro); focus (first | omega | assumption | (simp; done))
   | with_reducible (first | apply Req_intro | refine nilT ?_ fun hn => ?_ | apply wk_draw Tryd_mixed | refine drawEnd (by kernel_rfl) ?_)
   | (with_reducible (first | apply condA_if | apply stepDG_ifN | apply stepDG_if | apply stepG_ifN | apply stepG_if)) <;> intro hb <;> (have hif := hb) <;> (try simp only [bo] at hif) <;> (try simp -implicitDefEqProofs (disch := omega) only [go_sem, hb]) <;> clear hb
   | simp (maxSteps := 1000000) -implicitDefEqProofs (disch := omega) only [go_sem])
 refine callp (one_spec 100 20) ?_
 try simp (maxSteps := 1000000) -implicitDefEqProofs (disch := omega) only [go_sem]
 repeat' (first
   | (with_reducible apply Req_intro); focus (first | omega | assumption | (simp; done))
   | with_reducible (first | apply Req_intro | refine nilT ?_ fun hn => ?_ | apply wk_draw Tryd_mixed | refine drawEnd (by kernel_rfl) ?_)
   | (with_reducible (first | apply condA_if | apply stepDG_ifN | apply stepDG_if | apply stepG_ifN | apply stepG_if)) <;> intro hb <;> (have hif := hb) <;> (try simp only [bo] at hif) <;> (try simp -implicitDefEqProofs (disch := omega) only [go_sem, hb]) <;> clear hb
   | simp (maxSteps := 1000000) -implicitDefEqProofs (disch := omega) only [go_sem])
 refine callp (one_spec 104 24) ?_
 try simp (maxSteps := 1000000) -implicitDefEqProofs (disch := omega) only [go_sem]
 repeat' (first
   | (with_reducible apply Req_intro); focus (first | omega | assumption | (simp; done))
   | with_reducible (first | apply Req_intro | refine nilT ?_ fun hn => ?_ | apply wk_draw Tryd_mixed | refine drawEnd (by kernel_rfl) ?_)
   | (with_reducible (first | apply condA_if | apply stepDG_ifN | apply stepDG_if | apply stepG_ifN | apply stepG_if)) <;> intro hb <;> (have hif := hb) <;> (try simp only [bo] at hif) <;> (try simp -implicitDefEqProofs (disch := omega) only [go_sem, hb]) <;> clear hb
   | simp (maxSteps := 1000000) -implicitDefEqProofs (disch := omega) only [go_sem])
 refine callp (one_spec 120 20) ?_
 try simp (maxSteps := 1000000) -implicitDefEqProofs (disch := omega) only [go_sem]
 repeat' (first
   | (with_reducible apply Req_intro); focus (first | omega | assumption | (simp; done))
   | with_reducible (first | apply Req_intro | refine nilT ?_ fun hn => ?_ | apply wk_draw Tryd_mixed | refine drawEnd (by kernel_rfl) ?_)
   | (with_reducible (first | apply condA_if | apply stepDG_ifN | apply stepDG_if | apply stepG_ifN | apply stepG_if)) <;> intro hb <;> (have hif := hb) <;> (try simp only [bo] at hif) <;> (try simp -implicitDefEqProofs (disch := omega) only [go_sem, hb]) <;> clear hb
   | simp (maxSteps := 1000000) -implicitDefEqProofs (disch := omega) only [go_sem])
 refine callp (one_spec 103 22) ?_
 try simp (maxSteps := 1000000) -implicitDefEqProofs (disch := omega) only [go_sem]
 repeat' (first
   | (with_reducible apply Req_intro); focus (first | omega | assumption | (simp; done))
   | with_reducible (first | apply Req_intro | refine nilT ?_ fun hn => ?_ | apply wk_draw Tryd_mixed | refine drawEnd (by kernel_rfl) ?_)
   | (with_reducible (first | apply condA_if | apply stepDG_ifN | apply stepDG_if | apply stepG_ifN | apply stepG_if)) <;> intro hb <;> (have hif := hb) <;> (try simp only [bo] at hif) <;> (try simp -implicitDefEqProofs (disch := omega) only [go_sem, hb]) <;> clear hb
   | simp (maxSteps := 1000000) -implicitDefEqProofs (disch := omega) only [go_sem])
 refine callp (one_spec 101 20) ?_
 try simp (maxSteps := 1000000) -implicitDefEqProofs (disch := omega) only [go_sem]
 repeat' (first
   | (with_reducible apply Req_intro); focus (first | omega | assumption | (simp; done))
   | with_reducible (first | apply Req_intro | refine nilT ?_ fun hn => ?_ | apply wk_draw Tryd_mixed | refine drawEnd (by kernel_rfl) ?_)
   | (with_reducible (first | apply condA_if | apply stepDG_ifN | apply stepDG_if | apply stepG_ifN | apply stepG_if)) <;> intro hb <;> (have hif := hb) <;> (try simp only [bo] at hif) <;> (try simp -implicitDefEqProofs (disch := omega) only [go_sem, hb]) <;> clear hb
   | simp (maxSteps := 1000000) -implicitDefEqProofs (disch := omega) only [go_sem])
 refine callp (one_spec 118 30) ?_
 try simp (maxSteps := 1000000) -implicitDefEqProofs (disch := omega) only [go_sem]
 repeat' (first
   | (with_reducible apply Req_intro); focus (first | omega | assumption | (simp; done))
   | with_reducible (first | apply Req_intro | refine nilT ?_ fun hn => ?_ | apply wk_draw Tryd_mixed | refine drawEnd (by kernel_rfl) ?_)
   | (with_reducible (first | apply condA_if | apply stepDG_ifN | apply stepDG_if | apply stepG_ifN | apply stepG_if)) <;> intro hb <;> (have hif := hb) <;> (try simp only [bo] at hif) <;> (try simp -implicitDefEqProofs (disch := omega) only [go_sem, hb]) <;> clear hb
   | simp (maxSteps := 1000000) -implicitDefEqProofs (disch := omega) only [go_sem])
 exact retz [256, 512]
theorem rInts_spec (a b : List Int) (ea eb : Bool) (ha : a.length ≤ 4611686018427387904) (hb : b.length ≤ 4611686018427387904) : Ct Tryd.prog 36 [.sl 1 (a.map encI) ea, .sl 1 (b.map encI) eb] (.lit (.bool (a == b))) := by
 refine fn_enter Tryd.func36 rfl (by decide) Tryd.results36 Tryd.ntmps36 ?_ rfl (by simp (maxSteps := 1000000) -implicitDefEqProofs (disch := omega) only [go_sem]; rfl) fun base => ?_
 · simp
 repeat' (first
   | (with_reducible apply Req_intro); focus (first | omega | assumption | (simp; done))
   | with_reducible (first | apply Req_intro | refine nilT ?_ fun hn => ?_ | apply wk_draw Tryd_mixed | refine drawEnd (by kernel_rfl) ?_)
   | (with_reducible (first | apply condA_if | apply stepDG_ifN | apply stepDG_if | apply stepG_ifN | apply stepG_if)) <;> intro hb <;> (have hif := hb) <;> (try simp only [bo] at hif) <;> (try simp -implicitDefEqProofs (disch := omega) only [go_sem, hb]) <;> clear hb
   | simp (maxSteps := 1000000) -implicitDefEqProofs (disch := omega) only [go_sem])
 · refine ret_do ?_
   have : (a == b) = false := by rw [beq_eq_false_iff_ne]; intro e; subst e; exact hif rfl
   rw [this]; rfl
 refine loop_at (α := Nat) [4, 5, 11, 12, 13, 14, 15, 16, 17, 18, 19, 20, 21, 22, 23, 24, 25] (fun i => [(5, .lit (.int .i64 i))]) (fun i => i ≤ a.length ∧ a.take i = b.take i) (fun i => a.length - i) 0 (fun x => by simp (maxSteps := 1000000) -implicitDefEqProofs (disch := omega) only [go_sem]; rfl) ?_ ?_ fun x hx => ?_
 · exact weak_do []
 · simp
 obtain ⟨hi, he⟩ := hx
 repeat' (first
   | (with_reducible apply Req_intro); focus (first | omega | assumption | (simp; done))
   | with_reducible (first | apply Req_intro | refine nilT ?_ fun hn => ?_ | apply wk_draw Tryd_mixed | refine drawEnd (by kernel_rfl) ?_)
   | (with_reducible (first | apply condA_if | apply stepDG_ifN | apply stepDG_if | apply stepG_ifN | apply stepG_if)) <;> intro hb <;> (have hif := hb) <;> (try simp only [bo] at hif) <;> (try simp -implicitDefEqProofs (disch := omega) only [go_sem, hb]) <;> clear hb
   | simp (maxSteps := 1000000) -implicitDefEqProofs (disch := omega) only [go_sem])
 · refine ret_do ?_
   have : (a == b) = false := by rw [beq_eq_false_iff_ne]; intro e; subst e; exact hif rfl
   rw [this]; rfl
 · refine nxt_w (x + 1) (weak_do []) ?_
   try dsimp only
   refine ⟨by omega, ?_⟩
   rw [take_succ_getD (by omega), take_succ_getD (by omega), he, hif]
 · refine ret_do ?_
   have : a = b := by
     rw [List.take_of_length_le (by omega), List.take_of_length_le (by omega)] at he; exact he
   subst this; simp; rfl
@[go_sem] theorem eqGuardP : Tryd.prog.eqGuardType Tryd.prog.depth 85 = false := by kernel_rfl
@[go_sem] theorem eqCells_P (x y z w : Int) : eqCells (Tryd.prog) 10000 85 [.lit (.int .i64 x), .lit (.int .i64 y)] [.lit (.int .i64 z), .lit (.int .i64 w)] = some ((x == z) && (y == w)) := by
 have h : eqCells (Tryd.prog) 10000 85 [.lit (.int .i64 x), .lit (.int .i64 y)] [.lit (.int .i64 z), .lit (.int .i64 w)] = some ((x == z) && ((y == w) && true)) := by kernel_rfl
 rw [h, Bool.and_true]
theorem rAll_spec (a b : List (Nat × Nat)) (ea eb : Bool) (ha : a.length ≤ 4611686018427387904) (hb : b.length ≤ 4611686018427387904) : Ct Tryd.prog 30 [.sl 2 (a.map encP) ea, .sl 2 (b.map encP) eb] (.lit (.bool (a == b))) := by
 refine fn_enter Tryd.func30 rfl (by decide) Tryd.results30 Tryd.ntmps30 ?_ rfl (by simp (maxSteps := 1000000) -implicitDefEqProofs (disch := omega) only [go_sem]; rfl) fun base => ?_
 · simp
 repeat' (first
   | (with_reducible apply Req_intro); focus (first | omega | assumption | (simp; done))
   | with_reducible (first | apply Req_intro | refine nilT ?_ fun hn => ?_ | apply wk_draw Tryd_mixed | refine drawEnd (by kernel_rfl) ?_)
   | (with_reducible (first | apply condA_if | apply stepDG_ifN | apply stepDG_if | apply stepG_ifN | apply stepG_if)) <;> intro hb <;> (have hif := hb) <;> (try simp only [bo] at hif) <;> (try simp -implicitDefEqProofs (disch := omega) only [go_sem, hb]) <;> clear hb
   | simp (maxSteps := 1000000) -implicitDefEqProofs (disch := omega) only [go_sem])
 · refine ret_do ?_
   have : (a == b) = false := by rw [beq_eq_false_iff_ne]; intro e; subst e; exact hif rfl
   rw [this]; rfl
 refine loop_at (α := Nat) [4, 5, 11, 12, 13, 14, 15, 16, 17, 18, 19, 20, 21, 22, 23, 24, 25] (fun i => [(5, .lit (.int .i64 i))]) (fun i => i ≤ a.length ∧ a.take i = b.take i) (fun i => a.length - i) 0 (fun x => by simp (maxSteps := 1000000) -implicitDefEqProofs (disch := omega) only [go_sem]; rfl) ?_ ?_ fun x hx => ?_
 · exact weak_do []
 · simp
 obtain ⟨hi, he⟩ := hx
 repeat' (first
   | (with_reducible apply Req_intro); focus (first | omega | assumption | (simp; done))
   | with_reducible (first | apply Req_intro | refine nilT ?_ fun hn => ?_ | apply wk_draw Tryd_mixed | refine drawEnd (by kernel_rfl) ?_)
   | (with_reducible (first | apply condA_if | apply stepDG_ifN | apply stepDG_if | apply stepG_ifN | apply stepG_if)) <;> intro hb <;> (have hif := hb) <;> (try simp only [bo] at hif) <;> (try simp -implicitDefEqProofs (disch := omega) only [go_sem, hb]) <;> clear hb
   | simp (maxSteps := 1000000) -implicitDefEqProofs (disch := omega) only [go_sem])
 · refine ret_do ?_
   have : (a == b) = false := by
     rw [beq_eq_false_iff_ne]; intro e; subst e
     exact hif rfl rfl
   rw [this]; rfl
 · refine nxt_w (x + 1) (weak_do []) ?_
   try dsimp only
   refine ⟨by omega, ?_⟩
   rw [take_succ_getD (by omega), take_succ_getD (by omega), he, show a.getD x default = b.getD x default from Prod.ext (by omega) (by omega)]
 · refine ret_do ?_
   have : a = b := by
     rw [List.take_of_length_le (by omega), List.take_of_length_le (by omega)] at he; exact he
   subst this; simp; rfl
end Go.Aw
end
section
set_option maxRecDepth 20000
set_option maxHeartbeats 4000000
namespace Go.Aw
open Go.RowKit Go.Proofs
theorem ex_st : StOk exL exR := ⟨by decide, by decide, by decide, by decide⟩
theorem ex_chk5 : checkS (exG 5) exL exR = 0 := by decide +kernel
theorem ex_chk6 : checkS (exG 6) exL exR = 0 := by decide +kernel
theorem kAlike : Ct Tryd.prog 17 [.agg (encGd (100, [20])), .agg (encGd (104, [24])), encGa (exG 5)] (.tup [.lit (.bool false), .lit (.bool true), int 0]) := by
 have h := Alike_spec (exG 5) (100, [20]) (104, [24]) (by decide) (by decide)
 rwa [if_pos (show chkR (exG 5) [(100, [20]), (104, [24])] = 0 by decide +kernel), show alikeR (exG 5) (100, [20]) (104, [24]) 2 = false by decide +kernel, show alikeR (exG 5) (100, [20]) (104, [24]) (-2) = true by decide +kernel] at h
theorem kPairs : Ct Tryd.prog 26 [encSt exL exR false false, encGa (exG 5)] (.tup [.sl 2 ([(0, 0), (1, 1)].map encP) false, int 0]) := by
 have h := Pairs_ok (exG 5) exL exR false false ex_st ex_chk5
 rwa [ex1] at h
theorem kPossible : Ct Tryd.prog 27 [encSt exL exR false false, encGa (exG 5)] (.tup [int 2, int 0]) := by
 have h := Possible_ok (exG 5) exL exR false false ex_st ex_chk5
 rwa [ex2] at h
theorem kCover : Ct Tryd.prog 34 [encSt exL exR false false, encGa (exG 5)] (.tup [.sl 1 (([] : List Int).map encI) false, .sl 1 (([0, 1] : List Int).map encI) false, int 0]) := by
 have h := Cover_ok (exG 5) exL exR false false ex_st ex_chk5
 rwa [ex3.1, ex3.2, show bitsL 0 = [] from bitsL_zero] at h
theorem kSpare : Ct Tryd.prog 37 [encSt exL exR false false, encGa (exG 5)] (.tup [.sl 1 (([2] : List Int).map encI) false, .sl 1 (([2] : List Int).map encI) false, int 0]) := by
 have h := Spare_ok (exG 5) exL exR false false ex_st ex_chk5
 rwa [ex4.1, show exR.length = 3 from rfl, ex4.2] at h
theorem kTwins : Ct Tryd.prog 39 [encSt exL exR false false, encGa (exG 6)] (.tup [.sl 2 ([(0, 0), (1, 1)].map encP) false, int 0]) := by
 have h := Twins_ok (exG 6) exL exR false false ex_st ex_chk6
 rwa [← twins_eq, ex5] at h
theorem kCut : Ct Tryd.prog 41 [encSt exL exR false false, encGa (exG 5)] (.tup [int 2, int 3, int 0]) := by
 have h := Cut_ok (exG 5) exL exR false false ex_st ex_chk5
 rwa [cutV, show exL.length = 3 from rfl, ex6, if_neg (by decide +kernel)] at h
theorem kLook : Ct Tryd.prog 43 [encSt exL exR false false, encGa (exG 5)] (.tup [.lit (.bool false), int 0, int 0, int 7]) := by
 have h := Look_ok (exG 5) exL exR false false ex_st ex_chk5
 rwa [lookV, show exR.length = 3 from rfl, if_pos ex7] at h
theorem kBalance : Ct Tryd.prog 45 [encSt exL exR false false, encGa (exG 5)] (.tup [.sl 2 ([(0, 1), (1, 0), (2, 2)].map encP) false, int 2, int 0]) := by
 have hd : isort (diffs exL exR) = [0, 1, 1, 2, 3, 3, 14, 17, 18, 19] := by decide +kernel
 have h := Balance_ok (exG 5) exL exR false false ex_st ex_chk5 rfl (isort (diffs exL exR)) (isort_len _) (fun x hx => by
   rw [← List.count_pos_iff, isort_count, List.count_pos_iff] at hx
   exact hx) (Sort_spec _ (by decide))
 rwa [hd, ex8] at h
theorem kCheck : Ct Tryd.prog 25 [encSt exL exR false false, encGa ⟨-1, 0, 0, 0⟩] (int 3) := by
 have h := Check_st ⟨-1, 0, 0, 0⟩ false false ex_st
 rwa [show checkS ⟨-1, 0, 0, 0⟩ exL exR = 3 by decide +kernel] at h
end Go.Aw
end
section
set_option maxRecDepth 20000
set_option maxHeartbeats 4000000
namespace Go.Aw
open Go.RowKit Go.Proofs
theorem kAll (l : List (Nat × Nat)) (e f : Bool) (hl : l.length ≤ 10) : Ct Tryd.prog 30 [.sl 2 (l.map encP) e, .sl 2 (l.map encP) f] (.lit (.bool true)) := by
 have h := rAll_spec l l e f (by omega) (by omega)
 rwa [beq_self_eq_true] at h
theorem kInts (l : List Int) (e f : Bool) (hl : l.length ≤ 10) : Ct Tryd.prog 36 [.sl 1 (l.map encI) e, .sl 1 (l.map encI) f] (.lit (.bool true)) := by
 have h := rInts_spec l l e f (by omega) (by omega)
 rwa [beq_self_eq_true] at h
theorem gknown_spec : Ct Tryd.prog 15 [] (.lit (.bool true)) := by
 refine fn_enter Tryd.func15 rfl (by decide) Tryd.results15 Tryd.ntmps15 ?_ rfl (by simp (maxSteps := 1000000) -implicitDefEqProofs (disch := omega) only [go_sem]; rfl) fun base => ?_
 · first | assumption | (simp only [go_sem] <;> assumption) | (simp only [go_sem, *]; done) | (simp [go_sem]; done)
 repeat' (first
   | (with_reducible apply Req_intro); focus (first | omega | assumption | (simp; done))
   | with_reducible (first | apply Req_intro | refine nilT ?_ fun hn => ?_ | apply wk_draw Tryd_mixed | refine drawEnd (by kernel_rfl) ?_)
   | (with_reducible (first | apply condA_if | apply stepDG_ifN | apply stepDG_if | apply stepG_ifN | apply stepG_if)) <;> intro hb <;> (have hif := hb) <;> (try simp only [bo] at hif) <;> (try simp -implicitDefEqProofs (disch := omega) only [go_sem, hb]) <;> clear hb
   | simp (maxSteps := 1000000) -implicitDefEqProofs (disch := omega) only [go_sem])
 refine callp (one_spec 100 20) ?_
 try simp (maxSteps := 1000000) -implicitDefEqProofs (disch := omega) only [go_sem]
 repeat' (first
   | (with_reducible apply Req_intro); focus (first | omega | assumption | (simp; done))
   | with_reducible (first | apply Req_intro | refine nilT ?_ fun hn => ?_ | apply wk_draw Tryd_mixed | refine drawEnd (by kernel_rfl) ?_)
   | (with_reducible (first | apply condA_if | apply stepDG_ifN | apply stepDG_if | apply stepG_ifN | apply stepG_if)) <;> intro hb <;> (have hif := hb) <;> (try simp only [bo] at hif) <;> (try simp -implicitDefEqProofs (disch := omega) only [go_sem, hb]) <;> clear hb
   | simp (maxSteps := 1000000) -implicitDefEqProofs (disch := omega) only [go_sem])
 refine callp (one_spec 104 24) ?_
 try simp (maxSteps := 1000000) -implicitDefEqProofs (disch := omega) only [go_sem]
 repeat' (first
   | (with_reducible apply Req_intro); focus (first | omega | assumption | (simp; done))
   | with_reducible (first | apply Req_intro | refine nilT ?_ fun hn => ?_ | apply wk_draw Tryd_mixed | refine drawEnd (by kernel_rfl) ?_)
   | (with_reducible (first | apply condA_if | apply stepDG_ifN | apply stepDG_if | apply stepG_ifN | apply stepG_if)) <;> intro hb <;> (have hif := hb) <;> (try simp only [bo] at hif) <;> (try simp -implicitDefEqProofs (disch := omega) only [go_sem, hb]) <;> clear hb
   | simp (maxSteps := 1000000) -implicitDefEqProofs (disch := omega) only [go_sem])
 refine callp (gauge_spec 5) ?_
 try simp (maxSteps := 1000000) -implicitDefEqProofs (disch := omega) only [go_sem]
 repeat' (first
   | (with_reducible apply Req_intro); focus (first | omega | assumption | (simp; done))
   | with_reducible (first | apply Req_intro | refine nilT ?_ fun hn => ?_ | apply wk_draw Tryd_mixed | refine drawEnd (by kernel_rfl) ?_)
   | (with_reducible (first | apply condA_if | apply stepDG_ifN | apply stepDG_if | apply stepG_ifN | apply stepG_if)) <;> intro hb <;> (have hif := hb) <;> (try simp only [bo] at hif) <;> (try simp -implicitDefEqProofs (disch := omega) only [go_sem, hb]) <;> clear hb
   | simp (maxSteps := 1000000) -implicitDefEqProofs (disch := omega) only [go_sem])
 refine callp kAlike ?_
 try simp (maxSteps := 1000000) -implicitDefEqProofs (disch := omega) only [go_sem]
 repeat' (first
   | (with_reducible apply Req_intro); focus (first | omega | assumption | (simp; done))
   | with_reducible (first | apply Req_intro | refine nilT ?_ fun hn => ?_ | apply wk_draw Tryd_mixed | refine drawEnd (by kernel_rfl) ?_)
   | (with_reducible (first | apply condA_if | apply stepDG_ifN | apply stepDG_if | apply stepG_ifN | apply stepG_if)) <;> intro hb <;> (have hif := hb) <;> (try simp only [bo] at hif) <;> (try simp -implicitDefEqProofs (disch := omega) only [go_sem, hb]) <;> clear hb
   | simp (maxSteps := 1000000) -implicitDefEqProofs (disch := omega) only [go_sem])
 refine callp stock_spec ?_
 try simp (maxSteps := 1000000) -implicitDefEqProofs (disch := omega) only [go_sem]
 repeat' (first
   | (with_reducible apply Req_intro); focus (first | omega | assumption | (simp; done))
   | with_reducible (first | apply Req_intro | refine nilT ?_ fun hn => ?_ | apply wk_draw Tryd_mixed | refine drawEnd (by kernel_rfl) ?_)
   | (with_reducible (first | apply condA_if | apply stepDG_ifN | apply stepDG_if | apply stepG_ifN | apply stepG_if)) <;> intro hb <;> (have hif := hb) <;> (try simp only [bo] at hif) <;> (try simp -implicitDefEqProofs (disch := omega) only [go_sem, hb]) <;> clear hb
   | simp (maxSteps := 1000000) -implicitDefEqProofs (disch := omega) only [go_sem])
 refine callp (gauge_spec 5) ?_
 try simp (maxSteps := 1000000) -implicitDefEqProofs (disch := omega) only [go_sem]
 repeat' (first
   | (with_reducible apply Req_intro); focus (first | omega | assumption | (simp; done))
   | with_reducible (first | apply Req_intro | refine nilT ?_ fun hn => ?_ | apply wk_draw Tryd_mixed | refine drawEnd (by kernel_rfl) ?_)
   | (with_reducible (first | apply condA_if | apply stepDG_ifN | apply stepDG_if | apply stepG_ifN | apply stepG_if)) <;> intro hb <;> (have hif := hb) <;> (try simp only [bo] at hif) <;> (try simp -implicitDefEqProofs (disch := omega) only [go_sem, hb]) <;> clear hb
   | simp (maxSteps := 1000000) -implicitDefEqProofs (disch := omega) only [go_sem])
 refine callp kPairs ?_
 try simp (maxSteps := 1000000) -implicitDefEqProofs (disch := omega) only [go_sem]
 repeat' (first
   | (with_reducible apply Req_intro); focus (first | omega | assumption | (simp; done))
   | with_reducible (first | apply Req_intro | refine nilT ?_ fun hn => ?_ | apply wk_draw Tryd_mixed | refine drawEnd (by kernel_rfl) ?_)
   | (with_reducible (first | apply condA_if | apply stepDG_ifN | apply stepDG_if | apply stepG_ifN | apply stepG_if)) <;> intro hb <;> (have hif := hb) <;> (try simp only [bo] at hif) <;> (try simp -implicitDefEqProofs (disch := omega) only [go_sem, hb]) <;> clear hb
   | simp (maxSteps := 1000000) -implicitDefEqProofs (disch := omega) only [go_sem])
 refine callp stock_spec ?_
 try simp (maxSteps := 1000000) -implicitDefEqProofs (disch := omega) only [go_sem]
 repeat' (first
   | (with_reducible apply Req_intro); focus (first | omega | assumption | (simp; done))
   | with_reducible (first | apply Req_intro | refine nilT ?_ fun hn => ?_ | apply wk_draw Tryd_mixed | refine drawEnd (by kernel_rfl) ?_)
   | (with_reducible (first | apply condA_if | apply stepDG_ifN | apply stepDG_if | apply stepG_ifN | apply stepG_if)) <;> intro hb <;> (have hif := hb) <;> (try simp only [bo] at hif) <;> (try simp -implicitDefEqProofs (disch := omega) only [go_sem, hb]) <;> clear hb
   | simp (maxSteps := 1000000) -implicitDefEqProofs (disch := omega) only [go_sem])
 refine callp (gauge_spec 5) ?_
 try simp (maxSteps := 1000000) -implicitDefEqProofs (disch := omega) only [go_sem]
 repeat' (first
   | (with_reducible apply Req_intro); focus (first | omega | assumption | (simp; done))
   | with_reducible (first | apply Req_intro | refine nilT ?_ fun hn => ?_ | apply wk_draw Tryd_mixed | refine drawEnd (by kernel_rfl) ?_)
   | (with_reducible (first | apply condA_if | apply stepDG_ifN | apply stepDG_if | apply stepG_ifN | apply stepG_if)) <;> intro hb <;> (have hif := hb) <;> (try simp only [bo] at hif) <;> (try simp -implicitDefEqProofs (disch := omega) only [go_sem, hb]) <;> clear hb
   | simp (maxSteps := 1000000) -implicitDefEqProofs (disch := omega) only [go_sem])
 refine callp kPossible ?_
 try simp (maxSteps := 1000000) -implicitDefEqProofs (disch := omega) only [go_sem]
 repeat' (first
   | (with_reducible apply Req_intro); focus (first | omega | assumption | (simp; done))
   | with_reducible (first | apply Req_intro | refine nilT ?_ fun hn => ?_ | apply wk_draw Tryd_mixed | refine drawEnd (by kernel_rfl) ?_)
   | (with_reducible (first | apply condA_if | apply stepDG_ifN | apply stepDG_if | apply stepG_ifN | apply stepG_if)) <;> intro hb <;> (have hif := hb) <;> (try simp only [bo] at hif) <;> (try simp -implicitDefEqProofs (disch := omega) only [go_sem, hb]) <;> clear hb
   | simp (maxSteps := 1000000) -implicitDefEqProofs (disch := omega) only [go_sem])
 refine callp stock_spec ?_
 try simp (maxSteps := 1000000) -implicitDefEqProofs (disch := omega) only [go_sem]
 repeat' (first
   | (with_reducible apply Req_intro); focus (first | omega | assumption | (simp; done))
   | with_reducible (first | apply Req_intro | refine nilT ?_ fun hn => ?_ | apply wk_draw Tryd_mixed | refine drawEnd (by kernel_rfl) ?_)
   | (with_reducible (first | apply condA_if | apply stepDG_ifN | apply stepDG_if | apply stepG_ifN | apply stepG_if)) <;> intro hb <;> (have hif := hb) <;> (try simp only [bo] at hif) <;> (try simp -implicitDefEqProofs (disch := omega) only [go_sem, hb]) <;> clear hb
   | simp (maxSteps := 1000000) -implicitDefEqProofs (disch := omega) only [go_sem])
 refine callp (gauge_spec 5) ?_
 try simp (maxSteps := 1000000) -implicitDefEqProofs (disch := omega) only [go_sem]
 repeat' (first
   | (with_reducible apply Req_intro); focus (first | omega | assumption | (simp; done))
   | with_reducible (first | apply Req_intro | refine nilT ?_ fun hn => ?_ | apply wk_draw Tryd_mixed | refine drawEnd (by kernel_rfl) ?_)
   | (with_reducible (first | apply condA_if | apply stepDG_ifN | apply stepDG_if | apply stepG_ifN | apply stepG_if)) <;> intro hb <;> (have hif := hb) <;> (try simp only [bo] at hif) <;> (try simp -implicitDefEqProofs (disch := omega) only [go_sem, hb]) <;> clear hb
   | simp (maxSteps := 1000000) -implicitDefEqProofs (disch := omega) only [go_sem])
 refine callp kCover ?_
 try simp (maxSteps := 1000000) -implicitDefEqProofs (disch := omega) only [go_sem]
 repeat' (first
   | (with_reducible apply Req_intro); focus (first | omega | assumption | (simp; done))
   | with_reducible (first | apply Req_intro | refine nilT ?_ fun hn => ?_ | apply wk_draw Tryd_mixed | refine drawEnd (by kernel_rfl) ?_)
   | (with_reducible (first | apply condA_if | apply stepDG_ifN | apply stepDG_if | apply stepG_ifN | apply stepG_if)) <;> intro hb <;> (have hif := hb) <;> (try simp only [bo] at hif) <;> (try simp -implicitDefEqProofs (disch := omega) only [go_sem, hb]) <;> clear hb
   | simp (maxSteps := 1000000) -implicitDefEqProofs (disch := omega) only [go_sem])
 refine callp stock_spec ?_
 try simp (maxSteps := 1000000) -implicitDefEqProofs (disch := omega) only [go_sem]
 repeat' (first
   | (with_reducible apply Req_intro); focus (first | omega | assumption | (simp; done))
   | with_reducible (first | apply Req_intro | refine nilT ?_ fun hn => ?_ | apply wk_draw Tryd_mixed | refine drawEnd (by kernel_rfl) ?_)
   | (with_reducible (first | apply condA_if | apply stepDG_ifN | apply stepDG_if | apply stepG_ifN | apply stepG_if)) <;> intro hb <;> (have hif := hb) <;> (try simp only [bo] at hif) <;> (try simp -implicitDefEqProofs (disch := omega) only [go_sem, hb]) <;> clear hb
   | simp (maxSteps := 1000000) -implicitDefEqProofs (disch := omega) only [go_sem])
 refine callp (gauge_spec 5) ?_
 try simp (maxSteps := 1000000) -implicitDefEqProofs (disch := omega) only [go_sem]
 repeat' (first
   | (with_reducible apply Req_intro); focus (first | omega | assumption | (simp; done))
   | with_reducible (first | apply Req_intro | refine nilT ?_ fun hn => ?_ | apply wk_draw Tryd_mixed | refine drawEnd (by kernel_rfl) ?_)
   | (with_reducible (first | apply condA_if | apply stepDG_ifN | apply stepDG_if | apply stepG_ifN | apply stepG_if)) <;> intro hb <;> (have hif := hb) <;> (try simp only [bo] at hif) <;> (try simp -implicitDefEqProofs (disch := omega) only [go_sem, hb]) <;> clear hb
   | simp (maxSteps := 1000000) -implicitDefEqProofs (disch := omega) only [go_sem])
 refine callp kSpare ?_
 try simp (maxSteps := 1000000) -implicitDefEqProofs (disch := omega) only [go_sem]
 repeat' (first
   | (with_reducible apply Req_intro); focus (first | omega | assumption | (simp; done))
   | with_reducible (first | apply Req_intro | refine nilT ?_ fun hn => ?_ | apply wk_draw Tryd_mixed | refine drawEnd (by kernel_rfl) ?_)
   | (with_reducible (first | apply condA_if | apply stepDG_ifN | apply stepDG_if | apply stepG_ifN | apply stepG_if)) <;> intro hb <;> (have hif := hb) <;> (try simp only [bo] at hif) <;> (try simp -implicitDefEqProofs (disch := omega) only [go_sem, hb]) <;> clear hb
   | simp (maxSteps := 1000000) -implicitDefEqProofs (disch := omega) only [go_sem])
 refine callp stock_spec ?_
 try simp (maxSteps := 1000000) -implicitDefEqProofs (disch := omega) only [go_sem]
 repeat' (first
   | (with_reducible apply Req_intro); focus (first | omega | assumption | (simp; done))
   | with_reducible (first | apply Req_intro | refine nilT ?_ fun hn => ?_ | apply wk_draw Tryd_mixed | refine drawEnd (by kernel_rfl) ?_)
   | (with_reducible (first | apply condA_if | apply stepDG_ifN | apply stepDG_if | apply stepG_ifN | apply stepG_if)) <;> intro hb <;> (have hif := hb) <;> (try simp only [bo] at hif) <;> (try simp -implicitDefEqProofs (disch := omega) only [go_sem, hb]) <;> clear hb
   | simp (maxSteps := 1000000) -implicitDefEqProofs (disch := omega) only [go_sem])
 refine callp (gauge_spec 6) ?_
 try simp (maxSteps := 1000000) -implicitDefEqProofs (disch := omega) only [go_sem]
 repeat' (first
   | (with_reducible apply Req_intro); focus (first | omega | assumption | (simp; done))
   | with_reducible (first | apply Req_intro | refine nilT ?_ fun hn => ?_ | apply wk_draw Tryd_mixed | refine drawEnd (by kernel_rfl) ?_)
   | (with_reducible (first | apply condA_if | apply stepDG_ifN | apply stepDG_if | apply stepG_ifN | apply stepG_if)) <;> intro hb <;> (have hif := hb) <;> (try simp only [bo] at hif) <;> (try simp -implicitDefEqProofs (disch := omega) only [go_sem, hb]) <;> clear hb
   | simp (maxSteps := 1000000) -implicitDefEqProofs (disch := omega) only [go_sem])
 refine callp kTwins ?_
 try simp (maxSteps := 1000000) -implicitDefEqProofs (disch := omega) only [go_sem]
 repeat' (first
   | (with_reducible apply Req_intro); focus (first | omega | assumption | (simp; done))
   | with_reducible (first | apply Req_intro | refine nilT ?_ fun hn => ?_ | apply wk_draw Tryd_mixed | refine drawEnd (by kernel_rfl) ?_)
   | (with_reducible (first | apply condA_if | apply stepDG_ifN | apply stepDG_if | apply stepG_ifN | apply stepG_if)) <;> intro hb <;> (have hif := hb) <;> (try simp only [bo] at hif) <;> (try simp -implicitDefEqProofs (disch := omega) only [go_sem, hb]) <;> clear hb
   | simp (maxSteps := 1000000) -implicitDefEqProofs (disch := omega) only [go_sem])
 refine callp stock_spec ?_
 try simp (maxSteps := 1000000) -implicitDefEqProofs (disch := omega) only [go_sem]
 repeat' (first
   | (with_reducible apply Req_intro); focus (first | omega | assumption | (simp; done))
   | with_reducible (first | apply Req_intro | refine nilT ?_ fun hn => ?_ | apply wk_draw Tryd_mixed | refine drawEnd (by kernel_rfl) ?_)
   | (with_reducible (first | apply condA_if | apply stepDG_ifN | apply stepDG_if | apply stepG_ifN | apply stepG_if)) <;> intro hb <;> (have hif := hb) <;> (try simp only [bo] at hif) <;> (try simp -implicitDefEqProofs (disch := omega) only [go_sem, hb]) <;> clear hb
   | simp (maxSteps := 1000000) -implicitDefEqProofs (disch := omega) only [go_sem])
 refine callp (gauge_spec 5) ?_
 try simp (maxSteps := 1000000) -implicitDefEqProofs (disch := omega) only [go_sem]
 repeat' (first
   | (with_reducible apply Req_intro); focus (first | omega | assumption | (simp; done))
   | with_reducible (first | apply Req_intro | refine nilT ?_ fun hn => ?_ | apply wk_draw Tryd_mixed | refine drawEnd (by kernel_rfl) ?_)
   | (with_reducible (first | apply condA_if | apply stepDG_ifN | apply stepDG_if | apply stepG_ifN | apply stepG_if)) <;> intro hb <;> (have hif := hb) <;> (try simp only [bo] at hif) <;> (try simp -implicitDefEqProofs (disch := omega) only [go_sem, hb]) <;> clear hb
   | simp (maxSteps := 1000000) -implicitDefEqProofs (disch := omega) only [go_sem])
 refine callp kCut ?_
 try simp (maxSteps := 1000000) -implicitDefEqProofs (disch := omega) only [go_sem]
 repeat' (first
   | (with_reducible apply Req_intro); focus (first | omega | assumption | (simp; done))
   | with_reducible (first | apply Req_intro | refine nilT ?_ fun hn => ?_ | apply wk_draw Tryd_mixed | refine drawEnd (by kernel_rfl) ?_)
   | (with_reducible (first | apply condA_if | apply stepDG_ifN | apply stepDG_if | apply stepG_ifN | apply stepG_if)) <;> intro hb <;> (have hif := hb) <;> (try simp only [bo] at hif) <;> (try simp -implicitDefEqProofs (disch := omega) only [go_sem, hb]) <;> clear hb
   | simp (maxSteps := 1000000) -implicitDefEqProofs (disch := omega) only [go_sem])
 refine callp stock_spec ?_
 try simp (maxSteps := 1000000) -implicitDefEqProofs (disch := omega) only [go_sem]
 repeat' (first
   | (with_reducible apply Req_intro); focus (first | omega | assumption | (simp; done))
   | with_reducible (first | apply Req_intro | refine nilT ?_ fun hn => ?_ | apply wk_draw Tryd_mixed | refine drawEnd (by kernel_rfl) ?_)
   | (with_reducible (first | apply condA_if | apply stepDG_ifN | apply stepDG_if | apply stepG_ifN | apply stepG_if)) <;> intro hb <;> (have hif := hb) <;> (try simp only [bo] at hif) <;> (try simp -implicitDefEqProofs (disch := omega) only [go_sem, hb]) <;> clear hb
   | simp (maxSteps := 1000000) -implicitDefEqProofs (disch := omega) only [go_sem])
 refine callp (gauge_spec 5) ?_
 try simp (maxSteps := 1000000) -implicitDefEqProofs (disch := omega) only [go_sem]
 repeat' (first
   | (with_reducible apply Req_intro); focus (first | omega | assumption | (simp; done))
   | with_reducible (first | apply Req_intro | refine nilT ?_ fun hn => ?_ | apply wk_draw Tryd_mixed | refine drawEnd (by kernel_rfl) ?_)
   | (with_reducible (first | apply condA_if | apply stepDG_ifN | apply stepDG_if | apply stepG_ifN | apply stepG_if)) <;> intro hb <;> (have hif := hb) <;> (try simp only [bo] at hif) <;> (try simp -implicitDefEqProofs (disch := omega) only [go_sem, hb]) <;> clear hb
   | simp (maxSteps := 1000000) -implicitDefEqProofs (disch := omega) only [go_sem])
 refine callp kLook ?_
 try simp (maxSteps := 1000000) -implicitDefEqProofs (disch := omega) only [go_sem]
 repeat' (first
   | (with_reducible apply Req_intro); focus (first | omega | assumption | (simp; done))
   | with_reducible (first | apply Req_intro | refine nilT ?_ fun hn => ?_ | apply wk_draw Tryd_mixed | refine drawEnd (by kernel_rfl) ?_)
   | (with_reducible (first | apply condA_if | apply stepDG_ifN | apply stepDG_if | apply stepG_ifN | apply stepG_if)) <;> intro hb <;> (have hif := hb) <;> (try simp only [bo] at hif) <;> (try simp -implicitDefEqProofs (disch := omega) only [go_sem, hb]) <;> clear hb
   | simp (maxSteps := 1000000) -implicitDefEqProofs (disch := omega) only [go_sem])
 refine callp stock_spec ?_
 try simp (maxSteps := 1000000) -implicitDefEqProofs (disch := omega) only [go_sem]
 repeat' (first
   | (with_reducible apply Req_intro); focus (first | omega | assumption | (simp; done))
   | with_reducible (first | apply Req_intro | refine nilT ?_ fun hn => ?_ | apply wk_draw Tryd_mixed | refine drawEnd (by kernel_rfl) ?_)
   | (with_reducible (first | apply condA_if | apply stepDG_ifN | apply stepDG_if | apply stepG_ifN | apply stepG_if)) <;> intro hb <;> (have hif := hb) <;> (try simp only [bo] at hif) <;> (try simp -implicitDefEqProofs (disch := omega) only [go_sem, hb]) <;> clear hb
   | simp (maxSteps := 1000000) -implicitDefEqProofs (disch := omega) only [go_sem])
 refine callp (gauge_spec 5) ?_
 try simp (maxSteps := 1000000) -implicitDefEqProofs (disch := omega) only [go_sem]
 repeat' (first
   | (with_reducible apply Req_intro); focus (first | omega | assumption | (simp; done))
   | with_reducible (first | apply Req_intro | refine nilT ?_ fun hn => ?_ | apply wk_draw Tryd_mixed | refine drawEnd (by kernel_rfl) ?_)
   | (with_reducible (first | apply condA_if | apply stepDG_ifN | apply stepDG_if | apply stepG_ifN | apply stepG_if)) <;> intro hb <;> (have hif := hb) <;> (try simp only [bo] at hif) <;> (try simp -implicitDefEqProofs (disch := omega) only [go_sem, hb]) <;> clear hb
   | simp (maxSteps := 1000000) -implicitDefEqProofs (disch := omega) only [go_sem])
 refine callp kBalance ?_
 try simp (maxSteps := 1000000) -implicitDefEqProofs (disch := omega) only [go_sem]
 repeat' (first
   | (with_reducible apply Req_intro); focus (first | omega | assumption | (simp; done))
   | with_reducible (first | apply Req_intro | refine nilT ?_ fun hn => ?_ | apply wk_draw Tryd_mixed | refine drawEnd (by kernel_rfl) ?_)
   | (with_reducible (first | apply condA_if | apply stepDG_ifN | apply stepDG_if | apply stepG_ifN | apply stepG_if)) <;> intro hb <;> (have hif := hb) <;> (try simp only [bo] at hif) <;> (try simp -implicitDefEqProofs (disch := omega) only [go_sem, hb]) <;> clear hb
   | simp (maxSteps := 1000000) -implicitDefEqProofs (disch := omega) only [go_sem])
 refine callp (pair_spec 0 0) ?_
 try simp (maxSteps := 1000000) -implicitDefEqProofs (disch := omega) only [go_sem]
 repeat' (first
   | (with_reducible apply Req_intro); focus (first | omega | assumption | (simp; done))
   | with_reducible (first | apply Req_intro | refine nilT ?_ fun hn => ?_ | apply wk_draw Tryd_mixed | refine drawEnd (by kernel_rfl) ?_)
   | (with_reducible (first | apply condA_if | apply stepDG_ifN | apply stepDG_if | apply stepG_ifN | apply stepG_if)) <;> intro hb <;> (have hif := hb) <;> (try simp only [bo] at hif) <;> (try simp -implicitDefEqProofs (disch := omega) only [go_sem, hb]) <;> clear hb
   | simp (maxSteps := 1000000) -implicitDefEqProofs (disch := omega) only [go_sem])
 all_goals first | (exfalso; omega) | skip
 refine callp (pair_spec 1 1) ?_
 try simp (maxSteps := 1000000) -implicitDefEqProofs (disch := omega) only [go_sem]
 repeat' (first
   | (with_reducible apply Req_intro); focus (first | omega | assumption | (simp; done))
   | with_reducible (first | apply Req_intro | refine nilT ?_ fun hn => ?_ | apply wk_draw Tryd_mixed | refine drawEnd (by kernel_rfl) ?_)
   | (with_reducible (first | apply condA_if | apply stepDG_ifN | apply stepDG_if | apply stepG_ifN | apply stepG_if)) <;> intro hb <;> (have hif := hb) <;> (try simp only [bo] at hif) <;> (try simp -implicitDefEqProofs (disch := omega) only [go_sem, hb]) <;> clear hb
   | simp (maxSteps := 1000000) -implicitDefEqProofs (disch := omega) only [go_sem])
 all_goals first | (exfalso; omega) | skip
 refine callc (kAll [(0, 0), (1, 1)] false true (by decide)) ?_
 try simp (maxSteps := 1000000) -implicitDefEqProofs (disch := omega) only [go_sem]
 repeat' (first
   | (with_reducible apply Req_intro); focus (first | omega | assumption | (simp; done))
   | with_reducible (first | apply Req_intro | refine nilT ?_ fun hn => ?_ | apply wk_draw Tryd_mixed | refine drawEnd (by kernel_rfl) ?_)
   | (with_reducible (first | apply condA_if | apply stepDG_ifN | apply stepDG_if | apply stepG_ifN | apply stepG_if)) <;> intro hb <;> (have hif := hb) <;> (try simp only [bo] at hif) <;> (try simp -implicitDefEqProofs (disch := omega) only [go_sem, hb]) <;> clear hb
   | simp (maxSteps := 1000000) -implicitDefEqProofs (disch := omega) only [go_sem])
 all_goals first | (exfalso; omega) | skip
 refine callc (kInts [0, 1] false true (by decide)) ?_
 try simp (maxSteps := 1000000) -implicitDefEqProofs (disch := omega) only [go_sem]
 repeat' (first
   | (with_reducible apply Req_intro); focus (first | omega | assumption | (simp; done))
   | with_reducible (first | apply Req_intro | refine nilT ?_ fun hn => ?_ | apply wk_draw Tryd_mixed | refine drawEnd (by kernel_rfl) ?_)
   | (with_reducible (first | apply condA_if | apply stepDG_ifN | apply stepDG_if | apply stepG_ifN | apply stepG_if)) <;> intro hb <;> (have hif := hb) <;> (try simp only [bo] at hif) <;> (try simp -implicitDefEqProofs (disch := omega) only [go_sem, hb]) <;> clear hb
   | simp (maxSteps := 1000000) -implicitDefEqProofs (disch := omega) only [go_sem])
 all_goals first | (exfalso; omega) | skip
 refine callc (kInts [2] false true (by decide)) ?_
 try simp (maxSteps := 1000000) -implicitDefEqProofs (disch := omega) only [go_sem]
 repeat' (first
   | (with_reducible apply Req_intro); focus (first | omega | assumption | (simp; done))
   | with_reducible (first | apply Req_intro | refine nilT ?_ fun hn => ?_ | apply wk_draw Tryd_mixed | refine drawEnd (by kernel_rfl) ?_)
   | (with_reducible (first | apply condA_if | apply stepDG_ifN | apply stepDG_if | apply stepG_ifN | apply stepG_if)) <;> intro hb <;> (have hif := hb) <;> (try simp only [bo] at hif) <;> (try simp -implicitDefEqProofs (disch := omega) only [go_sem, hb]) <;> clear hb
   | simp (maxSteps := 1000000) -implicitDefEqProofs (disch := omega) only [go_sem])
 all_goals first | (exfalso; omega) | skip
 refine callc (kInts [2] false true (by decide)) ?_
 try simp (maxSteps := 1000000) -implicitDefEqProofs (disch := omega) only [go_sem]
 repeat' (first
   | (with_reducible apply Req_intro); focus (first | omega | assumption | (simp; done))
   | with_reducible (first | apply Req_intro | refine nilT ?_ fun hn => ?_ | apply wk_draw Tryd_mixed | refine drawEnd (by kernel_rfl) ?_)
   | (with_reducible (first | apply condA_if | apply stepDG_ifN | apply stepDG_if | apply stepG_ifN | apply stepG_if)) <;> intro hb <;> (have hif := hb) <;> (try simp only [bo] at hif) <;> (try simp -implicitDefEqProofs (disch := omega) only [go_sem, hb]) <;> clear hb
   | simp (maxSteps := 1000000) -implicitDefEqProofs (disch := omega) only [go_sem])
 all_goals first | (exfalso; omega) | skip
 refine callc (kAll [(0, 0), (1, 1)] false false (by decide)) ?_
 try simp (maxSteps := 1000000) -implicitDefEqProofs (disch := omega) only [go_sem]
 repeat' (first
   | (with_reducible apply Req_intro); focus (first | omega | assumption | (simp; done))
   | with_reducible (first | apply Req_intro | refine nilT ?_ fun hn => ?_ | apply wk_draw Tryd_mixed | refine drawEnd (by kernel_rfl) ?_)
   | (with_reducible (first | apply condA_if | apply stepDG_ifN | apply stepDG_if | apply stepG_ifN | apply stepG_if)) <;> intro hb <;> (have hif := hb) <;> (try simp only [bo] at hif) <;> (try simp -implicitDefEqProofs (disch := omega) only [go_sem, hb]) <;> clear hb
   | simp (maxSteps := 1000000) -implicitDefEqProofs (disch := omega) only [go_sem])
 all_goals first | (exfalso; omega) | skip
 refine callp (pair_spec 0 1) ?_
 try simp (maxSteps := 1000000) -implicitDefEqProofs (disch := omega) only [go_sem]
 repeat' (first
   | (with_reducible apply Req_intro); focus (first | omega | assumption | (simp; done))
   | with_reducible (first | apply Req_intro | refine nilT ?_ fun hn => ?_ | apply wk_draw Tryd_mixed | refine drawEnd (by kernel_rfl) ?_)
   | (with_reducible (first | apply condA_if | apply stepDG_ifN | apply stepDG_if | apply stepG_ifN | apply stepG_if)) <;> intro hb <;> (have hif := hb) <;> (try simp only [bo] at hif) <;> (try simp -implicitDefEqProofs (disch := omega) only [go_sem, hb]) <;> clear hb
   | simp (maxSteps := 1000000) -implicitDefEqProofs (disch := omega) only [go_sem])
 all_goals first | (exfalso; omega) | skip
 refine callp (pair_spec 1 0) ?_
 try simp (maxSteps := 1000000) -implicitDefEqProofs (disch := omega) only [go_sem]
 repeat' (first
   | (with_reducible apply Req_intro); focus (first | omega | assumption | (simp; done))
   | with_reducible (first | apply Req_intro | refine nilT ?_ fun hn => ?_ | apply wk_draw Tryd_mixed | refine drawEnd (by kernel_rfl) ?_)
   | (with_reducible (first | apply condA_if | apply stepDG_ifN | apply stepDG_if | apply stepG_ifN | apply stepG_if)) <;> intro hb <;> (have hif := hb) <;> (try simp only [bo] at hif) <;> (try simp -implicitDefEqProofs (disch := omega) only [go_sem, hb]) <;> clear hb
   | simp (maxSteps := 1000000) -implicitDefEqProofs (disch := omega) only [go_sem])
 all_goals first | (exfalso; omega) | skip
 refine callp (pair_spec 2 2) ?_
 try simp (maxSteps := 1000000) -implicitDefEqProofs (disch := omega) only [go_sem]
 repeat' (first
   | (with_reducible apply Req_intro); focus (first | omega | assumption | (simp; done))
   | with_reducible (first | apply Req_intro | refine nilT ?_ fun hn => ?_ | apply wk_draw Tryd_mixed | refine drawEnd (by kernel_rfl) ?_)
   | (with_reducible (first | apply condA_if | apply stepDG_ifN | apply stepDG_if | apply stepG_ifN | apply stepG_if)) <;> intro hb <;> (have hif := hb) <;> (try simp only [bo] at hif) <;> (try simp -implicitDefEqProofs (disch := omega) only [go_sem, hb]) <;> clear hb
   | simp (maxSteps := 1000000) -implicitDefEqProofs (disch := omega) only [go_sem])
 all_goals first | (exfalso; omega) | skip
 refine callc (kAll [(0, 1), (1, 0), (2, 2)] false true (by decide)) ?_
 try simp (maxSteps := 1000000) -implicitDefEqProofs (disch := omega) only [go_sem]
 repeat' (first
   | (with_reducible apply Req_intro); focus (first | omega | assumption | (simp; done))
   | with_reducible (first | apply Req_intro | refine nilT ?_ fun hn => ?_ | apply wk_draw Tryd_mixed | refine drawEnd (by kernel_rfl) ?_)
   | (with_reducible (first | apply condA_if | apply stepDG_ifN | apply stepDG_if | apply stepG_ifN | apply stepG_if)) <;> intro hb <;> (have hif := hb) <;> (try simp only [bo] at hif) <;> (try simp -implicitDefEqProofs (disch := omega) only [go_sem, hb]) <;> clear hb
   | simp (maxSteps := 1000000) -implicitDefEqProofs (disch := omega) only [go_sem])
 all_goals first | (exfalso; omega) | skip
 refine callp stock_spec ?_
 try simp (maxSteps := 1000000) -implicitDefEqProofs (disch := omega) only [go_sem]
 repeat' (first
   | (with_reducible apply Req_intro); focus (first | omega | assumption | (simp; done))
   | with_reducible (first | apply Req_intro | refine nilT ?_ fun hn => ?_ | apply wk_draw Tryd_mixed | refine drawEnd (by kernel_rfl) ?_)
   | (with_reducible (first | apply condA_if | apply stepDG_ifN | apply stepDG_if | apply stepG_ifN | apply stepG_if)) <;> intro hb <;> (have hif := hb) <;> (try simp only [bo] at hif) <;> (try simp -implicitDefEqProofs (disch := omega) only [go_sem, hb]) <;> clear hb
   | simp (maxSteps := 1000000) -implicitDefEqProofs (disch := omega) only [go_sem])
 all_goals first | (exfalso; omega) | skip
 refine callp kCheck ?_
 try simp (maxSteps := 1000000) -implicitDefEqProofs (disch := omega) only [go_sem]
 repeat' (first
   | (with_reducible apply Req_intro); focus (first | omega | assumption | (simp; done))
   | with_reducible (first | apply Req_intro | refine nilT ?_ fun hn => ?_ | apply wk_draw Tryd_mixed | refine drawEnd (by kernel_rfl) ?_)
   | (with_reducible (first | apply condA_if | apply stepDG_ifN | apply stepDG_if | apply stepG_ifN | apply stepG_if)) <;> intro hb <;> (have hif := hb) <;> (try simp only [bo] at hif) <;> (try simp -implicitDefEqProofs (disch := omega) only [go_sem, hb]) <;> clear hb
   | simp (maxSteps := 1000000) -implicitDefEqProofs (disch := omega) only [go_sem])
 all_goals first | (exfalso; omega) | skip
 refine ret_do ?_
 rfl
end Go.Aw
end
section
namespace Go.Aw
open Go.RowKit
def permsR (n : Nat) : Nat → Nat → List (List Nat)
 | 0, _ => [[]]
 | m + 1, taken => (List.range n).flatMap fun k => if taken.testBit k then [] else (permsR n m (taken ||| 2 ^ k)).map (k :: ·)
def valTo (f : Nat → Nat → Int) (ks : List Nat) : Nat → Int
 | 0 => 0
 | k + 1 => max (valTo f ks k) (f k (ks.getD k 0))
def valR (f : Nat → Nat → Int) (ks : List Nat) : Int := valTo f ks ks.length
def balStep (f : Nat → Nat → Int) (st : List Nat × Int) (ks : List Nat) : List Nat × Int := if valR f ks < st.2 then (ks, valR f ks) else st
def refBal (f : Nat → Nat → Int) (n : Nat) : Nat → List Nat → List Nat × Int → List Nat × Int
 | 0, now, st => balStep f st now
 | m + 1, now, st => (List.range n).foldl (fun st k => if decide (k ∈ now) then st else refBal f n m (now ++ [k]) st) st
theorem foldl_flat {α β γ : Type} (g : α → List β) (s : γ → β → γ) : ∀ (l : List α) (b : γ), (l.flatMap g).foldl s b = l.foldl (fun b x => (g x).foldl s b) b
 | [], b => rfl
 | a :: l, b => by rw [List.flatMap_cons, List.foldl_append, List.foldl_cons, foldl_flat g s l]
theorem foldl_cong {α γ : Type} {s s' : γ → α → γ} : ∀ (l : List α) (b : γ), (∀ b, ∀ x ∈ l, s b x = s' b x) → l.foldl s b = l.foldl s' b
 | [], b, _ => rfl
 | a :: l, b, h => by rw [List.foldl_cons, List.foldl_cons, h b a (by simp), foldl_cong l _ fun b x hx => h b x (List.mem_cons_of_mem _ hx)]
theorem refBal_eq (f : Nat → Nat → Int) (n : Nat) : ∀ (m : Nat) (now : List Nat) (taken : Nat) (st : List Nat × Int), (∀ k, taken.testBit k = decide (k ∈ now)) →
   refBal f n m now st = ((permsR n m taken).map (now ++ ·)).foldl (balStep f) st
 | 0, now, taken, st, _ => by simp [refBal, permsR]
 | m + 1, now, taken, st, h => by
   rw [refBal, permsR, List.map_flatMap, foldl_flat]
   refine foldl_cong _ _ fun b k _ => ?_
   rw [← h k]
   cases hk : taken.testBit k with
   | true => simp
   | false =>
     simp only [Bool.false_eq_true, if_false]
     rw [refBal_eq f n m (now ++ [k]) (taken ||| 2 ^ k) b fun j => by
       rw [Nat.testBit_or, h j, Nat.testBit_two_pow]
       by_cases e : j = k
       · subst e; simp
       · simp [e, Ne.symm e]]
     rw [List.map_map]
     congr 2
     funext s
     simp
theorem fold_best (f : Nat → Nat → Int) : ∀ (L : List (List Nat)) (st : List Nat × Int),
   (∀ ks ∈ L, (L.foldl (balStep f) st).2 ≤ valR f ks) ∧ (L.foldl (balStep f) st).2 ≤ st.2 ∧
   ((L.foldl (balStep f) st = st ∧ ∀ ks ∈ L, st.2 ≤ valR f ks) ∨ (L.find? (fun ks => decide (valR f ks ≤ (L.foldl (balStep f) st).2)) = some (L.foldl (balStep f) st).1 ∧ valR f (L.foldl (balStep f) st).1 = (L.foldl (balStep f) st).2 ∧ (L.foldl (balStep f) st).2 < st.2))
 | [], st => ⟨fun ks h => (by cases h), Int.le_refl _, .inl ⟨rfl, fun ks h => by cases h⟩⟩
 | a :: L, st => by
   obtain ⟨h1, h2, h3⟩ := fold_best f L (balStep f st a)
   rw [List.foldl_cons]
   generalize hr : L.foldl (balStep f) (balStep f st a) = r at *
   by_cases hlt : valR f a < st.2
   · rw [balStep, if_pos hlt] at h2 h3
     simp only at h2 h3
     refine ⟨fun ks hk => ?_, by omega, .inr ?_⟩
     · rcases List.mem_cons.1 hk with rfl | hk
       · exact h2
       · exact h1 ks hk
     · rcases h3 with ⟨rfl, h4⟩ | ⟨h4, h5, h6⟩
       · exact ⟨by rw [List.find?_cons_of_pos (by simp)], rfl, hlt⟩
       · exact ⟨by rw [List.find?_cons_of_neg (by simp only [decide_eq_true_eq]; omega)]; exact h4, h5, by omega⟩
   · rw [balStep, if_neg hlt] at h2 h3
     refine ⟨fun ks hk => ?_, h2, ?_⟩
     · rcases List.mem_cons.1 hk with rfl | hk
       · omega
       · exact h1 ks hk
     · rcases h3 with ⟨h4, h5⟩ | ⟨h4, h5, h6⟩
       · refine .inl ⟨h4, fun ks hk => ?_⟩
         rcases List.mem_cons.1 hk with rfl | hk
         · omega
         · exact h5 ks hk
       · exact .inr ⟨by rw [List.find?_cons_of_neg (by simp only [decide_eq_true_eq]; omega)]; exact h4, h5, h6⟩
theorem mem_perms (n : Nat) : ∀ (m taken : Nat) (ks : List Nat), ks ∈ permsR n m taken ↔ ks.length = m ∧ ks.Nodup ∧ ∀ k ∈ ks, k < n ∧ taken.testBit k = false
 | 0, taken, ks => by
   rw [permsR, List.mem_singleton]
   constructor
   · rintro rfl; simp
   · rintro ⟨h, _⟩; exact List.eq_nil_of_length_eq_zero h
 | m + 1, taken, ks => by
   rw [permsR, List.mem_flatMap]
   constructor
   · rintro ⟨k, hk, h⟩
     rw [List.mem_range] at hk
     cases ht : taken.testBit k with
     | true => simp [ht] at h
     | false =>
       simp only [ht, Bool.false_eq_true, if_false, List.mem_map] at h
       obtain ⟨s, hs, rfl⟩ := h
       obtain ⟨h1, h2, h3⟩ := (mem_perms n m _ s).1 hs
       refine ⟨by simp [h1], List.nodup_cons.2 ⟨fun hm => ?_, h2⟩, fun x hx => ?_⟩
       · have := (h3 k hm).2
         rw [Nat.testBit_or, Nat.testBit_two_pow_self] at this
         simp at this
       · rcases List.mem_cons.1 hx with rfl | hx
         · exact ⟨hk, ht⟩
         · have := h3 x hx
           rw [Nat.testBit_or, Bool.or_eq_false_iff] at this
           exact ⟨this.1, this.2.1⟩
   · rintro ⟨h1, h2, h3⟩
     cases ks with
     | nil => cases h1
     | cons k s =>
       obtain ⟨h4, h5⟩ := h3 k (by simp)
       rw [List.nodup_cons] at h2
       refine ⟨k, List.mem_range.2 h4, ?_⟩
       rw [h5]
       simp only [Bool.false_eq_true, if_false, List.mem_map]
       refine ⟨s, (mem_perms n m _ s).2 ⟨by simpa using h1, h2.2, fun x hx => ⟨(h3 x (by simp [hx])).1, ?_⟩⟩, rfl⟩
       rw [Nat.testBit_or, Nat.testBit_two_pow, (h3 x (by simp [hx])).2]
       simp only [Bool.false_or, decide_eq_false_iff_not]
       rintro rfl
       exact h2.1 hx
theorem valTo_le (f : Nat → Nat → Int) (ks : List Nat) {w : Int} (h0 : 0 ≤ w) : ∀ n, valTo f ks n ≤ w ↔ ∀ i, i < n → f i (ks.getD i 0) ≤ w
 | 0 => ⟨fun _ i hi => absurd hi (Nat.not_lt_zero _), fun _ => h0⟩
 | n + 1 => by
   rw [valTo, Int.max_le, valTo_le f ks h0 n]
   constructor
   · rintro ⟨h1, h2⟩ i hi
     rcases Nat.lt_succ_iff_lt_or_eq.1 hi with h | rfl
     · exact h1 i h
     · exact h2
   · intro h
     exact ⟨fun i hi => h i (by omega), h n (by omega)⟩
theorem valTo_nonneg (f : Nat → Nat → Int) (ks : List Nat) : ∀ n, 0 ≤ valTo f ks n
 | 0 => Int.le_refl _
 | n + 1 => by have := valTo_nonneg f ks n; rw [valTo]; omega
theorem valTo_is (f : Nat → Nat → Int) (ks : List Nat) : ∀ n, valTo f ks n = 0 ∨ ∃ i, i < n ∧ valTo f ks n = f i (ks.getD i 0)
 | 0 => .inl rfl
 | n + 1 => by
   rw [valTo]
   rcases Int.le_total (valTo f ks n) (f n (ks.getD n 0)) with h | h
   · exact .inr ⟨n, by omega, by omega⟩
   · rcases valTo_is f ks n with h1 | ⟨i, hi, h1⟩
     · exact .inl (by omega)
     · exact .inr ⟨i, by omega, by omega⟩
def okFrom (T : List Nat) : Nat → List Nat → Bool
 | _, [] => true
 | i, k :: s => (T.getD i 0).testBit k && okFrom T (i + 1) s
theorem okFrom_iff (T : List Nat) : ∀ (s : List Nat) (i : Nat), okFrom T i s = true ↔ ∀ j, j < s.length → (T.getD (i + j) 0).testBit (s.getD j 0) = true
 | [], i => by simp [okFrom]
 | k :: s, i => by
   rw [okFrom, Bool.and_eq_true, okFrom_iff T s (i + 1)]
   constructor
   · rintro ⟨h1, h2⟩ j hj
     cases j with
     | zero => exact h1
     | succ j =>
       have := h2 j (by simpa using hj)
       rw [show i + 1 + j = i + (j + 1) from by omega] at this
       simpa using this
   · intro h
     refine ⟨h 0 (by simp), fun j hj => ?_⟩
     have := h (j + 1) (by simpa using hj)
     rw [show i + 1 + j = i + (j + 1) from by omega]
     simpa using this
theorem findSome_range {β : Type} {f : Nat → Option β} {b : β} : ∀ {n : Nat}, (List.range n).findSome? f = some b ↔ ∃ k, k < n ∧ f k = some b ∧ ∀ j, j < k → f j = none
 | 0 => by simp
 | n + 1 => by
   rw [List.range_succ, List.findSome?_append]
   constructor
   · intro h
     cases h1 : (List.range n).findSome? f with
     | some c =>
       rw [h1] at h
       cases h
       obtain ⟨k, hk, h2, h3⟩ := findSome_range.1 h1
       exact ⟨k, by omega, h2, h3⟩
     | none =>
       rw [h1] at h
       rw [List.findSome?_eq_none_iff] at h1
       refine ⟨n, by omega, by simpa using h, fun j hj => h1 j (List.mem_range.2 hj)⟩
   · rintro ⟨k, hk, h2, h3⟩
     rcases Nat.lt_succ_iff_lt_or_eq.1 hk with h | rfl
     · rw [findSome_range.2 ⟨k, h, h2, h3⟩]; rfl
     · rw [List.findSome?_eq_none_iff.2 fun j hj => h3 j (List.mem_range.1 hj)]
       simp [h2]
theorem find_rec (T : List Nat) (n m taken i : Nat) : (permsR n (m + 1) taken).find? (okFrom T i) = (List.range n).findSome? fun k => if taken.testBit k || !(T.getD i 0).testBit k then none else ((permsR n m (taken ||| 2 ^ k)).find? (okFrom T (i + 1))).map (k :: ·) := by
 rw [permsR, List.find?_flatMap]
 congr 1
 funext k
 cases ht : taken.testBit k with
 | true => simp
 | false =>
   simp only [Bool.false_eq_true, if_false, Bool.false_or, List.find?_map]
   cases hb : (T.getD i 0).testBit k with
   | true =>
     simp only [Bool.not_true, Bool.false_eq_true, if_false]
     congr 2
     funext s
     rw [Function.comp, okFrom, hb, Bool.true_and]
   | false =>
     simp only [Bool.not_false, if_true, Option.map_eq_none_iff, List.find?_eq_none]
     intro s _
     rw [Function.comp, okFrom, hb, Bool.false_and]
     decide
theorem maxM_len : ∀ (t : List Nat) (x : Nat), maxM t x ≤ t.length
 | [], x => Nat.le_refl _
 | a :: t, x => by
   have := maxM_head a t x
   have := maxM_len t x
   rw [List.length_cons]; omega
theorem maxM_full {T : List Nat} {n : Nat} (hb : ∀ i k, (T.getD i 0).testBit k = true → k < n) (hf : Few T) : ∀ (m i taken : Nat), i + m = T.length → (maxM (T.drop i) taken = m ↔ ((permsR n m taken).find? (okFrom T i)).isSome = true)
 | 0, i, taken, h => by
   rw [List.drop_of_length_le (by omega)]
   simp [permsR, okFrom, maxM]
 | m + 1, i, taken, h => by
   have hi : i < T.length := by omega
   have hd : T.drop i = T.getD i 0 :: T.drop (i + 1) := by rw [List.drop_eq_getElem_cons hi, List.getD_eq_getElem?_getD, List.getElem?_eq_getElem hi]; rfl
   have ih := fun x => maxM_full hb hf m (i + 1) x (by omega)
   have hlen := fun x => maxM_len (T.drop (i + 1)) x
   rw [List.length_drop] at hlen
   rw [find_rec, hd]
   constructor
   · intro hm
     rcases maxM_at (T.getD i 0) (T.drop (i + 1)) taken with h1 | ⟨r, h1, h2, h3, h4⟩
     · have := hlen taken; omega
     · have h5 : maxM (T.drop (i + 1)) (taken ||| 2 ^ r) = m := by omega
       have h6 := (ih _).1 h5
       rw [List.findSome?_isSome_iff]
       refine ⟨r, List.mem_range.2 (hb i r h2), ?_⟩
       rw [h2, h3]
       simp only [Bool.not_true, Bool.or_self, Bool.false_eq_true, if_false, Option.isSome_map]
       exact h6
   · intro hs
     rw [List.findSome?_isSome_iff] at hs
     obtain ⟨r, hr, hs⟩ := hs
     split at hs
     · cases hs
     · rename_i h1
       simp only [Bool.or_eq_true, Bool.not_eq_true', not_or, Bool.not_eq_true, Bool.not_eq_false] at h1
       rw [Option.isSome_map] at hs
       have h5 := (ih _).2 hs
       have h6 := maxM_take (T.drop (i + 1)) (few_bit (hf.get i) h1.2) h1.2 h1.1
       have h7 := maxM_head (T.getD i 0) (T.drop (i + 1)) taken
       have := hlen taken
       omega
theorem greedy_eq {t : List (List Bool)} {n : Nat} (hrow : ∀ row ∈ t, row.length = n) (hn : n ≤ 16) : ∀ (m i : Nat) (s : List Nat), i + m = t.length →
   (permsR n m (refPairsTo t i).2).find? (okFrom (t.map rowBits) i) = some s → (refPairsTo t t.length).1 = (refPairsTo t i).1 ++ s.mapIdx fun j k => (i + j, k)
 | 0, i, s, h, hs => by
   obtain rfl : s = [] := by simpa [permsR, okFrom] using hs.symm
   rw [show t.length = i from by omega]; simp
 | m + 1, i, s, h, hs => by
   have hi : i < t.length := by omega
   have hs16 : Short16 t := fun r hr => by rw [hrow r hr]; exact hn
   have hT : (t.map rowBits).length = t.length := List.length_map ..
   have hget : ∀ j, (t.map rowBits).getD j 0 = rowBits (t.getD j []) := fun j => by
     rw [List.getD_eq_getElem?_getD, List.getD_eq_getElem?_getD, List.getElem?_map]
     cases t[j]? with
     | none => rfl
     | some r => rfl
   have hbit : ∀ j k, ((t.map rowBits).getD j 0).testBit k = (t.getD j []).getD k false := fun j k => by rw [hget, rowBits_bit]
   have hb : ∀ j k, ((t.map rowBits).getD j 0).testBit k = true → k < n := fun j k hk => by
     rw [hbit] at hk
     refine Classical.byContradiction fun hc => ?_
     rcases Nat.lt_or_ge j t.length with hj | hj
     · have := hrow _ (List.getElem_mem hj)
       rw [List.getD_eq_getElem?_getD, List.getD_eq_getElem?_getD, List.getElem?_eq_getElem hj, List.getElem?_eq_none (by simp only [Option.getD_some]; omega)] at hk
       cases hk
     · rw [List.getD_eq_getElem?_getD, List.getD_eq_getElem?_getD, List.getElem?_eq_none hj] at hk
       simp at hk
   have hf : Few (t.map rowBits) := fun x hx => by
     obtain ⟨r, hr, rfl⟩ := List.mem_map.1 hx
     exact rowBits_few (hs16 r hr)
   have hM : ∀ j x, refM (t.drop j) x = maxM ((t.map rowBits).drop j) x := fun j x => by
     rw [refM_eq _ _ fun r hr => hs16 r (List.mem_of_mem_drop hr), List.map_drop]
   have hfull := fun m' i' x h' => maxM_full hb hf m' i' x (by rw [hT]; exact h')
   have h0 : refM (t.drop i) (refPairsTo t i).2 = m + 1 := by
     rw [hM]; exact (hfull (m + 1) i _ h).2 (by rw [hs]; rfl)
   rw [find_rec, findSome_range] at hs
   obtain ⟨k, hk, h1, h2⟩ := hs
   split at h1
   · cases h1
   rename_i h3
   simp only [Bool.or_eq_true, Bool.not_eq_true', not_or, Bool.not_eq_true, Bool.not_eq_false] at h3
   rw [Option.map_eq_some_iff] at h1
   obtain ⟨s', hs', rfl⟩ := h1
   have hrl : (t.getD i []).length = n := by
     rw [List.getD_eq_getElem?_getD, List.getElem?_eq_getElem hi]; exact hrow _ (List.getElem_mem hi)
   have hat : refPairAt t i (refPairsTo t i).2 = some k := by
     rw [refPairAt, List.find?_range_eq_some, hrl]
     refine ⟨?_, List.mem_range.2 hk, fun j hj => ?_⟩
     · have : refM (t.drop (i + 1)) ((refPairsTo t i).2 ||| 2 ^ k) = m := by
         rw [hM]; exact (hfull m (i + 1) _ (by omega)).2 (by rw [hs']; rfl)
       rw [← hbit, h3.2, h3.1, this, h0]; simp [Nat.add_comm]
     · have := h2 j hj
       rw [Bool.not_eq_true', Bool.and_eq_false_iff, Bool.and_eq_false_iff, ← hbit]
       split at this
       · rename_i h4
         rw [Bool.or_eq_true, Bool.not_eq_true'] at h4
         rcases h4 with h4 | h4
         · exact .inl (.inr (by rw [h4]; rfl))
         · exact .inl (.inl h4)
       · refine .inr ?_
         rw [Option.map_eq_none_iff] at this
         rw [h0, beq_eq_false_iff_ne]
         intro he
         have : refM (t.drop (i + 1)) ((refPairsTo t i).2 ||| 2 ^ j) = m := by omega
         rw [hM] at this
         have := (hfull m (i + 1) _ (by omega)).1 this
         rw [‹List.find? _ _ = none›] at this
         cases this
   have e2 : refPairsTo t (i + 1) = ((refPairsTo t i).1 ++ [(i, k)], (refPairsTo t i).2 ||| 2 ^ k) := by rw [refPairsTo, hat]
   have ih := greedy_eq hrow hn m (i + 1) s' (by omega) (by rw [e2]; exact hs')
   rw [ih, e2, List.mapIdx_cons]
   simp only [List.append_assoc, List.cons_append, List.nil_append, Nat.add_zero]
   congr 2
   refine congrArg (fun F => List.mapIdx F s') ?_
   funext j k'
   rw [show i + 1 + j = i + (j + 1) from by omega]
theorem balanceTo_first {ls rs : List Grd} {w : Int} : ∀ {D : List Int}, D.Pairwise (· ≤ ·) → w ∈ D → mostR (nearR ls rs w) = ls.length → (∀ d ∈ D, d < w → mostR (nearR ls rs d) ≠ ls.length) → balanceTo ls rs D = some (pairsR (nearR ls rs w), w)
 | [], _, h, _, _ => by cases h
 | d :: D, hs, hw, h1, h2 => by
   rw [balanceTo]
   rw [List.pairwise_cons] at hs
   split
   · rename_i hd
     have h3 : ¬ d < w := fun h => h2 d (by simp) h hd
     have : w = d := by
       rcases List.mem_cons.1 hw with h | h
       · exact h
       · have := hs.1 w h; omega
     rw [this]
   · rename_i hd
     rcases List.mem_cons.1 hw with h | h
     · subst h; exact absurd h1 hd
     · exact balanceTo_first hs.2 h h1 fun d' hd' => h2 d' (by simp [hd'])
def farF (ls rs : List Grd) (i k : Nat) : Int := farR (ls.getD i default).1 (rs.getD k default).1
def nearB (ls rs : List Grd) (w : Int) : List (List Bool) := ls.map fun a => rs.map fun b => decide (farR a.1 b.1 ≤ w)
theorem rowBits_map (rs : List Grd) (p : Grd → Bool) : rowBits (rs.map p) = bitsIf (fun r => p (rs.getD r default)) rs.length := by
 refine Nat.eq_of_testBit_eq fun k => ?_
 rw [rowBits_bit, bitsIf_bit, List.getD_eq_getElem?_getD, List.getElem?_map]
 rcases Nat.lt_or_ge k rs.length with h | h
 · rw [List.getElem?_eq_getElem h, decide_eq_true h, Bool.true_and, List.getD_eq_getElem?_getD, List.getElem?_eq_getElem h]; rfl
 · rw [List.getElem?_eq_none h, decide_eq_false (by omega)]; rfl
theorem nearB_eq (ls rs : List Grd) (w : Int) : (nearB ls rs w).map rowBits = nearR ls rs w := by
 rw [nearB, nearR, List.map_map]
 congr 1
 funext a
 exact rowBits_map rs fun b => decide (farR a.1 b.1 ≤ w)
theorem nearR_bit {ls rs : List Grd} {w : Int} {i k : Nat} (hi : i < ls.length) (hk : k < rs.length) : ((nearR ls rs w).getD i 0).testBit k = decide (farF ls rs i k ≤ w) := by
 rw [List.getD_eq_getElem?_getD, nearR, List.getElem?_map, List.getElem?_eq_getElem hi, Option.map_some, Option.getD_some, bitsIf_bit, decide_eq_true hk, Bool.true_and]
 unfold farF
 rw [List.getD_eq_getElem?_getD, List.getD_eq_getElem?_getD, List.getElem?_eq_getElem hi]; rfl
theorem nearR_lt {ls rs : List Grd} {w : Int} {i k : Nat} (h : ((nearR ls rs w).getD i 0).testBit k = true) : k < rs.length := by
 rw [List.getD_eq_getElem?_getD, nearR, List.getElem?_map] at h
 cases hl : ls[i]? with
 | none => rw [hl] at h; simp at h
 | some a =>
   rw [hl, Option.map_some, Option.getD_some, bitsIf_bit, Bool.and_eq_true, decide_eq_true_eq] at h
   exact h.1
theorem nearR_few {ls rs : List Grd} (w : Int) (h : rs.length ≤ 16) : Few (nearR ls rs w) := fun x hx => by
 obtain ⟨a, _, rfl⟩ := List.mem_map.1 hx
 exact Nat.lt_of_lt_of_le (bitsIf_lt _ _) (Nat.pow_le_pow_right (n := 2) (by decide) h)
theorem mem_diffs {ls rs : List Grd} {i k : Nat} (hi : i < ls.length) (hk : k < rs.length) : farF ls rs i k ∈ diffs ls rs := by
 unfold farF diffs
 rw [List.getD_eq_getElem?_getD, List.getD_eq_getElem?_getD, List.getElem?_eq_getElem hi, List.getElem?_eq_getElem hk]
 exact List.mem_cons_of_mem _ (List.mem_flatMap.2 ⟨_, List.getElem_mem hi, List.mem_map.2 ⟨_, List.getElem_mem hk, rfl⟩⟩)
theorem near_full {ls rs : List Grd} {w : Int} (hlr : ls.length = rs.length) (h16 : ls.length ≤ 16) (h0 : 0 ≤ w) : mostR (nearR ls rs w) = ls.length ↔ ∃ ks, ks ∈ permsR ls.length ls.length 0 ∧ valR (farF ls rs) ks ≤ w := by
 have hf := nearR_few (ls := ls) (rs := rs) w (by omega)
 have hl : (nearR ls rs w).length = ls.length := by simp [nearR]
 have h := maxM_full (T := nearR ls rs w) (n := ls.length) (fun i k hk => by rw [hlr]; exact nearR_lt hk) hf ls.length 0 0 (by omega)
 rw [mostR_eq hf]
 rw [List.drop_zero] at h
 rw [h, List.find?_isSome]
 constructor
 · rintro ⟨ks, h1, h2⟩
   refine ⟨ks, h1, ?_⟩
   obtain ⟨g1, g2, g3⟩ := (mem_perms _ _ _ _).1 h1
   rw [okFrom_iff] at h2
   rw [valR, valTo_le _ _ h0]
   intro i hi
   have h4 := h2 i hi
   rw [Nat.zero_add, nearR_bit (by omega) (by
     rw [← hlr]
     exact (g3 _ (by rw [List.getD_eq_getElem?_getD, List.getElem?_eq_getElem hi]; exact List.getElem_mem hi)).1), decide_eq_true_eq] at h4
   exact h4
 · rintro ⟨ks, h1, h2⟩
   refine ⟨ks, h1, ?_⟩
   obtain ⟨g1, g2, g3⟩ := (mem_perms _ _ _ _).1 h1
   rw [okFrom_iff]
   rw [valR, valTo_le _ _ h0] at h2
   intro i hi
   have h4 := h2 i hi
   rw [Nat.zero_add, nearR_bit (by omega) (by
     rw [← hlr]
     exact (g3 _ (by rw [List.getD_eq_getElem?_getD, List.getElem?_eq_getElem hi]; exact List.getElem_mem hi)).1), decide_eq_true_eq]
   exact h4
theorem ok_near {ls rs : List Grd} {w : Int} (hlr : ls.length = rs.length) (h0 : 0 ≤ w) {ks : List Nat} (hk : ks ∈ permsR ls.length ls.length 0) : okFrom (nearR ls rs w) 0 ks = decide (valR (farF ls rs) ks ≤ w) := by
 obtain ⟨g1, g2, g3⟩ := (mem_perms _ _ _ _).1 hk
 have hb : ∀ i, i < ks.length → ((nearR ls rs w).getD (0 + i) 0).testBit (ks.getD i 0) = decide (farF ls rs i (ks.getD i 0) ≤ w) := fun i hi => by
   rw [Nat.zero_add, nearR_bit (by omega) (by
     rw [← hlr]
     exact (g3 _ (by rw [List.getD_eq_getElem?_getD, List.getElem?_eq_getElem hi]; exact List.getElem_mem hi)).1)]
 rw [Bool.eq_iff_iff, okFrom_iff, decide_eq_true_eq, valR, valTo_le _ _ h0]
 constructor
 · intro h i hi
   have := h i hi
   rwa [hb i hi, decide_eq_true_eq] at this
 · intro h i hi
   rw [hb i hi, decide_eq_true_eq]
   exact h i hi
theorem perm_some (n : Nat) : List.range n ∈ permsR n n 0 := (mem_perms _ _ _ _).2 ⟨List.length_range, List.nodup_range, fun k hk => ⟨List.mem_range.1 hk, Nat.zero_testBit _⟩⟩
theorem val_diffs {ls rs : List Grd} (hlr : ls.length = rs.length) {ks : List Nat} (hk : ks ∈ permsR ls.length ls.length 0) : valR (farF ls rs) ks ∈ diffs ls rs := by
 obtain ⟨g1, g2, g3⟩ := (mem_perms _ _ _ _).1 hk
 rcases valTo_is (farF ls rs) ks ks.length with h | ⟨i, hi, h⟩
 · rw [valR, h]; exact List.mem_cons_self
 · rw [valR, h]
   refine mem_diffs (by omega) ?_
   rw [← hlr]
   exact (g3 _ (by rw [List.getD_eq_getElem?_getD, List.getElem?_eq_getElem hi]; exact List.getElem_mem hi)).1
theorem balance_eq {ls rs : List Grd} (hlr : ls.length = rs.length) (h16 : ls.length ≤ 16) {D : List Int} (hs : D.Pairwise (· ≤ ·)) (hD : ∀ x, x ∈ D ↔ x ∈ diffs ls rs) {W : Int} (hW : ∀ d ∈ diffs ls rs, 0 ≤ d ∧ d < W) :
   balanceTo ls rs D = some ((refBal (farF ls rs) ls.length ls.length [] ([], W)).1.mapIdx (fun i k => (i, k)), (refBal (farF ls rs) ls.length ls.length [] ([], W)).2) ∧
   (∀ ks ∈ permsR ls.length ls.length 0, (refBal (farF ls rs) ls.length ls.length [] ([], W)).2 ≤ valR (farF ls rs) ks) ∧
   (refBal (farF ls rs) ls.length ls.length [] ([], W)).1 ∈ permsR ls.length ls.length 0 ∧ valR (farF ls rs) (refBal (farF ls rs) ls.length ls.length [] ([], W)).1 = (refBal (farF ls rs) ls.length ls.length [] ([], W)).2 := by
 rw [refBal_eq _ _ _ _ 0 _ fun k => by rw [Nat.zero_testBit]; simp]
 rw [show ((permsR ls.length ls.length 0).map (([] : List Nat) ++ ·)) = permsR ls.length ls.length 0 from by simp]
 obtain ⟨h1, h2, h3⟩ := fold_best (farF ls rs) (permsR ls.length ls.length 0) ([], W)
 generalize hr : (permsR ls.length ls.length 0).foldl (balStep (farF ls rs)) ([], W) = r at *
 rcases h3 with ⟨h3, h4⟩ | ⟨h3, h4, h5⟩
 · have := h4 _ (perm_some ls.length)
   have := hW _ (val_diffs hlr (perm_some ls.length))
   simp only at *
   omega
 have hm := List.mem_of_find?_eq_some h3
 have hd := val_diffs hlr hm
 rw [h4] at hd
 have h0 := (hW _ hd).1
 refine ⟨?_, h1, hm, h4⟩
 rw [balanceTo_first hs ((hD _).2 hd) ((near_full hlr h16 h0).2 ⟨_, hm, by omega⟩) fun d hd' hlt hc => by
   obtain ⟨ks, k1, k2⟩ := (near_full hlr h16 (hW d ((hD d).1 hd')).1).1 hc
   have := h1 ks k1
   omega]
 have hrow : ∀ row ∈ nearB ls rs r.2, row.length = ls.length := fun row hrw => by
   obtain ⟨a, _, rfl⟩ := List.mem_map.1 hrw
   rw [List.length_map, hlr]
 have hnl : (nearB ls rs r.2).length = ls.length := by simp [nearB]
 have hg := greedy_eq hrow h16 ls.length 0 r.1 (by omega) (by
   rw [nearB_eq]
   rw [← h3]
   have key : ∀ {l : List (List Nat)}, (∀ x ∈ l, okFrom (nearR ls rs r.2) 0 x = decide (valR (farF ls rs) x ≤ r.2)) → l.find? (okFrom (nearR ls rs r.2) 0) = l.find? fun x => decide (valR (farF ls rs) x ≤ r.2) := by
     intro l
     induction l with
     | nil => intro _; rfl
     | cons a l ih =>
       intro h
       rw [List.find?_cons, List.find?_cons, h a (by simp), ih fun x hx => h x (by simp [hx])]
   exact key fun x hx => ok_near hlr h0 hx)
 rw [← nearB_eq, pairsR_ref (fun row hrw => by rw [hrow row hrw]; exact h16), hg]
 simp [refPairsTo]
end Go.Aw
end
section
namespace Go.Aw
open Go.RowKit
def tabB (g : Gau) (ls rs : List Grd) (k : Int) : List (List Bool) := ls.map fun a => rs.map fun b => alikeR g a b k
def manyR (g : Gau) (ls rs : List Grd) (k : Int) : Nat := refM (tabB g ls rs k) 0
theorem farR_comm (a b : Int) : farR a b = farR b a := by unfold farR; omega
theorem alikeR_comm (g : Gau) {a b : Grd} (h : a.2.length = b.2.length) (k : Int) : alikeR g a b k = alikeR g b a k := by
 unfold alikeR
 rw [farR_comm, h]
 congr 2
 funext i
 rw [farR_comm]
def okTwin (g : Gau) (ls rs : List Grd) (a b : Nat × Nat) : Bool :=
 decide (a.1 ≠ b.1 ∧ a.2 ≠ b.2) && alikeR g (rs.getD a.2 default) (ls.getD a.1 default) 2 && alikeR g (ls.getD b.1 default) (ls.getD a.1 default) 2 && alikeR g (ls.getD b.1 default) (rs.getD a.2 default) 2 &&
   alikeR g (rs.getD b.2 default) (ls.getD a.1 default) 2 && alikeR g (rs.getD b.2 default) (rs.getD a.2 default) 2 && alikeR g (rs.getD b.2 default) (ls.getD b.1 default) 2
def refCutTo (g : Gau) (ls rs : List Grd) : Nat → Nat × Nat × Bool
 | 0 => (0, manyR g ls rs 2, false)
 | i + 1 => if (refCutTo g ls rs i).2.1 < manyR g ls (rs ++ [ls.getD i default]) 2 then (i, manyR g ls (rs ++ [ls.getD i default]) 2, true) else refCutTo g ls rs i
def lookB (g : Gau) (ls rs : List Grd) (right : Bool) (n : Nat) : List (List Bool) :=
 (List.range ls.length).map fun i => (List.range rs.length).map fun k => if (if right then k else i) = n then alikeR g (ls.getD i default) (rs.getD k default) 1 else alikeR g (ls.getD i default) (rs.getD k default) 2
end Go.Aw
end
section
namespace Go.Aw
open Go.RowKit
structure Fine (m : Nat) (x : Grd) : Prop where
 w1 : 1 ≤ x.1
 w2 : x.1 ≤ 10000
 len : x.2.length = m
 c : ∀ v ∈ x.2, 0 ≤ v ∧ v ≤ 500
theorem check_fine {g : Gau} {ls rs : List Grd} {m : Nat} (h1 : 1 ≤ m) (h4 : m ≤ 4) (hl8 : ls.length ≤ 8) (hr8 : rs.length ≤ 8) (hl : ∀ x ∈ ls, Fine m x) (hr : ∀ x ∈ rs, Fine m x) (hg : gaugeR g = true) : checkS g ls rs = 0 := by
 have hall : ∀ x ∈ ls ++ rs, Fine m x := fun x hx => (List.mem_append.1 hx).elim (hl x) (hr x)
 rw [checkS, if_neg (by omega)]
 generalize ls ++ rs = l at *
 have h0 : ∀ x ∈ l, otherR l x = false := fun x hx => by
   have e : (l.getD 0 default).2.length = m := by
     cases l with
     | nil => cases hx
     | cons y l => exact (hall y (by simp)).len
   simp only [otherR, inR', e, (hall x hx).len, Bool.or_eq_false_iff, Bool.not_eq_false', Bool.and_eq_true, decide_eq_true_eq]
   refine ⟨⟨by omega, by omega⟩, by simp⟩
 have h2 : ∀ x ∈ l, noneR x = false := fun x hx => by
   have := hall x hx
   simp only [noneR, inR', Bool.or_eq_false_iff, Bool.not_eq_false', Bool.and_eq_true, decide_eq_true_eq, List.all_eq_true]
   exact ⟨⟨this.w1, this.w2⟩, fun v hv => this.c v hv⟩
 rw [chkR, if_neg (by rw [List.any_eq_true]; rintro ⟨x, hx, hh⟩; rw [h0 x hx] at hh; cases hh), if_neg (by rw [List.any_eq_true]; rintro ⟨x, hx, hh⟩; rw [h2 x hx] at hh; cases hh), if_pos hg]
theorem chk_two {g : Gau} {a b : Grd} {m : Nat} (h1 : 1 ≤ m) (h4 : m ≤ 4) (ha : Fine m a) (hb : Fine m b) (hg : gaugeR g = true) : chkR g [a, b] = 0 := by
 have := check_fine (g := g) (ls := [a]) (rs := [b]) h1 h4 (by simp) (by simp) (by simpa using ha) (by simpa using hb) hg
 rw [checkS, if_neg (by simp)] at this
 exact this
theorem alikeR_iff {g : Gau} {a b : Grd} {k : Int} : alikeR g a b k = true ↔ farR a.1 b.1 + k * g.sc ≤ g.we ∧ ∀ i, i < a.2.length → farR (a.2.getD i default) (b.2.getD i default) + k * g.ga ≤ g.cu := by
 simp only [alikeR, Bool.and_eq_true, Bool.not_eq_true', decide_eq_false_iff_not, List.all_eq_true, List.mem_range]
 constructor
 · rintro ⟨h1, h2⟩; exact ⟨by omega, fun i hi => by have := h2 i hi; omega⟩
 · rintro ⟨h1, h2⟩; exact ⟨by omega, fun i hi => by have := h2 i hi; omega⟩
def atR (by' : List Int) (i k : Nat) (off : Int) : Int := if by'.length = 0 then 0 else by'.getD ((3 * i + k) % by'.length) 0 % (2 * off + 1) - off
theorem atR_bnd (by' : List Int) (i k : Nat) {off : Int} (h : 0 ≤ off) : -off ≤ atR by' i k off ∧ atR by' i k off ≤ off := by
 unfold atR
 split
 · omega
 · have h1 := Int.emod_nonneg (by'.getD ((3 * i + k) % by'.length) 0) (show 2 * off + 1 ≠ 0 by omega)
   have h2 := Int.emod_lt_of_pos (by'.getD ((3 * i + k) % by'.length) 0) (show 0 < 2 * off + 1 by omega)
   omega
def trueG (g : Gau) (by' : List Int) (i : Nat) (x : Grd) : Grd := (x.1 + atR by' i 0 g.sc, (List.range x.2.length).map fun k => x.2.getD k default + atR by' i (1 + k) g.ga)
theorem trueG_len (g : Gau) (by' : List Int) (i : Nat) (x : Grd) : (trueG g by' i x).2.length = x.2.length := by simp [trueG]
theorem trueG_get {g : Gau} {by' : List Int} {i : Nat} {x : Grd} {k : Nat} (h : k < x.2.length) : (trueG g by' i x).2.getD k default = x.2.getD k default + atR by' i (1 + k) g.ga := by
 simp [trueG, List.getD_eq_getElem?_getD, h]
theorem farR_move {a b x y o : Int} (hx : -o ≤ x ∧ x ≤ o) (hy : -o ≤ y ∧ y ≤ o) : farR (a + x) (b + y) ≤ farR a b + 2 * o ∧ farR a b ≤ farR (a + x) (b + y) + 2 * o := by unfold farR; omega
theorem truth_sure {g : Gau} {a b : Grd} {by' : List Int} {i k : Nat} (h1 : 0 ≤ g.sc) (h2 : 0 ≤ g.ga) (hl : a.2.length = b.2.length) (h : alikeR g a b 2 = true) : alikeR g (trueG g by' i a) (trueG g by' k b) 0 = true := by
 rw [alikeR_iff] at h ⊢
 rw [trueG_len]
 refine ⟨?_, fun j hj => ?_⟩
 · have := (farR_move (a := a.1) (b := b.1) (atR_bnd by' i 0 h1) (atR_bnd by' k 0 h1)).1
   simp only [trueG]; omega
 · have := (farR_move (a := a.2.getD j default) (b := b.2.getD j default) (atR_bnd by' i (1 + j) h2) (atR_bnd by' k (1 + j) h2)).1
   have := h.2 j hj
   rw [trueG_get hj, trueG_get (by omega)]; omega
theorem truth_may {g : Gau} {a b : Grd} {by' : List Int} {i k : Nat} (h1 : 0 ≤ g.sc) (h2 : 0 ≤ g.ga) (hl : a.2.length = b.2.length) (h : alikeR g (trueG g by' i a) (trueG g by' k b) 0 = true) : alikeR g a b (-2) = true := by
 rw [alikeR_iff] at h ⊢
 rw [trueG_len] at h
 refine ⟨?_, fun j hj => ?_⟩
 · have := (farR_move (a := a.1) (b := b.1) (atR_bnd by' i 0 h1) (atR_bnd by' k 0 h1)).2
   have := h.1
   simp only [trueG] at this; omega
 · have := (farR_move (a := a.2.getD j default) (b := b.2.getD j default) (atR_bnd by' i (1 + j) h2) (atR_bnd by' k (1 + j) h2)).2
   have := h.2 j hj
   rw [trueG_get hj, trueG_get (by omega)] at this; omega
theorem sure_may {g : Gau} {a b : Grd} (h1 : 0 ≤ g.sc) (h2 : 0 ≤ g.ga) (h : alikeR g a b 2 = true) : alikeR g a b (-2) = true := alike_more (by omega) (by omega) (Int.le_refl _) (Int.le_refl _) h
def grK (is : Nat → Nat → Bool) (L : List (Nat × Nat)) (i : Nat) : Nat → List (Nat × Nat)
 | 0 => L
 | k + 1 => if is i k && !((grK is L i k).any fun p => p.1 == i) && !((grK is L i k).any fun p => p.2 == k) then grK is L i k ++ [(i, k)] else grK is L i k
def grT (is : Nat → Nat → Bool) (nr : Nat) : Nat → List (Nat × Nat)
 | 0 => []
 | i + 1 => grK is (grT is nr i) i nr
structure GrOk (is : Nat → Nat → Bool) (nl nr : Nat) (l : List (Nat × Nat)) : Prop where
 e : ∀ p ∈ l, p.1 < nl ∧ p.2 < nr ∧ is p.1 p.2 = true
 a : (l.map (·.1)).Nodup
 b : (l.map (·.2)).Nodup
theorem nodup_snoc {l : List Nat} {x : Nat} (h : l.Nodup) (hx : x ∉ l) : (l ++ [x]).Nodup := by
 rw [List.nodup_append]
 exact ⟨h, by simp, fun a ha b hb e => hx (by rw [List.mem_singleton] at hb; rw [← hb, ← e]; exact ha)⟩
theorem grK_ok {is : Nat → Nat → Bool} {nl nr : Nat} {L : List (Nat × Nat)} {i : Nat} (hi : i < nl) (h : GrOk is nl nr L) : ∀ k, k ≤ nr → GrOk is nl nr (grK is L i k)
 | 0, _ => h
 | k + 1, hk => by
   have ih := grK_ok hi h k (by omega)
   rw [grK]
   split
   · rename_i hc
     simp only [Bool.and_eq_true, Bool.not_eq_true', List.any_eq_false, beq_iff_eq] at hc
     obtain ⟨⟨h1, h2⟩, h3⟩ := hc
     refine ⟨fun p hp => ?_, ?_, ?_⟩
     · rcases List.mem_append.1 hp with hp | hp
       · exact ih.e p hp
       · rw [List.mem_singleton] at hp; subst hp; exact ⟨hi, by omega, h1⟩
     · rw [List.map_append]
       exact nodup_snoc ih.a fun hm => by
         obtain ⟨p, hp, e⟩ := List.mem_map.1 hm
         exact h2 p hp e
     · rw [List.map_append]
       exact nodup_snoc ih.b fun hm => by
         obtain ⟨p, hp, e⟩ := List.mem_map.1 hm
         exact h3 p hp e
   · exact ih
theorem grT_ok {is : Nat → Nat → Bool} {nl nr : Nat} : ∀ i, i ≤ nl → GrOk is nl nr (grT is nr i)
 | 0, _ => ⟨fun p hp => (by cases hp), List.nodup_nil, List.nodup_nil⟩
 | i + 1, hi => grK_ok (by omega) (grT_ok i (by omega)) nr (Nat.le_refl _)
theorem gr_most {g : Gau} {ls rs : List Grd} {is : Nat → Nat → Bool} (hr : rs.length ≤ 16) (hm : ∀ i k, i < ls.length → k < rs.length → is i k = true → alikeR g (ls.getD i default) (rs.getD k default) (-2) = true) : (grT is rs.length ls.length).length ≤ mostR (tableR g ls rs (-2)) := by
 have h := grT_ok (is := is) (nl := ls.length) (nr := rs.length) ls.length (Nat.le_refl _)
 rw [mostR_eq (tableR_few hr)]
 refine Apart.le ⟨fun p hp => ?_, h.a, h.b⟩
 obtain ⟨h1, h2, h3⟩ := h.e p hp
 refine ⟨by rw [tableR_len]; exact h1, ?_, by omega⟩
 rw [tableR_get h1, rowR_bit, decide_eq_true h2, hm _ _ h1 h2 h3]; rfl
theorem pairs_bnd {g : Gau} {ls rs : List Grd} {k : Int} (hr : rs.length ≤ 16) : (∀ p ∈ pairsR (tableR g ls rs k), p.1 < ls.length ∧ p.2 < rs.length ∧ alikeR g (ls.getD p.1 default) (rs.getD p.2 default) k = true) ∧
   ((pairsR (tableR g ls rs k)).map (·.1)).Pairwise (· < ·) ∧ ((pairsR (tableR g ls rs k)).map (·.2)).Nodup ∧ (pairsR (tableR g ls rs k)).length = mostR (tableR g ls rs k) := by
 obtain ⟨h1, h2, h3, h4⟩ := pairsR_ok (tableR_few (g := g) (ls := ls) (k := k) hr)
 refine ⟨fun p hp => ?_, h3, h4, h1⟩
 obtain ⟨q1, q2, q3⟩ := h2 p hp
 rw [tableR_len] at q1
 rw [tableR_get q1, rowR_bit, Bool.and_eq_true, decide_eq_true_eq] at q2
 exact ⟨q1, q2.1, q2.2⟩
theorem most_left_le {g : Gau} {ls rs : List Grd} {k : Int} (hr : rs.length ≤ 16) : mostR (tableR g ls rs k) ≤ ls.length := by
 rw [mostR_eq (tableR_few hr)]
 have := maxM_len (tableR g ls rs k) 0
 rwa [tableR_len] at this
theorem most_right_le {g : Gau} {ls rs : List Grd} {k : Int} (hr : rs.length ≤ 16) : mostR (tableR g ls rs k) ≤ rs.length := by
 obtain ⟨h1, _, h3, h4⟩ := pairs_bnd (g := g) (ls := ls) (k := k) hr
 rw [← h4, ← List.length_map (f := fun p : Nat × Nat => p.2)]
 have := nodup_len (a := (pairsR (tableR g ls rs k)).map (·.2)) (b := List.range rs.length) h3 fun x hx => by
   obtain ⟨p, hp, rfl⟩ := List.mem_map.1 hx
   exact List.mem_range.2 (h1 p hp).2.1
 rwa [List.length_range] at this
end Go.Aw
end
section
set_option maxRecDepth 20000
set_option maxHeartbeats 4000000
namespace Go.Aw
open Go.RowKit Go.Proofs
theorem gIn_spec (n l m : Int) : Ct Tryd.prog 62 [int n, int l, int m] (.lit (.bool (inR' l m n))) := by
 refine fn_enter Tryd.func62 rfl (by decide) Tryd.results62 Tryd.ntmps62 ?_ rfl (by simp (maxSteps := 1000000) -implicitDefEqProofs (disch := omega) only [go_sem]; rfl) fun base => ?_
 · simp
 repeat' (first
   | (with_reducible apply Req_intro); focus (first | omega | assumption | (simp; done))
   | with_reducible (first | apply Req_intro | refine nilT ?_ fun hn => ?_ | apply wk_draw Tryd_mixed | refine drawEnd (by kernel_rfl) ?_)
   | (with_reducible (first | apply condA_if | apply stepDG_ifN | apply stepDG_if | apply stepG_ifN | apply stepG_if)) <;> intro hb <;> (have hif := hb) <;> (try simp only [bo] at hif) <;> (try simp -implicitDefEqProofs (disch := omega) only [go_sem, hb]) <;> clear hb
   | simp (maxSteps := 1000000) -implicitDefEqProofs (disch := omega) only [go_sem])
 · refine ret_do ?_
   simp [inR', hif, retV]
 · refine ret_do ?_
   have : inR' l m n = false := by simp [inR']; omega
   rw [this]; rfl
theorem rFar_spec (a b : Int) (ha : inR' 0 1000000 a = true) (hb : inR' 0 1000000 b = true) : Ct Tryd.prog 87 [int a, int b] (int (farR a b)) := by
 simp only [inR', Bool.and_eq_true, decide_eq_true_eq] at ha hb
 refine fn_enter Tryd.func87 rfl (by decide) Tryd.results87 Tryd.ntmps87 ?_ rfl (by simp (maxSteps := 1000000) -implicitDefEqProofs (disch := omega) only [go_sem]; rfl) fun base => ?_
 · first | assumption | (simp only [go_sem] <;> assumption) | (simp only [go_sem, *]; done) | (simp [go_sem]; done)
 repeat' (first
   | (with_reducible apply Req_intro); focus (first | omega | assumption | (simp; done))
   | with_reducible (first | apply Req_intro | refine nilT ?_ fun hn => ?_ | apply wk_draw Tryd_mixed | refine drawEnd (by kernel_rfl) ?_)
   | (with_reducible (first | apply condA_if | apply stepDG_ifN | apply stepDG_if | apply stepG_ifN | apply stepG_if)) <;> intro hb <;> (have hif := hb) <;> (try simp only [bo] at hif) <;> (try simp -implicitDefEqProofs (disch := omega) only [go_sem, hb]) <;> clear hb
   | simp (maxSteps := 1000000) -implicitDefEqProofs (disch := omega) only [go_sem])
 refine ret_do ?_
 have : max a b - min a b = farR a b := by unfold farR; omega
 rw [this]; rfl
def alTo (g : Gau) (a b : Grd) (k : Int) (i : Nat) : Bool := decide (farR a.1 b.1 + k * g.sc ≤ g.we) && (List.range i).all fun j => decide (farR (a.2.getD j default) (b.2.getD j default) + k * g.ga ≤ g.cu)
theorem rGauge_spec (g : Gau) : Ct Tryd.prog 20 [encGa g] (.lit (.bool (gaugeR g))) := by
 refine fn_enter Tryd.func20 rfl (by decide) Tryd.results20 Tryd.ntmps20 ?_ rfl (by simp (maxSteps := 1000000) -implicitDefEqProofs (disch := omega) only [go_sem]; rfl) fun base => ?_
 · first | assumption | (simp only [go_sem] <;> assumption) | (simp only [go_sem, *]; done) | (simp [go_sem]; done)
 repeat' (first
   | (with_reducible apply Req_intro); focus (first | omega | assumption | (simp; done))
   | with_reducible (first | apply Req_intro | refine nilT ?_ fun hn => ?_ | apply wk_draw Tryd_mixed | refine drawEnd (by kernel_rfl) ?_)
   | (with_reducible (first | apply condA_if | apply stepDG_ifN | apply stepDG_if | apply stepG_ifN | apply stepG_if)) <;> intro hb <;> (have hif := hb) <;> (try simp only [bo] at hif) <;> (try simp -implicitDefEqProofs (disch := omega) only [go_sem, hb]) <;> clear hb
   | simp (maxSteps := 1000000) -implicitDefEqProofs (disch := omega) only [go_sem])
 all_goals first | exact absurd trivial ‹¬True› | exact absurd ‹false = true› (by decide) | exact absurd ‹true = false› (by decide) | (exfalso; omega) | omega | skip
 refine callp (gIn_spec g.sc 0 100) ?_
 try simp (maxSteps := 1000000) -implicitDefEqProofs (disch := omega) only [go_sem]
 unfold gaugeR
 cases h1 : inR' 0 100 g.sc with
 | false =>
   repeat' (first
     | (with_reducible apply Req_intro); focus (first | omega | assumption | (simp; done))
     | with_reducible (first | apply Req_intro | refine nilT ?_ fun hn => ?_ | apply wk_draw Tryd_mixed | refine drawEnd (by kernel_rfl) ?_)
     | (with_reducible (first | apply condA_if | apply stepDG_ifN | apply stepDG_if | apply stepG_ifN | apply stepG_if)) <;> intro hb <;> (have hif := hb) <;> (try simp only [bo] at hif) <;> (try simp -implicitDefEqProofs (disch := omega) only [go_sem, hb]) <;> clear hb
     | simp (maxSteps := 1000000) -implicitDefEqProofs (disch := omega) only [go_sem])
   all_goals first | exact absurd trivial ‹¬True› | exact absurd ‹false = true› (by decide) | exact absurd ‹true = false› (by decide) | (exfalso; omega) | omega | skip
   refine ret_do ?_
   rfl
 | true =>
   repeat' (first
     | (with_reducible apply Req_intro); focus (first | omega | assumption | (simp; done))
     | with_reducible (first | apply Req_intro | refine nilT ?_ fun hn => ?_ | apply wk_draw Tryd_mixed | refine drawEnd (by kernel_rfl) ?_)
     | (with_reducible (first | apply condA_if | apply stepDG_ifN | apply stepDG_if | apply stepG_ifN | apply stepG_if)) <;> intro hb <;> (have hif := hb) <;> (try simp only [bo] at hif) <;> (try simp -implicitDefEqProofs (disch := omega) only [go_sem, hb]) <;> clear hb
     | simp (maxSteps := 1000000) -implicitDefEqProofs (disch := omega) only [go_sem])
   all_goals first | exact absurd trivial ‹¬True› | exact absurd ‹false = true› (by decide) | exact absurd ‹true = false› (by decide) | (exfalso; omega) | omega | skip
   refine callp (gIn_spec g.ga 0 100) ?_
   try simp (maxSteps := 1000000) -implicitDefEqProofs (disch := omega) only [go_sem]
   cases h2 : inR' 0 100 g.ga with
   | false =>
     repeat' (first
       | (with_reducible apply Req_intro); focus (first | omega | assumption | (simp; done))
       | with_reducible (first | apply Req_intro | refine nilT ?_ fun hn => ?_ | apply wk_draw Tryd_mixed | refine drawEnd (by kernel_rfl) ?_)
       | (with_reducible (first | apply condA_if | apply stepDG_ifN | apply stepDG_if | apply stepG_ifN | apply stepG_if)) <;> intro hb <;> (have hif := hb) <;> (try simp only [bo] at hif) <;> (try simp -implicitDefEqProofs (disch := omega) only [go_sem, hb]) <;> clear hb
       | simp (maxSteps := 1000000) -implicitDefEqProofs (disch := omega) only [go_sem])
     all_goals first | exact absurd trivial ‹¬True› | exact absurd ‹false = true› (by decide) | exact absurd ‹true = false› (by decide) | (exfalso; omega) | omega | skip
     refine ret_do ?_
     rfl
   | true =>
     repeat' (first
       | (with_reducible apply Req_intro); focus (first | omega | assumption | (simp; done))
       | with_reducible (first | apply Req_intro | refine nilT ?_ fun hn => ?_ | apply wk_draw Tryd_mixed | refine drawEnd (by kernel_rfl) ?_)
       | (with_reducible (first | apply condA_if | apply stepDG_ifN | apply stepDG_if | apply stepG_ifN | apply stepG_if)) <;> intro hb <;> (have hif := hb) <;> (try simp only [bo] at hif) <;> (try simp -implicitDefEqProofs (disch := omega) only [go_sem, hb]) <;> clear hb
       | simp (maxSteps := 1000000) -implicitDefEqProofs (disch := omega) only [go_sem])
     all_goals first | exact absurd trivial ‹¬True› | exact absurd ‹false = true› (by decide) | exact absurd ‹true = false› (by decide) | (exfalso; omega) | omega | skip
     refine callp (gIn_spec g.we 0 10000) ?_
     try simp (maxSteps := 1000000) -implicitDefEqProofs (disch := omega) only [go_sem]
     cases h3 : inR' 0 10000 g.we with
     | false =>
       repeat' (first
         | (with_reducible apply Req_intro); focus (first | omega | assumption | (simp; done))
         | with_reducible (first | apply Req_intro | refine nilT ?_ fun hn => ?_ | apply wk_draw Tryd_mixed | refine drawEnd (by kernel_rfl) ?_)
         | (with_reducible (first | apply condA_if | apply stepDG_ifN | apply stepDG_if | apply stepG_ifN | apply stepG_if)) <;> intro hb <;> (have hif := hb) <;> (try simp only [bo] at hif) <;> (try simp -implicitDefEqProofs (disch := omega) only [go_sem, hb]) <;> clear hb
         | simp (maxSteps := 1000000) -implicitDefEqProofs (disch := omega) only [go_sem])
       all_goals first | exact absurd trivial ‹¬True› | exact absurd ‹false = true› (by decide) | exact absurd ‹true = false› (by decide) | (exfalso; omega) | omega | skip
       refine ret_do ?_
       rfl
     | true =>
       repeat' (first
         | (with_reducible apply Req_intro); focus (first | omega | assumption | (simp; done))
         | with_reducible (first | apply Req_intro | refine nilT ?_ fun hn => ?_ | apply wk_draw Tryd_mixed | refine drawEnd (by kernel_rfl) ?_)
         | (with_reducible (first | apply condA_if | apply stepDG_ifN | apply stepDG_if | apply stepG_ifN | apply stepG_if)) <;> intro hb <;> (have hif := hb) <;> (try simp only [bo] at hif) <;> (try simp -implicitDefEqProofs (disch := omega) only [go_sem, hb]) <;> clear hb
         | simp (maxSteps := 1000000) -implicitDefEqProofs (disch := omega) only [go_sem])
       all_goals first | exact absurd trivial ‹¬True› | exact absurd ‹false = true› (by decide) | exact absurd ‹true = false› (by decide) | (exfalso; omega) | omega | skip
       refine callp (gIn_spec g.cu 0 500) ?_
       try simp (maxSteps := 1000000) -implicitDefEqProofs (disch := omega) only [go_sem]
       repeat' (first
         | (with_reducible apply Req_intro); focus (first | omega | assumption | (simp; done))
         | with_reducible (first | apply Req_intro | refine nilT ?_ fun hn => ?_ | apply wk_draw Tryd_mixed | refine drawEnd (by kernel_rfl) ?_)
         | (with_reducible (first | apply condA_if | apply stepDG_ifN | apply stepDG_if | apply stepG_ifN | apply stepG_if)) <;> intro hb <;> (have hif := hb) <;> (try simp only [bo] at hif) <;> (try simp -implicitDefEqProofs (disch := omega) only [go_sem, hb]) <;> clear hb
         | simp (maxSteps := 1000000) -implicitDefEqProofs (disch := omega) only [go_sem])
       all_goals first | exact absurd trivial ‹¬True› | exact absurd ‹false = true› (by decide) | exact absurd ‹true = false› (by decide) | (exfalso; omega) | omega | skip
       refine ret_do ?_
       rfl
def formR (l : List Grd) : Int := if l.any (otherR l) then 4 else if l.any noneR then 2 else 0
theorem form_chk (g : Gau) (l : List Grd) : chkR g l = if formR l = 0 then (if gaugeR g then 0 else 3) else formR l := by
 unfold chkR formR
 split
 · rfl
 · split
   · rfl
   · rfl
theorem rForm_spec (l : List Grd) (e : Bool) (hl : l.length ≤ 4611686018427387904) (hlc : ∀ x ∈ l, x.2.length ≤ 4611686018427387904) : Ct Tryd.prog 19 [.sl 2 (l.map encGd) e] (int (formR l)) := by
 refine fn_enter Tryd.func19 rfl (by decide) Tryd.results19 Tryd.ntmps19 ?_ rfl (by simp (maxSteps := 1000000) -implicitDefEqProofs (disch := omega) only [go_sem]; rfl) fun base => ?_
 · first | assumption | (simp only [go_sem] <;> assumption) | (simp only [go_sem, *]; done) | (simp [go_sem]; done)
 repeat' (first
   | (with_reducible apply Req_intro); focus (first | omega | assumption | (simp; done))
   | with_reducible (first | apply Req_intro | refine nilT ?_ fun hn => ?_ | apply wk_draw Tryd_mixed | refine drawEnd (by kernel_rfl) ?_)
   | (with_reducible (first | apply condA_if | apply stepDG_ifN | apply stepDG_if | apply stepG_ifN | apply stepG_if)) <;> intro hb <;> (have hif := hb) <;> (try simp only [bo] at hif) <;> (try simp -implicitDefEqProofs (disch := omega) only [go_sem, hb]) <;> clear hb
   | simp (maxSteps := 1000000) -implicitDefEqProofs (disch := omega) only [go_sem])
 refine loop_at (α := Nat) [2, 3, 6, 7, 8, 9, 10, 11, 12, 13, 14, 15, 16, 17, 18, 19, 20, 21, 22, 23, 24, 25, 26, 27, 28, 29, 30, 31, 32, 33] (fun i => [(3, .lit (.int .i64 i))]) (fun i => i ≤ l.length ∧ ∀ j, j < i → otherR l (l.getD j default) = false) (fun i => l.length - i) 0 (fun x => by simp (maxSteps := 1000000) -implicitDefEqProofs (disch := omega) only [go_sem]; rfl) ?_ ?_ fun x hx => ?_
 · exact weak_do []
 · exact ⟨Nat.zero_le _, fun j hj => absurd hj (Nat.not_lt_zero _)⟩
 obtain ⟨hi, hp⟩ := hx
 by_cases hlt : x < l.length
 · have hcl := hlc _ (getD_mem hlt)
   have hc0 := hlc _ (getD_mem (show 0 < l.length by omega))
   have hbad : otherR l (l.getD x default) = true → formR l = 4 := fun h => by
     rw [formR, if_pos (List.any_eq_true.2 ⟨_, getD_mem hlt, h⟩)]
   have hot : otherR l (l.getD x default) = (!inR' 1 4 (l.getD x default).2.length || (((l.getD x default).2.length : Int) != ((l.getD 0 default).2.length : Int))) := rfl
   rw [hot] at hbad
   repeat' (first
     | (with_reducible apply Req_intro); focus (first | omega | assumption | (simp; done))
     | with_reducible (first | apply Req_intro | refine nilT ?_ fun hn => ?_ | apply wk_draw Tryd_mixed | refine drawEnd (by kernel_rfl) ?_)
     | (with_reducible (first | apply condA_if | apply stepDG_ifN | apply stepDG_if | apply stepG_ifN | apply stepG_if)) <;> intro hb <;> (have hif := hb) <;> (try simp only [bo] at hif) <;> (try simp -implicitDefEqProofs (disch := omega) only [go_sem, hb]) <;> clear hb
     | simp (maxSteps := 1000000) -implicitDefEqProofs (disch := omega) only [go_sem])
   all_goals first | exact absurd trivial ‹¬True› | exact absurd ‹false = true› (by decide) | exact absurd ‹true = false› (by decide) | (exfalso; omega) | omega | skip
   refine calld (gIn_spec _ 1 4) ?_
   try simp (maxSteps := 1000000) -implicitDefEqProofs (disch := omega) only [go_sem]
   cases h1 : inR' 1 4 ((l.getD x default).2.length : Int) with
   | false =>
     repeat' (first
       | (with_reducible apply Req_intro); focus (first | omega | assumption | (simp; done))
       | with_reducible (first | apply Req_intro | refine nilT ?_ fun hn => ?_ | apply wk_draw Tryd_mixed | refine drawEnd (by kernel_rfl) ?_)
       | (with_reducible (first | apply condA_if | apply stepDG_ifN | apply stepDG_if | apply stepG_ifN | apply stepG_if)) <;> intro hb <;> (have hif := hb) <;> (try simp only [bo] at hif) <;> (try simp -implicitDefEqProofs (disch := omega) only [go_sem, hb]) <;> clear hb
       | simp (maxSteps := 1000000) -implicitDefEqProofs (disch := omega) only [go_sem])
     all_goals first | exact absurd trivial ‹¬True› | exact absurd ‹false = true› (by decide) | exact absurd ‹true = false› (by decide) | (exfalso; omega) | omega | skip
     refine ret_do ?_
     rw [hbad (by rw [h1]; rfl)]; rfl
   | true =>
     repeat' (first
       | (with_reducible apply Req_intro); focus (first | omega | assumption | (simp; done))
       | with_reducible (first | apply Req_intro | refine nilT ?_ fun hn => ?_ | apply wk_draw Tryd_mixed | refine drawEnd (by kernel_rfl) ?_)
       | (with_reducible (first | apply condA_if | apply stepDG_ifN | apply stepDG_if | apply stepG_ifN | apply stepG_if)) <;> intro hb <;> (have hif := hb) <;> (try simp only [bo] at hif) <;> (try simp -implicitDefEqProofs (disch := omega) only [go_sem, hb]) <;> clear hb
       | simp (maxSteps := 1000000) -implicitDefEqProofs (disch := omega) only [go_sem])
     all_goals first | exact absurd trivial ‹¬True› | exact absurd ‹false = true› (by decide) | exact absurd ‹true = false› (by decide) | (exfalso; omega) | omega | skip
     · refine ret_do ?_
       rw [hbad (by rw [h1, bne_iff_ne.2 (by omega)]; rfl)]; rfl
     · refine nxt_w (x + 1) (weak_do []) ?_
       try dsimp only
       refine ⟨by omega, fun j hj => ?_⟩
       rcases Nat.lt_succ_iff_lt_or_eq.1 hj with h | rfl
       · exact hp j h
       · rw [hot, h1, Bool.not_true, Bool.false_or, bne_eq_false_iff_eq]; omega
 · obtain rfl : x = l.length := by omega
   clear hlt
   have hno : ¬ l.any (otherR l) = true := by
     rw [List.any_eq_true]
     rintro ⟨y, hy, hh⟩
     obtain ⟨j, hj, rfl⟩ := List.getElem_of_mem hy
     have := hp j hj
     rw [getD_default hj] at this
     rw [this] at hh; cases hh
   clear hp
   have hf : formR l = if l.any noneR then 2 else 0 := by rw [formR, if_neg hno]
   repeat' (first
     | (with_reducible apply Req_intro); focus (first | omega | assumption | (simp; done))
     | with_reducible (first | apply Req_intro | refine nilT ?_ fun hn => ?_ | apply wk_draw Tryd_mixed | refine drawEnd (by kernel_rfl) ?_)
     | (with_reducible (first | apply condA_if | apply stepDG_ifN | apply stepDG_if | apply stepG_ifN | apply stepG_if)) <;> intro hb <;> (have hif := hb) <;> (try simp only [bo] at hif) <;> (try simp -implicitDefEqProofs (disch := omega) only [go_sem, hb]) <;> clear hb
     | simp (maxSteps := 1000000) -implicitDefEqProofs (disch := omega) only [go_sem])
   all_goals first | exact absurd trivial ‹¬True› | exact absurd ‹false = true› (by decide) | exact absurd ‹true = false› (by decide) | (exfalso; omega) | omega | skip
   refine loop_at (α := Nat) [2, 4, 5, 34, 35, 36, 37, 38, 39, 40, 41, 42, 43, 44, 45, 46, 47, 48, 49, 50, 51, 52, 53, 54, 55, 56, 57, 58, 59, 60, 61, 62, 63, 64, 65, 66] (fun i => [(4, .lit (.int .i64 i))]) (fun i => i ≤ l.length ∧ ∀ j, j < i → noneR (l.getD j default) = false) (fun i => l.length - i) 0 (fun x => by simp (maxSteps := 1000000) -implicitDefEqProofs (disch := omega) only [go_sem]; rfl) ?_ ?_ fun x hx => ?_
   · exact weak_do []
   · exact ⟨Nat.zero_le _, fun j hj => absurd hj (Nat.not_lt_zero _)⟩
   obtain ⟨hi, hp⟩ := hx
   rename Nat => ox
   by_cases hlt : ox < l.length
   · have hcl := hlc _ (getD_mem hlt)
     have hbad : noneR (l.getD ox default) = true → formR l = 2 := fun h => by
       rw [hf, if_pos (List.any_eq_true.2 ⟨_, getD_mem hlt, h⟩)]
     have hnn : noneR (l.getD ox default) = (!inR' 1 10000 (l.getD ox default).1 || !(l.getD ox default).2.all (inR' 0 500)) := rfl
     rw [hnn] at hbad
     repeat' (first
       | (with_reducible apply Req_intro); focus (first | omega | assumption | (simp; done))
       | with_reducible (first | apply Req_intro | refine nilT ?_ fun hn => ?_ | apply wk_draw Tryd_mixed | refine drawEnd (by kernel_rfl) ?_)
       | (with_reducible (first | apply condA_if | apply stepDG_ifN | apply stepDG_if | apply stepG_ifN | apply stepG_if)) <;> intro hb <;> (have hif := hb) <;> (try simp only [bo] at hif) <;> (try simp -implicitDefEqProofs (disch := omega) only [go_sem, hb]) <;> clear hb
       | simp (maxSteps := 1000000) -implicitDefEqProofs (disch := omega) only [go_sem])
     all_goals first | exact absurd trivial ‹¬True› | exact absurd ‹false = true› (by decide) | exact absurd ‹true = false› (by decide) | (exfalso; omega) | omega | skip
     refine callp (gIn_spec _ 1 10000) ?_
     try simp (maxSteps := 1000000) -implicitDefEqProofs (disch := omega) only [go_sem]
     cases h1 : inR' 1 10000 (l.getD ox default).1 with
     | false =>
       repeat' (first
         | (with_reducible apply Req_intro); focus (first | omega | assumption | (simp; done))
         | with_reducible (first | apply Req_intro | refine nilT ?_ fun hn => ?_ | apply wk_draw Tryd_mixed | refine drawEnd (by kernel_rfl) ?_)
         | (with_reducible (first | apply condA_if | apply stepDG_ifN | apply stepDG_if | apply stepG_ifN | apply stepG_if)) <;> intro hb <;> (have hif := hb) <;> (try simp only [bo] at hif) <;> (try simp -implicitDefEqProofs (disch := omega) only [go_sem, hb]) <;> clear hb
         | simp (maxSteps := 1000000) -implicitDefEqProofs (disch := omega) only [go_sem])
       all_goals first | exact absurd trivial ‹¬True› | exact absurd ‹false = true› (by decide) | exact absurd ‹true = false› (by decide) | (exfalso; omega) | omega | skip
       refine ret_do ?_
       rw [hbad (by rw [h1]; rfl)]; rfl
     | true =>
       repeat' (first
         | (with_reducible apply Req_intro); focus (first | omega | assumption | (simp; done))
         | with_reducible (first | apply Req_intro | refine nilT ?_ fun hn => ?_ | apply wk_draw Tryd_mixed | refine drawEnd (by kernel_rfl) ?_)
         | (with_reducible (first | apply condA_if | apply stepDG_ifN | apply stepDG_if | apply stepG_ifN | apply stepG_if)) <;> intro hb <;> (have hif := hb) <;> (try simp only [bo] at hif) <;> (try simp -implicitDefEqProofs (disch := omega) only [go_sem, hb]) <;> clear hb
         | simp (maxSteps := 1000000) -implicitDefEqProofs (disch := omega) only [go_sem])
       all_goals first | exact absurd trivial ‹¬True› | exact absurd ‹false = true› (by decide) | exact absurd ‹true = false› (by decide) | (exfalso; omega) | omega | skip
       refine loop_at (α := Nat) [2, 5, 47, 48, 49, 50, 51, 52, 53, 54, 55, 56, 57, 58, 59, 60, 61, 62, 63, 64, 65, 66] (fun i => [(5, .lit (.int .i64 i))]) (fun i => i ≤ (l.getD ox default).2.length ∧ ∀ j, j < i → inR' 0 500 ((l.getD ox default).2.getD j default) = true) (fun i => (l.getD ox default).2.length - i) 0 (fun x => by simp (maxSteps := 1000000) -implicitDefEqProofs (disch := omega) only [go_sem]; rfl) ?_ ?_ fun x hx => ?_
       · exact weak_do []
       · exact ⟨Nat.zero_le _, fun j hj => absurd hj (Nat.not_lt_zero _)⟩
       obtain ⟨hi2, hp2⟩ := hx
       by_cases hlt2 : x < (l.getD ox default).2.length
       · repeat' (first
           | (with_reducible apply Req_intro); focus (first | omega | assumption | (simp; done))
           | with_reducible (first | apply Req_intro | refine nilT ?_ fun hn => ?_ | apply wk_draw Tryd_mixed | refine drawEnd (by kernel_rfl) ?_)
           | (with_reducible (first | apply condA_if | apply stepDG_ifN | apply stepDG_if | apply stepG_ifN | apply stepG_if)) <;> intro hb <;> (have hif := hb) <;> (try simp only [bo] at hif) <;> (try simp -implicitDefEqProofs (disch := omega) only [go_sem, hb]) <;> clear hb
           | simp (maxSteps := 1000000) -implicitDefEqProofs (disch := omega) only [go_sem])
         all_goals first | exact absurd trivial ‹¬True› | exact absurd ‹false = true› (by decide) | exact absurd ‹true = false› (by decide) | (exfalso; omega) | omega | skip
         refine callp (gIn_spec _ 0 500) ?_
         try simp (maxSteps := 1000000) -implicitDefEqProofs (disch := omega) only [go_sem]
         cases h2 : inR' 0 500 ((l.getD ox default).2.getD x default) with
         | false =>
           repeat' (first
             | (with_reducible apply Req_intro); focus (first | omega | assumption | (simp; done))
             | with_reducible (first | apply Req_intro | refine nilT ?_ fun hn => ?_ | apply wk_draw Tryd_mixed | refine drawEnd (by kernel_rfl) ?_)
             | (with_reducible (first | apply condA_if | apply stepDG_ifN | apply stepDG_if | apply stepG_ifN | apply stepG_if)) <;> intro hb <;> (have hif := hb) <;> (try simp only [bo] at hif) <;> (try simp -implicitDefEqProofs (disch := omega) only [go_sem, hb]) <;> clear hb
             | simp (maxSteps := 1000000) -implicitDefEqProofs (disch := omega) only [go_sem])
           all_goals first | exact absurd trivial ‹¬True› | exact absurd ‹false = true› (by decide) | exact absurd ‹true = false› (by decide) | (exfalso; omega) | omega | skip
           refine ret_do ?_
           rw [hbad (by
             rw [h1, Bool.not_true, Bool.false_or, Bool.not_eq_true', List.all_eq_false]
             exact ⟨_, getD_mem hlt2, by rw [h2]; decide⟩)]; rfl
         | true =>
           repeat' (first
             | (with_reducible apply Req_intro); focus (first | omega | assumption | (simp; done))
             | with_reducible (first | apply Req_intro | refine nilT ?_ fun hn => ?_ | apply wk_draw Tryd_mixed | refine drawEnd (by kernel_rfl) ?_)
             | (with_reducible (first | apply condA_if | apply stepDG_ifN | apply stepDG_if | apply stepG_ifN | apply stepG_if)) <;> intro hb <;> (have hif := hb) <;> (try simp only [bo] at hif) <;> (try simp -implicitDefEqProofs (disch := omega) only [go_sem, hb]) <;> clear hb
             | simp (maxSteps := 1000000) -implicitDefEqProofs (disch := omega) only [go_sem])
           all_goals first | exact absurd trivial ‹¬True› | exact absurd ‹false = true› (by decide) | exact absurd ‹true = false› (by decide) | (exfalso; omega) | omega | skip
           refine nxt_w (x + 1) (weak_do []) ?_
           try dsimp only
           refine ⟨by omega, fun j hj => ?_⟩
           rcases Nat.lt_succ_iff_lt_or_eq.1 hj with h | rfl
           · exact hp2 j h
           · exact h2
       · repeat' (first
           | (with_reducible apply Req_intro); focus (first | omega | assumption | (simp; done))
           | with_reducible (first | apply Req_intro | refine nilT ?_ fun hn => ?_ | apply wk_draw Tryd_mixed | refine drawEnd (by kernel_rfl) ?_)
           | (with_reducible (first | apply condA_if | apply stepDG_ifN | apply stepDG_if | apply stepG_ifN | apply stepG_if)) <;> intro hb <;> (have hif := hb) <;> (try simp only [bo] at hif) <;> (try simp -implicitDefEqProofs (disch := omega) only [go_sem, hb]) <;> clear hb
           | simp (maxSteps := 1000000) -implicitDefEqProofs (disch := omega) only [go_sem])
         all_goals first | exact absurd trivial ‹¬True› | exact absurd ‹false = true› (by decide) | exact absurd ‹true = false› (by decide) | (exfalso; omega) | omega | skip
         refine nxt_w (ox + 1) (weak_do []) ?_
         try dsimp only
         refine ⟨by omega, fun j hj => ?_⟩
         rcases Nat.lt_succ_iff_lt_or_eq.1 hj with h | rfl
         · exact hp j h
         · rw [hnn, h1, Bool.not_true, Bool.false_or, Bool.not_eq_false', List.all_eq_true]
           intro v hv
           obtain ⟨q, hq, rfl⟩ := List.getElem_of_mem hv
           have := hp2 q (by omega)
           rwa [getD_default hq] at this
   · obtain rfl : ox = l.length := by omega
     have hno2 : ¬ l.any noneR = true := by
       rw [List.any_eq_true]
       rintro ⟨y, hy, hh⟩
       obtain ⟨j, hj, rfl⟩ := List.getElem_of_mem hy
       have := hp j hj
       rw [getD_default hj] at this
       rw [this] at hh; cases hh
     repeat' (first
       | (with_reducible apply Req_intro); focus (first | omega | assumption | (simp; done))
       | with_reducible (first | apply Req_intro | refine nilT ?_ fun hn => ?_ | apply wk_draw Tryd_mixed | refine drawEnd (by kernel_rfl) ?_)
       | (with_reducible (first | apply condA_if | apply stepDG_ifN | apply stepDG_if | apply stepG_ifN | apply stepG_if)) <;> intro hb <;> (have hif := hb) <;> (try simp only [bo] at hif) <;> (try simp -implicitDefEqProofs (disch := omega) only [go_sem, hb]) <;> clear hb
       | simp (maxSteps := 1000000) -implicitDefEqProofs (disch := omega) only [go_sem])
     all_goals first | exact absurd trivial ‹¬True› | exact absurd ‹false = true› (by decide) | exact absurd ‹true = false› (by decide) | (exfalso; omega) | omega | skip
     refine ret_do ?_
     rw [hf, if_neg hno2]; rfl
end Go.Aw
end
section
set_option maxRecDepth 20000
set_option maxHeartbeats 4000000
namespace Go.Aw
open Go.RowKit Go.Proofs
@[go_sem] theorem take_cat_gd (ls rs : List Grd) (n : Nat) (h : ls.length + rs.length = n) : List.take n (ls.map encGd ++ rs.map encGd) = ls.map encGd ++ rs.map encGd := List.take_of_length_le (by simp; omega)
theorem rCheck_spec (g : Gau) (ls rs : List Grd) (e1 e2 : Bool) (hs : StOk ls rs) : Ct Tryd.prog 28 [encSt ls rs e1 e2, encGa g] (int (checkS g ls rs)) := by
 obtain ⟨h1, h2, h3, h4⟩ := hs
 have hf := rForm_spec (ls ++ rs) false (by rw [List.length_append]; omega) (fun x hx => by
   rcases List.mem_append.1 hx with h | h
   · have := h3 x h; omega
   · have := h4 x h; omega)
 have hch := form_chk g (ls ++ rs)
 have hck : checkS g ls rs = if 8 < ls.length ∨ 8 < rs.length then 5 else chkR g (ls ++ rs) := rfl
 rw [List.map_append] at hf
 generalize formR (ls ++ rs) = fm at *
 refine fn_enter Tryd.func28 rfl (by decide) Tryd.results28 Tryd.ntmps28 ?_ rfl (by simp (maxSteps := 1000000) -implicitDefEqProofs (disch := omega) only [go_sem]; rfl) fun base => ?_
 · first | assumption | (simp only [go_sem] <;> assumption) | (simp only [go_sem, *]; done) | (simp [go_sem]; done)
 repeat' (first
   | (with_reducible apply Req_intro); focus (first | omega | assumption | (simp; done))
   | with_reducible (first | apply Req_intro | refine nilT ?_ fun hn => ?_ | apply wk_draw Tryd_mixed | refine drawEnd (by kernel_rfl) ?_)
   | (with_reducible (first | apply condA_if | apply stepDG_ifN | apply stepDG_if | apply stepG_ifN | apply stepG_if)) <;> intro hb <;> (have hif := hb) <;> (try simp only [bo] at hif) <;> (try simp -implicitDefEqProofs (disch := omega) only [go_sem, hb]) <;> clear hb
   | simp (maxSteps := 1000000) -implicitDefEqProofs (disch := omega) only [go_sem])
 · refine ret_do ?_
   rw [hck, if_pos (by omega)]; rfl
 · refine ret_do ?_
   rw [hck, if_pos (by omega)]; rfl
 rw [if_neg (by omega)] at hck
 refine calldf 1216 hf ?_
 try simp (maxSteps := 1000000) -implicitDefEqProofs (disch := omega) only [go_sem]
 repeat' (first
   | (with_reducible apply Req_intro); focus (first | omega | assumption | (simp; done))
   | with_reducible (first | apply Req_intro | refine nilT ?_ fun hn => ?_ | apply wk_draw Tryd_mixed | refine drawEnd (by kernel_rfl) ?_)
   | (with_reducible (first | apply condA_if | apply stepDG_ifN | apply stepDG_if | apply stepG_ifN | apply stepG_if)) <;> intro hb <;> (have hif := hb) <;> (try simp only [bo] at hif) <;> (try simp -implicitDefEqProofs (disch := omega) only [go_sem, hb]) <;> clear hb
   | simp (maxSteps := 1000000) -implicitDefEqProofs (disch := omega) only [go_sem])
 · refine ret_do ?_
   rw [hck, hch, if_neg hif]; rfl
 rw [hch, if_pos hif] at hck
 refine callp (rGauge_spec g) ?_
 try simp (maxSteps := 1000000) -implicitDefEqProofs (disch := omega) only [go_sem]
 repeat' (first
   | (with_reducible apply Req_intro); focus (first | omega | assumption | (simp; done))
   | with_reducible (first | apply Req_intro | refine nilT ?_ fun hn => ?_ | apply wk_draw Tryd_mixed | refine drawEnd (by kernel_rfl) ?_)
   | (with_reducible (first | apply condA_if | apply stepDG_ifN | apply stepDG_if | apply stepG_ifN | apply stepG_if)) <;> intro hb <;> (have hif := hb) <;> (try simp only [bo] at hif) <;> (try simp -implicitDefEqProofs (disch := omega) only [go_sem, hb]) <;> clear hb
   | simp (maxSteps := 1000000) -implicitDefEqProofs (disch := omega) only [go_sem])
 all_goals first | exact absurd trivial ‹¬True› | exact absurd ‹false = true› (by decide) | exact absurd ‹true = false› (by decide) | (exfalso; omega) | omega | skip
 · refine ret_do ?_
   rw [hck, hif]; rfl
 · refine ret_do ?_
   rw [hck, hif]; rfl
theorem rCopy_spec (l : List Grd) (e : Bool) (hl : l.length ≤ 1000) (hlc : ∀ x ∈ l, x.2.length ≤ 1000) : Ct Tryd.prog 16 [.sl 2 (l.map encGd) e] (.sl 2 (l.map encGd) false) := by
 refine fn_enter Tryd.func16 rfl (by decide) Tryd.results16 Tryd.ntmps16 ?_ rfl (by simp (maxSteps := 1000000) -implicitDefEqProofs (disch := omega) only [go_sem]; rfl) fun base => ?_
 · first | assumption | (simp only [go_sem] <;> assumption) | (simp only [go_sem, *]; done) | (simp [go_sem]; done)
 repeat' (first
   | (with_reducible apply Req_intro); focus (first | omega | assumption | (simp; done))
   | with_reducible (first | apply Req_intro | refine nilT ?_ fun hn => ?_ | apply wk_draw Tryd_mixed | refine drawEnd (by kernel_rfl) ?_)
   | (with_reducible (first | apply condA_if | apply stepDG_ifN | apply stepDG_if | apply stepG_ifN | apply stepG_if)) <;> intro hb <;> (have hif := hb) <;> (try simp only [bo] at hif) <;> (try simp -implicitDefEqProofs (disch := omega) only [go_sem, hb]) <;> clear hb
   | simp (maxSteps := 1000000) -implicitDefEqProofs (disch := omega) only [go_sem])
 refine loop_rows (α := Nat) [3, 4, 6, 7, 8, 9, 10, 11, 12, 13, 14, 15, 16, 17, 18, 19, 20, 21, 22, 23, 24, 25, 26, 27] (fun i => [(4, .lit (.int .i64 i)), (3, .os 65 2 i false), (5, .undef)]) (fun i => [(65, some ⟨2, (l.take i).map encGd, 24, .wr⟩)]) (fun i => i ≤ l.length) (fun i => l.length - i) 0 (fun x => by simp (maxSteps := 1000000) -implicitDefEqProofs (disch := omega) only [go_sem]; rfl) ?_ ?_ fun x hx => ?_
 · simp only [List.take_zero, List.map_nil]
   exact weak_do3 [(65, 64)]
 · exact Nat.zero_le _
 have htl : (l.take x).length = x := by rw [List.length_take]; omega
 by_cases hlt : x < l.length
 · have hcl := hlc _ (getD_mem hlt)
   repeat' (first
     | (with_reducible apply Req_intro); focus (first | omega | assumption | (simp; done))
     | with_reducible (first | apply Req_intro | refine nilT ?_ fun hn => ?_ | apply wk_draw Tryd_mixed | refine drawEnd (by kernel_rfl) ?_)
     | (with_reducible (first | apply condA_if | apply stepDG_ifN | apply stepDG_if | apply stepG_ifN | apply stepG_if)) <;> intro hb <;> (have hif := hb) <;> (try simp only [bo] at hif) <;> (try simp -implicitDefEqProofs (disch := omega) only [go_sem, hb]) <;> clear hb
     | simp (maxSteps := 1000000) -implicitDefEqProofs (disch := omega) only [go_sem])
   all_goals first | exact absurd trivial ‹¬True› | exact absurd ‹false = true› (by decide) | exact absurd ‹true = false› (by decide) | (exfalso; omega) | omega | skip
   have ht := take_succ_getD hlt
   generalize l.getD x default = b at *
   refine nxt_snapRow [1280] 1472 (es' := (l.take x).map encGd ++ [encGd b]) (by first | (simp only [go_sem]; done) | (simp only [go_sem]; rfl)) (by rfl) ?_ (by first | assumption | (simp only [go_sem] <;> assumption) | (simp only [go_sem, *]; done) | (simp [go_sem]; done)) (by first | (simp only [go_sem]; done) | (simp only [go_sem]; rfl)) ?_
   · refine PurE.snocR (by first | assumption | (simp only [go_sem] <;> assumption) | (simp only [go_sem, *]; done) | (simp [go_sem]; done)) ?_
     rw [show encGd b = [.lit (.int .i64 b.1), .sl 1 (b.2.map encI) false] from rfl]
     (try simp (maxSteps := 1000000) -implicitDefEqProofs (disch := omega) only [go_sem])
     repeat' (first
       | with_reducible (first | exact PurI.nil | exact Pur.nilsl _ _ | exact PurE.nil)
       | (with_reducible (first | refine PurI.puL ?_ | refine PurE.puE ?_)) <;> (first | assumption | (simp only [go_sem] <;> assumption) | (simp only [go_sem, *]; done) | (simp [go_sem]; done))
       | with_reducible apply PurI.cons
       | (with_reducible refine Pur.pu _ ?_) <;> (first | assumption | (simp only [go_sem] <;> assumption) | (simp only [go_sem, *]; done) | (simp [go_sem]; done))
       | ((with_reducible apply Pur.refR) <;> (first | rfl | decide | (simp only [go_sem]; omega) | (simp only [go_sem]) | skip))
       | ((with_reducible apply Pur.osR) <;> (first | rfl | exact fun h => h | omega | (simp; omega) | (simp; done) | (simp only [go_sem]) | skip))
       | with_reducible (first | apply Pur.fnI | apply Pur.aggI | apply PurE.cons)
       | (with_reducible refine PurI.eqL ?_ ?_); (focus rfl); (focus (first | assumption | (simp only [go_sem] <;> assumption) | (simp only [go_sem, *]; done) | (simp [go_sem]; done)))
       | simp (maxSteps := 1000000) -implicitDefEqProofs (disch := omega) only [go_sem])
   with_reducible refine nxt_w (x + 1) ?_ ?_
   · (try dsimp only)
     rw [ht, List.map_append]
     exact weak_do3 [(65, 1472)]
   try dsimp only
   omega
 · obtain rfl : x = l.length := by omega
   rw [List.take_length]
   repeat' (first
     | (with_reducible apply Req_intro); focus (first | omega | assumption | (simp; done))
     | with_reducible (first | apply Req_intro | refine nilT ?_ fun hn => ?_ | apply wk_draw Tryd_mixed | refine drawEnd (by kernel_rfl) ?_)
     | (with_reducible (first | apply condA_if | apply stepDG_ifN | apply stepDG_if | apply stepG_ifN | apply stepG_if)) <;> intro hb <;> (have hif := hb) <;> (try simp only [bo] at hif) <;> (try simp -implicitDefEqProofs (disch := omega) only [go_sem, hb]) <;> clear hb
     | simp (maxSteps := 1000000) -implicitDefEqProofs (disch := omega) only [go_sem])
   all_goals first | exact absurd trivial ‹¬True› | exact absurd ‹false = true› (by decide) | exact absurd ‹true = false› (by decide) | (exfalso; omega) | omega | skip
   exact retf [65] [2] [.sl 2 (l.map encGd) false]
theorem rSame_spec (a b : List Grd) (ea eb : Bool) (ha : a.length ≤ 1000) (hb : b.length ≤ 1000) (hac : ∀ x ∈ a, x.2.length ≤ 1000) (hbc : ∀ x ∈ b, x.2.length ≤ 1000) : Ct Tryd.prog 18 [.sl 2 (a.map encGd) ea, .sl 2 (b.map encGd) eb] (.lit (.bool (a == b))) := by
 refine fn_enter Tryd.func18 rfl (by decide) Tryd.results18 Tryd.ntmps18 ?_ rfl (by simp (maxSteps := 1000000) -implicitDefEqProofs (disch := omega) only [go_sem]; rfl) fun base => ?_
 · first | assumption | (simp only [go_sem] <;> assumption) | (simp only [go_sem, *]; done) | (simp [go_sem]; done)
 repeat' (first
   | (with_reducible apply Req_intro); focus (first | omega | assumption | (simp; done))
   | with_reducible (first | apply Req_intro | refine nilT ?_ fun hn => ?_ | apply wk_draw Tryd_mixed | refine drawEnd (by kernel_rfl) ?_)
   | (with_reducible (first | apply condA_if | apply stepDG_ifN | apply stepDG_if | apply stepG_ifN | apply stepG_if)) <;> intro hb <;> (have hif := hb) <;> (try simp only [bo] at hif) <;> (try simp -implicitDefEqProofs (disch := omega) only [go_sem, hb]) <;> clear hb
   | simp (maxSteps := 1000000) -implicitDefEqProofs (disch := omega) only [go_sem])
 · refine ret_do ?_
   have : (a == b) = false := by rw [beq_eq_false_iff_ne]; intro e; subst e; exact hif rfl
   rw [this]; rfl
 refine loop_at (α := Nat) [4, 5, 11, 12, 13, 14, 15, 16, 17, 18, 19, 20, 21, 22, 23, 24, 25, 26, 27, 28, 29, 30, 31, 32, 33, 34, 35, 36, 37, 38, 39, 40, 41] (fun i => [(5, .lit (.int .i64 i))]) (fun i => i ≤ a.length ∧ a.take i = b.take i) (fun i => a.length - i) 0 (fun x => by simp (maxSteps := 1000000) -implicitDefEqProofs (disch := omega) only [go_sem]; rfl) ?_ ?_ fun x hx => ?_
 · exact weak_do []
 · simp
 obtain ⟨hi, he⟩ := hx
 by_cases hlt : x < a.length
 · have h1 := hac _ (getD_mem hlt)
   have h2 := hbc _ (getD_mem (l := b) (i := x) (by omega))
   have hno : a.getD x default ≠ b.getD x default → (a == b) = false := fun h => by rw [beq_eq_false_iff_ne]; intro e; subst e; exact h rfl
   have hin := rInts_spec (a.getD x default).2 (b.getD x default).2 false false (by omega) (by omega)
   repeat' (first
     | (with_reducible apply Req_intro); focus (first | omega | assumption | (simp; done))
     | with_reducible (first | apply Req_intro | refine nilT ?_ fun hn => ?_ | apply wk_draw Tryd_mixed | refine drawEnd (by kernel_rfl) ?_)
     | (with_reducible (first | apply condA_if | apply stepDG_ifN | apply stepDG_if | apply stepG_ifN | apply stepG_if)) <;> intro hb <;> (have hif := hb) <;> (try simp only [bo] at hif) <;> (try simp -implicitDefEqProofs (disch := omega) only [go_sem, hb]) <;> clear hb
     | simp (maxSteps := 1000000) -implicitDefEqProofs (disch := omega) only [go_sem])
   all_goals first | exact absurd trivial ‹¬True› | exact absurd ‹false = true› (by decide) | exact absurd ‹true = false› (by decide) | (exfalso; omega) | omega | skip
   · refine ret_do ?_
     rw [hno (fun e => hif (by rw [e]))]; rfl
   · refine calld hin ?_
     try simp (maxSteps := 1000000) -implicitDefEqProofs (disch := omega) only [go_sem]
     repeat' (first
       | (with_reducible apply Req_intro); focus (first | omega | assumption | (simp; done))
       | with_reducible (first | apply Req_intro | refine nilT ?_ fun hn => ?_ | apply wk_draw Tryd_mixed | refine drawEnd (by kernel_rfl) ?_)
       | (with_reducible (first | apply condA_if | apply stepDG_ifN | apply stepDG_if | apply stepG_ifN | apply stepG_if)) <;> intro hb <;> (have hif := hb) <;> (try simp only [bo] at hif) <;> (try simp -implicitDefEqProofs (disch := omega) only [go_sem, hb]) <;> clear hb
       | simp (maxSteps := 1000000) -implicitDefEqProofs (disch := omega) only [go_sem])
     all_goals first | exact absurd trivial ‹¬True› | exact absurd ‹false = true› (by decide) | exact absurd ‹true = false› (by decide) | (exfalso; omega) | omega | skip
     · refine ret_do ?_
       rw [hno (fun e => by rw [e] at hif; simp at hif)]; rfl
     · refine nxt_w (x + 1) (weak_do []) ?_
       try dsimp only
       refine ⟨by omega, ?_⟩
       rw [take_succ_getD (by omega), take_succ_getD (by omega), he, show a.getD x default = b.getD x default from Prod.ext (by assumption) (by simpa using hif)]
 · repeat' (first
     | (with_reducible apply Req_intro); focus (first | omega | assumption | (simp; done))
     | with_reducible (first | apply Req_intro | refine nilT ?_ fun hn => ?_ | apply wk_draw Tryd_mixed | refine drawEnd (by kernel_rfl) ?_)
     | (with_reducible (first | apply condA_if | apply stepDG_ifN | apply stepDG_if | apply stepG_ifN | apply stepG_if)) <;> intro hb <;> (have hif := hb) <;> (try simp only [bo] at hif) <;> (try simp -implicitDefEqProofs (disch := omega) only [go_sem, hb]) <;> clear hb
     | simp (maxSteps := 1000000) -implicitDefEqProofs (disch := omega) only [go_sem])
   all_goals first | exact absurd trivial ‹¬True› | exact absurd ‹false = true› (by decide) | exact absurd ‹true = false› (by decide) | (exfalso; omega) | omega | skip
   refine ret_do ?_
   have : a = b := by
     rw [List.take_of_length_le (by omega), List.take_of_length_le (by omega)] at he; exact he
   subst this; simp; rfl
theorem own_spec (ls rs : List Grd) (e1 e2 : Bool) (hs : StOk ls rs) : Ct Tryd.prog 24 [encSt ls rs e1 e2] (encSt ls rs false false) := by
 refine ct_enterZ Tryd.func24 rfl (by decide) Tryd.results24 Tryd.ntmps24 ?_ rfl (by simp (maxSteps := 1000000) -implicitDefEqProofs (disch := omega) only [go_sem]; rfl) fun base => ?_
 · first | assumption | (simp only [go_sem] <;> assumption) | (simp only [go_sem, *]; done) | (simp [go_sem]; done)
 repeat' (first
   | (with_reducible apply Req_intro); focus (first | omega | assumption | (simp; done))
   | with_reducible (first | apply Req_intro | refine nilT ?_ fun hn => ?_ | apply wk_draw Tryd_mixed | refine drawEnd (by kernel_rfl) ?_)
   | (with_reducible (first | apply condA_if | apply stepDG_ifN | apply stepDG_if | apply stepG_ifN | apply stepG_if)) <;> intro hb <;> (have hif := hb) <;> (try simp only [bo] at hif) <;> (try simp -implicitDefEqProofs (disch := omega) only [go_sem, hb]) <;> clear hb
   | simp (maxSteps := 1000000) -implicitDefEqProofs (disch := omega) only [go_sem])
 refine calld (rCopy_spec ls e1 hs.l hs.lc) ?_
 try simp (maxSteps := 1000000) -implicitDefEqProofs (disch := omega) only [go_sem]
 repeat' (first
   | (with_reducible apply Req_intro); focus (first | omega | assumption | (simp; done))
   | with_reducible (first | apply Req_intro | refine nilT ?_ fun hn => ?_ | apply wk_draw Tryd_mixed | refine drawEnd (by kernel_rfl) ?_)
   | (with_reducible (first | apply condA_if | apply stepDG_ifN | apply stepDG_if | apply stepG_ifN | apply stepG_if)) <;> intro hb <;> (have hif := hb) <;> (try simp only [bo] at hif) <;> (try simp -implicitDefEqProofs (disch := omega) only [go_sem, hb]) <;> clear hb
   | simp (maxSteps := 1000000) -implicitDefEqProofs (disch := omega) only [go_sem])
 refine calld (rCopy_spec rs e2 hs.r hs.rc) ?_
 try simp (maxSteps := 1000000) -implicitDefEqProofs (disch := omega) only [go_sem]
 repeat' (first
   | (with_reducible apply Req_intro); focus (first | omega | assumption | (simp; done))
   | with_reducible (first | apply Req_intro | refine nilT ?_ fun hn => ?_ | apply wk_draw Tryd_mixed | refine drawEnd (by kernel_rfl) ?_)
   | (with_reducible (first | apply condA_if | apply stepDG_ifN | apply stepDG_if | apply stepG_ifN | apply stepG_if)) <;> intro hb <;> (have hif := hb) <;> (try simp only [bo] at hif) <;> (try simp -implicitDefEqProofs (disch := omega) only [go_sem, hb]) <;> clear hb
   | simp (maxSteps := 1000000) -implicitDefEqProofs (disch := omega) only [go_sem])
 exact retz []
theorem same_spec (ls rs : List Grd) (e1 e2 e3 e4 : Bool) (hs : StOk ls rs) : Ct Tryd.prog 29 [encSt ls rs e1 e2, encSt ls rs e3 e4] (.lit (.bool true)) := by
 have h1 := rSame_spec ls ls e1 e3 hs.l hs.l hs.lc hs.lc
 have h2 := rSame_spec rs rs e2 e4 hs.r hs.r hs.rc hs.rc
 rw [beq_self_eq_true] at h1 h2
 refine fn_enter Tryd.func29 rfl (by decide) Tryd.results29 Tryd.ntmps29 ?_ rfl (by simp (maxSteps := 1000000) -implicitDefEqProofs (disch := omega) only [go_sem]; rfl) fun base => ?_
 · first | assumption | (simp only [go_sem] <;> assumption) | (simp only [go_sem, *]; done) | (simp [go_sem]; done)
 repeat' (first
   | (with_reducible apply Req_intro); focus (first | omega | assumption | (simp; done))
   | with_reducible (first | apply Req_intro | refine nilT ?_ fun hn => ?_ | apply wk_draw Tryd_mixed | refine drawEnd (by kernel_rfl) ?_)
   | (with_reducible (first | apply condA_if | apply stepDG_ifN | apply stepDG_if | apply stepG_ifN | apply stepG_if)) <;> intro hb <;> (have hif := hb) <;> (try simp only [bo] at hif) <;> (try simp -implicitDefEqProofs (disch := omega) only [go_sem, hb]) <;> clear hb
   | simp (maxSteps := 1000000) -implicitDefEqProofs (disch := omega) only [go_sem])
 refine callp h1 ?_
 try simp (maxSteps := 1000000) -implicitDefEqProofs (disch := omega) only [go_sem]
 repeat' (first
   | (with_reducible apply Req_intro); focus (first | omega | assumption | (simp; done))
   | with_reducible (first | apply Req_intro | refine nilT ?_ fun hn => ?_ | apply wk_draw Tryd_mixed | refine drawEnd (by kernel_rfl) ?_)
   | (with_reducible (first | apply condA_if | apply stepDG_ifN | apply stepDG_if | apply stepG_ifN | apply stepG_if)) <;> intro hb <;> (have hif := hb) <;> (try simp only [bo] at hif) <;> (try simp -implicitDefEqProofs (disch := omega) only [go_sem, hb]) <;> clear hb
   | simp (maxSteps := 1000000) -implicitDefEqProofs (disch := omega) only [go_sem])
 all_goals first | exact absurd trivial ‹¬True› | exact absurd ‹false = true› (by decide) | exact absurd ‹true = false› (by decide) | (exfalso; omega) | omega | skip
 refine callp h2 ?_
 try simp (maxSteps := 1000000) -implicitDefEqProofs (disch := omega) only [go_sem]
 repeat' (first
   | (with_reducible apply Req_intro); focus (first | omega | assumption | (simp; done))
   | with_reducible (first | apply Req_intro | refine nilT ?_ fun hn => ?_ | apply wk_draw Tryd_mixed | refine drawEnd (by kernel_rfl) ?_)
   | (with_reducible (first | apply condA_if | apply stepDG_ifN | apply stepDG_if | apply stepG_ifN | apply stepG_if)) <;> intro hb <;> (have hif := hb) <;> (try simp only [bo] at hif) <;> (try simp -implicitDefEqProofs (disch := omega) only [go_sem, hb]) <;> clear hb
   | simp (maxSteps := 1000000) -implicitDefEqProofs (disch := omega) only [go_sem])
 all_goals first | exact absurd trivial ‹¬True› | exact absurd ‹false = true› (by decide) | exact absurd ‹true = false› (by decide) | (exfalso; omega) | omega | skip
 refine ret_do ?_
 rfl
def sideR (ls rs : List Grd) (k : Nat) : List Grd := if k = 0 then ls else rs
def bigGR (ls rs : List Grd) : Bool := decide (12 < ls.length) || decide (12 < rs.length) || (ls.any fun x => decide (8 < x.2.length)) || (rs.any fun x => decide (8 < x.2.length))
def largeG (g : Gau) (ls rs : List Grd) (most : Int) : Bool :=
 (List.range 2).any (fun k => ((sideR ls rs k).take 13).any (fun x => decide (8 < x.2.length)) || decide (12 < (sideR ls rs k).length)) || decide (most < max (ls.length : Int) rs.length) && (checkS g ls rs == 0)
theorem large_spec06 (g : Gau) (ls rs : List Grd) (most : Int) (e1 e2 : Bool) (hl : ls.length ≤ 4611686018427387904) (hr : rs.length ≤ 4611686018427387904) (hlc : ∀ x ∈ ls, x.2.length ≤ 4611686018427387904) (hrc : ∀ x ∈ rs, x.2.length ≤ 4611686018427387904) :
   Ct Tryd.prog 23 [encSt ls rs e1 e2, encGa g, int most] (.lit (.bool (largeG g ls rs most))) := by
 have hbad : ∀ k, k < 2 → (((sideR ls rs k).take 13).any (fun x => decide (8 < x.2.length)) || decide (12 < (sideR ls rs k).length)) = true → largeG g ls rs most = true := fun k hk h => by
   unfold largeG
   rw [Bool.or_eq_true]; left
   exact List.any_eq_true.2 ⟨k, List.mem_range.2 hk, h⟩
 refine fn_enter Tryd.func23 rfl (by decide) Tryd.results23 Tryd.ntmps23 ?_ rfl (by simp (maxSteps := 1000000) -implicitDefEqProofs (disch := omega) only [go_sem]; rfl) fun base => ?_
 · first | assumption | (simp only [go_sem] <;> assumption) | (simp only [go_sem, *]; done) | (simp [go_sem]; done)
 repeat' (first
   | (with_reducible apply Req_intro); focus (first | omega | assumption | (simp; done))
   | with_reducible (first | apply Req_intro | refine nilT ?_ fun hn => ?_ | apply wk_draw Tryd_mixed | refine drawEnd (by kernel_rfl) ?_)
   | (with_reducible (first | apply condA_if | apply stepDG_ifN | apply stepDG_if | apply stepG_ifN | apply stepG_if)) <;> intro hb <;> (have hif := hb) <;> (try simp only [bo] at hif) <;> (try simp -implicitDefEqProofs (disch := omega) only [go_sem, hb]) <;> clear hb
   | simp (maxSteps := 1000000) -implicitDefEqProofs (disch := omega) only [go_sem])
 refine loop_rows (α := Nat) [6, 7, 8, 9, 10, 11, 12, 13, 14, 15, 16, 17, 18, 19, 20, 21, 22, 23, 24, 25, 26, 27, 28, 29, 30, 31, 32, 33, 34, 35, 36, 37, 38, 39, 40] (fun i => [(7, .lit (.int .i64 i))]) (fun i => [(0, some ⟨2, [[.sl 2 (ls.map encGd) e1, .sl 2 (rs.map encGd) e2]], 38, .wr⟩), (64, some ⟨4, [[int g.sc, int g.ga, int g.we, int g.cu]], 26, .wr⟩)]) (fun i => i ≤ 2 ∧ ∀ k, k < i → (((sideR ls rs k).take 13).any (fun x => decide (8 < x.2.length)) || decide (12 < (sideR ls rs k).length)) = false) (fun i => 2 - i) 0 (fun x => by simp (maxSteps := 1000000) -implicitDefEqProofs (disch := omega) only [go_sem]; rfl) ?_ ?_ fun x hx => ?_
 · exact weak_do3 []
 · exact ⟨by omega, fun k hk => by omega⟩
 obtain ⟨hx2, hxp⟩ := hx
 have h012 : x = 0 ∨ x = 1 ∨ x = 2 := by omega
 rcases h012 with rfl | rfl | rfl
 · have hsd : sideR ls rs 0 = ls := rfl
   have hb0 := hbad 0 (by decide)
   rw [hsd] at hb0
   repeat' (first
     | (with_reducible apply Req_intro); focus (first | omega | assumption | (simp; done))
     | with_reducible (first | apply Req_intro | refine nilT ?_ fun hn => ?_ | apply wk_draw Tryd_mixed | refine drawEnd (by kernel_rfl) ?_)
     | (with_reducible (first | apply condA_if | apply stepDG_ifN | apply stepDG_if | apply stepG_ifN | apply stepG_if)) <;> intro hb <;> (have hif := hb) <;> (try simp only [bo] at hif) <;> (try simp -implicitDefEqProofs (disch := omega) only [go_sem, hb]) <;> clear hb
     | simp (maxSteps := 1000000) -implicitDefEqProofs (disch := omega) only [go_sem])
   all_goals first | exact absurd trivial ‹¬True› | exact absurd ‹false = true› (by decide) | exact absurd ‹true = false› (by decide) | (exfalso; omega) | omega | skip
   refine loop_rows (α := Nat) [6, 9, 21, 22, 23, 24, 25, 26, 27, 28, 29, 30, 31, 32, 33, 34, 35, 36, 37] (fun i => [(9, .lit (.int .i64 i)), (8, .sl 2 (ls.map encGd) e1)]) (fun i => [(0, some ⟨2, [[.sl 2 (ls.map encGd) e1, .sl 2 (rs.map encGd) e2]], 38, .wr⟩), (64, some ⟨4, [[int g.sc, int g.ga, int g.we, int g.cu]], 26, .wr⟩)]) (fun i => i ≤ ls.length ∧ i ≤ 13 ∧ ∀ j, j < i → ¬ 8 < (ls.getD j default).2.length) (fun i => ls.length - i) 0 (fun x => by simp (maxSteps := 1000000) -implicitDefEqProofs (disch := omega) only [go_sem]; rfl) ?_ ?_ fun x hx => ?_
   · exact weak_do3 []
   · exact ⟨Nat.zero_le _, by omega, fun k hk => absurd hk (Nat.not_lt_zero _)⟩
   obtain ⟨hx1, hx2, hx3⟩ := hx
   by_cases hlt : x < ls.length ∧ x < 13
   · obtain ⟨hlt1, hlt2⟩ := hlt
     have hcl := hlc _ (getD_mem hlt1)
     repeat' (first
       | (with_reducible apply Req_intro); focus (first | omega | assumption | (simp; done))
       | with_reducible (first | apply Req_intro | refine nilT ?_ fun hn => ?_ | apply wk_draw Tryd_mixed | refine drawEnd (by kernel_rfl) ?_)
       | (with_reducible (first | apply condA_if | apply stepDG_ifN | apply stepDG_if | apply stepG_ifN | apply stepG_if)) <;> intro hb <;> (have hif := hb) <;> (try simp only [bo] at hif) <;> (try simp -implicitDefEqProofs (disch := omega) only [go_sem, hb]) <;> clear hb
       | simp (maxSteps := 1000000) -implicitDefEqProofs (disch := omega) only [go_sem])
     all_goals first | exact absurd trivial ‹¬True› | exact absurd ‹false = true› (by decide) | exact absurd ‹true = false› (by decide) | (exfalso; omega) | omega | skip
     · refine ret_do ?_
       rw [hb0 (by
         rw [Bool.or_eq_true, List.any_eq_true]; left
         refine ⟨ls.getD x default, ?_, by simp only [decide_eq_true_eq]; omega⟩
         rw [getD_default hlt1]
         exact List.mem_take_iff_getElem.2 ⟨x, by omega, rfl⟩)]; rfl
     · refine nxt_w (x + 1) (weak_do []) ?_
       try dsimp only
       refine ⟨by omega, by omega, fun j hj => ?_⟩
       rcases Nat.lt_succ_iff_lt_or_eq.1 hj with h | rfl
       · exact hx3 j h
       · omega
   · have hend : ls.length ≤ x ∨ x = 13 := by omega
     repeat' (first
       | (with_reducible apply Req_intro); focus (first | omega | assumption | (simp; done))
       | with_reducible (first | apply Req_intro | refine nilT ?_ fun hn => ?_ | apply wk_draw Tryd_mixed | refine drawEnd (by kernel_rfl) ?_)
       | (with_reducible (first | apply condA_if | apply stepDG_ifN | apply stepDG_if | apply stepG_ifN | apply stepG_if)) <;> intro hb <;> (have hif := hb) <;> (try simp only [bo] at hif) <;> (try simp -implicitDefEqProofs (disch := omega) only [go_sem, hb]) <;> clear hb
       | simp (maxSteps := 1000000) -implicitDefEqProofs (disch := omega) only [go_sem])
     all_goals first | (exfalso; omega) | skip
     all_goals (first
       | (refine ret_do ?_
          rw [hb0 (by rw [Bool.or_eq_true]; right; simp only [decide_eq_true_eq]; omega)]; rfl)
       | (refine nxt_w (0 + 1) (weak_do []) ?_
          try dsimp only
          refine ⟨by omega, fun k hk => ?_⟩
          rcases Nat.lt_succ_iff_lt_or_eq.1 hk with h | rfl
          · omega
          · rw [hsd, Bool.or_eq_false_iff, List.any_eq_false]
            refine ⟨fun y hy => ?_, by simp only [decide_eq_false_iff_not]; omega⟩
            obtain ⟨j, hj, rfl⟩ := List.mem_take_iff_getElem.1 hy
            have := hx3 j (by omega)
            rw [getD_default (by omega)] at this
            simp only [decide_eq_true_eq]; exact this))
 · have hsd : sideR ls rs 1 = rs := rfl
   have hb0 := hbad 1 (by decide)
   rw [hsd] at hb0
   repeat' (first
     | (with_reducible apply Req_intro); focus (first | omega | assumption | (simp; done))
     | with_reducible (first | apply Req_intro | refine nilT ?_ fun hn => ?_ | apply wk_draw Tryd_mixed | refine drawEnd (by kernel_rfl) ?_)
     | (with_reducible (first | apply condA_if | apply stepDG_ifN | apply stepDG_if | apply stepG_ifN | apply stepG_if)) <;> intro hb <;> (have hif := hb) <;> (try simp only [bo] at hif) <;> (try simp -implicitDefEqProofs (disch := omega) only [go_sem, hb]) <;> clear hb
     | simp (maxSteps := 1000000) -implicitDefEqProofs (disch := omega) only [go_sem])
   all_goals first | exact absurd trivial ‹¬True› | exact absurd ‹false = true› (by decide) | exact absurd ‹true = false› (by decide) | (exfalso; omega) | omega | skip
   refine loop_rows (α := Nat) [6, 9, 21, 22, 23, 24, 25, 26, 27, 28, 29, 30, 31, 32, 33, 34, 35, 36, 37] (fun i => [(9, .lit (.int .i64 i)), (8, .sl 2 (rs.map encGd) e2)]) (fun i => [(0, some ⟨2, [[.sl 2 (ls.map encGd) e1, .sl 2 (rs.map encGd) e2]], 38, .wr⟩), (64, some ⟨4, [[int g.sc, int g.ga, int g.we, int g.cu]], 26, .wr⟩)]) (fun i => i ≤ rs.length ∧ i ≤ 13 ∧ ∀ j, j < i → ¬ 8 < (rs.getD j default).2.length) (fun i => rs.length - i) 0 (fun x => by simp (maxSteps := 1000000) -implicitDefEqProofs (disch := omega) only [go_sem]; rfl) ?_ ?_ fun x hx => ?_
   · exact weak_do3 []
   · exact ⟨Nat.zero_le _, by omega, fun k hk => absurd hk (Nat.not_lt_zero _)⟩
   obtain ⟨hx1, hx2, hx3⟩ := hx
   by_cases hlt : x < rs.length ∧ x < 13
   · obtain ⟨hlt1, hlt2⟩ := hlt
     have hcl := hrc _ (getD_mem hlt1)
     repeat' (first
       | (with_reducible apply Req_intro); focus (first | omega | assumption | (simp; done))
       | with_reducible (first | apply Req_intro | refine nilT ?_ fun hn => ?_ | apply wk_draw Tryd_mixed | refine drawEnd (by kernel_rfl) ?_)
       | (with_reducible (first | apply condA_if | apply stepDG_ifN | apply stepDG_if | apply stepG_ifN | apply stepG_if)) <;> intro hb <;> (have hif := hb) <;> (try simp only [bo] at hif) <;> (try simp -implicitDefEqProofs (disch := omega) only [go_sem, hb]) <;> clear hb
       | simp (maxSteps := 1000000) -implicitDefEqProofs (disch := omega) only [go_sem])
     all_goals first | exact absurd trivial ‹¬True› | exact absurd ‹false = true› (by decide) | exact absurd ‹true = false› (by decide) | (exfalso; omega) | omega | skip
     · refine ret_do ?_
       rw [hb0 (by
         rw [Bool.or_eq_true, List.any_eq_true]; left
         refine ⟨rs.getD x default, ?_, by simp only [decide_eq_true_eq]; omega⟩
         rw [getD_default hlt1]
         exact List.mem_take_iff_getElem.2 ⟨x, by omega, rfl⟩)]; rfl
     · refine nxt_w (x + 1) (weak_do []) ?_
       try dsimp only
       refine ⟨by omega, by omega, fun j hj => ?_⟩
       rcases Nat.lt_succ_iff_lt_or_eq.1 hj with h | rfl
       · exact hx3 j h
       · omega
   · have hend : rs.length ≤ x ∨ x = 13 := by omega
     repeat' (first
       | (with_reducible apply Req_intro); focus (first | omega | assumption | (simp; done))
       | with_reducible (first | apply Req_intro | refine nilT ?_ fun hn => ?_ | apply wk_draw Tryd_mixed | refine drawEnd (by kernel_rfl) ?_)
       | (with_reducible (first | apply condA_if | apply stepDG_ifN | apply stepDG_if | apply stepG_ifN | apply stepG_if)) <;> intro hb <;> (have hif := hb) <;> (try simp only [bo] at hif) <;> (try simp -implicitDefEqProofs (disch := omega) only [go_sem, hb]) <;> clear hb
       | simp (maxSteps := 1000000) -implicitDefEqProofs (disch := omega) only [go_sem])
     all_goals first | (exfalso; omega) | skip
     all_goals (first
       | (refine ret_do ?_
          rw [hb0 (by rw [Bool.or_eq_true]; right; simp only [decide_eq_true_eq]; omega)]; rfl)
       | (refine nxt_w (1 + 1) (weak_do []) ?_
          try dsimp only
          refine ⟨by omega, fun k hk => ?_⟩
          rcases Nat.lt_succ_iff_lt_or_eq.1 hk with h | rfl
          · exact hxp k h
          · rw [hsd, Bool.or_eq_false_iff, List.any_eq_false]
            refine ⟨fun y hy => ?_, by simp only [decide_eq_false_iff_not]; omega⟩
            obtain ⟨j, hj, rfl⟩ := List.mem_take_iff_getElem.1 hy
            have := hx3 j (by omega)
            rw [getD_default (by omega)] at this
            simp only [decide_eq_true_eq]; exact this))
 · have hl0 := hxp 0 (by decide)
   have hr0 := hxp 1 (by decide)
   simp only [sideR, if_true, Nat.one_ne_zero, if_false, Bool.or_eq_false_iff, List.any_eq_false, decide_eq_false_iff_not, decide_eq_true_eq] at hl0 hr0
   have hst : StOk ls rs := ⟨by omega, by omega, fun x hx => by
     have := hl0.1 x (by rw [List.take_of_length_le (by omega)]; exact hx)
     omega, fun x hx => by
     have := hr0.1 x (by rw [List.take_of_length_le (by omega)]; exact hx)
     omega⟩
   have hck := rCheck_spec g ls rs e1 e2 hst
   have hlg : largeG g ls rs most = (decide (most < max (ls.length : Int) rs.length) && (checkS g ls rs == 0)) := by
     unfold largeG
     rw [show (List.range 2).any (fun k => ((sideR ls rs k).take 13).any (fun x => decide (8 < x.2.length)) || decide (12 < (sideR ls rs k).length)) = false from ?_, Bool.false_or]
     rw [List.any_eq_false]
     intro k hk
     rw [hxp k (List.mem_range.1 hk)]; decide
   repeat' (first
     | (with_reducible apply Req_intro); focus (first | omega | assumption | (simp; done))
     | with_reducible (first | apply Req_intro | refine nilT ?_ fun hn => ?_ | apply wk_draw Tryd_mixed | refine drawEnd (by kernel_rfl) ?_)
     | (with_reducible (first | apply condA_if | apply stepDG_ifN | apply stepDG_if | apply stepG_ifN | apply stepG_if)) <;> intro hb <;> (have hif := hb) <;> (try simp only [bo] at hif) <;> (try simp -implicitDefEqProofs (disch := omega) only [go_sem, hb]) <;> clear hb
     | simp (maxSteps := 1000000) -implicitDefEqProofs (disch := omega) only [go_sem])
   all_goals first | exact absurd trivial ‹¬True› | exact absurd ‹false = true› (by decide) | exact absurd ‹true = false› (by decide) | (exfalso; omega) | omega | skip
   · refine callp hck ?_
     try simp (maxSteps := 1000000) -implicitDefEqProofs (disch := omega) only [go_sem]
     repeat' (first
       | (with_reducible apply Req_intro); focus (first | omega | assumption | (simp; done))
       | with_reducible (first | apply Req_intro | refine nilT ?_ fun hn => ?_ | apply wk_draw Tryd_mixed | refine drawEnd (by kernel_rfl) ?_)
       | (with_reducible (first | apply condA_if | apply stepDG_ifN | apply stepDG_if | apply stepG_ifN | apply stepG_if)) <;> intro hb <;> (have hif := hb) <;> (try simp only [bo] at hif) <;> (try simp -implicitDefEqProofs (disch := omega) only [go_sem, hb]) <;> clear hb
       | simp (maxSteps := 1000000) -implicitDefEqProofs (disch := omega) only [go_sem])
     all_goals first | exact absurd trivial ‹¬True› | exact absurd ‹false = true› (by decide) | exact absurd ‹true = false› (by decide) | (exfalso; omega) | omega | skip
     refine ret_do ?_
     rw [hlg, decide_eq_true hif, Bool.true_and]; rfl
   · refine ret_do ?_
     rw [hlg, decide_eq_false (by omega)]; rfl
end Go.Aw
end
section
set_option maxRecDepth 20000
set_option maxHeartbeats 4000000
namespace Go.Aw
open Go.RowKit Go.Proofs
@[go_sem ↓] theorem actBin_eqB (a b : Bool) : actBin Tryd.prog .eql 4 (.lit (.bool a)) (.lit (.bool b)) = some (.val (.lit (.bool (a == b)))) := by
 show (if litT Tryd.prog 4 (.bool a) then _ else none) = _
 rw [show litT Tryd.prog 4 (.bool a) = true by kernel_rfl]
 rfl
@[go_sem ↓] theorem actBin_neB (a b : Bool) : actBin Tryd.prog .neq 4 (.lit (.bool a)) (.lit (.bool b)) = some (.val (.lit (.bool (a != b)))) := by
 show (if litT Tryd.prog 4 (.bool a) then _ else none) = _
 rw [show litT Tryd.prog 4 (.bool a) = true by kernel_rfl]
 rfl
@[go_sem] theorem eqB_ff : (false == false) = true := rfl
@[go_sem] theorem eqB_tt : (true == true) = true := rfl
@[go_sem] theorem eqB_ft : (false == true) = false := rfl
@[go_sem] theorem eqB_tf : (true == false) = false := rfl
@[go_sem] theorem neB_ff : (false != false) = false := rfl
@[go_sem] theorem neB_tt : (true != true) = false := rfl
@[go_sem] theorem neB_ft : (false != true) = true := rfl
@[go_sem] theorem neB_tf : (true != false) = true := rfl
theorem largeG_no {g : Gau} {ls rs : List Grd} {most : Int} (h : largeG g ls rs most = false) : StOk ls rs ∧ ls.length ≤ 12 ∧ rs.length ≤ 12 ∧ (checkS g ls rs = 0 → (ls.length : Int) ≤ most ∧ (rs.length : Int) ≤ most) := by
 unfold largeG at h
 rw [Bool.or_eq_false_iff] at h
 obtain ⟨h1, h2⟩ := h
 rw [List.any_eq_false] at h1
 have h3 := h1 0 (by simp)
 have h4 := h1 1 (by simp)
 simp only [sideR, if_true, Nat.one_ne_zero, if_false, Bool.or_eq_true, not_or, List.any_eq_true, decide_eq_true_eq, not_exists, not_and] at h3 h4
 refine ⟨⟨by omega, by omega, fun x hx => ?_, fun x hx => ?_⟩, by omega, by omega, fun hc => ?_⟩
 · have := h3.1 x (by rw [List.take_of_length_le (by omega)]; exact hx)
   omega
 · have := h4.1 x (by rw [List.take_of_length_le (by omega)]; exact hx)
   omega
 · rw [hc, Bool.and_eq_false_iff, decide_eq_false_iff_not] at h2
   rcases h2 with h2 | h2
   · omega
   · cases h2
end Go.Aw
end
section
namespace Go.Proofs
open Go.Shelf
def Tryd.lays189_ren : Ren := ⟨fun | 125 => 105 | 128 => 122 | 129 => 123 | 189 => 86 | 215 => 109 | 216 => 119 | 257 => 104 | 294 => 113 | 295 => 114 | 296 => 115 | 297 => 116 | 298 => 117 | 299 => 118 | 300 => 120 | 301 => 121 | 328 => 125 | 329 => 126 | 330 => 127 | 331 => 128 | 332 => 129 | 343 => 130 | n => n, fun | 28 => 22 | 46 => 112 | 51 => 146 | 53 => 148 | 131 => 157 | 182 => 161 | 183 => 162 | 218 => 171 | 222 => 175 | 228 => 177 | 229 => 178 | n => n, fun | n => n⟩
theorem Tryd.lays189 : Lays.n189 Tryd.prog Tryd.lays189_ren := {
 mixed := by kernel_rfl,
 f125 := Tryd.func105.trans (congrArg some (by kernel_rfl)),
 f128 := Tryd.func122.trans (congrArg some (by kernel_rfl)),
 f129 := Tryd.func123.trans (congrArg some (by kernel_rfl)),
 f189 := Tryd.func86.trans (congrArg some (by kernel_rfl)),
 f215 := Tryd.func109.trans (congrArg some (by kernel_rfl)),
 f216 := Tryd.func119.trans (congrArg some (by kernel_rfl)),
 f257 := Tryd.func104.trans (congrArg some (by kernel_rfl)),
 f294 := Tryd.func113.trans (congrArg some (by kernel_rfl)),
 f295 := Tryd.func114.trans (congrArg some (by kernel_rfl)),
 f296 := Tryd.func115.trans (congrArg some (by kernel_rfl)),
 f297 := Tryd.func116.trans (congrArg some (by kernel_rfl)),
 f298 := Tryd.func117.trans (congrArg some (by kernel_rfl)),
 f299 := Tryd.func118.trans (congrArg some (by kernel_rfl)),
 f300 := Tryd.func120.trans (congrArg some (by kernel_rfl)),
 f301 := Tryd.func121.trans (congrArg some (by kernel_rfl)),
 f328 := Tryd.func125.trans (congrArg some (by kernel_rfl)),
 f329 := Tryd.func126.trans (congrArg some (by kernel_rfl)),
 f330 := Tryd.func127.trans (congrArg some (by kernel_rfl)),
 f331 := Tryd.func128.trans (congrArg some (by kernel_rfl)),
 f332 := Tryd.func129.trans (congrArg some (by kernel_rfl)),
 f343 := Tryd.func130.trans (congrArg some (by kernel_rfl)),
 t0 := Tryd.underlying0,
 a0 := Tryd.isAgg0,
 z0 := Tryd.sizeOf0,
 v0 := Tryd.zeroValue0,
 t3 := Tryd.underlying3,
 a3 := Tryd.isAgg3,
 z3 := Tryd.sizeOf3,
 v3 := Tryd.zeroValue3,
 t4 := Tryd.underlying4,
 a4 := Tryd.isAgg4,
 z4 := Tryd.sizeOf4,
 v4 := Tryd.zeroValue4,
 t5 := Tryd.underlying5,
 a5 := Tryd.isAgg5,
 z5 := Tryd.sizeOf5,
 v5 := Tryd.zeroValue5,
 t9 := Tryd.underlying9,
 a9 := Tryd.isAgg9,
 z9 := Tryd.sizeOf9,
 v9 := Tryd.zeroValue9,
 t28 := Tryd.underlying22,
 a28 := Tryd.isAgg22,
 z28 := Tryd.sizeOf22,
 v28 := Tryd.zeroValue22,
 t46 := Tryd.underlying112,
 a46 := Tryd.isAgg112,
 z46 := Tryd.sizeOf112,
 v46 := Tryd.zeroValue112,
 t51 := Tryd.underlying146,
 a51 := Tryd.isAgg146,
 z51 := Tryd.sizeOf146,
 v51 := Tryd.zeroValue146,
 t53 := Tryd.underlying148,
 a53 := Tryd.isAgg148,
 z53 := Tryd.sizeOf148,
 v53 := Tryd.zeroValue148,
 t131 := Tryd.underlying157,
 a131 := Tryd.isAgg157,
 z131 := Tryd.sizeOf157,
 v131 := Tryd.zeroValue157,
 t182 := Tryd.underlying161,
 a182 := Tryd.isAgg161,
 z182 := Tryd.sizeOf161,
 v182 := Tryd.zeroValue161,
 t183 := Tryd.underlying162,
 a183 := Tryd.isAgg162,
 z183 := Tryd.sizeOf162,
 v183 := Tryd.zeroValue162,
 t218 := Tryd.underlying171,
 a218 := Tryd.isAgg171,
 z218 := Tryd.sizeOf171,
 v218 := Tryd.zeroValue171,
 t222 := Tryd.underlying175,
 a222 := Tryd.isAgg175,
 z222 := Tryd.sizeOf175,
 v222 := Tryd.zeroValue175,
 t228 := Tryd.underlying177,
 a228 := Tryd.isAgg177,
 z228 := Tryd.sizeOf177,
 v228 := Tryd.zeroValue177,
 t229 := Tryd.underlying178,
 a229 := Tryd.isAgg178,
 z229 := Tryd.sizeOf178,
 v229 := Tryd.zeroValue178
 }
end Go.Proofs
end
section
set_option maxRecDepth 20000
namespace Go.Aw
open Go.RowKit Go.Proofs Go.Sort
def sorted (l : List Int) : List Int := l.mergeSort fun x y => decide (x ≤ y)
theorem sorted_len (l : List Int) : (sorted l).length = l.length := List.length_mergeSort _
theorem sorted_mem (l : List Int) (x : Int) : x ∈ sorted l ↔ x ∈ l := List.mem_mergeSort
theorem sorted_pw (l : List Int) : (sorted l).Pairwise (· ≤ ·) := by
 have h := List.pairwise_mergeSort (le := fun x y : Int => decide (x ≤ y)) (fun a b c h1 h2 => by simp only [decide_eq_true_eq] at *; omega) (fun a b => by simp only [Bool.or_eq_true, decide_eq_true_eq]; omega) l
 exact h.imp fun h => by simpa using h
theorem sort_all (l : List Int) (hl : l.length ≤ 1000) : RowTo 86 [.os 0 1 l.length false] l (sorted l) := by
 intro w own ok s vals hrh hfr hsz hargs
 obtain ⟨v, rfl⟩ := Array.size_eq_one_iff.1 hsz
 have hv := hargs 0 _ v rfl rfl
 have hp0 : ∀ (es : List (List V)) (id : Nat) (b : Blk), hpOf (fun _ => none) [(0, some (⟨1, es, 3, .wr⟩ : Blk))] id = some b → id = 0 ∧ b = ⟨1, es, 3, .wr⟩ := fun es id b h => by
   by_cases e : id = 0
   · subst e; simp [hpOf, hget] at h; exact ⟨rfl, h.symm⟩
   · simp [hpOf, hget, Ne.symm e, e] at h
 have hpn : ∀ (es : List (List V)) (id : Nat), 1 ≤ id → hpOf (fun _ => none) [(0, some (⟨1, es, 3, .wr⟩ : Blk))] id = none := fun es id h => by
   cases hx : hpOf (fun _ => none) [(0, some (⟨1, es, 3, .wr⟩ : Blk))] id with
   | none => rfl
   | some b => have := (hp0 es id b hx).1; omega
 have hb : hpOf (fun _ => none) [(0, some (⟨1, l.map encI, 3, .wr⟩ : Blk))] 0 = some ⟨1, l.map encI, 3, .wr⟩ := by simp [hpOf, hget]
 have hbk := hrh.blk 0 _ hb
 have hslen := sorted_len l
 generalize hn : l.length = n at hv hslen
 cases hv with
 | os0 _ _ _ a =>
   obtain rfl : l = [] := List.eq_nil_of_length_eq_zero hn
   have hs0 : sorted [] = [] := by simp [sorted]
   have hc := Any.slices_Sort_int_none Tryd.lays189 a 0 w
   refine CallsIn.mono ((callsIn_wide (n := 0)).2 hc) ?_
   rintro e w' ⟨rfl, rfl⟩
   exact ⟨_, .tup [], _, 1, own, ok, s, rfl, ⟨rfl, fun k hk => by obtain rfl : k = 0 := by omega
                                                                  rw [hs0]; exact hb⟩, hrh, .tup _ _ rfl (fun i d v h => by cases h), Evol.refl _ _ _, Nat.le_refl _, hfr, fun _ _ => rfl⟩
 | os _ _ _ _ B cap ty sz hB hn' hex hsh hcap =>
   have hcell : ∀ j x, l[j]? = some x → w.cell? ⟨B, j, none⟩ = some (.int .i64 x) := fun j x hx => by
     obtain ⟨u, h1, h2⟩ := hbk.cells B hB j 0 (encI x) (.lit (.int .i64 x)) (by simp [hx]) rfl
     cases h2
     simpa using h1
   obtain ⟨hown, hfz⟩ := hbk.own B hB (fun h => by cases h)
   have hno := hbk.fwr B hB rfl
   have hBlt := hrh.sw 0 B hB
   have hH : Holds (Value.int .i64) w B 0 l.toArray := fun j hj => by
     rw [Nat.zero_add]
     refine ⟨?_, hfz j⟩
     have hj' : j < l.length := by simpa using hj
     rw [hcell j _ (List.getElem?_eq_getElem hj'), getElem!_pos l.toArray j hj]
     rfl
   have hc := Any.slices_Sort_int Tryd.lays189 B 0 cap l w hH hBlt (by omega)
   rw [hn] at hc
   refine CallsIn.mono ((callsIn_wide (n := 0)).2 hc) ?_
   rintro e w' ⟨rfl, m, os, rfl⟩
   have hds : (l.mergeSort fun x y => decide (x ≤ y)).toArray.size = l.toArray.size := by
     rw [List.size_toArray, List.size_toArray]; exact sorted_len l
   have hH1 : Holds (Value.int .i64) (Go.Sort.ahead w m) B 0 l.toArray := holds_ahead _ _ _ _ _ _ hH
   generalize hwd : (l.mergeSort fun x y => decide (x ≤ y)).toArray = d at *
   have hun1 : ∀ b, b ≠ B → (putRow (Value.int .i64) (Go.Sort.ahead w m) B 0 d).heap[b]? = w.heap[b]? := fun b hb => by
     unfold putRow mapBlock
     rw [Array.getElem?_modify, if_neg (Ne.symm hb)]; rfl
   have hsz1 : (putRow (Value.int .i64) (Go.Sort.ahead w m) B 0 d).heap.size = w.heap.size := by rw [size_putRow]; rfl
   have hun : ∀ b, b < w.heap.size → b ≠ B → (grow (putRow (Value.int .i64) (Go.Sort.ahead w m) B 0 d) os).heap[b]? = w.heap[b]? := fun b hb hne => by
     rw [heap_grow_old _ _ (by rw [hsz1]; exact hb)]; exact hun1 b hne
   have hcB : ∀ j x, (sorted l)[j]? = some x → (grow (putRow (Value.int .i64) (Go.Sort.ahead w m) B 0 d) os).cell? ⟨B, j, none⟩ = some (.int .i64 x) := fun j x hx => by
     rw [cell?_grow _ _ _ (by rw [hsz1]; exact hBlt)]
     have hj : j < (sorted l).length := (List.getElem?_eq_some_iff.1 hx).1
     have hj' : j < d.size := by rw [← hwd, List.size_toArray]; exact hj
     have := cell?_putRow (Value.int .i64) (Go.Sort.ahead w m) B 0 l.toArray d hH1 hds j hj'
     rw [Nat.zero_add] at this
     rw [this, getElem!_pos d j hj']
     have h2 := (List.getElem?_eq_some_iff.1 hx).2
     subst hwd
     rw [← h2]; rfl
   have hfr' : ∀ b o, b < w.heap.size → (grow (putRow (Value.int .i64) (Go.Sort.ahead w m) B 0 d) os).frozen? ⟨b, o, none⟩ = w.frozen? ⟨b, o, none⟩ := fun b o hb => by
     rw [frozen?_grow _ _ _ (by rw [hsz1]; exact hb), frozen?_putRow, frozen?_ahead]
   have hB0 : ∃ c el fr, w.heap[B]? = some (.cells c el fr) := by
     unfold World.shape? at hsh
     split at hsh
     · rename_i c el fr hc; exact ⟨c, el, fr, hc⟩
     · cases hsh
   obtain ⟨c0, el0, fr0, hB0⟩ := hB0
   have hB1 : (grow (putRow (Value.int .i64) (Go.Sort.ahead w m) B 0 d) os).heap[B]? = some (.cells (putCells (Value.int .i64) 0 d c0) el0 fr0) := by
     rw [heap_grow_old _ _ (by rw [hsz1]; exact hBlt)]
     unfold putRow mapBlock
     rw [Array.getElem?_modify, if_pos rfl]
     show Option.map _ w.heap[B]? = _
     rw [hB0]; rfl
   have hshape : ∀ b ty sz, w.shape? b = some (ty, sz) → (grow (putRow (Value.int .i64) (Go.Sort.ahead w m) B 0 d) os).shape? b = some (ty, sz) := fun b ty sz hb => by
     by_cases e : b = B
     · subst e
       unfold World.shape? at hb ⊢
       rw [hB0] at hb
       rw [hB1]
       simpa [putCells] using hb
     · have := shape_lt hb
       unfold World.shape? at hb ⊢
       rw [hun b this e]; exact hb
   have hev : Evol own ok w own ok (grow (putRow (Value.int .i64) (Go.Sort.ahead w m) B 0 d) os) := by
     refine ⟨rfl, rfl, rfl, ?_, fun b hb hn => hun b hb (fun e => hn (e ▸ hown)), fun _ h => .inl h, fun _ _ h => h, fun b o hb => ?_, fun _ _ h => .inl h, hshape, fun b o hb hc => ?_⟩
     · rw [size_grow, hsz1]; omega
     · have hne : b ≠ B := fun e => hno o (e ▸ hb)
       exact World.cell?_of_block (w := w) (a := ⟨b, o, none⟩) (hun b (hrh.ok_lt hb) hne)
     · by_cases e : b = B
       · subst e; rw [hB0] at hb; cases hb; cases hc
       · rw [hun b (Array.getElem?_eq_some_iff.1 hb).1 e]; exact hb
   refine ⟨_, .tup [], hpOf (fun _ => none) [(0, some (⟨1, (sorted l).map encI, 3, .wr⟩ : Blk))], 1, own, ok, s, rfl, ⟨rfl, fun k hk => ?_⟩, ⟨fun b o hb => ?_, fun b hb => Nat.lt_of_lt_of_le (hrh.ownw b hb) hev.size, fun id b hb => Nat.lt_of_lt_of_le (hrh.sw id b hb) hev.size, fun id b hb => ?_, fun id1 id2 b1 b2 _ h1 h2 _ _ _ _ => ?_, hrh.gl.evol hev⟩, .tup _ _ rfl (fun i d v h => by cases h), hev, Nat.le_refl _, fun id hid => ⟨(hfr id hid).1, hpn _ id hid⟩, fun _ _ => rfl⟩
   · obtain rfl : k = 0 := by omega
     simp [hpOf, hget]
   · obtain ⟨u, hu⟩ := hrh.okw b o hb
     exact ⟨u, (hev.okc b o hb).trans hu⟩
   · obtain ⟨rfl, rfl⟩ := hp0 _ id b hb
     refine ⟨Nat.one_pos, fun e he => ?_, fun h => (by rw [hB] at h; cases h), fun B' hB' _ => ?_, fun B' hB' _ => ?_, fun B' hB' i j e d' hi hj => ?_, fun B' hB' _ o => ?_, fun B' hB' hm => (by cases hm), fun B' hB' hm => (by cases hm), fun m' hm => (by cases hm), fun B' hB' m' hm => (by cases hm)⟩
     · obtain ⟨x, _, rfl⟩ := List.mem_map.1 he; rfl
     · rw [hB] at hB'; cases hB'
       exact ⟨hown, fun o => (hfr' B o hBlt).trans (hfz o)⟩
     · rw [hB] at hB'; cases hB'
       obtain ⟨sz', h1, h2⟩ := hbk.shape B hB (fun m h => by cases h)
       exact ⟨sz', hshape _ _ _ h1, by simpa [sorted_len] using h2⟩
     · rw [hB] at hB'; cases hB'
       rw [List.getElem?_map, Option.map_eq_some_iff] at hi
       obtain ⟨x, hx, rfl⟩ := hi
       match j, hj with
       | 0, hj =>
         cases hj
         exact ⟨_, by simpa using hcB i x hx, .lit _ rfl⟩
       | j + 1, hj => cases hj
     · rw [hB] at hB'; cases hB'; exact hno o
   · rw [(hp0 _ _ _ h1).1, (hp0 _ _ _ h2).1]
#print axioms sort_all
end Go.Aw
end
section
namespace Go.Aw
open Go.RowKit
def prs (ks : List Nat) : List (Nat × Nat) := ks.mapIdx fun i k => (i, k)
theorem prs_nil : prs [] = [] := rfl
theorem prs_len (ks : List Nat) : (prs ks).length = ks.length := by simp [prs]
theorem prs_snoc (ks : List Nat) (k : Nat) : prs (ks ++ [k]) = prs ks ++ [(ks.length, k)] := by simp [prs, List.mapIdx_append]
theorem prs_get {ks : List Nat} {i : Nat} (h : i < ks.length) : (prs ks).getD i default = (i, ks.getD i default) := by
 rw [List.getD_eq_getElem?_getD, List.getD_eq_getElem?_getD, prs, List.getElem?_mapIdx, List.getElem?_eq_getElem h]; rfl
def usedTo (now : List Nat) (k : Nat) : Nat → Bool
 | 0 => false
 | m + 1 => usedTo now k m || decide (now.getD m default = k)
theorem usedTo_iff (now : List Nat) (k : Nat) : ∀ m, m ≤ now.length → (usedTo now k m = true ↔ k ∈ now.take m)
 | 0, _ => by simp [usedTo]
 | m + 1, h => by
   rw [usedTo, Bool.or_eq_true, usedTo_iff now k m (by omega), decide_eq_true_eq, List.take_add_one, List.mem_append, List.getElem?_eq_getElem (by omega), List.getD_eq_getElem?_getD, List.getElem?_eq_getElem (by omega)]
   simp [eq_comm]
theorem usedTo_all (now : List Nat) (k : Nat) : usedTo now k now.length = decide (k ∈ now) := by
 have := usedTo_iff now k now.length (Nat.le_refl _)
 rw [List.take_length] at this
 rw [Bool.eq_iff_iff, this, decide_eq_true_eq]
def balTo (f : Nat → Nat → Int) (n m : Nat) (now : List Nat) (st : List Nat × Int) (k : Nat) : List Nat × Int :=
 (List.range k).foldl (fun st k => if decide (k ∈ now) then st else refBal f n m (now ++ [k]) st) st
theorem balTo_zero (f : Nat → Nat → Int) (n m : Nat) (now : List Nat) (st : List Nat × Int) : balTo f n m now st 0 = st := rfl
theorem balTo_succ (f : Nat → Nat → Int) (n m : Nat) (now : List Nat) (st : List Nat × Int) (k : Nat) : balTo f n m now st (k + 1) = if decide (k ∈ now) then balTo f n m now st k else refBal f n m (now ++ [k]) (balTo f n m now st k) := by
 rw [balTo, List.range_succ, List.foldl_append]; rfl
theorem balTo_all (f : Nat → Nat → Int) (n m : Nat) (now : List Nat) (st : List Nat × Int) : refBal f n (m + 1) now st = balTo f n m now st n := rfl
structure BalOk (L : Nat) (W : Int) (n : Nat) (st : List Nat × Int) : Prop where
 len : st.1.length ≤ L
 lo : 0 ≤ st.2
 hi : st.2 ≤ W
 lt : ∀ k ∈ st.1, k < n
theorem valR_nonneg (f : Nat → Nat → Int) (ks : List Nat) : 0 ≤ valR f ks := valTo_nonneg f ks _
theorem refBal_ok {f : Nat → Nat → Int} {L n : Nat} {W : Int} : ∀ (m : Nat) (now : List Nat) (st : List Nat × Int), now.length + m = L → (∀ k ∈ now, k < n) → BalOk L W n st → BalOk L W n (refBal f n m now st)
 | 0, now, st, h, hn, hs => by
   rw [refBal, balStep]
   have h0 := valR_nonneg f now
   have := hs.hi
   split
   · exact ⟨by show now.length ≤ L; omega, h0, by show valR f now ≤ W; omega, hn⟩
   · exact hs
 | m + 1, now, st, h, hn, hs => by
   rw [balTo_all]
   have key : ∀ k, k ≤ n → BalOk L W n (balTo f n m now st k) := by
     intro k
     induction k with
     | zero => intro _; exact hs
     | succ k ih =>
       intro hk
       rw [balTo_succ]
       split
       · exact ih (by omega)
       · refine refBal_ok m _ _ (by simp; omega) (fun x hx => ?_) (ih (by omega))
         rcases List.mem_append.1 hx with hx | hx
         · exact hn x hx
         · rw [List.mem_singleton] at hx; omega
   exact key n (Nat.le_refl _)
theorem balTo_ok {f : Nat → Nat → Int} {L n : Nat} {W : Int} {m : Nat} {now : List Nat} {st : List Nat × Int} (h : now.length + m + 1 = L) (hn : ∀ k ∈ now, k < n) (hs : BalOk L W n st) : ∀ k, k ≤ n → BalOk L W n (balTo f n m now st k)
 | 0, _ => hs
 | k + 1, hk => by
   rw [balTo_succ]
   split
   · exact balTo_ok h hn hs k (by omega)
   · refine refBal_ok m _ _ (by simp; omega) (fun x hx => ?_) (balTo_ok h hn hs k (by omega))
     rcases List.mem_append.1 hx with hx | hx
     · exact hn x hx
     · rw [List.mem_singleton] at hx; omega
end Go.Aw
end
section
set_option maxRecDepth 20000
set_option maxHeartbeats 4000000
namespace Go.Aw
open Go.RowKit Go.Proofs
def encBo (b : Bool) : List V := [.lit (.bool b)]
@[go_sem] theorem encBo_eq (b : Bool) : encBo b = [.lit (.bool b)] := rfl
def encBr (r : List Bool) : List V := [.sl 1 (r.map encBo) false]
@[go_sem] theorem encBr_eq (r : List Bool) : encBr r = [.sl 1 (r.map encBo) false] := rfl
@[go_sem] theorem take_map_Bo (l : List Bool) (n : Nat) (h : l.length = n) : (l.map encBo).take n = l.map encBo := List.take_of_length_le (by simp; omega)
@[go_sem] theorem take_map_Br (l : List (List Bool)) (n : Nat) (h : l.length = n) : (l.map encBr).take n = l.map encBr := List.take_of_length_le (by simp; omega)
def rowTo (g : Gau) (a : Grd) (rs : List Grd) (k : Int) (j : Nat) : List Bool := (rs.take j).map fun b => alikeR g a b k
end Go.Aw
end
section
set_option maxRecDepth 20000
set_option maxHeartbeats 4000000
namespace Go.Aw
open Go.RowKit Go.Proofs
theorem wlt {n : Nat} {l : List Grd} (h : ∀ x ∈ l, GrdOk n x) {i : Nat} (hi : i < l.length) : 0 ≤ (l.getD i default).1 ∧ (l.getD i default).1 ≤ 1000000 := by
 have := (h _ (getD_mem hi)).w
 simpa [inR'] using this
theorem farF_bnd {n : Nat} {ls rs : List Grd} (hl : ∀ x ∈ ls, GrdOk n x) (hr : ∀ x ∈ rs, GrdOk n x) {i k : Nat} (hi : i < ls.length) (hk : k < rs.length) : 0 ≤ farF ls rs i k ∧ farF ls rs i k ≤ 1000000 := by
 have h1 := wlt hl hi
 have h2 := wlt hr hk
 unfold farF farR; omega
theorem valTo_bnd {n : Nat} {ls rs : List Grd} (hl : ∀ x ∈ ls, GrdOk n x) (hr : ∀ x ∈ rs, GrdOk n x) {ks : List Nat} (hk : ∀ k ∈ ks, k < rs.length) : ∀ i, i ≤ ks.length → i ≤ ls.length → 0 ≤ valTo (farF ls rs) ks i ∧ valTo (farF ls rs) ks i ≤ 1000000
 | 0, _, _ => by simp [valTo]
 | i + 1, h1, h2 => by
   have ih := valTo_bnd hl hr hk i (by omega) (by omega)
   have := farF_bnd hl hr (i := i) (k := ks.getD i 0) (by omega) (hk _ (getD_mem (by omega)))
   rw [valTo]; omega
theorem rBal_spec (ls rs : List Grd) (e1 e2 : Bool) (n : Nat) (hl : ∀ x ∈ ls, GrdOk n x) (hr : ∀ x ∈ rs, GrdOk n x) (hl8 : ls.length ≤ 12) (hr8 : rs.length ≤ 12) : ∀ (m : Nat) (now : List Nat) (st : List Nat × Int), now.length + m = ls.length → (∀ k ∈ now, k < rs.length) → BalOk ls.length 1073741824 rs.length st →
   Ct Tryd.prog 46 [encSt ls rs e1 e2, .sl 2 ((prs now).map encP) false, .sl 2 ((prs st.1).map encP) false, int st.2] (.tup [.sl 2 ((prs (refBal (farF ls rs) rs.length m now st).1).map encP) false, int (refBal (farF ls rs) rs.length m now st).2]) := by
 intro m
 induction m with
 | zero =>
   intro now st h hn hs
   have hfar : ∀ k, k < now.length → Ct Tryd.prog 87 [int (ls.getD k default).1, int (rs.getD (now.getD k default) default).1] (int (farF ls rs k (now.getD k default))) := fun k hk => rFar_spec _ _ (hl _ (getD_mem (by omega))).w (hr _ (getD_mem (hn _ (getD_mem hk)))).w
   have hvb := valTo_bnd hl hr hn
   have hsu : ∀ k, valTo (farF ls rs) now (k + 1) = max (valTo (farF ls rs) now k) (farF ls rs k (now.getD k default)) := fun _ => rfl
   have hfb : ∀ k, k < now.length → 0 ≤ farF ls rs k (now.getD k default) ∧ farF ls rs k (now.getD k default) ≤ 1000000 := fun k hk => farF_bnd hl hr (by omega) (hn _ (getD_mem hk))
   have hv0 : valTo (farF ls rs) now 0 = 0 := rfl
   have hs1 := hs.lo
   have hs2 := hs.hi
   have hpl := prs_len now
   have hpg : ∀ k, k < now.length → (prs now).getD k default = (k, now.getD k default) := fun k hk => prs_get hk
   have hng : ∀ k, k < now.length → now.getD k default < rs.length := fun k hk => hn _ (getD_mem hk)
   rw [refBal, balStep, valR]
   by_cases hlt0 : valTo (farF ls rs) now now.length < st.2
   · rw [if_pos hlt0]
     dsimp only
     generalize valTo (farF ls rs) now = VT at *
     generalize prs now = PN at *
     refine fn_enter Tryd.func46 rfl (by decide) Tryd.results46 Tryd.ntmps46 ?_ rfl (by simp (maxSteps := 1000000) -implicitDefEqProofs (disch := omega) only [go_sem]; rfl) fun base => ?_
     · first | assumption | (simp only [go_sem] <;> assumption) | (simp only [go_sem, *]; done) | (simp [go_sem]; done)
     repeat' (first
       | (with_reducible apply Req_intro); focus (first | omega | assumption | (simp; done))
       | with_reducible (first | apply Req_intro | refine nilT ?_ fun hn => ?_ | apply wk_draw Tryd_mixed | refine drawEnd (by kernel_rfl) ?_)
       | (with_reducible (first | apply condA_if | apply stepDG_ifN | apply stepDG_if | apply stepG_ifN | apply stepG_if)) <;> intro hb <;> (have hif := hb) <;> (try simp only [bo] at hif) <;> (try simp -implicitDefEqProofs (disch := omega) only [go_sem, hb]) <;> clear hb
       | simp (maxSteps := 1000000) -implicitDefEqProofs (disch := omega) only [go_sem])
     all_goals first | exact absurd trivial ‹¬True› | exact absurd ‹false = true› (by decide) | exact absurd ‹true = false› (by decide) | (exfalso; omega) | omega | skip
     refine loop_at (α := Nat) [11, 12, 23, 24, 25, 26, 27, 28, 29, 30, 31, 32, 33, 34, 35, 36, 37, 38, 39, 40, 41, 42, 43, 44, 45, 46, 47, 48, 49, 50] (fun k => [(12, .lit (.int .i64 k)), (11, int (VT k))]) (fun k => k ≤ now.length) (fun k => now.length - k) 0 (fun x => by simp (maxSteps := 1000000) -implicitDefEqProofs (disch := omega) only [go_sem]; rfl) ?_ ?_ fun x hx => ?_
     · rw [hv0]
       exact weak_do []
     · exact Nat.zero_le _
     by_cases hx1 : x < now.length
     · have hf1 := hfar x hx1
       have hb1 := hvb x (by omega) (by omega)
       have hb2 := hfb x hx1
       have hg1 := hpg x hx1
       have hn1 := hng x hx1
       have hsx := hsu x
       repeat' (first
         | (with_reducible apply Req_intro); focus (first | omega | assumption | (simp; done))
         | with_reducible (first | apply Req_intro | refine nilT ?_ fun hn => ?_ | apply wk_draw Tryd_mixed | refine drawEnd (by kernel_rfl) ?_)
         | (with_reducible (first | apply condA_if | apply stepDG_ifN | apply stepDG_if | apply stepG_ifN | apply stepG_if)) <;> intro hb <;> (have hif := hb) <;> (try simp only [bo] at hif) <;> (try simp -implicitDefEqProofs (disch := omega) only [go_sem, hb, hg1]) <;> clear hb
         | simp (maxSteps := 1000000) -implicitDefEqProofs (disch := omega) only [go_sem, hg1])
       all_goals first | exact absurd trivial ‹¬True› | exact absurd ‹false = true› (by decide) | exact absurd ‹true = false› (by decide) | (exfalso; omega) | omega | skip
       refine calld hf1 ?_
       try simp (maxSteps := 1000000) -implicitDefEqProofs (disch := omega) only [go_sem]
       repeat' (first
         | (with_reducible apply Req_intro); focus (first | omega | assumption | (simp; done))
         | with_reducible (first | apply Req_intro | refine nilT ?_ fun hn => ?_ | apply wk_draw Tryd_mixed | refine drawEnd (by kernel_rfl) ?_)
         | (with_reducible (first | apply condA_if | apply stepDG_ifN | apply stepDG_if | apply stepG_ifN | apply stepG_if)) <;> intro hb <;> (have hif := hb) <;> (try simp only [bo] at hif) <;> (try simp -implicitDefEqProofs (disch := omega) only [go_sem, hb]) <;> clear hb
         | simp (maxSteps := 1000000) -implicitDefEqProofs (disch := omega) only [go_sem])
       all_goals first | exact absurd trivial ‹¬True› | exact absurd ‹false = true› (by decide) | exact absurd ‹true = false› (by decide) | (exfalso; omega) | omega | skip
       with_reducible refine nxt_w (x + 1) ?_ ?_
       · (try dsimp only)
         rw [hsx]
         exact weak_do []
       try dsimp only
       omega
     · obtain rfl : x = now.length := by omega
       have hb1 := hvb now.length (by omega) (by omega)
       repeat' (first
         | (with_reducible apply Req_intro); focus (first | omega | assumption | (simp; done))
         | with_reducible (first | apply Req_intro | refine nilT ?_ fun hn => ?_ | apply wk_draw Tryd_mixed | refine drawEnd (by kernel_rfl) ?_)
         | (with_reducible (first | apply condA_if | apply stepDG_ifN | apply stepDG_if | apply stepG_ifN | apply stepG_if)) <;> intro hb <;> (have hif := hb) <;> (try simp only [bo] at hif) <;> (try simp -implicitDefEqProofs (disch := omega) only [go_sem, hb]) <;> clear hb
         | simp (maxSteps := 1000000) -implicitDefEqProofs (disch := omega) only [go_sem])
       all_goals first | exact absurd trivial ‹¬True› | exact absurd ‹false = true› (by decide) | exact absurd ‹true = false› (by decide) | (exfalso; omega) | omega | skip
       refine ret_do ?_
       rfl
   · rw [if_neg hlt0]
     generalize valTo (farF ls rs) now = VT at *
     generalize prs now = PN at *
     refine fn_enter Tryd.func46 rfl (by decide) Tryd.results46 Tryd.ntmps46 ?_ rfl (by simp (maxSteps := 1000000) -implicitDefEqProofs (disch := omega) only [go_sem]; rfl) fun base => ?_
     · first | assumption | (simp only [go_sem] <;> assumption) | (simp only [go_sem, *]; done) | (simp [go_sem]; done)
     repeat' (first
       | (with_reducible apply Req_intro); focus (first | omega | assumption | (simp; done))
       | with_reducible (first | apply Req_intro | refine nilT ?_ fun hn => ?_ | apply wk_draw Tryd_mixed | refine drawEnd (by kernel_rfl) ?_)
       | (with_reducible (first | apply condA_if | apply stepDG_ifN | apply stepDG_if | apply stepG_ifN | apply stepG_if)) <;> intro hb <;> (have hif := hb) <;> (try simp only [bo] at hif) <;> (try simp -implicitDefEqProofs (disch := omega) only [go_sem, hb]) <;> clear hb
       | simp (maxSteps := 1000000) -implicitDefEqProofs (disch := omega) only [go_sem])
     all_goals first | exact absurd trivial ‹¬True› | exact absurd ‹false = true› (by decide) | exact absurd ‹true = false› (by decide) | (exfalso; omega) | omega | skip
     refine loop_at (α := Nat) [11, 12, 23, 24, 25, 26, 27, 28, 29, 30, 31, 32, 33, 34, 35, 36, 37, 38, 39, 40, 41, 42, 43, 44, 45, 46, 47, 48, 49, 50] (fun k => [(12, .lit (.int .i64 k)), (11, int (VT k))]) (fun k => k ≤ now.length) (fun k => now.length - k) 0 (fun x => by simp (maxSteps := 1000000) -implicitDefEqProofs (disch := omega) only [go_sem]; rfl) ?_ ?_ fun x hx => ?_
     · rw [hv0]
       exact weak_do []
     · exact Nat.zero_le _
     by_cases hx1 : x < now.length
     · have hf1 := hfar x hx1
       have hb1 := hvb x (by omega) (by omega)
       have hb2 := hfb x hx1
       have hg1 := hpg x hx1
       have hn1 := hng x hx1
       have hsx := hsu x
       repeat' (first
         | (with_reducible apply Req_intro); focus (first | omega | assumption | (simp; done))
         | with_reducible (first | apply Req_intro | refine nilT ?_ fun hn => ?_ | apply wk_draw Tryd_mixed | refine drawEnd (by kernel_rfl) ?_)
         | (with_reducible (first | apply condA_if | apply stepDG_ifN | apply stepDG_if | apply stepG_ifN | apply stepG_if)) <;> intro hb <;> (have hif := hb) <;> (try simp only [bo] at hif) <;> (try simp -implicitDefEqProofs (disch := omega) only [go_sem, hb, hg1]) <;> clear hb
         | simp (maxSteps := 1000000) -implicitDefEqProofs (disch := omega) only [go_sem, hg1])
       all_goals first | exact absurd trivial ‹¬True› | exact absurd ‹false = true› (by decide) | exact absurd ‹true = false› (by decide) | (exfalso; omega) | omega | skip
       refine calld hf1 ?_
       try simp (maxSteps := 1000000) -implicitDefEqProofs (disch := omega) only [go_sem]
       repeat' (first
         | (with_reducible apply Req_intro); focus (first | omega | assumption | (simp; done))
         | with_reducible (first | apply Req_intro | refine nilT ?_ fun hn => ?_ | apply wk_draw Tryd_mixed | refine drawEnd (by kernel_rfl) ?_)
         | (with_reducible (first | apply condA_if | apply stepDG_ifN | apply stepDG_if | apply stepG_ifN | apply stepG_if)) <;> intro hb <;> (have hif := hb) <;> (try simp only [bo] at hif) <;> (try simp -implicitDefEqProofs (disch := omega) only [go_sem, hb]) <;> clear hb
         | simp (maxSteps := 1000000) -implicitDefEqProofs (disch := omega) only [go_sem])
       all_goals first | exact absurd trivial ‹¬True› | exact absurd ‹false = true› (by decide) | exact absurd ‹true = false› (by decide) | (exfalso; omega) | omega | skip
       with_reducible refine nxt_w (x + 1) ?_ ?_
       · (try dsimp only)
         rw [hsx]
         exact weak_do []
       try dsimp only
       omega
     · obtain rfl : x = now.length := by omega
       have hb1 := hvb now.length (by omega) (by omega)
       repeat' (first
         | (with_reducible apply Req_intro); focus (first | omega | assumption | (simp; done))
         | with_reducible (first | apply Req_intro | refine nilT ?_ fun hn => ?_ | apply wk_draw Tryd_mixed | refine drawEnd (by kernel_rfl) ?_)
         | (with_reducible (first | apply condA_if | apply stepDG_ifN | apply stepDG_if | apply stepG_ifN | apply stepG_if)) <;> intro hb <;> (have hif := hb) <;> (try simp only [bo] at hif) <;> (try simp -implicitDefEqProofs (disch := omega) only [go_sem, hb]) <;> clear hb
         | simp (maxSteps := 1000000) -implicitDefEqProofs (disch := omega) only [go_sem])
       all_goals first | exact absurd trivial ‹¬True› | exact absurd ‹false = true› (by decide) | exact absurd ‹true = false› (by decide) | (exfalso; omega) | omega | skip
       refine ret_do ?_
       rfl
 | succ m ih =>
   intro now st h hn hs
   have hB0 := balTo_zero (farF ls rs) rs.length m now st
   have hBs := balTo_succ (farF ls rs) rs.length m now st
   have hBk := fun k hk => balTo_ok (f := farF ls rs) (m := m) (now := now) (st := st) (L := ls.length) (n := rs.length) (W := 1073741824) (by omega) hn hs k hk
   have hpl := prs_len now
   have hpg : ∀ k, k < now.length → (prs now).getD k default = (k, now.getD k default) := fun k hk => prs_get hk
   have hrec : ∀ (k : Nat) (s' : List Nat × Int), k < rs.length → BalOk ls.length 1073741824 rs.length s' → Ct Tryd.prog 46 [encSt ls rs e1 e2, .sl 2 ((prs now ++ [((prs now).length, k)]).map encP) false, .sl 2 ((prs s'.1).map encP) false, int s'.2] (.tup [.sl 2 ((prs (refBal (farF ls rs) rs.length m (now ++ [k]) s').1).map encP) false, int (refBal (farF ls rs) rs.length m (now ++ [k]) s').2]) := fun k s' hk hs' => by
     have := ih (now ++ [k]) s' (by simp; omega) (fun x hx => by
       rcases List.mem_append.1 hx with hx | hx
       · exact hn x hx
       · rw [List.mem_singleton] at hx; omega) hs'
     rwa [prs_snoc, ← hpl] at this
   have hua := usedTo_all now
   have hus : ∀ k j : Nat, usedTo now k (j + 1) = (usedTo now k j || decide (((now.getD j default : Nat) : Int) = ((k : Nat) : Int))) := fun k j => by
     rw [usedTo]; congr 1; exact decide_eq_decide.2 ⟨fun h => by omega, fun h => by omega⟩
   have hu0 : ∀ k, usedTo now k 0 = false := fun _ => rfl
   have hpbl : ∀ x, BalOk ls.length 1073741824 rs.length x → (prs x.1).length ≤ 12 := fun x hx => by rw [prs_len]; have := hx.len; omega
   rw [balTo_all]
   generalize balTo (farF ls rs) rs.length m now st = B at *
   refine fn_enter Tryd.func46 rfl (by decide) Tryd.results46 Tryd.ntmps46 ?_ rfl (by simp (maxSteps := 1000000) -implicitDefEqProofs (disch := omega) only [go_sem]; rfl) fun base => ?_
   · first | assumption | (simp only [go_sem] <;> assumption) | (simp only [go_sem, *]; done) | (simp [go_sem]; done)
   repeat' (first
     | (with_reducible apply Req_intro); focus (first | omega | assumption | (simp; done))
     | with_reducible (first | apply Req_intro | refine nilT ?_ fun hn => ?_ | apply wk_draw Tryd_mixed | refine drawEnd (by kernel_rfl) ?_)
     | (with_reducible (first | apply condA_if | apply stepDG_ifN | apply stepDG_if | apply stepG_ifN | apply stepG_if)) <;> intro hb <;> (have hif := hb) <;> (try simp only [bo] at hif) <;> (try simp -implicitDefEqProofs (disch := omega) only [go_sem, hb]) <;> clear hb
     | simp (maxSteps := 1000000) -implicitDefEqProofs (disch := omega) only [go_sem])
   all_goals first | exact absurd trivial ‹¬True› | exact absurd ‹false = true› (by decide) | exact absurd ‹true = false› (by decide) | (exfalso; omega) | omega | skip
   refine loop_at (α := Nat) [2, 3, 13, 14, 15, 58, 59, 60, 61, 62, 63, 64, 65, 66, 67, 68, 69, 70, 71, 72, 73, 74, 75, 76, 77, 78, 79, 80, 81, 82, 83, 84, 85, 86, 87, 88, 89, 90, 91, 92, 93, 94, 95, 96] (fun k => [(13, .lit (.int .i64 k)), (2, .sl 2 ((prs (B k).1).map encP) false), (3, int (B k).2)]) (fun k => k ≤ rs.length) (fun k => rs.length - k) 0 (fun x => by simp (maxSteps := 1000000) -implicitDefEqProofs (disch := omega) only [go_sem]; rfl) ?_ ?_ fun x hx => ?_
   · rw [hB0]
     exact weak_do []
   · exact Nat.zero_le _
   have hBx := hBk x hx
   have hbl := hpbl _ hBx
   have hbl1 := hBx.lo
   have hbl2 := hBx.hi
   by_cases hlt : x < rs.length
   · have hr1 := hrec x (B x) hlt hBx
     have hBsx := hBs x
     have hux := hua x
     have husx := hus x
     have hu0x := hu0 x
     rename Nat => ox
     repeat' (first
       | (with_reducible apply Req_intro); focus (first | omega | assumption | (simp; done))
       | with_reducible (first | apply Req_intro | refine nilT ?_ fun hn => ?_ | apply wk_draw Tryd_mixed | refine drawEnd (by kernel_rfl) ?_)
       | (with_reducible (first | apply condA_if | apply stepDG_ifN | apply stepDG_if | apply stepG_ifN | apply stepG_if)) <;> intro hb <;> (have hif := hb) <;> (try simp only [bo] at hif) <;> (try simp -implicitDefEqProofs (disch := omega) only [go_sem, hb]) <;> clear hb
       | simp (maxSteps := 1000000) -implicitDefEqProofs (disch := omega) only [go_sem])
     all_goals first | exact absurd trivial ‹¬True› | exact absurd ‹false = true› (by decide) | exact absurd ‹true = false› (by decide) | (exfalso; omega) | omega | skip
     refine loop_at (α := Nat) [14, 15, 65, 66, 67, 68, 69, 70, 71, 72, 73, 74, 75, 76, 77, 78, 79] (fun j => [(15, .lit (.int .i64 j)), (14, .lit (.bool (usedTo now ox j)))]) (fun j => j ≤ now.length) (fun j => now.length - j) 0 (fun x => by simp (maxSteps := 1000000) -implicitDefEqProofs (disch := omega) only [go_sem]; rfl) ?_ ?_ fun x hx => ?_
     · rw [hu0x]
       exact weak_do []
     · exact Nat.zero_le _
     by_cases hlt2 : x < now.length
     · have hg1 := hpg x hlt2
       have hsx := husx x
       cases hu : usedTo now ox x with
       | true =>
         rw [hu, Bool.true_or] at hsx
         try simp (maxSteps := 1000000) -implicitDefEqProofs (disch := omega) only [go_sem]
         repeat' (first
           | (with_reducible apply Req_intro); focus (first | omega | assumption | (simp; done))
           | with_reducible (first | apply Req_intro | refine nilT ?_ fun hn => ?_ | apply wk_draw Tryd_mixed | refine drawEnd (by kernel_rfl) ?_)
           | (with_reducible (first | apply condA_if | apply stepDG_ifN | apply stepDG_if | apply stepG_ifN | apply stepG_if)) <;> intro hb <;> (have hif := hb) <;> (try simp only [bo] at hif) <;> (try simp -implicitDefEqProofs (disch := omega) only [go_sem, hb, hg1]) <;> clear hb
           | simp (maxSteps := 1000000) -implicitDefEqProofs (disch := omega) only [go_sem, hg1])
         all_goals first | exact absurd trivial ‹¬True› | exact absurd ‹false = true› (by decide) | exact absurd ‹true = false› (by decide) | (exfalso; omega) | omega | skip
         with_reducible refine nxt_w (x + 1) ?_ ?_
         · (try dsimp only)
           rw [hsx]
           exact weak_do []
         try dsimp only
         omega
       | false =>
         rw [hu, Bool.false_or] at hsx
         try simp (maxSteps := 1000000) -implicitDefEqProofs (disch := omega) only [go_sem]
         repeat' (first
           | (with_reducible apply Req_intro); focus (first | omega | assumption | (simp; done))
           | with_reducible (first | apply Req_intro | refine nilT ?_ fun hn => ?_ | apply wk_draw Tryd_mixed | refine drawEnd (by kernel_rfl) ?_)
           | (with_reducible (first | apply condA_if | apply stepDG_ifN | apply stepDG_if | apply stepG_ifN | apply stepG_if)) <;> intro hb <;> (have hif := hb) <;> (try simp only [bo] at hif) <;> (try simp -implicitDefEqProofs (disch := omega) only [go_sem, hb, hg1]) <;> clear hb
           | simp (maxSteps := 1000000) -implicitDefEqProofs (disch := omega) only [go_sem, hg1])
         all_goals first | exact absurd trivial ‹¬True› | exact absurd ‹false = true› (by decide) | exact absurd ‹true = false› (by decide) | (exfalso; omega) | omega | skip
         with_reducible refine nxt_w (x + 1) ?_ ?_
         · (try dsimp only)
           rw [hsx]
           exact weak_do []
         try dsimp only
         omega
     · obtain rfl : x = now.length := by omega
       rw [hux]
       cases hm : decide (ox ∈ now) with
       | true =>
         rw [hm, if_pos rfl] at hBsx
         try simp (maxSteps := 1000000) -implicitDefEqProofs (disch := omega) only [go_sem]
         repeat' (first
           | (with_reducible apply Req_intro); focus (first | omega | assumption | (simp; done))
           | with_reducible (first | apply Req_intro | refine nilT ?_ fun hn => ?_ | apply wk_draw Tryd_mixed | refine drawEnd (by kernel_rfl) ?_)
           | (with_reducible (first | apply condA_if | apply stepDG_ifN | apply stepDG_if | apply stepG_ifN | apply stepG_if)) <;> intro hb <;> (have hif := hb) <;> (try simp only [bo] at hif) <;> (try simp -implicitDefEqProofs (disch := omega) only [go_sem, hb]) <;> clear hb
           | simp (maxSteps := 1000000) -implicitDefEqProofs (disch := omega) only [go_sem])
         all_goals first | exact absurd trivial ‹¬True› | exact absurd ‹false = true› (by decide) | exact absurd ‹true = false› (by decide) | (exfalso; omega) | omega | skip
         with_reducible refine nxt_w (ox + 1) ?_ ?_
         · (try dsimp only)
           rw [hBsx]
           exact weak_do []
         try dsimp only
         omega
       | false =>
         rw [hm] at hBsx
         simp only [Bool.false_eq_true, if_false] at hBsx
         try simp (maxSteps := 1000000) -implicitDefEqProofs (disch := omega) only [go_sem]
         repeat' (first
           | (with_reducible apply Req_intro); focus (first | omega | assumption | (simp; done))
           | with_reducible (first | apply Req_intro | refine nilT ?_ fun hn => ?_ | apply wk_draw Tryd_mixed | refine drawEnd (by kernel_rfl) ?_)
           | (with_reducible (first | apply condA_if | apply stepDG_ifN | apply stepDG_if | apply stepG_ifN | apply stepG_if)) <;> intro hb <;> (have hif := hb) <;> (try simp only [bo] at hif) <;> (try simp -implicitDefEqProofs (disch := omega) only [go_sem, hb]) <;> clear hb
           | simp (maxSteps := 1000000) -implicitDefEqProofs (disch := omega) only [go_sem])
         all_goals first | exact absurd trivial ‹¬True› | exact absurd ‹false = true› (by decide) | exact absurd ‹true = false› (by decide) | (exfalso; omega) | omega | skip
         have hrx : (prs now).map encP ++ [[V.lit (.int .i64 (prs now).length), V.lit (.int .i64 ox)]] = (prs now ++ [((prs now).length, ox)]).map encP := by rw [List.map_append]; rfl
         have hrl : (prs now).length + 1 = (prs now ++ [((prs now).length, ox)]).length := by simp
         rw [hrx, hrl]
         generalize prs now ++ [((prs now).length, ox)] = PX at *
         refine calldf 2048 hr1 ?_
         try simp (maxSteps := 1000000) -implicitDefEqProofs (disch := omega) only [go_sem]
         repeat' (first
           | (with_reducible apply Req_intro); focus (first | omega | assumption | (simp; done))
           | with_reducible (first | apply Req_intro | refine nilT ?_ fun hn => ?_ | apply wk_draw Tryd_mixed | refine drawEnd (by kernel_rfl) ?_)
           | (with_reducible (first | apply condA_if | apply stepDG_ifN | apply stepDG_if | apply stepG_ifN | apply stepG_if)) <;> intro hb <;> (have hif := hb) <;> (try simp only [bo] at hif) <;> (try simp -implicitDefEqProofs (disch := omega) only [go_sem, hb]) <;> clear hb
           | simp (maxSteps := 1000000) -implicitDefEqProofs (disch := omega) only [go_sem])
         all_goals first | exact absurd trivial ‹¬True› | exact absurd ‹false = true› (by decide) | exact absurd ‹true = false› (by decide) | (exfalso; omega) | omega | skip
         with_reducible refine nxt_w (ox + 1) ?_ ?_
         · (try dsimp only)
           rw [hBsx]
           exact weak_do []
         try dsimp only
         omega
   · obtain rfl : x = rs.length := by omega
     repeat' (first
       | (with_reducible apply Req_intro); focus (first | omega | assumption | (simp; done))
       | with_reducible (first | apply Req_intro | refine nilT ?_ fun hn => ?_ | apply wk_draw Tryd_mixed | refine drawEnd (by kernel_rfl) ?_)
       | (with_reducible (first | apply condA_if | apply stepDG_ifN | apply stepDG_if | apply stepG_ifN | apply stepG_if)) <;> intro hb <;> (have hif := hb) <;> (try simp only [bo] at hif) <;> (try simp -implicitDefEqProofs (disch := omega) only [go_sem, hb]) <;> clear hb
       | simp (maxSteps := 1000000) -implicitDefEqProofs (disch := omega) only [go_sem])
     all_goals first | exact absurd trivial ‹¬True› | exact absurd ‹false = true› (by decide) | exact absurd ‹true = false› (by decide) | (exfalso; omega) | omega | skip
     refine ret_do ?_
     rfl
end Go.Aw
end
section
set_option maxRecDepth 20000
set_option maxHeartbeats 4000000
namespace Go.Aw
open Go.RowKit Go.Proofs
theorem GuardBalances_spec (ls rs : List Grd) (g : Gau) (hl : ls.length ≤ 4611686018427387904) (hr : rs.length ≤ 4611686018427387904) (hlc : ∀ x ∈ ls, x.2.length ≤ 4611686018427387904) (hrc : ∀ x ∈ rs, x.2.length ≤ 4611686018427387904) : Ct Tryd.prog 10 [encSt ls rs false false, encGa g] (.lit (.bool true)) := by
 have hlg := large_spec06 g ls rs 6 false false hl hr hlc hrc
 cases hL : largeG g ls rs 6 with
 | true =>
   rw [hL] at hlg
   refine fn_enter Tryd.func10 rfl (by decide) Tryd.results10 Tryd.ntmps10 ?_ rfl (by simp (maxSteps := 1000000) -implicitDefEqProofs (disch := omega) only [go_sem]; rfl) fun base => ?_
   · first | assumption | (simp only [go_sem] <;> assumption) | (simp only [go_sem, *]; done) | (simp [go_sem]; done)
   repeat' (first
     | (with_reducible apply Req_intro); focus (first | omega | assumption | (simp; done))
     | with_reducible (first | apply Req_intro | refine nilT ?_ fun hn => ?_ | apply wk_draw Tryd_mixed | refine drawEnd (by kernel_rfl) ?_)
     | (with_reducible (first | apply condA_if | apply stepDG_ifN | apply stepDG_if | apply stepG_ifN | apply stepG_if)) <;> intro hb <;> (have hif := hb) <;> (try simp only [bo] at hif) <;> (try simp -implicitDefEqProofs (disch := omega) only [go_sem, hb]) <;> clear hb
     | simp (maxSteps := 1000000) -implicitDefEqProofs (disch := omega) only [go_sem])
   refine callp hlg ?_
   try simp (maxSteps := 1000000) -implicitDefEqProofs (disch := omega) only [go_sem]
   repeat' (first
     | (with_reducible apply Req_intro); focus (first | omega | assumption | (simp; done))
     | with_reducible (first | apply Req_intro | refine nilT ?_ fun hn => ?_ | apply wk_draw Tryd_mixed | refine drawEnd (by kernel_rfl) ?_)
     | (with_reducible (first | apply condA_if | apply stepDG_ifN | apply stepDG_if | apply stepG_ifN | apply stepG_if)) <;> intro hb <;> (have hif := hb) <;> (try simp only [bo] at hif) <;> (try simp -implicitDefEqProofs (disch := omega) only [go_sem, hb]) <;> clear hb
     | simp (maxSteps := 1000000) -implicitDefEqProofs (disch := omega) only [go_sem])
   all_goals first | exact absurd trivial ‹¬True› | exact absurd ‹false = true› (by decide) | exact absurd ‹true = false› (by decide) | (exfalso; omega) | omega | skip
   refine callp gknown_spec ?_
   try simp (maxSteps := 1000000) -implicitDefEqProofs (disch := omega) only [go_sem]
   repeat' (first
     | (with_reducible apply Req_intro); focus (first | omega | assumption | (simp; done))
     | with_reducible (first | apply Req_intro | refine nilT ?_ fun hn => ?_ | apply wk_draw Tryd_mixed | refine drawEnd (by kernel_rfl) ?_)
     | (with_reducible (first | apply condA_if | apply stepDG_ifN | apply stepDG_if | apply stepG_ifN | apply stepG_if)) <;> intro hb <;> (have hif := hb) <;> (try simp only [bo] at hif) <;> (try simp -implicitDefEqProofs (disch := omega) only [go_sem, hb]) <;> clear hb
     | simp (maxSteps := 1000000) -implicitDefEqProofs (disch := omega) only [go_sem])
   refine ret_do ?_
   rfl
 | false =>
   rw [hL] at hlg
   obtain ⟨hst, hl12, hr12, hmost⟩ := largeG_no hL
   have hown := own_spec ls rs false false hst
   have hsame := same_spec ls rs false false false false hst
   have hrc' := rCheck_spec g ls rs false false hst
   by_cases h0 : checkS g ls rs = 0
   · obtain ⟨hl8, hr8, hg, n, hn, hgl, hgr⟩ := checkS_ok h0
     rw [h0] at hrc'
     have hsz := hmost h0
     by_cases hlr : ls.length = rs.length
     · have hdl : (diffs ls rs).length ≤ 1000 := by
         have := dK_len (ls := ls) (rs := rs) (i := ls.length) (k := 0) (Nat.le_refl _) hl8 hr8
         rw [dK_zero, dTo_all] at this; omega
       have hdb := diffs_small hgl hgr
       have hp := Balance_ok g ls rs false false hst h0 hlr (sorted (diffs ls rs)) (sorted_len _) (fun x hx => (sorted_mem _ _).1 hx) (sort_all _ hdl)
       obtain ⟨hbe, hbm, hbp, hbv⟩ := balance_eq hlr (by omega) (sorted_pw (diffs ls rs)) (fun x => sorted_mem _ x) (W := 1073741824) (fun d hd => by have := hdb d hd; omega)
       have hR := rBal_spec ls rs false false n hgl hgr hl12 hr12 ls.length [] ([], 1073741824) (by simp) (fun k hk => by cases hk) ⟨Nat.zero_le _, by decide, by decide, fun k hk => by cases hk⟩
       rw [← hlr] at hR
       simp only [prs_nil, List.map_nil] at hR
       have hok : BalOk ls.length 1073741824 ls.length (refBal (farF ls rs) ls.length ls.length [] ([], 1073741824)) := refBal_ok ls.length [] _ (by simp) (fun k hk => by cases hk) ⟨Nat.zero_le _, by decide, by decide, fun k hk => by cases hk⟩
       generalize refBal (farF ls rs) ls.length ls.length [] ([], 1073741824) = R at *
       rw [hbe, balV] at hp
       obtain ⟨ho1, ho2, ho3, _⟩ := hok
       have hrl : (prs R.1).length ≤ 12 := by rw [prs_len]; omega
       have hA := rAll_spec (prs R.1) (prs R.1) false false (by omega) (by omega)
       rw [beq_self_eq_true] at hA
       change Ct _ _ _ (.tup [.sl 2 ((prs R.1).map encP) false, int R.2, int 0]) at hp
       generalize prs R.1 = PR at *
       refine fn_enter Tryd.func10 rfl (by decide) Tryd.results10 Tryd.ntmps10 ?_ rfl (by simp (maxSteps := 1000000) -implicitDefEqProofs (disch := omega) only [go_sem]; rfl) fun base => ?_
       · first | assumption | (simp only [go_sem] <;> assumption) | (simp only [go_sem, *]; done) | (simp [go_sem]; done)
       repeat' (first
         | (with_reducible apply Req_intro); focus (first | omega | assumption | (simp; done))
         | with_reducible (first | apply Req_intro | refine nilT ?_ fun hn => ?_ | apply wk_draw Tryd_mixed | refine drawEnd (by kernel_rfl) ?_)
         | (with_reducible (first | apply condA_if | apply stepDG_ifN | apply stepDG_if | apply stepG_ifN | apply stepG_if)) <;> intro hb <;> (have hif := hb) <;> (try simp only [bo] at hif) <;> (try simp -implicitDefEqProofs (disch := omega) only [go_sem, hb]) <;> clear hb
         | simp (maxSteps := 1000000) -implicitDefEqProofs (disch := omega) only [go_sem])
       refine callp hlg ?_
       try simp (maxSteps := 1000000) -implicitDefEqProofs (disch := omega) only [go_sem]
       repeat' (first
         | (with_reducible apply Req_intro); focus (first | omega | assumption | (simp; done))
         | with_reducible (first | apply Req_intro | refine nilT ?_ fun hn => ?_ | apply wk_draw Tryd_mixed | refine drawEnd (by kernel_rfl) ?_)
         | (with_reducible (first | apply condA_if | apply stepDG_ifN | apply stepDG_if | apply stepG_ifN | apply stepG_if)) <;> intro hb <;> (have hif := hb) <;> (try simp only [bo] at hif) <;> (try simp -implicitDefEqProofs (disch := omega) only [go_sem, hb]) <;> clear hb
         | simp (maxSteps := 1000000) -implicitDefEqProofs (disch := omega) only [go_sem])
       all_goals first | exact absurd trivial ‹¬True› | exact absurd ‹false = true› (by decide) | exact absurd ‹true = false› (by decide) | (exfalso; omega) | omega | skip
       refine callp hown ?_
       try simp (maxSteps := 1000000) -implicitDefEqProofs (disch := omega) only [go_sem]
       repeat' (first
         | (with_reducible apply Req_intro); focus (first | omega | assumption | (simp; done))
         | with_reducible (first | apply Req_intro | refine nilT ?_ fun hn => ?_ | apply wk_draw Tryd_mixed | refine drawEnd (by kernel_rfl) ?_)
         | (with_reducible (first | apply condA_if | apply stepDG_ifN | apply stepDG_if | apply stepG_ifN | apply stepG_if)) <;> intro hb <;> (have hif := hb) <;> (try simp only [bo] at hif) <;> (try simp -implicitDefEqProofs (disch := omega) only [go_sem, hb]) <;> clear hb
         | simp (maxSteps := 1000000) -implicitDefEqProofs (disch := omega) only [go_sem])
       first | refine callp hp ?_ | refine calld hp ?_
       try simp (maxSteps := 1000000) -implicitDefEqProofs (disch := omega) only [go_sem]
       repeat' (first
         | (with_reducible apply Req_intro); focus (first | omega | assumption | (simp; done))
         | with_reducible (first | apply Req_intro | refine nilT ?_ fun hn => ?_ | apply wk_draw Tryd_mixed | refine drawEnd (by kernel_rfl) ?_)
         | (with_reducible (first | apply condA_if | apply stepDG_ifN | apply stepDG_if | apply stepG_ifN | apply stepG_if)) <;> intro hb <;> (have hif := hb) <;> (try simp only [bo] at hif) <;> (try simp -implicitDefEqProofs (disch := omega) only [go_sem, hb]) <;> clear hb
         | simp (maxSteps := 1000000) -implicitDefEqProofs (disch := omega) only [go_sem])
       all_goals first | exact absurd trivial ‹¬True› | exact absurd ‹false = true› (by decide) | exact absurd ‹true = false› (by decide) | (exfalso; omega) | omega | skip
       first | refine callp hsame ?_ | refine calld hsame ?_
       try simp (maxSteps := 1000000) -implicitDefEqProofs (disch := omega) only [go_sem]
       repeat' (first
         | (with_reducible apply Req_intro); focus (first | omega | assumption | (simp; done))
         | with_reducible (first | apply Req_intro | refine nilT ?_ fun hn => ?_ | apply wk_draw Tryd_mixed | refine drawEnd (by kernel_rfl) ?_)
         | (with_reducible (first | apply condA_if | apply stepDG_ifN | apply stepDG_if | apply stepG_ifN | apply stepG_if)) <;> intro hb <;> (have hif := hb) <;> (try simp only [bo] at hif) <;> (try simp -implicitDefEqProofs (disch := omega) only [go_sem, hb]) <;> clear hb
         | simp (maxSteps := 1000000) -implicitDefEqProofs (disch := omega) only [go_sem])
       all_goals first | exact absurd trivial ‹¬True› | exact absurd ‹false = true› (by decide) | exact absurd ‹true = false› (by decide) | (exfalso; omega) | omega | skip
       first | refine callp hrc' ?_ | refine calld hrc' ?_
       try simp (maxSteps := 1000000) -implicitDefEqProofs (disch := omega) only [go_sem]
       repeat' (first
         | (with_reducible apply Req_intro); focus (first | omega | assumption | (simp; done))
         | with_reducible (first | apply Req_intro | refine nilT ?_ fun hn => ?_ | apply wk_draw Tryd_mixed | refine drawEnd (by kernel_rfl) ?_)
         | (with_reducible (first | apply condA_if | apply stepDG_ifN | apply stepDG_if | apply stepG_ifN | apply stepG_if)) <;> intro hb <;> (have hif := hb) <;> (try simp only [bo] at hif) <;> (try simp -implicitDefEqProofs (disch := omega) only [go_sem, hb]) <;> clear hb
         | simp (maxSteps := 1000000) -implicitDefEqProofs (disch := omega) only [go_sem])
       all_goals first | exact absurd trivial ‹¬True› | exact absurd ‹false = true› (by decide) | exact absurd ‹true = false› (by decide) | (exfalso; omega) | omega | skip
       refine callf [] hR ?_
       try simp (maxSteps := 1000000) -implicitDefEqProofs (disch := omega) only [go_sem]
       repeat' (first
         | (with_reducible apply Req_intro); focus (first | omega | assumption | (simp; done))
         | with_reducible (first | apply Req_intro | refine nilT ?_ fun hn => ?_ | apply wk_draw Tryd_mixed | refine drawEnd (by kernel_rfl) ?_)
         | (with_reducible (first | apply condA_if | apply stepDG_ifN | apply stepDG_if | apply stepG_ifN | apply stepG_if)) <;> intro hb <;> (have hif := hb) <;> (try simp only [bo] at hif) <;> (try simp -implicitDefEqProofs (disch := omega) only [go_sem, hb]) <;> clear hb
         | simp (maxSteps := 1000000) -implicitDefEqProofs (disch := omega) only [go_sem])
       all_goals first | exact absurd trivial ‹¬True› | exact absurd ‹false = true› (by decide) | exact absurd ‹true = false› (by decide) | (exfalso; omega) | omega | skip
       first | refine callp hA ?_ | refine calld hA ?_
       try simp (maxSteps := 1000000) -implicitDefEqProofs (disch := omega) only [go_sem]
       repeat' (first
         | (with_reducible apply Req_intro); focus (first | omega | assumption | (simp; done))
         | with_reducible (first | apply Req_intro | refine nilT ?_ fun hn => ?_ | apply wk_draw Tryd_mixed | refine drawEnd (by kernel_rfl) ?_)
         | (with_reducible (first | apply condA_if | apply stepDG_ifN | apply stepDG_if | apply stepG_ifN | apply stepG_if)) <;> intro hb <;> (have hif := hb) <;> (try simp only [bo] at hif) <;> (try simp -implicitDefEqProofs (disch := omega) only [go_sem, hb]) <;> clear hb
         | simp (maxSteps := 1000000) -implicitDefEqProofs (disch := omega) only [go_sem])
       all_goals first | exact absurd trivial ‹¬True› | exact absurd ‹false = true› (by decide) | exact absurd ‹true = false› (by decide) | (exfalso; omega) | omega | skip
       refine callp gknown_spec ?_
       try simp (maxSteps := 1000000) -implicitDefEqProofs (disch := omega) only [go_sem]
       repeat' (first
         | (with_reducible apply Req_intro); focus (first | omega | assumption | (simp; done))
         | with_reducible (first | apply Req_intro | refine nilT ?_ fun hn => ?_ | apply wk_draw Tryd_mixed | refine drawEnd (by kernel_rfl) ?_)
         | (with_reducible (first | apply condA_if | apply stepDG_ifN | apply stepDG_if | apply stepG_ifN | apply stepG_if)) <;> intro hb <;> (have hif := hb) <;> (try simp only [bo] at hif) <;> (try simp -implicitDefEqProofs (disch := omega) only [go_sem, hb]) <;> clear hb
         | simp (maxSteps := 1000000) -implicitDefEqProofs (disch := omega) only [go_sem])
       all_goals first | exact absurd trivial ‹¬True› | exact absurd ‹false = true› (by decide) | exact absurd ‹true = false› (by decide) | (exfalso; omega) | omega | skip
       refine ret_do ?_
       rfl
     · have hp := Balance_state g ls rs false false hst h0 hlr
       refine fn_enter Tryd.func10 rfl (by decide) Tryd.results10 Tryd.ntmps10 ?_ rfl (by simp (maxSteps := 1000000) -implicitDefEqProofs (disch := omega) only [go_sem]; rfl) fun base => ?_
       · first | assumption | (simp only [go_sem] <;> assumption) | (simp only [go_sem, *]; done) | (simp [go_sem]; done)
       repeat' (first
         | (with_reducible apply Req_intro); focus (first | omega | assumption | (simp; done))
         | with_reducible (first | apply Req_intro | refine nilT ?_ fun hn => ?_ | apply wk_draw Tryd_mixed | refine drawEnd (by kernel_rfl) ?_)
         | (with_reducible (first | apply condA_if | apply stepDG_ifN | apply stepDG_if | apply stepG_ifN | apply stepG_if)) <;> intro hb <;> (have hif := hb) <;> (try simp only [bo] at hif) <;> (try simp -implicitDefEqProofs (disch := omega) only [go_sem, hb]) <;> clear hb
         | simp (maxSteps := 1000000) -implicitDefEqProofs (disch := omega) only [go_sem])
       refine callp hlg ?_
       try simp (maxSteps := 1000000) -implicitDefEqProofs (disch := omega) only [go_sem]
       repeat' (first
         | (with_reducible apply Req_intro); focus (first | omega | assumption | (simp; done))
         | with_reducible (first | apply Req_intro | refine nilT ?_ fun hn => ?_ | apply wk_draw Tryd_mixed | refine drawEnd (by kernel_rfl) ?_)
         | (with_reducible (first | apply condA_if | apply stepDG_ifN | apply stepDG_if | apply stepG_ifN | apply stepG_if)) <;> intro hb <;> (have hif := hb) <;> (try simp only [bo] at hif) <;> (try simp -implicitDefEqProofs (disch := omega) only [go_sem, hb]) <;> clear hb
         | simp (maxSteps := 1000000) -implicitDefEqProofs (disch := omega) only [go_sem])
       all_goals first | exact absurd trivial ‹¬True› | exact absurd ‹false = true› (by decide) | exact absurd ‹true = false› (by decide) | (exfalso; omega) | omega | skip
       refine callp hown ?_
       try simp (maxSteps := 1000000) -implicitDefEqProofs (disch := omega) only [go_sem]
       repeat' (first
         | (with_reducible apply Req_intro); focus (first | omega | assumption | (simp; done))
         | with_reducible (first | apply Req_intro | refine nilT ?_ fun hn => ?_ | apply wk_draw Tryd_mixed | refine drawEnd (by kernel_rfl) ?_)
         | (with_reducible (first | apply condA_if | apply stepDG_ifN | apply stepDG_if | apply stepG_ifN | apply stepG_if)) <;> intro hb <;> (have hif := hb) <;> (try simp only [bo] at hif) <;> (try simp -implicitDefEqProofs (disch := omega) only [go_sem, hb]) <;> clear hb
         | simp (maxSteps := 1000000) -implicitDefEqProofs (disch := omega) only [go_sem])
       first | refine callp hp ?_ | refine calld hp ?_
       try simp (maxSteps := 1000000) -implicitDefEqProofs (disch := omega) only [go_sem]
       repeat' (first
         | (with_reducible apply Req_intro); focus (first | omega | assumption | (simp; done))
         | with_reducible (first | apply Req_intro | refine nilT ?_ fun hn => ?_ | apply wk_draw Tryd_mixed | refine drawEnd (by kernel_rfl) ?_)
         | (with_reducible (first | apply condA_if | apply stepDG_ifN | apply stepDG_if | apply stepG_ifN | apply stepG_if)) <;> intro hb <;> (have hif := hb) <;> (try simp only [bo] at hif) <;> (try simp -implicitDefEqProofs (disch := omega) only [go_sem, hb]) <;> clear hb
         | simp (maxSteps := 1000000) -implicitDefEqProofs (disch := omega) only [go_sem])
       all_goals first | exact absurd trivial ‹¬True› | exact absurd ‹false = true› (by decide) | exact absurd ‹true = false› (by decide) | (exfalso; omega) | omega | skip
       first | refine callp hsame ?_ | refine calld hsame ?_
       try simp (maxSteps := 1000000) -implicitDefEqProofs (disch := omega) only [go_sem]
       repeat' (first
         | (with_reducible apply Req_intro); focus (first | omega | assumption | (simp; done))
         | with_reducible (first | apply Req_intro | refine nilT ?_ fun hn => ?_ | apply wk_draw Tryd_mixed | refine drawEnd (by kernel_rfl) ?_)
         | (with_reducible (first | apply condA_if | apply stepDG_ifN | apply stepDG_if | apply stepG_ifN | apply stepG_if)) <;> intro hb <;> (have hif := hb) <;> (try simp only [bo] at hif) <;> (try simp -implicitDefEqProofs (disch := omega) only [go_sem, hb]) <;> clear hb
         | simp (maxSteps := 1000000) -implicitDefEqProofs (disch := omega) only [go_sem])
       all_goals first | exact absurd trivial ‹¬True› | exact absurd ‹false = true› (by decide) | exact absurd ‹true = false› (by decide) | (exfalso; omega) | omega | skip
       first | refine callp hrc' ?_ | refine calld hrc' ?_
       try simp (maxSteps := 1000000) -implicitDefEqProofs (disch := omega) only [go_sem]
       repeat' (first
         | (with_reducible apply Req_intro); focus (first | omega | assumption | (simp; done))
         | with_reducible (first | apply Req_intro | refine nilT ?_ fun hn => ?_ | apply wk_draw Tryd_mixed | refine drawEnd (by kernel_rfl) ?_)
         | (with_reducible (first | apply condA_if | apply stepDG_ifN | apply stepDG_if | apply stepG_ifN | apply stepG_if)) <;> intro hb <;> (have hif := hb) <;> (try simp only [bo] at hif) <;> (try simp -implicitDefEqProofs (disch := omega) only [go_sem, hb]) <;> clear hb
         | simp (maxSteps := 1000000) -implicitDefEqProofs (disch := omega) only [go_sem])
       all_goals first | exact absurd trivial ‹¬True› | exact absurd ‹false = true› (by decide) | exact absurd ‹true = false› (by decide) | (exfalso; omega) | omega | skip
       refine callp gknown_spec ?_
       try simp (maxSteps := 1000000) -implicitDefEqProofs (disch := omega) only [go_sem]
       repeat' (first
         | (with_reducible apply Req_intro); focus (first | omega | assumption | (simp; done))
         | with_reducible (first | apply Req_intro | refine nilT ?_ fun hn => ?_ | apply wk_draw Tryd_mixed | refine drawEnd (by kernel_rfl) ?_)
         | (with_reducible (first | apply condA_if | apply stepDG_ifN | apply stepDG_if | apply stepG_ifN | apply stepG_if)) <;> intro hb <;> (have hif := hb) <;> (try simp only [bo] at hif) <;> (try simp -implicitDefEqProofs (disch := omega) only [go_sem, hb]) <;> clear hb
         | simp (maxSteps := 1000000) -implicitDefEqProofs (disch := omega) only [go_sem])
       all_goals first | exact absurd trivial ‹¬True› | exact absurd ‹false = true› (by decide) | exact absurd ‹true = false› (by decide) | (exfalso; omega) | omega | skip
       refine ret_do ?_
       rfl
   · have hp := Balance_err g ls rs false false hst h0
     generalize checkS g ls rs = c at *
     refine fn_enter Tryd.func10 rfl (by decide) Tryd.results10 Tryd.ntmps10 ?_ rfl (by simp (maxSteps := 1000000) -implicitDefEqProofs (disch := omega) only [go_sem]; rfl) fun base => ?_
     · first | assumption | (simp only [go_sem] <;> assumption) | (simp only [go_sem, *]; done) | (simp [go_sem]; done)
     repeat' (first
       | (with_reducible apply Req_intro); focus (first | omega | assumption | (simp; done))
       | with_reducible (first | apply Req_intro | refine nilT ?_ fun hn => ?_ | apply wk_draw Tryd_mixed | refine drawEnd (by kernel_rfl) ?_)
       | (with_reducible (first | apply condA_if | apply stepDG_ifN | apply stepDG_if | apply stepG_ifN | apply stepG_if)) <;> intro hb <;> (have hif := hb) <;> (try simp only [bo] at hif) <;> (try simp -implicitDefEqProofs (disch := omega) only [go_sem, hb]) <;> clear hb
       | simp (maxSteps := 1000000) -implicitDefEqProofs (disch := omega) only [go_sem])
     refine callp hlg ?_
     try simp (maxSteps := 1000000) -implicitDefEqProofs (disch := omega) only [go_sem]
     repeat' (first
       | (with_reducible apply Req_intro); focus (first | omega | assumption | (simp; done))
       | with_reducible (first | apply Req_intro | refine nilT ?_ fun hn => ?_ | apply wk_draw Tryd_mixed | refine drawEnd (by kernel_rfl) ?_)
       | (with_reducible (first | apply condA_if | apply stepDG_ifN | apply stepDG_if | apply stepG_ifN | apply stepG_if)) <;> intro hb <;> (have hif := hb) <;> (try simp only [bo] at hif) <;> (try simp -implicitDefEqProofs (disch := omega) only [go_sem, hb]) <;> clear hb
       | simp (maxSteps := 1000000) -implicitDefEqProofs (disch := omega) only [go_sem])
     all_goals first | exact absurd trivial ‹¬True› | exact absurd ‹false = true› (by decide) | exact absurd ‹true = false› (by decide) | (exfalso; omega) | omega | skip
     refine callp hown ?_
     try simp (maxSteps := 1000000) -implicitDefEqProofs (disch := omega) only [go_sem]
     repeat' (first
       | (with_reducible apply Req_intro); focus (first | omega | assumption | (simp; done))
       | with_reducible (first | apply Req_intro | refine nilT ?_ fun hn => ?_ | apply wk_draw Tryd_mixed | refine drawEnd (by kernel_rfl) ?_)
       | (with_reducible (first | apply condA_if | apply stepDG_ifN | apply stepDG_if | apply stepG_ifN | apply stepG_if)) <;> intro hb <;> (have hif := hb) <;> (try simp only [bo] at hif) <;> (try simp -implicitDefEqProofs (disch := omega) only [go_sem, hb]) <;> clear hb
       | simp (maxSteps := 1000000) -implicitDefEqProofs (disch := omega) only [go_sem])
     first | refine callp hp ?_ | refine calld hp ?_
     try simp (maxSteps := 1000000) -implicitDefEqProofs (disch := omega) only [go_sem]
     repeat' (first
       | (with_reducible apply Req_intro); focus (first | omega | assumption | (simp; done))
       | with_reducible (first | apply Req_intro | refine nilT ?_ fun hn => ?_ | apply wk_draw Tryd_mixed | refine drawEnd (by kernel_rfl) ?_)
       | (with_reducible (first | apply condA_if | apply stepDG_ifN | apply stepDG_if | apply stepG_ifN | apply stepG_if)) <;> intro hb <;> (have hif := hb) <;> (try simp only [bo] at hif) <;> (try simp -implicitDefEqProofs (disch := omega) only [go_sem, hb]) <;> clear hb
       | simp (maxSteps := 1000000) -implicitDefEqProofs (disch := omega) only [go_sem])
     all_goals first | exact absurd trivial ‹¬True› | exact absurd ‹false = true› (by decide) | exact absurd ‹true = false› (by decide) | (exfalso; omega) | omega | skip
     first | refine callp hsame ?_ | refine calld hsame ?_
     try simp (maxSteps := 1000000) -implicitDefEqProofs (disch := omega) only [go_sem]
     repeat' (first
       | (with_reducible apply Req_intro); focus (first | omega | assumption | (simp; done))
       | with_reducible (first | apply Req_intro | refine nilT ?_ fun hn => ?_ | apply wk_draw Tryd_mixed | refine drawEnd (by kernel_rfl) ?_)
       | (with_reducible (first | apply condA_if | apply stepDG_ifN | apply stepDG_if | apply stepG_ifN | apply stepG_if)) <;> intro hb <;> (have hif := hb) <;> (try simp only [bo] at hif) <;> (try simp -implicitDefEqProofs (disch := omega) only [go_sem, hb]) <;> clear hb
       | simp (maxSteps := 1000000) -implicitDefEqProofs (disch := omega) only [go_sem])
     all_goals first | exact absurd trivial ‹¬True› | exact absurd ‹false = true› (by decide) | exact absurd ‹true = false› (by decide) | (exfalso; omega) | omega | skip
     first | refine callp hrc' ?_ | refine calld hrc' ?_
     try simp (maxSteps := 1000000) -implicitDefEqProofs (disch := omega) only [go_sem]
     repeat' (first
       | (with_reducible apply Req_intro); focus (first | omega | assumption | (simp; done))
       | with_reducible (first | apply Req_intro | refine nilT ?_ fun hn => ?_ | apply wk_draw Tryd_mixed | refine drawEnd (by kernel_rfl) ?_)
       | (with_reducible (first | apply condA_if | apply stepDG_ifN | apply stepDG_if | apply stepG_ifN | apply stepG_if)) <;> intro hb <;> (have hif := hb) <;> (try simp only [bo] at hif) <;> (try simp -implicitDefEqProofs (disch := omega) only [go_sem, hb]) <;> clear hb
       | simp (maxSteps := 1000000) -implicitDefEqProofs (disch := omega) only [go_sem])
     all_goals first | exact absurd trivial ‹¬True› | exact absurd ‹false = true› (by decide) | exact absurd ‹true = false› (by decide) | (exfalso; omega) | omega | skip
     refine callp gknown_spec ?_
     try simp (maxSteps := 1000000) -implicitDefEqProofs (disch := omega) only [go_sem]
     repeat' (first
       | (with_reducible apply Req_intro); focus (first | omega | assumption | (simp; done))
       | with_reducible (first | apply Req_intro | refine nilT ?_ fun hn => ?_ | apply wk_draw Tryd_mixed | refine drawEnd (by kernel_rfl) ?_)
       | (with_reducible (first | apply condA_if | apply stepDG_ifN | apply stepDG_if | apply stepG_ifN | apply stepG_if)) <;> intro hb <;> (have hif := hb) <;> (try simp only [bo] at hif) <;> (try simp -implicitDefEqProofs (disch := omega) only [go_sem, hb]) <;> clear hb
       | simp (maxSteps := 1000000) -implicitDefEqProofs (disch := omega) only [go_sem])
     all_goals first | exact absurd trivial ‹¬True› | exact absurd ‹false = true› (by decide) | exact absurd ‹true = false› (by decide) | (exfalso; omega) | omega | skip
     refine ret_do ?_
     rfl
end Go.Aw
end
section
namespace Go.Aw
open Go.RowKit Go.ChangeShapes Go.WideShapes
def RepL (w : World) (ok : Nat → Nat → Prop) (cs : List Value) (ds : List V) : Prop :=
 cs.length = ds.length ∧ ∀ (j : Nat) (d : V) (u : Value), ds[j]? = some d → cs[j]? = some u → Rep w ok (fun _ => none) u d
theorem exists_list {α : Type} {p : Nat → α → Prop} : ∀ n, (∀ i, i < n → ∃ a, p i a) → ∃ l : List α, l.length = n ∧ ∀ i a, l[i]? = some a → p i a
 | 0, _ => ⟨[], rfl, fun i a h => by cases h⟩
 | n + 1, h => by
   obtain ⟨l, hl, hp⟩ := exists_list n fun i hi => h i (by omega)
   obtain ⟨a, ha⟩ := h n (by omega)
   refine ⟨l ++ [a], by simp [hl], fun i b hb => ?_⟩
   rcases Nat.lt_or_ge i l.length with h1 | h1
   · rw [List.getElem?_append_left h1] at hb; exact hp i b hb
   · rw [List.getElem?_append_right h1] at hb
     have : i - l.length = 0 := by
       refine Classical.byContradiction fun hc => ?_
       rw [List.getElem?_eq_none (by simp; omega)] at hb; cases hb
     rw [this] at hb
     cases hb
     obtain rfl : i = n := by omega
     exact ha
theorem cells?_get {w : World} {base : Nat} {a : Addr} {n : Nat} {cs : List Value} (h : w.cells? base a n = some cs) : cs.length = n ∧ ∀ j, j < n → ∃ u, cs[j]? = some u ∧ w.cell? (a.add j) = some u := by
 unfold World.cells? at h
 split at h
 · have hl := mapM_some_length h
   rw [List.length_range] at hl
   refine ⟨hl, fun j hj => ?_⟩
   have := mapM_some_get h j j (by simp [hj])
   obtain ⟨u, hu⟩ : ∃ u, cs[j]? = some u := ⟨cs[j], List.getElem?_eq_getElem (by omega)⟩
   exact ⟨u, hu, by rw [this, hu]⟩
 · cases h
theorem add_at (b o n : Nat) : (⟨b, o, none⟩ : Addr).add n = ⟨b, o + n, none⟩ := by
 unfold Addr.add
 split
 · rename_i h; subst h; rfl
 · rfl
theorem add_add' (b o x j : Nat) : ((⟨b, o, none⟩ : Addr).add x).add j = ⟨b, o + x + j, none⟩ := by rw [add_at, add_at]
section
variable {H : Type} {enc : TypeId × Value → H} {P : Program} {w : World} {ok : Nat → Nat → Prop} {sp : Nat → Bool}
theorem mem_weightsAll {e : TypeId} : ∀ {es : List (DataW H)} {d : DataW H} {m : Nat}, d ∈ es → m ∈ d.weights P e → m ∈ DataW.weightsAll P e es
 | [], d, m, h, _ => by cases h
 | a :: r, d, m, h, hm => by
   simp only [DataW.weightsAll, List.mem_append]
   rcases List.mem_cons.1 h with rfl | h
   · exact .inl hm
   · exact .inr (mem_weightsAll h hm)
theorem slice_rep {α : Type} {en : α → List V} {k : Nat} {q : α → Prop} {t e : TypeId} (hk0 : 0 < k) (ht : P.underlying t = some (.slice e)) (hk : P.cellsOf e = k) (hb : 0 < P.bytesOf e)
   (hlen : ∀ a, (en a).length = k)
   (hel : ∀ n cs x, DataW.trod enc P w 0 sp true n e cs = some x → (∀ m ∈ x.1.weights P e, m ≤ reachBytes) → ∃ a, q a ∧ RepL w ok cs (en a))
   (hok : ∀ b o u, w.cell? ⟨b, o, none⟩ = some u → ok b o)
   {n : Nat} {cs : List Value} {x : DataW H × List MemPlace} (h : DataW.trod enc P w 0 sp true n t cs = some x) (hw : ∀ m ∈ x.1.weights P t, m ≤ reachBytes) :
   ∃ (v : Value) (l : List α), cs = [v] ∧ l.length ≤ reachBytes ∧ (∀ a ∈ l, q a) ∧ Rep w ok (fun _ => none) v (.sl k (l.map en) false) := by
 rcases DataW.trod_slice ht h with ⟨rfl, rfl⟩ | ⟨a, len, cap, elems, rest, m, rfl, rfl, rfl, hbase, hlc, hcm, hel1, hel2, hsp, hsp2⟩
 · exact ⟨_, [], rfl, Nat.zero_le _, fun a ha => (by cases ha), .sl none 0 0 k [] false (fun _ _ => undef) rfl (Nat.le_refl _) (fun h => by cases h) (fun i j hi => absurd hi (Nat.not_lt_zero _)) (fun e he => by cases he) (fun i j e d he => by cases he)⟩
 · rw [hk] at hel2
   have hwt : (elems.length + rest.length) * P.bytesOf e ≤ reachBytes ∧ ∀ d ∈ elems.map (·.1), ∀ m ∈ d.weights P e, m ≤ reachBytes := by
     simp only [DataW.weights, ht, List.length_map] at hw
     refine ⟨hw _ (List.mem_cons_self ..), fun d hd m hm => hw m ?_⟩
     exact List.mem_cons_of_mem _ (List.mem_append_left _ (mem_weightsAll hd hm))
   have key : ∀ i, i < len → ∃ p : α × List Value, w.cells? 0 (a.add (i * k)) k = some p.2 ∧ q p.1 ∧ RepL w ok p.2 (en p.1) := fun i hi => by
     have h1 := hel2 i hi
     obtain ⟨y, hy⟩ : ∃ y, elems[i]? = some y := ⟨elems[i], List.getElem?_eq_getElem (by omega)⟩
     rw [hy, Option.bind_eq_some_iff] at h1
     obtain ⟨cs, hc1, hc2⟩ := h1
     obtain ⟨b, hb1, hb2⟩ := hel _ _ _ hc2 (hwt.2 y.1 (List.mem_map_of_mem (List.mem_of_getElem? hy)))
     exact ⟨(b, cs), hc1, hb1, hb2⟩
   obtain ⟨l, hl, hp⟩ := exists_list len key
   have hspot : 0 < len → a.spot = none := fun h0 => by
     obtain ⟨p, hp1, _, _⟩ := key 0 h0
     obtain ⟨u, _, hu⟩ := (cells?_get hp1).2 0 hk0
     simp only [Nat.zero_mul, Addr.add, if_true] at hu
     unfold World.cell? at hu
     split at hu
     · split at hu
       · cases hu
       · rename_i hn; simpa using hn
     · cases hu
   refine ⟨_, l.map (·.1), rfl, ?_, ?_, ?_⟩
   · rw [List.length_map, hl, ← hel1]
     refine Nat.le_trans ?_ hwt.1
     exact Nat.le_trans (Nat.le_add_right _ _) (Nat.le_mul_of_pos_right _ hb)
   · intro b hb
     obtain ⟨p, hp1, rfl⟩ := List.mem_map.1 hb
     obtain ⟨i, hi⟩ := List.getElem?_of_mem hp1
     exact (hp i p hi).2.1
   · refine .sl (some a) len cap k _ false (fun i j => (w.cell? (a.add (i * k + j))).getD undef) (by simp [hl]) hlc (fun h => by cases h) (fun i j hi hj => ?_) (fun e he => ?_) (fun i j e d he hd => ?_)
     · obtain ⟨b, o, s⟩ := a
       obtain rfl : s = none := hspot (by omega)
       obtain ⟨p, hp1, _, _⟩ := key i hi
       obtain ⟨u, _, hu⟩ := (cells?_get hp1).2 j hj
       rw [add_add'] at hu
       have e1 : (⟨b, o, none⟩ : Addr).add (i * k + j) = ⟨b, o + i * k + j, none⟩ := by rw [add_at, Nat.add_assoc]
       exact ⟨b, o, rfl, hok _ _ _ hu, by rw [e1, hu]; rfl⟩
     · rw [List.map_map] at he
       obtain ⟨p, hp1, rfl⟩ := List.mem_map.1 he
       exact hlen _
     · rw [List.map_map, List.getElem?_map, Option.map_eq_some_iff] at he
       obtain ⟨p, hp1, rfl⟩ := he
       obtain ⟨h1, h2, h3⟩ := hp i p hp1
       have hi : i < len := by rw [← hl]; exact (List.getElem?_eq_some_iff.1 hp1).1
       have hj : j < k := by
         have := (List.getElem?_eq_some_iff.1 hd).1
         simp only [Function.comp] at this
         rwa [hlen] at this
       obtain ⟨u, hu1, hu2⟩ := (cells?_get h1).2 j hj
       have : w.cell? (a.add (i * k + j)) = some u := by
         obtain ⟨b, o, s⟩ := a
         obtain rfl : s = none := hspot (by omega)
         rw [add_add'] at hu2
         rw [← hu2, Nat.add_assoc, add_at]
       show Rep w ok _ ((w.cell? (a.add (i * k + j))).getD undef) d
       rw [this]
       exact h3.2 j d u hd hu1
theorem int_rep {k : IntKind} {t : TypeId} (ht : P.underlying t = some (.int k)) {n : Nat} {cs : List Value} {x : DataW H × List MemPlace} (h : DataW.trod enc P w 0 sp true n t cs = some x) : ∃ i, cs = [.int k i] ∧ k.min ≤ i ∧ i ≤ k.max := by
 obtain ⟨i, h1, _, h2⟩ := DataW.trod_int ht h
 simp only [Lit.wf, Bool.and_eq_true, decide_eq_true_eq] at h2
 exact ⟨i, h1, h2.1, h2.2⟩
theorem struct2_cells {t : TypeId} {f0 f1 : Field} (ht : P.underlying t = some (.struct #[f0, f1])) (hc : P.cellsOf t = 2) (h0 : f0.offset = 0) (h1 : f1.offset = 1) (c0 : P.cellsOf f0.type = 1) (c1 : P.cellsOf f1.type = 1)
   {n : Nat} {cs : List Value} {x : DataW H × List MemPlace} (h : DataW.trod enc P w 0 sp true n t cs = some x) (hw : ∀ m ∈ x.1.weights P t, m ≤ reachBytes) :
   ∃ u v y z m, cs = [u, v] ∧ DataW.trod enc P w 0 sp true m f0.type [u] = some y ∧ DataW.trod enc P w 0 sp true m f1.type [v] = some z ∧ (∀ m ∈ y.1.weights P f0.type, m ≤ reachBytes) ∧ (∀ m ∈ z.1.weights P f1.type, m ≤ reachBytes) := by
 obtain ⟨y0, y1, m, rfl, hl, g0, g1⟩ := trod_struct2 ht h
 rw [hc] at hl
 rw [h0, c0] at g0
 rw [h1, c1] at g1
 simp only [DataW.weights, ht, DataW.weightsEach, List.map_cons, List.map_nil, List.mem_append, List.append_nil] at hw
 match cs, hl with
 | [u, v], _ =>
   refine ⟨u, v, y0, y1, m, rfl, g0, g1, fun m hm => hw m ?_, fun m hm => hw m ?_⟩
   · exact .inl hm
   · exact .inr hm
end
theorem Evol.kept {ok ok' : Nat → Nat → Prop} {own' : Nat → Prop} {w w' : World} (he : Evol (fun _ => False) ok w own' ok' w') : w.keptBut w' (fun _ => False) := by
 refine ⟨he.os, he.output, fun i hi => ?_⟩
 rw [he.unch i hi (fun h => h)]
 cases w.heap[i]? with
 | none => rfl
 | some o => cases o <;> simp
theorem Evol.sameAt {ok ok' : Nat → Nat → Prop} {own' : Nat → Prop} {w w' : World} (he : Evol (fun _ => False) ok w own' ok' w') {p : MemPlace} (hp : p.block < w.heap.size) : w.sameAt w' p := by
 have h := he.unch p.block hp (fun h => h)
 cases p with
 | cell b off => exact World.cell?_of_block (w := w) (a := ⟨b, off, none⟩) h
 | map b => exact h
end Go.Aw
end
section
set_option maxRecDepth 100000
namespace Go.Aw
open Go.RowKit Go.ChangeShapes Go.WideShapes Go.Proofs
theorem own0 : ownKnob Tryd.prog.godebug = none := by kernel_rfl
theorem laidOut0 : laidOutB Tryd.prog = true := by kernel_rfl
theorem rowed0 : mapsRowed Tryd.prog = true := by kernel_rfl
theorem full0 : ∀ t e, t < Tryd.prog.types.size → Tryd.prog.underlying t = some (.slice e) → 0 < Tryd.prog.cellsOf e := slices_full_of _ (by kernel_rfl)
def okAll (w : World) (b o : Nat) : Prop := ∃ u, w.cell? ⟨b, o, none⟩ = some u
theorem glob_of_laid {w : World} (h : laidMetH Tryd.prog YtgpeegdinblnoaaDoor.Rows.guardAlikesRow.laid w) : GlobOk w (okAll w) := by
 have h' : laidMet Tryd.prog YtgpeegdinblnoaaDoor.Rows.guardAlikesRow.laid w := h
 obtain ⟨ps, ⟨g1, t1, c1, n1, p1, q1, a1, a2, a3, a4, ⟨g, t, cs, n, p, q, b1, b2, b3, b4, _⟩, _⟩, _⟩ := h'
 intro g0 vs hg j v hv
 unfold globT at hg
 split at hg
 · rename_i e
   subst e
   cases hg
   obtain rfl : g = 1 := Option.some.inj (b1.symm.trans (by kernel_rfl))
   have ht : t = 170 := Option.some.inj (b2.symm.trans (by kernel_rfl))
   subst ht
   obtain ⟨xs, m, hn, hx, hl, hlen, hf⟩ := DataW.trod_array (P := Tryd.prog) (n := 64) (e := 5) (by kernel_rfl) b4
   obtain ⟨L, hL1, hL2⟩ : ∃ L : List Int, tab64 = L.map (Value.int .u8) ∧ (YtgpeegdinblnoaaDoor.Rows.laid_math_bits_deBruijn64tab : DataW Unit) = .agg (L.map fun n => .lit (.int .u8 n)) := ⟨_, rfl, rfl⟩
   have hc1 : Tryd.prog.cellsOf 5 = 1 := by kernel_rfl
   rw [hL2] at hx
   have hx' : xs.map (·.1) = L.map fun n => (.lit (.int .u8 n) : DataW Unit) := by
     have := congrArg Prod.fst hx
     simp only at this
     injection this with this
     exact this.symm
   rw [hL1, List.getElem?_map, Option.map_eq_some_iff] at hv
   obtain ⟨i, hi, rfl⟩ := hv
   have h1 : (xs.map (·.1))[j]? = some (.lit (.int .u8 i)) := by rw [hx', List.getElem?_map, hi]; rfl
   rw [List.getElem?_map, Option.map_eq_some_iff] at h1
   obtain ⟨y, hy, hy1⟩ := h1
   have hj : j < 64 := by rw [← hlen]; exact (List.getElem?_eq_some_iff.1 hy).1
   have h2 := hf j hj
   rw [hy, hc1, Nat.mul_one] at h2
   obtain ⟨i', h3, h4, _⟩ := DataW.trod_int (P := Tryd.prog) (k := .u8) (by kernel_rfl) h2
   rw [h4] at hy1
   simp only [DataW.lit.injEq, Lit.int.injEq, true_and] at hy1
   subst hy1
   have h5 : w.cell? ⟨1, j, none⟩ = some (.int .u8 i') := by
     rw [World.var?_cell b1 b3 j, ← Array.getElem?_toList]
     have h6 : (cs.toList.drop j)[0]? = some (.int .u8 i') := by
       have := congrArg (fun l => l[0]?) h3
       simpa [List.getElem?_take] using this
     simpa using h6
   exact ⟨⟨_, h5⟩, h5⟩
 · cases hg
theorem all_kept {H : Type} {enc : TypeId × Value → H} {w w' : World} {own' : Nat → Prop} {ok ok' : Nat → Nat → Prop} (he : Evol (fun _ => False) ok w own' ok' w') :
   ∀ {ts : List TypeId} {vs : List Value} {ds : List (DataW H)} {ps : List MemPlace}, DataW.TrodAll enc Tryd.prog w 0 (fun _ => true) true ts vs ds ps → DataW.TrodAll enc Tryd.prog w' 0 (fun _ => true) true ts vs ds ps
 | [], [], [], _, h => h
 | _ :: _, _ :: _, _ :: _, _, ⟨p, q, ⟨n, h1⟩, h2, e⟩ => ⟨p, q, ⟨n, DataW.trod_carry _ _ _ _ h1 fun a ha => he.sameAt (DataW.trod_lt _ _ _ _ h1 a ha)⟩, all_kept he h2, e⟩
theorem lifted_of {f : FuncId} {fn : Func} {s : ChangeSpec} (hfn : Tryd.prog.funcs[f]? = some fn) (hvars : s.vars = []) (hni : Tryd.prog.inits.idxOf? f = none)
   (hspec : ∀ (H : Type) (ds : List (DataW H)), ds.length = fn.params.toList.length → s.fn H ds = { results := [.lit (.bool true)], args := ds })
   (hres : fn.resultTypes.toList = [4]) (hps : ∀ t ∈ fn.params.toList, t < Tryd.prog.types.size)
   (hread : ∀ {H : Type} {enc : TypeId × Value → H} (w : World) (base : Nat) (args : Array Value) (ds : List (DataW H)) (p : List MemPlace), (∀ (j : Nat) t v, fn.params[j]? = some t → args[j]? = some v → Value.okWide Tryd.prog w .any base t v) →
     DataW.TrodAll enc Tryd.prog w 0 (fun _ => true) true fn.params.toList args.toList ds p → (∀ m ∈ DataW.weightsEach Tryd.prog fn.params.toList ds, m ≤ reachBytes) →
     ∃ av : List V, args.size = av.length ∧ (∀ (i : Nat) (d : V) (v : Value), av[i]? = some d → args[i]? = some v → Rep w (okAll w) (fun _ => none) v d) ∧ CallsTo Tryd.prog f av (.lit (.bool true)))
   (os : Os) (started : os.Started) (H : Type) (enc : TypeId × Value → H)
   (hwit : ∃ (w : World) (tape : Tape) (i : Input), w.os = os ∧ (w.forCall tape i).Shaped Tryd.checked.prog ∧ i.vars = [] ∧ Input.okWide Tryd.checked.prog (w.forCall tape i) .any w.heap.size f i ∧
     ((s.pre enc Tryd.checked.prog fn [] false (w.forCall tape i).memory i.args ∧ laidMetH Tryd.prog YtgpeegdinblnoaaDoor.Rows.guardAlikesRow.laid (w.forCall tape i).memory) ∧ sizedMet enc Tryd.checked.prog fn (OpenSpec.ofChange s) false (w.forCall tape i).memory i.args) ∧ ({} : Assume).holds Tryd.checked.prog (lone (Frame.enter Tryd.checked.prog f i.args .normal) [] (w.forCall tape i))) :
   ReturnsInHanded {} Tryd.checked os f .any (fun w args => (s.pre enc Tryd.checked.prog fn [] false w args ∧ laidMetH Tryd.prog YtgpeegdinblnoaaDoor.Rows.guardAlikesRow.laid w) ∧ sizedMet enc Tryd.checked.prog fn (OpenSpec.ofChange s) false w args)
     (s.post enc Tryd.checked.prog fn false true false false) := by
 refine returnsInHanded_of_change_and (C := Tryd.checked) (X := fun w _ => laidMetH Tryd.prog YtgpeegdinblnoaaDoor.Rows.guardAlikesRow.laid w) (fun _ _ _ hh h => h.of_heap hh) own0 started hni hfn hwit ?_
 intro W base args ds gs before hval hW _ hwts hL _
 have hW' := hW
 obtain ⟨p, q, hA, hV, hpq, hfz, hnd⟩ := hW
 rw [hvars] at hV
 obtain ⟨rfl, rfl⟩ : gs = [] ∧ q = [] := by
   cases gs with
   | nil => exact ⟨rfl, hV⟩
   | cons g r => exact absurd hV (by intro h; cases h)
 have hvt : s.plain.varTypes Tryd.checked.prog = [] := by unfold DataSpec.varTypes ChangeSpec.plain; rw [hvars]; rfl
 rw [hvt, List.append_nil, List.append_nil, List.all_eq_true] at hwts
 obtain ⟨av, hsz, hrep, hct⟩ := hread W base args ds p hval hA (fun m hm => by simpa using hwts m hm)
 refine ((hct W (okAll W) args (fun b o h => h) (glob_of_laid hL) hsz hrep).calls (FW_room _)).mono fun e W' ⟨v, own', ok', he, hev, _, hrv⟩ => ?_
 subst he
 refine ⟨v, rfl, ?_⟩
 have hv : v = .bool true := by cases hrv; rfl
 subst hv
 have hlen : ds.length = fn.params.toList.length := by
   have key : ∀ {ts : List TypeId} {vs : List Value} {ds : List (DataW H)} {ps : List MemPlace}, DataW.TrodAll enc Tryd.prog W 0 (fun _ => true) true ts vs ds ps → ds.length = ts.length := by
     intro ts
     induction ts with
     | nil => intro vs ds ps h; obtain ⟨_, rfl, _⟩ := trodAll_nil h; rfl
     | cons t ts ih =>
       intro vs ds ps h
       obtain ⟨v, vs', d, ds', p, q, _, rfl, _, _, h2⟩ := trodAll_cons h
       simp [ih h2]
   exact key hA
 have hfnd : s.fn H (ds ++ []) = { results := [.lit (.bool true)], args := ds } := by rw [List.append_nil]; exact hspec H ds hlen
 refine ⟨ds, [], before, [], p, [], hW', ?_, ?_, ?_, World.keptBut_mono (fun _ f => f.elim) hev.kept, fun h => by cases h⟩
 · rw [hfnd, hres]
   have : (Value.bool true).resultList fn.resultTypes.size = [.bool true] := by
     have : fn.resultTypes.size = 1 := by rw [← Array.length_toList, hres]; rfl
     rw [this]; rfl
   rw [this]
   exact trodAll_mk1 (shut_bool (P := Tryd.prog) (by kernel_rfl) true)
 · rw [hfnd]
   refine DataW.TrodAll.respare (P := Tryd.prog) (T := (· < Tryd.prog.types.size)) (kids_rows laidOut0 rowed0) full0 hps (all_kept hev hA) fun a ha => ?_
   exact decide_eq_true (DataW.TrodAll.lt hA a ha)
 · rw [hfnd, hvars]; rfl
end Go.Aw
end
section
set_option maxRecDepth 100000
namespace Go.Aw
open Go.RowKit Go.ChangeShapes Go.WideShapes Go.Proofs
section
variable {H : Type} {enc : TypeId × Value → H} {w : World}
theorem gint_read {n : Nat} {cs : List Value} {x : DataW H × List MemPlace} (h : DataW.trod enc Tryd.prog w 0 (fun _ => true) true n 3 cs = some x) : ∃ i, cs = [.int .i64 i] := by
 obtain ⟨i, e, _⟩ := int_rep Tryd.underlying3 h
 exact ⟨i, e⟩
theorem gints_read {n : Nat} {cs : List Value} {x : DataW H × List MemPlace} (h : DataW.trod enc Tryd.prog w 0 (fun _ => true) true n 22 cs = some x) (hw : ∀ m ∈ x.1.weights Tryd.prog 22, m ≤ reachBytes) :
   ∃ (v : Value) (l : List Int), cs = [v] ∧ l.length ≤ reachBytes ∧ (∀ a ∈ l, True) ∧ Rep w (okAll w) (fun _ => none) v (.sl 1 (l.map encI) false) :=
 slice_rep (k := 1) (en := encI) (q := fun _ => True) (by decide) Tryd.underlying22 (by kernel_rfl) (of_decide_eq_true (by kernel_rfl)) (fun _ => rfl) (fun n cs x h _ => by
   obtain ⟨i, rfl⟩ := gint_read h
   refine ⟨i, trivial, rfl, fun k d u hd hu => ?_⟩
   match k with
   | 0 => cases hd; cases hu; exact .lit _ rfl
   | k + 1 => cases hd) (fun b o u h => ⟨u, h⟩) h hw
theorem guard_read (n : Nat) (cs : List Value) (x : DataW H × List MemPlace) (h : DataW.trod enc Tryd.prog w 0 (fun _ => true) true n 24 cs = some x) (hw : ∀ m ∈ x.1.weights Tryd.prog 24, m ≤ reachBytes) :
   ∃ a : Grd, a.2.length ≤ reachBytes ∧ RepL w (okAll w) cs (encGd a) := by
 obtain ⟨u, v, y, z, m, rfl, h1, h2, _, h3⟩ := struct2_cells Tryd.underlying24 (by kernel_rfl) rfl rfl (by kernel_rfl) (by kernel_rfl) h hw
 obtain ⟨i, e1⟩ := gint_read h1
 obtain ⟨v, l, e, hl, _, hr⟩ := gints_read h2 h3
 cases e
 cases e1
 refine ⟨(i, l), hl, rfl, fun k d u hd hu => ?_⟩
 match k with
 | 0 => cases hd; cases hu; exact .lit _ rfl
 | 1 => cases hd; cases hu; exact hr
 | k + 2 => cases hd
theorem gaugeA_read {base : Nat} {v : Value} {d : DataW H} {p : List MemPlace} (hv : Value.okWide Tryd.prog w .any base 26 v) (h : DataW.Trod enc Tryd.prog w 0 (fun _ => true) true 26 v d p) :
   ∃ g : Gau, Rep w (okAll w) (fun _ => none) v (encGa g) := by
 obtain ⟨vs, rfl, hsz⟩ := okWide_struct Tryd.underlying26 hv
 obtain ⟨n, h⟩ := h
 obtain ⟨y0, y1, y2, y3, m, e, hl, g0, g1, g2, g3⟩ := Go.Joins.trod_struct4 Tryd.underlying26 h
 have hc4 : Tryd.prog.cellsOf 26 = 4 := by kernel_rfl
 have hc1 : Tryd.prog.cellsOf 3 = 1 := by kernel_rfl
 rw [hc4] at hl
 simp only [hc1] at g0 g1 g2 g3
 have hl' : vs.toList.length = 4 := hl
 have hcs : (Value.agg vs).cells.toList = vs.toList := rfl
 rw [hcs] at g0 g1 g2 g3
 match hvs : vs.toList, hl' with
 | [c0, c1, c2, c3], _ =>
   rw [hvs] at g0 g1 g2 g3
   simp only [List.drop_zero, List.drop_succ_cons, List.take_succ_cons, List.take_zero] at g0 g1 g2 g3
   obtain ⟨i0, e0⟩ := gint_read g0
   obtain ⟨i1, e1⟩ := gint_read g1
   obtain ⟨i2, e2⟩ := gint_read g2
   obtain ⟨i3, e3⟩ := gint_read g3
   cases e0
   cases e1
   cases e2
   cases e3
   refine ⟨⟨i0, i1, i2, i3⟩, .agg vs _ (by rw [← Array.length_toList, hvs]; rfl) fun i d u hd hu => ?_⟩
   have hu' : vs.toList[i]? = some u := by rw [Array.getElem?_toList]; exact hu
   rw [hvs] at hu'
   match i with
   | 0 => cases hd; cases hu'; exact .lit _ rfl
   | 1 => cases hd; cases hu'; exact .lit _ rfl
   | 2 => cases hd; cases hu'; exact .lit _ rfl
   | 3 => cases hd; cases hu'; exact .lit _ rfl
   | i + 4 => cases hd
theorem stockA_read {base : Nat} {v : Value} {d : DataW H} {p : List MemPlace} (hv : Value.okWide Tryd.prog w .any base 38 v) (h : DataW.Trod enc Tryd.prog w 0 (fun _ => true) true 38 v d p) (hw : ∀ m ∈ d.weights Tryd.prog 38, m ≤ reachBytes) :
   ∃ ls rs : List Grd, Rep w (okAll w) (fun _ => none) v (encSt ls rs false false) ∧ ls.length ≤ 4611686018427387904 ∧ rs.length ≤ 4611686018427387904 ∧ (∀ x ∈ ls, x.2.length ≤ 4611686018427387904) ∧ (∀ x ∈ rs, x.2.length ≤ 4611686018427387904) := by
 obtain ⟨vs, rfl, hsz⟩ := okWide_struct Tryd.underlying38 hv
 obtain ⟨n, h⟩ := h
 obtain ⟨a, b, y, z, m, e, h1, h2, h3, h4⟩ := struct2_cells Tryd.underlying38 (by kernel_rfl) rfl rfl (by kernel_rfl) (by kernel_rfl) h hw
 obtain ⟨v1, ls, e1, hl1, hq1, hr1⟩ := slice_rep (k := 2) (en := encGd) (by decide) Tryd.underlying28 (by kernel_rfl) (of_decide_eq_true (by kernel_rfl)) (fun _ => rfl) guard_read (fun b o u h => ⟨u, h⟩) h1 h3
 obtain ⟨v2, rs, e2, hl2, hq2, hr2⟩ := slice_rep (k := 2) (en := encGd) (by decide) Tryd.underlying28 (by kernel_rfl) (of_decide_eq_true (by kernel_rfl)) (fun _ => rfl) guard_read (fun b o u h => ⟨u, h⟩) h2 h4
 cases e1
 cases e2
 have hr : reachBytes ≤ 4611686018427387904 := by decide
 refine ⟨ls, rs, .agg vs _ (by rw [← Array.length_toList]; exact congrArg List.length e) fun i d u hd hu => ?_, by omega, by omega, fun b hb => Nat.le_trans (hq1 b hb) hr, fun c hc => Nat.le_trans (hq2 c hc) hr⟩
 have e' : vs.toList = [a, b] := e
 have hu' : vs.toList[i]? = some u := by rw [Array.getElem?_toList]; exact hu
 rw [e'] at hu'
 match i with
 | 0 => cases hd; cases hu'; exact hr1
 | 1 => cases hd; cases hu'; exact hr2
 | i + 2 => cases hd
end
noncomputable def laidWorld (os : Os) : World :=
 let w0 := World.holding Tryd.prog os ⟨#[], #[], []⟩
 let put (w : World) (g : Nat) (vs : List Int) : World := { w with heap := w.heap.modify g fun
     | .cells _ t frozen => .cells (vs.map (Value.int .u8)).toArray t frozen
     | o => o }
 put (put w0 0 [0, 1, 28, 2, 29, 14, 24, 3, 30, 22, 20, 15, 25, 17, 4, 8, 31, 27, 13, 23, 21, 19, 16, 7, 26, 12, 18, 6, 11, 5, 10, 9]) 1
   [0, 1, 56, 2, 57, 49, 28, 3, 61, 58, 42, 50, 38, 29, 17, 4, 62, 47, 59, 36, 45, 43, 51, 22, 53, 39, 33, 30, 24, 18, 12, 5, 63, 55, 48, 27, 60, 41, 37, 16, 46, 35, 44, 21, 52, 32, 23, 11, 54, 26, 40, 15, 34, 20, 31, 10, 25, 14, 19, 9, 13, 8, 7, 6]
theorem laidWorld_met (os : Os) (args : Array Value) : laidMetH Tryd.prog YtgpeegdinblnoaaDoor.Rows.guardAlikesRow.laid ((laidWorld os).forCall (fun _ _ => 0) ⟨#[], args, []⟩).memory := by
 show laidMet _ _ _
 exact laidMet_of_run' 8 (by kernel_rfl) (by kernel_rfl)
end Go.Aw
end
section
set_option maxRecDepth 100000
namespace Go.Proofs.YtgpeegdinblnoaaDoor
open Go Go.Aw Go.RowKit Go.ChangeShapes Go.WideShapes
theorem guardBalances_wit (os : Os) (H : Type) (enc : TypeId × Value → H) : ∃ (w : World) (tape : Tape) (i : Input), w.os = os ∧ (w.forCall tape i).Shaped Tryd.checked.prog ∧ i.vars = [] ∧ Input.okWide Tryd.checked.prog (w.forCall tape i) .any w.heap.size 10 i ∧
     ((Rows.guardBalancesSpec.pre enc Tryd.checked.prog Tryd.f10 [] false (w.forCall tape i).memory i.args ∧ laidMetH Tryd.prog Rows.guardBalancesRow.laid (w.forCall tape i).memory) ∧ sizedMet enc Tryd.checked.prog Tryd.f10 (OpenSpec.ofChange Rows.guardBalancesSpec) false (w.forCall tape i).memory i.args) ∧ ({} : Assume).holds Tryd.checked.prog (lone (Frame.enter Tryd.checked.prog 10 i.args .normal) [] (w.forCall tape i)) :=
 ChangeSpec.witness_at (enc := enc) (C := Tryd.checked) (os := os) (X := fun w _ => laidMetH Tryd.prog Rows.guardBalancesRow.laid w) false (laidWorld os) #[.agg #[.slice none 0 0, .slice none 0 0], .agg #[.int .i64 0, .int .i64 0, .int .i64 0, .int .i64 0]] 8 rfl (by kernel_rfl) (by kernel_rfl) (by kernel_rfl) (by kernel_rfl) (by kernel_rfl) (laidWorld_met os _)
theorem guardBalances_said : Rows.GuardBalancesSaid :=
 OpenClaim.holds_of_wide 10 Tryd.f10 rfl rfl rfl rfl rfl rfl rfl ⟨rfl, rfl, rfl, rfl, rfl⟩ rfl rfl rfl rfl rfl (by kernel_rfl) Tryd.func10 (by kernel_rfl)
   (of_decide_eq_true (by kernel_rfl)) (by unfold Func.isWrapper; first | (rw [if_pos (by decide +kernel)]; kernel_rfl) | (rw [if_neg (by decide +kernel)]; exact ⟨rfl, rfl⟩))
   (fun os started H enc _ => lifted_of Tryd.func10 rfl (by kernel_rfl) (fun H ds hd => by
       match ds, hd with
       | [_, _], _ => rfl) (by kernel_rfl) (fun t ht => by
         have : Tryd.f10.params.toList.all (fun t => decide (t < Tryd.prog.types.size)) = true := by kernel_rfl
         simpa using List.all_eq_true.1 this t ht)
     (fun {H enc} w base args ds p hv hA hw => by
       rw [Tryd.params10] at hA hv hw
       obtain ⟨v0, vs0, d0, ds0, p0, q0, e0, rfl, _, g0, r0⟩ := trodAll_cons hA
       obtain ⟨v1, vs1, d1, ds1, p1, q1, rfl, rfl, _, g1, r1⟩ := trodAll_cons r0
       obtain ⟨rfl, rfl, _⟩ := trodAll_nil r1
       obtain rfl : args = #[v0, v1] := by cases args; simp_all
       obtain ⟨a0, b0, h0, k0, l0, m0, n0⟩ := stockA_read (hv 0 38 v0 rfl rfl) g0 (fun m hm => hw m (by simp only [DataW.weightsEach, List.mem_append]; exact .inl hm))
       obtain ⟨a1, h1⟩ := gaugeA_read (hv 1 26 v1 rfl rfl) g1
       refine ⟨[encSt a0 b0 false false, encGa a1], rfl, fun i d u hd hu => ?_, (GuardBalances_spec a0 b0 a1 k0 l0 m0 n0 ).1⟩
       match i with
       | 0 => cases hd; cases hu; exact h0
       | 1 => cases hd; cases hu; exact h1
       | i + 2 => cases hd) os started H enc (guardBalances_wit os H enc))
theorem guardBalances_card : Rows.GuardBalancesCardSaid :=
 Claim7.holds_tied_plain_at .later [] [.data, .data] true (true, "2743f537752629cc39242edba28dddd2878ae44136102d9440533fb6bdff82ae") false
   guardBalances_said (fun _ h => by cases h) (by kernel_rfl) (fun _ h => by cases h) guardBalances_row_tie rfl ⟨rfl, rfl⟩ (by kernel_rfl) rfl
   (fun f fn hf hfn => by
     obtain rfl : f = 10 := Option.some.inj ((show Tryd.prog.funcNamed "panache/panachelaw06.GuardBalances" = some 10 by kernel_rfl).symm.trans hf) |>.symm
     obtain rfl : fn = Tryd.f10 := (Option.some.inj (Tryd.func10.symm.trans hfn)).symm
     exact ⟨by kernel_rfl, fun j t ht => by
       have h3 : Tryd.f10.params.toList.all (fun t => !Tryd.prog.wantsStandIn t) = true := by kernel_rfl
       have h4 : (!Tryd.prog.wantsStandIn t) = true := List.all_eq_true.1 h3 t (by rw [← Array.getElem?_toList] at ht; exact List.mem_of_getElem? ht)
       have h5 : Tryd.prog.wantsStandIn t = false := by rwa [Bool.not_eq_true'] at h4
       exact h5⟩)
   (by kernel_rfl)
#print axioms guardBalances_card
end Go.Proofs.YtgpeegdinblnoaaDoor
end
