/-
  A part of the proof that a law returns true for every input that the given row speaks of: an own verified walk over the program (namespace Go.Aw), contracts of the functions that the law calls, and the law itself. Conditions: those of the given row, no other.
-/
import Derived.Test.YtofoildhohgngaaDoorPart3
import Derived.ReadAgain
import Derived.ChangeSame
import Derived.Test.YtofoildhohgngaaDoorTie
import Derived.Test.YtofoildhohgngaaDoorCards
import Derived.SevenTiedAt
import Derived.JoinedOf
import Derived.RowKit
import Derived.RowKitTokens
import Derived.LaidLaws
import Derived.Stop.Joined
import Derived.OpenShut
import Derived.ChangeVars
import Derived.ProofKit
set_option linter.unusedVariables false
set_option linter.unusedSimpArgs false
section
set_option maxRecDepth 20000
set_option maxHeartbeats 4000000
namespace Go.Aw
open Go.RowKit Go.Proofs
def bestV : Option (List Int) → V
 | none => nilV
 | some b => .os 64 1 b.length false
def bestR : Option (List Int) → Option Blk
 | none => none
 | some b => some ⟨1, b.map encI, 3, .wr⟩
def bestO : Option (List Int) → V
 | none => .tup [nilV, int 7]
 | some b => .tup [.sl 1 (b.map encI) false, int 0]
theorem nums_zero : nums 0 = [] := by decide
theorem nums_ne {k : Nat} (h : k < 256) (h0 : 0 < k) : nums k ≠ [] := by rw [nums_all k h h0]; exact List.cons_ne_nil _ _
theorem nums_len (k : Nat) : (nums k).length ≤ 8 := by
 simp only [nums, List.length_map]
 exact Nat.le_trans (List.length_filter_le _ _) (by simp)
theorem wrongTo_ne {ok : Nat → Bool} (h0 : ok 0 = false) : ∀ {k : Nat} {b : List Int}, k ≤ 256 → wrongTo ok k = some b → b ≠ [] ∧ b.length ≤ 8
 | 0, _, _, h => by cases h
 | k + 1, b, hk, h => by
   have hn : ok k = true → nums k ≠ [] := fun hok => by
     rcases Nat.eq_zero_or_pos k with e | e
     · subst e; rw [h0] at hok; cases hok
     · exact nums_ne (by omega) e
   simp only [wrongTo] at h
   cases hw : wrongTo ok k with
   | none =>
     rw [hw] at h
     simp only at h
     split at h
     · rename_i hok; cases h; exact ⟨hn hok, nums_len k⟩
     · cases h
   | some c =>
     rw [hw] at h
     simp only at h
     split at h
     · rename_i hok; cases h; exact ⟨hn hok.2, nums_len k⟩
     · cases h; exact wrongTo_ne h0 (by omega) hw
def moreR (n b : List Int) : Bool := decide (n.length > b.length) || ((n.length == b.length) && decide (0 < cmpL n b))
theorem wrongTo_none {ok : Nat → Bool} {k : Nat} (hW : wrongTo ok k = none) (h : ok k = false) : wrongTo ok (k + 1) = none := by simp only [wrongTo, hW, h]; rfl
theorem wrongTo_first {ok : Nat → Bool} {k : Nat} (hW : wrongTo ok k = none) (h : ok k = true) : wrongTo ok (k + 1) = some (nums k) := by simp only [wrongTo, hW, h]; rfl
theorem wrongTo_stay {ok : Nat → Bool} {k : Nat} {b : List Int} (hW : wrongTo ok k = some b) (h : moreR (nums k) b = true ∨ ok k = false) : wrongTo ok (k + 1) = some b := by
 have : ¬ (moreR (nums k) b = false ∧ ok k = true) := by rcases h with h | h <;> simp [h]
 simp only [wrongTo, hW]; exact if_neg this
theorem wrongTo_new {ok : Nat → Bool} {k : Nat} {b : List Int} (hW : wrongTo ok k = some b) (h : moreR (nums k) b = false) (h' : ok k = true) : wrongTo ok (k + 1) = some (nums k) := by
 simp only [wrongTo, hW]; exact if_pos ⟨h, h'⟩
theorem pow_min {n : Nat} (h : n ≤ 8) : (1 : Int) * 2 ^ min n 64 = ((2 ^ n : Nat) : Int) := by
 rw [Nat.min_eq_left (by omega)]; push_cast; omega
theorem Wrong_ok (bs : List Box) (cs : List Bill) (hf : Fits bs cs) (h : checkR bs cs = 0) (hn : allW bs cs = []) : Ct Tryd.prog 31 [encLoad bs cs] (bestO (wrongTo (isPos bs cs) (2 ^ bs.length))) := by
 have hg := good_of_check h
 have hv := hg.valid
 have h8 := hg.nb
 have h256 : 2 ^ bs.length ≤ 256 := Nat.pow_le_pow_right (n := 2) (by omega) h8
 have hp0 : isPos bs cs 0 = false := by rw [isPos, spoil_zero, hn]; rfl
 have hpm := pow_min h8
 generalize hM : 2 ^ bs.length = M at *
 refine fn_enter Tryd.func31 rfl (by decide) Tryd.results31 Tryd.ntmps31 ?_ rfl (by simp (maxSteps := 1000000) -implicitDefEqProofs (disch := omega) only [go_sem]; rfl) fun base => ?_
 · cases wrongTo (isPos bs cs) M with
   | none => simp only [bestO]; first | assumption | (simp only [go_sem] <;> assumption) | (simp only [go_sem, *]; done) | (simp [go_sem]; done)
   | some b => simp only [bestO]; first | assumption | (simp only [go_sem] <;> assumption) | (simp only [go_sem, *]; done) | (simp [go_sem]; done)
 repeat' (first
   | (with_reducible apply Req_intro); focus (first | omega | assumption | (simp; done))
   | with_reducible (first | apply Req_intro | refine nilT ?_ fun hn => ?_ | apply wk_draw Tryd_mixed | refine drawEnd (by kernel_rfl) ?_)
   | (with_reducible (first | apply condA_if | apply stepDG_ifN | apply stepDG_if | apply stepG_ifN | apply stepG_if)) <;> intro hb <;> (have hif := hb) <;> (try simp only [bo] at hif) <;> (try simp -implicitDefEqProofs (disch := omega) only [go_sem, hb]) <;> clear hb
   | simp (maxSteps := 1000000) -implicitDefEqProofs (disch := omega) only [go_sem])
 refine callp (Check_spec bs cs hf.b hf.c) ?_
 try simp (maxSteps := 1000000) -implicitDefEqProofs (disch := omega) only [go_sem]
 repeat' (first
   | (with_reducible apply Req_intro); focus (first | omega | assumption | (simp; done))
   | with_reducible (first | apply Req_intro | refine nilT ?_ fun hn => ?_ | apply wk_draw Tryd_mixed | refine drawEnd (by kernel_rfl) ?_)
   | (with_reducible (first | apply condA_if | apply stepDG_ifN | apply stepDG_if | apply stepG_ifN | apply stepG_if)) <;> intro hb <;> (have hif := hb) <;> (try simp only [bo] at hif) <;> (try simp -implicitDefEqProofs (disch := omega) only [go_sem, hb]) <;> clear hb
   | simp (maxSteps := 1000000) -implicitDefEqProofs (disch := omega) only [go_sem])
 · exact absurd h hif
 refine callp (isPossible_spec bs cs hv) ?_
 try simp (maxSteps := 1000000) -implicitDefEqProofs (disch := omega) only [go_sem]
 repeat' (first
   | (with_reducible apply Req_intro); focus (first | omega | assumption | (simp; done))
   | with_reducible (first | apply Req_intro | refine nilT ?_ fun hn => ?_ | apply wk_draw Tryd_mixed | refine drawEnd (by kernel_rfl) ?_)
   | (with_reducible (first | apply condA_if | apply stepDG_ifN | apply stepDG_if | apply stepG_ifN | apply stepG_if)) <;> intro hb <;> (have hif := hb) <;> (try simp only [bo] at hif) <;> (try simp -implicitDefEqProofs (disch := omega) only [go_sem, hb, hpm]) <;> clear hb
   | simp (maxSteps := 1000000) -implicitDefEqProofs (disch := omega) only [go_sem, hpm])
 · rw [hn] at hif; cases hif
 refine loop_rows (α := Nat) [2, 6, 7, 8, 9, 24, 25, 26, 27, 28, 29, 30, 31, 32, 33, 34, 35, 36, 37, 38, 39, 40, 41, 42, 43, 44, 45, 46, 47, 48, 49, 50, 51, 52, 53, 54, 55, 56, 57, 58, 59, 60, 61, 62, 63, 64, 65, 66, 67, 68, 69, 70] (fun k => [(24, u64 k), (2, bestV (wrongTo (isPos bs cs) k))]) (fun k => [(0, some ⟨2, [loadC bs cs], 25, .wr⟩), (64, bestR (wrongTo (isPos bs cs) k)), (640, some ⟨2, [loadC bs cs], 94, .wr⟩)]) (fun k => k ≤ M) (fun k => M - k) 0 (fun x => by simp (maxSteps := 1000000) -implicitDefEqProofs (disch := omega) only [go_sem]; rfl) ?_ ?_ fun x hx => ?_
 · simp only [wrongTo, bestV, bestR]
   exact weak_do []
 · exact Nat.zero_le _
 by_cases hlt : x < M
 · cases hW : wrongTo (isPos bs cs) x with
   | none =>
     simp only [bestV, bestR]
     repeat' (first
       | (with_reducible apply Req_intro); focus (first | omega | assumption | (simp; done))
       | with_reducible (first | apply Req_intro | refine nilT ?_ fun hn => ?_ | apply wk_draw Tryd_mixed | refine drawEnd (by kernel_rfl) ?_)
       | (with_reducible (first | apply condA_if | apply stepDG_ifN | apply stepDG_if | apply stepG_ifN | apply stepG_if)) <;> intro hb <;> (have hif := hb) <;> (try simp only [bo] at hif) <;> (try simp -implicitDefEqProofs (disch := omega) only [go_sem, hb]) <;> clear hb
       | simp (maxSteps := 1000000) -implicitDefEqProofs (disch := omega) only [go_sem])
     all_goals first | (exfalso; omega) | skip
     refine loop_rows (α := Nat × List Int) [7, 8, 28, 29, 30, 31, 32, 33, 34, 35, 36, 37, 38] (fun y => [(8, u64 y.1), (7, .os 128 1 y.2.length false)]) (fun y => [(0, some ⟨2, [loadC bs cs], 25, .wr⟩), (640, some ⟨2, [loadC bs cs], 94, .wr⟩), (128, some ⟨1, y.2.map encI, 3, .wr⟩)]) (fun y => y.2 ++ nums y.1 = nums x ∧ y.1 < 256) (fun y => y.1) (x, []) (fun x => by simp (maxSteps := 1000000) -implicitDefEqProofs (disch := omega) only [go_sem]; rfl) ?_ ?_ fun x hx => ?_
     · simp only [List.map_nil, List.length_nil]
       exact weak_do [(128, 1000000)]
     · exact ⟨by simp, by omega⟩
     rename_i k hk
     obtain ⟨s, l⟩ := x
     obtain ⟨hs, h2⟩ := hx
     simp only at hs h2
     have hl8 : l.length ≤ 8 := by
       have := nums_len k
       rw [← hs, List.length_append] at this; omega
     by_cases h0 : 0 < s
     · obtain ⟨b1, b2, b3, b4⟩ := bits_all s h2 h0
       repeat' (first
         | (with_reducible apply Req_intro); focus (first | omega | assumption | (simp; done))
         | with_reducible (first | apply Req_intro | refine nilT ?_ fun hn => ?_ | apply wk_draw Tryd_mixed | refine drawEnd (by kernel_rfl) ?_)
         | (with_reducible (first | apply condA_if | apply stepDG_ifN | apply stepDG_if | apply stepG_ifN | apply stepG_if)) <;> intro hb <;> (have hif := hb) <;> (try simp only [bo] at hif) <;> (try simp -implicitDefEqProofs (disch := omega) only [go_sem, hb]) <;> clear hb
         | simp (maxSteps := 1000000) -implicitDefEqProofs (disch := omega) only [go_sem])
       all_goals first | (exfalso; omega) | skip
       refine callp (TZ s h0 h2) ?_
       try simp (maxSteps := 1000000) -implicitDefEqProofs (disch := omega) only [go_sem]
       repeat' (first
         | (with_reducible apply Req_intro); focus (first | omega | assumption | (simp; done))
         | with_reducible (first | apply Req_intro | refine nilT ?_ fun hn => ?_ | apply wk_draw Tryd_mixed | refine drawEnd (by kernel_rfl) ?_)
         | (with_reducible (first | apply condA_if | apply stepDG_ifN | apply stepDG_if | apply stepG_ifN | apply stepG_if)) <;> intro hb <;> (have hif := hb) <;> (try simp only [bo] at hif) <;> (try simp -implicitDefEqProofs (disch := omega) only [go_sem, hb, b3]) <;> clear hb
         | simp (maxSteps := 1000000) -implicitDefEqProofs (disch := omega) only [go_sem, b3])
       with_reducible refine nxt_w (s &&& (s - 1), l ++ [(tz s : Int)]) ?_ ?_
       · (try dsimp only)
         rw [List.length_append]
         exact weak_do [(128, 2048)]
       try dsimp only
       refine ⟨?_, by omega⟩
       rw [← hs, nums_all s h2 h0, List.append_assoc]; rfl
     · obtain rfl : s = 0 := by omega
       rw [nums_zero, List.append_nil] at hs
       subst hs
       have hpos := isPossible_spec (spoil bs k) cs (hv.spoil k)
       have hwr := wrong_any bs cs k hv (by omega)
       repeat' (first
         | (with_reducible apply Req_intro); focus (first | omega | assumption | (simp; done))
         | with_reducible (first | apply Req_intro | refine nilT ?_ fun hn => ?_ | apply wk_draw Tryd_mixed | refine drawEnd (by kernel_rfl) ?_)
         | (with_reducible (first | apply condA_if | apply stepDG_ifN | apply stepDG_if | apply stepG_ifN | apply stepG_if)) <;> intro hb <;> (have hif := hb) <;> (try simp only [bo] at hif) <;> (try simp -implicitDefEqProofs (disch := omega) only [go_sem, hb]) <;> clear hb
         | simp (maxSteps := 1000000) -implicitDefEqProofs (disch := omega) only [go_sem])
       all_goals first | (exfalso; omega) | skip
       refine callp hwr ?_
       try simp (maxSteps := 1000000) -implicitDefEqProofs (disch := omega) only [go_sem]
       repeat' (first
         | (with_reducible apply Req_intro); focus (first | omega | assumption | (simp; done))
         | with_reducible (first | apply Req_intro | refine nilT ?_ fun hn => ?_ | apply wk_draw Tryd_mixed | refine drawEnd (by kernel_rfl) ?_)
         | (with_reducible (first | apply condA_if | apply stepDG_ifN | apply stepDG_if | apply stepG_ifN | apply stepG_if)) <;> intro hb <;> (have hif := hb) <;> (try simp only [bo] at hif) <;> (try simp -implicitDefEqProofs (disch := omega) only [go_sem, hb]) <;> clear hb
         | simp (maxSteps := 1000000) -implicitDefEqProofs (disch := omega) only [go_sem])
       refine callp hpos ?_
       try simp (maxSteps := 1000000) -implicitDefEqProofs (disch := omega) only [go_sem]
       repeat' (first
         | (with_reducible apply Req_intro); focus (first | omega | assumption | (simp; done))
         | with_reducible (first | apply Req_intro | refine nilT ?_ fun hn => ?_ | apply wk_draw Tryd_mixed | refine drawEnd (by kernel_rfl) ?_)
         | (with_reducible (first | apply condA_if | apply stepDG_ifN | apply stepDG_if | apply stepG_ifN | apply stepG_if)) <;> intro hb <;> (have hif := hb) <;> (try simp only [bo] at hif) <;> (try simp -implicitDefEqProofs (disch := omega) only [go_sem, hb]) <;> clear hb
         | simp (maxSteps := 1000000) -implicitDefEqProofs (disch := omega) only [go_sem])
       · have hP : isPos bs cs k = true := by rw [isPos, hif]; rfl
         with_reducible refine nxt_w (k + 1) ?_ ?_
         · (try dsimp only)
           rw [wrongTo_first hW hP]
           exact weak_do [(64, 128)]
         try dsimp only
         omega
       · have hP : isPos bs cs k = false := by rw [isPos, hif]; rfl
         with_reducible refine nxt_w (k + 1) ?_ ?_
         · (try dsimp only)
           rw [wrongTo_none hW hP]
           exact weak_do []
         try dsimp only
         omega
   | some b =>
     obtain ⟨hbn, hb8⟩ := wrongTo_ne hp0 (by omega) hW
     have hbl : 0 < b.length := List.length_pos_iff.2 hbn
     simp only [bestV, bestR]
     repeat' (first
       | (with_reducible apply Req_intro); focus (first | omega | assumption | (simp; done))
       | with_reducible (first | apply Req_intro | refine nilT ?_ fun hn => ?_ | apply wk_draw Tryd_mixed | refine drawEnd (by kernel_rfl) ?_)
       | (with_reducible (first | apply condA_if | apply stepDG_ifN | apply stepDG_if | apply stepG_ifN | apply stepG_if)) <;> intro hb <;> (have hif := hb) <;> (try simp only [bo] at hif) <;> (try simp -implicitDefEqProofs (disch := omega) only [go_sem, hb]) <;> clear hb
       | simp (maxSteps := 1000000) -implicitDefEqProofs (disch := omega) only [go_sem])
     all_goals first | (exfalso; omega) | skip
     refine loop_rows (α := Nat × List Int) [7, 8, 28, 29, 30, 31, 32, 33, 34, 35, 36, 37, 38] (fun y => [(8, u64 y.1), (7, .os 128 1 y.2.length false)]) (fun y => [(0, some ⟨2, [loadC bs cs], 25, .wr⟩), (64, some ⟨1, b.map encI, 3, .wr⟩), (640, some ⟨2, [loadC bs cs], 94, .wr⟩), (128, some ⟨1, y.2.map encI, 3, .wr⟩)]) (fun y => y.2 ++ nums y.1 = nums x ∧ y.1 < 256) (fun y => y.1) (x, []) (fun x => by simp (maxSteps := 1000000) -implicitDefEqProofs (disch := omega) only [go_sem]; rfl) ?_ ?_ fun x hx => ?_
     · simp only [List.map_nil, List.length_nil]
       exact weak_do [(128, 1000000)]
     · exact ⟨by simp, by omega⟩
     rename_i k hk
     obtain ⟨s, l⟩ := x
     obtain ⟨hs, h2⟩ := hx
     simp only at hs h2
     have hl8 : l.length ≤ 8 := by
       have := nums_len k
       rw [← hs, List.length_append] at this; omega
     by_cases h0 : 0 < s
     · obtain ⟨b1, b2, b3, b4⟩ := bits_all s h2 h0
       repeat' (first
         | (with_reducible apply Req_intro); focus (first | omega | assumption | (simp; done))
         | with_reducible (first | apply Req_intro | refine nilT ?_ fun hn => ?_ | apply wk_draw Tryd_mixed | refine drawEnd (by kernel_rfl) ?_)
         | (with_reducible (first | apply condA_if | apply stepDG_ifN | apply stepDG_if | apply stepG_ifN | apply stepG_if)) <;> intro hb <;> (have hif := hb) <;> (try simp only [bo] at hif) <;> (try simp -implicitDefEqProofs (disch := omega) only [go_sem, hb]) <;> clear hb
         | simp (maxSteps := 1000000) -implicitDefEqProofs (disch := omega) only [go_sem])
       all_goals first | (exfalso; omega) | skip
       refine callp (TZ s h0 h2) ?_
       try simp (maxSteps := 1000000) -implicitDefEqProofs (disch := omega) only [go_sem]
       repeat' (first
         | (with_reducible apply Req_intro); focus (first | omega | assumption | (simp; done))
         | with_reducible (first | apply Req_intro | refine nilT ?_ fun hn => ?_ | apply wk_draw Tryd_mixed | refine drawEnd (by kernel_rfl) ?_)
         | (with_reducible (first | apply condA_if | apply stepDG_ifN | apply stepDG_if | apply stepG_ifN | apply stepG_if)) <;> intro hb <;> (have hif := hb) <;> (try simp only [bo] at hif) <;> (try simp -implicitDefEqProofs (disch := omega) only [go_sem, hb, b3]) <;> clear hb
         | simp (maxSteps := 1000000) -implicitDefEqProofs (disch := omega) only [go_sem, b3])
       with_reducible refine nxt_w (s &&& (s - 1), l ++ [(tz s : Int)]) ?_ ?_
       · (try dsimp only)
         rw [List.length_append]
         exact weak_do [(128, 2048)]
       try dsimp only
       refine ⟨?_, by omega⟩
       rw [← hs, nums_all s h2 h0, List.append_assoc]; rfl
     · obtain rfl : s = 0 := by omega
       rw [nums_zero, List.append_nil] at hs
       subst hs
       have hpos := isPossible_spec (spoil bs k) cs (hv.spoil k)
       have hwr := wrong_any bs cs k hv (by omega)
       repeat' (first
         | (with_reducible apply Req_intro); focus (first | omega | assumption | (simp; done))
         | with_reducible (first | apply Req_intro | refine nilT ?_ fun hn => ?_ | apply wk_draw Tryd_mixed | refine drawEnd (by kernel_rfl) ?_)
         | (with_reducible (first | apply condA_if | apply stepDG_ifN | apply stepDG_if | apply stepG_ifN | apply stepG_if)) <;> intro hb <;> (have hif := hb) <;> (try simp only [bo] at hif) <;> (try simp -implicitDefEqProofs (disch := omega) only [go_sem, hb]) <;> clear hb
         | simp (maxSteps := 1000000) -implicitDefEqProofs (disch := omega) only [go_sem])
       all_goals first | (exfalso; omega) | skip
       · have hm : moreR (nums k) b = true := by simp [moreR, hif]
         with_reducible refine nxt_w (k + 1) ?_ ?_
         · (try dsimp only)
           rw [wrongTo_stay hW (.inl hm)]
           exact weak_do []
         try dsimp only
         omega
       · rename_i hif1
         have hn8 := nums_len k
         refine callc (CompareL (nums k) b _ _ (by omega) (by omega)) ?_
         try simp (maxSteps := 1000000) -implicitDefEqProofs (disch := omega) only [go_sem]
         repeat' (first
           | (with_reducible apply Req_intro); focus (first | omega | assumption | (simp; done))
           | with_reducible (first | apply Req_intro | refine nilT ?_ fun hn => ?_ | apply wk_draw Tryd_mixed | refine drawEnd (by kernel_rfl) ?_)
           | (with_reducible (first | apply condA_if | apply stepDG_ifN | apply stepDG_if | apply stepG_ifN | apply stepG_if)) <;> intro hb <;> (have hif := hb) <;> (try simp only [bo] at hif) <;> (try simp -implicitDefEqProofs (disch := omega) only [go_sem, hb]) <;> clear hb
           | simp (maxSteps := 1000000) -implicitDefEqProofs (disch := omega) only [go_sem])
         · have hm : moreR (nums k) b = true := by simp [moreR, hif]; omega
           with_reducible refine nxt_w (k + 1) ?_ ?_
           · (try dsimp only)
             rw [wrongTo_stay hW (.inl hm)]
             exact weak_do []
           try dsimp only
           omega
         · have hm : moreR (nums k) b = false := by simp [moreR]; omega
           refine callp hwr ?_
           try simp (maxSteps := 1000000) -implicitDefEqProofs (disch := omega) only [go_sem]
           repeat' (first
             | (with_reducible apply Req_intro); focus (first | omega | assumption | (simp; done))
             | with_reducible (first | apply Req_intro | refine nilT ?_ fun hn => ?_ | apply wk_draw Tryd_mixed | refine drawEnd (by kernel_rfl) ?_)
             | (with_reducible (first | apply condA_if | apply stepDG_ifN | apply stepDG_if | apply stepG_ifN | apply stepG_if)) <;> intro hb <;> (have hif := hb) <;> (try simp only [bo] at hif) <;> (try simp -implicitDefEqProofs (disch := omega) only [go_sem, hb]) <;> clear hb
             | simp (maxSteps := 1000000) -implicitDefEqProofs (disch := omega) only [go_sem])
           refine callp hpos ?_
           try simp (maxSteps := 1000000) -implicitDefEqProofs (disch := omega) only [go_sem]
           repeat' (first
             | (with_reducible apply Req_intro); focus (first | omega | assumption | (simp; done))
             | with_reducible (first | apply Req_intro | refine nilT ?_ fun hn => ?_ | apply wk_draw Tryd_mixed | refine drawEnd (by kernel_rfl) ?_)
             | (with_reducible (first | apply condA_if | apply stepDG_ifN | apply stepDG_if | apply stepG_ifN | apply stepG_if)) <;> intro hb <;> (have hif := hb) <;> (try simp only [bo] at hif) <;> (try simp -implicitDefEqProofs (disch := omega) only [go_sem, hb]) <;> clear hb
             | simp (maxSteps := 1000000) -implicitDefEqProofs (disch := omega) only [go_sem])
           · have hP : isPos bs cs k = true := by rw [isPos, hif]; rfl
             with_reducible refine nxt_w (k + 1) ?_ ?_
             · (try dsimp only)
               rw [wrongTo_new hW hm hP]
               exact weak_do [(64, 128)]
             try dsimp only
             omega
           · have hP : isPos bs cs k = false := by rw [isPos, hif]; rfl
             with_reducible refine nxt_w (k + 1) ?_ ?_
             · (try dsimp only)
               rw [wrongTo_stay hW (.inr hP)]
               exact weak_do []
             try dsimp only
             omega
       · have hm : moreR (nums k) b = false := by simp [moreR, hif]; omega
         refine callp hwr ?_
         try simp (maxSteps := 1000000) -implicitDefEqProofs (disch := omega) only [go_sem]
         repeat' (first
           | (with_reducible apply Req_intro); focus (first | omega | assumption | (simp; done))
           | with_reducible (first | apply Req_intro | refine nilT ?_ fun hn => ?_ | apply wk_draw Tryd_mixed | refine drawEnd (by kernel_rfl) ?_)
           | (with_reducible (first | apply condA_if | apply stepDG_ifN | apply stepDG_if | apply stepG_ifN | apply stepG_if)) <;> intro hb <;> (have hif := hb) <;> (try simp only [bo] at hif) <;> (try simp -implicitDefEqProofs (disch := omega) only [go_sem, hb]) <;> clear hb
           | simp (maxSteps := 1000000) -implicitDefEqProofs (disch := omega) only [go_sem])
         refine callp hpos ?_
         try simp (maxSteps := 1000000) -implicitDefEqProofs (disch := omega) only [go_sem]
         repeat' (first
           | (with_reducible apply Req_intro); focus (first | omega | assumption | (simp; done))
           | with_reducible (first | apply Req_intro | refine nilT ?_ fun hn => ?_ | apply wk_draw Tryd_mixed | refine drawEnd (by kernel_rfl) ?_)
           | (with_reducible (first | apply condA_if | apply stepDG_ifN | apply stepDG_if | apply stepG_ifN | apply stepG_if)) <;> intro hb <;> (have hif := hb) <;> (try simp only [bo] at hif) <;> (try simp -implicitDefEqProofs (disch := omega) only [go_sem, hb]) <;> clear hb
           | simp (maxSteps := 1000000) -implicitDefEqProofs (disch := omega) only [go_sem])
         · have hP : isPos bs cs k = true := by rw [isPos, hif]; rfl
           with_reducible refine nxt_w (k + 1) ?_ ?_
           · (try dsimp only)
             rw [wrongTo_new hW hm hP]
             exact weak_do [(64, 128)]
           try dsimp only
           omega
         · have hP : isPos bs cs k = false := by rw [isPos, hif]; rfl
           with_reducible refine nxt_w (k + 1) ?_ ?_
           · (try dsimp only)
             rw [wrongTo_stay hW (.inr hP)]
             exact weak_do []
           try dsimp only
           omega
 · obtain rfl : x = M := by omega
   cases hW : wrongTo (isPos bs cs) x with
   | none =>
     simp only [bestV, bestR, bestO]
     repeat' (first
       | (with_reducible apply Req_intro); focus (first | omega | assumption | (simp; done))
       | with_reducible (first | apply Req_intro | refine nilT ?_ fun hn => ?_ | apply wk_draw Tryd_mixed | refine drawEnd (by kernel_rfl) ?_)
       | (with_reducible (first | apply condA_if | apply stepDG_ifN | apply stepDG_if | apply stepG_ifN | apply stepG_if)) <;> intro hb <;> (have hif := hb) <;> (try simp only [bo] at hif) <;> (try simp -implicitDefEqProofs (disch := omega) only [go_sem, hb]) <;> clear hb
       | simp (maxSteps := 1000000) -implicitDefEqProofs (disch := omega) only [go_sem])
     all_goals first | (exfalso; omega) | skip
     refine ret_do ?_
     rfl
   | some b =>
     obtain ⟨hbn, hb8⟩ := wrongTo_ne hp0 (by omega) hW
     have hbl : 0 < b.length := List.length_pos_iff.2 hbn
     simp only [bestV, bestR, bestO]
     repeat' (first
       | (with_reducible apply Req_intro); focus (first | omega | assumption | (simp; done))
       | with_reducible (first | apply Req_intro | refine nilT ?_ fun hn => ?_ | apply wk_draw Tryd_mixed | refine drawEnd (by kernel_rfl) ?_)
       | (with_reducible (first | apply condA_if | apply stepDG_ifN | apply stepDG_if | apply stepG_ifN | apply stepG_if)) <;> intro hb <;> (have hif := hb) <;> (try simp only [bo] at hif) <;> (try simp -implicitDefEqProofs (disch := omega) only [go_sem, hb]) <;> clear hb
       | simp (maxSteps := 1000000) -implicitDefEqProofs (disch := omega) only [go_sem])
     all_goals first | (exfalso; omega) | skip
     exact retf [64] [2, 3] [.sl 1 (b.map encI) false, int 0]
end Go.Aw
end
section
set_option maxRecDepth 20000
set_option maxHeartbeats 4000000
namespace Go.Aw
open Go.RowKit Go.Proofs
theorem In_spec (n l m : Int) : Ct Tryd.prog 25 [.lit (.int .i64 n), .lit (.int .i64 l), .lit (.int .i64 m)] (.lit (.bool (inR' l m n))) := by
 refine fn_enter Tryd.func25 rfl (by decide) Tryd.results25 Tryd.ntmps25 ?_ rfl (by simp (maxSteps := 1000000) -implicitDefEqProofs (disch := omega) only [go_sem]; rfl) fun base => ?_
 · simp
 repeat' (first
   | (with_reducible apply Req_intro); focus (first | omega | assumption | (simp; done))
   | with_reducible (first | apply Req_intro | refine nilT ?_ fun hn => ?_ | apply wk_draw Tryd_mixed | refine drawEnd (by kernel_rfl) ?_)
   | (with_reducible (first | apply condA_if | apply stepDG_ifN | apply stepDG_if | apply stepG_ifN | apply stepG_if)) <;> intro hb <;> (have hif := hb) <;> (try simp only [bo] at hif) <;> (try simp -implicitDefEqProofs (disch := omega) only [go_sem, hb]) <;> clear hb
   | simp (maxSteps := 1000000) -implicitDefEqProofs (disch := omega) only [go_sem])
 · refine ret_do ?_
   simp [inR', hif, retV]
 · refine ret_do ?_
   have : inR' l m n = false := by simp [inR']; omega
   rw [this]; rfl
theorem Ints_spec (a b : List Int) (ea eb : Bool) (ha : a.length ≤ 4611686018427387904) (hb : b.length ≤ 4611686018427387904) : Ct Tryd.prog 23 [.sl 1 (a.map encI) ea, .sl 1 (b.map encI) eb] (.lit (.bool (a == b))) := by
 refine fn_enter Tryd.func23 rfl (by decide) Tryd.results23 Tryd.ntmps23 ?_ rfl (by simp (maxSteps := 1000000) -implicitDefEqProofs (disch := omega) only [go_sem]; rfl) fun base => ?_
 · simp
 repeat' (first
   | (with_reducible apply Req_intro); focus (first | omega | assumption | (simp; done))
   | with_reducible (first | apply Req_intro | refine nilT ?_ fun hn => ?_ | apply wk_draw Tryd_mixed | refine drawEnd (by kernel_rfl) ?_)
   | (with_reducible (first | apply condA_if | apply stepDG_ifN | apply stepDG_if | apply stepG_ifN | apply stepG_if)) <;> intro hb <;> (have hif := hb) <;> (try simp only [bo] at hif) <;> (try simp -implicitDefEqProofs (disch := omega) only [go_sem, hb]) <;> clear hb
   | simp (maxSteps := 1000000) -implicitDefEqProofs (disch := omega) only [go_sem])
 · refine ret_do ?_
   have : (a == b) = false := by rw [beq_eq_false_iff_ne]; intro e; subst e; exact hif rfl
   rw [this]; rfl
 refine loop_at (α := Nat) [4, 5, 11, 12, 13, 14, 15, 16, 17, 18, 19, 20, 21, 22, 23, 24, 25] (fun i => [(5, .lit (.int .i64 i))]) (fun i => i ≤ a.length ∧ a.take i = b.take i) (fun i => a.length - i) 0 (fun x => by simp (maxSteps := 1000000) -implicitDefEqProofs (disch := omega) only [go_sem]; rfl) ?_ ?_ fun x hx => ?_
 · exact weak_do []
 · simp
 obtain ⟨hi, he⟩ := hx
 repeat' (first
   | (with_reducible apply Req_intro); focus (first | omega | assumption | (simp; done))
   | with_reducible (first | apply Req_intro | refine nilT ?_ fun hn => ?_ | apply wk_draw Tryd_mixed | refine drawEnd (by kernel_rfl) ?_)
   | (with_reducible (first | apply condA_if | apply stepDG_ifN | apply stepDG_if | apply stepG_ifN | apply stepG_if)) <;> intro hb <;> (have hif := hb) <;> (try simp only [bo] at hif) <;> (try simp -implicitDefEqProofs (disch := omega) only [go_sem, hb]) <;> clear hb
   | simp (maxSteps := 1000000) -implicitDefEqProofs (disch := omega) only [go_sem])
 · refine ret_do ?_
   have : (a == b) = false := by rw [beq_eq_false_iff_ne]; intro e; subst e; exact hif rfl
   rw [this]; rfl
 · refine nxt_w (x + 1) (weak_do []) ?_
   try dsimp only
   refine ⟨by omega, ?_⟩
   rw [take_succ_getD (by omega), take_succ_getD (by omega), he, hif]
 · refine ret_do ?_
   have : a = b := by
     rw [List.take_of_length_le (by omega), List.take_of_length_le (by omega)] at he; exact he
   subst this; simp; rfl
@[go_sem] theorem eqGuard60 : Tryd.prog.eqGuardType Tryd.prog.depth 60 = false := by kernel_rfl
@[go_sem] theorem eqCells60 (x y z w : Int) : eqCells Tryd.prog 10000 60 [.lit (.int .i64 x), .lit (.int .i64 y)] [.lit (.int .i64 z), .lit (.int .i64 w)] = some ((x == z) && (y == w)) := by
 have h : eqCells Tryd.prog 10000 60 [.lit (.int .i64 x), .lit (.int .i64 y)] [.lit (.int .i64 z), .lit (.int .i64 w)] = some ((x == z) && ((y == w) && true)) := by kernel_rfl
 rw [h, Bool.and_true]
theorem At_spec (a b : List (Int × Int)) (ea eb : Bool) (ha : a.length ≤ 1000000) (hb : b.length ≤ 1000000) : Ct Tryd.prog 43 [.sl 2 (a.map encS) ea, .sl 2 (b.map encS) eb] (.lit (.bool (a == b))) := by
 refine fn_enter Tryd.func43 rfl (by decide) Tryd.results43 Tryd.ntmps43 ?_ rfl (by simp (maxSteps := 1000000) -implicitDefEqProofs (disch := omega) only [go_sem]; rfl) fun base => ?_
 · simp
 repeat' (first
   | (with_reducible apply Req_intro); focus (first | omega | assumption | (simp; done))
   | with_reducible (first | apply Req_intro | refine nilT ?_ fun hn => ?_ | apply wk_draw Tryd_mixed | refine drawEnd (by kernel_rfl) ?_)
   | (with_reducible (first | apply condA_if | apply stepDG_ifN | apply stepDG_if | apply stepG_ifN | apply stepG_if)) <;> intro hb <;> (have hif := hb) <;> (try simp only [bo] at hif) <;> (try simp -implicitDefEqProofs (disch := omega) only [go_sem, hb]) <;> clear hb
   | simp (maxSteps := 1000000) -implicitDefEqProofs (disch := omega) only [go_sem])
 · refine ret_do ?_
   have : (a == b) = false := by rw [beq_eq_false_iff_ne]; intro e; subst e; exact hif rfl
   rw [this]; rfl
 refine loop_at (α := Nat) [4, 5, 11, 12, 13, 14, 15, 16, 17, 18, 19, 20, 21, 22, 23, 24, 25] (fun i => [(5, .lit (.int .i64 i))]) (fun i => i ≤ a.length ∧ a.take i = b.take i) (fun i => a.length - i) 0 (fun x => by simp (maxSteps := 1000000) -implicitDefEqProofs (disch := omega) only [go_sem]; rfl) ?_ ?_ fun x hx => ?_
 · exact weak_do []
 · simp
 obtain ⟨hi, he⟩ := hx
 repeat' (first
   | (with_reducible apply Req_intro); focus (first | omega | assumption | (simp; done))
   | with_reducible (first | apply Req_intro | refine nilT ?_ fun hn => ?_ | apply wk_draw Tryd_mixed | refine drawEnd (by kernel_rfl) ?_)
   | (with_reducible (first | apply condA_if | apply stepDG_ifN | apply stepDG_if | apply stepG_ifN | apply stepG_if)) <;> intro hb <;> (have hif := hb) <;> (try simp only [bo] at hif) <;> (try simp -implicitDefEqProofs (disch := omega) only [go_sem, hb]) <;> clear hb
   | simp (maxSteps := 1000000) -implicitDefEqProofs (disch := omega) only [go_sem])
 · refine ret_do ?_
   have : (a == b) = false := by
     rw [beq_eq_false_iff_ne]; intro e; subst e
     exact hif rfl rfl
   rw [this]; rfl
 · refine nxt_w (x + 1) (weak_do []) ?_
   try dsimp only
   refine ⟨by omega, ?_⟩
   rw [take_succ_getD (by omega), take_succ_getD (by omega), he, Prod.ext hif.1 hif.2]
 · refine ret_do ?_
   have : a = b := by
     rw [List.take_of_length_le (by omega), List.take_of_length_le (by omega)] at he; exact he
   subst this; simp; rfl
structure SizeOk (bs : List Box) (cs : List Bill) : Prop where
 nb : bs.length ≤ 1000
 nc : cs.length ≤ 1000
 lb : ∀ b ∈ bs, b.length ≤ 1000
 lc : ∀ c ∈ cs, c.2.length ≤ 1000
end Go.Aw
end
section
set_option maxRecDepth 20000
set_option maxHeartbeats 4000000
namespace Go.Aw
open Go.RowKit Go.Proofs
end Go.Aw
end
section
set_option maxRecDepth 20000
set_option maxHeartbeats 4000000
namespace Go.Aw
open Go.RowKit Go.Proofs
def sumR (bs : List Box) (w : List Int) (c : Int) (k set : Nat) : Nat → Int × Int
 | 0 => (0, 0)
 | i + 1 => if w.getD i default = c then addS (sumR bs w c k set i) (if set.testBit i then (0, 1048576) else (bs.getD i default).getD k default) else sumR bs w c k set i
end Go.Aw
end
section
set_option maxRecDepth 20000
set_option maxHeartbeats 4000000
namespace Go.Aw
open Go.RowKit Go.Proofs
def cntTo (w : List Int) (c : Int) : Nat → Int
 | 0 => 0
 | i + 1 => if w.getD i default = c then cntTo w c i + 1 else cntTo w c i
def stuffOk (bs : List Box) (cs : List Bill) (w : List Int) (set c k : Nat) : Bool :=
 decide (max (sumR bs w c k set w.length).1 ((cs.getD c default).2.getD k default).1 ≤ min (sumR bs w c k set w.length).2 ((cs.getD c default).2.getD k default).2)
def carrOk (bs : List Box) (cs : List Bill) (w : List Int) (set c : Nat) : Bool :=
 (cntTo w c w.length == (cs.getD c default).1) && (List.range (cs.getD c default).2.length).all fun k => stuffOk bs cs w set c k
def wayR (bs : List Box) (cs : List Bill) (w : List Int) (set : Nat) : Bool := (List.range cs.length).all fun c => carrOk bs cs w set c
end Go.Aw
end
section
set_option maxRecDepth 20000
set_option maxHeartbeats 4000000
namespace Go.Aw
open Go.RowKit Go.Proofs
def refW (bs : List Box) (cs : List Bill) (set : Nat) : Nat → List Int → List (List Int)
 | 0, now => if wayR bs cs now set then [now] else []
 | r + 1, now => (List.range cs.length).flatMap fun (c : Nat) => refW bs cs set r (now ++ [(c : Int)])
end Go.Aw
end
section
set_option maxRecDepth 20000
set_option maxHeartbeats 4000000
namespace Go.Aw
open Go.RowKit Go.Proofs
def lessR (a b : List Int) : Bool := if a.length = b.length then decide (cmpL a b < 0) else decide (a.length < b.length)
theorem Less_spec (a b : List Int) (e f : Bool) (ha : a.length ≤ 1000) (hb : b.length ≤ 1000) : Ct Tryd.prog 70 [.sl 1 (a.map encI) e, .sl 1 (b.map encI) f] (.lit (.bool (lessR a b))) := by
 refine fn_enter Tryd.func70 rfl (by decide) Tryd.results70 Tryd.ntmps70 ?_ rfl (by simp (maxSteps := 1000000) -implicitDefEqProofs (disch := omega) only [go_sem]; rfl) fun base => ?_
 · first | assumption | (simp only [go_sem] <;> assumption) | (simp only [go_sem, *]; done) | (simp [go_sem]; done)
 repeat' (first
   | (with_reducible apply Req_intro); focus (first | omega | assumption | (simp; done))
   | with_reducible (first | apply Req_intro | refine nilT ?_ fun hn => ?_ | apply wk_draw Tryd_mixed | refine drawEnd (by kernel_rfl) ?_)
   | (with_reducible (first | apply condA_if | apply stepDG_ifN | apply stepDG_if | apply stepG_ifN | apply stepG_if)) <;> intro hb <;> (have hif := hb) <;> (try simp only [bo] at hif) <;> (try simp -implicitDefEqProofs (disch := omega) only [go_sem, hb]) <;> clear hb
   | simp (maxSteps := 1000000) -implicitDefEqProofs (disch := omega) only [go_sem])
 · refine ret_do ?_
   rw [lessR, if_neg hif]; simp [retV]
 have hll := hif
 refine loop_at (α := Nat) [4, 5, 16, 17, 18, 19, 20, 21, 22, 23, 24, 25, 26, 27, 28, 29, 30, 31, 32, 33, 34, 35, 36, 37, 38, 39] (fun i => [(5, .lit (.int .i64 i))]) (fun i => i ≤ a.length ∧ cmpL a b = cmpL (a.drop i) (b.drop i)) (fun i => a.length - i) 0 (fun x => by simp (maxSteps := 1000000) -implicitDefEqProofs (disch := omega) only [go_sem]; rfl) ?_ ?_ fun x hx => ?_
 · exact weak_do []
 · simp
 obtain ⟨h1, h3⟩ := hx
 by_cases hlt : x < a.length
 · have hbx : x < b.length := by omega
   repeat' (first
     | (with_reducible apply Req_intro); focus (first | omega | assumption | (simp; done))
     | with_reducible (first | apply Req_intro | refine nilT ?_ fun hn => ?_ | apply wk_draw Tryd_mixed | refine drawEnd (by kernel_rfl) ?_)
     | (with_reducible (first | apply condA_if | apply stepDG_ifN | apply stepDG_if | apply stepG_ifN | apply stepG_if)) <;> intro hb <;> (have hif := hb) <;> (try simp only [bo] at hif) <;> (try simp -implicitDefEqProofs (disch := omega) only [go_sem, hb]) <;> clear hb
     | simp (maxSteps := 1000000) -implicitDefEqProofs (disch := omega) only [go_sem])
   all_goals first | (exfalso; omega) | skip
   · have hne := hif
     refine ret_do ?_
     rw [lessR, if_pos hll, h3, drop_cons hlt, drop_cons hbx, cmpL, cmpI]
     rcases Int.lt_or_gt_of_ne hne with h | h
     · simp only [retV, if_pos h, decide_eq_true h]; rfl
     · have h' : ¬ a.getD x default < b.getD x default := by omega
       simp only [retV, if_neg h', if_pos h, decide_eq_false h']; rfl
   · refine nxt_w (x + 1) (weak_do []) ?_
     try dsimp only
     refine ⟨by omega, ?_⟩
     rw [h3, drop_cons hlt, drop_cons hbx, cmpL, hif, if_neg (by simp [cmpI])]
 · obtain rfl : x = a.length := by omega
   repeat' (first
     | (with_reducible apply Req_intro); focus (first | omega | assumption | (simp; done))
     | with_reducible (first | apply Req_intro | refine nilT ?_ fun hn => ?_ | apply wk_draw Tryd_mixed | refine drawEnd (by kernel_rfl) ?_)
     | (with_reducible (first | apply condA_if | apply stepDG_ifN | apply stepDG_if | apply stepG_ifN | apply stepG_if)) <;> intro hb <;> (have hif := hb) <;> (try simp only [bo] at hif) <;> (try simp -implicitDefEqProofs (disch := omega) only [go_sem, hb]) <;> clear hb
     | simp (maxSteps := 1000000) -implicitDefEqProofs (disch := omega) only [go_sem])
   all_goals first | (exfalso; omega) | skip
   refine ret_do ?_
   rw [lessR, if_pos hll, h3, List.drop_length, show b.drop a.length = [] from List.drop_eq_nil_of_le (by omega)]; rfl
def okTo {α : Type} (p : α → Bool) (l : List α) (ok0 : Bool) (x : Nat) : Bool := ok0 && (l.take x).all p
def formOk (bs : List Box) (cs : List Bill) : Bool := (inR' 1 3 (stuffs cs) && cs.all fun c : Bill => (c.2.length : Int) == (stuffs cs : Int)) && bs.all fun b : Box => (b.length : Int) == (stuffs cs : Int)
def argOk (bs : List Box) (cs : List Bill) : Bool := (true && cs.all fun c : Bill => c.2.all (spanOk 10000) && inR' 0 8 c.1) && bs.all fun b : Box => b.all (spanOk 1000)
theorem checkR_eq (bs : List Box) (cs : List Bill) (h1 : bs.length ≤ 8) (h2 : cs.length ≤ 3) (h3 : ¬ cs.length = 0) : checkR bs cs = if formOk bs cs then (if argOk bs cs then 0 else 2) else 4 := by
 have e1 : (bs.any fun h => (h.length : Int) != (stuffs cs : Int)) = !(bs.all fun b : Box => (b.length : Int) == (stuffs cs : Int)) := by rw [List.all_eq_not_any_not, Bool.not_not]; rfl
 have e2 : (cs.any fun b => (b.2.length : Int) != (stuffs cs : Int)) = !(cs.all fun c : Bill => (c.2.length : Int) == (stuffs cs : Int)) := by rw [List.all_eq_not_any_not, Bool.not_not]; rfl
 have e3 : (bs.any fun h => !h.all (spanOk 1000)) = !(bs.all fun b : Box => b.all (spanOk 1000)) := by rw [List.all_eq_not_any_not, Bool.not_not]
 have e4 : (cs.any fun b => !b.2.all (spanOk 10000) || !inR' 0 8 b.1) = !(cs.all fun c : Bill => c.2.all (spanOk 10000) && inR' 0 8 c.1) := by
   rw [List.all_eq_not_any_not, Bool.not_not]; congr 1; funext c; rw [Bool.not_and]
 have e5 : (¬ (1 ≤ stuffs cs ∧ stuffs cs ≤ 3)) ↔ inR' 1 3 (stuffs cs) = false := by
   simp only [inR', Bool.and_eq_false_iff, decide_eq_false_iff_not]; omega
 unfold checkR formOk argOk
 rw [if_neg (by omega), if_neg h3]
 simp only [e1, e2, e3, e4, e5]
 generalize inR' 1 3 (stuffs cs) = a
 generalize (bs.all fun b : Box => (b.length : Int) == (stuffs cs : Int)) = b
 generalize (cs.all fun c : Bill => (c.2.length : Int) == (stuffs cs : Int)) = c
 generalize (bs.all fun b : Box => b.all (spanOk 1000)) = d
 generalize (cs.all fun c : Bill => c.2.all (spanOk 10000) && inR' 0 8 c.1) = e
 cases a <;> cases b <;> cases c <;> cases d <;> cases e <;> rfl
end Go.Aw
end
section
set_option maxRecDepth 20000
set_option maxHeartbeats 4000000
namespace Go.Aw
open Go.RowKit Go.Proofs
theorem span_spec (a b : Int) : Ct Tryd.prog 35 [int a, int b] (.agg (encS (a, b))) := by
 refine fn_enter Tryd.func35 rfl (by decide) Tryd.results35 Tryd.ntmps35 ?_ rfl (by simp (maxSteps := 1000000) -implicitDefEqProofs (disch := omega) only [go_sem]; rfl) fun base => ?_
 · first | assumption | (simp only [go_sem] <;> assumption) | (simp only [go_sem, *]; done) | (simp [go_sem]; done)
 repeat' (first
   | (with_reducible apply Req_intro); focus (first | omega | assumption | (simp; done))
   | with_reducible (first | apply Req_intro | refine nilT ?_ fun hn => ?_ | apply wk_draw Tryd_mixed | refine drawEnd (by kernel_rfl) ?_)
   | (with_reducible (first | apply condA_if | apply stepDG_ifN | apply stepDG_if | apply stepG_ifN | apply stepG_if)) <;> intro hb <;> (have hif := hb) <;> (try simp only [bo] at hif) <;> (try simp -implicitDefEqProofs (disch := omega) only [go_sem, hb]) <;> clear hb
   | simp (maxSteps := 1000000) -implicitDefEqProofs (disch := omega) only [go_sem])
 refine ret_do ?_
 rfl
theorem box_spec (a b : Int) : Ct Tryd.prog 72 [int a, int b] (.agg (encB [(a, b)])) := by
 refine ct_enterZ Tryd.func72 rfl (by decide) Tryd.results72 Tryd.ntmps72 ?_ rfl (by simp (maxSteps := 1000000) -implicitDefEqProofs (disch := omega) only [go_sem]; rfl) fun base => ?_
 · first | assumption | (simp only [go_sem] <;> assumption) | (simp only [go_sem, *]; done) | (simp [go_sem]; done)
 repeat' (first
   | (with_reducible apply Req_intro); focus (first | omega | assumption | (simp; done))
   | with_reducible (first | apply Req_intro | refine nilT ?_ fun hn => ?_ | apply wk_draw Tryd_mixed | refine drawEnd (by kernel_rfl) ?_)
   | (with_reducible (first | apply condA_if | apply stepDG_ifN | apply stepDG_if | apply stepG_ifN | apply stepG_if)) <;> intro hb <;> (have hif := hb) <;> (try simp only [bo] at hif) <;> (try simp -implicitDefEqProofs (disch := omega) only [go_sem, hb]) <;> clear hb
   | simp (maxSteps := 1000000) -implicitDefEqProofs (disch := omega) only [go_sem])
 refine callp (span_spec a b) ?_
 try simp (maxSteps := 1000000) -implicitDefEqProofs (disch := omega) only [go_sem]
 repeat' (first
   | (with_reducible apply Req_intro); focus (first | omega | assumption | (simp; done))
   | with_reducible (first | apply Req_intro | refine nilT ?_ fun hn => ?_ | apply wk_draw Tryd_mixed | refine drawEnd (by kernel_rfl) ?_)
   | (with_reducible (first | apply condA_if | apply stepDG_ifN | apply stepDG_if | apply stepG_ifN | apply stepG_if)) <;> intro hb <;> (have hif := hb) <;> (try simp only [bo] at hif) <;> (try simp -implicitDefEqProofs (disch := omega) only [go_sem, hb]) <;> clear hb
   | simp (maxSteps := 1000000) -implicitDefEqProofs (disch := omega) only [go_sem])
 exact retz [256]
theorem bill_spec (n a b : Int) : Ct Tryd.prog 73 [int n, int a, int b] (.agg (encBill (n, [(a, b)]))) := by
 refine ct_enterZ Tryd.func73 rfl (by decide) Tryd.results73 Tryd.ntmps73 ?_ rfl (by simp (maxSteps := 1000000) -implicitDefEqProofs (disch := omega) only [go_sem]; rfl) fun base => ?_
 · first | assumption | (simp only [go_sem] <;> assumption) | (simp only [go_sem, *]; done) | (simp [go_sem]; done)
 repeat' (first
   | (with_reducible apply Req_intro); focus (first | omega | assumption | (simp; done))
   | with_reducible (first | apply Req_intro | refine nilT ?_ fun hn => ?_ | apply wk_draw Tryd_mixed | refine drawEnd (by kernel_rfl) ?_)
   | (with_reducible (first | apply condA_if | apply stepDG_ifN | apply stepDG_if | apply stepG_ifN | apply stepG_if)) <;> intro hb <;> (have hif := hb) <;> (try simp only [bo] at hif) <;> (try simp -implicitDefEqProofs (disch := omega) only [go_sem, hb]) <;> clear hb
   | simp (maxSteps := 1000000) -implicitDefEqProofs (disch := omega) only [go_sem])
 refine callp (span_spec a b) ?_
 try simp (maxSteps := 1000000) -implicitDefEqProofs (disch := omega) only [go_sem]
 repeat' (first
   | (with_reducible apply Req_intro); focus (first | omega | assumption | (simp; done))
   | with_reducible (first | apply Req_intro | refine nilT ?_ fun hn => ?_ | apply wk_draw Tryd_mixed | refine drawEnd (by kernel_rfl) ?_)
   | (with_reducible (first | apply condA_if | apply stepDG_ifN | apply stepDG_if | apply stepG_ifN | apply stepG_if)) <;> intro hb <;> (have hif := hb) <;> (try simp only [bo] at hif) <;> (try simp -implicitDefEqProofs (disch := omega) only [go_sem, hb]) <;> clear hb
   | simp (maxSteps := 1000000) -implicitDefEqProofs (disch := omega) only [go_sem])
 exact retz [320]
def knownB : List Box := [[(10, 12)], [(20, 22)], [(11, 11)], [(30, 30)]]
def knownC (a b : Int) : List Bill := [(2, [(30, 32)]), (2, [(a, b)])]
theorem load_spec (a b : Int) : Ct Tryd.prog 42 [int a, int b] (encLoad knownB (knownC a b)) := by
 refine ct_enterZ Tryd.func42 rfl (by decide) Tryd.results42 Tryd.ntmps42 ?_ rfl (by simp (maxSteps := 1000000) -implicitDefEqProofs (disch := omega) only [go_sem]; rfl) fun base => ?_
 · simp only [knownB, knownC]
   first | assumption | (simp only [go_sem] <;> assumption) | (simp only [go_sem, *]; done) | (simp [go_sem]; done)
 repeat' (first
   | (with_reducible apply Req_intro); focus (first | omega | assumption | (simp; done))
   | with_reducible (first | apply Req_intro | refine nilT ?_ fun hn => ?_ | apply wk_draw Tryd_mixed | refine drawEnd (by kernel_rfl) ?_)
   | (with_reducible (first | apply condA_if | apply stepDG_ifN | apply stepDG_if | apply stepG_ifN | apply stepG_if)) <;> intro hb <;> (have hif := hb) <;> (try simp only [bo] at hif) <;> (try simp -implicitDefEqProofs (disch := omega) only [go_sem, hb]) <;> clear hb
   | simp (maxSteps := 1000000) -implicitDefEqProofs (disch := omega) only [go_sem])
 refine callp (box_spec 10 12) ?_
 try simp (maxSteps := 1000000) -implicitDefEqProofs (disch := omega) only [go_sem]
 repeat' (first
   | (with_reducible apply Req_intro); focus (first | omega | assumption | (simp; done))
   | with_reducible (first | apply Req_intro | refine nilT ?_ fun hn => ?_ | apply wk_draw Tryd_mixed | refine drawEnd (by kernel_rfl) ?_)
   | (with_reducible (first | apply condA_if | apply stepDG_ifN | apply stepDG_if | apply stepG_ifN | apply stepG_if)) <;> intro hb <;> (have hif := hb) <;> (try simp only [bo] at hif) <;> (try simp -implicitDefEqProofs (disch := omega) only [go_sem, hb]) <;> clear hb
   | simp (maxSteps := 1000000) -implicitDefEqProofs (disch := omega) only [go_sem])
 refine callp (box_spec 20 22) ?_
 try simp (maxSteps := 1000000) -implicitDefEqProofs (disch := omega) only [go_sem]
 repeat' (first
   | (with_reducible apply Req_intro); focus (first | omega | assumption | (simp; done))
   | with_reducible (first | apply Req_intro | refine nilT ?_ fun hn => ?_ | apply wk_draw Tryd_mixed | refine drawEnd (by kernel_rfl) ?_)
   | (with_reducible (first | apply condA_if | apply stepDG_ifN | apply stepDG_if | apply stepG_ifN | apply stepG_if)) <;> intro hb <;> (have hif := hb) <;> (try simp only [bo] at hif) <;> (try simp -implicitDefEqProofs (disch := omega) only [go_sem, hb]) <;> clear hb
   | simp (maxSteps := 1000000) -implicitDefEqProofs (disch := omega) only [go_sem])
 refine callp (box_spec 11 11) ?_
 try simp (maxSteps := 1000000) -implicitDefEqProofs (disch := omega) only [go_sem]
 repeat' (first
   | (with_reducible apply Req_intro); focus (first | omega | assumption | (simp; done))
   | with_reducible (first | apply Req_intro | refine nilT ?_ fun hn => ?_ | apply wk_draw Tryd_mixed | refine drawEnd (by kernel_rfl) ?_)
   | (with_reducible (first | apply condA_if | apply stepDG_ifN | apply stepDG_if | apply stepG_ifN | apply stepG_if)) <;> intro hb <;> (have hif := hb) <;> (try simp only [bo] at hif) <;> (try simp -implicitDefEqProofs (disch := omega) only [go_sem, hb]) <;> clear hb
   | simp (maxSteps := 1000000) -implicitDefEqProofs (disch := omega) only [go_sem])
 refine callp (box_spec 30 30) ?_
 try simp (maxSteps := 1000000) -implicitDefEqProofs (disch := omega) only [go_sem]
 repeat' (first
   | (with_reducible apply Req_intro); focus (first | omega | assumption | (simp; done))
   | with_reducible (first | apply Req_intro | refine nilT ?_ fun hn => ?_ | apply wk_draw Tryd_mixed | refine drawEnd (by kernel_rfl) ?_)
   | (with_reducible (first | apply condA_if | apply stepDG_ifN | apply stepDG_if | apply stepG_ifN | apply stepG_if)) <;> intro hb <;> (have hif := hb) <;> (try simp only [bo] at hif) <;> (try simp -implicitDefEqProofs (disch := omega) only [go_sem, hb]) <;> clear hb
   | simp (maxSteps := 1000000) -implicitDefEqProofs (disch := omega) only [go_sem])
 refine callp (bill_spec 2 30 32) ?_
 try simp (maxSteps := 1000000) -implicitDefEqProofs (disch := omega) only [go_sem]
 repeat' (first
   | (with_reducible apply Req_intro); focus (first | omega | assumption | (simp; done))
   | with_reducible (first | apply Req_intro | refine nilT ?_ fun hn => ?_ | apply wk_draw Tryd_mixed | refine drawEnd (by kernel_rfl) ?_)
   | (with_reducible (first | apply condA_if | apply stepDG_ifN | apply stepDG_if | apply stepG_ifN | apply stepG_if)) <;> intro hb <;> (have hif := hb) <;> (try simp only [bo] at hif) <;> (try simp -implicitDefEqProofs (disch := omega) only [go_sem, hb]) <;> clear hb
   | simp (maxSteps := 1000000) -implicitDefEqProofs (disch := omega) only [go_sem])
 refine callp (bill_spec 2 a b) ?_
 try simp (maxSteps := 1000000) -implicitDefEqProofs (disch := omega) only [go_sem]
 repeat' (first
   | (with_reducible apply Req_intro); focus (first | omega | assumption | (simp; done))
   | with_reducible (first | apply Req_intro | refine nilT ?_ fun hn => ?_ | apply wk_draw Tryd_mixed | refine drawEnd (by kernel_rfl) ?_)
   | (with_reducible (first | apply condA_if | apply stepDG_ifN | apply stepDG_if | apply stepG_ifN | apply stepG_if)) <;> intro hb <;> (have hif := hb) <;> (try simp only [bo] at hif) <;> (try simp -implicitDefEqProofs (disch := omega) only [go_sem, hb]) <;> clear hb
   | simp (maxSteps := 1000000) -implicitDefEqProofs (disch := omega) only [go_sem])
 refine ret_at (by simp (maxSteps := 1000000) -implicitDefEqProofs (disch := omega) only [go_sem]; rfl) (by first | trivial | omega | (simp; omega)) (ret_z [320, 640] (by first | (simp only [go_sem]; done) | (simp only [go_sem]; rfl)) ?_)
 simp only [knownB, knownC, List.map_cons, List.map_nil]
 (try simp (maxSteps := 1000000) -implicitDefEqProofs (disch := omega) only [go_sem])
 repeat' (first
   | with_reducible (first | exact PurI.nil | exact Pur.nilsl _ _ | exact PurE.nil)
   | (with_reducible (first | refine PurI.puL ?_ | refine PurE.puE ?_)) <;> (first | assumption | (simp only [go_sem] <;> assumption) | (simp only [go_sem, *]; done) | (simp [go_sem]; done))
   | with_reducible apply PurI.cons
   | (with_reducible refine Pur.pu _ ?_) <;> (first | assumption | (simp only [go_sem] <;> assumption) | (simp only [go_sem, *]; done) | (simp [go_sem]; done))
   | ((with_reducible apply Pur.refR) <;> (first | rfl | decide | (simp only [go_sem]; omega) | (simp only [go_sem]) | skip))
   | ((with_reducible apply Pur.osR) <;> (first | rfl | exact fun h => h | omega | (simp; omega) | (simp; done) | (simp only [go_sem]) | skip))
   | with_reducible (first | apply Pur.fnI | apply Pur.aggI | apply PurE.cons)
   | (with_reducible refine PurI.eqL ?_ ?_); (focus rfl); (focus (first | assumption | (simp only [go_sem] <;> assumption) | (simp only [go_sem, *]; done) | (simp [go_sem]; done)))
   | simp (maxSteps := 1000000) -implicitDefEqProofs (disch := omega) only [go_sem])
def bigR (bs : List Box) (cs : List Bill) : Bool := decide (12 < bs.length) || decide (12 < cs.length) || (bs.any fun b => decide (6 < b.length)) || (cs.any fun c => decide (6 < c.2.length))
def largeR (bs : List Box) (cs : List Bill) (most : Int) : Bool := bigR bs cs || (decide (most < bs.length) && (checkR bs cs == 0))
end Go.Aw
end
section
set_option maxRecDepth 20000
namespace Go.Aw
open Go.RowKit Go.Proofs
def cartsTo (bs : List Box) (w : List Int) : Nat → Carts
 | 0 => carts0
 | i + 1 => (cartsTo bs w i).set (w.getD i default).toNat (addC (cartsTo bs w i) (w.getD i default).toNat (bs.getD i default))
theorem Carts_get_ne (s : Carts) (j k : Nat) (v : Cart) (hj : j < 3) (hk : k < 3) (h : j ≠ k) : (s.set k v).get j = s.get j := by
 rcases k3 hj with rfl | rfl | rfl <;> rcases k3 hk with rfl | rfl | rfl <;> first | rfl | exact absurd rfl h
theorem carts0_get (k : Nat) : carts0.get k = default := by
 match k with
 | 0 => rfl
 | 1 => rfl
 | k + 2 => rfl
def InC (m : Nat) (w : List Int) : Prop := ∀ x ∈ w, 0 ≤ x ∧ x < (m : Int)
theorem InC.snoc {m : Nat} {w : List Int} (h : InC m w) {k : Nat} (hk : k < m) : InC m (w ++ [(k : Int)]) := by
 intro x hx
 rcases List.mem_append.1 hx with h1 | h1
 · exact h x h1
 · rw [List.mem_singleton] at h1; subst h1; omega
theorem cartsTo_get (bs : List Box) (w : List Int) (hw : InC 3 w) : ∀ i, i ≤ w.length → ∀ c : Nat, c < 3 → (cartsTo bs w i).get c = ⟨cntTo w c i, cartTo bs w c i⟩
 | 0, _, c, _ => carts0_get c
 | i + 1, hi, c, hc => by
   have hm := hw _ (getD_mem (l := w) (i := i) (by omega))
   generalize hv : w.getD i default = v at hm
   rw [cartsTo, cntTo, cartTo, hv]
   by_cases h : v = c
   · rw [if_pos h, if_pos h, h, show ((c : Int)).toNat = c from rfl, Carts_get_set, addC, cartsTo_get bs w hw i (by omega) c hc]
   · rw [if_neg h, if_neg h, Carts_get_ne _ _ _ _ hc (by omega) (by omega), cartsTo_get bs w hw i (by omega) c hc]
theorem plusR_get' (s : Sums) (held : List (Int × Int)) (k : Nat) (hk : k < held.length) (h3 : held.length ≤ 3) : (plusR s held).get k = addS (s.get k) (held.getD k default) := by
 match held, k with
 | [], _ => simp at hk
 | [x], 0 => rfl
 | [x, y], 0 => rfl
 | [x, y], 1 => rfl
 | [x, y, z], 0 => rfl
 | [x, y, z], 1 => rfl
 | [x, y, z], 2 => rfl
 | x :: y :: z :: t :: r, _ => simp at h3
structure Pos (bs : List Box) (cs : List Bill) : Prop where
 nc : cs.length ≤ 3
 lc : ∀ c ∈ cs, c.2.length ≤ 3
 lb : ∀ b ∈ bs, ∀ c ∈ cs, b.length = c.2.length
 ob : ∀ b ∈ bs, ∀ x ∈ b, 0 ≤ x.1 ∧ x.1 ≤ x.2
 oc : ∀ c ∈ cs, ∀ x ∈ c.2, x.1 ≤ x.2
theorem sums0_get (k : Nat) : (default : Sums).get k = (0, 0) := by
 match k with
 | 0 => rfl
 | 1 => rfl
 | k + 2 => rfl
theorem cartTo_get {bs : List Box} (w : List Int) (c : Int) (k : Nat) (hk : ∀ b ∈ bs, k < b.length) (h3 : ∀ b ∈ bs, b.length ≤ 3) : ∀ i, i ≤ bs.length → (cartTo bs w c i).get k = sumR bs w c k 0 i
 | 0, _ => sums0_get k
 | i + 1, hi => by
   have hm := getD_mem (l := bs) (i := i) (by omega)
   rw [cartTo, sumR, Nat.zero_testBit, if_neg (by decide : ¬ (false = true))]
   split
   · rw [plusR_get' _ _ _ (hk _ hm) (h3 _ hm), cartTo_get w c k hk h3 i (by omega)]
   · exact cartTo_get w c k hk h3 i (by omega)
theorem sumR_mono {bs : List Box} (w : List Int) (c : Int) (k : Nat) (hk : ∀ b ∈ bs, k < b.length) (ho : ∀ b ∈ bs, ∀ x ∈ b, 0 ≤ x.1 ∧ x.1 ≤ x.2) (i : Nat) : ∀ j, i + j ≤ bs.length → (sumR bs w c k 0 i).1 ≤ (sumR bs w c k 0 (i + j)).1
 | 0, _ => Int.le_refl _
 | j + 1, h => by
   have h1 := sumR_mono w c k hk ho i j (by omega)
   have hm := getD_mem (l := bs) (i := i + j) (by omega)
   have h2 := ho _ hm _ (getD_mem (hk _ hm))
   rw [← Nat.add_assoc, sumR, Nat.zero_testBit, if_neg (by decide : ¬ (false = true))]
   split
   · simp only [addS]; omega
   · exact h1
theorem sumR_le {bs : List Box} (w : List Int) (c : Int) (k : Nat) (hk : ∀ b ∈ bs, k < b.length) (ho : ∀ b ∈ bs, ∀ x ∈ b, 0 ≤ x.1 ∧ x.1 ≤ x.2) : ∀ i, i ≤ bs.length → 0 ≤ (sumR bs w c k 0 i).1 ∧ (sumR bs w c k 0 i).1 ≤ (sumR bs w c k 0 i).2
 | 0, _ => by simp [sumR]
 | i + 1, h => by
   have h1 := sumR_le w c k hk ho i (by omega)
   have hm := getD_mem (l := bs) (i := i) (by omega)
   have h2 := ho _ hm _ (getD_mem (hk _ hm))
   rw [sumR, Nat.zero_testBit, if_neg (by decide : ¬ (false = true))]
   split
   · simp only [addS]; omega
   · exact h1
theorem cntTo_mono (w : List Int) (c : Int) (i : Nat) : ∀ j, cntTo w c i ≤ cntTo w c (i + j)
 | 0 => Int.le_refl _
 | j + 1 => by
   have h1 := cntTo_mono w c i j
   rw [← Nat.add_assoc, cntTo]; split <;> omega
theorem cntTo_congr {w v : List Int} (c : Int) : ∀ i, (∀ j, j < i → w.getD j default = v.getD j default) → cntTo w c i = cntTo v c i
 | 0, _ => rfl
 | i + 1, h => by rw [cntTo, cntTo, h i (by omega), cntTo_congr c i fun j hj => h j (by omega)]
theorem sumR_congr {bs : List Box} {w v : List Int} (c : Int) (k set : Nat) : ∀ i, (∀ j, j < i → w.getD j default = v.getD j default) → sumR bs w c k set i = sumR bs v c k set i
 | 0, _ => rfl
 | i + 1, h => by rw [sumR, sumR, h i (by omega), sumR_congr c k set i fun j hj => h j (by omega)]
theorem cartsTo_congr {bs : List Box} {w v : List Int} : ∀ i, (∀ j, j < i → w.getD j default = v.getD j default) → cartsTo bs w i = cartsTo bs v i
 | 0, _ => rfl
 | i + 1, h => by rw [cartsTo, cartsTo, h i (by omega), cartsTo_congr i fun j hj => h j (by omega)]
theorem getD_pre {w v : List Int} (h : w <+: v) {j : Nat} (hj : j < w.length) : w.getD j default = v.getD j default := by
 obtain ⟨r, rfl⟩ := h
 simp only [List.getD_eq_getElem?_getD, List.getElem?_append_left hj]
theorem mayR_carr {bs : List Box} {cs : List Bill} (hp : Pos bs cs) (w : List Int) (hw : w.length = bs.length) {c : Nat} (hc : c < cs.length) : mayR ⟨cntTo w c w.length, cartTo bs w c w.length⟩ (cs.getD c default) = carrOk bs cs w 0 c := by
 have hm := getD_mem hc
 unfold mayR carrOk
 refine congrArg _ (Bool.eq_iff_iff.2 ?_)
 simp only [List.all_eq_true]
 refine forall_congr' fun k => imp_congr_right fun hk => ?_
 have hk' := List.mem_range.1 hk
 have hkb : ∀ b ∈ bs, k < b.length := fun b hb => by rw [hp.lb b hb _ hm]; exact hk'
 have h3b : ∀ b ∈ bs, b.length ≤ 3 := fun b hb => by rw [hp.lb b hb _ hm]; exact hp.lc _ hm
 have h1 := hp.oc _ hm _ (getD_mem hk')
 have h2 := sumR_le w c k hkb hp.ob w.length (by omega)
 simp only [stuffOk, cartTo_get w c k hkb h3b w.length (by omega), Bool.and_eq_true, decide_eq_true_eq]
 omega
theorem over_no {bs : List Box} {cs : List Bill} (hp : Pos bs cs) {now w : List Int} (hpre : now <+: w) (hw : w.length = bs.length) {c : Nat} (hc : c < cs.length)
   (h : overR ⟨cntTo now c now.length, cartTo bs now c now.length⟩ (cs.getD c default) = true) : wayR bs cs w 0 = false := by
 have hm := getD_mem hc
 have hle := hpre.length_le
 have hcn : cntTo now c now.length ≤ cntTo w c w.length := by
   rw [cntTo_congr (v := w) c now.length fun j hj => getD_pre hpre hj]
   have := cntTo_mono w c now.length (w.length - now.length)
   rwa [show now.length + (w.length - now.length) = w.length from by omega] at this
 refine List.all_eq_false.2 ⟨c, List.mem_range.2 hc, ?_⟩
 rw [Bool.not_eq_true]
 unfold carrOk
 unfold overR at h
 simp only [Bool.or_eq_true, decide_eq_true_eq, List.any_eq_true, List.mem_range] at h
 rcases h with h | ⟨k, hk', h⟩
 · rw [beq_eq_false_iff_ne.2 (by omega), Bool.false_and]
 · rw [Bool.and_eq_false_iff]; right
   refine List.all_eq_false.2 ⟨k, List.mem_range.2 hk', ?_⟩
   have hkb : ∀ b ∈ bs, k < b.length := fun b hb => by rw [hp.lb b hb _ hm]; exact hk'
   have h3b : ∀ b ∈ bs, b.length ≤ 3 := fun b hb => by rw [hp.lb b hb _ hm]; exact hp.lc _ hm
   rw [cartTo_get now c k hkb h3b now.length (by omega), sumR_congr (v := w) c k 0 now.length fun j hj => getD_pre hpre hj] at h
   have := sumR_mono w c k hkb hp.ob now.length (w.length - now.length) (by omega)
   rw [show now.length + (w.length - now.length) = w.length from by omega] at this
   simp only [stuffOk, decide_eq_true_eq]; omega
theorem refW_nil {bs : List Box} {cs : List Bill} {set : Nat} : ∀ (r : Nat) (now : List Int), (∀ w, now <+: w → w.length = now.length + r → wayR bs cs w set = false) → refW bs cs set r now = []
 | 0, now, h => by rw [refW, h now (List.prefix_refl _) rfl]; rfl
 | r + 1, now, h => by
   rw [refW, List.flatMap_eq_nil_iff]
   intro c _
   exact refW_nil r _ fun w hw hl => h w (List.IsPrefix.trans (List.prefix_append _ _) hw) (by rw [hl]; simp; omega)
theorem flat_congr {α : Type} {f g : Nat → List α} : ∀ n, (∀ k, k < n → f k = g k) → (List.range n).flatMap f = (List.range n).flatMap g
 | 0, _ => by simp
 | n + 1, h => by
   rw [List.range_succ, List.flatMap_append, List.flatMap_append, flat_congr n fun k hk => h k (by omega), List.flatMap_cons, List.flatMap_cons, h n (by omega)]; rfl
theorem drop_consA {α : Type} [Inhabited α] {l : List α} {x : Nat} (h : x < l.length) : l.drop x = l.getD x default :: l.drop (x + 1) := by
 rw [getD_default h]; exact List.drop_eq_getElem_cons h
theorem waysG_refW {bs : List Box} {cs : List Bill} (hp : Pos bs cs) : ∀ (rest : List Box) (now : List Int), bs.drop now.length = rest → now.length ≤ bs.length → InC cs.length now → waysG cs rest now (cartsTo bs now now.length) = refW bs cs 0 rest.length now
 | [], now, hr, hn, hi => by
   have hl : now.length = bs.length := by
     have := List.drop_eq_nil_iff.1 hr; omega
   have hi3 : InC 3 now := fun x hx => by have := hi x hx; have := hp.nc; omega
   rw [waysG, List.length_nil, refW]
   have : allMay cs (cartsTo bs now now.length) = wayR bs cs now 0 := by
     unfold allMay wayR
     refine Bool.eq_iff_iff.2 ?_
     simp only [List.all_eq_true]
     refine forall_congr' fun c => imp_congr_right fun hc => ?_
     have hc' := List.mem_range.1 hc
     have := hp.nc
     rw [cartsTo_get bs now hi3 _ (Nat.le_refl _) c (by omega), mayR_carr hp now hl hc']
   rw [this]
 | b :: rest, now, hr, hn, hi => by
   have hlt : now.length < bs.length := by
     rcases Nat.lt_or_ge now.length bs.length with h | h
     · exact h
     · rw [List.drop_eq_nil_of_le h] at hr; cases hr
   have hb : bs.getD now.length default = b := by
     rw [drop_consA hlt] at hr; exact (List.cons.inj hr).1
   have hr' : bs.drop (now.length + 1) = rest := by
     rw [drop_consA hlt] at hr; exact (List.cons.inj hr).2
   have hlr : rest.length = bs.length - (now.length + 1) := by rw [← hr', List.length_drop]
   rw [waysG, List.length_cons, refW]
   refine flat_congr _ fun k hk => ?_
   have h3 := hp.nc
   have hlen : (now ++ [(k : Int)]).length = now.length + 1 := by simp
   have hi' : InC cs.length (now ++ [(k : Int)]) := hi.snoc hk
   have hi3 : InC 3 (now ++ [(k : Int)]) := fun x hx => by have := hi' x hx; omega
   have hat : (now ++ [(k : Int)]).getD now.length default = k := by simp
   have hc : cartsTo bs (now ++ [(k : Int)]) (now.length + 1) = (cartsTo bs now now.length).set k (addC (cartsTo bs now now.length) k b) := by
     rw [cartsTo, hat, show ((k : Int)).toNat = k from rfl, hb, cartsTo_congr (v := now) now.length fun j hj => (getD_pre (List.prefix_append _ _) hj).symm]
   have hg : addC (cartsTo bs now now.length) k b = ⟨cntTo (now ++ [(k : Int)]) k (now.length + 1), cartTo bs (now ++ [(k : Int)]) k (now.length + 1)⟩ := by
     rw [← cartsTo_get bs (now ++ [(k : Int)]) hi3 (now.length + 1) (by omega) k (by omega), hc, Carts_get_set]
   split
   · rename_i ho
     rw [hg, ← hlen] at ho
     exact (refW_nil _ _ fun w hw hl => over_no hp hw (by rw [hl, hlen, hlr]; omega) hk ho).symm
   · rw [← hc, ← hlen]
     exact waysG_refW hp rest _ (by rw [hlen]; exact hr') (by omega) hi'
theorem allW_refW {bs : List Box} {cs : List Bill} (hp : Pos bs cs) : allW bs cs = refW bs cs 0 bs.length [] := by
 have := waysG_refW hp bs [] rfl (Nat.zero_le _) (fun x hx => by cases hx)
 exact this
theorem Good.pos {bs : List Box} {cs : List Bill} (hg : Good bs cs) : Pos bs cs := by
 have := hg.st
 refine ⟨hg.nc, fun c hc => by have := hg.lc c hc; omega, fun b hb c hc => by rw [hg.lb b hb, hg.lc c hc], fun b hb x hx => ?_, fun c hc x hx => ?_⟩
 · have := spanOk_small (hg.ob b hb x hx); omega
 · have := spanOk_small (hg.oc c hc x hx); omega
theorem spoil_at (bs : List Box) (set i : Nat) (hi : i < bs.length) : (spoil bs set).getD i default = if set.testBit i then spoilB (bs.getD i default) else bs.getD i default := by
 rw [getD_default (by rw [spoil_len]; exact hi), getD_default hi]
 simp only [spoil, List.getElem_mapIdx]
theorem spoil_mem {bs : List Box} {set : Nat} {b : Box} (hb : b ∈ spoil bs set) : ∃ a ∈ bs, b = spoilB a ∨ b = a := by
 obtain ⟨i, hi, rfl⟩ := List.mem_iff_getElem.1 hb
 have hi2 : i < bs.length := by rw [spoil_len] at hi; exact hi
 refine ⟨bs[i], List.getElem_mem hi2, ?_⟩
 simp only [spoil, List.getElem_mapIdx]
 split
 · exact .inl rfl
 · exact .inr rfl
theorem Pos.spoil {bs : List Box} {cs : List Bill} (h : Pos bs cs) (k : Nat) : Pos (Aw.spoil bs k) cs := by
 refine ⟨h.nc, h.lc, fun b hb c hc => ?_, fun b hb x hx => ?_, h.oc⟩
 · obtain ⟨a, ha, rfl | rfl⟩ := spoil_mem hb
   · rw [spoilB, List.length_replicate]; exact h.lb a ha c hc
   · exact h.lb _ ha c hc
 · obtain ⟨a, ha, rfl | rfl⟩ := spoil_mem hb
   · rw [List.eq_of_mem_replicate hx]; decide
   · exact h.ob _ ha x hx
theorem sumR_spoil {bs : List Box} (w : List Int) (c : Int) (k set : Nat) (hk : ∀ b ∈ bs, k < b.length) (ho : ∀ b ∈ bs, ∀ x ∈ b, 0 ≤ x.1 ∧ x.1 ≤ x.2) : ∀ i, i ≤ bs.length →
   (sumR bs w c k set i).1 = (sumR (spoil bs set) w c k 0 i).1 ∧ 0 ≤ (sumR bs w c k set i).2 ∧ 0 ≤ (sumR (spoil bs set) w c k 0 i).2 ∧ ((sumR bs w c k set i).2 = (sumR (spoil bs set) w c k 0 i).2 ∨ (10000 ≤ (sumR bs w c k set i).2 ∧ 10000 ≤ (sumR (spoil bs set) w c k 0 i).2))
 | 0, _ => by simp [sumR]
 | i + 1, h => by
   have h1 := sumR_spoil w c k set hk ho i (by omega)
   have hm := getD_mem (l := bs) (i := i) (by omega)
   have h2 := ho _ hm _ (getD_mem (hk _ hm))
   rw [sumR, sumR, Nat.zero_testBit, if_neg (by decide : ¬ (false = true)), spoil_at bs set i (by omega)]
   split
   · split
     · have : (spoilB (bs.getD i default)).getD k default = (0, 10000) := by
         rw [getD_default (by rw [spoilB, List.length_replicate]; exact hk _ hm)]
         simp [spoilB]
       rw [this]
       simp only [addS]; omega
     · simp only [addS]; omega
   · exact h1
theorem wayR_spoil {bs : List Box} {cs : List Bill} (hg : Good bs cs) (w : List Int) (hw : w.length = bs.length) (set : Nat) : wayR (spoil bs set) cs w 0 = wayR bs cs w set := by
 have hp := hg.pos
 unfold wayR
 refine Bool.eq_iff_iff.2 ?_
 simp only [List.all_eq_true]
 refine forall_congr' fun c => imp_congr_right fun hc => ?_
 have hm := getD_mem (List.mem_range.1 hc)
 unfold carrOk
 rw [Bool.and_eq_true, Bool.and_eq_true]
 refine and_congr_right fun _ => ?_
 simp only [List.all_eq_true]
 refine forall_congr' fun k => imp_congr_right fun hk => ?_
 have hk' := List.mem_range.1 hk
 have hkb : ∀ b ∈ bs, k < b.length := fun b hb => by rw [hp.lb b hb _ hm]; exact hk'
 have hkb' : ∀ b ∈ spoil bs set, k < b.length := fun b hb => by rw [(hp.spoil set).lb b hb _ hm]; exact hk'
 have h1 := sumR_spoil w c k set hkb hp.ob w.length (by omega)
 have h2 := sumR_le w c k hkb' (hp.spoil set).ob w.length (by rw [spoil_len]; omega)
 have h3 := spanOk_small (hg.oc _ hm _ (getD_mem hk'))
 simp only [stuffOk, decide_eq_true_eq]
 omega
theorem refW_congr {bs bs' : List Box} {cs : List Bill} {s s' : Nat} : ∀ (r : Nat) (now : List Int), (∀ w, now <+: w → w.length = now.length + r → wayR bs cs w s = wayR bs' cs w s') → refW bs cs s r now = refW bs' cs s' r now
 | 0, now, h => by rw [refW, refW, h now (List.prefix_refl _) rfl]
 | r + 1, now, h => by
   rw [refW, refW]
   refine flat_congr _ fun c _ => ?_
   exact refW_congr r _ fun w hw hl => h w (List.IsPrefix.trans (List.prefix_append _ _) hw) (by rw [hl]; simp; omega)
theorem isPos_refW {bs : List Box} {cs : List Bill} (hg : Good bs cs) (k : Nat) : isPos bs cs k = !(refW bs cs k bs.length []).isEmpty := by
 rw [isPos, allW_refW (hg.pos.spoil k), spoil_len]
 rw [refW_congr (bs := spoil bs k) (bs' := bs) (s := 0) (s' := k) bs.length [] fun w _ hl => wayR_spoil hg w (by simpa using hl) k]
end Go.Aw
end
section
set_option maxRecDepth 20000
namespace Go.Aw
open Go.RowKit Go.Proofs
def refWrongTo (ok : Nat → Bool) : Nat → Option (List Int)
 | 0 => none
 | k + 1 => match refWrongTo ok k with
   | none => if ok k then some (nums k) else none
   | some b => if lessR (nums k) b = true ∧ ok k = true then some (nums k) else some b
def unnum (l : List Int) : Nat := l.foldl (fun s i => s + 2 ^ i.toNat) 0
end Go.Aw
end
section
set_option maxRecDepth 20000
set_option maxHeartbeats 4000000
namespace Go.Aw
open Go.RowKit Go.Proofs
theorem kFits (a b : Int) : Fits knownB (knownC a b) := by
 constructor <;> simp [knownB, knownC]
theorem kCheck1 : checkR knownB (knownC 41 42) = 0 := by decide +kernel
theorem kCheck2 : checkR knownB (knownC 50 60) = 0 := by decide +kernel
theorem kWays1 : allW knownB (knownC 41 42) = [[0, 0, 1, 1], [1, 0, 0, 1]] := by decide +kernel
theorem kWays2 : allW knownB (knownC 50 60) = [] := by decide +kernel
theorem kNe : allW knownB (knownC 41 42) ≠ [] := by rw [kWays1]; exact List.cons_ne_nil _ _
theorem Ct.cast {P : Program} {g : FuncId} {av : List V} {r r' : V} (h : Ct P g av r) (e : r = r') : Ct P g av r' := e ▸ h
theorem k_Ways : Ct Tryd.prog 18 [encLoad knownB (knownC 41 42)] (.tup [int 2, .sl 1 (([0, 0, 1, 1] : List Int).map encI) false, int 0]) :=
 Ct.cast (Ways_ok _ _ (kFits 41 42) kCheck1 kNe) (by rw [kWays1]; rfl)
theorem k_Can : Ct Tryd.prog 19 [encLoad knownB (knownC 41 42)] (.tup [.sl 1 (([3, 1, 3, 2] : List Int).map encI) true, int 0]) :=
 Ct.cast (Can_ok _ _ (kFits 41 42) kCheck1 kNe) (by rw [kWays1, show canI [[0, 0, 1, 1], [1, 0, 0, 1]] knownB.length ([[0, 0, 1, 1], [1, 0, 0, 1]] : List (List Int)).length = [3, 1, 3, 2] from by decide +kernel])
theorem k_Tog1 : Ct Tryd.prog 24 [encLoad knownB (knownC 41 42), int 1, int 3] (.tup [.lit (.bool false), .lit (.bool false), int 0]) :=
 Ct.cast (Together_ok _ _ 1 3 (kFits 41 42) kCheck1 kNe (by decide +kernel) (by decide)) (by rw [kWays1]; rfl)
theorem k_Tog2 : Ct Tryd.prog 24 [encLoad knownB (knownC 41 42), int 0, int 1] (.tup [.lit (.bool false), .lit (.bool true), int 0]) :=
 Ct.cast (Together_ok _ _ 0 1 (kFits 41 42) kCheck1 kNe (by decide +kernel) (by decide)) (by rw [kWays1]; rfl)
theorem k_Worth : Ct Tryd.prog 26 [encLoad knownB (knownC 41 42), int 1] (.tup [int 2, int 0]) :=
 Ct.cast (Worth_ok _ _ 1 (kFits 41 42) kCheck1 kNe (by decide)) (by rw [kWays1]; rfl)
theorem k_Ask : Ct Tryd.prog 27 [encLoad knownB (knownC 41 42)] (.tup [int 0, int 1, int 0]) :=
 Ct.cast (Ask_ok _ _ (kFits 41 42) kCheck1 (by rw [kWays1]; decide)) (by rw [kWays1, show askTo [[0, 0, 1, 1], [1, 0, 0, 1]] knownB.length = (0, 1) from by decide +kernel])
theorem k_Questions : Ct Tryd.prog 29 [encLoad knownB (knownC 41 42)] (.tup [int 1, int 0, int 0]) :=
 Ct.cast (Questions_ok _ _ (kFits 41 42) kCheck1 kNe (by rw [kWays1]; decide) 1 (by rw [kWays1]; decide +kernel) (by rw [kWays1]; decide +kernel)) (by rw [kWays1, show (decR knownB.length 1 [[0, 0, 1, 1], [1, 0, 0, 1]]).1 = 0 from by decide +kernel]; rfl)
theorem k_Wrong : Ct Tryd.prog 31 [encLoad knownB (knownC 50 60)] (.tup [.sl 1 (([0] : List Int).map encI) false, int 0]) :=
 Ct.cast (Wrong_ok _ _ (kFits 50 60) kCheck2 kWays2) (by rw [show wrongTo (isPos knownB (knownC 50 60)) (2 ^ knownB.length) = some [0] from by decide +kernel]; rfl)
theorem k_Short : Ct Tryd.prog 33 [encLoad knownB (knownC 41 42)] (.tup [.sl 2 (([(-3, 4)] : List (Int × Int)).map encS) false, int 0]) :=
 Ct.cast (Short_ok _ _ (kFits 41 42) kCheck1) (by rw [show shorts knownB (knownC 41 42) (stuffs (knownC 41 42)) = [(-3, 4)] from by decide +kernel])
theorem k_Share : Ct Tryd.prog 34 [encLoad knownB (knownC 41 42), int 1, int 0] (.tup [.agg (encS (41, 42)), int 0]) :=
 Ct.cast (Share_ok _ _ 1 0 (kFits 41 42) kCheck1 kNe (by decide) (by decide)) (by rw [kWays1, show shareTo knownB (knownC 41 42) 1 0 [[0, 0, 1, 1], [1, 0, 0, 1]] ([[0, 0, 1, 1], [1, 0, 0, 1]] : List (List Int)).length = (41, 42) from by decide +kernel])
theorem k_No : Ct Tryd.prog 18 [encLoad knownB (knownC 50 60)] (.tup [int 0, nilV, int 9]) := Ways_no _ _ (kFits 50 60) 9 (.none kCheck2 kWays2)
theorem known_spec : Ct Tryd.prog 15 [] (.lit (.bool true)) := by
 have h1 := load_spec 41 42
 have h2 := load_spec 50 60
 refine ct_enterZ Tryd.func15 rfl (by decide) Tryd.results15 Tryd.ntmps15 ?_ rfl (by simp (maxSteps := 1000000) -implicitDefEqProofs (disch := omega) only [go_sem]; rfl) fun base => ?_
 · first | assumption | (simp only [go_sem] <;> assumption) | (simp only [go_sem, *]; done) | (simp [go_sem]; done)
 repeat' (first
   | (with_reducible apply Req_intro); focus (first | omega | assumption | (simp; done))
   | with_reducible (first | apply Req_intro | refine nilT ?_ fun hn => ?_ | apply wk_draw Tryd_mixed | refine drawEnd (by kernel_rfl) ?_)
   | (with_reducible (first | apply condA_if | apply stepDG_ifN | apply stepDG_if | apply stepG_ifN | apply stepG_if)) <;> intro hb <;> (have hif := hb) <;> (try simp only [bo] at hif) <;> (try simp -implicitDefEqProofs (disch := omega) only [go_sem, hb]) <;> clear hb
   | simp (maxSteps := 1000000) -implicitDefEqProofs (disch := omega) only [go_sem])
 refine callp h1 ?_
 try simp (maxSteps := 1000000) -implicitDefEqProofs (disch := omega) only [go_sem]
 repeat' (first
   | (with_reducible apply Req_intro); focus (first | omega | assumption | (simp; done))
   | with_reducible (first | apply Req_intro | refine nilT ?_ fun hn => ?_ | apply wk_draw Tryd_mixed | refine drawEnd (by kernel_rfl) ?_)
   | (with_reducible (first | apply condA_if | apply stepDG_ifN | apply stepDG_if | apply stepG_ifN | apply stepG_if)) <;> intro hb <;> (have hif := hb) <;> (try simp only [bo] at hif) <;> (try simp -implicitDefEqProofs (disch := omega) only [go_sem, hb]) <;> clear hb
   | simp (maxSteps := 1000000) -implicitDefEqProofs (disch := omega) only [go_sem])
 refine callp k_Ways ?_
 try simp (maxSteps := 1000000) -implicitDefEqProofs (disch := omega) only [go_sem]
 repeat' (first
   | (with_reducible apply Req_intro); focus (first | omega | assumption | (simp; done))
   | with_reducible (first | apply Req_intro | refine nilT ?_ fun hn => ?_ | apply wk_draw Tryd_mixed | refine drawEnd (by kernel_rfl) ?_)
   | (with_reducible (first | apply condA_if | apply stepDG_ifN | apply stepDG_if | apply stepG_ifN | apply stepG_if)) <;> intro hb <;> (have hif := hb) <;> (try simp only [bo] at hif) <;> (try simp -implicitDefEqProofs (disch := omega) only [go_sem, hb]) <;> clear hb
   | simp (maxSteps := 1000000) -implicitDefEqProofs (disch := omega) only [go_sem])
 refine callp h1 ?_
 try simp (maxSteps := 1000000) -implicitDefEqProofs (disch := omega) only [go_sem]
 repeat' (first
   | (with_reducible apply Req_intro); focus (first | omega | assumption | (simp; done))
   | with_reducible (first | apply Req_intro | refine nilT ?_ fun hn => ?_ | apply wk_draw Tryd_mixed | refine drawEnd (by kernel_rfl) ?_)
   | (with_reducible (first | apply condA_if | apply stepDG_ifN | apply stepDG_if | apply stepG_ifN | apply stepG_if)) <;> intro hb <;> (have hif := hb) <;> (try simp only [bo] at hif) <;> (try simp -implicitDefEqProofs (disch := omega) only [go_sem, hb]) <;> clear hb
   | simp (maxSteps := 1000000) -implicitDefEqProofs (disch := omega) only [go_sem])
 refine callp k_Can ?_
 try simp (maxSteps := 1000000) -implicitDefEqProofs (disch := omega) only [go_sem]
 repeat' (first
   | (with_reducible apply Req_intro); focus (first | omega | assumption | (simp; done))
   | with_reducible (first | apply Req_intro | refine nilT ?_ fun hn => ?_ | apply wk_draw Tryd_mixed | refine drawEnd (by kernel_rfl) ?_)
   | (with_reducible (first | apply condA_if | apply stepDG_ifN | apply stepDG_if | apply stepG_ifN | apply stepG_if)) <;> intro hb <;> (have hif := hb) <;> (try simp only [bo] at hif) <;> (try simp -implicitDefEqProofs (disch := omega) only [go_sem, hb]) <;> clear hb
   | simp (maxSteps := 1000000) -implicitDefEqProofs (disch := omega) only [go_sem])
 refine callp h1 ?_
 try simp (maxSteps := 1000000) -implicitDefEqProofs (disch := omega) only [go_sem]
 repeat' (first
   | (with_reducible apply Req_intro); focus (first | omega | assumption | (simp; done))
   | with_reducible (first | apply Req_intro | refine nilT ?_ fun hn => ?_ | apply wk_draw Tryd_mixed | refine drawEnd (by kernel_rfl) ?_)
   | (with_reducible (first | apply condA_if | apply stepDG_ifN | apply stepDG_if | apply stepG_ifN | apply stepG_if)) <;> intro hb <;> (have hif := hb) <;> (try simp only [bo] at hif) <;> (try simp -implicitDefEqProofs (disch := omega) only [go_sem, hb]) <;> clear hb
   | simp (maxSteps := 1000000) -implicitDefEqProofs (disch := omega) only [go_sem])
 refine callp k_Tog1 ?_
 try simp (maxSteps := 1000000) -implicitDefEqProofs (disch := omega) only [go_sem]
 repeat' (first
   | (with_reducible apply Req_intro); focus (first | omega | assumption | (simp; done))
   | with_reducible (first | apply Req_intro | refine nilT ?_ fun hn => ?_ | apply wk_draw Tryd_mixed | refine drawEnd (by kernel_rfl) ?_)
   | (with_reducible (first | apply condA_if | apply stepDG_ifN | apply stepDG_if | apply stepG_ifN | apply stepG_if)) <;> intro hb <;> (have hif := hb) <;> (try simp only [bo] at hif) <;> (try simp -implicitDefEqProofs (disch := omega) only [go_sem, hb]) <;> clear hb
   | simp (maxSteps := 1000000) -implicitDefEqProofs (disch := omega) only [go_sem])
 refine callp h1 ?_
 try simp (maxSteps := 1000000) -implicitDefEqProofs (disch := omega) only [go_sem]
 repeat' (first
   | (with_reducible apply Req_intro); focus (first | omega | assumption | (simp; done))
   | with_reducible (first | apply Req_intro | refine nilT ?_ fun hn => ?_ | apply wk_draw Tryd_mixed | refine drawEnd (by kernel_rfl) ?_)
   | (with_reducible (first | apply condA_if | apply stepDG_ifN | apply stepDG_if | apply stepG_ifN | apply stepG_if)) <;> intro hb <;> (have hif := hb) <;> (try simp only [bo] at hif) <;> (try simp -implicitDefEqProofs (disch := omega) only [go_sem, hb]) <;> clear hb
   | simp (maxSteps := 1000000) -implicitDefEqProofs (disch := omega) only [go_sem])
 refine callp k_Tog2 ?_
 try simp (maxSteps := 1000000) -implicitDefEqProofs (disch := omega) only [go_sem]
 repeat' (first
   | (with_reducible apply Req_intro); focus (first | omega | assumption | (simp; done))
   | with_reducible (first | apply Req_intro | refine nilT ?_ fun hn => ?_ | apply wk_draw Tryd_mixed | refine drawEnd (by kernel_rfl) ?_)
   | (with_reducible (first | apply condA_if | apply stepDG_ifN | apply stepDG_if | apply stepG_ifN | apply stepG_if)) <;> intro hb <;> (have hif := hb) <;> (try simp only [bo] at hif) <;> (try simp -implicitDefEqProofs (disch := omega) only [go_sem, hb]) <;> clear hb
   | simp (maxSteps := 1000000) -implicitDefEqProofs (disch := omega) only [go_sem])
 refine callp h1 ?_
 try simp (maxSteps := 1000000) -implicitDefEqProofs (disch := omega) only [go_sem]
 repeat' (first
   | (with_reducible apply Req_intro); focus (first | omega | assumption | (simp; done))
   | with_reducible (first | apply Req_intro | refine nilT ?_ fun hn => ?_ | apply wk_draw Tryd_mixed | refine drawEnd (by kernel_rfl) ?_)
   | (with_reducible (first | apply condA_if | apply stepDG_ifN | apply stepDG_if | apply stepG_ifN | apply stepG_if)) <;> intro hb <;> (have hif := hb) <;> (try simp only [bo] at hif) <;> (try simp -implicitDefEqProofs (disch := omega) only [go_sem, hb]) <;> clear hb
   | simp (maxSteps := 1000000) -implicitDefEqProofs (disch := omega) only [go_sem])
 refine callp k_Worth ?_
 try simp (maxSteps := 1000000) -implicitDefEqProofs (disch := omega) only [go_sem]
 repeat' (first
   | (with_reducible apply Req_intro); focus (first | omega | assumption | (simp; done))
   | with_reducible (first | apply Req_intro | refine nilT ?_ fun hn => ?_ | apply wk_draw Tryd_mixed | refine drawEnd (by kernel_rfl) ?_)
   | (with_reducible (first | apply condA_if | apply stepDG_ifN | apply stepDG_if | apply stepG_ifN | apply stepG_if)) <;> intro hb <;> (have hif := hb) <;> (try simp only [bo] at hif) <;> (try simp -implicitDefEqProofs (disch := omega) only [go_sem, hb]) <;> clear hb
   | simp (maxSteps := 1000000) -implicitDefEqProofs (disch := omega) only [go_sem])
 refine callp h1 ?_
 try simp (maxSteps := 1000000) -implicitDefEqProofs (disch := omega) only [go_sem]
 repeat' (first
   | (with_reducible apply Req_intro); focus (first | omega | assumption | (simp; done))
   | with_reducible (first | apply Req_intro | refine nilT ?_ fun hn => ?_ | apply wk_draw Tryd_mixed | refine drawEnd (by kernel_rfl) ?_)
   | (with_reducible (first | apply condA_if | apply stepDG_ifN | apply stepDG_if | apply stepG_ifN | apply stepG_if)) <;> intro hb <;> (have hif := hb) <;> (try simp only [bo] at hif) <;> (try simp -implicitDefEqProofs (disch := omega) only [go_sem, hb]) <;> clear hb
   | simp (maxSteps := 1000000) -implicitDefEqProofs (disch := omega) only [go_sem])
 refine callp k_Ask ?_
 try simp (maxSteps := 1000000) -implicitDefEqProofs (disch := omega) only [go_sem]
 repeat' (first
   | (with_reducible apply Req_intro); focus (first | omega | assumption | (simp; done))
   | with_reducible (first | apply Req_intro | refine nilT ?_ fun hn => ?_ | apply wk_draw Tryd_mixed | refine drawEnd (by kernel_rfl) ?_)
   | (with_reducible (first | apply condA_if | apply stepDG_ifN | apply stepDG_if | apply stepG_ifN | apply stepG_if)) <;> intro hb <;> (have hif := hb) <;> (try simp only [bo] at hif) <;> (try simp -implicitDefEqProofs (disch := omega) only [go_sem, hb]) <;> clear hb
   | simp (maxSteps := 1000000) -implicitDefEqProofs (disch := omega) only [go_sem])
 refine callp h1 ?_
 try simp (maxSteps := 1000000) -implicitDefEqProofs (disch := omega) only [go_sem]
 repeat' (first
   | (with_reducible apply Req_intro); focus (first | omega | assumption | (simp; done))
   | with_reducible (first | apply Req_intro | refine nilT ?_ fun hn => ?_ | apply wk_draw Tryd_mixed | refine drawEnd (by kernel_rfl) ?_)
   | (with_reducible (first | apply condA_if | apply stepDG_ifN | apply stepDG_if | apply stepG_ifN | apply stepG_if)) <;> intro hb <;> (have hif := hb) <;> (try simp only [bo] at hif) <;> (try simp -implicitDefEqProofs (disch := omega) only [go_sem, hb]) <;> clear hb
   | simp (maxSteps := 1000000) -implicitDefEqProofs (disch := omega) only [go_sem])
 refine callp k_Questions ?_
 try simp (maxSteps := 1000000) -implicitDefEqProofs (disch := omega) only [go_sem]
 repeat' (first
   | (with_reducible apply Req_intro); focus (first | omega | assumption | (simp; done))
   | with_reducible (first | apply Req_intro | refine nilT ?_ fun hn => ?_ | apply wk_draw Tryd_mixed | refine drawEnd (by kernel_rfl) ?_)
   | (with_reducible (first | apply condA_if | apply stepDG_ifN | apply stepDG_if | apply stepG_ifN | apply stepG_if)) <;> intro hb <;> (have hif := hb) <;> (try simp only [bo] at hif) <;> (try simp -implicitDefEqProofs (disch := omega) only [go_sem, hb]) <;> clear hb
   | simp (maxSteps := 1000000) -implicitDefEqProofs (disch := omega) only [go_sem])
 refine callp h2 ?_
 try simp (maxSteps := 1000000) -implicitDefEqProofs (disch := omega) only [go_sem]
 repeat' (first
   | (with_reducible apply Req_intro); focus (first | omega | assumption | (simp; done))
   | with_reducible (first | apply Req_intro | refine nilT ?_ fun hn => ?_ | apply wk_draw Tryd_mixed | refine drawEnd (by kernel_rfl) ?_)
   | (with_reducible (first | apply condA_if | apply stepDG_ifN | apply stepDG_if | apply stepG_ifN | apply stepG_if)) <;> intro hb <;> (have hif := hb) <;> (try simp only [bo] at hif) <;> (try simp -implicitDefEqProofs (disch := omega) only [go_sem, hb]) <;> clear hb
   | simp (maxSteps := 1000000) -implicitDefEqProofs (disch := omega) only [go_sem])
 refine callp k_Wrong ?_
 try simp (maxSteps := 1000000) -implicitDefEqProofs (disch := omega) only [go_sem]
 repeat' (first
   | (with_reducible apply Req_intro); focus (first | omega | assumption | (simp; done))
   | with_reducible (first | apply Req_intro | refine nilT ?_ fun hn => ?_ | apply wk_draw Tryd_mixed | refine drawEnd (by kernel_rfl) ?_)
   | (with_reducible (first | apply condA_if | apply stepDG_ifN | apply stepDG_if | apply stepG_ifN | apply stepG_if)) <;> intro hb <;> (have hif := hb) <;> (try simp only [bo] at hif) <;> (try simp -implicitDefEqProofs (disch := omega) only [go_sem, hb]) <;> clear hb
   | simp (maxSteps := 1000000) -implicitDefEqProofs (disch := omega) only [go_sem])
 refine callp h1 ?_
 try simp (maxSteps := 1000000) -implicitDefEqProofs (disch := omega) only [go_sem]
 repeat' (first
   | (with_reducible apply Req_intro); focus (first | omega | assumption | (simp; done))
   | with_reducible (first | apply Req_intro | refine nilT ?_ fun hn => ?_ | apply wk_draw Tryd_mixed | refine drawEnd (by kernel_rfl) ?_)
   | (with_reducible (first | apply condA_if | apply stepDG_ifN | apply stepDG_if | apply stepG_ifN | apply stepG_if)) <;> intro hb <;> (have hif := hb) <;> (try simp only [bo] at hif) <;> (try simp -implicitDefEqProofs (disch := omega) only [go_sem, hb]) <;> clear hb
   | simp (maxSteps := 1000000) -implicitDefEqProofs (disch := omega) only [go_sem])
 refine callp k_Short ?_
 try simp (maxSteps := 1000000) -implicitDefEqProofs (disch := omega) only [go_sem]
 repeat' (first
   | (with_reducible apply Req_intro); focus (first | omega | assumption | (simp; done))
   | with_reducible (first | apply Req_intro | refine nilT ?_ fun hn => ?_ | apply wk_draw Tryd_mixed | refine drawEnd (by kernel_rfl) ?_)
   | (with_reducible (first | apply condA_if | apply stepDG_ifN | apply stepDG_if | apply stepG_ifN | apply stepG_if)) <;> intro hb <;> (have hif := hb) <;> (try simp only [bo] at hif) <;> (try simp -implicitDefEqProofs (disch := omega) only [go_sem, hb]) <;> clear hb
   | simp (maxSteps := 1000000) -implicitDefEqProofs (disch := omega) only [go_sem])
 refine callp h1 ?_
 try simp (maxSteps := 1000000) -implicitDefEqProofs (disch := omega) only [go_sem]
 repeat' (first
   | (with_reducible apply Req_intro); focus (first | omega | assumption | (simp; done))
   | with_reducible (first | apply Req_intro | refine nilT ?_ fun hn => ?_ | apply wk_draw Tryd_mixed | refine drawEnd (by kernel_rfl) ?_)
   | (with_reducible (first | apply condA_if | apply stepDG_ifN | apply stepDG_if | apply stepG_ifN | apply stepG_if)) <;> intro hb <;> (have hif := hb) <;> (try simp only [bo] at hif) <;> (try simp -implicitDefEqProofs (disch := omega) only [go_sem, hb]) <;> clear hb
   | simp (maxSteps := 1000000) -implicitDefEqProofs (disch := omega) only [go_sem])
 refine callp k_Share ?_
 try simp (maxSteps := 1000000) -implicitDefEqProofs (disch := omega) only [go_sem]
 repeat' (first
   | (with_reducible apply Req_intro); focus (first | omega | assumption | (simp; done))
   | with_reducible (first | apply Req_intro | refine nilT ?_ fun hn => ?_ | apply wk_draw Tryd_mixed | refine drawEnd (by kernel_rfl) ?_)
   | (with_reducible (first | apply condA_if | apply stepDG_ifN | apply stepDG_if | apply stepG_ifN | apply stepG_if)) <;> intro hb <;> (have hif := hb) <;> (try simp only [bo] at hif) <;> (try simp -implicitDefEqProofs (disch := omega) only [go_sem, hb]) <;> clear hb
   | simp (maxSteps := 1000000) -implicitDefEqProofs (disch := omega) only [go_sem])
 refine callp h2 ?_
 try simp (maxSteps := 1000000) -implicitDefEqProofs (disch := omega) only [go_sem]
 repeat' (first
   | (with_reducible apply Req_intro); focus (first | omega | assumption | (simp; done))
   | with_reducible (first | apply Req_intro | refine nilT ?_ fun hn => ?_ | apply wk_draw Tryd_mixed | refine drawEnd (by kernel_rfl) ?_)
   | (with_reducible (first | apply condA_if | apply stepDG_ifN | apply stepDG_if | apply stepG_ifN | apply stepG_if)) <;> intro hb <;> (have hif := hb) <;> (try simp only [bo] at hif) <;> (try simp -implicitDefEqProofs (disch := omega) only [go_sem, hb]) <;> clear hb
   | simp (maxSteps := 1000000) -implicitDefEqProofs (disch := omega) only [go_sem])
 refine callp k_No ?_
 try simp (maxSteps := 1000000) -implicitDefEqProofs (disch := omega) only [go_sem]
 repeat' (first
   | (with_reducible apply Req_intro); focus (first | omega | assumption | (simp; done))
   | with_reducible (first | apply Req_intro | refine nilT ?_ fun hn => ?_ | apply wk_draw Tryd_mixed | refine drawEnd (by kernel_rfl) ?_)
   | (with_reducible (first | apply condA_if | apply stepDG_ifN | apply stepDG_if | apply stepG_ifN | apply stepG_if)) <;> intro hb <;> (have hif := hb) <;> (try simp only [bo] at hif) <;> (try simp -implicitDefEqProofs (disch := omega) only [go_sem, hb]) <;> clear hb
   | simp (maxSteps := 1000000) -implicitDefEqProofs (disch := omega) only [go_sem])
 refine callc (Ints_spec [0, 0, 1, 1] [0, 0, 1, 1] _ _ (by decide) (by decide)) ?_
 try simp (maxSteps := 1000000) -implicitDefEqProofs (disch := omega) only [go_sem]
 repeat' (first
   | (with_reducible apply Req_intro); focus (first | omega | assumption | (simp; done))
   | with_reducible (first | apply Req_intro | refine nilT ?_ fun hn => ?_ | apply wk_draw Tryd_mixed | refine drawEnd (by kernel_rfl) ?_)
   | (with_reducible (first | apply condA_if | apply stepDG_ifN | apply stepDG_if | apply stepG_ifN | apply stepG_if)) <;> intro hb <;> (have hif := hb) <;> (try simp only [bo] at hif) <;> (try simp -implicitDefEqProofs (disch := omega) only [go_sem, hb]) <;> clear hb
   | simp (maxSteps := 1000000) -implicitDefEqProofs (disch := omega) only [go_sem])
 refine callc (Ints_spec [3, 1, 3, 2] [3, 1, 3, 2] _ _ (by decide) (by decide)) ?_
 try simp (maxSteps := 1000000) -implicitDefEqProofs (disch := omega) only [go_sem]
 repeat' (first
   | (with_reducible apply Req_intro); focus (first | omega | assumption | (simp; done))
   | with_reducible (first | apply Req_intro | refine nilT ?_ fun hn => ?_ | apply wk_draw Tryd_mixed | refine drawEnd (by kernel_rfl) ?_)
   | (with_reducible (first | apply condA_if | apply stepDG_ifN | apply stepDG_if | apply stepG_ifN | apply stepG_if)) <;> intro hb <;> (have hif := hb) <;> (try simp only [bo] at hif) <;> (try simp -implicitDefEqProofs (disch := omega) only [go_sem, hb]) <;> clear hb
   | simp (maxSteps := 1000000) -implicitDefEqProofs (disch := omega) only [go_sem])
 refine calldf 11584 (Ints_spec [0] [0] false true (by decide) (by decide)) ?_
 try simp (maxSteps := 1000000) -implicitDefEqProofs (disch := omega) only [go_sem]
 repeat' (first
   | (with_reducible apply Req_intro); focus (first | omega | assumption | (simp; done))
   | with_reducible (first | apply Req_intro | refine nilT ?_ fun hn => ?_ | apply wk_draw Tryd_mixed | refine drawEnd (by kernel_rfl) ?_)
   | (with_reducible (first | apply condA_if | apply stepDG_ifN | apply stepDG_if | apply stepG_ifN | apply stepG_if)) <;> intro hb <;> (have hif := hb) <;> (try simp only [bo] at hif) <;> (try simp -implicitDefEqProofs (disch := omega) only [go_sem, hb]) <;> clear hb
   | simp (maxSteps := 1000000) -implicitDefEqProofs (disch := omega) only [go_sem])
 refine calld (span_spec (-3) 4) ?_
 try simp (maxSteps := 1000000) -implicitDefEqProofs (disch := omega) only [go_sem]
 repeat' (first
   | (with_reducible apply Req_intro); focus (first | omega | assumption | (simp; done))
   | with_reducible (first | apply Req_intro | refine nilT ?_ fun hn => ?_ | apply wk_draw Tryd_mixed | refine drawEnd (by kernel_rfl) ?_)
   | (with_reducible (first | apply condA_if | apply stepDG_ifN | apply stepDG_if | apply stepG_ifN | apply stepG_if)) <;> intro hb <;> (have hif := hb) <;> (try simp only [bo] at hif) <;> (try simp -implicitDefEqProofs (disch := omega) only [go_sem, hb]) <;> clear hb
   | simp (maxSteps := 1000000) -implicitDefEqProofs (disch := omega) only [go_sem])
 refine calldf 11904 (At_spec [(-3, 4)] [(-3, 4)] false true (by decide) (by decide)) ?_
 try simp (maxSteps := 1000000) -implicitDefEqProofs (disch := omega) only [go_sem]
 repeat' (first
   | (with_reducible apply Req_intro); focus (first | omega | assumption | (simp; done))
   | with_reducible (first | apply Req_intro | refine nilT ?_ fun hn => ?_ | apply wk_draw Tryd_mixed | refine drawEnd (by kernel_rfl) ?_)
   | (with_reducible (first | apply condA_if | apply stepDG_ifN | apply stepDG_if | apply stepG_ifN | apply stepG_if)) <;> intro hb <;> (have hif := hb) <;> (try simp only [bo] at hif) <;> (try simp -implicitDefEqProofs (disch := omega) only [go_sem, hb]) <;> clear hb
   | simp (maxSteps := 1000000) -implicitDefEqProofs (disch := omega) only [go_sem])
 refine calld (span_spec 41 42) ?_
 try simp (maxSteps := 1000000) -implicitDefEqProofs (disch := omega) only [go_sem]
 repeat' (first
   | (with_reducible apply Req_intro); focus (first | omega | assumption | (simp; done))
   | with_reducible (first | apply Req_intro | refine nilT ?_ fun hn => ?_ | apply wk_draw Tryd_mixed | refine drawEnd (by kernel_rfl) ?_)
   | (with_reducible (first | apply condA_if | apply stepDG_ifN | apply stepDG_if | apply stepG_ifN | apply stepG_if)) <;> intro hb <;> (have hif := hb) <;> (try simp only [bo] at hif) <;> (try simp -implicitDefEqProofs (disch := omega) only [go_sem, hb]) <;> clear hb
   | simp (maxSteps := 1000000) -implicitDefEqProofs (disch := omega) only [go_sem])
 exact retz []
end Go.Aw
end
section
set_option maxRecDepth 20000
set_option maxHeartbeats 4000000
namespace Go.Aw
open Go.RowKit Go.Proofs
theorem SizeOk.fits {bs : List Box} {cs : List Bill} (h : SizeOk bs cs) : Fits bs cs :=
 ⟨fun b hb => Nat.le_trans (h.lb b hb) (by decide), fun c hc => Nat.le_trans (h.lc c hc) (by decide)⟩
def bitsTo (ws : List (List Int)) (i : Nat) : Nat → Int
 | 0 => 0
 | k + 1 => orI (bitsTo ws i k) ((ws.getD k default).getD i default)
end Go.Aw
end
section
namespace Go.Aw
open Go.RowKit Go.ChangeShapes Go.WideShapes
def RepL (w : World) (ok : Nat → Nat → Prop) (cs : List Value) (ds : List V) : Prop :=
 cs.length = ds.length ∧ ∀ (j : Nat) (d : V) (u : Value), ds[j]? = some d → cs[j]? = some u → Rep w ok (fun _ => none) u d
theorem exists_list {α : Type} {p : Nat → α → Prop} : ∀ n, (∀ i, i < n → ∃ a, p i a) → ∃ l : List α, l.length = n ∧ ∀ i a, l[i]? = some a → p i a
 | 0, _ => ⟨[], rfl, fun i a h => by cases h⟩
 | n + 1, h => by
   obtain ⟨l, hl, hp⟩ := exists_list n fun i hi => h i (by omega)
   obtain ⟨a, ha⟩ := h n (by omega)
   refine ⟨l ++ [a], by simp [hl], fun i b hb => ?_⟩
   rcases Nat.lt_or_ge i l.length with h1 | h1
   · rw [List.getElem?_append_left h1] at hb; exact hp i b hb
   · rw [List.getElem?_append_right h1] at hb
     have : i - l.length = 0 := by
       refine Classical.byContradiction fun hc => ?_
       rw [List.getElem?_eq_none (by simp; omega)] at hb; cases hb
     rw [this] at hb
     cases hb
     obtain rfl : i = n := by omega
     exact ha
theorem cells?_get {w : World} {base : Nat} {a : Addr} {n : Nat} {cs : List Value} (h : w.cells? base a n = some cs) : cs.length = n ∧ ∀ j, j < n → ∃ u, cs[j]? = some u ∧ w.cell? (a.add j) = some u := by
 unfold World.cells? at h
 split at h
 · have hl := mapM_some_length h
   rw [List.length_range] at hl
   refine ⟨hl, fun j hj => ?_⟩
   have := mapM_some_get h j j (by simp [hj])
   obtain ⟨u, hu⟩ : ∃ u, cs[j]? = some u := ⟨cs[j], List.getElem?_eq_getElem (by omega)⟩
   exact ⟨u, hu, by rw [this, hu]⟩
 · cases h
theorem add_at (b o n : Nat) : (⟨b, o, none⟩ : Addr).add n = ⟨b, o + n, none⟩ := by
 unfold Addr.add
 split
 · rename_i h; subst h; rfl
 · rfl
theorem add_add' (b o x j : Nat) : ((⟨b, o, none⟩ : Addr).add x).add j = ⟨b, o + x + j, none⟩ := by rw [add_at, add_at]
section
variable {H : Type} {enc : TypeId × Value → H} {P : Program} {w : World} {ok : Nat → Nat → Prop} {sp : Nat → Bool}
theorem mem_weightsAll {e : TypeId} : ∀ {es : List (DataW H)} {d : DataW H} {m : Nat}, d ∈ es → m ∈ d.weights P e → m ∈ DataW.weightsAll P e es
 | [], d, m, h, _ => by cases h
 | a :: r, d, m, h, hm => by
   simp only [DataW.weightsAll, List.mem_append]
   rcases List.mem_cons.1 h with rfl | h
   · exact .inl hm
   · exact .inr (mem_weightsAll h hm)
theorem slice_rep {α : Type} {en : α → List V} {k : Nat} {q : α → Prop} {t e : TypeId} (hk0 : 0 < k) (ht : P.underlying t = some (.slice e)) (hk : P.cellsOf e = k) (hb : 0 < P.bytesOf e)
   (hlen : ∀ a, (en a).length = k)
   (hel : ∀ n cs x, DataW.trod enc P w 0 sp true n e cs = some x → (∀ m ∈ x.1.weights P e, m ≤ reachBytes) → ∃ a, q a ∧ RepL w ok cs (en a))
   (hok : ∀ b o u, w.cell? ⟨b, o, none⟩ = some u → ok b o)
   {n : Nat} {cs : List Value} {x : DataW H × List MemPlace} (h : DataW.trod enc P w 0 sp true n t cs = some x) (hw : ∀ m ∈ x.1.weights P t, m ≤ reachBytes) :
   ∃ (v : Value) (l : List α), cs = [v] ∧ l.length ≤ reachBytes ∧ (∀ a ∈ l, q a) ∧ Rep w ok (fun _ => none) v (.sl k (l.map en) false) := by
 rcases DataW.trod_slice ht h with ⟨rfl, rfl⟩ | ⟨a, len, cap, elems, rest, m, rfl, rfl, rfl, hbase, hlc, hcm, hel1, hel2, hsp, hsp2⟩
 · exact ⟨_, [], rfl, Nat.zero_le _, fun a ha => (by cases ha), .sl none 0 0 k [] false (fun _ _ => undef) rfl (Nat.le_refl _) (fun h => by cases h) (fun i j hi => absurd hi (Nat.not_lt_zero _)) (fun e he => by cases he) (fun i j e d he => by cases he)⟩
 · rw [hk] at hel2
   have hwt : (elems.length + rest.length) * P.bytesOf e ≤ reachBytes ∧ ∀ d ∈ elems.map (·.1), ∀ m ∈ d.weights P e, m ≤ reachBytes := by
     simp only [DataW.weights, ht, List.length_map] at hw
     refine ⟨hw _ (List.mem_cons_self ..), fun d hd m hm => hw m ?_⟩
     exact List.mem_cons_of_mem _ (List.mem_append_left _ (mem_weightsAll hd hm))
   have key : ∀ i, i < len → ∃ p : α × List Value, w.cells? 0 (a.add (i * k)) k = some p.2 ∧ q p.1 ∧ RepL w ok p.2 (en p.1) := fun i hi => by
     have h1 := hel2 i hi
     obtain ⟨y, hy⟩ : ∃ y, elems[i]? = some y := ⟨elems[i], List.getElem?_eq_getElem (by omega)⟩
     rw [hy, Option.bind_eq_some_iff] at h1
     obtain ⟨cs, hc1, hc2⟩ := h1
     obtain ⟨b, hb1, hb2⟩ := hel _ _ _ hc2 (hwt.2 y.1 (List.mem_map_of_mem (List.mem_of_getElem? hy)))
     exact ⟨(b, cs), hc1, hb1, hb2⟩
   obtain ⟨l, hl, hp⟩ := exists_list len key
   have hspot : 0 < len → a.spot = none := fun h0 => by
     obtain ⟨p, hp1, _, _⟩ := key 0 h0
     obtain ⟨u, _, hu⟩ := (cells?_get hp1).2 0 hk0
     simp only [Nat.zero_mul, Addr.add, if_true] at hu
     unfold World.cell? at hu
     split at hu
     · split at hu
       · cases hu
       · rename_i hn; simpa using hn
     · cases hu
   refine ⟨_, l.map (·.1), rfl, ?_, ?_, ?_⟩
   · rw [List.length_map, hl, ← hel1]
     refine Nat.le_trans ?_ hwt.1
     exact Nat.le_trans (Nat.le_add_right _ _) (Nat.le_mul_of_pos_right _ hb)
   · intro b hb
     obtain ⟨p, hp1, rfl⟩ := List.mem_map.1 hb
     obtain ⟨i, hi⟩ := List.getElem?_of_mem hp1
     exact (hp i p hi).2.1
   · refine .sl (some a) len cap k _ false (fun i j => (w.cell? (a.add (i * k + j))).getD undef) (by simp [hl]) hlc (fun h => by cases h) (fun i j hi hj => ?_) (fun e he => ?_) (fun i j e d he hd => ?_)
     · obtain ⟨b, o, s⟩ := a
       obtain rfl : s = none := hspot (by omega)
       obtain ⟨p, hp1, _, _⟩ := key i hi
       obtain ⟨u, _, hu⟩ := (cells?_get hp1).2 j hj
       rw [add_add'] at hu
       have e1 : (⟨b, o, none⟩ : Addr).add (i * k + j) = ⟨b, o + i * k + j, none⟩ := by rw [add_at, Nat.add_assoc]
       exact ⟨b, o, rfl, hok _ _ _ hu, by rw [e1, hu]; rfl⟩
     · rw [List.map_map] at he
       obtain ⟨p, hp1, rfl⟩ := List.mem_map.1 he
       exact hlen _
     · rw [List.map_map, List.getElem?_map, Option.map_eq_some_iff] at he
       obtain ⟨p, hp1, rfl⟩ := he
       obtain ⟨h1, h2, h3⟩ := hp i p hp1
       have hi : i < len := by rw [← hl]; exact (List.getElem?_eq_some_iff.1 hp1).1
       have hj : j < k := by
         have := (List.getElem?_eq_some_iff.1 hd).1
         simp only [Function.comp] at this
         rwa [hlen] at this
       obtain ⟨u, hu1, hu2⟩ := (cells?_get h1).2 j hj
       have : w.cell? (a.add (i * k + j)) = some u := by
         obtain ⟨b, o, s⟩ := a
         obtain rfl : s = none := hspot (by omega)
         rw [add_add'] at hu2
         rw [← hu2, Nat.add_assoc, add_at]
       show Rep w ok _ ((w.cell? (a.add (i * k + j))).getD undef) d
       rw [this]
       exact h3.2 j d u hd hu1
theorem int_rep {k : IntKind} {t : TypeId} (ht : P.underlying t = some (.int k)) {n : Nat} {cs : List Value} {x : DataW H × List MemPlace} (h : DataW.trod enc P w 0 sp true n t cs = some x) : ∃ i, cs = [.int k i] ∧ k.min ≤ i ∧ i ≤ k.max := by
 obtain ⟨i, h1, _, h2⟩ := DataW.trod_int ht h
 simp only [Lit.wf, Bool.and_eq_true, decide_eq_true_eq] at h2
 exact ⟨i, h1, h2.1, h2.2⟩
end
theorem Evol.kept {ok ok' : Nat → Nat → Prop} {own' : Nat → Prop} {w w' : World} (he : Evol (fun _ => False) ok w own' ok' w') : w.keptBut w' (fun _ => False) := by
 refine ⟨he.os, he.output, fun i hi => ?_⟩
 rw [he.unch i hi (fun h => h)]
 cases w.heap[i]? with
 | none => rfl
 | some o => cases o <;> simp
theorem Evol.sameAt {ok ok' : Nat → Nat → Prop} {own' : Nat → Prop} {w w' : World} (he : Evol (fun _ => False) ok w own' ok' w') {p : MemPlace} (hp : p.block < w.heap.size) : w.sameAt w' p := by
 have h := he.unch p.block hp (fun h => h)
 cases p with
 | cell b off => exact World.cell?_of_block (w := w) (a := ⟨b, off, none⟩) h
 | map b => exact h
end Go.Aw
end
section
set_option maxRecDepth 100000
namespace Go.Aw
open Go.RowKit Go.ChangeShapes Go.WideShapes Go.Proofs
theorem own0 : ownKnob Tryd.prog.godebug = none := by kernel_rfl
theorem laidOut0 : laidOutB Tryd.prog = true := by kernel_rfl
theorem rowed0 : mapsRowed Tryd.prog = true := by kernel_rfl
theorem full0 : ∀ t e, t < Tryd.prog.types.size → Tryd.prog.underlying t = some (.slice e) → 0 < Tryd.prog.cellsOf e := slices_full_of _ (by kernel_rfl)
def okAll (w : World) (b o : Nat) : Prop := ∃ u, w.cell? ⟨b, o, none⟩ = some u
theorem glob_of_laid {w : World} (h : laidMetH Tryd.prog YtofoildhohgngaaDoor.Rows.mixWaysRow.laid w) : GlobOk w (okAll w) := by
 have h' : laidMet Tryd.prog YtofoildhohgngaaDoor.Rows.mixWaysRow.laid w := h
 obtain ⟨ps, ⟨g1, t1, c1, n1, p1, q1, a1, a2, a3, a4, ⟨g, t, cs, n, p, q, b1, b2, b3, b4, _⟩, _⟩, _⟩ := h'
 intro g0 vs hg j v hv
 unfold globT at hg
 split at hg
 · rename_i e
   subst e
   cases hg
   obtain rfl : g = 1 := Option.some.inj (b1.symm.trans (by kernel_rfl))
   have ht : t = 151 := Option.some.inj (b2.symm.trans (by kernel_rfl))
   subst ht
   obtain ⟨xs, m, hn, hx, hl, hlen, hf⟩ := DataW.trod_array (P := Tryd.prog) (n := 64) (e := 5) (by kernel_rfl) b4
   obtain ⟨L, hL1, hL2⟩ : ∃ L : List Int, tab64 = L.map (Value.int .u8) ∧ (YtofoildhohgngaaDoor.Rows.laid_math_bits_deBruijn64tab : DataW Unit) = .agg (L.map fun n => .lit (.int .u8 n)) := ⟨_, rfl, rfl⟩
   have hc1 : Tryd.prog.cellsOf 5 = 1 := by kernel_rfl
   rw [hL2] at hx
   have hx' : xs.map (·.1) = L.map fun n => (.lit (.int .u8 n) : DataW Unit) := by
     have := congrArg Prod.fst hx
     simp only at this
     injection this with this
     exact this.symm
   rw [hL1, List.getElem?_map, Option.map_eq_some_iff] at hv
   obtain ⟨i, hi, rfl⟩ := hv
   have h1 : (xs.map (·.1))[j]? = some (.lit (.int .u8 i)) := by rw [hx', List.getElem?_map, hi]; rfl
   rw [List.getElem?_map, Option.map_eq_some_iff] at h1
   obtain ⟨y, hy, hy1⟩ := h1
   have hj : j < 64 := by rw [← hlen]; exact (List.getElem?_eq_some_iff.1 hy).1
   have h2 := hf j hj
   rw [hy, hc1, Nat.mul_one] at h2
   obtain ⟨i', h3, h4, _⟩ := DataW.trod_int (P := Tryd.prog) (k := .u8) (by kernel_rfl) h2
   rw [h4] at hy1
   simp only [DataW.lit.injEq, Lit.int.injEq, true_and] at hy1
   subst hy1
   have h5 : w.cell? ⟨1, j, none⟩ = some (.int .u8 i') := by
     rw [World.var?_cell b1 b3 j, ← Array.getElem?_toList]
     have h6 : (cs.toList.drop j)[0]? = some (.int .u8 i') := by
       have := congrArg (fun l => l[0]?) h3
       simpa [List.getElem?_take] using this
     simpa using h6
   exact ⟨⟨_, h5⟩, h5⟩
 · cases hg
theorem all_kept {H : Type} {enc : TypeId × Value → H} {w w' : World} {own' : Nat → Prop} {ok ok' : Nat → Nat → Prop} (he : Evol (fun _ => False) ok w own' ok' w') :
   ∀ {ts : List TypeId} {vs : List Value} {ds : List (DataW H)} {ps : List MemPlace}, DataW.TrodAll enc Tryd.prog w 0 (fun _ => true) true ts vs ds ps → DataW.TrodAll enc Tryd.prog w' 0 (fun _ => true) true ts vs ds ps
 | [], [], [], _, h => h
 | _ :: _, _ :: _, _ :: _, _, ⟨p, q, ⟨n, h1⟩, h2, e⟩ => ⟨p, q, ⟨n, DataW.trod_carry _ _ _ _ h1 fun a ha => he.sameAt (DataW.trod_lt _ _ _ _ h1 a ha)⟩, all_kept he h2, e⟩
theorem lifted_of {f : FuncId} {fn : Func} {s : ChangeSpec} (hfn : Tryd.prog.funcs[f]? = some fn) (hvars : s.vars = []) (hni : Tryd.prog.inits.idxOf? f = none)
   (hspec : ∀ (H : Type) (ds : List (DataW H)), ds.length = fn.params.toList.length → s.fn H ds = { results := [.lit (.bool true)], args := ds })
   (hres : fn.resultTypes.toList = [4]) (hps : ∀ t ∈ fn.params.toList, t < Tryd.prog.types.size)
   (hread : ∀ {H : Type} {enc : TypeId × Value → H} (w : World) (base : Nat) (args : Array Value) (ds : List (DataW H)) (p : List MemPlace), (∀ (j : Nat) t v, fn.params[j]? = some t → args[j]? = some v → Value.okWide Tryd.prog w .any base t v) →
     DataW.TrodAll enc Tryd.prog w 0 (fun _ => true) true fn.params.toList args.toList ds p → (∀ m ∈ DataW.weightsEach Tryd.prog fn.params.toList ds, m ≤ reachBytes) →
     ∃ av : List V, args.size = av.length ∧ (∀ (i : Nat) (d : V) (v : Value), av[i]? = some d → args[i]? = some v → Rep w (okAll w) (fun _ => none) v d) ∧ CallsTo Tryd.prog f av (.lit (.bool true)))
   (os : Os) (started : os.Started) (H : Type) (enc : TypeId × Value → H)
   (hwit : ∃ (w : World) (tape : Tape) (i : Input), w.os = os ∧ (w.forCall tape i).Shaped Tryd.checked.prog ∧ i.vars = [] ∧ Input.okWide Tryd.checked.prog (w.forCall tape i) .any w.heap.size f i ∧
     ((s.pre enc Tryd.checked.prog fn [] false (w.forCall tape i).memory i.args ∧ laidMetH Tryd.prog YtofoildhohgngaaDoor.Rows.mixWaysRow.laid (w.forCall tape i).memory) ∧ sizedMet enc Tryd.checked.prog fn (OpenSpec.ofChange s) false (w.forCall tape i).memory i.args) ∧ ({} : Assume).holds Tryd.checked.prog (lone (Frame.enter Tryd.checked.prog f i.args .normal) [] (w.forCall tape i))) :
   ReturnsInHanded {} Tryd.checked os f .any (fun w args => (s.pre enc Tryd.checked.prog fn [] false w args ∧ laidMetH Tryd.prog YtofoildhohgngaaDoor.Rows.mixWaysRow.laid w) ∧ sizedMet enc Tryd.checked.prog fn (OpenSpec.ofChange s) false w args)
     (s.post enc Tryd.checked.prog fn false true false false) := by
 refine returnsInHanded_of_change_and (C := Tryd.checked) (X := fun w _ => laidMetH Tryd.prog YtofoildhohgngaaDoor.Rows.mixWaysRow.laid w) (fun _ _ _ hh h => h.of_heap hh) own0 started hni hfn hwit ?_
 intro W base args ds gs before hval hW _ hwts hL _
 have hW' := hW
 obtain ⟨p, q, hA, hV, hpq, hfz, hnd⟩ := hW
 rw [hvars] at hV
 obtain ⟨rfl, rfl⟩ : gs = [] ∧ q = [] := by
   cases gs with
   | nil => exact ⟨rfl, hV⟩
   | cons g r => exact absurd hV (by intro h; cases h)
 have hvt : s.plain.varTypes Tryd.checked.prog = [] := by unfold DataSpec.varTypes ChangeSpec.plain; rw [hvars]; rfl
 rw [hvt, List.append_nil, List.append_nil, List.all_eq_true] at hwts
 obtain ⟨av, hsz, hrep, hct⟩ := hread W base args ds p hval hA (fun m hm => by simpa using hwts m hm)
 refine ((hct W (okAll W) args (fun b o h => h) (glob_of_laid hL) hsz hrep).calls (FW_room _)).mono fun e W' ⟨v, own', ok', he, hev, _, hrv⟩ => ?_
 subst he
 refine ⟨v, rfl, ?_⟩
 have hv : v = .bool true := by cases hrv; rfl
 subst hv
 have hlen : ds.length = fn.params.toList.length := by
   have key : ∀ {ts : List TypeId} {vs : List Value} {ds : List (DataW H)} {ps : List MemPlace}, DataW.TrodAll enc Tryd.prog W 0 (fun _ => true) true ts vs ds ps → ds.length = ts.length := by
     intro ts
     induction ts with
     | nil => intro vs ds ps h; obtain ⟨_, rfl, _⟩ := trodAll_nil h; rfl
     | cons t ts ih =>
       intro vs ds ps h
       obtain ⟨v, vs', d, ds', p, q, _, rfl, _, _, h2⟩ := trodAll_cons h
       simp [ih h2]
   exact key hA
 have hfnd : s.fn H (ds ++ []) = { results := [.lit (.bool true)], args := ds } := by rw [List.append_nil]; exact hspec H ds hlen
 refine ⟨ds, [], before, [], p, [], hW', ?_, ?_, ?_, World.keptBut_mono (fun _ f => f.elim) hev.kept, fun h => by cases h⟩
 · rw [hfnd, hres]
   have : (Value.bool true).resultList fn.resultTypes.size = [.bool true] := by
     have : fn.resultTypes.size = 1 := by rw [← Array.length_toList, hres]; rfl
     rw [this]; rfl
   rw [this]
   exact trodAll_mk1 (shut_bool (P := Tryd.prog) (by kernel_rfl) true)
 · rw [hfnd]
   refine DataW.TrodAll.respare (P := Tryd.prog) (T := (· < Tryd.prog.types.size)) (kids_rows laidOut0 rowed0) full0 hps (all_kept hev hA) fun a ha => ?_
   exact decide_eq_true (DataW.TrodAll.lt hA a ha)
 · rw [hfnd, hvars]; rfl
end Go.Aw
end
section
set_option maxRecDepth 100000
namespace Go.Aw
open Go.RowKit Go.ChangeShapes Go.WideShapes Go.Proofs
section
variable {H : Type} {enc : TypeId × Value → H} {w : World}
end
noncomputable def laidWorld (os : Os) : World :=
 let w0 := World.holding Tryd.prog os ⟨#[], #[], []⟩
 let put (w : World) (g : Nat) (vs : List Int) : World := { w with heap := w.heap.modify g fun
     | .cells _ t frozen => .cells (vs.map (Value.int .u8)).toArray t frozen
     | o => o }
 put (put w0 0 [0, 1, 28, 2, 29, 14, 24, 3, 30, 22, 20, 15, 25, 17, 4, 8, 31, 27, 13, 23, 21, 19, 16, 7, 26, 12, 18, 6, 11, 5, 10, 9]) 1
   [0, 1, 56, 2, 57, 49, 28, 3, 61, 58, 42, 50, 38, 29, 17, 4, 62, 47, 59, 36, 45, 43, 51, 22, 53, 39, 33, 30, 24, 18, 12, 5, 63, 55, 48, 27, 60, 41, 37, 16, 46, 35, 44, 21, 52, 32, 23, 11, 54, 26, 40, 15, 34, 20, 31, 10, 25, 14, 19, 9, 13, 8, 7, 6]
theorem laidWorld_met (os : Os) (args : Array Value) : laidMetH Tryd.prog YtofoildhohgngaaDoor.Rows.mixWaysRow.laid ((laidWorld os).forCall (fun _ _ => 0) ⟨#[], args, []⟩).memory := by
 show laidMet _ _ _
 exact laidMet_of_run' 8 (by kernel_rfl) (by kernel_rfl)
end Go.Aw
end
section
namespace Go.Aw
@[go_sem ↓] theorem hget_nil' (i : Nat) : hget i [] = none := by rw [hget]
@[go_sem ↓] theorem hget_miss (i j : Nat) (b : Option Blk) (r : List (Nat × Option Blk)) (h : i ≠ j) : hget i ((j, b) :: r) = hget i r := by rw [hget, if_neg h]
@[go_sem ↓] theorem hget_hit (i : Nat) (b : Option Blk) (r : List (Nat × Option Blk)) : hget i ((i, b) :: r) = some b := by rw [hget, if_pos rfl]
@[go_sem ↓] theorem hset_nil' (i : Nat) (b : Option Blk) : hset i b [] = [(i, b)] := by rw [hset]
@[go_sem ↓] theorem hset_miss (i j : Nat) (b c : Option Blk) (r : List (Nat × Option Blk)) (h : i ≠ j) : hset i b ((j, c) :: r) = (j, c) :: hset i b r := by rw [hset, if_neg h]
@[go_sem ↓] theorem hset_hit (i : Nat) (b c : Option Blk) (r : List (Nat × Option Blk)) : hset i b ((i, c) :: r) = (i, b) :: r := by rw [hset, if_pos rfl]
theorem PurE.snocR {fr : Bool} {h : Hp} {e e' : List V} {l : List (List V)} (hp : PuE l) (he : PurI fr h e e') : PurE fr h (l ++ [e]) (l ++ [e']) := by
 induction l with
 | nil => exact .cons _ _ _ _ he .nil
 | cons a l ih => exact .cons _ _ _ _ (.pu _ (hp a List.mem_cons_self)) (ih fun x hx => hp x (List.mem_cons_of_mem _ hx))
theorem RenE.setR {ρ : Nat → Nat} {m : Nat} {e e' : List V} : ∀ {l : List (List V)} {i : Nat}, PuE l → RenL ρ m e e' → RenE ρ m (l.set i e) (l.set i e')
 | [], _, _, _ => .nil
 | a :: l, 0, hp, he => .cons _ _ _ _ he (.pu _ fun x hx => hp x (List.mem_cons_of_mem _ hx))
 | a :: l, i + 1, hp, he => .cons _ _ _ _ (.pu _ (hp a List.mem_cons_self)) (RenE.setR (fun x hx => hp x (List.mem_cons_of_mem _ hx)) he)
end Go.Aw
end
section
set_option maxRecDepth 20000
set_option maxHeartbeats 4000000
namespace Go.Aw
open Go.RowKit Go.Proofs
structure B5 where
 a : Int
 b : Int
 c : Int
 d : Int
 e : Int
instance : Inhabited B5 := ⟨⟨0, 0, 0, 0, 0⟩⟩
abbrev u8 (n : Int) : V := .lit (.int .u8 n)
def encU (x : B5) : List V := [u8 x.a, u8 x.b, u8 x.c, u8 x.d, u8 x.e]
@[go_sem] theorem encU_eq (x : B5) : encU x = [u8 x.a, u8 x.b, u8 x.c, u8 x.d, u8 x.e] := rfl
def okU (n : Int) : Prop := 0 ≤ n ∧ n ≤ 255
def B5.ok (x : B5) : Prop := okU x.a ∧ okU x.b ∧ okU x.c ∧ okU x.d ∧ okU x.e
def innC (bx : List B5) (ca st b0 b1 b2 b3 b4 b5 : Int) : List V := [.sl 5 (bx.map encU) false, u8 ca, u8 st, u8 b0, u8 b1, u8 b2, u8 b3, u8 b4, u8 b5]
@[go_sem] theorem innC_eq (bx : List B5) (ca st b0 b1 b2 b3 b4 b5 : Int) : innC bx ca st b0 b1 b2 b3 b4 b5 = [.sl 5 (bx.map encU) false, u8 ca, u8 st, u8 b0, u8 b1, u8 b2, u8 b3, u8 b4, u8 b5] := rfl
def bl (n : Nat) (f : Nat → Int) : List (List V) := (List.range n).map fun c => [int (f c), nilV]
@[go_sem] theorem bl_len (n : Nat) (f : Nat → Int) : (bl n f).length = n := by simp [bl]
@[go_sem] theorem bl_pu (n : Nat) (f : Nat → Int) : PuE (bl n f) = True := by
 simp only [PuE, eq_iff_iff, iff_true, bl]
 intro e he
 obtain ⟨c, _, rfl⟩ := List.mem_map.1 he
 simp [PuL]
theorem bl_succ (n : Nat) (f : Nat → Int) : bl (n + 1) f = bl n f ++ [[int (f n), nilV]] := by
 simp [bl, List.range_succ]
@[go_sem] theorem bl_get (n : Nat) (f : Nat → Int) (c : Nat) (h : c < n) : (bl n f).getD c [] = [int (f c), nilV] := by
 rw [List.getD_eq_getElem?_getD]; simp [bl, h]
def updF (f : Nat → Int) (c : Nat) (v : Int) : Nat → Int := fun j => if j = c then v else f j
@[go_sem] theorem bl_set (n : Nat) (f : Nat → Int) (c : Nat) (v : Int) : (bl n f).set c [int v, nilV] = bl n (updF f c v) := by
 refine List.ext_getElem (by simp [bl]) fun i h1 h2 => ?_
 rw [List.getElem_set]
 simp only [bl, List.getElem_map, List.getElem_range, updF]
 by_cases h : i = c
 · subst h; simp
 · rw [if_neg (fun e => h e.symm), if_neg h]
def encSm (s : Nat → Nat → Int) : List V := [int (s 0 0), int (s 0 1), int (s 1 0), int (s 1 1), int (s 2 0), int (s 2 1)]
def restSm (s : Nat → Nat → Int) (k : Nat) : List V := (encSm s).drop (k + 1)
def upd2 (s : Nat → Nat → Int) (c k : Nat) (v : Int) : Nat → Nat → Int := fun i j => if i = c ∧ j = k then v else s i j
@[go_sem] theorem encSm_pu (s : Nat → Nat → Int) : PuL (encSm s) = True := by simp [encSm, PuL]
@[go_sem] theorem encSm_drop (s : Nat → Nat → Int) (c : Nat) (h : c < 3) : (encSm s).drop (c * 2) = int (s c 0) :: restSm s (c * 2) := by
 rcases k3 h with rfl | rfl | rfl <;> rfl
@[go_sem] theorem encSm_drop1 (s : Nat → Nat → Int) (c : Nat) (h : c < 3) : (encSm s).drop (c * 2 + 1) = int (s c 1) :: restSm s (c * 2 + 1) := by
 rcases k3 h with rfl | rfl | rfl <;> rfl
@[go_sem] theorem encSm_splice (s : Nat → Nat → Int) (c : Nat) (v : Int) (h : c < 3) : splice (encSm s) (c * 2) [int v] = encSm (upd2 s c 0 v) := by
 rcases k3 h with rfl | rfl | rfl <;> rfl
@[go_sem] theorem encSm_splice1 (s : Nat → Nat → Int) (c : Nat) (v : Int) (h : c < 3) : splice (encSm s) (c * 2 + 1) [int v] = encSm (upd2 s c 1 v) := by
 rcases k3 h with rfl | rfl | rfl <;> rfl
def bWho (nc : Nat) (v : B5) : Nat := (v.a % nc).toNat
def bN (v : B5) : Nat → Int
 | 0 => v.b
 | _ => v.c
def bHeld (v : B5) (n : Nat) : List Int := (List.range n).map (bN v)
def bSpan (v : B5) (k : Nat) : Int × Int := (max 0 (bN v k - v.d % 8), bN v k + v.e % 8)
def bBox (v : B5) (n : Nat) : Box := (List.range n).map (bSpan v)
def cntB (bx : List B5) (nc : Nat) : Nat → Nat → Int
 | 0, _ => 0
 | i + 1, c => if c = bWho nc (bx.getD i default) then cntB bx nc i (bWho nc (bx.getD i default)) + 1 else cntB bx nc i c
def smTo (s : Nat → Nat → Int) (c : Nat) (v : B5) : Nat → Nat → Nat → Int
 | 0 => s
 | k + 1 => upd2 (smTo s c v k) c k (smTo s c v k c k + bN v k)
def sumB5 (bx : List B5) (nc ns : Nat) : Nat → Nat → Nat → Int
 | 0 => fun _ _ => 0
 | i + 1 => smTo (sumB5 bx nc ns i) (bWho nc (bx.getD i default)) (bx.getD i default) ns
theorem bN_ok {v : B5} (h : v.ok) (k : Nat) : 0 ≤ bN v k ∧ bN v k ≤ 255 := by
 obtain ⟨_, h1, h2, _, _⟩ := h
 unfold okU at h1 h2
 cases k with
 | zero => exact h1
 | succ _ => exact h2
theorem smTo_bnd {s : Nat → Nat → Int} {B : Int} (hs : ∀ c k, 0 ≤ s c k ∧ s c k ≤ B) (c : Nat) {v : B5} (hv : v.ok) : ∀ n c' k', 0 ≤ smTo s c v n c' k' ∧ smTo s c v n c' k' ≤ (if k' < n then B + 255 else B)
 | 0, c', k' => by rw [smTo, if_neg (Nat.not_lt_zero _)]; exact hs c' k'
 | n + 1, c', k' => by
   have ih := smTo_bnd hs c hv n
   have hb := bN_ok hv n
   rw [smTo, upd2]
   split
   · rename_i h
     obtain ⟨rfl, rfl⟩ := h
     have := ih c' k'
     rw [if_neg (Nat.lt_irrefl _)] at this
     rw [if_pos (Nat.lt_succ_self _)]
     omega
   · have := ih c' k'
     split at this
     · rw [if_pos (by omega)]; exact this
     · split
       · omega
       · exact this
theorem sumB5_bnd {bx : List B5} (hbx : ∀ v ∈ bx, v.ok) (nc ns : Nat) : ∀ i, i ≤ bx.length → ∀ c k, 0 ≤ sumB5 bx nc ns i c k ∧ sumB5 bx nc ns i c k ≤ 255 * i
 | 0, _, _, _ => by simp [sumB5]
 | i + 1, h, c, k => by
   have ih := sumB5_bnd hbx nc ns i (by omega)
   have := smTo_bnd ih (bWho nc (bx.getD i default)) (hbx _ (getD_mem (l := bx) (i := i) (by omega))) ns c k
   rw [sumB5]
   split at this <;> omega
theorem cntB_bnd (bx : List B5) (nc : Nat) : ∀ i c, 0 ≤ cntB bx nc i c ∧ cntB bx nc i c ≤ i
 | 0, _ => by simp [cntB]
 | i + 1, c => by
   have := cntB_bnd bx nc i (bWho nc (bx.getD i default))
   have := cntB_bnd bx nc i c
   rw [cntB]; split <;> omega
def bl2 (n : Nat) (f : Nat → Int) (d : Nat) (M : Nat → List (Int × Int)) : List (List V) := (List.range n).map fun j => [int (f j), if j < d then .sl 2 ((M j).map encS) false else nilV]
theorem bl2_zero (n : Nat) (f : Nat → Int) (M : Nat → List (Int × Int)) : bl2 n f 0 M = bl n f := by simp [bl2, bl]
@[go_sem] theorem bl2_len (n : Nat) (f : Nat → Int) (d : Nat) (M : Nat → List (Int × Int)) : (bl2 n f d M).length = n := by simp [bl2]
@[go_sem] theorem bl2_pu (n : Nat) (f : Nat → Int) (d : Nat) (M : Nat → List (Int × Int)) : PuE (bl2 n f d M) = True := by
 simp only [PuE, eq_iff_iff, iff_true, bl2]
 intro e he
 obtain ⟨c, _, rfl⟩ := List.mem_map.1 he
 have h1 : Pu (.sl 2 ((M c).map encS) false) := by first | assumption | (simp only [go_sem] <;> assumption) | (simp only [go_sem, *]; done) | (simp [go_sem]; done)
 intro v hv
 simp only [List.mem_cons, List.not_mem_nil, or_false] at hv
 rcases hv with rfl | rfl
 · exact .lit _
 · split
   · exact h1
   · exact .lit _
@[go_sem] theorem bl2_get (n : Nat) (f : Nat → Int) (d : Nat) (M : Nat → List (Int × Int)) (h : d < n) : (bl2 n f d M).getD d [] = [int (f d), nilV] := by
 rw [List.getD_eq_getElem?_getD]; simp [bl2, h]
@[go_sem] theorem set_bl2_get (n : Nat) (f : Nat → Int) (d : Nat) (M : Nat → List (Int × Int)) (c : Nat) (e : List V) (h : c < n) : ((bl2 n f d M).set c e).getD c [] = e := by
 rw [List.getD_eq_getElem?_getD, List.getElem?_set_self (by rw [bl2_len]; exact h)]; rfl
@[go_sem] theorem set_bl2_len (n : Nat) (f : Nat → Int) (d : Nat) (M : Nat → List (Int × Int)) (c : Nat) (e : List V) : ((bl2 n f d M).set c e).length = n := by rw [List.length_set, bl2_len]
@[go_sem] theorem set_bl2_set (n : Nat) (f : Nat → Int) (d : Nat) (M : Nat → List (Int × Int)) (c : Nat) (e e' : List V) : ((bl2 n f d M).set c e).set c e' = (bl2 n f d M).set c e' := List.set_set ..
theorem bl2_next (n : Nat) (f : Nat → Int) (d : Nat) (M : Nat → List (Int × Int)) : (bl2 n f d M).set d [int (f d), .sl 2 ((M d).map encS) false] = bl2 n f (d + 1) M := by
 refine List.ext_getElem (by simp [bl2]) fun i h1 h2 => ?_
 rw [List.getElem_set]
 simp only [bl2, List.getElem_map, List.getElem_range]
 by_cases h : d = i
 · subst h; rw [if_pos rfl, if_pos (by omega)]
 · rw [if_neg h]
   by_cases h' : i < d
   · rw [if_pos h', if_pos (by omega)]
   · rw [if_neg h', if_neg (by omega)]
@[go_sem] theorem le_self' (n : Nat) : (n ≤ n) = True := by simp
def bq (b0 b1 b2 b3 b4 b5 : Int) : Nat → Int × Int
 | 0 => (b0, b1)
 | 1 => (b2, b3)
 | _ => (b4, b5)
def mSpan (S : Nat → Nat → Int) (q : Nat → Int × Int) (c k : Nat) : Int × Int := (max 0 (S c k - (q c).1 % 8), S c k + (q c).2 % 8)
def mHeld (S : Nat → Nat → Int) (q : Nat → Int × Int) (n c : Nat) : List (Int × Int) := (List.range n).map (mSpan S q c)
def rowK (n : Nat) (f : Nat → Int) (c : Nat) (M : Nat → List (Int × Int)) : Nat → List (List V)
 | 0 => bl2 n f c M
 | k + 1 => (bl2 n f c M).set c [int (f c), .os 71 2 (k + 1) false]
def row71 (g : Nat → Int × Int) : Nat → Option Blk
 | 0 => none
 | k + 1 => some ⟨2, ((List.range (k + 1)).map g).map encS, 60, .wr⟩
theorem rowK0 (n : Nat) (f : Nat → Int) (c : Nat) (M : Nat → List (Int × Int)) : rowK n f c M 0 = bl2 n f c M := rfl
theorem rowK1 (n : Nat) (f : Nat → Int) (c : Nat) (M : Nat → List (Int × Int)) : rowK n f c M 1 = (bl2 n f c M).set c [int (f c), .os 71 2 1 false] := rfl
theorem rowK2 (n : Nat) (f : Nat → Int) (c : Nat) (M : Nat → List (Int × Int)) : rowK n f c M 2 = (bl2 n f c M).set c [int (f c), .os 71 2 2 false] := rfl
theorem row71_0 (g : Nat → Int × Int) : row71 g 0 = none := rfl
theorem row71_1 (g : Nat → Int × Int) : row71 g 1 = some ⟨2, [encS (g 0)], 60, .wr⟩ := rfl
theorem row71_2 (g : Nat → Int × Int) : row71 g 2 = some ⟨2, [encS (g 0), encS (g 1)], 60, .wr⟩ := rfl
theorem bSpan0 (S : Nat → Nat → Int) (b0 b1 b2 b3 b4 b5 : Int) (k : Nat) : mSpan S (bq b0 b1 b2 b3 b4 b5) 0 k = (max 0 (S 0 k - b0 % 8), S 0 k + b1 % 8) := rfl
theorem bSpan1 (S : Nat → Nat → Int) (b0 b1 b2 b3 b4 b5 : Int) (k : Nat) : mSpan S (bq b0 b1 b2 b3 b4 b5) 1 k = (max 0 (S 1 k - b2 % 8), S 1 k + b3 % 8) := rfl
theorem bSpan2 (S : Nat → Nat → Int) (b0 b1 b2 b3 b4 b5 : Int) (k : Nat) : mSpan S (bq b0 b1 b2 b3 b4 b5) 2 k = (max 0 (S 2 k - b4 % 8), S 2 k + b5 % 8) := rfl
def madeV (bx : List B5) (nc ns n : Nat) (q : Nat → Int × Int) : V :=
 .tup [.agg [.sl 1 ((bx.take n).map fun v => encB (bBox v ns)) false, .sl 2 (bl2 nc (cntB bx nc n) nc (mHeld (sumB5 bx nc ns n) q ns)) false], .sl 1 ((bx.take n).map fun v => encI (bWho nc v)) false, .sl 1 ((bx.take n).map fun v => encW (bHeld v ns)) false]
end Go.Aw
end
section
set_option maxRecDepth 20000
namespace Go.Aw
open Go.RowKit Go.Proofs
end Go.Aw
end
section
set_option maxRecDepth 20000
namespace Go.Aw
open Go.RowKit Go.Proofs
def mB (bx : List B5) (ns n : Nat) : List Box := (bx.take n).map fun v => bBox v ns
def mC (bx : List B5) (nc ns n : Nat) (q : Nat → Int × Int) : List Bill := (List.range nc).map fun j => (cntB bx nc n j, mHeld (sumB5 bx nc ns n) q ns j)
def mW (bx : List B5) (nc n : Nat) : List Int := (bx.take n).map fun v => (bWho nc v : Int)
def mH (bx : List B5) (ns n : Nat) : List (List Int) := (bx.take n).map fun v => bHeld v ns
theorem madeV_eq (bx : List B5) (nc ns n : Nat) (q : Nat → Int × Int) : madeV bx nc ns n q = .tup [encLoad (mB bx ns n) (mC bx nc ns n q), .sl 1 ((mW bx nc n).map encI) false, .sl 1 ((mH bx ns n).map encW) false] := by
 have hb : bl2 nc (cntB bx nc n) nc (mHeld (sumB5 bx nc ns n) q ns) = (mC bx nc ns n q).map encBill := by
   simp only [bl2, mC, List.map_map]
   refine List.map_congr_left fun j hj => ?_
   rw [if_pos (List.mem_range.1 hj)]; rfl
 simp only [madeV, encLoad, hb, mB, mW, mH, List.map_map]
 rfl
section
variable {bx : List B5} {nc ns n : Nat} {q : Nat → Int × Int}
theorem mB_len (hn : n ≤ bx.length) : (mB bx ns n).length = n := by rw [mB, List.length_map, List.length_take]; omega
theorem mW_len (hn : n ≤ bx.length) : (mW bx nc n).length = n := by rw [mW, List.length_map, List.length_take]; omega
theorem mH_len (hn : n ≤ bx.length) : (mH bx ns n).length = n := by rw [mH, List.length_map, List.length_take]; omega
theorem mC_len : (mC bx nc ns n q).length = nc := by simp [mC]
theorem map_getD {α β : Type} [Inhabited α] [Inhabited β] (f : α → β) (l : List α) (n i : Nat) (h : i < n) (hn : n ≤ l.length) : ((l.take n).map f).getD i default = f (l.getD i default) := by
 rw [getD_default (by rw [List.length_map, List.length_take]; omega), getD_default (by omega)]
 simp
theorem mB_at (hn : n ≤ bx.length) {i : Nat} (h : i < n) : (mB bx ns n).getD i default = bBox (bx.getD i default) ns := map_getD _ _ _ _ h hn
theorem mW_at (hn : n ≤ bx.length) {i : Nat} (h : i < n) : (mW bx nc n).getD i default = (bWho nc (bx.getD i default) : Int) := map_getD _ _ _ _ h hn
theorem mH_at (hn : n ≤ bx.length) {i : Nat} (h : i < n) : (mH bx ns n).getD i default = bHeld (bx.getD i default) ns := map_getD _ _ _ _ h hn
theorem mC_at {c : Nat} (h : c < nc) : (mC bx nc ns n q).getD c default = (cntB bx nc n c, mHeld (sumB5 bx nc ns n) q ns c) := by
 rw [getD_default (by rw [mC_len]; exact h)]; simp [mC]
theorem bBox_at (v : B5) {k : Nat} (h : k < ns) : (bBox v ns).getD k default = bSpan v k := by
 rw [getD_default (by simp [bBox]; exact h)]; simp [bBox]
theorem bHeld_at (v : B5) {k : Nat} (h : k < ns) : (bHeld v ns).getD k default = bN v k := by
 rw [getD_default (by simp [bHeld]; exact h)]; simp [bHeld]
theorem mHeld_at (S : Nat → Nat → Int) {c k : Nat} (h : k < ns) : (mHeld S q ns c).getD k default = mSpan S q c k := by
 rw [getD_default (by simp [mHeld]; exact h)]; simp [mHeld]
theorem bWho_lt (hc : 1 ≤ nc) (v : B5) : bWho nc v < nc := by
 have h1 := Int.emod_nonneg v.a (show (nc : Int) ≠ 0 by omega)
 have h2 := Int.emod_lt_of_pos v.a (show (0 : Int) < nc by omega)
 unfold bWho; omega
theorem smTo_at (s : Nat → Nat → Int) (c : Nat) (v : B5) : ∀ m c' k, smTo s c v m c' k = if c' = c ∧ k < m then s c' k + bN v k else s c' k
 | 0, c', k => by rw [smTo, if_neg (by omega)]
 | m + 1, c', k => by
   rw [smTo, upd2]
   by_cases h : c' = c ∧ k = m
   · obtain ⟨rfl, rfl⟩ := h
     rw [if_pos ⟨rfl, rfl⟩, if_pos ⟨rfl, by omega⟩, smTo_at, if_neg (by omega)]
   · rw [if_neg h, smTo_at]
     by_cases h2 : c' = c ∧ k < m
     · rw [if_pos h2, if_pos ⟨h2.1, by omega⟩]
     · rw [if_neg h2, if_neg (by omega)]
theorem sumB5_succ (i c : Nat) {k : Nat} (hk : k < ns) : sumB5 bx nc ns (i + 1) c k = if c = bWho nc (bx.getD i default) then sumB5 bx nc ns i c k + bN (bx.getD i default) k else sumB5 bx nc ns i c k := by
 rw [sumB5, smTo_at]
 by_cases h : c = bWho nc (bx.getD i default)
 · rw [if_pos ⟨h, hk⟩, if_pos h]
 · rw [if_neg (fun e => h e.1), if_neg h]
theorem cntTo_made (hn : n ≤ bx.length) (c : Nat) : ∀ i, i ≤ n → cntTo (mW bx nc n) c i = cntB bx nc i c
 | 0, _ => rfl
 | i + 1, h => by
   rw [cntTo, cntB, mW_at hn (by omega), cntTo_made hn c i (by omega)]
   by_cases he : c = bWho nc (bx.getD i default)
   · rw [if_pos (by omega), if_pos he, ← he]
   · rw [if_neg (by omega), if_neg he]
theorem bSpan_in {v : B5} (hv : v.ok) (k : Nat) : 0 ≤ (bSpan v k).1 ∧ (bSpan v k).1 ≤ bN v k ∧ bN v k ≤ (bSpan v k).2 ∧ (bSpan v k).2 ≤ 262 := by
 have h := bN_ok hv k
 obtain ⟨_, _, _, h3, h4⟩ := hv
 unfold okU at h3 h4
 simp only [bSpan]; omega
theorem sumR_made (hbx : ∀ v ∈ bx, v.ok) (hn : n ≤ bx.length) (c : Nat) {k : Nat} (hk : k < ns) : ∀ i, i ≤ n → (sumR (mB bx ns n) (mW bx nc n) c k 0 i).1 ≤ sumB5 bx nc ns i c k ∧ sumB5 bx nc ns i c k ≤ (sumR (mB bx ns n) (mW bx nc n) c k 0 i).2
 | 0, _ => by simp [sumR, sumB5]
 | i + 1, h => by
   have ih := sumR_made hbx hn c hk i (by omega)
   have hb := bSpan_in (hbx _ (getD_mem (l := bx) (i := i) (by omega))) k
   rw [sumR, sumB5_succ i c hk, mW_at hn (by omega), mB_at hn (by omega), bBox_at _ hk, Nat.zero_testBit, if_neg (by decide : ¬ (false = true))]
   by_cases he : c = bWho nc (bx.getD i default)
   · rw [if_pos (by omega), if_pos he]
     simp only [addS]; omega
   · rw [if_neg (by omega), if_neg he]; exact ih
theorem mSpan_in {S : Nat → Nat → Int} {c k : Nat} (h0 : 0 ≤ S c k) (hq : 0 ≤ (q c).1 ∧ 0 ≤ (q c).2) : 0 ≤ (mSpan S q c k).1 ∧ (mSpan S q c k).1 ≤ S c k ∧ S c k ≤ (mSpan S q c k).2 ∧ (mSpan S q c k).2 ≤ S c k + 7 := by
 simp only [mSpan]; omega
end
end Go.Aw
end
section
set_option maxRecDepth 20000
namespace Go.Aw
open Go.RowKit Go.Proofs
theorem spanOk_of {m : Int} {x : Int × Int} (h : 0 ≤ x.1 ∧ x.1 ≤ x.2 ∧ x.2 ≤ m) : spanOk m x = true := by
 simp only [spanOk, inR', Bool.and_eq_true, decide_eq_true_eq]; omega
section
variable {bx : List B5} {nc ns n : Nat} {q : Nat → Int × Int}
theorem mC_stuffs (h1 : 1 ≤ nc) : stuffs (mC bx nc ns n q) = ns := by
 rw [stuffs, mC_at h1]; simp [mHeld]
theorem made_check (hbx : ∀ v ∈ bx, v.ok) (hn : n ≤ bx.length) (h8 : n ≤ 8) (hc : 1 ≤ nc ∧ nc ≤ 3) (hs : 1 ≤ ns ∧ ns ≤ 2) (hq : ∀ c, okU (q c).1 ∧ okU (q c).2) : checkR (mB bx ns n) (mC bx nc ns n q) = 0 := by
 have e1 : ∀ b ∈ mB bx ns n, b.length = ns ∧ ∀ x ∈ b, spanOk 1000 x = true := by
   intro b hb
   obtain ⟨v, hv, rfl⟩ := List.mem_map.1 hb
   refine ⟨by simp [bBox], fun x hx => ?_⟩
   obtain ⟨k, _, rfl⟩ := List.mem_map.1 hx
   have := bSpan_in (hbx v (List.mem_of_mem_take hv)) k
   exact spanOk_of ⟨this.1, by omega, by omega⟩
 have e2 : ∀ c ∈ mC bx nc ns n q, c.2.length = ns ∧ (∀ x ∈ c.2, spanOk 10000 x = true) ∧ 0 ≤ c.1 ∧ c.1 ≤ 8 := by
   intro c hcm
   obtain ⟨j, _, rfl⟩ := List.mem_map.1 hcm
   have hcb := cntB_bnd bx nc n j
   refine ⟨by simp [mHeld], fun x hx => ?_, hcb.1, by omega⟩
   obtain ⟨k, _, rfl⟩ := List.mem_map.1 hx
   have h1 := sumB5_bnd hbx nc ns n hn j k
   have h2 := hq j
   unfold okU at h2
   have := mSpan_in (S := sumB5 bx nc ns n) (c := j) (k := k) (q := q) h1.1 ⟨h2.1.1, h2.2.1⟩
   exact spanOk_of ⟨this.1, by omega, by omega⟩
 rw [checkR_eq _ _ (by rw [mB_len hn]; exact h8) (by rw [mC_len]; exact hc.2) (by rw [mC_len]; omega)]
 have hst := mC_stuffs (bx := bx) (ns := ns) (n := n) (q := q) hc.1
 rw [if_pos, if_pos]
 · simp only [argOk, Bool.true_and, Bool.and_eq_true, List.all_eq_true]
   refine ⟨fun c hcm => ⟨(e2 c hcm).2.1, ?_⟩, fun b hb => (e1 b hb).2⟩
   have := (e2 c hcm).2.2
   simp only [inR', Bool.and_eq_true, decide_eq_true_eq]; exact this
 · simp only [formOk, Bool.and_eq_true, List.all_eq_true, hst, beq_iff_eq]
   refine ⟨⟨?_, fun c hcm => by rw [(e2 c hcm).1]⟩, fun b hb => by rw [(e1 b hb).1]⟩
   simp only [inR', Bool.and_eq_true, decide_eq_true_eq]; omega
theorem made_way (hbx : ∀ v ∈ bx, v.ok) (hn : n ≤ bx.length) (hq : ∀ c, okU (q c).1 ∧ okU (q c).2) : wayR (mB bx ns n) (mC bx nc ns n q) (mW bx nc n) 0 = true := by
 unfold wayR
 rw [List.all_eq_true]
 intro c hcm
 have hc : c < nc := by rw [mC_len] at hcm; exact List.mem_range.1 hcm
 unfold carrOk
 rw [mW_len hn, mC_at hc, cntTo_made hn c n (Nat.le_refl _)]
 simp only [Bool.and_eq_true, beq_self_eq_true, true_and, List.all_eq_true]
 intro k hk
 have hkn : k < ns := by
   have := List.mem_range.1 hk
   simpa [mHeld] using this
 have h1 := sumR_made (nc := nc) hbx hn c hkn n (Nat.le_refl _)
 have h2 := sumB5_bnd hbx nc ns n hn c k
 have h3 := hq c
 unfold okU at h3
 have h4 := mSpan_in (S := sumB5 bx nc ns n) (c := c) (k := k) (q := q) h2.1 ⟨h3.1.1, h3.2.1⟩
 simp only [stuffOk, mW_len hn, mC_at hc, mHeld_at _ hkn, decide_eq_true_eq]
 omega
theorem refW_mem {bs : List Box} {cs : List Bill} {set : Nat} : ∀ (r : Nat) (now w : List Int), now <+: w → w.length = now.length + r → InC cs.length w → wayR bs cs w set = true → w ∈ refW bs cs set r now
 | 0, now, w, hp, hl, hi, hw => by
   obtain rfl : now = w := hp.eq_of_length (by omega)
   rw [refW, hw, if_pos rfl]; exact List.mem_singleton.2 rfl
 | r + 1, now, w, hp, hl, hi, hw => by
   have hlt : now.length < w.length := by omega
   have hm := hi _ (getD_mem (l := w) (i := now.length) hlt)
   obtain ⟨c, hc⟩ : ∃ c : Nat, w.getD now.length default = c := ⟨(w.getD now.length default).toNat, by omega⟩
   rw [hc] at hm
   rw [refW, List.mem_flatMap]
   refine ⟨c, List.mem_range.2 (by omega), refW_mem r _ w ?_ (by rw [List.length_append]; simp; omega) hi hw⟩
   obtain ⟨t, rfl⟩ := hp
   cases t with
   | nil => simp at hlt
   | cons a t =>
     have : a = (c : Int) := by
       rw [← hc]; simp
     subst this
     exact ⟨t, by simp⟩
theorem made_mem (hbx : ∀ v ∈ bx, v.ok) (hn : n ≤ bx.length) (h8 : n ≤ 8) (hc : 1 ≤ nc ∧ nc ≤ 3) (hs : 1 ≤ ns ∧ ns ≤ 2) (hq : ∀ c, okU (q c).1 ∧ okU (q c).2) : mW bx nc n ∈ allW (mB bx ns n) (mC bx nc ns n q) := by
 rw [allW_refW (good_of_check (made_check hbx hn h8 hc hs hq)).pos]
 refine refW_mem _ [] _ (List.nil_prefix) (by rw [mW_len hn, mB_len hn]; simp) (fun x hx => ?_) (made_way hbx hn hq)
 obtain ⟨v, _, rfl⟩ := List.mem_map.1 hx
 have := bWho_lt hc.1 v
 rw [mC_len]; omega
def totB (bx : List B5) (k : Nat) : Nat → Int
 | 0 => 0
 | i + 1 => totB bx k i + bN (bx.getD i default) k
end
end Go.Aw
end
section
set_option maxRecDepth 20000
namespace Go.Aw
open Go.RowKit Go.Proofs
section
variable {bx : List B5} {nc ns n : Nat}
def trueSum (way : List Int) (held : List (List Int)) (c : Int) (k : Nat) : Nat → Int
 | 0 => 0
 | i + 1 => if way.getD i default = c then trueSum way held c k i + (held.getD i default).getD k default else trueSum way held c k i
theorem trueSum_made (hn : n ≤ bx.length) (c : Nat) {k : Nat} (hk : k < ns) : ∀ i, i ≤ n → trueSum (mW bx nc n) (mH bx ns n) c k i = sumB5 bx nc ns i c k
 | 0, _ => by simp [trueSum, sumB5]
 | i + 1, h => by
   rw [trueSum, sumB5_succ i c hk, mW_at hn (by omega), mH_at hn (by omega), bHeld_at _ hk, trueSum_made hn c hk i (by omega)]
   by_cases he : c = bWho nc (bx.getD i default)
   · rw [if_pos (by omega), if_pos he]
   · rw [if_neg (by omega), if_neg he]
end
end Go.Aw
end
section
set_option maxRecDepth 20000
set_option maxHeartbeats 4000000
namespace Go.Aw
open Go.RowKit Go.Proofs
theorem own_spec (bs : List Box) (cs : List Bill) (hz : SizeOk bs cs) : Ct Tryd.prog 38 [encLoad bs cs] (encLoad bs cs) := by
 obtain ⟨hnb, hnc, hlb, hlc⟩ := hz
 refine ct_enterZ Tryd.func38 rfl (by decide) Tryd.results38 Tryd.ntmps38 ?_ rfl (by simp (maxSteps := 1000000) -implicitDefEqProofs (disch := omega) only [go_sem]; rfl) fun base => ?_
 · first | assumption | (simp only [go_sem] <;> assumption) | (simp only [go_sem, *]; done) | (simp [go_sem]; done)
 repeat' (first
   | (with_reducible apply Req_intro); focus (first | omega | assumption | (simp; done))
   | with_reducible (first | apply Req_intro | refine nilT ?_ fun hn => ?_ | apply wk_draw Tryd_mixed | refine drawEnd (by kernel_rfl) ?_)
   | (with_reducible (first | apply condA_if | apply stepDG_ifN | apply stepDG_if | apply stepG_ifN | apply stepG_if)) <;> intro hb <;> (have hif := hb) <;> (try simp only [bo] at hif) <;> (try simp -implicitDefEqProofs (disch := omega) only [go_sem, hb]) <;> clear hb
   | simp (maxSteps := 1000000) -implicitDefEqProofs (disch := omega) only [go_sem])
 refine loop_rows (α := Nat) [4, 7, 8, 9, 10, 11, 12, 13, 14, 15, 16, 17, 18, 19, 20, 21, 22, 23, 24, 25, 26, 27] (fun i => [(4, .lit (.int .i64 i))]) (fun i => [(0, some ⟨2, [loadC bs cs], 25, .wr⟩), (64, some ⟨2, [[nilV, nilV]], 25, .wr⟩), (192, some ⟨2, [[.os 65 1 i false, nilV]], 25, .wr⟩), (65, some ⟨1, (bs.take i).map encB, 67, .wr⟩)]) (fun i => i ≤ bs.length) (fun i => bs.length - i) 0 (fun x => by simp (maxSteps := 1000000) -implicitDefEqProofs (disch := omega) only [go_sem]; rfl) ?_ ?_ fun x hx => ?_
 · simp only [List.take_zero, List.map_nil]
   exact weak_do [(65, 1000000)]
 · exact Nat.zero_le _
 have htl : (bs.take x).length = x := by rw [List.length_take]; omega
 by_cases hlt : x < bs.length
 · have hl := hlb _ (getD_mem hlt)
   have ht := take_succ_getD hlt
   repeat' (first
     | (with_reducible apply Req_intro); focus (first | omega | assumption | (simp; done))
     | with_reducible (first | apply Req_intro | refine nilT ?_ fun hn => ?_ | apply wk_draw Tryd_mixed | refine drawEnd (by kernel_rfl) ?_)
     | (with_reducible (first | apply condA_if | apply stepDG_ifN | apply stepDG_if | apply stepG_ifN | apply stepG_if)) <;> intro hb <;> (have hif := hb) <;> (try simp only [bo] at hif) <;> (try simp -implicitDefEqProofs (disch := omega) only [go_sem, hb]) <;> clear hb
     | simp (maxSteps := 1000000) -implicitDefEqProofs (disch := omega) only [go_sem])
   all_goals first | exact absurd trivial ‹¬True› | (exfalso; omega) | omega | skip
   generalize bs.getD x default = b at *
   refine nxt_snapRow [1280] 1472 (es' := (bs.take x).map encB ++ [encB b]) (by first | (simp only [go_sem]; done) | (simp only [go_sem]; rfl)) (by rfl) ?_ (by first | assumption | (simp only [go_sem] <;> assumption) | (simp only [go_sem, *]; done) | (simp [go_sem]; done)) (by first | (simp only [go_sem]; done) | (simp only [go_sem]; rfl)) ?_
   · refine PurE.snocR (by first | assumption | (simp only [go_sem] <;> assumption) | (simp only [go_sem, *]; done) | (simp [go_sem]; done)) ?_
     rw [show encB b = [.sl 2 (b.map encS) false] from rfl]
     (try simp (maxSteps := 1000000) -implicitDefEqProofs (disch := omega) only [go_sem])
     repeat' (first
       | with_reducible (first | exact PurI.nil | exact Pur.nilsl _ _ | exact PurE.nil)
       | (with_reducible (first | refine PurI.puL ?_ | refine PurE.puE ?_)) <;> (first | assumption | (simp only [go_sem] <;> assumption) | (simp only [go_sem, *]; done) | (simp [go_sem]; done))
       | with_reducible apply PurI.cons
       | (with_reducible refine Pur.pu _ ?_) <;> (first | assumption | (simp only [go_sem] <;> assumption) | (simp only [go_sem, *]; done) | (simp [go_sem]; done))
       | ((with_reducible apply Pur.refR) <;> (first | rfl | decide | (simp only [go_sem]; omega) | (simp only [go_sem]) | skip))
       | ((with_reducible apply Pur.osR) <;> (first | rfl | exact fun h => h | omega | (simp; omega) | (simp; done) | (simp only [go_sem]) | skip))
       | with_reducible (first | apply Pur.fnI | apply Pur.aggI | apply PurE.cons)
       | (with_reducible refine PurI.eqL ?_ ?_); (focus rfl); (focus (first | assumption | (simp only [go_sem] <;> assumption) | (simp only [go_sem, *]; done) | (simp [go_sem]; done)))
       | simp (maxSteps := 1000000) -implicitDefEqProofs (disch := omega) only [go_sem])
   with_reducible refine nxt_w (x + 1) ?_ ?_
   · (try dsimp only)
     rw [ht, List.map_append]
     exact weak_do [(65, 1472)]
   try dsimp only
   omega
 · obtain rfl : x = bs.length := by omega
   rw [List.take_length]
   clear hlt htl
   repeat' (first
     | (with_reducible apply Req_intro); focus (first | omega | assumption | (simp; done))
     | with_reducible (first | apply Req_intro | refine nilT ?_ fun hn => ?_ | apply wk_draw Tryd_mixed | refine drawEnd (by kernel_rfl) ?_)
     | (with_reducible (first | apply condA_if | apply stepDG_ifN | apply stepDG_if | apply stepG_ifN | apply stepG_if)) <;> intro hb <;> (have hif := hb) <;> (try simp only [bo] at hif) <;> (try simp -implicitDefEqProofs (disch := omega) only [go_sem, hb]) <;> clear hb
     | simp (maxSteps := 1000000) -implicitDefEqProofs (disch := omega) only [go_sem])
   all_goals first | exact absurd trivial ‹¬True› | (exfalso; omega) | skip
   refine loop_rows (α := Nat) [5, 28, 29, 30, 31, 32, 33, 34, 35, 36, 37, 38, 39, 40, 41, 42, 43, 44, 45, 46, 47, 48, 49, 50, 51, 52, 53, 54] (fun i => [(5, .lit (.int .i64 i))]) (fun i => [(0, some ⟨2, [loadC bs cs], 25, .wr⟩), (64, some ⟨2, [[nilV, nilV]], 25, .wr⟩), (192, some ⟨2, [[.os 65 1 bs.length false, .os 66 2 i false]], 25, .wr⟩), (65, some ⟨1, bs.map encB, 67, .wr⟩), (66, some ⟨2, (cs.take i).map encBill, 64, .wr⟩)]) (fun i => i ≤ cs.length) (fun i => cs.length - i) 0 (fun x => by simp (maxSteps := 1000000) -implicitDefEqProofs (disch := omega) only [go_sem]; rfl) ?_ ?_ fun x hx => ?_
   · simp only [List.take_zero, List.map_nil]
     exact weak_do [(66, 1000000)]
   · exact Nat.zero_le _
   have htl : (cs.take x).length = x := by rw [List.length_take]; omega
   by_cases hlt : x < cs.length
   · have hl := hlc _ (getD_mem hlt)
     have ht := take_succ_getD hlt
     repeat' (first
       | (with_reducible apply Req_intro); focus (first | omega | assumption | (simp; done))
       | with_reducible (first | apply Req_intro | refine nilT ?_ fun hn => ?_ | apply wk_draw Tryd_mixed | refine drawEnd (by kernel_rfl) ?_)
       | (with_reducible (first | apply condA_if | apply stepDG_ifN | apply stepDG_if | apply stepG_ifN | apply stepG_if)) <;> intro hb <;> (have hif := hb) <;> (try simp only [bo] at hif) <;> (try simp -implicitDefEqProofs (disch := omega) only [go_sem, hb]) <;> clear hb
       | simp (maxSteps := 1000000) -implicitDefEqProofs (disch := omega) only [go_sem])
     all_goals first | exact absurd trivial ‹¬True› | (exfalso; omega) | omega | skip
     generalize cs.getD x default = b at *
     refine nxt_snapRow [2048] 2240 (es' := (cs.take x).map encBill ++ [encBill b]) (by first | (simp only [go_sem]; done) | (simp only [go_sem]; rfl)) (by rfl) ?_ (by first | assumption | (simp only [go_sem] <;> assumption) | (simp only [go_sem, *]; done) | (simp [go_sem]; done)) (by first | (simp only [go_sem]; done) | (simp only [go_sem]; rfl)) ?_
     · refine PurE.snocR (by first | assumption | (simp only [go_sem] <;> assumption) | (simp only [go_sem, *]; done) | (simp [go_sem]; done)) ?_
       rw [show encBill b = [.lit (.int .i64 b.1), .sl 2 (b.2.map encS) false] from rfl]
       (try simp (maxSteps := 1000000) -implicitDefEqProofs (disch := omega) only [go_sem])
       repeat' (first
         | with_reducible (first | exact PurI.nil | exact Pur.nilsl _ _ | exact PurE.nil)
         | (with_reducible (first | refine PurI.puL ?_ | refine PurE.puE ?_)) <;> (first | assumption | (simp only [go_sem] <;> assumption) | (simp only [go_sem, *]; done) | (simp [go_sem]; done))
         | with_reducible apply PurI.cons
         | (with_reducible refine Pur.pu _ ?_) <;> (first | assumption | (simp only [go_sem] <;> assumption) | (simp only [go_sem, *]; done) | (simp [go_sem]; done))
         | ((with_reducible apply Pur.refR) <;> (first | rfl | decide | (simp only [go_sem]; omega) | (simp only [go_sem]) | skip))
         | ((with_reducible apply Pur.osR) <;> (first | rfl | exact fun h => h | omega | (simp; omega) | (simp; done) | (simp only [go_sem]) | skip))
         | with_reducible (first | apply Pur.fnI | apply Pur.aggI | apply PurE.cons)
         | (with_reducible refine PurI.eqL ?_ ?_); (focus rfl); (focus (first | assumption | (simp only [go_sem] <;> assumption) | (simp only [go_sem, *]; done) | (simp [go_sem]; done)))
         | simp (maxSteps := 1000000) -implicitDefEqProofs (disch := omega) only [go_sem])
     with_reducible refine nxt_w (x + 1) ?_ ?_
     · (try dsimp only)
       rw [ht, List.map_append]
       exact weak_do [(66, 2240)]
     try dsimp only
     omega
   · obtain rfl : x = cs.length := by omega
     rw [List.take_length]
     repeat' (first
       | (with_reducible apply Req_intro); focus (first | omega | assumption | (simp; done))
       | with_reducible (first | apply Req_intro | refine nilT ?_ fun hn => ?_ | apply wk_draw Tryd_mixed | refine drawEnd (by kernel_rfl) ?_)
       | (with_reducible (first | apply condA_if | apply stepDG_ifN | apply stepDG_if | apply stepG_ifN | apply stepG_if)) <;> intro hb <;> (have hif := hb) <;> (try simp only [bo] at hif) <;> (try simp -implicitDefEqProofs (disch := omega) only [go_sem, hb]) <;> clear hb
       | simp (maxSteps := 1000000) -implicitDefEqProofs (disch := omega) only [go_sem])
     all_goals first | exact absurd trivial ‹¬True› | (exfalso; omega) | skip
     exact retz [65, 66]
end Go.Aw
end
section
namespace Go.Aw
open Go.RowKit
def famE (F n : Nat) (ln : Nat → Nat) : List (List V) := (List.range n).map fun j => [.os (F + j) 2 (ln j) false]
def famC (F n : Nat) (ct : Nat → Int) (ln : Nat → Nat) : List (List V) := (List.range n).map fun j => [int (ct j), .os (F + j) 2 (ln j) false]
@[go_sem] theorem famE_len (F n : Nat) (ln : Nat → Nat) : (famE F n ln).length = n := by simp [famE]
@[go_sem] theorem famC_len (F n : Nat) (ct : Nat → Int) (ln : Nat → Nat) : (famC F n ct ln).length = n := by simp [famC]
theorem famE_at {F n : Nat} {ln : Nat → Nat} {j : Nat} (h : j < n) : (famE F n ln)[j]? = some [.os (F + j) 2 (ln j) false] := by simp [famE, h]
theorem famC_at {F n : Nat} {ct : Nat → Int} {ln : Nat → Nat} {j : Nat} (h : j < n) : (famC F n ct ln)[j]? = some [int (ct j), .os (F + j) 2 (ln j) false] := by simp [famC, h]
@[go_sem] theorem famE_get (F n : Nat) (ln : Nat → Nat) (j : Nat) (h : j < n) : (famE F n ln).getD j [] = [.os (F + j) 2 (ln j) false] := by rw [List.getD_eq_getElem?_getD, famE_at h]; rfl
theorem famE_lt {F n : Nat} {ln : Nat → Nat} {j : Nat} {e : List V} (h : (famE F n ln)[j]? = some e) : j < n := by have := (List.getElem?_eq_some_iff.1 h).1; rwa [famE_len] at this
theorem famC_lt {F n : Nat} {ct : Nat → Int} {ln : Nat → Nat} {j : Nat} {e : List V} (h : (famC F n ct ln)[j]? = some e) : j < n := by have := (List.getElem?_eq_some_iff.1 h).1; rwa [famC_len] at this
section
variable {ρ : Nat → Nat} {m : Nat}
theorem RenE.get : ∀ {a b : List (List V)}, a.length = b.length → (∀ (j : Nat) (d d' : List V), a[j]? = some d → b[j]? = some d' → RenL ρ m d d') → RenE ρ m a b
 | [], [], _, _ => .nil
 | _ :: _, [], h, _ => by cases h
 | [], _ :: _, h, _ => by cases h
 | d :: a, d' :: b, h, hc => .cons _ _ _ _ (hc 0 d d' rfl rfl) (RenE.get (by simpa using h) fun j x y hx hy => hc (j + 1) x y (by simpa using hx) (by simpa using hy))
theorem RenE.fam {F n B : Nat} {ln ln' : Nat → Nat} (hB : n ≤ B) (hr : ∀ j, j < B → ρ (F + j) = F + j ∧ F + j < m) (hl : ∀ j, j < n → ln j = ln' j) : RenE ρ m (famE F n ln) (famE F n ln') := by
 refine RenE.get (by simp only [famE_len]) fun j d d' h1 h2 => ?_
 have hj := famE_lt h1
 rw [famE_at hj] at h1 h2
 cases h1
 cases h2
 have := hr j (by omega)
 exact .cons _ _ _ _ (Ren.osN _ _ (hl j hj) this.1 this.2 (fun h => h)) .nil
theorem RenE.famCt {F n B : Nat} {ct ct' : Nat → Int} {ln ln' : Nat → Nat} (hB : n ≤ B) (hr : ∀ j, j < B → ρ (F + j) = F + j ∧ F + j < m) (hl : ∀ j, j < n → ln j = ln' j) (hc : ∀ j, j < n → ct j = ct' j) : RenE ρ m (famC F n ct ln) (famC F n ct' ln') := by
 refine RenE.get (by simp only [famC_len]) fun j d d' h1 h2 => ?_
 have hj := famC_lt h1
 rw [famC_at hj] at h1 h2
 cases h1
 cases h2
 have := hr j (by omega)
 rw [hc j hj]
 exact .cons _ _ _ _ (.lit _) (.cons _ _ _ _ (Ren.osN _ _ (hl j hj) this.1 this.2 (fun h => h)) .nil)
theorem RenE.famSnoc {F n n1 X L : Nat} {ln : Nat → Nat} {ex : Bool} (hn : n1 = n + 1) (hr : ∀ j, j < n → ρ (F + j) = F + j) (hm : F + n < m) (hX : ρ (F + n) = X) (hL : ln n = L) : RenE ρ m (famE F n1 ln) (famE F n ln ++ [[.os X 2 L ex]]) := by
 subst hn
 refine RenE.get (by simp [famE_len]) fun j d d' h1 h2 => ?_
 have hj := famE_lt h1
 rw [famE_at hj] at h1
 cases h1
 rcases Nat.lt_or_ge j n with h | h
 · rw [List.getElem?_append_left (by rw [famE_len]; exact h), famE_at h] at h2
   cases h2
   exact .cons _ _ _ _ (Ren.osN _ _ rfl (hr j h) (by omega) (fun h => h)) .nil
 · obtain rfl : j = n := by omega
   rw [List.getElem?_append_right (by rw [famE_len]; exact h), famE_len, Nat.sub_self] at h2
   cases h2
   exact .cons _ _ _ _ (Ren.osN _ _ hL hX hm (fun h => by cases h)) .nil
theorem RenE.famCSnoc {F n n1 X L : Nat} {ct : Nat → Int} {c : Int} {ln : Nat → Nat} {ex : Bool} (hn : n1 = n + 1) (hr : ∀ j, j < n → ρ (F + j) = F + j) (hm : F + n < m) (hX : ρ (F + n) = X) (hL : ln n = L) (hc : ct n = c) : RenE ρ m (famC F n1 ct ln) (famC F n ct ln ++ [[int c, .os X 2 L ex]]) := by
 subst hn
 refine RenE.get (by simp [famC_len]) fun j d d' h1 h2 => ?_
 have hj := famC_lt h1
 rw [famC_at hj] at h1
 cases h1
 rcases Nat.lt_or_ge j n with h | h
 · rw [List.getElem?_append_left (by rw [famC_len]; exact h), famC_at h] at h2
   cases h2
   exact .cons _ _ _ _ (.lit _) (.cons _ _ _ _ (Ren.osN _ _ rfl (hr j h) (by omega) (fun h => h)) .nil)
 · obtain rfl : j = n := by omega
   rw [List.getElem?_append_right (by rw [famC_len]; exact h), famC_len, Nat.sub_self] at h2
   cases h2
   rw [hc]
   exact .cons _ _ _ _ (.lit _) (.cons _ _ _ _ (Ren.osN _ _ hL hX hm (fun h => by cases h)) .nil)
theorem RenE.famSet {F n B x X L : Nat} {ln ln' : Nat → Nat} {ex : Bool} (hB : n ≤ B) (hr : ∀ j, j < B → j ≠ x → ρ (F + j) = F + j) (hm : ∀ j, j < B → F + j < m) (hX : ρ (F + x) = X) (hL : ln x = L) (hl : ∀ j, j < n → j ≠ x → ln j = ln' j) : RenE ρ m (famE F n ln) ((famE F n ln').set x [.os X 2 L ex]) := by
 refine RenE.get (by simp [famE_len]) fun j d d' h1 h2 => ?_
 have hj := famE_lt h1
 rw [famE_at hj] at h1
 cases h1
 by_cases he : j = x
 · subst he
   rw [List.getElem?_set_self (by rw [famE_len]; exact hj)] at h2
   cases h2
   exact .cons _ _ _ _ (Ren.osN _ _ hL hX (hm j (by omega)) (fun h => by cases h)) .nil
 · rw [List.getElem?_set_ne (fun h => he h.symm), famE_at hj] at h2
   cases h2
   exact .cons _ _ _ _ (Ren.osN _ _ (hl j hj he) (hr j (by omega) he) (hm j (by omega)) (fun h => h)) .nil
theorem RenE.famCSet {F n B x X L : Nat} {ct ct' : Nat → Int} {c : Int} {ln ln' : Nat → Nat} {ex : Bool} (hB : n ≤ B) (hr : ∀ j, j < B → j ≠ x → ρ (F + j) = F + j) (hm : ∀ j, j < B → F + j < m) (hX : ρ (F + x) = X) (hL : ln x = L) (hl : ∀ j, j < n → j ≠ x → ln j = ln' j) (hc : ct x = c) (hcl : ∀ j, j < n → j ≠ x → ct j = ct' j) :
   RenE ρ m (famC F n ct ln) ((famC F n ct' ln').set x [int c, .os X 2 L ex]) := by
 refine RenE.get (by simp [famC_len]) fun j d d' h1 h2 => ?_
 have hj := famC_lt h1
 rw [famC_at hj] at h1
 cases h1
 by_cases he : j = x
 · subst he
   rw [List.getElem?_set_self (by rw [famC_len]; exact hj)] at h2
   cases h2
   rw [hc]
   exact .cons _ _ _ _ (.lit _) (.cons _ _ _ _ (Ren.osN _ _ hL hX (hm j (by omega)) (fun h => by cases h)) .nil)
 · rw [List.getElem?_set_ne (fun h => he h.symm), famC_at hj] at h2
   cases h2
   rw [hcl j hj he]
   exact .cons _ _ _ _ (.lit _) (.cons _ _ _ _ (Ren.osN _ _ (hl j hj he) (hr j (by omega) he) (hm j (by omega)) (fun h => h)) .nil)
end
section
variable {fr : Bool} {h : Hp}
theorem PurE.get : ∀ {a b : List (List V)}, a.length = b.length → (∀ (j : Nat) (d d' : List V), a[j]? = some d → b[j]? = some d' → PurI fr h d d') → PurE fr h a b
 | [], [], _, _ => .nil
 | _ :: _, [], h, _ => by cases h
 | [], _ :: _, h, _ => by cases h
 | d :: a, d' :: b, h, hc => .cons _ _ _ _ (hc 0 d d' rfl rfl) (PurE.get (by simpa using h) fun j x y hx hy => hc (j + 1) x y (by simpa using hx) (by simpa using hy))
theorem PurE.fam {F n : Nat} {ln : Nat → Nat} {bs : List Box} (hn : bs.length = n) (hl : ∀ j, j < n → ln j = (bs.getD j default).length) (hh : ∀ j, j < n → h (F + j) = some ⟨2, (bs.getD j default).map encS, 60, .fz⟩) : PurE true h ((famE F n ln).take n) (bs.map encB) := by
 rw [List.take_of_length_le (by rw [famE_len]; exact Nat.le_refl _)]
 refine PurE.get (by rw [famE_len, List.length_map, hn]) fun j d d' h1 h2 => ?_
 have hj := famE_lt h1
 rw [famE_at hj] at h1
 rw [List.getElem?_map, List.getElem?_eq_getElem (by omega)] at h2
 cases h1
 cases h2
 have e : bs.getD j default = bs[j] := getD_default (by omega)
 have h3 := hh j hj
 have h4 := hl j hj
 rw [e] at h3 h4
 rw [h4]
 refine .cons _ _ _ _ (Pur.osR h3 rfl (by rw [List.length_map]; exact Nat.le_refl _) (fun h => h) ?_) .nil
 rw [List.take_of_length_le (by rw [List.length_map]; exact Nat.le_refl _)]
 exact .puE (by first | assumption | (simp only [go_sem] <;> assumption) | (simp only [go_sem, *]; done) | (simp [go_sem]; done))
theorem PurE.famCt {F n : Nat} {ct : Nat → Int} {ln : Nat → Nat} {cs : List Bill} (hn : cs.length = n) (hc : ∀ j, j < n → ct j = (cs.getD j default).1) (hl : ∀ j, j < n → ln j = (cs.getD j default).2.length) (hh : ∀ j, j < n → h (F + j) = some ⟨2, (cs.getD j default).2.map encS, 60, .fz⟩) : PurE true h ((famC F n ct ln).take n) (cs.map encBill) := by
 rw [List.take_of_length_le (by rw [famC_len]; exact Nat.le_refl _)]
 refine PurE.get (by rw [famC_len, List.length_map, hn]) fun j d d' h1 h2 => ?_
 have hj := famC_lt h1
 rw [famC_at hj] at h1
 rw [List.getElem?_map, List.getElem?_eq_getElem (by omega)] at h2
 cases h1
 cases h2
 have e : cs.getD j default = cs[j] := getD_default (by omega)
 have h3 := hh j hj
 have h4 := hl j hj
 have h5 := hc j hj
 rw [e] at h3 h4 h5
 rw [h4, h5]
 refine .cons _ _ _ _ (.pu _ (.lit _)) (.cons _ _ _ _ (Pur.osR h3 rfl (by rw [List.length_map]; exact Nat.le_refl _) (fun h => h) ?_) .nil)
 rw [List.take_of_length_le (by rw [List.length_map]; exact Nat.le_refl _)]
 exact .puE (by first | assumption | (simp only [go_sem] <;> assumption) | (simp only [go_sem, *]; done) | (simp [go_sem]; done))
end
end Go.Aw
end
section
namespace Go.Aw
open Go.RowKit
def rhoF (n : Nat) (id : Nat) : Nat := if id < n then id + 9223372036854775808 else id - n
section
variable {P : Program} {g : FuncId} {args args' : List V} {nx nx0 : Nat} {l rows rows0 : List (Nat × Option Blk)} {r0 r' : V}
theorem hget_app2 (i : Nat) : ∀ (a b : List (Nat × Option Blk)) (x : Option Blk), hget i (a ++ b) = some x → hget i a = some x ∨ hget i b = some x
 | [], b, x, h => .inr h
 | p :: a, b, x, h => by
   obtain ⟨j, y⟩ := p
   simp only [List.cons_append, hget] at h ⊢
   by_cases e : i = j
   · rw [if_pos e] at h ⊢; exact .inl h
   · rw [if_neg e] at h ⊢; exact hget_app2 i a b x h
theorem RH.join {w : World} {own : Nat → Prop} {ok : Nat → Nat → Prop} {s s0 : Nat → Option Nat} {h h0 h' : Hp} (hr : RH w own ok s h) {own0 : Nat → Prop} (hr0 : RH w own0 ok s0 h0) (hd : ∀ b, own b → ¬ own0 b) (hfr : ∀ id, nx ≤ id → s id = none ∧ h id = none)
   (hfr0 : ∀ id, nx0 ≤ id → s0 id = none ∧ h0 id = none) (hn : nx0 ≤ 9223372036854775808)
   (hh : ∀ id b', h' id = some b' → (id < nx ∧ h id = some b') ∨ (nx ≤ id ∧ id < nx + nx0 ∧ (nx0 ≤ rhoF nx id ∧ 0 < b'.k ∧ b'.es = [] ∨ ∃ b, h0 (rhoF nx id) = some b ∧ b'.k = b.k ∧ b'.ty = b.ty ∧ b'.mode = b.mode ∧ RenE (rhoF nx) (nx + nx0) b'.es b.es))) :
   RH w (fun b => own b ∨ own0 b) ok (fun id => if id < nx then s id else s0 (id - nx)) h' := by
 let s' : Nat → Option Nat := fun id => if id < nx then s id else s0 (id - nx)
 show RH w _ ok s' h'
 have hs1 : ∀ id B, s id = some B → s' id = some B := fun id B hB => by
   have : id < nx := by
     rcases Nat.lt_or_ge id nx with h1 | h1
     · exact h1
     · rw [(hfr id h1).1] at hB; cases hB
   simp only [s', if_pos this]; exact hB
 have hs0 : ∀ id B, id < nx + nx0 → s0 (rhoF nx id) = some B → s' id = some B := fun id B _ hB => by
   unfold rhoF at hB
   split at hB
   · rw [(hfr0 _ (by omega)).1] at hB; cases hB
   · rename_i h1; simp only [s', if_neg h1]; exact hB
 have hs2 : ∀ id B, nx ≤ id → s' id = some B → s0 (rhoF nx id) = some B := fun id B h1 hB => by
   simp only [s', if_neg (Nat.not_lt.2 h1)] at hB
   unfold rhoF; rw [if_neg (Nat.not_lt.2 h1)]; exact hB
 have hs3 : ∀ id B, id < nx → s' id = some B → s id = some B := fun id B h1 hB => by
   simp only [s', if_pos h1] at hB; exact hB
 refine ⟨hr.okw, fun b hb => ?_, fun id B hB => ?_, fun id b' hb' => ?_, fun id1 id2 b1 b2 B g1 g2 m1 m2 e1 e2 => ?_, hr.gl⟩
 · rcases hb with hb | hb
   · exact hr.ownw b hb
   · exact hr0.ownw b hb
 · rcases Nat.lt_or_ge id nx with h1 | h1
   · exact hr.sw id B (hs3 id B h1 hB)
   · exact hr0.sw _ B (hs2 id B h1 hB)
 · rcases hh id b' hb' with ⟨h1, h2⟩ | ⟨h1, h1', hrow⟩
   · have hbk := hr.blk id b' h2
     refine ⟨hbk.pos, hbk.len, fun hv => hbk.virt (by simpa [s', h1] using hv), fun B hB hm => ⟨.inl (hbk.own B (hs3 id B h1 hB) hm).1, (hbk.own B (hs3 id B h1 hB) hm).2⟩, fun B hB => hbk.shape B (hs3 id B h1 hB), fun B hB i j e d hi hj => ?_,
       fun B hB => hbk.fwr B (hs3 id B h1 hB), fun B hB => hbk.ffz B (hs3 id B h1 hB), fun B hB => hbk.fold B (hs3 id B h1 hB)⟩
     obtain ⟨u, g1, g2⟩ := hbk.cells B (hs3 id B h1 hB) i j e d hi hj
     exact ⟨u, g1, g2.keep (fun _ _ h => ⟨h, rfl⟩) (fun _ _ _ h => h) hs1⟩
   · rcases hrow with ⟨hv, hk, he⟩ | ⟨b, hb, hk, hty, hm, he⟩
     · have hno : ∀ B, s' id = some B → False := fun B hB => by
         have := hs2 id B h1 hB
         rw [(hfr0 _ hv).1] at this; cases this
       exact ⟨hk, fun e h => (by rw [he] at h; cases h), fun _ => he, fun B hB => (hno B hB).elim, fun B hB => (hno B hB).elim, fun B hB => (hno B hB).elim, fun B hB => (hno B hB).elim, fun B hB => (hno B hB).elim, fun B hB => (hno B hB).elim⟩
     · have hbk := hr0.blk _ _ hb
       obtain ⟨el, ei⟩ := he.spec
       refine ⟨by rw [hk]; exact hbk.pos, fun e h => ?_, fun h => ?_, fun B hB hmm => ⟨.inr (hbk.own B (hs2 id B h1 hB) (by rw [← hm]; exact hmm)).1, (hbk.own B (hs2 id B h1 hB) (by rw [← hm]; exact hmm)).2⟩, fun B hB => ?_, fun B hB i j e d hi hj => ?_, fun B hB hmm => hbk.fwr B (hs2 id B h1 hB) (by rw [← hm]; exact hmm), fun B hB hmm o => ?_, fun B hB hmm o ho => ?_⟩
       · obtain ⟨i, hi, rfl⟩ := List.getElem_of_mem h
         have hi' : i < b.es.length := by omega
         rw [hk, (ei i _ _ (List.getElem?_eq_getElem hi) (List.getElem?_eq_getElem hi')).spec.1]
         exact hbk.len _ (List.getElem_mem hi')
       · have : s0 (rhoF nx id) = none := by
           unfold rhoF; rw [if_neg (Nat.not_lt.2 h1)]
           simpa [s', Nat.not_lt.2 h1] using h
         have := hbk.virt this
         rw [this] at el
         exact List.eq_nil_of_length_eq_zero (by simpa using el)
       · obtain ⟨sz, g1, g2⟩ := hbk.shape B (hs2 id B h1 hB)
         exact ⟨sz, by rw [hty]; exact g1, by rw [hk, el]; exact g2⟩
       · have hi' : i < b.es.length := by have := (List.getElem?_eq_some_iff.1 hi).1; omega
         obtain ⟨jl, jr⟩ := (ei i _ _ hi (List.getElem?_eq_getElem hi')).spec
         have hj' : j < (b.es[i]).length := by have := (List.getElem?_eq_some_iff.1 hj).1; omega
         obtain ⟨u, g1, g2⟩ := hbk.cells B (hs2 id B h1 hB) i j _ _ (List.getElem?_eq_getElem hi') (List.getElem?_eq_getElem hj')
         exact ⟨u, by rw [hk]; exact g1, g2.ren (jr j _ _ hj (List.getElem?_eq_getElem hj')) hs0⟩
       · rw [hk, el]; exact hbk.ffz B (hs2 id B h1 hB) (by rw [← hm]; exact hmm) o
       · rw [hk, el] at ho; exact hbk.fold B (hs2 id B h1 hB) (by rw [← hm]; exact hmm) o ho
 · have hno : ∀ id B, nx ≤ id → nx0 ≤ rhoF nx id → s' id = some B → False := fun id B h1 hv hB => by
     have := hs2 id B h1 hB
     rw [(hfr0 _ hv).1] at this; cases this
   have own1 : ∀ id b B, h id = some b → b.mode ≠ .old → s id = some B → own B := fun id b B h1 h2 h3 => ((hr.blk id b h1).own B h3 h2).1
   have own2 : ∀ id b B, h0 id = some b → b.mode ≠ .old → s0 id = some B → own0 B := fun id b B h1 h2 h3 => ((hr0.blk id b h1).own B h3 h2).1
   rcases hh id1 b1 g1 with ⟨a1, a2⟩ | ⟨a1, a2, a3⟩
   · rcases hh id2 b2 g2 with ⟨c1, c2⟩ | ⟨c1, c2, c3⟩
     · exact hr.exc id1 id2 b1 b2 B a2 c2 m1 m2 (hs3 _ _ a1 e1) (hs3 _ _ c1 e2)
     · rcases c3 with ⟨c3, _⟩ | ⟨b, q1, _, _, q4, _⟩
       · exact (hno _ _ c1 c3 e2).elim
       · exact (hd B (own1 _ _ _ a2 m1 (hs3 _ _ a1 e1)) (own2 _ _ _ q1 (by rw [← q4]; exact m2) (hs2 _ _ c1 e2))).elim
   · rcases a3 with ⟨a3, _⟩ | ⟨b, q1, _, _, q4, _⟩
     · exact (hno _ _ a1 a3 e1).elim
     rcases hh id2 b2 g2 with ⟨c1, c2⟩ | ⟨c1, c2, c3⟩
     · exact (hd B (own1 _ _ _ c2 m2 (hs3 _ _ c1 e2)) (own2 _ _ _ q1 (by rw [← q4]; exact m1) (hs2 _ _ a1 e1))).elim
     · rcases c3 with ⟨c3, _⟩ | ⟨b', p1, _, _, p4, _⟩
       · exact (hno _ _ c1 c3 e2).elim
       · have := hr0.exc _ _ b b' B q1 p1 (by rw [← q4]; exact m1) (by rw [← p4]; exact m2) (hs2 _ _ a1 e1) (hs2 _ _ c1 e2)
         unfold rhoF at this
         rw [if_neg (Nat.not_lt.2 a1), if_neg (Nat.not_lt.2 c1)] at this
         omega
theorem CallH.fresh (hc : CallH P g args' (fun _ => none) 0 (fun r h n => r = r0 ∧ h = hpOf (fun _ => none) rows0 ∧ n = nx0)) (hp : PurL true (hpOf (fun _ => none) l) args args') (hn : nx0 ≤ 9223372036854775808)
   (hr' : Ren (rhoF nx) (nx + nx0) r' r0) (hrows : RowsRen (rhoF nx) (nx + nx0) nx0 (hpOf (fun _ => none) rows0) rows) (hge : (rows.all fun p => decide (nx ≤ p.1)) = true) :
   CallH P g args (hpOf (fun _ => none) l) nx (fun r h n => r = r' ∧ h = hpOf (fun _ => none) (l ++ rows) ∧ n = nx + nx0) := by
 intro w own ok s vals hrh hfr hsz hvals
 have hrh0 : RH w (fun _ => False) ok (fun _ => none) (fun _ => none) := ⟨hrh.okw, fun b hb => hb.elim, (fun id B hB => by cases hB), (fun id b hb => by cases hb), (fun id1 id2 b1 b2 B h1 => by cases h1), hrh.gl⟩
 have hok : ∀ b o, okT ok s (hpOf (fun _ => none) l) true b o → ok b o := fun b o h => by
   rcases h with h | ⟨h, _⟩
   · exact h
   · cases h
 have hargs : ∀ (i : Nat) (d : V) (v : Value), args'[i]? = some d → vals[i]? = some v → Rep w ok (fun _ => none) v d := fun i d v hd hv => by
   have hi : i < args.length := by rw [hp.1]; exact (List.getElem?_eq_some_iff.1 hd).1
   exact ((hp.2 i _ d (List.getElem?_eq_getElem hi) hd).rep hrh (hvals i _ v (List.getElem?_eq_getElem hi) hv)).keep (fun b o h => ⟨hok b o h, rfl⟩) (fun _ _ _ h => h) (fun _ _ h => h)
 refine CallsIn.mono (hc w _ ok _ vals hrh0 (fun id _ => ⟨rfl, rfl⟩) (hsz.trans hp.1) hargs) ?_
 rintro e w' ⟨v, r, h0, n, own0, ok0, s0, rfl, ⟨rfl, rfl, rfl⟩, g1, g2, g3, _, g5, _⟩
 obtain ⟨k1, k2⟩ := hrh.called g3 g1.okw
 have hd : ∀ b, own b → ¬ own0 b := fun b hb h0 => by
   rcases g3.ownn b h0 with h | h
   · exact h
   · have := hrh.ownw b hb; omega
 have hj := RH.join (nx := nx) (h' := hpOf (fun _ => none) (l ++ rows)) k1 g1 hd hfr g5 hn fun id b' hb' => by
   unfold hpOf at hb'
   split at hb'
   · rename_i x hx
     rcases hget_app2 id l rows x hx with h1 | h1
     · left
       have : hpOf (fun _ => none) l id = some b' := by unfold hpOf; rw [h1]; exact hb'
       refine ⟨?_, this⟩
       rcases Nat.lt_or_ge id nx with h2 | h2
       · exact h2
       · rw [(hfr id h2).2] at this; cases this
     · right
       subst hb'
       obtain ⟨q1, q2⟩ := hrows.spec id b' h1
       have h3 : nx ≤ id := by
         obtain ⟨p, hp1, hp2⟩ := List.mem_map.1 (hget_key h1)
         have := List.all_eq_true.1 hge p hp1
         rw [decide_eq_true_eq] at this
         rw [← hp2]; exact this
       exact ⟨h3, q1, q2⟩
   · cases hb'
 refine ⟨v, r', _, _, _, ok0, _, rfl, ⟨rfl, rfl, rfl⟩, hj, g2.ren hr' fun id B hid hB => ?_, ⟨k2.os, k2.tape, k2.output, k2.size, k2.unch, fun b hb => ?_, k2.okk, k2.okc, k2.okn, k2.shape, k2.ctl⟩, Nat.le_add_right _ _, fun id hid => ⟨?_, ?_⟩, fun id hid => ?_⟩
 · unfold rhoF at hB
   split at hB
   · rw [(g5 _ (by omega)).1] at hB; cases hB
   · rename_i h1; simp only [if_neg h1]; exact hB
 · rcases hb with hb | hb
   · exact .inl hb
   · rcases g3.ownn b hb with h | h
     · exact h.elim
     · exact .inr h
 · rw [if_neg (by omega)]
   exact (g5 _ (by omega)).1
 · cases hh : hpOf (fun _ => none) (l ++ rows) id with
   | none => rfl
   | some b' =>
     exfalso
     unfold hpOf at hh
     split at hh
     · rename_i x hx
       subst hh
       rcases hget_app2 id l rows _ hx with h1 | h1
       · have : hpOf (fun _ => none) l id = some b' := by unfold hpOf; rw [h1]
         rw [(hfr id (by omega)).2] at this; cases this
       · have := (hrows.spec id b' h1).1
         omega
     · cases hh
 · simp only [if_pos hid]
end
theorem RenE.famShift {ρ : Nat → Nat} {m : Nat} {F F' n B : Nat} {ln : Nat → Nat} (hB : n ≤ B) (hr : ∀ j, j < B → ρ (F' + j) = F + j ∧ F' + j < m) : RenE ρ m (famE F' n ln) (famE F n ln) := by
 refine RenE.get (by simp only [famE_len]) fun j d d' h1 h2 => ?_
 have hj := famE_lt h1
 rw [famE_at hj] at h1 h2
 cases h1
 cases h2
 have := hr j (by omega)
 exact .cons _ _ _ _ (Ren.osN _ _ rfl this.1 this.2 (fun h => h)) .nil
theorem RenE.famCtShift {ρ : Nat → Nat} {m : Nat} {F F' n B : Nat} {ct : Nat → Int} {ln : Nat → Nat} (hB : n ≤ B) (hr : ∀ j, j < B → ρ (F' + j) = F + j ∧ F' + j < m) : RenE ρ m (famC F' n ct ln) (famC F n ct ln) := by
 refine RenE.get (by simp only [famC_len]) fun j d d' h1 h2 => ?_
 have hj := famC_lt h1
 rw [famC_at hj] at h1 h2
 cases h1
 cases h2
 have := hr j (by omega)
 exact .cons _ _ _ _ (.lit _) (.cons _ _ _ _ (Ren.osN _ _ rfl this.1 this.2 (fun h => h)) .nil)
end Go.Aw
end
section
set_option maxRecDepth 20000
set_option maxHeartbeats 4000000
namespace Go.Aw
open Go.RowKit Go.Proofs
theorem weak_do3 (ρl : List (Nat × Nat)) {tm tm' : List V} {h : Hp} {l' : List (Nat × Option Blk)} {nx nx' : Nat} {gh : Gh} (hlow : (ρl.all fun p => decide (gh.lim ≤ p.1)) = true := by rfl)
   (ht : RenL (renOf ρl) nx' tm' tm := by
     repeat' (first
       | with_reducible (first | exact RenL.nil | refine RenL.cons _ _ _ _ ?_ ?_ | exact Ren.any _ | exact Ren.lit _)
       | (with_reducible (first | refine Ren.int _ _ _ ?_ | refine Ren.bool _ _ ?_)) <;> (first | rfl | omega | (simp <;> omega) | (simp only [go_sem]; done) | (push_cast; omega))
       | with_reducible (first | exact Ren.nil _ _ _ | exact Ren.nilsl _ _ | exact RowsRen.nil | exact RenE.nil)
       | (with_reducible refine Ren.ref _ _ _ _ _ ?_ ?_) <;> decide
       | (with_reducible refine Ren.osN _ _ ?_ ?_ ?_ ?_) <;> (first | decide | first | rfl | omega | (simp <;> omega) | (simp only [go_sem]; done) | (push_cast; omega) | (intro h; exact h) | (intro h; cases h))
       | with_reducible (first | refine Ren.fnL _ _ ?_ ?_ | refine Ren.aggL _ _ ?_)
       | (with_reducible (first | refine Ren.pu _ ?_ | refine RenE.puE ?_)) <;> (first | assumption | (simp only [go_sem] <;> assumption) | (simp only [go_sem, *]; done) | (simp [go_sem]; done))
       | (with_reducible apply RowsRen.row); (focus decide); (focus rfl)
       | (with_reducible refine RowsRen.virt _ _ _ _ _ ?_ ?_ ?_ ?_); (focus decide); (focus decide); (focus decide)
       | with_reducible (first | refine RowsRen.gone _ _ ?_ | refine RenE.cons _ _ _ _ ?_ ?_)
       | (with_reducible (first | refine Ren.slE _ _ _ ?_ ?_ | refine RenE.eqE ?_ ?_)); (focus (first | rfl | omega | (simp <;> omega) | (simp only [go_sem]; done) | (push_cast; omega))); (focus (first | assumption | (simp only [go_sem] <;> assumption) | (simp only [go_sem, *]; done) | (simp [go_sem]; done)))
       | (with_reducible refine RenL.puL ?_) <;> (first | assumption | (simp only [go_sem] <;> assumption) | (simp only [go_sem, *]; done) | (simp [go_sem]; done))
       | (with_reducible refine RenL.eqL ?_ ?_); (focus (first | rfl | omega | (simp <;> omega) | (simp only [go_sem]; done) | (push_cast; omega))); (focus (first | assumption | (simp only [go_sem] <;> assumption) | (simp only [go_sem, *]; done) | (simp [go_sem]; done)))))
   (hh : RowsRen (renOf ρl) nx' nx h l' := by
     repeat' (first
       | with_reducible (first | exact RenL.nil | refine RenL.cons _ _ _ _ ?_ ?_ | exact Ren.any _ | exact Ren.lit _)
       | (with_reducible (first | refine Ren.int _ _ _ ?_ | refine Ren.bool _ _ ?_)) <;> (first | rfl | omega | (simp <;> omega) | (simp only [go_sem]; done) | (push_cast; omega))
       | with_reducible (first | exact Ren.nil _ _ _ | exact Ren.nilsl _ _ | exact RowsRen.nil | exact RenE.nil)
       | (with_reducible refine Ren.ref _ _ _ _ _ ?_ ?_) <;> decide
       | (with_reducible refine Ren.osN _ _ ?_ ?_ ?_ ?_) <;> (first | decide | first | rfl | omega | (simp <;> omega) | (simp only [go_sem]; done) | (push_cast; omega) | (intro h; exact h) | (intro h; cases h))
       | with_reducible (first | refine Ren.fnL _ _ ?_ ?_ | refine Ren.aggL _ _ ?_)
       | (with_reducible (first | refine Ren.pu _ ?_ | refine RenE.puE ?_)) <;> (first | assumption | (simp only [go_sem] <;> assumption) | (simp only [go_sem, *]; done) | (simp [go_sem]; done))
       | (with_reducible apply RowsRen.row); (focus decide); (focus rfl)
       | (with_reducible refine RowsRen.virt _ _ _ _ _ ?_ ?_ ?_ ?_); (focus decide); (focus decide); (focus decide)
       | with_reducible (first | refine RowsRen.gone _ _ ?_ | refine RenE.cons _ _ _ _ ?_ ?_)
       | (with_reducible refine RenE.setR ?_ ?_); (focus (first | assumption | (simp only [go_sem] <;> assumption) | (simp only [go_sem, *]; done) | (simp [go_sem]; done)))
       | (with_reducible refine RenE.fam (B := 8) ?_ ?_ ?_) <;> (first | omega | decide | (intro j hj; rfl) | assumption)
       | (with_reducible refine RenE.famCt (B := 3) ?_ ?_ ?_ ?_) <;> (first | omega | decide | (intro j hj; rfl) | assumption)
       | (with_reducible refine RenE.famSnoc rfl ?_ ?_ ?_ ?_) <;> (first | decide | rfl | first | rfl | omega | (simp <;> omega) | (simp only [go_sem]; done) | (push_cast; omega))
       | (with_reducible refine RenE.famCSnoc rfl ?_ ?_ ?_ ?_ ?_) <;> (first | decide | rfl | first | rfl | omega | (simp <;> omega) | (simp only [go_sem]; done) | (push_cast; omega))
       | (with_reducible refine RenE.famSet (B := 8) ?_ ?_ ?_ ?_ ?_ ?_) <;> (first | omega | decide | rfl | assumption | first | rfl | omega | (simp <;> omega) | (simp only [go_sem]; done) | (push_cast; omega))
       | (with_reducible refine RenE.famCSet (B := 3) ?_ ?_ ?_ ?_ ?_ ?_ ?_ ?_) <;> (first | omega | decide | rfl | assumption | (intro j _ _; rfl) | first | rfl | omega | (simp <;> omega) | (simp only [go_sem]; done) | (push_cast; omega))
       | (with_reducible (first | refine Ren.slE _ _ _ ?_ ?_ | refine RenE.eqE ?_ ?_)); (focus (first | rfl | omega | (simp <;> omega) | (simp only [go_sem]; done) | (push_cast; omega))); (focus (first | assumption | (simp only [go_sem] <;> assumption) | (simp only [go_sem, *]; done) | (simp [go_sem]; done)))
       | (with_reducible refine RenL.puL ?_) <;> (first | assumption | (simp only [go_sem] <;> assumption) | (simp only [go_sem, *]; done) | (simp [go_sem]; done))
       | (with_reducible refine RenL.eqL ?_ ?_); (focus (first | rfl | omega | (simp <;> omega) | (simp only [go_sem]; done) | (push_cast; omega))); (focus (first | assumption | (simp only [go_sem] <;> assumption) | (simp only [go_sem, *]; done) | (simp [go_sem]; done)))))
   (hi : renInj (renOf ρl) (keysOf l') = true := by rfl) (hl : gh.lim ≤ nx' := by exact Nat.le_of_ble_eq_true rfl) : Weak ⟨tm, h, nx, gh⟩ ⟨tm', hpOf (fun _ => none) l', nx', gh⟩ := Weak.rows ρl hl hlow ht hh hi
def lnB (bs : List Box) (j : Nat) : Nat := (bs.getD j default).length
def lnC (cs : List Bill) (j : Nat) : Nat := (cs.getD j default).2.length
def ctC (cs : List Bill) (j : Nat) : Int := (cs.getD j default).1
def rowB (bs : List Box) (i j : Nat) : List (List V) := if j < i then (bs.getD j default).map encS else []
def rowC (cs : List Bill) (i j : Nat) : List (List V) := if j < i then (cs.getD j default).2.map encS else []
theorem rowB_zero (bs : List Box) (j : Nat) : rowB bs 0 j = [] := rfl
theorem rowC_zero (cs : List Bill) (j : Nat) : rowC cs 0 j = [] := rfl
@[go_sem] theorem rowB_pu (bs : List Box) (i j : Nat) : PuE (rowB bs i j) = True := by
 unfold rowB; split
 · first | assumption | (simp only [go_sem] <;> assumption) | (simp only [go_sem, *]; done) | (simp [go_sem]; done)
 · first | assumption | (simp only [go_sem] <;> assumption) | (simp only [go_sem, *]; done) | (simp [go_sem]; done)
@[go_sem] theorem rowC_pu (cs : List Bill) (i j : Nat) : PuE (rowC cs i j) = True := by
 unfold rowC; split
 · first | assumption | (simp only [go_sem] <;> assumption) | (simp only [go_sem, *]; done) | (simp [go_sem]; done)
 · first | assumption | (simp only [go_sem] <;> assumption) | (simp only [go_sem, *]; done) | (simp [go_sem]; done)
theorem famE_zero (F : Nat) (ln : Nat → Nat) : famE F 0 ln = [] := rfl
theorem famC_zero (F : Nat) (ct : Nat → Int) (ln : Nat → Nat) : famC F 0 ct ln = [] := rfl
def ownRows (bs : List Box) (cs : List Bill) : List (Nat × Option Blk) := [(0, some ⟨2, [loadC bs cs], 25, .wr⟩), (64, some ⟨2, [[nilV, nilV]], 25, .wr⟩), (192, some ⟨2, [loadC bs cs], 25, .wr⟩), (256, some ⟨2, [[.os 193 1 bs.length false, .os 194 2 cs.length false]], 25, .wr⟩), (384, some ⟨2, [[.os 193 1 bs.length false, .os 194 2 cs.length false]], 25, .wr⟩), (193, some ⟨1, famE 200 bs.length (lnB bs), 67, .wr⟩), (194, some ⟨2, famC 208 cs.length (ctC cs) (lnC cs), 64, .wr⟩), (200, some ⟨2, rowB bs bs.length 0, 60, .wr⟩), (201, some ⟨2, rowB bs bs.length 1, 60, .wr⟩), (202, some ⟨2, rowB bs bs.length 2, 60, .wr⟩), (203, some ⟨2, rowB bs bs.length 3, 60, .wr⟩), (204, some ⟨2, rowB bs bs.length 4, 60, .wr⟩), (205, some ⟨2, rowB bs bs.length 5, 60, .wr⟩), (206, some ⟨2, rowB bs bs.length 6, 60, .wr⟩), (207, some ⟨2, rowB bs bs.length 7, 60, .wr⟩), (208, some ⟨2, rowC cs cs.length 0, 60, .wr⟩), (209, some ⟨2, rowC cs cs.length 1, 60, .wr⟩), (210, some ⟨2, rowC cs cs.length 2, 60, .wr⟩)]
end Go.Aw
end
section
set_option maxRecDepth 20000
set_option maxHeartbeats 4000000
namespace Go.Aw
open Go.RowKit Go.Proofs
def ownRowsF (bs : List Box) (cs : List Bill) : List (Nat × Option Blk) := [(0, some ⟨2, [loadC bs cs], 25, .wr⟩), (64, some ⟨2, [[.os 1 1 bs.length false, .os 2 2 cs.length false]], 25, .wr⟩), (192, some ⟨2, [[.os 1 1 bs.length false, .os 2 2 cs.length false]], 25, .wr⟩), (1, some ⟨1, famE 8 bs.length (lnB bs), 67, .wr⟩), (2, some ⟨2, famC 16 cs.length (ctC cs) (lnC cs), 64, .wr⟩), (8, some ⟨2, rowB bs bs.length 0, 60, .wr⟩), (9, some ⟨2, rowB bs bs.length 1, 60, .wr⟩), (10, some ⟨2, rowB bs bs.length 2, 60, .wr⟩), (11, some ⟨2, rowB bs bs.length 3, 60, .wr⟩), (12, some ⟨2, rowB bs bs.length 4, 60, .wr⟩), (13, some ⟨2, rowB bs bs.length 5, 60, .wr⟩), (14, some ⟨2, rowB bs bs.length 6, 60, .wr⟩), (15, some ⟨2, rowB bs bs.length 7, 60, .wr⟩), (16, some ⟨2, rowC cs cs.length 0, 60, .wr⟩), (17, some ⟨2, rowC cs cs.length 1, 60, .wr⟩), (18, some ⟨2, rowC cs cs.length 2, 60, .wr⟩)]
theorem own_F (bs : List Box) (cs : List Bill) (hz : SizeOk bs cs) (h8 : bs.length ≤ 8) (h3 : cs.length ≤ 3) :
   CallH Tryd.prog 38 [encLoad bs cs] (fun _ => none) 0 (fun r h' nx' => r = .agg [.os 1 1 bs.length false, .os 2 2 cs.length false] ∧ h' = hpOf (fun _ => none) (ownRowsF bs cs) ∧ nx' = 1216) := by
 obtain ⟨hnb, hnc, hlb, hlc⟩ := hz
 refine callH_enter Tryd.func38 rfl Tryd.results38 Tryd.ntmps38 rfl (by simp (maxSteps := 1000000) -implicitDefEqProofs (disch := omega) only [go_sem]; rfl) fun base => ?_
 repeat' (first
   | (with_reducible apply Req_intro); focus (first | omega | assumption | (simp; done))
   | with_reducible (first | apply Req_intro | refine nilT ?_ fun hn => ?_ | apply wk_draw Tryd_mixed | refine drawEnd (by kernel_rfl) ?_)
   | (with_reducible (first | apply condA_if | apply stepDG_ifN | apply stepDG_if | apply stepG_ifN | apply stepG_if)) <;> intro hb <;> (have hif := hb) <;> (try simp only [bo] at hif) <;> (try simp -implicitDefEqProofs (disch := omega) only [go_sem, hb]) <;> clear hb
   | simp (maxSteps := 1000000) -implicitDefEqProofs (disch := omega) only [go_sem])
 refine loop_rows (α := Nat) [4, 7, 8, 9, 10, 11, 12, 13, 14, 15, 16, 17, 18, 19, 20, 21, 22, 23, 24, 25, 26, 27] (fun i => [(4, .lit (.int .i64 i))]) (fun i => [(0, some ⟨2, [loadC bs cs], 25, .wr⟩), (64, some ⟨2, [[nilV, nilV]], 25, .wr⟩), (192, some ⟨2, [[.os 1 1 i false, nilV]], 25, .wr⟩), (1, some ⟨1, famE 8 i (lnB bs), 67, .wr⟩), (8, some ⟨2, rowB bs i 0, 60, .wr⟩), (9, some ⟨2, rowB bs i 1, 60, .wr⟩), (10, some ⟨2, rowB bs i 2, 60, .wr⟩), (11, some ⟨2, rowB bs i 3, 60, .wr⟩), (12, some ⟨2, rowB bs i 4, 60, .wr⟩), (13, some ⟨2, rowB bs i 5, 60, .wr⟩), (14, some ⟨2, rowB bs i 6, 60, .wr⟩), (15, some ⟨2, rowB bs i 7, 60, .wr⟩)]) (fun i => i ≤ bs.length) (fun i => bs.length - i) 0 (fun x => by simp (maxSteps := 1000000) -implicitDefEqProofs (disch := omega) only [go_sem]; rfl) ?_ ?_ fun x hx => ?_
 · simp only [famE_zero, rowB_zero]
   exact weak_do3 [(1, 1000000), (8, 1000001), (9, 1000002), (10, 1000003), (11, 1000004), (12, 1000005), (13, 1000006), (14, 1000007), (15, 1000008)]
 · exact Nat.zero_le _
 by_cases hlt : x < bs.length
 · have hl := hlb _ (getD_mem hlt)
   repeat' (first
     | (with_reducible apply Req_intro); focus (first | omega | assumption | (simp; done))
     | with_reducible (first | apply Req_intro | refine nilT ?_ fun hn => ?_ | apply wk_draw Tryd_mixed | refine drawEnd (by kernel_rfl) ?_)
     | (with_reducible (first | apply condA_if | apply stepDG_ifN | apply stepDG_if | apply stepG_ifN | apply stepG_if)) <;> intro hb <;> (have hif := hb) <;> (try simp only [bo] at hif) <;> (try simp -implicitDefEqProofs (disch := omega) only [go_sem, hb]) <;> clear hb
     | simp (maxSteps := 1000000) -implicitDefEqProofs (disch := omega) only [go_sem])
   all_goals first | exact absurd trivial ‹¬True› | (exfalso; omega) | omega | skip
   have hx8 : x < 8 := by omega
   clear hx hif
   rcases Nat.eq_or_lt_of_le (show 0 ≤ x by omega) with he | he
   · subst he
     with_reducible refine nxt_w (0 + 1) ?_ ?_
     · (try dsimp only)
       skip
       exact weak_do3 [(1, 1472), (8, 1280)]
     try dsimp only
     omega
   rcases Nat.eq_or_lt_of_le (show 1 ≤ x by omega) with he | he
   · subst he
     with_reducible refine nxt_w (1 + 1) ?_ ?_
     · (try dsimp only)
       skip
       exact weak_do3 [(1, 1472), (9, 1280)]
     try dsimp only
     omega
   rcases Nat.eq_or_lt_of_le (show 2 ≤ x by omega) with he | he
   · subst he
     with_reducible refine nxt_w (2 + 1) ?_ ?_
     · (try dsimp only)
       skip
       exact weak_do3 [(1, 1472), (10, 1280)]
     try dsimp only
     omega
   rcases Nat.eq_or_lt_of_le (show 3 ≤ x by omega) with he | he
   · subst he
     with_reducible refine nxt_w (3 + 1) ?_ ?_
     · (try dsimp only)
       skip
       exact weak_do3 [(1, 1472), (11, 1280)]
     try dsimp only
     omega
   rcases Nat.eq_or_lt_of_le (show 4 ≤ x by omega) with he | he
   · subst he
     with_reducible refine nxt_w (4 + 1) ?_ ?_
     · (try dsimp only)
       skip
       exact weak_do3 [(1, 1472), (12, 1280)]
     try dsimp only
     omega
   rcases Nat.eq_or_lt_of_le (show 5 ≤ x by omega) with he | he
   · subst he
     with_reducible refine nxt_w (5 + 1) ?_ ?_
     · (try dsimp only)
       skip
       exact weak_do3 [(1, 1472), (13, 1280)]
     try dsimp only
     omega
   rcases Nat.eq_or_lt_of_le (show 6 ≤ x by omega) with he | he
   · subst he
     with_reducible refine nxt_w (6 + 1) ?_ ?_
     · (try dsimp only)
       skip
       exact weak_do3 [(1, 1472), (14, 1280)]
     try dsimp only
     omega
   rcases Nat.eq_or_lt_of_le (show 7 ≤ x by omega) with he | he
   · subst he
     with_reducible refine nxt_w (7 + 1) ?_ ?_
     · (try dsimp only)
       skip
       exact weak_do3 [(1, 1472), (15, 1280)]
     try dsimp only
     omega
   omega
 · obtain rfl : x = bs.length := by omega
   repeat' (first
     | (with_reducible apply Req_intro); focus (first | omega | assumption | (simp; done))
     | with_reducible (first | apply Req_intro | refine nilT ?_ fun hn => ?_ | apply wk_draw Tryd_mixed | refine drawEnd (by kernel_rfl) ?_)
     | (with_reducible (first | apply condA_if | apply stepDG_ifN | apply stepDG_if | apply stepG_ifN | apply stepG_if)) <;> intro hb <;> (have hif := hb) <;> (try simp only [bo] at hif) <;> (try simp -implicitDefEqProofs (disch := omega) only [go_sem, hb]) <;> clear hb
     | simp (maxSteps := 1000000) -implicitDefEqProofs (disch := omega) only [go_sem])
   all_goals first | exact absurd trivial ‹¬True› | (exfalso; omega) | omega | skip
   refine loop_rows (α := Nat) [5, 28, 29, 30, 31, 32, 33, 34, 35, 36, 37, 38, 39, 40, 41, 42, 43, 44, 45, 46, 47, 48, 49, 50, 51, 52, 53, 54] (fun i => [(5, .lit (.int .i64 i))]) (fun i => [(0, some ⟨2, [loadC bs cs], 25, .wr⟩), (64, some ⟨2, [[nilV, nilV]], 25, .wr⟩), (192, some ⟨2, [[.os 1 1 bs.length false, .os 2 2 i false]], 25, .wr⟩), (1, some ⟨1, famE 8 bs.length (lnB bs), 67, .wr⟩), (2, some ⟨2, famC 16 i (ctC cs) (lnC cs), 64, .wr⟩), (8, some ⟨2, rowB bs bs.length 0, 60, .wr⟩), (9, some ⟨2, rowB bs bs.length 1, 60, .wr⟩), (10, some ⟨2, rowB bs bs.length 2, 60, .wr⟩), (11, some ⟨2, rowB bs bs.length 3, 60, .wr⟩), (12, some ⟨2, rowB bs bs.length 4, 60, .wr⟩), (13, some ⟨2, rowB bs bs.length 5, 60, .wr⟩), (14, some ⟨2, rowB bs bs.length 6, 60, .wr⟩), (15, some ⟨2, rowB bs bs.length 7, 60, .wr⟩), (16, some ⟨2, rowC cs i 0, 60, .wr⟩), (17, some ⟨2, rowC cs i 1, 60, .wr⟩), (18, some ⟨2, rowC cs i 2, 60, .wr⟩)]) (fun i => i ≤ cs.length) (fun i => cs.length - i) 0 (fun x => by simp (maxSteps := 1000000) -implicitDefEqProofs (disch := omega) only [go_sem]; rfl) ?_ ?_ fun x hx => ?_
   · simp only [famC_zero, rowC_zero]
     exact weak_do3 [(2, 1000000), (16, 1000001), (17, 1000002), (18, 1000003)]
   · exact Nat.zero_le _
   by_cases hlt : x < cs.length
   · have hl := hlc _ (getD_mem hlt)
     repeat' (first
       | (with_reducible apply Req_intro); focus (first | omega | assumption | (simp; done))
       | with_reducible (first | apply Req_intro | refine nilT ?_ fun hn => ?_ | apply wk_draw Tryd_mixed | refine drawEnd (by kernel_rfl) ?_)
       | (with_reducible (first | apply condA_if | apply stepDG_ifN | apply stepDG_if | apply stepG_ifN | apply stepG_if)) <;> intro hb <;> (have hif := hb) <;> (try simp only [bo] at hif) <;> (try simp -implicitDefEqProofs (disch := omega) only [go_sem, hb]) <;> clear hb
       | simp (maxSteps := 1000000) -implicitDefEqProofs (disch := omega) only [go_sem])
     all_goals first | exact absurd trivial ‹¬True› | (exfalso; omega) | omega | skip
     have hx8 : x < 3 := by omega
     clear hx hif
     rcases Nat.eq_or_lt_of_le (show 0 ≤ x by omega) with he | he
     · subst he
       with_reducible refine nxt_w (0 + 1) ?_ ?_
       · (try dsimp only)
         skip
         exact weak_do3 [(2, 2240), (16, 2048)]
       try dsimp only
       omega
     rcases Nat.eq_or_lt_of_le (show 1 ≤ x by omega) with he | he
     · subst he
       with_reducible refine nxt_w (1 + 1) ?_ ?_
       · (try dsimp only)
         skip
         exact weak_do3 [(2, 2240), (17, 2048)]
       try dsimp only
       omega
     rcases Nat.eq_or_lt_of_le (show 2 ≤ x by omega) with he | he
     · subst he
       with_reducible refine nxt_w (2 + 1) ?_ ?_
       · (try dsimp only)
         skip
         exact weak_do3 [(2, 2240), (18, 2048)]
       try dsimp only
       omega
     omega
   · obtain rfl : x = cs.length := by omega
     repeat' (first
       | (with_reducible apply Req_intro); focus (first | omega | assumption | (simp; done))
       | with_reducible (first | apply Req_intro | refine nilT ?_ fun hn => ?_ | apply wk_draw Tryd_mixed | refine drawEnd (by kernel_rfl) ?_)
       | (with_reducible (first | apply condA_if | apply stepDG_ifN | apply stepDG_if | apply stepG_ifN | apply stepG_if)) <;> intro hb <;> (have hif := hb) <;> (try simp only [bo] at hif) <;> (try simp -implicitDefEqProofs (disch := omega) only [go_sem, hb]) <;> clear hb
       | simp (maxSteps := 1000000) -implicitDefEqProofs (disch := omega) only [go_sem])
     all_goals first | exact absurd trivial ‹¬True› | (exfalso; omega) | omega | skip
     refine ret_do ?_
     exact ⟨rfl, rfl, rfl⟩
def ownRowsN (n : Nat) (bs : List Box) (cs : List Bill) : List (Nat × Option Blk) := [(n + 1, some ⟨1, famE (n + 8) bs.length (lnB bs), 67, .wr⟩), (n + 2, some ⟨2, famC (n + 16) cs.length (ctC cs) (lnC cs), 64, .wr⟩), (n + 8, some ⟨2, rowB bs bs.length 0, 60, .wr⟩), (n + 9, some ⟨2, rowB bs bs.length 1, 60, .wr⟩), (n + 10, some ⟨2, rowB bs bs.length 2, 60, .wr⟩), (n + 11, some ⟨2, rowB bs bs.length 3, 60, .wr⟩), (n + 12, some ⟨2, rowB bs bs.length 4, 60, .wr⟩), (n + 13, some ⟨2, rowB bs bs.length 5, 60, .wr⟩), (n + 14, some ⟨2, rowB bs bs.length 6, 60, .wr⟩), (n + 15, some ⟨2, rowB bs bs.length 7, 60, .wr⟩), (n + 16, some ⟨2, rowC cs cs.length 0, 60, .wr⟩), (n + 17, some ⟨2, rowC cs cs.length 1, 60, .wr⟩), (n + 18, some ⟨2, rowC cs cs.length 2, 60, .wr⟩)]
theorem rhoF_add (n k : Nat) : rhoF n (n + k) = k := by unfold rhoF; rw [if_neg (by omega)]; omega
theorem ownRowsN_ren (n : Nat) (bs : List Box) (cs : List Bill) (h8 : bs.length ≤ 8) (h3 : cs.length ≤ 3) : RowsRen (rhoF n) (n + 1216) 1216 (hpOf (fun _ => none) (ownRowsF bs cs)) (ownRowsN n bs cs) := by
 have pe : ∀ {es : List (List V)}, PuE es = True → RenE (rhoF n) (n + 1216) es es := fun h => .pu _ (of_eq_true h)
 refine .row _ _ _ _ _ _ _ (by omega) (by rw [rhoF_add]; rfl) (RenE.famShift h8 fun j hj => ⟨by rw [Nat.add_assoc, rhoF_add], by omega⟩) ?_
 refine .row _ _ _ _ _ _ _ (by omega) (by rw [rhoF_add]; rfl) (RenE.famCtShift h3 fun j hj => ⟨by rw [Nat.add_assoc, rhoF_add], by omega⟩) ?_
 iterate 8 refine .row _ _ _ _ _ _ _ (by omega) (by rw [rhoF_add]; rfl) (pe (rowB_pu ..)) ?_
 iterate 3 refine .row _ _ _ _ _ _ _ (by omega) (by rw [rhoF_add]; rfl) (pe (rowC_pu ..)) ?_
 exact .nil
theorem own_pur {h : Hp} {n nb nk : Nat} {bs : List Box} {cs : List Bill} {ln lc : Nat → Nat} {ct : Nat → Int} (hbn : bs.length = nb) (hcn : cs.length = nk) (hB : h (n + 1) = some ⟨1, famE (n + 8) nb ln, 67, .fz⟩) (hC : h (n + 2) = some ⟨2, famC (n + 16) nk ct lc, 64, .fz⟩)
   (hl : ∀ j, j < nb → ln j = (bs.getD j default).length) (hct : ∀ j, j < nk → ct j = (cs.getD j default).1) (hlc : ∀ j, j < nk → lc j = (cs.getD j default).2.length)
   (hh : ∀ j, j < nb → h (n + 8 + j) = some ⟨2, (bs.getD j default).map encS, 60, .fz⟩) (hhc : ∀ j, j < nk → h (n + 16 + j) = some ⟨2, (cs.getD j default).2.map encS, 60, .fz⟩) : PurI true h [.agg [.os (n + 1) 1 nb false, .os (n + 2) 2 nk false]] [encLoad bs cs] := by
 refine PurI.cons _ _ _ _ (Pur.aggI (.cons _ _ _ _ (Pur.osR hB rfl (by simp only [famE_len]; exact Nat.le_refl _) (fun h => h) (PurE.fam hbn hl hh)) (.cons _ _ _ _ (Pur.osR hC rfl (by simp only [famC_len]; exact Nat.le_refl _) (fun h => h) (PurE.famCt hcn hct hlc hhc)) .nil))) .nil
end Go.Aw
end
section
set_option maxRecDepth 20000
set_option maxHeartbeats 4000000
namespace Go.Aw
open Go.RowKit Go.Proofs
def one (i : Int) (j : Nat) : Int × Int := if (j : Int) = i then (1, 1) else (0, 0)
def toldBs (bs : List Box) (i : Int) : List Box := (List.range bs.length).map fun j => bs.getD j default ++ [one i j]
def toldCs (cs : List Bill) (c : Int) : List Bill := (List.range cs.length).map fun j => ((cs.getD j default).1, (cs.getD j default).2 ++ [one c j])
def tB (bs : List Box) (i : Int) (x j : Nat) : List (List V) := if j < x then (bs.getD j default).map encS ++ [encS (one i j)] else rowB bs bs.length j
def tC (cs : List Bill) (c : Int) (x j : Nat) : List (List V) := if j < x then (cs.getD j default).2.map encS ++ [encS (one c j)] else rowC cs cs.length j
def lnT (bs : List Box) (x j : Nat) : Nat := if j < x then lnB bs j + 1 else lnB bs j
def lnTC (cs : List Bill) (x j : Nat) : Nat := if j < x then lnC cs j + 1 else lnC cs j
end Go.Aw
end
section
set_option maxRecDepth 20000
namespace Go.Aw
open Go.RowKit Go.Proofs
theorem check_of_good {bs : List Box} {cs : List Bill} (hg : Good bs cs) : checkR bs cs = 0 := by
 have h1 := hg.nb
 have h2 := hg.nc
 have h3 := hg.n1
 have h4 := hg.st
 unfold checkR
 rw [if_neg (by omega), if_neg (by omega), if_neg (fun h => h h4), if_neg, if_neg, if_neg, if_neg]
 · rw [List.any_eq_true]
   rintro ⟨b, hb, h⟩
   have h5 := hg.cb b hb
   have h6 : b.2.all (spanOk 10000) = true := List.all_eq_true.2 (hg.oc b hb)
   rw [h6] at h
   simp [inR'] at h
   omega
 · rw [List.any_eq_true]
   rintro ⟨b, hb, h⟩
   have h6 : b.all (spanOk 1000) = true := List.all_eq_true.2 (hg.ob b hb)
   rw [h6] at h
   cases h
 · rw [List.any_eq_true]
   rintro ⟨b, hb, h⟩
   have := hg.lc b hb
   simp at h
   omega
 · rw [List.any_eq_true]
   rintro ⟨b, hb, h⟩
   have := hg.lb b hb
   simp at h
   omega
section
variable {bs : List Box} {cs : List Bill} {i c : Nat}
end
def grpSum (ws : List (List Int)) (i : Nat) : Nat → Int
 | 0 => 0
 | c + 1 => grpSum ws i c + (grp ws i c).length
def grpMax (ws : List (List Int)) (i : Nat) : Nat → Int
 | 0 => 0
 | c + 1 => max (grpMax ws i c) (grp ws i c).length
end Go.Aw
end
section
set_option maxRecDepth 20000
namespace Go.Aw
open Go.RowKit Go.Proofs
def inS (a b : Int × Int) : Prop := b.1 ≤ a.1 ∧ a.2 ≤ b.2
structure Narrow (bs' : List Box) (cs' : List Bill) (bs : List Box) (cs : List Bill) : Prop where
 nb : bs'.length = bs.length
 nc : cs'.length = cs.length
 box : ∀ i k, i < bs.length → inS ((bs'.getD i default).getD k default) ((bs.getD i default).getD k default)
 cnt : ∀ c, c < cs.length → (cs'.getD c default).1 = (cs.getD c default).1
 ln : ∀ c, c < cs.length → (cs'.getD c default).2.length = (cs.getD c default).2.length
 bill : ∀ c k, c < cs.length → inS ((cs'.getD c default).2.getD k default) ((cs.getD c default).2.getD k default)
section
variable {bs bs' : List Box} {cs cs' : List Bill}
end
theorem refW_in {bs : List Box} {cs : List Bill} : ∀ (r : Nat) (now w : List Int), w ∈ refW bs cs 0 r now → InC cs.length now → now <+: w ∧ w.length = now.length + r ∧ InC cs.length w ∧ wayR bs cs w 0 = true
 | 0, now, w, h, hi => by
   rw [refW] at h
   split at h
   · rename_i hy
     obtain rfl := List.mem_singleton.1 h
     exact ⟨List.prefix_refl _, rfl, hi, hy⟩
   · cases h
 | r + 1, now, w, h, hi => by
   rw [refW, List.mem_flatMap] at h
   obtain ⟨c, hc, h⟩ := h
   obtain ⟨h1, h2, h3, h4⟩ := refW_in r _ w h (hi.snoc (List.mem_range.1 hc))
   refine ⟨(List.prefix_append _ _).trans h1, ?_, h3, h4⟩
   rw [h2, List.length_append]; simp; omega
theorem allW_iff {bs : List Box} {cs : List Bill} (hp : Pos bs cs) (w : List Int) : w ∈ allW bs cs ↔ w.length = bs.length ∧ InC cs.length w ∧ wayR bs cs w 0 = true := by
 rw [allW_refW hp]
 constructor
 · intro h
   have := refW_in _ _ w h (fun x hx => by cases hx)
   exact ⟨by simpa using this.2.1, this.2.2⟩
 · rintro ⟨h1, h2, h3⟩
   exact refW_mem _ [] w List.nil_prefix (by simpa using h1) h2 h3
def rotL {α : Type} [Inhabited α] (l : List α) (i : Nat) : List α := (List.range l.length).map fun n => l.getD ((n + i) % l.length) default
theorem rotL_len {α : Type} [Inhabited α] (l : List α) (i : Nat) : (rotL l i).length = l.length := by simp [rotL]
def sumF (f : Nat → Int) (a : Nat) : Nat → Int
 | 0 => 0
 | m + 1 => sumF f a m + f (a + m)
def turnW (w : List Int) (i c nc : Nat) : List Int := (rotL w i).map fun x => (x - c) % nc
section
variable {bs : List Box} {cs : List Bill} {w : List Int} {i c : Nat}
end
end Go.Aw
end
section
set_option maxRecDepth 20000
namespace Go.Aw
open Go.RowKit Go.Proofs
def dup (n : Int) : Int × Int := (n, n)
structure Truth (bs : List Box) (cs : List Bill) (way : List Int) (held : List (List Int)) : Prop where
 hl : held.length = bs.length
 hk : ∀ i, i < bs.length → (held.getD i default).length = stuffs cs
 hb : ∀ i k, i < bs.length → k < stuffs cs → 0 ≤ (held.getD i default).getD k default ∧ (held.getD i default).getD k default ≤ 255
 hin : ∀ i k, i < bs.length → k < stuffs cs → ((bs.getD i default).getD k default).1 ≤ (held.getD i default).getD k default ∧ (held.getD i default).getD k default ≤ ((bs.getD i default).getD k default).2
 hs : ∀ c k : Nat, c < cs.length → k < stuffs cs → ((cs.getD c default).2.getD k default).1 ≤ trueSum way held c k bs.length ∧ trueSum way held c k bs.length ≤ ((cs.getD c default).2.getD k default).2
theorem getD_past {α : Type} [Inhabited α] {l : List α} {i : Nat} (h : l.length ≤ i) : l.getD i default = default := by
 rw [List.getD_eq_getElem?_getD, List.getElem?_eq_none h]; rfl
theorem getD_set_eq {α : Type} [Inhabited α] {l : List α} {i : Nat} {x : α} (h : i < l.length) : (l.set i x).getD i default = x := by
 rw [getD_default (by rw [List.length_set]; exact h)]; simp
theorem getD_set_ne {α : Type} [Inhabited α] {l : List α} {i j : Nat} {x : α} (h : i ≠ j) : (l.set i x).getD j default = l.getD j default := by
 rw [List.getD_eq_getElem?_getD, List.getElem?_set_ne h, ← List.getD_eq_getElem?_getD]
section
variable {bs : List Box} {cs : List Bill} {way : List Int} {held : List (List Int)} {i c : Nat}
def lessTo (bs : List Box) (held : List (List Int)) (i k : Nat) : List Box := bs.set i (((held.getD i default).take k).map dup ++ (bs.getD i default).drop k)
def strictTo (cs : List Bill) (way : List Int) (held : List (List Int)) (n c k : Nat) : List Bill :=
 cs.set c ((cs.getD c default).1, ((List.range k).map fun j => dup (trueSum way held c j n)) ++ (cs.getD c default).2.drop k)
end
end Go.Aw
end
section
set_option maxRecDepth 20000
set_option maxHeartbeats 4000000
namespace Go.Aw
open Go.RowKit Go.Proofs
theorem Good.size {bs : List Box} {cs : List Bill} (hg : Good bs cs) : SizeOk bs cs := by
 have h3 := hg.st
 have h4 := hg.nb
 have h5 := hg.nc
 exact ⟨by omega, by omega, fun b hb => by rw [hg.lb b hb]; omega, fun b hb => by rw [hg.lc b hb]; omega⟩
def lessRow (bs : List Box) (held : List (List Int)) (i k j : Nat) : List (List V) := if j = i then ((lessTo bs held i k).getD i default).map encS else rowB bs bs.length j
def strictRow (cs : List Bill) (way : List Int) (held : List (List Int)) (n c k j : Nat) : List (List V) := if j = c then ((strictTo cs way held n c k).getD c default).2.map encS else rowC cs cs.length j
def rotTo {α : Type} [Inhabited α] (l : List α) (i x : Nat) : List α := (List.range x).map fun n => l.getD ((n + i) % l.length) default
attribute [go_sem] rotL_len
end Go.Aw
end
section
set_option maxRecDepth 20000
namespace Go.Aw
open Go.RowKit Go.Proofs
theorem bq_ok' {b0 b1 b2 b3 b4 b5 : Int} (h0 : okU b0) (h1 : okU b1) (h2 : okU b2) (h3 : okU b3) (h4 : okU b4) (h5 : okU b5) (c : Nat) : okU (bq b0 b1 b2 b3 b4 b5 c).1 ∧ okU (bq b0 b1 b2 b3 b4 b5 c).2 := by
 match c with
 | 0 => exact ⟨h0, h1⟩
 | 1 => exact ⟨h2, h3⟩
 | _ + 2 => exact ⟨h4, h5⟩
end Go.Aw
end
section
set_option maxRecDepth 20000
namespace Go.Aw
open Go.RowKit Go.Proofs
structure B3 where
 a : Int
 b : Int
 c : Int
instance : Inhabited B3 := ⟨⟨0, 0, 0⟩⟩
def encT (x : B3) : List V := [u8 x.a, u8 x.b, u8 x.c]
@[go_sem] theorem encT_eq (x : B3) : encT x = [u8 x.a, u8 x.b, u8 x.c] := rfl
def B3.ok (x : B3) : Prop := okU x.a ∧ okU x.b ∧ okU x.c
def ixS (nb : Nat) (v : B3) : Nat := (v.a % nb).toNat
def spS (v : B3) : Int × Int := (v.b * 3, v.b * 3 + v.c % 8)
def spTo (bs : List Box) (sp : List B3) : Nat → List Box
 | 0 => bs
 | i + 1 => (spTo bs sp i).set (ixS bs.length (sp.getD i default)) (List.replicate ((spTo bs sp i).getD (ixS bs.length (sp.getD i default)) default).length (spS (sp.getD i default)))
def setTo (sp : List B3) (nb : Nat) : Nat → Nat
 | 0 => 0
 | i + 1 => setTo sp nb i ||| 2 ^ ixS nb (sp.getD i default)
theorem ixS_lt {nb : Nat} (h : 1 ≤ nb) (v : B3) : ixS nb v < nb := by
 have h1 := Int.emod_nonneg v.a (b := (nb : Int)) (by omega)
 have h2 := Int.emod_lt_of_pos v.a (b := (nb : Int)) (by omega)
 unfold ixS; omega
theorem ixS_eq {nb : Nat} (h : 1 ≤ nb) (v : B3) : v.a % (nb : Int) = (ixS nb v : Int) := by
 have h1 := Int.emod_nonneg v.a (b := (nb : Int)) (by omega)
 unfold ixS; omega
section
variable {bs : List Box} {cs : List Bill} {way : List Int} {held : List (List Int)} {sp : List B3}
theorem spTo_len : ∀ i, (spTo bs sp i).length = bs.length
 | 0 => rfl
 | i + 1 => by rw [spTo, List.length_set, spTo_len i]
theorem setTo_lt {nb : Nat} (h : 1 ≤ nb) : ∀ i, setTo sp nb i < 2 ^ nb
 | 0 => Nat.two_pow_pos nb
 | i + 1 => Nat.or_lt_two_pow (setTo_lt h i) (Nat.pow_lt_pow_right (by decide) (ixS_lt h _))
theorem spTo_same {j : Nat} : ∀ i, (setTo sp bs.length i).testBit j = false → (spTo bs sp i).getD j default = bs.getD j default
 | 0, _ => rfl
 | i + 1, h => by
   rw [setTo, Nat.testBit_or, Bool.or_eq_false_iff, Nat.testBit_two_pow] at h
   have : ixS bs.length (sp.getD i default) ≠ j := by simpa using h.2
   rw [spTo, getD_set_ne this, spTo_same i h.1]
theorem spTo_mem {b : Box} (hl : ∀ b ∈ bs, b.length = stuffs cs) (h1 : 1 ≤ bs.length) : ∀ i, b ∈ spTo bs sp i → b ∈ bs ∨ ∃ j, j < i ∧ b = List.replicate (stuffs cs) (spS (sp.getD j default))
 | 0, h => .inl h
 | i + 1, h => by
   rw [spTo] at h
   have hlen : ((spTo bs sp i).getD (ixS bs.length (sp.getD i default)) default).length = stuffs cs := by
     have hm : (spTo bs sp i).getD (ixS bs.length (sp.getD i default)) default ∈ spTo bs sp i := getD_mem (by rw [spTo_len]; exact ixS_lt h1 _)
     rcases spTo_mem hl h1 i hm with h | ⟨j, _, h⟩
     · exact hl _ h
     · rw [h, List.length_replicate]
   rw [hlen] at h
   rcases List.mem_or_eq_of_mem_set h with h | h
   · rcases spTo_mem hl h1 i h with h | ⟨j, hj, h⟩
     · exact .inl h
     · exact .inr ⟨j, by omega, h⟩
   · exact .inr ⟨i, by omega, h⟩
theorem spTo_boxlen (hg : Good bs cs) (h1 : 1 ≤ bs.length) (i : Nat) {j : Nat} (hj : j < bs.length) : ((spTo bs sp i).getD j default).length = stuffs cs := by
 have hm : (spTo bs sp i).getD j default ∈ spTo bs sp i := getD_mem (by rw [spTo_len]; exact hj)
 rcases spTo_mem hg.lb h1 i hm with h | ⟨j, _, h⟩
 · exact hg.lb _ h
 · rw [h, List.length_replicate]
theorem spTo_good (hg : Good bs cs) (h1 : 1 ≤ bs.length) (hsp : ∀ v ∈ sp, v.ok) {i : Nat} (hi : i ≤ sp.length) : Good (spTo bs sp i) cs := by
 refine ⟨by rw [spTo_len]; exact hg.nb, hg.nc, hg.n1, hg.st, fun b hb => ?_, hg.lc, fun b hb x hx => ?_, hg.oc, hg.cb⟩
 · rcases spTo_mem hg.lb h1 i hb with h | ⟨j, _, h⟩
   · exact hg.lb _ h
   · rw [h, List.length_replicate]
 · rcases spTo_mem hg.lb h1 i hb with h | ⟨j, hj, h⟩
   · exact hg.ob _ h x hx
   · rw [h] at hx
     obtain rfl := (List.mem_replicate.1 hx).2
     obtain ⟨_, h2, h3⟩ := hsp _ (getD_mem (l := sp) (i := j) (by omega))
     unfold okU at h2 h3
     refine spanOk_of ?_
     simp only [spS]
     omega
theorem sumR_trueS {bs : List Box} {set : Nat} (c : Int) (k : Nat) (hb : ∀ i, i < bs.length → 0 ≤ (held.getD i default).getD k default ∧ (held.getD i default).getD k default ≤ 255)
   (hin : ∀ i, i < bs.length → set.testBit i = false → ((bs.getD i default).getD k default).1 ≤ (held.getD i default).getD k default ∧ (held.getD i default).getD k default ≤ ((bs.getD i default).getD k default).2) :
   ∀ m, m ≤ bs.length → (sumR bs way c k set m).1 ≤ trueSum way held c k m ∧ trueSum way held c k m ≤ (sumR bs way c k set m).2
 | 0, _ => by simp [sumR, trueSum]
 | m + 1, hm => by
   have ih := sumR_trueS c k hb hin m (by omega)
   have h1 := hin m (by omega)
   have h2 := hb m (by omega)
   rw [sumR, trueSum]
   split
   · cases hs : set.testBit m
     · have := h1 hs
       simp only [addS, Bool.false_eq_true, if_false]; omega
     · simp only [addS, if_true]; omega
   · exact ih
theorem wayR_spoilt (hg : Good bs cs) (h1 : 1 ≤ bs.length) (hT : Truth bs cs way held) (hm : way ∈ allW bs cs) (i : Nat) : wayR (spTo bs sp i) cs way (setTo sp bs.length i) = true := by
 obtain ⟨hw, _, hy⟩ := (allW_iff hg.pos way).1 hm
 unfold wayR at *
 rw [List.all_eq_true] at *
 intro c hcm
 have hcc := List.mem_range.1 hcm
 have := hy c hcm
 unfold carrOk at *
 rw [Bool.and_eq_true, beq_iff_eq, List.all_eq_true] at *
 refine ⟨this.1, fun k hk => ?_⟩
 have hkk := List.mem_range.1 hk
 rw [hg.lc _ (getD_mem hcc)] at hkk
 have g1 := sumR_trueS (bs := spTo bs sp i) (way := way) (held := held) (set := setTo sp bs.length i) c k (fun j hj => hT.hb j k (by rw [spTo_len] at hj; exact hj) hkk) (fun j hj hs => by
   rw [spTo_len] at hj
   rw [spTo_same i hs]; exact hT.hin j k hj hkk) (spTo bs sp i).length (Nat.le_refl _)
 have g2 := hT.hs c k hcc hkk
 rw [spTo_len] at g1
 simp only [stuffOk, hw, decide_eq_true_eq]
 omega
end
theorem isPos_of {bs : List Box} {cs : List Bill} (hg : Good bs cs) {set : Nat} {w : List Int} (hw : w.length = bs.length) (hi : InC cs.length w) (hy : wayR bs cs w set = true) : isPos bs cs set = true := by
 rw [isPos_refW hg]
 have := refW_mem bs.length [] w (set := set) List.nil_prefix (by simpa using hw) hi hy
 rw [Bool.not_eq_true']
 cases h : refW bs cs set bs.length []
 · rw [h] at this; cases this
 · rfl
theorem refW_inS {bs : List Box} {cs : List Bill} {set : Nat} : ∀ (r : Nat) (now w : List Int), w ∈ refW bs cs set r now → InC cs.length now → now <+: w ∧ w.length = now.length + r ∧ InC cs.length w ∧ wayR bs cs w set = true
 | 0, now, w, h, hi => by
   rw [refW] at h
   split at h
   · rename_i hy
     obtain rfl := List.mem_singleton.1 h
     exact ⟨List.prefix_refl _, rfl, hi, hy⟩
   · cases h
 | r + 1, now, w, h, hi => by
   rw [refW, List.mem_flatMap] at h
   obtain ⟨c, hc, h⟩ := h
   obtain ⟨h1, h2, h3, h4⟩ := refW_inS r _ w h (hi.snoc (List.mem_range.1 hc))
   refine ⟨(List.prefix_append _ _).trans h1, ?_, h3, h4⟩
   rw [h2, List.length_append]; simp; omega
theorem isPos_ex {bs : List Box} {cs : List Bill} (hg : Good bs cs) {set : Nat} (h : isPos bs cs set = true) : ∃ w : List Int, w.length = bs.length ∧ InC cs.length w ∧ wayR bs cs w set = true := by
 rw [isPos_refW hg, Bool.not_eq_true'] at h
 cases hr : refW bs cs set bs.length []
 · rw [hr] at h; cases h
 · rename_i w l
   have := refW_inS bs.length [] w (by rw [hr]; exact List.mem_cons_self ..) (fun x hx => by cases hx)
   exact ⟨w, by simpa using this.2.1, this.2.2⟩
theorem moreR_len {n b : List Int} (h : moreR n b = true) : b.length ≤ n.length := by
 unfold moreR at h
 rw [Bool.or_eq_true, Bool.and_eq_true, decide_eq_true_eq, beq_iff_eq] at h
 omega
theorem moreR_len' {n b : List Int} (h : moreR n b = false) : n.length ≤ b.length := by
 unfold moreR at h
 rw [Bool.or_eq_false_iff, decide_eq_false_iff_not] at h
 omega
theorem wrongTo_least {ok : Nat → Bool} : ∀ {k : Nat} {b : List Int}, wrongTo ok k = some b → (∃ j, j < k ∧ b = nums j ∧ ok j = true) ∧ ∀ j, j < k → ok j = true → b.length ≤ (nums j).length
 | 0, b, h => by cases h
 | k + 1, b, h => by
   cases hW : wrongTo ok k with
   | none =>
     cases hk : ok k with
     | false => rw [wrongTo_none hW hk] at h; cases h
     | true =>
       rw [wrongTo_first hW hk] at h
       cases h
       refine ⟨⟨k, by omega, rfl, hk⟩, fun j hj ho => ?_⟩
       rcases Nat.lt_or_ge j k with hlt | hge
       · exfalso
         have : ∀ n, n ≤ k → ∀ j, j < n → ok j = true → (wrongTo ok n).isSome = true := fun n => by
           induction n with
           | zero => intro _ j hj; omega
           | succ n ih =>
             intro hn j hj ho
             cases hw : wrongTo ok n with
             | none =>
               rcases Nat.lt_or_ge j n with h1 | h1
               · have := ih (by omega) j h1 ho; rw [hw] at this; cases this
               · obtain rfl : j = n := by omega
                 rw [wrongTo_first hw ho]; rfl
             | some b =>
               cases hn' : ok n with
               | false => rw [wrongTo_stay hw (.inr hn')]; rfl
               | true =>
                 cases hm : moreR (nums n) b with
                 | true => rw [wrongTo_stay hw (.inl hm)]; rfl
                 | false => rw [wrongTo_new hw hm hn']; rfl
         have := this k (Nat.le_refl _) j hlt ho
         rw [hW] at this; cases this
       · obtain rfl : j = k := by omega
         exact Nat.le_refl _
   | some c =>
     obtain ⟨⟨j0, h0, h0', h0''⟩, ih⟩ := wrongTo_least hW
     cases hk : ok k with
     | false =>
       rw [wrongTo_stay hW (.inr hk)] at h
       cases h
       refine ⟨⟨j0, by omega, h0', h0''⟩, fun j hj ho => ?_⟩
       rcases Nat.lt_or_ge j k with hlt | hge
       · exact ih j hlt ho
       · obtain rfl : j = k := by omega
         rw [hk] at ho; cases ho
     | true =>
       cases hm : moreR (nums k) c with
       | true =>
         rw [wrongTo_stay hW (.inl hm)] at h
         cases h
         refine ⟨⟨j0, by omega, h0', h0''⟩, fun j hj ho => ?_⟩
         rcases Nat.lt_or_ge j k with hlt | hge
         · exact ih j hlt ho
         · obtain rfl : j = k := by omega
           exact moreR_len hm
       | false =>
         rw [wrongTo_new hW hm hk] at h
         cases h
         refine ⟨⟨k, by omega, rfl, hk⟩, fun j hj ho => ?_⟩
         rcases Nat.lt_or_ge j k with hlt | hge
         · exact Nat.le_trans (moreR_len' hm) (ih j hlt ho)
         · obtain rfl : j = k := by omega
           exact Nat.le_refl _
theorem wrongTo_some {ok : Nat → Bool} : ∀ {k j : Nat}, j < k → ok j = true → ∃ b, wrongTo ok k = some b
 | 0, j, h, _ => by omega
 | k + 1, j, h, ho => by
   cases hw : wrongTo ok k with
   | none =>
     rcases Nat.lt_or_ge j k with h1 | h1
     · obtain ⟨b, hb⟩ := wrongTo_some h1 ho; rw [hb] at hw; cases hw
     · obtain rfl : j = k := by omega
       exact ⟨_, wrongTo_first hw ho⟩
   | some b =>
     cases hn' : ok k with
     | false => exact ⟨_, wrongTo_stay hw (.inr hn')⟩
     | true =>
       cases hm : moreR (nums k) b with
       | true => exact ⟨_, wrongTo_stay hw (.inl hm)⟩
       | false => exact ⟨_, wrongTo_new hw hm hn'⟩
theorem nums_at0 : ∀ s : Nat, s < 256 → ∀ i : Nat, i < 8 → (nums s).length ≤ i ∨ (0 ≤ (nums s).getD i default ∧ s.testBit ((nums s).getD i default).toNat = true ∧ (i = 0 ∨ (nums s).getD (i - 1) default < (nums s).getD i default) ∧
   (nums (s - 2 ^ ((nums s).getD i default).toNat)).length + 1 = (nums s).length ∧ ∀ b : Nat, b < 8 → (s - 2 ^ ((nums s).getD i default).toNat).testBit b = (s.testBit b && (b != ((nums s).getD i default).toNat))) := by decide +kernel
theorem nums_at (s : Nat) (hs : s < 256) (i : Nat) (h8 : i < 8) (hi : i < (nums s).length) : 0 ≤ (nums s).getD i default ∧ s.testBit ((nums s).getD i default).toNat = true ∧ (0 < i → (nums s).getD (i - 1) default < (nums s).getD i default) ∧
   (nums (s - 2 ^ ((nums s).getD i default).toNat)).length + 1 = (nums s).length ∧ ∀ b : Nat, b < 8 → (s - 2 ^ ((nums s).getD i default).toNat).testBit b = (s.testBit b && (b != ((nums s).getD i default).toNat)) := by
 rcases nums_at0 s hs i h8 with h | ⟨h1, h2, h3, h4, h5⟩
 · omega
 · exact ⟨h1, h2, fun h => by omega, h4, h5⟩
theorem nums_has : ∀ s : Nat, s < 256 → ∀ b : Nat, b < 8 → s.testBit b = true → ∃ i : Nat, i < 8 ∧ i < (nums s).length ∧ (nums s).getD i default = b := by decide +kernel
theorem nums_inj0 : ∀ s : Nat, s < 256 → ∀ i : Nat, i < 8 → ∀ j : Nat, j < 8 → (nums s).length ≤ i ∨ (nums s).length ≤ j ∨ ¬ ((nums s).getD i default).toNat = ((nums s).getD j default).toNat ∨ i = j := by decide +kernel
theorem nums_inj (s : Nat) (hs : s < 256) (i : Nat) (h8 : i < 8) (j : Nat) (h8' : j < 8) (hi : i < (nums s).length) (hj : j < (nums s).length) (he : ((nums s).getD i default).toNat = ((nums s).getD j default).toNat) : i = j := by
 rcases nums_inj0 s hs i h8 j h8' with h | h | h | h
 · omega
 · omega
 · exact absurd he h
 · exact h
def wideTo (bs : List Box) (l : List Int) (k : Int) : Nat → List Box
 | 0 => bs
 | i + 1 => if (i : Int) = k then wideTo bs l k i else (wideTo bs l k i).set (l.getD i default).toNat (List.replicate ((wideTo bs l k i).getD (l.getD i default).toNat default).length (0, 1000))
section
variable {bs : List Box} {cs : List Bill} {l : List Int} {k : Int}
theorem wideTo_len : ∀ i, (wideTo bs l k i).length = bs.length
 | 0 => rfl
 | i + 1 => by rw [wideTo]; split; exact wideTo_len i; rw [List.length_set, wideTo_len i]
theorem wideTo_boxlen (b : Nat) : ∀ i, ((wideTo bs l k i).getD b default).length = (bs.getD b default).length
 | 0 => rfl
 | i + 1 => by
   rw [wideTo]
   split
   · exact wideTo_boxlen b i
   · by_cases h : (l.getD i default).toNat = b
     · rcases Nat.lt_or_ge b bs.length with hb | hb
       · rw [h, getD_set_eq (by rw [wideTo_len]; exact hb), List.length_replicate, wideTo_boxlen b i]
       · rw [getD_past (by rw [List.length_set, wideTo_len]; exact hb), getD_past hb]
     · rw [getD_set_ne h, wideTo_boxlen b i]
theorem wideTo_not (b : Nat) : ∀ i : Nat, (∀ m : Nat, m < i → (m : Int) ≠ k → (l.getD m default).toNat ≠ b) → (wideTo bs l k i).getD b default = bs.getD b default
 | 0, _ => rfl
 | i + 1, h => by
   have ih := wideTo_not b i fun m hm => h m (by omega)
   rw [wideTo]
   split
   · exact ih
   · rename_i hk
     rw [getD_set_ne (h i (by omega) hk), ih]
theorem wideTo_yes {b : Nat} (hb : b < bs.length) : ∀ i m : Nat, m < i → (m : Int) ≠ k → (l.getD m default).toNat = b → (wideTo bs l k i).getD b default = List.replicate (bs.getD b default).length (0, 1000)
 | 0, m, h, _, _ => by omega
 | i + 1, m, h, hk, he => by
   rw [wideTo]
   by_cases h1 : (l.getD i default).toNat = b
   · split
     · rename_i hik
       have : m < i := by
         rcases Nat.lt_or_ge m i with h2 | h2
         · exact h2
         · obtain rfl : m = i := by omega
           exact absurd hik hk
       exact wideTo_yes hb i m this hk he
     · rw [h1, getD_set_eq (by rw [wideTo_len]; exact hb), wideTo_boxlen]
   · have : m < i := by
       rcases Nat.lt_or_ge m i with h2 | h2
       · exact h2
       · obtain rfl : m = i := by omega
         exact absurd he h1
     split
     · exact wideTo_yes hb i m this hk he
     · rw [getD_set_ne h1]; exact wideTo_yes hb i m this hk he
theorem wideTo_mem (hl : ∀ b ∈ bs, b.length = stuffs cs) (h0 : ∀ m, m < l.length → (l.getD m default).toNat < bs.length) {b : Box} : ∀ i, i ≤ l.length → b ∈ wideTo bs l k i → b ∈ bs ∨ b = List.replicate (stuffs cs) (0, 1000)
 | 0, _, h => .inl h
 | i + 1, hi, h => by
   rw [wideTo] at h
   split at h
   · exact wideTo_mem hl h0 i (by omega) h
   · rw [wideTo_boxlen, hl _ (getD_mem (h0 i (by omega)))] at h
     rcases List.mem_or_eq_of_mem_set h with h | h
     · exact wideTo_mem hl h0 i (by omega) h
     · exact .inr h
theorem wideTo_good (hg : Good bs cs) (h0 : ∀ m, m < l.length → (l.getD m default).toNat < bs.length) : Good (wideTo bs l k l.length) cs := by
 refine ⟨by rw [wideTo_len]; exact hg.nb, hg.nc, hg.n1, hg.st, fun b hb => ?_, hg.lc, fun b hb x hx => ?_, hg.oc, hg.cb⟩
 · rcases wideTo_mem hg.lb h0 _ (Nat.le_refl _) hb with h | h
   · exact hg.lb _ h
   · rw [h, List.length_replicate]
 · rcases wideTo_mem hg.lb h0 _ (Nat.le_refl _) hb with h | h
   · exact hg.ob _ h x hx
   · rw [h] at hx
     obtain rfl := (List.mem_replicate.1 hx).2
     exact rfl
theorem sumR_wide (hg : Good bs cs) {s : Nat} (hs1 : ∀ b, b < bs.length → s.testBit b = true → ∃ m : Nat, m < l.length ∧ (m : Int) ≠ k ∧ (l.getD m default).toNat = b) (hs0 : ∀ b, b < bs.length → s.testBit b = false → ∀ m : Nat, m < l.length → (m : Int) ≠ k → (l.getD m default).toNat ≠ b)
   (w : List Int) (c : Int) {q : Nat} (hq : q < stuffs cs) : ∀ i, i ≤ bs.length → (sumR (wideTo bs l k l.length) w c q 0 i).1 = (sumR bs w c q s i).1 ∧ (sumR (wideTo bs l k l.length) w c q 0 i).2 ≤ (sumR bs w c q s i).2 ∧
     ((sumR (wideTo bs l k l.length) w c q 0 i).2 = (sumR bs w c q s i).2 ∨ 1000 ≤ (sumR (wideTo bs l k l.length) w c q 0 i).2) ∧ 0 ≤ (sumR (wideTo bs l k l.length) w c q 0 i).1 ∧ (sumR (wideTo bs l k l.length) w c q 0 i).1 ≤ (sumR (wideTo bs l k l.length) w c q 0 i).2
 | 0, _ => by simp [sumR]
 | i + 1, hi => by
   have ih := sumR_wide hg hs1 hs0 w c hq i (by omega)
   have hbl := hg.lb _ (getD_mem (l := bs) (i := i) (by omega))
   rw [sumR, sumR]
   simp only [Nat.zero_testBit, Bool.false_eq_true, if_false]
   split
   · cases hs : s.testBit i
     · rw [wideTo_not i l.length (hs0 i (by omega) hs)]
       have hx := spanOk_small (hg.ob _ (getD_mem (l := bs) (i := i) (by omega)) ((bs.getD i default).getD q default) (getD_mem (by omega)))
       simp only [addS, Bool.false_eq_true, if_false]
       omega
     · obtain ⟨m, h1, h2, h3⟩ := hs1 i (by omega) hs
       rw [wideTo_yes (by omega) l.length m h1 h2 h3, getD_default (l := List.replicate _ _) (by rw [List.length_replicate]; omega), List.getElem_replicate]
       simp only [addS, if_true]
       omega
   · exact ih
theorem wayR_wide (hg : Good bs cs) {s : Nat} (hs1 : ∀ b, b < bs.length → s.testBit b = true → ∃ m : Nat, m < l.length ∧ (m : Int) ≠ k ∧ (l.getD m default).toNat = b) (hs0 : ∀ b, b < bs.length → s.testBit b = false → ∀ m : Nat, m < l.length → (m : Int) ≠ k → (l.getD m default).toNat ≠ b)
   {w : List Int} (hw : w.length = bs.length) : (wayR (wideTo bs l k l.length) cs w 0 = true → wayR bs cs w s = true) ∧ ((∀ c ∈ cs, ∀ x ∈ c.2, x.2 ≤ 1000) → wayR bs cs w s = true → wayR (wideTo bs l k l.length) cs w 0 = true) := by
 have key : ∀ (c q : Nat), c < cs.length → q < (cs.getD c default).2.length → _ := fun c q hc hq => sumR_wide hg hs1 hs0 w (c : Int) (q := q) (by rw [← hg.lc _ (getD_mem hc)]; exact hq) bs.length (Nat.le_refl _)
 constructor
 · intro h
   unfold wayR at *
   rw [List.all_eq_true] at *
   intro c hcm
   have hcc := List.mem_range.1 hcm
   have := h c hcm
   unfold carrOk at *
   rw [Bool.and_eq_true, beq_iff_eq, List.all_eq_true] at *
   refine ⟨this.1, fun q hq => ?_⟩
   have h1 := this.2 q hq
   have h2 := key c q hcc (List.mem_range.1 hq)
   simp only [stuffOk, hw, decide_eq_true_eq] at *
   omega
 · intro hsm h
   unfold wayR at *
   rw [List.all_eq_true] at *
   intro c hcm
   have hcc := List.mem_range.1 hcm
   have := h c hcm
   unfold carrOk at *
   rw [Bool.and_eq_true, beq_iff_eq, List.all_eq_true] at *
   refine ⟨this.1, fun q hq => ?_⟩
   have h1 := this.2 q hq
   have h2 := key c q hcc (List.mem_range.1 hq)
   have h3 := hsm _ (getD_mem hcc) _ (getD_mem (List.mem_range.1 hq))
   simp only [stuffOk, hw, decide_eq_true_eq] at *
   omega
end
theorem wrong_laws {bs : List Box} {cs : List Bill} (hg : Good bs cs) {j : Nat} (hj : j < 2 ^ bs.length) (hp : isPos bs cs j = true) (hmin : ∀ i, i < 2 ^ bs.length → isPos bs cs i = true → (nums j).length ≤ (nums i).length) :
   (∀ m, m < (nums j).length → 0 ≤ (nums j).getD m default ∧ (nums j).getD m default < bs.length ∧ (0 < m → (nums j).getD (m - 1) default < (nums j).getD m default)) ∧ (nums j).length ≤ 8 ∧
   ((∀ c ∈ cs, ∀ x ∈ c.2, x.2 ≤ 1000) → allW (wideTo bs (nums j) (-1) (nums j).length) cs ≠ []) ∧ ∀ k : Nat, k < (nums j).length → allW (wideTo bs (nums j) k (nums j).length) cs = [] := by
 have h8 := hg.nb
 have h256 : j < 256 := Nat.lt_of_lt_of_le hj (Nat.le_trans (Nat.pow_le_pow_right (by decide) h8) (by decide))
 have hl8 := nums_len j
 have hlt : ∀ m, m < (nums j).length → ((nums j).getD m default).toNat < bs.length := fun m hm => by
   have h1 := (nums_at j h256 m (by omega) hm).2.1
   refine Classical.byContradiction fun hc => ?_
   rw [Nat.testBit_lt_two_pow (Nat.lt_of_lt_of_le hj (Nat.pow_le_pow_right (by decide) (Nat.not_lt.1 hc)))] at h1
   cases h1
 refine ⟨fun m hm => ?_, hl8, fun hsm => ?_, fun k hk => ?_⟩
 · have h1 := nums_at j h256 m (by omega) hm
   have h2 := hlt m hm
   exact ⟨h1.1, by omega, h1.2.2.1⟩
 · obtain ⟨w, w1, w2, w3⟩ := isPos_ex hg hp
   have hW := (wayR_wide (k := -1) (l := nums j) (s := j) hg (fun b hb hs => by
     obtain ⟨i, _, h2, h3⟩ := nums_has j h256 b (by omega) hs
     exact ⟨i, h2, by omega, by omega⟩) (fun b hb hs m hm _ he => by
     have := (nums_at j h256 m (by omega) hm).2.1
     rw [he, hs] at this; cases this) w1).2 hsm w3
   exact List.ne_nil_of_mem ((allW_iff (wideTo_good hg hlt).pos w).2 ⟨by rw [wideTo_len]; exact w1, w2, hW⟩)
 · obtain ⟨n1, n2, n3, n4, n5⟩ := nums_at j h256 k (by omega) hk
   refine Classical.byContradiction fun hne => ?_
   obtain ⟨w, hw⟩ := List.exists_mem_of_ne_nil _ hne
   obtain ⟨w1, w2, w3⟩ := (allW_iff (wideTo_good hg hlt).pos w).1 hw
   rw [wideTo_len] at w1
   have hy := (wayR_wide (k := k) (l := nums j) (s := j - 2 ^ ((nums j).getD k default).toNat) hg (fun b hb hs => by
     rw [n5 b (by omega), Bool.and_eq_true, bne_iff_ne] at hs
     obtain ⟨i, _, h2, h3⟩ := nums_has j h256 b (by omega) hs.1
     refine ⟨i, h2, fun e => hs.2 ?_, by omega⟩
     have : i = k := by omega
     subst this; omega) (fun b hb hs m hm hmk he => by
     rw [n5 b (by omega), Bool.and_eq_false_iff] at hs
     rcases hs with hs | hs
     · have := (nums_at j h256 m (by omega) hm).2.1
       rw [he, hs] at this; cases this
     · have hbk : b = ((nums j).getD k default).toNat := by simpa using hs
       have := nums_inj j h256 m (by omega) k (by omega) hm hk (by omega)
       exact hmk (by omega)) w1).1 w3
   have := hmin _ (Nat.lt_of_le_of_lt (Nat.sub_le _ _) hj) (isPos_of hg w1 w2 hy)
   omega
end Go.Aw
end
section
set_option maxRecDepth 20000
set_option maxHeartbeats 4000000
namespace Go.Aw
open Go.RowKit Go.Proofs
theorem half_all : ∀ x : Nat, x < 256 → ibits .and .i64 (x : Int) 1 = ((x % 2 : Nat) : Int) ∧ (x : Int).fdiv 2 = ((x / 2 : Nat) : Int) ∧ ((nums x).length = (nums (x / 2)).length + x % 2) := by decide +kernel
theorem ones_spec (m : Nat) (hm : m < 256) : Ct Tryd.prog 40 [int m] (int (nums m).length) := by
 refine fn_enter Tryd.func40 rfl (by decide) Tryd.results40 Tryd.ntmps40 ?_ rfl (by simp (maxSteps := 1000000) -implicitDefEqProofs (disch := omega) only [go_sem]; rfl) fun base => ?_
 · first | assumption | (simp only [go_sem] <;> assumption) | (simp only [go_sem, *]; done) | (simp [go_sem]; done)
 repeat' (first
   | (with_reducible apply Req_intro); focus (first | omega | assumption | (simp; done))
   | with_reducible (first | apply Req_intro | refine nilT ?_ fun hn => ?_ | apply wk_draw Tryd_mixed | refine drawEnd (by kernel_rfl) ?_)
   | (with_reducible (first | apply condA_if | apply stepDG_ifN | apply stepDG_if | apply stepG_ifN | apply stepG_if)) <;> intro hb <;> (have hif := hb) <;> (try simp only [bo] at hif) <;> (try simp -implicitDefEqProofs (disch := omega) only [go_sem, hb]) <;> clear hb
   | simp (maxSteps := 1000000) -implicitDefEqProofs (disch := omega) only [go_sem])
 refine loop_at (α := Nat) [0, 3, 4, 5, 6, 7, 8, 9, 10, 11] (fun x => [(0, .lit (.int .i64 x)), (3, .lit (.int .i64 ((nums m).length - (nums x).length)))]) (fun x => x ≤ m) (fun x => x) m (fun x => by simp (maxSteps := 1000000) -implicitDefEqProofs (disch := omega) only [go_sem]; rfl) ?_ ?_ fun x hx => ?_
 · simp only [Int.sub_self]
   exact weak_do []
 · exact Nat.le_refl _
 obtain ⟨h1, h2, h3⟩ := half_all x (by omega)
 have hl := nums_len x
 have hl2 := nums_len m
 by_cases h0 : 0 < x
 · repeat' (first
     | (with_reducible apply Req_intro); focus (first | omega | assumption | (simp; done))
     | with_reducible (first | apply Req_intro | refine nilT ?_ fun hn => ?_ | apply wk_draw Tryd_mixed | refine drawEnd (by kernel_rfl) ?_)
     | (with_reducible (first | apply condA_if | apply stepDG_ifN | apply stepDG_if | apply stepG_ifN | apply stepG_if)) <;> intro hb <;> (have hif := hb) <;> (try simp only [bo] at hif) <;> (try simp -implicitDefEqProofs (disch := omega) only [go_sem, hb, h1, h2]) <;> clear hb
     | simp (maxSteps := 1000000) -implicitDefEqProofs (disch := omega) only [go_sem, h1, h2])
   all_goals first | exact absurd trivial ‹¬True› | (exfalso; omega) | omega | skip
   refine nxt_w (x / 2) (weak_do []) ?_
   try dsimp only
   omega
 · obtain rfl : x = 0 := by omega
   repeat' (first
     | (with_reducible apply Req_intro); focus (first | omega | assumption | (simp; done))
     | with_reducible (first | apply Req_intro | refine nilT ?_ fun hn => ?_ | apply wk_draw Tryd_mixed | refine drawEnd (by kernel_rfl) ?_)
     | (with_reducible (first | apply condA_if | apply stepDG_ifN | apply stepDG_if | apply stepG_ifN | apply stepG_if)) <;> intro hb <;> (have hif := hb) <;> (try simp only [bo] at hif) <;> (try simp -implicitDefEqProofs (disch := omega) only [go_sem, hb]) <;> clear hb
     | simp (maxSteps := 1000000) -implicitDefEqProofs (disch := omega) only [go_sem])
   all_goals first | exact absurd trivial ‹¬True› | (exfalso; omega) | omega | skip
   refine ret_do ?_
   simp only [nums_zero, List.length_nil]
   simp
   rfl
def smallB (cs : List Bill) : Bool := cs.all fun c => c.2.all fun s => decide (s.2 ≤ 1000)
def billSm (c : Bill) : Bool := c.2.all fun s => decide (s.2 ≤ 1000)
theorem all_take {α : Type} [Inhabited α] {p : α → Bool} {l : List α} {x : Nat} (hx : x < l.length) (h : (l.take x).all p = true) (hp : p (l.getD x default) = true) : (l.take (x + 1)).all p = true := by
 rw [take_succ_getD hx, List.all_append, h, Bool.true_and]; simp only [List.all_cons, List.all_nil, Bool.and_true]; exact hp
theorem all_not {α : Type} [Inhabited α] {p : α → Bool} {l : List α} {x : Nat} (hx : x < l.length) (hp : p (l.getD x default) = false) : l.all p = false := by
 rw [List.all_eq_false]; exact ⟨_, getD_mem hx, by rw [hp]; exact Bool.false_ne_true⟩
theorem small_spec (bs : List Box) (cs : List Bill) (hz : SizeOk bs cs) : Ct Tryd.prog 41 [encLoad bs cs] (.lit (.bool (smallB cs))) := by
 obtain ⟨hnb, hnc, hlb, hlc⟩ := hz
 refine fn_enter Tryd.func41 rfl (by decide) Tryd.results41 Tryd.ntmps41 ?_ rfl (by simp (maxSteps := 1000000) -implicitDefEqProofs (disch := omega) only [go_sem]; rfl) fun base => ?_
 · first | assumption | (simp only [go_sem] <;> assumption) | (simp only [go_sem, *]; done) | (simp [go_sem]; done)
 repeat' (first
   | (with_reducible apply Req_intro); focus (first | omega | assumption | (simp; done))
   | with_reducible (first | apply Req_intro | refine nilT ?_ fun hn => ?_ | apply wk_draw Tryd_mixed | refine drawEnd (by kernel_rfl) ?_)
   | (with_reducible (first | apply condA_if | apply stepDG_ifN | apply stepDG_if | apply stepG_ifN | apply stepG_if)) <;> intro hb <;> (have hif := hb) <;> (try simp only [bo] at hif) <;> (try simp -implicitDefEqProofs (disch := omega) only [go_sem, hb]) <;> clear hb
   | simp (maxSteps := 1000000) -implicitDefEqProofs (disch := omega) only [go_sem])
 refine loop_at (α := Nat) [2, 3, 4, 5, 6, 7, 8, 9, 10, 11, 12, 13, 14, 15, 16, 17, 18, 19, 20, 21, 22, 23, 24, 25, 26, 27, 28, 29, 30, 31, 32, 33] (fun c => [(3, .lit (.int .i64 c))]) (fun c => c ≤ cs.length ∧ (cs.take c).all billSm = true) (fun c => cs.length - c) 0 (fun x => by simp (maxSteps := 1000000) -implicitDefEqProofs (disch := omega) only [go_sem]; rfl) ?_ ?_ fun x hx => ?_
 · exact weak_do []
 · exact ⟨Nat.zero_le _, rfl⟩
 revert x
 rintro y ⟨hy, hyt⟩
 by_cases hlt : y < cs.length
 · have hl := hlc _ (getD_mem hlt)
   repeat' (first
     | (with_reducible apply Req_intro); focus (first | omega | assumption | (simp; done))
     | with_reducible (first | apply Req_intro | refine nilT ?_ fun hn => ?_ | apply wk_draw Tryd_mixed | refine drawEnd (by kernel_rfl) ?_)
     | (with_reducible (first | apply condA_if | apply stepDG_ifN | apply stepDG_if | apply stepG_ifN | apply stepG_if)) <;> intro hb <;> (have hif := hb) <;> (try simp only [bo] at hif) <;> (try simp -implicitDefEqProofs (disch := omega) only [go_sem, hb]) <;> clear hb
     | simp (maxSteps := 1000000) -implicitDefEqProofs (disch := omega) only [go_sem])
   all_goals first | exact absurd trivial ‹¬True› | (exfalso; omega) | omega | skip
   refine loop_at (α := Nat) [2, 4, 12, 13, 14, 15, 16, 17, 18, 19, 20, 21, 22, 23, 24, 25, 26, 27, 28, 29, 30, 31, 32, 33] (fun k => [(4, .lit (.int .i64 k))]) (fun k => k ≤ (cs.getD y default).2.length ∧ ((cs.getD y default).2.take k).all (fun s => decide (s.2 ≤ 1000)) = true) (fun k => (cs.getD y default).2.length - k) 0 (fun x => by simp (maxSteps := 1000000) -implicitDefEqProofs (disch := omega) only [go_sem]; rfl) ?_ ?_ fun x hx => ?_
   · exact weak_do []
   · exact ⟨Nat.zero_le _, rfl⟩
   obtain ⟨hx1, hx2⟩ := hx
   by_cases hlk : x < (cs.getD y default).2.length
   · by_cases hs : ((cs.getD y default).2.getD x default).2 ≤ 1000
     · repeat' (first
         | (with_reducible apply Req_intro); focus (first | omega | assumption | (simp; done))
         | with_reducible (first | apply Req_intro | refine nilT ?_ fun hn => ?_ | apply wk_draw Tryd_mixed | refine drawEnd (by kernel_rfl) ?_)
         | (with_reducible (first | apply condA_if | apply stepDG_ifN | apply stepDG_if | apply stepG_ifN | apply stepG_if)) <;> intro hb <;> (have hif := hb) <;> (try simp only [bo] at hif) <;> (try simp -implicitDefEqProofs (disch := omega) only [go_sem, hb]) <;> clear hb
         | simp (maxSteps := 1000000) -implicitDefEqProofs (disch := omega) only [go_sem])
       all_goals first | exact absurd trivial ‹¬True› | (exfalso; omega) | omega | skip
       refine nxt_w (x + 1) (weak_do []) ?_
       try dsimp only
       exact ⟨by omega, all_take hlk hx2 (by simpa using hs)⟩
     · repeat' (first
         | (with_reducible apply Req_intro); focus (first | omega | assumption | (simp; done))
         | with_reducible (first | apply Req_intro | refine nilT ?_ fun hn => ?_ | apply wk_draw Tryd_mixed | refine drawEnd (by kernel_rfl) ?_)
         | (with_reducible (first | apply condA_if | apply stepDG_ifN | apply stepDG_if | apply stepG_ifN | apply stepG_if)) <;> intro hb <;> (have hif := hb) <;> (try simp only [bo] at hif) <;> (try simp -implicitDefEqProofs (disch := omega) only [go_sem, hb]) <;> clear hb
         | simp (maxSteps := 1000000) -implicitDefEqProofs (disch := omega) only [go_sem])
       all_goals first | exact absurd trivial ‹¬True› | (exfalso; omega) | omega | skip
       refine ret_do ?_
       have : smallB cs = false := all_not hlt (all_not hlk (by simpa using hs))
       rw [this]; rfl
   · obtain rfl : x = (cs.getD y default).2.length := by omega
     repeat' (first
       | (with_reducible apply Req_intro); focus (first | omega | assumption | (simp; done))
       | with_reducible (first | apply Req_intro | refine nilT ?_ fun hn => ?_ | apply wk_draw Tryd_mixed | refine drawEnd (by kernel_rfl) ?_)
       | (with_reducible (first | apply condA_if | apply stepDG_ifN | apply stepDG_if | apply stepG_ifN | apply stepG_if)) <;> intro hb <;> (have hif := hb) <;> (try simp only [bo] at hif) <;> (try simp -implicitDefEqProofs (disch := omega) only [go_sem, hb]) <;> clear hb
       | simp (maxSteps := 1000000) -implicitDefEqProofs (disch := omega) only [go_sem])
     all_goals first | exact absurd trivial ‹¬True› | (exfalso; omega) | omega | skip
     refine nxt_w (y + 1) (weak_do []) ?_
     try dsimp only
     refine ⟨by omega, all_take hlt hyt ?_⟩
     rw [List.take_length] at hx2
     exact hx2
 · obtain rfl : y = cs.length := by omega
   repeat' (first
     | (with_reducible apply Req_intro); focus (first | omega | assumption | (simp; done))
     | with_reducible (first | apply Req_intro | refine nilT ?_ fun hn => ?_ | apply wk_draw Tryd_mixed | refine drawEnd (by kernel_rfl) ?_)
     | (with_reducible (first | apply condA_if | apply stepDG_ifN | apply stepDG_if | apply stepG_ifN | apply stepG_if)) <;> intro hb <;> (have hif := hb) <;> (try simp only [bo] at hif) <;> (try simp -implicitDefEqProofs (disch := omega) only [go_sem, hb]) <;> clear hb
     | simp (maxSteps := 1000000) -implicitDefEqProofs (disch := omega) only [go_sem])
   all_goals first | exact absurd trivial ‹¬True› | (exfalso; omega) | omega | skip
   refine ret_do ?_
   rw [List.take_length] at hyt
   have : smallB cs = true := hyt
   rw [this]; rfl
end Go.Aw
end
