/-
  A part of the proof that a law returns true for every input that the given row speaks of: an own verified walk over the program (namespace Go.Aw), contracts of the functions that the law calls, and the law itself. Conditions: those of the given row, no other.
-/
import Derived.Test.YtofoildhohgngaaDoorPart7
section
set_option linter.unusedVariables false
set_option linter.unusedSimpArgs false
set_option maxRecDepth 20000
set_option maxHeartbeats 4000000
/-! The law's told: a load of which a box is a carrier's. -/
namespace Go.Aw
open Go.RowKit Go.Proofs

def one (i : Int) (j : Nat) : Int × Int := if (j : Int) = i then (1, 1) else (0, 0)
def toldBs (bs : List Box) (i : Int) : List Box := (List.range bs.length).map fun j => bs.getD j default ++ [one i j]
def toldCs (cs : List Bill) (c : Int) : List Bill := (List.range cs.length).map fun j => ((cs.getD j default).1, (cs.getD j default).2 ++ [one c j])
def tB (bs : List Box) (i : Int) (x j : Nat) : List (List V) := if j < x then (bs.getD j default).map encS ++ [encS (one i j)] else rowB bs bs.length j
def tC (cs : List Bill) (c : Int) (x j : Nat) : List (List V) := if j < x then (cs.getD j default).2.map encS ++ [encS (one c j)] else rowC cs cs.length j
def lnT (bs : List Box) (x j : Nat) : Nat := if j < x then lnB bs j + 1 else lnB bs j
def lnTC (cs : List Bill) (x j : Nat) : Nat := if j < x then lnC cs j + 1 else lnC cs j
theorem lnT_ne {bs : List Box} {x j : Nat} (h : j ≠ x) : lnT bs (x + 1) j = lnT bs x j := by
  unfold lnT
  by_cases hj : j < x
  · rw [if_pos hj, if_pos (by omega)]
  · rw [if_neg hj, if_neg (by omega)]
theorem lnTC_ne {cs : List Bill} {x j : Nat} (h : j ≠ x) : lnTC cs (x + 1) j = lnTC cs x j := by
  unfold lnTC
  by_cases hj : j < x
  · rw [if_pos hj, if_pos (by omega)]
  · rw [if_neg hj, if_neg (by omega)]
theorem toldBs_at {bs : List Box} {i : Int} {j : Nat} (h : j < bs.length) : (toldBs bs i).getD j default = bs.getD j default ++ [one i j] := by
  rw [getD_default (by simp [toldBs]; exact h)]; simp [toldBs]
theorem toldCs_at {cs : List Bill} {c : Int} {j : Nat} (h : j < cs.length) : (toldCs cs c).getD j default = ((cs.getD j default).1, (cs.getD j default).2 ++ [one c j]) := by
  rw [getD_default (by simp [toldCs]; exact h)]; simp [toldCs]
theorem tB_full {bs : List Box} {i : Int} {j : Nat} (h : j < bs.length) : tB bs i bs.length j = (bs.getD j default).map encS ++ [encS (one i j)] := by rw [tB, if_pos h]
theorem tC_full {cs : List Bill} {c : Int} {j : Nat} (h : j < cs.length) : tC cs c cs.length j = (cs.getD j default).2.map encS ++ [encS (one c j)] := by rw [tC, if_pos h]
theorem tB_zero (bs : List Box) (i : Int) (j : Nat) : tB bs i 0 j = rowB bs bs.length j := rfl
theorem tC_zero (cs : List Bill) (c : Int) (j : Nat) : tC cs c 0 j = rowC cs cs.length j := rfl
theorem lnT_zero (bs : List Box) : lnT bs 0 = lnB bs := rfl
theorem lnTC_zero (cs : List Bill) : lnTC cs 0 = lnC cs := rfl
theorem tB_at {bs : List Box} {i : Int} {x : Nat} (h : x < bs.length) : tB bs i x x = (bs.getD x default).map encS := by rw [tB, if_neg (Nat.lt_irrefl _), rowB, if_pos h]
theorem tC_at {cs : List Bill} {c : Int} {x : Nat} (h : x < cs.length) : tC cs c x x = (cs.getD x default).2.map encS := by rw [tC, if_neg (Nat.lt_irrefl _), rowC, if_pos h]
theorem lnT_at {bs : List Box} {x : Nat} : lnT bs x x = (bs.getD x default).length := by rw [lnT, if_neg (Nat.lt_irrefl _), lnB]
theorem lnTC_at {cs : List Bill} {x : Nat} : lnTC cs x x = (cs.getD x default).2.length := by rw [lnTC, if_neg (Nat.lt_irrefl _), lnC]
theorem tB_next {bs : List Box} {i : Int} {x : Nat} {p : Int × Int} (h : one i x = p) : tB bs i (x + 1) x = (bs.getD x default).map encS ++ [encS p] := by rw [tB, if_pos (Nat.lt_succ_self _), h]
theorem tC_next {cs : List Bill} {c : Int} {x : Nat} {p : Int × Int} (h : one c x = p) : tC cs c (x + 1) x = (cs.getD x default).2.map encS ++ [encS p] := by rw [tC, if_pos (Nat.lt_succ_self _), h]
theorem lnT_next {bs : List Box} {x : Nat} : lnT bs (x + 1) x = (bs.getD x default).length + 1 := by rw [lnT, if_pos (Nat.lt_succ_self _), lnB]
theorem lnTC_next {cs : List Bill} {x : Nat} : lnTC cs (x + 1) x = (cs.getD x default).2.length + 1 := by rw [lnTC, if_pos (Nat.lt_succ_self _), lnC]
@[go_sem] theorem tB_pu (bs : List Box) (i : Int) (x j : Nat) : PuE (tB bs i x j) = True := by
  unfold tB; split
  · first | assumption | (simp only [go_sem] <;> assumption) | (simp only [go_sem, *]; done) | (simp [go_sem]; done)
  · first | assumption | (simp only [go_sem] <;> assumption) | (simp only [go_sem, *]; done) | (simp [go_sem]; done)
@[go_sem] theorem tC_pu (cs : List Bill) (c : Int) (x j : Nat) : PuE (tC cs c x j) = True := by
  unfold tC; split
  · first | assumption | (simp only [go_sem] <;> assumption) | (simp only [go_sem, *]; done) | (simp [go_sem]; done)
  · first | assumption | (simp only [go_sem] <;> assumption) | (simp only [go_sem, *]; done) | (simp [go_sem]; done)

theorem told_spec (bs : List Box) (cs : List Bill) (i c : Int) (hz : SizeOk bs cs) (h8 : bs.length ≤ 8) (h3 : cs.length ≤ 3) : Ct Tryd.prog 39 [encLoad bs cs, int i, int c] (encLoad (toldBs bs i) (toldCs cs c)) := by
  have hown := own_H bs cs hz h8 h3
  obtain ⟨hnb, hnc, hlb, hlc⟩ := hz
  refine ct_enterZ Tryd.func39 rfl (by decide) Tryd.results39 Tryd.ntmps39 ?_ rfl (by simp (maxSteps := 1000000) -implicitDefEqProofs (disch := omega) only [go_sem]; rfl) fun base => ?_
  · first | assumption | (simp only [go_sem] <;> assumption) | (simp only [go_sem, *]; done) | (simp [go_sem]; done)
  repeat' (first
    | (with_reducible apply Req_intro); focus (first | omega | assumption | (simp; done))
    | with_reducible (first | apply Req_intro | refine nilT ?_ fun hn => ?_ | apply wk_draw Tryd_mixed | refine drawEnd (by kernel_rfl) ?_)
    | (with_reducible (first | apply condA_if | apply stepDG_ifN | apply stepDG_if | apply stepG_ifN | apply stepG_if)) <;> intro hb <;> (have hif := hb) <;> (try simp only [bo] at hif) <;> (try simp -implicitDefEqProofs (disch := omega) only [go_sem, hb]) <;> clear hb
    | simp (maxSteps := 1000000) -implicitDefEqProofs (disch := omega) only [go_sem])
  refine callA_shared _ hown ⟨_, Tryd.func38, by rfl, by decide⟩ fun r h' nx' hp => ?_
  obtain ⟨rfl, rfl, rfl⟩ := hp
  rw [ownRows]
  repeat' (first
    | (with_reducible apply Req_intro); focus (first | omega | assumption | (simp; done))
    | with_reducible (first | apply Req_intro | refine nilT ?_ fun hn => ?_ | apply wk_draw Tryd_mixed | refine drawEnd (by kernel_rfl) ?_)
    | (with_reducible (first | apply condA_if | apply stepDG_ifN | apply stepDG_if | apply stepG_ifN | apply stepG_if)) <;> intro hb <;> (have hif := hb) <;> (try simp only [bo] at hif) <;> (try simp -implicitDefEqProofs (disch := omega) only [go_sem, hb]) <;> clear hb
    | simp (maxSteps := 1000000) -implicitDefEqProofs (disch := omega) only [go_sem])
  refine loop_rows (α := Nat) [8, 9, 14, 15, 16, 17, 18, 19, 20, 21, 22, 23, 24, 25, 26, 27, 28, 29, 30, 31, 32, 33, 34, 35, 36, 37, 38, 39] (fun x => [(8, .lit (.int .i64 x))]) (fun x => [(64, some ⟨2, [[nilV, nilV]], 25, .wr⟩), (1472, some ⟨2, [[.os 193 1 bs.length false, .os 194 2 cs.length false]], 25, .wr⟩), (193, some ⟨1, famE 200 bs.length (lnT bs x), 67, .wr⟩), (194, some ⟨2, famC 208 cs.length (ctC cs) (lnC cs), 64, .wr⟩), (200, some ⟨2, tB bs i x 0, 60, .wr⟩), (201, some ⟨2, tB bs i x 1, 60, .wr⟩), (202, some ⟨2, tB bs i x 2, 60, .wr⟩), (203, some ⟨2, tB bs i x 3, 60, .wr⟩), (204, some ⟨2, tB bs i x 4, 60, .wr⟩), (205, some ⟨2, tB bs i x 5, 60, .wr⟩), (206, some ⟨2, tB bs i x 6, 60, .wr⟩), (207, some ⟨2, tB bs i x 7, 60, .wr⟩), (208, some ⟨2, rowC cs cs.length 0, 60, .wr⟩), (209, some ⟨2, rowC cs cs.length 1, 60, .wr⟩), (210, some ⟨2, rowC cs cs.length 2, 60, .wr⟩)]) (fun x => x ≤ bs.length) (fun x => bs.length - x) 0 (fun x => by simp (maxSteps := 1000000) -implicitDefEqProofs (disch := omega) only [go_sem]; rfl) ?_ ?_ fun x hx => ?_
  · simp only [tB_zero, lnT_zero]
    exact weak_do3 []
  · exact Nat.zero_le _
  by_cases hlt : x < bs.length
  · have hl := hlb _ (getD_mem hlt)
    have hrow := tB_at (i := i) hlt
    have hln := lnT_at (bs := bs) (x := x)
    have hx8 : x < 8 := by omega
    clear hx
    rcases Nat.eq_or_lt_of_le (show 0 ≤ x by omega) with he | he
    · subst he
      have hlT : ∀ j, j < bs.length → j ≠ 0 → lnT bs (0 + 1) j = lnT bs 0 j := fun j _ hj => lnT_ne hj
      repeat' (first
        | (with_reducible apply Req_intro); focus (first | omega | assumption | (simp; done))
        | with_reducible (first | apply Req_intro | refine nilT ?_ fun hn => ?_ | apply wk_draw Tryd_mixed | refine drawEnd (by kernel_rfl) ?_)
        | (with_reducible (first | apply condA_if | apply stepDG_ifN | apply stepDG_if | apply stepG_ifN | apply stepG_if)) <;> intro hb <;> (have hif := hb) <;> (try simp only [bo] at hif) <;> (try simp -implicitDefEqProofs (disch := omega) only [go_sem, hb, hrow, hln]) <;> clear hb
        | simp (maxSteps := 1000000) -implicitDefEqProofs (disch := omega) only [go_sem, hrow, hln])
      all_goals first | exact absurd trivial ‹¬True› | (exfalso; omega) | omega | skip
      · have hnx := tB_next (bs := bs) (if_pos hif : one i 0 = (1, 1))
        refine calld (span_spec _ _) ?_
        try simp (maxSteps := 1000000) -implicitDefEqProofs (disch := omega) only [go_sem]
        repeat' (first
          | (with_reducible apply Req_intro); focus (first | omega | assumption | (simp; done))
          | with_reducible (first | apply Req_intro | refine nilT ?_ fun hn => ?_ | apply wk_draw Tryd_mixed | refine drawEnd (by kernel_rfl) ?_)
          | (with_reducible (first | apply condA_if | apply stepDG_ifN | apply stepDG_if | apply stepG_ifN | apply stepG_if)) <;> intro hb <;> (have hif := hb) <;> (try simp only [bo] at hif) <;> (try simp -implicitDefEqProofs (disch := omega) only [go_sem, hb, hrow, hln]) <;> clear hb
          | simp (maxSteps := 1000000) -implicitDefEqProofs (disch := omega) only [go_sem, hrow, hln])
        all_goals first | exact absurd trivial ‹¬True› | (exfalso; omega) | omega | skip
        with_reducible refine nxt_w (0 + 1) ?_ ?_
        · (try dsimp only)
          rw [hnx]
          exact weak_do3 [(200, 3136)]
        try dsimp only
        omega
      · have hnx := tB_next (bs := bs) (if_neg hif : one i 0 = (0, 0))
        refine calld (span_spec _ _) ?_
        try simp (maxSteps := 1000000) -implicitDefEqProofs (disch := omega) only [go_sem]
        repeat' (first
          | (with_reducible apply Req_intro); focus (first | omega | assumption | (simp; done))
          | with_reducible (first | apply Req_intro | refine nilT ?_ fun hn => ?_ | apply wk_draw Tryd_mixed | refine drawEnd (by kernel_rfl) ?_)
          | (with_reducible (first | apply condA_if | apply stepDG_ifN | apply stepDG_if | apply stepG_ifN | apply stepG_if)) <;> intro hb <;> (have hif := hb) <;> (try simp only [bo] at hif) <;> (try simp -implicitDefEqProofs (disch := omega) only [go_sem, hb, hrow, hln]) <;> clear hb
          | simp (maxSteps := 1000000) -implicitDefEqProofs (disch := omega) only [go_sem, hrow, hln])
        all_goals first | exact absurd trivial ‹¬True› | (exfalso; omega) | omega | skip
        with_reducible refine nxt_w (0 + 1) ?_ ?_
        · (try dsimp only)
          rw [hnx]
          exact weak_do3 [(200, 3072)]
        try dsimp only
        omega
    rcases Nat.eq_or_lt_of_le (show 1 ≤ x by omega) with he | he
    · subst he
      have hlT : ∀ j, j < bs.length → j ≠ 1 → lnT bs (1 + 1) j = lnT bs 1 j := fun j _ hj => lnT_ne hj
      repeat' (first
        | (with_reducible apply Req_intro); focus (first | omega | assumption | (simp; done))
        | with_reducible (first | apply Req_intro | refine nilT ?_ fun hn => ?_ | apply wk_draw Tryd_mixed | refine drawEnd (by kernel_rfl) ?_)
        | (with_reducible (first | apply condA_if | apply stepDG_ifN | apply stepDG_if | apply stepG_ifN | apply stepG_if)) <;> intro hb <;> (have hif := hb) <;> (try simp only [bo] at hif) <;> (try simp -implicitDefEqProofs (disch := omega) only [go_sem, hb, hrow, hln]) <;> clear hb
        | simp (maxSteps := 1000000) -implicitDefEqProofs (disch := omega) only [go_sem, hrow, hln])
      all_goals first | exact absurd trivial ‹¬True› | (exfalso; omega) | omega | skip
      · have hnx := tB_next (bs := bs) (if_pos hif : one i 1 = (1, 1))
        refine calld (span_spec _ _) ?_
        try simp (maxSteps := 1000000) -implicitDefEqProofs (disch := omega) only [go_sem]
        repeat' (first
          | (with_reducible apply Req_intro); focus (first | omega | assumption | (simp; done))
          | with_reducible (first | apply Req_intro | refine nilT ?_ fun hn => ?_ | apply wk_draw Tryd_mixed | refine drawEnd (by kernel_rfl) ?_)
          | (with_reducible (first | apply condA_if | apply stepDG_ifN | apply stepDG_if | apply stepG_ifN | apply stepG_if)) <;> intro hb <;> (have hif := hb) <;> (try simp only [bo] at hif) <;> (try simp -implicitDefEqProofs (disch := omega) only [go_sem, hb, hrow, hln]) <;> clear hb
          | simp (maxSteps := 1000000) -implicitDefEqProofs (disch := omega) only [go_sem, hrow, hln])
        all_goals first | exact absurd trivial ‹¬True› | (exfalso; omega) | omega | skip
        with_reducible refine nxt_w (1 + 1) ?_ ?_
        · (try dsimp only)
          rw [hnx]
          exact weak_do3 [(201, 3136)]
        try dsimp only
        omega
      · have hnx := tB_next (bs := bs) (if_neg hif : one i 1 = (0, 0))
        refine calld (span_spec _ _) ?_
        try simp (maxSteps := 1000000) -implicitDefEqProofs (disch := omega) only [go_sem]
        repeat' (first
          | (with_reducible apply Req_intro); focus (first | omega | assumption | (simp; done))
          | with_reducible (first | apply Req_intro | refine nilT ?_ fun hn => ?_ | apply wk_draw Tryd_mixed | refine drawEnd (by kernel_rfl) ?_)
          | (with_reducible (first | apply condA_if | apply stepDG_ifN | apply stepDG_if | apply stepG_ifN | apply stepG_if)) <;> intro hb <;> (have hif := hb) <;> (try simp only [bo] at hif) <;> (try simp -implicitDefEqProofs (disch := omega) only [go_sem, hb, hrow, hln]) <;> clear hb
          | simp (maxSteps := 1000000) -implicitDefEqProofs (disch := omega) only [go_sem, hrow, hln])
        all_goals first | exact absurd trivial ‹¬True› | (exfalso; omega) | omega | skip
        with_reducible refine nxt_w (1 + 1) ?_ ?_
        · (try dsimp only)
          rw [hnx]
          exact weak_do3 [(201, 3072)]
        try dsimp only
        omega
    rcases Nat.eq_or_lt_of_le (show 2 ≤ x by omega) with he | he
    · subst he
      have hlT : ∀ j, j < bs.length → j ≠ 2 → lnT bs (2 + 1) j = lnT bs 2 j := fun j _ hj => lnT_ne hj
      repeat' (first
        | (with_reducible apply Req_intro); focus (first | omega | assumption | (simp; done))
        | with_reducible (first | apply Req_intro | refine nilT ?_ fun hn => ?_ | apply wk_draw Tryd_mixed | refine drawEnd (by kernel_rfl) ?_)
        | (with_reducible (first | apply condA_if | apply stepDG_ifN | apply stepDG_if | apply stepG_ifN | apply stepG_if)) <;> intro hb <;> (have hif := hb) <;> (try simp only [bo] at hif) <;> (try simp -implicitDefEqProofs (disch := omega) only [go_sem, hb, hrow, hln]) <;> clear hb
        | simp (maxSteps := 1000000) -implicitDefEqProofs (disch := omega) only [go_sem, hrow, hln])
      all_goals first | exact absurd trivial ‹¬True› | (exfalso; omega) | omega | skip
      · have hnx := tB_next (bs := bs) (if_pos hif : one i 2 = (1, 1))
        refine calld (span_spec _ _) ?_
        try simp (maxSteps := 1000000) -implicitDefEqProofs (disch := omega) only [go_sem]
        repeat' (first
          | (with_reducible apply Req_intro); focus (first | omega | assumption | (simp; done))
          | with_reducible (first | apply Req_intro | refine nilT ?_ fun hn => ?_ | apply wk_draw Tryd_mixed | refine drawEnd (by kernel_rfl) ?_)
          | (with_reducible (first | apply condA_if | apply stepDG_ifN | apply stepDG_if | apply stepG_ifN | apply stepG_if)) <;> intro hb <;> (have hif := hb) <;> (try simp only [bo] at hif) <;> (try simp -implicitDefEqProofs (disch := omega) only [go_sem, hb, hrow, hln]) <;> clear hb
          | simp (maxSteps := 1000000) -implicitDefEqProofs (disch := omega) only [go_sem, hrow, hln])
        all_goals first | exact absurd trivial ‹¬True› | (exfalso; omega) | omega | skip
        with_reducible refine nxt_w (2 + 1) ?_ ?_
        · (try dsimp only)
          rw [hnx]
          exact weak_do3 [(202, 3136)]
        try dsimp only
        omega
      · have hnx := tB_next (bs := bs) (if_neg hif : one i 2 = (0, 0))
        refine calld (span_spec _ _) ?_
        try simp (maxSteps := 1000000) -implicitDefEqProofs (disch := omega) only [go_sem]
        repeat' (first
          | (with_reducible apply Req_intro); focus (first | omega | assumption | (simp; done))
          | with_reducible (first | apply Req_intro | refine nilT ?_ fun hn => ?_ | apply wk_draw Tryd_mixed | refine drawEnd (by kernel_rfl) ?_)
          | (with_reducible (first | apply condA_if | apply stepDG_ifN | apply stepDG_if | apply stepG_ifN | apply stepG_if)) <;> intro hb <;> (have hif := hb) <;> (try simp only [bo] at hif) <;> (try simp -implicitDefEqProofs (disch := omega) only [go_sem, hb, hrow, hln]) <;> clear hb
          | simp (maxSteps := 1000000) -implicitDefEqProofs (disch := omega) only [go_sem, hrow, hln])
        all_goals first | exact absurd trivial ‹¬True› | (exfalso; omega) | omega | skip
        with_reducible refine nxt_w (2 + 1) ?_ ?_
        · (try dsimp only)
          rw [hnx]
          exact weak_do3 [(202, 3072)]
        try dsimp only
        omega
    rcases Nat.eq_or_lt_of_le (show 3 ≤ x by omega) with he | he
    · subst he
      have hlT : ∀ j, j < bs.length → j ≠ 3 → lnT bs (3 + 1) j = lnT bs 3 j := fun j _ hj => lnT_ne hj
      repeat' (first
        | (with_reducible apply Req_intro); focus (first | omega | assumption | (simp; done))
        | with_reducible (first | apply Req_intro | refine nilT ?_ fun hn => ?_ | apply wk_draw Tryd_mixed | refine drawEnd (by kernel_rfl) ?_)
        | (with_reducible (first | apply condA_if | apply stepDG_ifN | apply stepDG_if | apply stepG_ifN | apply stepG_if)) <;> intro hb <;> (have hif := hb) <;> (try simp only [bo] at hif) <;> (try simp -implicitDefEqProofs (disch := omega) only [go_sem, hb, hrow, hln]) <;> clear hb
        | simp (maxSteps := 1000000) -implicitDefEqProofs (disch := omega) only [go_sem, hrow, hln])
      all_goals first | exact absurd trivial ‹¬True› | (exfalso; omega) | omega | skip
      · have hnx := tB_next (bs := bs) (if_pos hif : one i 3 = (1, 1))
        refine calld (span_spec _ _) ?_
        try simp (maxSteps := 1000000) -implicitDefEqProofs (disch := omega) only [go_sem]
        repeat' (first
          | (with_reducible apply Req_intro); focus (first | omega | assumption | (simp; done))
          | with_reducible (first | apply Req_intro | refine nilT ?_ fun hn => ?_ | apply wk_draw Tryd_mixed | refine drawEnd (by kernel_rfl) ?_)
          | (with_reducible (first | apply condA_if | apply stepDG_ifN | apply stepDG_if | apply stepG_ifN | apply stepG_if)) <;> intro hb <;> (have hif := hb) <;> (try simp only [bo] at hif) <;> (try simp -implicitDefEqProofs (disch := omega) only [go_sem, hb, hrow, hln]) <;> clear hb
          | simp (maxSteps := 1000000) -implicitDefEqProofs (disch := omega) only [go_sem, hrow, hln])
        all_goals first | exact absurd trivial ‹¬True› | (exfalso; omega) | omega | skip
        with_reducible refine nxt_w (3 + 1) ?_ ?_
        · (try dsimp only)
          rw [hnx]
          exact weak_do3 [(203, 3136)]
        try dsimp only
        omega
      · have hnx := tB_next (bs := bs) (if_neg hif : one i 3 = (0, 0))
        refine calld (span_spec _ _) ?_
        try simp (maxSteps := 1000000) -implicitDefEqProofs (disch := omega) only [go_sem]
        repeat' (first
          | (with_reducible apply Req_intro); focus (first | omega | assumption | (simp; done))
          | with_reducible (first | apply Req_intro | refine nilT ?_ fun hn => ?_ | apply wk_draw Tryd_mixed | refine drawEnd (by kernel_rfl) ?_)
          | (with_reducible (first | apply condA_if | apply stepDG_ifN | apply stepDG_if | apply stepG_ifN | apply stepG_if)) <;> intro hb <;> (have hif := hb) <;> (try simp only [bo] at hif) <;> (try simp -implicitDefEqProofs (disch := omega) only [go_sem, hb, hrow, hln]) <;> clear hb
          | simp (maxSteps := 1000000) -implicitDefEqProofs (disch := omega) only [go_sem, hrow, hln])
        all_goals first | exact absurd trivial ‹¬True› | (exfalso; omega) | omega | skip
        with_reducible refine nxt_w (3 + 1) ?_ ?_
        · (try dsimp only)
          rw [hnx]
          exact weak_do3 [(203, 3072)]
        try dsimp only
        omega
    rcases Nat.eq_or_lt_of_le (show 4 ≤ x by omega) with he | he
    · subst he
      have hlT : ∀ j, j < bs.length → j ≠ 4 → lnT bs (4 + 1) j = lnT bs 4 j := fun j _ hj => lnT_ne hj
      repeat' (first
        | (with_reducible apply Req_intro); focus (first | omega | assumption | (simp; done))
        | with_reducible (first | apply Req_intro | refine nilT ?_ fun hn => ?_ | apply wk_draw Tryd_mixed | refine drawEnd (by kernel_rfl) ?_)
        | (with_reducible (first | apply condA_if | apply stepDG_ifN | apply stepDG_if | apply stepG_ifN | apply stepG_if)) <;> intro hb <;> (have hif := hb) <;> (try simp only [bo] at hif) <;> (try simp -implicitDefEqProofs (disch := omega) only [go_sem, hb, hrow, hln]) <;> clear hb
        | simp (maxSteps := 1000000) -implicitDefEqProofs (disch := omega) only [go_sem, hrow, hln])
      all_goals first | exact absurd trivial ‹¬True› | (exfalso; omega) | omega | skip
      · have hnx := tB_next (bs := bs) (if_pos hif : one i 4 = (1, 1))
        refine calld (span_spec _ _) ?_
        try simp (maxSteps := 1000000) -implicitDefEqProofs (disch := omega) only [go_sem]
        repeat' (first
          | (with_reducible apply Req_intro); focus (first | omega | assumption | (simp; done))
          | with_reducible (first | apply Req_intro | refine nilT ?_ fun hn => ?_ | apply wk_draw Tryd_mixed | refine drawEnd (by kernel_rfl) ?_)
          | (with_reducible (first | apply condA_if | apply stepDG_ifN | apply stepDG_if | apply stepG_ifN | apply stepG_if)) <;> intro hb <;> (have hif := hb) <;> (try simp only [bo] at hif) <;> (try simp -implicitDefEqProofs (disch := omega) only [go_sem, hb, hrow, hln]) <;> clear hb
          | simp (maxSteps := 1000000) -implicitDefEqProofs (disch := omega) only [go_sem, hrow, hln])
        all_goals first | exact absurd trivial ‹¬True› | (exfalso; omega) | omega | skip
        with_reducible refine nxt_w (4 + 1) ?_ ?_
        · (try dsimp only)
          rw [hnx]
          exact weak_do3 [(204, 3136)]
        try dsimp only
        omega
      · have hnx := tB_next (bs := bs) (if_neg hif : one i 4 = (0, 0))
        refine calld (span_spec _ _) ?_
        try simp (maxSteps := 1000000) -implicitDefEqProofs (disch := omega) only [go_sem]
        repeat' (first
          | (with_reducible apply Req_intro); focus (first | omega | assumption | (simp; done))
          | with_reducible (first | apply Req_intro | refine nilT ?_ fun hn => ?_ | apply wk_draw Tryd_mixed | refine drawEnd (by kernel_rfl) ?_)
          | (with_reducible (first | apply condA_if | apply stepDG_ifN | apply stepDG_if | apply stepG_ifN | apply stepG_if)) <;> intro hb <;> (have hif := hb) <;> (try simp only [bo] at hif) <;> (try simp -implicitDefEqProofs (disch := omega) only [go_sem, hb, hrow, hln]) <;> clear hb
          | simp (maxSteps := 1000000) -implicitDefEqProofs (disch := omega) only [go_sem, hrow, hln])
        all_goals first | exact absurd trivial ‹¬True› | (exfalso; omega) | omega | skip
        with_reducible refine nxt_w (4 + 1) ?_ ?_
        · (try dsimp only)
          rw [hnx]
          exact weak_do3 [(204, 3072)]
        try dsimp only
        omega
    rcases Nat.eq_or_lt_of_le (show 5 ≤ x by omega) with he | he
    · subst he
      have hlT : ∀ j, j < bs.length → j ≠ 5 → lnT bs (5 + 1) j = lnT bs 5 j := fun j _ hj => lnT_ne hj
      repeat' (first
        | (with_reducible apply Req_intro); focus (first | omega | assumption | (simp; done))
        | with_reducible (first | apply Req_intro | refine nilT ?_ fun hn => ?_ | apply wk_draw Tryd_mixed | refine drawEnd (by kernel_rfl) ?_)
        | (with_reducible (first | apply condA_if | apply stepDG_ifN | apply stepDG_if | apply stepG_ifN | apply stepG_if)) <;> intro hb <;> (have hif := hb) <;> (try simp only [bo] at hif) <;> (try simp -implicitDefEqProofs (disch := omega) only [go_sem, hb, hrow, hln]) <;> clear hb
        | simp (maxSteps := 1000000) -implicitDefEqProofs (disch := omega) only [go_sem, hrow, hln])
      all_goals first | exact absurd trivial ‹¬True› | (exfalso; omega) | omega | skip
      · have hnx := tB_next (bs := bs) (if_pos hif : one i 5 = (1, 1))
        refine calld (span_spec _ _) ?_
        try simp (maxSteps := 1000000) -implicitDefEqProofs (disch := omega) only [go_sem]
        repeat' (first
          | (with_reducible apply Req_intro); focus (first | omega | assumption | (simp; done))
          | with_reducible (first | apply Req_intro | refine nilT ?_ fun hn => ?_ | apply wk_draw Tryd_mixed | refine drawEnd (by kernel_rfl) ?_)
          | (with_reducible (first | apply condA_if | apply stepDG_ifN | apply stepDG_if | apply stepG_ifN | apply stepG_if)) <;> intro hb <;> (have hif := hb) <;> (try simp only [bo] at hif) <;> (try simp -implicitDefEqProofs (disch := omega) only [go_sem, hb, hrow, hln]) <;> clear hb
          | simp (maxSteps := 1000000) -implicitDefEqProofs (disch := omega) only [go_sem, hrow, hln])
        all_goals first | exact absurd trivial ‹¬True› | (exfalso; omega) | omega | skip
        with_reducible refine nxt_w (5 + 1) ?_ ?_
        · (try dsimp only)
          rw [hnx]
          exact weak_do3 [(205, 3136)]
        try dsimp only
        omega
      · have hnx := tB_next (bs := bs) (if_neg hif : one i 5 = (0, 0))
        refine calld (span_spec _ _) ?_
        try simp (maxSteps := 1000000) -implicitDefEqProofs (disch := omega) only [go_sem]
        repeat' (first
          | (with_reducible apply Req_intro); focus (first | omega | assumption | (simp; done))
          | with_reducible (first | apply Req_intro | refine nilT ?_ fun hn => ?_ | apply wk_draw Tryd_mixed | refine drawEnd (by kernel_rfl) ?_)
          | (with_reducible (first | apply condA_if | apply stepDG_ifN | apply stepDG_if | apply stepG_ifN | apply stepG_if)) <;> intro hb <;> (have hif := hb) <;> (try simp only [bo] at hif) <;> (try simp -implicitDefEqProofs (disch := omega) only [go_sem, hb, hrow, hln]) <;> clear hb
          | simp (maxSteps := 1000000) -implicitDefEqProofs (disch := omega) only [go_sem, hrow, hln])
        all_goals first | exact absurd trivial ‹¬True› | (exfalso; omega) | omega | skip
        with_reducible refine nxt_w (5 + 1) ?_ ?_
        · (try dsimp only)
          rw [hnx]
          exact weak_do3 [(205, 3072)]
        try dsimp only
        omega
    rcases Nat.eq_or_lt_of_le (show 6 ≤ x by omega) with he | he
    · subst he
      have hlT : ∀ j, j < bs.length → j ≠ 6 → lnT bs (6 + 1) j = lnT bs 6 j := fun j _ hj => lnT_ne hj
      repeat' (first
        | (with_reducible apply Req_intro); focus (first | omega | assumption | (simp; done))
        | with_reducible (first | apply Req_intro | refine nilT ?_ fun hn => ?_ | apply wk_draw Tryd_mixed | refine drawEnd (by kernel_rfl) ?_)
        | (with_reducible (first | apply condA_if | apply stepDG_ifN | apply stepDG_if | apply stepG_ifN | apply stepG_if)) <;> intro hb <;> (have hif := hb) <;> (try simp only [bo] at hif) <;> (try simp -implicitDefEqProofs (disch := omega) only [go_sem, hb, hrow, hln]) <;> clear hb
        | simp (maxSteps := 1000000) -implicitDefEqProofs (disch := omega) only [go_sem, hrow, hln])
      all_goals first | exact absurd trivial ‹¬True› | (exfalso; omega) | omega | skip
      · have hnx := tB_next (bs := bs) (if_pos hif : one i 6 = (1, 1))
        refine calld (span_spec _ _) ?_
        try simp (maxSteps := 1000000) -implicitDefEqProofs (disch := omega) only [go_sem]
        repeat' (first
          | (with_reducible apply Req_intro); focus (first | omega | assumption | (simp; done))
          | with_reducible (first | apply Req_intro | refine nilT ?_ fun hn => ?_ | apply wk_draw Tryd_mixed | refine drawEnd (by kernel_rfl) ?_)
          | (with_reducible (first | apply condA_if | apply stepDG_ifN | apply stepDG_if | apply stepG_ifN | apply stepG_if)) <;> intro hb <;> (have hif := hb) <;> (try simp only [bo] at hif) <;> (try simp -implicitDefEqProofs (disch := omega) only [go_sem, hb, hrow, hln]) <;> clear hb
          | simp (maxSteps := 1000000) -implicitDefEqProofs (disch := omega) only [go_sem, hrow, hln])
        all_goals first | exact absurd trivial ‹¬True› | (exfalso; omega) | omega | skip
        with_reducible refine nxt_w (6 + 1) ?_ ?_
        · (try dsimp only)
          rw [hnx]
          exact weak_do3 [(206, 3136)]
        try dsimp only
        omega
      · have hnx := tB_next (bs := bs) (if_neg hif : one i 6 = (0, 0))
        refine calld (span_spec _ _) ?_
        try simp (maxSteps := 1000000) -implicitDefEqProofs (disch := omega) only [go_sem]
        repeat' (first
          | (with_reducible apply Req_intro); focus (first | omega | assumption | (simp; done))
          | with_reducible (first | apply Req_intro | refine nilT ?_ fun hn => ?_ | apply wk_draw Tryd_mixed | refine drawEnd (by kernel_rfl) ?_)
          | (with_reducible (first | apply condA_if | apply stepDG_ifN | apply stepDG_if | apply stepG_ifN | apply stepG_if)) <;> intro hb <;> (have hif := hb) <;> (try simp only [bo] at hif) <;> (try simp -implicitDefEqProofs (disch := omega) only [go_sem, hb, hrow, hln]) <;> clear hb
          | simp (maxSteps := 1000000) -implicitDefEqProofs (disch := omega) only [go_sem, hrow, hln])
        all_goals first | exact absurd trivial ‹¬True› | (exfalso; omega) | omega | skip
        with_reducible refine nxt_w (6 + 1) ?_ ?_
        · (try dsimp only)
          rw [hnx]
          exact weak_do3 [(206, 3072)]
        try dsimp only
        omega
    rcases Nat.eq_or_lt_of_le (show 7 ≤ x by omega) with he | he
    · subst he
      have hlT : ∀ j, j < bs.length → j ≠ 7 → lnT bs (7 + 1) j = lnT bs 7 j := fun j _ hj => lnT_ne hj
      repeat' (first
        | (with_reducible apply Req_intro); focus (first | omega | assumption | (simp; done))
        | with_reducible (first | apply Req_intro | refine nilT ?_ fun hn => ?_ | apply wk_draw Tryd_mixed | refine drawEnd (by kernel_rfl) ?_)
        | (with_reducible (first | apply condA_if | apply stepDG_ifN | apply stepDG_if | apply stepG_ifN | apply stepG_if)) <;> intro hb <;> (have hif := hb) <;> (try simp only [bo] at hif) <;> (try simp -implicitDefEqProofs (disch := omega) only [go_sem, hb, hrow, hln]) <;> clear hb
        | simp (maxSteps := 1000000) -implicitDefEqProofs (disch := omega) only [go_sem, hrow, hln])
      all_goals first | exact absurd trivial ‹¬True› | (exfalso; omega) | omega | skip
      · have hnx := tB_next (bs := bs) (if_pos hif : one i 7 = (1, 1))
        refine calld (span_spec _ _) ?_
        try simp (maxSteps := 1000000) -implicitDefEqProofs (disch := omega) only [go_sem]
        repeat' (first
          | (with_reducible apply Req_intro); focus (first | omega | assumption | (simp; done))
          | with_reducible (first | apply Req_intro | refine nilT ?_ fun hn => ?_ | apply wk_draw Tryd_mixed | refine drawEnd (by kernel_rfl) ?_)
          | (with_reducible (first | apply condA_if | apply stepDG_ifN | apply stepDG_if | apply stepG_ifN | apply stepG_if)) <;> intro hb <;> (have hif := hb) <;> (try simp only [bo] at hif) <;> (try simp -implicitDefEqProofs (disch := omega) only [go_sem, hb, hrow, hln]) <;> clear hb
          | simp (maxSteps := 1000000) -implicitDefEqProofs (disch := omega) only [go_sem, hrow, hln])
        all_goals first | exact absurd trivial ‹¬True› | (exfalso; omega) | omega | skip
        with_reducible refine nxt_w (7 + 1) ?_ ?_
        · (try dsimp only)
          rw [hnx]
          exact weak_do3 [(207, 3136)]
        try dsimp only
        omega
      · have hnx := tB_next (bs := bs) (if_neg hif : one i 7 = (0, 0))
        refine calld (span_spec _ _) ?_
        try simp (maxSteps := 1000000) -implicitDefEqProofs (disch := omega) only [go_sem]
        repeat' (first
          | (with_reducible apply Req_intro); focus (first | omega | assumption | (simp; done))
          | with_reducible (first | apply Req_intro | refine nilT ?_ fun hn => ?_ | apply wk_draw Tryd_mixed | refine drawEnd (by kernel_rfl) ?_)
          | (with_reducible (first | apply condA_if | apply stepDG_ifN | apply stepDG_if | apply stepG_ifN | apply stepG_if)) <;> intro hb <;> (have hif := hb) <;> (try simp only [bo] at hif) <;> (try simp -implicitDefEqProofs (disch := omega) only [go_sem, hb, hrow, hln]) <;> clear hb
          | simp (maxSteps := 1000000) -implicitDefEqProofs (disch := omega) only [go_sem, hrow, hln])
        all_goals first | exact absurd trivial ‹¬True› | (exfalso; omega) | omega | skip
        with_reducible refine nxt_w (7 + 1) ?_ ?_
        · (try dsimp only)
          rw [hnx]
          exact weak_do3 [(207, 3072)]
        try dsimp only
        omega
    omega
  · obtain rfl : x = bs.length := by omega
    repeat' (first
      | (with_reducible apply Req_intro); focus (first | omega | assumption | (simp; done))
      | with_reducible (first | apply Req_intro | refine nilT ?_ fun hn => ?_ | apply wk_draw Tryd_mixed | refine drawEnd (by kernel_rfl) ?_)
      | (with_reducible (first | apply condA_if | apply stepDG_ifN | apply stepDG_if | apply stepG_ifN | apply stepG_if)) <;> intro hb <;> (have hif := hb) <;> (try simp only [bo] at hif) <;> (try simp -implicitDefEqProofs (disch := omega) only [go_sem, hb]) <;> clear hb
      | simp (maxSteps := 1000000) -implicitDefEqProofs (disch := omega) only [go_sem])
    all_goals first | exact absurd trivial ‹¬True› | (exfalso; omega) | omega | skip
    refine loop_rows (α := Nat) [10, 11, 40, 41, 42, 43, 44, 45, 46, 47, 48, 49, 50, 51, 52, 53, 54, 55, 56, 57, 58, 59, 60, 61, 62, 63, 64, 65] (fun x => [(10, .lit (.int .i64 x))]) (fun x => [(64, some ⟨2, [[nilV, nilV]], 25, .wr⟩), (1472, some ⟨2, [[.os 193 1 bs.length false, .os 194 2 cs.length false]], 25, .wr⟩), (193, some ⟨1, famE 200 bs.length (lnT bs bs.length), 67, .wr⟩), (194, some ⟨2, famC 208 cs.length (ctC cs) (lnTC cs x), 64, .wr⟩), (200, some ⟨2, tB bs i bs.length 0, 60, .wr⟩), (201, some ⟨2, tB bs i bs.length 1, 60, .wr⟩), (202, some ⟨2, tB bs i bs.length 2, 60, .wr⟩), (203, some ⟨2, tB bs i bs.length 3, 60, .wr⟩), (204, some ⟨2, tB bs i bs.length 4, 60, .wr⟩), (205, some ⟨2, tB bs i bs.length 5, 60, .wr⟩), (206, some ⟨2, tB bs i bs.length 6, 60, .wr⟩), (207, some ⟨2, tB bs i bs.length 7, 60, .wr⟩), (208, some ⟨2, tC cs c x 0, 60, .wr⟩), (209, some ⟨2, tC cs c x 1, 60, .wr⟩), (210, some ⟨2, tC cs c x 2, 60, .wr⟩)]) (fun x => x ≤ cs.length) (fun x => cs.length - x) 0 (fun x => by simp (maxSteps := 1000000) -implicitDefEqProofs (disch := omega) only [go_sem]; rfl) ?_ ?_ fun x hx => ?_
    · simp only [tC_zero, lnTC_zero]
      exact weak_do3 []
    · exact Nat.zero_le _
    by_cases hlt : x < cs.length
    · have hl := hlc _ (getD_mem hlt)
      have hrow := tC_at (c := c) hlt
      have hln := lnTC_at (cs := cs) (x := x)
      have hx8 : x < 3 := by omega
      clear hx
      rcases Nat.eq_or_lt_of_le (show 0 ≤ x by omega) with he | he
      · subst he
        have hlT : ∀ j, j < cs.length → j ≠ 0 → lnTC cs (0 + 1) j = lnTC cs 0 j := fun j _ hj => lnTC_ne hj
        repeat' (first
          | (with_reducible apply Req_intro); focus (first | omega | assumption | (simp; done))
          | with_reducible (first | apply Req_intro | refine nilT ?_ fun hn => ?_ | apply wk_draw Tryd_mixed | refine drawEnd (by kernel_rfl) ?_)
          | (with_reducible (first | apply condA_if | apply stepDG_ifN | apply stepDG_if | apply stepG_ifN | apply stepG_if)) <;> intro hb <;> (have hif := hb) <;> (try simp only [bo] at hif) <;> (try simp -implicitDefEqProofs (disch := omega) only [go_sem, hb, hrow, hln]) <;> clear hb
          | simp (maxSteps := 1000000) -implicitDefEqProofs (disch := omega) only [go_sem, hrow, hln])
        all_goals first | exact absurd trivial ‹¬True› | (exfalso; omega) | omega | skip
        · have hnx := tC_next (cs := cs) (if_pos hif : one c 0 = (1, 1))
          refine calld (span_spec _ _) ?_
          try simp (maxSteps := 1000000) -implicitDefEqProofs (disch := omega) only [go_sem]
          repeat' (first
            | (with_reducible apply Req_intro); focus (first | omega | assumption | (simp; done))
            | with_reducible (first | apply Req_intro | refine nilT ?_ fun hn => ?_ | apply wk_draw Tryd_mixed | refine drawEnd (by kernel_rfl) ?_)
            | (with_reducible (first | apply condA_if | apply stepDG_ifN | apply stepDG_if | apply stepG_ifN | apply stepG_if)) <;> intro hb <;> (have hif := hb) <;> (try simp only [bo] at hif) <;> (try simp -implicitDefEqProofs (disch := omega) only [go_sem, hb, hrow, hln]) <;> clear hb
            | simp (maxSteps := 1000000) -implicitDefEqProofs (disch := omega) only [go_sem, hrow, hln])
          all_goals first | exact absurd trivial ‹¬True› | (exfalso; omega) | omega | skip
          with_reducible refine nxt_w (0 + 1) ?_ ?_
          · (try dsimp only)
            rw [hnx]
            exact weak_do3 [(208, 3520)]
          try dsimp only
          omega
        · have hnx := tC_next (cs := cs) (if_neg hif : one c 0 = (0, 0))
          refine calld (span_spec _ _) ?_
          try simp (maxSteps := 1000000) -implicitDefEqProofs (disch := omega) only [go_sem]
          repeat' (first
            | (with_reducible apply Req_intro); focus (first | omega | assumption | (simp; done))
            | with_reducible (first | apply Req_intro | refine nilT ?_ fun hn => ?_ | apply wk_draw Tryd_mixed | refine drawEnd (by kernel_rfl) ?_)
            | (with_reducible (first | apply condA_if | apply stepDG_ifN | apply stepDG_if | apply stepG_ifN | apply stepG_if)) <;> intro hb <;> (have hif := hb) <;> (try simp only [bo] at hif) <;> (try simp -implicitDefEqProofs (disch := omega) only [go_sem, hb, hrow, hln]) <;> clear hb
            | simp (maxSteps := 1000000) -implicitDefEqProofs (disch := omega) only [go_sem, hrow, hln])
          all_goals first | exact absurd trivial ‹¬True› | (exfalso; omega) | omega | skip
          with_reducible refine nxt_w (0 + 1) ?_ ?_
          · (try dsimp only)
            rw [hnx]
            exact weak_do3 [(208, 3456)]
          try dsimp only
          omega
      rcases Nat.eq_or_lt_of_le (show 1 ≤ x by omega) with he | he
      · subst he
        have hlT : ∀ j, j < cs.length → j ≠ 1 → lnTC cs (1 + 1) j = lnTC cs 1 j := fun j _ hj => lnTC_ne hj
        repeat' (first
          | (with_reducible apply Req_intro); focus (first | omega | assumption | (simp; done))
          | with_reducible (first | apply Req_intro | refine nilT ?_ fun hn => ?_ | apply wk_draw Tryd_mixed | refine drawEnd (by kernel_rfl) ?_)
          | (with_reducible (first | apply condA_if | apply stepDG_ifN | apply stepDG_if | apply stepG_ifN | apply stepG_if)) <;> intro hb <;> (have hif := hb) <;> (try simp only [bo] at hif) <;> (try simp -implicitDefEqProofs (disch := omega) only [go_sem, hb, hrow, hln]) <;> clear hb
          | simp (maxSteps := 1000000) -implicitDefEqProofs (disch := omega) only [go_sem, hrow, hln])
        all_goals first | exact absurd trivial ‹¬True› | (exfalso; omega) | omega | skip
        · have hnx := tC_next (cs := cs) (if_pos hif : one c 1 = (1, 1))
          refine calld (span_spec _ _) ?_
          try simp (maxSteps := 1000000) -implicitDefEqProofs (disch := omega) only [go_sem]
          repeat' (first
            | (with_reducible apply Req_intro); focus (first | omega | assumption | (simp; done))
            | with_reducible (first | apply Req_intro | refine nilT ?_ fun hn => ?_ | apply wk_draw Tryd_mixed | refine drawEnd (by kernel_rfl) ?_)
            | (with_reducible (first | apply condA_if | apply stepDG_ifN | apply stepDG_if | apply stepG_ifN | apply stepG_if)) <;> intro hb <;> (have hif := hb) <;> (try simp only [bo] at hif) <;> (try simp -implicitDefEqProofs (disch := omega) only [go_sem, hb, hrow, hln]) <;> clear hb
            | simp (maxSteps := 1000000) -implicitDefEqProofs (disch := omega) only [go_sem, hrow, hln])
          all_goals first | exact absurd trivial ‹¬True› | (exfalso; omega) | omega | skip
          with_reducible refine nxt_w (1 + 1) ?_ ?_
          · (try dsimp only)
            rw [hnx]
            exact weak_do3 [(209, 3520)]
          try dsimp only
          omega
        · have hnx := tC_next (cs := cs) (if_neg hif : one c 1 = (0, 0))
          refine calld (span_spec _ _) ?_
          try simp (maxSteps := 1000000) -implicitDefEqProofs (disch := omega) only [go_sem]
          repeat' (first
            | (with_reducible apply Req_intro); focus (first | omega | assumption | (simp; done))
            | with_reducible (first | apply Req_intro | refine nilT ?_ fun hn => ?_ | apply wk_draw Tryd_mixed | refine drawEnd (by kernel_rfl) ?_)
            | (with_reducible (first | apply condA_if | apply stepDG_ifN | apply stepDG_if | apply stepG_ifN | apply stepG_if)) <;> intro hb <;> (have hif := hb) <;> (try simp only [bo] at hif) <;> (try simp -implicitDefEqProofs (disch := omega) only [go_sem, hb, hrow, hln]) <;> clear hb
            | simp (maxSteps := 1000000) -implicitDefEqProofs (disch := omega) only [go_sem, hrow, hln])
          all_goals first | exact absurd trivial ‹¬True› | (exfalso; omega) | omega | skip
          with_reducible refine nxt_w (1 + 1) ?_ ?_
          · (try dsimp only)
            rw [hnx]
            exact weak_do3 [(209, 3456)]
          try dsimp only
          omega
      rcases Nat.eq_or_lt_of_le (show 2 ≤ x by omega) with he | he
      · subst he
        have hlT : ∀ j, j < cs.length → j ≠ 2 → lnTC cs (2 + 1) j = lnTC cs 2 j := fun j _ hj => lnTC_ne hj
        repeat' (first
          | (with_reducible apply Req_intro); focus (first | omega | assumption | (simp; done))
          | with_reducible (first | apply Req_intro | refine nilT ?_ fun hn => ?_ | apply wk_draw Tryd_mixed | refine drawEnd (by kernel_rfl) ?_)
          | (with_reducible (first | apply condA_if | apply stepDG_ifN | apply stepDG_if | apply stepG_ifN | apply stepG_if)) <;> intro hb <;> (have hif := hb) <;> (try simp only [bo] at hif) <;> (try simp -implicitDefEqProofs (disch := omega) only [go_sem, hb, hrow, hln]) <;> clear hb
          | simp (maxSteps := 1000000) -implicitDefEqProofs (disch := omega) only [go_sem, hrow, hln])
        all_goals first | exact absurd trivial ‹¬True› | (exfalso; omega) | omega | skip
        · have hnx := tC_next (cs := cs) (if_pos hif : one c 2 = (1, 1))
          refine calld (span_spec _ _) ?_
          try simp (maxSteps := 1000000) -implicitDefEqProofs (disch := omega) only [go_sem]
          repeat' (first
            | (with_reducible apply Req_intro); focus (first | omega | assumption | (simp; done))
            | with_reducible (first | apply Req_intro | refine nilT ?_ fun hn => ?_ | apply wk_draw Tryd_mixed | refine drawEnd (by kernel_rfl) ?_)
            | (with_reducible (first | apply condA_if | apply stepDG_ifN | apply stepDG_if | apply stepG_ifN | apply stepG_if)) <;> intro hb <;> (have hif := hb) <;> (try simp only [bo] at hif) <;> (try simp -implicitDefEqProofs (disch := omega) only [go_sem, hb, hrow, hln]) <;> clear hb
            | simp (maxSteps := 1000000) -implicitDefEqProofs (disch := omega) only [go_sem, hrow, hln])
          all_goals first | exact absurd trivial ‹¬True› | (exfalso; omega) | omega | skip
          with_reducible refine nxt_w (2 + 1) ?_ ?_
          · (try dsimp only)
            rw [hnx]
            exact weak_do3 [(210, 3520)]
          try dsimp only
          omega
        · have hnx := tC_next (cs := cs) (if_neg hif : one c 2 = (0, 0))
          refine calld (span_spec _ _) ?_
          try simp (maxSteps := 1000000) -implicitDefEqProofs (disch := omega) only [go_sem]
          repeat' (first
            | (with_reducible apply Req_intro); focus (first | omega | assumption | (simp; done))
            | with_reducible (first | apply Req_intro | refine nilT ?_ fun hn => ?_ | apply wk_draw Tryd_mixed | refine drawEnd (by kernel_rfl) ?_)
            | (with_reducible (first | apply condA_if | apply stepDG_ifN | apply stepDG_if | apply stepG_ifN | apply stepG_if)) <;> intro hb <;> (have hif := hb) <;> (try simp only [bo] at hif) <;> (try simp -implicitDefEqProofs (disch := omega) only [go_sem, hb, hrow, hln]) <;> clear hb
            | simp (maxSteps := 1000000) -implicitDefEqProofs (disch := omega) only [go_sem, hrow, hln])
          all_goals first | exact absurd trivial ‹¬True› | (exfalso; omega) | omega | skip
          with_reducible refine nxt_w (2 + 1) ?_ ?_
          · (try dsimp only)
            rw [hnx]
            exact weak_do3 [(210, 3456)]
          try dsimp only
          omega
      omega
    · obtain rfl : x = cs.length := by omega
      repeat' (first
        | (with_reducible apply Req_intro); focus (first | omega | assumption | (simp; done))
        | with_reducible (first | apply Req_intro | refine nilT ?_ fun hn => ?_ | apply wk_draw Tryd_mixed | refine drawEnd (by kernel_rfl) ?_)
        | (with_reducible (first | apply condA_if | apply stepDG_ifN | apply stepDG_if | apply stepG_ifN | apply stepG_if)) <;> intro hb <;> (have hif := hb) <;> (try simp only [bo] at hif) <;> (try simp -implicitDefEqProofs (disch := omega) only [go_sem, hb]) <;> clear hb
        | simp (maxSteps := 1000000) -implicitDefEqProofs (disch := omega) only [go_sem])
      all_goals first | exact absurd trivial ‹¬True› | (exfalso; omega) | omega | skip
      refine retz [193, 194, 200, 201, 202, 203, 204, 205, 206, 207, 208, 209, 210] (hp := ?_)
      refine Pur.aggI (.cons _ _ _ _ (Pur.osR (by rfl) rfl (by simp only [famE_len]; exact Nat.le_refl _) (fun h => h) (PurE.fam (by simp [toldBs]) ?_ ?_)) (.cons _ _ _ _ (Pur.osR (by rfl) rfl (by simp only [famC_len]; exact Nat.le_refl _) (fun h => h) (PurE.famCt (by simp [toldCs]) ?_ ?_ ?_)) .nil))
      · intro j hj
        rw [toldBs_at hj, lnT, if_pos hj, List.length_append]; rfl
      · refine forall_lt 8 h8 fun j hj8 hj => ?_
        rw [toldBs_at hj, List.map_append, show [one i j].map encS = [encS (one i j)] from rfl, ← tB_full hj]
        match j, hj8 with
        | 0, _ => rfl
        | 1, _ => rfl
        | 2, _ => rfl
        | 3, _ => rfl
        | 4, _ => rfl
        | 5, _ => rfl
        | 6, _ => rfl
        | 7, _ => rfl
      · intro j hj
        rw [toldCs_at hj]; rfl
      · intro j hj
        rw [toldCs_at hj, lnTC, if_pos hj]
        simp only [List.length_append]; rfl
      · refine forall_lt 3 h3 fun j hj3 hj => ?_
        rw [toldCs_at hj]
        simp only
        rw [List.map_append, show [one c j].map encS = [encS (one c j)] from rfl, ← tC_full hj]
        match j, hj3 with
        | 0, _ => rfl
        | 1, _ => rfl
        | 2, _ => rfl
end Go.Aw
end
