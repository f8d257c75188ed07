/-
  A part of the proof that a law returns true for every input that the given row speaks of: an own verified walk over the program (namespace Go.Aw), contracts of the functions that the law calls, and the law itself. Conditions: those of the given row, no other.
-/
import Derived.Test.YtofoildhohgngaaDoorPart3
import Derived.ReadAgain
import Derived.ChangeSame
import Derived.Test.YtofoildhohgngaaDoorTie
import Derived.Test.YtofoildhohgngaaDoorCards
import Derived.SevenTiedAt
import Derived.JoinedOf
import Derived.RowKit
import Derived.RowKitTokens
import Derived.LaidLaws
import Derived.Stop.Joined
import Derived.OpenShut
import Derived.ChangeVars
import Derived.ProofKit
section
set_option linter.unusedVariables false
set_option linter.unusedSimpArgs false
set_option maxRecDepth 20000
/-! Short, Share. -/
namespace Go.Aw
open Go.RowKit Go.Proofs

theorem Short_no (bs : List Box) (cs : List Bill) (hf : Fits bs cs) (h : checkR bs cs ≠ 0) : Ct Tryd.prog 33 [encLoad bs cs] (.tup [nilV, int (checkR bs cs)]) := by
  refine fn_enter Tryd.func33 rfl (by decide) Tryd.results33 Tryd.ntmps33 ?_ rfl (by simp (maxSteps := 1000000) -implicitDefEqProofs (disch := omega) only [go_sem]; rfl) fun base => ?_
  · first | assumption | (simp only [go_sem] <;> assumption) | (simp only [go_sem, *]; done) | (simp [go_sem]; done)
  repeat' (first
    | (with_reducible apply Req_intro); focus (first | omega | assumption | (simp; done))
    | with_reducible (first | apply Req_intro | refine nilT ?_ fun hn => ?_ | apply wk_draw Tryd_mixed | refine drawEnd (by kernel_rfl) ?_)
    | (with_reducible (first | apply condA_if | apply stepDG_ifN | apply stepDG_if | apply stepG_ifN | apply stepG_if)) <;> intro hb <;> (have hif := hb) <;> (try simp only [bo] at hif) <;> (try simp -implicitDefEqProofs (disch := omega) only [go_sem, hb]) <;> clear hb
    | simp (maxSteps := 1000000) -implicitDefEqProofs (disch := omega) only [go_sem])
  refine callp (Check_spec bs cs hf.b hf.c) ?_
  try simp (maxSteps := 1000000) -implicitDefEqProofs (disch := omega) only [go_sem]
  repeat' (first
    | (with_reducible apply Req_intro); focus (first | omega | assumption | (simp; done))
    | with_reducible (first | apply Req_intro | refine nilT ?_ fun hn => ?_ | apply wk_draw Tryd_mixed | refine drawEnd (by kernel_rfl) ?_)
    | (with_reducible (first | apply condA_if | apply stepDG_ifN | apply stepDG_if | apply stepG_ifN | apply stepG_if)) <;> intro hb <;> (have hif := hb) <;> (try simp only [bo] at hif) <;> (try simp -implicitDefEqProofs (disch := omega) only [go_sem, hb]) <;> clear hb
    | simp (maxSteps := 1000000) -implicitDefEqProofs (disch := omega) only [go_sem])
  · refine ret_do ?_
    rfl
  · exact absurd hif h

def sumB (bs : List Box) (k : Nat) : Int × Int := bs.foldl (fun s b => addS s (b.getD k default)) (0, 0)
def shortR (bs : List Box) (cs : List Bill) (k : Nat) : Int × Int := cs.foldl (fun s c => (s.1 - (c.2.getD k default).2, s.2 - (c.2.getD k default).1)) (sumB bs k)
def shorts (bs : List Box) (cs : List Bill) (n : Nat) : List (Int × Int) := (List.range n).map (shortR bs cs)

theorem foldl_take {α β : Type} [Inhabited α] (f : β → α → β) (b : β) (l : List α) (x : Nat) (h : x < l.length) : (l.take (x + 1)).foldl f b = f ((l.take x).foldl f b) (l.getD x default) := by
  rw [take_succ_getD h, List.foldl_append]; rfl

theorem foldl_take_all {α β : Type} (f : β → α → β) (b : β) (l : List α) : (l.take l.length).foldl f b = l.foldl f b := by rw [List.take_length]
def sumTo (bs : List Box) (k j : Nat) : Int × Int := (bs.take j).foldl (fun s b => addS s (b.getD k default)) (0, 0)
def subTo (bs : List Box) (cs : List Bill) (k j : Nat) : Int × Int := (cs.take j).foldl (fun s c => (s.1 - (c.2.getD k default).2, s.2 - (c.2.getD k default).1)) (sumB bs k)
theorem sumTo_succ (bs : List Box) (k j : Nat) (h : j < bs.length) : sumTo bs k (j + 1) = ((sumTo bs k j).1 + ((bs.getD j default).getD k default).1, (sumTo bs k j).2 + ((bs.getD j default).getD k default).2) := foldl_take _ _ _ _ h
theorem subTo_succ (bs : List Box) (cs : List Bill) (k j : Nat) (h : j < cs.length) : subTo bs cs k (j + 1) = ((subTo bs cs k j).1 - ((cs.getD j default).2.getD k default).2, (subTo bs cs k j).2 - ((cs.getD j default).2.getD k default).1) := foldl_take _ _ _ _ h

theorem Good.box {bs : List Box} {cs : List Bill} (hg : Good bs cs) {k j : Nat} (hk : k < stuffs cs) (hj : j < bs.length) : k < (bs.getD j default).length ∧ 0 ≤ ((bs.getD j default).getD k default).1 ∧ ((bs.getD j default).getD k default).1 ≤ ((bs.getD j default).getD k default).2 ∧ ((bs.getD j default).getD k default).2 ≤ 1000 := by
  have hl := hg.lb _ (getD_mem hj)
  have := spanOk_small (hg.ob _ (getD_mem hj) _ (getD_mem (l := bs.getD j default) (i := k) (by omega)))
  exact ⟨by omega, this⟩
theorem Good.bill {bs : List Box} {cs : List Bill} (hg : Good bs cs) {k j : Nat} (hk : k < stuffs cs) (hj : j < cs.length) : k < (cs.getD j default).2.length ∧ 0 ≤ ((cs.getD j default).2.getD k default).1 ∧ ((cs.getD j default).2.getD k default).1 ≤ ((cs.getD j default).2.getD k default).2 ∧ ((cs.getD j default).2.getD k default).2 ≤ 10000 := by
  have hl := hg.lc _ (getD_mem hj)
  have := spanOk_small (hg.oc _ (getD_mem hj) _ (getD_mem (l := (cs.getD j default).2) (i := k) (by omega)))
  exact ⟨by omega, this⟩

theorem sumTo_bnd {bs : List Box} {cs : List Bill} (hg : Good bs cs) {k : Nat} (hk : k < stuffs cs) : ∀ j, j ≤ bs.length → 0 ≤ (sumTo bs k j).1 ∧ (sumTo bs k j).1 ≤ (sumTo bs k j).2 ∧ (sumTo bs k j).2 ≤ 1000 * j
  | 0, _ => by simp [sumTo]
  | j + 1, h => by
    have h1 := sumTo_bnd hg hk j (by omega)
    have h2 := hg.box hk (show j < bs.length by omega)
    rw [sumTo_succ _ _ _ (by omega)]
    simp only
    omega
theorem subTo_bnd {bs : List Box} {cs : List Bill} (hg : Good bs cs) {k : Nat} (hk : k < stuffs cs) : ∀ j, j ≤ cs.length → -(10000 * j) ≤ (subTo bs cs k j).1 ∧ (subTo bs cs k j).1 ≤ (subTo bs cs k j).2 ∧ (subTo bs cs k j).2 ≤ 8000
  | 0, _ => by
    have h1 := sumTo_bnd hg hk bs.length (Nat.le_refl _)
    have h8 := hg.nb
    rw [sumTo, foldl_take_all] at h1
    simp only [subTo, List.take_zero, List.foldl_nil, sumB]
    omega
  | j + 1, h => by
    have h1 := subTo_bnd hg hk j (by omega)
    have h2 := hg.bill hk (show j < cs.length by omega)
    rw [subTo_succ _ _ _ _ (by omega)]
    simp only
    omega

theorem shorts_succ (bs : List Box) (cs : List Bill) (k : Nat) : shorts bs cs (k + 1) = shorts bs cs k ++ [subTo bs cs k cs.length] := by
  rw [shorts, List.range_succ, List.map_append, subTo, foldl_take_all]; rfl
@[go_sem] theorem take_map_S (l : List (Int × Int)) (n : Nat) (h : l.length = n) : (l.map encS).take n = l.map encS := List.take_of_length_le (by simp; omega)

theorem Short_ok (bs : List Box) (cs : List Bill) (hf : Fits bs cs) (h : checkR bs cs = 0) : Ct Tryd.prog 33 [encLoad bs cs] (.tup [.sl 2 ((shorts bs cs (stuffs cs)).map encS) false, int 0]) := by
  have hg := good_of_check h
  have h8 := hg.nb
  have h1 := hg.n1
  have hst := hg.st
  refine fn_enter Tryd.func33 rfl (by decide) Tryd.results33 Tryd.ntmps33 ?_ rfl (by simp (maxSteps := 1000000) -implicitDefEqProofs (disch := omega) only [go_sem]; rfl) fun base => ?_
  · first | assumption | (simp only [go_sem] <;> assumption) | (simp only [go_sem, *]; done) | (simp [go_sem]; done)
  repeat' (first
    | (with_reducible apply Req_intro); focus (first | omega | assumption | (simp; done))
    | with_reducible (first | apply Req_intro | refine nilT ?_ fun hn => ?_ | apply wk_draw Tryd_mixed | refine drawEnd (by kernel_rfl) ?_)
    | (with_reducible (first | apply condA_if | apply stepDG_ifN | apply stepDG_if | apply stepG_ifN | apply stepG_if)) <;> intro hb <;> (have hif := hb) <;> (try simp only [bo] at hif) <;> (try simp -implicitDefEqProofs (disch := omega) only [go_sem, hb]) <;> clear hb
    | simp (maxSteps := 1000000) -implicitDefEqProofs (disch := omega) only [go_sem])
  refine callp (Check_spec bs cs hf.b hf.c) ?_
  try simp (maxSteps := 1000000) -implicitDefEqProofs (disch := omega) only [go_sem]
  repeat' (first
    | (with_reducible apply Req_intro); focus (first | omega | assumption | (simp; done))
    | with_reducible (first | apply Req_intro | refine nilT ?_ fun hn => ?_ | apply wk_draw Tryd_mixed | refine drawEnd (by kernel_rfl) ?_)
    | (with_reducible (first | apply condA_if | apply stepDG_ifN | apply stepDG_if | apply stepG_ifN | apply stepG_if)) <;> intro hb <;> (have hif := hb) <;> (try simp only [bo] at hif) <;> (try simp -implicitDefEqProofs (disch := omega) only [go_sem, hb]) <;> clear hb
    | simp (maxSteps := 1000000) -implicitDefEqProofs (disch := omega) only [go_sem])
  · exact absurd h hif
  refine loop_rows (α := Nat) [2, 5, 6, 8, 10, 22, 23, 24, 25, 26, 27, 28, 29, 30, 31, 32, 33, 34, 35, 36, 37, 38, 39, 40, 41, 42, 43, 44, 45, 46, 47, 48, 49, 50, 51, 52, 53, 54, 55, 56, 57, 58, 59, 60, 61, 62, 63, 64, 65, 66, 67, 68, 69, 70, 71, 72, 73, 74, 75, 76, 77, 78, 79, 80, 81, 82, 83] (fun i => [(22, .lit (.int .i64 i)), (2, .os 64 2 i false)]) (fun i => [(0, some ⟨2, [loadC bs cs], 25, .wr⟩), (64, some ⟨2, (shorts bs cs i).map encS, 60, .wr⟩)]) (fun i => i ≤ stuffs cs) (fun i => stuffs cs - i) 0 (fun x => by simp (maxSteps := 1000000) -implicitDefEqProofs (disch := omega) only [go_sem]; rfl) ?_ ?_ fun x hx => ?_
  · simp only [shorts, List.range_zero, List.map_nil]
    exact weak_do [(64, 1000000)]
  · exact Nat.zero_le _
  repeat' (first
    | (with_reducible apply Req_intro); focus (first | omega | assumption | (simp; done))
    | with_reducible (first | apply Req_intro | refine nilT ?_ fun hn => ?_ | apply wk_draw Tryd_mixed | refine drawEnd (by kernel_rfl) ?_)
    | (with_reducible (first | apply condA_if | apply stepDG_ifN | apply stepDG_if | apply stepG_ifN | apply stepG_if)) <;> intro hb <;> (have hif := hb) <;> (try simp only [bo] at hif) <;> (try simp -implicitDefEqProofs (disch := omega) only [go_sem, hb]) <;> clear hb
    | simp (maxSteps := 1000000) -implicitDefEqProofs (disch := omega) only [go_sem])
  · have hk : x < stuffs cs := hif
    refine loop_rows (α := Nat) [8, 28, 29, 30, 31, 32, 33, 34, 35, 36, 37, 38, 39, 40, 41, 42, 43, 44, 45, 46, 47, 48, 49, 50, 51] (fun i => [(28, .lit (.int .i64 i))]) (fun i => [(0, some ⟨2, [loadC bs cs], 25, .wr⟩), (64, some ⟨2, (shorts bs cs x).map encS, 60, .wr⟩), (1152, some ⟨2, [encS (sumTo bs x i)], 60, .wr⟩)]) (fun i => i ≤ bs.length) (fun i => bs.length - i) 0 (fun x => by simp (maxSteps := 1000000) -implicitDefEqProofs (disch := omega) only [go_sem]; rfl) ?_ ?_ fun x hx => ?_
    · exact weak_do []
    · exact Nat.zero_le _
    rename_i k hk2
    have hb := sumTo_bnd hg hk x hx
    by_cases hlt : x < bs.length
    · have hbx := hg.box hk hlt
      repeat' (first
        | (with_reducible apply Req_intro); focus (first | omega | assumption | (simp; done))
        | with_reducible (first | apply Req_intro | refine nilT ?_ fun hn => ?_ | apply wk_draw Tryd_mixed | refine drawEnd (by kernel_rfl) ?_)
        | (with_reducible (first | apply condA_if | apply stepDG_ifN | apply stepDG_if | apply stepG_ifN | apply stepG_if)) <;> intro hb <;> (have hif := hb) <;> (try simp only [bo] at hif) <;> (try simp -implicitDefEqProofs (disch := omega) only [go_sem, hb]) <;> clear hb
        | simp (maxSteps := 1000000) -implicitDefEqProofs (disch := omega) only [go_sem])
      · with_reducible refine nxt_w (x + 1) ?_ ?_
        · (try dsimp only)
          simp only [sumTo_succ _ _ _ hlt]
          exact weak_do []
        try dsimp only
        omega
      · exact absurd hlt hif
    · obtain rfl : x = bs.length := by omega
      repeat' (first
        | (with_reducible apply Req_intro); focus (first | omega | assumption | (simp; done))
        | with_reducible (first | apply Req_intro | refine nilT ?_ fun hn => ?_ | apply wk_draw Tryd_mixed | refine drawEnd (by kernel_rfl) ?_)
        | (with_reducible (first | apply condA_if | apply stepDG_ifN | apply stepDG_if | apply stepG_ifN | apply stepG_if)) <;> intro hb <;> (have hif := hb) <;> (try simp only [bo] at hif) <;> (try simp -implicitDefEqProofs (disch := omega) only [go_sem, hb]) <;> clear hb
        | simp (maxSteps := 1000000) -implicitDefEqProofs (disch := omega) only [go_sem])
      · omega
      rw [show sumTo bs k bs.length = subTo bs cs k 0 from foldl_take_all _ _ _]
      clear hlt
      refine loop_rows (α := Nat) [10, 55, 56, 57, 58, 59, 60, 61, 62, 63, 64, 65, 66, 67, 68, 69, 70, 71, 72, 73, 74, 75, 76, 77, 78] (fun i => [(55, .lit (.int .i64 i))]) (fun i => [(0, some ⟨2, [loadC bs cs], 25, .wr⟩), (64, some ⟨2, (shorts bs cs k).map encS, 60, .wr⟩), (1152, some ⟨2, [encS (subTo bs cs k i)], 60, .wr⟩)]) (fun i => i ≤ cs.length) (fun i => cs.length - i) 0 (fun x => by simp (maxSteps := 1000000) -implicitDefEqProofs (disch := omega) only [go_sem]; rfl) ?_ ?_ fun x hx => ?_
      · exact weak_do []
      · exact Nat.zero_le _
      have hc := subTo_bnd hg hk x hx
      have h3 := hg.nc
      by_cases hlt : x < cs.length
      · have hbx := hg.bill hk hlt
        repeat' (first
          | (with_reducible apply Req_intro); focus (first | omega | assumption | (simp; done))
          | with_reducible (first | apply Req_intro | refine nilT ?_ fun hn => ?_ | apply wk_draw Tryd_mixed | refine drawEnd (by kernel_rfl) ?_)
          | (with_reducible (first | apply condA_if | apply stepDG_ifN | apply stepDG_if | apply stepG_ifN | apply stepG_if)) <;> intro hb <;> (have hif := hb) <;> (try simp only [bo] at hif) <;> (try simp -implicitDefEqProofs (disch := omega) only [go_sem, hb]) <;> clear hb
          | simp (maxSteps := 1000000) -implicitDefEqProofs (disch := omega) only [go_sem])
        · with_reducible refine nxt_w (x + 1) ?_ ?_
          · (try dsimp only)
            simp only [subTo_succ _ _ _ _ hlt]
            exact weak_do []
          try dsimp only
          omega
        · exact absurd hlt hif
      · obtain rfl : x = cs.length := by omega
        have hl : (shorts bs cs k).length = k := by simp [shorts]
        repeat' (first
          | (with_reducible apply Req_intro); focus (first | omega | assumption | (simp; done))
          | with_reducible (first | apply Req_intro | refine nilT ?_ fun hn => ?_ | apply wk_draw Tryd_mixed | refine drawEnd (by kernel_rfl) ?_)
          | (with_reducible (first | apply condA_if | apply stepDG_ifN | apply stepDG_if | apply stepG_ifN | apply stepG_if)) <;> intro hb <;> (have hif := hb) <;> (try simp only [bo] at hif) <;> (try simp -implicitDefEqProofs (disch := omega) only [go_sem, hb]) <;> clear hb
          | simp (maxSteps := 1000000) -implicitDefEqProofs (disch := omega) only [go_sem])
        · omega
        · with_reducible refine nxt_w (k + 1) ?_ ?_
          · (try dsimp only)
            rw [shorts_succ, List.map_append]
            exact weak_do [(64, 2048)]
          try dsimp only
          omega
  · obtain rfl : x = stuffs cs := by
      have : ¬ x < stuffs cs := hif
      omega
    have hl : (shorts bs cs (stuffs cs)).length = stuffs cs := by simp [shorts]
    exact retf [64] [2, 3] [.sl 2 ((shorts bs cs (stuffs cs)).map encS) false, int 0]
end Go.Aw
end
section
set_option linter.unusedVariables false
set_option linter.unusedSimpArgs false
set_option maxRecDepth 20000
set_option maxHeartbeats 4000000
/-! Share. -/
namespace Go.Aw
open Go.RowKit Go.Proofs

theorem Share_no (bs : List Box) (cs : List Bill) (a b : Int) (hf : Fits bs cs) (e : Int) (h : OpenIs bs cs e) : Ct Tryd.prog 34 [encLoad bs cs, int a, int b] (.tup [.agg [int 0, int 0], int e]) := by
  obtain ⟨x, y, hx, hy, hxy, hc⟩ := open_no bs cs hf e h
  have h0 := h.ne
  refine fn_enter Tryd.func34 rfl (by decide) Tryd.results34 Tryd.ntmps34 ?_ rfl (by simp (maxSteps := 1000000) -implicitDefEqProofs (disch := omega) only [go_sem]; rfl) fun base => ?_
  · first | assumption | (simp only [go_sem] <;> assumption) | (simp only [go_sem, *]; done) | (simp [go_sem]; done)
  repeat' (first
    | (with_reducible apply Req_intro); focus (first | omega | assumption | (simp; done))
    | with_reducible (first | apply Req_intro | refine nilT ?_ fun hn => ?_ | apply wk_draw Tryd_mixed | refine drawEnd (by kernel_rfl) ?_)
    | (with_reducible (first | apply condA_if | apply stepDG_ifN | apply stepDG_if | apply stepG_ifN | apply stepG_if)) <;> intro hb <;> (have hif := hb) <;> (try simp only [bo] at hif) <;> (try simp -implicitDefEqProofs (disch := omega) only [go_sem, hb]) <;> clear hb
    | simp (maxSteps := 1000000) -implicitDefEqProofs (disch := omega) only [go_sem])
  refine callp hc ?_
  try simp (maxSteps := 1000000) -implicitDefEqProofs (disch := omega) only [go_sem]
  repeat' (first
    | (with_reducible apply Req_intro); focus (first | omega | assumption | (simp; done))
    | with_reducible (first | apply Req_intro | refine nilT ?_ fun hn => ?_ | apply wk_draw Tryd_mixed | refine drawEnd (by kernel_rfl) ?_)
    | (with_reducible (first | apply condA_if | apply stepDG_ifN | apply stepDG_if | apply stepG_ifN | apply stepG_if)) <;> intro hb <;> (have hif := hb) <;> (try simp only [bo] at hif) <;> (try simp -implicitDefEqProofs (disch := omega) only [go_sem, hb]) <;> clear hb
    | simp (maxSteps := 1000000) -implicitDefEqProofs (disch := omega) only [go_sem])
  all_goals first | exact absurd ‹e = 0› h0 | skip
  refine ret_do ?_
  rfl
/-- What some first boxes of a carrier have. -/
def cartTo (bs : List Box) (w : List Int) (a : Int) : Nat → Sums
  | 0 => default
  | j + 1 => if w.getD j default = a then plusR (cartTo bs w a j) (bs.getD j default) else cartTo bs w a j

theorem cartTo_small {bs : List Box} {cs : List Bill} (hv : Valid cs bs) (w : List Int) (a : Int) : ∀ j, j ≤ bs.length → Small (1000000 * j) (cartTo bs w a j)
  | 0, _ => by
    have h : SmallS (1000000 * ((0 : Nat) : Int)) (0, 0) := by unfold SmallS; decide
    exact ⟨h, h, h⟩
  | j + 1, h => by
    have h1 := cartTo_small hv w a j (by omega)
    rw [cartTo]
    split
    · exact (plusR_small h1 (hv.vb _ (getD_mem (by omega))) (by omega)).mono (by omega)
    · exact h1.mono (by omega)

def shareW (bs : List Box) (cs : List Bill) (a b : Nat) (w : List Int) : Int × Int :=
  (max ((cs.getD a default).2.getD b default).1 ((cartTo bs w a bs.length).get b).1, min ((cs.getD a default).2.getD b default).2 ((cartTo bs w a bs.length).get b).2)
def shareTo (bs : List Box) (cs : List Bill) (a b : Nat) (ws : List (List Int)) : Nat → Int × Int
  | 0 => (0, 0)
  | n + 1 => if 0 < n then (min (shareW bs cs a b (ws.getD n default)).1 (shareTo bs cs a b ws n).1, max (shareW bs cs a b (ws.getD n default)).2 (shareTo bs cs a b ws n).2) else shareW bs cs a b (ws.getD n default)

theorem stuffs_eq (cs : List Bill) : (cs.getD 0 default).2.length = stuffs cs := rfl
theorem Share_out1 (bs : List Box) (cs : List Bill) (a b : Int) (hf : Fits bs cs) (h : checkR bs cs = 0) (hn : allW bs cs ≠ []) (ha : inR' 0 (cs.length - 1) a = false) : Ct Tryd.prog 34 [encLoad bs cs, int a, int b] (.tup [.agg [int 0, int 0], int 3]) := by
  have hg := good_of_check h
  have h3 := hg.nc
  have h1 := hg.n1
  refine fn_enter Tryd.func34 rfl (by decide) Tryd.results34 Tryd.ntmps34 ?_ rfl (by simp (maxSteps := 1000000) -implicitDefEqProofs (disch := omega) only [go_sem]; rfl) fun base => ?_
  · first | assumption | (simp only [go_sem] <;> assumption) | (simp only [go_sem, *]; done) | (simp [go_sem]; done)
  repeat' (first
    | (with_reducible apply Req_intro); focus (first | omega | assumption | (simp; done))
    | with_reducible (first | apply Req_intro | refine nilT ?_ fun hn => ?_ | apply wk_draw Tryd_mixed | refine drawEnd (by kernel_rfl) ?_)
    | (with_reducible (first | apply condA_if | apply stepDG_ifN | apply stepDG_if | apply stepG_ifN | apply stepG_if)) <;> intro hb <;> (have hif := hb) <;> (try simp only [bo] at hif) <;> (try simp -implicitDefEqProofs (disch := omega) only [go_sem, hb]) <;> clear hb
    | simp (maxSteps := 1000000) -implicitDefEqProofs (disch := omega) only [go_sem])
  refine callp (open_ok bs cs hf h hn) ?_
  try simp (maxSteps := 1000000) -implicitDefEqProofs (disch := omega) only [go_sem]
  repeat' (first
    | (with_reducible apply Req_intro); focus (first | omega | assumption | (simp; done))
    | with_reducible (first | apply Req_intro | refine nilT ?_ fun hn => ?_ | apply wk_draw Tryd_mixed | refine drawEnd (by kernel_rfl) ?_)
    | (with_reducible (first | apply condA_if | apply stepDG_ifN | apply stepDG_if | apply stepG_ifN | apply stepG_if)) <;> intro hb <;> (have hif := hb) <;> (try simp only [bo] at hif) <;> (try simp -implicitDefEqProofs (disch := omega) only [go_sem, hb]) <;> clear hb
    | simp (maxSteps := 1000000) -implicitDefEqProofs (disch := omega) only [go_sem])
  refine callc (within_spec 0 (cs.length - 1) [a] _ (by simp)) ?_
  try simp (maxSteps := 1000000) -implicitDefEqProofs (disch := omega) only [go_sem]
  repeat' (first
    | (with_reducible apply Req_intro); focus (first | omega | assumption | (simp; done))
    | with_reducible (first | apply Req_intro | refine nilT ?_ fun hn => ?_ | apply wk_draw Tryd_mixed | refine drawEnd (by kernel_rfl) ?_)
    | (with_reducible (first | apply condA_if | apply stepDG_ifN | apply stepDG_if | apply stepG_ifN | apply stepG_if)) <;> intro hb <;> (have hif := hb) <;> (try simp only [bo] at hif) <;> (try simp -implicitDefEqProofs (disch := omega) only [go_sem, hb]) <;> clear hb
    | simp (maxSteps := 1000000) -implicitDefEqProofs (disch := omega) only [go_sem])
  · refine ret_do ?_
    rfl
  · rw [ha] at hif; cases hif
  · rw [ha] at hif; cases hif
theorem Share_out2 (bs : List Box) (cs : List Bill) (a b : Int) (hf : Fits bs cs) (h : checkR bs cs = 0) (hn : allW bs cs ≠ []) (ha : inR' 0 (cs.length - 1) a = true) (hb : inR' 0 (stuffs cs - 1) b = false) : Ct Tryd.prog 34 [encLoad bs cs, int a, int b] (.tup [.agg [int 0, int 0], int 3]) := by
  have hg := good_of_check h
  have h3 := hg.nc
  have h1 := hg.n1
  have hst := hg.st
  have hse := stuffs_eq cs
  refine fn_enter Tryd.func34 rfl (by decide) Tryd.results34 Tryd.ntmps34 ?_ rfl (by simp (maxSteps := 1000000) -implicitDefEqProofs (disch := omega) only [go_sem]; rfl) fun base => ?_
  · first | assumption | (simp only [go_sem] <;> assumption) | (simp only [go_sem, *]; done) | (simp [go_sem]; done)
  repeat' (first
    | (with_reducible apply Req_intro); focus (first | omega | assumption | (simp; done))
    | with_reducible (first | apply Req_intro | refine nilT ?_ fun hn => ?_ | apply wk_draw Tryd_mixed | refine drawEnd (by kernel_rfl) ?_)
    | (with_reducible (first | apply condA_if | apply stepDG_ifN | apply stepDG_if | apply stepG_ifN | apply stepG_if)) <;> intro hb <;> (have hif := hb) <;> (try simp only [bo] at hif) <;> (try simp -implicitDefEqProofs (disch := omega) only [go_sem, hb]) <;> clear hb
    | simp (maxSteps := 1000000) -implicitDefEqProofs (disch := omega) only [go_sem])
  refine callp (open_ok bs cs hf h hn) ?_
  try simp (maxSteps := 1000000) -implicitDefEqProofs (disch := omega) only [go_sem]
  repeat' (first
    | (with_reducible apply Req_intro); focus (first | omega | assumption | (simp; done))
    | with_reducible (first | apply Req_intro | refine nilT ?_ fun hn => ?_ | apply wk_draw Tryd_mixed | refine drawEnd (by kernel_rfl) ?_)
    | (with_reducible (first | apply condA_if | apply stepDG_ifN | apply stepDG_if | apply stepG_ifN | apply stepG_if)) <;> intro hb <;> (have hif := hb) <;> (try simp only [bo] at hif) <;> (try simp -implicitDefEqProofs (disch := omega) only [go_sem, hb]) <;> clear hb
    | simp (maxSteps := 1000000) -implicitDefEqProofs (disch := omega) only [go_sem])
  refine callc (within_spec 0 (cs.length - 1) [a] _ (by simp)) ?_
  try simp (maxSteps := 1000000) -implicitDefEqProofs (disch := omega) only [go_sem]
  repeat' (first
    | (with_reducible apply Req_intro); focus (first | omega | assumption | (simp; done))
    | with_reducible (first | apply Req_intro | refine nilT ?_ fun hn => ?_ | apply wk_draw Tryd_mixed | refine drawEnd (by kernel_rfl) ?_)
    | (with_reducible (first | apply condA_if | apply stepDG_ifN | apply stepDG_if | apply stepG_ifN | apply stepG_if)) <;> intro hb <;> (have hif := hb) <;> (try simp only [bo] at hif) <;> (try simp -implicitDefEqProofs (disch := omega) only [go_sem, hb]) <;> clear hb
    | simp (maxSteps := 1000000) -implicitDefEqProofs (disch := omega) only [go_sem])
  · rw [ha] at hif; cases hif
  rw [hse]
  refine callc (within_spec 0 (stuffs cs - 1) [b] _ (by simp)) ?_
  try simp (maxSteps := 1000000) -implicitDefEqProofs (disch := omega) only [go_sem]
  repeat' (first
    | (with_reducible apply Req_intro); focus (first | omega | assumption | (simp; done))
    | with_reducible (first | apply Req_intro | refine nilT ?_ fun hn => ?_ | apply wk_draw Tryd_mixed | refine drawEnd (by kernel_rfl) ?_)
    | (with_reducible (first | apply condA_if | apply stepDG_ifN | apply stepDG_if | apply stepG_ifN | apply stepG_if)) <;> intro hb <;> (have hif := hb) <;> (try simp only [bo] at hif) <;> (try simp -implicitDefEqProofs (disch := omega) only [go_sem, hb]) <;> clear hb
    | simp (maxSteps := 1000000) -implicitDefEqProofs (disch := omega) only [go_sem])
  all_goals first | (rw [hb] at hif; cases hif; done) | skip
  refine ret_do ?_
  rfl
theorem Share_ok (bs : List Box) (cs : List Bill) (a b : Nat) (hf : Fits bs cs) (h : checkR bs cs = 0) (hn : allW bs cs ≠ []) (ha : a < cs.length) (hb : b < stuffs cs) : Ct Tryd.prog 34 [encLoad bs cs, int a, int b] (.tup [.agg (encS (shareTo bs cs a b (allW bs cs) (allW bs cs).length)), int 0]) := by
  have hg := good_of_check h
  have h3 := hg.nc
  have h1 := hg.n1
  have hst := hg.st
  have hse := stuffs_eq cs
  have hbl := hg.bill hb ha
  have ha' : inR' 0 (cs.length - 1) (a : Int) = true := by simp [inR']; omega
  have hb' : inR' 0 (stuffs cs - 1) (b : Int) = true := by simp [inR']; omega
  have hok := allW_ok bs cs
  have hfew := hg.valid.few
  refine fn_enter Tryd.func34 rfl (by decide) Tryd.results34 Tryd.ntmps34 ?_ rfl (by simp (maxSteps := 1000000) -implicitDefEqProofs (disch := omega) only [go_sem]; rfl) fun base => ?_
  · first | assumption | (simp only [go_sem] <;> assumption) | (simp only [go_sem, *]; done) | (simp [go_sem]; done)
  repeat' (first
    | (with_reducible apply Req_intro); focus (first | omega | assumption | (simp; done))
    | with_reducible (first | apply Req_intro | refine nilT ?_ fun hn => ?_ | apply wk_draw Tryd_mixed | refine drawEnd (by kernel_rfl) ?_)
    | (with_reducible (first | apply condA_if | apply stepDG_ifN | apply stepDG_if | apply stepG_ifN | apply stepG_if)) <;> intro hb <;> (have hif := hb) <;> (try simp only [bo] at hif) <;> (try simp -implicitDefEqProofs (disch := omega) only [go_sem, hb]) <;> clear hb
    | simp (maxSteps := 1000000) -implicitDefEqProofs (disch := omega) only [go_sem])
  refine callp (open_ok bs cs hf h hn) ?_
  try simp (maxSteps := 1000000) -implicitDefEqProofs (disch := omega) only [go_sem]
  repeat' (first
    | (with_reducible apply Req_intro); focus (first | omega | assumption | (simp; done))
    | with_reducible (first | apply Req_intro | refine nilT ?_ fun hn => ?_ | apply wk_draw Tryd_mixed | refine drawEnd (by kernel_rfl) ?_)
    | (with_reducible (first | apply condA_if | apply stepDG_ifN | apply stepDG_if | apply stepG_ifN | apply stepG_if)) <;> intro hb <;> (have hif := hb) <;> (try simp only [bo] at hif) <;> (try simp -implicitDefEqProofs (disch := omega) only [go_sem, hb]) <;> clear hb
    | simp (maxSteps := 1000000) -implicitDefEqProofs (disch := omega) only [go_sem])
  refine callc (within_spec 0 (cs.length - 1) [(a : Int)] _ (by simp)) ?_
  try simp (maxSteps := 1000000) -implicitDefEqProofs (disch := omega) only [go_sem]
  repeat' (first
    | (with_reducible apply Req_intro); focus (first | omega | assumption | (simp; done))
    | with_reducible (first | apply Req_intro | refine nilT ?_ fun hn => ?_ | apply wk_draw Tryd_mixed | refine drawEnd (by kernel_rfl) ?_)
    | (with_reducible (first | apply condA_if | apply stepDG_ifN | apply stepDG_if | apply stepG_ifN | apply stepG_if)) <;> intro hb <;> (have hif := hb) <;> (try simp only [bo] at hif) <;> (try simp -implicitDefEqProofs (disch := omega) only [go_sem, hb]) <;> clear hb
    | simp (maxSteps := 1000000) -implicitDefEqProofs (disch := omega) only [go_sem])
  · rw [ha'] at hif; cases hif
  rw [hse]
  refine callc (within_spec 0 (stuffs cs - 1) [(b : Int)] _ (by simp)) ?_
  try simp (maxSteps := 1000000) -implicitDefEqProofs (disch := omega) only [go_sem]
  repeat' (first
    | (with_reducible apply Req_intro); focus (first | omega | assumption | (simp; done))
    | with_reducible (first | apply Req_intro | refine nilT ?_ fun hn => ?_ | apply wk_draw Tryd_mixed | refine drawEnd (by kernel_rfl) ?_)
    | (with_reducible (first | apply condA_if | apply stepDG_ifN | apply stepDG_if | apply stepG_ifN | apply stepG_if)) <;> intro hb <;> (have hif := hb) <;> (try simp only [bo] at hif) <;> (try simp -implicitDefEqProofs (disch := omega) only [go_sem, hb]) <;> clear hb
    | simp (maxSteps := 1000000) -implicitDefEqProofs (disch := omega) only [go_sem])
  · rw [hb'] at hif; cases hif
  refine loop_rows (α := Nat) [11, 12, 13, 14, 15, 16, 17, 64, 65, 66, 67, 68, 69, 70, 71, 72, 73, 74, 75, 76, 77, 78, 79, 80, 81, 82, 83, 84, 85, 86, 87, 88, 89, 90, 91, 92, 93, 94, 95, 96, 97, 98, 99, 100, 101, 102, 103, 104, 105, 106, 107, 108, 109, 110, 111, 112, 113, 114, 115, 116, 117, 118, 119, 120] (fun i => [(64, .lit (.int .i64 i))]) (fun i => [(0, some ⟨2, [loadC bs cs], 25, .wr⟩), (64, some ⟨2, [encS (shareTo bs cs a b (allW bs cs) i)], 60, .wr⟩), (576, some ⟨2, [loadC bs cs], 94, .wr⟩), (3136, some ⟨2, [encS ((cs.getD a default).2.getD b default)], 60, .wr⟩)]) (fun i => i ≤ (allW bs cs).length) (fun i => (allW bs cs).length - i) 0 (fun x => by simp (maxSteps := 1000000) -implicitDefEqProofs (disch := omega) only [go_sem]; rfl) ?_ ?_ fun x hx => ?_
  · exact weak_do []
  · exact Nat.zero_le _
  repeat' (first
    | (with_reducible apply Req_intro); focus (first | omega | assumption | (simp; done))
    | with_reducible (first | apply Req_intro | refine nilT ?_ fun hn => ?_ | apply wk_draw Tryd_mixed | refine drawEnd (by kernel_rfl) ?_)
    | (with_reducible (first | apply condA_if | apply stepDG_ifN | apply stepDG_if | apply stepG_ifN | apply stepG_if)) <;> intro hb <;> (have hif := hb) <;> (try simp only [bo] at hif) <;> (try simp -implicitDefEqProofs (disch := omega) only [go_sem, hb]) <;> clear hb
    | simp (maxSteps := 1000000) -implicitDefEqProofs (disch := omega) only [go_sem])
  · have hlt : x < (allW bs cs).length := hif
    have hw := (hok _ (getD_mem hlt)).1
    generalize hwe : (allW bs cs).getD x default = w
    rw [hwe] at hw
    clear hif
    refine loop_rows (α := Nat) [14, 15, 71, 72, 73, 74, 75, 76, 77, 78, 79, 80, 81, 82, 83, 84, 85, 86, 87, 88, 89, 90] (fun i => [(71, .lit (.int .i64 i))]) (fun i => [(0, some ⟨2, [loadC bs cs], 25, .wr⟩), (64, some ⟨2, [encS (shareTo bs cs a b (allW bs cs) x)], 60, .wr⟩), (576, some ⟨2, [loadC bs cs], 94, .wr⟩), (3136, some ⟨2, [encS ((cs.getD a default).2.getD b default)], 60, .wr⟩), (3840, some ⟨7, [encCart ⟨0, cartTo bs w a i⟩], 114, .wr⟩)]) (fun i => i ≤ bs.length) (fun i => bs.length - i) 0 (fun x => by simp (maxSteps := 1000000) -implicitDefEqProofs (disch := omega) only [go_sem]; rfl) ?_ ?_ fun x hx => ?_
    · exact weak_do []
    · exact Nat.zero_le _
    rename_i k hk2
    have hsm := cartTo_small hg.valid w a x hx
    have h8 := hg.nb
    by_cases hlx : x < bs.length
    · have hb3 := hg.lb _ (getD_mem hlx)
      repeat' (first
        | (with_reducible apply Req_intro); focus (first | omega | assumption | (simp; done))
        | with_reducible (first | apply Req_intro | refine nilT ?_ fun hn => ?_ | apply wk_draw Tryd_mixed | refine drawEnd (by kernel_rfl) ?_)
        | (with_reducible (first | apply condA_if | apply stepDG_ifN | apply stepDG_if | apply stepG_ifN | apply stepG_if)) <;> intro hb <;> (have hif := hb) <;> (try simp only [bo] at hif) <;> (try simp -implicitDefEqProofs (disch := omega) only [go_sem, hb]) <;> clear hb
        | simp (maxSteps := 1000000) -implicitDefEqProofs (disch := omega) only [go_sem])
      all_goals first | (exfalso; omega) | skip
      · refine calld (plus_spec (cartTo bs w a x) (bs.getD x default) _ (by omega) (hsm.mono (by omega)) (fun y hy => (hg.valid.vb _ (getD_mem hlx) y hy).mono (by decide))) ?_
        try simp (maxSteps := 1000000) -implicitDefEqProofs (disch := omega) only [go_sem]
        repeat' (first
          | (with_reducible apply Req_intro); focus (first | omega | assumption | (simp; done))
          | with_reducible (first | apply Req_intro | refine nilT ?_ fun hn => ?_ | apply wk_draw Tryd_mixed | refine drawEnd (by kernel_rfl) ?_)
          | (with_reducible (first | apply condA_if | apply stepDG_ifN | apply stepDG_if | apply stepG_ifN | apply stepG_if)) <;> intro hb <;> (have hif := hb) <;> (try simp only [bo] at hif) <;> (try simp -implicitDefEqProofs (disch := omega) only [go_sem, hb]) <;> clear hb
          | simp (maxSteps := 1000000) -implicitDefEqProofs (disch := omega) only [go_sem])
        with_reducible refine nxt_w (x + 1) ?_ ?_
        · (try dsimp only)
          simp only [cartTo, if_pos hif]
          exact weak_do []
        try dsimp only
        omega
      · with_reducible refine nxt_w (x + 1) ?_ ?_
        · (try dsimp only)
          simp only [cartTo, if_neg hif]
          exact weak_do []
        try dsimp only
        omega
    · obtain rfl : x = bs.length := by omega
      repeat' (first
        | (with_reducible apply Req_intro); focus (first | omega | assumption | (simp; done))
        | with_reducible (first | apply Req_intro | refine nilT ?_ fun hn => ?_ | apply wk_draw Tryd_mixed | refine drawEnd (by kernel_rfl) ?_)
        | (with_reducible (first | apply condA_if | apply stepDG_ifN | apply stepDG_if | apply stepG_ifN | apply stepG_if)) <;> intro hb <;> (have hif := hb) <;> (try simp only [bo] at hif) <;> (try simp -implicitDefEqProofs (disch := omega) only [go_sem, hb]) <;> clear hb
        | simp (maxSteps := 1000000) -implicitDefEqProofs (disch := omega) only [go_sem])
      all_goals first | (exfalso; omega) | skip
      · with_reducible refine nxt_w (k + 1) ?_ ?_
        · (try dsimp only)
          simp only [shareTo, if_pos (show 0 < k by omega), shareW, hwe]
          exact weak_do []
        try dsimp only
        omega
      · with_reducible refine nxt_w (k + 1) ?_ ?_
        · (try dsimp only)
          simp only [shareTo, if_neg (show ¬ 0 < k by omega), shareW, hwe]
          exact weak_do []
        try dsimp only
        omega
  · obtain rfl : x = (allW bs cs).length := by omega
    refine ret_do ?_
    rfl
end Go.Aw
end
section
set_option linter.unusedVariables false
set_option linter.unusedSimpArgs false
set_option maxRecDepth 20000
set_option maxHeartbeats 4000000
/-! TrailingZeros, Compare. -/
namespace Go.Aw
open Go.RowKit Go.Proofs

abbrev u64 (n : Int) : V := .lit (.int .u64 n)

@[go_sem] theorem globT_tab : globT 1 = some tab64 := rfl
/-- The lowest bit of a number below 256. -/
def tz (x : Nat) : Nat := ((List.range 8).find? fun i => x.testBit i).getD 0
def tzE (x : Int) : Int := (IntKind.wrap .u64 (ibits .and .u64 x (IntKind.wrap .u64 (-x)) * 285870213051353865)).fdiv (2 ^ min 58 64)
def tabI : List Int := [0, 1, 56, 2, 57, 49, 28, 3, 61, 58, 42, 50, 38, 29, 17, 4, 62, 47, 59, 36, 45, 43, 51, 22, 53, 39, 33, 30, 24, 18, 12, 5, 63, 55, 48, 27, 60, 41, 37, 16, 46, 35, 44, 21, 52, 32, 23, 11, 54, 26, 40, 15, 34, 20, 31, 10, 25, 14, 19, 9, 13, 8, 7, 6]
theorem tz_all : ∀ x : Nat, x < 256 → (0 < x → (0 ≤ tzE x ∧ tzE x < 64) ∧ tabI.getD (tzE x).toNat 0 = tz x) := by decide +kernel
theorem tz_lt (x : Nat) (h : x < 256) : tz x < 8 := by
  have : ∀ x : Nat, x < 256 → tz x < 8 := by decide +kernel
  exact this x h
theorem tab_len (e : Nat) (h : e < 64) : 0 < (List.drop (e * 1) (List.map V.lit tab64)).length := by
  rw [List.length_drop, List.length_map]
  have : tab64.length = 64 := rfl
  omega
theorem tab_at : ∀ e : Nat, e < 64 → (List.drop (e * 1) (List.map V.lit tab64)).headD .undef = .lit (.int .u8 (tabI.getD e 0)) := by
  intro e h
  have h1 : e < tabI.length := h
  have h2 : List.map V.lit tab64 = tabI.map fun n => V.lit (.int .u8 n) := rfl
  rw [Nat.mul_one, h2]
  rw [← List.map_drop, List.drop_eq_getElem_cons h1]
  simp [List.getD_eq_getElem?_getD, h1]

theorem TZ64 (x : Nat) (h0 : 0 < x) (h : x < 256) : Ct Tryd.prog 88 [u64 x] (int (tz x)) := by
  obtain ⟨⟨h1, h2⟩, h3⟩ := tz_all x h h0
  have h4 := tz_lt x h
  obtain ⟨e, he⟩ := Int.eq_ofNat_of_zero_le h1
  rw [he] at h2 h3
  rw [Int.toNat_natCast] at h3
  have h5 := tab_len e (by omega)
  have h6 := tab_at e (by omega)
  rw [h3] at h6
  unfold tzE at he
  clear h1
  have hE := And.intro he h6
  refine fn_enter Tryd.func88 rfl (by decide) Tryd.results88 Tryd.ntmps88 ?_ rfl (by simp (maxSteps := 1000000) -implicitDefEqProofs (disch := omega) only [go_sem]; rfl) fun base => ?_
  · first | assumption | (simp only [go_sem] <;> assumption) | (simp only [go_sem, *]; done) | (simp [go_sem]; done)
  repeat' (first
    | (with_reducible apply Req_intro); focus (first | omega | assumption | (simp; done))
    | with_reducible (first | apply Req_intro | refine nilT ?_ fun hn => ?_ | apply wk_draw Tryd_mixed | refine drawEnd (by kernel_rfl) ?_)
    | (with_reducible (first | apply condA_if | apply stepDG_ifN | apply stepDG_if | apply stepG_ifN | apply stepG_if)) <;> intro hb <;> (have hif := hb) <;> (try simp only [bo] at hif) <;> (try simp -implicitDefEqProofs (disch := omega) only [go_sem, hb, hE]) <;> clear hb
    | simp (maxSteps := 1000000) -implicitDefEqProofs (disch := omega) only [go_sem, hE])
  · exfalso; omega
  · refine ret_do ?_
    rfl
theorem TZ (x : Nat) (h0 : 0 < x) (h : x < 256) : Ct Tryd.prog 66 [u64 x] (int (tz x)) := by
  refine fn_enter Tryd.func66 rfl (by decide) Tryd.results66 Tryd.ntmps66 ?_ rfl (by simp (maxSteps := 1000000) -implicitDefEqProofs (disch := omega) only [go_sem]; rfl) fun base => ?_
  · first | assumption | (simp only [go_sem] <;> assumption) | (simp only [go_sem, *]; done) | (simp [go_sem]; done)
  repeat' (first
    | (with_reducible apply Req_intro); focus (first | omega | assumption | (simp; done))
    | with_reducible (first | apply Req_intro | refine nilT ?_ fun hn => ?_ | apply wk_draw Tryd_mixed | refine drawEnd (by kernel_rfl) ?_)
    | (with_reducible (first | apply condA_if | apply stepDG_ifN | apply stepDG_if | apply stepG_ifN | apply stepG_if)) <;> intro hb <;> (have hif := hb) <;> (try simp only [bo] at hif) <;> (try simp -implicitDefEqProofs (disch := omega) only [go_sem, hb]) <;> clear hb
    | simp (maxSteps := 1000000) -implicitDefEqProofs (disch := omega) only [go_sem])
  refine callp (TZ64 x h0 h) ?_
  try simp (maxSteps := 1000000) -implicitDefEqProofs (disch := omega) only [go_sem]
  repeat' (first
    | (with_reducible apply Req_intro); focus (first | omega | assumption | (simp; done))
    | with_reducible (first | apply Req_intro | refine nilT ?_ fun hn => ?_ | apply wk_draw Tryd_mixed | refine drawEnd (by kernel_rfl) ?_)
    | (with_reducible (first | apply condA_if | apply stepDG_ifN | apply stepDG_if | apply stepG_ifN | apply stepG_if)) <;> intro hb <;> (have hif := hb) <;> (try simp only [bo] at hif) <;> (try simp -implicitDefEqProofs (disch := omega) only [go_sem, hb]) <;> clear hb
    | simp (maxSteps := 1000000) -implicitDefEqProofs (disch := omega) only [go_sem])
  refine ret_do ?_
  rfl

theorem isNaN_spec (x : Int) : Ct Tryd.prog 100 [int x] (.lit (.bool false)) := by
  refine fn_enter Tryd.func100 rfl (by decide) Tryd.results100 Tryd.ntmps100 ?_ rfl (by simp (maxSteps := 1000000) -implicitDefEqProofs (disch := omega) only [go_sem]; rfl) fun base => ?_
  · first | assumption | (simp only [go_sem] <;> assumption) | (simp only [go_sem, *]; done) | (simp [go_sem]; done)
  repeat' (first
    | (with_reducible apply Req_intro); focus (first | omega | assumption | (simp; done))
    | with_reducible (first | apply Req_intro | refine nilT ?_ fun hn => ?_ | apply wk_draw Tryd_mixed | refine drawEnd (by kernel_rfl) ?_)
    | (with_reducible (first | apply condA_if | apply stepDG_ifN | apply stepDG_if | apply stepG_ifN | apply stepG_if)) <;> intro hb <;> (have hif := hb) <;> (try simp only [bo] at hif) <;> (try simp -implicitDefEqProofs (disch := omega) only [go_sem, hb]) <;> clear hb
    | simp (maxSteps := 1000000) -implicitDefEqProofs (disch := omega) only [go_sem])
  refine ret_do ?_
  simp [retV]

def cmpI (x y : Int) : Int := if x < y then -1 else if y < x then 1 else 0
theorem Compare1 (x y : Int) : Ct Tryd.prog 89 [int x, int y] (int (cmpI x y)) := by
  refine fn_enter Tryd.func89 rfl (by decide) Tryd.results89 Tryd.ntmps89 ?_ rfl (by simp (maxSteps := 1000000) -implicitDefEqProofs (disch := omega) only [go_sem]; rfl) fun base => ?_
  · first | assumption | (simp only [go_sem] <;> assumption) | (simp only [go_sem, *]; done) | (simp [go_sem]; done)
  repeat' (first
    | (with_reducible apply Req_intro); focus (first | omega | assumption | (simp; done))
    | with_reducible (first | apply Req_intro | refine nilT ?_ fun hn => ?_ | apply wk_draw Tryd_mixed | refine drawEnd (by kernel_rfl) ?_)
    | (with_reducible (first | apply condA_if | apply stepDG_ifN | apply stepDG_if | apply stepG_ifN | apply stepG_if)) <;> intro hb <;> (have hif := hb) <;> (try simp only [bo] at hif) <;> (try simp -implicitDefEqProofs (disch := omega) only [go_sem, hb]) <;> clear hb
    | simp (maxSteps := 1000000) -implicitDefEqProofs (disch := omega) only [go_sem])
  refine callp (isNaN_spec x) ?_
  try simp (maxSteps := 1000000) -implicitDefEqProofs (disch := omega) only [go_sem]
  repeat' (first
    | (with_reducible apply Req_intro); focus (first | omega | assumption | (simp; done))
    | with_reducible (first | apply Req_intro | refine nilT ?_ fun hn => ?_ | apply wk_draw Tryd_mixed | refine drawEnd (by kernel_rfl) ?_)
    | (with_reducible (first | apply condA_if | apply stepDG_ifN | apply stepDG_if | apply stepG_ifN | apply stepG_if)) <;> intro hb <;> (have hif := hb) <;> (try simp only [bo] at hif) <;> (try simp -implicitDefEqProofs (disch := omega) only [go_sem, hb]) <;> clear hb
    | simp (maxSteps := 1000000) -implicitDefEqProofs (disch := omega) only [go_sem])
  refine callp (isNaN_spec y) ?_
  try simp (maxSteps := 1000000) -implicitDefEqProofs (disch := omega) only [go_sem]
  repeat' (first
    | (with_reducible apply Req_intro); focus (first | omega | assumption | (simp; done))
    | with_reducible (first | apply Req_intro | refine nilT ?_ fun hn => ?_ | apply wk_draw Tryd_mixed | refine drawEnd (by kernel_rfl) ?_)
    | (with_reducible (first | apply condA_if | apply stepDG_ifN | apply stepDG_if | apply stepG_ifN | apply stepG_if)) <;> intro hb <;> (have hif := hb) <;> (try simp only [bo] at hif) <;> (try simp -implicitDefEqProofs (disch := omega) only [go_sem, hb]) <;> clear hb
    | simp (maxSteps := 1000000) -implicitDefEqProofs (disch := omega) only [go_sem])
  · refine ret_do ?_
    rw [cmpI, if_pos hif]; rfl
  · refine ret_do ?_
    rw [cmpI, if_neg (by omega), if_pos hif]; rfl
  · refine ret_do ?_
    rw [cmpI, if_neg (by omega), if_neg (by omega)]; rfl
/-- Which of two lists comes first. -/
def cmpL : List Int → List Int → Int
  | [], [] => 0
  | [], _ :: _ => -1
  | _ :: _, [] => 1
  | x :: a, y :: b => if cmpI x y ≠ 0 then cmpI x y else cmpL a b
theorem drop_cons {l : List Int} {x : Nat} (h : x < l.length) : l.drop x = l.getD x default :: l.drop (x + 1) := by
  rw [getD_default h]; exact List.drop_eq_getElem_cons h
theorem CompareL (a b : List Int) (e f : Bool) (ha : a.length ≤ 1000) (hb : b.length ≤ 1000) : Ct Tryd.prog 67 [.sl 1 (a.map encI) e, .sl 1 (b.map encI) f] (int (cmpL a b)) := by
  refine fn_enter Tryd.func67 rfl (by decide) Tryd.results67 Tryd.ntmps67 ?_ rfl (by simp (maxSteps := 1000000) -implicitDefEqProofs (disch := omega) only [go_sem]; rfl) fun base => ?_
  · first | assumption | (simp only [go_sem] <;> assumption) | (simp only [go_sem, *]; done) | (simp [go_sem]; done)
  repeat' (first
    | (with_reducible apply Req_intro); focus (first | omega | assumption | (simp; done))
    | with_reducible (first | apply Req_intro | refine nilT ?_ fun hn => ?_ | apply wk_draw Tryd_mixed | refine drawEnd (by kernel_rfl) ?_)
    | (with_reducible (first | apply condA_if | apply stepDG_ifN | apply stepDG_if | apply stepG_ifN | apply stepG_if)) <;> intro hb <;> (have hif := hb) <;> (try simp only [bo] at hif) <;> (try simp -implicitDefEqProofs (disch := omega) only [go_sem, hb]) <;> clear hb
    | simp (maxSteps := 1000000) -implicitDefEqProofs (disch := omega) only [go_sem])
  refine loop_at (α := Nat) [4, 5, 6, 7, 8, 11, 12, 13, 14, 15, 16, 17, 18, 19, 20, 21, 22, 23, 24, 25, 26, 27, 28, 29, 30] (fun i => [(11, .lit (.int .i64 i))]) (fun i => i ≤ a.length ∧ i ≤ b.length ∧ cmpL a b = cmpL (a.drop i) (b.drop i)) (fun i => a.length - i) 0 (fun x => by simp (maxSteps := 1000000) -implicitDefEqProofs (disch := omega) only [go_sem]; rfl) ?_ ?_ fun x hx => ?_
  · exact weak_do []
  · simp
  obtain ⟨h1, h2, h3⟩ := hx
  repeat' (first
    | (with_reducible apply Req_intro); focus (first | omega | assumption | (simp; done))
    | with_reducible (first | apply Req_intro | refine nilT ?_ fun hn => ?_ | apply wk_draw Tryd_mixed | refine drawEnd (by kernel_rfl) ?_)
    | (with_reducible (first | apply condA_if | apply stepDG_ifN | apply stepDG_if | apply stepG_ifN | apply stepG_if)) <;> intro hb <;> (have hif := hb) <;> (try simp only [bo] at hif) <;> (try simp -implicitDefEqProofs (disch := omega) only [go_sem, hb]) <;> clear hb
    | simp (maxSteps := 1000000) -implicitDefEqProofs (disch := omega) only [go_sem])
  · rename_i hif1
    obtain rfl : x = b.length := by omega
    refine ret_do ?_
    rw [h3, drop_cons hif1, List.drop_length]; rfl
  · rename_i hif1
    have hbx : x < b.length := by omega
    refine callp (Compare1 (a.getD x default) (b.getD x default)) ?_
    try simp (maxSteps := 1000000) -implicitDefEqProofs (disch := omega) only [go_sem]
    repeat' (first
      | (with_reducible apply Req_intro); focus (first | omega | assumption | (simp; done))
      | with_reducible (first | apply Req_intro | refine nilT ?_ fun hn => ?_ | apply wk_draw Tryd_mixed | refine drawEnd (by kernel_rfl) ?_)
      | (with_reducible (first | apply condA_if | apply stepDG_ifN | apply stepDG_if | apply stepG_ifN | apply stepG_if)) <;> intro hb <;> (have hif := hb) <;> (try simp only [bo] at hif) <;> (try simp -implicitDefEqProofs (disch := omega) only [go_sem, hb]) <;> clear hb
      | simp (maxSteps := 1000000) -implicitDefEqProofs (disch := omega) only [go_sem])
    · refine ret_do ?_
      rw [h3, drop_cons hif1, drop_cons hbx, cmpL, if_pos (by assumption)]; rfl
    · refine nxt_w (x + 1) (weak_do []) ?_
      try dsimp only
      refine ⟨by omega, by omega, ?_⟩
      rw [h3, drop_cons hif1, drop_cons hbx, cmpL, if_neg (by simpa using hif)]
  · obtain rfl : x = a.length := by omega
    refine ret_do ?_
    rw [h3, List.drop_length, drop_cons (l := b) (by omega)]; rfl
  · obtain rfl : x = a.length := by omega
    refine ret_do ?_
    rw [h3, List.drop_length, show b.drop a.length = [] from List.drop_eq_nil_of_le (by omega)]; rfl
end Go.Aw
end
section
set_option linter.unusedVariables false
set_option linter.unusedSimpArgs false
set_option maxRecDepth 20000
set_option maxHeartbeats 4000000
/-! Loads of which boxes are wrong. -/
namespace Go.Aw
open Go.RowKit Go.Proofs

def spoilB (b : Box) : Box := List.replicate b.length (0, 10000)
/-- Boxes of which some, by bits, can have anything. -/
def spoil (bs : List Box) (set : Nat) : List Box := bs.mapIdx fun i b => if set.testBit i then spoilB b else b

theorem bits_all : ∀ s : Nat, s < 256 → (0 < s → s.testBit (tz s) = true ∧ s &&& (s - 1) < s ∧ ibits .and .u64 s ((s : Int) - 1) = ((s &&& (s - 1) : Nat) : Int) ∧ ∀ i, i < 8 → (s &&& (s - 1)).testBit i = (s.testBit i && !(i == tz s))) := by decide +kernel
theorem tz_below : ∀ n : Nat, n < 9 → ∀ s : Nat, s < 2 ^ n → (0 < s → tz s < n) := by decide +kernel

theorem spoil_step {l : List Box} {s : Nat} (h8 : l.length ≤ 8) (h : s < 256) (h0 : 0 < s) : spoil (l.set (tz s) (spoilB (l.getD (tz s) default))) (s &&& (s - 1)) = spoil l s := by
  obtain ⟨b1, -, -, b2⟩ := bits_all s h h0
  refine List.ext_getElem (by simp [spoil]) fun i h1 h2 => ?_
  have hi : i < l.length := by simpa [spoil] using h2
  simp only [spoil, List.getElem_mapIdx, b2 i (by omega), List.getElem_set]
  by_cases e : tz s = i
  · subst e
    rw [if_pos rfl, b1, getD_default hi]; simp
  · have e' : (i == tz s) = false := beq_eq_false_iff_ne.2 (fun h => e h.symm)
    simp [e, e']
theorem spoil_zero (l : List Box) : spoil l 0 = l := by
  refine List.ext_getElem (by simp [spoil]) fun i h1 h2 => ?_
  simp [spoil]
theorem spoil_len (l : List Box) (s : Nat) : (spoil l s).length = l.length := by simp [spoil]

def fillTo (n x : Nat) : List (Int × Int) := List.replicate x (0, 10000) ++ List.replicate (n - x) (0, 0)
theorem fillTo_len {n x : Nat} (h : x ≤ n) : (fillTo n x).length = n := by simp [fillTo]; omega
theorem fillTo_at {n x : Nat} (h : x < n) : (fillTo n x).getD x default = (0, 0) := by
  rw [getD_default (by rw [fillTo_len (by omega)]; exact h)]
  simp [fillTo, List.getElem_append_right]
theorem fillTo_set {n x : Nat} (h : x < n) : (fillTo n x).set x (0, 10000) = fillTo n (x + 1) := by
  simp only [fillTo]
  rw [List.set_append_right _ _ (by simp), List.length_replicate, Nat.sub_self, show n - x = (n - (x + 1)) + 1 from by omega, List.replicate_succ, List.set_cons_zero, List.replicate_succ', List.append_assoc]
  rfl

theorem fillTo_full (b : Box) : fillTo b.length b.length = spoilB b := by simp [fillTo, spoilB]
@[go_sem] theorem PuE_rep2 (n : Nat) (v u : Value) : PuE (List.replicate n [.lit v, .lit u]) = True := by
  simp only [PuE, eq_iff_iff, iff_true]
  intro e he
  rw [List.eq_of_mem_replicate he]
  simp [PuL]
@[go_sem] theorem take_map_B (l : List Box) (n : Nat) (h : l.length = n) : (l.map encB).take n = l.map encB := List.take_of_length_le (by simp; omega)

@[go_sem] theorem map_set_S (l : List (Int × Int)) (i : Nat) (x y : Int) : (l.map encS).set i [.lit (.int .i64 x), .lit (.int .i64 y)] = (l.set i (x, y)).map encS := by rw [List.map_set]; rfl

theorem Clone_own (w : List Box) (e : Bool) (hl : w.length ≤ 1073741824) (hw : w ≠ []) (h : Hp) : CallH Tryd.prog 90 [.sl 1 (w.map encB) e] h 320 (fun r h' nx' => r = .os 640 1 w.length false ∧ h' = hpOf h [(512, some ⟨1, [], 67, .wr⟩), (640, some ⟨1, w.map encB, 67, .wr⟩)] ∧ nx' = 768) := by
  refine callH_enter Tryd.func90 rfl Tryd.results90 Tryd.ntmps90 rfl (by simp (maxSteps := 1000000) -implicitDefEqProofs (disch := omega) only [go_sem]; rfl) fun base => ?_
  repeat' (first
    | (with_reducible apply Req_intro); focus (first | omega | assumption | (simp; done))
    | with_reducible (first | apply Req_intro | refine nilT ?_ fun hn => ?_ | apply wk_draw Tryd_mixed | refine drawEnd (by kernel_rfl) ?_)
    | (with_reducible (first | apply condA_if | apply stepDG_ifN | apply stepDG_if | apply stepG_ifN | apply stepG_if)) <;> intro hb <;> (have hif := hb) <;> (try simp only [bo] at hif) <;> (try simp -implicitDefEqProofs (disch := omega) only [go_sem, hb]) <;> clear hb
    | simp (maxSteps := 1000000) -implicitDefEqProofs (disch := omega) only [go_sem])
  · refine ret_do ?_
    exact ⟨rfl, rfl, rfl⟩
  · exact absurd (by simpa using hn) hw

theorem wrong_spec (bs : List Box) (cs : List Bill) (set : Nat) (hb8 : bs.length ≤ 8) (h1 : 1 ≤ bs.length) (hset : set < 2 ^ bs.length) (hb : ∀ b ∈ bs, b.length ≤ 1000) : Ct Tryd.prog 68 [encLoad bs cs, u64 set] (encLoad (spoil bs set) cs) := by
  refine ct_enterZ Tryd.func68 rfl (by decide) Tryd.results68 Tryd.ntmps68 ?_ rfl (by simp (maxSteps := 1000000) -implicitDefEqProofs (disch := omega) only [go_sem]; rfl) fun base => ?_
  · first | assumption | (simp only [go_sem] <;> assumption) | (simp only [go_sem, *]; done) | (simp [go_sem]; done)
  repeat' (first
    | (with_reducible apply Req_intro); focus (first | omega | assumption | (simp; done))
    | with_reducible (first | apply Req_intro | refine nilT ?_ fun hn => ?_ | apply wk_draw Tryd_mixed | refine drawEnd (by kernel_rfl) ?_)
    | (with_reducible (first | apply condA_if | apply stepDG_ifN | apply stepDG_if | apply stepG_ifN | apply stepG_if)) <;> intro hb <;> (have hif := hb) <;> (try simp only [bo] at hif) <;> (try simp -implicitDefEqProofs (disch := omega) only [go_sem, hb]) <;> clear hb
    | simp (maxSteps := 1000000) -implicitDefEqProofs (disch := omega) only [go_sem])
  refine callA_shared _ (Clone_own bs _ (by omega) (fun h => by rw [h] at h1; cases h1) _) ⟨_, Tryd.func90, by rfl, by decide⟩ fun r h' nx' hp => ?_
  obtain ⟨rfl, rfl, rfl⟩ := hp
  rw [hpOf_app]
  simp only [List.cons_append, List.nil_append]
  repeat' (first
    | (with_reducible apply Req_intro); focus (first | omega | assumption | (simp; done))
    | with_reducible (first | apply Req_intro | refine nilT ?_ fun hn => ?_ | apply wk_draw Tryd_mixed | refine drawEnd (by kernel_rfl) ?_)
    | (with_reducible (first | apply condA_if | apply stepDG_ifN | apply stepDG_if | apply stepG_ifN | apply stepG_if)) <;> intro hb <;> (have hif := hb) <;> (try simp only [bo] at hif) <;> (try simp -implicitDefEqProofs (disch := omega) only [go_sem, hb]) <;> clear hb
    | simp (maxSteps := 1000000) -implicitDefEqProofs (disch := omega) only [go_sem])
  refine loop_rows (α := Nat × List Box) [1, 5, 6, 7, 14, 15, 16, 17, 18, 19, 20, 21, 22, 23, 24, 25, 26, 27, 28, 29, 30, 31, 32, 33, 34, 35, 36, 37, 38, 39, 40, 41, 42, 43, 44, 45, 46, 47] (fun y => [(1, u64 y.1)]) (fun y => [(0, some ⟨2, [[.os 640 1 bs.length false, .sl 2 (cs.map encBill) false]], 94, .wr⟩), (64, some ⟨2, [[nilV, nilV]], 94, .wr⟩), (640, some ⟨1, y.2.map encB, 67, .wr⟩)]) (fun y => spoil y.2 y.1 = spoil bs set ∧ y.2.length = bs.length ∧ y.1 < 2 ^ bs.length ∧ ∀ b ∈ y.2, b.length ≤ 1000) (fun y => y.1) (set, bs) (fun x => by simp (maxSteps := 1000000) -implicitDefEqProofs (disch := omega) only [go_sem]; rfl) ?_ ?_ fun x hx => ?_
  · exact weak_do []
  · exact ⟨rfl, rfl, hset, hb⟩
  obtain ⟨s, l⟩ := x
  obtain ⟨hs, hll, hs2, hlb⟩ := hx
  simp only at hs hll hs2 hlb
  have h256 : s < 256 := Nat.lt_of_lt_of_le hs2 (Nat.pow_le_pow_right (n := 2) (by omega) hb8)
  repeat' (first
    | (with_reducible apply Req_intro); focus (first | omega | assumption | (simp; done))
    | with_reducible (first | apply Req_intro | refine nilT ?_ fun hn => ?_ | apply wk_draw Tryd_mixed | refine drawEnd (by kernel_rfl) ?_)
    | (with_reducible (first | apply condA_if | apply stepDG_ifN | apply stepDG_if | apply stepG_ifN | apply stepG_if)) <;> intro hb <;> (have hif := hb) <;> (try simp only [bo] at hif) <;> (try simp -implicitDefEqProofs (disch := omega) only [go_sem, hb]) <;> clear hb
    | simp (maxSteps := 1000000) -implicitDefEqProofs (disch := omega) only [go_sem])
  · have h0 : 0 < s := by omega
    obtain ⟨b1, b2, b3, b4⟩ := bits_all s h256 h0
    have htz := tz_below bs.length (by omega) s hs2 h0
    have hbl := hlb _ (getD_mem (l := l) (i := tz s) (by omega))
    refine callp (TZ s h0 h256) ?_
    try simp (maxSteps := 1000000) -implicitDefEqProofs (disch := omega) only [go_sem]
    generalize hbb : l.getD (tz s) default = bb at hbl
    repeat' (first
      | (with_reducible apply Req_intro); focus (first | omega | assumption | (simp; done))
      | with_reducible (first | apply Req_intro | refine nilT ?_ fun hn => ?_ | apply wk_draw Tryd_mixed | refine drawEnd (by kernel_rfl) ?_)
      | (with_reducible (first | apply condA_if | apply stepDG_ifN | apply stepDG_if | apply stepG_ifN | apply stepG_if)) <;> intro hb <;> (have hif := hb) <;> (try simp only [bo] at hif) <;> (try simp -implicitDefEqProofs (disch := omega) only [go_sem, hb, hbb]) <;> clear hb
      | simp (maxSteps := 1000000) -implicitDefEqProofs (disch := omega) only [go_sem, hbb])
    refine loop_rows (α := Nat) [7, 33, 34, 35, 36, 37, 38, 39, 40] (fun x => [(33, .lit (.int .i64 x))]) (fun x => [(0, some ⟨2, [[.os 640 1 bs.length false, .sl 2 (cs.map encBill) false]], 94, .wr⟩), (64, some ⟨2, [[nilV, nilV]], 94, .wr⟩), (640, some ⟨1, l.map encB, 67, .wr⟩), (1856, some ⟨2, (fillTo bb.length x).map encS, 60, .wr⟩)]) (fun x => x ≤ bb.length) (fun x => bb.length - x) 0 (fun x => by simp (maxSteps := 1000000) -implicitDefEqProofs (disch := omega) only [go_sem]; rfl) ?_ ?_ fun x hx => ?_
    · simp only [fillTo, List.replicate_zero, List.nil_append, Nat.sub_zero, List.map_replicate, encS]
      exact weak_do []
    · exact Nat.zero_le _
    have hfl := fillTo_len hx
    by_cases hlt : x < bb.length
    · have hat := fillTo_at hlt
      repeat' (first
        | (with_reducible apply Req_intro); focus (first | omega | assumption | (simp; done))
        | with_reducible (first | apply Req_intro | refine nilT ?_ fun hn => ?_ | apply wk_draw Tryd_mixed | refine drawEnd (by kernel_rfl) ?_)
        | (with_reducible (first | apply condA_if | apply stepDG_ifN | apply stepDG_if | apply stepG_ifN | apply stepG_if)) <;> intro hb <;> (have hif := hb) <;> (try simp only [bo] at hif) <;> (try simp -implicitDefEqProofs (disch := omega) only [go_sem, hb, hat]) <;> clear hb
        | simp (maxSteps := 1000000) -implicitDefEqProofs (disch := omega) only [go_sem, hat])
      all_goals first | (exfalso; omega) | skip
      with_reducible refine nxt_w (x + 1) ?_ ?_
      · (try dsimp only)
        rw [← fillTo_set hlt]
        exact weak_do []
      try dsimp only
      omega
    · obtain rfl : x = bb.length := by omega
      rw [fillTo_full]
      rw [fillTo_full] at hfl
      repeat' (first
        | (with_reducible apply Req_intro); focus (first | omega | assumption | (simp; done))
        | with_reducible (first | apply Req_intro | refine nilT ?_ fun hn => ?_ | apply wk_draw Tryd_mixed | refine drawEnd (by kernel_rfl) ?_)
        | (with_reducible (first | apply condA_if | apply stepDG_ifN | apply stepDG_if | apply stepG_ifN | apply stepG_if)) <;> intro hb <;> (have hif := hb) <;> (try simp only [bo] at hif) <;> (try simp -implicitDefEqProofs (disch := omega) only [go_sem, hb, b3]) <;> clear hb
        | simp (maxSteps := 1000000) -implicitDefEqProofs (disch := omega) only [go_sem, b3])
      all_goals first | (exfalso; omega) | skip
      refine nxt_snapRow [1856] 640 (es' := (l.set (tz s) (spoilB bb)).map encB) (by first | (simp only [go_sem]; done) | (simp only [go_sem]; rfl)) (by rfl) ?_ (by first | assumption | (simp only [go_sem] <;> assumption) | (simp only [go_sem, *]; done) | (simp [go_sem]; done)) (by first | (simp only [go_sem]; done) | (simp only [go_sem]; rfl)) ?_
      · rw [List.map_set]
        refine PurE.setR ?_ (by first | assumption | (simp only [go_sem] <;> assumption) | (simp only [go_sem, *]; done) | (simp [go_sem]; done))
        rw [show encB (spoilB bb) = [.sl 2 ((spoilB bb).map encS) false] from rfl]
        (try simp (maxSteps := 1000000) -implicitDefEqProofs (disch := omega) only [go_sem])
        repeat' (first
          | with_reducible (first | exact PurI.nil | exact Pur.nilsl _ _ | exact PurE.nil)
          | (with_reducible (first | refine PurI.puL ?_ | refine PurE.puE ?_)) <;> (first | assumption | (simp only [go_sem] <;> assumption) | (simp only [go_sem, *]; done) | (simp [go_sem]; done))
          | with_reducible apply PurI.cons
          | (with_reducible refine Pur.pu _ ?_) <;> (first | assumption | (simp only [go_sem] <;> assumption) | (simp only [go_sem, *]; done) | (simp [go_sem]; done))
          | ((with_reducible apply Pur.refR) <;> (first | rfl | decide | (simp only [go_sem]; omega) | (simp only [go_sem]) | skip))
          | ((with_reducible apply Pur.osR) <;> (first | rfl | exact fun h => h | omega | (simp; omega) | (simp; done) | (simp only [go_sem]) | skip))
          | with_reducible (first | apply Pur.fnI | apply Pur.aggI | apply PurE.cons)
          | (with_reducible refine PurI.eqL ?_ ?_); (focus rfl); (focus (first | assumption | (simp only [go_sem] <;> assumption) | (simp only [go_sem, *]; done) | (simp [go_sem]; done)))
          | simp (maxSteps := 1000000) -implicitDefEqProofs (disch := omega) only [go_sem])
      refine nxt_w (s &&& (s - 1), l.set (tz s) (spoilB bb)) (weak_do []) ?_
      try dsimp only
      refine ⟨?_, by rw [List.length_set]; exact hll, by omega, fun b hb => ?_⟩
      · rw [← hs, ← hbb]; exact spoil_step (by omega) h256 h0
      · rcases List.mem_or_eq_of_mem_set hb with h | rfl
        · exact hlb b h
        · simp only [spoilB, List.length_replicate]; exact hbl
  · obtain rfl : s = 0 := by omega
    rw [spoil_zero] at hs
    subst hs
    exact retz [640]

theorem wrong_zero (bs : List Box) (cs : List Bill) (hb8 : bs.length ≤ 8) : Ct Tryd.prog 68 [encLoad bs cs, u64 0] (encLoad bs cs) := by
  refine ct_enterZ Tryd.func68 rfl (by decide) Tryd.results68 Tryd.ntmps68 ?_ rfl (by simp (maxSteps := 1000000) -implicitDefEqProofs (disch := omega) only [go_sem]; rfl) fun base => ?_
  · first | assumption | (simp only [go_sem] <;> assumption) | (simp only [go_sem, *]; done) | (simp [go_sem]; done)
  repeat' (first
    | (with_reducible apply Req_intro); focus (first | omega | assumption | (simp; done))
    | with_reducible (first | apply Req_intro | refine nilT ?_ fun hn => ?_ | apply wk_draw Tryd_mixed | refine drawEnd (by kernel_rfl) ?_)
    | (with_reducible (first | apply condA_if | apply stepDG_ifN | apply stepDG_if | apply stepG_ifN | apply stepG_if)) <;> intro hb <;> (have hif := hb) <;> (try simp only [bo] at hif) <;> (try simp -implicitDefEqProofs (disch := omega) only [go_sem, hb]) <;> clear hb
    | simp (maxSteps := 1000000) -implicitDefEqProofs (disch := omega) only [go_sem])
  refine callp (Clone_box bs _ (by omega)) ?_
  try simp (maxSteps := 1000000) -implicitDefEqProofs (disch := omega) only [go_sem]
  repeat' (first
    | (with_reducible apply Req_intro); focus (first | omega | assumption | (simp; done))
    | with_reducible (first | apply Req_intro | refine nilT ?_ fun hn => ?_ | apply wk_draw Tryd_mixed | refine drawEnd (by kernel_rfl) ?_)
    | (with_reducible (first | apply condA_if | apply stepDG_ifN | apply stepDG_if | apply stepG_ifN | apply stepG_if)) <;> intro hb <;> (have hif := hb) <;> (try simp only [bo] at hif) <;> (try simp -implicitDefEqProofs (disch := omega) only [go_sem, hb]) <;> clear hb
    | simp (maxSteps := 1000000) -implicitDefEqProofs (disch := omega) only [go_sem])
  refine loop_rows (α := Unit) [1, 5, 6, 7, 14, 15, 16, 17, 18, 19, 20, 21, 22, 23, 24, 25, 26, 27, 28, 29, 30, 31, 32, 33, 34, 35, 36, 37, 38, 39, 40, 41, 42, 43, 44, 45, 46, 47] (fun y => [(1, u64 0)]) (fun y => [(0, some ⟨2, [[.sl 1 (bs.map encB) false, .sl 2 (cs.map encBill) false]], 94, .wr⟩), (64, some ⟨2, [[nilV, nilV]], 94, .wr⟩)]) (fun y => True) (fun y => 0) () (fun x => by simp (maxSteps := 1000000) -implicitDefEqProofs (disch := omega) only [go_sem]; rfl) ?_ ?_ fun x hx => ?_
  · exact weak_do []
  · trivial
  repeat' (first
    | (with_reducible apply Req_intro); focus (first | omega | assumption | (simp; done))
    | with_reducible (first | apply Req_intro | refine nilT ?_ fun hn => ?_ | apply wk_draw Tryd_mixed | refine drawEnd (by kernel_rfl) ?_)
    | (with_reducible (first | apply condA_if | apply stepDG_ifN | apply stepDG_if | apply stepG_ifN | apply stepG_if)) <;> intro hb <;> (have hif := hb) <;> (try simp only [bo] at hif) <;> (try simp -implicitDefEqProofs (disch := omega) only [go_sem, hb]) <;> clear hb
    | simp (maxSteps := 1000000) -implicitDefEqProofs (disch := omega) only [go_sem])
  exact retz []

/-- The numbers of a set. -/
def nums (s : Nat) : List Int := ((List.range 8).filter fun i => s.testBit i).map Int.ofNat
theorem nums_all : ∀ s : Nat, s < 256 → (0 < s → nums s = (tz s : Int) :: nums (s &&& (s - 1))) := by decide +kernel

/-- The first of the best sets so far. -/
def wrongTo (ok : Nat → Bool) : Nat → Option (List Int)
  | 0 => none
  | k + 1 => match wrongTo ok k with
    | none => if ok k then some (nums k) else none
    | some b => if ((nums k).length > b.length || ((nums k).length == b.length && decide (0 < cmpL (nums k) b))) = false ∧ ok k = true then some (nums k) else some b

def isPos (bs : List Box) (cs : List Bill) (k : Nat) : Bool := !(allW (spoil bs k) cs).isEmpty

theorem Valid.spoil {bs : List Box} {cs : List Bill} (h : Valid cs bs) (k : Nat) : Valid cs (spoil bs k) := by
  obtain ⟨h1, h2, h3, h4, h5⟩ := h
  have key : ∀ b ∈ Aw.spoil bs k, b.length ≤ 3 ∧ ∀ x ∈ b, SmallS 1000000 x := by
    intro b hb
    obtain ⟨i, hi, rfl⟩ := List.mem_iff_getElem.1 hb
    have hi2 : i < bs.length := by rw [spoil_len] at hi; exact hi
    simp only [Aw.spoil, List.getElem_mapIdx]
    split
    · refine ⟨by simp only [spoilB, List.length_replicate]; exact h4 _ (List.getElem_mem hi2), fun x hx => ?_⟩
      rw [List.eq_of_mem_replicate hx]; unfold SmallS; decide
    · exact ⟨h4 _ (List.getElem_mem hi2), h5 _ (List.getElem_mem hi2)⟩
  exact ⟨h1, by rw [spoil_len]; exact h2, h3, fun b hb => (key b hb).1, fun b hb => (key b hb).2⟩

theorem wrong_any (bs : List Box) (cs : List Bill) (set : Nat) (hv : Valid cs bs) (hset : set < 2 ^ bs.length) : Ct Tryd.prog 68 [encLoad bs cs, u64 set] (encLoad (spoil bs set) cs) := by
  by_cases h0 : set = 0
  · subst h0
    rw [spoil_zero]
    exact wrong_zero bs cs hv.nb
  · have h1 : 1 ≤ bs.length := by
      rcases Nat.eq_zero_or_pos bs.length with h | h
      · rw [h] at hset; omega
      · exact h
    exact wrong_spec bs cs set hv.nb h1 hset fun b hb => by have := hv.sb b hb; omega

theorem Wrong_err (bs : List Box) (cs : List Bill) (hf : Fits bs cs) (h : checkR bs cs ≠ 0) : Ct Tryd.prog 31 [encLoad bs cs] (.tup [nilV, int (checkR bs cs)]) := by
  refine fn_enter Tryd.func31 rfl (by decide) Tryd.results31 Tryd.ntmps31 ?_ rfl (by simp (maxSteps := 1000000) -implicitDefEqProofs (disch := omega) only [go_sem]; rfl) fun base => ?_
  · first | assumption | (simp only [go_sem] <;> assumption) | (simp only [go_sem, *]; done) | (simp [go_sem]; done)
  repeat' (first
    | (with_reducible apply Req_intro); focus (first | omega | assumption | (simp; done))
    | with_reducible (first | apply Req_intro | refine nilT ?_ fun hn => ?_ | apply wk_draw Tryd_mixed | refine drawEnd (by kernel_rfl) ?_)
    | (with_reducible (first | apply condA_if | apply stepDG_ifN | apply stepDG_if | apply stepG_ifN | apply stepG_if)) <;> intro hb <;> (have hif := hb) <;> (try simp only [bo] at hif) <;> (try simp -implicitDefEqProofs (disch := omega) only [go_sem, hb]) <;> clear hb
    | simp (maxSteps := 1000000) -implicitDefEqProofs (disch := omega) only [go_sem])
  refine callp (Check_spec bs cs hf.b hf.c) ?_
  try simp (maxSteps := 1000000) -implicitDefEqProofs (disch := omega) only [go_sem]
  repeat' (first
    | (with_reducible apply Req_intro); focus (first | omega | assumption | (simp; done))
    | with_reducible (first | apply Req_intro | refine nilT ?_ fun hn => ?_ | apply wk_draw Tryd_mixed | refine drawEnd (by kernel_rfl) ?_)
    | (with_reducible (first | apply condA_if | apply stepDG_ifN | apply stepDG_if | apply stepG_ifN | apply stepG_if)) <;> intro hb <;> (have hif := hb) <;> (try simp only [bo] at hif) <;> (try simp -implicitDefEqProofs (disch := omega) only [go_sem, hb]) <;> clear hb
    | simp (maxSteps := 1000000) -implicitDefEqProofs (disch := omega) only [go_sem])
  · refine ret_do ?_
    rfl
  · exact absurd hif h
theorem Wrong_twice (bs : List Box) (cs : List Bill) (hf : Fits bs cs) (h : checkR bs cs = 0) (hn : allW bs cs ≠ []) : Ct Tryd.prog 31 [encLoad bs cs] (.tup [nilV, int 6]) := by
  have hv := (good_of_check h).valid
  refine fn_enter Tryd.func31 rfl (by decide) Tryd.results31 Tryd.ntmps31 ?_ rfl (by simp (maxSteps := 1000000) -implicitDefEqProofs (disch := omega) only [go_sem]; rfl) fun base => ?_
  · first | assumption | (simp only [go_sem] <;> assumption) | (simp only [go_sem, *]; done) | (simp [go_sem]; done)
  repeat' (first
    | (with_reducible apply Req_intro); focus (first | omega | assumption | (simp; done))
    | with_reducible (first | apply Req_intro | refine nilT ?_ fun hn => ?_ | apply wk_draw Tryd_mixed | refine drawEnd (by kernel_rfl) ?_)
    | (with_reducible (first | apply condA_if | apply stepDG_ifN | apply stepDG_if | apply stepG_ifN | apply stepG_if)) <;> intro hb <;> (have hif := hb) <;> (try simp only [bo] at hif) <;> (try simp -implicitDefEqProofs (disch := omega) only [go_sem, hb]) <;> clear hb
    | simp (maxSteps := 1000000) -implicitDefEqProofs (disch := omega) only [go_sem])
  refine callp (Check_spec bs cs hf.b hf.c) ?_
  try simp (maxSteps := 1000000) -implicitDefEqProofs (disch := omega) only [go_sem]
  repeat' (first
    | (with_reducible apply Req_intro); focus (first | omega | assumption | (simp; done))
    | with_reducible (first | apply Req_intro | refine nilT ?_ fun hn => ?_ | apply wk_draw Tryd_mixed | refine drawEnd (by kernel_rfl) ?_)
    | (with_reducible (first | apply condA_if | apply stepDG_ifN | apply stepDG_if | apply stepG_ifN | apply stepG_if)) <;> intro hb <;> (have hif := hb) <;> (try simp only [bo] at hif) <;> (try simp -implicitDefEqProofs (disch := omega) only [go_sem, hb]) <;> clear hb
    | simp (maxSteps := 1000000) -implicitDefEqProofs (disch := omega) only [go_sem])
  · exact absurd h hif
  refine callp (isPossible_spec bs cs hv) ?_
  try simp (maxSteps := 1000000) -implicitDefEqProofs (disch := omega) only [go_sem]
  repeat' (first
    | (with_reducible apply Req_intro); focus (first | omega | assumption | (simp; done))
    | with_reducible (first | apply Req_intro | refine nilT ?_ fun hn => ?_ | apply wk_draw Tryd_mixed | refine drawEnd (by kernel_rfl) ?_)
    | (with_reducible (first | apply condA_if | apply stepDG_ifN | apply stepDG_if | apply stepG_ifN | apply stepG_if)) <;> intro hb <;> (have hif := hb) <;> (try simp only [bo] at hif) <;> (try simp -implicitDefEqProofs (disch := omega) only [go_sem, hb]) <;> clear hb
    | simp (maxSteps := 1000000) -implicitDefEqProofs (disch := omega) only [go_sem])
  · refine ret_do ?_
    rfl
  all_goals (exfalso; exact hn (by simpa using hif))
end Go.Aw
end
section
set_option linter.unusedVariables false
set_option linter.unusedSimpArgs false
set_option maxRecDepth 20000
set_option maxHeartbeats 4000000
/-! Wrong. -/
namespace Go.Aw
open Go.RowKit Go.Proofs

def bestV : Option (List Int) → V
  | none => nilV
  | some b => .os 64 1 b.length false
def bestR : Option (List Int) → Option Blk
  | none => none
  | some b => some ⟨1, b.map encI, 3, .wr⟩
def bestO : Option (List Int) → V
  | none => .tup [nilV, int 7]
  | some b => .tup [.sl 1 (b.map encI) false, int 0]

theorem nums_zero : nums 0 = [] := by decide
theorem nums_ne {k : Nat} (h : k < 256) (h0 : 0 < k) : nums k ≠ [] := by rw [nums_all k h h0]; exact List.cons_ne_nil _ _
theorem nums_len (k : Nat) : (nums k).length ≤ 8 := by
  simp only [nums, List.length_map]
  exact Nat.le_trans (List.length_filter_le _ _) (by simp)
theorem wrongTo_ne {ok : Nat → Bool} (h0 : ok 0 = false) : ∀ {k : Nat} {b : List Int}, k ≤ 256 → wrongTo ok k = some b → b ≠ [] ∧ b.length ≤ 8
  | 0, _, _, h => by cases h
  | k + 1, b, hk, h => by
    have hn : ok k = true → nums k ≠ [] := fun hok => by
      rcases Nat.eq_zero_or_pos k with e | e
      · subst e; rw [h0] at hok; cases hok
      · exact nums_ne (by omega) e
    simp only [wrongTo] at h
    cases hw : wrongTo ok k with
    | none =>
      rw [hw] at h
      simp only at h
      split at h
      · rename_i hok; cases h; exact ⟨hn hok, nums_len k⟩
      · cases h
    | some c =>
      rw [hw] at h
      simp only at h
      split at h
      · rename_i hok; cases h; exact ⟨hn hok.2, nums_len k⟩
      · cases h; exact wrongTo_ne h0 (by omega) hw

def moreR (n b : List Int) : Bool := decide (n.length > b.length) || ((n.length == b.length) && decide (0 < cmpL n b))
theorem wrongTo_none {ok : Nat → Bool} {k : Nat} (hW : wrongTo ok k = none) (h : ok k = false) : wrongTo ok (k + 1) = none := by simp only [wrongTo, hW, h]; rfl
theorem wrongTo_first {ok : Nat → Bool} {k : Nat} (hW : wrongTo ok k = none) (h : ok k = true) : wrongTo ok (k + 1) = some (nums k) := by simp only [wrongTo, hW, h]; rfl
theorem wrongTo_stay {ok : Nat → Bool} {k : Nat} {b : List Int} (hW : wrongTo ok k = some b) (h : moreR (nums k) b = true ∨ ok k = false) : wrongTo ok (k + 1) = some b := by
  have : ¬ (moreR (nums k) b = false ∧ ok k = true) := by rcases h with h | h <;> simp [h]
  simp only [wrongTo, hW]; exact if_neg this
theorem wrongTo_new {ok : Nat → Bool} {k : Nat} {b : List Int} (hW : wrongTo ok k = some b) (h : moreR (nums k) b = false) (h' : ok k = true) : wrongTo ok (k + 1) = some (nums k) := by
  simp only [wrongTo, hW]; exact if_pos ⟨h, h'⟩

theorem pow_min {n : Nat} (h : n ≤ 8) : (1 : Int) * 2 ^ min n 64 = ((2 ^ n : Nat) : Int) := by
  rw [Nat.min_eq_left (by omega)]; push_cast; omega
theorem Wrong_ok (bs : List Box) (cs : List Bill) (hf : Fits bs cs) (h : checkR bs cs = 0) (hn : allW bs cs = []) : Ct Tryd.prog 31 [encLoad bs cs] (bestO (wrongTo (isPos bs cs) (2 ^ bs.length))) := by
  have hg := good_of_check h
  have hv := hg.valid
  have h8 := hg.nb
  have h256 : 2 ^ bs.length ≤ 256 := Nat.pow_le_pow_right (n := 2) (by omega) h8
  have hp0 : isPos bs cs 0 = false := by rw [isPos, spoil_zero, hn]; rfl
  have hpm := pow_min h8
  generalize hM : 2 ^ bs.length = M at *
  refine fn_enter Tryd.func31 rfl (by decide) Tryd.results31 Tryd.ntmps31 ?_ rfl (by simp (maxSteps := 1000000) -implicitDefEqProofs (disch := omega) only [go_sem]; rfl) fun base => ?_
  · cases wrongTo (isPos bs cs) M with
    | none => simp only [bestO]; first | assumption | (simp only [go_sem] <;> assumption) | (simp only [go_sem, *]; done) | (simp [go_sem]; done)
    | some b => simp only [bestO]; first | assumption | (simp only [go_sem] <;> assumption) | (simp only [go_sem, *]; done) | (simp [go_sem]; done)
  repeat' (first
    | (with_reducible apply Req_intro); focus (first | omega | assumption | (simp; done))
    | with_reducible (first | apply Req_intro | refine nilT ?_ fun hn => ?_ | apply wk_draw Tryd_mixed | refine drawEnd (by kernel_rfl) ?_)
    | (with_reducible (first | apply condA_if | apply stepDG_ifN | apply stepDG_if | apply stepG_ifN | apply stepG_if)) <;> intro hb <;> (have hif := hb) <;> (try simp only [bo] at hif) <;> (try simp -implicitDefEqProofs (disch := omega) only [go_sem, hb]) <;> clear hb
    | simp (maxSteps := 1000000) -implicitDefEqProofs (disch := omega) only [go_sem])
  refine callp (Check_spec bs cs hf.b hf.c) ?_
  try simp (maxSteps := 1000000) -implicitDefEqProofs (disch := omega) only [go_sem]
  repeat' (first
    | (with_reducible apply Req_intro); focus (first | omega | assumption | (simp; done))
    | with_reducible (first | apply Req_intro | refine nilT ?_ fun hn => ?_ | apply wk_draw Tryd_mixed | refine drawEnd (by kernel_rfl) ?_)
    | (with_reducible (first | apply condA_if | apply stepDG_ifN | apply stepDG_if | apply stepG_ifN | apply stepG_if)) <;> intro hb <;> (have hif := hb) <;> (try simp only [bo] at hif) <;> (try simp -implicitDefEqProofs (disch := omega) only [go_sem, hb]) <;> clear hb
    | simp (maxSteps := 1000000) -implicitDefEqProofs (disch := omega) only [go_sem])
  · exact absurd h hif
  refine callp (isPossible_spec bs cs hv) ?_
  try simp (maxSteps := 1000000) -implicitDefEqProofs (disch := omega) only [go_sem]
  repeat' (first
    | (with_reducible apply Req_intro); focus (first | omega | assumption | (simp; done))
    | with_reducible (first | apply Req_intro | refine nilT ?_ fun hn => ?_ | apply wk_draw Tryd_mixed | refine drawEnd (by kernel_rfl) ?_)
    | (with_reducible (first | apply condA_if | apply stepDG_ifN | apply stepDG_if | apply stepG_ifN | apply stepG_if)) <;> intro hb <;> (have hif := hb) <;> (try simp only [bo] at hif) <;> (try simp -implicitDefEqProofs (disch := omega) only [go_sem, hb, hpm]) <;> clear hb
    | simp (maxSteps := 1000000) -implicitDefEqProofs (disch := omega) only [go_sem, hpm])
  · rw [hn] at hif; cases hif
  refine loop_rows (α := Nat) [2, 6, 7, 8, 9, 24, 25, 26, 27, 28, 29, 30, 31, 32, 33, 34, 35, 36, 37, 38, 39, 40, 41, 42, 43, 44, 45, 46, 47, 48, 49, 50, 51, 52, 53, 54, 55, 56, 57, 58, 59, 60, 61, 62, 63, 64, 65, 66, 67, 68, 69, 70] (fun k => [(24, u64 k), (2, bestV (wrongTo (isPos bs cs) k))]) (fun k => [(0, some ⟨2, [loadC bs cs], 25, .wr⟩), (64, bestR (wrongTo (isPos bs cs) k)), (640, some ⟨2, [loadC bs cs], 94, .wr⟩)]) (fun k => k ≤ M) (fun k => M - k) 0 (fun x => by simp (maxSteps := 1000000) -implicitDefEqProofs (disch := omega) only [go_sem]; rfl) ?_ ?_ fun x hx => ?_
  · simp only [wrongTo, bestV, bestR]
    exact weak_do []
  · exact Nat.zero_le _
  by_cases hlt : x < M
  · cases hW : wrongTo (isPos bs cs) x with
    | none =>
      simp only [bestV, bestR]
      repeat' (first
        | (with_reducible apply Req_intro); focus (first | omega | assumption | (simp; done))
        | with_reducible (first | apply Req_intro | refine nilT ?_ fun hn => ?_ | apply wk_draw Tryd_mixed | refine drawEnd (by kernel_rfl) ?_)
        | (with_reducible (first | apply condA_if | apply stepDG_ifN | apply stepDG_if | apply stepG_ifN | apply stepG_if)) <;> intro hb <;> (have hif := hb) <;> (try simp only [bo] at hif) <;> (try simp -implicitDefEqProofs (disch := omega) only [go_sem, hb]) <;> clear hb
        | simp (maxSteps := 1000000) -implicitDefEqProofs (disch := omega) only [go_sem])
      all_goals first | (exfalso; omega) | skip
      refine loop_rows (α := Nat × List Int) [7, 8, 28, 29, 30, 31, 32, 33, 34, 35, 36, 37, 38] (fun y => [(8, u64 y.1), (7, .os 128 1 y.2.length false)]) (fun y => [(0, some ⟨2, [loadC bs cs], 25, .wr⟩), (640, some ⟨2, [loadC bs cs], 94, .wr⟩), (128, some ⟨1, y.2.map encI, 3, .wr⟩)]) (fun y => y.2 ++ nums y.1 = nums x ∧ y.1 < 256) (fun y => y.1) (x, []) (fun x => by simp (maxSteps := 1000000) -implicitDefEqProofs (disch := omega) only [go_sem]; rfl) ?_ ?_ fun x hx => ?_
      · simp only [List.map_nil, List.length_nil]
        exact weak_do [(128, 1000000)]
      · exact ⟨by simp, by omega⟩
      rename_i k hk
      obtain ⟨s, l⟩ := x
      obtain ⟨hs, h2⟩ := hx
      simp only at hs h2
      have hl8 : l.length ≤ 8 := by
        have := nums_len k
        rw [← hs, List.length_append] at this; omega
      by_cases h0 : 0 < s
      · obtain ⟨b1, b2, b3, b4⟩ := bits_all s h2 h0
        repeat' (first
          | (with_reducible apply Req_intro); focus (first | omega | assumption | (simp; done))
          | with_reducible (first | apply Req_intro | refine nilT ?_ fun hn => ?_ | apply wk_draw Tryd_mixed | refine drawEnd (by kernel_rfl) ?_)
          | (with_reducible (first | apply condA_if | apply stepDG_ifN | apply stepDG_if | apply stepG_ifN | apply stepG_if)) <;> intro hb <;> (have hif := hb) <;> (try simp only [bo] at hif) <;> (try simp -implicitDefEqProofs (disch := omega) only [go_sem, hb]) <;> clear hb
          | simp (maxSteps := 1000000) -implicitDefEqProofs (disch := omega) only [go_sem])
        all_goals first | (exfalso; omega) | skip
        refine callp (TZ s h0 h2) ?_
        try simp (maxSteps := 1000000) -implicitDefEqProofs (disch := omega) only [go_sem]
        repeat' (first
          | (with_reducible apply Req_intro); focus (first | omega | assumption | (simp; done))
          | with_reducible (first | apply Req_intro | refine nilT ?_ fun hn => ?_ | apply wk_draw Tryd_mixed | refine drawEnd (by kernel_rfl) ?_)
          | (with_reducible (first | apply condA_if | apply stepDG_ifN | apply stepDG_if | apply stepG_ifN | apply stepG_if)) <;> intro hb <;> (have hif := hb) <;> (try simp only [bo] at hif) <;> (try simp -implicitDefEqProofs (disch := omega) only [go_sem, hb, b3]) <;> clear hb
          | simp (maxSteps := 1000000) -implicitDefEqProofs (disch := omega) only [go_sem, b3])
        with_reducible refine nxt_w (s &&& (s - 1), l ++ [(tz s : Int)]) ?_ ?_
        · (try dsimp only)
          rw [List.length_append]
          exact weak_do [(128, 2048)]
        try dsimp only
        refine ⟨?_, by omega⟩
        rw [← hs, nums_all s h2 h0, List.append_assoc]; rfl
      · obtain rfl : s = 0 := by omega
        rw [nums_zero, List.append_nil] at hs
        subst hs
        have hpos := isPossible_spec (spoil bs k) cs (hv.spoil k)
        have hwr := wrong_any bs cs k hv (by omega)
        repeat' (first
          | (with_reducible apply Req_intro); focus (first | omega | assumption | (simp; done))
          | with_reducible (first | apply Req_intro | refine nilT ?_ fun hn => ?_ | apply wk_draw Tryd_mixed | refine drawEnd (by kernel_rfl) ?_)
          | (with_reducible (first | apply condA_if | apply stepDG_ifN | apply stepDG_if | apply stepG_ifN | apply stepG_if)) <;> intro hb <;> (have hif := hb) <;> (try simp only [bo] at hif) <;> (try simp -implicitDefEqProofs (disch := omega) only [go_sem, hb]) <;> clear hb
          | simp (maxSteps := 1000000) -implicitDefEqProofs (disch := omega) only [go_sem])
        all_goals first | (exfalso; omega) | skip
        refine callp hwr ?_
        try simp (maxSteps := 1000000) -implicitDefEqProofs (disch := omega) only [go_sem]
        repeat' (first
          | (with_reducible apply Req_intro); focus (first | omega | assumption | (simp; done))
          | with_reducible (first | apply Req_intro | refine nilT ?_ fun hn => ?_ | apply wk_draw Tryd_mixed | refine drawEnd (by kernel_rfl) ?_)
          | (with_reducible (first | apply condA_if | apply stepDG_ifN | apply stepDG_if | apply stepG_ifN | apply stepG_if)) <;> intro hb <;> (have hif := hb) <;> (try simp only [bo] at hif) <;> (try simp -implicitDefEqProofs (disch := omega) only [go_sem, hb]) <;> clear hb
          | simp (maxSteps := 1000000) -implicitDefEqProofs (disch := omega) only [go_sem])
        refine callp hpos ?_
        try simp (maxSteps := 1000000) -implicitDefEqProofs (disch := omega) only [go_sem]
        repeat' (first
          | (with_reducible apply Req_intro); focus (first | omega | assumption | (simp; done))
          | with_reducible (first | apply Req_intro | refine nilT ?_ fun hn => ?_ | apply wk_draw Tryd_mixed | refine drawEnd (by kernel_rfl) ?_)
          | (with_reducible (first | apply condA_if | apply stepDG_ifN | apply stepDG_if | apply stepG_ifN | apply stepG_if)) <;> intro hb <;> (have hif := hb) <;> (try simp only [bo] at hif) <;> (try simp -implicitDefEqProofs (disch := omega) only [go_sem, hb]) <;> clear hb
          | simp (maxSteps := 1000000) -implicitDefEqProofs (disch := omega) only [go_sem])
        · have hP : isPos bs cs k = true := by rw [isPos, hif]; rfl
          with_reducible refine nxt_w (k + 1) ?_ ?_
          · (try dsimp only)
            rw [wrongTo_first hW hP]
            exact weak_do [(64, 128)]
          try dsimp only
          omega
        · have hP : isPos bs cs k = false := by rw [isPos, hif]; rfl
          with_reducible refine nxt_w (k + 1) ?_ ?_
          · (try dsimp only)
            rw [wrongTo_none hW hP]
            exact weak_do []
          try dsimp only
          omega
    | some b =>
      obtain ⟨hbn, hb8⟩ := wrongTo_ne hp0 (by omega) hW
      have hbl : 0 < b.length := List.length_pos_iff.2 hbn
      simp only [bestV, bestR]
      repeat' (first
        | (with_reducible apply Req_intro); focus (first | omega | assumption | (simp; done))
        | with_reducible (first | apply Req_intro | refine nilT ?_ fun hn => ?_ | apply wk_draw Tryd_mixed | refine drawEnd (by kernel_rfl) ?_)
        | (with_reducible (first | apply condA_if | apply stepDG_ifN | apply stepDG_if | apply stepG_ifN | apply stepG_if)) <;> intro hb <;> (have hif := hb) <;> (try simp only [bo] at hif) <;> (try simp -implicitDefEqProofs (disch := omega) only [go_sem, hb]) <;> clear hb
        | simp (maxSteps := 1000000) -implicitDefEqProofs (disch := omega) only [go_sem])
      all_goals first | (exfalso; omega) | skip
      refine loop_rows (α := Nat × List Int) [7, 8, 28, 29, 30, 31, 32, 33, 34, 35, 36, 37, 38] (fun y => [(8, u64 y.1), (7, .os 128 1 y.2.length false)]) (fun y => [(0, some ⟨2, [loadC bs cs], 25, .wr⟩), (64, some ⟨1, b.map encI, 3, .wr⟩), (640, some ⟨2, [loadC bs cs], 94, .wr⟩), (128, some ⟨1, y.2.map encI, 3, .wr⟩)]) (fun y => y.2 ++ nums y.1 = nums x ∧ y.1 < 256) (fun y => y.1) (x, []) (fun x => by simp (maxSteps := 1000000) -implicitDefEqProofs (disch := omega) only [go_sem]; rfl) ?_ ?_ fun x hx => ?_
      · simp only [List.map_nil, List.length_nil]
        exact weak_do [(128, 1000000)]
      · exact ⟨by simp, by omega⟩
      rename_i k hk
      obtain ⟨s, l⟩ := x
      obtain ⟨hs, h2⟩ := hx
      simp only at hs h2
      have hl8 : l.length ≤ 8 := by
        have := nums_len k
        rw [← hs, List.length_append] at this; omega
      by_cases h0 : 0 < s
      · obtain ⟨b1, b2, b3, b4⟩ := bits_all s h2 h0
        repeat' (first
          | (with_reducible apply Req_intro); focus (first | omega | assumption | (simp; done))
          | with_reducible (first | apply Req_intro | refine nilT ?_ fun hn => ?_ | apply wk_draw Tryd_mixed | refine drawEnd (by kernel_rfl) ?_)
          | (with_reducible (first | apply condA_if | apply stepDG_ifN | apply stepDG_if | apply stepG_ifN | apply stepG_if)) <;> intro hb <;> (have hif := hb) <;> (try simp only [bo] at hif) <;> (try simp -implicitDefEqProofs (disch := omega) only [go_sem, hb]) <;> clear hb
          | simp (maxSteps := 1000000) -implicitDefEqProofs (disch := omega) only [go_sem])
        all_goals first | (exfalso; omega) | skip
        refine callp (TZ s h0 h2) ?_
        try simp (maxSteps := 1000000) -implicitDefEqProofs (disch := omega) only [go_sem]
        repeat' (first
          | (with_reducible apply Req_intro); focus (first | omega | assumption | (simp; done))
          | with_reducible (first | apply Req_intro | refine nilT ?_ fun hn => ?_ | apply wk_draw Tryd_mixed | refine drawEnd (by kernel_rfl) ?_)
          | (with_reducible (first | apply condA_if | apply stepDG_ifN | apply stepDG_if | apply stepG_ifN | apply stepG_if)) <;> intro hb <;> (have hif := hb) <;> (try simp only [bo] at hif) <;> (try simp -implicitDefEqProofs (disch := omega) only [go_sem, hb, b3]) <;> clear hb
          | simp (maxSteps := 1000000) -implicitDefEqProofs (disch := omega) only [go_sem, b3])
        with_reducible refine nxt_w (s &&& (s - 1), l ++ [(tz s : Int)]) ?_ ?_
        · (try dsimp only)
          rw [List.length_append]
          exact weak_do [(128, 2048)]
        try dsimp only
        refine ⟨?_, by omega⟩
        rw [← hs, nums_all s h2 h0, List.append_assoc]; rfl
      · obtain rfl : s = 0 := by omega
        rw [nums_zero, List.append_nil] at hs
        subst hs
        have hpos := isPossible_spec (spoil bs k) cs (hv.spoil k)
        have hwr := wrong_any bs cs k hv (by omega)
        repeat' (first
          | (with_reducible apply Req_intro); focus (first | omega | assumption | (simp; done))
          | with_reducible (first | apply Req_intro | refine nilT ?_ fun hn => ?_ | apply wk_draw Tryd_mixed | refine drawEnd (by kernel_rfl) ?_)
          | (with_reducible (first | apply condA_if | apply stepDG_ifN | apply stepDG_if | apply stepG_ifN | apply stepG_if)) <;> intro hb <;> (have hif := hb) <;> (try simp only [bo] at hif) <;> (try simp -implicitDefEqProofs (disch := omega) only [go_sem, hb]) <;> clear hb
          | simp (maxSteps := 1000000) -implicitDefEqProofs (disch := omega) only [go_sem])
        all_goals first | (exfalso; omega) | skip
        · have hm : moreR (nums k) b = true := by simp [moreR, hif]
          with_reducible refine nxt_w (k + 1) ?_ ?_
          · (try dsimp only)
            rw [wrongTo_stay hW (.inl hm)]
            exact weak_do []
          try dsimp only
          omega
        · rename_i hif1
          have hn8 := nums_len k
          refine callc (CompareL (nums k) b _ _ (by omega) (by omega)) ?_
          try simp (maxSteps := 1000000) -implicitDefEqProofs (disch := omega) only [go_sem]
          repeat' (first
            | (with_reducible apply Req_intro); focus (first | omega | assumption | (simp; done))
            | with_reducible (first | apply Req_intro | refine nilT ?_ fun hn => ?_ | apply wk_draw Tryd_mixed | refine drawEnd (by kernel_rfl) ?_)
            | (with_reducible (first | apply condA_if | apply stepDG_ifN | apply stepDG_if | apply stepG_ifN | apply stepG_if)) <;> intro hb <;> (have hif := hb) <;> (try simp only [bo] at hif) <;> (try simp -implicitDefEqProofs (disch := omega) only [go_sem, hb]) <;> clear hb
            | simp (maxSteps := 1000000) -implicitDefEqProofs (disch := omega) only [go_sem])
          · have hm : moreR (nums k) b = true := by simp [moreR, hif]; omega
            with_reducible refine nxt_w (k + 1) ?_ ?_
            · (try dsimp only)
              rw [wrongTo_stay hW (.inl hm)]
              exact weak_do []
            try dsimp only
            omega
          · have hm : moreR (nums k) b = false := by simp [moreR]; omega
            refine callp hwr ?_
            try simp (maxSteps := 1000000) -implicitDefEqProofs (disch := omega) only [go_sem]
            repeat' (first
              | (with_reducible apply Req_intro); focus (first | omega | assumption | (simp; done))
              | with_reducible (first | apply Req_intro | refine nilT ?_ fun hn => ?_ | apply wk_draw Tryd_mixed | refine drawEnd (by kernel_rfl) ?_)
              | (with_reducible (first | apply condA_if | apply stepDG_ifN | apply stepDG_if | apply stepG_ifN | apply stepG_if)) <;> intro hb <;> (have hif := hb) <;> (try simp only [bo] at hif) <;> (try simp -implicitDefEqProofs (disch := omega) only [go_sem, hb]) <;> clear hb
              | simp (maxSteps := 1000000) -implicitDefEqProofs (disch := omega) only [go_sem])
            refine callp hpos ?_
            try simp (maxSteps := 1000000) -implicitDefEqProofs (disch := omega) only [go_sem]
            repeat' (first
              | (with_reducible apply Req_intro); focus (first | omega | assumption | (simp; done))
              | with_reducible (first | apply Req_intro | refine nilT ?_ fun hn => ?_ | apply wk_draw Tryd_mixed | refine drawEnd (by kernel_rfl) ?_)
              | (with_reducible (first | apply condA_if | apply stepDG_ifN | apply stepDG_if | apply stepG_ifN | apply stepG_if)) <;> intro hb <;> (have hif := hb) <;> (try simp only [bo] at hif) <;> (try simp -implicitDefEqProofs (disch := omega) only [go_sem, hb]) <;> clear hb
              | simp (maxSteps := 1000000) -implicitDefEqProofs (disch := omega) only [go_sem])
            · have hP : isPos bs cs k = true := by rw [isPos, hif]; rfl
              with_reducible refine nxt_w (k + 1) ?_ ?_
              · (try dsimp only)
                rw [wrongTo_new hW hm hP]
                exact weak_do [(64, 128)]
              try dsimp only
              omega
            · have hP : isPos bs cs k = false := by rw [isPos, hif]; rfl
              with_reducible refine nxt_w (k + 1) ?_ ?_
              · (try dsimp only)
                rw [wrongTo_stay hW (.inr hP)]
                exact weak_do []
              try dsimp only
              omega
        · have hm : moreR (nums k) b = false := by simp [moreR, hif]; omega
          refine callp hwr ?_
          try simp (maxSteps := 1000000) -implicitDefEqProofs (disch := omega) only [go_sem]
          repeat' (first
            | (with_reducible apply Req_intro); focus (first | omega | assumption | (simp; done))
            | with_reducible (first | apply Req_intro | refine nilT ?_ fun hn => ?_ | apply wk_draw Tryd_mixed | refine drawEnd (by kernel_rfl) ?_)
            | (with_reducible (first | apply condA_if | apply stepDG_ifN | apply stepDG_if | apply stepG_ifN | apply stepG_if)) <;> intro hb <;> (have hif := hb) <;> (try simp only [bo] at hif) <;> (try simp -implicitDefEqProofs (disch := omega) only [go_sem, hb]) <;> clear hb
            | simp (maxSteps := 1000000) -implicitDefEqProofs (disch := omega) only [go_sem])
          refine callp hpos ?_
          try simp (maxSteps := 1000000) -implicitDefEqProofs (disch := omega) only [go_sem]
          repeat' (first
            | (with_reducible apply Req_intro); focus (first | omega | assumption | (simp; done))
            | with_reducible (first | apply Req_intro | refine nilT ?_ fun hn => ?_ | apply wk_draw Tryd_mixed | refine drawEnd (by kernel_rfl) ?_)
            | (with_reducible (first | apply condA_if | apply stepDG_ifN | apply stepDG_if | apply stepG_ifN | apply stepG_if)) <;> intro hb <;> (have hif := hb) <;> (try simp only [bo] at hif) <;> (try simp -implicitDefEqProofs (disch := omega) only [go_sem, hb]) <;> clear hb
            | simp (maxSteps := 1000000) -implicitDefEqProofs (disch := omega) only [go_sem])
          · have hP : isPos bs cs k = true := by rw [isPos, hif]; rfl
            with_reducible refine nxt_w (k + 1) ?_ ?_
            · (try dsimp only)
              rw [wrongTo_new hW hm hP]
              exact weak_do [(64, 128)]
            try dsimp only
            omega
          · have hP : isPos bs cs k = false := by rw [isPos, hif]; rfl
            with_reducible refine nxt_w (k + 1) ?_ ?_
            · (try dsimp only)
              rw [wrongTo_stay hW (.inr hP)]
              exact weak_do []
            try dsimp only
            omega
  · obtain rfl : x = M := by omega
    cases hW : wrongTo (isPos bs cs) x with
    | none =>
      simp only [bestV, bestR, bestO]
      repeat' (first
        | (with_reducible apply Req_intro); focus (first | omega | assumption | (simp; done))
        | with_reducible (first | apply Req_intro | refine nilT ?_ fun hn => ?_ | apply wk_draw Tryd_mixed | refine drawEnd (by kernel_rfl) ?_)
        | (with_reducible (first | apply condA_if | apply stepDG_ifN | apply stepDG_if | apply stepG_ifN | apply stepG_if)) <;> intro hb <;> (have hif := hb) <;> (try simp only [bo] at hif) <;> (try simp -implicitDefEqProofs (disch := omega) only [go_sem, hb]) <;> clear hb
        | simp (maxSteps := 1000000) -implicitDefEqProofs (disch := omega) only [go_sem])
      all_goals first | (exfalso; omega) | skip
      refine ret_do ?_
      rfl
    | some b =>
      obtain ⟨hbn, hb8⟩ := wrongTo_ne hp0 (by omega) hW
      have hbl : 0 < b.length := List.length_pos_iff.2 hbn
      simp only [bestV, bestR, bestO]
      repeat' (first
        | (with_reducible apply Req_intro); focus (first | omega | assumption | (simp; done))
        | with_reducible (first | apply Req_intro | refine nilT ?_ fun hn => ?_ | apply wk_draw Tryd_mixed | refine drawEnd (by kernel_rfl) ?_)
        | (with_reducible (first | apply condA_if | apply stepDG_ifN | apply stepDG_if | apply stepG_ifN | apply stepG_if)) <;> intro hb <;> (have hif := hb) <;> (try simp only [bo] at hif) <;> (try simp -implicitDefEqProofs (disch := omega) only [go_sem, hb]) <;> clear hb
        | simp (maxSteps := 1000000) -implicitDefEqProofs (disch := omega) only [go_sem])
      all_goals first | (exfalso; omega) | skip
      exact retf [64] [2, 3] [.sl 1 (b.map encI) false, int 0]
end Go.Aw
end
section
set_option linter.unusedVariables false
set_option linter.unusedSimpArgs false
set_option maxRecDepth 20000
set_option maxHeartbeats 4000000
/-! The reference: In, Ints, Spans, Held, At, Same, Copy. -/
namespace Go.Aw
open Go.RowKit Go.Proofs

theorem In_spec (n l m : Int) : Ct Tryd.prog 25 [.lit (.int .i64 n), .lit (.int .i64 l), .lit (.int .i64 m)] (.lit (.bool (inR' l m n))) := by
  refine fn_enter Tryd.func25 rfl (by decide) Tryd.results25 Tryd.ntmps25 ?_ rfl (by simp (maxSteps := 1000000) -implicitDefEqProofs (disch := omega) only [go_sem]; rfl) fun base => ?_
  · simp
  repeat' (first
    | (with_reducible apply Req_intro); focus (first | omega | assumption | (simp; done))
    | with_reducible (first | apply Req_intro | refine nilT ?_ fun hn => ?_ | apply wk_draw Tryd_mixed | refine drawEnd (by kernel_rfl) ?_)
    | (with_reducible (first | apply condA_if | apply stepDG_ifN | apply stepDG_if | apply stepG_ifN | apply stepG_if)) <;> intro hb <;> (have hif := hb) <;> (try simp only [bo] at hif) <;> (try simp -implicitDefEqProofs (disch := omega) only [go_sem, hb]) <;> clear hb
    | simp (maxSteps := 1000000) -implicitDefEqProofs (disch := omega) only [go_sem])
  · refine ret_do ?_
    simp [inR', hif, retV]
  · refine ret_do ?_
    have : inR' l m n = false := by simp [inR']; omega
    rw [this]; rfl

theorem Ints_spec (a b : List Int) (ea eb : Bool) (ha : a.length ≤ 4611686018427387904) (hb : b.length ≤ 4611686018427387904) : Ct Tryd.prog 23 [.sl 1 (a.map encI) ea, .sl 1 (b.map encI) eb] (.lit (.bool (a == b))) := by
  refine fn_enter Tryd.func23 rfl (by decide) Tryd.results23 Tryd.ntmps23 ?_ rfl (by simp (maxSteps := 1000000) -implicitDefEqProofs (disch := omega) only [go_sem]; rfl) fun base => ?_
  · simp
  repeat' (first
    | (with_reducible apply Req_intro); focus (first | omega | assumption | (simp; done))
    | with_reducible (first | apply Req_intro | refine nilT ?_ fun hn => ?_ | apply wk_draw Tryd_mixed | refine drawEnd (by kernel_rfl) ?_)
    | (with_reducible (first | apply condA_if | apply stepDG_ifN | apply stepDG_if | apply stepG_ifN | apply stepG_if)) <;> intro hb <;> (have hif := hb) <;> (try simp only [bo] at hif) <;> (try simp -implicitDefEqProofs (disch := omega) only [go_sem, hb]) <;> clear hb
    | simp (maxSteps := 1000000) -implicitDefEqProofs (disch := omega) only [go_sem])
  · refine ret_do ?_
    have : (a == b) = false := by rw [beq_eq_false_iff_ne]; intro e; subst e; exact hif rfl
    rw [this]; rfl
  refine loop_at (α := Nat) [4, 5, 11, 12, 13, 14, 15, 16, 17, 18, 19, 20, 21, 22, 23, 24, 25] (fun i => [(5, .lit (.int .i64 i))]) (fun i => i ≤ a.length ∧ a.take i = b.take i) (fun i => a.length - i) 0 (fun x => by simp (maxSteps := 1000000) -implicitDefEqProofs (disch := omega) only [go_sem]; rfl) ?_ ?_ fun x hx => ?_
  · exact weak_do []
  · simp
  obtain ⟨hi, he⟩ := hx
  repeat' (first
    | (with_reducible apply Req_intro); focus (first | omega | assumption | (simp; done))
    | with_reducible (first | apply Req_intro | refine nilT ?_ fun hn => ?_ | apply wk_draw Tryd_mixed | refine drawEnd (by kernel_rfl) ?_)
    | (with_reducible (first | apply condA_if | apply stepDG_ifN | apply stepDG_if | apply stepG_ifN | apply stepG_if)) <;> intro hb <;> (have hif := hb) <;> (try simp only [bo] at hif) <;> (try simp -implicitDefEqProofs (disch := omega) only [go_sem, hb]) <;> clear hb
    | simp (maxSteps := 1000000) -implicitDefEqProofs (disch := omega) only [go_sem])
  · refine ret_do ?_
    have : (a == b) = false := by rw [beq_eq_false_iff_ne]; intro e; subst e; exact hif rfl
    rw [this]; rfl
  · refine nxt_w (x + 1) (weak_do []) ?_
    try dsimp only
    refine ⟨by omega, ?_⟩
    rw [take_succ_getD (by omega), take_succ_getD (by omega), he, hif]
  · refine ret_do ?_
    have : a = b := by
      rw [List.take_of_length_le (by omega), List.take_of_length_le (by omega)] at he; exact he
    subst this; simp; rfl

theorem Spans_spec (l : List (Int × Int)) (e : Bool) (m : Int) (hl : l.length ≤ 4611686018427387904) : Ct Tryd.prog 56 [.sl 2 (l.map encS) e, .lit (.int .i64 m)] (.lit (.bool (l.all (spanOk m)))) := by
  refine fn_enter Tryd.func56 rfl (by decide) Tryd.results56 Tryd.ntmps56 ?_ rfl (by simp (maxSteps := 1000000) -implicitDefEqProofs (disch := omega) only [go_sem]; rfl) fun base => ?_
  · simp
  repeat' (first
    | (with_reducible apply Req_intro); focus (first | omega | assumption | (simp; done))
    | with_reducible (first | apply Req_intro | refine nilT ?_ fun hn => ?_ | apply wk_draw Tryd_mixed | refine drawEnd (by kernel_rfl) ?_)
    | (with_reducible (first | apply condA_if | apply stepDG_ifN | apply stepDG_if | apply stepG_ifN | apply stepG_if)) <;> intro hb <;> (have hif := hb) <;> (try simp only [bo] at hif) <;> (try simp -implicitDefEqProofs (disch := omega) only [go_sem, hb]) <;> clear hb
    | simp (maxSteps := 1000000) -implicitDefEqProofs (disch := omega) only [go_sem])
  refine loop_at (α := Nat) [4, 5, 6, 7, 8, 9, 10, 11, 12, 13, 14, 15, 16, 17, 18, 19, 20, 21, 22, 23, 24, 25, 26, 27, 28, 29, 30, 31, 32] (fun i => [(5, .lit (.int .i64 i))]) (fun i => i ≤ l.length ∧ (l.take i).all (spanOk m) = true) (fun i => l.length - i) 0 (fun x => by simp (maxSteps := 1000000) -implicitDefEqProofs (disch := omega) only [go_sem]; rfl) ?_ ?_ fun x hx => ?_
  · exact weak_do []
  · simp
  obtain ⟨hi, he⟩ := hx
  by_cases hlt : x < l.length
  · have hbad : spanOk m (l.getD x default) = false → l.all (spanOk m) = false := fun h => by
      rw [List.all_eq_false]; exact ⟨_, getD_mem hlt, by rw [h]; decide⟩
    repeat' (first
      | (with_reducible apply Req_intro); focus (first | omega | assumption | (simp; done))
      | with_reducible (first | apply Req_intro | refine nilT ?_ fun hn => ?_ | apply wk_draw Tryd_mixed | refine drawEnd (by kernel_rfl) ?_)
      | (with_reducible (first | apply condA_if | apply stepDG_ifN | apply stepDG_if | apply stepG_ifN | apply stepG_if)) <;> intro hb <;> (have hif := hb) <;> (try simp only [bo] at hif) <;> (try simp -implicitDefEqProofs (disch := omega) only [go_sem, hb]) <;> clear hb
      | simp (maxSteps := 1000000) -implicitDefEqProofs (disch := omega) only [go_sem])
    all_goals first | (exfalso; omega) | skip
    refine calld (In_spec _ _ _) ?_
    try simp (maxSteps := 1000000) -implicitDefEqProofs (disch := omega) only [go_sem]
    repeat' (first
      | (with_reducible apply Req_intro); focus (first | omega | assumption | (simp; done))
      | with_reducible (first | apply Req_intro | refine nilT ?_ fun hn => ?_ | apply wk_draw Tryd_mixed | refine drawEnd (by kernel_rfl) ?_)
      | (with_reducible (first | apply condA_if | apply stepDG_ifN | apply stepDG_if | apply stepG_ifN | apply stepG_if)) <;> intro hb <;> (have hif := hb) <;> (try simp only [bo] at hif) <;> (try simp -implicitDefEqProofs (disch := omega) only [go_sem, hb]) <;> clear hb
      | simp (maxSteps := 1000000) -implicitDefEqProofs (disch := omega) only [go_sem])
    · refine ret_do ?_
      rw [hbad (by simp only [inR', Bool.and_eq_false_iff, decide_eq_false_iff_not] at hif; simp only [spanOk, inR', Bool.and_eq_false_iff, decide_eq_false_iff_not]; omega)]; rfl
    · refine ret_do ?_
      rw [hbad (by simp only [spanOk, inR', Bool.and_eq_false_iff, decide_eq_false_iff_not]; omega)]; rfl
    · refine nxt_w (x + 1) (weak_do []) ?_
      try dsimp only
      refine ⟨by omega, ?_⟩
      rename_i hif1
      simp only [inR', Bool.and_eq_true, decide_eq_true_eq] at hif1
      rw [take_succ_getD hlt, List.all_append, he]
      simp only [Bool.true_and, List.all_cons, List.all_nil, Bool.and_true, spanOk, inR', Bool.and_eq_true, decide_eq_true_eq]
      omega
  · repeat' (first
      | (with_reducible apply Req_intro); focus (first | omega | assumption | (simp; done))
      | with_reducible (first | apply Req_intro | refine nilT ?_ fun hn => ?_ | apply wk_draw Tryd_mixed | refine drawEnd (by kernel_rfl) ?_)
      | (with_reducible (first | apply condA_if | apply stepDG_ifN | apply stepDG_if | apply stepG_ifN | apply stepG_if)) <;> intro hb <;> (have hif := hb) <;> (try simp only [bo] at hif) <;> (try simp -implicitDefEqProofs (disch := omega) only [go_sem, hb]) <;> clear hb
      | simp (maxSteps := 1000000) -implicitDefEqProofs (disch := omega) only [go_sem])
    all_goals first | (exfalso; omega) | skip
    refine ret_do ?_
    rw [List.take_of_length_le (by omega)] at he
    rw [he]; rfl

theorem Held_spec (l : List (Int × Int)) (e : Bool) (hl : l.length ≤ 1073741824) : Ct Tryd.prog 44 [.sl 2 (l.map encS) e] (.sl 2 (l.map encS) false) := by
  refine fn_enter Tryd.func44 rfl (by decide) Tryd.results44 Tryd.ntmps44 ?_ rfl (by simp (maxSteps := 1000000) -implicitDefEqProofs (disch := omega) only [go_sem]; rfl) fun base => ?_
  · first | assumption | (simp only [go_sem] <;> assumption) | (simp only [go_sem, *]; done) | (simp [go_sem]; done)
  repeat' (first
    | (with_reducible apply Req_intro); focus (first | omega | assumption | (simp; done))
    | with_reducible (first | apply Req_intro | refine nilT ?_ fun hn => ?_ | apply wk_draw Tryd_mixed | refine drawEnd (by kernel_rfl) ?_)
    | (with_reducible (first | apply condA_if | apply stepDG_ifN | apply stepDG_if | apply stepG_ifN | apply stepG_if)) <;> intro hb <;> (have hif := hb) <;> (try simp only [bo] at hif) <;> (try simp -implicitDefEqProofs (disch := omega) only [go_sem, hb]) <;> clear hb
    | simp (maxSteps := 1000000) -implicitDefEqProofs (disch := omega) only [go_sem])
  exact retf [192] [2] [.sl 2 (l.map encS) false]

@[go_sem] theorem eqGuard60 : Tryd.prog.eqGuardType Tryd.prog.depth 60 = false := by kernel_rfl
@[go_sem] theorem eqCells60 (x y z w : Int) : eqCells Tryd.prog 10000 60 [.lit (.int .i64 x), .lit (.int .i64 y)] [.lit (.int .i64 z), .lit (.int .i64 w)] = some ((x == z) && (y == w)) := by
  have h : eqCells Tryd.prog 10000 60 [.lit (.int .i64 x), .lit (.int .i64 y)] [.lit (.int .i64 z), .lit (.int .i64 w)] = some ((x == z) && ((y == w) && true)) := by kernel_rfl
  rw [h, Bool.and_true]
theorem At_spec (a b : List (Int × Int)) (ea eb : Bool) (ha : a.length ≤ 1000000) (hb : b.length ≤ 1000000) : Ct Tryd.prog 43 [.sl 2 (a.map encS) ea, .sl 2 (b.map encS) eb] (.lit (.bool (a == b))) := by
  refine fn_enter Tryd.func43 rfl (by decide) Tryd.results43 Tryd.ntmps43 ?_ rfl (by simp (maxSteps := 1000000) -implicitDefEqProofs (disch := omega) only [go_sem]; rfl) fun base => ?_
  · simp
  repeat' (first
    | (with_reducible apply Req_intro); focus (first | omega | assumption | (simp; done))
    | with_reducible (first | apply Req_intro | refine nilT ?_ fun hn => ?_ | apply wk_draw Tryd_mixed | refine drawEnd (by kernel_rfl) ?_)
    | (with_reducible (first | apply condA_if | apply stepDG_ifN | apply stepDG_if | apply stepG_ifN | apply stepG_if)) <;> intro hb <;> (have hif := hb) <;> (try simp only [bo] at hif) <;> (try simp -implicitDefEqProofs (disch := omega) only [go_sem, hb]) <;> clear hb
    | simp (maxSteps := 1000000) -implicitDefEqProofs (disch := omega) only [go_sem])
  · refine ret_do ?_
    have : (a == b) = false := by rw [beq_eq_false_iff_ne]; intro e; subst e; exact hif rfl
    rw [this]; rfl
  refine loop_at (α := Nat) [4, 5, 11, 12, 13, 14, 15, 16, 17, 18, 19, 20, 21, 22, 23, 24, 25] (fun i => [(5, .lit (.int .i64 i))]) (fun i => i ≤ a.length ∧ a.take i = b.take i) (fun i => a.length - i) 0 (fun x => by simp (maxSteps := 1000000) -implicitDefEqProofs (disch := omega) only [go_sem]; rfl) ?_ ?_ fun x hx => ?_
  · exact weak_do []
  · simp
  obtain ⟨hi, he⟩ := hx
  repeat' (first
    | (with_reducible apply Req_intro); focus (first | omega | assumption | (simp; done))
    | with_reducible (first | apply Req_intro | refine nilT ?_ fun hn => ?_ | apply wk_draw Tryd_mixed | refine drawEnd (by kernel_rfl) ?_)
    | (with_reducible (first | apply condA_if | apply stepDG_ifN | apply stepDG_if | apply stepG_ifN | apply stepG_if)) <;> intro hb <;> (have hif := hb) <;> (try simp only [bo] at hif) <;> (try simp -implicitDefEqProofs (disch := omega) only [go_sem, hb]) <;> clear hb
    | simp (maxSteps := 1000000) -implicitDefEqProofs (disch := omega) only [go_sem])
  · refine ret_do ?_
    have : (a == b) = false := by
      rw [beq_eq_false_iff_ne]; intro e; subst e
      exact hif rfl rfl
    rw [this]; rfl
  · refine nxt_w (x + 1) (weak_do []) ?_
    try dsimp only
    refine ⟨by omega, ?_⟩
    rw [take_succ_getD (by omega), take_succ_getD (by omega), he, Prod.ext hif.1 hif.2]
  · refine ret_do ?_
    have : a = b := by
      rw [List.take_of_length_le (by omega), List.take_of_length_le (by omega)] at he; exact he
    subst this; simp; rfl

/-- Boxes and bills that are not too long. -/
structure SizeOk (bs : List Box) (cs : List Bill) : Prop where
  nb : bs.length ≤ 1000
  nc : cs.length ≤ 1000
  lb : ∀ b ∈ bs, b.length ≤ 1000
  lc : ∀ c ∈ cs, c.2.length ≤ 1000

end Go.Aw
end
section
set_option linter.unusedVariables false
set_option linter.unusedSimpArgs false
set_option maxRecDepth 20000
set_option maxHeartbeats 4000000
/-! The reference: Copy, Same. -/
namespace Go.Aw
open Go.RowKit Go.Proofs

theorem Copy_spec (bs : List Box) (cs : List Bill) (hz : SizeOk bs cs) : Ct Tryd.prog 16 [encLoad bs cs] (encLoad bs cs) := by
  obtain ⟨hnb, hnc, hlb, hlc⟩ := hz
  refine ct_enterZ Tryd.func16 rfl (by decide) Tryd.results16 Tryd.ntmps16 ?_ rfl (by simp (maxSteps := 1000000) -implicitDefEqProofs (disch := omega) only [go_sem]; rfl) fun base => ?_
  · first | assumption | (simp only [go_sem] <;> assumption) | (simp only [go_sem, *]; done) | (simp [go_sem]; done)
  repeat' (first
    | (with_reducible apply Req_intro); focus (first | omega | assumption | (simp; done))
    | with_reducible (first | apply Req_intro | refine nilT ?_ fun hn => ?_ | apply wk_draw Tryd_mixed | refine drawEnd (by kernel_rfl) ?_)
    | (with_reducible (first | apply condA_if | apply stepDG_ifN | apply stepDG_if | apply stepG_ifN | apply stepG_if)) <;> intro hb <;> (have hif := hb) <;> (try simp only [bo] at hif) <;> (try simp -implicitDefEqProofs (disch := omega) only [go_sem, hb]) <;> clear hb
    | simp (maxSteps := 1000000) -implicitDefEqProofs (disch := omega) only [go_sem])
  refine loop_rows (α := Nat) [4, 7, 8, 9, 10, 11, 12, 13, 14, 15, 16, 17, 18, 19, 20, 21, 22, 23, 24, 25, 26] (fun i => [(4, .lit (.int .i64 i))]) (fun i => [(0, some ⟨2, [loadC bs cs], 25, .wr⟩), (64, some ⟨2, [[nilV, nilV]], 25, .wr⟩), (192, some ⟨2, [[.os 65 1 i false, nilV]], 25, .wr⟩), (65, some ⟨1, (bs.take i).map encB, 67, .wr⟩)]) (fun i => i ≤ bs.length) (fun i => bs.length - i) 0 (fun x => by simp (maxSteps := 1000000) -implicitDefEqProofs (disch := omega) only [go_sem]; rfl) ?_ ?_ fun x hx => ?_
  · simp only [List.take_zero, List.map_nil]
    exact weak_do [(65, 1000000)]
  · exact Nat.zero_le _
  have htl : (bs.take x).length = x := by rw [List.length_take]; omega
  by_cases hlt : x < bs.length
  · have hl := hlb _ (getD_mem hlt)
    repeat' (first
      | (with_reducible apply Req_intro); focus (first | omega | assumption | (simp; done))
      | with_reducible (first | apply Req_intro | refine nilT ?_ fun hn => ?_ | apply wk_draw Tryd_mixed | refine drawEnd (by kernel_rfl) ?_)
      | (with_reducible (first | apply condA_if | apply stepDG_ifN | apply stepDG_if | apply stepG_ifN | apply stepG_if)) <;> intro hb <;> (have hif := hb) <;> (try simp only [bo] at hif) <;> (try simp -implicitDefEqProofs (disch := omega) only [go_sem, hb]) <;> clear hb
      | simp (maxSteps := 1000000) -implicitDefEqProofs (disch := omega) only [go_sem])
    all_goals first | (exfalso; omega) | skip
    refine calld (Held_spec (bs.getD x default) _ (by omega)) ?_
    try simp (maxSteps := 1000000) -implicitDefEqProofs (disch := omega) only [go_sem]
    repeat' (first
      | (with_reducible apply Req_intro); focus (first | omega | assumption | (simp; done))
      | with_reducible (first | apply Req_intro | refine nilT ?_ fun hn => ?_ | apply wk_draw Tryd_mixed | refine drawEnd (by kernel_rfl) ?_)
      | (with_reducible (first | apply condA_if | apply stepDG_ifN | apply stepDG_if | apply stepG_ifN | apply stepG_if)) <;> intro hb <;> (have hif := hb) <;> (try simp only [bo] at hif) <;> (try simp -implicitDefEqProofs (disch := omega) only [go_sem, hb]) <;> clear hb
      | simp (maxSteps := 1000000) -implicitDefEqProofs (disch := omega) only [go_sem])
    with_reducible refine nxt_w (x + 1) ?_ ?_
    · (try dsimp only)
      rw [take_succ_getD hlt, List.map_append]
      exact weak_do [(65, 1408)]
    try dsimp only
    omega
  · obtain rfl : x = bs.length := by omega
    rw [List.take_length]
    clear hlt htl
    repeat' (first
      | (with_reducible apply Req_intro); focus (first | omega | assumption | (simp; done))
      | with_reducible (first | apply Req_intro | refine nilT ?_ fun hn => ?_ | apply wk_draw Tryd_mixed | refine drawEnd (by kernel_rfl) ?_)
      | (with_reducible (first | apply condA_if | apply stepDG_ifN | apply stepDG_if | apply stepG_ifN | apply stepG_if)) <;> intro hb <;> (have hif := hb) <;> (try simp only [bo] at hif) <;> (try simp -implicitDefEqProofs (disch := omega) only [go_sem, hb]) <;> clear hb
      | simp (maxSteps := 1000000) -implicitDefEqProofs (disch := omega) only [go_sem])
    all_goals first | (exfalso; omega) | skip
    refine loop_rows (α := Nat) [5, 27, 28, 29, 30, 31, 32, 33, 34, 35, 36, 37, 38, 39, 40, 41, 42, 43, 44, 45, 46, 47, 48, 49, 50, 51, 52] (fun i => [(5, .lit (.int .i64 i))]) (fun i => [(0, some ⟨2, [loadC bs cs], 25, .wr⟩), (64, some ⟨2, [[nilV, nilV]], 25, .wr⟩), (192, some ⟨2, [[.os 65 1 bs.length false, .os 66 2 i false]], 25, .wr⟩), (65, some ⟨1, bs.map encB, 67, .wr⟩), (66, some ⟨2, (cs.take i).map encBill, 64, .wr⟩)]) (fun i => i ≤ cs.length) (fun i => cs.length - i) 0 (fun x => by simp (maxSteps := 1000000) -implicitDefEqProofs (disch := omega) only [go_sem]; rfl) ?_ ?_ fun x hx => ?_
    · simp only [List.take_zero, List.map_nil]
      exact weak_do [(66, 1000000)]
    · exact Nat.zero_le _
    have htl : (cs.take x).length = x := by rw [List.length_take]; omega
    by_cases hlt : x < cs.length
    · have hl := hlc _ (getD_mem hlt)
      repeat' (first
        | (with_reducible apply Req_intro); focus (first | omega | assumption | (simp; done))
        | with_reducible (first | apply Req_intro | refine nilT ?_ fun hn => ?_ | apply wk_draw Tryd_mixed | refine drawEnd (by kernel_rfl) ?_)
        | (with_reducible (first | apply condA_if | apply stepDG_ifN | apply stepDG_if | apply stepG_ifN | apply stepG_if)) <;> intro hb <;> (have hif := hb) <;> (try simp only [bo] at hif) <;> (try simp -implicitDefEqProofs (disch := omega) only [go_sem, hb]) <;> clear hb
        | simp (maxSteps := 1000000) -implicitDefEqProofs (disch := omega) only [go_sem])
      all_goals first | (exfalso; omega) | skip
      refine calld (Held_spec (cs.getD x default).2 _ (by omega)) ?_
      try simp (maxSteps := 1000000) -implicitDefEqProofs (disch := omega) only [go_sem]
      repeat' (first
        | (with_reducible apply Req_intro); focus (first | omega | assumption | (simp; done))
        | with_reducible (first | apply Req_intro | refine nilT ?_ fun hn => ?_ | apply wk_draw Tryd_mixed | refine drawEnd (by kernel_rfl) ?_)
        | (with_reducible (first | apply condA_if | apply stepDG_ifN | apply stepDG_if | apply stepG_ifN | apply stepG_if)) <;> intro hb <;> (have hif := hb) <;> (try simp only [bo] at hif) <;> (try simp -implicitDefEqProofs (disch := omega) only [go_sem, hb]) <;> clear hb
        | simp (maxSteps := 1000000) -implicitDefEqProofs (disch := omega) only [go_sem])
      with_reducible refine nxt_w (x + 1) ?_ ?_
      · (try dsimp only)
        rw [take_succ_getD hlt, List.map_append]
        exact weak_do [(66, 2176)]
      try dsimp only
      omega
    · obtain rfl : x = cs.length := by omega
      rw [List.take_length]
      repeat' (first
        | (with_reducible apply Req_intro); focus (first | omega | assumption | (simp; done))
        | with_reducible (first | apply Req_intro | refine nilT ?_ fun hn => ?_ | apply wk_draw Tryd_mixed | refine drawEnd (by kernel_rfl) ?_)
        | (with_reducible (first | apply condA_if | apply stepDG_ifN | apply stepDG_if | apply stepG_ifN | apply stepG_if)) <;> intro hb <;> (have hif := hb) <;> (try simp only [bo] at hif) <;> (try simp -implicitDefEqProofs (disch := omega) only [go_sem, hb]) <;> clear hb
        | simp (maxSteps := 1000000) -implicitDefEqProofs (disch := omega) only [go_sem])
      all_goals first | (exfalso; omega) | skip
      exact retz [65, 66]
end Go.Aw
end
section
set_option linter.unusedVariables false
set_option linter.unusedSimpArgs false
set_option maxRecDepth 20000
set_option maxHeartbeats 4000000
/-! The reference: Same, Sum. -/
namespace Go.Aw
open Go.RowKit Go.Proofs

theorem Same_spec (bs bs' : List Box) (cs cs' : List Bill) (hz : SizeOk bs cs) (hz' : SizeOk bs' cs') : Ct Tryd.prog 20 [encLoad bs cs, encLoad bs' cs'] (.lit (.bool (bs == bs' && cs == cs'))) := by
  obtain ⟨hnb, hnc, hlb, hlc⟩ := hz
  obtain ⟨hnb', hnc', hlb', hlc'⟩ := hz'
  have ne1 : bs ≠ bs' → (bs == bs' && cs == cs') = false := fun h => by rw [beq_eq_false_iff_ne.2 h]; rfl
  have ne2 : cs ≠ cs' → (bs == bs' && cs == cs') = false := fun h => by rw [beq_eq_false_iff_ne.2 h]; simp
  refine fn_enter Tryd.func20 rfl (by decide) Tryd.results20 Tryd.ntmps20 ?_ rfl (by simp (maxSteps := 1000000) -implicitDefEqProofs (disch := omega) only [go_sem]; rfl) fun base => ?_
  · first | assumption | (simp only [go_sem] <;> assumption) | (simp only [go_sem, *]; done) | (simp [go_sem]; done)
  repeat' (first
    | (with_reducible apply Req_intro); focus (first | omega | assumption | (simp; done))
    | with_reducible (first | apply Req_intro | refine nilT ?_ fun hn => ?_ | apply wk_draw Tryd_mixed | refine drawEnd (by kernel_rfl) ?_)
    | (with_reducible (first | apply condA_if | apply stepDG_ifN | apply stepDG_if | apply stepG_ifN | apply stepG_if)) <;> intro hb <;> (have hif := hb) <;> (try simp only [bo] at hif) <;> (try simp -implicitDefEqProofs (disch := omega) only [go_sem, hb]) <;> clear hb
    | simp (maxSteps := 1000000) -implicitDefEqProofs (disch := omega) only [go_sem])
  · refine ret_do ?_
    rw [ne1 (fun e => hif (by rw [e]))]; rfl
  · refine ret_do ?_
    rw [ne2 (fun e => hif (by rw [e]))]; rfl
  rename_i hl2
  refine loop_at (α := Nat) [4, 5, 23, 24, 25, 26, 27, 28, 29, 30, 31, 32, 33, 34, 35, 36, 37, 38, 39, 40, 41, 42, 43] (fun i => [(5, .lit (.int .i64 i))]) (fun i => i ≤ bs.length ∧ bs.take i = bs'.take i) (fun i => bs.length - i) 0 (fun x => by simp (maxSteps := 1000000) -implicitDefEqProofs (disch := omega) only [go_sem]; rfl) ?_ ?_ fun x hx => ?_
  · exact weak_do []
  · simp
  obtain ⟨hi, he⟩ := hx
  by_cases hlt : x < bs.length
  · have hq1 := hlb _ (getD_mem hlt)
    have hq2 := hlb' _ (getD_mem (l := bs') (i := x) (by omega))
    repeat' (first
      | (with_reducible apply Req_intro); focus (first | omega | assumption | (simp; done))
      | with_reducible (first | apply Req_intro | refine nilT ?_ fun hn => ?_ | apply wk_draw Tryd_mixed | refine drawEnd (by kernel_rfl) ?_)
      | (with_reducible (first | apply condA_if | apply stepDG_ifN | apply stepDG_if | apply stepG_ifN | apply stepG_if)) <;> intro hb <;> (have hif := hb) <;> (try simp only [bo] at hif) <;> (try simp -implicitDefEqProofs (disch := omega) only [go_sem, hb]) <;> clear hb
      | simp (maxSteps := 1000000) -implicitDefEqProofs (disch := omega) only [go_sem])
    all_goals first | (exfalso; omega) | skip
    refine calld (At_spec (bs.getD x default) (bs'.getD x default) _ _ (by omega) (by omega)) ?_
    try simp (maxSteps := 1000000) -implicitDefEqProofs (disch := omega) only [go_sem]
    repeat' (first
      | (with_reducible apply Req_intro); focus (first | omega | assumption | (simp; done))
      | with_reducible (first | apply Req_intro | refine nilT ?_ fun hn => ?_ | apply wk_draw Tryd_mixed | refine drawEnd (by kernel_rfl) ?_)
      | (with_reducible (first | apply condA_if | apply stepDG_ifN | apply stepDG_if | apply stepG_ifN | apply stepG_if)) <;> intro hb <;> (have hif := hb) <;> (try simp only [bo] at hif) <;> (try simp -implicitDefEqProofs (disch := omega) only [go_sem, hb]) <;> clear hb
      | simp (maxSteps := 1000000) -implicitDefEqProofs (disch := omega) only [go_sem])
    · refine ret_do ?_
      rw [ne1 (fun e => by subst e; exact absurd hif (by simp))]; rfl
    · refine nxt_w (x + 1) (weak_do []) ?_
      try dsimp only
      refine ⟨by omega, ?_⟩
      rw [take_succ_getD (by omega), take_succ_getD (by omega), he, hif]
  · obtain rfl : x = bs.length := by omega
    have hbb : bs = bs' := by
      rw [List.take_of_length_le (by omega), List.take_of_length_le (by omega)] at he; exact he
    subst hbb
    repeat' (first
      | (with_reducible apply Req_intro); focus (first | omega | assumption | (simp; done))
      | with_reducible (first | apply Req_intro | refine nilT ?_ fun hn => ?_ | apply wk_draw Tryd_mixed | refine drawEnd (by kernel_rfl) ?_)
      | (with_reducible (first | apply condA_if | apply stepDG_ifN | apply stepDG_if | apply stepG_ifN | apply stepG_if)) <;> intro hb <;> (have hif := hb) <;> (try simp only [bo] at hif) <;> (try simp -implicitDefEqProofs (disch := omega) only [go_sem, hb]) <;> clear hb
      | simp (maxSteps := 1000000) -implicitDefEqProofs (disch := omega) only [go_sem])
    all_goals first | (exfalso; omega) | skip
    clear he hlt
    refine loop_at (α := Nat) [4, 6, 44, 45, 46, 47, 48, 49, 50, 51, 52, 53, 54, 55, 56, 57, 58, 59, 60, 61, 62, 63, 64, 65, 66, 67, 68, 69, 70, 71, 72, 73, 74, 75, 76, 77, 78, 79] (fun i => [(6, .lit (.int .i64 i))]) (fun i => i ≤ cs.length ∧ cs.take i = cs'.take i) (fun i => cs.length - i) 0 (fun x => by simp (maxSteps := 1000000) -implicitDefEqProofs (disch := omega) only [go_sem]; rfl) ?_ ?_ fun x hx => ?_
    · exact weak_do []
    · simp
    obtain ⟨hi, he⟩ := hx
    by_cases hlt : x < cs.length
    · have hq1 := hlc _ (getD_mem hlt)
      have hq2 := hlc' _ (getD_mem (l := cs') (i := x) (by omega))
      have hat := At_spec (cs.getD x default).2 (cs'.getD x default).2 false false (by omega) (by omega)
      repeat' (first
        | (with_reducible apply Req_intro); focus (first | omega | assumption | (simp; done))
        | with_reducible (first | apply Req_intro | refine nilT ?_ fun hn => ?_ | apply wk_draw Tryd_mixed | refine drawEnd (by kernel_rfl) ?_)
        | (with_reducible (first | apply condA_if | apply stepDG_ifN | apply stepDG_if | apply stepG_ifN | apply stepG_if)) <;> intro hb <;> (have hif := hb) <;> (try simp only [bo] at hif) <;> (try simp -implicitDefEqProofs (disch := omega) only [go_sem, hb]) <;> clear hb
        | simp (maxSteps := 1000000) -implicitDefEqProofs (disch := omega) only [go_sem])
      all_goals first | (exfalso; omega) | skip
      · refine ret_do ?_
        rw [beq_eq_false_iff_ne.2 (fun e => hif (by rw [e]))]; rfl
      · have hif1 := hif
        refine calld hat ?_
        try simp (maxSteps := 1000000) -implicitDefEqProofs (disch := omega) only [go_sem]
        repeat' (first
          | (with_reducible apply Req_intro); focus (first | omega | assumption | (simp; done))
          | with_reducible (first | apply Req_intro | refine nilT ?_ fun hn => ?_ | apply wk_draw Tryd_mixed | refine drawEnd (by kernel_rfl) ?_)
          | (with_reducible (first | apply condA_if | apply stepDG_ifN | apply stepDG_if | apply stepG_ifN | apply stepG_if)) <;> intro hb <;> (have hif := hb) <;> (try simp only [bo] at hif) <;> (try simp -implicitDefEqProofs (disch := omega) only [go_sem, hb]) <;> clear hb
          | simp (maxSteps := 1000000) -implicitDefEqProofs (disch := omega) only [go_sem])
        · refine ret_do ?_
          rw [beq_eq_false_iff_ne.2 (fun e => by subst e; exact absurd hif (by simp))]; rfl
        · refine nxt_w (x + 1) (weak_do []) ?_
          try dsimp only
          refine ⟨by omega, ?_⟩
          rw [take_succ_getD (by omega), take_succ_getD (by omega), he, Prod.ext hif1 hif]
    · obtain rfl : x = cs.length := by omega
      have hbb : cs = cs' := by
        rw [List.take_of_length_le (by omega), List.take_of_length_le (by omega)] at he; exact he
      subst hbb
      repeat' (first
        | (with_reducible apply Req_intro); focus (first | omega | assumption | (simp; done))
        | with_reducible (first | apply Req_intro | refine nilT ?_ fun hn => ?_ | apply wk_draw Tryd_mixed | refine drawEnd (by kernel_rfl) ?_)
        | (with_reducible (first | apply condA_if | apply stepDG_ifN | apply stepDG_if | apply stepG_ifN | apply stepG_if)) <;> intro hb <;> (have hif := hb) <;> (try simp only [bo] at hif) <;> (try simp -implicitDefEqProofs (disch := omega) only [go_sem, hb]) <;> clear hb
        | simp (maxSteps := 1000000) -implicitDefEqProofs (disch := omega) only [go_sem])
      all_goals first | (exfalso; omega) | skip
      refine ret_do ?_
      simp [retV]

/-- How much of a stuff the boxes of a carrier have, with boxes that are wrong. -/
def sumR (bs : List Box) (w : List Int) (c : Int) (k set : Nat) : Nat → Int × Int
  | 0 => (0, 0)
  | i + 1 => if w.getD i default = c then addS (sumR bs w c k set i) (if set.testBit i then (0, 1048576) else (bs.getD i default).getD k default) else sumR bs w c k set i

theorem sumR_small {bs : List Box} (w : List Int) (c : Int) (k set : Nat) (hk : ∀ b ∈ bs, k < b.length) (hsm : ∀ b ∈ bs, ∀ x ∈ b, SmallS 1048576 x) : ∀ i, i ≤ bs.length → SmallS (1048576 * i) (sumR bs w c k set i)
  | 0, _ => by show SmallS _ (0, 0); unfold SmallS; simp
  | i + 1, h => by
    have h1 := sumR_small w c k set hk hsm i (by omega)
    have hb : (bs.getD i default) ∈ bs := getD_mem (by omega)
    have h2 := hsm _ hb ((bs.getD i default).getD k default) (getD_mem (hk _ hb))
    rw [sumR]
    split
    · split
      · unfold SmallS addS at *; simp only; omega
      · unfold SmallS addS at *; simp only; omega
    · unfold SmallS at *; omega
theorem bit_all : ∀ s : Nat, s < 256 → ∀ i : Nat, i < 8 → ibits .and .i64 ((s : Int).fdiv (2 ^ min i 64)) 1 = if s.testBit i then 1 else 0 := by decide +kernel

theorem Sum_spec (bs : List Box) (cs : List Bill) (w : List Int) (e : Bool) (c : Int) (k set : Nat) (hw : w.length ≤ bs.length) (hb : bs.length ≤ 8) (hset : set < 256) (hk : ∀ b ∈ bs, k < b.length) (hsm : ∀ b ∈ bs, ∀ x ∈ b, SmallS 1048576 x) (hk3 : k < 3) : Ct Tryd.prog 36 [encLoad bs cs, .sl 1 (w.map encI) e, int c, int k, int set] (.agg (encS (sumR bs w c k set w.length))) := by
  refine ct_enterZ Tryd.func36 rfl (by decide) Tryd.results36 Tryd.ntmps36 ?_ rfl (by simp (maxSteps := 1000000) -implicitDefEqProofs (disch := omega) only [go_sem]; rfl) fun base => ?_
  · first | assumption | (simp only [go_sem] <;> assumption) | (simp only [go_sem, *]; done) | (simp [go_sem]; done)
  repeat' (first
    | (with_reducible apply Req_intro); focus (first | omega | assumption | (simp; done))
    | with_reducible (first | apply Req_intro | refine nilT ?_ fun hn => ?_ | apply wk_draw Tryd_mixed | refine drawEnd (by kernel_rfl) ?_)
    | (with_reducible (first | apply condA_if | apply stepDG_ifN | apply stepDG_if | apply stepG_ifN | apply stepG_if)) <;> intro hb <;> (have hif := hb) <;> (try simp only [bo] at hif) <;> (try simp -implicitDefEqProofs (disch := omega) only [go_sem, hb]) <;> clear hb
    | simp (maxSteps := 1000000) -implicitDefEqProofs (disch := omega) only [go_sem])
  refine loop_rows (α := Nat) [12, 13, 15, 16, 17, 18, 19, 20, 21, 22, 23, 24, 25, 26, 27, 28, 29, 30, 31, 32, 33, 34, 35, 36, 37, 38, 39, 40, 41, 42, 43, 44, 45, 46, 47, 48, 49, 50, 51, 52, 53] (fun i => [(12, .lit (.int .i64 i))]) (fun i => [(0, some ⟨2, [loadC bs cs], 25, .wr⟩), (64, some ⟨2, [[int 0, int 0]], 60, .wr⟩), (192, some ⟨2, [encS (sumR bs w c k set i)], 60, .wr⟩)]) (fun i => i ≤ w.length) (fun i => w.length - i) 0 (fun x => by simp (maxSteps := 1000000) -implicitDefEqProofs (disch := omega) only [go_sem]; rfl) ?_ ?_ fun x hx => ?_
  · exact weak_do []
  · exact Nat.zero_le _
  have hs := sumR_small w c k set hk hsm x (by omega)
  by_cases hlt : x < w.length
  · have hmem : (bs.getD x default) ∈ bs := getD_mem (by omega)
    have hkx := hk _ hmem
    have hsx := hsm _ hmem ((bs.getD x default).getD k default) (getD_mem hkx)
    have hbit := bit_all set hset x (by omega)
    unfold SmallS at hs hsx
    repeat' (first
      | (with_reducible apply Req_intro); focus (first | omega | assumption | (simp; done))
      | with_reducible (first | apply Req_intro | refine nilT ?_ fun hn => ?_ | apply wk_draw Tryd_mixed | refine drawEnd (by kernel_rfl) ?_)
      | (with_reducible (first | apply condA_if | apply stepDG_ifN | apply stepDG_if | apply stepG_ifN | apply stepG_if)) <;> intro hb <;> (have hif := hb) <;> (try simp only [bo] at hif) <;> (try simp -implicitDefEqProofs (disch := omega) only [go_sem, hb]) <;> clear hb
      | simp (maxSteps := 1000000) -implicitDefEqProofs (disch := omega) only [go_sem])
    all_goals first | (exfalso; omega) | skip
    · with_reducible refine nxt_w (x + 1) ?_ ?_
      · (try dsimp only)
        simp only [sumR, if_neg hif]
        exact weak_do []
      try dsimp only
      omega
    · rename_i hif1
      rw [hbit] at hif
      have hbt : set.testBit x = true := by
        cases h : set.testBit x
        · rw [h] at hif; cases hif
        · rfl
      with_reducible refine nxt_w (x + 1) ?_ ?_
      · (try dsimp only)
        simp only [sumR, if_pos hif1, hbt, if_true, addS]
        exact weak_do []
      try dsimp only
      omega
    · rename_i hif1
      rw [hbit] at hif
      have hbt : set.testBit x = false := by
        cases h : set.testBit x
        · rfl
        · rw [h] at hif; exact absurd rfl hif
      with_reducible refine nxt_w (x + 1) ?_ ?_
      · (try dsimp only)
        simp only [sumR, if_pos hif1, hbt, Bool.false_eq_true, if_false, addS]
        exact weak_do []
      try dsimp only
      omega
  · obtain rfl : x = w.length := by omega
    repeat' (first
      | (with_reducible apply Req_intro); focus (first | omega | assumption | (simp; done))
      | with_reducible (first | apply Req_intro | refine nilT ?_ fun hn => ?_ | apply wk_draw Tryd_mixed | refine drawEnd (by kernel_rfl) ?_)
      | (with_reducible (first | apply condA_if | apply stepDG_ifN | apply stepDG_if | apply stepG_ifN | apply stepG_if)) <;> intro hb <;> (have hif := hb) <;> (try simp only [bo] at hif) <;> (try simp -implicitDefEqProofs (disch := omega) only [go_sem, hb]) <;> clear hb
      | simp (maxSteps := 1000000) -implicitDefEqProofs (disch := omega) only [go_sem])
    all_goals first | (exfalso; omega) | skip
    exact retz []

theorem Left_spec (ws : List (List Int)) (e : Bool) (n b : Nat) (c : Int) (hw : ∀ w ∈ ws, w.length = n) (hb : b < n) (hn : n ≤ 1000) (hl : ws.length ≤ 1000000) : Ct Tryd.prog 63 [.sl 1 (ws.map encW) e, int b, int c] (.sl 1 ((grp ws b c).map encW) false) := by
  refine fn_enter Tryd.func63 rfl (by decide) Tryd.results63 Tryd.ntmps63 ?_ rfl (by simp (maxSteps := 1000000) -implicitDefEqProofs (disch := omega) only [go_sem]; rfl) fun base => ?_
  · first | assumption | (simp only [go_sem] <;> assumption) | (simp only [go_sem, *]; done) | (simp [go_sem]; done)
  repeat' (first
    | (with_reducible apply Req_intro); focus (first | omega | assumption | (simp; done))
    | with_reducible (first | apply Req_intro | refine nilT ?_ fun hn => ?_ | apply wk_draw Tryd_mixed | refine drawEnd (by kernel_rfl) ?_)
    | (with_reducible (first | apply condA_if | apply stepDG_ifN | apply stepDG_if | apply stepG_ifN | apply stepG_if)) <;> intro hb <;> (have hif := hb) <;> (try simp only [bo] at hif) <;> (try simp -implicitDefEqProofs (disch := omega) only [go_sem, hb]) <;> clear hb
    | simp (maxSteps := 1000000) -implicitDefEqProofs (disch := omega) only [go_sem])
  refine loop_rows (α := Nat) [7, 8, 10, 11, 12, 13, 14, 15, 16, 17, 18, 19, 20, 21, 22, 23, 24, 25, 26, 27, 28, 29, 30, 31] (fun i => [(8, .lit (.int .i64 i)), (7, .os 64 1 (grp (ws.take i) b c).length false), (9, .undef)]) (fun i => [(64, some ⟨1, (grp (ws.take i) b c).map encW, 31, .wr⟩)]) (fun i => i ≤ ws.length) (fun i => ws.length - i) 0 (fun x => by simp (maxSteps := 1000000) -implicitDefEqProofs (disch := omega) only [go_sem]; rfl) ?_ ?_ fun x hx => ?_
  · simp only [List.take_zero, grp, List.filter_nil, List.map_nil, List.length_nil]
    exact weak_do []
  · exact Nat.zero_le _
  have h0 : (grp (ws.take x) b c).length ≤ x := Nat.le_trans (List.length_filter_le _ _) (by rw [List.length_take]; omega)
  by_cases hlt : x < ws.length
  · have hlen := hw _ (getD_mem hlt)
    repeat' (first
      | (with_reducible apply Req_intro); focus (first | omega | assumption | (simp; done))
      | with_reducible (first | apply Req_intro | refine nilT ?_ fun hn => ?_ | apply wk_draw Tryd_mixed | refine drawEnd (by kernel_rfl) ?_)
      | (with_reducible (first | apply condA_if | apply stepDG_ifN | apply stepDG_if | apply stepG_ifN | apply stepG_if)) <;> intro hb <;> (have hif := hb) <;> (try simp only [bo] at hif) <;> (try simp -implicitDefEqProofs (disch := omega) only [go_sem, hb]) <;> clear hb
      | simp (maxSteps := 1000000) -implicitDefEqProofs (disch := omega) only [go_sem])
    all_goals first | (exfalso; omega) | skip
    · with_reducible refine nxt_w (x + 1) ?_ ?_
      · (try dsimp only)
        rw [grp_snoc_eq hlt hif, List.map_append, List.length_append]
        exact weak_do [(64, 1472)]
      try dsimp only
      omega
    · with_reducible refine nxt_w (x + 1) ?_ ?_
      · (try dsimp only)
        rw [grp_snoc_ne hlt rfl hif]
        exact weak_do []
      try dsimp only
      omega
  · obtain rfl : x = ws.length := by omega
    repeat' (first
      | (with_reducible apply Req_intro); focus (first | omega | assumption | (simp; done))
      | with_reducible (first | apply Req_intro | refine nilT ?_ fun hn => ?_ | apply wk_draw Tryd_mixed | refine drawEnd (by kernel_rfl) ?_)
      | (with_reducible (first | apply condA_if | apply stepDG_ifN | apply stepDG_if | apply stepG_ifN | apply stepG_if)) <;> intro hb <;> (have hif := hb) <;> (try simp only [bo] at hif) <;> (try simp -implicitDefEqProofs (disch := omega) only [go_sem, hb]) <;> clear hb
      | simp (maxSteps := 1000000) -implicitDefEqProofs (disch := omega) only [go_sem])
    all_goals first | (exfalso; omega) | skip
    rw [List.take_length]
    exact retf [64] [6] [.sl 1 ((grp ws b c).map encW) false]
end Go.Aw
end
section
set_option linter.unusedVariables false
set_option linter.unusedSimpArgs false
set_option maxRecDepth 20000
set_option maxHeartbeats 4000000
/-! The reference: Check, Way, Ways. -/
namespace Go.Aw
open Go.RowKit Go.Proofs

/-- How many boxes a way's first ones give to a carrier. -/
def cntTo (w : List Int) (c : Int) : Nat → Int
  | 0 => 0
  | i + 1 => if w.getD i default = c then cntTo w c i + 1 else cntTo w c i
theorem cntTo_bnd (w : List Int) (c : Int) : ∀ i : Nat, 0 ≤ cntTo w c i ∧ cntTo w c i ≤ i
  | 0 => by simp [cntTo]
  | i + 1 => by
    have := cntTo_bnd w c i
    rw [cntTo]; split <;> omega

def stuffOk (bs : List Box) (cs : List Bill) (w : List Int) (set c k : Nat) : Bool :=
  decide (max (sumR bs w c k set w.length).1 ((cs.getD c default).2.getD k default).1 ≤ min (sumR bs w c k set w.length).2 ((cs.getD c default).2.getD k default).2)
def carrOk (bs : List Box) (cs : List Bill) (w : List Int) (set c : Nat) : Bool :=
  (cntTo w c w.length == (cs.getD c default).1) && (List.range (cs.getD c default).2.length).all fun k => stuffOk bs cs w set c k
/-- Whether a list is a way. -/
def wayR (bs : List Box) (cs : List Bill) (w : List Int) (set : Nat) : Bool := (List.range cs.length).all fun c => carrOk bs cs w set c

theorem Way_spec (bs : List Box) (cs : List Bill) (w : List Int) (e : Bool) (set : Nat) (hg : Good bs cs) (hw : w.length ≤ bs.length) (hset : set < 256) : Ct Tryd.prog 81 [encLoad bs cs, .sl 1 (w.map encI) e, int set] (.lit (.bool (wayR bs cs w set))) := by
  have h8 := hg.nb
  have h3 := hg.nc
  have hst := hg.st
  refine fn_enter Tryd.func81 rfl (by decide) Tryd.results81 Tryd.ntmps81 ?_ rfl (by simp (maxSteps := 1000000) -implicitDefEqProofs (disch := omega) only [go_sem]; rfl) fun base => ?_
  · first | assumption | (simp only [go_sem] <;> assumption) | (simp only [go_sem, *]; done) | (simp [go_sem]; done)
  repeat' (first
    | (with_reducible apply Req_intro); focus (first | omega | assumption | (simp; done))
    | with_reducible (first | apply Req_intro | refine nilT ?_ fun hn => ?_ | apply wk_draw Tryd_mixed | refine drawEnd (by kernel_rfl) ?_)
    | (with_reducible (first | apply condA_if | apply stepDG_ifN | apply stepDG_if | apply stepG_ifN | apply stepG_if)) <;> intro hb <;> (have hif := hb) <;> (try simp only [bo] at hif) <;> (try simp -implicitDefEqProofs (disch := omega) only [go_sem, hb]) <;> clear hb
    | simp (maxSteps := 1000000) -implicitDefEqProofs (disch := omega) only [go_sem])
  refine loop_at (α := Nat) [6, 7, 8, 9, 10, 11, 12, 13, 14, 15, 16, 17, 18, 19, 20, 21, 22, 23, 24, 25, 26, 27, 28, 29, 30, 31, 32, 33, 34, 35, 36, 37, 38, 39, 40, 41, 42, 43, 44, 45, 46, 47, 48, 49, 50, 51, 52, 53, 54, 55, 56, 57, 58, 59, 60, 61, 62, 63, 64, 65, 66, 67, 68, 69, 70, 71, 72, 73, 74, 75, 76, 77, 78] (fun i => [(7, .lit (.int .i64 i))]) (fun i => i ≤ cs.length ∧ ∀ j, j < i → carrOk bs cs w set j = true) (fun i => cs.length - i) 0 (fun x => by simp (maxSteps := 1000000) -implicitDefEqProofs (disch := omega) only [go_sem]; rfl) ?_ ?_ fun x hx => ?_
  · exact weak_do []
  · exact ⟨Nat.zero_le _, fun j hj => absurd hj (Nat.not_lt_zero _)⟩
  obtain ⟨hx1, hx2⟩ := hx
  by_cases hlt : x < cs.length
  · have hbad : carrOk bs cs w set x = false → wayR bs cs w set = false := fun h => by
      unfold wayR; rw [List.all_eq_false]; exact ⟨x, List.mem_range.2 hlt, by rw [h]; decide⟩
    have hll := hg.lc _ (getD_mem hlt)
    repeat' (first
      | (with_reducible apply Req_intro); focus (first | omega | assumption | (simp; done))
      | with_reducible (first | apply Req_intro | refine nilT ?_ fun hn => ?_ | apply wk_draw Tryd_mixed | refine drawEnd (by kernel_rfl) ?_)
      | (with_reducible (first | apply condA_if | apply stepDG_ifN | apply stepDG_if | apply stepG_ifN | apply stepG_if)) <;> intro hb <;> (have hif := hb) <;> (try simp only [bo] at hif) <;> (try simp -implicitDefEqProofs (disch := omega) only [go_sem, hb]) <;> clear hb
      | simp (maxSteps := 1000000) -implicitDefEqProofs (disch := omega) only [go_sem])
    all_goals first | (exfalso; omega) | skip
    refine loop_at (α := Nat) [8, 9, 20, 21, 22, 23, 24, 25, 26, 27, 28, 29, 30, 31, 32, 33] (fun i => [(9, .lit (.int .i64 i)), (8, int (cntTo w x i))]) (fun i => i ≤ w.length) (fun i => w.length - i) 0 (fun x => by simp (maxSteps := 1000000) -implicitDefEqProofs (disch := omega) only [go_sem]; rfl) ?_ ?_ fun x hx => ?_
    · simp only [cntTo]
      exact weak_do []
    · exact Nat.zero_le _
    rename_i c
    have hcn := cntTo_bnd w c x
    by_cases hlw : x < w.length
    · repeat' (first
        | (with_reducible apply Req_intro); focus (first | omega | assumption | (simp; done))
        | with_reducible (first | apply Req_intro | refine nilT ?_ fun hn => ?_ | apply wk_draw Tryd_mixed | refine drawEnd (by kernel_rfl) ?_)
        | (with_reducible (first | apply condA_if | apply stepDG_ifN | apply stepDG_if | apply stepG_ifN | apply stepG_if)) <;> intro hb <;> (have hif := hb) <;> (try simp only [bo] at hif) <;> (try simp -implicitDefEqProofs (disch := omega) only [go_sem, hb]) <;> clear hb
        | simp (maxSteps := 1000000) -implicitDefEqProofs (disch := omega) only [go_sem])
      all_goals first | (exfalso; omega) | skip
      · with_reducible refine nxt_w (x + 1) ?_ ?_
        · (try dsimp only)
          simp only [cntTo, if_pos hif]
          exact weak_do []
        try dsimp only
        omega
      · with_reducible refine nxt_w (x + 1) ?_ ?_
        · (try dsimp only)
          simp only [cntTo, if_neg hif]
          exact weak_do []
        try dsimp only
        omega
    · obtain rfl : x = w.length := by omega
      repeat' (first
        | (with_reducible apply Req_intro); focus (first | omega | assumption | (simp; done))
        | with_reducible (first | apply Req_intro | refine nilT ?_ fun hn => ?_ | apply wk_draw Tryd_mixed | refine drawEnd (by kernel_rfl) ?_)
        | (with_reducible (first | apply condA_if | apply stepDG_ifN | apply stepDG_if | apply stepG_ifN | apply stepG_if)) <;> intro hb <;> (have hif := hb) <;> (try simp only [bo] at hif) <;> (try simp -implicitDefEqProofs (disch := omega) only [go_sem, hb]) <;> clear hb
        | simp (maxSteps := 1000000) -implicitDefEqProofs (disch := omega) only [go_sem])
      all_goals first | (exfalso; omega) | skip
      · refine ret_do ?_
        rw [hbad (by unfold carrOk; rw [beq_eq_false_iff_ne.2 hif]; rfl)]; rfl
      have hcnt := hif
      refine loop_at (α := Nat) [6, 10, 11, 12, 42, 43, 44, 45, 46, 47, 48, 49, 50, 51, 52, 53, 54, 55, 56, 57, 58, 59, 60, 61, 62, 63, 64, 65, 66, 67, 68, 69, 70, 71, 72, 73, 74, 75, 76, 77, 78] (fun i => [(10, .lit (.int .i64 i))]) (fun i => i ≤ (cs.getD c default).2.length ∧ ∀ j, j < i → stuffOk bs cs w set c j = true) (fun i => (cs.getD c default).2.length - i) 0 (fun x => by simp (maxSteps := 1000000) -implicitDefEqProofs (disch := omega) only [go_sem]; rfl) ?_ ?_ fun x hx => ?_
      · exact weak_do []
      · exact ⟨Nat.zero_le _, fun j hj => absurd hj (Nat.not_lt_zero _)⟩
      obtain ⟨hx3, hx4⟩ := hx
      by_cases hlk : x < (cs.getD c default).2.length
      · have hsum := Sum_spec bs cs w e c x set hw h8 hset (fun b hb => by have := hg.lb b hb; omega) (fun b hb y hy => (hg.valid.vb b hb y hy).mono (by decide)) (by omega)
        repeat' (first
          | (with_reducible apply Req_intro); focus (first | omega | assumption | (simp; done))
          | with_reducible (first | apply Req_intro | refine nilT ?_ fun hn => ?_ | apply wk_draw Tryd_mixed | refine drawEnd (by kernel_rfl) ?_)
          | (with_reducible (first | apply condA_if | apply stepDG_ifN | apply stepDG_if | apply stepG_ifN | apply stepG_if)) <;> intro hb <;> (have hif := hb) <;> (try simp only [bo] at hif) <;> (try simp -implicitDefEqProofs (disch := omega) only [go_sem, hb]) <;> clear hb
          | simp (maxSteps := 1000000) -implicitDefEqProofs (disch := omega) only [go_sem])
        all_goals first | (exfalso; omega) | skip
        refine calld hsum ?_
        try simp (maxSteps := 1000000) -implicitDefEqProofs (disch := omega) only [go_sem]
        repeat' (first
          | (with_reducible apply Req_intro); focus (first | omega | assumption | (simp; done))
          | with_reducible (first | apply Req_intro | refine nilT ?_ fun hn => ?_ | apply wk_draw Tryd_mixed | refine drawEnd (by kernel_rfl) ?_)
          | (with_reducible (first | apply condA_if | apply stepDG_ifN | apply stepDG_if | apply stepG_ifN | apply stepG_if)) <;> intro hb <;> (have hif := hb) <;> (try simp only [bo] at hif) <;> (try simp -implicitDefEqProofs (disch := omega) only [go_sem, hb]) <;> clear hb
          | simp (maxSteps := 1000000) -implicitDefEqProofs (disch := omega) only [go_sem])
        all_goals first | (exfalso; omega) | skip
        · refine ret_do ?_
          rw [hbad (by
            unfold carrOk
            rw [Bool.and_eq_false_iff]; right; rw [List.all_eq_false]
            exact ⟨x, List.mem_range.2 hlk, by simp only [stuffOk, decide_eq_true_eq]; omega⟩)]; rfl
        · refine nxt_w (x + 1) (weak_do []) ?_
          try dsimp only
          refine ⟨by omega, fun j hj => ?_⟩
          rcases Nat.lt_or_ge j x with h | h
          · exact hx4 j h
          · obtain rfl : j = x := by omega
            simp only [stuffOk, decide_eq_true_eq]; omega
      · obtain hxe : x = (cs.getD c default).2.length := by omega
        repeat' (first
          | (with_reducible apply Req_intro); focus (first | omega | assumption | (simp; done))
          | with_reducible (first | apply Req_intro | refine nilT ?_ fun hn => ?_ | apply wk_draw Tryd_mixed | refine drawEnd (by kernel_rfl) ?_)
          | (with_reducible (first | apply condA_if | apply stepDG_ifN | apply stepDG_if | apply stepG_ifN | apply stepG_if)) <;> intro hb <;> (have hif := hb) <;> (try simp only [bo] at hif) <;> (try simp -implicitDefEqProofs (disch := omega) only [go_sem, hb]) <;> clear hb
          | simp (maxSteps := 1000000) -implicitDefEqProofs (disch := omega) only [go_sem])
        all_goals first | (exfalso; omega) | skip
        refine nxt_w (c + 1) (weak_do []) ?_
        try dsimp only
        refine ⟨by omega, fun j hj => ?_⟩
        rcases Nat.lt_or_ge j c with h | h
        · exact hx2 j h
        · obtain rfl : j = c := by omega
          unfold carrOk
          rw [beq_iff_eq.2 hcnt, Bool.true_and, List.all_eq_true]
          exact fun k hk => hx4 k (by have := List.mem_range.1 hk; omega)
  · obtain rfl : x = cs.length := by omega
    repeat' (first
      | (with_reducible apply Req_intro); focus (first | omega | assumption | (simp; done))
      | with_reducible (first | apply Req_intro | refine nilT ?_ fun hn => ?_ | apply wk_draw Tryd_mixed | refine drawEnd (by kernel_rfl) ?_)
      | (with_reducible (first | apply condA_if | apply stepDG_ifN | apply stepDG_if | apply stepG_ifN | apply stepG_if)) <;> intro hb <;> (have hif := hb) <;> (try simp only [bo] at hif) <;> (try simp -implicitDefEqProofs (disch := omega) only [go_sem, hb]) <;> clear hb
      | simp (maxSteps := 1000000) -implicitDefEqProofs (disch := omega) only [go_sem])
    all_goals first | (exfalso; omega) | skip
    refine ret_do ?_
    have : wayR bs cs w set = true := by
      unfold wayR; rw [List.all_eq_true]; exact fun c hc => hx2 c (List.mem_range.1 hc)
    rw [this]; rfl
end Go.Aw
end
section
set_option linter.unusedVariables false
set_option linter.unusedSimpArgs false
set_option maxRecDepth 20000
set_option maxHeartbeats 4000000
/-! The reference: Ways. -/
namespace Go.Aw
open Go.RowKit Go.Proofs

/-- All ways that begin with some carriers: so many boxes are left. -/
def refW (bs : List Box) (cs : List Bill) (set : Nat) : Nat → List Int → List (List Int)
  | 0, now => if wayR bs cs now set then [now] else []
  | r + 1, now => (List.range cs.length).flatMap fun (c : Nat) => refW bs cs set r (now ++ [(c : Int)])

theorem refW_len (bs : List Box) (cs : List Bill) (set : Nat) : ∀ (r : Nat) (now : List Int), (refW bs cs set r now).length ≤ cs.length ^ r
  | 0, now => by simp only [refW]; split <;> simp
  | r + 1, now => by
    simp only [refW]
    rw [Nat.pow_succ, Nat.mul_comm]
    exact flat_len _ _ _ fun k hk => refW_len bs cs set r _

theorem Ways0_spec (bs : List Box) (cs : List Bill) (now : List Int) (set : Nat) (hg : Good bs cs) (hw : now.length = bs.length) (hset : set < 256) : Ct Tryd.prog 57 [encLoad bs cs, .sl 1 (now.map encI) false, int set] (.sl 1 ((refW bs cs set 0 now).map encW) false) := by
  have h8 := hg.nb
  have hway := Way_spec bs cs now false set hg (by omega) hset
  refine fn_enter Tryd.func57 rfl (by decide) Tryd.results57 Tryd.ntmps57 ?_ rfl (by simp (maxSteps := 1000000) -implicitDefEqProofs (disch := omega) only [go_sem]; rfl) fun base => ?_
  · first | assumption | (simp only [go_sem] <;> assumption) | (simp only [go_sem, *]; done) | (simp [go_sem]; done)
  repeat' (first
    | (with_reducible apply Req_intro); focus (first | omega | assumption | (simp; done))
    | with_reducible (first | apply Req_intro | refine nilT ?_ fun hn => ?_ | apply wk_draw Tryd_mixed | refine drawEnd (by kernel_rfl) ?_)
    | (with_reducible (first | apply condA_if | apply stepDG_ifN | apply stepDG_if | apply stepG_ifN | apply stepG_if)) <;> intro hb <;> (have hif := hb) <;> (try simp only [bo] at hif) <;> (try simp -implicitDefEqProofs (disch := omega) only [go_sem, hb]) <;> clear hb
    | simp (maxSteps := 1000000) -implicitDefEqProofs (disch := omega) only [go_sem])
  all_goals first | (exfalso; omega) | skip
  · refine callp hway ?_
    try simp (maxSteps := 1000000) -implicitDefEqProofs (disch := omega) only [go_sem]
    repeat' (first
      | (with_reducible apply Req_intro); focus (first | omega | assumption | (simp; done))
      | with_reducible (first | apply Req_intro | refine nilT ?_ fun hn => ?_ | apply wk_draw Tryd_mixed | refine drawEnd (by kernel_rfl) ?_)
      | (with_reducible (first | apply condA_if | apply stepDG_ifN | apply stepDG_if | apply stepG_ifN | apply stepG_if)) <;> intro hb <;> (have hif := hb) <;> (try simp only [bo] at hif) <;> (try simp -implicitDefEqProofs (disch := omega) only [go_sem, hb]) <;> clear hb
      | simp (maxSteps := 1000000) -implicitDefEqProofs (disch := omega) only [go_sem])
    · have hl : refW bs cs set 0 now = [now] := by simp only [refW, hif]; rfl
      rw [hl]
      exact retf [832] [6] [.sl 1 ([now].map encW) false]
    · have hl : refW bs cs set 0 now = [] := by simp only [refW, hif]; rfl
      rw [hl]
      exact retf [] [6] [.sl 1 [] false]

theorem WaysS_spec (bs : List Box) (cs : List Bill) (now : List Int) (set r : Nat) (hg : Good bs cs) (hw : now.length + (r + 1) = bs.length) (hset : set < 256)
    (hrec : ∀ c : Nat, c < cs.length → Ct Tryd.prog 57 [encLoad bs cs, .sl 1 ((now ++ [(c : Int)]).map encI) false, int set] (.sl 1 ((refW bs cs set r (now ++ [(c : Int)])).map encW) false)) :
    Ct Tryd.prog 57 [encLoad bs cs, .sl 1 (now.map encI) false, int set] (.sl 1 ((refW bs cs set (r + 1) now).map encW) false) := by
  have h8 := hg.nb
  have h3 := hg.nc
  have hlen : ∀ x, x ≤ cs.length → ((List.range x).flatMap fun (c : Nat) => refW bs cs set r (now ++ [(c : Int)])).length ≤ 20000 := fun x hx => by
    refine Nat.le_trans (flat_len _ (3 ^ 8) x fun k hk => Nat.le_trans (refW_len bs cs set r _) ?_) ?_
    · exact Nat.le_trans (Nat.pow_le_pow_left h3 _) (Nat.pow_le_pow_right (by omega) (by omega))
    · calc x * 3 ^ 8 ≤ 3 * 3 ^ 8 := Nat.mul_le_mul_right _ (by omega)
        _ ≤ 20000 := by decide
  refine fn_enter Tryd.func57 rfl (by decide) Tryd.results57 Tryd.ntmps57 ?_ rfl (by simp (maxSteps := 1000000) -implicitDefEqProofs (disch := omega) only [go_sem]; rfl) fun base => ?_
  · first | assumption | (simp only [go_sem] <;> assumption) | (simp only [go_sem, *]; done) | (simp [go_sem]; done)
  repeat' (first
    | (with_reducible apply Req_intro); focus (first | omega | assumption | (simp; done))
    | with_reducible (first | apply Req_intro | refine nilT ?_ fun hn => ?_ | apply wk_draw Tryd_mixed | refine drawEnd (by kernel_rfl) ?_)
    | (with_reducible (first | apply condA_if | apply stepDG_ifN | apply stepDG_if | apply stepG_ifN | apply stepG_if)) <;> intro hb <;> (have hif := hb) <;> (try simp only [bo] at hif) <;> (try simp -implicitDefEqProofs (disch := omega) only [go_sem, hb]) <;> clear hb
    | simp (maxSteps := 1000000) -implicitDefEqProofs (disch := omega) only [go_sem])
  all_goals first | (exfalso; omega) | skip
  generalize hF : (fun c : Nat => refW bs cs set r (now ++ [(c : Int)])) = F at hlen
  have hFc : ∀ c : Nat, refW bs cs set r (now ++ [(c : Int)]) = F c := fun c => by rw [← hF]
  have hres : refW bs cs set (r + 1) now = (List.range cs.length).flatMap F := by rw [← hF]; rfl
  rw [hres]
  refine loop_rows (α := Nat) [7, 8, 22, 23, 24, 25, 26, 27, 28, 29, 30, 31, 32, 33, 34, 35, 36, 37, 38, 39] (fun x => [(8, .lit (.int .i64 x)), (7, .os 65 1 ((List.range x).flatMap F).length false), (21, .undef)]) (fun x => [(0, some ⟨2, [loadC bs cs], 25, .wr⟩), (65, some ⟨1, ((List.range x).flatMap F).map encW, 31, .wr⟩)]) (fun x => x ≤ cs.length) (fun x => cs.length - x) 0 (fun x => by simp (maxSteps := 1000000) -implicitDefEqProofs (disch := omega) only [go_sem]; rfl) ?_ ?_ fun x hx => ?_
  · simp only [List.range_zero, List.flatMap_nil, List.map_nil, List.length_nil]
    exact weak_do [(65, 512)]
  · exact Nat.zero_le _
  have hl1 := hlen x hx
  by_cases hlt : x < cs.length
  · have hl2 := hlen (x + 1) hlt
    have hr := hrec x hlt
    rw [hFc] at hr
    rw [List.range_succ, List.flatMap_append, List.flatMap_cons, List.flatMap_nil, List.append_nil, List.length_append] at hl2
    repeat' (first
      | (with_reducible apply Req_intro); focus (first | omega | assumption | (simp; done))
      | with_reducible (first | apply Req_intro | refine nilT ?_ fun hn => ?_ | apply wk_draw Tryd_mixed | refine drawEnd (by kernel_rfl) ?_)
      | (with_reducible (first | apply condA_if | apply stepDG_ifN | apply stepDG_if | apply stepG_ifN | apply stepG_if)) <;> intro hb <;> (have hif := hb) <;> (try simp only [bo] at hif) <;> (try simp -implicitDefEqProofs (disch := omega) only [go_sem, hb]) <;> clear hb
      | simp (maxSteps := 1000000) -implicitDefEqProofs (disch := omega) only [go_sem])
    all_goals first | (exfalso; omega) | skip
    refine calldf 1472 hr ?_
    try simp (maxSteps := 1000000) -implicitDefEqProofs (disch := omega) only [go_sem]
    repeat' (first
      | (with_reducible apply Req_intro); focus (first | omega | assumption | (simp; done))
      | with_reducible (first | apply Req_intro | refine nilT ?_ fun hn => ?_ | apply wk_draw Tryd_mixed | refine drawEnd (by kernel_rfl) ?_)
      | (with_reducible (first | apply condA_if | apply stepDG_ifN | apply stepDG_if | apply stepG_ifN | apply stepG_if)) <;> intro hb <;> (have hif := hb) <;> (try simp only [bo] at hif) <;> (try simp -implicitDefEqProofs (disch := omega) only [go_sem, hb]) <;> clear hb
      | simp (maxSteps := 1000000) -implicitDefEqProofs (disch := omega) only [go_sem])
    with_reducible refine nxt_w (x + 1) ?_ ?_
    · (try dsimp only)
      rw [List.range_succ, List.flatMap_append, List.flatMap_cons, List.flatMap_nil, List.append_nil, List.map_append, List.length_append]
      exact weak_do [(65, 1664)]
    try dsimp only
    omega
  · obtain rfl : x = cs.length := by omega
    repeat' (first
      | (with_reducible apply Req_intro); focus (first | omega | assumption | (simp; done))
      | with_reducible (first | apply Req_intro | refine nilT ?_ fun hn => ?_ | apply wk_draw Tryd_mixed | refine drawEnd (by kernel_rfl) ?_)
      | (with_reducible (first | apply condA_if | apply stepDG_ifN | apply stepDG_if | apply stepG_ifN | apply stepG_if)) <;> intro hb <;> (have hif := hb) <;> (try simp only [bo] at hif) <;> (try simp -implicitDefEqProofs (disch := omega) only [go_sem, hb]) <;> clear hb
      | simp (maxSteps := 1000000) -implicitDefEqProofs (disch := omega) only [go_sem])
    all_goals first | (exfalso; omega) | skip
    exact retf [65] [6] [.sl 1 (((List.range cs.length).flatMap F).map encW) false]
end Go.Aw
end
section
set_option linter.unusedVariables false
set_option linter.unusedSimpArgs false
set_option maxRecDepth 20000
set_option maxHeartbeats 4000000
/-! The reference: Worth, Less, Check. -/
namespace Go.Aw
open Go.RowKit Go.Proofs

theorem RWorth_spec (ws : List (List Int)) (e : Bool) (n b : Nat) (hw : ∀ w ∈ ws, w.length = n) (hb : b < n) (hn : n ≤ 1000) (hl : ws.length ≤ 1000000) : Ct Tryd.prog 28 [.sl 1 (ws.map encW) e, int b] (int (worthR ws b)) := by
  refine fn_enter Tryd.func28 rfl (by decide) Tryd.results28 Tryd.ntmps28 ?_ rfl (by simp (maxSteps := 1000000) -implicitDefEqProofs (disch := omega) only [go_sem]; rfl) fun base => ?_
  · first | assumption | (simp only [go_sem] <;> assumption) | (simp only [go_sem, *]; done) | (simp [go_sem]; done)
  repeat' (first
    | (with_reducible apply Req_intro); focus (first | omega | assumption | (simp; done))
    | with_reducible (first | apply Req_intro | refine nilT ?_ fun hn => ?_ | apply wk_draw Tryd_mixed | refine drawEnd (by kernel_rfl) ?_)
    | (with_reducible (first | apply condA_if | apply stepDG_ifN | apply stepDG_if | apply stepG_ifN | apply stepG_if)) <;> intro hb <;> (have hif := hb) <;> (try simp only [bo] at hif) <;> (try simp -implicitDefEqProofs (disch := omega) only [go_sem, hb]) <;> clear hb
    | simp (maxSteps := 1000000) -implicitDefEqProofs (disch := omega) only [go_sem])
  refine loop_at (α := Int) [5, 6, 7, 8, 9, 10, 11, 12, 13, 14, 15, 16, 17] (fun i => [(6, .lit (.int .i64 i)), (5, int (worthTo ws b i))]) (fun i => 0 ≤ i ∧ i ≤ 3) (fun i => (3 - i).toNat) 0 (fun x => by simp (maxSteps := 1000000) -implicitDefEqProofs (disch := omega) only [go_sem]; rfl) ?_ ?_ fun x hx => ?_
  · simp only [worthTo]
    exact weak_do []
  · decide
  have hlf := fun c => Left_spec ws e n b c hw hb hn hl
  have hk : x = 0 ∨ x = 1 ∨ x = 2 ∨ x = 3 := by omega
  rcases hk with rfl | rfl | rfl | rfl
  · simp only [worthTo]
    repeat' (first
      | (with_reducible apply Req_intro); focus (first | omega | assumption | (simp; done))
      | with_reducible (first | apply Req_intro | refine nilT ?_ fun hn => ?_ | apply wk_draw Tryd_mixed | refine drawEnd (by kernel_rfl) ?_)
      | (with_reducible (first | apply condA_if | apply stepDG_ifN | apply stepDG_if | apply stepG_ifN | apply stepG_if)) <;> intro hb <;> (have hif := hb) <;> (try simp only [bo] at hif) <;> (try simp -implicitDefEqProofs (disch := omega) only [go_sem, hb]) <;> clear hb
      | simp (maxSteps := 1000000) -implicitDefEqProofs (disch := omega) only [go_sem])
    refine callp (hlf 0) ?_
    try simp (maxSteps := 1000000) -implicitDefEqProofs (disch := omega) only [go_sem]
    repeat' (first
      | (with_reducible apply Req_intro); focus (first | omega | assumption | (simp; done))
      | with_reducible (first | apply Req_intro | refine nilT ?_ fun hn => ?_ | apply wk_draw Tryd_mixed | refine drawEnd (by kernel_rfl) ?_)
      | (with_reducible (first | apply condA_if | apply stepDG_ifN | apply stepDG_if | apply stepG_ifN | apply stepG_if)) <;> intro hb <;> (have hif := hb) <;> (try simp only [bo] at hif) <;> (try simp -implicitDefEqProofs (disch := omega) only [go_sem, hb]) <;> clear hb
      | simp (maxSteps := 1000000) -implicitDefEqProofs (disch := omega) only [go_sem])
    refine nxt_w 1 (weak_do []) ?_
    try dsimp only
    decide
  · simp only [worthTo]
    repeat' (first
      | (with_reducible apply Req_intro); focus (first | omega | assumption | (simp; done))
      | with_reducible (first | apply Req_intro | refine nilT ?_ fun hn => ?_ | apply wk_draw Tryd_mixed | refine drawEnd (by kernel_rfl) ?_)
      | (with_reducible (first | apply condA_if | apply stepDG_ifN | apply stepDG_if | apply stepG_ifN | apply stepG_if)) <;> intro hb <;> (have hif := hb) <;> (try simp only [bo] at hif) <;> (try simp -implicitDefEqProofs (disch := omega) only [go_sem, hb]) <;> clear hb
      | simp (maxSteps := 1000000) -implicitDefEqProofs (disch := omega) only [go_sem])
    refine callp (hlf 1) ?_
    try simp (maxSteps := 1000000) -implicitDefEqProofs (disch := omega) only [go_sem]
    repeat' (first
      | (with_reducible apply Req_intro); focus (first | omega | assumption | (simp; done))
      | with_reducible (first | apply Req_intro | refine nilT ?_ fun hn => ?_ | apply wk_draw Tryd_mixed | refine drawEnd (by kernel_rfl) ?_)
      | (with_reducible (first | apply condA_if | apply stepDG_ifN | apply stepDG_if | apply stepG_ifN | apply stepG_if)) <;> intro hb <;> (have hif := hb) <;> (try simp only [bo] at hif) <;> (try simp -implicitDefEqProofs (disch := omega) only [go_sem, hb]) <;> clear hb
      | simp (maxSteps := 1000000) -implicitDefEqProofs (disch := omega) only [go_sem])
    refine nxt_w 2 (weak_do []) ?_
    try dsimp only
    decide
  · simp only [worthTo]
    repeat' (first
      | (with_reducible apply Req_intro); focus (first | omega | assumption | (simp; done))
      | with_reducible (first | apply Req_intro | refine nilT ?_ fun hn => ?_ | apply wk_draw Tryd_mixed | refine drawEnd (by kernel_rfl) ?_)
      | (with_reducible (first | apply condA_if | apply stepDG_ifN | apply stepDG_if | apply stepG_ifN | apply stepG_if)) <;> intro hb <;> (have hif := hb) <;> (try simp only [bo] at hif) <;> (try simp -implicitDefEqProofs (disch := omega) only [go_sem, hb]) <;> clear hb
      | simp (maxSteps := 1000000) -implicitDefEqProofs (disch := omega) only [go_sem])
    refine callp (hlf 2) ?_
    try simp (maxSteps := 1000000) -implicitDefEqProofs (disch := omega) only [go_sem]
    repeat' (first
      | (with_reducible apply Req_intro); focus (first | omega | assumption | (simp; done))
      | with_reducible (first | apply Req_intro | refine nilT ?_ fun hn => ?_ | apply wk_draw Tryd_mixed | refine drawEnd (by kernel_rfl) ?_)
      | (with_reducible (first | apply condA_if | apply stepDG_ifN | apply stepDG_if | apply stepG_ifN | apply stepG_if)) <;> intro hb <;> (have hif := hb) <;> (try simp only [bo] at hif) <;> (try simp -implicitDefEqProofs (disch := omega) only [go_sem, hb]) <;> clear hb
      | simp (maxSteps := 1000000) -implicitDefEqProofs (disch := omega) only [go_sem])
    refine nxt_w 3 (weak_do []) ?_
    try dsimp only
    decide
  · simp only [worthTo]
    repeat' (first
      | (with_reducible apply Req_intro); focus (first | omega | assumption | (simp; done))
      | with_reducible (first | apply Req_intro | refine nilT ?_ fun hn => ?_ | apply wk_draw Tryd_mixed | refine drawEnd (by kernel_rfl) ?_)
      | (with_reducible (first | apply condA_if | apply stepDG_ifN | apply stepDG_if | apply stepG_ifN | apply stepG_if)) <;> intro hb <;> (have hif := hb) <;> (try simp only [bo] at hif) <;> (try simp -implicitDefEqProofs (disch := omega) only [go_sem, hb]) <;> clear hb
      | simp (maxSteps := 1000000) -implicitDefEqProofs (disch := omega) only [go_sem])
    refine ret_do ?_
    rfl

/-- A list comes before another one. -/
def lessR (a b : List Int) : Bool := if a.length = b.length then decide (cmpL a b < 0) else decide (a.length < b.length)
theorem Less_spec (a b : List Int) (e f : Bool) (ha : a.length ≤ 1000) (hb : b.length ≤ 1000) : Ct Tryd.prog 70 [.sl 1 (a.map encI) e, .sl 1 (b.map encI) f] (.lit (.bool (lessR a b))) := by
  refine fn_enter Tryd.func70 rfl (by decide) Tryd.results70 Tryd.ntmps70 ?_ rfl (by simp (maxSteps := 1000000) -implicitDefEqProofs (disch := omega) only [go_sem]; rfl) fun base => ?_
  · first | assumption | (simp only [go_sem] <;> assumption) | (simp only [go_sem, *]; done) | (simp [go_sem]; done)
  repeat' (first
    | (with_reducible apply Req_intro); focus (first | omega | assumption | (simp; done))
    | with_reducible (first | apply Req_intro | refine nilT ?_ fun hn => ?_ | apply wk_draw Tryd_mixed | refine drawEnd (by kernel_rfl) ?_)
    | (with_reducible (first | apply condA_if | apply stepDG_ifN | apply stepDG_if | apply stepG_ifN | apply stepG_if)) <;> intro hb <;> (have hif := hb) <;> (try simp only [bo] at hif) <;> (try simp -implicitDefEqProofs (disch := omega) only [go_sem, hb]) <;> clear hb
    | simp (maxSteps := 1000000) -implicitDefEqProofs (disch := omega) only [go_sem])
  · refine ret_do ?_
    rw [lessR, if_neg hif]; simp [retV]
  have hll := hif
  refine loop_at (α := Nat) [4, 5, 16, 17, 18, 19, 20, 21, 22, 23, 24, 25, 26, 27, 28, 29, 30, 31, 32, 33, 34, 35, 36, 37, 38, 39] (fun i => [(5, .lit (.int .i64 i))]) (fun i => i ≤ a.length ∧ cmpL a b = cmpL (a.drop i) (b.drop i)) (fun i => a.length - i) 0 (fun x => by simp (maxSteps := 1000000) -implicitDefEqProofs (disch := omega) only [go_sem]; rfl) ?_ ?_ fun x hx => ?_
  · exact weak_do []
  · simp
  obtain ⟨h1, h3⟩ := hx
  by_cases hlt : x < a.length
  · have hbx : x < b.length := by omega
    repeat' (first
      | (with_reducible apply Req_intro); focus (first | omega | assumption | (simp; done))
      | with_reducible (first | apply Req_intro | refine nilT ?_ fun hn => ?_ | apply wk_draw Tryd_mixed | refine drawEnd (by kernel_rfl) ?_)
      | (with_reducible (first | apply condA_if | apply stepDG_ifN | apply stepDG_if | apply stepG_ifN | apply stepG_if)) <;> intro hb <;> (have hif := hb) <;> (try simp only [bo] at hif) <;> (try simp -implicitDefEqProofs (disch := omega) only [go_sem, hb]) <;> clear hb
      | simp (maxSteps := 1000000) -implicitDefEqProofs (disch := omega) only [go_sem])
    all_goals first | (exfalso; omega) | skip
    · have hne := hif
      refine ret_do ?_
      rw [lessR, if_pos hll, h3, drop_cons hlt, drop_cons hbx, cmpL, cmpI]
      rcases Int.lt_or_gt_of_ne hne with h | h
      · simp only [retV, if_pos h, decide_eq_true h]; rfl
      · have h' : ¬ a.getD x default < b.getD x default := by omega
        simp only [retV, if_neg h', if_pos h, decide_eq_false h']; rfl
    · refine nxt_w (x + 1) (weak_do []) ?_
      try dsimp only
      refine ⟨by omega, ?_⟩
      rw [h3, drop_cons hlt, drop_cons hbx, cmpL, hif, if_neg (by simp [cmpI])]
  · obtain rfl : x = a.length := by omega
    repeat' (first
      | (with_reducible apply Req_intro); focus (first | omega | assumption | (simp; done))
      | with_reducible (first | apply Req_intro | refine nilT ?_ fun hn => ?_ | apply wk_draw Tryd_mixed | refine drawEnd (by kernel_rfl) ?_)
      | (with_reducible (first | apply condA_if | apply stepDG_ifN | apply stepDG_if | apply stepG_ifN | apply stepG_if)) <;> intro hb <;> (have hif := hb) <;> (try simp only [bo] at hif) <;> (try simp -implicitDefEqProofs (disch := omega) only [go_sem, hb]) <;> clear hb
      | simp (maxSteps := 1000000) -implicitDefEqProofs (disch := omega) only [go_sem])
    all_goals first | (exfalso; omega) | skip
    refine ret_do ?_
    rw [lessR, if_pos hll, h3, List.drop_length, show b.drop a.length = [] from List.drop_eq_nil_of_le (by omega)]; rfl

def okTo {α : Type} (p : α → Bool) (l : List α) (ok0 : Bool) (x : Nat) : Bool := ok0 && (l.take x).all p
theorem okTo_zero {α : Type} (p : α → Bool) (l : List α) (ok0 : Bool) : okTo p l ok0 0 = ok0 := by simp [okTo]
theorem okTo_succ {α : Type} [Inhabited α] {p : α → Bool} {l : List α} {ok0 : Bool} {x : Nat} (h : x < l.length) : okTo p l ok0 (x + 1) = (okTo p l ok0 x && p (l.getD x default)) := by
  simp only [okTo]; rw [take_succ_getD h, List.all_append]; simp [Bool.and_assoc]
theorem okTo_all {α : Type} (p : α → Bool) (l : List α) (ok0 : Bool) : okTo p l ok0 l.length = (ok0 && l.all p) := by simp [okTo]

def formOk (bs : List Box) (cs : List Bill) : Bool := (inR' 1 3 (stuffs cs) && cs.all fun c : Bill => (c.2.length : Int) == (stuffs cs : Int)) && bs.all fun b : Box => (b.length : Int) == (stuffs cs : Int)
def argOk (bs : List Box) (cs : List Bill) : Bool := (true && cs.all fun c : Bill => c.2.all (spanOk 10000) && inR' 0 8 c.1) && bs.all fun b : Box => b.all (spanOk 1000)
theorem checkR_eq (bs : List Box) (cs : List Bill) (h1 : bs.length ≤ 8) (h2 : cs.length ≤ 3) (h3 : ¬ cs.length = 0) : checkR bs cs = if formOk bs cs then (if argOk bs cs then 0 else 2) else 4 := by
  have e1 : (bs.any fun h => (h.length : Int) != (stuffs cs : Int)) = !(bs.all fun b : Box => (b.length : Int) == (stuffs cs : Int)) := by rw [List.all_eq_not_any_not, Bool.not_not]; rfl
  have e2 : (cs.any fun b => (b.2.length : Int) != (stuffs cs : Int)) = !(cs.all fun c : Bill => (c.2.length : Int) == (stuffs cs : Int)) := by rw [List.all_eq_not_any_not, Bool.not_not]; rfl
  have e3 : (bs.any fun h => !h.all (spanOk 1000)) = !(bs.all fun b : Box => b.all (spanOk 1000)) := by rw [List.all_eq_not_any_not, Bool.not_not]
  have e4 : (cs.any fun b => !b.2.all (spanOk 10000) || !inR' 0 8 b.1) = !(cs.all fun c : Bill => c.2.all (spanOk 10000) && inR' 0 8 c.1) := by
    rw [List.all_eq_not_any_not, Bool.not_not]; congr 1; funext c; rw [Bool.not_and]
  have e5 : (¬ (1 ≤ stuffs cs ∧ stuffs cs ≤ 3)) ↔ inR' 1 3 (stuffs cs) = false := by
    simp only [inR', Bool.and_eq_false_iff, decide_eq_false_iff_not]; omega
  unfold checkR formOk argOk
  rw [if_neg (by omega), if_neg h3]
  simp only [e1, e2, e3, e4, e5]
  generalize inR' 1 3 (stuffs cs) = a
  generalize (bs.all fun b : Box => (b.length : Int) == (stuffs cs : Int)) = b
  generalize (cs.all fun c : Bill => (c.2.length : Int) == (stuffs cs : Int)) = c
  generalize (bs.all fun b : Box => b.all (spanOk 1000)) = d
  generalize (cs.all fun c : Bill => c.2.all (spanOk 10000) && inR' 0 8 c.1) = e
  cases a <;> cases b <;> cases c <;> cases d <;> cases e <;> rfl

theorem RCheck_spec (bs : List Box) (cs : List Bill) (hz : SizeOk bs cs) : Ct Tryd.prog 21 [encLoad bs cs] (int (checkR bs cs)) := by
  obtain ⟨hnb, hnc, hlb, hlc⟩ := hz
  refine fn_enter Tryd.func21 rfl (by decide) Tryd.results21 Tryd.ntmps21 ?_ rfl (by simp (maxSteps := 1000000) -implicitDefEqProofs (disch := omega) only [go_sem]; rfl) fun base => ?_
  · first | assumption | (simp only [go_sem] <;> assumption) | (simp only [go_sem, *]; done) | (simp [go_sem]; done)
  repeat' (first
    | (with_reducible apply Req_intro); focus (first | omega | assumption | (simp; done))
    | with_reducible (first | apply Req_intro | refine nilT ?_ fun hn => ?_ | apply wk_draw Tryd_mixed | refine drawEnd (by kernel_rfl) ?_)
    | (with_reducible (first | apply condA_if | apply stepDG_ifN | apply stepDG_if | apply stepG_ifN | apply stepG_if)) <;> intro hb <;> (have hif := hb) <;> (try simp only [bo] at hif) <;> (try simp -implicitDefEqProofs (disch := omega) only [go_sem, hb]) <;> clear hb
    | simp (maxSteps := 1000000) -implicitDefEqProofs (disch := omega) only [go_sem])
  · refine ret_do ?_
    rw [checkR, if_pos (by omega)]; rfl
  · refine ret_do ?_
    rw [checkR, if_pos (by omega)]; rfl
  · refine ret_do ?_
    rw [checkR, if_neg (by omega), if_pos (by omega)]; rfl
  rename_i g1 g2
  rw [show (cs.getD 0 default).2.length = stuffs cs from rfl]
  refine call_pu (by first | (simp only [go_sem]; done) | (simp only [go_sem]; rfl)) ?_ (In_spec _ _ _) ?_ ?_
  (focus (first | assumption | (simp only [go_sem] <;> assumption) | (simp only [go_sem, *]; done) | (simp [go_sem]; done)))
  (focus (first | assumption | (simp only [go_sem] <;> assumption) | (simp only [go_sem, *]; done) | (simp [go_sem]; done)))
  try simp (maxSteps := 1000000) -implicitDefEqProofs (disch := omega) only [go_sem]
  repeat' (first
    | (with_reducible apply Req_intro); focus (first | omega | assumption | (simp; done))
    | with_reducible (first | apply Req_intro | refine nilT ?_ fun hn => ?_ | apply wk_draw Tryd_mixed | refine drawEnd (by kernel_rfl) ?_)
    | (with_reducible (first | apply condA_if | apply stepDG_ifN | apply stepDG_if | apply stepG_ifN | apply stepG_if)) <;> intro hb <;> (have hif := hb) <;> (try simp only [bo] at hif) <;> (try simp -implicitDefEqProofs (disch := omega) only [go_sem, hb]) <;> clear hb
    | simp (maxSteps := 1000000) -implicitDefEqProofs (disch := omega) only [go_sem])
  refine loop_at (α := Nat) [4, 5, 31, 32, 33, 34, 35, 36, 37, 38, 39, 40, 41, 42, 43, 44, 45, 46, 47, 48, 49] (fun i => [(5, .lit (.int .i64 i)), (4, .lit (.bool (okTo (fun c : Bill => (c.2.length : Int) == (stuffs cs : Int)) cs (inR' 1 3 (stuffs cs)) i)))]) (fun i => i ≤ cs.length) (fun i => cs.length - i) 0 (fun x => by simp (maxSteps := 1000000) -implicitDefEqProofs (disch := omega) only [go_sem]; rfl) ?_ ?_ fun x hx => ?_
  · simp only [okTo_zero]
    exact weak_do []
  · exact Nat.zero_le _
  by_cases hlt : x < cs.length
  · generalize hb : okTo (fun c : Bill => (c.2.length : Int) == (stuffs cs : Int)) cs (inR' 1 3 (stuffs cs)) x = b
    have hl := hlc _ (getD_mem hlt)
    cases b
    all_goals repeat' (first
                | (with_reducible apply Req_intro); focus (first | omega | assumption | (simp; done))
                | with_reducible (first | apply Req_intro | refine nilT ?_ fun hn => ?_ | apply wk_draw Tryd_mixed | refine drawEnd (by kernel_rfl) ?_)
                | (with_reducible (first | apply condA_if | apply stepDG_ifN | apply stepDG_if | apply stepG_ifN | apply stepG_if)) <;> intro hb <;> (have hif := hb) <;> (try simp only [bo] at hif) <;> (try simp -implicitDefEqProofs (disch := omega) only [go_sem, hb]) <;> clear hb
                | simp (maxSteps := 1000000) -implicitDefEqProofs (disch := omega) only [go_sem])
    all_goals first | (exfalso; omega) | skip
    · with_reducible refine nxt_w (x + 1) ?_ ?_
      · (try dsimp only)
        simp only [okTo_succ hlt, hb, Bool.false_and]
        exact weak_do []
      try dsimp only
      omega
    · with_reducible refine nxt_w (x + 1) ?_ ?_
      · (try dsimp only)
        simp only [okTo_succ hlt, hb, Bool.true_and]
        exact weak_do []
      try dsimp only
      omega
  · obtain rfl : x = cs.length := by omega
    rw [okTo_all]
    generalize hB : (inR' 1 3 (stuffs cs) && cs.all fun c : Bill => (c.2.length : Int) == (stuffs cs : Int)) = B
    repeat' (first
      | (with_reducible apply Req_intro); focus (first | omega | assumption | (simp; done))
      | with_reducible (first | apply Req_intro | refine nilT ?_ fun hn => ?_ | apply wk_draw Tryd_mixed | refine drawEnd (by kernel_rfl) ?_)
      | (with_reducible (first | apply condA_if | apply stepDG_ifN | apply stepDG_if | apply stepG_ifN | apply stepG_if)) <;> intro hb <;> (have hif := hb) <;> (try simp only [bo] at hif) <;> (try simp -implicitDefEqProofs (disch := omega) only [go_sem, hb]) <;> clear hb
      | simp (maxSteps := 1000000) -implicitDefEqProofs (disch := omega) only [go_sem])
    all_goals first | (exfalso; omega) | skip
    clear hlt
    refine loop_at (α := Nat) [4, 6, 50, 51, 52, 53, 54, 55, 56, 57, 58, 59, 60, 61, 62, 63, 64, 65, 66, 67, 68] (fun i => [(6, .lit (.int .i64 i)), (4, .lit (.bool (okTo (fun b : Box => (b.length : Int) == (stuffs cs : Int)) bs B i)))]) (fun i => i ≤ bs.length) (fun i => bs.length - i) 0 (fun x => by simp (maxSteps := 1000000) -implicitDefEqProofs (disch := omega) only [go_sem]; rfl) ?_ ?_ fun x hx => ?_
    · simp only [okTo_zero]
      exact weak_do []
    · exact Nat.zero_le _
    by_cases hlt : x < bs.length
    · generalize hb : okTo (fun b : Box => (b.length : Int) == (stuffs cs : Int)) bs B x = b
      have hl := hlb _ (getD_mem hlt)
      cases b
      all_goals repeat' (first
                  | (with_reducible apply Req_intro); focus (first | omega | assumption | (simp; done))
                  | with_reducible (first | apply Req_intro | refine nilT ?_ fun hn => ?_ | apply wk_draw Tryd_mixed | refine drawEnd (by kernel_rfl) ?_)
                  | (with_reducible (first | apply condA_if | apply stepDG_ifN | apply stepDG_if | apply stepG_ifN | apply stepG_if)) <;> intro hb <;> (have hif := hb) <;> (try simp only [bo] at hif) <;> (try simp -implicitDefEqProofs (disch := omega) only [go_sem, hb]) <;> clear hb
                  | simp (maxSteps := 1000000) -implicitDefEqProofs (disch := omega) only [go_sem])
      all_goals first | (exfalso; omega) | skip
      · with_reducible refine nxt_w (x + 1) ?_ ?_
        · (try dsimp only)
          simp only [okTo_succ hlt, hb, Bool.false_and]
          exact weak_do []
        try dsimp only
        omega
      · with_reducible refine nxt_w (x + 1) ?_ ?_
        · (try dsimp only)
          simp only [okTo_succ hlt, hb, Bool.true_and]
          exact weak_do []
        try dsimp only
        omega
    · obtain rfl : x = bs.length := by omega
      rw [okTo_all]
      generalize hC : (B && bs.all fun b : Box => (b.length : Int) == (stuffs cs : Int)) = C
      cases C
      all_goals repeat' (first
                  | (with_reducible apply Req_intro); focus (first | omega | assumption | (simp; done))
                  | with_reducible (first | apply Req_intro | refine nilT ?_ fun hn => ?_ | apply wk_draw Tryd_mixed | refine drawEnd (by kernel_rfl) ?_)
                  | (with_reducible (first | apply condA_if | apply stepDG_ifN | apply stepDG_if | apply stepG_ifN | apply stepG_if)) <;> intro hb <;> (have hif := hb) <;> (try simp only [bo] at hif) <;> (try simp -implicitDefEqProofs (disch := omega) only [go_sem, hb]) <;> clear hb
                  | simp (maxSteps := 1000000) -implicitDefEqProofs (disch := omega) only [go_sem])
      all_goals first | (exfalso; omega) | skip
      · have hck : checkR bs cs = 4 := by
          rw [checkR_eq bs cs (by omega) (by omega) (by omega), if_neg (by rw [formOk, hB, hC]; decide)]
        refine ret_do ?_
        rw [hck]; rfl
      refine loop_at (α := Nat) [4, 7, 71, 72, 73, 74, 75, 76, 77, 78, 79, 80, 81, 82, 83, 84, 85, 86, 87, 88, 89, 90, 91, 92, 93, 94, 95, 96] (fun i => [(7, .lit (.int .i64 i)), (4, .lit (.bool (okTo (fun c : Bill => c.2.all (spanOk 10000) && inR' 0 8 c.1) cs true i)))]) (fun i => i ≤ cs.length) (fun i => cs.length - i) 0 (fun x => by simp (maxSteps := 1000000) -implicitDefEqProofs (disch := omega) only [go_sem]; rfl) ?_ ?_ fun x hx => ?_
      · simp only [okTo_zero]
        exact weak_do []
      · exact Nat.zero_le _
      by_cases hlt : x < cs.length
      · generalize hb : okTo (fun c : Bill => c.2.all (spanOk 10000) && inR' 0 8 c.1) cs true x = b
        have hl := hlc _ (getD_mem hlt)
        cases b
        all_goals repeat' (first
                    | (with_reducible apply Req_intro); focus (first | omega | assumption | (simp; done))
                    | with_reducible (first | apply Req_intro | refine nilT ?_ fun hn => ?_ | apply wk_draw Tryd_mixed | refine drawEnd (by kernel_rfl) ?_)
                    | (with_reducible (first | apply condA_if | apply stepDG_ifN | apply stepDG_if | apply stepG_ifN | apply stepG_if)) <;> intro hb <;> (have hif := hb) <;> (try simp only [bo] at hif) <;> (try simp -implicitDefEqProofs (disch := omega) only [go_sem, hb]) <;> clear hb
                    | simp (maxSteps := 1000000) -implicitDefEqProofs (disch := omega) only [go_sem])
        all_goals first | (exfalso; omega) | skip
        · with_reducible refine nxt_w (x + 1) ?_ ?_
          · (try dsimp only)
            simp only [okTo_succ hlt, hb, Bool.false_and]
            exact weak_do []
          try dsimp only
          omega
        · refine call_pu (by first | (simp only [go_sem]; done) | (simp only [go_sem]; rfl)) ?_ (Spans_spec _ _ _ (by omega)) ?_ ?_
          (focus (first | assumption | (simp only [go_sem] <;> assumption) | (simp only [go_sem, *]; done) | (simp [go_sem]; done)))
          (focus (first | assumption | (simp only [go_sem] <;> assumption) | (simp only [go_sem, *]; done) | (simp [go_sem]; done)))
          try simp (maxSteps := 1000000) -implicitDefEqProofs (disch := omega) only [go_sem]
          repeat' (first
            | (with_reducible apply Req_intro); focus (first | omega | assumption | (simp; done))
            | with_reducible (first | apply Req_intro | refine nilT ?_ fun hn => ?_ | apply wk_draw Tryd_mixed | refine drawEnd (by kernel_rfl) ?_)
            | (with_reducible (first | apply condA_if | apply stepDG_ifN | apply stepDG_if | apply stepG_ifN | apply stepG_if)) <;> intro hb <;> (have hif := hb) <;> (try simp only [bo] at hif) <;> (try simp -implicitDefEqProofs (disch := omega) only [go_sem, hb]) <;> clear hb
            | simp (maxSteps := 1000000) -implicitDefEqProofs (disch := omega) only [go_sem])
          · have hS := hif
            refine call_pu (by first | (simp only [go_sem]; done) | (simp only [go_sem]; rfl)) ?_ (In_spec _ _ _) ?_ ?_
            (focus (first | assumption | (simp only [go_sem] <;> assumption) | (simp only [go_sem, *]; done) | (simp [go_sem]; done)))
            (focus (first | assumption | (simp only [go_sem] <;> assumption) | (simp only [go_sem, *]; done) | (simp [go_sem]; done)))
            try simp (maxSteps := 1000000) -implicitDefEqProofs (disch := omega) only [go_sem]
            repeat' (first
              | (with_reducible apply Req_intro); focus (first | omega | assumption | (simp; done))
              | with_reducible (first | apply Req_intro | refine nilT ?_ fun hn => ?_ | apply wk_draw Tryd_mixed | refine drawEnd (by kernel_rfl) ?_)
              | (with_reducible (first | apply condA_if | apply stepDG_ifN | apply stepDG_if | apply stepG_ifN | apply stepG_if)) <;> intro hb <;> (have hif := hb) <;> (try simp only [bo] at hif) <;> (try simp -implicitDefEqProofs (disch := omega) only [go_sem, hb]) <;> clear hb
              | simp (maxSteps := 1000000) -implicitDefEqProofs (disch := omega) only [go_sem])
            with_reducible refine nxt_w (x + 1) ?_ ?_
            · (try dsimp only)
              simp only [okTo_succ hlt, hb, hS, Bool.true_and]
              exact weak_do []
            try dsimp only
            omega
          · with_reducible refine nxt_w (x + 1) ?_ ?_
            · (try dsimp only)
              simp only [okTo_succ hlt, hb, hif, Bool.true_and, Bool.false_and]
              exact weak_do []
            try dsimp only
            omega
      · obtain rfl : x = cs.length := by omega
        rw [okTo_all]
        generalize hD : (true && cs.all fun c : Bill => c.2.all (spanOk 10000) && inR' 0 8 c.1) = D
        repeat' (first
          | (with_reducible apply Req_intro); focus (first | omega | assumption | (simp; done))
          | with_reducible (first | apply Req_intro | refine nilT ?_ fun hn => ?_ | apply wk_draw Tryd_mixed | refine drawEnd (by kernel_rfl) ?_)
          | (with_reducible (first | apply condA_if | apply stepDG_ifN | apply stepDG_if | apply stepG_ifN | apply stepG_if)) <;> intro hb <;> (have hif := hb) <;> (try simp only [bo] at hif) <;> (try simp -implicitDefEqProofs (disch := omega) only [go_sem, hb]) <;> clear hb
          | simp (maxSteps := 1000000) -implicitDefEqProofs (disch := omega) only [go_sem])
        all_goals first | (exfalso; omega) | skip
        refine loop_at (α := Nat) [4, 8, 97, 98, 99, 100, 101, 102, 103, 104, 105, 106, 107, 108, 109, 110, 111, 112, 113] (fun i => [(8, .lit (.int .i64 i)), (4, .lit (.bool (okTo (fun b : Box => b.all (spanOk 1000)) bs D i)))]) (fun i => i ≤ bs.length) (fun i => bs.length - i) 0 (fun x => by simp (maxSteps := 1000000) -implicitDefEqProofs (disch := omega) only [go_sem]; rfl) ?_ ?_ fun x hx => ?_
        · simp only [okTo_zero]
          exact weak_do []
        · exact Nat.zero_le _
        by_cases hlt : x < bs.length
        · generalize hb : okTo (fun b : Box => b.all (spanOk 1000)) bs D x = b
          have hl := hlb _ (getD_mem hlt)
          cases b
          all_goals repeat' (first
                      | (with_reducible apply Req_intro); focus (first | omega | assumption | (simp; done))
                      | with_reducible (first | apply Req_intro | refine nilT ?_ fun hn => ?_ | apply wk_draw Tryd_mixed | refine drawEnd (by kernel_rfl) ?_)
                      | (with_reducible (first | apply condA_if | apply stepDG_ifN | apply stepDG_if | apply stepG_ifN | apply stepG_if)) <;> intro hb <;> (have hif := hb) <;> (try simp only [bo] at hif) <;> (try simp -implicitDefEqProofs (disch := omega) only [go_sem, hb]) <;> clear hb
                      | simp (maxSteps := 1000000) -implicitDefEqProofs (disch := omega) only [go_sem])
          all_goals first | (exfalso; omega) | skip
          · with_reducible refine nxt_w (x + 1) ?_ ?_
            · (try dsimp only)
              simp only [okTo_succ hlt, hb, Bool.false_and]
              exact weak_do []
            try dsimp only
            omega
          · refine call_pu (by first | (simp only [go_sem]; done) | (simp only [go_sem]; rfl)) ?_ (Spans_spec _ _ _ (by omega)) ?_ ?_
            (focus (first | assumption | (simp only [go_sem] <;> assumption) | (simp only [go_sem, *]; done) | (simp [go_sem]; done)))
            (focus (first | assumption | (simp only [go_sem] <;> assumption) | (simp only [go_sem, *]; done) | (simp [go_sem]; done)))
            try simp (maxSteps := 1000000) -implicitDefEqProofs (disch := omega) only [go_sem]
            repeat' (first
              | (with_reducible apply Req_intro); focus (first | omega | assumption | (simp; done))
              | with_reducible (first | apply Req_intro | refine nilT ?_ fun hn => ?_ | apply wk_draw Tryd_mixed | refine drawEnd (by kernel_rfl) ?_)
              | (with_reducible (first | apply condA_if | apply stepDG_ifN | apply stepDG_if | apply stepG_ifN | apply stepG_if)) <;> intro hb <;> (have hif := hb) <;> (try simp only [bo] at hif) <;> (try simp -implicitDefEqProofs (disch := omega) only [go_sem, hb]) <;> clear hb
              | simp (maxSteps := 1000000) -implicitDefEqProofs (disch := omega) only [go_sem])
            with_reducible refine nxt_w (x + 1) ?_ ?_
            · (try dsimp only)
              simp only [okTo_succ hlt, hb, Bool.true_and]
              exact weak_do []
            try dsimp only
            omega
        · obtain rfl : x = bs.length := by omega
          rw [okTo_all]
          generalize hE : (D && bs.all fun b : Box => b.all (spanOk 1000)) = E
          cases E
          all_goals repeat' (first
                      | (with_reducible apply Req_intro); focus (first | omega | assumption | (simp; done))
                      | with_reducible (first | apply Req_intro | refine nilT ?_ fun hn => ?_ | apply wk_draw Tryd_mixed | refine drawEnd (by kernel_rfl) ?_)
                      | (with_reducible (first | apply condA_if | apply stepDG_ifN | apply stepDG_if | apply stepG_ifN | apply stepG_if)) <;> intro hb <;> (have hif := hb) <;> (try simp only [bo] at hif) <;> (try simp -implicitDefEqProofs (disch := omega) only [go_sem, hb]) <;> clear hb
                      | simp (maxSteps := 1000000) -implicitDefEqProofs (disch := omega) only [go_sem])
          all_goals first | (exfalso; omega) | skip
          · have hck : checkR bs cs = 2 := by
              rw [checkR_eq bs cs (by omega) (by omega) (by omega), if_pos (by rw [formOk, hB]; exact hC), if_neg (by rw [argOk, hD, hE]; decide)]
            refine ret_do ?_
            rw [hck]; rfl
          · have hck : checkR bs cs = 0 := by
              rw [checkR_eq bs cs (by omega) (by omega) (by omega), if_pos (by rw [formOk, hB]; exact hC), if_pos (by rw [argOk, hD, hE])]
            refine ret_do ?_
            rw [hck]; rfl
end Go.Aw
end
section
set_option linter.unusedVariables false
set_option linter.unusedSimpArgs false
set_option maxRecDepth 20000
set_option maxHeartbeats 4000000
/-! The law's own functions: span, box, bill, load. -/
namespace Go.Aw
open Go.RowKit Go.Proofs

theorem span_spec (a b : Int) : Ct Tryd.prog 35 [int a, int b] (.agg (encS (a, b))) := by
  refine fn_enter Tryd.func35 rfl (by decide) Tryd.results35 Tryd.ntmps35 ?_ rfl (by simp (maxSteps := 1000000) -implicitDefEqProofs (disch := omega) only [go_sem]; rfl) fun base => ?_
  · first | assumption | (simp only [go_sem] <;> assumption) | (simp only [go_sem, *]; done) | (simp [go_sem]; done)
  repeat' (first
    | (with_reducible apply Req_intro); focus (first | omega | assumption | (simp; done))
    | with_reducible (first | apply Req_intro | refine nilT ?_ fun hn => ?_ | apply wk_draw Tryd_mixed | refine drawEnd (by kernel_rfl) ?_)
    | (with_reducible (first | apply condA_if | apply stepDG_ifN | apply stepDG_if | apply stepG_ifN | apply stepG_if)) <;> intro hb <;> (have hif := hb) <;> (try simp only [bo] at hif) <;> (try simp -implicitDefEqProofs (disch := omega) only [go_sem, hb]) <;> clear hb
    | simp (maxSteps := 1000000) -implicitDefEqProofs (disch := omega) only [go_sem])
  refine ret_do ?_
  rfl
theorem box_spec (a b : Int) : Ct Tryd.prog 72 [int a, int b] (.agg (encB [(a, b)])) := by
  refine ct_enterZ Tryd.func72 rfl (by decide) Tryd.results72 Tryd.ntmps72 ?_ rfl (by simp (maxSteps := 1000000) -implicitDefEqProofs (disch := omega) only [go_sem]; rfl) fun base => ?_
  · first | assumption | (simp only [go_sem] <;> assumption) | (simp only [go_sem, *]; done) | (simp [go_sem]; done)
  repeat' (first
    | (with_reducible apply Req_intro); focus (first | omega | assumption | (simp; done))
    | with_reducible (first | apply Req_intro | refine nilT ?_ fun hn => ?_ | apply wk_draw Tryd_mixed | refine drawEnd (by kernel_rfl) ?_)
    | (with_reducible (first | apply condA_if | apply stepDG_ifN | apply stepDG_if | apply stepG_ifN | apply stepG_if)) <;> intro hb <;> (have hif := hb) <;> (try simp only [bo] at hif) <;> (try simp -implicitDefEqProofs (disch := omega) only [go_sem, hb]) <;> clear hb
    | simp (maxSteps := 1000000) -implicitDefEqProofs (disch := omega) only [go_sem])
  refine callp (span_spec a b) ?_
  try simp (maxSteps := 1000000) -implicitDefEqProofs (disch := omega) only [go_sem]
  repeat' (first
    | (with_reducible apply Req_intro); focus (first | omega | assumption | (simp; done))
    | with_reducible (first | apply Req_intro | refine nilT ?_ fun hn => ?_ | apply wk_draw Tryd_mixed | refine drawEnd (by kernel_rfl) ?_)
    | (with_reducible (first | apply condA_if | apply stepDG_ifN | apply stepDG_if | apply stepG_ifN | apply stepG_if)) <;> intro hb <;> (have hif := hb) <;> (try simp only [bo] at hif) <;> (try simp -implicitDefEqProofs (disch := omega) only [go_sem, hb]) <;> clear hb
    | simp (maxSteps := 1000000) -implicitDefEqProofs (disch := omega) only [go_sem])
  exact retz [256]
theorem bill_spec (n a b : Int) : Ct Tryd.prog 73 [int n, int a, int b] (.agg (encBill (n, [(a, b)]))) := by
  refine ct_enterZ Tryd.func73 rfl (by decide) Tryd.results73 Tryd.ntmps73 ?_ rfl (by simp (maxSteps := 1000000) -implicitDefEqProofs (disch := omega) only [go_sem]; rfl) fun base => ?_
  · first | assumption | (simp only [go_sem] <;> assumption) | (simp only [go_sem, *]; done) | (simp [go_sem]; done)
  repeat' (first
    | (with_reducible apply Req_intro); focus (first | omega | assumption | (simp; done))
    | with_reducible (first | apply Req_intro | refine nilT ?_ fun hn => ?_ | apply wk_draw Tryd_mixed | refine drawEnd (by kernel_rfl) ?_)
    | (with_reducible (first | apply condA_if | apply stepDG_ifN | apply stepDG_if | apply stepG_ifN | apply stepG_if)) <;> intro hb <;> (have hif := hb) <;> (try simp only [bo] at hif) <;> (try simp -implicitDefEqProofs (disch := omega) only [go_sem, hb]) <;> clear hb
    | simp (maxSteps := 1000000) -implicitDefEqProofs (disch := omega) only [go_sem])
  refine callp (span_spec a b) ?_
  try simp (maxSteps := 1000000) -implicitDefEqProofs (disch := omega) only [go_sem]
  repeat' (first
    | (with_reducible apply Req_intro); focus (first | omega | assumption | (simp; done))
    | with_reducible (first | apply Req_intro | refine nilT ?_ fun hn => ?_ | apply wk_draw Tryd_mixed | refine drawEnd (by kernel_rfl) ?_)
    | (with_reducible (first | apply condA_if | apply stepDG_ifN | apply stepDG_if | apply stepG_ifN | apply stepG_if)) <;> intro hb <;> (have hif := hb) <;> (try simp only [bo] at hif) <;> (try simp -implicitDefEqProofs (disch := omega) only [go_sem, hb]) <;> clear hb
    | simp (maxSteps := 1000000) -implicitDefEqProofs (disch := omega) only [go_sem])
  exact retz [320]

def knownB : List Box := [[(10, 12)], [(20, 22)], [(11, 11)], [(30, 30)]]
def knownC (a b : Int) : List Bill := [(2, [(30, 32)]), (2, [(a, b)])]
theorem load_spec (a b : Int) : Ct Tryd.prog 42 [int a, int b] (encLoad knownB (knownC a b)) := by
  refine ct_enterZ Tryd.func42 rfl (by decide) Tryd.results42 Tryd.ntmps42 ?_ rfl (by simp (maxSteps := 1000000) -implicitDefEqProofs (disch := omega) only [go_sem]; rfl) fun base => ?_
  · simp only [knownB, knownC]
    first | assumption | (simp only [go_sem] <;> assumption) | (simp only [go_sem, *]; done) | (simp [go_sem]; done)
  repeat' (first
    | (with_reducible apply Req_intro); focus (first | omega | assumption | (simp; done))
    | with_reducible (first | apply Req_intro | refine nilT ?_ fun hn => ?_ | apply wk_draw Tryd_mixed | refine drawEnd (by kernel_rfl) ?_)
    | (with_reducible (first | apply condA_if | apply stepDG_ifN | apply stepDG_if | apply stepG_ifN | apply stepG_if)) <;> intro hb <;> (have hif := hb) <;> (try simp only [bo] at hif) <;> (try simp -implicitDefEqProofs (disch := omega) only [go_sem, hb]) <;> clear hb
    | simp (maxSteps := 1000000) -implicitDefEqProofs (disch := omega) only [go_sem])
  refine callp (box_spec 10 12) ?_
  try simp (maxSteps := 1000000) -implicitDefEqProofs (disch := omega) only [go_sem]
  repeat' (first
    | (with_reducible apply Req_intro); focus (first | omega | assumption | (simp; done))
    | with_reducible (first | apply Req_intro | refine nilT ?_ fun hn => ?_ | apply wk_draw Tryd_mixed | refine drawEnd (by kernel_rfl) ?_)
    | (with_reducible (first | apply condA_if | apply stepDG_ifN | apply stepDG_if | apply stepG_ifN | apply stepG_if)) <;> intro hb <;> (have hif := hb) <;> (try simp only [bo] at hif) <;> (try simp -implicitDefEqProofs (disch := omega) only [go_sem, hb]) <;> clear hb
    | simp (maxSteps := 1000000) -implicitDefEqProofs (disch := omega) only [go_sem])
  refine callp (box_spec 20 22) ?_
  try simp (maxSteps := 1000000) -implicitDefEqProofs (disch := omega) only [go_sem]
  repeat' (first
    | (with_reducible apply Req_intro); focus (first | omega | assumption | (simp; done))
    | with_reducible (first | apply Req_intro | refine nilT ?_ fun hn => ?_ | apply wk_draw Tryd_mixed | refine drawEnd (by kernel_rfl) ?_)
    | (with_reducible (first | apply condA_if | apply stepDG_ifN | apply stepDG_if | apply stepG_ifN | apply stepG_if)) <;> intro hb <;> (have hif := hb) <;> (try simp only [bo] at hif) <;> (try simp -implicitDefEqProofs (disch := omega) only [go_sem, hb]) <;> clear hb
    | simp (maxSteps := 1000000) -implicitDefEqProofs (disch := omega) only [go_sem])
  refine callp (box_spec 11 11) ?_
  try simp (maxSteps := 1000000) -implicitDefEqProofs (disch := omega) only [go_sem]
  repeat' (first
    | (with_reducible apply Req_intro); focus (first | omega | assumption | (simp; done))
    | with_reducible (first | apply Req_intro | refine nilT ?_ fun hn => ?_ | apply wk_draw Tryd_mixed | refine drawEnd (by kernel_rfl) ?_)
    | (with_reducible (first | apply condA_if | apply stepDG_ifN | apply stepDG_if | apply stepG_ifN | apply stepG_if)) <;> intro hb <;> (have hif := hb) <;> (try simp only [bo] at hif) <;> (try simp -implicitDefEqProofs (disch := omega) only [go_sem, hb]) <;> clear hb
    | simp (maxSteps := 1000000) -implicitDefEqProofs (disch := omega) only [go_sem])
  refine callp (box_spec 30 30) ?_
  try simp (maxSteps := 1000000) -implicitDefEqProofs (disch := omega) only [go_sem]
  repeat' (first
    | (with_reducible apply Req_intro); focus (first | omega | assumption | (simp; done))
    | with_reducible (first | apply Req_intro | refine nilT ?_ fun hn => ?_ | apply wk_draw Tryd_mixed | refine drawEnd (by kernel_rfl) ?_)
    | (with_reducible (first | apply condA_if | apply stepDG_ifN | apply stepDG_if | apply stepG_ifN | apply stepG_if)) <;> intro hb <;> (have hif := hb) <;> (try simp only [bo] at hif) <;> (try simp -implicitDefEqProofs (disch := omega) only [go_sem, hb]) <;> clear hb
    | simp (maxSteps := 1000000) -implicitDefEqProofs (disch := omega) only [go_sem])
  refine callp (bill_spec 2 30 32) ?_
  try simp (maxSteps := 1000000) -implicitDefEqProofs (disch := omega) only [go_sem]
  repeat' (first
    | (with_reducible apply Req_intro); focus (first | omega | assumption | (simp; done))
    | with_reducible (first | apply Req_intro | refine nilT ?_ fun hn => ?_ | apply wk_draw Tryd_mixed | refine drawEnd (by kernel_rfl) ?_)
    | (with_reducible (first | apply condA_if | apply stepDG_ifN | apply stepDG_if | apply stepG_ifN | apply stepG_if)) <;> intro hb <;> (have hif := hb) <;> (try simp only [bo] at hif) <;> (try simp -implicitDefEqProofs (disch := omega) only [go_sem, hb]) <;> clear hb
    | simp (maxSteps := 1000000) -implicitDefEqProofs (disch := omega) only [go_sem])
  refine callp (bill_spec 2 a b) ?_
  try simp (maxSteps := 1000000) -implicitDefEqProofs (disch := omega) only [go_sem]
  repeat' (first
    | (with_reducible apply Req_intro); focus (first | omega | assumption | (simp; done))
    | with_reducible (first | apply Req_intro | refine nilT ?_ fun hn => ?_ | apply wk_draw Tryd_mixed | refine drawEnd (by kernel_rfl) ?_)
    | (with_reducible (first | apply condA_if | apply stepDG_ifN | apply stepDG_if | apply stepG_ifN | apply stepG_if)) <;> intro hb <;> (have hif := hb) <;> (try simp only [bo] at hif) <;> (try simp -implicitDefEqProofs (disch := omega) only [go_sem, hb]) <;> clear hb
    | simp (maxSteps := 1000000) -implicitDefEqProofs (disch := omega) only [go_sem])
  refine ret_at (by simp (maxSteps := 1000000) -implicitDefEqProofs (disch := omega) only [go_sem]; rfl) (by first | trivial | omega | (simp; omega)) (ret_z [320, 640] (by first | (simp only [go_sem]; done) | (simp only [go_sem]; rfl)) ?_)
  simp only [knownB, knownC, List.map_cons, List.map_nil]
  (try simp (maxSteps := 1000000) -implicitDefEqProofs (disch := omega) only [go_sem])
  repeat' (first
    | with_reducible (first | exact PurI.nil | exact Pur.nilsl _ _ | exact PurE.nil)
    | (with_reducible (first | refine PurI.puL ?_ | refine PurE.puE ?_)) <;> (first | assumption | (simp only [go_sem] <;> assumption) | (simp only [go_sem, *]; done) | (simp [go_sem]; done))
    | with_reducible apply PurI.cons
    | (with_reducible refine Pur.pu _ ?_) <;> (first | assumption | (simp only [go_sem] <;> assumption) | (simp only [go_sem, *]; done) | (simp [go_sem]; done))
    | ((with_reducible apply Pur.refR) <;> (first | rfl | decide | (simp only [go_sem]; omega) | (simp only [go_sem]) | skip))
    | ((with_reducible apply Pur.osR) <;> (first | rfl | exact fun h => h | omega | (simp; omega) | (simp; done) | (simp only [go_sem]) | skip))
    | with_reducible (first | apply Pur.fnI | apply Pur.aggI | apply PurE.cons)
    | (with_reducible refine PurI.eqL ?_ ?_); (focus rfl); (focus (first | assumption | (simp only [go_sem] <;> assumption) | (simp only [go_sem, *]; done) | (simp [go_sem]; done)))
    | simp (maxSteps := 1000000) -implicitDefEqProofs (disch := omega) only [go_sem])

def bigR (bs : List Box) (cs : List Bill) : Bool := decide (12 < bs.length) || decide (12 < cs.length) || (bs.any fun b => decide (6 < b.length)) || (cs.any fun c => decide (6 < c.2.length))
def largeR (bs : List Box) (cs : List Bill) (most : Int) : Bool := bigR bs cs || (decide (most < bs.length) && (checkR bs cs == 0))
theorem bigR_false {bs : List Box} {cs : List Bill} (h : bigR bs cs = false) : SizeOk bs cs := by
  simp only [bigR, Bool.or_eq_false_iff, decide_eq_false_iff_not, List.any_eq_false, decide_eq_true_eq] at h
  obtain ⟨⟨⟨h1, h2⟩, h3⟩, h4⟩ := h
  exact ⟨by omega, by omega, fun b hb => by have := h3 b hb; omega, fun c hc => by have := h4 c hc; omega⟩

theorem large_spec (bs : List Box) (cs : List Bill) (most : Int) (hb : bs.length ≤ 4611686018427387904) (hc : cs.length ≤ 4611686018427387904) : Ct Tryd.prog 14 [encLoad bs cs, int most] (.lit (.bool (largeR bs cs most))) := by
  refine fn_enter Tryd.func14 rfl (by decide) Tryd.results14 Tryd.ntmps14 ?_ rfl (by simp (maxSteps := 1000000) -implicitDefEqProofs (disch := omega) only [go_sem]; rfl) fun base => ?_
  · first | assumption | (simp only [go_sem] <;> assumption) | (simp only [go_sem, *]; done) | (simp [go_sem]; done)
  repeat' (first
    | (with_reducible apply Req_intro); focus (first | omega | assumption | (simp; done))
    | with_reducible (first | apply Req_intro | refine nilT ?_ fun hn => ?_ | apply wk_draw Tryd_mixed | refine drawEnd (by kernel_rfl) ?_)
    | (with_reducible (first | apply condA_if | apply stepDG_ifN | apply stepDG_if | apply stepG_ifN | apply stepG_if)) <;> intro hb <;> (have hif := hb) <;> (try simp only [bo] at hif) <;> (try simp -implicitDefEqProofs (disch := omega) only [go_sem, hb]) <;> clear hb
    | simp (maxSteps := 1000000) -implicitDefEqProofs (disch := omega) only [go_sem])
  · refine ret_do ?_
    have : largeR bs cs most = true := by simp [largeR, bigR]; omega
    rw [this]; rfl
  · refine ret_do ?_
    have : largeR bs cs most = true := by simp [largeR, bigR]; omega
    rw [this]; rfl
  rename_i g1
  have g2 := hif
  refine loop_at (α := Nat) [4, 5, 17, 18, 19, 20, 21, 22, 23, 24, 25, 26, 27, 28, 29, 30, 31] (fun i => [(5, .lit (.int .i64 i))]) (fun i => i ≤ bs.length ∧ ((bs.take i).any fun b => decide (6 < b.length)) = false) (fun i => bs.length - i) 0 (fun x => by simp (maxSteps := 1000000) -implicitDefEqProofs (disch := omega) only [go_sem]; rfl) ?_ ?_ fun x hx => ?_
  · exact weak_do []
  · simp
  obtain ⟨h1, h2⟩ := hx
  by_cases hlt : x < bs.length
  · repeat' (first
      | (with_reducible apply Req_intro); focus (first | omega | assumption | (simp; done))
      | with_reducible (first | apply Req_intro | refine nilT ?_ fun hn => ?_ | apply wk_draw Tryd_mixed | refine drawEnd (by kernel_rfl) ?_)
      | (with_reducible (first | apply condA_if | apply stepDG_ifN | apply stepDG_if | apply stepG_ifN | apply stepG_if)) <;> intro hb <;> (have hif := hb) <;> (try simp only [bo] at hif) <;> (try simp -implicitDefEqProofs (disch := omega) only [go_sem, hb]) <;> clear hb
      | simp (maxSteps := 1000000) -implicitDefEqProofs (disch := omega) only [go_sem])
    all_goals first | (exfalso; omega) | skip
    · refine ret_do ?_
      have : largeR bs cs most = true := by
        have h : (bs.any fun b => decide (6 < b.length)) = true := List.any_eq_true.2 ⟨_, getD_mem hlt, by simp only [decide_eq_true_eq]; omega⟩
        simp [largeR, bigR, h]
      rw [this]; rfl
    · refine nxt_w (x + 1) (weak_do []) ?_
      try dsimp only
      refine ⟨by omega, ?_⟩
      rw [take_succ_getD hlt, List.any_append, h2]
      simp only [List.any_cons, List.any_nil, Bool.or_false, Bool.false_or, decide_eq_false_iff_not]; omega
  · obtain rfl : x = bs.length := by omega
    rw [List.take_length] at h2
    repeat' (first
      | (with_reducible apply Req_intro); focus (first | omega | assumption | (simp; done))
      | with_reducible (first | apply Req_intro | refine nilT ?_ fun hn => ?_ | apply wk_draw Tryd_mixed | refine drawEnd (by kernel_rfl) ?_)
      | (with_reducible (first | apply condA_if | apply stepDG_ifN | apply stepDG_if | apply stepG_ifN | apply stepG_if)) <;> intro hb <;> (have hif := hb) <;> (try simp only [bo] at hif) <;> (try simp -implicitDefEqProofs (disch := omega) only [go_sem, hb]) <;> clear hb
      | simp (maxSteps := 1000000) -implicitDefEqProofs (disch := omega) only [go_sem])
    all_goals first | (exfalso; omega) | skip
    clear hlt
    refine loop_at (α := Nat) [4, 6, 32, 33, 34, 35, 36, 37, 38, 39, 40, 41, 42, 43, 44, 45, 46] (fun i => [(6, .lit (.int .i64 i))]) (fun i => i ≤ cs.length ∧ ((cs.take i).any fun c => decide (6 < c.2.length)) = false) (fun i => cs.length - i) 0 (fun x => by simp (maxSteps := 1000000) -implicitDefEqProofs (disch := omega) only [go_sem]; rfl) ?_ ?_ fun x hx => ?_
    · exact weak_do []
    · simp
    obtain ⟨h3, h4⟩ := hx
    by_cases hlt : x < cs.length
    · repeat' (first
        | (with_reducible apply Req_intro); focus (first | omega | assumption | (simp; done))
        | with_reducible (first | apply Req_intro | refine nilT ?_ fun hn => ?_ | apply wk_draw Tryd_mixed | refine drawEnd (by kernel_rfl) ?_)
        | (with_reducible (first | apply condA_if | apply stepDG_ifN | apply stepDG_if | apply stepG_ifN | apply stepG_if)) <;> intro hb <;> (have hif := hb) <;> (try simp only [bo] at hif) <;> (try simp -implicitDefEqProofs (disch := omega) only [go_sem, hb]) <;> clear hb
        | simp (maxSteps := 1000000) -implicitDefEqProofs (disch := omega) only [go_sem])
      all_goals first | (exfalso; omega) | skip
      · refine ret_do ?_
        have : largeR bs cs most = true := by
          have h : (cs.any fun c => decide (6 < c.2.length)) = true := List.any_eq_true.2 ⟨_, getD_mem hlt, by simp only [decide_eq_true_eq]; omega⟩
          simp [largeR, bigR, h]
        rw [this]; rfl
      · refine nxt_w (x + 1) (weak_do []) ?_
        try dsimp only
        refine ⟨by omega, ?_⟩
        rw [take_succ_getD hlt, List.any_append, h4]
        simp only [List.any_cons, List.any_nil, Bool.or_false, Bool.false_or, decide_eq_false_iff_not]; omega
    · obtain rfl : x = cs.length := by omega
      rw [List.take_length] at h4
      have hbig : bigR bs cs = false := by
        simp only [bigR, h2, h4, Bool.or_false, Bool.or_eq_false_iff, decide_eq_false_iff_not]; omega
      have hck := RCheck_spec bs cs (bigR_false hbig)
      repeat' (first
        | (with_reducible apply Req_intro); focus (first | omega | assumption | (simp; done))
        | with_reducible (first | apply Req_intro | refine nilT ?_ fun hn => ?_ | apply wk_draw Tryd_mixed | refine drawEnd (by kernel_rfl) ?_)
        | (with_reducible (first | apply condA_if | apply stepDG_ifN | apply stepDG_if | apply stepG_ifN | apply stepG_if)) <;> intro hb <;> (have hif := hb) <;> (try simp only [bo] at hif) <;> (try simp -implicitDefEqProofs (disch := omega) only [go_sem, hb]) <;> clear hb
        | simp (maxSteps := 1000000) -implicitDefEqProofs (disch := omega) only [go_sem])
      all_goals first | (exfalso; omega) | skip
      · have hm := hif
        refine callp hck ?_
        try simp (maxSteps := 1000000) -implicitDefEqProofs (disch := omega) only [go_sem]
        repeat' (first
          | (with_reducible apply Req_intro); focus (first | omega | assumption | (simp; done))
          | with_reducible (first | apply Req_intro | refine nilT ?_ fun hn => ?_ | apply wk_draw Tryd_mixed | refine drawEnd (by kernel_rfl) ?_)
          | (with_reducible (first | apply condA_if | apply stepDG_ifN | apply stepDG_if | apply stepG_ifN | apply stepG_if)) <;> intro hb <;> (have hif := hb) <;> (try simp only [bo] at hif) <;> (try simp -implicitDefEqProofs (disch := omega) only [go_sem, hb]) <;> clear hb
          | simp (maxSteps := 1000000) -implicitDefEqProofs (disch := omega) only [go_sem])
        refine ret_do ?_
        rw [largeR, hbig, decide_eq_true hm]; rfl
      · refine ret_do ?_
        rw [largeR, hbig, decide_eq_false (by omega)]; rfl
end Go.Aw
end
section
set_option linter.unusedVariables false
set_option linter.unusedSimpArgs false
set_option maxRecDepth 20000
/-! Plain laws: mix's ways are the reference's. -/
namespace Go.Aw
open Go.RowKit Go.Proofs

/-- What carriers have after a way's first boxes. -/
def cartsTo (bs : List Box) (w : List Int) : Nat → Carts
  | 0 => carts0
  | i + 1 => (cartsTo bs w i).set (w.getD i default).toNat (addC (cartsTo bs w i) (w.getD i default).toNat (bs.getD i default))

theorem Carts_get_ne (s : Carts) (j k : Nat) (v : Cart) (hj : j < 3) (hk : k < 3) (h : j ≠ k) : (s.set k v).get j = s.get j := by
  rcases k3 hj with rfl | rfl | rfl <;> rcases k3 hk with rfl | rfl | rfl <;> first | rfl | exact absurd rfl h

theorem carts0_get (k : Nat) : carts0.get k = default := by
  match k with
  | 0 => rfl
  | 1 => rfl
  | k + 2 => rfl

/-- The numbers of a list are carriers. -/
def InC (m : Nat) (w : List Int) : Prop := ∀ x ∈ w, 0 ≤ x ∧ x < (m : Int)

theorem InC.snoc {m : Nat} {w : List Int} (h : InC m w) {k : Nat} (hk : k < m) : InC m (w ++ [(k : Int)]) := by
  intro x hx
  rcases List.mem_append.1 hx with h1 | h1
  · exact h x h1
  · rw [List.mem_singleton] at h1; subst h1; omega

theorem cartsTo_get (bs : List Box) (w : List Int) (hw : InC 3 w) : ∀ i, i ≤ w.length → ∀ c : Nat, c < 3 → (cartsTo bs w i).get c = ⟨cntTo w c i, cartTo bs w c i⟩
  | 0, _, c, _ => carts0_get c
  | i + 1, hi, c, hc => by
    have hm := hw _ (getD_mem (l := w) (i := i) (by omega))
    generalize hv : w.getD i default = v at hm
    rw [cartsTo, cntTo, cartTo, hv]
    by_cases h : v = c
    · rw [if_pos h, if_pos h, h, show ((c : Int)).toNat = c from rfl, Carts_get_set, addC, cartsTo_get bs w hw i (by omega) c hc]
    · rw [if_neg h, if_neg h, Carts_get_ne _ _ _ _ hc (by omega) (by omega), cartsTo_get bs w hw i (by omega) c hc]

theorem plusR_get' (s : Sums) (held : List (Int × Int)) (k : Nat) (hk : k < held.length) (h3 : held.length ≤ 3) : (plusR s held).get k = addS (s.get k) (held.getD k default) := by
  match held, k with
  | [], _ => simp at hk
  | [x], 0 => rfl
  | [x, y], 0 => rfl
  | [x, y], 1 => rfl
  | [x, y, z], 0 => rfl
  | [x, y, z], 1 => rfl
  | [x, y, z], 2 => rfl
  | x :: y :: z :: t :: r, _ => simp at h3

/-- Boxes and bills whose spans are spans. -/
structure Pos (bs : List Box) (cs : List Bill) : Prop where
  nc : cs.length ≤ 3
  lc : ∀ c ∈ cs, c.2.length ≤ 3
  lb : ∀ b ∈ bs, ∀ c ∈ cs, b.length = c.2.length
  ob : ∀ b ∈ bs, ∀ x ∈ b, 0 ≤ x.1 ∧ x.1 ≤ x.2
  oc : ∀ c ∈ cs, ∀ x ∈ c.2, x.1 ≤ x.2

theorem sums0_get (k : Nat) : (default : Sums).get k = (0, 0) := by
  match k with
  | 0 => rfl
  | 1 => rfl
  | k + 2 => rfl

theorem cartTo_get {bs : List Box} (w : List Int) (c : Int) (k : Nat) (hk : ∀ b ∈ bs, k < b.length) (h3 : ∀ b ∈ bs, b.length ≤ 3) : ∀ i, i ≤ bs.length → (cartTo bs w c i).get k = sumR bs w c k 0 i
  | 0, _ => sums0_get k
  | i + 1, hi => by
    have hm := getD_mem (l := bs) (i := i) (by omega)
    rw [cartTo, sumR, Nat.zero_testBit, if_neg (by decide : ¬ (false = true))]
    split
    · rw [plusR_get' _ _ _ (hk _ hm) (h3 _ hm), cartTo_get w c k hk h3 i (by omega)]
    · exact cartTo_get w c k hk h3 i (by omega)

theorem sumR_mono {bs : List Box} (w : List Int) (c : Int) (k : Nat) (hk : ∀ b ∈ bs, k < b.length) (ho : ∀ b ∈ bs, ∀ x ∈ b, 0 ≤ x.1 ∧ x.1 ≤ x.2) (i : Nat) : ∀ j, i + j ≤ bs.length → (sumR bs w c k 0 i).1 ≤ (sumR bs w c k 0 (i + j)).1
  | 0, _ => Int.le_refl _
  | j + 1, h => by
    have h1 := sumR_mono w c k hk ho i j (by omega)
    have hm := getD_mem (l := bs) (i := i + j) (by omega)
    have h2 := ho _ hm _ (getD_mem (hk _ hm))
    rw [← Nat.add_assoc, sumR, Nat.zero_testBit, if_neg (by decide : ¬ (false = true))]
    split
    · simp only [addS]; omega
    · exact h1

theorem sumR_le {bs : List Box} (w : List Int) (c : Int) (k : Nat) (hk : ∀ b ∈ bs, k < b.length) (ho : ∀ b ∈ bs, ∀ x ∈ b, 0 ≤ x.1 ∧ x.1 ≤ x.2) : ∀ i, i ≤ bs.length → 0 ≤ (sumR bs w c k 0 i).1 ∧ (sumR bs w c k 0 i).1 ≤ (sumR bs w c k 0 i).2
  | 0, _ => by simp [sumR]
  | i + 1, h => by
    have h1 := sumR_le w c k hk ho i (by omega)
    have hm := getD_mem (l := bs) (i := i) (by omega)
    have h2 := ho _ hm _ (getD_mem (hk _ hm))
    rw [sumR, Nat.zero_testBit, if_neg (by decide : ¬ (false = true))]
    split
    · simp only [addS]; omega
    · exact h1

theorem cntTo_mono (w : List Int) (c : Int) (i : Nat) : ∀ j, cntTo w c i ≤ cntTo w c (i + j)
  | 0 => Int.le_refl _
  | j + 1 => by
    have h1 := cntTo_mono w c i j
    rw [← Nat.add_assoc, cntTo]; split <;> omega

theorem cntTo_congr {w v : List Int} (c : Int) : ∀ i, (∀ j, j < i → w.getD j default = v.getD j default) → cntTo w c i = cntTo v c i
  | 0, _ => rfl
  | i + 1, h => by rw [cntTo, cntTo, h i (by omega), cntTo_congr c i fun j hj => h j (by omega)]
theorem sumR_congr {bs : List Box} {w v : List Int} (c : Int) (k set : Nat) : ∀ i, (∀ j, j < i → w.getD j default = v.getD j default) → sumR bs w c k set i = sumR bs v c k set i
  | 0, _ => rfl
  | i + 1, h => by rw [sumR, sumR, h i (by omega), sumR_congr c k set i fun j hj => h j (by omega)]
theorem cartsTo_congr {bs : List Box} {w v : List Int} : ∀ i, (∀ j, j < i → w.getD j default = v.getD j default) → cartsTo bs w i = cartsTo bs v i
  | 0, _ => rfl
  | i + 1, h => by rw [cartsTo, cartsTo, h i (by omega), cartsTo_congr i fun j hj => h j (by omega)]
theorem getD_pre {w v : List Int} (h : w <+: v) {j : Nat} (hj : j < w.length) : w.getD j default = v.getD j default := by
  obtain ⟨r, rfl⟩ := h
  simp only [List.getD_eq_getElem?_getD, List.getElem?_append_left hj]

theorem mayR_carr {bs : List Box} {cs : List Bill} (hp : Pos bs cs) (w : List Int) (hw : w.length = bs.length) {c : Nat} (hc : c < cs.length) : mayR ⟨cntTo w c w.length, cartTo bs w c w.length⟩ (cs.getD c default) = carrOk bs cs w 0 c := by
  have hm := getD_mem hc
  unfold mayR carrOk
  refine congrArg _ (Bool.eq_iff_iff.2 ?_)
  simp only [List.all_eq_true]
  refine forall_congr' fun k => imp_congr_right fun hk => ?_
  have hk' := List.mem_range.1 hk
  have hkb : ∀ b ∈ bs, k < b.length := fun b hb => by rw [hp.lb b hb _ hm]; exact hk'
  have h3b : ∀ b ∈ bs, b.length ≤ 3 := fun b hb => by rw [hp.lb b hb _ hm]; exact hp.lc _ hm
  have h1 := hp.oc _ hm _ (getD_mem hk')
  have h2 := sumR_le w c k hkb hp.ob w.length (by omega)
  simp only [stuffOk, cartTo_get w c k hkb h3b w.length (by omega), Bool.and_eq_true, decide_eq_true_eq]
  omega

/-- A beginning by which a carrier has too much is no way's. -/
theorem over_no {bs : List Box} {cs : List Bill} (hp : Pos bs cs) {now w : List Int} (hpre : now <+: w) (hw : w.length = bs.length) {c : Nat} (hc : c < cs.length)
    (h : overR ⟨cntTo now c now.length, cartTo bs now c now.length⟩ (cs.getD c default) = true) : wayR bs cs w 0 = false := by
  have hm := getD_mem hc
  have hle := hpre.length_le
  have hcn : cntTo now c now.length ≤ cntTo w c w.length := by
    rw [cntTo_congr (v := w) c now.length fun j hj => getD_pre hpre hj]
    have := cntTo_mono w c now.length (w.length - now.length)
    rwa [show now.length + (w.length - now.length) = w.length from by omega] at this
  refine List.all_eq_false.2 ⟨c, List.mem_range.2 hc, ?_⟩
  rw [Bool.not_eq_true]
  unfold carrOk
  unfold overR at h
  simp only [Bool.or_eq_true, decide_eq_true_eq, List.any_eq_true, List.mem_range] at h
  rcases h with h | ⟨k, hk', h⟩
  · rw [beq_eq_false_iff_ne.2 (by omega), Bool.false_and]
  · rw [Bool.and_eq_false_iff]; right
    refine List.all_eq_false.2 ⟨k, List.mem_range.2 hk', ?_⟩
    have hkb : ∀ b ∈ bs, k < b.length := fun b hb => by rw [hp.lb b hb _ hm]; exact hk'
    have h3b : ∀ b ∈ bs, b.length ≤ 3 := fun b hb => by rw [hp.lb b hb _ hm]; exact hp.lc _ hm
    rw [cartTo_get now c k hkb h3b now.length (by omega), sumR_congr (v := w) c k 0 now.length fun j hj => getD_pre hpre hj] at h
    have := sumR_mono w c k hkb hp.ob now.length (w.length - now.length) (by omega)
    rw [show now.length + (w.length - now.length) = w.length from by omega] at this
    simp only [stuffOk, decide_eq_true_eq]; omega

theorem refW_nil {bs : List Box} {cs : List Bill} {set : Nat} : ∀ (r : Nat) (now : List Int), (∀ w, now <+: w → w.length = now.length + r → wayR bs cs w set = false) → refW bs cs set r now = []
  | 0, now, h => by rw [refW, h now (List.prefix_refl _) rfl]; rfl
  | r + 1, now, h => by
    rw [refW, List.flatMap_eq_nil_iff]
    intro c _
    exact refW_nil r _ fun w hw hl => h w (List.IsPrefix.trans (List.prefix_append _ _) hw) (by rw [hl]; simp; omega)

theorem flat_congr {α : Type} {f g : Nat → List α} : ∀ n, (∀ k, k < n → f k = g k) → (List.range n).flatMap f = (List.range n).flatMap g
  | 0, _ => by simp
  | n + 1, h => by
    rw [List.range_succ, List.flatMap_append, List.flatMap_append, flat_congr n fun k hk => h k (by omega), List.flatMap_cons, List.flatMap_cons, h n (by omega)]; rfl

theorem drop_consA {α : Type} [Inhabited α] {l : List α} {x : Nat} (h : x < l.length) : l.drop x = l.getD x default :: l.drop (x + 1) := by
  rw [getD_default h]; exact List.drop_eq_getElem_cons h

theorem waysG_refW {bs : List Box} {cs : List Bill} (hp : Pos bs cs) : ∀ (rest : List Box) (now : List Int), bs.drop now.length = rest → now.length ≤ bs.length → InC cs.length now → waysG cs rest now (cartsTo bs now now.length) = refW bs cs 0 rest.length now
  | [], now, hr, hn, hi => by
    have hl : now.length = bs.length := by
      have := List.drop_eq_nil_iff.1 hr; omega
    have hi3 : InC 3 now := fun x hx => by have := hi x hx; have := hp.nc; omega
    rw [waysG, List.length_nil, refW]
    have : allMay cs (cartsTo bs now now.length) = wayR bs cs now 0 := by
      unfold allMay wayR
      refine Bool.eq_iff_iff.2 ?_
      simp only [List.all_eq_true]
      refine forall_congr' fun c => imp_congr_right fun hc => ?_
      have hc' := List.mem_range.1 hc
      have := hp.nc
      rw [cartsTo_get bs now hi3 _ (Nat.le_refl _) c (by omega), mayR_carr hp now hl hc']
    rw [this]
  | b :: rest, now, hr, hn, hi => by
    have hlt : now.length < bs.length := by
      rcases Nat.lt_or_ge now.length bs.length with h | h
      · exact h
      · rw [List.drop_eq_nil_of_le h] at hr; cases hr
    have hb : bs.getD now.length default = b := by
      rw [drop_consA hlt] at hr; exact (List.cons.inj hr).1
    have hr' : bs.drop (now.length + 1) = rest := by
      rw [drop_consA hlt] at hr; exact (List.cons.inj hr).2
    have hlr : rest.length = bs.length - (now.length + 1) := by rw [← hr', List.length_drop]
    rw [waysG, List.length_cons, refW]
    refine flat_congr _ fun k hk => ?_
    have h3 := hp.nc
    have hlen : (now ++ [(k : Int)]).length = now.length + 1 := by simp
    have hi' : InC cs.length (now ++ [(k : Int)]) := hi.snoc hk
    have hi3 : InC 3 (now ++ [(k : Int)]) := fun x hx => by have := hi' x hx; omega
    have hat : (now ++ [(k : Int)]).getD now.length default = k := by simp
    have hc : cartsTo bs (now ++ [(k : Int)]) (now.length + 1) = (cartsTo bs now now.length).set k (addC (cartsTo bs now now.length) k b) := by
      rw [cartsTo, hat, show ((k : Int)).toNat = k from rfl, hb, cartsTo_congr (v := now) now.length fun j hj => (getD_pre (List.prefix_append _ _) hj).symm]
    have hg : addC (cartsTo bs now now.length) k b = ⟨cntTo (now ++ [(k : Int)]) k (now.length + 1), cartTo bs (now ++ [(k : Int)]) k (now.length + 1)⟩ := by
      rw [← cartsTo_get bs (now ++ [(k : Int)]) hi3 (now.length + 1) (by omega) k (by omega), hc, Carts_get_set]
    split
    · rename_i ho
      rw [hg, ← hlen] at ho
      exact (refW_nil _ _ fun w hw hl => over_no hp hw (by rw [hl, hlen, hlr]; omega) hk ho).symm
    · rw [← hc, ← hlen]
      exact waysG_refW hp rest _ (by rw [hlen]; exact hr') (by omega) hi'

theorem allW_refW {bs : List Box} {cs : List Bill} (hp : Pos bs cs) : allW bs cs = refW bs cs 0 bs.length [] := by
  have := waysG_refW hp bs [] rfl (Nat.zero_le _) (fun x hx => by cases hx)
  exact this

theorem Good.pos {bs : List Box} {cs : List Bill} (hg : Good bs cs) : Pos bs cs := by
  have := hg.st
  refine ⟨hg.nc, fun c hc => by have := hg.lc c hc; omega, fun b hb c hc => by rw [hg.lb b hb, hg.lc c hc], fun b hb x hx => ?_, fun c hc x hx => ?_⟩
  · have := spanOk_small (hg.ob b hb x hx); omega
  · have := spanOk_small (hg.oc c hc x hx); omega

theorem spoil_at (bs : List Box) (set i : Nat) (hi : i < bs.length) : (spoil bs set).getD i default = if set.testBit i then spoilB (bs.getD i default) else bs.getD i default := by
  rw [getD_default (by rw [spoil_len]; exact hi), getD_default hi]
  simp only [spoil, List.getElem_mapIdx]

theorem spoil_mem {bs : List Box} {set : Nat} {b : Box} (hb : b ∈ spoil bs set) : ∃ a ∈ bs, b = spoilB a ∨ b = a := by
  obtain ⟨i, hi, rfl⟩ := List.mem_iff_getElem.1 hb
  have hi2 : i < bs.length := by rw [spoil_len] at hi; exact hi
  refine ⟨bs[i], List.getElem_mem hi2, ?_⟩
  simp only [spoil, List.getElem_mapIdx]
  split
  · exact .inl rfl
  · exact .inr rfl

theorem Pos.spoil {bs : List Box} {cs : List Bill} (h : Pos bs cs) (k : Nat) : Pos (Aw.spoil bs k) cs := by
  refine ⟨h.nc, h.lc, fun b hb c hc => ?_, fun b hb x hx => ?_, h.oc⟩
  · obtain ⟨a, ha, rfl | rfl⟩ := spoil_mem hb
    · rw [spoilB, List.length_replicate]; exact h.lb a ha c hc
    · exact h.lb _ ha c hc
  · obtain ⟨a, ha, rfl | rfl⟩ := spoil_mem hb
    · rw [List.eq_of_mem_replicate hx]; decide
    · exact h.ob _ ha x hx

theorem sumR_spoil {bs : List Box} (w : List Int) (c : Int) (k set : Nat) (hk : ∀ b ∈ bs, k < b.length) (ho : ∀ b ∈ bs, ∀ x ∈ b, 0 ≤ x.1 ∧ x.1 ≤ x.2) : ∀ i, i ≤ bs.length →
    (sumR bs w c k set i).1 = (sumR (spoil bs set) w c k 0 i).1 ∧ 0 ≤ (sumR bs w c k set i).2 ∧ 0 ≤ (sumR (spoil bs set) w c k 0 i).2 ∧ ((sumR bs w c k set i).2 = (sumR (spoil bs set) w c k 0 i).2 ∨ (10000 ≤ (sumR bs w c k set i).2 ∧ 10000 ≤ (sumR (spoil bs set) w c k 0 i).2))
  | 0, _ => by simp [sumR]
  | i + 1, h => by
    have h1 := sumR_spoil w c k set hk ho i (by omega)
    have hm := getD_mem (l := bs) (i := i) (by omega)
    have h2 := ho _ hm _ (getD_mem (hk _ hm))
    rw [sumR, sumR, Nat.zero_testBit, if_neg (by decide : ¬ (false = true)), spoil_at bs set i (by omega)]
    split
    · split
      · have : (spoilB (bs.getD i default)).getD k default = (0, 10000) := by
          rw [getD_default (by rw [spoilB, List.length_replicate]; exact hk _ hm)]
          simp [spoilB]
        rw [this]
        simp only [addS]; omega
      · simp only [addS]; omega
    · exact h1

theorem wayR_spoil {bs : List Box} {cs : List Bill} (hg : Good bs cs) (w : List Int) (hw : w.length = bs.length) (set : Nat) : wayR (spoil bs set) cs w 0 = wayR bs cs w set := by
  have hp := hg.pos
  unfold wayR
  refine Bool.eq_iff_iff.2 ?_
  simp only [List.all_eq_true]
  refine forall_congr' fun c => imp_congr_right fun hc => ?_
  have hm := getD_mem (List.mem_range.1 hc)
  unfold carrOk
  rw [Bool.and_eq_true, Bool.and_eq_true]
  refine and_congr_right fun _ => ?_
  simp only [List.all_eq_true]
  refine forall_congr' fun k => imp_congr_right fun hk => ?_
  have hk' := List.mem_range.1 hk
  have hkb : ∀ b ∈ bs, k < b.length := fun b hb => by rw [hp.lb b hb _ hm]; exact hk'
  have hkb' : ∀ b ∈ spoil bs set, k < b.length := fun b hb => by rw [(hp.spoil set).lb b hb _ hm]; exact hk'
  have h1 := sumR_spoil w c k set hkb hp.ob w.length (by omega)
  have h2 := sumR_le w c k hkb' (hp.spoil set).ob w.length (by rw [spoil_len]; omega)
  have h3 := spanOk_small (hg.oc _ hm _ (getD_mem hk'))
  simp only [stuffOk, decide_eq_true_eq]
  omega

theorem refW_congr {bs bs' : List Box} {cs : List Bill} {s s' : Nat} : ∀ (r : Nat) (now : List Int), (∀ w, now <+: w → w.length = now.length + r → wayR bs cs w s = wayR bs' cs w s') → refW bs cs s r now = refW bs' cs s' r now
  | 0, now, h => by rw [refW, refW, h now (List.prefix_refl _) rfl]
  | r + 1, now, h => by
    rw [refW, refW]
    refine flat_congr _ fun c _ => ?_
    exact refW_congr r _ fun w hw hl => h w (List.IsPrefix.trans (List.prefix_append _ _) hw) (by rw [hl]; simp; omega)

theorem isPos_refW {bs : List Box} {cs : List Bill} (hg : Good bs cs) (k : Nat) : isPos bs cs k = !(refW bs cs k bs.length []).isEmpty := by
  rw [isPos, allW_refW (hg.pos.spoil k), spoil_len]
  rw [refW_congr (bs := spoil bs k) (bs' := bs) (s := 0) (s' := k) bs.length [] fun w _ hl => wayR_spoil hg w (by simpa using hl) k]
end Go.Aw
end
section
set_option linter.unusedVariables false
set_option linter.unusedSimpArgs false
set_option maxRecDepth 20000
set_option maxHeartbeats 4000000
/-! The law's known answers. -/
namespace Go.Aw
open Go.RowKit Go.Proofs

theorem kFits (a b : Int) : Fits knownB (knownC a b) := by
  constructor <;> simp [knownB, knownC]
theorem kCheck1 : checkR knownB (knownC 41 42) = 0 := by decide +kernel
theorem kCheck2 : checkR knownB (knownC 50 60) = 0 := by decide +kernel
theorem kWays1 : allW knownB (knownC 41 42) = [[0, 0, 1, 1], [1, 0, 0, 1]] := by decide +kernel
theorem kWays2 : allW knownB (knownC 50 60) = [] := by decide +kernel
theorem kNe : allW knownB (knownC 41 42) ≠ [] := by rw [kWays1]; exact List.cons_ne_nil _ _
theorem Ct.cast {P : Program} {g : FuncId} {av : List V} {r r' : V} (h : Ct P g av r) (e : r = r') : Ct P g av r' := e ▸ h

theorem k_Ways : Ct Tryd.prog 18 [encLoad knownB (knownC 41 42)] (.tup [int 2, .sl 1 (([0, 0, 1, 1] : List Int).map encI) false, int 0]) :=
  Ct.cast (Ways_ok _ _ (kFits 41 42) kCheck1 kNe) (by rw [kWays1]; rfl)
theorem k_Can : Ct Tryd.prog 19 [encLoad knownB (knownC 41 42)] (.tup [.sl 1 (([3, 1, 3, 2] : List Int).map encI) true, int 0]) :=
  Ct.cast (Can_ok _ _ (kFits 41 42) kCheck1 kNe) (by rw [kWays1, show canI [[0, 0, 1, 1], [1, 0, 0, 1]] knownB.length ([[0, 0, 1, 1], [1, 0, 0, 1]] : List (List Int)).length = [3, 1, 3, 2] from by decide +kernel])
theorem k_Tog1 : Ct Tryd.prog 24 [encLoad knownB (knownC 41 42), int 1, int 3] (.tup [.lit (.bool false), .lit (.bool false), int 0]) :=
  Ct.cast (Together_ok _ _ 1 3 (kFits 41 42) kCheck1 kNe (by decide +kernel) (by decide)) (by rw [kWays1]; rfl)
theorem k_Tog2 : Ct Tryd.prog 24 [encLoad knownB (knownC 41 42), int 0, int 1] (.tup [.lit (.bool false), .lit (.bool true), int 0]) :=
  Ct.cast (Together_ok _ _ 0 1 (kFits 41 42) kCheck1 kNe (by decide +kernel) (by decide)) (by rw [kWays1]; rfl)
theorem k_Worth : Ct Tryd.prog 26 [encLoad knownB (knownC 41 42), int 1] (.tup [int 2, int 0]) :=
  Ct.cast (Worth_ok _ _ 1 (kFits 41 42) kCheck1 kNe (by decide)) (by rw [kWays1]; rfl)
theorem k_Ask : Ct Tryd.prog 27 [encLoad knownB (knownC 41 42)] (.tup [int 0, int 1, int 0]) :=
  Ct.cast (Ask_ok _ _ (kFits 41 42) kCheck1 (by rw [kWays1]; decide)) (by rw [kWays1, show askTo [[0, 0, 1, 1], [1, 0, 0, 1]] knownB.length = (0, 1) from by decide +kernel])
theorem k_Questions : Ct Tryd.prog 29 [encLoad knownB (knownC 41 42)] (.tup [int 1, int 0, int 0]) :=
  Ct.cast (Questions_ok _ _ (kFits 41 42) kCheck1 kNe (by rw [kWays1]; decide) 1 (by rw [kWays1]; decide +kernel) (by rw [kWays1]; decide +kernel)) (by rw [kWays1, show (decR knownB.length 1 [[0, 0, 1, 1], [1, 0, 0, 1]]).1 = 0 from by decide +kernel]; rfl)
theorem k_Wrong : Ct Tryd.prog 31 [encLoad knownB (knownC 50 60)] (.tup [.sl 1 (([0] : List Int).map encI) false, int 0]) :=
  Ct.cast (Wrong_ok _ _ (kFits 50 60) kCheck2 kWays2) (by rw [show wrongTo (isPos knownB (knownC 50 60)) (2 ^ knownB.length) = some [0] from by decide +kernel]; rfl)
theorem k_Short : Ct Tryd.prog 33 [encLoad knownB (knownC 41 42)] (.tup [.sl 2 (([(-3, 4)] : List (Int × Int)).map encS) false, int 0]) :=
  Ct.cast (Short_ok _ _ (kFits 41 42) kCheck1) (by rw [show shorts knownB (knownC 41 42) (stuffs (knownC 41 42)) = [(-3, 4)] from by decide +kernel])
theorem k_Share : Ct Tryd.prog 34 [encLoad knownB (knownC 41 42), int 1, int 0] (.tup [.agg (encS (41, 42)), int 0]) :=
  Ct.cast (Share_ok _ _ 1 0 (kFits 41 42) kCheck1 kNe (by decide) (by decide)) (by rw [kWays1, show shareTo knownB (knownC 41 42) 1 0 [[0, 0, 1, 1], [1, 0, 0, 1]] ([[0, 0, 1, 1], [1, 0, 0, 1]] : List (List Int)).length = (41, 42) from by decide +kernel])
theorem k_No : Ct Tryd.prog 18 [encLoad knownB (knownC 50 60)] (.tup [int 0, nilV, int 9]) := Ways_no _ _ (kFits 50 60) 9 (.none kCheck2 kWays2)
theorem kPu (a b : Int) : Pu (encLoad knownB (knownC a b)) := by first | assumption | (simp only [go_sem] <;> assumption) | (simp only [go_sem, *]; done) | (simp [go_sem]; done)

theorem known_spec : Ct Tryd.prog 15 [] (.lit (.bool true)) := by
  have h1 := load_spec 41 42
  have h2 := load_spec 50 60
  refine ct_enterZ Tryd.func15 rfl (by decide) Tryd.results15 Tryd.ntmps15 ?_ rfl (by simp (maxSteps := 1000000) -implicitDefEqProofs (disch := omega) only [go_sem]; rfl) fun base => ?_
  · first | assumption | (simp only [go_sem] <;> assumption) | (simp only [go_sem, *]; done) | (simp [go_sem]; done)
  repeat' (first
    | (with_reducible apply Req_intro); focus (first | omega | assumption | (simp; done))
    | with_reducible (first | apply Req_intro | refine nilT ?_ fun hn => ?_ | apply wk_draw Tryd_mixed | refine drawEnd (by kernel_rfl) ?_)
    | (with_reducible (first | apply condA_if | apply stepDG_ifN | apply stepDG_if | apply stepG_ifN | apply stepG_if)) <;> intro hb <;> (have hif := hb) <;> (try simp only [bo] at hif) <;> (try simp -implicitDefEqProofs (disch := omega) only [go_sem, hb]) <;> clear hb
    | simp (maxSteps := 1000000) -implicitDefEqProofs (disch := omega) only [go_sem])
  refine callp h1 ?_
  try simp (maxSteps := 1000000) -implicitDefEqProofs (disch := omega) only [go_sem]
  repeat' (first
    | (with_reducible apply Req_intro); focus (first | omega | assumption | (simp; done))
    | with_reducible (first | apply Req_intro | refine nilT ?_ fun hn => ?_ | apply wk_draw Tryd_mixed | refine drawEnd (by kernel_rfl) ?_)
    | (with_reducible (first | apply condA_if | apply stepDG_ifN | apply stepDG_if | apply stepG_ifN | apply stepG_if)) <;> intro hb <;> (have hif := hb) <;> (try simp only [bo] at hif) <;> (try simp -implicitDefEqProofs (disch := omega) only [go_sem, hb]) <;> clear hb
    | simp (maxSteps := 1000000) -implicitDefEqProofs (disch := omega) only [go_sem])
  refine callp k_Ways ?_
  try simp (maxSteps := 1000000) -implicitDefEqProofs (disch := omega) only [go_sem]
  repeat' (first
    | (with_reducible apply Req_intro); focus (first | omega | assumption | (simp; done))
    | with_reducible (first | apply Req_intro | refine nilT ?_ fun hn => ?_ | apply wk_draw Tryd_mixed | refine drawEnd (by kernel_rfl) ?_)
    | (with_reducible (first | apply condA_if | apply stepDG_ifN | apply stepDG_if | apply stepG_ifN | apply stepG_if)) <;> intro hb <;> (have hif := hb) <;> (try simp only [bo] at hif) <;> (try simp -implicitDefEqProofs (disch := omega) only [go_sem, hb]) <;> clear hb
    | simp (maxSteps := 1000000) -implicitDefEqProofs (disch := omega) only [go_sem])
  refine callp h1 ?_
  try simp (maxSteps := 1000000) -implicitDefEqProofs (disch := omega) only [go_sem]
  repeat' (first
    | (with_reducible apply Req_intro); focus (first | omega | assumption | (simp; done))
    | with_reducible (first | apply Req_intro | refine nilT ?_ fun hn => ?_ | apply wk_draw Tryd_mixed | refine drawEnd (by kernel_rfl) ?_)
    | (with_reducible (first | apply condA_if | apply stepDG_ifN | apply stepDG_if | apply stepG_ifN | apply stepG_if)) <;> intro hb <;> (have hif := hb) <;> (try simp only [bo] at hif) <;> (try simp -implicitDefEqProofs (disch := omega) only [go_sem, hb]) <;> clear hb
    | simp (maxSteps := 1000000) -implicitDefEqProofs (disch := omega) only [go_sem])
  refine callp k_Can ?_
  try simp (maxSteps := 1000000) -implicitDefEqProofs (disch := omega) only [go_sem]
  repeat' (first
    | (with_reducible apply Req_intro); focus (first | omega | assumption | (simp; done))
    | with_reducible (first | apply Req_intro | refine nilT ?_ fun hn => ?_ | apply wk_draw Tryd_mixed | refine drawEnd (by kernel_rfl) ?_)
    | (with_reducible (first | apply condA_if | apply stepDG_ifN | apply stepDG_if | apply stepG_ifN | apply stepG_if)) <;> intro hb <;> (have hif := hb) <;> (try simp only [bo] at hif) <;> (try simp -implicitDefEqProofs (disch := omega) only [go_sem, hb]) <;> clear hb
    | simp (maxSteps := 1000000) -implicitDefEqProofs (disch := omega) only [go_sem])
  refine callp h1 ?_
  try simp (maxSteps := 1000000) -implicitDefEqProofs (disch := omega) only [go_sem]
  repeat' (first
    | (with_reducible apply Req_intro); focus (first | omega | assumption | (simp; done))
    | with_reducible (first | apply Req_intro | refine nilT ?_ fun hn => ?_ | apply wk_draw Tryd_mixed | refine drawEnd (by kernel_rfl) ?_)
    | (with_reducible (first | apply condA_if | apply stepDG_ifN | apply stepDG_if | apply stepG_ifN | apply stepG_if)) <;> intro hb <;> (have hif := hb) <;> (try simp only [bo] at hif) <;> (try simp -implicitDefEqProofs (disch := omega) only [go_sem, hb]) <;> clear hb
    | simp (maxSteps := 1000000) -implicitDefEqProofs (disch := omega) only [go_sem])
  refine callp k_Tog1 ?_
  try simp (maxSteps := 1000000) -implicitDefEqProofs (disch := omega) only [go_sem]
  repeat' (first
    | (with_reducible apply Req_intro); focus (first | omega | assumption | (simp; done))
    | with_reducible (first | apply Req_intro | refine nilT ?_ fun hn => ?_ | apply wk_draw Tryd_mixed | refine drawEnd (by kernel_rfl) ?_)
    | (with_reducible (first | apply condA_if | apply stepDG_ifN | apply stepDG_if | apply stepG_ifN | apply stepG_if)) <;> intro hb <;> (have hif := hb) <;> (try simp only [bo] at hif) <;> (try simp -implicitDefEqProofs (disch := omega) only [go_sem, hb]) <;> clear hb
    | simp (maxSteps := 1000000) -implicitDefEqProofs (disch := omega) only [go_sem])
  refine callp h1 ?_
  try simp (maxSteps := 1000000) -implicitDefEqProofs (disch := omega) only [go_sem]
  repeat' (first
    | (with_reducible apply Req_intro); focus (first | omega | assumption | (simp; done))
    | with_reducible (first | apply Req_intro | refine nilT ?_ fun hn => ?_ | apply wk_draw Tryd_mixed | refine drawEnd (by kernel_rfl) ?_)
    | (with_reducible (first | apply condA_if | apply stepDG_ifN | apply stepDG_if | apply stepG_ifN | apply stepG_if)) <;> intro hb <;> (have hif := hb) <;> (try simp only [bo] at hif) <;> (try simp -implicitDefEqProofs (disch := omega) only [go_sem, hb]) <;> clear hb
    | simp (maxSteps := 1000000) -implicitDefEqProofs (disch := omega) only [go_sem])
  refine callp k_Tog2 ?_
  try simp (maxSteps := 1000000) -implicitDefEqProofs (disch := omega) only [go_sem]
  repeat' (first
    | (with_reducible apply Req_intro); focus (first | omega | assumption | (simp; done))
    | with_reducible (first | apply Req_intro | refine nilT ?_ fun hn => ?_ | apply wk_draw Tryd_mixed | refine drawEnd (by kernel_rfl) ?_)
    | (with_reducible (first | apply condA_if | apply stepDG_ifN | apply stepDG_if | apply stepG_ifN | apply stepG_if)) <;> intro hb <;> (have hif := hb) <;> (try simp only [bo] at hif) <;> (try simp -implicitDefEqProofs (disch := omega) only [go_sem, hb]) <;> clear hb
    | simp (maxSteps := 1000000) -implicitDefEqProofs (disch := omega) only [go_sem])
  refine callp h1 ?_
  try simp (maxSteps := 1000000) -implicitDefEqProofs (disch := omega) only [go_sem]
  repeat' (first
    | (with_reducible apply Req_intro); focus (first | omega | assumption | (simp; done))
    | with_reducible (first | apply Req_intro | refine nilT ?_ fun hn => ?_ | apply wk_draw Tryd_mixed | refine drawEnd (by kernel_rfl) ?_)
    | (with_reducible (first | apply condA_if | apply stepDG_ifN | apply stepDG_if | apply stepG_ifN | apply stepG_if)) <;> intro hb <;> (have hif := hb) <;> (try simp only [bo] at hif) <;> (try simp -implicitDefEqProofs (disch := omega) only [go_sem, hb]) <;> clear hb
    | simp (maxSteps := 1000000) -implicitDefEqProofs (disch := omega) only [go_sem])
  refine callp k_Worth ?_
  try simp (maxSteps := 1000000) -implicitDefEqProofs (disch := omega) only [go_sem]
  repeat' (first
    | (with_reducible apply Req_intro); focus (first | omega | assumption | (simp; done))
    | with_reducible (first | apply Req_intro | refine nilT ?_ fun hn => ?_ | apply wk_draw Tryd_mixed | refine drawEnd (by kernel_rfl) ?_)
    | (with_reducible (first | apply condA_if | apply stepDG_ifN | apply stepDG_if | apply stepG_ifN | apply stepG_if)) <;> intro hb <;> (have hif := hb) <;> (try simp only [bo] at hif) <;> (try simp -implicitDefEqProofs (disch := omega) only [go_sem, hb]) <;> clear hb
    | simp (maxSteps := 1000000) -implicitDefEqProofs (disch := omega) only [go_sem])
  refine callp h1 ?_
  try simp (maxSteps := 1000000) -implicitDefEqProofs (disch := omega) only [go_sem]
  repeat' (first
    | (with_reducible apply Req_intro); focus (first | omega | assumption | (simp; done))
    | with_reducible (first | apply Req_intro | refine nilT ?_ fun hn => ?_ | apply wk_draw Tryd_mixed | refine drawEnd (by kernel_rfl) ?_)
    | (with_reducible (first | apply condA_if | apply stepDG_ifN | apply stepDG_if | apply stepG_ifN | apply stepG_if)) <;> intro hb <;> (have hif := hb) <;> (try simp only [bo] at hif) <;> (try simp -implicitDefEqProofs (disch := omega) only [go_sem, hb]) <;> clear hb
    | simp (maxSteps := 1000000) -implicitDefEqProofs (disch := omega) only [go_sem])
  refine callp k_Ask ?_
  try simp (maxSteps := 1000000) -implicitDefEqProofs (disch := omega) only [go_sem]
  repeat' (first
    | (with_reducible apply Req_intro); focus (first | omega | assumption | (simp; done))
    | with_reducible (first | apply Req_intro | refine nilT ?_ fun hn => ?_ | apply wk_draw Tryd_mixed | refine drawEnd (by kernel_rfl) ?_)
    | (with_reducible (first | apply condA_if | apply stepDG_ifN | apply stepDG_if | apply stepG_ifN | apply stepG_if)) <;> intro hb <;> (have hif := hb) <;> (try simp only [bo] at hif) <;> (try simp -implicitDefEqProofs (disch := omega) only [go_sem, hb]) <;> clear hb
    | simp (maxSteps := 1000000) -implicitDefEqProofs (disch := omega) only [go_sem])
  refine callp h1 ?_
  try simp (maxSteps := 1000000) -implicitDefEqProofs (disch := omega) only [go_sem]
  repeat' (first
    | (with_reducible apply Req_intro); focus (first | omega | assumption | (simp; done))
    | with_reducible (first | apply Req_intro | refine nilT ?_ fun hn => ?_ | apply wk_draw Tryd_mixed | refine drawEnd (by kernel_rfl) ?_)
    | (with_reducible (first | apply condA_if | apply stepDG_ifN | apply stepDG_if | apply stepG_ifN | apply stepG_if)) <;> intro hb <;> (have hif := hb) <;> (try simp only [bo] at hif) <;> (try simp -implicitDefEqProofs (disch := omega) only [go_sem, hb]) <;> clear hb
    | simp (maxSteps := 1000000) -implicitDefEqProofs (disch := omega) only [go_sem])
  refine callp k_Questions ?_
  try simp (maxSteps := 1000000) -implicitDefEqProofs (disch := omega) only [go_sem]
  repeat' (first
    | (with_reducible apply Req_intro); focus (first | omega | assumption | (simp; done))
    | with_reducible (first | apply Req_intro | refine nilT ?_ fun hn => ?_ | apply wk_draw Tryd_mixed | refine drawEnd (by kernel_rfl) ?_)
    | (with_reducible (first | apply condA_if | apply stepDG_ifN | apply stepDG_if | apply stepG_ifN | apply stepG_if)) <;> intro hb <;> (have hif := hb) <;> (try simp only [bo] at hif) <;> (try simp -implicitDefEqProofs (disch := omega) only [go_sem, hb]) <;> clear hb
    | simp (maxSteps := 1000000) -implicitDefEqProofs (disch := omega) only [go_sem])
  refine callp h2 ?_
  try simp (maxSteps := 1000000) -implicitDefEqProofs (disch := omega) only [go_sem]
  repeat' (first
    | (with_reducible apply Req_intro); focus (first | omega | assumption | (simp; done))
    | with_reducible (first | apply Req_intro | refine nilT ?_ fun hn => ?_ | apply wk_draw Tryd_mixed | refine drawEnd (by kernel_rfl) ?_)
    | (with_reducible (first | apply condA_if | apply stepDG_ifN | apply stepDG_if | apply stepG_ifN | apply stepG_if)) <;> intro hb <;> (have hif := hb) <;> (try simp only [bo] at hif) <;> (try simp -implicitDefEqProofs (disch := omega) only [go_sem, hb]) <;> clear hb
    | simp (maxSteps := 1000000) -implicitDefEqProofs (disch := omega) only [go_sem])
  refine callp k_Wrong ?_
  try simp (maxSteps := 1000000) -implicitDefEqProofs (disch := omega) only [go_sem]
  repeat' (first
    | (with_reducible apply Req_intro); focus (first | omega | assumption | (simp; done))
    | with_reducible (first | apply Req_intro | refine nilT ?_ fun hn => ?_ | apply wk_draw Tryd_mixed | refine drawEnd (by kernel_rfl) ?_)
    | (with_reducible (first | apply condA_if | apply stepDG_ifN | apply stepDG_if | apply stepG_ifN | apply stepG_if)) <;> intro hb <;> (have hif := hb) <;> (try simp only [bo] at hif) <;> (try simp -implicitDefEqProofs (disch := omega) only [go_sem, hb]) <;> clear hb
    | simp (maxSteps := 1000000) -implicitDefEqProofs (disch := omega) only [go_sem])
  refine callp h1 ?_
  try simp (maxSteps := 1000000) -implicitDefEqProofs (disch := omega) only [go_sem]
  repeat' (first
    | (with_reducible apply Req_intro); focus (first | omega | assumption | (simp; done))
    | with_reducible (first | apply Req_intro | refine nilT ?_ fun hn => ?_ | apply wk_draw Tryd_mixed | refine drawEnd (by kernel_rfl) ?_)
    | (with_reducible (first | apply condA_if | apply stepDG_ifN | apply stepDG_if | apply stepG_ifN | apply stepG_if)) <;> intro hb <;> (have hif := hb) <;> (try simp only [bo] at hif) <;> (try simp -implicitDefEqProofs (disch := omega) only [go_sem, hb]) <;> clear hb
    | simp (maxSteps := 1000000) -implicitDefEqProofs (disch := omega) only [go_sem])
  refine callp k_Short ?_
  try simp (maxSteps := 1000000) -implicitDefEqProofs (disch := omega) only [go_sem]
  repeat' (first
    | (with_reducible apply Req_intro); focus (first | omega | assumption | (simp; done))
    | with_reducible (first | apply Req_intro | refine nilT ?_ fun hn => ?_ | apply wk_draw Tryd_mixed | refine drawEnd (by kernel_rfl) ?_)
    | (with_reducible (first | apply condA_if | apply stepDG_ifN | apply stepDG_if | apply stepG_ifN | apply stepG_if)) <;> intro hb <;> (have hif := hb) <;> (try simp only [bo] at hif) <;> (try simp -implicitDefEqProofs (disch := omega) only [go_sem, hb]) <;> clear hb
    | simp (maxSteps := 1000000) -implicitDefEqProofs (disch := omega) only [go_sem])
  refine callp h1 ?_
  try simp (maxSteps := 1000000) -implicitDefEqProofs (disch := omega) only [go_sem]
  repeat' (first
    | (with_reducible apply Req_intro); focus (first | omega | assumption | (simp; done))
    | with_reducible (first | apply Req_intro | refine nilT ?_ fun hn => ?_ | apply wk_draw Tryd_mixed | refine drawEnd (by kernel_rfl) ?_)
    | (with_reducible (first | apply condA_if | apply stepDG_ifN | apply stepDG_if | apply stepG_ifN | apply stepG_if)) <;> intro hb <;> (have hif := hb) <;> (try simp only [bo] at hif) <;> (try simp -implicitDefEqProofs (disch := omega) only [go_sem, hb]) <;> clear hb
    | simp (maxSteps := 1000000) -implicitDefEqProofs (disch := omega) only [go_sem])
  refine callp k_Share ?_
  try simp (maxSteps := 1000000) -implicitDefEqProofs (disch := omega) only [go_sem]
  repeat' (first
    | (with_reducible apply Req_intro); focus (first | omega | assumption | (simp; done))
    | with_reducible (first | apply Req_intro | refine nilT ?_ fun hn => ?_ | apply wk_draw Tryd_mixed | refine drawEnd (by kernel_rfl) ?_)
    | (with_reducible (first | apply condA_if | apply stepDG_ifN | apply stepDG_if | apply stepG_ifN | apply stepG_if)) <;> intro hb <;> (have hif := hb) <;> (try simp only [bo] at hif) <;> (try simp -implicitDefEqProofs (disch := omega) only [go_sem, hb]) <;> clear hb
    | simp (maxSteps := 1000000) -implicitDefEqProofs (disch := omega) only [go_sem])
  refine callp h2 ?_
  try simp (maxSteps := 1000000) -implicitDefEqProofs (disch := omega) only [go_sem]
  repeat' (first
    | (with_reducible apply Req_intro); focus (first | omega | assumption | (simp; done))
    | with_reducible (first | apply Req_intro | refine nilT ?_ fun hn => ?_ | apply wk_draw Tryd_mixed | refine drawEnd (by kernel_rfl) ?_)
    | (with_reducible (first | apply condA_if | apply stepDG_ifN | apply stepDG_if | apply stepG_ifN | apply stepG_if)) <;> intro hb <;> (have hif := hb) <;> (try simp only [bo] at hif) <;> (try simp -implicitDefEqProofs (disch := omega) only [go_sem, hb]) <;> clear hb
    | simp (maxSteps := 1000000) -implicitDefEqProofs (disch := omega) only [go_sem])
  refine callp k_No ?_
  try simp (maxSteps := 1000000) -implicitDefEqProofs (disch := omega) only [go_sem]
  repeat' (first
    | (with_reducible apply Req_intro); focus (first | omega | assumption | (simp; done))
    | with_reducible (first | apply Req_intro | refine nilT ?_ fun hn => ?_ | apply wk_draw Tryd_mixed | refine drawEnd (by kernel_rfl) ?_)
    | (with_reducible (first | apply condA_if | apply stepDG_ifN | apply stepDG_if | apply stepG_ifN | apply stepG_if)) <;> intro hb <;> (have hif := hb) <;> (try simp only [bo] at hif) <;> (try simp -implicitDefEqProofs (disch := omega) only [go_sem, hb]) <;> clear hb
    | simp (maxSteps := 1000000) -implicitDefEqProofs (disch := omega) only [go_sem])
  refine callc (Ints_spec [0, 0, 1, 1] [0, 0, 1, 1] _ _ (by decide) (by decide)) ?_
  try simp (maxSteps := 1000000) -implicitDefEqProofs (disch := omega) only [go_sem]
  repeat' (first
    | (with_reducible apply Req_intro); focus (first | omega | assumption | (simp; done))
    | with_reducible (first | apply Req_intro | refine nilT ?_ fun hn => ?_ | apply wk_draw Tryd_mixed | refine drawEnd (by kernel_rfl) ?_)
    | (with_reducible (first | apply condA_if | apply stepDG_ifN | apply stepDG_if | apply stepG_ifN | apply stepG_if)) <;> intro hb <;> (have hif := hb) <;> (try simp only [bo] at hif) <;> (try simp -implicitDefEqProofs (disch := omega) only [go_sem, hb]) <;> clear hb
    | simp (maxSteps := 1000000) -implicitDefEqProofs (disch := omega) only [go_sem])
  refine callc (Ints_spec [3, 1, 3, 2] [3, 1, 3, 2] _ _ (by decide) (by decide)) ?_
  try simp (maxSteps := 1000000) -implicitDefEqProofs (disch := omega) only [go_sem]
  repeat' (first
    | (with_reducible apply Req_intro); focus (first | omega | assumption | (simp; done))
    | with_reducible (first | apply Req_intro | refine nilT ?_ fun hn => ?_ | apply wk_draw Tryd_mixed | refine drawEnd (by kernel_rfl) ?_)
    | (with_reducible (first | apply condA_if | apply stepDG_ifN | apply stepDG_if | apply stepG_ifN | apply stepG_if)) <;> intro hb <;> (have hif := hb) <;> (try simp only [bo] at hif) <;> (try simp -implicitDefEqProofs (disch := omega) only [go_sem, hb]) <;> clear hb
    | simp (maxSteps := 1000000) -implicitDefEqProofs (disch := omega) only [go_sem])
  refine calldf 11584 (Ints_spec [0] [0] false true (by decide) (by decide)) ?_
  try simp (maxSteps := 1000000) -implicitDefEqProofs (disch := omega) only [go_sem]
  repeat' (first
    | (with_reducible apply Req_intro); focus (first | omega | assumption | (simp; done))
    | with_reducible (first | apply Req_intro | refine nilT ?_ fun hn => ?_ | apply wk_draw Tryd_mixed | refine drawEnd (by kernel_rfl) ?_)
    | (with_reducible (first | apply condA_if | apply stepDG_ifN | apply stepDG_if | apply stepG_ifN | apply stepG_if)) <;> intro hb <;> (have hif := hb) <;> (try simp only [bo] at hif) <;> (try simp -implicitDefEqProofs (disch := omega) only [go_sem, hb]) <;> clear hb
    | simp (maxSteps := 1000000) -implicitDefEqProofs (disch := omega) only [go_sem])
  refine calld (span_spec (-3) 4) ?_
  try simp (maxSteps := 1000000) -implicitDefEqProofs (disch := omega) only [go_sem]
  repeat' (first
    | (with_reducible apply Req_intro); focus (first | omega | assumption | (simp; done))
    | with_reducible (first | apply Req_intro | refine nilT ?_ fun hn => ?_ | apply wk_draw Tryd_mixed | refine drawEnd (by kernel_rfl) ?_)
    | (with_reducible (first | apply condA_if | apply stepDG_ifN | apply stepDG_if | apply stepG_ifN | apply stepG_if)) <;> intro hb <;> (have hif := hb) <;> (try simp only [bo] at hif) <;> (try simp -implicitDefEqProofs (disch := omega) only [go_sem, hb]) <;> clear hb
    | simp (maxSteps := 1000000) -implicitDefEqProofs (disch := omega) only [go_sem])
  refine calldf 11904 (At_spec [(-3, 4)] [(-3, 4)] false true (by decide) (by decide)) ?_
  try simp (maxSteps := 1000000) -implicitDefEqProofs (disch := omega) only [go_sem]
  repeat' (first
    | (with_reducible apply Req_intro); focus (first | omega | assumption | (simp; done))
    | with_reducible (first | apply Req_intro | refine nilT ?_ fun hn => ?_ | apply wk_draw Tryd_mixed | refine drawEnd (by kernel_rfl) ?_)
    | (with_reducible (first | apply condA_if | apply stepDG_ifN | apply stepDG_if | apply stepG_ifN | apply stepG_if)) <;> intro hb <;> (have hif := hb) <;> (try simp only [bo] at hif) <;> (try simp -implicitDefEqProofs (disch := omega) only [go_sem, hb]) <;> clear hb
    | simp (maxSteps := 1000000) -implicitDefEqProofs (disch := omega) only [go_sem])
  refine calld (span_spec 41 42) ?_
  try simp (maxSteps := 1000000) -implicitDefEqProofs (disch := omega) only [go_sem]
  repeat' (first
    | (with_reducible apply Req_intro); focus (first | omega | assumption | (simp; done))
    | with_reducible (first | apply Req_intro | refine nilT ?_ fun hn => ?_ | apply wk_draw Tryd_mixed | refine drawEnd (by kernel_rfl) ?_)
    | (with_reducible (first | apply condA_if | apply stepDG_ifN | apply stepDG_if | apply stepG_ifN | apply stepG_if)) <;> intro hb <;> (have hif := hb) <;> (try simp only [bo] at hif) <;> (try simp -implicitDefEqProofs (disch := omega) only [go_sem, hb]) <;> clear hb
    | simp (maxSteps := 1000000) -implicitDefEqProofs (disch := omega) only [go_sem])
  exact retz []
end Go.Aw
end
section
/-! Loads of which sizes are small (in place of AwLaw3, where that is not wanted). -/
namespace Go.Aw
open Go.RowKit Go.Proofs

theorem SizeOk.fits {bs : List Box} {cs : List Bill} (h : SizeOk bs cs) : Fits bs cs :=
  ⟨fun b hb => Nat.le_trans (h.lb b hb) (by decide), fun c hc => Nat.le_trans (h.lc c hc) (by decide)⟩
end Go.Aw
end
section
set_option linter.unusedVariables false
set_option linter.unusedSimpArgs false
/-! Arguments that are read stand for abstract values. -/
namespace Go.Aw
open Go.RowKit Go.ChangeShapes Go.WideShapes

/-- Cells that stand for abstract ones. -/
def RepL (w : World) (ok : Nat → Nat → Prop) (cs : List Value) (ds : List V) : Prop :=
  cs.length = ds.length ∧ ∀ (j : Nat) (d : V) (u : Value), ds[j]? = some d → cs[j]? = some u → Rep w ok (fun _ => none) u d

theorem exists_list {α : Type} {p : Nat → α → Prop} : ∀ n, (∀ i, i < n → ∃ a, p i a) → ∃ l : List α, l.length = n ∧ ∀ i a, l[i]? = some a → p i a
  | 0, _ => ⟨[], rfl, fun i a h => by cases h⟩
  | n + 1, h => by
    obtain ⟨l, hl, hp⟩ := exists_list n fun i hi => h i (by omega)
    obtain ⟨a, ha⟩ := h n (by omega)
    refine ⟨l ++ [a], by simp [hl], fun i b hb => ?_⟩
    rcases Nat.lt_or_ge i l.length with h1 | h1
    · rw [List.getElem?_append_left h1] at hb; exact hp i b hb
    · rw [List.getElem?_append_right h1] at hb
      have : i - l.length = 0 := by
        refine Classical.byContradiction fun hc => ?_
        rw [List.getElem?_eq_none (by simp; omega)] at hb; cases hb
      rw [this] at hb
      cases hb
      obtain rfl : i = n := by omega
      exact ha

theorem cells?_get {w : World} {base : Nat} {a : Addr} {n : Nat} {cs : List Value} (h : w.cells? base a n = some cs) : cs.length = n ∧ ∀ j, j < n → ∃ u, cs[j]? = some u ∧ w.cell? (a.add j) = some u := by
  unfold World.cells? at h
  split at h
  · have hl := mapM_some_length h
    rw [List.length_range] at hl
    refine ⟨hl, fun j hj => ?_⟩
    have := mapM_some_get h j j (by simp [hj])
    obtain ⟨u, hu⟩ : ∃ u, cs[j]? = some u := ⟨cs[j], List.getElem?_eq_getElem (by omega)⟩
    exact ⟨u, hu, by rw [this, hu]⟩
  · cases h

theorem add_at (b o n : Nat) : (⟨b, o, none⟩ : Addr).add n = ⟨b, o + n, none⟩ := by
  unfold Addr.add
  split
  · rename_i h; subst h; rfl
  · rfl
theorem add_add' (b o x j : Nat) : ((⟨b, o, none⟩ : Addr).add x).add j = ⟨b, o + x + j, none⟩ := by rw [add_at, add_at]

section
variable {H : Type} {enc : TypeId × Value → H} {P : Program} {w : World} {ok : Nat → Nat → Prop} {sp : Nat → Bool}

theorem mem_weightsAll {e : TypeId} : ∀ {es : List (DataW H)} {d : DataW H} {m : Nat}, d ∈ es → m ∈ d.weights P e → m ∈ DataW.weightsAll P e es
  | [], d, m, h, _ => by cases h
  | a :: r, d, m, h, hm => by
    simp only [DataW.weightsAll, List.mem_append]
    rcases List.mem_cons.1 h with rfl | h
    · exact .inl hm
    · exact .inr (mem_weightsAll h hm)

/-- A list that is read. -/
theorem slice_rep {α : Type} {en : α → List V} {k : Nat} {q : α → Prop} {t e : TypeId} (hk0 : 0 < k) (ht : P.underlying t = some (.slice e)) (hk : P.cellsOf e = k) (hb : 0 < P.bytesOf e)
    (hlen : ∀ a, (en a).length = k)
    (hel : ∀ n cs x, DataW.trod enc P w 0 sp true n e cs = some x → (∀ m ∈ x.1.weights P e, m ≤ reachBytes) → ∃ a, q a ∧ RepL w ok cs (en a))
    (hok : ∀ b o u, w.cell? ⟨b, o, none⟩ = some u → ok b o)
    {n : Nat} {cs : List Value} {x : DataW H × List MemPlace} (h : DataW.trod enc P w 0 sp true n t cs = some x) (hw : ∀ m ∈ x.1.weights P t, m ≤ reachBytes) :
    ∃ (v : Value) (l : List α), cs = [v] ∧ l.length ≤ reachBytes ∧ (∀ a ∈ l, q a) ∧ Rep w ok (fun _ => none) v (.sl k (l.map en) false) := by
  rcases DataW.trod_slice ht h with ⟨rfl, rfl⟩ | ⟨a, len, cap, elems, rest, m, rfl, rfl, rfl, hbase, hlc, hcm, hel1, hel2, hsp, hsp2⟩
  · exact ⟨_, [], rfl, Nat.zero_le _, fun a ha => (by cases ha), .sl none 0 0 k [] false (fun _ _ => undef) rfl (Nat.le_refl _) (fun h => by cases h) (fun i j hi => absurd hi (Nat.not_lt_zero _)) (fun e he => by cases he) (fun i j e d he => by cases he)⟩
  · rw [hk] at hel2
    have hwt : (elems.length + rest.length) * P.bytesOf e ≤ reachBytes ∧ ∀ d ∈ elems.map (·.1), ∀ m ∈ d.weights P e, m ≤ reachBytes := by
      simp only [DataW.weights, ht, List.length_map] at hw
      refine ⟨hw _ (List.mem_cons_self ..), fun d hd m hm => hw m ?_⟩
      exact List.mem_cons_of_mem _ (List.mem_append_left _ (mem_weightsAll hd hm))
    have key : ∀ i, i < len → ∃ p : α × List Value, w.cells? 0 (a.add (i * k)) k = some p.2 ∧ q p.1 ∧ RepL w ok p.2 (en p.1) := fun i hi => by
      have h1 := hel2 i hi
      obtain ⟨y, hy⟩ : ∃ y, elems[i]? = some y := ⟨elems[i], List.getElem?_eq_getElem (by omega)⟩
      rw [hy, Option.bind_eq_some_iff] at h1
      obtain ⟨cs, hc1, hc2⟩ := h1
      obtain ⟨b, hb1, hb2⟩ := hel _ _ _ hc2 (hwt.2 y.1 (List.mem_map_of_mem (List.mem_of_getElem? hy)))
      exact ⟨(b, cs), hc1, hb1, hb2⟩
    obtain ⟨l, hl, hp⟩ := exists_list len key
    have hspot : 0 < len → a.spot = none := fun h0 => by
      obtain ⟨p, hp1, _, _⟩ := key 0 h0
      obtain ⟨u, _, hu⟩ := (cells?_get hp1).2 0 hk0
      simp only [Nat.zero_mul, Addr.add, if_true] at hu
      unfold World.cell? at hu
      split at hu
      · split at hu
        · cases hu
        · rename_i hn; simpa using hn
      · cases hu
    refine ⟨_, l.map (·.1), rfl, ?_, ?_, ?_⟩
    · rw [List.length_map, hl, ← hel1]
      refine Nat.le_trans ?_ hwt.1
      exact Nat.le_trans (Nat.le_add_right _ _) (Nat.le_mul_of_pos_right _ hb)
    · intro b hb
      obtain ⟨p, hp1, rfl⟩ := List.mem_map.1 hb
      obtain ⟨i, hi⟩ := List.getElem?_of_mem hp1
      exact (hp i p hi).2.1
    · refine .sl (some a) len cap k _ false (fun i j => (w.cell? (a.add (i * k + j))).getD undef) (by simp [hl]) hlc (fun h => by cases h) (fun i j hi hj => ?_) (fun e he => ?_) (fun i j e d he hd => ?_)
      · obtain ⟨b, o, s⟩ := a
        obtain rfl : s = none := hspot (by omega)
        obtain ⟨p, hp1, _, _⟩ := key i hi
        obtain ⟨u, _, hu⟩ := (cells?_get hp1).2 j hj
        rw [add_add'] at hu
        have e1 : (⟨b, o, none⟩ : Addr).add (i * k + j) = ⟨b, o + i * k + j, none⟩ := by rw [add_at, Nat.add_assoc]
        exact ⟨b, o, rfl, hok _ _ _ hu, by rw [e1, hu]; rfl⟩
      · rw [List.map_map] at he
        obtain ⟨p, hp1, rfl⟩ := List.mem_map.1 he
        exact hlen _
      · rw [List.map_map, List.getElem?_map, Option.map_eq_some_iff] at he
        obtain ⟨p, hp1, rfl⟩ := he
        obtain ⟨h1, h2, h3⟩ := hp i p hp1
        have hi : i < len := by rw [← hl]; exact (List.getElem?_eq_some_iff.1 hp1).1
        have hj : j < k := by
          have := (List.getElem?_eq_some_iff.1 hd).1
          simp only [Function.comp] at this
          rwa [hlen] at this
        obtain ⟨u, hu1, hu2⟩ := (cells?_get h1).2 j hj
        have : w.cell? (a.add (i * k + j)) = some u := by
          obtain ⟨b, o, s⟩ := a
          obtain rfl : s = none := hspot (by omega)
          rw [add_add'] at hu2
          rw [← hu2, Nat.add_assoc, add_at]
        show Rep w ok _ ((w.cell? (a.add (i * k + j))).getD undef) d
        rw [this]
        exact h3.2 j d u hd hu1

theorem int_rep {k : IntKind} {t : TypeId} (ht : P.underlying t = some (.int k)) {n : Nat} {cs : List Value} {x : DataW H × List MemPlace} (h : DataW.trod enc P w 0 sp true n t cs = some x) : ∃ i, cs = [.int k i] ∧ k.min ≤ i ∧ i ≤ k.max := by
  obtain ⟨i, h1, _, h2⟩ := DataW.trod_int ht h
  simp only [Lit.wf, Bool.and_eq_true, decide_eq_true_eq] at h2
  exact ⟨i, h1, h2.1, h2.2⟩

theorem struct2_cells {t : TypeId} {f0 f1 : Field} (ht : P.underlying t = some (.struct #[f0, f1])) (hc : P.cellsOf t = 2) (h0 : f0.offset = 0) (h1 : f1.offset = 1) (c0 : P.cellsOf f0.type = 1) (c1 : P.cellsOf f1.type = 1)
    {n : Nat} {cs : List Value} {x : DataW H × List MemPlace} (h : DataW.trod enc P w 0 sp true n t cs = some x) (hw : ∀ m ∈ x.1.weights P t, m ≤ reachBytes) :
    ∃ u v y z m, cs = [u, v] ∧ DataW.trod enc P w 0 sp true m f0.type [u] = some y ∧ DataW.trod enc P w 0 sp true m f1.type [v] = some z ∧ (∀ m ∈ y.1.weights P f0.type, m ≤ reachBytes) ∧ (∀ m ∈ z.1.weights P f1.type, m ≤ reachBytes) := by
  obtain ⟨y0, y1, m, rfl, hl, g0, g1⟩ := trod_struct2 ht h
  rw [hc] at hl
  rw [h0, c0] at g0
  rw [h1, c1] at g1
  simp only [DataW.weights, ht, DataW.weightsEach, List.map_cons, List.map_nil, List.mem_append, List.append_nil] at hw
  match cs, hl with
  | [u, v], _ =>
    refine ⟨u, v, y0, y1, m, rfl, g0, g1, fun m hm => hw m ?_, fun m hm => hw m ?_⟩
    · exact .inl hm
    · exact .inr hm

theorem struct1_cells {t : TypeId} {f0 : Field} (ht : P.underlying t = some (.struct #[f0])) (hc : P.cellsOf t = 1) (h0 : f0.offset = 0) (c0 : P.cellsOf f0.type = 1)
    {n : Nat} {cs : List Value} {x : DataW H × List MemPlace} (h : DataW.trod enc P w 0 sp true n t cs = some x) (hw : ∀ m ∈ x.1.weights P t, m ≤ reachBytes) :
    ∃ u y m, cs = [u] ∧ DataW.trod enc P w 0 sp true m f0.type [u] = some y ∧ (∀ m ∈ y.1.weights P f0.type, m ≤ reachBytes) := by
  obtain ⟨y0, m, rfl, hl, g0⟩ := trod_struct1 ht h
  rw [hc] at hl
  rw [h0, c0] at g0
  simp only [DataW.weights, ht, DataW.weightsEach, List.map_cons, List.map_nil, List.mem_append, List.append_nil] at hw
  match cs, hl with
  | [u], _ => exact ⟨u, y0, m, rfl, g0, hw⟩
end

/-- What a call without own rows leaves. -/
theorem Evol.kept {ok ok' : Nat → Nat → Prop} {own' : Nat → Prop} {w w' : World} (he : Evol (fun _ => False) ok w own' ok' w') : w.keptBut w' (fun _ => False) := by
  refine ⟨he.os, he.output, fun i hi => ?_⟩
  rw [he.unch i hi (fun h => h)]
  cases w.heap[i]? with
  | none => rfl
  | some o => cases o <;> simp
theorem Evol.sameAt {ok ok' : Nat → Nat → Prop} {own' : Nat → Prop} {w w' : World} (he : Evol (fun _ => False) ok w own' ok' w') {p : MemPlace} (hp : p.block < w.heap.size) : w.sameAt w' p := by
  have h := he.unch p.block hp (fun h => h)
  cases p with
  | cell b off => exact World.cell?_of_block (w := w) (a := ⟨b, off, none⟩) h
  | map b => exact h
end Go.Aw
end
section
set_option linter.unusedVariables false
set_option linter.unusedSimpArgs false
set_option maxRecDepth 100000
/-! From a contract to the given row and card. -/
namespace Go.Aw
open Go.RowKit Go.ChangeShapes Go.WideShapes Go.Proofs

theorem own0 : ownKnob Tryd.prog.godebug = none := by kernel_rfl
theorem laidOut0 : laidOutB Tryd.prog = true := by kernel_rfl
theorem rowed0 : mapsRowed Tryd.prog = true := by kernel_rfl
theorem full0 : ∀ t e, t < Tryd.prog.types.size → Tryd.prog.underlying t = some (.slice e) → 0 < Tryd.prog.cellsOf e := slices_full_of _ (by kernel_rfl)

/-- All cells that there are. -/
def okAll (w : World) (b o : Nat) : Prop := ∃ u, w.cell? ⟨b, o, none⟩ = some u

/-- The tables lie there. -/
theorem glob_of_laid {w : World} (h : laidMetH Tryd.prog YtofoildhohgngaaDoor.Rows.mixWaysRow.laid w) : GlobOk w (okAll w) := by
  have h' : laidMet Tryd.prog YtofoildhohgngaaDoor.Rows.mixWaysRow.laid w := h
  obtain ⟨ps, ⟨g1, t1, c1, n1, p1, q1, a1, a2, a3, a4, ⟨g, t, cs, n, p, q, b1, b2, b3, b4, _⟩, _⟩, _⟩ := h'
  intro g0 vs hg j v hv
  unfold globT at hg
  split at hg
  · rename_i e
    subst e
    cases hg
    obtain rfl : g = 1 := Option.some.inj (b1.symm.trans (by kernel_rfl))
    have ht : t = 151 := Option.some.inj (b2.symm.trans (by kernel_rfl))
    subst ht
    obtain ⟨xs, m, hn, hx, hl, hlen, hf⟩ := DataW.trod_array (P := Tryd.prog) (n := 64) (e := 5) (by kernel_rfl) b4
    obtain ⟨L, hL1, hL2⟩ : ∃ L : List Int, tab64 = L.map (Value.int .u8) ∧ (YtofoildhohgngaaDoor.Rows.laid_math_bits_deBruijn64tab : DataW Unit) = .agg (L.map fun n => .lit (.int .u8 n)) := ⟨_, rfl, rfl⟩
    have hc1 : Tryd.prog.cellsOf 5 = 1 := by kernel_rfl
    rw [hL2] at hx
    have hx' : xs.map (·.1) = L.map fun n => (.lit (.int .u8 n) : DataW Unit) := by
      have := congrArg Prod.fst hx
      simp only at this
      injection this with this
      exact this.symm
    rw [hL1, List.getElem?_map, Option.map_eq_some_iff] at hv
    obtain ⟨i, hi, rfl⟩ := hv
    have h1 : (xs.map (·.1))[j]? = some (.lit (.int .u8 i)) := by rw [hx', List.getElem?_map, hi]; rfl
    rw [List.getElem?_map, Option.map_eq_some_iff] at h1
    obtain ⟨y, hy, hy1⟩ := h1
    have hj : j < 64 := by rw [← hlen]; exact (List.getElem?_eq_some_iff.1 hy).1
    have h2 := hf j hj
    rw [hy, hc1, Nat.mul_one] at h2
    obtain ⟨i', h3, h4, _⟩ := DataW.trod_int (P := Tryd.prog) (k := .u8) (by kernel_rfl) h2
    rw [h4] at hy1
    simp only [DataW.lit.injEq, Lit.int.injEq, true_and] at hy1
    subst hy1
    have h5 : w.cell? ⟨1, j, none⟩ = some (.int .u8 i') := by
      rw [World.var?_cell b1 b3 j, ← Array.getElem?_toList]
      have h6 : (cs.toList.drop j)[0]? = some (.int .u8 i') := by
        have := congrArg (fun l => l[0]?) h3
        simpa [List.getElem?_take] using this
      simpa using h6
    exact ⟨⟨_, h5⟩, h5⟩
  · cases hg

/-- Reads as it did. -/
theorem all_kept {H : Type} {enc : TypeId × Value → H} {w w' : World} {own' : Nat → Prop} {ok ok' : Nat → Nat → Prop} (he : Evol (fun _ => False) ok w own' ok' w') :
    ∀ {ts : List TypeId} {vs : List Value} {ds : List (DataW H)} {ps : List MemPlace}, DataW.TrodAll enc Tryd.prog w 0 (fun _ => true) true ts vs ds ps → DataW.TrodAll enc Tryd.prog w' 0 (fun _ => true) true ts vs ds ps
  | [], [], [], _, h => h
  | _ :: _, _ :: _, _ :: _, _, ⟨p, q, ⟨n, h1⟩, h2, e⟩ => ⟨p, q, ⟨n, DataW.trod_carry _ _ _ _ h1 fun a ha => he.sameAt (DataW.trod_lt _ _ _ _ h1 a ha)⟩, all_kept he h2, e⟩

theorem lifted_of {f : FuncId} {fn : Func} {s : ChangeSpec} (hfn : Tryd.prog.funcs[f]? = some fn) (hvars : s.vars = []) (hni : Tryd.prog.inits.idxOf? f = none)
    (hspec : ∀ (H : Type) (ds : List (DataW H)), ds.length = fn.params.toList.length → s.fn H ds = { results := [.lit (.bool true)], args := ds })
    (hres : fn.resultTypes.toList = [4]) (hps : ∀ t ∈ fn.params.toList, t < Tryd.prog.types.size)
    (hread : ∀ {H : Type} {enc : TypeId × Value → H} (w : World) (base : Nat) (args : Array Value) (ds : List (DataW H)) (p : List MemPlace), (∀ (j : Nat) t v, fn.params[j]? = some t → args[j]? = some v → Value.okWide Tryd.prog w .any base t v) →
      DataW.TrodAll enc Tryd.prog w 0 (fun _ => true) true fn.params.toList args.toList ds p → (∀ m ∈ DataW.weightsEach Tryd.prog fn.params.toList ds, m ≤ reachBytes) →
      ∃ av : List V, args.size = av.length ∧ (∀ (i : Nat) (d : V) (v : Value), av[i]? = some d → args[i]? = some v → Rep w (okAll w) (fun _ => none) v d) ∧ CallsTo Tryd.prog f av (.lit (.bool true)))
    (os : Os) (started : os.Started) (H : Type) (enc : TypeId × Value → H)
    (hwit : ∃ (w : World) (tape : Tape) (i : Input), w.os = os ∧ (w.forCall tape i).Shaped Tryd.checked.prog ∧ i.vars = [] ∧ Input.okWide Tryd.checked.prog (w.forCall tape i) .any w.heap.size f i ∧
      ((s.pre enc Tryd.checked.prog fn [] false (w.forCall tape i).memory i.args ∧ laidMetH Tryd.prog YtofoildhohgngaaDoor.Rows.mixWaysRow.laid (w.forCall tape i).memory) ∧ sizedMet enc Tryd.checked.prog fn (OpenSpec.ofChange s) false (w.forCall tape i).memory i.args) ∧ ({} : Assume).holds Tryd.checked.prog (lone (Frame.enter Tryd.checked.prog f i.args .normal) [] (w.forCall tape i))) :
    ReturnsInHanded {} Tryd.checked os f .any (fun w args => (s.pre enc Tryd.checked.prog fn [] false w args ∧ laidMetH Tryd.prog YtofoildhohgngaaDoor.Rows.mixWaysRow.laid w) ∧ sizedMet enc Tryd.checked.prog fn (OpenSpec.ofChange s) false w args)
      (s.post enc Tryd.checked.prog fn false true false false) := by
  refine returnsInHanded_of_change_and (C := Tryd.checked) (X := fun w _ => laidMetH Tryd.prog YtofoildhohgngaaDoor.Rows.mixWaysRow.laid w) (fun _ _ _ hh h => h.of_heap hh) own0 started hni hfn hwit ?_
  intro W base args ds gs before hval hW _ hwts hL _
  have hW' := hW
  obtain ⟨p, q, hA, hV, hpq, hfz, hnd⟩ := hW
  rw [hvars] at hV
  obtain ⟨rfl, rfl⟩ : gs = [] ∧ q = [] := by
    cases gs with
    | nil => exact ⟨rfl, hV⟩
    | cons g r => exact absurd hV (by intro h; cases h)
  have hvt : s.plain.varTypes Tryd.checked.prog = [] := by unfold DataSpec.varTypes ChangeSpec.plain; rw [hvars]; rfl
  rw [hvt, List.append_nil, List.append_nil, List.all_eq_true] at hwts
  obtain ⟨av, hsz, hrep, hct⟩ := hread W base args ds p hval hA (fun m hm => by simpa using hwts m hm)
  refine ((hct W (okAll W) args (fun b o h => h) (glob_of_laid hL) hsz hrep).calls (FW_room _)).mono fun e W' ⟨v, own', ok', he, hev, _, hrv⟩ => ?_
  subst he
  refine ⟨v, rfl, ?_⟩
  have hv : v = .bool true := by cases hrv; rfl
  subst hv
  have hlen : ds.length = fn.params.toList.length := by
    have key : ∀ {ts : List TypeId} {vs : List Value} {ds : List (DataW H)} {ps : List MemPlace}, DataW.TrodAll enc Tryd.prog W 0 (fun _ => true) true ts vs ds ps → ds.length = ts.length := by
      intro ts
      induction ts with
      | nil => intro vs ds ps h; obtain ⟨_, rfl, _⟩ := trodAll_nil h; rfl
      | cons t ts ih =>
        intro vs ds ps h
        obtain ⟨v, vs', d, ds', p, q, _, rfl, _, _, h2⟩ := trodAll_cons h
        simp [ih h2]
    exact key hA
  have hfnd : s.fn H (ds ++ []) = { results := [.lit (.bool true)], args := ds } := by rw [List.append_nil]; exact hspec H ds hlen
  refine ⟨ds, [], before, [], p, [], hW', ?_, ?_, ?_, World.keptBut_mono (fun _ f => f.elim) hev.kept, fun h => by cases h⟩
  · rw [hfnd, hres]
    have : (Value.bool true).resultList fn.resultTypes.size = [.bool true] := by
      have : fn.resultTypes.size = 1 := by rw [← Array.length_toList, hres]; rfl
      rw [this]; rfl
    rw [this]
    exact trodAll_mk1 (shut_bool (P := Tryd.prog) (by kernel_rfl) true)
  · rw [hfnd]
    refine DataW.TrodAll.respare (P := Tryd.prog) (T := (· < Tryd.prog.types.size)) (kids_rows laidOut0 rowed0) full0 hps (all_kept hev hA) fun a ha => ?_
    exact decide_eq_true (DataW.TrodAll.lt hA a ha)
  · rw [hfnd, hvars]; rfl
end Go.Aw
end
section
set_option linter.unusedVariables false
set_option linter.unusedSimpArgs false
set_option maxRecDepth 100000
/-! A load that is read; a world that meets the row's premise. -/
namespace Go.Aw
open Go.RowKit Go.ChangeShapes Go.WideShapes Go.Proofs

section
variable {H : Type} {enc : TypeId × Value → H} {w : World}

theorem span_read (n : Nat) (cs : List Value) (x : DataW H × List MemPlace) (h : DataW.trod enc Tryd.prog w 0 (fun _ => true) true n 60 cs = some x) (hw : ∀ m ∈ x.1.weights Tryd.prog 60, m ≤ reachBytes) :
    ∃ a : Int × Int, True ∧ RepL w (okAll w) cs (encS a) := by
  obtain ⟨u, v, y, z, m, rfl, h1, h2, _, _⟩ := struct2_cells Tryd.underlying60 (by kernel_rfl) rfl rfl (by kernel_rfl) (by kernel_rfl) h hw
  obtain ⟨i, e1, _⟩ := int_rep Tryd.underlying3 h1
  obtain ⟨j, e2, _⟩ := int_rep Tryd.underlying3 h2
  cases e1
  cases e2
  refine ⟨(i, j), trivial, rfl, fun k d u hd hu => ?_⟩
  match k with
  | 0 => cases hd; cases hu; exact .lit _ rfl
  | 1 => cases hd; cases hu; exact .lit _ rfl
  | k + 2 => cases hd

theorem spans_read {n : Nat} {cs : List Value} {x : DataW H × List MemPlace} (h : DataW.trod enc Tryd.prog w 0 (fun _ => true) true n 56 cs = some x) (hw : ∀ m ∈ x.1.weights Tryd.prog 56, m ≤ reachBytes) :
    ∃ (v : Value) (l : List (Int × Int)), cs = [v] ∧ l.length ≤ reachBytes ∧ (∀ a ∈ l, True) ∧ Rep w (okAll w) (fun _ => none) v (.sl 2 (l.map encS) false) :=
  slice_rep (k := 2) (en := encS) (q := fun _ => True) (by decide) Tryd.underlying56 (by kernel_rfl) (of_decide_eq_true (by kernel_rfl)) (fun _ => rfl) span_read (fun b o u h => ⟨u, h⟩) h hw

theorem box_read (n : Nat) (cs : List Value) (x : DataW H × List MemPlace) (h : DataW.trod enc Tryd.prog w 0 (fun _ => true) true n 67 cs = some x) (hw : ∀ m ∈ x.1.weights Tryd.prog 67, m ≤ reachBytes) :
    ∃ a : Box, a.length ≤ reachBytes ∧ RepL w (okAll w) cs (encB a) := by
  obtain ⟨u, y, m, rfl, h1, h2⟩ := struct1_cells Tryd.underlying67 (by kernel_rfl) rfl (by kernel_rfl) h hw
  obtain ⟨v, l, e, hl, _, hr⟩ := spans_read h1 h2
  cases e
  refine ⟨l, hl, rfl, fun k d u hd hu => ?_⟩
  match k with
  | 0 => cases hd; cases hu; exact hr
  | k + 1 => cases hd

theorem bill_read (n : Nat) (cs : List Value) (x : DataW H × List MemPlace) (h : DataW.trod enc Tryd.prog w 0 (fun _ => true) true n 64 cs = some x) (hw : ∀ m ∈ x.1.weights Tryd.prog 64, m ≤ reachBytes) :
    ∃ a : Bill, a.2.length ≤ reachBytes ∧ RepL w (okAll w) cs (encBill a) := by
  obtain ⟨u, v, y, z, m, rfl, h1, h2, _, h3⟩ := struct2_cells Tryd.underlying64 (by kernel_rfl) rfl rfl (by kernel_rfl) (by kernel_rfl) h hw
  obtain ⟨i, e1, _⟩ := int_rep Tryd.underlying3 h1
  obtain ⟨v, l, e, hl, _, hr⟩ := spans_read h2 h3
  cases e
  cases e1
  refine ⟨(i, l), hl, rfl, fun k d u hd hu => ?_⟩
  match k with
  | 0 => cases hd; cases hu; exact .lit _ rfl
  | 1 => cases hd; cases hu; exact hr
  | k + 2 => cases hd

/-- A load that is read. -/
theorem load_read {base : Nat} {v : Value} {d : DataW H} {p : List MemPlace} (hv : Value.okWide Tryd.prog w .any base 25 v) (h : DataW.Trod enc Tryd.prog w 0 (fun _ => true) true 25 v d p) (hw : ∀ m ∈ d.weights Tryd.prog 25, m ≤ reachBytes) :
    ∃ (bs : List Box) (cs : List Bill), Rep w (okAll w) (fun _ => none) v (encLoad bs cs) ∧ bs.length ≤ 4611686018427387904 ∧ cs.length ≤ 4611686018427387904 ∧ (∀ b ∈ bs, b.length ≤ 4611686018427387904) ∧ (∀ c ∈ cs, c.2.length ≤ 4611686018427387904) := by
  obtain ⟨vs, rfl, hsz⟩ := okWide_struct Tryd.underlying25 hv
  obtain ⟨n, h⟩ := h
  obtain ⟨a, b, y, z, m, e, h1, h2, h3, h4⟩ := struct2_cells Tryd.underlying25 (by kernel_rfl) rfl rfl (by kernel_rfl) (by kernel_rfl) h hw
  obtain ⟨v1, bs, e1, hl1, hq1, hr1⟩ := slice_rep (k := 1) (en := encB) (by decide) Tryd.underlying22 (by kernel_rfl) (of_decide_eq_true (by kernel_rfl)) (fun _ => rfl) box_read (fun b o u h => ⟨u, h⟩) h1 h3
  obtain ⟨v2, cs, e2, hl2, hq2, hr2⟩ := slice_rep (k := 2) (en := encBill) (by decide) Tryd.underlying23 (by kernel_rfl) (of_decide_eq_true (by kernel_rfl)) (fun _ => rfl) bill_read (fun b o u h => ⟨u, h⟩) h2 h4
  cases e1
  cases e2
  have hr : reachBytes ≤ 4611686018427387904 := by decide
  refine ⟨bs, cs, .agg vs _ (by rw [← Array.length_toList]; exact congrArg List.length e) fun i d u hd hu => ?_, by omega, by omega, fun b hb => Nat.le_trans (hq1 b hb) hr, fun c hc => Nat.le_trans (hq2 c hc) hr⟩
  have e' : vs.toList = [a, b] := e
  have hu' : vs.toList[i]? = some u := by rw [Array.getElem?_toList]; exact hu
  rw [e'] at hu'
  match i with
  | 0 => cases hd; cases hu'; exact hr1
  | 1 => cases hd; cases hu'; exact hr2
  | i + 2 => cases hd
end

/-- A world that meets the premise: the settled one, the tables laid. -/
noncomputable def laidWorld (os : Os) : World :=
  let w0 := World.holding Tryd.prog os ⟨#[], #[], []⟩
  let put (w : World) (g : Nat) (vs : List Int) : World := { w with heap := w.heap.modify g fun
      | .cells _ t frozen => .cells (vs.map (Value.int .u8)).toArray t frozen
      | o => o }
  put (put w0 0 [0, 1, 28, 2, 29, 14, 24, 3, 30, 22, 20, 15, 25, 17, 4, 8, 31, 27, 13, 23, 21, 19, 16, 7, 26, 12, 18, 6, 11, 5, 10, 9]) 1
    [0, 1, 56, 2, 57, 49, 28, 3, 61, 58, 42, 50, 38, 29, 17, 4, 62, 47, 59, 36, 45, 43, 51, 22, 53, 39, 33, 30, 24, 18, 12, 5, 63, 55, 48, 27, 60, 41, 37, 16, 46, 35, 44, 21, 52, 32, 23, 11, 54, 26, 40, 15, 34, 20, 31, 10, 25, 14, 19, 9, 13, 8, 7, 6]
theorem laidWorld_met (os : Os) (args : Array Value) : laidMetH Tryd.prog YtofoildhohgngaaDoor.Rows.mixWaysRow.laid ((laidWorld os).forCall (fun _ _ => 0) ⟨#[], args, []⟩).memory := by
  show laidMet _ _ _
  exact laidMet_of_run' 8 (by kernel_rfl) (by kernel_rfl)

theorem mixWays_wit (os : Os) (H : Type) (enc : TypeId × Value → H) : ∃ (w : World) (tape : Tape) (i : Input), w.os = os ∧ (w.forCall tape i).Shaped Tryd.checked.prog ∧ i.vars = [] ∧ Input.okWide Tryd.checked.prog (w.forCall tape i) .any w.heap.size 3 i ∧
      ((YtofoildhohgngaaDoor.Rows.mixWaysSpec.pre enc Tryd.checked.prog Tryd.f3 [] false (w.forCall tape i).memory i.args ∧ laidMetH Tryd.prog YtofoildhohgngaaDoor.Rows.mixWaysRow.laid (w.forCall tape i).memory) ∧ sizedMet enc Tryd.checked.prog Tryd.f3 (OpenSpec.ofChange YtofoildhohgngaaDoor.Rows.mixWaysSpec) false (w.forCall tape i).memory i.args) ∧ ({} : Assume).holds Tryd.checked.prog (lone (Frame.enter Tryd.checked.prog 3 i.args .normal) [] (w.forCall tape i)) :=
  ChangeSpec.witness_at (enc := enc) (C := Tryd.checked) (os := os) (X := fun w _ => laidMetH Tryd.prog YtofoildhohgngaaDoor.Rows.mixWaysRow.laid w) false (laidWorld os) #[.agg #[.slice none 0 0, .slice none 0 0]] 8 rfl (by kernel_rfl) (by kernel_rfl) (by kernel_rfl) (by kernel_rfl) (by kernel_rfl) (laidWorld_met os _)

theorem mixWays_of (hct : ∀ (bs : List Box) (cs : List Bill), bs.length ≤ 4611686018427387904 → cs.length ≤ 4611686018427387904 → (∀ b ∈ bs, b.length ≤ 4611686018427387904) → (∀ c ∈ cs, c.2.length ≤ 4611686018427387904) → CallsTo Tryd.prog 3 [encLoad bs cs] (.lit (.bool true))) : YtofoildhohgngaaDoor.Rows.MixWaysSaid :=
  OpenClaim.holds_of_wide 3 Tryd.f3 rfl rfl rfl rfl rfl rfl rfl ⟨rfl, rfl, rfl, rfl, rfl⟩ rfl rfl rfl rfl rfl (by kernel_rfl) Tryd.func3 (by kernel_rfl)
    (of_decide_eq_true (by kernel_rfl)) (by unfold Func.isWrapper; first | (rw [if_pos (by decide +kernel)]; kernel_rfl) | (rw [if_neg (by decide +kernel)]; exact ⟨rfl, rfl⟩))
    (fun os started H enc _ => lifted_of Tryd.func3 rfl (by kernel_rfl) (fun H ds hd => by
        match ds, hd with
        | [d], _ => rfl) (by kernel_rfl) (fun t ht => by
          have : Tryd.f3.params.toList.all (fun t => decide (t < Tryd.prog.types.size)) = true := by kernel_rfl
          simpa using List.all_eq_true.1 this t ht)
      (fun {H enc} w base args ds p hv hA hw => by
        rw [Tryd.params3] at hA hv hw
        obtain ⟨v, d, rfl, rfl, h0⟩ := trodAll_one hA
        obtain ⟨bs, cs, h1, h2, h3, h4, h5⟩ := load_read (hv 0 25 v rfl rfl) h0 (fun m hm => hw m (by simpa [DataW.weightsEach] using hm))
        refine ⟨[encLoad bs cs], rfl, fun i d u hd hu => ?_, hct bs cs h2 h3 h4 h5⟩
        match i with
        | 0 => cases hd; cases hu; exact h1
        | i + 1 => cases hd) os started H enc (mixWays_wit os H enc))
end Go.Aw
end
section
set_option linter.unusedVariables false
/-! Rows are looked up without detours. -/
namespace Go.Aw
@[go_sem ↓] theorem hget_nil' (i : Nat) : hget i [] = none := by rw [hget]
@[go_sem ↓] theorem hget_miss (i j : Nat) (b : Option Blk) (r : List (Nat × Option Blk)) (h : i ≠ j) : hget i ((j, b) :: r) = hget i r := by rw [hget, if_neg h]
@[go_sem ↓] theorem hget_hit (i : Nat) (b : Option Blk) (r : List (Nat × Option Blk)) : hget i ((i, b) :: r) = some b := by rw [hget, if_pos rfl]
@[go_sem ↓] theorem hset_nil' (i : Nat) (b : Option Blk) : hset i b [] = [(i, b)] := by rw [hset]
@[go_sem ↓] theorem hset_miss (i j : Nat) (b c : Option Blk) (r : List (Nat × Option Blk)) (h : i ≠ j) : hset i b ((j, c) :: r) = (j, c) :: hset i b r := by rw [hset, if_neg h]
@[go_sem ↓] theorem hset_hit (i : Nat) (b c : Option Blk) (r : List (Nat × Option Blk)) : hset i b ((i, c) :: r) = (i, b) :: r := by rw [hset, if_pos rfl]
theorem PurE.snocR {fr : Bool} {h : Hp} {e e' : List V} {l : List (List V)} (hp : PuE l) (he : PurI fr h e e') : PurE fr h (l ++ [e]) (l ++ [e']) := by
  induction l with
  | nil => exact .cons _ _ _ _ he .nil
  | cons a l ih => exact .cons _ _ _ _ (.pu _ (hp a List.mem_cons_self)) (ih fun x hx => hp x (List.mem_cons_of_mem _ hx))
theorem RenE.setR {ρ : Nat → Nat} {m : Nat} {e e' : List V} : ∀ {l : List (List V)} {i : Nat}, PuE l → RenL ρ m e e' → RenE ρ m (l.set i e) (l.set i e')
  | [], _, _, _ => .nil
  | a :: l, 0, hp, he => .cons _ _ _ _ he (.pu _ fun x hx => hp x (List.mem_cons_of_mem _ hx))
  | a :: l, i + 1, hp, he => .cons _ _ _ _ (.pu _ (hp a List.mem_cons_self)) (RenE.setR (fun x hx => hp x (List.mem_cons_of_mem _ hx)) he)
theorem weak_do2 (ρl : List (Nat × Nat)) {tm tm' : List V} {h : Hp} {l' : List (Nat × Option Blk)} {nx nx' : Nat} {gh : Gh} (hlow : (ρl.all fun p => decide (gh.lim ≤ p.1)) = true := by rfl)
    (ht : RenL (renOf ρl) nx' tm' tm := by
      repeat' (first
        | with_reducible (first | exact RenL.nil | refine RenL.cons _ _ _ _ ?_ ?_ | exact Ren.any _ | exact Ren.lit _)
        | (with_reducible (first | refine Ren.int _ _ _ ?_ | refine Ren.bool _ _ ?_)) <;> (first | rfl | omega | (simp <;> omega) | (simp only [go_sem]; done) | (push_cast; omega))
        | with_reducible (first | exact Ren.nil _ _ _ | exact Ren.nilsl _ _ | exact RowsRen.nil | exact RenE.nil)
        | (with_reducible refine Ren.ref _ _ _ _ _ ?_ ?_) <;> decide
        | (with_reducible refine Ren.osN _ _ ?_ ?_ ?_ ?_) <;> (first | decide | first | rfl | omega | (simp <;> omega) | (simp only [go_sem]; done) | (push_cast; omega) | (intro h; exact h) | (intro h; cases h))
        | with_reducible (first | refine Ren.fnL _ _ ?_ ?_ | refine Ren.aggL _ _ ?_)
        | (with_reducible (first | refine Ren.pu _ ?_ | refine RenE.puE ?_)) <;> (first | assumption | (simp only [go_sem] <;> assumption) | (simp only [go_sem, *]; done) | (simp [go_sem]; done))
        | (with_reducible apply RowsRen.row); (focus decide); (focus rfl)
        | (with_reducible refine RowsRen.virt _ _ _ _ _ ?_ ?_ ?_ ?_); (focus decide); (focus decide); (focus decide)
        | with_reducible (first | refine RowsRen.gone _ _ ?_ | refine RenE.cons _ _ _ _ ?_ ?_)
        | (with_reducible (first | refine Ren.slE _ _ _ ?_ ?_ | refine RenE.eqE ?_ ?_)); (focus (first | rfl | omega | (simp <;> omega) | (simp only [go_sem]; done) | (push_cast; omega))); (focus (first | assumption | (simp only [go_sem] <;> assumption) | (simp only [go_sem, *]; done) | (simp [go_sem]; done)))
        | (with_reducible refine RenL.puL ?_) <;> (first | assumption | (simp only [go_sem] <;> assumption) | (simp only [go_sem, *]; done) | (simp [go_sem]; done))
        | (with_reducible refine RenL.eqL ?_ ?_); (focus (first | rfl | omega | (simp <;> omega) | (simp only [go_sem]; done) | (push_cast; omega))); (focus (first | assumption | (simp only [go_sem] <;> assumption) | (simp only [go_sem, *]; done) | (simp [go_sem]; done)))))
    (hh : RowsRen (renOf ρl) nx' nx h l' := by
      repeat' (first
        | with_reducible (first | exact RenL.nil | refine RenL.cons _ _ _ _ ?_ ?_ | exact Ren.any _ | exact Ren.lit _)
        | (with_reducible (first | refine Ren.int _ _ _ ?_ | refine Ren.bool _ _ ?_)) <;> (first | rfl | omega | (simp <;> omega) | (simp only [go_sem]; done) | (push_cast; omega))
        | with_reducible (first | exact Ren.nil _ _ _ | exact Ren.nilsl _ _ | exact RowsRen.nil | exact RenE.nil)
        | (with_reducible refine Ren.ref _ _ _ _ _ ?_ ?_) <;> decide
        | (with_reducible refine Ren.osN _ _ ?_ ?_ ?_ ?_) <;> (first | decide | first | rfl | omega | (simp <;> omega) | (simp only [go_sem]; done) | (push_cast; omega) | (intro h; exact h) | (intro h; cases h))
        | with_reducible (first | refine Ren.fnL _ _ ?_ ?_ | refine Ren.aggL _ _ ?_)
        | (with_reducible (first | refine Ren.pu _ ?_ | refine RenE.puE ?_)) <;> (first | assumption | (simp only [go_sem] <;> assumption) | (simp only [go_sem, *]; done) | (simp [go_sem]; done))
        | (with_reducible apply RowsRen.row); (focus decide); (focus rfl)
        | (with_reducible refine RowsRen.virt _ _ _ _ _ ?_ ?_ ?_ ?_); (focus decide); (focus decide); (focus decide)
        | with_reducible (first | refine RowsRen.gone _ _ ?_ | refine RenE.cons _ _ _ _ ?_ ?_)
        | (with_reducible refine RenE.setR ?_ ?_); (focus (first | assumption | (simp only [go_sem] <;> assumption) | (simp only [go_sem, *]; done) | (simp [go_sem]; done)))
        | (with_reducible (first | refine Ren.slE _ _ _ ?_ ?_ | refine RenE.eqE ?_ ?_)); (focus (first | rfl | omega | (simp <;> omega) | (simp only [go_sem]; done) | (push_cast; omega))); (focus (first | assumption | (simp only [go_sem] <;> assumption) | (simp only [go_sem, *]; done) | (simp [go_sem]; done)))
        | (with_reducible refine RenL.puL ?_) <;> (first | assumption | (simp only [go_sem] <;> assumption) | (simp only [go_sem, *]; done) | (simp [go_sem]; done))
        | (with_reducible refine RenL.eqL ?_ ?_); (focus (first | rfl | omega | (simp <;> omega) | (simp only [go_sem]; done) | (push_cast; omega))); (focus (first | assumption | (simp only [go_sem] <;> assumption) | (simp only [go_sem, *]; done) | (simp [go_sem]; done)))))
    (hi : renInj (renOf ρl) (keysOf l') = true := by rfl) (hl : gh.lim ≤ nx' := by exact Nat.zero_le _) : Weak ⟨tm, h, nx, gh⟩ ⟨tm', hpOf (fun _ => none) l', nx', gh⟩ := Weak.rows ρl hl hlow ht hh hi

/-- Several results, some of which bear rows of one's own. -/
theorem callsTo_of_callT {P : Program} {g : FuncId} {args rs : List V} (hp : PuL rs) (h : CallH P g args (fun _ => none) 0 fun r' h' _ => ∃ ids rs', r' = .tup rs' ∧ PurI true (frz ids h') rs' rs) : CallsTo P g args (.tup rs) := by
  intro w ok vals hok hgl hsz hrep
  have hrh : RH w (fun _ => False) ok (fun _ => none) (fun _ => none) := ⟨hok, fun b hb => hb.elim, (fun id B hB => by cases hB), (fun id b hb => by cases hb), (fun id1 id2 b1 b2 B h1 => by cases h1), hgl⟩
  refine CallsIn.mono (h w _ ok _ vals hrh (fun id _ => ⟨rfl, rfl⟩) hsz hrep) ?_
  rintro e w' ⟨v, r', h', nx', own', ok', s', rfl, ⟨ids, rs', rfl, hpr⟩, g1, g2, g3, g4, g5, g6⟩
  obtain ⟨ok2, k1, k2⟩ := g1.frzAll ids
  obtain ⟨hl1, hc1⟩ := hpr.spec
  cases g2 with
  | tup vs _ hl hc =>
    refine ⟨_, own', ok2, rfl, g3.trans k2, k1.okw, .tup vs rs (by rw [hl, hl1]) fun i d u hd hu => ?_⟩
    have hi : i < rs'.length := by rw [hl1]; exact (List.getElem?_eq_some_iff.1 hd).1
    have hd' : rs'[i]? = some rs'[i] := List.getElem?_eq_getElem hi
    have h1 := (((hc1 i _ d hd' hd).rep k1 ((hc i _ u hd' hu).evol k2 (fun _ _ h => h))).pu (hp d (List.mem_of_getElem? hd)) (s' := fun _ => none))
    refine h1.keep (fun b o hb => ⟨?_, rfl⟩) (fun _ _ _ h => h) (fun _ _ h => h)
    rcases hb with hb | ⟨hb, _⟩
    · exact hb
    · cases hb

theorem ct_enterT {P : Program} {g : FuncId} {fn : Func} {c : Code} {rv : List ResultVar} {n : Nat} {args tm rs : List V} (hf : P.funcs[g]? = some fn) (hb : fn.body = some c) (hn : fn.name ≠ "runtime.NumGoroutine") (hr : fn.results = List.toArray rv) (hnt : fn.ntmps = n)
    (hp : PuL rs) (ha : decide (args.length ≤ n) = true) (ht : initT n args = tm) (hw : ∀ base, awp P c (RetB P rv fun r' h' _ => ∃ ids rs', r' = .tup rs' ∧ PurI true (frz ids h') rs' rs) ⟨tm, hpOf (fun _ => none) [], 0, { base := base }⟩) : Ct P g args (.tup rs) := by
  subst hnt ht
  have ha := of_decide_eq_true ha
  refine ⟨callsTo_of_callT hp ?_, fn, hf, by rw [hb]; rfl, hn⟩
  refine callH_of_awp hf hb ha fun base => ?_
  rw [retB_eq (rs := rv) (by rw [hr]), ← initT_eq _ _ ha]
  exact hw base

theorem rett {P : Program} {tm rs rs' : List V} {nx : Nat} {gh : Gh} {rv : List ResultVar} {l l' : List (Nat × Option Blk)} {c : Prop} (ids : List Nat) (h : resV P ⟨tm, hpOf (fun _ => none) l, nx, gh⟩ rv = some (c, rs') := by simp (maxSteps := 1000000) -implicitDefEqProofs (disch := omega) only [go_sem]; rfl) (hc : c := by first | trivial | omega | (simp; omega)) (ht : retV rs' = .tup rs' := by rfl) (hl : frzL ids l = l' := by first | (simp only [go_sem]; done) | (simp only [go_sem]; rfl))
    (hp : PurI true (hpOf (fun _ => none) l') rs' rs := by
      (try simp (maxSteps := 1000000) -implicitDefEqProofs (disch := omega) only [go_sem])
      repeat' (first
        | with_reducible (first | exact PurI.nil | exact Pur.nilsl _ _ | exact PurE.nil)
        | (with_reducible (first | refine PurI.puL ?_ | refine PurE.puE ?_)) <;> (first | assumption | (simp only [go_sem] <;> assumption) | (simp only [go_sem, *]; done) | (simp [go_sem]; done))
        | with_reducible apply PurI.cons
        | (with_reducible refine Pur.pu _ ?_) <;> (first | assumption | (simp only [go_sem] <;> assumption) | (simp only [go_sem, *]; done) | (simp [go_sem]; done))
        | ((with_reducible apply Pur.refR) <;> (first | rfl | decide | (simp only [go_sem]; omega) | (simp only [go_sem]) | skip))
        | ((with_reducible apply Pur.osR) <;> (first | rfl | exact fun h => h | omega | (simp; omega) | (simp; done) | (simp only [go_sem]) | skip))
        | with_reducible (first | apply Pur.fnI | apply Pur.aggI | apply PurE.cons)
        | (with_reducible refine PurI.eqL ?_ ?_); (focus rfl); (focus (first | assumption | (simp only [go_sem] <;> assumption) | (simp only [go_sem, *]; done) | (simp [go_sem]; done)))
        | simp (maxSteps := 1000000) -implicitDefEqProofs (disch := omega) only [go_sem])) : RetB P rv (fun r' h' _ => ∃ ids rs', r' = .tup rs' ∧ PurI true (frz ids h') rs' rs) .ret ⟨tm, hpOf (fun _ => none) l, nx, gh⟩ := ret_at h hc ⟨ids, rs', ht, by rw [frz_hpOf, hl]; exact hp⟩
end Go.Aw
end
