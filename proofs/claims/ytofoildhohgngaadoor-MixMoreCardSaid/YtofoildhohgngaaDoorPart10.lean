/-
  A part of the proof that a law returns true for every input that the given row speaks of: an own verified walk over the program (namespace Go.Aw), contracts of the functions that the law calls, and the law itself. Conditions: those of the given row, no other.
-/
import Derived.Test.YtofoildhohgngaaDoorPart9
section
set_option linter.unusedVariables false
set_option linter.unusedSimpArgs false
set_option maxRecDepth 20000
set_option maxHeartbeats 4000000
/-! The law MixMore: the walk. -/
namespace Go.Aw
open Go.RowKit Go.Proofs

@[go_sem] theorem lapp_cons (a : Oper) (l r : List Oper) : List.append (a :: l) r = a :: List.append l r := rfl
@[go_sem] theorem lapp_nil (r : List Oper) : List.append [] r = r := rfl

theorem Good.size {bs : List Box} {cs : List Bill} (hg : Good bs cs) : SizeOk bs cs := by
  have h3 := hg.st
  have h4 := hg.nb
  have h5 := hg.nc
  exact ⟨by omega, by omega, fun b hb => by rw [hg.lb b hb]; omega, fun b hb => by rw [hg.lc b hb]; omega⟩
theorem Ways_good {bs : List Box} {cs : List Bill} (hg : Good bs cs) {way : List Int} (hm : way ∈ allW bs cs) :
    ∃ (m : Nat) (f : List Int), 1 ≤ m ∧ m = (allW bs cs).length ∧ f = (allW bs cs).getD 0 default ∧ m ≤ 6561 ∧ Ct Tryd.prog 18 [encLoad bs cs] (.tup [int m, .sl 1 (f.map encI) false, int 0]) :=
  ⟨_, _, List.length_pos_iff.2 (List.ne_nil_of_mem hm), rfl, rfl, hg.valid.few, Ways_ok bs cs hg.size.fits (check_of_good hg) (List.ne_nil_of_mem hm)⟩

def lessRow (bs : List Box) (held : List (List Int)) (i k j : Nat) : List (List V) := if j = i then ((lessTo bs held i k).getD i default).map encS else rowB bs bs.length j
@[go_sem] theorem lessRow_pu (bs : List Box) (held : List (List Int)) (i k j : Nat) : PuE (lessRow bs held i k j) = True := by
  unfold lessRow; split
  · first | assumption | (simp only [go_sem] <;> assumption) | (simp only [go_sem, *]; done) | (simp [go_sem]; done)
  · exact rowB_pu ..
theorem lessRow_zero {bs : List Box} {held : List (List Int)} {i : Nat} (hi : i < bs.length) (j : Nat) : lessRow bs held i 0 j = rowB bs bs.length j := by
  unfold lessRow
  split
  · rename_i h; subst h; rw [lessTo_zero hi, rowB, if_pos hi]
  · rfl
theorem lessRow_at {bs : List Box} {held : List (List Int)} {i : Nat} (k : Nat) : lessRow bs held i k i = ((lessTo bs held i k).getD i default).map encS := by rw [lessRow, if_pos rfl]
theorem lessRow_full {bs : List Box} {held : List (List Int)} {i j k : Nat} (hj : j < bs.length) : lessRow bs held i k j = ((lessTo bs held i k).getD j default).map encS := by
  unfold lessRow
  split
  · rename_i h; subst h; rfl
  · rename_i h; rw [lessTo_ne (fun e => h e.symm), rowB, if_pos hj]
def strictRow (cs : List Bill) (way : List Int) (held : List (List Int)) (n c k j : Nat) : List (List V) := if j = c then ((strictTo cs way held n c k).getD c default).2.map encS else rowC cs cs.length j
@[go_sem] theorem strictRow_pu (cs : List Bill) (way : List Int) (held : List (List Int)) (n c k j : Nat) : PuE (strictRow cs way held n c k j) = True := by
  unfold strictRow; split
  · first | assumption | (simp only [go_sem] <;> assumption) | (simp only [go_sem, *]; done) | (simp [go_sem]; done)
  · exact rowC_pu ..
theorem strictRow_zero {cs : List Bill} {way : List Int} {held : List (List Int)} {n c : Nat} (hc : c < cs.length) (j : Nat) : strictRow cs way held n c 0 j = rowC cs cs.length j := by
  unfold strictRow
  split
  · rename_i h; subst h; rw [strictTo_zero n hc, rowC, if_pos hc]
  · rfl
theorem strictRow_at {cs : List Bill} {way : List Int} {held : List (List Int)} {n c : Nat} (k : Nat) : strictRow cs way held n c k c = ((strictTo cs way held n c k).getD c default).2.map encS := by rw [strictRow, if_pos rfl]
theorem strictRow_full {cs : List Bill} {way : List Int} {held : List (List Int)} {n c k j : Nat} (hj : j < cs.length) : strictRow cs way held n c k j = ((strictTo cs way held n c k).getD j default).2.map encS := by
  unfold strictRow
  split
  · rename_i h; subst h; rfl
  · rename_i h; rw [strictTo_ne n (fun e => h e.symm), rowC, if_pos hj]
theorem emod_nat (v : Int) {n : Nat} (hn : 1 ≤ n) : ∃ i : Nat, v % (n : Int) = i ∧ i < n :=
  ⟨(v % (n : Int)).toNat, by have := Int.emod_nonneg v (b := (n : Int)) (by omega); omega, by have := Int.emod_nonneg v (b := (n : Int)) (by omega); have := Int.emod_lt_of_pos v (b := (n : Int)) (by omega); omega⟩
theorem ts_yes2 {way : List Int} {held : List (List Int)} {c k i w : Nat} (h : way.getD i default = w) (e : w = c) : trueSum way held c k (i + 1) = trueSum way held c k i + (held.getD i default).getD k default := by rw [trueSum, if_pos (by omega)]
theorem ts_no2 {way : List Int} {held : List (List Int)} {c k i w : Nat} (h : way.getD i default = w) (e : ¬w = c) : trueSum way held c k (i + 1) = trueSum way held c k i := by rw [trueSum, if_neg (by omega)]
/-- The first ones in another order. -/
def rotTo {α : Type} [Inhabited α] (l : List α) (i x : Nat) : List α := (List.range x).map fun n => l.getD ((n + i) % l.length) default
@[go_sem] theorem rotTo_len {α : Type} [Inhabited α] (l : List α) (i x : Nat) : (rotTo l i x).length = x := by simp [rotTo]
attribute [go_sem] rotL_len
@[go_sem] theorem take_rotL {α : Type} [Inhabited α] (g : α → List V) (l : List α) (i : Nat) : ((rotL l i).map g).take l.length = (rotL l i).map g := List.take_of_length_le (by rw [List.length_map, rotL_len]; exact Nat.le_refl _)
theorem rotTo_succ {α : Type} [Inhabited α] (l : List α) (i x : Nat) : rotTo l i (x + 1) = rotTo l i x ++ [l.getD ((x + i) % l.length) default] := by simp [rotTo, List.range_succ]
theorem rotTo_zero {α : Type} [Inhabited α] (l : List α) (i : Nat) : rotTo l i 0 = [] := rfl
theorem rotTo_full {α : Type} [Inhabited α] (l : List α) (i : Nat) : rotTo l i l.length = rotL l i := rfl
theorem emod_cast (x i n : Nat) : ((x : Int) + i) % (n : Int) = (((x + i) % n : Nat) : Int) := by rw [Int.natCast_emod, Int.natCast_add]
theorem Ways_told2 {bs : List Box} {cs : List Bill} (hg : Good bs cs) (h2 : stuffs cs ≤ 2) {j w : Nat} (hj : j < bs.length) (hw : w < cs.length) {first : List Int} {many : Nat} (hm : 1 ≤ many) (hme : many = (allW bs cs).length) (hf : first = (allW bs cs).getD 0 default) (he : first.getD j default = w) :
    ∃ m : Nat, 1 ≤ m ∧ m ≤ many ∧ Ct Tryd.prog 18 [encLoad (toldBs bs j) (toldCs cs w)] (.tup [int m, .sl 1 (first.map encI) false, int 0]) := by
  have hgt := told_good hg h2 j w
  have hal := allW_told hg h2 hj hw
  obtain ⟨e1, e2⟩ := grp_head (ws := allW bs cs) (n := j) (c := w) (by omega) (by rw [← hf]; exact he)
  have hW := Ways_ok _ _ hgt.size.fits (check_of_good hgt) (by rw [hal]; exact List.length_pos_iff.1 e2)
  rw [hal, e1, ← hf] at hW
  exact ⟨_, e2, by rw [hme]; exact List.length_filter_le _ _, hW⟩

theorem more_walk (bx : List B5) (ca st b0 b1 b2 b3 b4 b5 v0 v1 v2 : Int) (hv0 : okU v0) (hv1 : okU v1) (hv2 : okU v2) (bs : List Box) (cs : List Bill) (way : List Int) (held : List (List Int))
    (hmade : Ct Tryd.prog 37 [.agg (innC bx ca st b0 b1 b2 b3 b4 b5)] (.tup [encLoad bs cs, .sl 1 (way.map encI) false, .sl 1 (held.map encW) false]))
    (hz : SizeOk bs cs) (h0 : checkR bs cs = 0) (hmem : way ∈ allW bs cs) (h2 : stuffs cs ≤ 2) (hT : Truth bs cs way held) (hn1 : 1 ≤ bs.length) :
    Ct Tryd.prog 12 [.agg (innC bx ca st b0 b1 b2 b3 b4 b5), .agg [u8 v0, u8 v1, u8 v2]] (.lit (.bool true)) := by
  have hg := good_of_check h0
  have h8 := hg.nb
  have h3 := hg.nc
  have h1 := hg.n1
  have hs3 := hg.st
  have hok := allW_ok bs cs
  have hwl : way.length = bs.length := (hok _ hmem).1
  have hhl := hT.hl
  have hown := own_spec bs cs hz
  unfold okU at hv0 hv1 hv2
  obtain ⟨i, hi, hin⟩ := emod_nat v0 hn1
  obtain ⟨c, hc, hcn⟩ := emod_nat v1 h1
  obtain ⟨j, hj, hjn⟩ := emod_nat v2 hn1
  obtain ⟨many, first, hm1, hme, hfe, hml, hW⟩ := Ways_good hg hmem
  have hfl : first.length = bs.length := by rw [hfe]; exact (hok _ (getD_mem (by omega))).1
  have hwi : (way.length : Int) = (bs.length : Int) := by omega
  have hhk := hT.hk i hin
  have hlg := less_good hg hT hin
  have hlm := less_mem hg hT hin hmem
  have hsg := strict_good hg hT hcn
  have hsm := strict_mem hg hT hcn hmem
  obtain ⟨b, fb, hb1, hbe, _, hbl, hB⟩ := Ways_good hsg hsm
  have hbv : b ≤ many := by rw [hbe, hme]; exact allW_narrow (strict_narrow hg hT hcn) hg.pos hsg.pos
  have hrg := (rot_good (i := i) hg hcn).1
  have hrl := turn_len hg hin hcn
  obtain ⟨d, fd, hd1, hde, _, hdl, hD⟩ := Ways_good hrg (way := (allW (rotL bs i) (rotL cs c)).getD 0 default) (getD_mem (by omega))
  obtain rfl : many = d := by omega
  obtain ⟨w, hw, hwn⟩ : ∃ w : Nat, first.getD j default = w ∧ w < cs.length := by
    have := (hok first (by rw [hfe]; exact getD_mem (by omega))).2 _ (getD_mem (l := first) (i := j) (by omega))
    exact ⟨(first.getD j default).toNat, by omega, by omega⟩
  obtain ⟨m, hm2, hm3, hM⟩ := Ways_told2 hg h2 hjn hwn hm1 hme hfe hw
  have htold := told_spec bs cs (j : Int) (w : Int) hz h8 h3
  have hwi2 : ∀ n, n < bs.length → ∃ w : Nat, way.getD n default = w ∧ w < cs.length := fun n hn => by
    have := (hok _ hmem).2 _ (getD_mem (l := way) (i := n) (by omega))
    exact ⟨(way.getD n default).toNat, by omega, by omega⟩
  obtain ⟨a, fa, ha1, hae, _, hal, hA⟩ := Ways_good hlg hlm
  have hav : a ≤ many := by rw [hae, hme]; exact allW_narrow (less_narrow hg hT hin) hg.pos hlg.pos
  refine fn_enter Tryd.func12 rfl (by decide) Tryd.results12 Tryd.ntmps12 ?_ rfl (by simp (maxSteps := 1000000) -implicitDefEqProofs (disch := omega) only [go_sem]; rfl) fun base => ?_
  · first | assumption | (simp only [go_sem] <;> assumption) | (simp only [go_sem, *]; done) | (simp [go_sem]; done)
  repeat' (first
    | (with_reducible apply Req_intro); focus (first | omega | assumption | (simp; done))
    | with_reducible (first | apply Req_intro | refine nilT ?_ fun hn => ?_ | apply wk_draw Tryd_mixed | refine drawEnd (by kernel_rfl) ?_)
    | (with_reducible (first | apply condA_if | apply stepDG_ifN | apply stepDG_if | apply stepG_ifN | apply stepG_if)) <;> intro hb <;> (have hif := hb) <;> (try simp only [bo] at hif) <;> (try simp -implicitDefEqProofs (disch := omega) only [go_sem, hb]) <;> clear hb
    | simp (maxSteps := 1000000) -implicitDefEqProofs (disch := omega) only [go_sem])
  refine callp hmade ?_
  try simp (maxSteps := 1000000) -implicitDefEqProofs (disch := omega) only [go_sem]
  repeat' (first
    | (with_reducible apply Req_intro); focus (first | omega | assumption | (simp; done))
    | with_reducible (first | apply Req_intro | refine nilT ?_ fun hn => ?_ | apply wk_draw Tryd_mixed | refine drawEnd (by kernel_rfl) ?_)
    | (with_reducible (first | apply condA_if | apply stepDG_ifN | apply stepDG_if | apply stepG_ifN | apply stepG_if)) <;> intro hb <;> (have hif := hb) <;> (try simp only [bo] at hif) <;> (try simp -implicitDefEqProofs (disch := omega) only [go_sem, hb]) <;> clear hb
    | simp (maxSteps := 1000000) -implicitDefEqProofs (disch := omega) only [go_sem])
  refine callp hown ?_
  try simp (maxSteps := 1000000) -implicitDefEqProofs (disch := omega) only [go_sem]
  repeat' (first
    | (with_reducible apply Req_intro); focus (first | omega | assumption | (simp; done))
    | with_reducible (first | apply Req_intro | refine nilT ?_ fun hn => ?_ | apply wk_draw Tryd_mixed | refine drawEnd (by kernel_rfl) ?_)
    | (with_reducible (first | apply condA_if | apply stepDG_ifN | apply stepDG_if | apply stepG_ifN | apply stepG_if)) <;> intro hb <;> (have hif := hb) <;> (try simp only [bo] at hif) <;> (try simp -implicitDefEqProofs (disch := omega) only [go_sem, hb]) <;> clear hb
    | simp (maxSteps := 1000000) -implicitDefEqProofs (disch := omega) only [go_sem])
  refine callp hW ?_
  try simp (maxSteps := 1000000) -implicitDefEqProofs (disch := omega) only [go_sem]
  repeat' (first
    | (with_reducible apply Req_intro); focus (first | omega | assumption | (simp; done))
    | with_reducible (first | apply Req_intro | refine nilT ?_ fun hn => ?_ | apply wk_draw Tryd_mixed | refine drawEnd (by kernel_rfl) ?_)
    | (with_reducible (first | apply condA_if | apply stepDG_ifN | apply stepDG_if | apply stepG_ifN | apply stepG_if)) <;> intro hb <;> (have hif := hb) <;> (try simp only [bo] at hif) <;> (try simp -implicitDefEqProofs (disch := omega) only [go_sem, hb]) <;> clear hb
    | simp (maxSteps := 1000000) -implicitDefEqProofs (disch := omega) only [go_sem])
  all_goals first | exact absurd trivial ‹¬True› | (exfalso; omega) | omega | skip
  refine call_own bs cs hz h8 h3 ?_
  rw [ownRowsN]
  repeat' (first
    | (with_reducible apply Req_intro); focus (first | omega | assumption | (simp; done))
    | with_reducible (first | apply Req_intro | refine nilT ?_ fun hn => ?_ | apply wk_draw Tryd_mixed | refine drawEnd (by kernel_rfl) ?_)
    | (with_reducible (first | apply condA_if | apply stepDG_ifN | apply stepDG_if | apply stepG_ifN | apply stepG_if)) <;> intro hb <;> (have hif := hb) <;> (try simp only [bo] at hif) <;> (try simp -implicitDefEqProofs (disch := omega) only [go_sem, hb, hwi, hi]) <;> clear hb
    | simp (maxSteps := 1000000) -implicitDefEqProofs (disch := omega) only [go_sem, hwi, hi])
  all_goals first | exact absurd trivial ‹¬True› | (exfalso; omega) | omega | skip
  refine loop_rows (α := Nat) [13, 74, 75, 76, 77, 78, 79, 80, 81, 82, 83, 84, 85, 86, 87, 88, 89, 90, 91, 92, 93, 94, 95, 96, 97, 98, 99, 100, 101, 102, 103, 104, 105] (fun k => [(13, .lit (.int .i64 k))]) (fun k => [(64, some ⟨3, [[u8 v0, u8 v1, u8 v2]], 78, .wr⟩), (576, some ⟨2, [loadC bs cs], 25, .wr⟩), (2753, some ⟨1, famE 2760 bs.length (lnB bs), 67, .wr⟩), (2754, some ⟨2, famC 2768 cs.length (ctC cs) (lnC cs), 64, .wr⟩), (2760, some ⟨2, lessRow bs held i k 0, 60, .wr⟩), (2761, some ⟨2, lessRow bs held i k 1, 60, .wr⟩), (2762, some ⟨2, lessRow bs held i k 2, 60, .wr⟩), (2763, some ⟨2, lessRow bs held i k 3, 60, .wr⟩), (2764, some ⟨2, lessRow bs held i k 4, 60, .wr⟩), (2765, some ⟨2, lessRow bs held i k 5, 60, .wr⟩), (2766, some ⟨2, lessRow bs held i k 6, 60, .wr⟩), (2767, some ⟨2, lessRow bs held i k 7, 60, .wr⟩), (2768, some ⟨2, rowC cs cs.length 0, 60, .wr⟩), (2769, some ⟨2, rowC cs cs.length 1, 60, .wr⟩), (2770, some ⟨2, rowC cs cs.length 2, 60, .wr⟩), (4032, some ⟨2, [[.os 2753 1 bs.length false, .os 2754 2 cs.length false]], 25, .wr⟩)]) (fun k => k ≤ stuffs cs) (fun k => stuffs cs - k) 0 (fun x => by simp (maxSteps := 1000000) -implicitDefEqProofs (disch := omega) only [go_sem]; rfl) ?_ ?_ fun x hx => ?_
  · simp only [lessRow_zero hin]
    exact weak_do3 []
  · exact Nat.zero_le _
  by_cases hlt : x < stuffs cs
  · have hrow := lessRow_at (bs := bs) (held := held) (i := i) x
    have hln : lnB bs i = stuffs cs := hg.lb _ (getD_mem hin)
    have hll := lessTo_boxlen hg hT hin (k := x) (by omega)
    have hstep := lessTo_step hg hT hin hlt
    have hnx : lessRow bs held i (x + 1) i = (((lessTo bs held i x).getD i default).set x ((held.getD i default).getD x default, (held.getD i default).getD x default)).map encS := by
      rw [lessRow_at, ← hstep]; rfl
    rcases Nat.eq_or_lt_of_le (show 0 ≤ i by omega) with he | he
    · subst he
      repeat' (first
        | (with_reducible apply Req_intro); focus (first | omega | assumption | (simp; done))
        | with_reducible (first | apply Req_intro | refine nilT ?_ fun hn => ?_ | apply wk_draw Tryd_mixed | refine drawEnd (by kernel_rfl) ?_)
        | (with_reducible (first | apply condA_if | apply stepDG_ifN | apply stepDG_if | apply stepG_ifN | apply stepG_if)) <;> intro hb <;> (have hif := hb) <;> (try simp only [bo] at hif) <;> (try simp -implicitDefEqProofs (disch := omega) only [go_sem, hb, hrow, hln, hll, hhk]) <;> clear hb
        | simp (maxSteps := 1000000) -implicitDefEqProofs (disch := omega) only [go_sem, hrow, hln, hll, hhk])
      all_goals first | exact absurd trivial ‹¬True› | (exfalso; omega) | omega | skip
      refine calld (span_spec _ _) ?_
      try simp (maxSteps := 1000000) -implicitDefEqProofs (disch := omega) only [go_sem]
      repeat' (first
        | (with_reducible apply Req_intro); focus (first | omega | assumption | (simp; done))
        | with_reducible (first | apply Req_intro | refine nilT ?_ fun hn => ?_ | apply wk_draw Tryd_mixed | refine drawEnd (by kernel_rfl) ?_)
        | (with_reducible (first | apply condA_if | apply stepDG_ifN | apply stepDG_if | apply stepG_ifN | apply stepG_if)) <;> intro hb <;> (have hif := hb) <;> (try simp only [bo] at hif) <;> (try simp -implicitDefEqProofs (disch := omega) only [go_sem, hb, hrow, hln, hll, hhk]) <;> clear hb
        | simp (maxSteps := 1000000) -implicitDefEqProofs (disch := omega) only [go_sem, hrow, hln, hll, hhk])
      all_goals first | exact absurd trivial ‹¬True› | (exfalso; omega) | omega | skip
      with_reducible refine nxt_w (x + 1) ?_ ?_
      · (try dsimp only)
        rw [hnx]
        exact weak_do3 []
      try dsimp only
      omega
    rcases Nat.eq_or_lt_of_le (show 1 ≤ i by omega) with he | he
    · subst he
      repeat' (first
        | (with_reducible apply Req_intro); focus (first | omega | assumption | (simp; done))
        | with_reducible (first | apply Req_intro | refine nilT ?_ fun hn => ?_ | apply wk_draw Tryd_mixed | refine drawEnd (by kernel_rfl) ?_)
        | (with_reducible (first | apply condA_if | apply stepDG_ifN | apply stepDG_if | apply stepG_ifN | apply stepG_if)) <;> intro hb <;> (have hif := hb) <;> (try simp only [bo] at hif) <;> (try simp -implicitDefEqProofs (disch := omega) only [go_sem, hb, hrow, hln, hll, hhk]) <;> clear hb
        | simp (maxSteps := 1000000) -implicitDefEqProofs (disch := omega) only [go_sem, hrow, hln, hll, hhk])
      all_goals first | exact absurd trivial ‹¬True› | (exfalso; omega) | omega | skip
      refine calld (span_spec _ _) ?_
      try simp (maxSteps := 1000000) -implicitDefEqProofs (disch := omega) only [go_sem]
      repeat' (first
        | (with_reducible apply Req_intro); focus (first | omega | assumption | (simp; done))
        | with_reducible (first | apply Req_intro | refine nilT ?_ fun hn => ?_ | apply wk_draw Tryd_mixed | refine drawEnd (by kernel_rfl) ?_)
        | (with_reducible (first | apply condA_if | apply stepDG_ifN | apply stepDG_if | apply stepG_ifN | apply stepG_if)) <;> intro hb <;> (have hif := hb) <;> (try simp only [bo] at hif) <;> (try simp -implicitDefEqProofs (disch := omega) only [go_sem, hb, hrow, hln, hll, hhk]) <;> clear hb
        | simp (maxSteps := 1000000) -implicitDefEqProofs (disch := omega) only [go_sem, hrow, hln, hll, hhk])
      all_goals first | exact absurd trivial ‹¬True› | (exfalso; omega) | omega | skip
      with_reducible refine nxt_w (x + 1) ?_ ?_
      · (try dsimp only)
        rw [hnx]
        exact weak_do3 []
      try dsimp only
      omega
    rcases Nat.eq_or_lt_of_le (show 2 ≤ i by omega) with he | he
    · subst he
      repeat' (first
        | (with_reducible apply Req_intro); focus (first | omega | assumption | (simp; done))
        | with_reducible (first | apply Req_intro | refine nilT ?_ fun hn => ?_ | apply wk_draw Tryd_mixed | refine drawEnd (by kernel_rfl) ?_)
        | (with_reducible (first | apply condA_if | apply stepDG_ifN | apply stepDG_if | apply stepG_ifN | apply stepG_if)) <;> intro hb <;> (have hif := hb) <;> (try simp only [bo] at hif) <;> (try simp -implicitDefEqProofs (disch := omega) only [go_sem, hb, hrow, hln, hll, hhk]) <;> clear hb
        | simp (maxSteps := 1000000) -implicitDefEqProofs (disch := omega) only [go_sem, hrow, hln, hll, hhk])
      all_goals first | exact absurd trivial ‹¬True› | (exfalso; omega) | omega | skip
      refine calld (span_spec _ _) ?_
      try simp (maxSteps := 1000000) -implicitDefEqProofs (disch := omega) only [go_sem]
      repeat' (first
        | (with_reducible apply Req_intro); focus (first | omega | assumption | (simp; done))
        | with_reducible (first | apply Req_intro | refine nilT ?_ fun hn => ?_ | apply wk_draw Tryd_mixed | refine drawEnd (by kernel_rfl) ?_)
        | (with_reducible (first | apply condA_if | apply stepDG_ifN | apply stepDG_if | apply stepG_ifN | apply stepG_if)) <;> intro hb <;> (have hif := hb) <;> (try simp only [bo] at hif) <;> (try simp -implicitDefEqProofs (disch := omega) only [go_sem, hb, hrow, hln, hll, hhk]) <;> clear hb
        | simp (maxSteps := 1000000) -implicitDefEqProofs (disch := omega) only [go_sem, hrow, hln, hll, hhk])
      all_goals first | exact absurd trivial ‹¬True› | (exfalso; omega) | omega | skip
      with_reducible refine nxt_w (x + 1) ?_ ?_
      · (try dsimp only)
        rw [hnx]
        exact weak_do3 []
      try dsimp only
      omega
    rcases Nat.eq_or_lt_of_le (show 3 ≤ i by omega) with he | he
    · subst he
      repeat' (first
        | (with_reducible apply Req_intro); focus (first | omega | assumption | (simp; done))
        | with_reducible (first | apply Req_intro | refine nilT ?_ fun hn => ?_ | apply wk_draw Tryd_mixed | refine drawEnd (by kernel_rfl) ?_)
        | (with_reducible (first | apply condA_if | apply stepDG_ifN | apply stepDG_if | apply stepG_ifN | apply stepG_if)) <;> intro hb <;> (have hif := hb) <;> (try simp only [bo] at hif) <;> (try simp -implicitDefEqProofs (disch := omega) only [go_sem, hb, hrow, hln, hll, hhk]) <;> clear hb
        | simp (maxSteps := 1000000) -implicitDefEqProofs (disch := omega) only [go_sem, hrow, hln, hll, hhk])
      all_goals first | exact absurd trivial ‹¬True› | (exfalso; omega) | omega | skip
      refine calld (span_spec _ _) ?_
      try simp (maxSteps := 1000000) -implicitDefEqProofs (disch := omega) only [go_sem]
      repeat' (first
        | (with_reducible apply Req_intro); focus (first | omega | assumption | (simp; done))
        | with_reducible (first | apply Req_intro | refine nilT ?_ fun hn => ?_ | apply wk_draw Tryd_mixed | refine drawEnd (by kernel_rfl) ?_)
        | (with_reducible (first | apply condA_if | apply stepDG_ifN | apply stepDG_if | apply stepG_ifN | apply stepG_if)) <;> intro hb <;> (have hif := hb) <;> (try simp only [bo] at hif) <;> (try simp -implicitDefEqProofs (disch := omega) only [go_sem, hb, hrow, hln, hll, hhk]) <;> clear hb
        | simp (maxSteps := 1000000) -implicitDefEqProofs (disch := omega) only [go_sem, hrow, hln, hll, hhk])
      all_goals first | exact absurd trivial ‹¬True› | (exfalso; omega) | omega | skip
      with_reducible refine nxt_w (x + 1) ?_ ?_
      · (try dsimp only)
        rw [hnx]
        exact weak_do3 []
      try dsimp only
      omega
    rcases Nat.eq_or_lt_of_le (show 4 ≤ i by omega) with he | he
    · subst he
      repeat' (first
        | (with_reducible apply Req_intro); focus (first | omega | assumption | (simp; done))
        | with_reducible (first | apply Req_intro | refine nilT ?_ fun hn => ?_ | apply wk_draw Tryd_mixed | refine drawEnd (by kernel_rfl) ?_)
        | (with_reducible (first | apply condA_if | apply stepDG_ifN | apply stepDG_if | apply stepG_ifN | apply stepG_if)) <;> intro hb <;> (have hif := hb) <;> (try simp only [bo] at hif) <;> (try simp -implicitDefEqProofs (disch := omega) only [go_sem, hb, hrow, hln, hll, hhk]) <;> clear hb
        | simp (maxSteps := 1000000) -implicitDefEqProofs (disch := omega) only [go_sem, hrow, hln, hll, hhk])
      all_goals first | exact absurd trivial ‹¬True› | (exfalso; omega) | omega | skip
      refine calld (span_spec _ _) ?_
      try simp (maxSteps := 1000000) -implicitDefEqProofs (disch := omega) only [go_sem]
      repeat' (first
        | (with_reducible apply Req_intro); focus (first | omega | assumption | (simp; done))
        | with_reducible (first | apply Req_intro | refine nilT ?_ fun hn => ?_ | apply wk_draw Tryd_mixed | refine drawEnd (by kernel_rfl) ?_)
        | (with_reducible (first | apply condA_if | apply stepDG_ifN | apply stepDG_if | apply stepG_ifN | apply stepG_if)) <;> intro hb <;> (have hif := hb) <;> (try simp only [bo] at hif) <;> (try simp -implicitDefEqProofs (disch := omega) only [go_sem, hb, hrow, hln, hll, hhk]) <;> clear hb
        | simp (maxSteps := 1000000) -implicitDefEqProofs (disch := omega) only [go_sem, hrow, hln, hll, hhk])
      all_goals first | exact absurd trivial ‹¬True› | (exfalso; omega) | omega | skip
      with_reducible refine nxt_w (x + 1) ?_ ?_
      · (try dsimp only)
        rw [hnx]
        exact weak_do3 []
      try dsimp only
      omega
    rcases Nat.eq_or_lt_of_le (show 5 ≤ i by omega) with he | he
    · subst he
      repeat' (first
        | (with_reducible apply Req_intro); focus (first | omega | assumption | (simp; done))
        | with_reducible (first | apply Req_intro | refine nilT ?_ fun hn => ?_ | apply wk_draw Tryd_mixed | refine drawEnd (by kernel_rfl) ?_)
        | (with_reducible (first | apply condA_if | apply stepDG_ifN | apply stepDG_if | apply stepG_ifN | apply stepG_if)) <;> intro hb <;> (have hif := hb) <;> (try simp only [bo] at hif) <;> (try simp -implicitDefEqProofs (disch := omega) only [go_sem, hb, hrow, hln, hll, hhk]) <;> clear hb
        | simp (maxSteps := 1000000) -implicitDefEqProofs (disch := omega) only [go_sem, hrow, hln, hll, hhk])
      all_goals first | exact absurd trivial ‹¬True› | (exfalso; omega) | omega | skip
      refine calld (span_spec _ _) ?_
      try simp (maxSteps := 1000000) -implicitDefEqProofs (disch := omega) only [go_sem]
      repeat' (first
        | (with_reducible apply Req_intro); focus (first | omega | assumption | (simp; done))
        | with_reducible (first | apply Req_intro | refine nilT ?_ fun hn => ?_ | apply wk_draw Tryd_mixed | refine drawEnd (by kernel_rfl) ?_)
        | (with_reducible (first | apply condA_if | apply stepDG_ifN | apply stepDG_if | apply stepG_ifN | apply stepG_if)) <;> intro hb <;> (have hif := hb) <;> (try simp only [bo] at hif) <;> (try simp -implicitDefEqProofs (disch := omega) only [go_sem, hb, hrow, hln, hll, hhk]) <;> clear hb
        | simp (maxSteps := 1000000) -implicitDefEqProofs (disch := omega) only [go_sem, hrow, hln, hll, hhk])
      all_goals first | exact absurd trivial ‹¬True› | (exfalso; omega) | omega | skip
      with_reducible refine nxt_w (x + 1) ?_ ?_
      · (try dsimp only)
        rw [hnx]
        exact weak_do3 []
      try dsimp only
      omega
    rcases Nat.eq_or_lt_of_le (show 6 ≤ i by omega) with he | he
    · subst he
      repeat' (first
        | (with_reducible apply Req_intro); focus (first | omega | assumption | (simp; done))
        | with_reducible (first | apply Req_intro | refine nilT ?_ fun hn => ?_ | apply wk_draw Tryd_mixed | refine drawEnd (by kernel_rfl) ?_)
        | (with_reducible (first | apply condA_if | apply stepDG_ifN | apply stepDG_if | apply stepG_ifN | apply stepG_if)) <;> intro hb <;> (have hif := hb) <;> (try simp only [bo] at hif) <;> (try simp -implicitDefEqProofs (disch := omega) only [go_sem, hb, hrow, hln, hll, hhk]) <;> clear hb
        | simp (maxSteps := 1000000) -implicitDefEqProofs (disch := omega) only [go_sem, hrow, hln, hll, hhk])
      all_goals first | exact absurd trivial ‹¬True› | (exfalso; omega) | omega | skip
      refine calld (span_spec _ _) ?_
      try simp (maxSteps := 1000000) -implicitDefEqProofs (disch := omega) only [go_sem]
      repeat' (first
        | (with_reducible apply Req_intro); focus (first | omega | assumption | (simp; done))
        | with_reducible (first | apply Req_intro | refine nilT ?_ fun hn => ?_ | apply wk_draw Tryd_mixed | refine drawEnd (by kernel_rfl) ?_)
        | (with_reducible (first | apply condA_if | apply stepDG_ifN | apply stepDG_if | apply stepG_ifN | apply stepG_if)) <;> intro hb <;> (have hif := hb) <;> (try simp only [bo] at hif) <;> (try simp -implicitDefEqProofs (disch := omega) only [go_sem, hb, hrow, hln, hll, hhk]) <;> clear hb
        | simp (maxSteps := 1000000) -implicitDefEqProofs (disch := omega) only [go_sem, hrow, hln, hll, hhk])
      all_goals first | exact absurd trivial ‹¬True› | (exfalso; omega) | omega | skip
      with_reducible refine nxt_w (x + 1) ?_ ?_
      · (try dsimp only)
        rw [hnx]
        exact weak_do3 []
      try dsimp only
      omega
    rcases Nat.eq_or_lt_of_le (show 7 ≤ i by omega) with he | he
    · subst he
      repeat' (first
        | (with_reducible apply Req_intro); focus (first | omega | assumption | (simp; done))
        | with_reducible (first | apply Req_intro | refine nilT ?_ fun hn => ?_ | apply wk_draw Tryd_mixed | refine drawEnd (by kernel_rfl) ?_)
        | (with_reducible (first | apply condA_if | apply stepDG_ifN | apply stepDG_if | apply stepG_ifN | apply stepG_if)) <;> intro hb <;> (have hif := hb) <;> (try simp only [bo] at hif) <;> (try simp -implicitDefEqProofs (disch := omega) only [go_sem, hb, hrow, hln, hll, hhk]) <;> clear hb
        | simp (maxSteps := 1000000) -implicitDefEqProofs (disch := omega) only [go_sem, hrow, hln, hll, hhk])
      all_goals first | exact absurd trivial ‹¬True› | (exfalso; omega) | omega | skip
      refine calld (span_spec _ _) ?_
      try simp (maxSteps := 1000000) -implicitDefEqProofs (disch := omega) only [go_sem]
      repeat' (first
        | (with_reducible apply Req_intro); focus (first | omega | assumption | (simp; done))
        | with_reducible (first | apply Req_intro | refine nilT ?_ fun hn => ?_ | apply wk_draw Tryd_mixed | refine drawEnd (by kernel_rfl) ?_)
        | (with_reducible (first | apply condA_if | apply stepDG_ifN | apply stepDG_if | apply stepG_ifN | apply stepG_if)) <;> intro hb <;> (have hif := hb) <;> (try simp only [bo] at hif) <;> (try simp -implicitDefEqProofs (disch := omega) only [go_sem, hb, hrow, hln, hll, hhk]) <;> clear hb
        | simp (maxSteps := 1000000) -implicitDefEqProofs (disch := omega) only [go_sem, hrow, hln, hll, hhk])
      all_goals first | exact absurd trivial ‹¬True› | (exfalso; omega) | omega | skip
      with_reducible refine nxt_w (x + 1) ?_ ?_
      · (try dsimp only)
        rw [hnx]
        exact weak_do3 []
      try dsimp only
      omega
    omega
  · obtain rfl : x = stuffs cs := by omega
    repeat' (first
      | (with_reducible apply Req_intro); focus (first | omega | assumption | (simp; done))
      | with_reducible (first | apply Req_intro | refine nilT ?_ fun hn => ?_ | apply wk_draw Tryd_mixed | refine drawEnd (by kernel_rfl) ?_)
      | (with_reducible (first | apply condA_if | apply stepDG_ifN | apply stepDG_if | apply stepG_ifN | apply stepG_if)) <;> intro hb <;> (have hif := hb) <;> (try simp only [bo] at hif) <;> (try simp -implicitDefEqProofs (disch := omega) only [go_sem, hb, hhk]) <;> clear hb
      | simp (maxSteps := 1000000) -implicitDefEqProofs (disch := omega) only [go_sem, hhk])
    all_goals first | exact absurd trivial ‹¬True› | (exfalso; omega) | omega | skip

    refine callf [2753, 2754, 2760, 2761, 2762, 2763, 2764, 2765, 2766, 2767, 2768, 2769, 2770] hA ?_ (hp := ?_)
    rotate_left
    · show PurI true (hpOf (fun _ => none) _) [.agg [.os (2752 + 1) 1 bs.length false, .os (2752 + 2) 2 cs.length false]] [encLoad (lessTo bs held i (stuffs cs)) cs]
      refine own_pur (ln := lnB bs) (lc := lnC cs) (ct := ctC cs) (lessTo_len _) rfl (by rfl) (by rfl) (fun m hm => ?_) (fun _ _ => rfl) (fun _ _ => rfl) (forall_lt 8 h8 fun m hm8 hm => ?_) (forall_lt 3 h3 fun m hm3 hm => ?_)
      · show (bs.getD m default).length = _
        by_cases h : i = m
        · subst h; rw [lessTo_boxlen hg hT hin (Nat.le_refl _)]; exact hg.lb _ (getD_mem hin)
        · rw [lessTo_ne h]
      · rw [← lessRow_full hm]
        match m, hm8 with
        | 0, _ => rfl
        | 1, _ => rfl
        | 2, _ => rfl
        | 3, _ => rfl
        | 4, _ => rfl
        | 5, _ => rfl
        | 6, _ => rfl
        | 7, _ => rfl
      · have e : (cs.getD m default).2.map encS = rowC cs cs.length m := by rw [rowC, if_pos hm]
        rw [e]
        match m, hm3 with
        | 0, _ => rfl
        | 1, _ => rfl
        | 2, _ => rfl
    try simp (maxSteps := 1000000) -implicitDefEqProofs (disch := omega) only [go_sem]
    repeat' (first
      | (with_reducible apply Req_intro); focus (first | omega | assumption | (simp; done))
      | with_reducible (first | apply Req_intro | refine nilT ?_ fun hn => ?_ | apply wk_draw Tryd_mixed | refine drawEnd (by kernel_rfl) ?_)
      | (with_reducible (first | apply condA_if | apply stepDG_ifN | apply stepDG_if | apply stepG_ifN | apply stepG_if)) <;> intro hb <;> (have hif := hb) <;> (try simp only [bo] at hif) <;> (try simp -implicitDefEqProofs (disch := omega) only [go_sem, hb]) <;> clear hb
      | simp (maxSteps := 1000000) -implicitDefEqProofs (disch := omega) only [go_sem])
    refine call_own bs cs hz h8 h3 ?_
    rw [ownRowsN]
    repeat' (first
      | (with_reducible apply Req_intro); focus (first | omega | assumption | (simp; done))
      | with_reducible (first | apply Req_intro | refine nilT ?_ fun hn => ?_ | apply wk_draw Tryd_mixed | refine drawEnd (by kernel_rfl) ?_)
      | (with_reducible (first | apply condA_if | apply stepDG_ifN | apply stepDG_if | apply stepG_ifN | apply stepG_if)) <;> intro hb <;> (have hif := hb) <;> (try simp only [bo] at hif) <;> (try simp -implicitDefEqProofs (disch := omega) only [go_sem, hb, hc]) <;> clear hb
      | simp (maxSteps := 1000000) -implicitDefEqProofs (disch := omega) only [go_sem, hc])
    all_goals first | exact absurd trivial ‹¬True› | (exfalso; omega) | omega | skip
    clear hx
    refine loop_rows (α := Nat) [19, 20, 21, 121, 122, 123, 124, 125, 126, 127, 128, 129, 130, 131, 132, 133, 134, 135, 136, 137, 138, 139, 140, 141, 142, 143, 144, 145, 146, 147, 148, 149, 150, 151, 152, 153, 154, 155, 156, 157, 158, 159, 160, 161, 162, 163] (fun k => [(19, .lit (.int .i64 k))]) (fun k => [(64, some ⟨3, [[u8 v0, u8 v1, u8 v2]], 78, .wr⟩), (576, some ⟨2, [loadC bs cs], 25, .wr⟩), (5825, some ⟨1, famE 5832 bs.length (lnB bs), 67, .wr⟩), (5826, some ⟨2, famC 5840 cs.length (ctC cs) (lnC cs), 64, .wr⟩), (5832, some ⟨2, rowB bs bs.length 0, 60, .wr⟩), (5833, some ⟨2, rowB bs bs.length 1, 60, .wr⟩), (5834, some ⟨2, rowB bs bs.length 2, 60, .wr⟩), (5835, some ⟨2, rowB bs bs.length 3, 60, .wr⟩), (5836, some ⟨2, rowB bs bs.length 4, 60, .wr⟩), (5837, some ⟨2, rowB bs bs.length 5, 60, .wr⟩), (5838, some ⟨2, rowB bs bs.length 6, 60, .wr⟩), (5839, some ⟨2, rowB bs bs.length 7, 60, .wr⟩), (5840, some ⟨2, strictRow cs way held bs.length c k 0, 60, .wr⟩), (5841, some ⟨2, strictRow cs way held bs.length c k 1, 60, .wr⟩), (5842, some ⟨2, strictRow cs way held bs.length c k 2, 60, .wr⟩), (7104, some ⟨2, [[.os 5825 1 bs.length false, .os 5826 2 cs.length false]], 25, .wr⟩)]) (fun k => k ≤ stuffs cs) (fun k => stuffs cs - k) 0 (fun x => by simp (maxSteps := 1000000) -implicitDefEqProofs (disch := omega) only [go_sem]; rfl) ?_ ?_ fun x hx => ?_
    · simp only [strictRow_zero hcn]
      exact weak_do3 []
    · exact Nat.zero_le _
    revert x
    intro y hy
    have hlnc : lnC cs c = stuffs cs := hg.lc _ (getD_mem hcn)
    by_cases hlt : y < stuffs cs
    · repeat' (first
        | (with_reducible apply Req_intro); focus (first | omega | assumption | (simp; done))
        | with_reducible (first | apply Req_intro | refine nilT ?_ fun hn => ?_ | apply wk_draw Tryd_mixed | refine drawEnd (by kernel_rfl) ?_)
        | (with_reducible (first | apply condA_if | apply stepDG_ifN | apply stepDG_if | apply stepG_ifN | apply stepG_if)) <;> intro hb <;> (have hif := hb) <;> (try simp only [bo] at hif) <;> (try simp -implicitDefEqProofs (disch := omega) only [go_sem, hb, hlnc]) <;> clear hb
        | simp (maxSteps := 1000000) -implicitDefEqProofs (disch := omega) only [go_sem, hlnc])
      all_goals first | exact absurd trivial ‹¬True› | (exfalso; omega) | omega | skip
      refine loop_at (α := Nat) [20, 21, 132, 133, 134, 135, 136, 137, 138, 139, 140, 141, 142, 143, 144, 145, 146, 147, 148, 149, 150, 151, 152] (fun n => [(21, .lit (.int .i64 n)), (20, .lit (.int .i64 (trueSum way held c y n)))]) (fun n => n ≤ bs.length) (fun n => bs.length - n) 0 (fun x => by simp (maxSteps := 1000000) -implicitDefEqProofs (disch := omega) only [go_sem]; rfl) ?_ ?_ fun x hx => ?_
      · exact weak_do3 []
      · exact Nat.zero_le _
      have hb1 := trueSum_bnd hT c hlt x hx
      by_cases hln : x < bs.length
      · obtain ⟨w', hw1, hw2⟩ := hwi2 x hln
        have hkx := hT.hk x hln
        have hbx := hT.hb x y hln hlt
        by_cases hwc : w' = c
        · have hts := ts_yes2 (held := held) (k := y) hw1 hwc
          subst hwc
          repeat' (first
            | (with_reducible apply Req_intro); focus (first | omega | assumption | (simp; done))
            | with_reducible (first | apply Req_intro | refine nilT ?_ fun hn => ?_ | apply wk_draw Tryd_mixed | refine drawEnd (by kernel_rfl) ?_)
            | (with_reducible (first | apply condA_if | apply stepDG_ifN | apply stepDG_if | apply stepG_ifN | apply stepG_if)) <;> intro hb <;> (have hif := hb) <;> (try simp only [bo] at hif) <;> (try simp -implicitDefEqProofs (disch := omega) only [go_sem, hb, hw1, hkx]) <;> clear hb
            | simp (maxSteps := 1000000) -implicitDefEqProofs (disch := omega) only [go_sem, hw1, hkx])
          all_goals first | exact absurd trivial ‹¬True› | (exfalso; omega) | omega | skip
          with_reducible refine nxt_w (x + 1) ?_ ?_
          · (try dsimp only)
            rw [hts]
            exact weak_do3 []
          try dsimp only
          omega
        · have hts := ts_no2 (held := held) (k := y) hw1 hwc
          repeat' (first
            | (with_reducible apply Req_intro); focus (first | omega | assumption | (simp; done))
            | with_reducible (first | apply Req_intro | refine nilT ?_ fun hn => ?_ | apply wk_draw Tryd_mixed | refine drawEnd (by kernel_rfl) ?_)
            | (with_reducible (first | apply condA_if | apply stepDG_ifN | apply stepDG_if | apply stepG_ifN | apply stepG_if)) <;> intro hb <;> (have hif := hb) <;> (try simp only [bo] at hif) <;> (try simp -implicitDefEqProofs (disch := omega) only [go_sem, hb, hw1, hkx]) <;> clear hb
            | simp (maxSteps := 1000000) -implicitDefEqProofs (disch := omega) only [go_sem, hw1, hkx])
          all_goals first | exact absurd trivial ‹¬True› | (exfalso; omega) | omega | skip
          with_reducible refine nxt_w (x + 1) ?_ ?_
          · (try dsimp only)
            rw [hts]
            exact weak_do3 []
          try dsimp only
          omega
      · obtain rfl : x = bs.length := by omega
        have hrow := strictRow_at (cs := cs) (way := way) (held := held) (n := bs.length) (c := c) y
        have hll := strictTo_billlen (way := way) (held := held) hg bs.length hcn (k := y) (by omega)
        have hstep := strictTo_step (way := way) (held := held) hg bs.length hcn hlt
        have hnx : strictRow cs way held bs.length c (y + 1) c = (((strictTo cs way held bs.length c y).getD c default).2.set y (trueSum way held c y bs.length, trueSum way held c y bs.length)).map encS := by
          rw [strictRow_at, ← hstep]; rfl
        generalize hTS : trueSum way held c y bs.length = TS at *
        rcases Nat.eq_or_lt_of_le (show 0 ≤ c by omega) with he | he
        · subst he
          repeat' (first
            | (with_reducible apply Req_intro); focus (first | omega | assumption | (simp; done))
            | with_reducible (first | apply Req_intro | refine nilT ?_ fun hn => ?_ | apply wk_draw Tryd_mixed | refine drawEnd (by kernel_rfl) ?_)
            | (with_reducible (first | apply condA_if | apply stepDG_ifN | apply stepDG_if | apply stepG_ifN | apply stepG_if)) <;> intro hb <;> (have hif := hb) <;> (try simp only [bo] at hif) <;> (try simp -implicitDefEqProofs (disch := omega) only [go_sem, hb, hrow, hlnc, hll]) <;> clear hb
            | simp (maxSteps := 1000000) -implicitDefEqProofs (disch := omega) only [go_sem, hrow, hlnc, hll])
          all_goals first | exact absurd trivial ‹¬True› | (exfalso; omega) | omega | skip
          refine calld (span_spec _ _) ?_
          try simp (maxSteps := 1000000) -implicitDefEqProofs (disch := omega) only [go_sem]
          repeat' (first
            | (with_reducible apply Req_intro); focus (first | omega | assumption | (simp; done))
            | with_reducible (first | apply Req_intro | refine nilT ?_ fun hn => ?_ | apply wk_draw Tryd_mixed | refine drawEnd (by kernel_rfl) ?_)
            | (with_reducible (first | apply condA_if | apply stepDG_ifN | apply stepDG_if | apply stepG_ifN | apply stepG_if)) <;> intro hb <;> (have hif := hb) <;> (try simp only [bo] at hif) <;> (try simp -implicitDefEqProofs (disch := omega) only [go_sem, hb, hrow, hlnc, hll]) <;> clear hb
            | simp (maxSteps := 1000000) -implicitDefEqProofs (disch := omega) only [go_sem, hrow, hlnc, hll])
          all_goals first | exact absurd trivial ‹¬True› | (exfalso; omega) | omega | skip
          with_reducible refine nxt_w (y + 1) ?_ ?_
          · (try dsimp only)
            rw [hnx]
            exact weak_do3 []
          try dsimp only
          omega
        rcases Nat.eq_or_lt_of_le (show 1 ≤ c by omega) with he | he
        · subst he
          repeat' (first
            | (with_reducible apply Req_intro); focus (first | omega | assumption | (simp; done))
            | with_reducible (first | apply Req_intro | refine nilT ?_ fun hn => ?_ | apply wk_draw Tryd_mixed | refine drawEnd (by kernel_rfl) ?_)
            | (with_reducible (first | apply condA_if | apply stepDG_ifN | apply stepDG_if | apply stepG_ifN | apply stepG_if)) <;> intro hb <;> (have hif := hb) <;> (try simp only [bo] at hif) <;> (try simp -implicitDefEqProofs (disch := omega) only [go_sem, hb, hrow, hlnc, hll]) <;> clear hb
            | simp (maxSteps := 1000000) -implicitDefEqProofs (disch := omega) only [go_sem, hrow, hlnc, hll])
          all_goals first | exact absurd trivial ‹¬True› | (exfalso; omega) | omega | skip
          refine calld (span_spec _ _) ?_
          try simp (maxSteps := 1000000) -implicitDefEqProofs (disch := omega) only [go_sem]
          repeat' (first
            | (with_reducible apply Req_intro); focus (first | omega | assumption | (simp; done))
            | with_reducible (first | apply Req_intro | refine nilT ?_ fun hn => ?_ | apply wk_draw Tryd_mixed | refine drawEnd (by kernel_rfl) ?_)
            | (with_reducible (first | apply condA_if | apply stepDG_ifN | apply stepDG_if | apply stepG_ifN | apply stepG_if)) <;> intro hb <;> (have hif := hb) <;> (try simp only [bo] at hif) <;> (try simp -implicitDefEqProofs (disch := omega) only [go_sem, hb, hrow, hlnc, hll]) <;> clear hb
            | simp (maxSteps := 1000000) -implicitDefEqProofs (disch := omega) only [go_sem, hrow, hlnc, hll])
          all_goals first | exact absurd trivial ‹¬True› | (exfalso; omega) | omega | skip
          with_reducible refine nxt_w (y + 1) ?_ ?_
          · (try dsimp only)
            rw [hnx]
            exact weak_do3 []
          try dsimp only
          omega
        rcases Nat.eq_or_lt_of_le (show 2 ≤ c by omega) with he | he
        · subst he
          repeat' (first
            | (with_reducible apply Req_intro); focus (first | omega | assumption | (simp; done))
            | with_reducible (first | apply Req_intro | refine nilT ?_ fun hn => ?_ | apply wk_draw Tryd_mixed | refine drawEnd (by kernel_rfl) ?_)
            | (with_reducible (first | apply condA_if | apply stepDG_ifN | apply stepDG_if | apply stepG_ifN | apply stepG_if)) <;> intro hb <;> (have hif := hb) <;> (try simp only [bo] at hif) <;> (try simp -implicitDefEqProofs (disch := omega) only [go_sem, hb, hrow, hlnc, hll]) <;> clear hb
            | simp (maxSteps := 1000000) -implicitDefEqProofs (disch := omega) only [go_sem, hrow, hlnc, hll])
          all_goals first | exact absurd trivial ‹¬True› | (exfalso; omega) | omega | skip
          refine calld (span_spec _ _) ?_
          try simp (maxSteps := 1000000) -implicitDefEqProofs (disch := omega) only [go_sem]
          repeat' (first
            | (with_reducible apply Req_intro); focus (first | omega | assumption | (simp; done))
            | with_reducible (first | apply Req_intro | refine nilT ?_ fun hn => ?_ | apply wk_draw Tryd_mixed | refine drawEnd (by kernel_rfl) ?_)
            | (with_reducible (first | apply condA_if | apply stepDG_ifN | apply stepDG_if | apply stepG_ifN | apply stepG_if)) <;> intro hb <;> (have hif := hb) <;> (try simp only [bo] at hif) <;> (try simp -implicitDefEqProofs (disch := omega) only [go_sem, hb, hrow, hlnc, hll]) <;> clear hb
            | simp (maxSteps := 1000000) -implicitDefEqProofs (disch := omega) only [go_sem, hrow, hlnc, hll])
          all_goals first | exact absurd trivial ‹¬True› | (exfalso; omega) | omega | skip
          with_reducible refine nxt_w (y + 1) ?_ ?_
          · (try dsimp only)
            rw [hnx]
            exact weak_do3 []
          try dsimp only
          omega
        omega
    · obtain rfl : y = stuffs cs := by omega
      repeat' (first
        | (with_reducible apply Req_intro); focus (first | omega | assumption | (simp; done))
        | with_reducible (first | apply Req_intro | refine nilT ?_ fun hn => ?_ | apply wk_draw Tryd_mixed | refine drawEnd (by kernel_rfl) ?_)
        | (with_reducible (first | apply condA_if | apply stepDG_ifN | apply stepDG_if | apply stepG_ifN | apply stepG_if)) <;> intro hb <;> (have hif := hb) <;> (try simp only [bo] at hif) <;> (try simp -implicitDefEqProofs (disch := omega) only [go_sem, hb, hlnc]) <;> clear hb
        | simp (maxSteps := 1000000) -implicitDefEqProofs (disch := omega) only [go_sem, hlnc])
      all_goals first | exact absurd trivial ‹¬True› | (exfalso; omega) | omega | skip
      refine callf [5825, 5826, 5832, 5833, 5834, 5835, 5836, 5837, 5838, 5839, 5840, 5841, 5842] hB ?_ (hp := ?_)
      rotate_left
      · show PurI true (hpOf (fun _ => none) _) [.agg [.os (5824 + 1) 1 bs.length false, .os (5824 + 2) 2 cs.length false]] [encLoad bs (strictTo cs way held bs.length c (stuffs cs))]
        refine own_pur (ln := lnB bs) (lc := lnC cs) (ct := ctC cs) rfl (strictTo_len _ _) (by rfl) (by rfl) (fun _ _ => rfl) (fun m hm => ?_) (fun m hm => ?_) (forall_lt 8 h8 fun m hm8 hm => ?_) (forall_lt 3 h3 fun m hm3 hm => ?_)
        · exact (strictTo_ct _ _).symm
        · rw [strict_lens hg _ hcn hm]; exact hg.lc _ (getD_mem hm)
        · have e : (bs.getD m default).map encS = rowB bs bs.length m := by rw [rowB, if_pos hm]
          rw [e]
          match m, hm8 with
          | 0, _ => rfl
          | 1, _ => rfl
          | 2, _ => rfl
          | 3, _ => rfl
          | 4, _ => rfl
          | 5, _ => rfl
          | 6, _ => rfl
          | 7, _ => rfl
        · rw [← strictRow_full hm]
          match m, hm3 with
          | 0, _ => rfl
          | 1, _ => rfl
          | 2, _ => rfl
      try simp (maxSteps := 1000000) -implicitDefEqProofs (disch := omega) only [go_sem]
      repeat' (first
        | (with_reducible apply Req_intro); focus (first | omega | assumption | (simp; done))
        | with_reducible (first | apply Req_intro | refine nilT ?_ fun hn => ?_ | apply wk_draw Tryd_mixed | refine drawEnd (by kernel_rfl) ?_)
        | (with_reducible (first | apply condA_if | apply stepDG_ifN | apply stepDG_if | apply stepG_ifN | apply stepG_if)) <;> intro hb <;> (have hif := hb) <;> (try simp only [bo] at hif) <;> (try simp -implicitDefEqProofs (disch := omega) only [go_sem, hb]) <;> clear hb
        | simp (maxSteps := 1000000) -implicitDefEqProofs (disch := omega) only [go_sem])
      clear hy
      refine loop_rows (α := Nat) [26, 171, 172, 173, 174, 175, 176, 177, 178, 179, 180, 181, 182, 183, 184, 185, 186, 187, 188, 189, 190, 191, 192, 193, 194] (fun n => [(26, .lit (.int .i64 n)), (127, .undef)]) (fun n => [(64, some ⟨3, [[u8 v0, u8 v1, u8 v2]], 78, .wr⟩), (576, some ⟨2, [loadC bs cs], 25, .wr⟩), (8512, some ⟨2, [[.os 65 1 n false, nilV]], 25, .wr⟩), (65, some ⟨1, (rotTo bs i n).map encB, 67, .wr⟩)]) (fun n => n ≤ bs.length) (fun n => bs.length - n) 0 (fun x => by simp (maxSteps := 1000000) -implicitDefEqProofs (disch := omega) only [go_sem]; rfl) ?_ ?_ fun x hx => ?_
      · simp only [rotTo_zero, List.map_nil]
        exact weak_do [(65, 1000000)]
      · exact Nat.zero_le _
      by_cases hlt : x < bs.length
      · have hidx := emod_cast x i bs.length
        have hrs := rotTo_succ bs i x
        obtain ⟨m, hm, hml⟩ : ∃ m, (x + i) % bs.length = m ∧ m < bs.length := ⟨_, rfl, Nat.mod_lt _ (by omega)⟩
        rw [hm] at hidx hrs
        repeat' (first
          | (with_reducible apply Req_intro); focus (first | omega | assumption | (simp; done))
          | with_reducible (first | apply Req_intro | refine nilT ?_ fun hn => ?_ | apply wk_draw Tryd_mixed | refine drawEnd (by kernel_rfl) ?_)
          | (with_reducible (first | apply condA_if | apply stepDG_ifN | apply stepDG_if | apply stepG_ifN | apply stepG_if)) <;> intro hb <;> (have hif := hb) <;> (try simp only [bo] at hif) <;> (try simp -implicitDefEqProofs (disch := omega) only [go_sem, hb]) <;> clear hb
          | simp (maxSteps := 1000000) -implicitDefEqProofs (disch := omega) only [go_sem])
        all_goals first | exact absurd trivial ‹¬True› | (exfalso; omega) | omega | skip
        refine calld hown ?_
        try simp (maxSteps := 1000000) -implicitDefEqProofs (disch := omega) only [go_sem]
        repeat' (first
          | (with_reducible apply Req_intro); focus (first | omega | assumption | (simp; done))
          | with_reducible (first | apply Req_intro | refine nilT ?_ fun hn => ?_ | apply wk_draw Tryd_mixed | refine drawEnd (by kernel_rfl) ?_)
          | (with_reducible (first | apply condA_if | apply stepDG_ifN | apply stepDG_if | apply stepG_ifN | apply stepG_if)) <;> intro hb <;> (have hif := hb) <;> (try simp only [bo] at hif) <;> (try simp -implicitDefEqProofs (disch := omega) only [go_sem, hb, hidx]) <;> clear hb
          | simp (maxSteps := 1000000) -implicitDefEqProofs (disch := omega) only [go_sem, hidx])
        all_goals first | exact absurd trivial ‹¬True› | (exfalso; omega) | omega | skip
        with_reducible refine nxt_w (x + 1) ?_ ?_
        · (try dsimp only)
          rw [hrs, List.map_append]
          exact weak_do [(65, 9984)]
        try dsimp only
        omega
      · obtain rfl : x = bs.length := by omega
        repeat' (first
          | (with_reducible apply Req_intro); focus (first | omega | assumption | (simp; done))
          | with_reducible (first | apply Req_intro | refine nilT ?_ fun hn => ?_ | apply wk_draw Tryd_mixed | refine drawEnd (by kernel_rfl) ?_)
          | (with_reducible (first | apply condA_if | apply stepDG_ifN | apply stepDG_if | apply stepG_ifN | apply stepG_if)) <;> intro hb <;> (have hif := hb) <;> (try simp only [bo] at hif) <;> (try simp -implicitDefEqProofs (disch := omega) only [go_sem, hb]) <;> clear hb
          | simp (maxSteps := 1000000) -implicitDefEqProofs (disch := omega) only [go_sem])
        all_goals first | exact absurd trivial ‹¬True› | (exfalso; omega) | omega | skip
        clear hx
        refine loop_rows (α := Nat) [27, 195, 196, 197, 198, 199, 200, 201, 202, 203, 204, 205, 206, 207, 208, 209, 210, 211, 212, 213, 214, 215, 216, 217, 218] (fun n => [(27, .lit (.int .i64 n))]) (fun n => [(64, some ⟨3, [[u8 v0, u8 v1, u8 v2]], 78, .wr⟩), (576, some ⟨2, [loadC bs cs], 25, .wr⟩), (8512, some ⟨2, [[.os 65 1 bs.length false, .os 66 2 n false]], 25, .wr⟩), (65, some ⟨1, (rotL bs i).map encB, 67, .wr⟩), (66, some ⟨2, (rotTo cs c n).map encBill, 64, .wr⟩)]) (fun n => n ≤ cs.length) (fun n => cs.length - n) 0 (fun x => by simp (maxSteps := 1000000) -implicitDefEqProofs (disch := omega) only [go_sem]; rfl) ?_ ?_ fun x hx => ?_
        · simp only [rotTo_zero, rotTo_full, List.map_nil]
          exact weak_do [(66, 1000000)]
        · exact Nat.zero_le _
        by_cases hlt : x < cs.length
        · have hidx := emod_cast x c cs.length
          have hrs := rotTo_succ cs c x
          obtain ⟨m, hm, hml⟩ : ∃ m, (x + c) % cs.length = m ∧ m < cs.length := ⟨_, rfl, Nat.mod_lt _ (by omega)⟩
          rw [hm] at hidx hrs
          repeat' (first
            | (with_reducible apply Req_intro); focus (first | omega | assumption | (simp; done))
            | with_reducible (first | apply Req_intro | refine nilT ?_ fun hn => ?_ | apply wk_draw Tryd_mixed | refine drawEnd (by kernel_rfl) ?_)
            | (with_reducible (first | apply condA_if | apply stepDG_ifN | apply stepDG_if | apply stepG_ifN | apply stepG_if)) <;> intro hb <;> (have hif := hb) <;> (try simp only [bo] at hif) <;> (try simp -implicitDefEqProofs (disch := omega) only [go_sem, hb]) <;> clear hb
            | simp (maxSteps := 1000000) -implicitDefEqProofs (disch := omega) only [go_sem])
          all_goals first | exact absurd trivial ‹¬True› | (exfalso; omega) | omega | skip
          refine calld hown ?_
          try simp (maxSteps := 1000000) -implicitDefEqProofs (disch := omega) only [go_sem]
          repeat' (first
            | (with_reducible apply Req_intro); focus (first | omega | assumption | (simp; done))
            | with_reducible (first | apply Req_intro | refine nilT ?_ fun hn => ?_ | apply wk_draw Tryd_mixed | refine drawEnd (by kernel_rfl) ?_)
            | (with_reducible (first | apply condA_if | apply stepDG_ifN | apply stepDG_if | apply stepG_ifN | apply stepG_if)) <;> intro hb <;> (have hif := hb) <;> (try simp only [bo] at hif) <;> (try simp -implicitDefEqProofs (disch := omega) only [go_sem, hb, hidx]) <;> clear hb
            | simp (maxSteps := 1000000) -implicitDefEqProofs (disch := omega) only [go_sem, hidx])
          all_goals first | exact absurd trivial ‹¬True› | (exfalso; omega) | omega | skip
          with_reducible refine nxt_w (x + 1) ?_ ?_
          · (try dsimp only)
            rw [hrs, List.map_append]
            exact weak_do [(66, 10368)]
          try dsimp only
          omega
        · obtain rfl : x = cs.length := by omega
          repeat' (first
            | (with_reducible apply Req_intro); focus (first | omega | assumption | (simp; done))
            | with_reducible (first | apply Req_intro | refine nilT ?_ fun hn => ?_ | apply wk_draw Tryd_mixed | refine drawEnd (by kernel_rfl) ?_)
            | (with_reducible (first | apply condA_if | apply stepDG_ifN | apply stepDG_if | apply stepG_ifN | apply stepG_if)) <;> intro hb <;> (have hif := hb) <;> (try simp only [bo] at hif) <;> (try simp -implicitDefEqProofs (disch := omega) only [go_sem, hb]) <;> clear hb
            | simp (maxSteps := 1000000) -implicitDefEqProofs (disch := omega) only [go_sem])
          all_goals first | exact absurd trivial ‹¬True› | (exfalso; omega) | omega | skip
          rw [rotTo_full]
          refine callf2 [65, 66] hD ?_
          try simp (maxSteps := 1000000) -implicitDefEqProofs (disch := omega) only [go_sem]
          repeat' (first
            | (with_reducible apply Req_intro); focus (first | omega | assumption | (simp; done))
            | with_reducible (first | apply Req_intro | refine nilT ?_ fun hn => ?_ | apply wk_draw Tryd_mixed | refine drawEnd (by kernel_rfl) ?_)
            | (with_reducible (first | apply condA_if | apply stepDG_ifN | apply stepDG_if | apply stepG_ifN | apply stepG_if)) <;> intro hb <;> (have hif := hb) <;> (try simp only [bo] at hif) <;> (try simp -implicitDefEqProofs (disch := omega) only [go_sem, hb, hwi, hj, hw]) <;> clear hb
            | simp (maxSteps := 1000000) -implicitDefEqProofs (disch := omega) only [go_sem, hwi, hj, hw])
          all_goals first | exact absurd trivial ‹¬True› | (exfalso; omega) | omega | skip
          refine calld htold ?_
          try simp (maxSteps := 1000000) -implicitDefEqProofs (disch := omega) only [go_sem]
          repeat' (first
            | (with_reducible apply Req_intro); focus (first | omega | assumption | (simp; done))
            | with_reducible (first | apply Req_intro | refine nilT ?_ fun hn => ?_ | apply wk_draw Tryd_mixed | refine drawEnd (by kernel_rfl) ?_)
            | (with_reducible (first | apply condA_if | apply stepDG_ifN | apply stepDG_if | apply stepG_ifN | apply stepG_if)) <;> intro hb <;> (have hif := hb) <;> (try simp only [bo] at hif) <;> (try simp -implicitDefEqProofs (disch := omega) only [go_sem, hb]) <;> clear hb
            | simp (maxSteps := 1000000) -implicitDefEqProofs (disch := omega) only [go_sem])
          all_goals first | exact absurd trivial ‹¬True› | (exfalso; omega) | omega | skip
          refine calld hM ?_
          try simp (maxSteps := 1000000) -implicitDefEqProofs (disch := omega) only [go_sem]
          repeat' (first
            | (with_reducible apply Req_intro); focus (first | omega | assumption | (simp; done))
            | with_reducible (first | apply Req_intro | refine nilT ?_ fun hn => ?_ | apply wk_draw Tryd_mixed | refine drawEnd (by kernel_rfl) ?_)
            | (with_reducible (first | apply condA_if | apply stepDG_ifN | apply stepDG_if | apply stepG_ifN | apply stepG_if)) <;> intro hb <;> (have hif := hb) <;> (try simp only [bo] at hif) <;> (try simp -implicitDefEqProofs (disch := omega) only [go_sem, hb]) <;> clear hb
            | simp (maxSteps := 1000000) -implicitDefEqProofs (disch := omega) only [go_sem])
          all_goals first | exact absurd trivial ‹¬True› | (exfalso; omega) | omega | skip
          refine loop_at (α := Nat) [4, 35, 301, 302, 303, 304, 305, 306, 307, 308, 309, 310, 311, 312, 313, 314, 315] (fun k => [(35, .lit (.int .i64 k))]) (fun k => k ≤ first.length) (fun k => first.length - k) 0 (fun x => by simp (maxSteps := 1000000) -implicitDefEqProofs (disch := omega) only [go_sem]; rfl) ?_ ?_ fun x hx => ?_
          · exact weak_do []
          · exact Nat.zero_le _
          by_cases hlf : x < first.length
          · have hnb : (first.getD x default != first.getD x default) = false := by simp
            repeat' (first
              | (with_reducible apply Req_intro); focus (first | omega | assumption | (simp; done))
              | with_reducible (first | apply Req_intro | refine nilT ?_ fun hn => ?_ | apply wk_draw Tryd_mixed | refine drawEnd (by kernel_rfl) ?_)
              | (with_reducible (first | apply condA_if | apply stepDG_ifN | apply stepDG_if | apply stepG_ifN | apply stepG_if)) <;> intro hb <;> (have hif := hb) <;> (try simp only [bo] at hif) <;> (try simp -implicitDefEqProofs (disch := omega) only [go_sem, hb, hnb]) <;> clear hb
              | simp (maxSteps := 1000000) -implicitDefEqProofs (disch := omega) only [go_sem, hnb])
            all_goals first | exact absurd trivial ‹¬True› | (exfalso; omega) | omega | skip
            refine nxt_w (x + 1) (weak_do []) ?_
            try dsimp only
            omega
          · obtain rfl : x = first.length := by omega
            repeat' (first
              | (with_reducible apply Req_intro); focus (first | omega | assumption | (simp; done))
              | with_reducible (first | apply Req_intro | refine nilT ?_ fun hn => ?_ | apply wk_draw Tryd_mixed | refine drawEnd (by kernel_rfl) ?_)
              | (with_reducible (first | apply condA_if | apply stepDG_ifN | apply stepDG_if | apply stepG_ifN | apply stepG_if)) <;> intro hb <;> (have hif := hb) <;> (try simp only [bo] at hif) <;> (try simp -implicitDefEqProofs (disch := omega) only [go_sem, hb]) <;> clear hb
              | simp (maxSteps := 1000000) -implicitDefEqProofs (disch := omega) only [go_sem])
            all_goals first | exact absurd trivial ‹¬True› | (exfalso; omega) | omega | skip
            refine callp known_spec ?_
            try simp (maxSteps := 1000000) -implicitDefEqProofs (disch := omega) only [go_sem]
            repeat' (first
              | (with_reducible apply Req_intro); focus (first | omega | assumption | (simp; done))
              | with_reducible (first | apply Req_intro | refine nilT ?_ fun hn => ?_ | apply wk_draw Tryd_mixed | refine drawEnd (by kernel_rfl) ?_)
              | (with_reducible (first | apply condA_if | apply stepDG_ifN | apply stepDG_if | apply stepG_ifN | apply stepG_if)) <;> intro hb <;> (have hif := hb) <;> (try simp only [bo] at hif) <;> (try simp -implicitDefEqProofs (disch := omega) only [go_sem, hb]) <;> clear hb
              | simp (maxSteps := 1000000) -implicitDefEqProofs (disch := omega) only [go_sem])
            refine ret_do ?_
            rfl
end Go.Aw
end
