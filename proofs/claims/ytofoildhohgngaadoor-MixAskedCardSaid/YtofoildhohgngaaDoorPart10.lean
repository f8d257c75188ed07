/-
  A part of the proof that a law returns true for every input that the given row speaks of: an own verified walk over the program (namespace Go.Aw), contracts of the functions that the law calls, and the law itself. Conditions: those of the given row, no other.
-/
import Derived.Test.YtofoildhohgngaaDoorPart9
section
set_option linter.unusedVariables false
set_option linter.unusedSimpArgs false
set_option maxRecDepth 20000
set_option maxHeartbeats 4000000
/-! The law MixAsked: the walk. -/
namespace Go.Aw
open Go.RowKit Go.Proofs

@[go_sem] theorem lapp_cons (a : Oper) (l r : List Oper) : List.append (a :: l) r = a :: List.append l r := rfl
@[go_sem] theorem lapp_nil (r : List Oper) : List.append [] r = r := rfl
attribute [go_sem] Tryd.underlying4
@[go_sem] theorem bne_tt : (true != true) = false := rfl
@[go_sem] theorem bne_tf : (true != false) = true := rfl
@[go_sem] theorem bne_ft : (false != true) = true := rfl
@[go_sem] theorem bne_ff : (false != false) = false := rfl
theorem gs_succ (ws : List (List Int)) (i c : Nat) : grpSum ws i (c + 1) = grpSum ws i c + (grp ws i c).length := rfl
theorem gm_succ (ws : List (List Int)) (i c : Nat) : grpMax ws i (c + 1) = max (grpMax ws i c) (grp ws i c).length := rfl

/-- Ways of a load of which a box is a carrier's. -/
theorem Ways_told {bs : List Box} {cs : List Bill} (hz : SizeOk bs cs) (hg : Good bs cs) (h2 : stuffs cs ≤ 2) {i c : Nat} (hi : i < bs.length) (hc : c < cs.length) :
    (grp (allW bs cs) i c = [] ∧ Ct Tryd.prog 18 [encLoad (toldBs bs i) (toldCs cs c)] (.tup [int 0, nilV, int 9])) ∨ (∃ w : List Int, 1 ≤ (grp (allW bs cs) i c).length ∧ Ct Tryd.prog 18 [encLoad (toldBs bs i) (toldCs cs c)] (.tup [int (grp (allW bs cs) i c).length, .sl 1 (w.map encI) false, int 0])) := by
  have hgt := told_good hg h2 i c
  have hck := check_of_good hgt
  have hft : Fits (toldBs bs i) (toldCs cs c) := by
    have h3 := hgt.st
    have h4 := hgt.nb
    have h5 := hgt.nc
    have hsz : SizeOk (toldBs bs i) (toldCs cs c) := ⟨by omega, by omega, fun b hb => by rw [hgt.lb b hb]; omega, fun b hb => by rw [hgt.lc b hb]; omega⟩
    exact hsz.fits
  have hal := allW_told hg h2 hi hc
  by_cases hn : grp (allW bs cs) i c = []
  · exact .inl ⟨hn, Ways_no _ _ hft 9 (.none hck (by rw [hal]; exact hn))⟩
  · refine .inr ⟨(grp (allW bs cs) i c).getD 0 default, List.length_pos_iff.2 hn, ?_⟩
    have := Ways_ok _ _ hft hck (by rw [hal]; exact hn)
    rw [hal] at this
    exact this

theorem mem_grp {ws : List (List Int)} {way : List Int} (h : way ∈ ws) {i : Nat} {c : Int} (e : way.getD i default = c) : grp ws i c ≠ [] := fun h0 => by
  have : way ∈ grp ws i c := List.mem_filter.2 ⟨h, by simpa using e⟩
  rw [h0] at this
  cases this

theorem asked_full (bx : List B5) (ca st b0 b1 b2 b3 b4 b5 : Int) (bs : List Box) (cs : List Bill) (way : List Int) (held : List (List Int)) (n nc ns : Nat)
    (hmade : Ct Tryd.prog 37 [.agg (innC bx ca st b0 b1 b2 b3 b4 b5)] (.tup [encLoad bs cs, .sl 1 (way.map encI) false, .sl 1 (held.map encW) false]))
    (hz : SizeOk bs cs) (h0 : checkR bs cs = 0) (hmem : way ∈ allW bs cs) (hbl : bs.length = n) (hcl : cs.length = nc) (hst : stuffs cs = ns) (h2 : ns ≤ 2) (h1w : (allW bs cs).length = 1) :
    Ct Tryd.prog 10 [.agg (innC bx ca st b0 b1 b2 b3 b4 b5)] (.lit (.bool true)) := by
  have hg := good_of_check h0
  have h8 := hg.nb
  have h3 := hg.nc
  have h1 := hg.n1
  have hs3 := hg.st
  have hfew := hg.valid.few
  have hf := hz.fits
  have hn : allW bs cs ≠ [] := List.ne_nil_of_mem hmem
  have hpos := pos_of_ne hn
  have hok := allW_ok bs cs
  have hwl := (hok _ hmem).1
  have hown := own_spec bs cs hz
  have hW := Ways_ok bs cs hf h0 hn
  have htold := fun (i c : Nat) => told_spec bs cs (i : Int) (c : Int) hz h8 h3
  have hWo := fun (i : Nat) (hi : i < bs.length) => Worth_ok bs cs i hf h0 hn hi
  have hWT := fun (i c : Nat) (hi : i < bs.length) (hc : c < cs.length) => Ways_told hz hg (by omega) hi hc
  have hsum := fun (i : Nat) (hi : i < bs.length) => grpSum_all hi hok
  have hmax := fun (i : Nat) (hi : i < bs.length) => grpMax_all hi ⟨h1, h3⟩ hok
  have hgb := fun i c => grp_bnd (allW bs cs) i c
  have hgl := fun i c => grp_len (allW bs cs) i c
  have hmg := fun (i : Nat) (c : Int) => mem_grp (i := i) (c := c) hmem
  have hwor := worth_le (allW bs cs)
  have hwi : ∀ i, i < n → ∃ w : Nat, way.getD i default = w ∧ w < nc := fun i hi => by
    have := (hok _ hmem).2 _ (getD_mem (l := way) (i := i) (by omega))
    exact ⟨(way.getD i default).toNat, by omega, by omega⟩
  have hA := Ask_full bs cs hf h0 h1w
  have hM1 : (((allW bs cs).length : Int) == 1) = true := by rw [h1w]; rfl
  generalize (allW bs cs).getD 0 default = first at *
  generalize allW bs cs = ws at *
  refine fn_enter Tryd.func10 rfl (by decide) Tryd.results10 Tryd.ntmps10 ?_ rfl (by simp (maxSteps := 1000000) -implicitDefEqProofs (disch := omega) only [go_sem]; rfl) fun base => ?_
  · first | assumption | (simp only [go_sem] <;> assumption) | (simp only [go_sem, *]; done) | (simp [go_sem]; done)
  repeat' (first
    | (with_reducible apply Req_intro); focus (first | omega | assumption | (simp; done))
    | with_reducible (first | apply Req_intro | refine nilT ?_ fun hn => ?_ | apply wk_draw Tryd_mixed | refine drawEnd (by kernel_rfl) ?_)
    | (with_reducible (first | apply condA_if | apply stepDG_ifN | apply stepDG_if | apply stepG_ifN | apply stepG_if)) <;> intro hb <;> (have hif := hb) <;> (try simp only [bo] at hif) <;> (try simp -implicitDefEqProofs (disch := omega) only [go_sem, hb]) <;> clear hb
    | simp (maxSteps := 1000000) -implicitDefEqProofs (disch := omega) only [go_sem])
  refine callp hmade ?_
  try simp (maxSteps := 1000000) -implicitDefEqProofs (disch := omega) only [go_sem]
  repeat' (first
    | (with_reducible apply Req_intro); focus (first | omega | assumption | (simp; done))
    | with_reducible (first | apply Req_intro | refine nilT ?_ fun hn => ?_ | apply wk_draw Tryd_mixed | refine drawEnd (by kernel_rfl) ?_)
    | (with_reducible (first | apply condA_if | apply stepDG_ifN | apply stepDG_if | apply stepG_ifN | apply stepG_if)) <;> intro hb <;> (have hif := hb) <;> (try simp only [bo] at hif) <;> (try simp -implicitDefEqProofs (disch := omega) only [go_sem, hb]) <;> clear hb
    | simp (maxSteps := 1000000) -implicitDefEqProofs (disch := omega) only [go_sem])
  refine callp hown ?_
  try simp (maxSteps := 1000000) -implicitDefEqProofs (disch := omega) only [go_sem]
  repeat' (first
    | (with_reducible apply Req_intro); focus (first | omega | assumption | (simp; done))
    | with_reducible (first | apply Req_intro | refine nilT ?_ fun hn => ?_ | apply wk_draw Tryd_mixed | refine drawEnd (by kernel_rfl) ?_)
    | (with_reducible (first | apply condA_if | apply stepDG_ifN | apply stepDG_if | apply stepG_ifN | apply stepG_if)) <;> intro hb <;> (have hif := hb) <;> (try simp only [bo] at hif) <;> (try simp -implicitDefEqProofs (disch := omega) only [go_sem, hb]) <;> clear hb
    | simp (maxSteps := 1000000) -implicitDefEqProofs (disch := omega) only [go_sem])
  refine callp hW ?_
  try simp (maxSteps := 1000000) -implicitDefEqProofs (disch := omega) only [go_sem]
  repeat' (first
    | (with_reducible apply Req_intro); focus (first | omega | assumption | (simp; done))
    | with_reducible (first | apply Req_intro | refine nilT ?_ fun hn => ?_ | apply wk_draw Tryd_mixed | refine drawEnd (by kernel_rfl) ?_)
    | (with_reducible (first | apply condA_if | apply stepDG_ifN | apply stepDG_if | apply stepG_ifN | apply stepG_if)) <;> intro hb <;> (have hif := hb) <;> (try simp only [bo] at hif) <;> (try simp -implicitDefEqProofs (disch := omega) only [go_sem, hb]) <;> clear hb
    | simp (maxSteps := 1000000) -implicitDefEqProofs (disch := omega) only [go_sem])
  refine callp hown ?_
  try simp (maxSteps := 1000000) -implicitDefEqProofs (disch := omega) only [go_sem]
  repeat' (first
    | (with_reducible apply Req_intro); focus (first | omega | assumption | (simp; done))
    | with_reducible (first | apply Req_intro | refine nilT ?_ fun hn => ?_ | apply wk_draw Tryd_mixed | refine drawEnd (by kernel_rfl) ?_)
    | (with_reducible (first | apply condA_if | apply stepDG_ifN | apply stepDG_if | apply stepG_ifN | apply stepG_if)) <;> intro hb <;> (have hif := hb) <;> (try simp only [bo] at hif) <;> (try simp -implicitDefEqProofs (disch := omega) only [go_sem, hb]) <;> clear hb
    | simp (maxSteps := 1000000) -implicitDefEqProofs (disch := omega) only [go_sem])
  refine callp hA ?_
  try simp (maxSteps := 1000000) -implicitDefEqProofs (disch := omega) only [go_sem]
  repeat' (first
    | (with_reducible apply Req_intro); focus (first | omega | assumption | (simp; done))
    | with_reducible (first | apply Req_intro | refine nilT ?_ fun hn => ?_ | apply wk_draw Tryd_mixed | refine drawEnd (by kernel_rfl) ?_)
    | (with_reducible (first | apply condA_if | apply stepDG_ifN | apply stepDG_if | apply stepG_ifN | apply stepG_if)) <;> intro hb <;> (have hif := hb) <;> (try simp only [bo] at hif) <;> (try simp -implicitDefEqProofs (disch := omega) only [go_sem, hb]) <;> clear hb
    | simp (maxSteps := 1000000) -implicitDefEqProofs (disch := omega) only [go_sem])
  all_goals first | exact absurd trivial ‹¬True› | (exfalso; omega) | omega | skip
  all_goals (try rw [hM1] at hif)
  all_goals (try exact absurd rfl hif)
  refine loop_at (α := Nat) [2, 12, 13, 14, 15, 16, 17, 18, 19, 20, 21, 69, 70, 71, 72, 73, 74, 75, 76, 77, 78, 79, 80, 81, 82, 83, 84, 85, 86, 87, 88, 89, 90, 91, 92, 93, 94, 95, 96, 97, 98, 99, 100, 101, 102, 103, 104, 105, 106, 107, 108, 109, 110, 111, 112, 113, 114, 115, 116, 117, 118, 119, 120, 121, 122, 123, 124, 125, 126, 127, 128, 129, 130, 131, 132, 133, 134, 135, 136, 137, 138, 139, 140, 141, 142, 143, 144, 145, 146, 147, 148, 149, 150, 151, 152, 153, 154, 155, 156, 157] (fun i => [(13, .lit (.int .i64 i)), (12, .lit (.bool true))]) (fun i => i ≤ n) (fun i => n - i) 0 (fun x => by simp (maxSteps := 1000000) -implicitDefEqProofs (disch := omega) only [go_sem]; rfl) ?_ ?_ fun x hx => ?_
  · exact weak_do []
  · exact Nat.zero_le _
  revert x
  intro y hy
  by_cases hlt : y < n
  · have hyb : y < bs.length := by omega
    obtain ⟨w, hw1, hw2⟩ := hwi y hlt
    have hs1 := hsum y hyb
    have hm1 := hmax y hyb
    rw [hcl] at hs1 hm1
    have hwy := hwor y
    repeat' (first
      | (with_reducible apply Req_intro); focus (first | omega | assumption | (simp; done))
      | with_reducible (first | apply Req_intro | refine nilT ?_ fun hn => ?_ | apply wk_draw Tryd_mixed | refine drawEnd (by kernel_rfl) ?_)
      | (with_reducible (first | apply condA_if | apply stepDG_ifN | apply stepDG_if | apply stepG_ifN | apply stepG_if)) <;> intro hb <;> (have hif := hb) <;> (try simp only [bo] at hif) <;> (try simp -implicitDefEqProofs (disch := omega) only [go_sem, hb]) <;> clear hb
      | simp (maxSteps := 1000000) -implicitDefEqProofs (disch := omega) only [go_sem])
    all_goals first | exact absurd trivial ‹¬True› | (exfalso; omega) | omega | skip
    refine callp hown ?_
    try simp (maxSteps := 1000000) -implicitDefEqProofs (disch := omega) only [go_sem]
    repeat' (first
      | (with_reducible apply Req_intro); focus (first | omega | assumption | (simp; done))
      | with_reducible (first | apply Req_intro | refine nilT ?_ fun hn => ?_ | apply wk_draw Tryd_mixed | refine drawEnd (by kernel_rfl) ?_)
      | (with_reducible (first | apply condA_if | apply stepDG_ifN | apply stepDG_if | apply stepG_ifN | apply stepG_if)) <;> intro hb <;> (have hif := hb) <;> (try simp only [bo] at hif) <;> (try simp -implicitDefEqProofs (disch := omega) only [go_sem, hb]) <;> clear hb
      | simp (maxSteps := 1000000) -implicitDefEqProofs (disch := omega) only [go_sem])
    refine callp (hWo y hyb) ?_
    try simp (maxSteps := 1000000) -implicitDefEqProofs (disch := omega) only [go_sem]
    repeat' (first
      | (with_reducible apply Req_intro); focus (first | omega | assumption | (simp; done))
      | with_reducible (first | apply Req_intro | refine nilT ?_ fun hn => ?_ | apply wk_draw Tryd_mixed | refine drawEnd (by kernel_rfl) ?_)
      | (with_reducible (first | apply condA_if | apply stepDG_ifN | apply stepDG_if | apply stepG_ifN | apply stepG_if)) <;> intro hb <;> (have hif := hb) <;> (try simp only [bo] at hif) <;> (try simp -implicitDefEqProofs (disch := omega) only [go_sem, hb]) <;> clear hb
      | simp (maxSteps := 1000000) -implicitDefEqProofs (disch := omega) only [go_sem])
    all_goals first | exact absurd trivial ‹¬True› | (exfalso; omega) | omega | skip
    refine loop_at (α := Nat) [2, 16, 17, 18, 19, 20, 21, 82, 83, 84, 85, 86, 87, 88, 89, 90, 91, 92, 93, 94, 95, 96, 97, 98, 99, 100, 101, 102, 103, 104, 105, 106, 107, 108, 109, 110, 111, 112, 113, 114, 115, 116, 117, 118, 119, 120, 121] (fun c => [(18, .lit (.int .i64 c)), (16, .lit (.int .i64 (grpSum ws y c))), (17, .lit (.int .i64 (grpMax ws y c)))]) (fun c => c ≤ nc) (fun c => nc - c) 0 (fun x => by simp (maxSteps := 1000000) -implicitDefEqProofs (disch := omega) only [go_sem]; rfl) ?_ ?_ fun x hx => ?_
    · exact weak_do []
    · exact Nat.zero_le _
    by_cases hc : x < nc
    · have hb1 := hgb y x
      have hb2 := hgl y x
      have hb3 : (x : Int) * ws.length ≤ 3 * 6561 := Int.mul_le_mul (by omega) (by omega) (by omega) (by omega)
      have hwx := hmg y x
      repeat' (first
        | (with_reducible apply Req_intro); focus (first | omega | assumption | (simp; done))
        | with_reducible (first | apply Req_intro | refine nilT ?_ fun hn => ?_ | apply wk_draw Tryd_mixed | refine drawEnd (by kernel_rfl) ?_)
        | (with_reducible (first | apply condA_if | apply stepDG_ifN | apply stepDG_if | apply stepG_ifN | apply stepG_if)) <;> intro hb <;> (have hif := hb) <;> (try simp only [bo] at hif) <;> (try simp -implicitDefEqProofs (disch := omega) only [go_sem, hb]) <;> clear hb
        | simp (maxSteps := 1000000) -implicitDefEqProofs (disch := omega) only [go_sem])
      all_goals first | exact absurd trivial ‹¬True› | (exfalso; omega) | omega | skip
      refine callp (htold y x) ?_
      try simp (maxSteps := 1000000) -implicitDefEqProofs (disch := omega) only [go_sem]
      repeat' (first
        | (with_reducible apply Req_intro); focus (first | omega | assumption | (simp; done))
        | with_reducible (first | apply Req_intro | refine nilT ?_ fun hn => ?_ | apply wk_draw Tryd_mixed | refine drawEnd (by kernel_rfl) ?_)
        | (with_reducible (first | apply condA_if | apply stepDG_ifN | apply stepDG_if | apply stepG_ifN | apply stepG_if)) <;> intro hb <;> (have hif := hb) <;> (try simp only [bo] at hif) <;> (try simp -implicitDefEqProofs (disch := omega) only [go_sem, hb]) <;> clear hb
        | simp (maxSteps := 1000000) -implicitDefEqProofs (disch := omega) only [go_sem])
      rcases hWT y x hyb (by omega) with ⟨he, hq⟩ | ⟨v, he, hq⟩
      · have hxw : x ≠ w := fun h => hwx (by omega) he
        refine callp hq ?_
        try simp (maxSteps := 1000000) -implicitDefEqProofs (disch := omega) only [go_sem]
        repeat' (first
          | (with_reducible apply Req_intro); focus (first | omega | assumption | (simp; done))
          | with_reducible (first | apply Req_intro | refine nilT ?_ fun hn => ?_ | apply wk_draw Tryd_mixed | refine drawEnd (by kernel_rfl) ?_)
          | (with_reducible (first | apply condA_if | apply stepDG_ifN | apply stepDG_if | apply stepG_ifN | apply stepG_if)) <;> intro hb <;> (have hif := hb) <;> (try simp only [bo] at hif) <;> (try simp -implicitDefEqProofs (disch := omega) only [go_sem, hb, hw1]) <;> clear hb
          | simp (maxSteps := 1000000) -implicitDefEqProofs (disch := omega) only [go_sem, hw1])
        all_goals first | exact absurd trivial ‹¬True› | (exfalso; omega) | omega | skip
        with_reducible refine nxt_w (x + 1) ?_ ?_
        · (try dsimp only)
          rw [gs_succ, gm_succ, he, List.length_nil]
          exact weak_do []
        try dsimp only
        omega
      · refine callp hq ?_
        try simp (maxSteps := 1000000) -implicitDefEqProofs (disch := omega) only [go_sem]
        repeat' (first
          | (with_reducible apply Req_intro); focus (first | omega | assumption | (simp; done))
          | with_reducible (first | apply Req_intro | refine nilT ?_ fun hn => ?_ | apply wk_draw Tryd_mixed | refine drawEnd (by kernel_rfl) ?_)
          | (with_reducible (first | apply condA_if | apply stepDG_ifN | apply stepDG_if | apply stepG_ifN | apply stepG_if)) <;> intro hb <;> (have hif := hb) <;> (try simp only [bo] at hif) <;> (try simp -implicitDefEqProofs (disch := omega) only [go_sem, hb, hw1]) <;> clear hb
          | simp (maxSteps := 1000000) -implicitDefEqProofs (disch := omega) only [go_sem, hw1])
        all_goals first | exact absurd trivial ‹¬True› | (exfalso; omega) | omega | skip
        with_reducible refine nxt_w (x + 1) ?_ ?_
        · (try dsimp only)
          rw [gs_succ, gm_succ]
          exact weak_do []
        try dsimp only
        omega
    · obtain rfl : nc = x := by omega
      repeat' (first
        | (with_reducible apply Req_intro); focus (first | omega | assumption | (simp; done))
        | with_reducible (first | apply Req_intro | refine nilT ?_ fun hn => ?_ | apply wk_draw Tryd_mixed | refine drawEnd (by kernel_rfl) ?_)
        | (with_reducible (first | apply condA_if | apply stepDG_ifN | apply stepDG_if | apply stepG_ifN | apply stepG_if)) <;> intro hb <;> (have hif := hb) <;> (try simp only [bo] at hif) <;> (try simp -implicitDefEqProofs (disch := omega) only [go_sem, hb, hs1, hm1]) <;> clear hb
        | simp (maxSteps := 1000000) -implicitDefEqProofs (disch := omega) only [go_sem, hs1, hm1])
      all_goals first | exact absurd trivial ‹¬True› | (exfalso; omega) | omega | skip
      refine nxt_w (y + 1) (weak_do []) ?_
      try dsimp only
      omega
  · obtain rfl : n = y := by omega
    repeat' (first
      | (with_reducible apply Req_intro); focus (first | omega | assumption | (simp; done))
      | with_reducible (first | apply Req_intro | refine nilT ?_ fun hn => ?_ | apply wk_draw Tryd_mixed | refine drawEnd (by kernel_rfl) ?_)
      | (with_reducible (first | apply condA_if | apply stepDG_ifN | apply stepDG_if | apply stepG_ifN | apply stepG_if)) <;> intro hb <;> (have hif := hb) <;> (try simp only [bo] at hif) <;> (try simp -implicitDefEqProofs (disch := omega) only [go_sem, hb]) <;> clear hb
      | simp (maxSteps := 1000000) -implicitDefEqProofs (disch := omega) only [go_sem])
    all_goals first | exact absurd trivial ‹¬True› | (exfalso; omega) | omega | skip
    refine callp known_spec ?_
    try simp (maxSteps := 1000000) -implicitDefEqProofs (disch := omega) only [go_sem]
    repeat' (first
      | (with_reducible apply Req_intro); focus (first | omega | assumption | (simp; done))
      | with_reducible (first | apply Req_intro | refine nilT ?_ fun hn => ?_ | apply wk_draw Tryd_mixed | refine drawEnd (by kernel_rfl) ?_)
      | (with_reducible (first | apply condA_if | apply stepDG_ifN | apply stepDG_if | apply stepG_ifN | apply stepG_if)) <;> intro hb <;> (have hif := hb) <;> (try simp only [bo] at hif) <;> (try simp -implicitDefEqProofs (disch := omega) only [go_sem, hb]) <;> clear hb
      | simp (maxSteps := 1000000) -implicitDefEqProofs (disch := omega) only [go_sem])
    refine ret_do ?_
    rfl

theorem asked_ok (bx : List B5) (ca st b0 b1 b2 b3 b4 b5 : Int) (bs : List Box) (cs : List Bill) (way : List Int) (held : List (List Int)) (n nc ns : Nat)
    (hmade : Ct Tryd.prog 37 [.agg (innC bx ca st b0 b1 b2 b3 b4 b5)] (.tup [encLoad bs cs, .sl 1 (way.map encI) false, .sl 1 (held.map encW) false]))
    (hz : SizeOk bs cs) (h0 : checkR bs cs = 0) (hmem : way ∈ allW bs cs) (hbl : bs.length = n) (hcl : cs.length = nc) (hst : stuffs cs = ns) (h2 : ns ≤ 2) (h1w : 2 ≤ (allW bs cs).length) :
    Ct Tryd.prog 10 [.agg (innC bx ca st b0 b1 b2 b3 b4 b5)] (.lit (.bool true)) := by
  have hg := good_of_check h0
  have h8 := hg.nb
  have h3 := hg.nc
  have h1 := hg.n1
  have hs3 := hg.st
  have hfew := hg.valid.few
  have hf := hz.fits
  have hn : allW bs cs ≠ [] := List.ne_nil_of_mem hmem
  have hpos := pos_of_ne hn
  have hok := allW_ok bs cs
  have hwl := (hok _ hmem).1
  have hown := own_spec bs cs hz
  have hW := Ways_ok bs cs hf h0 hn
  have htold := fun (i c : Nat) => told_spec bs cs (i : Int) (c : Int) hz h8 h3
  have hWo := fun (i : Nat) (hi : i < bs.length) => Worth_ok bs cs i hf h0 hn hi
  have hWT := fun (i c : Nat) (hi : i < bs.length) (hc : c < cs.length) => Ways_told hz hg (by omega) hi hc
  have hsum := fun (i : Nat) (hi : i < bs.length) => grpSum_all hi hok
  have hmax := fun (i : Nat) (hi : i < bs.length) => grpMax_all hi ⟨h1, h3⟩ hok
  have hgb := fun i c => grp_bnd (allW bs cs) i c
  have hgl := fun i c => grp_len (allW bs cs) i c
  have hmg := fun (i : Nat) (c : Int) => mem_grp (i := i) (c := c) hmem
  have hwor := worth_le (allW bs cs)
  have hwi : ∀ i, i < n → ∃ w : Nat, way.getD i default = w ∧ w < nc := fun i hi => by
    have := (hok _ hmem).2 _ (getD_mem (l := way) (i := i) (by omega))
    exact ⟨(way.getD i default).toNat, by omega, by omega⟩
  have hA := Ask_ok bs cs hf h0 h1w
  obtain ⟨b, hbn, hb1, hb2, hmin⟩ := ask_best (allW bs cs) (boxes_of_two hg h1w)
  rw [hb1, hb2] at hA
  rw [hbl] at hbn hmin
  have hM1 : (((allW bs cs).length : Int) == 1) = false := by rw [beq_eq_false_iff_ne]; omega
  generalize (allW bs cs).getD 0 default = first at *
  generalize allW bs cs = ws at *
  refine fn_enter Tryd.func10 rfl (by decide) Tryd.results10 Tryd.ntmps10 ?_ rfl (by simp (maxSteps := 1000000) -implicitDefEqProofs (disch := omega) only [go_sem]; rfl) fun base => ?_
  · first | assumption | (simp only [go_sem] <;> assumption) | (simp only [go_sem, *]; done) | (simp [go_sem]; done)
  repeat' (first
    | (with_reducible apply Req_intro); focus (first | omega | assumption | (simp; done))
    | with_reducible (first | apply Req_intro | refine nilT ?_ fun hn => ?_ | apply wk_draw Tryd_mixed | refine drawEnd (by kernel_rfl) ?_)
    | (with_reducible (first | apply condA_if | apply stepDG_ifN | apply stepDG_if | apply stepG_ifN | apply stepG_if)) <;> intro hb <;> (have hif := hb) <;> (try simp only [bo] at hif) <;> (try simp -implicitDefEqProofs (disch := omega) only [go_sem, hb]) <;> clear hb
    | simp (maxSteps := 1000000) -implicitDefEqProofs (disch := omega) only [go_sem])
  refine callp hmade ?_
  try simp (maxSteps := 1000000) -implicitDefEqProofs (disch := omega) only [go_sem]
  repeat' (first
    | (with_reducible apply Req_intro); focus (first | omega | assumption | (simp; done))
    | with_reducible (first | apply Req_intro | refine nilT ?_ fun hn => ?_ | apply wk_draw Tryd_mixed | refine drawEnd (by kernel_rfl) ?_)
    | (with_reducible (first | apply condA_if | apply stepDG_ifN | apply stepDG_if | apply stepG_ifN | apply stepG_if)) <;> intro hb <;> (have hif := hb) <;> (try simp only [bo] at hif) <;> (try simp -implicitDefEqProofs (disch := omega) only [go_sem, hb]) <;> clear hb
    | simp (maxSteps := 1000000) -implicitDefEqProofs (disch := omega) only [go_sem])
  refine callp hown ?_
  try simp (maxSteps := 1000000) -implicitDefEqProofs (disch := omega) only [go_sem]
  repeat' (first
    | (with_reducible apply Req_intro); focus (first | omega | assumption | (simp; done))
    | with_reducible (first | apply Req_intro | refine nilT ?_ fun hn => ?_ | apply wk_draw Tryd_mixed | refine drawEnd (by kernel_rfl) ?_)
    | (with_reducible (first | apply condA_if | apply stepDG_ifN | apply stepDG_if | apply stepG_ifN | apply stepG_if)) <;> intro hb <;> (have hif := hb) <;> (try simp only [bo] at hif) <;> (try simp -implicitDefEqProofs (disch := omega) only [go_sem, hb]) <;> clear hb
    | simp (maxSteps := 1000000) -implicitDefEqProofs (disch := omega) only [go_sem])
  refine callp hW ?_
  try simp (maxSteps := 1000000) -implicitDefEqProofs (disch := omega) only [go_sem]
  repeat' (first
    | (with_reducible apply Req_intro); focus (first | omega | assumption | (simp; done))
    | with_reducible (first | apply Req_intro | refine nilT ?_ fun hn => ?_ | apply wk_draw Tryd_mixed | refine drawEnd (by kernel_rfl) ?_)
    | (with_reducible (first | apply condA_if | apply stepDG_ifN | apply stepDG_if | apply stepG_ifN | apply stepG_if)) <;> intro hb <;> (have hif := hb) <;> (try simp only [bo] at hif) <;> (try simp -implicitDefEqProofs (disch := omega) only [go_sem, hb]) <;> clear hb
    | simp (maxSteps := 1000000) -implicitDefEqProofs (disch := omega) only [go_sem])
  refine callp hown ?_
  try simp (maxSteps := 1000000) -implicitDefEqProofs (disch := omega) only [go_sem]
  repeat' (first
    | (with_reducible apply Req_intro); focus (first | omega | assumption | (simp; done))
    | with_reducible (first | apply Req_intro | refine nilT ?_ fun hn => ?_ | apply wk_draw Tryd_mixed | refine drawEnd (by kernel_rfl) ?_)
    | (with_reducible (first | apply condA_if | apply stepDG_ifN | apply stepDG_if | apply stepG_ifN | apply stepG_if)) <;> intro hb <;> (have hif := hb) <;> (try simp only [bo] at hif) <;> (try simp -implicitDefEqProofs (disch := omega) only [go_sem, hb]) <;> clear hb
    | simp (maxSteps := 1000000) -implicitDefEqProofs (disch := omega) only [go_sem])
  refine callp hA ?_
  try simp (maxSteps := 1000000) -implicitDefEqProofs (disch := omega) only [go_sem]
  repeat' (first
    | (with_reducible apply Req_intro); focus (first | omega | assumption | (simp; done))
    | with_reducible (first | apply Req_intro | refine nilT ?_ fun hn => ?_ | apply wk_draw Tryd_mixed | refine drawEnd (by kernel_rfl) ?_)
    | (with_reducible (first | apply condA_if | apply stepDG_ifN | apply stepDG_if | apply stepG_ifN | apply stepG_if)) <;> intro hb <;> (have hif := hb) <;> (try simp only [bo] at hif) <;> (try simp -implicitDefEqProofs (disch := omega) only [go_sem, hb]) <;> clear hb
    | simp (maxSteps := 1000000) -implicitDefEqProofs (disch := omega) only [go_sem])
  all_goals first | exact absurd trivial ‹¬True› | (exfalso; omega) | omega | skip
  all_goals (try rw [hM1] at hif)
  all_goals (try exact absurd rfl hif)
  refine loop_at (α := Nat) [2, 12, 13, 14, 15, 16, 17, 18, 19, 20, 21, 69, 70, 71, 72, 73, 74, 75, 76, 77, 78, 79, 80, 81, 82, 83, 84, 85, 86, 87, 88, 89, 90, 91, 92, 93, 94, 95, 96, 97, 98, 99, 100, 101, 102, 103, 104, 105, 106, 107, 108, 109, 110, 111, 112, 113, 114, 115, 116, 117, 118, 119, 120, 121, 122, 123, 124, 125, 126, 127, 128, 129, 130, 131, 132, 133, 134, 135, 136, 137, 138, 139, 140, 141, 142, 143, 144, 145, 146, 147, 148, 149, 150, 151, 152, 153, 154, 155, 156, 157] (fun i => [(13, .lit (.int .i64 i)), (12, .lit (.bool (decide (b < i))))]) (fun i => i ≤ n) (fun i => n - i) 0 (fun x => by simp (maxSteps := 1000000) -implicitDefEqProofs (disch := omega) only [go_sem]; rfl) ?_ ?_ fun x hx => ?_
  · exact weak_do []
  · exact Nat.zero_le _
  revert x
  intro y hy
  by_cases hlt : y < n
  · have hyb : y < bs.length := by omega
    obtain ⟨w, hw1, hw2⟩ := hwi y hlt
    have hs1 := hsum y hyb
    have hm1 := hmax y hyb
    rw [hcl] at hs1 hm1
    have hwy := hwor y
    repeat' (first
      | (with_reducible apply Req_intro); focus (first | omega | assumption | (simp; done))
      | with_reducible (first | apply Req_intro | refine nilT ?_ fun hn => ?_ | apply wk_draw Tryd_mixed | refine drawEnd (by kernel_rfl) ?_)
      | (with_reducible (first | apply condA_if | apply stepDG_ifN | apply stepDG_if | apply stepG_ifN | apply stepG_if)) <;> intro hb <;> (have hif := hb) <;> (try simp only [bo] at hif) <;> (try simp -implicitDefEqProofs (disch := omega) only [go_sem, hb]) <;> clear hb
      | simp (maxSteps := 1000000) -implicitDefEqProofs (disch := omega) only [go_sem])
    all_goals first | exact absurd trivial ‹¬True› | (exfalso; omega) | omega | skip
    refine callp hown ?_
    try simp (maxSteps := 1000000) -implicitDefEqProofs (disch := omega) only [go_sem]
    repeat' (first
      | (with_reducible apply Req_intro); focus (first | omega | assumption | (simp; done))
      | with_reducible (first | apply Req_intro | refine nilT ?_ fun hn => ?_ | apply wk_draw Tryd_mixed | refine drawEnd (by kernel_rfl) ?_)
      | (with_reducible (first | apply condA_if | apply stepDG_ifN | apply stepDG_if | apply stepG_ifN | apply stepG_if)) <;> intro hb <;> (have hif := hb) <;> (try simp only [bo] at hif) <;> (try simp -implicitDefEqProofs (disch := omega) only [go_sem, hb]) <;> clear hb
      | simp (maxSteps := 1000000) -implicitDefEqProofs (disch := omega) only [go_sem])
    refine callp (hWo y hyb) ?_
    try simp (maxSteps := 1000000) -implicitDefEqProofs (disch := omega) only [go_sem]
    repeat' (first
      | (with_reducible apply Req_intro); focus (first | omega | assumption | (simp; done))
      | with_reducible (first | apply Req_intro | refine nilT ?_ fun hn => ?_ | apply wk_draw Tryd_mixed | refine drawEnd (by kernel_rfl) ?_)
      | (with_reducible (first | apply condA_if | apply stepDG_ifN | apply stepDG_if | apply stepG_ifN | apply stepG_if)) <;> intro hb <;> (have hif := hb) <;> (try simp only [bo] at hif) <;> (try simp -implicitDefEqProofs (disch := omega) only [go_sem, hb]) <;> clear hb
      | simp (maxSteps := 1000000) -implicitDefEqProofs (disch := omega) only [go_sem])
    all_goals first | exact absurd trivial ‹¬True› | (exfalso; omega) | omega | skip
    refine loop_at (α := Nat) [2, 16, 17, 18, 19, 20, 21, 82, 83, 84, 85, 86, 87, 88, 89, 90, 91, 92, 93, 94, 95, 96, 97, 98, 99, 100, 101, 102, 103, 104, 105, 106, 107, 108, 109, 110, 111, 112, 113, 114, 115, 116, 117, 118, 119, 120, 121] (fun c => [(18, .lit (.int .i64 c)), (16, .lit (.int .i64 (grpSum ws y c))), (17, .lit (.int .i64 (grpMax ws y c)))]) (fun c => c ≤ nc) (fun c => nc - c) 0 (fun x => by simp (maxSteps := 1000000) -implicitDefEqProofs (disch := omega) only [go_sem]; rfl) ?_ ?_ fun x hx => ?_
    · exact weak_do []
    · exact Nat.zero_le _
    by_cases hc : x < nc
    · have hb1 := hgb y x
      have hb2 := hgl y x
      have hb3 : (x : Int) * ws.length ≤ 3 * 6561 := Int.mul_le_mul (by omega) (by omega) (by omega) (by omega)
      have hwx := hmg y x
      repeat' (first
        | (with_reducible apply Req_intro); focus (first | omega | assumption | (simp; done))
        | with_reducible (first | apply Req_intro | refine nilT ?_ fun hn => ?_ | apply wk_draw Tryd_mixed | refine drawEnd (by kernel_rfl) ?_)
        | (with_reducible (first | apply condA_if | apply stepDG_ifN | apply stepDG_if | apply stepG_ifN | apply stepG_if)) <;> intro hb <;> (have hif := hb) <;> (try simp only [bo] at hif) <;> (try simp -implicitDefEqProofs (disch := omega) only [go_sem, hb]) <;> clear hb
        | simp (maxSteps := 1000000) -implicitDefEqProofs (disch := omega) only [go_sem])
      all_goals first | exact absurd trivial ‹¬True› | (exfalso; omega) | omega | skip
      refine callp (htold y x) ?_
      try simp (maxSteps := 1000000) -implicitDefEqProofs (disch := omega) only [go_sem]
      repeat' (first
        | (with_reducible apply Req_intro); focus (first | omega | assumption | (simp; done))
        | with_reducible (first | apply Req_intro | refine nilT ?_ fun hn => ?_ | apply wk_draw Tryd_mixed | refine drawEnd (by kernel_rfl) ?_)
        | (with_reducible (first | apply condA_if | apply stepDG_ifN | apply stepDG_if | apply stepG_ifN | apply stepG_if)) <;> intro hb <;> (have hif := hb) <;> (try simp only [bo] at hif) <;> (try simp -implicitDefEqProofs (disch := omega) only [go_sem, hb]) <;> clear hb
        | simp (maxSteps := 1000000) -implicitDefEqProofs (disch := omega) only [go_sem])
      rcases hWT y x hyb (by omega) with ⟨he, hq⟩ | ⟨v, he, hq⟩
      · have hxw : x ≠ w := fun h => hwx (by omega) he
        refine callp hq ?_
        try simp (maxSteps := 1000000) -implicitDefEqProofs (disch := omega) only [go_sem]
        repeat' (first
          | (with_reducible apply Req_intro); focus (first | omega | assumption | (simp; done))
          | with_reducible (first | apply Req_intro | refine nilT ?_ fun hn => ?_ | apply wk_draw Tryd_mixed | refine drawEnd (by kernel_rfl) ?_)
          | (with_reducible (first | apply condA_if | apply stepDG_ifN | apply stepDG_if | apply stepG_ifN | apply stepG_if)) <;> intro hb <;> (have hif := hb) <;> (try simp only [bo] at hif) <;> (try simp -implicitDefEqProofs (disch := omega) only [go_sem, hb, hw1]) <;> clear hb
          | simp (maxSteps := 1000000) -implicitDefEqProofs (disch := omega) only [go_sem, hw1])
        all_goals first | exact absurd trivial ‹¬True› | (exfalso; omega) | omega | skip
        with_reducible refine nxt_w (x + 1) ?_ ?_
        · (try dsimp only)
          rw [gs_succ, gm_succ, he, List.length_nil]
          exact weak_do []
        try dsimp only
        omega
      · refine callp hq ?_
        try simp (maxSteps := 1000000) -implicitDefEqProofs (disch := omega) only [go_sem]
        repeat' (first
          | (with_reducible apply Req_intro); focus (first | omega | assumption | (simp; done))
          | with_reducible (first | apply Req_intro | refine nilT ?_ fun hn => ?_ | apply wk_draw Tryd_mixed | refine drawEnd (by kernel_rfl) ?_)
          | (with_reducible (first | apply condA_if | apply stepDG_ifN | apply stepDG_if | apply stepG_ifN | apply stepG_if)) <;> intro hb <;> (have hif := hb) <;> (try simp only [bo] at hif) <;> (try simp -implicitDefEqProofs (disch := omega) only [go_sem, hb, hw1]) <;> clear hb
          | simp (maxSteps := 1000000) -implicitDefEqProofs (disch := omega) only [go_sem, hw1])
        all_goals first | exact absurd trivial ‹¬True› | (exfalso; omega) | omega | skip
        with_reducible refine nxt_w (x + 1) ?_ ?_
        · (try dsimp only)
          rw [gs_succ, gm_succ]
          exact weak_do []
        try dsimp only
        omega
    · obtain rfl : nc = x := by omega
      have hmn := hmin y hlt
      rcases Nat.lt_trichotomy b y with hby | hby | hby
      · have hd : decide (b < y) = true := decide_eq_true hby
        repeat' (first
          | (with_reducible apply Req_intro); focus (first | omega | assumption | (simp; done))
          | with_reducible (first | apply Req_intro | refine nilT ?_ fun hn => ?_ | apply wk_draw Tryd_mixed | refine drawEnd (by kernel_rfl) ?_)
          | (with_reducible (first | apply condA_if | apply stepDG_ifN | apply stepDG_if | apply stepG_ifN | apply stepG_if)) <;> intro hb <;> (have hif := hb) <;> (try simp only [bo] at hif) <;> (try simp -implicitDefEqProofs (disch := omega) only [go_sem, hb, hs1, hm1, hd]) <;> clear hb
          | simp (maxSteps := 1000000) -implicitDefEqProofs (disch := omega) only [go_sem, hs1, hm1, hd])
        all_goals first | exact absurd trivial ‹¬True› | (exfalso; omega) | omega | skip
        with_reducible refine nxt_w (y + 1) ?_ ?_
        · (try dsimp only)
          rw [decide_eq_true (show b < y + 1 by omega)]
          exact weak_do []
        try dsimp only
        omega
      · subst hby
        have hd : decide (b < b) = false := decide_eq_false (by omega)
        repeat' (first
          | (with_reducible apply Req_intro); focus (first | omega | assumption | (simp; done))
          | with_reducible (first | apply Req_intro | refine nilT ?_ fun hn => ?_ | apply wk_draw Tryd_mixed | refine drawEnd (by kernel_rfl) ?_)
          | (with_reducible (first | apply condA_if | apply stepDG_ifN | apply stepDG_if | apply stepG_ifN | apply stepG_if)) <;> intro hb <;> (have hif := hb) <;> (try simp only [bo] at hif) <;> (try simp -implicitDefEqProofs (disch := omega) only [go_sem, hb, hs1, hm1, hd]) <;> clear hb
          | simp (maxSteps := 1000000) -implicitDefEqProofs (disch := omega) only [go_sem, hs1, hm1, hd])
        all_goals first | exact absurd trivial ‹¬True› | (exfalso; omega) | omega | skip
        with_reducible refine nxt_w (b + 1) ?_ ?_
        · (try dsimp only)
          rw [decide_eq_true (show b < b + 1 by omega)]
          exact weak_do []
        try dsimp only
        omega
      · have hd : decide (b < y) = false := decide_eq_false (by omega)
        repeat' (first
          | (with_reducible apply Req_intro); focus (first | omega | assumption | (simp; done))
          | with_reducible (first | apply Req_intro | refine nilT ?_ fun hn => ?_ | apply wk_draw Tryd_mixed | refine drawEnd (by kernel_rfl) ?_)
          | (with_reducible (first | apply condA_if | apply stepDG_ifN | apply stepDG_if | apply stepG_ifN | apply stepG_if)) <;> intro hb <;> (have hif := hb) <;> (try simp only [bo] at hif) <;> (try simp -implicitDefEqProofs (disch := omega) only [go_sem, hb, hs1, hm1, hd]) <;> clear hb
          | simp (maxSteps := 1000000) -implicitDefEqProofs (disch := omega) only [go_sem, hs1, hm1, hd])
        all_goals first | exact absurd trivial ‹¬True› | (exfalso; omega) | omega | skip
        with_reducible refine nxt_w (y + 1) ?_ ?_
        · (try dsimp only)
          rw [decide_eq_false (show ¬ b < y + 1 by omega)]
          exact weak_do []
        try dsimp only
        omega
  · obtain rfl : n = y := by omega
    have hd : decide (b < n) = true := decide_eq_true hbn
    repeat' (first
      | (with_reducible apply Req_intro); focus (first | omega | assumption | (simp; done))
      | with_reducible (first | apply Req_intro | refine nilT ?_ fun hn => ?_ | apply wk_draw Tryd_mixed | refine drawEnd (by kernel_rfl) ?_)
      | (with_reducible (first | apply condA_if | apply stepDG_ifN | apply stepDG_if | apply stepG_ifN | apply stepG_if)) <;> intro hb <;> (have hif := hb) <;> (try simp only [bo] at hif) <;> (try simp -implicitDefEqProofs (disch := omega) only [go_sem, hb, hd]) <;> clear hb
      | simp (maxSteps := 1000000) -implicitDefEqProofs (disch := omega) only [go_sem, hd])
    all_goals first | exact absurd trivial ‹¬True› | (exfalso; omega) | omega | skip
    refine callp known_spec ?_
    try simp (maxSteps := 1000000) -implicitDefEqProofs (disch := omega) only [go_sem]
    repeat' (first
      | (with_reducible apply Req_intro); focus (first | omega | assumption | (simp; done))
      | with_reducible (first | apply Req_intro | refine nilT ?_ fun hn => ?_ | apply wk_draw Tryd_mixed | refine drawEnd (by kernel_rfl) ?_)
      | (with_reducible (first | apply condA_if | apply stepDG_ifN | apply stepDG_if | apply stepG_ifN | apply stepG_if)) <;> intro hb <;> (have hif := hb) <;> (try simp only [bo] at hif) <;> (try simp -implicitDefEqProofs (disch := omega) only [go_sem, hb]) <;> clear hb
      | simp (maxSteps := 1000000) -implicitDefEqProofs (disch := omega) only [go_sem])
    refine ret_do ?_
    rfl
end Go.Aw
end
