/-
  A part of the proof that a law returns true for every input that the given row speaks of: an own verified walk over the program (namespace Go.Aw), contracts of the functions that the law calls, and the law itself. Conditions: those of the given row, no other.
-/
import Derived.Test.YtofoildhohgngaaDoorPart9
section
set_option linter.unusedVariables false
set_option linter.unusedSimpArgs false
set_option maxRecDepth 20000
set_option maxHeartbeats 4000000
/-! The law MixDecided: the walk. -/
namespace Go.Aw
open Go.RowKit Go.Proofs

@[go_sem] theorem lapp_cons (a : Oper) (l r : List Oper) : List.append (a :: l) r = a :: List.append l r := rfl
@[go_sem] theorem lapp_nil (r : List Oper) : List.append [] r = r := rfl
attribute [go_sem] Tryd.underlying4
@[go_sem] theorem bne_tt : (true != true) = false := rfl
@[go_sem] theorem bne_tf : (true != false) = true := rfl
@[go_sem] theorem bne_ft : (false != true) = true := rfl
@[go_sem] theorem bne_ff : (false != false) = false := rfl

/-- Questions of a load of which a box is a carrier's. -/
theorem Questions_told {bs : List Box} {cs : List Bill} (hz : SizeOk bs cs) (hg : Good bs cs) (h2 : stuffs cs ≤ 2) {i c : Nat} (hi : i < bs.length) (hc : c < cs.length) (hs : (allW bs cs).length ≤ 300)
    (hq : dec bs.length (qn bs.length (grp (allW bs cs) i c)) (grp (allW bs cs) i c) = true ∧ (∀ j, j < qn bs.length (grp (allW bs cs) i c) → dec bs.length j (grp (allW bs cs) i c) = false)) :
    ((grp (allW bs cs) i c).length = 0 ∧ Ct Tryd.prog 29 [encLoad (toldBs bs i) (toldCs cs c)] (.tup [int 0, int 0, int 9])) ∨ (∃ v : Int, (grp (allW bs cs) i c).length ≠ 0 ∧ Ct Tryd.prog 29 [encLoad (toldBs bs i) (toldCs cs c)] (.tup [int (qn bs.length (grp (allW bs cs) i c)), int v, int 0])) := by
  have hgt := told_good hg h2 i c
  have hck := check_of_good hgt
  have hft : Fits (toldBs bs i) (toldCs cs c) := by
    have h3 := hgt.st
    have h4 := hgt.nb
    have h5 := hgt.nc
    have hsz : SizeOk (toldBs bs i) (toldCs cs c) := ⟨by omega, by omega, fun b hb => by rw [hgt.lb b hb]; omega, fun b hb => by rw [hgt.lc b hb]; omega⟩
    exact hsz.fits
  have hal := allW_told hg h2 hi hc
  have hgl := grp_len (allW bs cs) i c
  by_cases hn : (grp (allW bs cs) i c).length = 0
  · exact .inl ⟨hn, Questions_no _ _ hft 9 (.none hck (by rw [hal]; exact List.eq_nil_of_length_eq_zero hn))⟩
  · have hne : grp (allW bs cs) i c ≠ [] := fun h => hn (by rw [h]; rfl)
    refine .inr ⟨(decR bs.length (qn bs.length (grp (allW bs cs) i c)) (grp (allW bs cs) i c)).1, hn, ?_⟩
    have := Questions_ok _ _ hft hck (by rw [hal]; exact hne) (by rw [hal]; omega) (qn bs.length (grp (allW bs cs) i c)) (by rw [hal, toldBs_len]; exact hq.1) (by rw [hal, toldBs_len]; exact hq.2)
    rw [hal, toldBs_len] at this
    exact this

theorem most_zero {n b : Nat} {ws : List (List Int)} {c : Nat} (h : (grp ws b c).length = 0) : mostTo n b ws (c + 1) = mostTo n b ws c := by rw [mostTo, if_pos h]
theorem most_more {n b : Nat} {ws : List (List Int)} {c : Nat} (h : (grp ws b c).length ≠ 0) : mostTo n b ws (c + 1) = max (mostTo n b ws c) (qn n (grp ws b c)) := by rw [mostTo, if_neg h]
theorem pow_succ' (k i : Nat) : ((k ^ i : Nat) : Int) * k = ((k ^ (i + 1) : Nat) : Int) := by rw [Nat.pow_succ]; push_cast; rfl

theorem decided_long (bx : List B5) (ca st b0 b1 b2 b3 b4 b5 : Int) (bs : List Box) (cs : List Bill) (way : List Int) (held : List (List Int)) (n nc ns : Nat)
    (hmade : Ct Tryd.prog 37 [.agg (innC bx ca st b0 b1 b2 b3 b4 b5)] (.tup [encLoad bs cs, .sl 1 (way.map encI) false, .sl 1 (held.map encW) false]))
    (hz : SizeOk bs cs) (h0 : checkR bs cs = 0) (hmem : way ∈ allW bs cs) (hbl : bs.length = n) (hcl : cs.length = nc) (hst : stuffs cs = ns) (h2 : ns ≤ 2) (h1w : 300 < (allW bs cs).length) :
    Ct Tryd.prog 11 [.agg (innC bx ca st b0 b1 b2 b3 b4 b5)] (.lit (.bool true)) := by
  have hg := good_of_check h0
  have h8 := hg.nb
  have h3 := hg.nc
  have h1 := hg.n1
  have hs3 := hg.st
  have hfew := hg.valid.few
  have hf := hz.fits
  have hn : allW bs cs ≠ [] := List.ne_nil_of_mem hmem
  have hpos := pos_of_ne hn
  have hok := allW_ok bs cs
  have hwl := (hok _ hmem).1
  have hown := own_spec bs cs hz
  have hW := Ways_ok bs cs hf h0 hn
  have htold := fun (i c : Nat) => told_spec bs cs (i : Int) (c : Int) hz h8 h3
  have hA := Questions_long bs cs hf h0 h1w
  have hL : true = decide (300 < ((allW bs cs).length : Int)) := (decide_eq_true (by omega)).symm
  generalize (allW bs cs).getD 0 default = first at *
  generalize allW bs cs = ws at *
  refine fn_enter Tryd.func11 rfl (by decide) Tryd.results11 Tryd.ntmps11 ?_ rfl (by simp (maxSteps := 1000000) -implicitDefEqProofs (disch := omega) only [go_sem]; rfl) fun base => ?_
  · first | assumption | (simp only [go_sem] <;> assumption) | (simp only [go_sem, *]; done) | (simp [go_sem]; done)
  repeat' (first
    | (with_reducible apply Req_intro); focus (first | omega | assumption | (simp; done))
    | with_reducible (first | apply Req_intro | refine nilT ?_ fun hn => ?_ | apply wk_draw Tryd_mixed | refine drawEnd (by kernel_rfl) ?_)
    | (with_reducible (first | apply condA_if | apply stepDG_ifN | apply stepDG_if | apply stepG_ifN | apply stepG_if)) <;> intro hb <;> (have hif := hb) <;> (try simp only [bo] at hif) <;> (try simp -implicitDefEqProofs (disch := omega) only [go_sem, hb]) <;> clear hb
    | simp (maxSteps := 1000000) -implicitDefEqProofs (disch := omega) only [go_sem])
  refine callp hmade ?_
  try simp (maxSteps := 1000000) -implicitDefEqProofs (disch := omega) only [go_sem]
  repeat' (first
    | (with_reducible apply Req_intro); focus (first | omega | assumption | (simp; done))
    | with_reducible (first | apply Req_intro | refine nilT ?_ fun hn => ?_ | apply wk_draw Tryd_mixed | refine drawEnd (by kernel_rfl) ?_)
    | (with_reducible (first | apply condA_if | apply stepDG_ifN | apply stepDG_if | apply stepG_ifN | apply stepG_if)) <;> intro hb <;> (have hif := hb) <;> (try simp only [bo] at hif) <;> (try simp -implicitDefEqProofs (disch := omega) only [go_sem, hb]) <;> clear hb
    | simp (maxSteps := 1000000) -implicitDefEqProofs (disch := omega) only [go_sem])
  refine callp hown ?_
  try simp (maxSteps := 1000000) -implicitDefEqProofs (disch := omega) only [go_sem]
  repeat' (first
    | (with_reducible apply Req_intro); focus (first | omega | assumption | (simp; done))
    | with_reducible (first | apply Req_intro | refine nilT ?_ fun hn => ?_ | apply wk_draw Tryd_mixed | refine drawEnd (by kernel_rfl) ?_)
    | (with_reducible (first | apply condA_if | apply stepDG_ifN | apply stepDG_if | apply stepG_ifN | apply stepG_if)) <;> intro hb <;> (have hif := hb) <;> (try simp only [bo] at hif) <;> (try simp -implicitDefEqProofs (disch := omega) only [go_sem, hb]) <;> clear hb
    | simp (maxSteps := 1000000) -implicitDefEqProofs (disch := omega) only [go_sem])
  refine callp hA ?_
  try simp (maxSteps := 1000000) -implicitDefEqProofs (disch := omega) only [go_sem]
  repeat' (first
    | (with_reducible apply Req_intro); focus (first | omega | assumption | (simp; done))
    | with_reducible (first | apply Req_intro | refine nilT ?_ fun hn => ?_ | apply wk_draw Tryd_mixed | refine drawEnd (by kernel_rfl) ?_)
    | (with_reducible (first | apply condA_if | apply stepDG_ifN | apply stepDG_if | apply stepG_ifN | apply stepG_if)) <;> intro hb <;> (have hif := hb) <;> (try simp only [bo] at hif) <;> (try simp -implicitDefEqProofs (disch := omega) only [go_sem, hb]) <;> clear hb
    | simp (maxSteps := 1000000) -implicitDefEqProofs (disch := omega) only [go_sem])
  refine callp hown ?_
  try simp (maxSteps := 1000000) -implicitDefEqProofs (disch := omega) only [go_sem]
  repeat' (first
    | (with_reducible apply Req_intro); focus (first | omega | assumption | (simp; done))
    | with_reducible (first | apply Req_intro | refine nilT ?_ fun hn => ?_ | apply wk_draw Tryd_mixed | refine drawEnd (by kernel_rfl) ?_)
    | (with_reducible (first | apply condA_if | apply stepDG_ifN | apply stepDG_if | apply stepG_ifN | apply stepG_if)) <;> intro hb <;> (have hif := hb) <;> (try simp only [bo] at hif) <;> (try simp -implicitDefEqProofs (disch := omega) only [go_sem, hb]) <;> clear hb
    | simp (maxSteps := 1000000) -implicitDefEqProofs (disch := omega) only [go_sem])
  refine callp hW ?_
  try simp (maxSteps := 1000000) -implicitDefEqProofs (disch := omega) only [go_sem]
  repeat' (first
    | (with_reducible apply Req_intro); focus (first | omega | assumption | (simp; done))
    | with_reducible (first | apply Req_intro | refine nilT ?_ fun hn => ?_ | apply wk_draw Tryd_mixed | refine drawEnd (by kernel_rfl) ?_)
    | (with_reducible (first | apply condA_if | apply stepDG_ifN | apply stepDG_if | apply stepG_ifN | apply stepG_if)) <;> intro hb <;> (have hif := hb) <;> (try simp only [bo] at hif) <;> (try simp -implicitDefEqProofs (disch := omega) only [go_sem, hb]) <;> clear hb
    | simp (maxSteps := 1000000) -implicitDefEqProofs (disch := omega) only [go_sem])
  all_goals first | exact absurd trivial ‹¬True› | (exfalso; omega) | omega | skip
  all_goals (try exact absurd hL hif)
  refine callp known_spec ?_
  try simp (maxSteps := 1000000) -implicitDefEqProofs (disch := omega) only [go_sem]
  repeat' (first
    | (with_reducible apply Req_intro); focus (first | omega | assumption | (simp; done))
    | with_reducible (first | apply Req_intro | refine nilT ?_ fun hn => ?_ | apply wk_draw Tryd_mixed | refine drawEnd (by kernel_rfl) ?_)
    | (with_reducible (first | apply condA_if | apply stepDG_ifN | apply stepDG_if | apply stepG_ifN | apply stepG_if)) <;> intro hb <;> (have hif := hb) <;> (try simp only [bo] at hif) <;> (try simp -implicitDefEqProofs (disch := omega) only [go_sem, hb]) <;> clear hb
    | simp (maxSteps := 1000000) -implicitDefEqProofs (disch := omega) only [go_sem])
  refine ret_do ?_
  rfl

theorem decided_one (bx : List B5) (ca st b0 b1 b2 b3 b4 b5 : Int) (bs : List Box) (cs : List Bill) (way : List Int) (held : List (List Int)) (n nc ns : Nat)
    (hmade : Ct Tryd.prog 37 [.agg (innC bx ca st b0 b1 b2 b3 b4 b5)] (.tup [encLoad bs cs, .sl 1 (way.map encI) false, .sl 1 (held.map encW) false]))
    (hz : SizeOk bs cs) (h0 : checkR bs cs = 0) (hmem : way ∈ allW bs cs) (hbl : bs.length = n) (hcl : cs.length = nc) (hst : stuffs cs = ns) (h2 : ns ≤ 2) (h1w : (allW bs cs).length = 1) :
    Ct Tryd.prog 11 [.agg (innC bx ca st b0 b1 b2 b3 b4 b5)] (.lit (.bool true)) := by
  have hg := good_of_check h0
  have h8 := hg.nb
  have h3 := hg.nc
  have h1 := hg.n1
  have hs3 := hg.st
  have hfew := hg.valid.few
  have hf := hz.fits
  have hn : allW bs cs ≠ [] := List.ne_nil_of_mem hmem
  have hpos := pos_of_ne hn
  have hok := allW_ok bs cs
  have hwl := (hok _ hmem).1
  have hown := own_spec bs cs hz
  have hW := Ways_ok bs cs hf h0 hn
  have htold := fun (i c : Nat) => told_spec bs cs (i : Int) (c : Int) hz h8 h3
  have hA := Questions_ok bs cs hf h0 hn (by omega) 0 (dec_small (n := bs.length) (q := 0) (by omega)) (fun j hj => absurd hj (Nat.not_lt_zero _))
  have hd : (decR bs.length 0 (allW bs cs)).1 = -1 := by rw [decR, if_pos (by omega)]
  rw [hd] at hA
  have hL : false = decide (300 < ((allW bs cs).length : Int)) := (decide_eq_false (by omega)).symm
  have hE : (((0 : Nat) : Int) == 0) = (((allW bs cs).length : Int) == 1) := by rw [h1w]; rfl
  generalize (allW bs cs).getD 0 default = first at *
  generalize allW bs cs = ws at *
  refine fn_enter Tryd.func11 rfl (by decide) Tryd.results11 Tryd.ntmps11 ?_ rfl (by simp (maxSteps := 1000000) -implicitDefEqProofs (disch := omega) only [go_sem]; rfl) fun base => ?_
  · first | assumption | (simp only [go_sem] <;> assumption) | (simp only [go_sem, *]; done) | (simp [go_sem]; done)
  repeat' (first
    | (with_reducible apply Req_intro); focus (first | omega | assumption | (simp; done))
    | with_reducible (first | apply Req_intro | refine nilT ?_ fun hn => ?_ | apply wk_draw Tryd_mixed | refine drawEnd (by kernel_rfl) ?_)
    | (with_reducible (first | apply condA_if | apply stepDG_ifN | apply stepDG_if | apply stepG_ifN | apply stepG_if)) <;> intro hb <;> (have hif := hb) <;> (try simp only [bo] at hif) <;> (try simp -implicitDefEqProofs (disch := omega) only [go_sem, hb]) <;> clear hb
    | simp (maxSteps := 1000000) -implicitDefEqProofs (disch := omega) only [go_sem])
  refine callp hmade ?_
  try simp (maxSteps := 1000000) -implicitDefEqProofs (disch := omega) only [go_sem]
  repeat' (first
    | (with_reducible apply Req_intro); focus (first | omega | assumption | (simp; done))
    | with_reducible (first | apply Req_intro | refine nilT ?_ fun hn => ?_ | apply wk_draw Tryd_mixed | refine drawEnd (by kernel_rfl) ?_)
    | (with_reducible (first | apply condA_if | apply stepDG_ifN | apply stepDG_if | apply stepG_ifN | apply stepG_if)) <;> intro hb <;> (have hif := hb) <;> (try simp only [bo] at hif) <;> (try simp -implicitDefEqProofs (disch := omega) only [go_sem, hb]) <;> clear hb
    | simp (maxSteps := 1000000) -implicitDefEqProofs (disch := omega) only [go_sem])
  refine callp hown ?_
  try simp (maxSteps := 1000000) -implicitDefEqProofs (disch := omega) only [go_sem]
  repeat' (first
    | (with_reducible apply Req_intro); focus (first | omega | assumption | (simp; done))
    | with_reducible (first | apply Req_intro | refine nilT ?_ fun hn => ?_ | apply wk_draw Tryd_mixed | refine drawEnd (by kernel_rfl) ?_)
    | (with_reducible (first | apply condA_if | apply stepDG_ifN | apply stepDG_if | apply stepG_ifN | apply stepG_if)) <;> intro hb <;> (have hif := hb) <;> (try simp only [bo] at hif) <;> (try simp -implicitDefEqProofs (disch := omega) only [go_sem, hb]) <;> clear hb
    | simp (maxSteps := 1000000) -implicitDefEqProofs (disch := omega) only [go_sem])
  refine callp hA ?_
  try simp (maxSteps := 1000000) -implicitDefEqProofs (disch := omega) only [go_sem]
  repeat' (first
    | (with_reducible apply Req_intro); focus (first | omega | assumption | (simp; done))
    | with_reducible (first | apply Req_intro | refine nilT ?_ fun hn => ?_ | apply wk_draw Tryd_mixed | refine drawEnd (by kernel_rfl) ?_)
    | (with_reducible (first | apply condA_if | apply stepDG_ifN | apply stepDG_if | apply stepG_ifN | apply stepG_if)) <;> intro hb <;> (have hif := hb) <;> (try simp only [bo] at hif) <;> (try simp -implicitDefEqProofs (disch := omega) only [go_sem, hb]) <;> clear hb
    | simp (maxSteps := 1000000) -implicitDefEqProofs (disch := omega) only [go_sem])
  refine callp hown ?_
  try simp (maxSteps := 1000000) -implicitDefEqProofs (disch := omega) only [go_sem]
  repeat' (first
    | (with_reducible apply Req_intro); focus (first | omega | assumption | (simp; done))
    | with_reducible (first | apply Req_intro | refine nilT ?_ fun hn => ?_ | apply wk_draw Tryd_mixed | refine drawEnd (by kernel_rfl) ?_)
    | (with_reducible (first | apply condA_if | apply stepDG_ifN | apply stepDG_if | apply stepG_ifN | apply stepG_if)) <;> intro hb <;> (have hif := hb) <;> (try simp only [bo] at hif) <;> (try simp -implicitDefEqProofs (disch := omega) only [go_sem, hb]) <;> clear hb
    | simp (maxSteps := 1000000) -implicitDefEqProofs (disch := omega) only [go_sem])
  refine callp hW ?_
  try simp (maxSteps := 1000000) -implicitDefEqProofs (disch := omega) only [go_sem]
  repeat' (first
    | (with_reducible apply Req_intro); focus (first | omega | assumption | (simp; done))
    | with_reducible (first | apply Req_intro | refine nilT ?_ fun hn => ?_ | apply wk_draw Tryd_mixed | refine drawEnd (by kernel_rfl) ?_)
    | (with_reducible (first | apply condA_if | apply stepDG_ifN | apply stepDG_if | apply stepG_ifN | apply stepG_if)) <;> intro hb <;> (have hif := hb) <;> (try simp only [bo] at hif) <;> (try simp -implicitDefEqProofs (disch := omega) only [go_sem, hb]) <;> clear hb
    | simp (maxSteps := 1000000) -implicitDefEqProofs (disch := omega) only [go_sem])
  all_goals first | exact absurd trivial ‹¬True› | (exfalso; omega) | omega | skip
  all_goals (try exact absurd hL hif)
  all_goals (try exact absurd hE hif)
  refine callp known_spec ?_
  try simp (maxSteps := 1000000) -implicitDefEqProofs (disch := omega) only [go_sem]
  repeat' (first
    | (with_reducible apply Req_intro); focus (first | omega | assumption | (simp; done))
    | with_reducible (first | apply Req_intro | refine nilT ?_ fun hn => ?_ | apply wk_draw Tryd_mixed | refine drawEnd (by kernel_rfl) ?_)
    | (with_reducible (first | apply condA_if | apply stepDG_ifN | apply stepDG_if | apply stepG_ifN | apply stepG_if)) <;> intro hb <;> (have hif := hb) <;> (try simp only [bo] at hif) <;> (try simp -implicitDefEqProofs (disch := omega) only [go_sem, hb]) <;> clear hb
    | simp (maxSteps := 1000000) -implicitDefEqProofs (disch := omega) only [go_sem])
  refine ret_do ?_
  rfl

theorem decided_more (bx : List B5) (ca st b0 b1 b2 b3 b4 b5 : Int) (bs : List Box) (cs : List Bill) (way : List Int) (held : List (List Int)) (n nc ns : Nat)
    (hmade : Ct Tryd.prog 37 [.agg (innC bx ca st b0 b1 b2 b3 b4 b5)] (.tup [encLoad bs cs, .sl 1 (way.map encI) false, .sl 1 (held.map encW) false]))
    (hz : SizeOk bs cs) (h0 : checkR bs cs = 0) (hmem : way ∈ allW bs cs) (hbl : bs.length = n) (hcl : cs.length = nc) (hst : stuffs cs = ns) (h2 : ns ≤ 2) (h1w : 2 ≤ (allW bs cs).length) (hs : (allW bs cs).length ≤ 300) :
    Ct Tryd.prog 11 [.agg (innC bx ca st b0 b1 b2 b3 b4 b5)] (.lit (.bool true)) := by
  have hg := good_of_check h0
  have h8 := hg.nb
  have h3 := hg.nc
  have h1 := hg.n1
  have hs3 := hg.st
  have hfew := hg.valid.few
  have hf := hz.fits
  have hn : allW bs cs ≠ [] := List.ne_nil_of_mem hmem
  have hpos := pos_of_ne hn
  have hok := allW_ok bs cs
  have hwl := (hok _ hmem).1
  have hown := own_spec bs cs hz
  have hW := Ways_ok bs cs hf h0 hn
  have htold := fun (i c : Nat) => told_spec bs cs (i : Int) (c : Int) hz h8 h3
  obtain ⟨hd1, hd2, hd3⟩ := qn_spec (Nat.le_refl _) (allW_decided bs cs h3)
  have hA := Questions_ok bs cs hf h0 hn hs (qn bs.length (allW bs cs)) hd1 hd2
  generalize qn bs.length (allW bs cs) = m at hd1 hd2 hd3 hA
  obtain ⟨r, rfl⟩ : ∃ r, m = r + 1 := by
    cases m with
    | zero => have := dec_zero hd1; omega
    | succ r => exact ⟨r, rfl⟩
  obtain ⟨b, hb, he, ho⟩ := dec_succ h1w hd1
  rw [he] at hA
  have hct := dec_count ⟨h1, h3⟩ hok hd1
  obtain ⟨hq, hmost⟩ := most_spec ⟨h1, h3⟩ hok hn hd3 hb ho (hd2 r (Nat.lt_succ_self _))
  have hQT := fun (c : Nat) (hc : c < cs.length) => Questions_told hz hg (by omega) hb hc hs ⟨(hq c hc).1, (hq c hc).2.1⟩
  have hq2 := fun (c : Nat) (hc : c < cs.length) => (hq c hc).2.2
  have hpw : ∀ i, i ≤ r + 1 → cs.length ^ i ≤ 6561 := fun i hi => Nat.le_trans (Nat.pow_le_pow_left h3 i) (Nat.le_trans (Nat.pow_le_pow_right (n := 3) (by omega) (show i ≤ 8 by omega)) (by decide))
  clear hq ho he hd1 hd2
  have hL : false = decide (300 < ((allW bs cs).length : Int)) := (decide_eq_false (by omega)).symm
  have hE : (((r + 1 : Nat) : Int) == 0) = (((allW bs cs).length : Int) == 1) := by rw [beq_eq_false_iff_ne.2 (show ((r + 1 : Nat) : Int) ≠ 0 by omega), beq_eq_false_iff_ne.2 (show ((allW bs cs).length : Int) ≠ 1 by omega)]
  generalize (allW bs cs).getD 0 default = first at *
  generalize allW bs cs = ws at *
  refine fn_enter Tryd.func11 rfl (by decide) Tryd.results11 Tryd.ntmps11 ?_ rfl (by simp (maxSteps := 1000000) -implicitDefEqProofs (disch := omega) only [go_sem]; rfl) fun base => ?_
  · first | assumption | (simp only [go_sem] <;> assumption) | (simp only [go_sem, *]; done) | (simp [go_sem]; done)
  repeat' (first
    | (with_reducible apply Req_intro); focus (first | omega | assumption | (simp; done))
    | with_reducible (first | apply Req_intro | refine nilT ?_ fun hn => ?_ | apply wk_draw Tryd_mixed | refine drawEnd (by kernel_rfl) ?_)
    | (with_reducible (first | apply condA_if | apply stepDG_ifN | apply stepDG_if | apply stepG_ifN | apply stepG_if)) <;> intro hb <;> (have hif := hb) <;> (try simp only [bo] at hif) <;> (try simp -implicitDefEqProofs (disch := omega) only [go_sem, hb]) <;> clear hb
    | simp (maxSteps := 1000000) -implicitDefEqProofs (disch := omega) only [go_sem])
  refine callp hmade ?_
  try simp (maxSteps := 1000000) -implicitDefEqProofs (disch := omega) only [go_sem]
  repeat' (first
    | (with_reducible apply Req_intro); focus (first | omega | assumption | (simp; done))
    | with_reducible (first | apply Req_intro | refine nilT ?_ fun hn => ?_ | apply wk_draw Tryd_mixed | refine drawEnd (by kernel_rfl) ?_)
    | (with_reducible (first | apply condA_if | apply stepDG_ifN | apply stepDG_if | apply stepG_ifN | apply stepG_if)) <;> intro hb <;> (have hif := hb) <;> (try simp only [bo] at hif) <;> (try simp -implicitDefEqProofs (disch := omega) only [go_sem, hb]) <;> clear hb
    | simp (maxSteps := 1000000) -implicitDefEqProofs (disch := omega) only [go_sem])
  refine callp hown ?_
  try simp (maxSteps := 1000000) -implicitDefEqProofs (disch := omega) only [go_sem]
  repeat' (first
    | (with_reducible apply Req_intro); focus (first | omega | assumption | (simp; done))
    | with_reducible (first | apply Req_intro | refine nilT ?_ fun hn => ?_ | apply wk_draw Tryd_mixed | refine drawEnd (by kernel_rfl) ?_)
    | (with_reducible (first | apply condA_if | apply stepDG_ifN | apply stepDG_if | apply stepG_ifN | apply stepG_if)) <;> intro hb <;> (have hif := hb) <;> (try simp only [bo] at hif) <;> (try simp -implicitDefEqProofs (disch := omega) only [go_sem, hb]) <;> clear hb
    | simp (maxSteps := 1000000) -implicitDefEqProofs (disch := omega) only [go_sem])
  refine callp hA ?_
  try simp (maxSteps := 1000000) -implicitDefEqProofs (disch := omega) only [go_sem]
  repeat' (first
    | (with_reducible apply Req_intro); focus (first | omega | assumption | (simp; done))
    | with_reducible (first | apply Req_intro | refine nilT ?_ fun hn => ?_ | apply wk_draw Tryd_mixed | refine drawEnd (by kernel_rfl) ?_)
    | (with_reducible (first | apply condA_if | apply stepDG_ifN | apply stepDG_if | apply stepG_ifN | apply stepG_if)) <;> intro hb <;> (have hif := hb) <;> (try simp only [bo] at hif) <;> (try simp -implicitDefEqProofs (disch := omega) only [go_sem, hb]) <;> clear hb
    | simp (maxSteps := 1000000) -implicitDefEqProofs (disch := omega) only [go_sem])
  refine callp hown ?_
  try simp (maxSteps := 1000000) -implicitDefEqProofs (disch := omega) only [go_sem]
  repeat' (first
    | (with_reducible apply Req_intro); focus (first | omega | assumption | (simp; done))
    | with_reducible (first | apply Req_intro | refine nilT ?_ fun hn => ?_ | apply wk_draw Tryd_mixed | refine drawEnd (by kernel_rfl) ?_)
    | (with_reducible (first | apply condA_if | apply stepDG_ifN | apply stepDG_if | apply stepG_ifN | apply stepG_if)) <;> intro hb <;> (have hif := hb) <;> (try simp only [bo] at hif) <;> (try simp -implicitDefEqProofs (disch := omega) only [go_sem, hb]) <;> clear hb
    | simp (maxSteps := 1000000) -implicitDefEqProofs (disch := omega) only [go_sem])
  refine callp hW ?_
  try simp (maxSteps := 1000000) -implicitDefEqProofs (disch := omega) only [go_sem]
  repeat' (first
    | (with_reducible apply Req_intro); focus (first | omega | assumption | (simp; done))
    | with_reducible (first | apply Req_intro | refine nilT ?_ fun hn => ?_ | apply wk_draw Tryd_mixed | refine drawEnd (by kernel_rfl) ?_)
    | (with_reducible (first | apply condA_if | apply stepDG_ifN | apply stepDG_if | apply stepG_ifN | apply stepG_if)) <;> intro hb <;> (have hif := hb) <;> (try simp only [bo] at hif) <;> (try simp -implicitDefEqProofs (disch := omega) only [go_sem, hb]) <;> clear hb
    | simp (maxSteps := 1000000) -implicitDefEqProofs (disch := omega) only [go_sem])
  all_goals first | exact absurd trivial ‹¬True› | (exfalso; omega) | omega | skip
  all_goals (try exact absurd hL hif)
  all_goals (try exact absurd hE hif)
  refine loop_at (α := Nat) [12, 13, 89, 90, 91, 92, 93, 94, 95, 96, 97, 98] (fun i => [(13, .lit (.int .i64 i)), (12, .lit (.int .i64 ((cs.length ^ i : Nat) : Int)))]) (fun i => i ≤ r + 1) (fun i => r + 1 - i) 0 (fun x => by simp (maxSteps := 1000000) -implicitDefEqProofs (disch := omega) only [go_sem]; rfl) ?_ ?_ fun x hx => ?_
  · rw [Nat.pow_zero]
    exact weak_do []
  · exact Nat.zero_le _
  by_cases hlt : x < r + 1
  · have hp1 := hpw x (by omega)
    have hp2 := hpw (x + 1) (by omega)
    have hmul := pow_succ' cs.length x
    repeat' (first
      | (with_reducible apply Req_intro); focus (first | omega | assumption | (simp; done))
      | with_reducible (first | apply Req_intro | refine nilT ?_ fun hn => ?_ | apply wk_draw Tryd_mixed | refine drawEnd (by kernel_rfl) ?_)
      | (with_reducible (first | apply condA_if | apply stepDG_ifN | apply stepDG_if | apply stepG_ifN | apply stepG_if)) <;> intro hb <;> (have hif := hb) <;> (try simp only [bo] at hif) <;> (try simp -implicitDefEqProofs (disch := omega) only [go_sem, hb, hmul]) <;> clear hb
      | simp (maxSteps := 1000000) -implicitDefEqProofs (disch := omega) only [go_sem, hmul])
    all_goals first | exact absurd trivial ‹¬True› | (exfalso; omega) | omega | skip
    refine nxt_w (x + 1) (weak_do []) ?_
    try dsimp only
    omega
  · obtain rfl : x = r + 1 := by omega
    clear hlt
    repeat' (first
      | (with_reducible apply Req_intro); focus (first | omega | assumption | (simp; done))
      | with_reducible (first | apply Req_intro | refine nilT ?_ fun hn => ?_ | apply wk_draw Tryd_mixed | refine drawEnd (by kernel_rfl) ?_)
      | (with_reducible (first | apply condA_if | apply stepDG_ifN | apply stepDG_if | apply stepG_ifN | apply stepG_if)) <;> intro hb <;> (have hif := hb) <;> (try simp only [bo] at hif) <;> (try simp -implicitDefEqProofs (disch := omega) only [go_sem, hb]) <;> clear hb
      | simp (maxSteps := 1000000) -implicitDefEqProofs (disch := omega) only [go_sem])
    all_goals first | exact absurd trivial ‹¬True› | (exfalso; omega) | omega | skip
    refine loop_at (α := Nat) [2, 14, 15, 16, 17, 18, 112, 113, 114, 115, 116, 117, 118, 119, 120, 121, 122, 123, 124, 125, 126, 127, 128, 129, 130, 131, 132, 133, 134, 135, 136, 137, 138, 139, 140, 141, 142, 143] (fun c => [(15, .lit (.int .i64 c)), (14, .lit (.int .i64 (mostTo bs.length b ws c)))]) (fun c => c ≤ nc) (fun c => nc - c) 0 (fun x => by simp (maxSteps := 1000000) -implicitDefEqProofs (disch := omega) only [go_sem]; rfl) ?_ ?_ fun x hx => ?_
    · exact weak_do []
    · exact Nat.zero_le _
    by_cases hc : x < nc
    · have hqx := hq2 x (by omega)
      repeat' (first
        | (with_reducible apply Req_intro); focus (first | omega | assumption | (simp; done))
        | with_reducible (first | apply Req_intro | refine nilT ?_ fun hn => ?_ | apply wk_draw Tryd_mixed | refine drawEnd (by kernel_rfl) ?_)
        | (with_reducible (first | apply condA_if | apply stepDG_ifN | apply stepDG_if | apply stepG_ifN | apply stepG_if)) <;> intro hb <;> (have hif := hb) <;> (try simp only [bo] at hif) <;> (try simp -implicitDefEqProofs (disch := omega) only [go_sem, hb]) <;> clear hb
        | simp (maxSteps := 1000000) -implicitDefEqProofs (disch := omega) only [go_sem])
      all_goals first | exact absurd trivial ‹¬True› | (exfalso; omega) | omega | skip
      refine callp (htold b x) ?_
      try simp (maxSteps := 1000000) -implicitDefEqProofs (disch := omega) only [go_sem]
      repeat' (first
        | (with_reducible apply Req_intro); focus (first | omega | assumption | (simp; done))
        | with_reducible (first | apply Req_intro | refine nilT ?_ fun hn => ?_ | apply wk_draw Tryd_mixed | refine drawEnd (by kernel_rfl) ?_)
        | (with_reducible (first | apply condA_if | apply stepDG_ifN | apply stepDG_if | apply stepG_ifN | apply stepG_if)) <;> intro hb <;> (have hif := hb) <;> (try simp only [bo] at hif) <;> (try simp -implicitDefEqProofs (disch := omega) only [go_sem, hb]) <;> clear hb
        | simp (maxSteps := 1000000) -implicitDefEqProofs (disch := omega) only [go_sem])
      rcases hQT x (by omega) with ⟨he, hq⟩ | ⟨v, he, hq⟩
      · refine callp hq ?_
        try simp (maxSteps := 1000000) -implicitDefEqProofs (disch := omega) only [go_sem]
        repeat' (first
          | (with_reducible apply Req_intro); focus (first | omega | assumption | (simp; done))
          | with_reducible (first | apply Req_intro | refine nilT ?_ fun hn => ?_ | apply wk_draw Tryd_mixed | refine drawEnd (by kernel_rfl) ?_)
          | (with_reducible (first | apply condA_if | apply stepDG_ifN | apply stepDG_if | apply stepG_ifN | apply stepG_if)) <;> intro hb <;> (have hif := hb) <;> (try simp only [bo] at hif) <;> (try simp -implicitDefEqProofs (disch := omega) only [go_sem, hb]) <;> clear hb
          | simp (maxSteps := 1000000) -implicitDefEqProofs (disch := omega) only [go_sem])
        all_goals first | exact absurd trivial ‹¬True› | (exfalso; omega) | omega | skip
        with_reducible refine nxt_w (x + 1) ?_ ?_
        · (try dsimp only)
          rw [most_zero he]
          exact weak_do []
        try dsimp only
        omega
      · refine callp hq ?_
        try simp (maxSteps := 1000000) -implicitDefEqProofs (disch := omega) only [go_sem]
        repeat' (first
          | (with_reducible apply Req_intro); focus (first | omega | assumption | (simp; done))
          | with_reducible (first | apply Req_intro | refine nilT ?_ fun hn => ?_ | apply wk_draw Tryd_mixed | refine drawEnd (by kernel_rfl) ?_)
          | (with_reducible (first | apply condA_if | apply stepDG_ifN | apply stepDG_if | apply stepG_ifN | apply stepG_if)) <;> intro hb <;> (have hif := hb) <;> (try simp only [bo] at hif) <;> (try simp -implicitDefEqProofs (disch := omega) only [go_sem, hb]) <;> clear hb
          | simp (maxSteps := 1000000) -implicitDefEqProofs (disch := omega) only [go_sem])
        all_goals first | exact absurd trivial ‹¬True› | (exfalso; omega) | omega | skip
        with_reducible refine nxt_w (x + 1) ?_ ?_
        · (try dsimp only)
          rw [most_more he]
          exact weak_do []
        try dsimp only
        omega
    · obtain rfl : nc = x := by omega
      rw [hcl] at hmost
      repeat' (first
        | (with_reducible apply Req_intro); focus (first | omega | assumption | (simp; done))
        | with_reducible (first | apply Req_intro | refine nilT ?_ fun hn => ?_ | apply wk_draw Tryd_mixed | refine drawEnd (by kernel_rfl) ?_)
        | (with_reducible (first | apply condA_if | apply stepDG_ifN | apply stepDG_if | apply stepG_ifN | apply stepG_if)) <;> intro hb <;> (have hif := hb) <;> (try simp only [bo] at hif) <;> (try simp -implicitDefEqProofs (disch := omega) only [go_sem, hb, hmost]) <;> clear hb
        | simp (maxSteps := 1000000) -implicitDefEqProofs (disch := omega) only [go_sem, hmost])
      all_goals first | exact absurd trivial ‹¬True› | (exfalso; omega) | omega | skip
      refine callp known_spec ?_
      try simp (maxSteps := 1000000) -implicitDefEqProofs (disch := omega) only [go_sem]
      repeat' (first
        | (with_reducible apply Req_intro); focus (first | omega | assumption | (simp; done))
        | with_reducible (first | apply Req_intro | refine nilT ?_ fun hn => ?_ | apply wk_draw Tryd_mixed | refine drawEnd (by kernel_rfl) ?_)
        | (with_reducible (first | apply condA_if | apply stepDG_ifN | apply stepDG_if | apply stepG_ifN | apply stepG_if)) <;> intro hb <;> (have hif := hb) <;> (try simp only [bo] at hif) <;> (try simp -implicitDefEqProofs (disch := omega) only [go_sem, hb]) <;> clear hb
        | simp (maxSteps := 1000000) -implicitDefEqProofs (disch := omega) only [go_sem])
      refine ret_do ?_
      rfl
end Go.Aw
end
