/-
  A part of the proof that a law returns true for every input that the given row speaks of: an own verified walk over the program (namespace Go.Aw), contracts of the functions that the law calls, and the law itself. Conditions: those of the given row, no other.
-/
import Derived.Test.YtofoildhohgngaaDoorPart7
section
set_option linter.unusedVariables false
set_option linter.unusedSimpArgs false
set_option maxRecDepth 20000
set_option maxHeartbeats 4000000
/-! The law MixTruth: the walk. -/
namespace Go.Aw
open Go.RowKit Go.Proofs

@[go_sem] theorem lapp_cons (a : Oper) (l r : List Oper) : List.append (a :: l) r = a :: List.append l r := rfl
@[go_sem] theorem lapp_nil (r : List Oper) : List.append [] r = r := rfl
theorem tog_cases {S P : Bool} {a b : Int} (h : (S = true → a = b) ∧ (a = b → P = true)) : (S = true ∧ P = true ∧ a = b) ∨ (S = false ∧ P = true) ∨ (S = false ∧ P = false ∧ a ≠ b) := by
  obtain ⟨g1, g2⟩ := h
  by_cases ha : a = b
  · have := g2 ha
    subst this
    cases S
    · exact .inr (.inl ⟨rfl, rfl⟩)
    · exact .inl ⟨rfl, rfl, ha⟩
  · cases S
    · cases P
      · exact .inr (.inr ⟨rfl, rfl, ha⟩)
      · exact .inr (.inl ⟨rfl, rfl⟩)
    · exact absurd (g1 rfl) ha
theorem tog_three {bs : List Box} {cs : List Bill} {way : List Int} (hf : Fits bs cs) (h0 : checkR bs cs = 0) (hn : allW bs cs ≠ []) (hmem : way ∈ allW bs cs) {x y : Nat} (hx : x < y) (hy : y < bs.length) :
    ∃ S P : Bool, Ct Tryd.prog 24 [encLoad bs cs, int y, int x] (.tup [.lit (.bool S), .lit (.bool P), int 0]) ∧ ((S = true ∧ P = true ∧ way.getD y default = way.getD x default) ∨ (S = false ∧ P = true) ∨ (S = false ∧ P = false ∧ way.getD y default ≠ way.getD x default)) :=
  ⟨_, _, Together_ok bs cs (y : Int) (x : Int) hf h0 hn (by simp [inR']; omega) (by omega), tog_cases (tog_made hmem y x)⟩
theorem ts_yes {way : List Int} {held : List (List Int)} {c k i : Nat} {w : Nat} (h : way.getD i default = w) (e : w = c) : trueSum way held c k (i + 1) = trueSum way held c k i + (held.getD i default).getD k default := by rw [trueSum, if_pos (by omega)]
theorem ts_no {way : List Int} {held : List (List Int)} {c k i : Nat} {w : Nat} (h : way.getD i default = w) (e : ¬w = c) : trueSum way held c k (i + 1) = trueSum way held c k i := by rw [trueSum, if_neg (by omega)]
theorem ts_bnd {way : List Int} {held : List (List Int)} {n c k : Nat} (h : ∀ i, i < n → 0 ≤ (held.getD i default).getD k default ∧ (held.getD i default).getD k default ≤ 255) : ∀ i, i ≤ n → 0 ≤ trueSum way held c k i ∧ trueSum way held c k i ≤ 255 * i
  | 0, _ => by simp [trueSum]
  | i + 1, hi => by
    have ih := ts_bnd (c := c) (way := way) h i (by omega)
    have := h i (by omega)
    rw [trueSum]; split <;> omega
theorem bit_one {b w : Nat} (hb : b < 8) (hw : w < 3) (h : b.testBit w = true) : ibits .and .i64 ((b : Int).fdiv (2 ^ min w 64)) 1 = 1 := by
  rw [bit_all b (by omega) w (by omega), if_pos h]

theorem truth_walk (bx : List B5) (ca st b0 b1 b2 b3 b4 b5 : Int) (bs : List Box) (cs : List Bill) (way : List Int) (held : List (List Int)) (n nc ns : Nat)
    (hmade : Ct Tryd.prog 37 [.agg (innC bx ca st b0 b1 b2 b3 b4 b5)] (.tup [encLoad bs cs, .sl 1 (way.map encI) false, .sl 1 (held.map encW) false]))
    (hz : SizeOk bs cs) (h0 : checkR bs cs = 0) (hmem : way ∈ allW bs cs) (hbl : bs.length = n) (hcl : cs.length = nc) (hst : stuffs cs = ns)
    (hhl : held.length = n) (hhk : ∀ i, i < n → (held.getD i default).length = ns) (hhb : ∀ i k, i < n → k < ns → 0 ≤ (held.getD i default).getD k default ∧ (held.getD i default).getD k default ≤ 255)
    (hshort : ∀ k, k < ns → (subTo bs cs k cs.length).1 ≤ 0 ∧ 0 ≤ (subTo bs cs k cs.length).2)
    (hshare : ∀ c k : Nat, c < nc → k < ns → (shareTo bs cs c k (allW bs cs) (allW bs cs).length).1 ≤ trueSum way held c k n ∧ trueSum way held c k n ≤ (shareTo bs cs c k (allW bs cs) (allW bs cs).length).2) :
    Ct Tryd.prog 9 [.agg (innC bx ca st b0 b1 b2 b3 b4 b5)] (.lit (.bool true)) := by
  have hg := good_of_check h0
  have h8 := hg.nb
  have h3 := hg.nc
  have h1 := hg.n1
  have hs3 := hg.st
  have hfew := hg.valid.few
  have hf := hz.fits
  have hn : allW bs cs ≠ [] := List.ne_nil_of_mem hmem
  have hpos := pos_of_ne hn
  have hok := allW_ok bs cs
  have hwl := (hok _ hmem).1
  have hfl := (hok _ (getD_mem hpos)).1
  have hown := own_spec bs cs hz
  have hW := Ways_ok bs cs hf h0 hn
  have hC := Can_ok bs cs hf h0 hn
  have hS := Short_ok bs cs hf h0
  have hR := Wrong_twice bs cs hf h0 hn
  have hse := stuffs_eq cs
  have hshl := shs_len bs cs (stuffs cs)
  have hsg := fun k hk => shs_get bs cs (stuffs cs) k hk
  have hcal := canI_len (allW bs cs) bs.length (allW bs cs).length
  have hcan := fun i hi => can_spec h3 hok hn (i := i) hi
  generalize canI (allW bs cs) bs.length (allW bs cs).length = can at *
  generalize shorts bs cs (stuffs cs) = sh at *
  have hwi : ∀ i, i < n → ∃ w : Nat, way.getD i default = w ∧ w < nc := fun i hi => by
    have := (hok _ hmem).2 _ (getD_mem (l := way) (i := i) (by omega))
    exact ⟨(way.getD i default).toNat, by omega, by omega⟩
  have hfm := getD_mem hpos
  generalize hfe : (allW bs cs).getD 0 default = first at *
  have hfi : ∀ i, i < n → ∃ w : Nat, first.getD i default = w ∧ w < nc := fun i hi => by
    have := (hok _ hfm).2 _ (getD_mem (l := first) (i := i) (by omega))
    exact ⟨(first.getD i default).toNat, by omega, by omega⟩
  have hone : (allW bs cs).length = 1 → first = way := fun h => by
    obtain ⟨w, hw⟩ := List.length_eq_one_iff.1 h
    rw [hw] at hmem hfm
    rw [List.mem_singleton] at hmem hfm
    rw [hmem, hfm]
  refine fn_enter Tryd.func9 rfl (by decide) Tryd.results9 Tryd.ntmps9 ?_ rfl (by simp (maxSteps := 1000000) -implicitDefEqProofs (disch := omega) only [go_sem]; rfl) fun base => ?_
  · first | assumption | (simp only [go_sem] <;> assumption) | (simp only [go_sem, *]; done) | (simp [go_sem]; done)
  repeat' (first
    | (with_reducible apply Req_intro); focus (first | omega | assumption | (simp; done))
    | with_reducible (first | apply Req_intro | refine nilT ?_ fun hn => ?_ | apply wk_draw Tryd_mixed | refine drawEnd (by kernel_rfl) ?_)
    | (with_reducible (first | apply condA_if | apply stepDG_ifN | apply stepDG_if | apply stepG_ifN | apply stepG_if)) <;> intro hb <;> (have hif := hb) <;> (try simp only [bo] at hif) <;> (try simp -implicitDefEqProofs (disch := omega) only [go_sem, hb]) <;> clear hb
    | simp (maxSteps := 1000000) -implicitDefEqProofs (disch := omega) only [go_sem])
  refine callp hmade ?_
  try simp (maxSteps := 1000000) -implicitDefEqProofs (disch := omega) only [go_sem]
  repeat' (first
    | (with_reducible apply Req_intro); focus (first | omega | assumption | (simp; done))
    | with_reducible (first | apply Req_intro | refine nilT ?_ fun hn => ?_ | apply wk_draw Tryd_mixed | refine drawEnd (by kernel_rfl) ?_)
    | (with_reducible (first | apply condA_if | apply stepDG_ifN | apply stepDG_if | apply stepG_ifN | apply stepG_if)) <;> intro hb <;> (have hif := hb) <;> (try simp only [bo] at hif) <;> (try simp -implicitDefEqProofs (disch := omega) only [go_sem, hb]) <;> clear hb
    | simp (maxSteps := 1000000) -implicitDefEqProofs (disch := omega) only [go_sem])
  refine callp hown ?_
  try simp (maxSteps := 1000000) -implicitDefEqProofs (disch := omega) only [go_sem]
  repeat' (first
    | (with_reducible apply Req_intro); focus (first | omega | assumption | (simp; done))
    | with_reducible (first | apply Req_intro | refine nilT ?_ fun hn => ?_ | apply wk_draw Tryd_mixed | refine drawEnd (by kernel_rfl) ?_)
    | (with_reducible (first | apply condA_if | apply stepDG_ifN | apply stepDG_if | apply stepG_ifN | apply stepG_if)) <;> intro hb <;> (have hif := hb) <;> (try simp only [bo] at hif) <;> (try simp -implicitDefEqProofs (disch := omega) only [go_sem, hb]) <;> clear hb
    | simp (maxSteps := 1000000) -implicitDefEqProofs (disch := omega) only [go_sem])
  refine callp hW ?_
  try simp (maxSteps := 1000000) -implicitDefEqProofs (disch := omega) only [go_sem]
  repeat' (first
    | (with_reducible apply Req_intro); focus (first | omega | assumption | (simp; done))
    | with_reducible (first | apply Req_intro | refine nilT ?_ fun hn => ?_ | apply wk_draw Tryd_mixed | refine drawEnd (by kernel_rfl) ?_)
    | (with_reducible (first | apply condA_if | apply stepDG_ifN | apply stepDG_if | apply stepG_ifN | apply stepG_if)) <;> intro hb <;> (have hif := hb) <;> (try simp only [bo] at hif) <;> (try simp -implicitDefEqProofs (disch := omega) only [go_sem, hb]) <;> clear hb
    | simp (maxSteps := 1000000) -implicitDefEqProofs (disch := omega) only [go_sem])
  refine callp hown ?_
  try simp (maxSteps := 1000000) -implicitDefEqProofs (disch := omega) only [go_sem]
  repeat' (first
    | (with_reducible apply Req_intro); focus (first | omega | assumption | (simp; done))
    | with_reducible (first | apply Req_intro | refine nilT ?_ fun hn => ?_ | apply wk_draw Tryd_mixed | refine drawEnd (by kernel_rfl) ?_)
    | (with_reducible (first | apply condA_if | apply stepDG_ifN | apply stepDG_if | apply stepG_ifN | apply stepG_if)) <;> intro hb <;> (have hif := hb) <;> (try simp only [bo] at hif) <;> (try simp -implicitDefEqProofs (disch := omega) only [go_sem, hb]) <;> clear hb
    | simp (maxSteps := 1000000) -implicitDefEqProofs (disch := omega) only [go_sem])
  refine callp hC ?_
  try simp (maxSteps := 1000000) -implicitDefEqProofs (disch := omega) only [go_sem]
  repeat' (first
    | (with_reducible apply Req_intro); focus (first | omega | assumption | (simp; done))
    | with_reducible (first | apply Req_intro | refine nilT ?_ fun hn => ?_ | apply wk_draw Tryd_mixed | refine drawEnd (by kernel_rfl) ?_)
    | (with_reducible (first | apply condA_if | apply stepDG_ifN | apply stepDG_if | apply stepG_ifN | apply stepG_if)) <;> intro hb <;> (have hif := hb) <;> (try simp only [bo] at hif) <;> (try simp -implicitDefEqProofs (disch := omega) only [go_sem, hb]) <;> clear hb
    | simp (maxSteps := 1000000) -implicitDefEqProofs (disch := omega) only [go_sem])
  refine callp hown ?_
  try simp (maxSteps := 1000000) -implicitDefEqProofs (disch := omega) only [go_sem]
  repeat' (first
    | (with_reducible apply Req_intro); focus (first | omega | assumption | (simp; done))
    | with_reducible (first | apply Req_intro | refine nilT ?_ fun hn => ?_ | apply wk_draw Tryd_mixed | refine drawEnd (by kernel_rfl) ?_)
    | (with_reducible (first | apply condA_if | apply stepDG_ifN | apply stepDG_if | apply stepG_ifN | apply stepG_if)) <;> intro hb <;> (have hif := hb) <;> (try simp only [bo] at hif) <;> (try simp -implicitDefEqProofs (disch := omega) only [go_sem, hb]) <;> clear hb
    | simp (maxSteps := 1000000) -implicitDefEqProofs (disch := omega) only [go_sem])
  refine callp hS ?_
  try simp (maxSteps := 1000000) -implicitDefEqProofs (disch := omega) only [go_sem]
  repeat' (first
    | (with_reducible apply Req_intro); focus (first | omega | assumption | (simp; done))
    | with_reducible (first | apply Req_intro | refine nilT ?_ fun hn => ?_ | apply wk_draw Tryd_mixed | refine drawEnd (by kernel_rfl) ?_)
    | (with_reducible (first | apply condA_if | apply stepDG_ifN | apply stepDG_if | apply stepG_ifN | apply stepG_if)) <;> intro hb <;> (have hif := hb) <;> (try simp only [bo] at hif) <;> (try simp -implicitDefEqProofs (disch := omega) only [go_sem, hb]) <;> clear hb
    | simp (maxSteps := 1000000) -implicitDefEqProofs (disch := omega) only [go_sem])
  refine callp hown ?_
  try simp (maxSteps := 1000000) -implicitDefEqProofs (disch := omega) only [go_sem]
  repeat' (first
    | (with_reducible apply Req_intro); focus (first | omega | assumption | (simp; done))
    | with_reducible (first | apply Req_intro | refine nilT ?_ fun hn => ?_ | apply wk_draw Tryd_mixed | refine drawEnd (by kernel_rfl) ?_)
    | (with_reducible (first | apply condA_if | apply stepDG_ifN | apply stepDG_if | apply stepG_ifN | apply stepG_if)) <;> intro hb <;> (have hif := hb) <;> (try simp only [bo] at hif) <;> (try simp -implicitDefEqProofs (disch := omega) only [go_sem, hb]) <;> clear hb
    | simp (maxSteps := 1000000) -implicitDefEqProofs (disch := omega) only [go_sem])
  refine callp hR ?_
  try simp (maxSteps := 1000000) -implicitDefEqProofs (disch := omega) only [go_sem]
  repeat' (first
    | (with_reducible apply Req_intro); focus (first | omega | assumption | (simp; done))
    | with_reducible (first | apply Req_intro | refine nilT ?_ fun hn => ?_ | apply wk_draw Tryd_mixed | refine drawEnd (by kernel_rfl) ?_)
    | (with_reducible (first | apply condA_if | apply stepDG_ifN | apply stepDG_if | apply stepG_ifN | apply stepG_if)) <;> intro hb <;> (have hif := hb) <;> (try simp only [bo] at hif) <;> (try simp -implicitDefEqProofs (disch := omega) only [go_sem, hb]) <;> clear hb
    | simp (maxSteps := 1000000) -implicitDefEqProofs (disch := omega) only [go_sem])
  all_goals first | exact absurd trivial ‹¬True› | (exfalso; omega) | skip
  have hpm := pow_min (n := cs.length) (by omega)
  obtain ⟨M, hM⟩ : ∃ M : Nat, 2 ^ cs.length = M := ⟨_, rfl⟩
  have hM8 : M ≤ 8 := by
    have := Nat.pow_le_pow_right (n := 2) (by omega) h3
    omega
  rw [hM] at hpm
  refine loop_at (α := Nat) [2, 15, 16, 17, 18, 19, 20, 106, 107, 108, 109, 110, 111, 112, 113, 114, 115, 116, 117, 118, 119, 120, 121, 122, 123, 124, 125, 126, 127, 128, 129, 130, 131, 132, 133, 134, 135, 136, 137, 138, 139, 140, 141, 142, 143, 144, 145, 146, 147, 148, 149, 150, 151, 152, 153, 154, 155, 156, 157, 158, 159, 160, 161, 162, 163, 164, 165, 166, 167, 168, 169, 170, 171, 172, 173, 174, 175, 176, 177, 178, 179, 180, 181, 182, 183, 184, 185, 186, 187, 188, 189, 190, 191, 192, 193, 194, 195, 196, 197, 198, 199, 200, 201, 202, 203, 204, 205, 206, 207, 208, 209, 210, 211, 212, 213, 214, 215, 216, 217, 218, 219, 220, 221, 222, 223, 224, 225, 226, 227] (fun i => [(15, .lit (.int .i64 i))]) (fun i => i ≤ n) (fun i => n - i) 0 (fun x => by simp (maxSteps := 1000000) -implicitDefEqProofs (disch := omega) only [go_sem]; rfl) ?_ ?_ fun x hx => ?_
  · exact weak_do []
  · exact Nat.zero_le _
  revert x
  intro y hy
  by_cases hlt : y < n
  · obtain ⟨b, hb1, hb2, hb3, hb4, hb5⟩ := hcan y (by omega)
    rw [hM] at hb3
    obtain ⟨w, hw1, hw2⟩ := hwi y hlt
    obtain ⟨f, hf1, hf2⟩ := hfi y hlt
    have hbw := bit_one hb4 (w := w) (by omega) (by have := hb5 _ hmem; rw [hw1] at this; simpa using this)
    have hbf := bit_one hb4 (w := f) (by omega) (by have := hb5 _ hfm; rw [hf1] at this; simpa using this)
    have hone' : (allW bs cs).length = 1 → f = w := fun h => by
      have := hone h
      rw [this, hw1] at hf1
      omega
    repeat' (first
      | (with_reducible apply Req_intro); focus (first | omega | assumption | (simp; done))
      | with_reducible (first | apply Req_intro | refine nilT ?_ fun hn => ?_ | apply wk_draw Tryd_mixed | refine drawEnd (by kernel_rfl) ?_)
      | (with_reducible (first | apply condA_if | apply stepDG_ifN | apply stepDG_if | apply stepG_ifN | apply stepG_if)) <;> intro hb <;> (have hif := hb) <;> (try simp only [bo] at hif) <;> (try simp -implicitDefEqProofs (disch := omega) only [go_sem, hb, hb1, hw1, hf1, hpm, hbw, hbf]) <;> clear hb
      | simp (maxSteps := 1000000) -implicitDefEqProofs (disch := omega) only [go_sem, hb1, hw1, hf1, hpm, hbw, hbf])
    all_goals first | exact absurd trivial ‹¬True› | (exfalso; omega) | omega | skip
    all_goals
      refine loop_at (α := Nat) [2, 16, 17, 18, 19, 20, 189, 190, 191, 192, 193, 194, 195, 196, 197, 198, 199, 200, 201, 202, 203, 204, 205, 206, 207, 208, 209, 210, 211, 212, 213, 214, 215, 216, 217, 218, 219, 220, 221, 222, 223, 224, 225, 226, 227] (fun i => [(16, .lit (.int .i64 i))]) (fun i => i ≤ y) (fun i => y - i) 0 (fun x => by simp (maxSteps := 1000000) -implicitDefEqProofs (disch := omega) only [go_sem]; rfl) ?_ ?_ fun x hx => ?_
      · exact weak_do []
      · exact Nat.zero_le _
      by_cases hk : x < y
      · obtain ⟨w2, hv1, hv2⟩ := hwi x (by omega)
        repeat' (first
          | (with_reducible apply Req_intro); focus (first | omega | assumption | (simp; done))
          | with_reducible (first | apply Req_intro | refine nilT ?_ fun hn => ?_ | apply wk_draw Tryd_mixed | refine drawEnd (by kernel_rfl) ?_)
          | (with_reducible (first | apply condA_if | apply stepDG_ifN | apply stepDG_if | apply stepG_ifN | apply stepG_if)) <;> intro hb <;> (have hif := hb) <;> (try simp only [bo] at hif) <;> (try simp -implicitDefEqProofs (disch := omega) only [go_sem, hb]) <;> clear hb
          | simp (maxSteps := 1000000) -implicitDefEqProofs (disch := omega) only [go_sem])
        all_goals first | exact absurd trivial ‹¬True› | (exfalso; omega) | omega | skip
        refine callp hown ?_
        try simp (maxSteps := 1000000) -implicitDefEqProofs (disch := omega) only [go_sem]
        repeat' (first
          | (with_reducible apply Req_intro); focus (first | omega | assumption | (simp; done))
          | with_reducible (first | apply Req_intro | refine nilT ?_ fun hn => ?_ | apply wk_draw Tryd_mixed | refine drawEnd (by kernel_rfl) ?_)
          | (with_reducible (first | apply condA_if | apply stepDG_ifN | apply stepDG_if | apply stepG_ifN | apply stepG_if)) <;> intro hb <;> (have hif := hb) <;> (try simp only [bo] at hif) <;> (try simp -implicitDefEqProofs (disch := omega) only [go_sem, hb]) <;> clear hb
          | simp (maxSteps := 1000000) -implicitDefEqProofs (disch := omega) only [go_sem])
        obtain ⟨S, P, hT, h3c⟩ := tog_three hf h0 hn hmem (x := x) (y := y) hk (by omega)
        rw [hw1, hv1] at h3c
        rcases h3c with ⟨rfl, rfl, he⟩ | ⟨rfl, rfl⟩ | ⟨rfl, rfl, he⟩
        · refine callp hT ?_
          try simp (maxSteps := 1000000) -implicitDefEqProofs (disch := omega) only [go_sem]
          repeat' (first
            | (with_reducible apply Req_intro); focus (first | omega | assumption | (simp; done))
            | with_reducible (first | apply Req_intro | refine nilT ?_ fun hn => ?_ | apply wk_draw Tryd_mixed | refine drawEnd (by kernel_rfl) ?_)
            | (with_reducible (first | apply condA_if | apply stepDG_ifN | apply stepDG_if | apply stepG_ifN | apply stepG_if)) <;> intro hb <;> (have hif := hb) <;> (try simp only [bo] at hif) <;> (try simp -implicitDefEqProofs (disch := omega) only [go_sem, hb, hw1, hv1]) <;> clear hb
            | simp (maxSteps := 1000000) -implicitDefEqProofs (disch := omega) only [go_sem, hw1, hv1])
          all_goals first | exact absurd trivial ‹¬True› | (exfalso; omega) | omega | skip
          refine nxt_w (x + 1) (weak_do []) ?_
          try dsimp only
          omega
        · refine callp hT ?_
          try simp (maxSteps := 1000000) -implicitDefEqProofs (disch := omega) only [go_sem]
          repeat' (first
            | (with_reducible apply Req_intro); focus (first | omega | assumption | (simp; done))
            | with_reducible (first | apply Req_intro | refine nilT ?_ fun hn => ?_ | apply wk_draw Tryd_mixed | refine drawEnd (by kernel_rfl) ?_)
            | (with_reducible (first | apply condA_if | apply stepDG_ifN | apply stepDG_if | apply stepG_ifN | apply stepG_if)) <;> intro hb <;> (have hif := hb) <;> (try simp only [bo] at hif) <;> (try simp -implicitDefEqProofs (disch := omega) only [go_sem, hb, hw1, hv1]) <;> clear hb
            | simp (maxSteps := 1000000) -implicitDefEqProofs (disch := omega) only [go_sem, hw1, hv1])
          all_goals first | exact absurd trivial ‹¬True› | (exfalso; omega) | omega | skip
          all_goals
            refine nxt_w (x + 1) (weak_do []) ?_
            try dsimp only
            omega
        · refine callp hT ?_
          try simp (maxSteps := 1000000) -implicitDefEqProofs (disch := omega) only [go_sem]
          repeat' (first
            | (with_reducible apply Req_intro); focus (first | omega | assumption | (simp; done))
            | with_reducible (first | apply Req_intro | refine nilT ?_ fun hn => ?_ | apply wk_draw Tryd_mixed | refine drawEnd (by kernel_rfl) ?_)
            | (with_reducible (first | apply condA_if | apply stepDG_ifN | apply stepDG_if | apply stepG_ifN | apply stepG_if)) <;> intro hb <;> (have hif := hb) <;> (try simp only [bo] at hif) <;> (try simp -implicitDefEqProofs (disch := omega) only [go_sem, hb, hw1, hv1]) <;> clear hb
            | simp (maxSteps := 1000000) -implicitDefEqProofs (disch := omega) only [go_sem, hw1, hv1])
          all_goals first | exact absurd trivial ‹¬True› | (exfalso; omega) | omega | skip
          refine nxt_w (x + 1) (weak_do []) ?_
          try dsimp only
          omega
      · repeat' (first
          | (with_reducible apply Req_intro); focus (first | omega | assumption | (simp; done))
          | with_reducible (first | apply Req_intro | refine nilT ?_ fun hn => ?_ | apply wk_draw Tryd_mixed | refine drawEnd (by kernel_rfl) ?_)
          | (with_reducible (first | apply condA_if | apply stepDG_ifN | apply stepDG_if | apply stepG_ifN | apply stepG_if)) <;> intro hb <;> (have hif := hb) <;> (try simp only [bo] at hif) <;> (try simp -implicitDefEqProofs (disch := omega) only [go_sem, hb]) <;> clear hb
          | simp (maxSteps := 1000000) -implicitDefEqProofs (disch := omega) only [go_sem])
        all_goals first | exact absurd trivial ‹¬True› | (exfalso; omega) | omega | skip
        refine nxt_w (y + 1) (weak_do []) ?_
        try dsimp only
        omega
  · obtain rfl : n = y := by omega
    have hlx := hlt
    clear hlt
    repeat' (first
      | (with_reducible apply Req_intro); focus (first | omega | assumption | (simp; done))
      | with_reducible (first | apply Req_intro | refine nilT ?_ fun hn => ?_ | apply wk_draw Tryd_mixed | refine drawEnd (by kernel_rfl) ?_)
      | (with_reducible (first | apply condA_if | apply stepDG_ifN | apply stepDG_if | apply stepG_ifN | apply stepG_if)) <;> intro hb <;> (have hif := hb) <;> (try simp only [bo] at hif) <;> (try simp -implicitDefEqProofs (disch := omega) only [go_sem, hb]) <;> clear hb
      | simp (maxSteps := 1000000) -implicitDefEqProofs (disch := omega) only [go_sem])
    all_goals first | exact absurd trivial ‹¬True› | (exfalso; omega) | omega | skip
    refine loop_at (α := Nat) [2, 21, 22, 23, 24, 25, 26, 228, 229, 230, 231, 232, 233, 234, 235, 236, 237, 238, 239, 240, 241, 242, 243, 244, 245, 246, 247, 248, 249, 250, 251, 252, 253, 254, 255, 256, 257, 258, 259, 260, 261, 262, 263, 264, 265, 266, 267, 268, 269, 270, 271, 272, 273, 274, 275, 276, 277, 278, 279, 280, 281, 282, 283, 284, 285, 286, 287, 288, 289, 290, 291, 292, 293, 294, 295, 296, 297, 298, 299, 300, 301, 302, 303, 304, 305, 306, 307, 308, 309, 310, 311, 312, 313, 314, 315, 316, 317, 318, 319, 320, 321, 322, 323, 324, 325, 326, 327] (fun i => [(21, .lit (.int .i64 i))]) (fun i => i ≤ ns) (fun i => ns - i) 0 (fun x => by simp (maxSteps := 1000000) -implicitDefEqProofs (disch := omega) only [go_sem]; rfl) ?_ ?_ fun x hx => ?_
    · exact weak_do []
    · exact Nat.zero_le _
    revert x
    intro k hkn
    by_cases hk : k < ns
    · have hsp := hshort k hk
      rw [← hsg k (by omega)] at hsp
      repeat' (first
        | (with_reducible apply Req_intro); focus (first | omega | assumption | (simp; done))
        | with_reducible (first | apply Req_intro | refine nilT ?_ fun hn => ?_ | apply wk_draw Tryd_mixed | refine drawEnd (by kernel_rfl) ?_)
        | (with_reducible (first | apply condA_if | apply stepDG_ifN | apply stepDG_if | apply stepG_ifN | apply stepG_if)) <;> intro hb <;> (have hif := hb) <;> (try simp only [bo] at hif) <;> (try simp -implicitDefEqProofs (disch := omega) only [go_sem, hb]) <;> clear hb
        | simp (maxSteps := 1000000) -implicitDefEqProofs (disch := omega) only [go_sem])
      all_goals first | exact absurd trivial ‹¬True› | (exfalso; omega) | omega | skip
      refine loop_at (α := Nat) [2, 22, 23, 24, 25, 26, 248, 249, 250, 251, 252, 253, 254, 255, 256, 257, 258, 259, 260, 261, 262, 263, 264, 265, 266, 267, 268, 269, 270, 271, 272, 273, 274, 275, 276, 277, 278, 279, 280, 281, 282, 283, 284, 285, 286, 287, 288, 289, 290, 291, 292, 293, 294, 295, 296, 297, 298, 299, 300, 301, 302, 303, 304, 305, 306, 307, 308, 309, 310, 311, 312, 313, 314, 315, 316, 317, 318, 319, 320, 321, 322, 323, 324, 325, 326, 327] (fun i => [(22, .lit (.int .i64 i))]) (fun i => i ≤ nc) (fun i => nc - i) 0 (fun x => by simp (maxSteps := 1000000) -implicitDefEqProofs (disch := omega) only [go_sem]; rfl) ?_ ?_ fun x hx => ?_
      · exact weak_do []
      · exact Nat.zero_le _
      revert x
      intro c hcn
      by_cases hc : c < nc
      · have hsc := hshare c k hc hk
        have hbi := shareTo_bill bs cs c k (allW bs cs) _ hpos
        have hSh := Share_ok bs cs c k hf h0 hn (by omega) (by omega)
        have hbl2 := hg.bill (k := k) (j := c) (by omega) (by omega)
        generalize shareTo bs cs c k (allW bs cs) (allW bs cs).length = p at *
        have htb := fun i hi => ts_bnd (way := way) (c := c) (k := k) (held := held) (n := n) (fun i hi => hhb i k hi hk) i hi
        repeat' (first
          | (with_reducible apply Req_intro); focus (first | omega | assumption | (simp; done))
          | with_reducible (first | apply Req_intro | refine nilT ?_ fun hn => ?_ | apply wk_draw Tryd_mixed | refine drawEnd (by kernel_rfl) ?_)
          | (with_reducible (first | apply condA_if | apply stepDG_ifN | apply stepDG_if | apply stepG_ifN | apply stepG_if)) <;> intro hb <;> (have hif := hb) <;> (try simp only [bo] at hif) <;> (try simp -implicitDefEqProofs (disch := omega) only [go_sem, hb]) <;> clear hb
          | simp (maxSteps := 1000000) -implicitDefEqProofs (disch := omega) only [go_sem])
        all_goals first | exact absurd trivial ‹¬True› | (exfalso; omega) | omega | skip
        refine loop_at (α := Nat) [23, 24, 255, 256, 257, 258, 259, 260, 261, 262, 263, 264, 265, 266, 267, 268, 269, 270, 271, 272, 273, 274, 275] (fun i => [(24, .lit (.int .i64 i)), (23, .lit (.int .i64 (trueSum way held c k i)))]) (fun i => i ≤ n) (fun i => n - i) 0 (fun x => by simp (maxSteps := 1000000) -implicitDefEqProofs (disch := omega) only [go_sem]; rfl) ?_ ?_ fun x hx => ?_
        · exact weak_do []
        · exact Nat.zero_le _
        have hti := htb x hx
        by_cases hxn : x < n
        · obtain ⟨w, hw1, hw2⟩ := hwi x hxn
          have hh1 := hhk x hxn
          have hh2 := hhb x k hxn hk
          repeat' (first
            | (with_reducible apply Req_intro); focus (first | omega | assumption | (simp; done))
            | with_reducible (first | apply Req_intro | refine nilT ?_ fun hn => ?_ | apply wk_draw Tryd_mixed | refine drawEnd (by kernel_rfl) ?_)
            | (with_reducible (first | apply condA_if | apply stepDG_ifN | apply stepDG_if | apply stepG_ifN | apply stepG_if)) <;> intro hb <;> (have hif := hb) <;> (try simp only [bo] at hif) <;> (try simp -implicitDefEqProofs (disch := omega) only [go_sem, hb, hw1]) <;> clear hb
            | simp (maxSteps := 1000000) -implicitDefEqProofs (disch := omega) only [go_sem, hw1])
          all_goals first | exact absurd trivial ‹¬True› | (exfalso; omega) | omega | skip
          · with_reducible refine nxt_w (x + 1) ?_ ?_
            · (try dsimp only)
              rw [ts_yes hw1 hif]
              exact weak_do []
            try dsimp only
            omega
          · with_reducible refine nxt_w (x + 1) ?_ ?_
            · (try dsimp only)
              rw [ts_no hw1 hif]
              exact weak_do []
            try dsimp only
            omega
        · obtain rfl : n = x := by omega
          repeat' (first
            | (with_reducible apply Req_intro); focus (first | omega | assumption | (simp; done))
            | with_reducible (first | apply Req_intro | refine nilT ?_ fun hn => ?_ | apply wk_draw Tryd_mixed | refine drawEnd (by kernel_rfl) ?_)
            | (with_reducible (first | apply condA_if | apply stepDG_ifN | apply stepDG_if | apply stepG_ifN | apply stepG_if)) <;> intro hb <;> (have hif := hb) <;> (try simp only [bo] at hif) <;> (try simp -implicitDefEqProofs (disch := omega) only [go_sem, hb]) <;> clear hb
            | simp (maxSteps := 1000000) -implicitDefEqProofs (disch := omega) only [go_sem])
          all_goals first | exact absurd trivial ‹¬True› | (exfalso; omega) | omega | skip
          refine callp hown ?_
          try simp (maxSteps := 1000000) -implicitDefEqProofs (disch := omega) only [go_sem]
          repeat' (first
            | (with_reducible apply Req_intro); focus (first | omega | assumption | (simp; done))
            | with_reducible (first | apply Req_intro | refine nilT ?_ fun hn => ?_ | apply wk_draw Tryd_mixed | refine drawEnd (by kernel_rfl) ?_)
            | (with_reducible (first | apply condA_if | apply stepDG_ifN | apply stepDG_if | apply stepG_ifN | apply stepG_if)) <;> intro hb <;> (have hif := hb) <;> (try simp only [bo] at hif) <;> (try simp -implicitDefEqProofs (disch := omega) only [go_sem, hb]) <;> clear hb
            | simp (maxSteps := 1000000) -implicitDefEqProofs (disch := omega) only [go_sem])
          refine callp hSh ?_
          try simp (maxSteps := 1000000) -implicitDefEqProofs (disch := omega) only [go_sem]
          repeat' (first
            | (with_reducible apply Req_intro); focus (first | omega | assumption | (simp; done))
            | with_reducible (first | apply Req_intro | refine nilT ?_ fun hn => ?_ | apply wk_draw Tryd_mixed | refine drawEnd (by kernel_rfl) ?_)
            | (with_reducible (first | apply condA_if | apply stepDG_ifN | apply stepDG_if | apply stepG_ifN | apply stepG_if)) <;> intro hb <;> (have hif := hb) <;> (try simp only [bo] at hif) <;> (try simp -implicitDefEqProofs (disch := omega) only [go_sem, hb]) <;> clear hb
            | simp (maxSteps := 1000000) -implicitDefEqProofs (disch := omega) only [go_sem])
          all_goals first | exact absurd trivial ‹¬True› | (exfalso; omega) | omega | skip
          refine nxt_w (c + 1) (weak_do []) ?_
          try dsimp only
          omega
      · obtain rfl : nc = c := by omega
        repeat' (first
          | (with_reducible apply Req_intro); focus (first | omega | assumption | (simp; done))
          | with_reducible (first | apply Req_intro | refine nilT ?_ fun hn => ?_ | apply wk_draw Tryd_mixed | refine drawEnd (by kernel_rfl) ?_)
          | (with_reducible (first | apply condA_if | apply stepDG_ifN | apply stepDG_if | apply stepG_ifN | apply stepG_if)) <;> intro hb <;> (have hif := hb) <;> (try simp only [bo] at hif) <;> (try simp -implicitDefEqProofs (disch := omega) only [go_sem, hb]) <;> clear hb
          | simp (maxSteps := 1000000) -implicitDefEqProofs (disch := omega) only [go_sem])
        all_goals first | exact absurd trivial ‹¬True› | (exfalso; omega) | omega | skip
        refine nxt_w (k + 1) (weak_do []) ?_
        try dsimp only
        omega
    · obtain rfl : ns = k := by omega
      clear hk
      repeat' (first
        | (with_reducible apply Req_intro); focus (first | omega | assumption | (simp; done))
        | with_reducible (first | apply Req_intro | refine nilT ?_ fun hn => ?_ | apply wk_draw Tryd_mixed | refine drawEnd (by kernel_rfl) ?_)
        | (with_reducible (first | apply condA_if | apply stepDG_ifN | apply stepDG_if | apply stepG_ifN | apply stepG_if)) <;> intro hb <;> (have hif := hb) <;> (try simp only [bo] at hif) <;> (try simp -implicitDefEqProofs (disch := omega) only [go_sem, hb]) <;> clear hb
        | simp (maxSteps := 1000000) -implicitDefEqProofs (disch := omega) only [go_sem])
      all_goals first | exact absurd trivial ‹¬True› | (exfalso; omega) | omega | skip
      refine callp known_spec ?_
      try simp (maxSteps := 1000000) -implicitDefEqProofs (disch := omega) only [go_sem]
      repeat' (first
        | (with_reducible apply Req_intro); focus (first | omega | assumption | (simp; done))
        | with_reducible (first | apply Req_intro | refine nilT ?_ fun hn => ?_ | apply wk_draw Tryd_mixed | refine drawEnd (by kernel_rfl) ?_)
        | (with_reducible (first | apply condA_if | apply stepDG_ifN | apply stepDG_if | apply stepG_ifN | apply stepG_if)) <;> intro hb <;> (have hif := hb) <;> (try simp only [bo] at hif) <;> (try simp -implicitDefEqProofs (disch := omega) only [go_sem, hb]) <;> clear hb
        | simp (maxSteps := 1000000) -implicitDefEqProofs (disch := omega) only [go_sem])
      refine ret_do ?_
      rfl
end Go.Aw
end
