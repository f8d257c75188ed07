/-
  A part of the proof that a law returns true for every input that the given row speaks of: an own verified walk over the program (namespace Go.Aw), contracts of the functions that the law calls, and the law itself. Conditions: those of the given row, no other.
-/
import Derived.Test.YtofoildhohgngaaDoorPart8
section
set_option linter.unusedVariables false
set_option linter.unusedSimpArgs false
set_option maxRecDepth 20000
/-! Plain laws: what a load has of which a box is a carrier's. -/
namespace Go.Aw
open Go.RowKit Go.Proofs

theorem check_of_good {bs : List Box} {cs : List Bill} (hg : Good bs cs) : checkR bs cs = 0 := by
  have h1 := hg.nb
  have h2 := hg.nc
  have h3 := hg.n1
  have h4 := hg.st
  unfold checkR
  rw [if_neg (by omega), if_neg (by omega), if_neg (fun h => h h4), if_neg, if_neg, if_neg, if_neg]
  · rw [List.any_eq_true]
    rintro ⟨b, hb, h⟩
    have h5 := hg.cb b hb
    have h6 : b.2.all (spanOk 10000) = true := List.all_eq_true.2 (hg.oc b hb)
    rw [h6] at h
    simp [inR'] at h
    omega
  · rw [List.any_eq_true]
    rintro ⟨b, hb, h⟩
    have h6 : b.all (spanOk 1000) = true := List.all_eq_true.2 (hg.ob b hb)
    rw [h6] at h
    cases h
  · rw [List.any_eq_true]
    rintro ⟨b, hb, h⟩
    have := hg.lc b hb
    simp at h
    omega
  · rw [List.any_eq_true]
    rintro ⟨b, hb, h⟩
    have := hg.lb b hb
    simp at h
    omega

section
variable {bs : List Box} {cs : List Bill} {i c : Nat}

theorem toldBs_len (i : Int) : (toldBs bs i).length = bs.length := by simp [toldBs]
theorem toldCs_len (c : Int) : (toldCs cs c).length = cs.length := by simp [toldCs]
theorem toldBs_mem {i : Int} {b : Box} (h : b ∈ toldBs bs i) : ∃ a ∈ bs, ∃ j, b = a ++ [one i j] := by
  obtain ⟨j, hj, rfl⟩ := List.mem_map.1 h
  exact ⟨_, getD_mem (List.mem_range.1 hj), j, rfl⟩
theorem toldCs_mem {c : Int} {b : Bill} (h : b ∈ toldCs cs c) : ∃ a ∈ cs, ∃ j, b = (a.1, a.2 ++ [one c j]) := by
  obtain ⟨j, hj, rfl⟩ := List.mem_map.1 h
  exact ⟨_, getD_mem (List.mem_range.1 hj), j, rfl⟩
theorem one_ok (i : Int) (j : Nat) : spanOk 1000 (one i j) = true ∧ spanOk 10000 (one i j) = true := by
  unfold one; split <;> exact ⟨rfl, rfl⟩
theorem told_stuffs (h1 : 1 ≤ cs.length) (c : Int) : stuffs (toldCs cs c) = stuffs cs + 1 := by
  unfold stuffs
  rw [toldCs_at (by omega), List.length_append]; rfl
theorem told_good (hg : Good bs cs) (h2 : stuffs cs ≤ 2) (i c : Int) : Good (toldBs bs i) (toldCs cs c) := by
  have hs := told_stuffs (cs := cs) hg.n1 c
  refine ⟨by rw [toldBs_len]; exact hg.nb, by rw [toldCs_len]; exact hg.nc, by rw [toldCs_len]; exact hg.n1, by omega, fun b hb => ?_, fun b hb => ?_, fun b hb x hx => ?_, fun b hb x hx => ?_, fun b hb => ?_⟩
  · obtain ⟨a, ha, j, rfl⟩ := toldBs_mem hb
    have := hg.lb a ha
    rw [hs, List.length_append, this]; rfl
  · obtain ⟨a, ha, j, rfl⟩ := toldCs_mem hb
    have := hg.lc a ha
    rw [hs, List.length_append, this]; rfl
  · obtain ⟨a, ha, j, rfl⟩ := toldBs_mem hb
    rcases List.mem_append.1 hx with hx | hx
    · exact hg.ob a ha x hx
    · rw [List.mem_singleton.1 hx]; exact (one_ok i j).1
  · obtain ⟨a, ha, j, rfl⟩ := toldCs_mem hb
    rcases List.mem_append.1 hx with hx | hx
    · exact hg.oc a ha x hx
    · rw [List.mem_singleton.1 hx]; exact (one_ok c j).2
  · obtain ⟨a, ha, j, rfl⟩ := toldCs_mem hb
    exact hg.cb a ha

theorem getD_app_lt {α : Type} [Inhabited α] {l r : List α} {k : Nat} (h : k < l.length) : (l ++ r).getD k default = l.getD k default := by
  rw [List.getD_eq_getElem?_getD, List.getD_eq_getElem?_getD, List.getElem?_append_left h]
theorem getD_app_eq {α : Type} [Inhabited α] {l : List α} {x : α} {k : Nat} (h : l.length = k) : (l ++ [x]).getD k default = x := by
  subst h
  rw [List.getD_eq_getElem?_getD, List.getElem?_append_right (Nat.le_refl _)]; simp

theorem sumR_told (hg : Good bs cs) (i : Int) (w : List Int) (a : Int) {k : Nat} (hk : k < stuffs cs) : ∀ m, m ≤ bs.length → sumR (toldBs bs i) w a k 0 m = sumR bs w a k 0 m
  | 0, _ => rfl
  | m + 1, hm => by
    have hl := hg.lb _ (getD_mem (l := bs) (i := m) (by omega))
    rw [sumR, sumR, sumR_told hg i w a hk m (by omega), toldBs_at (by omega), getD_app_lt (by omega)]
theorem sumR_toldLast (hg : Good bs cs) (hi : i < bs.length) (w : List Int) (a : Int) : ∀ m, m ≤ bs.length → sumR (toldBs bs i) w a (stuffs cs) 0 m = if i < m ∧ w.getD i default = a then (1, 1) else (0, 0)
  | 0, _ => rfl
  | m + 1, hm => by
    have hl := hg.lb _ (getD_mem (l := bs) (i := m) (by omega))
    rw [sumR, sumR_toldLast hg hi w a m (by omega), toldBs_at (by omega), getD_app_eq hl]
    simp only [Nat.zero_testBit, Bool.false_eq_true, if_false]
    by_cases hw : w.getD m default = a
    · rw [if_pos hw]
      by_cases hmi : m = i
      · subst hmi
        rw [if_neg (fun h => absurd h.1 (by omega)), if_pos ⟨by omega, hw⟩, one, if_pos rfl]; rfl
      · have h1 : one (i : Int) m = (0, 0) := if_neg (by omega)
        rw [h1]
        by_cases h2 : i < m ∧ w.getD i default = a
        · rw [if_pos h2, if_pos ⟨by omega, h2.2⟩]; rfl
        · rw [if_neg h2, if_neg (fun h => h2 ⟨by omega, h.2⟩)]; rfl
    · rw [if_neg hw]
      by_cases h2 : i < m ∧ w.getD i default = a
      · rw [if_pos h2, if_pos ⟨by omega, h2.2⟩]
      · rw [if_neg h2, if_neg]
        rintro ⟨h3, h4⟩
        refine h2 ⟨?_, h4⟩
        refine Classical.byContradiction fun hc => hw ?_
        obtain rfl : m = i := by omega
        exact h4

theorem carrOk_told (hg : Good bs cs) (hi : i < bs.length) (hc : c < cs.length) (w : List Int) (hw : w.length = bs.length) {a : Nat} (ha : a < cs.length) : carrOk (toldBs bs i) (toldCs cs c) w 0 a = (carrOk bs cs w 0 a && decide (w.getD i default = a ↔ a = c)) := by
  have hl := hg.lc _ (getD_mem (l := cs) (i := a) ha)
  unfold carrOk
  rw [toldCs_at ha]
  simp only [List.length_append, List.length_cons, List.length_nil, hl, Nat.zero_add]
  rw [List.range_succ, List.all_append, Bool.and_assoc]
  congr 1
  congr 1
  · rw [Bool.eq_iff_iff, List.all_eq_true, List.all_eq_true]
    refine forall_congr' fun k => forall_congr' fun hk => ?_
    have hk' := List.mem_range.1 hk
    unfold stuffOk
    rw [sumR_told hg i w a hk' _ (by omega), toldCs_at ha]
    simp only
    rw [getD_app_lt (by omega)]
  · rw [List.all_cons, List.all_nil, Bool.and_true]
    unfold stuffOk
    rw [sumR_toldLast hg hi w a _ (by omega), toldCs_at ha]
    simp only
    rw [getD_app_eq hl, hw]
    unfold one
    rw [Bool.eq_iff_iff, decide_eq_true_iff, decide_eq_true_iff]
    generalize w.getD i default = v
    by_cases h1 : v = a <;> by_cases h2 : a = c
    · rw [if_pos ⟨hi, h1⟩, if_pos (by omega)]
      exact ⟨fun _ => ⟨fun _ => h2, fun _ => h1⟩, fun _ => by decide⟩
    · rw [if_pos ⟨hi, h1⟩, if_neg (by omega)]
      exact ⟨fun h => absurd h (by decide), fun h => absurd (h.1 h1) h2⟩
    · rw [if_neg (fun h => h1 h.2), if_pos (by omega)]
      exact ⟨fun h => absurd h (by decide), fun h => absurd (h.2 h2) h1⟩
    · rw [if_neg (fun h => h1 h.2), if_neg (by omega)]
      exact ⟨fun _ => ⟨fun h => absurd h h1, fun h => absurd h h2⟩, fun _ => by decide⟩

theorem wayR_told (hg : Good bs cs) (hi : i < bs.length) (hc : c < cs.length) (w : List Int) (hw : w.length = bs.length) (hin : InC cs.length w) : wayR (toldBs bs i) (toldCs cs c) w 0 = (wayR bs cs w 0 && (w.getD i default == (c : Int))) := by
  have hwi := hin _ (getD_mem (l := w) (i := i) (by omega))
  unfold wayR
  rw [toldCs_len, Bool.eq_iff_iff, Bool.and_eq_true, List.all_eq_true, List.all_eq_true, beq_iff_eq]
  constructor
  · intro h
    have h1 : ∀ a, a < cs.length → carrOk bs cs w 0 a = true ∧ (w.getD i default = a ↔ a = c) := fun a ha => by
      have := h a (List.mem_range.2 ha)
      rw [carrOk_told hg hi hc w hw ha, Bool.and_eq_true, decide_eq_true_iff] at this
      exact this
    exact ⟨fun a ha => (h1 a (List.mem_range.1 ha)).1, (h1 c hc).2.2 rfl⟩
  · rintro ⟨h1, h2⟩ a ha
    have ha' := List.mem_range.1 ha
    rw [carrOk_told hg hi hc w hw ha', Bool.and_eq_true, decide_eq_true_iff, h2]
    exact ⟨h1 a ha, by omega⟩

theorem refW_told (hg : Good bs cs) (hi : i < bs.length) (hc : c < cs.length) : ∀ (r : Nat) (now : List Int), now.length + r = bs.length → InC cs.length now → refW (toldBs bs i) (toldCs cs c) 0 r now = (refW bs cs 0 r now).filter fun w => w.getD i default == (c : Int)
  | 0, now, hl, hin => by
    rw [refW, refW, wayR_told hg hi hc now (by omega) hin]
    cases wayR bs cs now 0 <;> cases h : (now.getD i default == (c : Int)) <;> simp only [Bool.and_true, Bool.and_false, Bool.false_eq_true, if_true, if_false, List.filter_cons, List.filter_nil, h]
  | r + 1, now, hl, hin => by
    rw [refW, refW, List.filter_flatMap, toldCs_len]
    refine flat_congr _ fun k hk => ?_
    exact refW_told hg hi hc r _ (by simp; omega) (hin.snoc hk)

theorem allW_told (hg : Good bs cs) (h2 : stuffs cs ≤ 2) (hi : i < bs.length) (hc : c < cs.length) : allW (toldBs bs i) (toldCs cs c) = grp (allW bs cs) i c := by
  rw [allW_refW hg.pos, allW_refW (told_good hg h2 i c).pos, toldBs_len, refW_told hg hi hc _ _ (by simp) (fun x hx => by cases hx)]; rfl
end

/-! ### Answers -/
def grpSum (ws : List (List Int)) (i : Nat) : Nat → Int
  | 0 => 0
  | c + 1 => grpSum ws i c + (grp ws i c).length
def grpMax (ws : List (List Int)) (i : Nat) : Nat → Int
  | 0 => 0
  | c + 1 => max (grpMax ws i c) (grp ws i c).length
theorem grp_cons (w : List Int) (ws : List (List Int)) (i : Nat) (c : Int) : ((grp (w :: ws) i c).length : Int) = (grp ws i c).length + if w.getD i default = c then 1 else 0 := by
  unfold grp
  rw [List.filter_cons]
  by_cases h : w.getD i default = c
  · rw [if_pos h, if_pos (by simpa using h)]; simp
  · rw [if_neg h, if_neg (by simpa using h)]; simp
theorem grpSum_cons (w : List Int) (ws : List (List Int)) (i : Nat) (h0 : 0 ≤ w.getD i default) : ∀ c, grpSum (w :: ws) i c = grpSum ws i c + if w.getD i default < c then 1 else 0
  | 0 => by rw [grpSum, grpSum, if_neg (by omega)]; rfl
  | c + 1 => by
    rw [grpSum, grpSum, grpSum_cons w ws i h0 c, grp_cons]
    by_cases h1 : w.getD i default < c
    · rw [if_pos h1, if_neg (by omega), if_pos (by omega)]; omega
    · by_cases h2 : w.getD i default = c
      · rw [if_neg h1, if_pos h2, if_pos (by omega)]; omega
      · rw [if_neg h1, if_neg h2, if_neg (by omega)]; omega
theorem grpSum_all {k n : Nat} {i : Nat} (hi : i < n) : ∀ {ws : List (List Int)}, WaysOk k n ws → grpSum ws i k = ws.length
  | [], _ => by
    have : ∀ c, grpSum [] i c = 0 := fun c => by
      induction c with
      | zero => rfl
      | succ c ih => rw [grpSum, ih]; rfl
    rw [this]; rfl
  | w :: ws, h => by
    have h1 := h w List.mem_cons_self
    have h2 := h1.2 _ (getD_mem (l := w) (i := i) (by omega))
    rw [grpSum_cons w ws i h2.1, grpSum_all hi (fun v hv => h v (List.mem_cons_of_mem _ hv)), if_pos h2.2]
    simp
theorem grp_none {k n i : Nat} (hi : i < n) {ws : List (List Int)} (h : WaysOk k n ws) {c : Int} (hc : k ≤ c) : grp ws i c = [] := by
  unfold grp
  rw [List.filter_eq_nil_iff]
  intro w hw
  have h1 := h w hw
  have h2 := h1.2 _ (getD_mem (l := w) (i := i) (by omega))
  simp only [beq_iff_eq]
  omega
theorem grpMax_all {k n i : Nat} (hi : i < n) (hk : 1 ≤ k ∧ k ≤ 3) {ws : List (List Int)} (h : WaysOk k n ws) : grpMax ws i k = worthR ws i := by
  unfold worthR
  have hn : k = 1 ∨ k = 2 ∨ k = 3 := by omega
  rcases hn with rfl | rfl | rfl
  · rw [grp_none hi h (c := 1) (by decide), grp_none hi h (c := 2) (by decide)]
    simp [grpMax]
  · rw [grp_none hi h (c := 2) (by decide)]
    simp [grpMax]
  · rfl
theorem worth_le (ws : List (List Int)) (i : Nat) : worthR ws i ≤ ws.length := by
  have h := fun c => grp_len ws i c
  have h0 := h 0
  have h1 := h 1
  have h2 := h 2
  unfold worthR
  omega
theorem grp_bnd (ws : List (List Int)) (i : Nat) : ∀ c, 0 ≤ grpSum ws i c ∧ grpSum ws i c ≤ c * ws.length ∧ 0 ≤ grpMax ws i c ∧ grpMax ws i c ≤ ws.length
  | 0 => by simp [grpSum, grpMax]
  | c + 1 => by
    have ih := grp_bnd ws i c
    have h := grp_len ws i c
    rw [grpSum, grpMax]
    refine ⟨by omega, ?_, by omega, by omega⟩
    have : ((c + 1 : Nat) : Int) * ws.length = c * ws.length + ws.length := by push_cast; rw [Int.add_mul]; omega
    omega

theorem ask_spec (ws : List (List Int)) : ∀ m, (∀ j, j < m → (askTo ws m).2 ≤ worthR ws j) ∧ (askTo ws m).2 ≤ ws.length ∧ ((∃ b : Nat, b < m ∧ (askTo ws m).1 = b ∧ (askTo ws m).2 = worthR ws b) ∨ ((askTo ws m).1 = 0 ∧ (askTo ws m).2 = ws.length))
  | 0 => ⟨fun j hj => absurd hj (Nat.not_lt_zero _), Int.le_refl _, .inr ⟨rfl, rfl⟩⟩
  | m + 1 => by
    obtain ⟨h1, h2, h3⟩ := ask_spec ws m
    rw [askTo]
    by_cases h : worthR ws m < (askTo ws m).2
    · rw [if_pos h]
      refine ⟨fun j hj => ?_, by simp only; omega, .inl ⟨m, by omega, rfl, rfl⟩⟩
      rcases Nat.lt_or_ge j m with h4 | h4
      · have := h1 j h4; simp only; omega
      · obtain rfl : j = m := by omega
        exact Int.le_refl _
    · rw [if_neg h]
      refine ⟨fun j hj => ?_, h2, ?_⟩
      · rcases Nat.lt_or_ge j m with h4 | h4
        · exact h1 j h4
        · obtain rfl : j = m := by omega
          omega
      · rcases h3 with ⟨b, h4, h5⟩ | h4
        · exact .inl ⟨b, by omega, h5⟩
        · exact .inr h4
theorem ask_best (ws : List (List Int)) {m : Nat} (hm : 1 ≤ m) : ∃ b : Nat, b < m ∧ (askTo ws m).1 = b ∧ (askTo ws m).2 = worthR ws b ∧ ∀ j, j < m → worthR ws b ≤ worthR ws j := by
  obtain ⟨h1, h2, h3⟩ := ask_spec ws m
  rcases h3 with ⟨b, h4, h5, h6⟩ | ⟨h4, h5⟩
  · exact ⟨b, h4, h5, h6, fun j hj => by rw [← h6]; exact h1 j hj⟩
  · have h6 := h1 0 (by omega)
    have h7 := worth_le ws 0
    exact ⟨0, by omega, h4, by omega, fun j hj => by have := h1 j hj; omega⟩
theorem boxes_of_two {bs : List Box} {cs : List Bill} (hg : Good bs cs) (h : 2 ≤ (allW bs cs).length) : 1 ≤ bs.length := by
  refine Classical.byContradiction fun hc => ?_
  have h0 : bs.length = 0 := by omega
  have h1 := refW_len bs cs 0 0 []
  rw [allW_refW hg.pos, h0] at h
  simp at h1
  omega
end Go.Aw
end
