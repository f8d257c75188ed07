/-
  A part of the proof that a law returns true for every input that the given row speaks of: an own verified walk over the program (namespace Go.Aw), contracts of the functions that the law calls, and the law itself. Conditions: those of the given row, no other.
-/
import Derived.Test.YtofoildhohgngaaDoorPart8
section
set_option linter.unusedVariables false
set_option linter.unusedSimpArgs false
set_option maxRecDepth 20000
/-! Plain laws: what a load has of which a box is a carrier's. -/
namespace Go.Aw
open Go.RowKit Go.Proofs

theorem check_of_good {bs : List Box} {cs : List Bill} (hg : Good bs cs) : checkR bs cs = 0 := by
  have h1 := hg.nb
  have h2 := hg.nc
  have h3 := hg.n1
  have h4 := hg.st
  unfold checkR
  rw [if_neg (by omega), if_neg (by omega), if_neg (fun h => h h4), if_neg, if_neg, if_neg, if_neg]
  · rw [List.any_eq_true]
    rintro ⟨b, hb, h⟩
    have h5 := hg.cb b hb
    have h6 : b.2.all (spanOk 10000) = true := List.all_eq_true.2 (hg.oc b hb)
    rw [h6] at h
    simp [inR'] at h
    omega
  · rw [List.any_eq_true]
    rintro ⟨b, hb, h⟩
    have h6 : b.all (spanOk 1000) = true := List.all_eq_true.2 (hg.ob b hb)
    rw [h6] at h
    cases h
  · rw [List.any_eq_true]
    rintro ⟨b, hb, h⟩
    have := hg.lc b hb
    simp at h
    omega
  · rw [List.any_eq_true]
    rintro ⟨b, hb, h⟩
    have := hg.lb b hb
    simp at h
    omega

section
variable {bs : List Box} {cs : List Bill} {i c : Nat}

theorem toldBs_len (i : Int) : (toldBs bs i).length = bs.length := by simp [toldBs]
theorem toldCs_len (c : Int) : (toldCs cs c).length = cs.length := by simp [toldCs]
theorem toldBs_mem {i : Int} {b : Box} (h : b ∈ toldBs bs i) : ∃ a ∈ bs, ∃ j, b = a ++ [one i j] := by
  obtain ⟨j, hj, rfl⟩ := List.mem_map.1 h
  exact ⟨_, getD_mem (List.mem_range.1 hj), j, rfl⟩
theorem toldCs_mem {c : Int} {b : Bill} (h : b ∈ toldCs cs c) : ∃ a ∈ cs, ∃ j, b = (a.1, a.2 ++ [one c j]) := by
  obtain ⟨j, hj, rfl⟩ := List.mem_map.1 h
  exact ⟨_, getD_mem (List.mem_range.1 hj), j, rfl⟩
theorem one_ok (i : Int) (j : Nat) : spanOk 1000 (one i j) = true ∧ spanOk 10000 (one i j) = true := by
  unfold one; split <;> exact ⟨rfl, rfl⟩
theorem told_stuffs (h1 : 1 ≤ cs.length) (c : Int) : stuffs (toldCs cs c) = stuffs cs + 1 := by
  unfold stuffs
  rw [toldCs_at (by omega), List.length_append]; rfl
theorem told_good (hg : Good bs cs) (h2 : stuffs cs ≤ 2) (i c : Int) : Good (toldBs bs i) (toldCs cs c) := by
  have hs := told_stuffs (cs := cs) hg.n1 c
  refine ⟨by rw [toldBs_len]; exact hg.nb, by rw [toldCs_len]; exact hg.nc, by rw [toldCs_len]; exact hg.n1, by omega, fun b hb => ?_, fun b hb => ?_, fun b hb x hx => ?_, fun b hb x hx => ?_, fun b hb => ?_⟩
  · obtain ⟨a, ha, j, rfl⟩ := toldBs_mem hb
    have := hg.lb a ha
    rw [hs, List.length_append, this]; rfl
  · obtain ⟨a, ha, j, rfl⟩ := toldCs_mem hb
    have := hg.lc a ha
    rw [hs, List.length_append, this]; rfl
  · obtain ⟨a, ha, j, rfl⟩ := toldBs_mem hb
    rcases List.mem_append.1 hx with hx | hx
    · exact hg.ob a ha x hx
    · rw [List.mem_singleton.1 hx]; exact (one_ok i j).1
  · obtain ⟨a, ha, j, rfl⟩ := toldCs_mem hb
    rcases List.mem_append.1 hx with hx | hx
    · exact hg.oc a ha x hx
    · rw [List.mem_singleton.1 hx]; exact (one_ok c j).2
  · obtain ⟨a, ha, j, rfl⟩ := toldCs_mem hb
    exact hg.cb a ha

theorem getD_app_lt {α : Type} [Inhabited α] {l r : List α} {k : Nat} (h : k < l.length) : (l ++ r).getD k default = l.getD k default := by
  rw [List.getD_eq_getElem?_getD, List.getD_eq_getElem?_getD, List.getElem?_append_left h]
theorem getD_app_eq {α : Type} [Inhabited α] {l : List α} {x : α} {k : Nat} (h : l.length = k) : (l ++ [x]).getD k default = x := by
  subst h
  rw [List.getD_eq_getElem?_getD, List.getElem?_append_right (Nat.le_refl _)]; simp

theorem sumR_told (hg : Good bs cs) (i : Int) (w : List Int) (a : Int) {k : Nat} (hk : k < stuffs cs) : ∀ m, m ≤ bs.length → sumR (toldBs bs i) w a k 0 m = sumR bs w a k 0 m
  | 0, _ => rfl
  | m + 1, hm => by
    have hl := hg.lb _ (getD_mem (l := bs) (i := m) (by omega))
    rw [sumR, sumR, sumR_told hg i w a hk m (by omega), toldBs_at (by omega), getD_app_lt (by omega)]
theorem sumR_toldLast (hg : Good bs cs) (hi : i < bs.length) (w : List Int) (a : Int) : ∀ m, m ≤ bs.length → sumR (toldBs bs i) w a (stuffs cs) 0 m = if i < m ∧ w.getD i default = a then (1, 1) else (0, 0)
  | 0, _ => rfl
  | m + 1, hm => by
    have hl := hg.lb _ (getD_mem (l := bs) (i := m) (by omega))
    rw [sumR, sumR_toldLast hg hi w a m (by omega), toldBs_at (by omega), getD_app_eq hl]
    simp only [Nat.zero_testBit, Bool.false_eq_true, if_false]
    by_cases hw : w.getD m default = a
    · rw [if_pos hw]
      by_cases hmi : m = i
      · subst hmi
        rw [if_neg (fun h => absurd h.1 (by omega)), if_pos ⟨by omega, hw⟩, one, if_pos rfl]; rfl
      · have h1 : one (i : Int) m = (0, 0) := if_neg (by omega)
        rw [h1]
        by_cases h2 : i < m ∧ w.getD i default = a
        · rw [if_pos h2, if_pos ⟨by omega, h2.2⟩]; rfl
        · rw [if_neg h2, if_neg (fun h => h2 ⟨by omega, h.2⟩)]; rfl
    · rw [if_neg hw]
      by_cases h2 : i < m ∧ w.getD i default = a
      · rw [if_pos h2, if_pos ⟨by omega, h2.2⟩]
      · rw [if_neg h2, if_neg]
        rintro ⟨h3, h4⟩
        refine h2 ⟨?_, h4⟩
        refine Classical.byContradiction fun hc => hw ?_
        obtain rfl : m = i := by omega
        exact h4

theorem carrOk_told (hg : Good bs cs) (hi : i < bs.length) (hc : c < cs.length) (w : List Int) (hw : w.length = bs.length) {a : Nat} (ha : a < cs.length) : carrOk (toldBs bs i) (toldCs cs c) w 0 a = (carrOk bs cs w 0 a && decide (w.getD i default = a ↔ a = c)) := by
  have hl := hg.lc _ (getD_mem (l := cs) (i := a) ha)
  unfold carrOk
  rw [toldCs_at ha]
  simp only [List.length_append, List.length_cons, List.length_nil, hl, Nat.zero_add]
  rw [List.range_succ, List.all_append, Bool.and_assoc]
  congr 1
  congr 1
  · rw [Bool.eq_iff_iff, List.all_eq_true, List.all_eq_true]
    refine forall_congr' fun k => forall_congr' fun hk => ?_
    have hk' := List.mem_range.1 hk
    unfold stuffOk
    rw [sumR_told hg i w a hk' _ (by omega), toldCs_at ha]
    simp only
    rw [getD_app_lt (by omega)]
  · rw [List.all_cons, List.all_nil, Bool.and_true]
    unfold stuffOk
    rw [sumR_toldLast hg hi w a _ (by omega), toldCs_at ha]
    simp only
    rw [getD_app_eq hl, hw]
    unfold one
    rw [Bool.eq_iff_iff, decide_eq_true_iff, decide_eq_true_iff]
    generalize w.getD i default = v
    by_cases h1 : v = a <;> by_cases h2 : a = c
    · rw [if_pos ⟨hi, h1⟩, if_pos (by omega)]
      exact ⟨fun _ => ⟨fun _ => h2, fun _ => h1⟩, fun _ => by decide⟩
    · rw [if_pos ⟨hi, h1⟩, if_neg (by omega)]
      exact ⟨fun h => absurd h (by decide), fun h => absurd (h.1 h1) h2⟩
    · rw [if_neg (fun h => h1 h.2), if_pos (by omega)]
      exact ⟨fun h => absurd h (by decide), fun h => absurd (h.2 h2) h1⟩
    · rw [if_neg (fun h => h1 h.2), if_neg (by omega)]
      exact ⟨fun _ => ⟨fun h => absurd h h1, fun h => absurd h h2⟩, fun _ => by decide⟩

theorem wayR_told (hg : Good bs cs) (hi : i < bs.length) (hc : c < cs.length) (w : List Int) (hw : w.length = bs.length) (hin : InC cs.length w) : wayR (toldBs bs i) (toldCs cs c) w 0 = (wayR bs cs w 0 && (w.getD i default == (c : Int))) := by
  have hwi := hin _ (getD_mem (l := w) (i := i) (by omega))
  unfold wayR
  rw [toldCs_len, Bool.eq_iff_iff, Bool.and_eq_true, List.all_eq_true, List.all_eq_true, beq_iff_eq]
  constructor
  · intro h
    have h1 : ∀ a, a < cs.length → carrOk bs cs w 0 a = true ∧ (w.getD i default = a ↔ a = c) := fun a ha => by
      have := h a (List.mem_range.2 ha)
      rw [carrOk_told hg hi hc w hw ha, Bool.and_eq_true, decide_eq_true_iff] at this
      exact this
    exact ⟨fun a ha => (h1 a (List.mem_range.1 ha)).1, (h1 c hc).2.2 rfl⟩
  · rintro ⟨h1, h2⟩ a ha
    have ha' := List.mem_range.1 ha
    rw [carrOk_told hg hi hc w hw ha', Bool.and_eq_true, decide_eq_true_iff, h2]
    exact ⟨h1 a ha, by omega⟩

theorem refW_told (hg : Good bs cs) (hi : i < bs.length) (hc : c < cs.length) : ∀ (r : Nat) (now : List Int), now.length + r = bs.length → InC cs.length now → refW (toldBs bs i) (toldCs cs c) 0 r now = (refW bs cs 0 r now).filter fun w => w.getD i default == (c : Int)
  | 0, now, hl, hin => by
    rw [refW, refW, wayR_told hg hi hc now (by omega) hin]
    cases wayR bs cs now 0 <;> cases h : (now.getD i default == (c : Int)) <;> simp only [Bool.and_true, Bool.and_false, Bool.false_eq_true, if_true, if_false, List.filter_cons, List.filter_nil, h]
  | r + 1, now, hl, hin => by
    rw [refW, refW, List.filter_flatMap, toldCs_len]
    refine flat_congr _ fun k hk => ?_
    exact refW_told hg hi hc r _ (by simp; omega) (hin.snoc hk)

theorem allW_told (hg : Good bs cs) (h2 : stuffs cs ≤ 2) (hi : i < bs.length) (hc : c < cs.length) : allW (toldBs bs i) (toldCs cs c) = grp (allW bs cs) i c := by
  rw [allW_refW hg.pos, allW_refW (told_good hg h2 i c).pos, toldBs_len, refW_told hg hi hc _ _ (by simp) (fun x hx => by cases hx)]; rfl
end

/-! ### Answers -/
def grpSum (ws : List (List Int)) (i : Nat) : Nat → Int
  | 0 => 0
  | c + 1 => grpSum ws i c + (grp ws i c).length
def grpMax (ws : List (List Int)) (i : Nat) : Nat → Int
  | 0 => 0
  | c + 1 => max (grpMax ws i c) (grp ws i c).length
theorem grp_cons (w : List Int) (ws : List (List Int)) (i : Nat) (c : Int) : ((grp (w :: ws) i c).length : Int) = (grp ws i c).length + if w.getD i default = c then 1 else 0 := by
  unfold grp
  rw [List.filter_cons]
  by_cases h : w.getD i default = c
  · rw [if_pos h, if_pos (by simpa using h)]; simp
  · rw [if_neg h, if_neg (by simpa using h)]; simp
theorem grpSum_cons (w : List Int) (ws : List (List Int)) (i : Nat) (h0 : 0 ≤ w.getD i default) : ∀ c, grpSum (w :: ws) i c = grpSum ws i c + if w.getD i default < c then 1 else 0
  | 0 => by rw [grpSum, grpSum, if_neg (by omega)]; rfl
  | c + 1 => by
    rw [grpSum, grpSum, grpSum_cons w ws i h0 c, grp_cons]
    by_cases h1 : w.getD i default < c
    · rw [if_pos h1, if_neg (by omega), if_pos (by omega)]; omega
    · by_cases h2 : w.getD i default = c
      · rw [if_neg h1, if_pos h2, if_pos (by omega)]; omega
      · rw [if_neg h1, if_neg h2, if_neg (by omega)]; omega
theorem grpSum_all {k n : Nat} {i : Nat} (hi : i < n) : ∀ {ws : List (List Int)}, WaysOk k n ws → grpSum ws i k = ws.length
  | [], _ => by
    have : ∀ c, grpSum [] i c = 0 := fun c => by
      induction c with
      | zero => rfl
      | succ c ih => rw [grpSum, ih]; rfl
    rw [this]; rfl
  | w :: ws, h => by
    have h1 := h w List.mem_cons_self
    have h2 := h1.2 _ (getD_mem (l := w) (i := i) (by omega))
    rw [grpSum_cons w ws i h2.1, grpSum_all hi (fun v hv => h v (List.mem_cons_of_mem _ hv)), if_pos h2.2]
    simp
theorem grp_none {k n i : Nat} (hi : i < n) {ws : List (List Int)} (h : WaysOk k n ws) {c : Int} (hc : k ≤ c) : grp ws i c = [] := by
  unfold grp
  rw [List.filter_eq_nil_iff]
  intro w hw
  have h1 := h w hw
  have h2 := h1.2 _ (getD_mem (l := w) (i := i) (by omega))
  simp only [beq_iff_eq]
  omega
theorem grpMax_all {k n i : Nat} (hi : i < n) (hk : 1 ≤ k ∧ k ≤ 3) {ws : List (List Int)} (h : WaysOk k n ws) : grpMax ws i k = worthR ws i := by
  unfold worthR
  have hn : k = 1 ∨ k = 2 ∨ k = 3 := by omega
  rcases hn with rfl | rfl | rfl
  · rw [grp_none hi h (c := 1) (by decide), grp_none hi h (c := 2) (by decide)]
    simp [grpMax]
  · rw [grp_none hi h (c := 2) (by decide)]
    simp [grpMax]
  · rfl
theorem worth_le (ws : List (List Int)) (i : Nat) : worthR ws i ≤ ws.length := by
  have h := fun c => grp_len ws i c
  have h0 := h 0
  have h1 := h 1
  have h2 := h 2
  unfold worthR
  omega
theorem grp_bnd (ws : List (List Int)) (i : Nat) : ∀ c, 0 ≤ grpSum ws i c ∧ grpSum ws i c ≤ c * ws.length ∧ 0 ≤ grpMax ws i c ∧ grpMax ws i c ≤ ws.length
  | 0 => by simp [grpSum, grpMax]
  | c + 1 => by
    have ih := grp_bnd ws i c
    have h := grp_len ws i c
    rw [grpSum, grpMax]
    refine ⟨by omega, ?_, by omega, by omega⟩
    have : ((c + 1 : Nat) : Int) * ws.length = c * ws.length + ws.length := by push_cast; rw [Int.add_mul]; omega
    omega

theorem ask_spec (ws : List (List Int)) : ∀ m, (∀ j, j < m → (askTo ws m).2 ≤ worthR ws j) ∧ (askTo ws m).2 ≤ ws.length ∧ ((∃ b : Nat, b < m ∧ (askTo ws m).1 = b ∧ (askTo ws m).2 = worthR ws b) ∨ ((askTo ws m).1 = 0 ∧ (askTo ws m).2 = ws.length))
  | 0 => ⟨fun j hj => absurd hj (Nat.not_lt_zero _), Int.le_refl _, .inr ⟨rfl, rfl⟩⟩
  | m + 1 => by
    obtain ⟨h1, h2, h3⟩ := ask_spec ws m
    rw [askTo]
    by_cases h : worthR ws m < (askTo ws m).2
    · rw [if_pos h]
      refine ⟨fun j hj => ?_, by simp only; omega, .inl ⟨m, by omega, rfl, rfl⟩⟩
      rcases Nat.lt_or_ge j m with h4 | h4
      · have := h1 j h4; simp only; omega
      · obtain rfl : j = m := by omega
        exact Int.le_refl _
    · rw [if_neg h]
      refine ⟨fun j hj => ?_, h2, ?_⟩
      · rcases Nat.lt_or_ge j m with h4 | h4
        · exact h1 j h4
        · obtain rfl : j = m := by omega
          omega
      · rcases h3 with ⟨b, h4, h5⟩ | h4
        · exact .inl ⟨b, by omega, h5⟩
        · exact .inr h4
theorem ask_best (ws : List (List Int)) {m : Nat} (hm : 1 ≤ m) : ∃ b : Nat, b < m ∧ (askTo ws m).1 = b ∧ (askTo ws m).2 = worthR ws b ∧ ∀ j, j < m → worthR ws b ≤ worthR ws j := by
  obtain ⟨h1, h2, h3⟩ := ask_spec ws m
  rcases h3 with ⟨b, h4, h5, h6⟩ | ⟨h4, h5⟩
  · exact ⟨b, h4, h5, h6, fun j hj => by rw [← h6]; exact h1 j hj⟩
  · have h6 := h1 0 (by omega)
    have h7 := worth_le ws 0
    exact ⟨0, by omega, h4, by omega, fun j hj => by have := h1 j hj; omega⟩
theorem boxes_of_two {bs : List Box} {cs : List Bill} (hg : Good bs cs) (h : 2 ≤ (allW bs cs).length) : 1 ≤ bs.length := by
  refine Classical.byContradiction fun hc => ?_
  have h0 : bs.length = 0 := by omega
  have h1 := refW_len bs cs 0 0 []
  rw [allW_refW hg.pos, h0] at h
  simp at h1
  omega
end Go.Aw
end
section
set_option linter.unusedVariables false
set_option linter.unusedSimpArgs false
set_option maxRecDepth 20000
/-! Plain laws: more is known; another order. -/
namespace Go.Aw
open Go.RowKit Go.Proofs

/-! ### Narrower spans -/
def inS (a b : Int × Int) : Prop := b.1 ≤ a.1 ∧ a.2 ≤ b.2
theorem inS_refl (a : Int × Int) : inS a a := ⟨Int.le_refl _, Int.le_refl _⟩

structure Narrow (bs' : List Box) (cs' : List Bill) (bs : List Box) (cs : List Bill) : Prop where
  nb : bs'.length = bs.length
  nc : cs'.length = cs.length
  box : ∀ i k, i < bs.length → inS ((bs'.getD i default).getD k default) ((bs.getD i default).getD k default)
  cnt : ∀ c, c < cs.length → (cs'.getD c default).1 = (cs.getD c default).1
  ln : ∀ c, c < cs.length → (cs'.getD c default).2.length = (cs.getD c default).2.length
  bill : ∀ c k, c < cs.length → inS ((cs'.getD c default).2.getD k default) ((cs.getD c default).2.getD k default)

section
variable {bs bs' : List Box} {cs cs' : List Bill}

theorem sumR_narrow (h : Narrow bs' cs' bs cs) (w : List Int) (c : Int) (k : Nat) : ∀ i, i ≤ bs.length → inS (sumR bs' w c k 0 i) (sumR bs w c k 0 i)
  | 0, _ => inS_refl _
  | i + 1, hi => by
    have ih := sumR_narrow h w c k i (by omega)
    have hb := h.box i k (by omega)
    rw [sumR, sumR]
    simp only [Nat.zero_testBit, Bool.false_eq_true, if_false]
    unfold inS at *
    split
    · simp only [addS]; omega
    · exact ih

theorem wayR_narrow (h : Narrow bs' cs' bs cs) {w : List Int} (hw : w.length ≤ bs.length) (hy : wayR bs' cs' w 0 = true) : wayR bs cs w 0 = true := by
  unfold wayR at *
  rw [List.all_eq_true] at *
  intro c hc
  have hcc := List.mem_range.1 hc
  have := hy c (List.mem_range.2 (by rw [h.nc]; exact hcc))
  unfold carrOk at *
  rw [Bool.and_eq_true, beq_iff_eq, List.all_eq_true] at *
  rw [h.cnt c hcc, h.ln c hcc] at this
  refine ⟨this.1, fun k hk => ?_⟩
  have h1 := this.2 k hk
  have h2 := sumR_narrow h w c k w.length hw
  have h3 := h.bill c k hcc
  simp only [stuffOk, decide_eq_true_eq] at *
  unfold inS at *
  omega

theorem flat_le {α : Type} {f g : Nat → List α} : ∀ n, (∀ k, k < n → (f k).length ≤ (g k).length) → ((List.range n).flatMap f).length ≤ ((List.range n).flatMap g).length
  | 0, _ => by simp
  | n + 1, h => by
    have := flat_le (f := f) (g := g) n fun k hk => h k (by omega)
    have h2 := h n (by omega)
    simp only [List.range_succ, List.flatMap_append, List.length_append, List.flatMap_cons, List.flatMap_nil, List.append_nil]
    omega

theorem refW_narrow (h : Narrow bs' cs' bs cs) : ∀ (r : Nat) (now : List Int), now.length + r ≤ bs.length → (refW bs' cs' 0 r now).length ≤ (refW bs cs 0 r now).length
  | 0, now, hl => by
    rw [refW, refW]
    by_cases hy : wayR bs' cs' now 0 = true
    · rw [if_pos hy, if_pos (wayR_narrow h (by omega) hy)]; exact Nat.le_refl _
    · rw [if_neg hy]; exact Nat.zero_le _
  | r + 1, now, hl => by
    rw [refW, refW, h.nc]
    refine flat_le _ fun k hk => refW_narrow h r _ (by rw [List.length_append]; simp; omega)

theorem allW_narrow (h : Narrow bs' cs' bs cs) (hp : Pos bs cs) (hp' : Pos bs' cs') : (allW bs' cs').length ≤ (allW bs cs).length := by
  rw [allW_refW hp, allW_refW hp', h.nb]
  exact refW_narrow h _ _ (by simp)
end

/-! ### What is in a list of ways -/
theorem refW_in {bs : List Box} {cs : List Bill} : ∀ (r : Nat) (now w : List Int), w ∈ refW bs cs 0 r now → InC cs.length now → now <+: w ∧ w.length = now.length + r ∧ InC cs.length w ∧ wayR bs cs w 0 = true
  | 0, now, w, h, hi => by
    rw [refW] at h
    split at h
    · rename_i hy
      obtain rfl := List.mem_singleton.1 h
      exact ⟨List.prefix_refl _, rfl, hi, hy⟩
    · cases h
  | r + 1, now, w, h, hi => by
    rw [refW, List.mem_flatMap] at h
    obtain ⟨c, hc, h⟩ := h
    obtain ⟨h1, h2, h3, h4⟩ := refW_in r _ w h (hi.snoc (List.mem_range.1 hc))
    refine ⟨(List.prefix_append _ _).trans h1, ?_, h3, h4⟩
    rw [h2, List.length_append]; simp; omega
theorem allW_iff {bs : List Box} {cs : List Bill} (hp : Pos bs cs) (w : List Int) : w ∈ allW bs cs ↔ w.length = bs.length ∧ InC cs.length w ∧ wayR bs cs w 0 = true := by
  rw [allW_refW hp]
  constructor
  · intro h
    have := refW_in _ _ w h (fun x hx => by cases hx)
    exact ⟨by simpa using this.2.1, this.2.2⟩
  · rintro ⟨h1, h2, h3⟩
    exact refW_mem _ [] w List.nil_prefix (by simpa using h1) h2 h3

theorem pre_snoc_inj {α : Type} {l w : List α} {a b : α} (h1 : l ++ [a] <+: w) (h2 : l ++ [b] <+: w) : a = b := by
  obtain ⟨x, rfl⟩ := h1
  obtain ⟨y, h⟩ := h2
  rw [List.append_assoc, List.append_assoc] at h
  have := List.append_cancel_left h
  simp only [List.singleton_append, List.cons.injEq] at this
  exact this.1.symm

theorem nodup_flatR {α : Type} {f : Nat → List α} : ∀ n, (∀ k, k < n → (f k).Nodup) → (∀ i j x, i < n → j < n → x ∈ f i → x ∈ f j → i = j) → ((List.range n).flatMap f).Nodup
  | 0, _, _ => by simp
  | n + 1, h1, h2 => by
    rw [List.range_succ, List.flatMap_append, List.flatMap_cons, List.flatMap_nil, List.append_nil, List.nodup_append]
    refine ⟨nodup_flatR n (fun k hk => h1 k (by omega)) fun i j x hi hj => h2 i j x (by omega) (by omega), h1 n (by omega), ?_⟩
    intro a ha b hb hab
    subst hab
    obtain ⟨i, hi, ha⟩ := List.mem_flatMap.1 ha
    have := List.mem_range.1 hi
    have := h2 i n a (by omega) (by omega) ha hb
    omega
theorem refW_nodup {bs : List Box} {cs : List Bill} : ∀ (r : Nat) (now : List Int), InC cs.length now → (refW bs cs 0 r now).Nodup
  | 0, now, _ => by
    rw [refW]; split <;> simp
  | r + 1, now, hi => by
    rw [refW]
    refine nodup_flatR _ (fun k hk => refW_nodup r _ (hi.snoc hk)) fun i j x h1 h2 h3 h4 => ?_
    have a1 := (refW_in r _ x h3 (hi.snoc h1)).1
    have a2 := (refW_in r _ x h4 (hi.snoc h2)).1
    have := pre_snoc_inj a1 a2
    omega
theorem allW_nodup {bs : List Box} {cs : List Bill} (hp : Pos bs cs) : (allW bs cs).Nodup := by
  rw [allW_refW hp]; exact refW_nodup _ _ (fun x hx => by cases hx)

theorem nodup_le {α : Type} : ∀ {l m : List α}, l.Nodup → (∀ x ∈ l, x ∈ m) → l.length ≤ m.length
  | [], m, _, _ => Nat.zero_le _
  | a :: l, m, h, hs => by
    obtain ⟨p, q, rfl⟩ := List.append_of_mem (hs a (List.mem_cons_self ..))
    rw [List.nodup_cons] at h
    have := nodup_le (l := l) (m := p ++ q) h.2 fun x hx => by
      have hx' := hs x (List.mem_cons_of_mem _ hx)
      rw [List.mem_append, List.mem_cons] at hx'
      rw [List.mem_append]
      rcases hx' with h' | h' | h'
      · exact .inl h'
      · subst h'; exact absurd hx h.1
      · exact .inr h'
    simp only [List.length_append, List.length_cons] at this ⊢
    omega
theorem nodup_map {α β : Type} {f : α → β} : ∀ {l : List α}, l.Nodup → (∀ x ∈ l, ∀ y ∈ l, f x = f y → x = y) → (l.map f).Nodup
  | [], _, _ => List.nodup_nil
  | a :: l, h, hf => by
    rw [List.nodup_cons] at h
    rw [List.map_cons, List.nodup_cons]
    refine ⟨fun hm => ?_, nodup_map h.2 fun x hx y hy => hf x (List.mem_cons_of_mem _ hx) y (List.mem_cons_of_mem _ hy)⟩
    obtain ⟨y, hy, he⟩ := List.mem_map.1 hm
    have := hf y (List.mem_cons_of_mem _ hy) a (List.mem_cons_self ..) he
    subst this
    exact h.1 hy

/-! ### Another order -/
def rotL {α : Type} [Inhabited α] (l : List α) (i : Nat) : List α := (List.range l.length).map fun n => l.getD ((n + i) % l.length) default
theorem rotL_len {α : Type} [Inhabited α] (l : List α) (i : Nat) : (rotL l i).length = l.length := by simp [rotL]
theorem rotL_at {α : Type} [Inhabited α] {l : List α} {i n : Nat} (h : n < l.length) : (rotL l i).getD n default = l.getD ((n + i) % l.length) default := by
  rw [getD_default (by rw [rotL_len]; exact h)]; simp [rotL]
theorem rotL_mem {α : Type} [Inhabited α] {l : List α} {i : Nat} {x : α} (h : x ∈ rotL l i) : x ∈ l := by
  obtain ⟨n, hn, rfl⟩ := List.mem_map.1 h
  have := List.mem_range.1 hn
  exact getD_mem (Nat.mod_lt _ (by omega))
theorem ext_getD {α : Type} [Inhabited α] {l m : List α} (h : l.length = m.length) (he : ∀ n, n < l.length → l.getD n default = m.getD n default) : l = m := by
  refine List.ext_getElem h fun n h1 h2 => ?_
  have := he n h1
  rwa [getD_default h1, getD_default h2] at this
theorem mod_rot {L i n : Nat} (hi : i < L) (hn : n < L) : ((n + (L - i)) % L + i) % L = n := by
  rw [Nat.mod_add_mod, show n + (L - i) + i = n + L from by omega, Nat.add_mod_right, Nat.mod_eq_of_lt hn]
theorem rot_rot {α : Type} [Inhabited α] {l : List α} {i : Nat} (hi : i < l.length) : rotL (rotL l i) (l.length - i) = l := by
  refine ext_getD (by rw [rotL_len, rotL_len]) fun n hn => ?_
  rw [rotL_len, rotL_len] at hn
  rw [rotL_at (by rw [rotL_len]; exact hn), rotL_len, rotL_at (Nat.mod_lt _ (by omega)), mod_rot hi hn]

def sumF (f : Nat → Int) (a : Nat) : Nat → Int
  | 0 => 0
  | m + 1 => sumF f a m + f (a + m)
theorem sumF_add (f : Nat → Int) (a m : Nat) : ∀ n, sumF f a (m + n) = sumF f a m + sumF f (a + m) n
  | 0 => by simp [sumF]
  | n + 1 => by
    rw [← Nat.add_assoc, sumF, sumF_add f a m n, sumF, Nat.add_assoc a m n]; omega
theorem sumF_congr {f g : Nat → Int} {a b : Nat} : ∀ n, (∀ j, j < n → f (a + j) = g (b + j)) → sumF f a n = sumF g b n
  | 0, _ => rfl
  | n + 1, h => by rw [sumF, sumF, sumF_congr n fun j hj => h j (by omega), h n (by omega)]
theorem sumF_rot (f : Nat → Int) {L i : Nat} (hi : i ≤ L) : sumF (fun n => f ((n + i) % L)) 0 L = sumF f 0 L := by
  have h1 : sumF (fun n => f ((n + i) % L)) 0 (L - i) = sumF f i (L - i) := sumF_congr _ fun j hj => by
    show f ((0 + j + i) % L) = f (i + j)
    rw [show 0 + j + i = i + j from by omega, Nat.mod_eq_of_lt (by omega)]
  have h2 : sumF (fun n => f ((n + i) % L)) (0 + (L - i)) i = sumF f 0 i := sumF_congr _ fun j hj => by
    show f ((0 + (L - i) + j + i) % L) = f (0 + j)
    rw [show 0 + (L - i) + j + i = j + L from by omega, Nat.add_mod_right, Nat.mod_eq_of_lt (by omega), Nat.zero_add]
  have h3 := sumF_add (fun n => f ((n + i) % L)) 0 (L - i) i
  have h4 := sumF_add f 0 i (L - i)
  rw [show L - i + i = L from by omega, h1, h2] at h3
  rw [show i + (L - i) = L from by omega, Nat.zero_add] at h4
  omega

theorem cntTo_sumF (w : List Int) (c : Int) : ∀ m, cntTo w c m = sumF (fun j => if w.getD j default = c then 1 else 0) 0 m
  | 0 => rfl
  | m + 1 => by
    rw [cntTo, sumF, cntTo_sumF w c m]
    simp only [Nat.zero_add]
    split <;> omega
theorem sumR_sumF (bs : List Box) (w : List Int) (c : Int) (k : Nat) : ∀ m, sumR bs w c k 0 m = (sumF (fun j => if w.getD j default = c then ((bs.getD j default).getD k default).1 else 0) 0 m, sumF (fun j => if w.getD j default = c then ((bs.getD j default).getD k default).2 else 0) 0 m)
  | 0 => rfl
  | m + 1 => by
    rw [sumR, sumF, sumF, sumR_sumF bs w c k m]
    simp only [Nat.zero_testBit, Bool.false_eq_true, if_false, Nat.zero_add]
    split
    · rfl
    · simp

/-- A way in the other order. -/
def turnW (w : List Int) (i c nc : Nat) : List Int := (rotL w i).map fun x => (x - c) % nc
theorem turnW_len (w : List Int) (i c nc : Nat) : (turnW w i c nc).length = w.length := by rw [turnW, List.length_map, rotL_len]
theorem turnW_at {w : List Int} {i c nc n : Nat} (h : n < w.length) : (turnW w i c nc).getD n default = (w.getD ((n + i) % w.length) default - c) % nc := by
  rw [getD_default (by rw [turnW_len]; exact h)]
  unfold turnW
  rw [List.getElem_map, ← getD_default (l := rotL w i) (by rw [rotL_len]; exact h), rotL_at h]

theorem emod3 {x c nc a : Int} (hx : 0 ≤ x ∧ x < nc) (hc : 0 ≤ c ∧ c < nc) (ha : 0 ≤ a ∧ a < nc) : (x - c) % nc = a ↔ x = (a + c) % nc := by
  have h1 : (x - c) % nc = if c ≤ x then x - c else x - c + nc := by
    split
    · exact Int.emod_eq_of_lt (by omega) (by omega)
    · rw [← Int.add_emod_right, Int.emod_eq_of_lt (by omega) (by omega)]
  have h2 : (a + c) % nc = if a + c < nc then a + c else a + c - nc := by
    split
    · exact Int.emod_eq_of_lt (by omega) (by omega)
    · rw [← Int.sub_emod_right, Int.emod_eq_of_lt (by omega) (by omega)]
  rw [h1, h2]
  split <;> split <;> omega

section
variable {bs : List Box} {cs : List Bill} {w : List Int} {i c : Nat}

theorem rot_good (hg : Good bs cs) (hc : c < cs.length) : Good (rotL bs i) (rotL cs c) ∧ stuffs (rotL cs c) = stuffs cs := by
  have hs : stuffs (rotL cs c) = stuffs cs := by
    unfold stuffs
    rw [rotL_at (by omega)]
    exact hg.lc _ (getD_mem (Nat.mod_lt _ (by omega)))
  refine ⟨⟨by rw [rotL_len]; exact hg.nb, by rw [rotL_len]; exact hg.nc, by rw [rotL_len]; exact hg.n1, by rw [hs]; exact hg.st, fun b hb => by rw [hs]; exact hg.lb b (rotL_mem hb), fun b hb => by rw [hs]; exact hg.lc b (rotL_mem hb),
    fun b hb => hg.ob b (rotL_mem hb), fun b hb => hg.oc b (rotL_mem hb), fun b hb => hg.cb b (rotL_mem hb)⟩, hs⟩

theorem turn_eq (hw : w.length = bs.length) (hin : InC cs.length w) (hc : c < cs.length) {a n : Nat} (ha : a < cs.length) (hn : n < bs.length) : (turnW w i c cs.length).getD n default = (a : Int) ↔ w.getD ((n + i) % bs.length) default = (((a + c) % cs.length : Nat) : Int) := by
  have hx := hin _ (getD_mem (l := w) (i := (n + i) % bs.length) (by rw [hw]; exact Nat.mod_lt _ (by omega)))
  rw [turnW_at (by omega), hw, emod3 hx ⟨by omega, by omega⟩ ⟨by omega, by omega⟩]
  have : (((a + c) % cs.length : Nat) : Int) = ((a : Int) + c) % cs.length := by rw [Int.natCast_emod, Int.natCast_add]
  rw [this]

theorem carrOk_turn (hw' : InC cs.length w) (hw : w.length = bs.length) (hi : i < bs.length) (hc : c < cs.length) {a : Nat} (ha : a < cs.length) : carrOk (rotL bs i) (rotL cs c) (turnW w i c cs.length) 0 a = carrOk bs cs w 0 ((a + c) % cs.length) := by
  have hbl : (turnW w i c cs.length).length = bs.length := by rw [turnW_len, hw]
  have h1 : cntTo (turnW w i c cs.length) a bs.length = cntTo w (((a + c) % cs.length : Nat) : Int) bs.length := by
    rw [cntTo_sumF, cntTo_sumF, ← sumF_rot (fun j => if w.getD j default = (((a + c) % cs.length : Nat) : Int) then 1 else 0) (Nat.le_of_lt hi)]
    refine sumF_congr _ fun j hj => ?_
    simp only [Nat.zero_add]
    have := turn_eq (i := i) hw hw' hc ha hj
    by_cases h : (turnW w i c cs.length).getD j default = (a : Int)
    · rw [if_pos h, if_pos (this.1 h)]
    · rw [if_neg h, if_neg (fun h' => h (this.2 h'))]
  have h2 : ∀ k, sumR (rotL bs i) (turnW w i c cs.length) a k 0 bs.length = sumR bs w (((a + c) % cs.length : Nat) : Int) k 0 bs.length := fun k => by
    rw [sumR_sumF, sumR_sumF]
    refine Prod.ext ?_ ?_
    · simp only
      rw [← sumF_rot (fun j => if w.getD j default = (((a + c) % cs.length : Nat) : Int) then ((bs.getD j default).getD k default).1 else 0) (Nat.le_of_lt hi)]
      refine sumF_congr _ fun j hj => ?_
      simp only [Nat.zero_add]
      have := turn_eq (i := i) hw hw' hc ha hj
      rw [rotL_at hj]
      by_cases h : (turnW w i c cs.length).getD j default = (a : Int)
      · rw [if_pos h, if_pos (this.1 h)]
      · rw [if_neg h, if_neg (fun h' => h (this.2 h'))]
    · simp only
      rw [← sumF_rot (fun j => if w.getD j default = (((a + c) % cs.length : Nat) : Int) then ((bs.getD j default).getD k default).2 else 0) (Nat.le_of_lt hi)]
      refine sumF_congr _ fun j hj => ?_
      simp only [Nat.zero_add]
      have := turn_eq (i := i) hw hw' hc ha hj
      rw [rotL_at hj]
      by_cases h : (turnW w i c cs.length).getD j default = (a : Int)
      · rw [if_pos h, if_pos (this.1 h)]
      · rw [if_neg h, if_neg (fun h' => h (this.2 h'))]
  unfold carrOk stuffOk
  rw [rotL_at ha, hbl, h1, hw]
  simp only [h2]

theorem wayR_turn (hw' : InC cs.length w) (hw : w.length = bs.length) (hi : i < bs.length) (hc : c < cs.length) (h : wayR bs cs w 0 = true) : wayR (rotL bs i) (rotL cs c) (turnW w i c cs.length) 0 = true := by
  unfold wayR at *
  rw [List.all_eq_true] at *
  intro a ha
  rw [rotL_len] at ha
  have haa := List.mem_range.1 ha
  rw [carrOk_turn hw' hw hi hc haa]
  exact h _ (List.mem_range.2 (Nat.mod_lt _ (by omega)))

theorem turn_le (hg : Good bs cs) (hi : i < bs.length) (hc : c < cs.length) : (allW bs cs).length ≤ (allW (rotL bs i) (rotL cs c)).length := by
  have hg' := (rot_good (i := i) hg hc).1
  have hok := allW_iff hg.pos
  have := nodup_le (l := (allW bs cs).map fun w => turnW w i c cs.length) (m := allW (rotL bs i) (rotL cs c)) (nodup_map (allW_nodup hg.pos) fun x hx y hy hxy => ?_) fun w hw => ?_
  · rwa [List.length_map] at this
  · obtain ⟨x1, x2, _⟩ := (hok x).1 hx
    obtain ⟨y1, y2, _⟩ := (hok y).1 hy
    refine ext_getD (by omega) fun n hn => ?_
    have hm : (n + (bs.length - i)) % bs.length < bs.length := Nat.mod_lt _ (by omega)
    have hxn := x2 _ (getD_mem (l := x) (i := n) hn)
    have hyn := y2 _ (getD_mem (l := y) (i := n) (by omega))
    obtain ⟨a, ha⟩ : ∃ a : Nat, (x.getD n default - c) % (cs.length : Int) = a := ⟨((x.getD n default - c) % (cs.length : Int)).toNat, by have := Int.emod_nonneg (x.getD n default - c) (b := (cs.length : Int)) (by omega); omega⟩
    have hal : a < cs.length := by
      have := Int.emod_lt_of_pos (x.getD n default - c) (b := (cs.length : Int)) (by omega)
      omega
    have e1 : (turnW x i c cs.length).getD ((n + (bs.length - i)) % bs.length) default = (turnW y i c cs.length).getD ((n + (bs.length - i)) % bs.length) default := congrArg (fun l : List Int => l.getD ((n + (bs.length - i)) % bs.length) default) hxy
    rw [turnW_at (by rw [x1]; exact hm), turnW_at (by rw [y1]; exact hm), x1, y1, mod_rot hi (by omega), ha] at e1
    have f1 := (emod3 hxn ⟨by omega, by omega⟩ ⟨by omega, by omega⟩).1 ha
    have f2 := (emod3 hyn ⟨by omega, by omega⟩ ⟨by omega, by omega⟩).1 e1.symm
    rw [f1, f2]
  · obtain ⟨x, hx, rfl⟩ := List.mem_map.1 hw
    obtain ⟨x1, x2, x3⟩ := (hok x).1 hx
    refine (allW_iff hg'.pos _).2 ⟨by rw [turnW_len, rotL_len, x1], fun z hz => ?_, wayR_turn x2 x1 hi hc x3⟩
    obtain ⟨u, _, rfl⟩ := List.mem_map.1 hz
    rw [rotL_len]
    exact ⟨Int.emod_nonneg _ (by omega), Int.emod_lt_of_pos _ (by omega)⟩

/-- In another order there are as many ways. -/
theorem turn_len (hg : Good bs cs) (hi : i < bs.length) (hc : c < cs.length) : (allW (rotL bs i) (rotL cs c)).length = (allW bs cs).length := by
  refine Nat.le_antisymm ?_ (turn_le hg hi hc)
  have hg' := (rot_good (i := i) hg hc).1
  by_cases h0 : i = 0 ∧ c = 0
  · obtain ⟨rfl, rfl⟩ := h0
    have r0 : ∀ {α : Type} [Inhabited α] (l : List α), rotL l 0 = l := fun l => ext_getD (rotL_len _ _) fun n hn => by
      rw [rotL_len] at hn
      rw [rotL_at hn, Nat.add_zero, Nat.mod_eq_of_lt hn]
    rw [r0, r0]; exact Nat.le_refl _
  · have key : ∀ {α : Type} [Inhabited α] (l : List α) (j : Nat), j < l.length → ∃ d, d < l.length ∧ rotL (rotL l j) d = l := fun l j hj => by
      by_cases hj0 : j = 0
      · subst hj0
        refine ⟨0, hj, ?_⟩
        have r0 : ∀ {α : Type} [Inhabited α] (l : List α), rotL l 0 = l := fun l => ext_getD (rotL_len _ _) fun n hn => by
          rw [rotL_len] at hn
          rw [rotL_at hn, Nat.add_zero, Nat.mod_eq_of_lt hn]
        rw [r0, r0]
      · exact ⟨l.length - j, by omega, rot_rot hj⟩
    obtain ⟨d1, h1, e1⟩ := key bs i hi
    obtain ⟨d2, h2, e2⟩ := key cs c hc
    have := turn_le (i := d1) (c := d2) hg' (by rw [rotL_len]; exact h1) (by rw [rotL_len]; exact h2)
    rwa [e1, e2] at this
end

/-! ### A load that is told, in the first way's order -/
theorem grp_head {ws : List (List Int)} {n : Nat} (h0 : 0 < ws.length) {c : Int} (hc : (ws.getD 0 default).getD n default = c) : (grp ws n c).getD 0 default = ws.getD 0 default ∧ 1 ≤ (grp ws n c).length := by
  cases ws with
  | nil => simp at h0
  | cons w ws =>
    have e : (w :: ws).getD 0 default = w := rfl
    rw [e] at hc ⊢
    have : grp (w :: ws) n c = w :: grp ws n c := by
      unfold grp
      rw [List.filter_cons, if_pos (by simpa using hc)]
    rw [this]
    exact ⟨rfl, by simp⟩
end Go.Aw
end
section
set_option linter.unusedVariables false
set_option linter.unusedSimpArgs false
set_option maxRecDepth 20000
/-! Plain laws: a load of which a box, or a bill, is known as it truly is. -/
namespace Go.Aw
open Go.RowKit Go.Proofs

def dup (n : Int) : Int × Int := (n, n)

/-- What is truly in the boxes lies in their spans, and in the bills'. -/
structure Truth (bs : List Box) (cs : List Bill) (way : List Int) (held : List (List Int)) : Prop where
  hl : held.length = bs.length
  hk : ∀ i, i < bs.length → (held.getD i default).length = stuffs cs
  hb : ∀ i k, i < bs.length → k < stuffs cs → 0 ≤ (held.getD i default).getD k default ∧ (held.getD i default).getD k default ≤ 255
  hin : ∀ i k, i < bs.length → k < stuffs cs → ((bs.getD i default).getD k default).1 ≤ (held.getD i default).getD k default ∧ (held.getD i default).getD k default ≤ ((bs.getD i default).getD k default).2
  hs : ∀ c k : Nat, c < cs.length → k < stuffs cs → ((cs.getD c default).2.getD k default).1 ≤ trueSum way held c k bs.length ∧ trueSum way held c k bs.length ≤ ((cs.getD c default).2.getD k default).2

theorem getD_past {α : Type} [Inhabited α] {l : List α} {i : Nat} (h : l.length ≤ i) : l.getD i default = default := by
  rw [List.getD_eq_getElem?_getD, List.getElem?_eq_none h]; rfl
theorem getD_set_eq {α : Type} [Inhabited α] {l : List α} {i : Nat} {x : α} (h : i < l.length) : (l.set i x).getD i default = x := by
  rw [getD_default (by rw [List.length_set]; exact h)]; simp
theorem getD_set_ne {α : Type} [Inhabited α] {l : List α} {i j : Nat} {x : α} (h : i ≠ j) : (l.set i x).getD j default = l.getD j default := by
  rw [List.getD_eq_getElem?_getD, List.getElem?_set_ne h, ← List.getD_eq_getElem?_getD]

section
variable {bs : List Box} {cs : List Bill} {way : List Int} {held : List (List Int)} {i c : Nat}

theorem trueSum_bnd (hT : Truth bs cs way held) (c : Int) {k : Nat} (hk : k < stuffs cs) : ∀ m, m ≤ bs.length → 0 ≤ trueSum way held c k m ∧ trueSum way held c k m ≤ 255 * m
  | 0, _ => by simp [trueSum]
  | m + 1, hm => by
    have ih := trueSum_bnd hT c hk m (by omega)
    have := hT.hb m k (by omega) hk
    rw [trueSum]; split <;> omega

theorem sumR_true {bs : List Box} {way : List Int} {held : List (List Int)} (c : Int) (k : Nat) (hin : ∀ i, i < bs.length → ((bs.getD i default).getD k default).1 ≤ (held.getD i default).getD k default ∧ (held.getD i default).getD k default ≤ ((bs.getD i default).getD k default).2) :
    ∀ m, m ≤ bs.length → (sumR bs way c k 0 m).1 ≤ trueSum way held c k m ∧ trueSum way held c k m ≤ (sumR bs way c k 0 m).2
  | 0, _ => by simp [sumR, trueSum]
  | m + 1, hm => by
    have ih := sumR_true (way := way) c k hin m (by omega)
    have := hin m (by omega)
    rw [sumR, trueSum]
    simp only [Nat.zero_testBit, Bool.false_eq_true, if_false]
    split
    · simp only [addS]; omega
    · exact ih

/-- The true way is a way of whatever load has spans in which the truth lies. -/
theorem wayR_true {bs' : List Box} {cs' : List Bill} (hw : way.length = bs.length) (hy : wayR bs cs way 0 = true) (hg : Good bs cs) (hb : bs'.length = bs.length) (hc : cs'.length = cs.length) (h1 : ∀ c, c < cs.length → (cs'.getD c default).1 = (cs.getD c default).1)
    (h2 : ∀ c, c < cs.length → (cs'.getD c default).2.length = stuffs cs) (hin : ∀ i k, i < bs.length → k < stuffs cs → ((bs'.getD i default).getD k default).1 ≤ (held.getD i default).getD k default ∧ (held.getD i default).getD k default ≤ ((bs'.getD i default).getD k default).2)
    (hs : ∀ c k : Nat, c < cs.length → k < stuffs cs → ((cs'.getD c default).2.getD k default).1 ≤ trueSum way held c k bs.length ∧ trueSum way held c k bs.length ≤ ((cs'.getD c default).2.getD k default).2) : wayR bs' cs' way 0 = true := by
  unfold wayR at *
  rw [List.all_eq_true] at *
  intro c hcm
  rw [hc] at hcm
  have hcc := List.mem_range.1 hcm
  have := hy c hcm
  unfold carrOk at *
  rw [Bool.and_eq_true, beq_iff_eq, List.all_eq_true] at *
  rw [h1 c hcc, h2 c hcc]
  refine ⟨this.1, fun k hk => ?_⟩
  have hkk := List.mem_range.1 hk
  have g1 := sumR_true (bs := bs') (way := way) (held := held) c k (fun i hi => hin i k (by omega) hkk) bs'.length (Nat.le_refl _)
  have g2 := hs c k hcc hkk
  rw [hb] at g1
  simp only [stuffOk, hw, decide_eq_true_eq]
  omega

/-! ### A box that is known -/
def lessTo (bs : List Box) (held : List (List Int)) (i k : Nat) : List Box := bs.set i (((held.getD i default).take k).map dup ++ (bs.getD i default).drop k)
theorem lessTo_len (k : Nat) : (lessTo bs held i k).length = bs.length := by simp [lessTo]
theorem lessTo_zero (hi : i < bs.length) : lessTo bs held i 0 = bs := by
  refine ext_getD (lessTo_len _) fun n hn => ?_
  unfold lessTo
  by_cases h : i = n
  · subst h; rw [getD_set_eq hi]; simp
  · rw [getD_set_ne h]
theorem lessTo_at (hi : i < bs.length) (k : Nat) : (lessTo bs held i k).getD i default = ((held.getD i default).take k).map dup ++ (bs.getD i default).drop k := getD_set_eq hi
theorem lessTo_ne {j : Nat} (h : i ≠ j) (k : Nat) : (lessTo bs held i k).getD j default = bs.getD j default := getD_set_ne h
theorem lessTo_boxlen (hg : Good bs cs) (hT : Truth bs cs way held) (hi : i < bs.length) {k : Nat} (hk : k ≤ stuffs cs) : ((lessTo bs held i k).getD i default).length = stuffs cs := by
  have h1 := hT.hk i hi
  have h2 := hg.lb _ (getD_mem hi)
  rw [lessTo_at hi]
  simp only [List.length_append, List.length_map, List.length_take, List.length_drop]
  omega
theorem lessTo_step (hg : Good bs cs) (hT : Truth bs cs way held) (hi : i < bs.length) {k : Nat} (hk : k < stuffs cs) : ((lessTo bs held i k).getD i default).set k (dup ((held.getD i default).getD k default)) = (lessTo bs held i (k + 1)).getD i default := by
  have h1 := hT.hk i hi
  have h2 := hg.lb _ (getD_mem hi)
  rw [lessTo_at hi, lessTo_at hi]
  generalize held.getD i default = h at h1
  generalize bs.getD i default = b at h2
  have e1 : (h.take (k + 1)).map dup = (h.take k).map dup ++ [dup (h.getD k default)] := by
    rw [take_succ_getD (by omega), List.map_append]; rfl
  have hl : ((h.take k).map dup).length = k := by simp; omega
  rw [e1, List.append_assoc, List.set_append_right _ _ (by omega), hl, Nat.sub_self, drop_consA (l := b) (x := k) (by omega)]
  rfl
theorem lessTo_full (hT : Truth bs cs way held) (hg : Good bs cs) (hi : i < bs.length) {k : Nat} (hk : k < stuffs cs) : ((lessTo bs held i (stuffs cs)).getD i default).getD k default = dup ((held.getD i default).getD k default) := by
  have h1 := hT.hk i hi
  have h2 := hg.lb _ (getD_mem hi)
  rw [lessTo_at hi, List.take_of_length_le (by omega), List.drop_of_length_le (by omega), List.append_nil]
  rw [getD_default (by rw [List.length_map]; omega), List.getElem_map, getD_default (l := held.getD i default) (by omega)]

theorem less_narrow (hg : Good bs cs) (hT : Truth bs cs way held) (hi : i < bs.length) : Narrow (lessTo bs held i (stuffs cs)) cs bs cs := by
  refine ⟨lessTo_len _, rfl, fun j k hj => ?_, fun _ _ => rfl, fun _ _ => rfl, fun _ _ _ => inS_refl _⟩
  by_cases h : i = j
  · subst h
    rcases Nat.lt_or_ge k (stuffs cs) with hk | hk
    · rw [lessTo_full hT hg hi hk]
      exact hT.hin i k hi hk
    · have h2 := hg.lb _ (getD_mem hi)
      have h3 := lessTo_boxlen hg hT hi (Nat.le_refl (stuffs cs))
      rw [getD_past (by omega), getD_past (by omega)]
      exact inS_refl _
  · rw [lessTo_ne h]; exact inS_refl _
theorem less_good (hg : Good bs cs) (hT : Truth bs cs way held) (hi : i < bs.length) : Good (lessTo bs held i (stuffs cs)) cs := by
  have hmem : ∀ b ∈ lessTo bs held i (stuffs cs), b ∈ bs ∨ b = (held.getD i default).map dup := fun b hb => by
    have h1 := hT.hk i hi
    have h2 := hg.lb _ (getD_mem hi)
    unfold lessTo at hb
    rw [List.take_of_length_le (by omega), List.drop_of_length_le (by omega), List.append_nil] at hb
    rcases List.mem_or_eq_of_mem_set hb with h | h
    · exact .inl h
    · exact .inr h
  refine ⟨by rw [lessTo_len]; exact hg.nb, hg.nc, hg.n1, hg.st, fun b hb => ?_, hg.lc, fun b hb x hx => ?_, hg.oc, hg.cb⟩
  · rcases hmem b hb with h | rfl
    · exact hg.lb b h
    · rw [List.length_map]; exact hT.hk i hi
  · rcases hmem b hb with h | rfl
    · exact hg.ob b h x hx
    · obtain ⟨y, hy, rfl⟩ := List.mem_map.1 hx
      obtain ⟨k, hk, rfl⟩ := List.getElem_of_mem hy
      have h1 := hT.hk i hi
      have := hT.hb i k hi (by omega)
      rw [getD_default hk] at this
      exact spanOk_of ⟨this.1, Int.le_refl _, by simp only [dup]; omega⟩
theorem less_mem (hg : Good bs cs) (hT : Truth bs cs way held) (hi : i < bs.length) (hm : way ∈ allW bs cs) : way ∈ allW (lessTo bs held i (stuffs cs)) cs := by
  obtain ⟨h1, h2, h3⟩ := (allW_iff hg.pos way).1 hm
  refine (allW_iff (less_good hg hT hi).pos way).2 ⟨by rw [lessTo_len]; exact h1, h2, wayR_true (held := held) h1 h3 hg (lessTo_len _) rfl (fun _ _ => rfl) (fun c hc => hg.lc _ (getD_mem hc)) (fun j k hj hk => ?_) hT.hs⟩
  by_cases h : i = j
  · subst h
    rw [lessTo_full hT hg hi hk]
    exact ⟨Int.le_refl _, Int.le_refl _⟩
  · rw [lessTo_ne h]; exact hT.hin j k hj hk

/-! ### A bill that is known -/
def strictTo (cs : List Bill) (way : List Int) (held : List (List Int)) (n c k : Nat) : List Bill :=
  cs.set c ((cs.getD c default).1, ((List.range k).map fun j => dup (trueSum way held c j n)) ++ (cs.getD c default).2.drop k)
theorem strictTo_len (n k : Nat) : (strictTo cs way held n c k).length = cs.length := by simp [strictTo]
theorem strictTo_zero (n : Nat) (hc : c < cs.length) : strictTo cs way held n c 0 = cs := by
  refine ext_getD (strictTo_len _ _) fun m hm => ?_
  unfold strictTo
  by_cases h : c = m
  · subst h; rw [getD_set_eq hc]; simp
  · rw [getD_set_ne h]
theorem strictTo_at (n : Nat) (hc : c < cs.length) (k : Nat) : (strictTo cs way held n c k).getD c default = ((cs.getD c default).1, ((List.range k).map fun j => dup (trueSum way held c j n)) ++ (cs.getD c default).2.drop k) := getD_set_eq hc
theorem strictTo_ne {j : Nat} (n : Nat) (h : c ≠ j) (k : Nat) : (strictTo cs way held n c k).getD j default = cs.getD j default := getD_set_ne h
theorem strictTo_ct (n k : Nat) {j : Nat} : ((strictTo cs way held n c k).getD j default).1 = (cs.getD j default).1 := by
  by_cases h : c = j
  · subst h
    rcases Nat.lt_or_ge c cs.length with hc | hc
    · rw [strictTo_at n hc]
    · unfold strictTo; rw [List.set_eq_of_length_le hc]
  · rw [strictTo_ne n h]
theorem strictTo_billlen (hg : Good bs cs) (n : Nat) (hc : c < cs.length) {k : Nat} (hk : k ≤ stuffs cs) : ((strictTo cs way held n c k).getD c default).2.length = stuffs cs := by
  have h2 := hg.lc _ (getD_mem hc)
  rw [strictTo_at n hc]
  simp only [List.length_append, List.length_map, List.length_range, List.length_drop]
  omega
theorem strictTo_step (hg : Good bs cs) (n : Nat) (hc : c < cs.length) {k : Nat} (hk : k < stuffs cs) : ((strictTo cs way held n c k).getD c default).2.set k (dup (trueSum way held c k n)) = ((strictTo cs way held n c (k + 1)).getD c default).2 := by
  have h2 := hg.lc _ (getD_mem hc)
  rw [strictTo_at n hc, strictTo_at n hc]
  simp only
  generalize (cs.getD c default).2 = b at h2
  have hl : ((List.range k).map fun j => dup (trueSum way held c j n)).length = k := by simp
  rw [List.range_succ, List.map_append, List.append_assoc, List.set_append_right _ _ (by omega), hl, Nat.sub_self, drop_consA (l := b) (x := k) (by omega)]
  rfl
theorem strictTo_full (hg : Good bs cs) (n : Nat) (hc : c < cs.length) {k : Nat} (hk : k < stuffs cs) : ((strictTo cs way held n c (stuffs cs)).getD c default).2.getD k default = dup (trueSum way held c k n) := by
  have h2 := hg.lc _ (getD_mem hc)
  rw [strictTo_at n hc]
  simp only
  rw [List.drop_of_length_le (by omega), List.append_nil, getD_default (by simp; exact hk)]
  simp
theorem strict_lens (hg : Good bs cs) (n : Nat) (hc : c < cs.length) {j : Nat} (hj : j < cs.length) : ((strictTo cs way held n c (stuffs cs)).getD j default).2.length = stuffs cs := by
  by_cases h : c = j
  · subst h; exact strictTo_billlen hg n hc (Nat.le_refl _)
  · rw [strictTo_ne n h]; exact hg.lc _ (getD_mem hj)
theorem strict_stuffs (hg : Good bs cs) (n : Nat) (hc : c < cs.length) : stuffs (strictTo cs way held n c (stuffs cs)) = stuffs cs := strict_lens hg n hc hg.n1
theorem strict_narrow (hg : Good bs cs) (hT : Truth bs cs way held) (hc : c < cs.length) : Narrow bs (strictTo cs way held bs.length c (stuffs cs)) bs cs := by
  refine ⟨rfl, strictTo_len _ _, fun _ _ _ => inS_refl _, fun j hj => strictTo_ct _ _, fun j hj => ?_, fun j k hj => ?_⟩
  · rw [strict_lens hg _ hc hj, hg.lc _ (getD_mem hj)]
  · by_cases h : c = j
    · subst h
      rcases Nat.lt_or_ge k (stuffs cs) with hk | hk
      · rw [strictTo_full hg _ hc hk]
        exact hT.hs c k hc hk
      · have h2 := hg.lc _ (getD_mem hc)
        have h3 := strict_lens (way := way) (held := held) hg bs.length hc hj
        rw [getD_past (by omega), getD_past (by omega)]
        exact inS_refl _
    · rw [strictTo_ne _ h]; exact inS_refl _
theorem strict_good (hg : Good bs cs) (hT : Truth bs cs way held) (hc : c < cs.length) : Good bs (strictTo cs way held bs.length c (stuffs cs)) := by
  have hs := strict_stuffs (way := way) (held := held) hg bs.length hc
  have h8 := hg.nb
  have hmem : ∀ b ∈ strictTo cs way held bs.length c (stuffs cs), b ∈ cs ∨ b = ((cs.getD c default).1, (List.range (stuffs cs)).map fun j => dup (trueSum way held c j bs.length)) := fun b hb => by
    have h2 := hg.lc _ (getD_mem hc)
    unfold strictTo at hb
    rw [List.drop_of_length_le (by omega), List.append_nil] at hb
    rcases List.mem_or_eq_of_mem_set hb with h | h
    · exact .inl h
    · exact .inr h
  refine ⟨hg.nb, by rw [strictTo_len]; exact hg.nc, by rw [strictTo_len]; exact hg.n1, by rw [hs]; exact hg.st, fun b hb => by rw [hs]; exact hg.lb b hb, fun b hb => ?_, hg.ob, fun b hb x hx => ?_, fun b hb => ?_⟩
  · rw [hs]
    rcases hmem b hb with h | rfl
    · exact hg.lc b h
    · simp
  · rcases hmem b hb with h | rfl
    · exact hg.oc b h x hx
    · obtain ⟨k, hk, rfl⟩ := List.mem_map.1 hx
      have := trueSum_bnd hT c (List.mem_range.1 hk) bs.length (Nat.le_refl _)
      exact spanOk_of ⟨this.1, Int.le_refl _, by simp only [dup]; omega⟩
  · rcases hmem b hb with h | rfl
    · exact hg.cb b h
    · exact hg.cb (cs.getD c default) (getD_mem hc)
theorem strict_mem (hg : Good bs cs) (hT : Truth bs cs way held) (hc : c < cs.length) (hm : way ∈ allW bs cs) : way ∈ allW bs (strictTo cs way held bs.length c (stuffs cs)) := by
  obtain ⟨h1, h2, h3⟩ := (allW_iff hg.pos way).1 hm
  refine (allW_iff (strict_good hg hT hc).pos way).2 ⟨h1, by rw [strictTo_len]; exact h2, wayR_true (held := held) h1 h3 hg rfl (strictTo_len _ _) (fun j hj => strictTo_ct _ _) (fun j hj => strict_lens hg _ hc hj) hT.hin fun j k hj hk => ?_⟩
  by_cases h : c = j
  · subst h
    rw [strictTo_full hg _ hc hk]
    exact ⟨Int.le_refl _, Int.le_refl _⟩
  · rw [strictTo_ne _ h]; exact hT.hs j k hj hk
end

/-- With no box there is one way. -/
theorem one_way {bs : List Box} {cs : List Bill} {way : List Int} (hg : Good bs cs) (h0 : bs.length = 0) (hm : way ∈ allW bs cs) : (allW bs cs).length = 1 := by
  have h1 : (allW bs cs).length ≤ [([] : List Int)].length := nodup_le (allW_nodup hg.pos) fun w hw => by
    have := ((allW_iff hg.pos w).1 hw).1
    rw [h0] at this
    rw [List.eq_nil_of_length_eq_zero this]; simp
  have h2 : 0 < (allW bs cs).length := List.length_pos_iff.2 (List.ne_nil_of_mem hm)
  simp at h1
  omega
end Go.Aw
end
