/-
  A part of the proof that a law returns true for every input that the given row speaks of: an own verified walk over the program (namespace Go.Aw), contracts of the functions that the law calls, and the law itself. Conditions: those of the given row, no other.
-/
import Derived.Test.YtofoildhohgngaaDoorPart6
section
set_option linter.unusedVariables false
set_option linter.unusedSimpArgs false
set_option maxRecDepth 20000
/-! Plain laws: the true way of what is made. -/
namespace Go.Aw
open Go.RowKit Go.Proofs

/-- The boxes, the bills, the way, what is held. -/
def mB (bx : List B5) (ns n : Nat) : List Box := (bx.take n).map fun v => bBox v ns
def mC (bx : List B5) (nc ns n : Nat) (q : Nat → Int × Int) : List Bill := (List.range nc).map fun j => (cntB bx nc n j, mHeld (sumB5 bx nc ns n) q ns j)
def mW (bx : List B5) (nc n : Nat) : List Int := (bx.take n).map fun v => (bWho nc v : Int)
def mH (bx : List B5) (ns n : Nat) : List (List Int) := (bx.take n).map fun v => bHeld v ns

theorem madeV_eq (bx : List B5) (nc ns n : Nat) (q : Nat → Int × Int) : madeV bx nc ns n q = .tup [encLoad (mB bx ns n) (mC bx nc ns n q), .sl 1 ((mW bx nc n).map encI) false, .sl 1 ((mH bx ns n).map encW) false] := by
  have hb : bl2 nc (cntB bx nc n) nc (mHeld (sumB5 bx nc ns n) q ns) = (mC bx nc ns n q).map encBill := by
    simp only [bl2, mC, List.map_map]
    refine List.map_congr_left fun j hj => ?_
    rw [if_pos (List.mem_range.1 hj)]; rfl
  simp only [madeV, encLoad, hb, mB, mW, mH, List.map_map]
  rfl

section
variable {bx : List B5} {nc ns n : Nat} {q : Nat → Int × Int}

theorem mB_len (hn : n ≤ bx.length) : (mB bx ns n).length = n := by rw [mB, List.length_map, List.length_take]; omega
theorem mW_len (hn : n ≤ bx.length) : (mW bx nc n).length = n := by rw [mW, List.length_map, List.length_take]; omega
theorem mH_len (hn : n ≤ bx.length) : (mH bx ns n).length = n := by rw [mH, List.length_map, List.length_take]; omega
theorem mC_len : (mC bx nc ns n q).length = nc := by simp [mC]
theorem map_getD {α β : Type} [Inhabited α] [Inhabited β] (f : α → β) (l : List α) (n i : Nat) (h : i < n) (hn : n ≤ l.length) : ((l.take n).map f).getD i default = f (l.getD i default) := by
  rw [getD_default (by rw [List.length_map, List.length_take]; omega), getD_default (by omega)]
  simp
theorem mB_at (hn : n ≤ bx.length) {i : Nat} (h : i < n) : (mB bx ns n).getD i default = bBox (bx.getD i default) ns := map_getD _ _ _ _ h hn
theorem mW_at (hn : n ≤ bx.length) {i : Nat} (h : i < n) : (mW bx nc n).getD i default = (bWho nc (bx.getD i default) : Int) := map_getD _ _ _ _ h hn
theorem mH_at (hn : n ≤ bx.length) {i : Nat} (h : i < n) : (mH bx ns n).getD i default = bHeld (bx.getD i default) ns := map_getD _ _ _ _ h hn
theorem mC_at {c : Nat} (h : c < nc) : (mC bx nc ns n q).getD c default = (cntB bx nc n c, mHeld (sumB5 bx nc ns n) q ns c) := by
  rw [getD_default (by rw [mC_len]; exact h)]; simp [mC]
theorem bBox_at (v : B5) {k : Nat} (h : k < ns) : (bBox v ns).getD k default = bSpan v k := by
  rw [getD_default (by simp [bBox]; exact h)]; simp [bBox]
theorem bHeld_at (v : B5) {k : Nat} (h : k < ns) : (bHeld v ns).getD k default = bN v k := by
  rw [getD_default (by simp [bHeld]; exact h)]; simp [bHeld]
theorem mHeld_at (S : Nat → Nat → Int) {c k : Nat} (h : k < ns) : (mHeld S q ns c).getD k default = mSpan S q c k := by
  rw [getD_default (by simp [mHeld]; exact h)]; simp [mHeld]
theorem bWho_lt (hc : 1 ≤ nc) (v : B5) : bWho nc v < nc := by
  have h1 := Int.emod_nonneg v.a (show (nc : Int) ≠ 0 by omega)
  have h2 := Int.emod_lt_of_pos v.a (show (0 : Int) < nc by omega)
  unfold bWho; omega

theorem smTo_at (s : Nat → Nat → Int) (c : Nat) (v : B5) : ∀ m c' k, smTo s c v m c' k = if c' = c ∧ k < m then s c' k + bN v k else s c' k
  | 0, c', k => by rw [smTo, if_neg (by omega)]
  | m + 1, c', k => by
    rw [smTo, upd2]
    by_cases h : c' = c ∧ k = m
    · obtain ⟨rfl, rfl⟩ := h
      rw [if_pos ⟨rfl, rfl⟩, if_pos ⟨rfl, by omega⟩, smTo_at, if_neg (by omega)]
    · rw [if_neg h, smTo_at]
      by_cases h2 : c' = c ∧ k < m
      · rw [if_pos h2, if_pos ⟨h2.1, by omega⟩]
      · rw [if_neg h2, if_neg (by omega)]
theorem sumB5_succ (i c : Nat) {k : Nat} (hk : k < ns) : sumB5 bx nc ns (i + 1) c k = if c = bWho nc (bx.getD i default) then sumB5 bx nc ns i c k + bN (bx.getD i default) k else sumB5 bx nc ns i c k := by
  rw [sumB5, smTo_at]
  by_cases h : c = bWho nc (bx.getD i default)
  · rw [if_pos ⟨h, hk⟩, if_pos h]
  · rw [if_neg (fun e => h e.1), if_neg h]

theorem cntTo_made (hn : n ≤ bx.length) (c : Nat) : ∀ i, i ≤ n → cntTo (mW bx nc n) c i = cntB bx nc i c
  | 0, _ => rfl
  | i + 1, h => by
    rw [cntTo, cntB, mW_at hn (by omega), cntTo_made hn c i (by omega)]
    by_cases he : c = bWho nc (bx.getD i default)
    · rw [if_pos (by omega), if_pos he, ← he]
    · rw [if_neg (by omega), if_neg he]

theorem bSpan_in {v : B5} (hv : v.ok) (k : Nat) : 0 ≤ (bSpan v k).1 ∧ (bSpan v k).1 ≤ bN v k ∧ bN v k ≤ (bSpan v k).2 ∧ (bSpan v k).2 ≤ 262 := by
  have h := bN_ok hv k
  obtain ⟨_, _, _, h3, h4⟩ := hv
  unfold okU at h3 h4
  simp only [bSpan]; omega

theorem sumR_made (hbx : ∀ v ∈ bx, v.ok) (hn : n ≤ bx.length) (c : Nat) {k : Nat} (hk : k < ns) : ∀ i, i ≤ n → (sumR (mB bx ns n) (mW bx nc n) c k 0 i).1 ≤ sumB5 bx nc ns i c k ∧ sumB5 bx nc ns i c k ≤ (sumR (mB bx ns n) (mW bx nc n) c k 0 i).2
  | 0, _ => by simp [sumR, sumB5]
  | i + 1, h => by
    have ih := sumR_made hbx hn c hk i (by omega)
    have hb := bSpan_in (hbx _ (getD_mem (l := bx) (i := i) (by omega))) k
    rw [sumR, sumB5_succ i c hk, mW_at hn (by omega), mB_at hn (by omega), bBox_at _ hk, Nat.zero_testBit, if_neg (by decide : ¬ (false = true))]
    by_cases he : c = bWho nc (bx.getD i default)
    · rw [if_pos (by omega), if_pos he]
      simp only [addS]; omega
    · rw [if_neg (by omega), if_neg he]; exact ih

theorem mSpan_in {S : Nat → Nat → Int} {c k : Nat} (h0 : 0 ≤ S c k) (hq : 0 ≤ (q c).1 ∧ 0 ≤ (q c).2) : 0 ≤ (mSpan S q c k).1 ∧ (mSpan S q c k).1 ≤ S c k ∧ S c k ≤ (mSpan S q c k).2 ∧ (mSpan S q c k).2 ≤ S c k + 7 := by
  simp only [mSpan]; omega
end
end Go.Aw
end
section
set_option linter.unusedVariables false
set_option linter.unusedSimpArgs false
set_option maxRecDepth 20000
/-! Plain laws: what is made is a load with a way. -/
namespace Go.Aw
open Go.RowKit Go.Proofs

theorem spanOk_of {m : Int} {x : Int × Int} (h : 0 ≤ x.1 ∧ x.1 ≤ x.2 ∧ x.2 ≤ m) : spanOk m x = true := by
  simp only [spanOk, inR', Bool.and_eq_true, decide_eq_true_eq]; omega

section
variable {bx : List B5} {nc ns n : Nat} {q : Nat → Int × Int}

theorem mC_stuffs (h1 : 1 ≤ nc) : stuffs (mC bx nc ns n q) = ns := by
  rw [stuffs, mC_at h1]; simp [mHeld]

theorem made_check (hbx : ∀ v ∈ bx, v.ok) (hn : n ≤ bx.length) (h8 : n ≤ 8) (hc : 1 ≤ nc ∧ nc ≤ 3) (hs : 1 ≤ ns ∧ ns ≤ 2) (hq : ∀ c, okU (q c).1 ∧ okU (q c).2) : checkR (mB bx ns n) (mC bx nc ns n q) = 0 := by
  have e1 : ∀ b ∈ mB bx ns n, b.length = ns ∧ ∀ x ∈ b, spanOk 1000 x = true := by
    intro b hb
    obtain ⟨v, hv, rfl⟩ := List.mem_map.1 hb
    refine ⟨by simp [bBox], fun x hx => ?_⟩
    obtain ⟨k, _, rfl⟩ := List.mem_map.1 hx
    have := bSpan_in (hbx v (List.mem_of_mem_take hv)) k
    exact spanOk_of ⟨this.1, by omega, by omega⟩
  have e2 : ∀ c ∈ mC bx nc ns n q, c.2.length = ns ∧ (∀ x ∈ c.2, spanOk 10000 x = true) ∧ 0 ≤ c.1 ∧ c.1 ≤ 8 := by
    intro c hcm
    obtain ⟨j, _, rfl⟩ := List.mem_map.1 hcm
    have hcb := cntB_bnd bx nc n j
    refine ⟨by simp [mHeld], fun x hx => ?_, hcb.1, by omega⟩
    obtain ⟨k, _, rfl⟩ := List.mem_map.1 hx
    have h1 := sumB5_bnd hbx nc ns n hn j k
    have h2 := hq j
    unfold okU at h2
    have := mSpan_in (S := sumB5 bx nc ns n) (c := j) (k := k) (q := q) h1.1 ⟨h2.1.1, h2.2.1⟩
    exact spanOk_of ⟨this.1, by omega, by omega⟩
  rw [checkR_eq _ _ (by rw [mB_len hn]; exact h8) (by rw [mC_len]; exact hc.2) (by rw [mC_len]; omega)]
  have hst := mC_stuffs (bx := bx) (ns := ns) (n := n) (q := q) hc.1
  rw [if_pos, if_pos]
  · simp only [argOk, Bool.true_and, Bool.and_eq_true, List.all_eq_true]
    refine ⟨fun c hcm => ⟨(e2 c hcm).2.1, ?_⟩, fun b hb => (e1 b hb).2⟩
    have := (e2 c hcm).2.2
    simp only [inR', Bool.and_eq_true, decide_eq_true_eq]; exact this
  · simp only [formOk, Bool.and_eq_true, List.all_eq_true, hst, beq_iff_eq]
    refine ⟨⟨?_, fun c hcm => by rw [(e2 c hcm).1]⟩, fun b hb => by rw [(e1 b hb).1]⟩
    simp only [inR', Bool.and_eq_true, decide_eq_true_eq]; omega

theorem made_way (hbx : ∀ v ∈ bx, v.ok) (hn : n ≤ bx.length) (hq : ∀ c, okU (q c).1 ∧ okU (q c).2) : wayR (mB bx ns n) (mC bx nc ns n q) (mW bx nc n) 0 = true := by
  unfold wayR
  rw [List.all_eq_true]
  intro c hcm
  have hc : c < nc := by rw [mC_len] at hcm; exact List.mem_range.1 hcm
  unfold carrOk
  rw [mW_len hn, mC_at hc, cntTo_made hn c n (Nat.le_refl _)]
  simp only [Bool.and_eq_true, beq_self_eq_true, true_and, List.all_eq_true]
  intro k hk
  have hkn : k < ns := by
    have := List.mem_range.1 hk
    simpa [mHeld] using this
  have h1 := sumR_made (nc := nc) hbx hn c hkn n (Nat.le_refl _)
  have h2 := sumB5_bnd hbx nc ns n hn c k
  have h3 := hq c
  unfold okU at h3
  have h4 := mSpan_in (S := sumB5 bx nc ns n) (c := c) (k := k) (q := q) h2.1 ⟨h3.1.1, h3.2.1⟩
  simp only [stuffOk, mW_len hn, mC_at hc, mHeld_at _ hkn, decide_eq_true_eq]
  omega

theorem refW_mem {bs : List Box} {cs : List Bill} {set : Nat} : ∀ (r : Nat) (now w : List Int), now <+: w → w.length = now.length + r → InC cs.length w → wayR bs cs w set = true → w ∈ refW bs cs set r now
  | 0, now, w, hp, hl, hi, hw => by
    obtain rfl : now = w := hp.eq_of_length (by omega)
    rw [refW, hw, if_pos rfl]; exact List.mem_singleton.2 rfl
  | r + 1, now, w, hp, hl, hi, hw => by
    have hlt : now.length < w.length := by omega
    have hm := hi _ (getD_mem (l := w) (i := now.length) hlt)
    obtain ⟨c, hc⟩ : ∃ c : Nat, w.getD now.length default = c := ⟨(w.getD now.length default).toNat, by omega⟩
    rw [hc] at hm
    rw [refW, List.mem_flatMap]
    refine ⟨c, List.mem_range.2 (by omega), refW_mem r _ w ?_ (by rw [List.length_append]; simp; omega) hi hw⟩
    obtain ⟨t, rfl⟩ := hp
    cases t with
    | nil => simp at hlt
    | cons a t =>
      have : a = (c : Int) := by
        rw [← hc]; simp
      subst this
      exact ⟨t, by simp⟩

/-- The true way is one of the ways. -/
theorem made_mem (hbx : ∀ v ∈ bx, v.ok) (hn : n ≤ bx.length) (h8 : n ≤ 8) (hc : 1 ≤ nc ∧ nc ≤ 3) (hs : 1 ≤ ns ∧ ns ≤ 2) (hq : ∀ c, okU (q c).1 ∧ okU (q c).2) : mW bx nc n ∈ allW (mB bx ns n) (mC bx nc ns n q) := by
  rw [allW_refW (good_of_check (made_check hbx hn h8 hc hs hq)).pos]
  refine refW_mem _ [] _ (List.nil_prefix) (by rw [mW_len hn, mB_len hn]; simp) (fun x hx => ?_) (made_way hbx hn hq)
  obtain ⟨v, _, rfl⟩ := List.mem_map.1 hx
  have := bWho_lt hc.1 v
  rw [mC_len]; omega

/-- What all boxes have. -/
def totB (bx : List B5) (k : Nat) : Nat → Int
  | 0 => 0
  | i + 1 => totB bx k i + bN (bx.getD i default) k
theorem totB_sum (hc : 1 ≤ nc ∧ nc ≤ 3) {k : Nat} (hk : k < ns) : ∀ i, sumB5 bx nc ns i 0 k + (if 1 < nc then sumB5 bx nc ns i 1 k else 0) + (if 2 < nc then sumB5 bx nc ns i 2 k else 0) = totB bx k i
  | 0 => by simp [sumB5, totB]
  | i + 1 => by
    have ih := totB_sum hc hk i
    have hw := bWho_lt hc.1 (bx.getD i default)
    rw [sumB5_succ i 0 hk, sumB5_succ i 1 hk, sumB5_succ i 2 hk, totB, ← ih]
    have : bWho nc (bx.getD i default) = 0 ∨ bWho nc (bx.getD i default) = 1 ∨ bWho nc (bx.getD i default) = 2 := by omega
    rcases this with h | h | h <;> rw [h] at hw ⊢
    · simp; omega
    · simp [hw]; omega
    · have : 1 < nc := by omega
      simp [hw, this]; omega
end
end Go.Aw
end
section
set_option linter.unusedVariables false
set_option linter.unusedSimpArgs false
set_option maxRecDepth 20000
/-! What the boxes of a carrier truly have. -/
namespace Go.Aw
open Go.RowKit Go.Proofs

section
variable {bx : List B5} {nc ns n : Nat}

/-- What the boxes of a carrier truly have. -/
def trueSum (way : List Int) (held : List (List Int)) (c : Int) (k : Nat) : Nat → Int
  | 0 => 0
  | i + 1 => if way.getD i default = c then trueSum way held c k i + (held.getD i default).getD k default else trueSum way held c k i
theorem trueSum_made (hn : n ≤ bx.length) (c : Nat) {k : Nat} (hk : k < ns) : ∀ i, i ≤ n → trueSum (mW bx nc n) (mH bx ns n) c k i = sumB5 bx nc ns i c k
  | 0, _ => by simp [trueSum, sumB5]
  | i + 1, h => by
    rw [trueSum, sumB5_succ i c hk, mW_at hn (by omega), mH_at hn (by omega), bHeld_at _ hk, trueSum_made hn c hk i (by omega)]
    by_cases he : c = bWho nc (bx.getD i default)
    · rw [if_pos (by omega), if_pos he]
    · rw [if_neg (by omega), if_neg he]

end
end Go.Aw
end
section
set_option linter.unusedVariables false
set_option linter.unusedSimpArgs false
set_option maxRecDepth 20000
set_option maxHeartbeats 4000000
/-! The law's own: a copy of a load. -/
namespace Go.Aw
open Go.RowKit Go.Proofs

theorem own_spec (bs : List Box) (cs : List Bill) (hz : SizeOk bs cs) : Ct Tryd.prog 38 [encLoad bs cs] (encLoad bs cs) := by
  obtain ⟨hnb, hnc, hlb, hlc⟩ := hz
  refine ct_enterZ Tryd.func38 rfl (by decide) Tryd.results38 Tryd.ntmps38 ?_ rfl (by simp (maxSteps := 1000000) -implicitDefEqProofs (disch := omega) only [go_sem]; rfl) fun base => ?_
  · first | assumption | (simp only [go_sem] <;> assumption) | (simp only [go_sem, *]; done) | (simp [go_sem]; done)
  repeat' (first
    | (with_reducible apply Req_intro); focus (first | omega | assumption | (simp; done))
    | with_reducible (first | apply Req_intro | refine nilT ?_ fun hn => ?_ | apply wk_draw Tryd_mixed | refine drawEnd (by kernel_rfl) ?_)
    | (with_reducible (first | apply condA_if | apply stepDG_ifN | apply stepDG_if | apply stepG_ifN | apply stepG_if)) <;> intro hb <;> (have hif := hb) <;> (try simp only [bo] at hif) <;> (try simp -implicitDefEqProofs (disch := omega) only [go_sem, hb]) <;> clear hb
    | simp (maxSteps := 1000000) -implicitDefEqProofs (disch := omega) only [go_sem])
  refine loop_rows (α := Nat) [4, 7, 8, 9, 10, 11, 12, 13, 14, 15, 16, 17, 18, 19, 20, 21, 22, 23, 24, 25, 26, 27] (fun i => [(4, .lit (.int .i64 i))]) (fun i => [(0, some ⟨2, [loadC bs cs], 25, .wr⟩), (64, some ⟨2, [[nilV, nilV]], 25, .wr⟩), (192, some ⟨2, [[.os 65 1 i false, nilV]], 25, .wr⟩), (65, some ⟨1, (bs.take i).map encB, 67, .wr⟩)]) (fun i => i ≤ bs.length) (fun i => bs.length - i) 0 (fun x => by simp (maxSteps := 1000000) -implicitDefEqProofs (disch := omega) only [go_sem]; rfl) ?_ ?_ fun x hx => ?_
  · simp only [List.take_zero, List.map_nil]
    exact weak_do [(65, 1000000)]
  · exact Nat.zero_le _
  have htl : (bs.take x).length = x := by rw [List.length_take]; omega
  by_cases hlt : x < bs.length
  · have hl := hlb _ (getD_mem hlt)
    have ht := take_succ_getD hlt
    repeat' (first
      | (with_reducible apply Req_intro); focus (first | omega | assumption | (simp; done))
      | with_reducible (first | apply Req_intro | refine nilT ?_ fun hn => ?_ | apply wk_draw Tryd_mixed | refine drawEnd (by kernel_rfl) ?_)
      | (with_reducible (first | apply condA_if | apply stepDG_ifN | apply stepDG_if | apply stepG_ifN | apply stepG_if)) <;> intro hb <;> (have hif := hb) <;> (try simp only [bo] at hif) <;> (try simp -implicitDefEqProofs (disch := omega) only [go_sem, hb]) <;> clear hb
      | simp (maxSteps := 1000000) -implicitDefEqProofs (disch := omega) only [go_sem])
    all_goals first | exact absurd trivial ‹¬True› | (exfalso; omega) | omega | skip
    generalize bs.getD x default = b at *
    refine nxt_snapRow [1280] 1472 (es' := (bs.take x).map encB ++ [encB b]) (by first | (simp only [go_sem]; done) | (simp only [go_sem]; rfl)) (by rfl) ?_ (by first | assumption | (simp only [go_sem] <;> assumption) | (simp only [go_sem, *]; done) | (simp [go_sem]; done)) (by first | (simp only [go_sem]; done) | (simp only [go_sem]; rfl)) ?_
    · refine PurE.snocR (by first | assumption | (simp only [go_sem] <;> assumption) | (simp only [go_sem, *]; done) | (simp [go_sem]; done)) ?_
      rw [show encB b = [.sl 2 (b.map encS) false] from rfl]
      (try simp (maxSteps := 1000000) -implicitDefEqProofs (disch := omega) only [go_sem])
      repeat' (first
        | with_reducible (first | exact PurI.nil | exact Pur.nilsl _ _ | exact PurE.nil)
        | (with_reducible (first | refine PurI.puL ?_ | refine PurE.puE ?_)) <;> (first | assumption | (simp only [go_sem] <;> assumption) | (simp only [go_sem, *]; done) | (simp [go_sem]; done))
        | with_reducible apply PurI.cons
        | (with_reducible refine Pur.pu _ ?_) <;> (first | assumption | (simp only [go_sem] <;> assumption) | (simp only [go_sem, *]; done) | (simp [go_sem]; done))
        | ((with_reducible apply Pur.refR) <;> (first | rfl | decide | (simp only [go_sem]; omega) | (simp only [go_sem]) | skip))
        | ((with_reducible apply Pur.osR) <;> (first | rfl | exact fun h => h | omega | (simp; omega) | (simp; done) | (simp only [go_sem]) | skip))
        | with_reducible (first | apply Pur.fnI | apply Pur.aggI | apply PurE.cons)
        | (with_reducible refine PurI.eqL ?_ ?_); (focus rfl); (focus (first | assumption | (simp only [go_sem] <;> assumption) | (simp only [go_sem, *]; done) | (simp [go_sem]; done)))
        | simp (maxSteps := 1000000) -implicitDefEqProofs (disch := omega) only [go_sem])
    with_reducible refine nxt_w (x + 1) ?_ ?_
    · (try dsimp only)
      rw [ht, List.map_append]
      exact weak_do [(65, 1472)]
    try dsimp only
    omega
  · obtain rfl : x = bs.length := by omega
    rw [List.take_length]
    clear hlt htl
    repeat' (first
      | (with_reducible apply Req_intro); focus (first | omega | assumption | (simp; done))
      | with_reducible (first | apply Req_intro | refine nilT ?_ fun hn => ?_ | apply wk_draw Tryd_mixed | refine drawEnd (by kernel_rfl) ?_)
      | (with_reducible (first | apply condA_if | apply stepDG_ifN | apply stepDG_if | apply stepG_ifN | apply stepG_if)) <;> intro hb <;> (have hif := hb) <;> (try simp only [bo] at hif) <;> (try simp -implicitDefEqProofs (disch := omega) only [go_sem, hb]) <;> clear hb
      | simp (maxSteps := 1000000) -implicitDefEqProofs (disch := omega) only [go_sem])
    all_goals first | exact absurd trivial ‹¬True› | (exfalso; omega) | skip
    refine loop_rows (α := Nat) [5, 28, 29, 30, 31, 32, 33, 34, 35, 36, 37, 38, 39, 40, 41, 42, 43, 44, 45, 46, 47, 48, 49, 50, 51, 52, 53, 54] (fun i => [(5, .lit (.int .i64 i))]) (fun i => [(0, some ⟨2, [loadC bs cs], 25, .wr⟩), (64, some ⟨2, [[nilV, nilV]], 25, .wr⟩), (192, some ⟨2, [[.os 65 1 bs.length false, .os 66 2 i false]], 25, .wr⟩), (65, some ⟨1, bs.map encB, 67, .wr⟩), (66, some ⟨2, (cs.take i).map encBill, 64, .wr⟩)]) (fun i => i ≤ cs.length) (fun i => cs.length - i) 0 (fun x => by simp (maxSteps := 1000000) -implicitDefEqProofs (disch := omega) only [go_sem]; rfl) ?_ ?_ fun x hx => ?_
    · simp only [List.take_zero, List.map_nil]
      exact weak_do [(66, 1000000)]
    · exact Nat.zero_le _
    have htl : (cs.take x).length = x := by rw [List.length_take]; omega
    by_cases hlt : x < cs.length
    · have hl := hlc _ (getD_mem hlt)
      have ht := take_succ_getD hlt
      repeat' (first
        | (with_reducible apply Req_intro); focus (first | omega | assumption | (simp; done))
        | with_reducible (first | apply Req_intro | refine nilT ?_ fun hn => ?_ | apply wk_draw Tryd_mixed | refine drawEnd (by kernel_rfl) ?_)
        | (with_reducible (first | apply condA_if | apply stepDG_ifN | apply stepDG_if | apply stepG_ifN | apply stepG_if)) <;> intro hb <;> (have hif := hb) <;> (try simp only [bo] at hif) <;> (try simp -implicitDefEqProofs (disch := omega) only [go_sem, hb]) <;> clear hb
        | simp (maxSteps := 1000000) -implicitDefEqProofs (disch := omega) only [go_sem])
      all_goals first | exact absurd trivial ‹¬True› | (exfalso; omega) | omega | skip
      generalize cs.getD x default = b at *
      refine nxt_snapRow [2048] 2240 (es' := (cs.take x).map encBill ++ [encBill b]) (by first | (simp only [go_sem]; done) | (simp only [go_sem]; rfl)) (by rfl) ?_ (by first | assumption | (simp only [go_sem] <;> assumption) | (simp only [go_sem, *]; done) | (simp [go_sem]; done)) (by first | (simp only [go_sem]; done) | (simp only [go_sem]; rfl)) ?_
      · refine PurE.snocR (by first | assumption | (simp only [go_sem] <;> assumption) | (simp only [go_sem, *]; done) | (simp [go_sem]; done)) ?_
        rw [show encBill b = [.lit (.int .i64 b.1), .sl 2 (b.2.map encS) false] from rfl]
        (try simp (maxSteps := 1000000) -implicitDefEqProofs (disch := omega) only [go_sem])
        repeat' (first
          | with_reducible (first | exact PurI.nil | exact Pur.nilsl _ _ | exact PurE.nil)
          | (with_reducible (first | refine PurI.puL ?_ | refine PurE.puE ?_)) <;> (first | assumption | (simp only [go_sem] <;> assumption) | (simp only [go_sem, *]; done) | (simp [go_sem]; done))
          | with_reducible apply PurI.cons
          | (with_reducible refine Pur.pu _ ?_) <;> (first | assumption | (simp only [go_sem] <;> assumption) | (simp only [go_sem, *]; done) | (simp [go_sem]; done))
          | ((with_reducible apply Pur.refR) <;> (first | rfl | decide | (simp only [go_sem]; omega) | (simp only [go_sem]) | skip))
          | ((with_reducible apply Pur.osR) <;> (first | rfl | exact fun h => h | omega | (simp; omega) | (simp; done) | (simp only [go_sem]) | skip))
          | with_reducible (first | apply Pur.fnI | apply Pur.aggI | apply PurE.cons)
          | (with_reducible refine PurI.eqL ?_ ?_); (focus rfl); (focus (first | assumption | (simp only [go_sem] <;> assumption) | (simp only [go_sem, *]; done) | (simp [go_sem]; done)))
          | simp (maxSteps := 1000000) -implicitDefEqProofs (disch := omega) only [go_sem])
      with_reducible refine nxt_w (x + 1) ?_ ?_
      · (try dsimp only)
        rw [ht, List.map_append]
        exact weak_do [(66, 2240)]
      try dsimp only
      omega
    · obtain rfl : x = cs.length := by omega
      rw [List.take_length]
      repeat' (first
        | (with_reducible apply Req_intro); focus (first | omega | assumption | (simp; done))
        | with_reducible (first | apply Req_intro | refine nilT ?_ fun hn => ?_ | apply wk_draw Tryd_mixed | refine drawEnd (by kernel_rfl) ?_)
        | (with_reducible (first | apply condA_if | apply stepDG_ifN | apply stepDG_if | apply stepG_ifN | apply stepG_if)) <;> intro hb <;> (have hif := hb) <;> (try simp only [bo] at hif) <;> (try simp -implicitDefEqProofs (disch := omega) only [go_sem, hb]) <;> clear hb
        | simp (maxSteps := 1000000) -implicitDefEqProofs (disch := omega) only [go_sem])
      all_goals first | exact absurd trivial ‹¬True› | (exfalso; omega) | skip
      exact retz [65, 66]
end Go.Aw
end
section
set_option linter.unusedVariables false
set_option linter.unusedSimpArgs false
/-! Rows whose elements name rows, one after another. -/
namespace Go.Aw
open Go.RowKit

def famE (F n : Nat) (ln : Nat → Nat) : List (List V) := (List.range n).map fun j => [.os (F + j) 2 (ln j) false]
def famC (F n : Nat) (ct : Nat → Int) (ln : Nat → Nat) : List (List V) := (List.range n).map fun j => [int (ct j), .os (F + j) 2 (ln j) false]
@[go_sem] theorem famE_len (F n : Nat) (ln : Nat → Nat) : (famE F n ln).length = n := by simp [famE]
@[go_sem] theorem famC_len (F n : Nat) (ct : Nat → Int) (ln : Nat → Nat) : (famC F n ct ln).length = n := by simp [famC]
theorem famE_at {F n : Nat} {ln : Nat → Nat} {j : Nat} (h : j < n) : (famE F n ln)[j]? = some [.os (F + j) 2 (ln j) false] := by simp [famE, h]
theorem famC_at {F n : Nat} {ct : Nat → Int} {ln : Nat → Nat} {j : Nat} (h : j < n) : (famC F n ct ln)[j]? = some [int (ct j), .os (F + j) 2 (ln j) false] := by simp [famC, h]
@[go_sem] theorem famE_get (F n : Nat) (ln : Nat → Nat) (j : Nat) (h : j < n) : (famE F n ln).getD j [] = [.os (F + j) 2 (ln j) false] := by rw [List.getD_eq_getElem?_getD, famE_at h]; rfl
@[go_sem] theorem famC_get (F n : Nat) (ct : Nat → Int) (ln : Nat → Nat) (j : Nat) (h : j < n) : (famC F n ct ln).getD j [] = [int (ct j), .os (F + j) 2 (ln j) false] := by rw [List.getD_eq_getElem?_getD, famC_at h]; rfl
theorem famE_lt {F n : Nat} {ln : Nat → Nat} {j : Nat} {e : List V} (h : (famE F n ln)[j]? = some e) : j < n := by have := (List.getElem?_eq_some_iff.1 h).1; rwa [famE_len] at this
theorem famC_lt {F n : Nat} {ct : Nat → Int} {ln : Nat → Nat} {j : Nat} {e : List V} (h : (famC F n ct ln)[j]? = some e) : j < n := by have := (List.getElem?_eq_some_iff.1 h).1; rwa [famC_len] at this

section
variable {ρ : Nat → Nat} {m : Nat}
theorem RenE.get : ∀ {a b : List (List V)}, a.length = b.length → (∀ (j : Nat) (d d' : List V), a[j]? = some d → b[j]? = some d' → RenL ρ m d d') → RenE ρ m a b
  | [], [], _, _ => .nil
  | _ :: _, [], h, _ => by cases h
  | [], _ :: _, h, _ => by cases h
  | d :: a, d' :: b, h, hc => .cons _ _ _ _ (hc 0 d d' rfl rfl) (RenE.get (by simpa using h) fun j x y hx hy => hc (j + 1) x y (by simpa using hx) (by simpa using hy))

theorem RenE.fam {F n B : Nat} {ln ln' : Nat → Nat} (hB : n ≤ B) (hr : ∀ j, j < B → ρ (F + j) = F + j ∧ F + j < m) (hl : ∀ j, j < n → ln j = ln' j) : RenE ρ m (famE F n ln) (famE F n ln') := by
  refine RenE.get (by simp only [famE_len]) fun j d d' h1 h2 => ?_
  have hj := famE_lt h1
  rw [famE_at hj] at h1 h2
  cases h1
  cases h2
  have := hr j (by omega)
  exact .cons _ _ _ _ (Ren.osN _ _ (hl j hj) this.1 this.2 (fun h => h)) .nil
theorem RenE.famCt {F n B : Nat} {ct ct' : Nat → Int} {ln ln' : Nat → Nat} (hB : n ≤ B) (hr : ∀ j, j < B → ρ (F + j) = F + j ∧ F + j < m) (hl : ∀ j, j < n → ln j = ln' j) (hc : ∀ j, j < n → ct j = ct' j) : RenE ρ m (famC F n ct ln) (famC F n ct' ln') := by
  refine RenE.get (by simp only [famC_len]) fun j d d' h1 h2 => ?_
  have hj := famC_lt h1
  rw [famC_at hj] at h1 h2
  cases h1
  cases h2
  have := hr j (by omega)
  rw [hc j hj]
  exact .cons _ _ _ _ (.lit _) (.cons _ _ _ _ (Ren.osN _ _ (hl j hj) this.1 this.2 (fun h => h)) .nil)
theorem RenE.famSnoc {F n n1 X L : Nat} {ln : Nat → Nat} {ex : Bool} (hn : n1 = n + 1) (hr : ∀ j, j < n → ρ (F + j) = F + j) (hm : F + n < m) (hX : ρ (F + n) = X) (hL : ln n = L) : RenE ρ m (famE F n1 ln) (famE F n ln ++ [[.os X 2 L ex]]) := by
  subst hn
  refine RenE.get (by simp [famE_len]) fun j d d' h1 h2 => ?_
  have hj := famE_lt h1
  rw [famE_at hj] at h1
  cases h1
  rcases Nat.lt_or_ge j n with h | h
  · rw [List.getElem?_append_left (by rw [famE_len]; exact h), famE_at h] at h2
    cases h2
    exact .cons _ _ _ _ (Ren.osN _ _ rfl (hr j h) (by omega) (fun h => h)) .nil
  · obtain rfl : j = n := by omega
    rw [List.getElem?_append_right (by rw [famE_len]; exact h), famE_len, Nat.sub_self] at h2
    cases h2
    exact .cons _ _ _ _ (Ren.osN _ _ hL hX hm (fun h => by cases h)) .nil
theorem RenE.famCSnoc {F n n1 X L : Nat} {ct : Nat → Int} {c : Int} {ln : Nat → Nat} {ex : Bool} (hn : n1 = n + 1) (hr : ∀ j, j < n → ρ (F + j) = F + j) (hm : F + n < m) (hX : ρ (F + n) = X) (hL : ln n = L) (hc : ct n = c) : RenE ρ m (famC F n1 ct ln) (famC F n ct ln ++ [[int c, .os X 2 L ex]]) := by
  subst hn
  refine RenE.get (by simp [famC_len]) fun j d d' h1 h2 => ?_
  have hj := famC_lt h1
  rw [famC_at hj] at h1
  cases h1
  rcases Nat.lt_or_ge j n with h | h
  · rw [List.getElem?_append_left (by rw [famC_len]; exact h), famC_at h] at h2
    cases h2
    exact .cons _ _ _ _ (.lit _) (.cons _ _ _ _ (Ren.osN _ _ rfl (hr j h) (by omega) (fun h => h)) .nil)
  · obtain rfl : j = n := by omega
    rw [List.getElem?_append_right (by rw [famC_len]; exact h), famC_len, Nat.sub_self] at h2
    cases h2
    rw [hc]
    exact .cons _ _ _ _ (.lit _) (.cons _ _ _ _ (Ren.osN _ _ hL hX hm (fun h => by cases h)) .nil)
theorem RenE.famSet {F n B x X L : Nat} {ln ln' : Nat → Nat} {ex : Bool} (hB : n ≤ B) (hr : ∀ j, j < B → j ≠ x → ρ (F + j) = F + j) (hm : ∀ j, j < B → F + j < m) (hX : ρ (F + x) = X) (hL : ln x = L) (hl : ∀ j, j < n → j ≠ x → ln j = ln' j) : RenE ρ m (famE F n ln) ((famE F n ln').set x [.os X 2 L ex]) := by
  refine RenE.get (by simp [famE_len]) fun j d d' h1 h2 => ?_
  have hj := famE_lt h1
  rw [famE_at hj] at h1
  cases h1
  by_cases he : j = x
  · subst he
    rw [List.getElem?_set_self (by rw [famE_len]; exact hj)] at h2
    cases h2
    exact .cons _ _ _ _ (Ren.osN _ _ hL hX (hm j (by omega)) (fun h => by cases h)) .nil
  · rw [List.getElem?_set_ne (fun h => he h.symm), famE_at hj] at h2
    cases h2
    exact .cons _ _ _ _ (Ren.osN _ _ (hl j hj he) (hr j (by omega) he) (hm j (by omega)) (fun h => h)) .nil
theorem RenE.famCSet {F n B x X L : Nat} {ct ct' : Nat → Int} {c : Int} {ln ln' : Nat → Nat} {ex : Bool} (hB : n ≤ B) (hr : ∀ j, j < B → j ≠ x → ρ (F + j) = F + j) (hm : ∀ j, j < B → F + j < m) (hX : ρ (F + x) = X) (hL : ln x = L) (hl : ∀ j, j < n → j ≠ x → ln j = ln' j) (hc : ct x = c) (hcl : ∀ j, j < n → j ≠ x → ct j = ct' j) :
    RenE ρ m (famC F n ct ln) ((famC F n ct' ln').set x [int c, .os X 2 L ex]) := by
  refine RenE.get (by simp [famC_len]) fun j d d' h1 h2 => ?_
  have hj := famC_lt h1
  rw [famC_at hj] at h1
  cases h1
  by_cases he : j = x
  · subst he
    rw [List.getElem?_set_self (by rw [famC_len]; exact hj)] at h2
    cases h2
    rw [hc]
    exact .cons _ _ _ _ (.lit _) (.cons _ _ _ _ (Ren.osN _ _ hL hX (hm j (by omega)) (fun h => by cases h)) .nil)
  · rw [List.getElem?_set_ne (fun h => he h.symm), famC_at hj] at h2
    cases h2
    rw [hcl j hj he]
    exact .cons _ _ _ _ (.lit _) (.cons _ _ _ _ (Ren.osN _ _ (hl j hj he) (hr j (by omega) he) (hm j (by omega)) (fun h => h)) .nil)
end

section
variable {fr : Bool} {h : Hp}
theorem PurE.get : ∀ {a b : List (List V)}, a.length = b.length → (∀ (j : Nat) (d d' : List V), a[j]? = some d → b[j]? = some d' → PurI fr h d d') → PurE fr h a b
  | [], [], _, _ => .nil
  | _ :: _, [], h, _ => by cases h
  | [], _ :: _, h, _ => by cases h
  | d :: a, d' :: b, h, hc => .cons _ _ _ _ (hc 0 d d' rfl rfl) (PurE.get (by simpa using h) fun j x y hx hy => hc (j + 1) x y (by simpa using hx) (by simpa using hy))

theorem PurE.fam {F n : Nat} {ln : Nat → Nat} {bs : List Box} (hn : bs.length = n) (hl : ∀ j, j < n → ln j = (bs.getD j default).length) (hh : ∀ j, j < n → h (F + j) = some ⟨2, (bs.getD j default).map encS, 60, .fz⟩) : PurE true h ((famE F n ln).take n) (bs.map encB) := by
  rw [List.take_of_length_le (by rw [famE_len]; exact Nat.le_refl _)]
  refine PurE.get (by rw [famE_len, List.length_map, hn]) fun j d d' h1 h2 => ?_
  have hj := famE_lt h1
  rw [famE_at hj] at h1
  rw [List.getElem?_map, List.getElem?_eq_getElem (by omega)] at h2
  cases h1
  cases h2
  have e : bs.getD j default = bs[j] := getD_default (by omega)
  have h3 := hh j hj
  have h4 := hl j hj
  rw [e] at h3 h4
  rw [h4]
  refine .cons _ _ _ _ (Pur.osR h3 rfl (by rw [List.length_map]; exact Nat.le_refl _) (fun h => h) ?_) .nil
  rw [List.take_of_length_le (by rw [List.length_map]; exact Nat.le_refl _)]
  exact .puE (by first | assumption | (simp only [go_sem] <;> assumption) | (simp only [go_sem, *]; done) | (simp [go_sem]; done))
theorem PurE.famCt {F n : Nat} {ct : Nat → Int} {ln : Nat → Nat} {cs : List Bill} (hn : cs.length = n) (hc : ∀ j, j < n → ct j = (cs.getD j default).1) (hl : ∀ j, j < n → ln j = (cs.getD j default).2.length) (hh : ∀ j, j < n → h (F + j) = some ⟨2, (cs.getD j default).2.map encS, 60, .fz⟩) : PurE true h ((famC F n ct ln).take n) (cs.map encBill) := by
  rw [List.take_of_length_le (by rw [famC_len]; exact Nat.le_refl _)]
  refine PurE.get (by rw [famC_len, List.length_map, hn]) fun j d d' h1 h2 => ?_
  have hj := famC_lt h1
  rw [famC_at hj] at h1
  rw [List.getElem?_map, List.getElem?_eq_getElem (by omega)] at h2
  cases h1
  cases h2
  have e : cs.getD j default = cs[j] := getD_default (by omega)
  have h3 := hh j hj
  have h4 := hl j hj
  have h5 := hc j hj
  rw [e] at h3 h4 h5
  rw [h4, h5]
  refine .cons _ _ _ _ (.pu _ (.lit _)) (.cons _ _ _ _ (Pur.osR h3 rfl (by rw [List.length_map]; exact Nat.le_refl _) (fun h => h) ?_) .nil)
  rw [List.take_of_length_le (by rw [List.length_map]; exact Nat.le_refl _)]
  exact .puE (by first | assumption | (simp only [go_sem] <;> assumption) | (simp only [go_sem, *]; done) | (simp [go_sem]; done))
end

theorem forall_lt {p : Nat → Prop} {n : Nat} (B : Nat) (hB : n ≤ B) (h : ∀ j, j < B → j < n → p j) : ∀ j, j < n → p j := fun j hj => h j (by omega) hj
end Go.Aw
end
section
set_option linter.unusedVariables false
set_option linter.unusedSimpArgs false
/-! A callee that leaves new rows which may be written: its contract from nothing, under the names of the caller. -/
namespace Go.Aw
open Go.RowKit

/-- Names of rows from one on, as they were from nought. -/
def rhoF (n : Nat) (id : Nat) : Nat := if id < n then id + 9223372036854775808 else id - n

section
variable {P : Program} {g : FuncId} {args args' : List V} {nx nx0 : Nat} {l rows rows0 : List (Nat × Option Blk)} {r0 r' : V}

theorem hget_app2 (i : Nat) : ∀ (a b : List (Nat × Option Blk)) (x : Option Blk), hget i (a ++ b) = some x → hget i a = some x ∨ hget i b = some x
  | [], b, x, h => .inr h
  | p :: a, b, x, h => by
    obtain ⟨j, y⟩ := p
    simp only [List.cons_append, hget] at h ⊢
    by_cases e : i = j
    · rw [if_pos e] at h ⊢; exact .inl h
    · rw [if_neg e] at h ⊢; exact hget_app2 i a b x h

theorem RH.join {w : World} {own : Nat → Prop} {ok : Nat → Nat → Prop} {s s0 : Nat → Option Nat} {h h0 h' : Hp} (hr : RH w own ok s h) {own0 : Nat → Prop} (hr0 : RH w own0 ok s0 h0) (hd : ∀ b, own b → ¬ own0 b) (hfr : ∀ id, nx ≤ id → s id = none ∧ h id = none)
    (hfr0 : ∀ id, nx0 ≤ id → s0 id = none ∧ h0 id = none) (hn : nx0 ≤ 9223372036854775808)
    (hh : ∀ id b', h' id = some b' → (id < nx ∧ h id = some b') ∨ (nx ≤ id ∧ id < nx + nx0 ∧ (nx0 ≤ rhoF nx id ∧ 0 < b'.k ∧ b'.es = [] ∨ ∃ b, h0 (rhoF nx id) = some b ∧ b'.k = b.k ∧ b'.ty = b.ty ∧ b'.mode = b.mode ∧ RenE (rhoF nx) (nx + nx0) b'.es b.es))) :
    RH w (fun b => own b ∨ own0 b) ok (fun id => if id < nx then s id else s0 (id - nx)) h' := by
  let s' : Nat → Option Nat := fun id => if id < nx then s id else s0 (id - nx)
  show RH w _ ok s' h'
  have hs1 : ∀ id B, s id = some B → s' id = some B := fun id B hB => by
    have : id < nx := by
      rcases Nat.lt_or_ge id nx with h1 | h1
      · exact h1
      · rw [(hfr id h1).1] at hB; cases hB
    simp only [s', if_pos this]; exact hB
  have hs0 : ∀ id B, id < nx + nx0 → s0 (rhoF nx id) = some B → s' id = some B := fun id B _ hB => by
    unfold rhoF at hB
    split at hB
    · rw [(hfr0 _ (by omega)).1] at hB; cases hB
    · rename_i h1; simp only [s', if_neg h1]; exact hB
  have hs2 : ∀ id B, nx ≤ id → s' id = some B → s0 (rhoF nx id) = some B := fun id B h1 hB => by
    simp only [s', if_neg (Nat.not_lt.2 h1)] at hB
    unfold rhoF; rw [if_neg (Nat.not_lt.2 h1)]; exact hB
  have hs3 : ∀ id B, id < nx → s' id = some B → s id = some B := fun id B h1 hB => by
    simp only [s', if_pos h1] at hB; exact hB
  refine ⟨hr.okw, fun b hb => ?_, fun id B hB => ?_, fun id b' hb' => ?_, fun id1 id2 b1 b2 B g1 g2 m1 m2 e1 e2 => ?_, hr.gl⟩
  · rcases hb with hb | hb
    · exact hr.ownw b hb
    · exact hr0.ownw b hb
  · rcases Nat.lt_or_ge id nx with h1 | h1
    · exact hr.sw id B (hs3 id B h1 hB)
    · exact hr0.sw _ B (hs2 id B h1 hB)
  · rcases hh id b' hb' with ⟨h1, h2⟩ | ⟨h1, h1', hrow⟩
    · have hbk := hr.blk id b' h2
      refine ⟨hbk.pos, hbk.len, fun hv => hbk.virt (by simpa [s', h1] using hv), fun B hB hm => ⟨.inl (hbk.own B (hs3 id B h1 hB) hm).1, (hbk.own B (hs3 id B h1 hB) hm).2⟩, fun B hB => hbk.shape B (hs3 id B h1 hB), fun B hB i j e d hi hj => ?_,
        fun B hB => hbk.fwr B (hs3 id B h1 hB), fun B hB => hbk.ffz B (hs3 id B h1 hB), fun B hB => hbk.fold B (hs3 id B h1 hB)⟩
      obtain ⟨u, g1, g2⟩ := hbk.cells B (hs3 id B h1 hB) i j e d hi hj
      exact ⟨u, g1, g2.keep (fun _ _ h => ⟨h, rfl⟩) (fun _ _ _ h => h) hs1⟩
    · rcases hrow with ⟨hv, hk, he⟩ | ⟨b, hb, hk, hty, hm, he⟩
      · have hno : ∀ B, s' id = some B → False := fun B hB => by
          have := hs2 id B h1 hB
          rw [(hfr0 _ hv).1] at this; cases this
        exact ⟨hk, fun e h => (by rw [he] at h; cases h), fun _ => he, fun B hB => (hno B hB).elim, fun B hB => (hno B hB).elim, fun B hB => (hno B hB).elim, fun B hB => (hno B hB).elim, fun B hB => (hno B hB).elim, fun B hB => (hno B hB).elim⟩
      · have hbk := hr0.blk _ _ hb
        obtain ⟨el, ei⟩ := he.spec
        refine ⟨by rw [hk]; exact hbk.pos, fun e h => ?_, fun h => ?_, fun B hB hmm => ⟨.inr (hbk.own B (hs2 id B h1 hB) (by rw [← hm]; exact hmm)).1, (hbk.own B (hs2 id B h1 hB) (by rw [← hm]; exact hmm)).2⟩, fun B hB => ?_, fun B hB i j e d hi hj => ?_, fun B hB hmm => hbk.fwr B (hs2 id B h1 hB) (by rw [← hm]; exact hmm), fun B hB hmm o => ?_, fun B hB hmm o ho => ?_⟩
        · obtain ⟨i, hi, rfl⟩ := List.getElem_of_mem h
          have hi' : i < b.es.length := by omega
          rw [hk, (ei i _ _ (List.getElem?_eq_getElem hi) (List.getElem?_eq_getElem hi')).spec.1]
          exact hbk.len _ (List.getElem_mem hi')
        · have : s0 (rhoF nx id) = none := by
            unfold rhoF; rw [if_neg (Nat.not_lt.2 h1)]
            simpa [s', Nat.not_lt.2 h1] using h
          have := hbk.virt this
          rw [this] at el
          exact List.eq_nil_of_length_eq_zero (by simpa using el)
        · obtain ⟨sz, g1, g2⟩ := hbk.shape B (hs2 id B h1 hB)
          exact ⟨sz, by rw [hty]; exact g1, by rw [hk, el]; exact g2⟩
        · have hi' : i < b.es.length := by have := (List.getElem?_eq_some_iff.1 hi).1; omega
          obtain ⟨jl, jr⟩ := (ei i _ _ hi (List.getElem?_eq_getElem hi')).spec
          have hj' : j < (b.es[i]).length := by have := (List.getElem?_eq_some_iff.1 hj).1; omega
          obtain ⟨u, g1, g2⟩ := hbk.cells B (hs2 id B h1 hB) i j _ _ (List.getElem?_eq_getElem hi') (List.getElem?_eq_getElem hj')
          exact ⟨u, by rw [hk]; exact g1, g2.ren (jr j _ _ hj (List.getElem?_eq_getElem hj')) hs0⟩
        · rw [hk, el]; exact hbk.ffz B (hs2 id B h1 hB) (by rw [← hm]; exact hmm) o
        · rw [hk, el] at ho; exact hbk.fold B (hs2 id B h1 hB) (by rw [← hm]; exact hmm) o ho
  · have hno : ∀ id B, nx ≤ id → nx0 ≤ rhoF nx id → s' id = some B → False := fun id B h1 hv hB => by
      have := hs2 id B h1 hB
      rw [(hfr0 _ hv).1] at this; cases this
    have own1 : ∀ id b B, h id = some b → b.mode ≠ .old → s id = some B → own B := fun id b B h1 h2 h3 => ((hr.blk id b h1).own B h3 h2).1
    have own2 : ∀ id b B, h0 id = some b → b.mode ≠ .old → s0 id = some B → own0 B := fun id b B h1 h2 h3 => ((hr0.blk id b h1).own B h3 h2).1
    rcases hh id1 b1 g1 with ⟨a1, a2⟩ | ⟨a1, a2, a3⟩
    · rcases hh id2 b2 g2 with ⟨c1, c2⟩ | ⟨c1, c2, c3⟩
      · exact hr.exc id1 id2 b1 b2 B a2 c2 m1 m2 (hs3 _ _ a1 e1) (hs3 _ _ c1 e2)
      · rcases c3 with ⟨c3, _⟩ | ⟨b, q1, _, _, q4, _⟩
        · exact (hno _ _ c1 c3 e2).elim
        · exact (hd B (own1 _ _ _ a2 m1 (hs3 _ _ a1 e1)) (own2 _ _ _ q1 (by rw [← q4]; exact m2) (hs2 _ _ c1 e2))).elim
    · rcases a3 with ⟨a3, _⟩ | ⟨b, q1, _, _, q4, _⟩
      · exact (hno _ _ a1 a3 e1).elim
      rcases hh id2 b2 g2 with ⟨c1, c2⟩ | ⟨c1, c2, c3⟩
      · exact (hd B (own1 _ _ _ c2 m2 (hs3 _ _ c1 e2)) (own2 _ _ _ q1 (by rw [← q4]; exact m1) (hs2 _ _ a1 e1))).elim
      · rcases c3 with ⟨c3, _⟩ | ⟨b', p1, _, _, p4, _⟩
        · exact (hno _ _ c1 c3 e2).elim
        · have := hr0.exc _ _ b b' B q1 p1 (by rw [← q4]; exact m1) (by rw [← p4]; exact m2) (hs2 _ _ a1 e1) (hs2 _ _ c1 e2)
          unfold rhoF at this
          rw [if_neg (Nat.not_lt.2 a1), if_neg (Nat.not_lt.2 c1)] at this
          omega

/-- The contract of a callee that makes new rows, at a caller's call. -/
theorem CallH.fresh (hc : CallH P g args' (fun _ => none) 0 (fun r h n => r = r0 ∧ h = hpOf (fun _ => none) rows0 ∧ n = nx0)) (hp : PurL true (hpOf (fun _ => none) l) args args') (hn : nx0 ≤ 9223372036854775808)
    (hr' : Ren (rhoF nx) (nx + nx0) r' r0) (hrows : RowsRen (rhoF nx) (nx + nx0) nx0 (hpOf (fun _ => none) rows0) rows) (hge : (rows.all fun p => decide (nx ≤ p.1)) = true) :
    CallH P g args (hpOf (fun _ => none) l) nx (fun r h n => r = r' ∧ h = hpOf (fun _ => none) (l ++ rows) ∧ n = nx + nx0) := by
  intro w own ok s vals hrh hfr hsz hvals
  have hrh0 : RH w (fun _ => False) ok (fun _ => none) (fun _ => none) := ⟨hrh.okw, fun b hb => hb.elim, (fun id B hB => by cases hB), (fun id b hb => by cases hb), (fun id1 id2 b1 b2 B h1 => by cases h1), hrh.gl⟩
  have hok : ∀ b o, okT ok s (hpOf (fun _ => none) l) true b o → ok b o := fun b o h => by
    rcases h with h | ⟨h, _⟩
    · exact h
    · cases h
  have hargs : ∀ (i : Nat) (d : V) (v : Value), args'[i]? = some d → vals[i]? = some v → Rep w ok (fun _ => none) v d := fun i d v hd hv => by
    have hi : i < args.length := by rw [hp.1]; exact (List.getElem?_eq_some_iff.1 hd).1
    exact ((hp.2 i _ d (List.getElem?_eq_getElem hi) hd).rep hrh (hvals i _ v (List.getElem?_eq_getElem hi) hv)).keep (fun b o h => ⟨hok b o h, rfl⟩) (fun _ _ _ h => h) (fun _ _ h => h)
  refine CallsIn.mono (hc w _ ok _ vals hrh0 (fun id _ => ⟨rfl, rfl⟩) (hsz.trans hp.1) hargs) ?_
  rintro e w' ⟨v, r, h0, n, own0, ok0, s0, rfl, ⟨rfl, rfl, rfl⟩, g1, g2, g3, _, g5, _⟩
  obtain ⟨k1, k2⟩ := hrh.called g3 g1.okw
  have hd : ∀ b, own b → ¬ own0 b := fun b hb h0 => by
    rcases g3.ownn b h0 with h | h
    · exact h
    · have := hrh.ownw b hb; omega
  have hj := RH.join (nx := nx) (h' := hpOf (fun _ => none) (l ++ rows)) k1 g1 hd hfr g5 hn fun id b' hb' => by
    unfold hpOf at hb'
    split at hb'
    · rename_i x hx
      rcases hget_app2 id l rows x hx with h1 | h1
      · left
        have : hpOf (fun _ => none) l id = some b' := by unfold hpOf; rw [h1]; exact hb'
        refine ⟨?_, this⟩
        rcases Nat.lt_or_ge id nx with h2 | h2
        · exact h2
        · rw [(hfr id h2).2] at this; cases this
      · right
        subst hb'
        obtain ⟨q1, q2⟩ := hrows.spec id b' h1
        have h3 : nx ≤ id := by
          obtain ⟨p, hp1, hp2⟩ := List.mem_map.1 (hget_key h1)
          have := List.all_eq_true.1 hge p hp1
          rw [decide_eq_true_eq] at this
          rw [← hp2]; exact this
        exact ⟨h3, q1, q2⟩
    · cases hb'
  refine ⟨v, r', _, _, _, ok0, _, rfl, ⟨rfl, rfl, rfl⟩, hj, g2.ren hr' fun id B hid hB => ?_, ⟨k2.os, k2.tape, k2.output, k2.size, k2.unch, fun b hb => ?_, k2.okk, k2.okc, k2.okn, k2.shape, k2.ctl⟩, Nat.le_add_right _ _, fun id hid => ⟨?_, ?_⟩, fun id hid => ?_⟩
  · unfold rhoF at hB
    split at hB
    · rw [(g5 _ (by omega)).1] at hB; cases hB
    · rename_i h1; simp only [if_neg h1]; exact hB
  · rcases hb with hb | hb
    · exact .inl hb
    · rcases g3.ownn b hb with h | h
      · exact h.elim
      · exact .inr h
  · rw [if_neg (by omega)]
    exact (g5 _ (by omega)).1
  · cases hh : hpOf (fun _ => none) (l ++ rows) id with
    | none => rfl
    | some b' =>
      exfalso
      unfold hpOf at hh
      split at hh
      · rename_i x hx
        subst hh
        rcases hget_app2 id l rows _ hx with h1 | h1
        · have : hpOf (fun _ => none) l id = some b' := by unfold hpOf; rw [h1]
          rw [(hfr id (by omega)).2] at this; cases this
        · have := (hrows.spec id b' h1).1
          omega
      · cases hh
  · simp only [if_pos hid]
end

theorem RenE.famShift {ρ : Nat → Nat} {m : Nat} {F F' n B : Nat} {ln : Nat → Nat} (hB : n ≤ B) (hr : ∀ j, j < B → ρ (F' + j) = F + j ∧ F' + j < m) : RenE ρ m (famE F' n ln) (famE F n ln) := by
  refine RenE.get (by simp only [famE_len]) fun j d d' h1 h2 => ?_
  have hj := famE_lt h1
  rw [famE_at hj] at h1 h2
  cases h1
  cases h2
  have := hr j (by omega)
  exact .cons _ _ _ _ (Ren.osN _ _ rfl this.1 this.2 (fun h => h)) .nil
theorem RenE.famCtShift {ρ : Nat → Nat} {m : Nat} {F F' n B : Nat} {ct : Nat → Int} {ln : Nat → Nat} (hB : n ≤ B) (hr : ∀ j, j < B → ρ (F' + j) = F + j ∧ F' + j < m) : RenE ρ m (famC F' n ct ln) (famC F n ct ln) := by
  refine RenE.get (by simp only [famC_len]) fun j d d' h1 h2 => ?_
  have hj := famC_lt h1
  rw [famC_at hj] at h1 h2
  cases h1
  cases h2
  have := hr j (by omega)
  exact .cons _ _ _ _ (.lit _) (.cons _ _ _ _ (Ren.osN _ _ rfl this.1 this.2 (fun h => h)) .nil)
end Go.Aw
end
section
set_option linter.unusedVariables false
set_option linter.unusedSimpArgs false
set_option maxRecDepth 20000
set_option maxHeartbeats 4000000
/-! The law's own: a copy whose rows may be written. -/
namespace Go.Aw
open Go.RowKit Go.Proofs

theorem weak_do3 (ρl : List (Nat × Nat)) {tm tm' : List V} {h : Hp} {l' : List (Nat × Option Blk)} {nx nx' : Nat} {gh : Gh} (hlow : (ρl.all fun p => decide (gh.lim ≤ p.1)) = true := by rfl)
    (ht : RenL (renOf ρl) nx' tm' tm := by
      repeat' (first
        | with_reducible (first | exact RenL.nil | refine RenL.cons _ _ _ _ ?_ ?_ | exact Ren.any _ | exact Ren.lit _)
        | (with_reducible (first | refine Ren.int _ _ _ ?_ | refine Ren.bool _ _ ?_)) <;> (first | rfl | omega | (simp <;> omega) | (simp only [go_sem]; done) | (push_cast; omega))
        | with_reducible (first | exact Ren.nil _ _ _ | exact Ren.nilsl _ _ | exact RowsRen.nil | exact RenE.nil)
        | (with_reducible refine Ren.ref _ _ _ _ _ ?_ ?_) <;> decide
        | (with_reducible refine Ren.osN _ _ ?_ ?_ ?_ ?_) <;> (first | decide | first | rfl | omega | (simp <;> omega) | (simp only [go_sem]; done) | (push_cast; omega) | (intro h; exact h) | (intro h; cases h))
        | with_reducible (first | refine Ren.fnL _ _ ?_ ?_ | refine Ren.aggL _ _ ?_)
        | (with_reducible (first | refine Ren.pu _ ?_ | refine RenE.puE ?_)) <;> (first | assumption | (simp only [go_sem] <;> assumption) | (simp only [go_sem, *]; done) | (simp [go_sem]; done))
        | (with_reducible apply RowsRen.row); (focus decide); (focus rfl)
        | (with_reducible refine RowsRen.virt _ _ _ _ _ ?_ ?_ ?_ ?_); (focus decide); (focus decide); (focus decide)
        | with_reducible (first | refine RowsRen.gone _ _ ?_ | refine RenE.cons _ _ _ _ ?_ ?_)
        | (with_reducible (first | refine Ren.slE _ _ _ ?_ ?_ | refine RenE.eqE ?_ ?_)); (focus (first | rfl | omega | (simp <;> omega) | (simp only [go_sem]; done) | (push_cast; omega))); (focus (first | assumption | (simp only [go_sem] <;> assumption) | (simp only [go_sem, *]; done) | (simp [go_sem]; done)))
        | (with_reducible refine RenL.puL ?_) <;> (first | assumption | (simp only [go_sem] <;> assumption) | (simp only [go_sem, *]; done) | (simp [go_sem]; done))
        | (with_reducible refine RenL.eqL ?_ ?_); (focus (first | rfl | omega | (simp <;> omega) | (simp only [go_sem]; done) | (push_cast; omega))); (focus (first | assumption | (simp only [go_sem] <;> assumption) | (simp only [go_sem, *]; done) | (simp [go_sem]; done)))))
    (hh : RowsRen (renOf ρl) nx' nx h l' := by
      repeat' (first
        | with_reducible (first | exact RenL.nil | refine RenL.cons _ _ _ _ ?_ ?_ | exact Ren.any _ | exact Ren.lit _)
        | (with_reducible (first | refine Ren.int _ _ _ ?_ | refine Ren.bool _ _ ?_)) <;> (first | rfl | omega | (simp <;> omega) | (simp only [go_sem]; done) | (push_cast; omega))
        | with_reducible (first | exact Ren.nil _ _ _ | exact Ren.nilsl _ _ | exact RowsRen.nil | exact RenE.nil)
        | (with_reducible refine Ren.ref _ _ _ _ _ ?_ ?_) <;> decide
        | (with_reducible refine Ren.osN _ _ ?_ ?_ ?_ ?_) <;> (first | decide | first | rfl | omega | (simp <;> omega) | (simp only [go_sem]; done) | (push_cast; omega) | (intro h; exact h) | (intro h; cases h))
        | with_reducible (first | refine Ren.fnL _ _ ?_ ?_ | refine Ren.aggL _ _ ?_)
        | (with_reducible (first | refine Ren.pu _ ?_ | refine RenE.puE ?_)) <;> (first | assumption | (simp only [go_sem] <;> assumption) | (simp only [go_sem, *]; done) | (simp [go_sem]; done))
        | (with_reducible apply RowsRen.row); (focus decide); (focus rfl)
        | (with_reducible refine RowsRen.virt _ _ _ _ _ ?_ ?_ ?_ ?_); (focus decide); (focus decide); (focus decide)
        | with_reducible (first | refine RowsRen.gone _ _ ?_ | refine RenE.cons _ _ _ _ ?_ ?_)
        | (with_reducible refine RenE.setR ?_ ?_); (focus (first | assumption | (simp only [go_sem] <;> assumption) | (simp only [go_sem, *]; done) | (simp [go_sem]; done)))
        | (with_reducible refine RenE.fam (B := 8) ?_ ?_ ?_) <;> (first | omega | decide | (intro j hj; rfl) | assumption)
        | (with_reducible refine RenE.famCt (B := 3) ?_ ?_ ?_ ?_) <;> (first | omega | decide | (intro j hj; rfl) | assumption)
        | (with_reducible refine RenE.famSnoc rfl ?_ ?_ ?_ ?_) <;> (first | decide | rfl | first | rfl | omega | (simp <;> omega) | (simp only [go_sem]; done) | (push_cast; omega))
        | (with_reducible refine RenE.famCSnoc rfl ?_ ?_ ?_ ?_ ?_) <;> (first | decide | rfl | first | rfl | omega | (simp <;> omega) | (simp only [go_sem]; done) | (push_cast; omega))
        | (with_reducible refine RenE.famSet (B := 8) ?_ ?_ ?_ ?_ ?_ ?_) <;> (first | omega | decide | rfl | assumption | first | rfl | omega | (simp <;> omega) | (simp only [go_sem]; done) | (push_cast; omega))
        | (with_reducible refine RenE.famCSet (B := 3) ?_ ?_ ?_ ?_ ?_ ?_ ?_ ?_) <;> (first | omega | decide | rfl | assumption | (intro j _ _; rfl) | first | rfl | omega | (simp <;> omega) | (simp only [go_sem]; done) | (push_cast; omega))
        | (with_reducible (first | refine Ren.slE _ _ _ ?_ ?_ | refine RenE.eqE ?_ ?_)); (focus (first | rfl | omega | (simp <;> omega) | (simp only [go_sem]; done) | (push_cast; omega))); (focus (first | assumption | (simp only [go_sem] <;> assumption) | (simp only [go_sem, *]; done) | (simp [go_sem]; done)))
        | (with_reducible refine RenL.puL ?_) <;> (first | assumption | (simp only [go_sem] <;> assumption) | (simp only [go_sem, *]; done) | (simp [go_sem]; done))
        | (with_reducible refine RenL.eqL ?_ ?_); (focus (first | rfl | omega | (simp <;> omega) | (simp only [go_sem]; done) | (push_cast; omega))); (focus (first | assumption | (simp only [go_sem] <;> assumption) | (simp only [go_sem, *]; done) | (simp [go_sem]; done)))))
    (hi : renInj (renOf ρl) (keysOf l') = true := by rfl) (hl : gh.lim ≤ nx' := by exact Nat.le_of_ble_eq_true rfl) : Weak ⟨tm, h, nx, gh⟩ ⟨tm', hpOf (fun _ => none) l', nx', gh⟩ := Weak.rows ρl hl hlow ht hh hi

def lnB (bs : List Box) (j : Nat) : Nat := (bs.getD j default).length
def lnC (cs : List Bill) (j : Nat) : Nat := (cs.getD j default).2.length
def ctC (cs : List Bill) (j : Nat) : Int := (cs.getD j default).1
def rowB (bs : List Box) (i j : Nat) : List (List V) := if j < i then (bs.getD j default).map encS else []
def rowC (cs : List Bill) (i j : Nat) : List (List V) := if j < i then (cs.getD j default).2.map encS else []
theorem rowB_zero (bs : List Box) (j : Nat) : rowB bs 0 j = [] := rfl
theorem rowC_zero (cs : List Bill) (j : Nat) : rowC cs 0 j = [] := rfl
theorem rowB_ne {bs : List Box} {i j : Nat} (h : j ≠ i) : rowB bs (i + 1) j = rowB bs i j := by
  unfold rowB
  by_cases hj : j < i
  · rw [if_pos hj, if_pos (by omega)]
  · rw [if_neg hj, if_neg (by omega)]
theorem rowB_eq {bs : List Box} {i : Nat} : rowB bs (i + 1) i = (bs.getD i default).map encS := by rw [rowB, if_pos (by omega)]
theorem rowC_ne {cs : List Bill} {i j : Nat} (h : j ≠ i) : rowC cs (i + 1) j = rowC cs i j := by
  unfold rowC
  by_cases hj : j < i
  · rw [if_pos hj, if_pos (by omega)]
  · rw [if_neg hj, if_neg (by omega)]
theorem rowC_eq {cs : List Bill} {i : Nat} : rowC cs (i + 1) i = (cs.getD i default).2.map encS := by rw [rowC, if_pos (by omega)]
@[go_sem] theorem rowB_pu (bs : List Box) (i j : Nat) : PuE (rowB bs i j) = True := by
  unfold rowB; split
  · first | assumption | (simp only [go_sem] <;> assumption) | (simp only [go_sem, *]; done) | (simp [go_sem]; done)
  · first | assumption | (simp only [go_sem] <;> assumption) | (simp only [go_sem, *]; done) | (simp [go_sem]; done)
@[go_sem] theorem rowC_pu (cs : List Bill) (i j : Nat) : PuE (rowC cs i j) = True := by
  unfold rowC; split
  · first | assumption | (simp only [go_sem] <;> assumption) | (simp only [go_sem, *]; done) | (simp [go_sem]; done)
  · first | assumption | (simp only [go_sem] <;> assumption) | (simp only [go_sem, *]; done) | (simp [go_sem]; done)
theorem famE_zero (F : Nat) (ln : Nat → Nat) : famE F 0 ln = [] := rfl
theorem famC_zero (F : Nat) (ct : Nat → Int) (ln : Nat → Nat) : famC F 0 ct ln = [] := rfl

/-- The rows that own leaves. -/
def ownRows (bs : List Box) (cs : List Bill) : List (Nat × Option Blk) := [(0, some ⟨2, [loadC bs cs], 25, .wr⟩), (64, some ⟨2, [[nilV, nilV]], 25, .wr⟩), (192, some ⟨2, [loadC bs cs], 25, .wr⟩), (256, some ⟨2, [[.os 193 1 bs.length false, .os 194 2 cs.length false]], 25, .wr⟩), (384, some ⟨2, [[.os 193 1 bs.length false, .os 194 2 cs.length false]], 25, .wr⟩), (193, some ⟨1, famE 200 bs.length (lnB bs), 67, .wr⟩), (194, some ⟨2, famC 208 cs.length (ctC cs) (lnC cs), 64, .wr⟩), (200, some ⟨2, rowB bs bs.length 0, 60, .wr⟩), (201, some ⟨2, rowB bs bs.length 1, 60, .wr⟩), (202, some ⟨2, rowB bs bs.length 2, 60, .wr⟩), (203, some ⟨2, rowB bs bs.length 3, 60, .wr⟩), (204, some ⟨2, rowB bs bs.length 4, 60, .wr⟩), (205, some ⟨2, rowB bs bs.length 5, 60, .wr⟩), (206, some ⟨2, rowB bs bs.length 6, 60, .wr⟩), (207, some ⟨2, rowB bs bs.length 7, 60, .wr⟩), (208, some ⟨2, rowC cs cs.length 0, 60, .wr⟩), (209, some ⟨2, rowC cs cs.length 1, 60, .wr⟩), (210, some ⟨2, rowC cs cs.length 2, 60, .wr⟩)]

theorem own_H (bs : List Box) (cs : List Bill) (hz : SizeOk bs cs) (h8 : bs.length ≤ 8) (h3 : cs.length ≤ 3) :
    CallH Tryd.prog 38 [encLoad bs cs] (hpOf (fun _ => none) [(0, some ⟨2, [loadC bs cs], 25, .wr⟩), (64, some ⟨2, [[nilV, nilV]], 25, .wr⟩)]) 192 (fun r h' nx' => r = .agg [.os 193 1 bs.length false, .os 194 2 cs.length false] ∧ h' = hpOf (fun _ => none) (ownRows bs cs) ∧ nx' = 1408) := by
  obtain ⟨hnb, hnc, hlb, hlc⟩ := hz
  refine callH_enter Tryd.func38 rfl Tryd.results38 Tryd.ntmps38 rfl (by simp (maxSteps := 1000000) -implicitDefEqProofs (disch := omega) only [go_sem]; rfl) fun base => ?_
  rw [hpOf_app]
  simp only [List.cons_append, List.nil_append]
  repeat' (first
    | (with_reducible apply Req_intro); focus (first | omega | assumption | (simp; done))
    | with_reducible (first | apply Req_intro | refine nilT ?_ fun hn => ?_ | apply wk_draw Tryd_mixed | refine drawEnd (by kernel_rfl) ?_)
    | (with_reducible (first | apply condA_if | apply stepDG_ifN | apply stepDG_if | apply stepG_ifN | apply stepG_if)) <;> intro hb <;> (have hif := hb) <;> (try simp only [bo] at hif) <;> (try simp -implicitDefEqProofs (disch := omega) only [go_sem, hb]) <;> clear hb
    | simp (maxSteps := 1000000) -implicitDefEqProofs (disch := omega) only [go_sem])
  refine loop_rows (α := Nat) [4, 7, 8, 9, 10, 11, 12, 13, 14, 15, 16, 17, 18, 19, 20, 21, 22, 23, 24, 25, 26, 27] (fun i => [(4, .lit (.int .i64 i))]) (fun i => [(0, some ⟨2, [loadC bs cs], 25, .wr⟩), (64, some ⟨2, [[nilV, nilV]], 25, .wr⟩), (192, some ⟨2, [loadC bs cs], 25, .wr⟩), (256, some ⟨2, [[nilV, nilV]], 25, .wr⟩), (384, some ⟨2, [[.os 193 1 i false, nilV]], 25, .wr⟩), (193, some ⟨1, famE 200 i (lnB bs), 67, .wr⟩), (200, some ⟨2, rowB bs i 0, 60, .wr⟩), (201, some ⟨2, rowB bs i 1, 60, .wr⟩), (202, some ⟨2, rowB bs i 2, 60, .wr⟩), (203, some ⟨2, rowB bs i 3, 60, .wr⟩), (204, some ⟨2, rowB bs i 4, 60, .wr⟩), (205, some ⟨2, rowB bs i 5, 60, .wr⟩), (206, some ⟨2, rowB bs i 6, 60, .wr⟩), (207, some ⟨2, rowB bs i 7, 60, .wr⟩)]) (fun i => i ≤ bs.length) (fun i => bs.length - i) 0 (fun x => by simp (maxSteps := 1000000) -implicitDefEqProofs (disch := omega) only [go_sem]; rfl) ?_ ?_ fun x hx => ?_
  · simp only [famE_zero, rowB_zero]
    exact weak_do3 [(193, 1000000), (200, 1000001), (201, 1000002), (202, 1000003), (203, 1000004), (204, 1000005), (205, 1000006), (206, 1000007), (207, 1000008)]
  · exact Nat.zero_le _
  by_cases hlt : x < bs.length
  · have hl := hlb _ (getD_mem hlt)
    repeat' (first
      | (with_reducible apply Req_intro); focus (first | omega | assumption | (simp; done))
      | with_reducible (first | apply Req_intro | refine nilT ?_ fun hn => ?_ | apply wk_draw Tryd_mixed | refine drawEnd (by kernel_rfl) ?_)
      | (with_reducible (first | apply condA_if | apply stepDG_ifN | apply stepDG_if | apply stepG_ifN | apply stepG_if)) <;> intro hb <;> (have hif := hb) <;> (try simp only [bo] at hif) <;> (try simp -implicitDefEqProofs (disch := omega) only [go_sem, hb]) <;> clear hb
      | simp (maxSteps := 1000000) -implicitDefEqProofs (disch := omega) only [go_sem])
    all_goals first | exact absurd trivial ‹¬True› | (exfalso; omega) | omega | skip
    have hx8 : x < 8 := by omega
    clear hx hif
    rcases Nat.eq_or_lt_of_le (show 0 ≤ x by omega) with he | he
    · subst he
      with_reducible refine nxt_w (0 + 1) ?_ ?_
      · (try dsimp only)
        skip
        exact weak_do3 [(193, 1664), (200, 1472)]
      try dsimp only
      omega
    rcases Nat.eq_or_lt_of_le (show 1 ≤ x by omega) with he | he
    · subst he
      with_reducible refine nxt_w (1 + 1) ?_ ?_
      · (try dsimp only)
        skip
        exact weak_do3 [(193, 1664), (201, 1472)]
      try dsimp only
      omega
    rcases Nat.eq_or_lt_of_le (show 2 ≤ x by omega) with he | he
    · subst he
      with_reducible refine nxt_w (2 + 1) ?_ ?_
      · (try dsimp only)
        skip
        exact weak_do3 [(193, 1664), (202, 1472)]
      try dsimp only
      omega
    rcases Nat.eq_or_lt_of_le (show 3 ≤ x by omega) with he | he
    · subst he
      with_reducible refine nxt_w (3 + 1) ?_ ?_
      · (try dsimp only)
        skip
        exact weak_do3 [(193, 1664), (203, 1472)]
      try dsimp only
      omega
    rcases Nat.eq_or_lt_of_le (show 4 ≤ x by omega) with he | he
    · subst he
      with_reducible refine nxt_w (4 + 1) ?_ ?_
      · (try dsimp only)
        skip
        exact weak_do3 [(193, 1664), (204, 1472)]
      try dsimp only
      omega
    rcases Nat.eq_or_lt_of_le (show 5 ≤ x by omega) with he | he
    · subst he
      with_reducible refine nxt_w (5 + 1) ?_ ?_
      · (try dsimp only)
        skip
        exact weak_do3 [(193, 1664), (205, 1472)]
      try dsimp only
      omega
    rcases Nat.eq_or_lt_of_le (show 6 ≤ x by omega) with he | he
    · subst he
      with_reducible refine nxt_w (6 + 1) ?_ ?_
      · (try dsimp only)
        skip
        exact weak_do3 [(193, 1664), (206, 1472)]
      try dsimp only
      omega
    rcases Nat.eq_or_lt_of_le (show 7 ≤ x by omega) with he | he
    · subst he
      with_reducible refine nxt_w (7 + 1) ?_ ?_
      · (try dsimp only)
        skip
        exact weak_do3 [(193, 1664), (207, 1472)]
      try dsimp only
      omega
    omega
  · obtain rfl : x = bs.length := by omega
    repeat' (first
      | (with_reducible apply Req_intro); focus (first | omega | assumption | (simp; done))
      | with_reducible (first | apply Req_intro | refine nilT ?_ fun hn => ?_ | apply wk_draw Tryd_mixed | refine drawEnd (by kernel_rfl) ?_)
      | (with_reducible (first | apply condA_if | apply stepDG_ifN | apply stepDG_if | apply stepG_ifN | apply stepG_if)) <;> intro hb <;> (have hif := hb) <;> (try simp only [bo] at hif) <;> (try simp -implicitDefEqProofs (disch := omega) only [go_sem, hb]) <;> clear hb
      | simp (maxSteps := 1000000) -implicitDefEqProofs (disch := omega) only [go_sem])
    all_goals first | exact absurd trivial ‹¬True› | (exfalso; omega) | omega | skip
    refine loop_rows (α := Nat) [5, 28, 29, 30, 31, 32, 33, 34, 35, 36, 37, 38, 39, 40, 41, 42, 43, 44, 45, 46, 47, 48, 49, 50, 51, 52, 53, 54] (fun i => [(5, .lit (.int .i64 i))]) (fun i => [(0, some ⟨2, [loadC bs cs], 25, .wr⟩), (64, some ⟨2, [[nilV, nilV]], 25, .wr⟩), (192, some ⟨2, [loadC bs cs], 25, .wr⟩), (256, some ⟨2, [[nilV, nilV]], 25, .wr⟩), (384, some ⟨2, [[.os 193 1 bs.length false, .os 194 2 i false]], 25, .wr⟩), (193, some ⟨1, famE 200 bs.length (lnB bs), 67, .wr⟩), (194, some ⟨2, famC 208 i (ctC cs) (lnC cs), 64, .wr⟩), (200, some ⟨2, rowB bs bs.length 0, 60, .wr⟩), (201, some ⟨2, rowB bs bs.length 1, 60, .wr⟩), (202, some ⟨2, rowB bs bs.length 2, 60, .wr⟩), (203, some ⟨2, rowB bs bs.length 3, 60, .wr⟩), (204, some ⟨2, rowB bs bs.length 4, 60, .wr⟩), (205, some ⟨2, rowB bs bs.length 5, 60, .wr⟩), (206, some ⟨2, rowB bs bs.length 6, 60, .wr⟩), (207, some ⟨2, rowB bs bs.length 7, 60, .wr⟩), (208, some ⟨2, rowC cs i 0, 60, .wr⟩), (209, some ⟨2, rowC cs i 1, 60, .wr⟩), (210, some ⟨2, rowC cs i 2, 60, .wr⟩)]) (fun i => i ≤ cs.length) (fun i => cs.length - i) 0 (fun x => by simp (maxSteps := 1000000) -implicitDefEqProofs (disch := omega) only [go_sem]; rfl) ?_ ?_ fun x hx => ?_
    · simp only [famC_zero, rowC_zero]
      exact weak_do3 [(194, 1000000), (208, 1000001), (209, 1000002), (210, 1000003)]
    · exact Nat.zero_le _
    by_cases hlt : x < cs.length
    · have hl := hlc _ (getD_mem hlt)
      repeat' (first
        | (with_reducible apply Req_intro); focus (first | omega | assumption | (simp; done))
        | with_reducible (first | apply Req_intro | refine nilT ?_ fun hn => ?_ | apply wk_draw Tryd_mixed | refine drawEnd (by kernel_rfl) ?_)
        | (with_reducible (first | apply condA_if | apply stepDG_ifN | apply stepDG_if | apply stepG_ifN | apply stepG_if)) <;> intro hb <;> (have hif := hb) <;> (try simp only [bo] at hif) <;> (try simp -implicitDefEqProofs (disch := omega) only [go_sem, hb]) <;> clear hb
        | simp (maxSteps := 1000000) -implicitDefEqProofs (disch := omega) only [go_sem])
      all_goals first | exact absurd trivial ‹¬True› | (exfalso; omega) | omega | skip
      have hx8 : x < 3 := by omega
      clear hx hif
      rcases Nat.eq_or_lt_of_le (show 0 ≤ x by omega) with he | he
      · subst he
        with_reducible refine nxt_w (0 + 1) ?_ ?_
        · (try dsimp only)
          skip
          exact weak_do3 [(194, 2432), (208, 2240)]
        try dsimp only
        omega
      rcases Nat.eq_or_lt_of_le (show 1 ≤ x by omega) with he | he
      · subst he
        with_reducible refine nxt_w (1 + 1) ?_ ?_
        · (try dsimp only)
          skip
          exact weak_do3 [(194, 2432), (209, 2240)]
        try dsimp only
        omega
      rcases Nat.eq_or_lt_of_le (show 2 ≤ x by omega) with he | he
      · subst he
        with_reducible refine nxt_w (2 + 1) ?_ ?_
        · (try dsimp only)
          skip
          exact weak_do3 [(194, 2432), (210, 2240)]
        try dsimp only
        omega
      omega
    · obtain rfl : x = cs.length := by omega
      repeat' (first
        | (with_reducible apply Req_intro); focus (first | omega | assumption | (simp; done))
        | with_reducible (first | apply Req_intro | refine nilT ?_ fun hn => ?_ | apply wk_draw Tryd_mixed | refine drawEnd (by kernel_rfl) ?_)
        | (with_reducible (first | apply condA_if | apply stepDG_ifN | apply stepDG_if | apply stepG_ifN | apply stepG_if)) <;> intro hb <;> (have hif := hb) <;> (try simp only [bo] at hif) <;> (try simp -implicitDefEqProofs (disch := omega) only [go_sem, hb]) <;> clear hb
        | simp (maxSteps := 1000000) -implicitDefEqProofs (disch := omega) only [go_sem])
      all_goals first | exact absurd trivial ‹¬True› | (exfalso; omega) | omega | skip
      refine ret_do ?_
      exact ⟨rfl, rfl, rfl⟩
end Go.Aw
end
section
set_option linter.unusedVariables false
set_option linter.unusedSimpArgs false
set_option maxRecDepth 20000
set_option maxHeartbeats 4000000
/-! The law's own, from nothing: a copy whose rows may be written. -/
namespace Go.Aw
open Go.RowKit Go.Proofs

/-- The rows that own leaves. -/
def ownRowsF (bs : List Box) (cs : List Bill) : List (Nat × Option Blk) := [(0, some ⟨2, [loadC bs cs], 25, .wr⟩), (64, some ⟨2, [[.os 1 1 bs.length false, .os 2 2 cs.length false]], 25, .wr⟩), (192, some ⟨2, [[.os 1 1 bs.length false, .os 2 2 cs.length false]], 25, .wr⟩), (1, some ⟨1, famE 8 bs.length (lnB bs), 67, .wr⟩), (2, some ⟨2, famC 16 cs.length (ctC cs) (lnC cs), 64, .wr⟩), (8, some ⟨2, rowB bs bs.length 0, 60, .wr⟩), (9, some ⟨2, rowB bs bs.length 1, 60, .wr⟩), (10, some ⟨2, rowB bs bs.length 2, 60, .wr⟩), (11, some ⟨2, rowB bs bs.length 3, 60, .wr⟩), (12, some ⟨2, rowB bs bs.length 4, 60, .wr⟩), (13, some ⟨2, rowB bs bs.length 5, 60, .wr⟩), (14, some ⟨2, rowB bs bs.length 6, 60, .wr⟩), (15, some ⟨2, rowB bs bs.length 7, 60, .wr⟩), (16, some ⟨2, rowC cs cs.length 0, 60, .wr⟩), (17, some ⟨2, rowC cs cs.length 1, 60, .wr⟩), (18, some ⟨2, rowC cs cs.length 2, 60, .wr⟩)]

theorem own_F (bs : List Box) (cs : List Bill) (hz : SizeOk bs cs) (h8 : bs.length ≤ 8) (h3 : cs.length ≤ 3) :
    CallH Tryd.prog 38 [encLoad bs cs] (fun _ => none) 0 (fun r h' nx' => r = .agg [.os 1 1 bs.length false, .os 2 2 cs.length false] ∧ h' = hpOf (fun _ => none) (ownRowsF bs cs) ∧ nx' = 1216) := by
  obtain ⟨hnb, hnc, hlb, hlc⟩ := hz
  refine callH_enter Tryd.func38 rfl Tryd.results38 Tryd.ntmps38 rfl (by simp (maxSteps := 1000000) -implicitDefEqProofs (disch := omega) only [go_sem]; rfl) fun base => ?_
  repeat' (first
    | (with_reducible apply Req_intro); focus (first | omega | assumption | (simp; done))
    | with_reducible (first | apply Req_intro | refine nilT ?_ fun hn => ?_ | apply wk_draw Tryd_mixed | refine drawEnd (by kernel_rfl) ?_)
    | (with_reducible (first | apply condA_if | apply stepDG_ifN | apply stepDG_if | apply stepG_ifN | apply stepG_if)) <;> intro hb <;> (have hif := hb) <;> (try simp only [bo] at hif) <;> (try simp -implicitDefEqProofs (disch := omega) only [go_sem, hb]) <;> clear hb
    | simp (maxSteps := 1000000) -implicitDefEqProofs (disch := omega) only [go_sem])
  refine loop_rows (α := Nat) [4, 7, 8, 9, 10, 11, 12, 13, 14, 15, 16, 17, 18, 19, 20, 21, 22, 23, 24, 25, 26, 27] (fun i => [(4, .lit (.int .i64 i))]) (fun i => [(0, some ⟨2, [loadC bs cs], 25, .wr⟩), (64, some ⟨2, [[nilV, nilV]], 25, .wr⟩), (192, some ⟨2, [[.os 1 1 i false, nilV]], 25, .wr⟩), (1, some ⟨1, famE 8 i (lnB bs), 67, .wr⟩), (8, some ⟨2, rowB bs i 0, 60, .wr⟩), (9, some ⟨2, rowB bs i 1, 60, .wr⟩), (10, some ⟨2, rowB bs i 2, 60, .wr⟩), (11, some ⟨2, rowB bs i 3, 60, .wr⟩), (12, some ⟨2, rowB bs i 4, 60, .wr⟩), (13, some ⟨2, rowB bs i 5, 60, .wr⟩), (14, some ⟨2, rowB bs i 6, 60, .wr⟩), (15, some ⟨2, rowB bs i 7, 60, .wr⟩)]) (fun i => i ≤ bs.length) (fun i => bs.length - i) 0 (fun x => by simp (maxSteps := 1000000) -implicitDefEqProofs (disch := omega) only [go_sem]; rfl) ?_ ?_ fun x hx => ?_
  · simp only [famE_zero, rowB_zero]
    exact weak_do3 [(1, 1000000), (8, 1000001), (9, 1000002), (10, 1000003), (11, 1000004), (12, 1000005), (13, 1000006), (14, 1000007), (15, 1000008)]
  · exact Nat.zero_le _
  by_cases hlt : x < bs.length
  · have hl := hlb _ (getD_mem hlt)
    repeat' (first
      | (with_reducible apply Req_intro); focus (first | omega | assumption | (simp; done))
      | with_reducible (first | apply Req_intro | refine nilT ?_ fun hn => ?_ | apply wk_draw Tryd_mixed | refine drawEnd (by kernel_rfl) ?_)
      | (with_reducible (first | apply condA_if | apply stepDG_ifN | apply stepDG_if | apply stepG_ifN | apply stepG_if)) <;> intro hb <;> (have hif := hb) <;> (try simp only [bo] at hif) <;> (try simp -implicitDefEqProofs (disch := omega) only [go_sem, hb]) <;> clear hb
      | simp (maxSteps := 1000000) -implicitDefEqProofs (disch := omega) only [go_sem])
    all_goals first | exact absurd trivial ‹¬True› | (exfalso; omega) | omega | skip
    have hx8 : x < 8 := by omega
    clear hx hif
    rcases Nat.eq_or_lt_of_le (show 0 ≤ x by omega) with he | he
    · subst he
      with_reducible refine nxt_w (0 + 1) ?_ ?_
      · (try dsimp only)
        skip
        exact weak_do3 [(1, 1472), (8, 1280)]
      try dsimp only
      omega
    rcases Nat.eq_or_lt_of_le (show 1 ≤ x by omega) with he | he
    · subst he
      with_reducible refine nxt_w (1 + 1) ?_ ?_
      · (try dsimp only)
        skip
        exact weak_do3 [(1, 1472), (9, 1280)]
      try dsimp only
      omega
    rcases Nat.eq_or_lt_of_le (show 2 ≤ x by omega) with he | he
    · subst he
      with_reducible refine nxt_w (2 + 1) ?_ ?_
      · (try dsimp only)
        skip
        exact weak_do3 [(1, 1472), (10, 1280)]
      try dsimp only
      omega
    rcases Nat.eq_or_lt_of_le (show 3 ≤ x by omega) with he | he
    · subst he
      with_reducible refine nxt_w (3 + 1) ?_ ?_
      · (try dsimp only)
        skip
        exact weak_do3 [(1, 1472), (11, 1280)]
      try dsimp only
      omega
    rcases Nat.eq_or_lt_of_le (show 4 ≤ x by omega) with he | he
    · subst he
      with_reducible refine nxt_w (4 + 1) ?_ ?_
      · (try dsimp only)
        skip
        exact weak_do3 [(1, 1472), (12, 1280)]
      try dsimp only
      omega
    rcases Nat.eq_or_lt_of_le (show 5 ≤ x by omega) with he | he
    · subst he
      with_reducible refine nxt_w (5 + 1) ?_ ?_
      · (try dsimp only)
        skip
        exact weak_do3 [(1, 1472), (13, 1280)]
      try dsimp only
      omega
    rcases Nat.eq_or_lt_of_le (show 6 ≤ x by omega) with he | he
    · subst he
      with_reducible refine nxt_w (6 + 1) ?_ ?_
      · (try dsimp only)
        skip
        exact weak_do3 [(1, 1472), (14, 1280)]
      try dsimp only
      omega
    rcases Nat.eq_or_lt_of_le (show 7 ≤ x by omega) with he | he
    · subst he
      with_reducible refine nxt_w (7 + 1) ?_ ?_
      · (try dsimp only)
        skip
        exact weak_do3 [(1, 1472), (15, 1280)]
      try dsimp only
      omega
    omega
  · obtain rfl : x = bs.length := by omega
    repeat' (first
      | (with_reducible apply Req_intro); focus (first | omega | assumption | (simp; done))
      | with_reducible (first | apply Req_intro | refine nilT ?_ fun hn => ?_ | apply wk_draw Tryd_mixed | refine drawEnd (by kernel_rfl) ?_)
      | (with_reducible (first | apply condA_if | apply stepDG_ifN | apply stepDG_if | apply stepG_ifN | apply stepG_if)) <;> intro hb <;> (have hif := hb) <;> (try simp only [bo] at hif) <;> (try simp -implicitDefEqProofs (disch := omega) only [go_sem, hb]) <;> clear hb
      | simp (maxSteps := 1000000) -implicitDefEqProofs (disch := omega) only [go_sem])
    all_goals first | exact absurd trivial ‹¬True› | (exfalso; omega) | omega | skip
    refine loop_rows (α := Nat) [5, 28, 29, 30, 31, 32, 33, 34, 35, 36, 37, 38, 39, 40, 41, 42, 43, 44, 45, 46, 47, 48, 49, 50, 51, 52, 53, 54] (fun i => [(5, .lit (.int .i64 i))]) (fun i => [(0, some ⟨2, [loadC bs cs], 25, .wr⟩), (64, some ⟨2, [[nilV, nilV]], 25, .wr⟩), (192, some ⟨2, [[.os 1 1 bs.length false, .os 2 2 i false]], 25, .wr⟩), (1, some ⟨1, famE 8 bs.length (lnB bs), 67, .wr⟩), (2, some ⟨2, famC 16 i (ctC cs) (lnC cs), 64, .wr⟩), (8, some ⟨2, rowB bs bs.length 0, 60, .wr⟩), (9, some ⟨2, rowB bs bs.length 1, 60, .wr⟩), (10, some ⟨2, rowB bs bs.length 2, 60, .wr⟩), (11, some ⟨2, rowB bs bs.length 3, 60, .wr⟩), (12, some ⟨2, rowB bs bs.length 4, 60, .wr⟩), (13, some ⟨2, rowB bs bs.length 5, 60, .wr⟩), (14, some ⟨2, rowB bs bs.length 6, 60, .wr⟩), (15, some ⟨2, rowB bs bs.length 7, 60, .wr⟩), (16, some ⟨2, rowC cs i 0, 60, .wr⟩), (17, some ⟨2, rowC cs i 1, 60, .wr⟩), (18, some ⟨2, rowC cs i 2, 60, .wr⟩)]) (fun i => i ≤ cs.length) (fun i => cs.length - i) 0 (fun x => by simp (maxSteps := 1000000) -implicitDefEqProofs (disch := omega) only [go_sem]; rfl) ?_ ?_ fun x hx => ?_
    · simp only [famC_zero, rowC_zero]
      exact weak_do3 [(2, 1000000), (16, 1000001), (17, 1000002), (18, 1000003)]
    · exact Nat.zero_le _
    by_cases hlt : x < cs.length
    · have hl := hlc _ (getD_mem hlt)
      repeat' (first
        | (with_reducible apply Req_intro); focus (first | omega | assumption | (simp; done))
        | with_reducible (first | apply Req_intro | refine nilT ?_ fun hn => ?_ | apply wk_draw Tryd_mixed | refine drawEnd (by kernel_rfl) ?_)
        | (with_reducible (first | apply condA_if | apply stepDG_ifN | apply stepDG_if | apply stepG_ifN | apply stepG_if)) <;> intro hb <;> (have hif := hb) <;> (try simp only [bo] at hif) <;> (try simp -implicitDefEqProofs (disch := omega) only [go_sem, hb]) <;> clear hb
        | simp (maxSteps := 1000000) -implicitDefEqProofs (disch := omega) only [go_sem])
      all_goals first | exact absurd trivial ‹¬True› | (exfalso; omega) | omega | skip
      have hx8 : x < 3 := by omega
      clear hx hif
      rcases Nat.eq_or_lt_of_le (show 0 ≤ x by omega) with he | he
      · subst he
        with_reducible refine nxt_w (0 + 1) ?_ ?_
        · (try dsimp only)
          skip
          exact weak_do3 [(2, 2240), (16, 2048)]
        try dsimp only
        omega
      rcases Nat.eq_or_lt_of_le (show 1 ≤ x by omega) with he | he
      · subst he
        with_reducible refine nxt_w (1 + 1) ?_ ?_
        · (try dsimp only)
          skip
          exact weak_do3 [(2, 2240), (17, 2048)]
        try dsimp only
        omega
      rcases Nat.eq_or_lt_of_le (show 2 ≤ x by omega) with he | he
      · subst he
        with_reducible refine nxt_w (2 + 1) ?_ ?_
        · (try dsimp only)
          skip
          exact weak_do3 [(2, 2240), (18, 2048)]
        try dsimp only
        omega
      omega
    · obtain rfl : x = cs.length := by omega
      repeat' (first
        | (with_reducible apply Req_intro); focus (first | omega | assumption | (simp; done))
        | with_reducible (first | apply Req_intro | refine nilT ?_ fun hn => ?_ | apply wk_draw Tryd_mixed | refine drawEnd (by kernel_rfl) ?_)
        | (with_reducible (first | apply condA_if | apply stepDG_ifN | apply stepDG_if | apply stepG_ifN | apply stepG_if)) <;> intro hb <;> (have hif := hb) <;> (try simp only [bo] at hif) <;> (try simp -implicitDefEqProofs (disch := omega) only [go_sem, hb]) <;> clear hb
        | simp (maxSteps := 1000000) -implicitDefEqProofs (disch := omega) only [go_sem])
      all_goals first | exact absurd trivial ‹¬True› | (exfalso; omega) | omega | skip
      refine ret_do ?_
      exact ⟨rfl, rfl, rfl⟩
/-- The rows that own leaves, at a caller's. -/
def ownRowsN (n : Nat) (bs : List Box) (cs : List Bill) : List (Nat × Option Blk) := [(n + 1, some ⟨1, famE (n + 8) bs.length (lnB bs), 67, .wr⟩), (n + 2, some ⟨2, famC (n + 16) cs.length (ctC cs) (lnC cs), 64, .wr⟩), (n + 8, some ⟨2, rowB bs bs.length 0, 60, .wr⟩), (n + 9, some ⟨2, rowB bs bs.length 1, 60, .wr⟩), (n + 10, some ⟨2, rowB bs bs.length 2, 60, .wr⟩), (n + 11, some ⟨2, rowB bs bs.length 3, 60, .wr⟩), (n + 12, some ⟨2, rowB bs bs.length 4, 60, .wr⟩), (n + 13, some ⟨2, rowB bs bs.length 5, 60, .wr⟩), (n + 14, some ⟨2, rowB bs bs.length 6, 60, .wr⟩), (n + 15, some ⟨2, rowB bs bs.length 7, 60, .wr⟩), (n + 16, some ⟨2, rowC cs cs.length 0, 60, .wr⟩), (n + 17, some ⟨2, rowC cs cs.length 1, 60, .wr⟩), (n + 18, some ⟨2, rowC cs cs.length 2, 60, .wr⟩)]

theorem rhoF_add (n k : Nat) : rhoF n (n + k) = k := by unfold rhoF; rw [if_neg (by omega)]; omega
theorem ownRowsN_ren (n : Nat) (bs : List Box) (cs : List Bill) (h8 : bs.length ≤ 8) (h3 : cs.length ≤ 3) : RowsRen (rhoF n) (n + 1216) 1216 (hpOf (fun _ => none) (ownRowsF bs cs)) (ownRowsN n bs cs) := by
  have pe : ∀ {es : List (List V)}, PuE es = True → RenE (rhoF n) (n + 1216) es es := fun h => .pu _ (of_eq_true h)
  refine .row _ _ _ _ _ _ _ (by omega) (by rw [rhoF_add]; rfl) (RenE.famShift h8 fun j hj => ⟨by rw [Nat.add_assoc, rhoF_add], by omega⟩) ?_
  refine .row _ _ _ _ _ _ _ (by omega) (by rw [rhoF_add]; rfl) (RenE.famCtShift h3 fun j hj => ⟨by rw [Nat.add_assoc, rhoF_add], by omega⟩) ?_
  iterate 8 refine .row _ _ _ _ _ _ _ (by omega) (by rw [rhoF_add]; rfl) (pe (rowB_pu ..)) ?_
  iterate 3 refine .row _ _ _ _ _ _ _ (by omega) (by rw [rhoF_add]; rfl) (pe (rowC_pu ..)) ?_
  exact .nil

theorem call_own {first args cap : List V} {dst : Option Tmp} {K : St → Prop} {tm : List V} {l : List (Nat × Option Blk)} {n : Nat} {gh : Gh} (bs : List Box) (cs : List Bill) (hz : SizeOk bs cs) (h8 : bs.length ≤ 8) (h3 : cs.length ≤ 3)
    (hk : K ⟨putT tm dst (.agg [.os (n + 1) 1 bs.length false, .os (n + 2) 2 cs.length false]), hpOf (fun _ => none) (l ++ ownRowsN n bs cs), n + 1216, gh⟩)
    (ha : first ++ args ++ cap = [encLoad bs cs] := by first | (simp only [go_sem]; done) | (simp only [go_sem]; rfl)) : CallA Tryd.prog (.fn (.func 38) first cap) args dst K ⟨tm, hpOf (fun _ => none) l, n, gh⟩ := by
  have hp : PurL true (hpOf (fun _ => none) l) (first ++ args ++ cap) [encLoad bs cs] := by
    rw [ha]
    exact ⟨rfl, fun i d d' h1 h2 => by rw [h1] at h2; cases h2; exact .pu _ (by
      have : PuL [encLoad bs cs] := by first | assumption | (simp only [go_sem] <;> assumption) | (simp only [go_sem, *]; done) | (simp [go_sem]; done)
      exact this _ (List.mem_of_getElem? h1))⟩
  refine callA_shared _ (CallH.fresh (nx := n) (l := l) (own_F bs cs hz h8 h3) hp (by decide) (r' := .agg [.os (n + 1) 1 bs.length false, .os (n + 2) 2 cs.length false]) (Ren.aggL _ _ (.cons _ _ _ _ (Ren.osN _ _ rfl (rhoF_add _ _) (by omega) (fun h => h)) (.cons _ _ _ _ (Ren.osN _ _ rfl (rhoF_add _ _) (by omega) (fun h => h)) .nil))) (ownRowsN_ren n bs cs h8 h3) ?_) ⟨_, Tryd.func38, by rfl, by decide⟩ fun r h' nx' hp => ?_
  · simp [ownRowsN]
  · obtain ⟨rfl, rfl, rfl⟩ := hp
    exact hk
/-- What own left, frozen, as a load that is read. -/
theorem own_pur {h : Hp} {n nb nk : Nat} {bs : List Box} {cs : List Bill} {ln lc : Nat → Nat} {ct : Nat → Int} (hbn : bs.length = nb) (hcn : cs.length = nk) (hB : h (n + 1) = some ⟨1, famE (n + 8) nb ln, 67, .fz⟩) (hC : h (n + 2) = some ⟨2, famC (n + 16) nk ct lc, 64, .fz⟩)
    (hl : ∀ j, j < nb → ln j = (bs.getD j default).length) (hct : ∀ j, j < nk → ct j = (cs.getD j default).1) (hlc : ∀ j, j < nk → lc j = (cs.getD j default).2.length)
    (hh : ∀ j, j < nb → h (n + 8 + j) = some ⟨2, (bs.getD j default).map encS, 60, .fz⟩) (hhc : ∀ j, j < nk → h (n + 16 + j) = some ⟨2, (cs.getD j default).2.map encS, 60, .fz⟩) : PurI true h [.agg [.os (n + 1) 1 nb false, .os (n + 2) 2 nk false]] [encLoad bs cs] := by
  refine PurI.cons _ _ _ _ (Pur.aggI (.cons _ _ _ _ (Pur.osR hB rfl (by simp only [famE_len]; exact Nat.le_refl _) (fun h => h) (PurE.fam hbn hl hh)) (.cons _ _ _ _ (Pur.osR hC rfl (by simp only [famC_len]; exact Nat.le_refl _) (fun h => h) (PurE.famCt hcn hct hlc hhc)) .nil))) .nil
end Go.Aw
end
