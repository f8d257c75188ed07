/-
  A part of the proof that a law returns true for every input that the given row speaks of: an own verified walk over the program (namespace Go.Aw), contracts of the functions that the law calls, and the law itself. Conditions: those of the given row, no other.
-/
import Derived.Test.YtofoildhohgngaaDoorPart10
import Derived.Lib.SmallJoins
section
set_option linter.unusedVariables false
set_option linter.unusedSimpArgs false
set_option maxRecDepth 20000
/-! What is made, joined. -/
namespace Go.Aw
open Go.RowKit Go.Proofs

theorem bq_ok' {b0 b1 b2 b3 b4 b5 : Int} (h0 : okU b0) (h1 : okU b1) (h2 : okU b2) (h3 : okU b3) (h4 : okU b4) (h5 : okU b5) (c : Nat) : okU (bq b0 b1 b2 b3 b4 b5 c).1 ∧ okU (bq b0 b1 b2 b3 b4 b5 c).2 := by
  match c with
  | 0 => exact ⟨h0, h1⟩
  | 1 => exact ⟨h2, h3⟩
  | _ + 2 => exact ⟨h4, h5⟩

theorem made_join (bx : List B5) (ca st b0 b1 b2 b3 b4 b5 : Int) (hlen : bx.length ≤ 4611686018427387904) (hbx : ∀ v ∈ bx, v.ok) (hca : okU ca) (hst : okU st) (h0 : okU b0) (h1 : okU b1) (h2 : okU b2) (h3 : okU b3) (h4 : okU b4) (h5 : okU b5) :
    ∃ (bs : List Box) (cs : List Bill) (way : List Int) (held : List (List Int)) (n nc ns : Nat), Ct Tryd.prog 37 [.agg (innC bx ca st b0 b1 b2 b3 b4 b5)] (.tup [encLoad bs cs, .sl 1 (way.map encI) false, .sl 1 (held.map encW) false]) ∧
      SizeOk bs cs ∧ checkR bs cs = 0 ∧ way ∈ allW bs cs ∧ bs.length = n ∧ cs.length = nc ∧ stuffs cs = ns ∧ ns ≤ 2 := by
  obtain ⟨nc, hnc⟩ : ∃ nc : Nat, 1 + ca % 3 = nc := ⟨(1 + ca % 3).toNat, by omega⟩
  obtain ⟨ns, hns⟩ : ∃ ns : Nat, 1 + st % 2 = ns := ⟨(1 + st % 2).toNat, by omega⟩
  obtain ⟨n, hn⟩ : ∃ n, n = min bx.length 8 := ⟨_, rfl⟩
  have hm := made_spec bx ca st b0 b1 b2 b3 b4 b5 hbx hca hst h0 h1 h2 h3 h4 h5 hlen nc ns n hnc hns hn
  rw [madeV_eq] at hm
  have hq := bq_ok' h0 h1 h2 h3 h4 h5
  generalize bq b0 b1 b2 b3 b4 b5 = q at hm hq
  have hnb : n ≤ bx.length := by omega
  have h8 : n ≤ 8 := by omega
  have hc : 1 ≤ nc ∧ nc ≤ 3 := by omega
  have hs : 1 ≤ ns ∧ ns ≤ 2 := by omega
  have hck := made_check (bx := bx) hbx hnb h8 hc hs hq
  have hg := good_of_check hck
  have h6 := hg.st
  refine ⟨_, _, _, _, n, nc, ns, hm, ⟨by rw [mB_len hnb]; omega, by rw [mC_len]; omega, fun b hb => by rw [hg.lb b hb]; omega, fun c hc => by rw [hg.lc c hc]; omega⟩, hck, made_mem (bx := bx) hbx hnb h8 hc hs hq, mB_len hnb, mC_len, mC_stuffs hc.1, hs.2⟩
end Go.Aw
end
section
set_option linter.unusedVariables false
set_option linter.unusedSimpArgs false
set_option maxRecDepth 20000
set_option maxHeartbeats 4000000
/-! The law MixMore, joined. -/
namespace Go.Aw
open Go.RowKit Go.Proofs

theorem made_truth (bx : List B5) (ca st b0 b1 b2 b3 b4 b5 : Int) (hlen : bx.length ≤ 4611686018427387904) (hbx : ∀ v ∈ bx, v.ok) (hca : okU ca) (hst : okU st) (h0 : okU b0) (h1 : okU b1) (h2 : okU b2) (h3 : okU b3) (h4 : okU b4) (h5 : okU b5) :
    ∃ (bs : List Box) (cs : List Bill) (way : List Int) (held : List (List Int)), Ct Tryd.prog 37 [.agg (innC bx ca st b0 b1 b2 b3 b4 b5)] (.tup [encLoad bs cs, .sl 1 (way.map encI) false, .sl 1 (held.map encW) false]) ∧
      checkR bs cs = 0 ∧ way ∈ allW bs cs ∧ stuffs cs ≤ 2 ∧ Truth bs cs way held := by
  obtain ⟨nc, hnc⟩ : ∃ nc : Nat, 1 + ca % 3 = nc := ⟨(1 + ca % 3).toNat, by omega⟩
  obtain ⟨ns, hns⟩ : ∃ ns : Nat, 1 + st % 2 = ns := ⟨(1 + st % 2).toNat, by omega⟩
  obtain ⟨n, hn⟩ : ∃ n, n = min bx.length 8 := ⟨_, rfl⟩
  have hm := made_spec bx ca st b0 b1 b2 b3 b4 b5 hbx hca hst h0 h1 h2 h3 h4 h5 hlen nc ns n hnc hns hn
  rw [madeV_eq] at hm
  have hq := bq_ok' h0 h1 h2 h3 h4 h5
  generalize bq b0 b1 b2 b3 b4 b5 = q at hm hq
  have hnb : n ≤ bx.length := by omega
  have h8 : n ≤ 8 := by omega
  have hc : 1 ≤ nc ∧ nc ≤ 3 := by omega
  have hs : 1 ≤ ns ∧ ns ≤ 2 := by omega
  have hbl : (mB bx ns n).length = n := mB_len hnb
  have hss : stuffs (mC bx nc ns n q) = ns := mC_stuffs hc.1
  refine ⟨_, _, _, _, hm, made_check (bx := bx) hbx hnb h8 hc hs hq, made_mem (bx := bx) hbx hnb h8 hc hs hq, by omega, by rw [hbl]; exact mH_len hnb, fun i hi => ?_, fun i k hi hk => ?_, fun i k hi hk => ?_, fun c k hcc hk => ?_⟩
  · rw [mH_at hnb (by omega), hss]; simp [bHeld]
  · rw [mH_at hnb (by omega), bHeld_at _ (by omega)]
    exact bN_ok (hbx _ (getD_mem (by omega))) k
  · rw [mH_at hnb (by omega), bHeld_at _ (by omega), mB_at hnb (by omega), bBox_at _ (by omega)]
    have := bSpan_in (hbx _ (getD_mem (l := bx) (i := i) (by omega))) k
    omega
  · rw [mC_len] at hcc
    rw [hbl, trueSum_made hnb c (by omega) n (Nat.le_refl _), mC_at hcc]
    simp only
    rw [mHeld_at _ (by omega)]
    have h5 := sumB5_bnd hbx nc ns n hnb c k
    have h3 := hq c
    unfold okU at h3
    have h4 := mSpan_in (S := sumB5 bx nc ns n) (c := c) (k := k) (q := q) h5.1 ⟨h3.1.1, h3.2.1⟩
    omega

theorem more_none (bx : List B5) (ca st b0 b1 b2 b3 b4 b5 v0 v1 v2 : Int) (bs : List Box) (cs : List Bill) (way : List Int) (held : List (List Int))
    (hmade : Ct Tryd.prog 37 [.agg (innC bx ca st b0 b1 b2 b3 b4 b5)] (.tup [encLoad bs cs, .sl 1 (way.map encI) false, .sl 1 (held.map encW) false]))
    (hz : SizeOk bs cs) (h0 : checkR bs cs = 0) (hmem : way ∈ allW bs cs) (hn1 : bs.length = 0) :
    Ct Tryd.prog 12 [.agg (innC bx ca st b0 b1 b2 b3 b4 b5), .agg [u8 v0, u8 v1, u8 v2]] (.lit (.bool true)) := by
  have hg := good_of_check h0
  have hok := allW_ok bs cs
  have hwl : way.length = 0 := by rw [(hok _ hmem).1, hn1]
  have hown := own_spec bs cs hz
  obtain ⟨many, first, hm1, hme, hfe, hml, hW⟩ := Ways_good hg hmem
  have h1w := one_way hg hn1 hmem
  have hfl : first.length = 0 := by rw [hfe, (hok _ (getD_mem (by omega))).1, hn1]
  obtain rfl : many = 1 := by omega
  refine fn_enter Tryd.func12 rfl (by decide) Tryd.results12 Tryd.ntmps12 ?_ rfl (by simp (maxSteps := 1000000) -implicitDefEqProofs (disch := omega) only [go_sem]; rfl) fun base => ?_
  · first | assumption | (simp only [go_sem] <;> assumption) | (simp only [go_sem, *]; done) | (simp [go_sem]; done)
  repeat' (first
    | (with_reducible apply Req_intro); focus (first | omega | assumption | (simp; done))
    | with_reducible (first | apply Req_intro | refine nilT ?_ fun hn => ?_ | apply wk_draw Tryd_mixed | refine drawEnd (by kernel_rfl) ?_)
    | (with_reducible (first | apply condA_if | apply stepDG_ifN | apply stepDG_if | apply stepG_ifN | apply stepG_if)) <;> intro hb <;> (have hif := hb) <;> (try simp only [bo] at hif) <;> (try simp -implicitDefEqProofs (disch := omega) only [go_sem, hb]) <;> clear hb
    | simp (maxSteps := 1000000) -implicitDefEqProofs (disch := omega) only [go_sem])
  refine callp hmade ?_
  try simp (maxSteps := 1000000) -implicitDefEqProofs (disch := omega) only [go_sem]
  repeat' (first
    | (with_reducible apply Req_intro); focus (first | omega | assumption | (simp; done))
    | with_reducible (first | apply Req_intro | refine nilT ?_ fun hn => ?_ | apply wk_draw Tryd_mixed | refine drawEnd (by kernel_rfl) ?_)
    | (with_reducible (first | apply condA_if | apply stepDG_ifN | apply stepDG_if | apply stepG_ifN | apply stepG_if)) <;> intro hb <;> (have hif := hb) <;> (try simp only [bo] at hif) <;> (try simp -implicitDefEqProofs (disch := omega) only [go_sem, hb]) <;> clear hb
    | simp (maxSteps := 1000000) -implicitDefEqProofs (disch := omega) only [go_sem])
  refine callp hown ?_
  try simp (maxSteps := 1000000) -implicitDefEqProofs (disch := omega) only [go_sem]
  repeat' (first
    | (with_reducible apply Req_intro); focus (first | omega | assumption | (simp; done))
    | with_reducible (first | apply Req_intro | refine nilT ?_ fun hn => ?_ | apply wk_draw Tryd_mixed | refine drawEnd (by kernel_rfl) ?_)
    | (with_reducible (first | apply condA_if | apply stepDG_ifN | apply stepDG_if | apply stepG_ifN | apply stepG_if)) <;> intro hb <;> (have hif := hb) <;> (try simp only [bo] at hif) <;> (try simp -implicitDefEqProofs (disch := omega) only [go_sem, hb]) <;> clear hb
    | simp (maxSteps := 1000000) -implicitDefEqProofs (disch := omega) only [go_sem])
  refine callp hW ?_
  try simp (maxSteps := 1000000) -implicitDefEqProofs (disch := omega) only [go_sem]
  repeat' (first
    | (with_reducible apply Req_intro); focus (first | omega | assumption | (simp; done))
    | with_reducible (first | apply Req_intro | refine nilT ?_ fun hn => ?_ | apply wk_draw Tryd_mixed | refine drawEnd (by kernel_rfl) ?_)
    | (with_reducible (first | apply condA_if | apply stepDG_ifN | apply stepDG_if | apply stepG_ifN | apply stepG_if)) <;> intro hb <;> (have hif := hb) <;> (try simp only [bo] at hif) <;> (try simp -implicitDefEqProofs (disch := omega) only [go_sem, hb]) <;> clear hb
    | simp (maxSteps := 1000000) -implicitDefEqProofs (disch := omega) only [go_sem])
  all_goals first | exact absurd trivial ‹¬True› | (exfalso; omega) | omega | skip
  refine callp known_spec ?_
  try simp (maxSteps := 1000000) -implicitDefEqProofs (disch := omega) only [go_sem]
  repeat' (first
    | (with_reducible apply Req_intro); focus (first | omega | assumption | (simp; done))
    | with_reducible (first | apply Req_intro | refine nilT ?_ fun hn => ?_ | apply wk_draw Tryd_mixed | refine drawEnd (by kernel_rfl) ?_)
    | (with_reducible (first | apply condA_if | apply stepDG_ifN | apply stepDG_if | apply stepG_ifN | apply stepG_if)) <;> intro hb <;> (have hif := hb) <;> (try simp only [bo] at hif) <;> (try simp -implicitDefEqProofs (disch := omega) only [go_sem, hb]) <;> clear hb
    | simp (maxSteps := 1000000) -implicitDefEqProofs (disch := omega) only [go_sem])
  refine ret_do ?_
  rfl

theorem MixMore_spec (bx : List B5) (ca st b0 b1 b2 b3 b4 b5 v0 v1 v2 : Int) (hlen : bx.length ≤ 4611686018427387904) (hbx : ∀ v ∈ bx, v.ok) (hca : okU ca) (hst : okU st) (h0 : okU b0) (h1 : okU b1) (h2 : okU b2) (h3 : okU b3) (h4 : okU b4) (h5 : okU b5) (hv0 : okU v0) (hv1 : okU v1) (hv2 : okU v2) :
    Ct Tryd.prog 12 [.agg (innC bx ca st b0 b1 b2 b3 b4 b5), .agg [u8 v0, u8 v1, u8 v2]] (.lit (.bool true)) := by
  obtain ⟨bs, cs, way, held, hm, hck, hmem, hs2, hT⟩ := made_truth bx ca st b0 b1 b2 b3 b4 b5 hlen hbx hca hst h0 h1 h2 h3 h4 h5
  have hz := (good_of_check hck).size
  by_cases hn : bs.length = 0
  · exact more_none bx ca st b0 b1 b2 b3 b4 b5 v0 v1 v2 bs cs way held hm hz hck hmem hn
  · exact more_walk bx ca st b0 b1 b2 b3 b4 b5 v0 v1 v2 hv0 hv1 hv2 bs cs way held hm hz hck hmem hs2 hT (by omega)
end Go.Aw
end
section
set_option linter.unusedVariables false
set_option linter.unusedSimpArgs false
set_option maxRecDepth 100000
/-! Bytes of which a load is made, that are read. -/
namespace Go.Aw
open Go.RowKit Go.ChangeShapes Go.WideShapes Go.Proofs

section
variable {H : Type} {enc : TypeId × Value → H} {w : World}

theorem u8_read {n : Nat} {cs : List Value} {x : DataW H × List MemPlace} (h : DataW.trod enc Tryd.prog w 0 (fun _ => true) true n 5 cs = some x) : ∃ i, cs = [.int .u8 i] ∧ okU i := by
  obtain ⟨i, e, h1, h2⟩ := int_rep Tryd.underlying5 h
  exact ⟨i, e, h1, h2⟩

theorem bytes_read {k : Nat} {t : TypeId} (ht : Tryd.prog.underlying t = some (.array k 5)) (hc : Tryd.prog.cellsOf t = k) {n : Nat} {cs : List Value} {x : DataW H × List MemPlace} (h : DataW.trod enc Tryd.prog w 0 (fun _ => true) true n t cs = some x) :
    cs.length = k ∧ ∀ (i : Nat) (c : Value), cs[i]? = some c → ∃ m, c = .int .u8 m ∧ okU m := by
  obtain ⟨xs, m, rfl, rfl, hl, hlen, hf⟩ := DataW.trod_array ht h
  rw [hc] at hl
  refine ⟨hl, fun i c hi => ?_⟩
  have hik : i < k := by rw [← hl]; exact (List.getElem?_eq_some_iff.1 hi).1
  have h1 := hf i hik
  have hc1 : Tryd.prog.cellsOf 5 = 1 := by kernel_rfl
  obtain ⟨y, hy⟩ : ∃ y, xs[i]? = some y := ⟨xs[i], List.getElem?_eq_getElem (by omega)⟩
  rw [hc1, Nat.mul_one, hy] at h1
  obtain ⟨j, e, h2⟩ := u8_read h1
  have h3 : (cs.drop i).take 1 = [c] := by
    have hlt := (List.getElem?_eq_some_iff.1 hi)
    obtain ⟨hlt, he⟩ := hlt
    rw [List.drop_eq_getElem_cons hlt, he]; rfl
  rw [h3] at e
  cases e
  exact ⟨j, rfl, h2⟩

theorem b5_read (n : Nat) (cs : List Value) (x : DataW H × List MemPlace) (h : DataW.trod enc Tryd.prog w 0 (fun _ => true) true n 118 cs = some x) (hw : ∀ m ∈ x.1.weights Tryd.prog 118, m ≤ reachBytes) :
    ∃ a : B5, a.ok ∧ RepL w (okAll w) cs (encU a) := by
  obtain ⟨hl, hc⟩ := bytes_read Tryd.underlying118 (by kernel_rfl) h
  match cs, hl with
  | [c0, c1, c2, c3, c4], _ =>
    obtain ⟨n0, rfl, h0⟩ := hc 0 c0 rfl
    obtain ⟨n1, rfl, h1⟩ := hc 1 c1 rfl
    obtain ⟨n2, rfl, h2⟩ := hc 2 c2 rfl
    obtain ⟨n3, rfl, h3⟩ := hc 3 c3 rfl
    obtain ⟨n4, rfl, h4⟩ := hc 4 c4 rfl
    refine ⟨⟨n0, n1, n2, n3, n4⟩, ⟨h0, h1, h2, h3, h4⟩, rfl, fun k d u hd hu => ?_⟩
    match k with
    | 0 => cases hd; cases hu; exact .lit _ rfl
    | 1 => cases hd; cases hu; exact .lit _ rfl
    | 2 => cases hd; cases hu; exact .lit _ rfl
    | 3 => cases hd; cases hu; exact .lit _ rfl
    | 4 => cases hd; cases hu; exact .lit _ rfl
    | k + 5 => cases hd

theorem b32_read {n : Nat} {cs : List Value} {x : DataW H × List MemPlace} (h : DataW.trod enc Tryd.prog w 0 (fun _ => true) true n 71 cs = some x) :
    ∃ b0 b1 b2 b3 b4 b5, cs = [.int .u8 b0, .int .u8 b1, .int .u8 b2, .int .u8 b3, .int .u8 b4, .int .u8 b5] ∧ okU b0 ∧ okU b1 ∧ okU b2 ∧ okU b3 ∧ okU b4 ∧ okU b5 := by
  obtain ⟨xs, m, rfl, rfl, hl, hlen, hf⟩ := DataW.trod_array Tryd.underlying71 h
  have hc6 : Tryd.prog.cellsOf 71 = 6 := by kernel_rfl
  have hc2 : Tryd.prog.cellsOf 70 = 2 := by kernel_rfl
  rw [hc6] at hl
  rw [hc2] at hf
  have key : ∀ i, i < 3 → ∀ (j : Nat) (c : Value), ((cs.drop (i * 2)).take 2)[j]? = some c → ∃ m, c = .int .u8 m ∧ okU m := fun i hi => by
    have h1 := hf i hi
    obtain ⟨y, hy⟩ : ∃ y, xs[i]? = some y := ⟨xs[i], List.getElem?_eq_getElem (by omega)⟩
    rw [hy] at h1
    exact (bytes_read Tryd.underlying70 (by kernel_rfl) h1).2
  match cs, hl with
  | [c0, c1, c2, c3, c4, c5], _ =>
    obtain ⟨n0, rfl, h0⟩ := key 0 (by decide) 0 c0 rfl
    obtain ⟨n1, rfl, h1⟩ := key 0 (by decide) 1 c1 rfl
    obtain ⟨n2, rfl, h2⟩ := key 1 (by decide) 0 c2 rfl
    obtain ⟨n3, rfl, h3⟩ := key 1 (by decide) 1 c3 rfl
    obtain ⟨n4, rfl, h4⟩ := key 2 (by decide) 0 c4 rfl
    obtain ⟨n5, rfl, h5⟩ := key 2 (by decide) 1 c5 rfl
    exact ⟨n0, n1, n2, n3, n4, n5, rfl, h0, h1, h2, h3, h4, h5⟩

theorem inn_cells {n : Nat} {cs : List Value} {x : DataW H × List MemPlace} (h : DataW.trod enc Tryd.prog w 0 (fun _ => true) true n 73 cs = some x) (hw : ∀ m ∈ x.1.weights Tryd.prog 73, m ≤ reachBytes) :
    ∃ (v : Value) (l : List B5) (ca st b0 b1 b2 b3 b4 b5 : Int), cs = [v, .int .u8 ca, .int .u8 st, .int .u8 b0, .int .u8 b1, .int .u8 b2, .int .u8 b3, .int .u8 b4, .int .u8 b5] ∧ l.length ≤ reachBytes ∧ (∀ a ∈ l, a.ok) ∧
      Rep w (okAll w) (fun _ => none) v (.sl 5 (l.map encU) false) ∧ okU ca ∧ okU st ∧ okU b0 ∧ okU b1 ∧ okU b2 ∧ okU b3 ∧ okU b4 ∧ okU b5 := by
  obtain ⟨y0, y1, y2, y3, m, rfl, hl, g0, g1, g2, g3⟩ := Go.Joins.trod_struct4 Tryd.underlying73 h
  have hc9 : Tryd.prog.cellsOf 73 = 9 := by kernel_rfl
  have hc69 : Tryd.prog.cellsOf 69 = 1 := by kernel_rfl
  have hc5 : Tryd.prog.cellsOf 5 = 1 := by kernel_rfl
  have hc6 : Tryd.prog.cellsOf 71 = 6 := by kernel_rfl
  rw [hc9] at hl
  simp only [hc69, hc5, hc6] at g0 g1 g2 g3
  simp only [DataW.weights, Tryd.underlying73, DataW.weightsEach, List.map_cons, List.map_nil, List.mem_append, List.append_nil] at hw
  match cs, hl with
  | [c0, c1, c2, c3, c4, c5, c6, c7, c8], _ =>
    simp only [List.drop_zero, List.drop_succ_cons, List.take_succ_cons, List.take_zero] at g0 g1 g2 g3
    obtain ⟨v, l, e0, hl1, hq1, hr1⟩ := slice_rep (k := 5) (en := encU) (by decide) Tryd.underlying69 (by kernel_rfl) (of_decide_eq_true (by kernel_rfl)) (fun _ => rfl) b5_read (fun b o u h => ⟨u, h⟩) g0 (fun m hm => hw m (.inl hm))
    obtain ⟨ca, e1, k1⟩ := u8_read g1
    obtain ⟨st, e2, k2⟩ := u8_read g2
    obtain ⟨b0, b1, b2, b3, b4, b5, e3, k3⟩ := b32_read g3
    cases e0
    cases e1
    cases e2
    cases e3
    exact ⟨c0, l, ca, st, b0, b1, b2, b3, b4, b5, rfl, hl1, hq1, hr1, k1, k2, k3⟩

/-- Bytes that are read. -/
theorem inn_read {base : Nat} {v : Value} {d : DataW H} {p : List MemPlace} (hv : Value.okWide Tryd.prog w .any base 73 v) (h : DataW.Trod enc Tryd.prog w 0 (fun _ => true) true 73 v d p) (hw : ∀ m ∈ d.weights Tryd.prog 73, m ≤ reachBytes) :
    ∃ (l : List B5) (ca st b0 b1 b2 b3 b4 b5 : Int), Rep w (okAll w) (fun _ => none) v (.agg (innC l ca st b0 b1 b2 b3 b4 b5)) ∧ l.length ≤ 4611686018427387904 ∧ (∀ a ∈ l, a.ok) ∧ okU ca ∧ okU st ∧ okU b0 ∧ okU b1 ∧ okU b2 ∧ okU b3 ∧ okU b4 ∧ okU b5 := by
  obtain ⟨vs, rfl, hsz⟩ := okWide_struct Tryd.underlying73 hv
  obtain ⟨n, h⟩ := h
  obtain ⟨v0, l, ca, st, b0, b1, b2, b3, b4, b5, e, hl, hq, hr, hk⟩ := inn_cells h hw
  have hr2 : reachBytes ≤ 4611686018427387904 := by decide
  refine ⟨l, ca, st, b0, b1, b2, b3, b4, b5, .agg vs _ (by rw [← Array.length_toList]; exact congrArg List.length e) fun i d u hd hu => ?_, by omega, hq, hk⟩
  have e' : vs.toList = _ := e
  have hu' : vs.toList[i]? = some u := by rw [Array.getElem?_toList]; exact hu
  rw [e'] at hu'
  match i with
  | 0 => cases hd; cases hu'; exact hr
  | 1 => cases hd; cases hu'; exact .lit _ rfl
  | 2 => cases hd; cases hu'; exact .lit _ rfl
  | 3 => cases hd; cases hu'; exact .lit _ rfl
  | 4 => cases hd; cases hu'; exact .lit _ rfl
  | 5 => cases hd; cases hu'; exact .lit _ rfl
  | 6 => cases hd; cases hu'; exact .lit _ rfl
  | 7 => cases hd; cases hu'; exact .lit _ rfl
  | 8 => cases hd; cases hu'; exact .lit _ rfl
  | i + 9 => cases hd
end
end Go.Aw
end
section
set_option linter.unusedVariables false
set_option linter.unusedSimpArgs false
set_option maxRecDepth 100000
/-! The card of MixMore. -/
namespace Go.Proofs.YtofoildhohgngaaDoor
open Go Go.Aw Go.RowKit Go.ChangeShapes Go.WideShapes

theorem okWide_array {P : Program} {w : World} {r : Reach} {base : Nat} {t : TypeId} {v : Value} {k : Nat} {e : TypeId} (ht : P.underlying t = some (.array k e)) (h : Value.okWide P w r base t v) : ∃ cs, v = .agg cs ∧ cs.size = P.cellsOf t := by
  simp only [Value.okWide, ht] at h
  obtain ⟨cs, h1, h2, _⟩ := h
  exact ⟨cs, h1, h2⟩
/-- Three bytes that are read. -/
theorem b3_read {H : Type} {enc : TypeId × Value → H} {w : World} {base : Nat} {v : Value} {d : DataW H} {p : List MemPlace} (hv : Value.okWide Tryd.prog w .any base 78 v) (h : DataW.Trod enc Tryd.prog w 0 (fun _ => true) true 78 v d p) :
    ∃ v0 v1 v2 : Int, Rep w (okAll w) (fun _ => none) v (.agg [u8 v0, u8 v1, u8 v2]) ∧ okU v0 ∧ okU v1 ∧ okU v2 := by
  obtain ⟨vs, rfl, hsz⟩ := okWide_array Tryd.underlying78 hv
  obtain ⟨n, h⟩ := h
  obtain ⟨hl, hc⟩ := bytes_read Tryd.underlying78 (by kernel_rfl) h
  have hl' : vs.toList.length = 3 := hl
  match hvs : vs.toList, hl' with
  | [c0, c1, c2], _ =>
    have hc' : ∀ (i : Nat) (c : Value), [c0, c1, c2][i]? = some c → ∃ m, c = .int .u8 m ∧ okU m := fun i c hi => hc i c (by rw [show (Value.agg vs).cells.toList = vs.toList from rfl, hvs]; exact hi)
    obtain ⟨n0, rfl, h0⟩ := hc' 0 c0 rfl
    obtain ⟨n1, rfl, h1⟩ := hc' 1 c1 rfl
    obtain ⟨n2, rfl, h2⟩ := hc' 2 c2 rfl
    refine ⟨n0, n1, n2, .agg vs _ (by rw [← Array.length_toList, hvs]; rfl) fun i d u hd hu => ?_, h0, h1, h2⟩
    have hu' : vs.toList[i]? = some u := by rw [Array.getElem?_toList]; exact hu
    rw [hvs] at hu'
    match i with
    | 0 => cases hd; cases hu'; exact .lit _ rfl
    | 1 => cases hd; cases hu'; exact .lit _ rfl
    | 2 => cases hd; cases hu'; exact .lit _ rfl
    | i + 3 => cases hd

theorem mixMore_wit (os : Os) (H : Type) (enc : TypeId × Value → H) : ∃ (w : World) (tape : Tape) (i : Input), w.os = os ∧ (w.forCall tape i).Shaped Tryd.checked.prog ∧ i.vars = [] ∧ Input.okWide Tryd.checked.prog (w.forCall tape i) .any w.heap.size 12 i ∧
      ((Rows.mixMoreSpec.pre enc Tryd.checked.prog Tryd.f12 [] false (w.forCall tape i).memory i.args ∧ laidMetH Tryd.prog Rows.mixWaysRow.laid (w.forCall tape i).memory) ∧ sizedMet enc Tryd.checked.prog Tryd.f12 (OpenSpec.ofChange Rows.mixMoreSpec) false (w.forCall tape i).memory i.args) ∧ ({} : Assume).holds Tryd.checked.prog (lone (Frame.enter Tryd.checked.prog 12 i.args .normal) [] (w.forCall tape i)) :=
  ChangeSpec.witness_at (enc := enc) (C := Tryd.checked) (os := os) (X := fun w _ => laidMetH Tryd.prog Rows.mixWaysRow.laid w) false (laidWorld os) #[.agg #[.slice none 0 0, .int .u8 0, .int .u8 0, .int .u8 0, .int .u8 0, .int .u8 0, .int .u8 0, .int .u8 0, .int .u8 0], .agg #[.int .u8 0, .int .u8 0, .int .u8 0]] 8 rfl (by kernel_rfl) (by kernel_rfl) (by kernel_rfl) (by kernel_rfl) (by kernel_rfl) (laidWorld_met os _)

theorem mixMore_said : Rows.MixMoreSaid :=
  OpenClaim.holds_of_wide 12 Tryd.f12 rfl rfl rfl rfl rfl rfl rfl ⟨rfl, rfl, rfl, rfl, rfl⟩ rfl rfl rfl rfl rfl (by kernel_rfl) Tryd.func12 (by kernel_rfl)
    (of_decide_eq_true (by kernel_rfl)) (by unfold Func.isWrapper; first | (rw [if_pos (by decide +kernel)]; kernel_rfl) | (rw [if_neg (by decide +kernel)]; exact ⟨rfl, rfl⟩))
    (fun os started H enc _ => lifted_of Tryd.func12 rfl (by kernel_rfl) (fun H ds hd => by
        match ds, hd with
        | [_, _], _ => rfl) (by kernel_rfl) (fun t ht => by
          have : Tryd.f12.params.toList.all (fun t => decide (t < Tryd.prog.types.size)) = true := by kernel_rfl
          simpa using List.all_eq_true.1 this t ht)
      (fun {H enc} w base args ds p hv hA hw => by
        rw [Tryd.params12] at hA hv hw
        obtain ⟨v0, vs0, d0, ds0, p0, q0, e0, rfl, _, g0, r0⟩ := trodAll_cons hA
        obtain ⟨v1, vs1, d1, ds1, p1, q1, rfl, rfl, _, g1, r1⟩ := trodAll_cons r0
        obtain ⟨rfl, rfl, _⟩ := trodAll_nil r1
        obtain rfl : args = #[v0, v1] := by cases args; simp_all
        obtain ⟨l, ca, st, b0, b1, b2, b3, b4, b5, h1, h2, h3, k1, k2, k3, k4, k5, k6, k7, k8⟩ := inn_read (hv 0 73 v0 rfl rfl) g0 (fun m hm => hw m (List.mem_append_left _ hm))
        obtain ⟨w0, w1, w2, e1, o0, o1, o2⟩ := b3_read (hv 1 78 v1 rfl rfl) g1
        refine ⟨[.agg (innC l ca st b0 b1 b2 b3 b4 b5), .agg [u8 w0, u8 w1, u8 w2]], rfl, fun i d u hd hu => ?_, (MixMore_spec l ca st b0 b1 b2 b3 b4 b5 w0 w1 w2 h2 h3 k1 k2 k3 k4 k5 k6 k7 k8 o0 o1 o2).1⟩
        match i with
        | 0 => cases hd; cases hu; exact h1
        | 1 => cases hd; cases hu; exact e1
        | i + 2 => cases hd) os started H enc (mixMore_wit os H enc))

theorem mixMore_card : Rows.MixMoreCardSaid :=
  Claim7.holds_tied_plain_at .later [] [.data, .data] true (true, "db9d006d5bba7fee0cf344bfce06a63cdaeea97b4747f81a03d02ff427ee667c") false
    mixMore_said (fun _ h => by cases h) (by kernel_rfl) (fun _ h => by cases h) mixMore_row_tie rfl ⟨rfl, rfl⟩ (by kernel_rfl) rfl
    (fun f fn hf hfn => by
      obtain rfl : f = 12 := Option.some.inj ((show Tryd.prog.funcNamed "panache/panachelaw08.MixMore" = some 12 by kernel_rfl).symm.trans hf) |>.symm
      obtain rfl : fn = Tryd.f12 := (Option.some.inj (Tryd.func12.symm.trans hfn)).symm
      exact ⟨by kernel_rfl, fun j t ht => by
        have h3 : Tryd.f12.params.toList.all (fun t => !Tryd.prog.wantsStandIn t) = true := by kernel_rfl
        have h4 : (!Tryd.prog.wantsStandIn t) = true := List.all_eq_true.1 h3 t (by rw [← Array.getElem?_toList] at ht; exact List.mem_of_getElem? ht)
        have h5 : Tryd.prog.wantsStandIn t = false := by rwa [Bool.not_eq_true'] at h4
        exact h5⟩)
    (by kernel_rfl)
#print axioms mixMore_card
end Go.Proofs.YtofoildhohgngaaDoor
end
