/-
  A part of the proof that a law returns true for every input that the given row speaks of: an own verified walk over the program (namespace Go.Aw), contracts of the functions that the law calls, and the law itself. Conditions: those of the given row, no other.
-/
import Derived.Test.YtofoildhohgngaaDoorPart14
import Derived.Lib.SmallJoins
set_option linter.unusedVariables false
set_option linter.unusedSimpArgs false
section
set_option maxRecDepth 20000
set_option maxHeartbeats 4000000
namespace Go.Aw
open Go.RowKit Go.Proofs
theorem spoilt_none (bx : List B5) (ca st b0 b1 b2 b3 b4 b5 : Int) (sp : List B3) (hsl : sp.length ≤ 4611686018427387904) (bs : List Box) (cs : List Bill) (way : List Int) (held : List (List Int))
   (h0 : checkR bs cs = 0) (hmem : way ∈ allW bs cs) (hT : Truth bs cs way held) (hn1 : bs.length = 0)
   (hmade : ∀ {first args cap : List V} {dst : Option Tmp} {K : St → Prop} {tm : List V} {l : List (Nat × Option Blk)} {x : Nat} {gh : Gh},
       K ⟨putT tm dst (.tup [.agg [.os (x + 68) 1 bs.length false, .os (x + 65) 2 cs.length false], .os (x + 66) 1 bs.length false, .os (x + 67) 1 bs.length false]), hpOf (fun _ => none) (l ++ madeRowsN x bs cs way held), x + 3200, gh⟩ →
       first ++ args ++ cap = [.agg (innC bx ca st b0 b1 b2 b3 b4 b5)] → CallA Tryd.prog (.fn (.func 37) first cap) args dst K ⟨tm, hpOf (fun _ => none) l, x, gh⟩) :
   Ct Tryd.prog 13 [.agg (innC bx ca st b0 b1 b2 b3 b4 b5), .sl 3 (sp.map encT) false] (.lit (.bool true)) := by
 have hg := good_of_check h0
 have hz := hg.size
 have hne := List.ne_nil_of_mem hmem
 have hW := Ways_ok bs cs hz.fits h0 hne
 have hWr := Wrong_twice bs cs hz.fits h0 hne
 have hown := own_spec bs cs hz
 have hfz : ∀ {h : Hp}, h 260 = some ⟨1, famE 264 bs.length (lnB bs), 67, .fz⟩ → h 257 = some ⟨2, cs.map encBill, 64, .fz⟩ → PurI true h [.agg [.os 260 1 bs.length false, .os 257 2 cs.length false]] [encLoad bs cs] := fun {h} g1 g2 =>
   sp_pur rfl g1 g2 (fun _ _ => rfl) fun j hj => by omega
 refine fn_enter Tryd.func13 rfl (by decide) Tryd.results13 Tryd.ntmps13 ?_ rfl (by simp (maxSteps := 1000000) -implicitDefEqProofs (disch := omega) only [go_sem]; rfl) fun base => ?_
 · first | assumption | (simp only [go_sem] <;> assumption) | (simp only [go_sem, *]; done) | (simp [go_sem]; done)
 repeat' (first
   | (with_reducible apply Req_intro); focus (first | omega | assumption | (simp; done))
   | with_reducible (first | apply Req_intro | refine nilT ?_ fun hn => ?_ | apply wk_draw Tryd_mixed | refine drawEnd (by kernel_rfl) ?_)
   | (with_reducible (first | apply condA_if | apply stepDG_ifN | apply stepDG_if | apply stepG_ifN | apply stepG_if)) <;> intro hb <;> (have hif := hb) <;> (try simp only [bo] at hif) <;> (try simp -implicitDefEqProofs (disch := omega) only [go_sem, hb]) <;> clear hb
   | simp (maxSteps := 1000000) -implicitDefEqProofs (disch := omega) only [go_sem])
 refine hmade ?_ (by first | (simp only [go_sem]; done) | (simp only [go_sem]; rfl))
 rw [madeRowsN]
 repeat' (first
   | (with_reducible apply Req_intro); focus (first | omega | assumption | (simp; done))
   | with_reducible (first | apply Req_intro | refine nilT ?_ fun hn => ?_ | apply wk_draw Tryd_mixed | refine drawEnd (by kernel_rfl) ?_)
   | (with_reducible (first | apply condA_if | apply stepDG_ifN | apply stepDG_if | apply stepG_ifN | apply stepG_if)) <;> intro hb <;> (have hif := hb) <;> (try simp only [bo] at hif) <;> (try simp -implicitDefEqProofs (disch := omega) only [go_sem, hb]) <;> clear hb
   | simp (maxSteps := 1000000) -implicitDefEqProofs (disch := omega) only [go_sem])
 all_goals first | exact absurd trivial ‹¬True› | (exfalso; omega) | omega | skip
 refine loop_at (α := Nat) [8, 9, 10, 11, 12, 32, 33, 34, 35, 36, 37, 38, 39, 40, 41, 42, 43, 44, 45, 46, 47, 48, 49, 50, 51, 52, 53, 54, 55, 56, 57, 58, 59, 60, 61, 62, 63, 64, 65, 66, 67, 68, 69, 70, 71, 72, 73, 74, 75, 76, 77, 78, 79, 80, 81, 82, 83, 84, 85, 86, 87, 88, 89, 90, 91, 92, 93, 94, 95, 96, 97] (fun _ => [(8, .lit (.int .i64 0)), (9, .lit (.int .i64 0)), (26, .undef), (28, .undef)]) (fun _ => True) (fun _ => 0) 0 (fun x => by simp (maxSteps := 1000000) -implicitDefEqProofs (disch := omega) only [go_sem]; rfl) ?_ ?_ fun x hx => ?_
 · exact weak_do3 []
 · trivial
 repeat' (first
   | (with_reducible apply Req_intro); focus (first | omega | assumption | (simp; done))
   | with_reducible (first | apply Req_intro | refine nilT ?_ fun hn => ?_ | apply wk_draw Tryd_mixed | refine drawEnd (by kernel_rfl) ?_)
   | (with_reducible (first | apply condA_if | apply stepDG_ifN | apply stepDG_if | apply stepG_ifN | apply stepG_if)) <;> intro hb <;> (have hif := hb) <;> (try simp only [bo] at hif) <;> (try simp -implicitDefEqProofs (disch := omega) only [go_sem, hb]) <;> clear hb
   | simp (maxSteps := 1000000) -implicitDefEqProofs (disch := omega) only [go_sem])
 all_goals first | exact absurd trivial ‹¬True› | (exfalso; omega) | omega | skip
 all_goals
   refine callf [260, 257, 264, 265, 266, 267, 268, 269, 270, 271] hown ?_ (hp := ?_)
   rotate_left
   · exact hfz (by rfl) (by rfl)
   try simp (maxSteps := 1000000) -implicitDefEqProofs (disch := omega) only [go_sem]
   repeat' (first
     | (with_reducible apply Req_intro); focus (first | omega | assumption | (simp; done))
     | with_reducible (first | apply Req_intro | refine nilT ?_ fun hn => ?_ | apply wk_draw Tryd_mixed | refine drawEnd (by kernel_rfl) ?_)
     | (with_reducible (first | apply condA_if | apply stepDG_ifN | apply stepDG_if | apply stepG_ifN | apply stepG_if)) <;> intro hb <;> (have hif := hb) <;> (try simp only [bo] at hif) <;> (try simp -implicitDefEqProofs (disch := omega) only [go_sem, hb]) <;> clear hb
     | simp (maxSteps := 1000000) -implicitDefEqProofs (disch := omega) only [go_sem])
   refine callp hWr ?_
   try simp (maxSteps := 1000000) -implicitDefEqProofs (disch := omega) only [go_sem]
   repeat' (first
     | (with_reducible apply Req_intro); focus (first | omega | assumption | (simp; done))
     | with_reducible (first | apply Req_intro | refine nilT ?_ fun hn => ?_ | apply wk_draw Tryd_mixed | refine drawEnd (by kernel_rfl) ?_)
     | (with_reducible (first | apply condA_if | apply stepDG_ifN | apply stepDG_if | apply stepG_ifN | apply stepG_if)) <;> intro hb <;> (have hif := hb) <;> (try simp only [bo] at hif) <;> (try simp -implicitDefEqProofs (disch := omega) only [go_sem, hb]) <;> clear hb
     | simp (maxSteps := 1000000) -implicitDefEqProofs (disch := omega) only [go_sem])
   refine callf [260, 257, 264, 265, 266, 267, 268, 269, 270, 271] hown ?_ (hp := ?_)
   rotate_left
   · exact hfz (by rfl) (by rfl)
   try simp (maxSteps := 1000000) -implicitDefEqProofs (disch := omega) only [go_sem]
   repeat' (first
     | (with_reducible apply Req_intro); focus (first | omega | assumption | (simp; done))
     | with_reducible (first | apply Req_intro | refine nilT ?_ fun hn => ?_ | apply wk_draw Tryd_mixed | refine drawEnd (by kernel_rfl) ?_)
     | (with_reducible (first | apply condA_if | apply stepDG_ifN | apply stepDG_if | apply stepG_ifN | apply stepG_if)) <;> intro hb <;> (have hif := hb) <;> (try simp only [bo] at hif) <;> (try simp -implicitDefEqProofs (disch := omega) only [go_sem, hb]) <;> clear hb
     | simp (maxSteps := 1000000) -implicitDefEqProofs (disch := omega) only [go_sem])
   refine callp hW ?_
   try simp (maxSteps := 1000000) -implicitDefEqProofs (disch := omega) only [go_sem]
   repeat' (first
     | (with_reducible apply Req_intro); focus (first | omega | assumption | (simp; done))
     | with_reducible (first | apply Req_intro | refine nilT ?_ fun hn => ?_ | apply wk_draw Tryd_mixed | refine drawEnd (by kernel_rfl) ?_)
     | (with_reducible (first | apply condA_if | apply stepDG_ifN | apply stepDG_if | apply stepG_ifN | apply stepG_if)) <;> intro hb <;> (have hif := hb) <;> (try simp only [bo] at hif) <;> (try simp -implicitDefEqProofs (disch := omega) only [go_sem, hb]) <;> clear hb
     | simp (maxSteps := 1000000) -implicitDefEqProofs (disch := omega) only [go_sem])
   all_goals first | exact absurd trivial ‹¬True› | (exfalso; omega) | omega | skip
   refine callp known_spec ?_
   try simp (maxSteps := 1000000) -implicitDefEqProofs (disch := omega) only [go_sem]
   repeat' (first
     | (with_reducible apply Req_intro); focus (first | omega | assumption | (simp; done))
     | with_reducible (first | apply Req_intro | refine nilT ?_ fun hn => ?_ | apply wk_draw Tryd_mixed | refine drawEnd (by kernel_rfl) ?_)
     | (with_reducible (first | apply condA_if | apply stepDG_ifN | apply stepDG_if | apply stepG_ifN | apply stepG_if)) <;> intro hb <;> (have hif := hb) <;> (try simp only [bo] at hif) <;> (try simp -implicitDefEqProofs (disch := omega) only [go_sem, hb]) <;> clear hb
     | simp (maxSteps := 1000000) -implicitDefEqProofs (disch := omega) only [go_sem])
   refine ret_do ?_
   rfl
theorem MixSpoilt_spec (bx : List B5) (ca st b0 b1 b2 b3 b4 b5 : Int) (sp : List B3) (hlen : bx.length ≤ 4611686018427387904) (hbx : ∀ v ∈ bx, v.ok) (hca : okU ca) (hst : okU st) (h0 : okU b0) (h1 : okU b1) (h2 : okU b2) (h3 : okU b3) (h4 : okU b4) (h5 : okU b5) (hsl : sp.length ≤ 4611686018427387904) (hsp : ∀ v ∈ sp, v.ok) :
   Ct Tryd.prog 13 [.agg (innC bx ca st b0 b1 b2 b3 b4 b5), .sl 3 (sp.map encT) false] (.lit (.bool true)) := by
 obtain ⟨bs, cs, way, held, hck, hmem, hs2, hT, hm⟩ := made_at bx ca st b0 b1 b2 b3 b4 b5 hlen hbx hca hst h0 h1 h2 h3 h4 h5
 by_cases hn : bs.length = 0
 · exact spoilt_none bx ca st b0 b1 b2 b3 b4 b5 sp hsl bs cs way held hck hmem hT hn hm
 · by_cases hc : sp.length ≤ 3
   · exact (spoilt_cutA bx ca st b0 b1 b2 b3 b4 b5 sp hsl hsp hc bs cs way held hck hmem hs2 hT (by omega) hm).h ⟨(spoilt_cutTA bx ca st b0 b1 b2 b3 b4 b5 sp hsl hsp hc bs cs way held hck hmem hs2 hT (by omega) hm).h ⟨spoilt_tailTA1 bx ca st b0 b1 b2 b3 b4 b5 sp hsl hsp hc bs cs way held hck hmem hs2 hT (by omega) hm⟩ ⟨spoilt_tailTA2 bx ca st b0 b1 b2 b3 b4 b5 sp hsl hsp hc bs cs way held hck hmem hs2 hT (by omega) hm⟩⟩
   · exact (spoilt_cutB bx ca st b0 b1 b2 b3 b4 b5 sp hsl hsp (by omega) bs cs way held hck hmem hs2 hT (by omega) hm).h ⟨(spoilt_cutTB bx ca st b0 b1 b2 b3 b4 b5 sp hsl hsp (by omega) bs cs way held hck hmem hs2 hT (by omega) hm).h ⟨spoilt_tailTB1 bx ca st b0 b1 b2 b3 b4 b5 sp hsl hsp (by omega) bs cs way held hck hmem hs2 hT (by omega) hm⟩ ⟨spoilt_tailTB2 bx ca st b0 b1 b2 b3 b4 b5 sp hsl hsp (by omega) bs cs way held hck hmem hs2 hT (by omega) hm⟩⟩
end Go.Aw
end
section
set_option maxRecDepth 100000
namespace Go.Aw
open Go.RowKit Go.ChangeShapes Go.WideShapes Go.Proofs
section
variable {H : Type} {enc : TypeId × Value → H} {w : World}
theorem u8_read {n : Nat} {cs : List Value} {x : DataW H × List MemPlace} (h : DataW.trod enc Tryd.prog w 0 (fun _ => true) true n 5 cs = some x) : ∃ i, cs = [.int .u8 i] ∧ okU i := by
 obtain ⟨i, e, h1, h2⟩ := int_rep Tryd.underlying5 h
 exact ⟨i, e, h1, h2⟩
theorem bytes_read {k : Nat} {t : TypeId} (ht : Tryd.prog.underlying t = some (.array k 5)) (hc : Tryd.prog.cellsOf t = k) {n : Nat} {cs : List Value} {x : DataW H × List MemPlace} (h : DataW.trod enc Tryd.prog w 0 (fun _ => true) true n t cs = some x) :
   cs.length = k ∧ ∀ (i : Nat) (c : Value), cs[i]? = some c → ∃ m, c = .int .u8 m ∧ okU m := by
 obtain ⟨xs, m, rfl, rfl, hl, hlen, hf⟩ := DataW.trod_array ht h
 rw [hc] at hl
 refine ⟨hl, fun i c hi => ?_⟩
 have hik : i < k := by rw [← hl]; exact (List.getElem?_eq_some_iff.1 hi).1
 have h1 := hf i hik
 have hc1 : Tryd.prog.cellsOf 5 = 1 := by kernel_rfl
 obtain ⟨y, hy⟩ : ∃ y, xs[i]? = some y := ⟨xs[i], List.getElem?_eq_getElem (by omega)⟩
 rw [hc1, Nat.mul_one, hy] at h1
 obtain ⟨j, e, h2⟩ := u8_read h1
 have h3 : (cs.drop i).take 1 = [c] := by
   have hlt := (List.getElem?_eq_some_iff.1 hi)
   obtain ⟨hlt, he⟩ := hlt
   rw [List.drop_eq_getElem_cons hlt, he]; rfl
 rw [h3] at e
 cases e
 exact ⟨j, rfl, h2⟩
theorem b5_read (n : Nat) (cs : List Value) (x : DataW H × List MemPlace) (h : DataW.trod enc Tryd.prog w 0 (fun _ => true) true n 118 cs = some x) (hw : ∀ m ∈ x.1.weights Tryd.prog 118, m ≤ reachBytes) :
   ∃ a : B5, a.ok ∧ RepL w (okAll w) cs (encU a) := by
 obtain ⟨hl, hc⟩ := bytes_read Tryd.underlying118 (by kernel_rfl) h
 match cs, hl with
 | [c0, c1, c2, c3, c4], _ =>
   obtain ⟨n0, rfl, h0⟩ := hc 0 c0 rfl
   obtain ⟨n1, rfl, h1⟩ := hc 1 c1 rfl
   obtain ⟨n2, rfl, h2⟩ := hc 2 c2 rfl
   obtain ⟨n3, rfl, h3⟩ := hc 3 c3 rfl
   obtain ⟨n4, rfl, h4⟩ := hc 4 c4 rfl
   refine ⟨⟨n0, n1, n2, n3, n4⟩, ⟨h0, h1, h2, h3, h4⟩, rfl, fun k d u hd hu => ?_⟩
   match k with
   | 0 => cases hd; cases hu; exact .lit _ rfl
   | 1 => cases hd; cases hu; exact .lit _ rfl
   | 2 => cases hd; cases hu; exact .lit _ rfl
   | 3 => cases hd; cases hu; exact .lit _ rfl
   | 4 => cases hd; cases hu; exact .lit _ rfl
   | k + 5 => cases hd
theorem b32_read {n : Nat} {cs : List Value} {x : DataW H × List MemPlace} (h : DataW.trod enc Tryd.prog w 0 (fun _ => true) true n 71 cs = some x) :
   ∃ b0 b1 b2 b3 b4 b5, cs = [.int .u8 b0, .int .u8 b1, .int .u8 b2, .int .u8 b3, .int .u8 b4, .int .u8 b5] ∧ okU b0 ∧ okU b1 ∧ okU b2 ∧ okU b3 ∧ okU b4 ∧ okU b5 := by
 obtain ⟨xs, m, rfl, rfl, hl, hlen, hf⟩ := DataW.trod_array Tryd.underlying71 h
 have hc6 : Tryd.prog.cellsOf 71 = 6 := by kernel_rfl
 have hc2 : Tryd.prog.cellsOf 70 = 2 := by kernel_rfl
 rw [hc6] at hl
 rw [hc2] at hf
 have key : ∀ i, i < 3 → ∀ (j : Nat) (c : Value), ((cs.drop (i * 2)).take 2)[j]? = some c → ∃ m, c = .int .u8 m ∧ okU m := fun i hi => by
   have h1 := hf i hi
   obtain ⟨y, hy⟩ : ∃ y, xs[i]? = some y := ⟨xs[i], List.getElem?_eq_getElem (by omega)⟩
   rw [hy] at h1
   exact (bytes_read Tryd.underlying70 (by kernel_rfl) h1).2
 match cs, hl with
 | [c0, c1, c2, c3, c4, c5], _ =>
   obtain ⟨n0, rfl, h0⟩ := key 0 (by decide) 0 c0 rfl
   obtain ⟨n1, rfl, h1⟩ := key 0 (by decide) 1 c1 rfl
   obtain ⟨n2, rfl, h2⟩ := key 1 (by decide) 0 c2 rfl
   obtain ⟨n3, rfl, h3⟩ := key 1 (by decide) 1 c3 rfl
   obtain ⟨n4, rfl, h4⟩ := key 2 (by decide) 0 c4 rfl
   obtain ⟨n5, rfl, h5⟩ := key 2 (by decide) 1 c5 rfl
   exact ⟨n0, n1, n2, n3, n4, n5, rfl, h0, h1, h2, h3, h4, h5⟩
theorem inn_cells {n : Nat} {cs : List Value} {x : DataW H × List MemPlace} (h : DataW.trod enc Tryd.prog w 0 (fun _ => true) true n 73 cs = some x) (hw : ∀ m ∈ x.1.weights Tryd.prog 73, m ≤ reachBytes) :
   ∃ (v : Value) (l : List B5) (ca st b0 b1 b2 b3 b4 b5 : Int), cs = [v, .int .u8 ca, .int .u8 st, .int .u8 b0, .int .u8 b1, .int .u8 b2, .int .u8 b3, .int .u8 b4, .int .u8 b5] ∧ l.length ≤ reachBytes ∧ (∀ a ∈ l, a.ok) ∧
     Rep w (okAll w) (fun _ => none) v (.sl 5 (l.map encU) false) ∧ okU ca ∧ okU st ∧ okU b0 ∧ okU b1 ∧ okU b2 ∧ okU b3 ∧ okU b4 ∧ okU b5 := by
 obtain ⟨y0, y1, y2, y3, m, rfl, hl, g0, g1, g2, g3⟩ := Go.Joins.trod_struct4 Tryd.underlying73 h
 have hc9 : Tryd.prog.cellsOf 73 = 9 := by kernel_rfl
 have hc69 : Tryd.prog.cellsOf 69 = 1 := by kernel_rfl
 have hc5 : Tryd.prog.cellsOf 5 = 1 := by kernel_rfl
 have hc6 : Tryd.prog.cellsOf 71 = 6 := by kernel_rfl
 rw [hc9] at hl
 simp only [hc69, hc5, hc6] at g0 g1 g2 g3
 simp only [DataW.weights, Tryd.underlying73, DataW.weightsEach, List.map_cons, List.map_nil, List.mem_append, List.append_nil] at hw
 match cs, hl with
 | [c0, c1, c2, c3, c4, c5, c6, c7, c8], _ =>
   simp only [List.drop_zero, List.drop_succ_cons, List.take_succ_cons, List.take_zero] at g0 g1 g2 g3
   obtain ⟨v, l, e0, hl1, hq1, hr1⟩ := slice_rep (k := 5) (en := encU) (by decide) Tryd.underlying69 (by kernel_rfl) (of_decide_eq_true (by kernel_rfl)) (fun _ => rfl) b5_read (fun b o u h => ⟨u, h⟩) g0 (fun m hm => hw m (.inl hm))
   obtain ⟨ca, e1, k1⟩ := u8_read g1
   obtain ⟨st, e2, k2⟩ := u8_read g2
   obtain ⟨b0, b1, b2, b3, b4, b5, e3, k3⟩ := b32_read g3
   cases e0
   cases e1
   cases e2
   cases e3
   exact ⟨c0, l, ca, st, b0, b1, b2, b3, b4, b5, rfl, hl1, hq1, hr1, k1, k2, k3⟩
theorem inn_read {base : Nat} {v : Value} {d : DataW H} {p : List MemPlace} (hv : Value.okWide Tryd.prog w .any base 73 v) (h : DataW.Trod enc Tryd.prog w 0 (fun _ => true) true 73 v d p) (hw : ∀ m ∈ d.weights Tryd.prog 73, m ≤ reachBytes) :
   ∃ (l : List B5) (ca st b0 b1 b2 b3 b4 b5 : Int), Rep w (okAll w) (fun _ => none) v (.agg (innC l ca st b0 b1 b2 b3 b4 b5)) ∧ l.length ≤ 4611686018427387904 ∧ (∀ a ∈ l, a.ok) ∧ okU ca ∧ okU st ∧ okU b0 ∧ okU b1 ∧ okU b2 ∧ okU b3 ∧ okU b4 ∧ okU b5 := by
 obtain ⟨vs, rfl, hsz⟩ := okWide_struct Tryd.underlying73 hv
 obtain ⟨n, h⟩ := h
 obtain ⟨v0, l, ca, st, b0, b1, b2, b3, b4, b5, e, hl, hq, hr, hk⟩ := inn_cells h hw
 have hr2 : reachBytes ≤ 4611686018427387904 := by decide
 refine ⟨l, ca, st, b0, b1, b2, b3, b4, b5, .agg vs _ (by rw [← Array.length_toList]; exact congrArg List.length e) fun i d u hd hu => ?_, by omega, hq, hk⟩
 have e' : vs.toList = _ := e
 have hu' : vs.toList[i]? = some u := by rw [Array.getElem?_toList]; exact hu
 rw [e'] at hu'
 match i with
 | 0 => cases hd; cases hu'; exact hr
 | 1 => cases hd; cases hu'; exact .lit _ rfl
 | 2 => cases hd; cases hu'; exact .lit _ rfl
 | 3 => cases hd; cases hu'; exact .lit _ rfl
 | 4 => cases hd; cases hu'; exact .lit _ rfl
 | 5 => cases hd; cases hu'; exact .lit _ rfl
 | 6 => cases hd; cases hu'; exact .lit _ rfl
 | 7 => cases hd; cases hu'; exact .lit _ rfl
 | 8 => cases hd; cases hu'; exact .lit _ rfl
 | i + 9 => cases hd
end
end Go.Aw
end
section
set_option maxRecDepth 100000
namespace Go.Proofs.YtofoildhohgngaaDoor
open Go Go.Aw Go.RowKit Go.ChangeShapes Go.WideShapes
theorem slice_cells {P : Program} {w : World} {r : Reach} {base : Nat} {t : TypeId} {v : Value} {e : TypeId} (ht : P.underlying t = some (.slice e)) (h : Value.okWide P w r base t v) : v.cells.toList = [v] := by
 simp only [Value.okWide, ht, Cell.okWide] at h
 cases v <;> simp_all [Cell.ok, Value.cells]
theorem b3_cells {H : Type} {enc : TypeId × Value → H} {w : World} (n : Nat) (cs : List Value) (x : DataW H × List MemPlace) (h : DataW.trod enc Tryd.prog w 0 (fun _ => true) true n 78 cs = some x) (hw : ∀ m ∈ x.1.weights Tryd.prog 78, m ≤ reachBytes) :
   ∃ a : B3, a.ok ∧ RepL w (okAll w) cs (encT a) := by
 obtain ⟨hl, hc⟩ := bytes_read Tryd.underlying78 (by kernel_rfl) h
 match cs, hl with
 | [c0, c1, c2], _ =>
   obtain ⟨n0, rfl, h0⟩ := hc 0 c0 rfl
   obtain ⟨n1, rfl, h1⟩ := hc 1 c1 rfl
   obtain ⟨n2, rfl, h2⟩ := hc 2 c2 rfl
   refine ⟨⟨n0, n1, n2⟩, ⟨h0, h1, h2⟩, rfl, fun k d u hd hu => ?_⟩
   match k with
   | 0 => cases hd; cases hu; exact .lit _ rfl
   | 1 => cases hd; cases hu; exact .lit _ rfl
   | 2 => cases hd; cases hu; exact .lit _ rfl
   | k + 3 => cases hd
theorem b3s_read {H : Type} {enc : TypeId × Value → H} {w : World} {v : Value} {d : DataW H} {p : List MemPlace} (h : DataW.Trod enc Tryd.prog w 0 (fun _ => true) true 80 v d p) (hc : v.cells.toList = [v]) (hw : ∀ m ∈ d.weights Tryd.prog 80, m ≤ reachBytes) :
   ∃ l : List B3, l.length ≤ reachBytes ∧ (∀ a ∈ l, a.ok) ∧ Rep w (okAll w) (fun _ => none) v (.sl 3 (l.map encT) false) := by
 obtain ⟨n, h⟩ := h
 obtain ⟨v', l, e0, hl1, hq1, hr1⟩ := slice_rep (k := 3) (en := encT) (by decide) Tryd.underlying80 (by kernel_rfl) (of_decide_eq_true (by kernel_rfl)) (fun _ => rfl) b3_cells (fun b o u h => ⟨u, h⟩) h hw
 rw [hc] at e0
 cases e0
 exact ⟨l, hl1, hq1, hr1⟩
theorem mixSpoilt_wit (os : Os) (H : Type) (enc : TypeId × Value → H) : ∃ (w : World) (tape : Tape) (i : Input), w.os = os ∧ (w.forCall tape i).Shaped Tryd.checked.prog ∧ i.vars = [] ∧ Input.okWide Tryd.checked.prog (w.forCall tape i) .any w.heap.size 13 i ∧
     ((Rows.mixSpoiltSpec.pre enc Tryd.checked.prog Tryd.f13 [] false (w.forCall tape i).memory i.args ∧ laidMetH Tryd.prog Rows.mixWaysRow.laid (w.forCall tape i).memory) ∧ sizedMet enc Tryd.checked.prog Tryd.f13 (OpenSpec.ofChange Rows.mixSpoiltSpec) false (w.forCall tape i).memory i.args) ∧ ({} : Assume).holds Tryd.checked.prog (lone (Frame.enter Tryd.checked.prog 13 i.args .normal) [] (w.forCall tape i)) :=
 ChangeSpec.witness_at (enc := enc) (C := Tryd.checked) (os := os) (X := fun w _ => laidMetH Tryd.prog Rows.mixWaysRow.laid w) false (laidWorld os) #[.agg #[.slice none 0 0, .int .u8 0, .int .u8 0, .int .u8 0, .int .u8 0, .int .u8 0, .int .u8 0, .int .u8 0, .int .u8 0], .slice none 0 0] 8 rfl (by kernel_rfl) (by kernel_rfl) (by kernel_rfl) (by kernel_rfl) (by kernel_rfl) (laidWorld_met os _)
theorem mixSpoilt_said : Rows.MixSpoiltSaid :=
 OpenClaim.holds_of_wide 13 Tryd.f13 rfl rfl rfl rfl rfl rfl rfl ⟨rfl, rfl, rfl, rfl, rfl⟩ rfl rfl rfl rfl rfl (by kernel_rfl) Tryd.func13 (by kernel_rfl)
   (of_decide_eq_true (by kernel_rfl)) (by unfold Func.isWrapper; first | (rw [if_pos (by decide +kernel)]; kernel_rfl) | (rw [if_neg (by decide +kernel)]; exact ⟨rfl, rfl⟩))
   (fun os started H enc _ => lifted_of Tryd.func13 rfl (by kernel_rfl) (fun H ds hd => by
       match ds, hd with
       | [_, _], _ => rfl) (by kernel_rfl) (fun t ht => by
         have : Tryd.f13.params.toList.all (fun t => decide (t < Tryd.prog.types.size)) = true := by kernel_rfl
         simpa using List.all_eq_true.1 this t ht)
     (fun {H enc} w base args ds p hv hA hw => by
       rw [Tryd.params13] at hA hv hw
       obtain ⟨v0, vs0, d0, ds0, p0, q0, e0, rfl, _, g0, r0⟩ := trodAll_cons hA
       obtain ⟨v1, vs1, d1, ds1, p1, q1, rfl, rfl, _, g1, r1⟩ := trodAll_cons r0
       obtain ⟨rfl, rfl, _⟩ := trodAll_nil r1
       obtain rfl : args = #[v0, v1] := by cases args; simp_all
       obtain ⟨l, ca, st, b0, b1, b2, b3, b4, b5, h1, h2, h3, k1, k2, k3, k4, k5, k6, k7, k8⟩ := inn_read (hv 0 73 v0 rfl rfl) g0 (fun m hm => hw m (List.mem_append_left _ hm))
       obtain ⟨sp, e2, e3, e4⟩ := b3s_read g1 (slice_cells Tryd.underlying80 (hv 1 80 v1 rfl rfl)) (fun m hm => hw m (by simp only [DataW.weightsEach]; exact List.mem_append_right _ (List.mem_append_left _ hm)))
       have hr2 : reachBytes ≤ 4611686018427387904 := by decide
       refine ⟨[.agg (innC l ca st b0 b1 b2 b3 b4 b5), .sl 3 (sp.map encT) false], rfl, fun i d u hd hu => ?_, (MixSpoilt_spec l ca st b0 b1 b2 b3 b4 b5 sp h2 h3 k1 k2 k3 k4 k5 k6 k7 k8 (by omega) e3).1⟩
       match i with
       | 0 => cases hd; cases hu; exact h1
       | 1 => cases hd; cases hu; exact e4
       | i + 2 => cases hd) os started H enc (mixSpoilt_wit os H enc))
theorem mixSpoilt_card : Rows.MixSpoiltCardSaid :=
 Claim7.holds_tied_plain_at .later [] [.data, .data] true (true, "db9d006d5bba7fee0cf344bfce06a63cdaeea97b4747f81a03d02ff427ee667c") false
   mixSpoilt_said (fun _ h => by cases h) (by kernel_rfl) (fun _ h => by cases h) mixSpoilt_row_tie rfl ⟨rfl, rfl⟩ (by kernel_rfl) rfl
   (fun f fn hf hfn => by
     obtain rfl : f = 13 := Option.some.inj ((show Tryd.prog.funcNamed "panache/panachelaw08.MixSpoilt" = some 13 by kernel_rfl).symm.trans hf) |>.symm
     obtain rfl : fn = Tryd.f13 := (Option.some.inj (Tryd.func13.symm.trans hfn)).symm
     exact ⟨by kernel_rfl, fun j t ht => by
       have h3 : Tryd.f13.params.toList.all (fun t => !Tryd.prog.wantsStandIn t) = true := by kernel_rfl
       have h4 : (!Tryd.prog.wantsStandIn t) = true := List.all_eq_true.1 h3 t (by rw [← Array.getElem?_toList] at ht; exact List.mem_of_getElem? ht)
       have h5 : Tryd.prog.wantsStandIn t = false := by rwa [Bool.not_eq_true'] at h4
       exact h5⟩)
   (by kernel_rfl)
#print axioms mixSpoilt_card
end Go.Proofs.YtofoildhohgngaaDoor
end
