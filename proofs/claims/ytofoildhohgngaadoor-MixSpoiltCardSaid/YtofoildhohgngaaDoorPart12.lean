/-
  A part of the proof that a law returns true for every input that the given row speaks of: an own verified walk over the program (namespace Go.Aw), contracts of the functions that the law calls, and the law itself. Conditions: those of the given row, no other.
-/
import Derived.Test.YtofoildhohgngaaDoorPart11
set_option linter.unusedVariables false
set_option linter.unusedSimpArgs false
section
set_option maxRecDepth 20000
set_option maxHeartbeats 16000000
namespace Go.Aw
open Go.RowKit Go.Proofs
noncomputable def spoilt_cutTB (bx : List B5) (ca st b0 b1 b2 b3 b4 b5 : Int) (sp : List B3) (hsl : sp.length ≤ 4611686018427387904) (hsp : ∀ v ∈ sp, v.ok) (hcase : 3 < sp.length) (bs : List Box) (cs : List Bill) (way : List Int) (held : List (List Int))
   (h0 : checkR bs cs = 0) (hmem : way ∈ allW bs cs) (h2 : stuffs cs ≤ 2) (hT : Truth bs cs way held) (hn1 : 1 ≤ bs.length)
   (hmade : ∀ {first args cap : List V} {dst : Option Tmp} {K : St → Prop} {tm : List V} {l : List (Nat × Option Blk)} {x : Nat} {gh : Gh},
       K ⟨putT tm dst (.tup [.agg [.os (x + 68) 1 bs.length false, .os (x + 65) 2 cs.length false], .os (x + 66) 1 bs.length false, .os (x + 67) 1 bs.length false]), hpOf (fun _ => none) (l ++ madeRowsN x bs cs way held), x + 3200, gh⟩ →
       first ++ args ++ cap = [.agg (innC bx ca st b0 b1 b2 b3 b4 b5)] → CallA Tryd.prog (.fn (.func 37) first cap) args dst K ⟨tm, hpOf (fun _ => none) l, x, gh⟩) :
   Split2 (spoilt_cutB bx ca st b0 b1 b2 b3 b4 b5 sp hsl hsp hcase bs cs way held h0 hmem h2 hT hn1 hmade).G := by
 apply Split2.mk
 intro hTail1 hTail2
 have hg := good_of_check h0
 have h8 := hg.nb
 have h3 := hg.nc
 have h1 := hg.n1
 have hs3 := hg.st
 have hok := allW_ok bs cs
 have hwl : way.length = bs.length := (hok _ hmem).1
 delta spoilt_cutB
 dsimp only
 intro base i _ _ M B hBl hsl8 h256 hlB hpB hgB
 all_goals
     have hzB := hgB.size
     have hown := own_spec B cs hzB
     have hfz : ∀ {h : Hp}, h 260 = some ⟨1, famE 264 bs.length (lnB bs), 67, .fz⟩ → h 257 = some ⟨2, cs.map encBill, 64, .fz⟩ → (∀ j, j < 8 → h (264 + j) = some ⟨2, rowB B B.length j, 60, .fz⟩) → PurI true h [.agg [.os 260 1 bs.length false, .os 257 2 cs.length false]] [encLoad B cs] := fun {h} g1 g2 g3 =>
       sp_pur hBl g1 g2 hlB fun j hj => by
         rw [g3 j (by omega), rowB, if_pos (by omega)]
     refine callf [260, 257, 264, 265, 266, 267, 268, 269, 270, 271] hown ?_ (hp := ?_)
     rotate_left
     · exact hfz (by rfl) (by rfl) (fun j hj => by
         match j, hj with
         | 0, _ => rfl
         | 1, _ => rfl
         | 2, _ => rfl
         | 3, _ => rfl
         | 4, _ => rfl
         | 5, _ => rfl
         | 6, _ => rfl
         | 7, _ => rfl)
     try simp (maxSteps := 1000000) -implicitDefEqProofs (disch := omega) only [go_sem]
     repeat' (first
       | (with_reducible apply Req_intro); focus (first | omega | assumption | (simp; done))
       | with_reducible (first | apply Req_intro | refine nilT ?_ fun hn => ?_ | apply wk_draw Tryd_mixed | refine drawEnd (by kernel_rfl) ?_)
       | (with_reducible (first | apply condA_if | apply stepDG_ifN | apply stepDG_if | apply stepG_ifN | apply stepG_if)) <;> intro hb <;> (have hif := hb) <;> (try simp only [bo] at hif) <;> (try simp -implicitDefEqProofs (disch := omega) only [go_sem, hb]) <;> clear hb
       | simp (maxSteps := 1000000) -implicitDefEqProofs (disch := omega) only [go_sem])
     by_cases hA : allW B cs = []
     · have hW0 := Ways_no B cs hzB.fits 9 (.none (check_of_good hgB) hA)
       have hWr := Wrong_ok B cs hzB.fits (check_of_good hgB) hA
       rw [hBl] at hWr
       obtain ⟨b, hb⟩ := wrongTo_some (k := 2 ^ bs.length) hsl8 hpB
       obtain ⟨⟨j, hj, hbj, hjp⟩, hmin⟩ := wrongTo_least hb
       rw [hb, hbj] at hWr
       rw [hbj] at hmin
       have hlen1 := hmin M hsl8 hpB
       rw [← hBl] at hj hmin
       obtain ⟨hw1, hw2, hw3, hw4⟩ := wrong_laws hgB hj hjp hmin
       have hlen0 : 1 ≤ (nums j).length := by
         refine Classical.byContradiction fun hc => ?_
         have h0 : nums j = [] := List.eq_nil_of_length_eq_zero (by omega)
         have hj0 : j = 0 := by
           refine Classical.byContradiction fun hc => ?_
           exact nums_ne (Nat.lt_of_lt_of_le hj (Nat.le_trans (Nat.pow_le_pow_right (by decide) hgB.nb) (by decide))) (Nat.pos_of_ne_zero hc) h0
         rw [hj0] at hjp
         obtain ⟨w, e1, e2, e3⟩ := isPos_ex hgB hjp
         have := (allW_iff hgB.pos w).2 ⟨e1, e2, e3⟩
         rw [hA] at this
         cases this
       have hones := ones_spec M h256
       have hN8 := nums_len M
       generalize hL : nums j = L at *
       rw [bestO] at hWr
       refine callp hWr ?_
       try simp (maxSteps := 1000000) -implicitDefEqProofs (disch := omega) only [go_sem]
       repeat' (first
         | (with_reducible apply Req_intro); focus (first | omega | assumption | (simp; done))
         | with_reducible (first | apply Req_intro | refine nilT ?_ fun hn => ?_ | apply wk_draw Tryd_mixed | refine drawEnd (by kernel_rfl) ?_)
         | (with_reducible (first | apply condA_if | apply stepDG_ifN | apply stepDG_if | apply stepG_ifN | apply stepG_if)) <;> intro hb <;> (have hif := hb) <;> (try simp only [bo] at hif) <;> (try simp -implicitDefEqProofs (disch := omega) only [go_sem, hb]) <;> clear hb
         | simp (maxSteps := 1000000) -implicitDefEqProofs (disch := omega) only [go_sem])
       all_goals first | exact absurd trivial ‹¬True› | (exfalso; omega) | omega | skip
       refine callf [260, 257, 264, 265, 266, 267, 268, 269, 270, 271] hown ?_ (hp := ?_)
       rotate_left
       · exact hfz (by rfl) (by rfl) (fun j hj => by
           match j, hj with
           | 0, _ => rfl
           | 1, _ => rfl
           | 2, _ => rfl
           | 3, _ => rfl
           | 4, _ => rfl
           | 5, _ => rfl
           | 6, _ => rfl
           | 7, _ => rfl)
       try simp (maxSteps := 1000000) -implicitDefEqProofs (disch := omega) only [go_sem]
       repeat' (first
         | (with_reducible apply Req_intro); focus (first | omega | assumption | (simp; done))
         | with_reducible (first | apply Req_intro | refine nilT ?_ fun hn => ?_ | apply wk_draw Tryd_mixed | refine drawEnd (by kernel_rfl) ?_)
         | (with_reducible (first | apply condA_if | apply stepDG_ifN | apply stepDG_if | apply stepG_ifN | apply stepG_if)) <;> intro hb <;> (have hif := hb) <;> (try simp only [bo] at hif) <;> (try simp -implicitDefEqProofs (disch := omega) only [go_sem, hb]) <;> clear hb
         | simp (maxSteps := 1000000) -implicitDefEqProofs (disch := omega) only [go_sem])
       refine callp hW0 ?_
       try simp (maxSteps := 1000000) -implicitDefEqProofs (disch := omega) only [go_sem]
       repeat' (first
         | (with_reducible apply Req_intro); focus (first | omega | assumption | (simp; done))
         | with_reducible (first | apply Req_intro | refine nilT ?_ fun hn => ?_ | apply wk_draw Tryd_mixed | refine drawEnd (by kernel_rfl) ?_)
         | (with_reducible (first | apply condA_if | apply stepDG_ifN | apply stepDG_if | apply stepG_ifN | apply stepG_if)) <;> intro hb <;> (have hif := hb) <;> (try simp only [bo] at hif) <;> (try simp -implicitDefEqProofs (disch := omega) only [go_sem, hb]) <;> clear hb
         | simp (maxSteps := 1000000) -implicitDefEqProofs (disch := omega) only [go_sem])
       all_goals first | exact absurd trivial ‹¬True› | (exfalso; omega) | omega | skip
       refine callp hones ?_
       try simp (maxSteps := 1000000) -implicitDefEqProofs (disch := omega) only [go_sem]
       repeat' (first
         | (with_reducible apply Req_intro); focus (first | omega | assumption | (simp; done))
         | with_reducible (first | apply Req_intro | refine nilT ?_ fun hn => ?_ | apply wk_draw Tryd_mixed | refine drawEnd (by kernel_rfl) ?_)
         | (with_reducible (first | apply condA_if | apply stepDG_ifN | apply stepDG_if | apply stepG_ifN | apply stepG_if)) <;> intro hb <;> (have hif := hb) <;> (try simp only [bo] at hif) <;> (try simp -implicitDefEqProofs (disch := omega) only [go_sem, hb]) <;> clear hb
         | simp (maxSteps := 1000000) -implicitDefEqProofs (disch := omega) only [go_sem])
       all_goals first | exact absurd trivial ‹¬True› | (exfalso; omega) | omega | skip
       
       refine loop_rows (α := Nat) [4, 18, 19, 20, 21, 22, 23, 24, 25, 141, 142, 143, 144, 145, 146, 147, 148, 149, 150, 151, 152, 153, 154, 155, 156, 157, 158, 159, 160, 161, 162, 163, 164, 165, 166, 167, 168, 169, 170, 171, 172, 173, 174, 175, 176, 177, 178, 179, 180, 181, 182, 183, 184, 185, 186, 187, 188, 189, 190, 191, 192, 193, 194, 195, 196, 197, 198, 199, 200, 201, 202, 203, 204, 205, 206, 207, 208, 209, 210, 211, 212, 213, 214, 215, 216, 217, 218, 219, 220, 221, 222, 223, 224, 225, 226, 227, 228, 229, 230, 231, 232, 233, 234, 235, 236, 237, 238, 239, 240] (fun y => [(18, .lit (.int .i64 ((y : Int) - 1))), (0, .undef), (1, .undef), (2, .undef), (7, .undef), (8, .undef), (9, .undef), (14, .undef), (15, .undef), (16, .undef), (17, .undef), (27, .undef), (29, .undef), (30, .undef), (31, .undef), (32, .undef), (33, .undef), (34, .undef), (35, .undef), (36, .undef), (37, .undef), (38, .undef), (39, .undef), (40, .undef), (41, .undef), (42, .undef), (43, .undef), (44, .undef), (98, .undef), (99, .undef), (100, .undef), (101, .undef), (102, .undef), (103, .undef), (104, .undef), (105, .undef), (106, .undef), (107, .undef), (108, .undef), (109, .undef), (110, .undef), (111, .undef), (112, .undef), (123, .undef), (124, .undef), (125, .undef), (126, .undef), (127, .undef), (128, .undef), (129, .undef), (130, .undef), (131, .undef), (132, .undef), (133, .undef), (134, .undef), (135, .undef), (136, .undef), (137, .undef), (138, .undef), (139, .undef), (140, .undef)]) (fun y => [(260, some ⟨1, famE 264 bs.length (lnB bs), 67, .fz⟩), (257, some ⟨2, cs.map encBill, 64, .fz⟩), (258, some ⟨1, way.map encI, 3, .wr⟩), (264, some ⟨2, rowB B B.length 0, 60, .fz⟩), (265, some ⟨2, rowB B B.length 1, 60, .fz⟩), (266, some ⟨2, rowB B B.length 2, 60, .fz⟩), (267, some ⟨2, rowB B B.length 3, 60, .fz⟩), (268, some ⟨2, rowB B B.length 4, 60, .fz⟩), (269, some ⟨2, rowB B B.length 5, 60, .fz⟩), (270, some ⟨2, rowB B B.length 6, 60, .fz⟩), (271, some ⟨2, rowB B B.length 7, 60, .fz⟩), (3712, some ⟨2, [[.os 260 1 bs.length false, .os 257 2 cs.length false]], 25, .wr⟩)]) (fun y => y ≤ L.length + 1) (fun y => L.length + 1 - y) 0 (fun x => by simp (maxSteps := 1000000) -implicitDefEqProofs (disch := omega) only [go_sem]; rfl) ?_ ?_ fun x hx => ?_
       · exact weak_do3 []
       · exact Nat.zero_le _
       revert x
       intro y hy
       by_cases hyl : y < L.length + 1
       · repeat' (first
           | (with_reducible apply Req_intro); focus (first | omega | assumption | (simp; done))
           | with_reducible (first | apply Req_intro | refine nilT ?_ fun hn => ?_ | apply wk_draw Tryd_mixed | refine drawEnd (by kernel_rfl) ?_)
           | (with_reducible (first | apply condA_if | apply stepDG_ifN | apply stepDG_if | apply stepG_ifN | apply stepG_if)) <;> intro hb <;> (have hif := hb) <;> (try simp only [bo] at hif) <;> (try simp -implicitDefEqProofs (disch := omega) only [go_sem, hb]) <;> clear hb
           | simp (maxSteps := 1000000) -implicitDefEqProofs (disch := omega) only [go_sem])
         all_goals first | exact absurd trivial ‹¬True› | (exfalso; omega) | omega | skip
         refine call_ownP B cs hzB hgB.nb h3 ?_ ?_
         rotate_left
         · exact hfz (by rfl) (by rfl) (fun j hj => by
           match j, hj with
           | 0, _ => rfl
           | 1, _ => rfl
           | 2, _ => rfl
           | 3, _ => rfl
           | 4, _ => rfl
           | 5, _ => rfl
           | 6, _ => rfl
           | 7, _ => rfl)
         rw [ownRowsN]
         repeat' (first
           | (with_reducible apply Req_intro); focus (first | omega | assumption | (simp; done))
           | with_reducible (first | apply Req_intro | refine nilT ?_ fun hn => ?_ | apply wk_draw Tryd_mixed | refine drawEnd (by kernel_rfl) ?_)
           | (with_reducible (first | apply condA_if | apply stepDG_ifN | apply stepDG_if | apply stepG_ifN | apply stepG_if)) <;> intro hb <;> (have hif := hb) <;> (try simp only [bo] at hif) <;> (try simp -implicitDefEqProofs (disch := omega) only [go_sem, hb]) <;> clear hb
           | simp (maxSteps := 1000000) -implicitDefEqProofs (disch := omega) only [go_sem])
         all_goals first | exact absurd trivial ‹¬True› | (exfalso; omega) | omega | skip
         refine loop_rows (α := Nat) [4, 21, 22, 149, 150, 151, 152, 153, 154, 155, 156, 157, 158, 159, 160, 161, 162, 163, 164, 165, 166, 167, 168, 169, 170, 171, 172, 173, 174, 175, 176, 177, 178, 179, 180, 181, 182, 183, 184, 185, 186, 187, 188, 189, 190, 191, 192, 193, 194, 195, 196, 197, 198, 199, 200, 201, 202, 203, 204, 205, 206, 207, 208, 209, 210, 211, 212, 213, 214, 215, 216] (fun i => [(21, .lit (.int .i64 i)), (141, .undef), (142, .undef), (143, .undef), (144, .undef), (145, .undef), (146, .undef), (147, .undef), (148, .undef)]) (fun i => [(260, some ⟨1, famE 264 bs.length (lnB bs), 67, .fz⟩), (257, some ⟨2, cs.map encBill, 64, .fz⟩), (258, some ⟨1, way.map encI, 3, .wr⟩), (264, some ⟨2, rowB B B.length 0, 60, .fz⟩), (265, some ⟨2, rowB B B.length 1, 60, .fz⟩), (266, some ⟨2, rowB B B.length 2, 60, .fz⟩), (267, some ⟨2, rowB B B.length 3, 60, .fz⟩), (268, some ⟨2, rowB B B.length 4, 60, .fz⟩), (269, some ⟨2, rowB B B.length 5, 60, .fz⟩), (270, some ⟨2, rowB B B.length 6, 60, .fz⟩), (271, some ⟨2, rowB B B.length 7, 60, .fz⟩), (3712, some ⟨2, [[.os 260 1 bs.length false, .os 257 2 cs.length false]], 25, .wr⟩), (7745, some ⟨1, famE 7752 B.length (lnB B), 67, .wr⟩), (7746, some ⟨2, famC 7760 cs.length (ctC cs) (lnC cs), 64, .wr⟩), (7752, some ⟨2, rowB (wideTo B L ((y : Int) - 1) i) (wideTo B L ((y : Int) - 1) i).length 0, 60, .wr⟩), (7753, some ⟨2, rowB (wideTo B L ((y : Int) - 1) i) (wideTo B L ((y : Int) - 1) i).length 1, 60, .wr⟩), (7754, some ⟨2, rowB (wideTo B L ((y : Int) - 1) i) (wideTo B L ((y : Int) - 1) i).length 2, 60, .wr⟩), (7755, some ⟨2, rowB (wideTo B L ((y : Int) - 1) i) (wideTo B L ((y : Int) - 1) i).length 3, 60, .wr⟩), (7756, some ⟨2, rowB (wideTo B L ((y : Int) - 1) i) (wideTo B L ((y : Int) - 1) i).length 4, 60, .wr⟩), (7757, some ⟨2, rowB (wideTo B L ((y : Int) - 1) i) (wideTo B L ((y : Int) - 1) i).length 5, 60, .wr⟩), (7758, some ⟨2, rowB (wideTo B L ((y : Int) - 1) i) (wideTo B L ((y : Int) - 1) i).length 6, 60, .wr⟩), (7759, some ⟨2, rowB (wideTo B L ((y : Int) - 1) i) (wideTo B L ((y : Int) - 1) i).length 7, 60, .wr⟩), (7760, some ⟨2, rowC cs cs.length 0, 60, .wr⟩), (7761, some ⟨2, rowC cs cs.length 1, 60, .wr⟩), (7762, some ⟨2, rowC cs cs.length 2, 60, .wr⟩), (9024, some ⟨2, [[.os 7745 1 B.length false, .os 7746 2 cs.length false]], 25, .wr⟩)]) (fun i => i ≤ L.length) (fun i => L.length - i) 0 (fun x => by simp (maxSteps := 1000000) -implicitDefEqProofs (disch := omega) only [go_sem]; rfl) ?_ ?_ fun x hx => ?_
         · simp only [wideTo]
           exact weak_do3 []
         · exact Nat.zero_le _
         rename Nat => t
         rename t ≤ L.length => ht
         by_cases htl : t < L.length
         · have hWl : (wideTo B L ((y : Int) - 1) t).length = B.length := wideTo_len t
           obtain ⟨g1, g2, g3⟩ := hw1 t htl
           obtain ⟨w, hwv⟩ : ∃ w : Nat, L.getD t default = w := ⟨(L.getD t default).toNat, by omega⟩
           rw [hwv] at g1 g2 g3
           have hwB : w < B.length := by omega
           have hwt : (L.getD t default).toNat = w := by omega
           have hpre : 0 < t → L.getD ((t : Int) - 1).toNat default < w := fun h => by
             rw [show ((t : Int) - 1).toNat = t - 1 from by omega]; exact g3 h
           have hbox : ((wideTo B L ((y : Int) - 1) t).getD w default).length = stuffs cs := by rw [wideTo_boxlen]; exact hgB.lb _ (getD_mem hwB)
           have hlnB : lnB B w = stuffs cs := hgB.lb _ (getD_mem hwB)
           have hsame : (t : Int) = (y : Int) - 1 → wideTo B L ((y : Int) - 1) (t + 1) = wideTo B L ((y : Int) - 1) t := fun h => by rw [wideTo, if_pos h]
           have hnext : (t : Int) ≠ (y : Int) - 1 → wideTo B L ((y : Int) - 1) (t + 1) = (wideTo B L ((y : Int) - 1) t).set w (List.replicate (stuffs cs) (0, 1000)) := fun h => by rw [wideTo, if_neg h, hwt, hbox]
           generalize wideTo B L ((y : Int) - 1) t = W at *
           have hzero := fun j => spRow_zero (bs := W) (i := w) (by rw [hWl]; exact hwB) (0, 1000) j
           have hfull : ∀ j, rowB (W.set w (List.replicate (stuffs cs) (0, 1000))) (W.set w (List.replicate (stuffs cs) (0, 1000))).length j = spRow W w (0, 1000) (stuffs cs) j := fun j => by
             rw [← hbox, spRow_full (by rw [hWl]; exact hwB)]
           repeat' (first
             | (with_reducible apply Req_intro); focus (first | omega | assumption | (simp; done))
             | with_reducible (first | apply Req_intro | refine nilT ?_ fun hn => ?_ | apply wk_draw Tryd_mixed | refine drawEnd (by kernel_rfl) ?_)
             | (with_reducible (first | apply condA_if | apply stepDG_ifN | apply stepDG_if | apply stepG_ifN | apply stepG_if)) <;> intro hb <;> (have hif := hb) <;> (try simp only [bo] at hif) <;> (try simp -implicitDefEqProofs (disch := omega) only [go_sem, hb, hwv]) <;> clear hb
             | simp (maxSteps := 1000000) -implicitDefEqProofs (disch := omega) only [go_sem, hwv])
           all_goals first | exact absurd trivial ‹¬True› | (exfalso; omega) | omega | skip
           all_goals clear g1 g2 g3
           · revert W w t y j L b B M i base
             exact hTail1.h
           · revert W w t y j L b B M i base
             exact hTail2.h
         · obtain rfl : t = L.length := by omega
           have hwg : Good (wideTo B L ((y : Int) - 1) L.length) cs := wideTo_good hgB (fun m hm => by have := hw1 m hm; omega)
           have hwz := hwg.size
           have hpur : ∀ {h : Hp}, h 7745 = some ⟨1, famE 7752 B.length (lnB B), 67, .fz⟩ → h 7746 = some ⟨2, famC 7760 cs.length (ctC cs) (lnC cs), 64, .fz⟩ → (∀ j, j < 8 → h (7752 + j) = some ⟨2, rowB (wideTo B L ((y : Int) - 1) L.length) (wideTo B L ((y : Int) - 1) L.length).length j, 60, .fz⟩) → (∀ j, j < 3 → h (7760 + j) = some ⟨2, rowC cs cs.length j, 60, .fz⟩) →
               PurI true h [.agg [.os 7745 1 B.length false, .os 7746 2 cs.length false]] [encLoad (wideTo B L ((y : Int) - 1) L.length) cs] := fun {h} q1 q2 q3 q4 =>
             own_pur (n := 7744) (ln := lnB B) (lc := lnC cs) (ct := ctC cs) (wideTo_len _) rfl q1 q2 (fun j hj => (wideTo_boxlen j _).symm) (fun _ _ => rfl) (fun _ _ => rfl) (fun j hj => by
               rw [q3 j (by have := hgB.nb; omega), rowB, if_pos (by rw [wideTo_len]; exact hj)]) (fun j hj => by
               rw [q4 j (by omega), rowC, if_pos hj])
           repeat' (first
             | (with_reducible apply Req_intro); focus (first | omega | assumption | (simp; done))
             | with_reducible (first | apply Req_intro | refine nilT ?_ fun hn => ?_ | apply wk_draw Tryd_mixed | refine drawEnd (by kernel_rfl) ?_)
             | (with_reducible (first | apply condA_if | apply stepDG_ifN | apply stepDG_if | apply stepG_ifN | apply stepG_if)) <;> intro hb <;> (have hif := hb) <;> (try simp only [bo] at hif) <;> (try simp -implicitDefEqProofs (disch := omega) only [go_sem, hb]) <;> clear hb
             | simp (maxSteps := 1000000) -implicitDefEqProofs (disch := omega) only [go_sem])
           all_goals first | exact absurd trivial ‹¬True› | (exfalso; omega) | omega | skip
           rcases Nat.eq_zero_or_pos y with hy0 | hy0
           · subst hy0
             by_cases hAw : allW (wideTo B L (((0 : Nat) : Int) - 1) L.length) cs = []
             · have hWn := Ways_no _ cs hwz.fits 9 (.none (check_of_good hwg) hAw)
               have hsf : smallB cs = false := by
                 cases hsb : smallB cs with
                 | false => rfl
                 | true =>
                   refine absurd hAw (hw3 fun c hc x hx => ?_)
                   have := List.all_eq_true.1 (List.all_eq_true.1 hsb c hc) x hx
                   simpa using this
               have hsm := small_spec B cs hzB
               rw [hsf] at hsm
               refine callf [7745, 7746, 7752, 7753, 7754, 7755, 7756, 7757, 7758, 7759, 7760, 7761, 7762] hWn ?_ (hp := ?_)
               rotate_left
               · exact hpur (by rfl) (by rfl) (fun j hj => by
           match j, hj with
           | 0, _ => rfl
           | 1, _ => rfl
           | 2, _ => rfl
           | 3, _ => rfl
           | 4, _ => rfl
           | 5, _ => rfl
           | 6, _ => rfl
           | 7, _ => rfl) (fun j hj => by
           match j, hj with
           | 0, _ => rfl
           | 1, _ => rfl
           | 2, _ => rfl)
               try simp (maxSteps := 1000000) -implicitDefEqProofs (disch := omega) only [go_sem]
               repeat' (first
                 | (with_reducible apply Req_intro); focus (first | omega | assumption | (simp; done))
                 | with_reducible (first | apply Req_intro | refine nilT ?_ fun hn => ?_ | apply wk_draw Tryd_mixed | refine drawEnd (by kernel_rfl) ?_)
                 | (with_reducible (first | apply condA_if | apply stepDG_ifN | apply stepDG_if | apply stepG_ifN | apply stepG_if)) <;> intro hb <;> (have hif := hb) <;> (try simp only [bo] at hif) <;> (try simp -implicitDefEqProofs (disch := omega) only [go_sem, hb]) <;> clear hb
                 | simp (maxSteps := 1000000) -implicitDefEqProofs (disch := omega) only [go_sem])
               all_goals first | exact absurd trivial ‹¬True› | (exfalso; omega) | omega | skip
               refine callf [260, 257, 264, 265, 266, 267, 268, 269, 270, 271] hsm ?_ (hp := ?_)
               rotate_left
               · exact hfz (by rfl) (by rfl) (fun j hj => by
           match j, hj with
           | 0, _ => rfl
           | 1, _ => rfl
           | 2, _ => rfl
           | 3, _ => rfl
           | 4, _ => rfl
           | 5, _ => rfl
           | 6, _ => rfl
           | 7, _ => rfl)
               try simp (maxSteps := 1000000) -implicitDefEqProofs (disch := omega) only [go_sem]
               repeat' (first
                 | (with_reducible apply Req_intro); focus (first | omega | assumption | (simp; done))
                 | with_reducible (first | apply Req_intro | refine nilT ?_ fun hn => ?_ | apply wk_draw Tryd_mixed | refine drawEnd (by kernel_rfl) ?_)
                 | (with_reducible (first | apply condA_if | apply stepDG_ifN | apply stepDG_if | apply stepG_ifN | apply stepG_if)) <;> intro hb <;> (have hif := hb) <;> (try simp only [bo] at hif) <;> (try simp -implicitDefEqProofs (disch := omega) only [go_sem, hb]) <;> clear hb
                 | simp (maxSteps := 1000000) -implicitDefEqProofs (disch := omega) only [go_sem])
               all_goals first | exact absurd trivial ‹¬True› | (exfalso; omega) | omega | skip
               with_reducible refine nxt_w (0 + 1) ?_ ?_
               · (try dsimp only)
                 skip
                 exact weak_do3 []
               try dsimp only
               omega
             · have hWn := Ways_ok _ cs hwz.fits (check_of_good hwg) hAw
               refine callf [7745, 7746, 7752, 7753, 7754, 7755, 7756, 7757, 7758, 7759, 7760, 7761, 7762] hWn ?_ (hp := ?_)
               rotate_left
               · exact hpur (by rfl) (by rfl) (fun j hj => by
           match j, hj with
           | 0, _ => rfl
           | 1, _ => rfl
           | 2, _ => rfl
           | 3, _ => rfl
           | 4, _ => rfl
           | 5, _ => rfl
           | 6, _ => rfl
           | 7, _ => rfl) (fun j hj => by
           match j, hj with
           | 0, _ => rfl
           | 1, _ => rfl
           | 2, _ => rfl)
               try simp (maxSteps := 1000000) -implicitDefEqProofs (disch := omega) only [go_sem]
               repeat' (first
                 | (with_reducible apply Req_intro); focus (first | omega | assumption | (simp; done))
                 | with_reducible (first | apply Req_intro | refine nilT ?_ fun hn => ?_ | apply wk_draw Tryd_mixed | refine drawEnd (by kernel_rfl) ?_)
                 | (with_reducible (first | apply condA_if | apply stepDG_ifN | apply stepDG_if | apply stepG_ifN | apply stepG_if)) <;> intro hb <;> (have hif := hb) <;> (try simp only [bo] at hif) <;> (try simp -implicitDefEqProofs (disch := omega) only [go_sem, hb]) <;> clear hb
                 | simp (maxSteps := 1000000) -implicitDefEqProofs (disch := omega) only [go_sem])
               all_goals first | exact absurd trivial ‹¬True› | (exfalso; omega) | omega | skip
               with_reducible refine nxt_w (0 + 1) ?_ ?_
               · (try dsimp only)
                 skip
                 exact weak_do3 []
               try dsimp only
               omega
           · have hAw := hw4 (y - 1) (by omega)
             rw [show ((y - 1 : Nat) : Int) = (y : Int) - 1 from by omega] at hAw
             have hWn := Ways_no _ cs hwz.fits 9 (.none (check_of_good hwg) hAw)
             refine callf [7745, 7746, 7752, 7753, 7754, 7755, 7756, 7757, 7758, 7759, 7760, 7761, 7762] hWn ?_ (hp := ?_)
             rotate_left
             · exact hpur (by rfl) (by rfl) (fun j hj => by
           match j, hj with
           | 0, _ => rfl
           | 1, _ => rfl
           | 2, _ => rfl
           | 3, _ => rfl
           | 4, _ => rfl
           | 5, _ => rfl
           | 6, _ => rfl
           | 7, _ => rfl) (fun j hj => by
           match j, hj with
           | 0, _ => rfl
           | 1, _ => rfl
           | 2, _ => rfl)
             try simp (maxSteps := 1000000) -implicitDefEqProofs (disch := omega) only [go_sem]
             repeat' (first
               | (with_reducible apply Req_intro); focus (first | omega | assumption | (simp; done))
               | with_reducible (first | apply Req_intro | refine nilT ?_ fun hn => ?_ | apply wk_draw Tryd_mixed | refine drawEnd (by kernel_rfl) ?_)
               | (with_reducible (first | apply condA_if | apply stepDG_ifN | apply stepDG_if | apply stepG_ifN | apply stepG_if)) <;> intro hb <;> (have hif := hb) <;> (try simp only [bo] at hif) <;> (try simp -implicitDefEqProofs (disch := omega) only [go_sem, hb]) <;> clear hb
               | simp (maxSteps := 1000000) -implicitDefEqProofs (disch := omega) only [go_sem])
             all_goals first | exact absurd trivial ‹¬True› | (exfalso; omega) | omega | skip
             with_reducible refine nxt_w (y + 1) ?_ ?_
             · (try dsimp only)
               skip
               exact weak_do3 []
             try dsimp only
             omega
       · obtain rfl : y = L.length + 1 := by omega
         repeat' (first
           | (with_reducible apply Req_intro); focus (first | omega | assumption | (simp; done))
           | with_reducible (first | apply Req_intro | refine nilT ?_ fun hn => ?_ | apply wk_draw Tryd_mixed | refine drawEnd (by kernel_rfl) ?_)
           | (with_reducible (first | apply condA_if | apply stepDG_ifN | apply stepDG_if | apply stepG_ifN | apply stepG_if)) <;> intro hb <;> (have hif := hb) <;> (try simp only [bo] at hif) <;> (try simp -implicitDefEqProofs (disch := omega) only [go_sem, hb]) <;> clear hb
           | simp (maxSteps := 1000000) -implicitDefEqProofs (disch := omega) only [go_sem])
         all_goals first | exact absurd trivial ‹¬True› | (exfalso; omega) | omega | skip
         refine callp known_spec ?_
         try simp (maxSteps := 1000000) -implicitDefEqProofs (disch := omega) only [go_sem]
         repeat' (first
           | (with_reducible apply Req_intro); focus (first | omega | assumption | (simp; done))
           | with_reducible (first | apply Req_intro | refine nilT ?_ fun hn => ?_ | apply wk_draw Tryd_mixed | refine drawEnd (by kernel_rfl) ?_)
           | (with_reducible (first | apply condA_if | apply stepDG_ifN | apply stepDG_if | apply stepG_ifN | apply stepG_if)) <;> intro hb <;> (have hif := hb) <;> (try simp only [bo] at hif) <;> (try simp -implicitDefEqProofs (disch := omega) only [go_sem, hb]) <;> clear hb
           | simp (maxSteps := 1000000) -implicitDefEqProofs (disch := omega) only [go_sem])
         refine ret_do ?_
         rfl
     · have hWg := Ways_ok B cs hzB.fits (check_of_good hgB) hA
       have hWr := Wrong_twice B cs hzB.fits (check_of_good hgB) hA
       refine callp hWr ?_
       try simp (maxSteps := 1000000) -implicitDefEqProofs (disch := omega) only [go_sem]
       repeat' (first
         | (with_reducible apply Req_intro); focus (first | omega | assumption | (simp; done))
         | with_reducible (first | apply Req_intro | refine nilT ?_ fun hn => ?_ | apply wk_draw Tryd_mixed | refine drawEnd (by kernel_rfl) ?_)
         | (with_reducible (first | apply condA_if | apply stepDG_ifN | apply stepDG_if | apply stepG_ifN | apply stepG_if)) <;> intro hb <;> (have hif := hb) <;> (try simp only [bo] at hif) <;> (try simp -implicitDefEqProofs (disch := omega) only [go_sem, hb]) <;> clear hb
         | simp (maxSteps := 1000000) -implicitDefEqProofs (disch := omega) only [go_sem])
       all_goals first | exact absurd trivial ‹¬True› | (exfalso; omega) | omega | skip
       refine callf [260, 257, 264, 265, 266, 267, 268, 269, 270, 271] hown ?_ (hp := ?_)
       rotate_left
       · exact hfz (by rfl) (by rfl) (fun j hj => by
           match j, hj with
           | 0, _ => rfl
           | 1, _ => rfl
           | 2, _ => rfl
           | 3, _ => rfl
           | 4, _ => rfl
           | 5, _ => rfl
           | 6, _ => rfl
           | 7, _ => rfl)
       try simp (maxSteps := 1000000) -implicitDefEqProofs (disch := omega) only [go_sem]
       repeat' (first
         | (with_reducible apply Req_intro); focus (first | omega | assumption | (simp; done))
         | with_reducible (first | apply Req_intro | refine nilT ?_ fun hn => ?_ | apply wk_draw Tryd_mixed | refine drawEnd (by kernel_rfl) ?_)
         | (with_reducible (first | apply condA_if | apply stepDG_ifN | apply stepDG_if | apply stepG_ifN | apply stepG_if)) <;> intro hb <;> (have hif := hb) <;> (try simp only [bo] at hif) <;> (try simp -implicitDefEqProofs (disch := omega) only [go_sem, hb]) <;> clear hb
         | simp (maxSteps := 1000000) -implicitDefEqProofs (disch := omega) only [go_sem])
       refine callp hWg ?_
       try simp (maxSteps := 1000000) -implicitDefEqProofs (disch := omega) only [go_sem]
       repeat' (first
         | (with_reducible apply Req_intro); focus (first | omega | assumption | (simp; done))
         | with_reducible (first | apply Req_intro | refine nilT ?_ fun hn => ?_ | apply wk_draw Tryd_mixed | refine drawEnd (by kernel_rfl) ?_)
         | (with_reducible (first | apply condA_if | apply stepDG_ifN | apply stepDG_if | apply stepG_ifN | apply stepG_if)) <;> intro hb <;> (have hif := hb) <;> (try simp only [bo] at hif) <;> (try simp -implicitDefEqProofs (disch := omega) only [go_sem, hb]) <;> clear hb
         | simp (maxSteps := 1000000) -implicitDefEqProofs (disch := omega) only [go_sem])
       all_goals first | exact absurd trivial ‹¬True› | (exfalso; omega) | omega | skip
       refine callp known_spec ?_
       try simp (maxSteps := 1000000) -implicitDefEqProofs (disch := omega) only [go_sem]
       repeat' (first
         | (with_reducible apply Req_intro); focus (first | omega | assumption | (simp; done))
         | with_reducible (first | apply Req_intro | refine nilT ?_ fun hn => ?_ | apply wk_draw Tryd_mixed | refine drawEnd (by kernel_rfl) ?_)
         | (with_reducible (first | apply condA_if | apply stepDG_ifN | apply stepDG_if | apply stepG_ifN | apply stepG_if)) <;> intro hb <;> (have hif := hb) <;> (try simp only [bo] at hif) <;> (try simp -implicitDefEqProofs (disch := omega) only [go_sem, hb]) <;> clear hb
         | simp (maxSteps := 1000000) -implicitDefEqProofs (disch := omega) only [go_sem])
       refine ret_do ?_
       rfl
end Go.Aw
end
