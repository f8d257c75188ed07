/-
  A part of the proof that a law returns true for every input that the given row speaks of: an own verified walk over the program (namespace Go.Aw), contracts of the functions that the law calls, and the law itself. Conditions: those of the given row, no other.
-/
import Derived.Test.YtofoildhohgngaaDoorPart6
set_option linter.unusedVariables false
set_option linter.unusedSimpArgs false
section
set_option maxRecDepth 20000
set_option maxHeartbeats 16000000
namespace Go.Aw
open Go.RowKit Go.Proofs
noncomputable def spoilt_cutA (bx : List B5) (ca st b0 b1 b2 b3 b4 b5 : Int) (sp : List B3) (hsl : sp.length ≤ 4611686018427387904) (hsp : ∀ v ∈ sp, v.ok) (hcase : sp.length ≤ 3) (bs : List Box) (cs : List Bill) (way : List Int) (held : List (List Int))
   (h0 : checkR bs cs = 0) (hmem : way ∈ allW bs cs) (h2 : stuffs cs ≤ 2) (hT : Truth bs cs way held) (hn1 : 1 ≤ bs.length)
   (hmade : ∀ {first args cap : List V} {dst : Option Tmp} {K : St → Prop} {tm : List V} {l : List (Nat × Option Blk)} {x : Nat} {gh : Gh},
       K ⟨putT tm dst (.tup [.agg [.os (x + 68) 1 bs.length false, .os (x + 65) 2 cs.length false], .os (x + 66) 1 bs.length false, .os (x + 67) 1 bs.length false]), hpOf (fun _ => none) (l ++ madeRowsN x bs cs way held), x + 3200, gh⟩ →
       first ++ args ++ cap = [.agg (innC bx ca st b0 b1 b2 b3 b4 b5)] → CallA Tryd.prog (.fn (.func 37) first cap) args dst K ⟨tm, hpOf (fun _ => none) l, x, gh⟩) :
   Split (Ct Tryd.prog 13 [.agg (innC bx ca st b0 b1 b2 b3 b4 b5), .sl 3 (sp.map encT) false] (.lit (.bool true))) := by
 apply Split.mk
 case h =>
   intro hTail
   have hg := good_of_check h0
   have h8 := hg.nb
   have h3 := hg.nc
   have h1 := hg.n1
   have hs3 := hg.st
   have hok := allW_ok bs cs
   have hwl : way.length = bs.length := (hok _ hmem).1
   refine fn_enter Tryd.func13 rfl (by decide) Tryd.results13 Tryd.ntmps13 ?_ rfl (by simp (maxSteps := 1000000) -implicitDefEqProofs (disch := omega) only [go_sem]; rfl) fun base => ?_
   · first | assumption | (simp only [go_sem] <;> assumption) | (simp only [go_sem, *]; done) | (simp [go_sem]; done)
   repeat' (first
     | (with_reducible apply Req_intro); focus (first | omega | assumption | (simp; done))
     | with_reducible (first | apply Req_intro | refine nilT ?_ fun hn => ?_ | apply wk_draw Tryd_mixed | refine drawEnd (by kernel_rfl) ?_)
     | (with_reducible (first | apply condA_if | apply stepDG_ifN | apply stepDG_if | apply stepG_ifN | apply stepG_if)) <;> intro hb <;> (have hif := hb) <;> (try simp only [bo] at hif) <;> (try simp -implicitDefEqProofs (disch := omega) only [go_sem, hb]) <;> clear hb
     | simp (maxSteps := 1000000) -implicitDefEqProofs (disch := omega) only [go_sem])
   refine hmade ?_ (by first | (simp only [go_sem]; done) | (simp only [go_sem]; rfl))
   rw [madeRowsN]
   repeat' (first
     | (with_reducible apply Req_intro); focus (first | omega | assumption | (simp; done))
     | with_reducible (first | apply Req_intro | refine nilT ?_ fun hn => ?_ | apply wk_draw Tryd_mixed | refine drawEnd (by kernel_rfl) ?_)
     | (with_reducible (first | apply condA_if | apply stepDG_ifN | apply stepDG_if | apply stepG_ifN | apply stepG_if)) <;> intro hb <;> (have hif := hb) <;> (try simp only [bo] at hif) <;> (try simp -implicitDefEqProofs (disch := omega) only [go_sem, hb]) <;> clear hb
     | simp (maxSteps := 1000000) -implicitDefEqProofs (disch := omega) only [go_sem])
   all_goals first | exact absurd trivial ‹¬True› | (exfalso; omega) | omega | skip
   refine loop_rows (α := Nat) [8, 9, 10, 11, 12, 32, 33, 34, 35, 36, 37, 38, 39, 40, 41, 42, 43, 44, 45, 46, 47, 48, 49, 50, 51, 52, 53, 54, 55, 56, 57, 58, 59, 60, 61, 62, 63, 64, 65, 66, 67, 68, 69, 70, 71, 72, 73, 74, 75, 76, 77, 78, 79, 80, 81, 82, 83, 84, 85, 86, 87, 88, 89, 90, 91, 92, 93, 94, 95, 96, 97] (fun i => [(9, .lit (.int .i64 i)), (8, .lit (.int .i64 (setTo sp bs.length i))), (0, .undef), (2, .undef), (7, .undef), (26, .undef), (27, .undef), (28, .undef), (29, .undef), (30, .undef), (31, .undef)]) (fun i => [(260, some ⟨1, famE 264 bs.length (lnB bs), 67, .wr⟩), (257, some ⟨2, cs.map encBill, 64, .wr⟩), (258, some ⟨1, way.map encI, 3, .wr⟩), (264, some ⟨2, rowB (spTo bs sp i) (spTo bs sp i).length 0, 60, .wr⟩), (265, some ⟨2, rowB (spTo bs sp i) (spTo bs sp i).length 1, 60, .wr⟩), (266, some ⟨2, rowB (spTo bs sp i) (spTo bs sp i).length 2, 60, .wr⟩), (267, some ⟨2, rowB (spTo bs sp i) (spTo bs sp i).length 3, 60, .wr⟩), (268, some ⟨2, rowB (spTo bs sp i) (spTo bs sp i).length 4, 60, .wr⟩), (269, some ⟨2, rowB (spTo bs sp i) (spTo bs sp i).length 5, 60, .wr⟩), (270, some ⟨2, rowB (spTo bs sp i) (spTo bs sp i).length 6, 60, .wr⟩), (271, some ⟨2, rowB (spTo bs sp i) (spTo bs sp i).length 7, 60, .wr⟩), (3712, some ⟨2, [[.os 260 1 bs.length false, .os 257 2 cs.length false]], 25, .wr⟩)]) (fun i => i ≤ sp.length ∧ i ≤ 3) (fun i => sp.length - i) 0 (fun x => by simp (maxSteps := 1000000) -implicitDefEqProofs (disch := omega) only [go_sem]; rfl) ?_ ?_ fun x hx => ?_
   · simp only [spTo, setTo]
     exact weak_do3 []
   · exact ⟨Nat.zero_le _, Nat.zero_le _⟩
   revert x
   rintro i ⟨hi1, hi2⟩
   have hBl : (spTo bs sp i).length = bs.length := spTo_len i
   have hsl8 := setTo_lt (sp := sp) hn1 i
   have h256 : setTo sp bs.length i < 256 := Nat.lt_of_lt_of_le hsl8 (Nat.le_trans (Nat.pow_le_pow_right (by decide) h8) (by decide))
   by_cases hlt : i < sp.length ∧ i < 3
   · obtain ⟨hlt1, hlt2⟩ := hlt
     obtain ⟨v1, v2, v3⟩ := hsp _ (getD_mem hlt1)
     unfold okU at v1 v2 v3
     have hix := ixS_eq hn1 (sp.getD i default)
     have hnl := ixS_lt hn1 (sp.getD i default)
     have hset : setTo sp bs.length (i + 1) = setTo sp bs.length i ||| 2 ^ ixS bs.length (sp.getD i default) := rfl
     have hbox := spTo_boxlen (sp := sp) hg hn1 i hnl
     have hfull : ∀ j, rowB (spTo bs sp (i + 1)) (spTo bs sp (i + 1)).length j = spRow (spTo bs sp i) (ixS bs.length (sp.getD i default)) (spS (sp.getD i default)) (stuffs cs) j := fun j => by
       rw [← hbox, spRow_full (by rw [hBl]; exact hnl)]; rfl
     have hzero := fun j => spRow_zero (bs := spTo bs sp i) (i := ixS bs.length (sp.getD i default)) (by rw [hBl]; exact hnl) (spS (sp.getD i default)) j
     have hq1 : (spS (sp.getD i default)) = ((sp.getD i default).b * 3, (sp.getD i default).b * 3 + (sp.getD i default).c % 8) := rfl
     generalize hv : sp.getD i default = v at *
     generalize ixS bs.length v = n at *
     generalize spTo bs sp i = B at *
     generalize setTo sp bs.length i = M at *
     generalize spS v = q at *
     obtain ⟨o1, o2, o3⟩ := or_all M h256 n (by omega)
     have hpm := pow_min (n := n) (by omega)
     generalize (2 : Nat) ^ n = pn at *
     repeat' (first
       | (with_reducible apply Req_intro); focus (first | omega | assumption | (simp; done))
       | with_reducible (first | apply Req_intro | refine nilT ?_ fun hn => ?_ | apply wk_draw Tryd_mixed | refine drawEnd (by kernel_rfl) ?_)
       | (with_reducible (first | apply condA_if | apply stepDG_ifN | apply stepDG_if | apply stepG_ifN | apply stepG_if)) <;> intro hb <;> (have hif := hb) <;> (try simp only [bo] at hif) <;> (try simp -implicitDefEqProofs (disch := omega) only [go_sem, hb, hv, hix, hpm, o1]) <;> clear hb
       | simp (maxSteps := 1000000) -implicitDefEqProofs (disch := omega) only [go_sem, hv, hix, hpm, o1])
     all_goals first | exact absurd trivial ‹¬True› | (exfalso; omega) | omega | skip
     refine loop_rows (α := Nat) [11, 12, 61, 62, 63, 64, 65, 66, 67, 68, 69, 70, 71, 72, 73, 74, 75, 76, 77, 78, 79, 80, 81, 82, 83, 84, 85, 86, 87, 88, 89, 90, 91, 92, 93, 94, 95, 96, 97] (fun k => [(11, .lit (.int .i64 k)), (32, .undef), (33, .undef), (34, .undef), (35, .undef), (36, .undef), (37, .undef), (38, .undef), (39, .undef), (40, .undef), (41, .undef), (42, .undef), (43, .undef), (44, .undef), (47, .undef), (48, .undef), (49, .undef), (50, .undef), (51, .undef), (52, .undef), (53, .undef), (54, .undef), (55, .undef), (56, .undef), (57, .undef), (58, .undef), (59, .undef), (60, .undef)]) (fun k => [(260, some ⟨1, famE 264 bs.length (lnB bs), 67, .wr⟩), (257, some ⟨2, cs.map encBill, 64, .wr⟩), (258, some ⟨1, way.map encI, 3, .wr⟩), (264, some ⟨2, spRow B n q k 0, 60, .wr⟩), (265, some ⟨2, spRow B n q k 1, 60, .wr⟩), (266, some ⟨2, spRow B n q k 2, 60, .wr⟩), (267, some ⟨2, spRow B n q k 3, 60, .wr⟩), (268, some ⟨2, spRow B n q k 4, 60, .wr⟩), (269, some ⟨2, spRow B n q k 5, 60, .wr⟩), (270, some ⟨2, spRow B n q k 6, 60, .wr⟩), (271, some ⟨2, spRow B n q k 7, 60, .wr⟩), (3712, some ⟨2, [[.os 260 1 bs.length false, .os 257 2 cs.length false]], 25, .wr⟩)]) (fun k => k ≤ stuffs cs) (fun k => stuffs cs - k) 0 (fun x => by simp (maxSteps := 1000000) -implicitDefEqProofs (disch := omega) only [go_sem]; rfl) ?_ ?_ fun x hx => ?_
     · simp only [hzero]
       exact weak_do3 []
     · exact Nat.zero_le _
     have hlnB : lnB bs n = stuffs cs := hg.lb _ (getD_mem hnl)
     by_cases hlk : x < stuffs cs
     · have hrow := spRow_at (bs := B) (i := n) (q := q) x
       have hll : (spK (B.getD n default) q x).length = stuffs cs := by rw [spK_len (by omega), hbox]
       have hstep := spK_step (b := B.getD n default) (q := q) (k := x) (by omega)
       have hnx : spRow B n q (x + 1) n = ((spK (B.getD n default) q x).set x (v.b * 3, v.b * 3 + v.c % 8)).map encS := by
         rw [spRow_at, ← hstep, hq1]
       rcases Nat.eq_or_lt_of_le (show 0 ≤ n by omega) with he | he
       · subst he
         repeat' (first
           | (with_reducible apply Req_intro); focus (first | omega | assumption | (simp; done))
           | with_reducible (first | apply Req_intro | refine nilT ?_ fun hn => ?_ | apply wk_draw Tryd_mixed | refine drawEnd (by kernel_rfl) ?_)
           | (with_reducible (first | apply condA_if | apply stepDG_ifN | apply stepDG_if | apply stepG_ifN | apply stepG_if)) <;> intro hb <;> (have hif := hb) <;> (try simp only [bo] at hif) <;> (try simp -implicitDefEqProofs (disch := omega) only [go_sem, hb, hv, hrow, hlnB, hll]) <;> clear hb
           | simp (maxSteps := 1000000) -implicitDefEqProofs (disch := omega) only [go_sem, hv, hrow, hlnB, hll])
         all_goals first | exact absurd trivial ‹¬True› | (exfalso; omega) | omega | skip
         refine calld (span_spec _ _) ?_
         try simp (maxSteps := 1000000) -implicitDefEqProofs (disch := omega) only [go_sem]
         repeat' (first
           | (with_reducible apply Req_intro); focus (first | omega | assumption | (simp; done))
           | with_reducible (first | apply Req_intro | refine nilT ?_ fun hn => ?_ | apply wk_draw Tryd_mixed | refine drawEnd (by kernel_rfl) ?_)
           | (with_reducible (first | apply condA_if | apply stepDG_ifN | apply stepDG_if | apply stepG_ifN | apply stepG_if)) <;> intro hb <;> (have hif := hb) <;> (try simp only [bo] at hif) <;> (try simp -implicitDefEqProofs (disch := omega) only [go_sem, hb, hv, hrow, hlnB, hll]) <;> clear hb
           | simp (maxSteps := 1000000) -implicitDefEqProofs (disch := omega) only [go_sem, hv, hrow, hlnB, hll])
         all_goals first | exact absurd trivial ‹¬True› | (exfalso; omega) | omega | skip
         with_reducible refine nxt_w (x + 1) ?_ ?_
         · (try dsimp only)
           rw [hnx]
           exact weak_do3 []
         try dsimp only
         omega
       rcases Nat.eq_or_lt_of_le (show 1 ≤ n by omega) with he | he
       · subst he
         repeat' (first
           | (with_reducible apply Req_intro); focus (first | omega | assumption | (simp; done))
           | with_reducible (first | apply Req_intro | refine nilT ?_ fun hn => ?_ | apply wk_draw Tryd_mixed | refine drawEnd (by kernel_rfl) ?_)
           | (with_reducible (first | apply condA_if | apply stepDG_ifN | apply stepDG_if | apply stepG_ifN | apply stepG_if)) <;> intro hb <;> (have hif := hb) <;> (try simp only [bo] at hif) <;> (try simp -implicitDefEqProofs (disch := omega) only [go_sem, hb, hv, hrow, hlnB, hll]) <;> clear hb
           | simp (maxSteps := 1000000) -implicitDefEqProofs (disch := omega) only [go_sem, hv, hrow, hlnB, hll])
         all_goals first | exact absurd trivial ‹¬True› | (exfalso; omega) | omega | skip
         refine calld (span_spec _ _) ?_
         try simp (maxSteps := 1000000) -implicitDefEqProofs (disch := omega) only [go_sem]
         repeat' (first
           | (with_reducible apply Req_intro); focus (first | omega | assumption | (simp; done))
           | with_reducible (first | apply Req_intro | refine nilT ?_ fun hn => ?_ | apply wk_draw Tryd_mixed | refine drawEnd (by kernel_rfl) ?_)
           | (with_reducible (first | apply condA_if | apply stepDG_ifN | apply stepDG_if | apply stepG_ifN | apply stepG_if)) <;> intro hb <;> (have hif := hb) <;> (try simp only [bo] at hif) <;> (try simp -implicitDefEqProofs (disch := omega) only [go_sem, hb, hv, hrow, hlnB, hll]) <;> clear hb
           | simp (maxSteps := 1000000) -implicitDefEqProofs (disch := omega) only [go_sem, hv, hrow, hlnB, hll])
         all_goals first | exact absurd trivial ‹¬True› | (exfalso; omega) | omega | skip
         with_reducible refine nxt_w (x + 1) ?_ ?_
         · (try dsimp only)
           rw [hnx]
           exact weak_do3 []
         try dsimp only
         omega
       rcases Nat.eq_or_lt_of_le (show 2 ≤ n by omega) with he | he
       · subst he
         repeat' (first
           | (with_reducible apply Req_intro); focus (first | omega | assumption | (simp; done))
           | with_reducible (first | apply Req_intro | refine nilT ?_ fun hn => ?_ | apply wk_draw Tryd_mixed | refine drawEnd (by kernel_rfl) ?_)
           | (with_reducible (first | apply condA_if | apply stepDG_ifN | apply stepDG_if | apply stepG_ifN | apply stepG_if)) <;> intro hb <;> (have hif := hb) <;> (try simp only [bo] at hif) <;> (try simp -implicitDefEqProofs (disch := omega) only [go_sem, hb, hv, hrow, hlnB, hll]) <;> clear hb
           | simp (maxSteps := 1000000) -implicitDefEqProofs (disch := omega) only [go_sem, hv, hrow, hlnB, hll])
         all_goals first | exact absurd trivial ‹¬True› | (exfalso; omega) | omega | skip
         refine calld (span_spec _ _) ?_
         try simp (maxSteps := 1000000) -implicitDefEqProofs (disch := omega) only [go_sem]
         repeat' (first
           | (with_reducible apply Req_intro); focus (first | omega | assumption | (simp; done))
           | with_reducible (first | apply Req_intro | refine nilT ?_ fun hn => ?_ | apply wk_draw Tryd_mixed | refine drawEnd (by kernel_rfl) ?_)
           | (with_reducible (first | apply condA_if | apply stepDG_ifN | apply stepDG_if | apply stepG_ifN | apply stepG_if)) <;> intro hb <;> (have hif := hb) <;> (try simp only [bo] at hif) <;> (try simp -implicitDefEqProofs (disch := omega) only [go_sem, hb, hv, hrow, hlnB, hll]) <;> clear hb
           | simp (maxSteps := 1000000) -implicitDefEqProofs (disch := omega) only [go_sem, hv, hrow, hlnB, hll])
         all_goals first | exact absurd trivial ‹¬True› | (exfalso; omega) | omega | skip
         with_reducible refine nxt_w (x + 1) ?_ ?_
         · (try dsimp only)
           rw [hnx]
           exact weak_do3 []
         try dsimp only
         omega
       rcases Nat.eq_or_lt_of_le (show 3 ≤ n by omega) with he | he
       · subst he
         repeat' (first
           | (with_reducible apply Req_intro); focus (first | omega | assumption | (simp; done))
           | with_reducible (first | apply Req_intro | refine nilT ?_ fun hn => ?_ | apply wk_draw Tryd_mixed | refine drawEnd (by kernel_rfl) ?_)
           | (with_reducible (first | apply condA_if | apply stepDG_ifN | apply stepDG_if | apply stepG_ifN | apply stepG_if)) <;> intro hb <;> (have hif := hb) <;> (try simp only [bo] at hif) <;> (try simp -implicitDefEqProofs (disch := omega) only [go_sem, hb, hv, hrow, hlnB, hll]) <;> clear hb
           | simp (maxSteps := 1000000) -implicitDefEqProofs (disch := omega) only [go_sem, hv, hrow, hlnB, hll])
         all_goals first | exact absurd trivial ‹¬True› | (exfalso; omega) | omega | skip
         refine calld (span_spec _ _) ?_
         try simp (maxSteps := 1000000) -implicitDefEqProofs (disch := omega) only [go_sem]
         repeat' (first
           | (with_reducible apply Req_intro); focus (first | omega | assumption | (simp; done))
           | with_reducible (first | apply Req_intro | refine nilT ?_ fun hn => ?_ | apply wk_draw Tryd_mixed | refine drawEnd (by kernel_rfl) ?_)
           | (with_reducible (first | apply condA_if | apply stepDG_ifN | apply stepDG_if | apply stepG_ifN | apply stepG_if)) <;> intro hb <;> (have hif := hb) <;> (try simp only [bo] at hif) <;> (try simp -implicitDefEqProofs (disch := omega) only [go_sem, hb, hv, hrow, hlnB, hll]) <;> clear hb
           | simp (maxSteps := 1000000) -implicitDefEqProofs (disch := omega) only [go_sem, hv, hrow, hlnB, hll])
         all_goals first | exact absurd trivial ‹¬True› | (exfalso; omega) | omega | skip
         with_reducible refine nxt_w (x + 1) ?_ ?_
         · (try dsimp only)
           rw [hnx]
           exact weak_do3 []
         try dsimp only
         omega
       rcases Nat.eq_or_lt_of_le (show 4 ≤ n by omega) with he | he
       · subst he
         repeat' (first
           | (with_reducible apply Req_intro); focus (first | omega | assumption | (simp; done))
           | with_reducible (first | apply Req_intro | refine nilT ?_ fun hn => ?_ | apply wk_draw Tryd_mixed | refine drawEnd (by kernel_rfl) ?_)
           | (with_reducible (first | apply condA_if | apply stepDG_ifN | apply stepDG_if | apply stepG_ifN | apply stepG_if)) <;> intro hb <;> (have hif := hb) <;> (try simp only [bo] at hif) <;> (try simp -implicitDefEqProofs (disch := omega) only [go_sem, hb, hv, hrow, hlnB, hll]) <;> clear hb
           | simp (maxSteps := 1000000) -implicitDefEqProofs (disch := omega) only [go_sem, hv, hrow, hlnB, hll])
         all_goals first | exact absurd trivial ‹¬True› | (exfalso; omega) | omega | skip
         refine calld (span_spec _ _) ?_
         try simp (maxSteps := 1000000) -implicitDefEqProofs (disch := omega) only [go_sem]
         repeat' (first
           | (with_reducible apply Req_intro); focus (first | omega | assumption | (simp; done))
           | with_reducible (first | apply Req_intro | refine nilT ?_ fun hn => ?_ | apply wk_draw Tryd_mixed | refine drawEnd (by kernel_rfl) ?_)
           | (with_reducible (first | apply condA_if | apply stepDG_ifN | apply stepDG_if | apply stepG_ifN | apply stepG_if)) <;> intro hb <;> (have hif := hb) <;> (try simp only [bo] at hif) <;> (try simp -implicitDefEqProofs (disch := omega) only [go_sem, hb, hv, hrow, hlnB, hll]) <;> clear hb
           | simp (maxSteps := 1000000) -implicitDefEqProofs (disch := omega) only [go_sem, hv, hrow, hlnB, hll])
         all_goals first | exact absurd trivial ‹¬True› | (exfalso; omega) | omega | skip
         with_reducible refine nxt_w (x + 1) ?_ ?_
         · (try dsimp only)
           rw [hnx]
           exact weak_do3 []
         try dsimp only
         omega
       rcases Nat.eq_or_lt_of_le (show 5 ≤ n by omega) with he | he
       · subst he
         repeat' (first
           | (with_reducible apply Req_intro); focus (first | omega | assumption | (simp; done))
           | with_reducible (first | apply Req_intro | refine nilT ?_ fun hn => ?_ | apply wk_draw Tryd_mixed | refine drawEnd (by kernel_rfl) ?_)
           | (with_reducible (first | apply condA_if | apply stepDG_ifN | apply stepDG_if | apply stepG_ifN | apply stepG_if)) <;> intro hb <;> (have hif := hb) <;> (try simp only [bo] at hif) <;> (try simp -implicitDefEqProofs (disch := omega) only [go_sem, hb, hv, hrow, hlnB, hll]) <;> clear hb
           | simp (maxSteps := 1000000) -implicitDefEqProofs (disch := omega) only [go_sem, hv, hrow, hlnB, hll])
         all_goals first | exact absurd trivial ‹¬True› | (exfalso; omega) | omega | skip
         refine calld (span_spec _ _) ?_
         try simp (maxSteps := 1000000) -implicitDefEqProofs (disch := omega) only [go_sem]
         repeat' (first
           | (with_reducible apply Req_intro); focus (first | omega | assumption | (simp; done))
           | with_reducible (first | apply Req_intro | refine nilT ?_ fun hn => ?_ | apply wk_draw Tryd_mixed | refine drawEnd (by kernel_rfl) ?_)
           | (with_reducible (first | apply condA_if | apply stepDG_ifN | apply stepDG_if | apply stepG_ifN | apply stepG_if)) <;> intro hb <;> (have hif := hb) <;> (try simp only [bo] at hif) <;> (try simp -implicitDefEqProofs (disch := omega) only [go_sem, hb, hv, hrow, hlnB, hll]) <;> clear hb
           | simp (maxSteps := 1000000) -implicitDefEqProofs (disch := omega) only [go_sem, hv, hrow, hlnB, hll])
         all_goals first | exact absurd trivial ‹¬True› | (exfalso; omega) | omega | skip
         with_reducible refine nxt_w (x + 1) ?_ ?_
         · (try dsimp only)
           rw [hnx]
           exact weak_do3 []
         try dsimp only
         omega
       rcases Nat.eq_or_lt_of_le (show 6 ≤ n by omega) with he | he
       · subst he
         repeat' (first
           | (with_reducible apply Req_intro); focus (first | omega | assumption | (simp; done))
           | with_reducible (first | apply Req_intro | refine nilT ?_ fun hn => ?_ | apply wk_draw Tryd_mixed | refine drawEnd (by kernel_rfl) ?_)
           | (with_reducible (first | apply condA_if | apply stepDG_ifN | apply stepDG_if | apply stepG_ifN | apply stepG_if)) <;> intro hb <;> (have hif := hb) <;> (try simp only [bo] at hif) <;> (try simp -implicitDefEqProofs (disch := omega) only [go_sem, hb, hv, hrow, hlnB, hll]) <;> clear hb
           | simp (maxSteps := 1000000) -implicitDefEqProofs (disch := omega) only [go_sem, hv, hrow, hlnB, hll])
         all_goals first | exact absurd trivial ‹¬True› | (exfalso; omega) | omega | skip
         refine calld (span_spec _ _) ?_
         try simp (maxSteps := 1000000) -implicitDefEqProofs (disch := omega) only [go_sem]
         repeat' (first
           | (with_reducible apply Req_intro); focus (first | omega | assumption | (simp; done))
           | with_reducible (first | apply Req_intro | refine nilT ?_ fun hn => ?_ | apply wk_draw Tryd_mixed | refine drawEnd (by kernel_rfl) ?_)
           | (with_reducible (first | apply condA_if | apply stepDG_ifN | apply stepDG_if | apply stepG_ifN | apply stepG_if)) <;> intro hb <;> (have hif := hb) <;> (try simp only [bo] at hif) <;> (try simp -implicitDefEqProofs (disch := omega) only [go_sem, hb, hv, hrow, hlnB, hll]) <;> clear hb
           | simp (maxSteps := 1000000) -implicitDefEqProofs (disch := omega) only [go_sem, hv, hrow, hlnB, hll])
         all_goals first | exact absurd trivial ‹¬True› | (exfalso; omega) | omega | skip
         with_reducible refine nxt_w (x + 1) ?_ ?_
         · (try dsimp only)
           rw [hnx]
           exact weak_do3 []
         try dsimp only
         omega
       rcases Nat.eq_or_lt_of_le (show 7 ≤ n by omega) with he | he
       · subst he
         repeat' (first
           | (with_reducible apply Req_intro); focus (first | omega | assumption | (simp; done))
           | with_reducible (first | apply Req_intro | refine nilT ?_ fun hn => ?_ | apply wk_draw Tryd_mixed | refine drawEnd (by kernel_rfl) ?_)
           | (with_reducible (first | apply condA_if | apply stepDG_ifN | apply stepDG_if | apply stepG_ifN | apply stepG_if)) <;> intro hb <;> (have hif := hb) <;> (try simp only [bo] at hif) <;> (try simp -implicitDefEqProofs (disch := omega) only [go_sem, hb, hv, hrow, hlnB, hll]) <;> clear hb
           | simp (maxSteps := 1000000) -implicitDefEqProofs (disch := omega) only [go_sem, hv, hrow, hlnB, hll])
         all_goals first | exact absurd trivial ‹¬True› | (exfalso; omega) | omega | skip
         refine calld (span_spec _ _) ?_
         try simp (maxSteps := 1000000) -implicitDefEqProofs (disch := omega) only [go_sem]
         repeat' (first
           | (with_reducible apply Req_intro); focus (first | omega | assumption | (simp; done))
           | with_reducible (first | apply Req_intro | refine nilT ?_ fun hn => ?_ | apply wk_draw Tryd_mixed | refine drawEnd (by kernel_rfl) ?_)
           | (with_reducible (first | apply condA_if | apply stepDG_ifN | apply stepDG_if | apply stepG_ifN | apply stepG_if)) <;> intro hb <;> (have hif := hb) <;> (try simp only [bo] at hif) <;> (try simp -implicitDefEqProofs (disch := omega) only [go_sem, hb, hv, hrow, hlnB, hll]) <;> clear hb
           | simp (maxSteps := 1000000) -implicitDefEqProofs (disch := omega) only [go_sem, hv, hrow, hlnB, hll])
         all_goals first | exact absurd trivial ‹¬True› | (exfalso; omega) | omega | skip
         with_reducible refine nxt_w (x + 1) ?_ ?_
         · (try dsimp only)
           rw [hnx]
           exact weak_do3 []
         try dsimp only
         omega
       omega
     · obtain rfl : x = stuffs cs := by omega
       repeat' (first
         | (with_reducible apply Req_intro); focus (first | omega | assumption | (simp; done))
         | with_reducible (first | apply Req_intro | refine nilT ?_ fun hn => ?_ | apply wk_draw Tryd_mixed | refine drawEnd (by kernel_rfl) ?_)
         | (with_reducible (first | apply condA_if | apply stepDG_ifN | apply stepDG_if | apply stepG_ifN | apply stepG_if)) <;> intro hb <;> (have hif := hb) <;> (try simp only [bo] at hif) <;> (try simp -implicitDefEqProofs (disch := omega) only [go_sem, hb, hlnB]) <;> clear hb
         | simp (maxSteps := 1000000) -implicitDefEqProofs (disch := omega) only [go_sem, hlnB])
       all_goals first | exact absurd trivial ‹¬True› | (exfalso; omega) | omega | skip
       with_reducible refine nxt_w (i + 1) ?_ ?_
       · (try dsimp only)
         (simp only [hfull]; rw [hset])
         exact weak_do3 []
       try dsimp only
       omega
   · repeat' (first
       | (with_reducible apply Req_intro); focus (first | omega | assumption | (simp; done))
       | with_reducible (first | apply Req_intro | refine nilT ?_ fun hn => ?_ | apply wk_draw Tryd_mixed | refine drawEnd (by kernel_rfl) ?_)
       | (with_reducible (first | apply condA_if | apply stepDG_ifN | apply stepDG_if | apply stepG_ifN | apply stepG_if)) <;> intro hb <;> (have hif := hb) <;> (try simp only [bo] at hif) <;> (try simp -implicitDefEqProofs (disch := omega) only [go_sem, hb]) <;> clear hb
       | simp (maxSteps := 1000000) -implicitDefEqProofs (disch := omega) only [go_sem])
     all_goals first | exact absurd trivial ‹¬True› | (exfalso; omega) | omega | skip
     clear hlt
     have hgB := spTo_good (cs := cs) hg hn1 hsp hi1
     have hpB := isPos_of hgB (w := way) (by rw [hBl]; exact hwl) ((allW_iff hg.pos way).1 hmem).2.1 (wayR_spoilt (sp := sp) hg hn1 hT hmem i)
     have hlB : ∀ j, j < bs.length → lnB bs j = ((spTo bs sp i).getD j default).length := fun j hj => by rw [spTo_boxlen hg hn1 i hj]; exact hg.lb _ (getD_mem hj)
     generalize setTo sp bs.length i = M at *
     generalize spTo bs sp i = B at *
     clear hi1 hi2
     revert hgB
     revert hpB
     revert hlB
     revert h256
     revert hsl8
     revert hBl
     revert B
     revert M
     revert i
     revert base
     exact hTail.h
end Go.Aw
end
