/-
  A part of the proof that a law returns true for every input that the given row speaks of: an own verified walk over the program (namespace Go.Aw), contracts of the functions that the law calls, and the law itself. Conditions: those of the given row, no other.
-/
import Derived.Test.YtebdecfnimdhmaaPart8
set_option linter.unusedVariables false
set_option linter.unusedSimpArgs false
section
set_option maxRecDepth 20000
set_option maxHeartbeats 4000000
namespace Go.Aw
open Go.RowKit Go.Proofs
theorem two_succ (x : Nat) : 2 * (x + 1) = 2 * x + 2 := rfl
theorem bookH_enc (bx : List (Int × Int)) (x : Nat) : (bookH bx (x + 1)).map encEn = (bookH bx x).map encEn ++ [[.lit (.int .i64 x), .lit (.int .i64 1), .lit (.int .i64 0), .lit (.int .i64 (outN (bx.getD x default)))], [.lit (.int .i64 x), .lit (.int .i64 2), .lit (.int .i64 0), .lit (.int .i64 (bckN (bx.getD x default)))]] := by
 rw [bookH, List.map_append]; rfl
@[go_sem] theorem take_map_En (l : List Entry) (n : Nat) (h : l.length = n) : (l.map encEn).take n = l.map encEn := List.take_of_length_le (by simp; omega)
@[go_sem] theorem rowOk_2x4 (a b c d e f g h : V) : rowOk [[a, b, c, d], [e, f, g, h]] = (((a.cell = true ∧ b.cell = true ∧ c.cell = true ∧ d.cell = true) ∧ e.cell = true ∧ f.cell = true ∧ g.cell = true ∧ h.cell = true)) := by simp [rowOk]
noncomputable def home_cut (rb : List Int) (bx : List (Int × Int)) (e : Bool) (f : Nat) (hr : Byt rb) (hb : ∀ x ∈ bx, BxOk x) (hf : f ≤ 255) (hl : bx.length ≤ 4611686018427387904) (hp0 : 0 < min bx.length 6) :
   SplitQ (Ct Try.prog 4 [.agg (bytC rb), .sl 2 (bx.map encBy) e, u8r f] (.lit (.bool true))) := by
 apply SplitQ.mk
 intro hTail
 obtain ⟨h61, hby⟩ := id hr
 refine fn_enter Try.func4 rfl (by decide) Try.results4 Try.ntmps4 ?_ rfl (by simp (maxSteps := 1000000) -implicitDefEqProofs (disch := omega) only [go_sem]; rfl) fun base => ?_
 · first | assumption | (simp only [go_sem] <;> assumption) | (simp only [go_sem, *]; done) | (simp [go_sem]; done)
 repeat' (first
   | (with_reducible apply Req_intro); focus (first | omega | assumption | (simp; done))
   | with_reducible (first | apply Req_intro | refine nilT ?_ fun hn => ?_ | apply wk_draw Try_mixed | refine drawEnd (by kernel_rfl) ?_)
   | (with_reducible (first | apply condA_if | apply stepDG_ifN | apply stepDG_if | apply stepG_ifN | apply stepG_if)) <;> intro hb <;> (have hif := hb) <;> (try simp only [bo] at hif) <;> (try simp -implicitDefEqProofs (disch := omega) only [go_sem, hb]) <;> clear hb
   | simp (maxSteps := 1000000) -implicitDefEqProofs (disch := omega) only [go_sem])
 all_goals first | (exfalso; omega) | omega | skip
 refine loop_rows (α := Nat) (27 :: 28 :: 29 :: 30 :: 31 :: 32 :: 33 :: [8, 9, 10, 11, 12, 13, 14, 34, 35, 36, 37, 38, 39, 40, 41, 42, 43, 44, 45, 46, 47, 48, 49, 50, 51, 52, 53, 54, 55, 56, 57, 58, 59, 60, 61, 62, 63, 64, 65, 66, 67, 68, 69, 70, 71, 72, 73, 74, 75, 76, 77, 78, 79, 80, 81]) (fun i => [(8, .os 4 4 (2 * i) false), (9, .os 1 1 i false), (10, .os 2 1 i false), (11, .os 3 1 i false), (12, .lit (.int .i64 i))]) (fun i => [(0, some ⟨61, [bytC rb], 27, .wr⟩), (448, some ⟨3, [houseC], 53, .wr⟩), (1, some ⟨1, (brH bx i).map encI, 3, .wr⟩), (2, some ⟨1, (feH bx i).map encI, 3, .wr⟩), (3, some ⟨1, (allN i).map encI, 3, .wr⟩), (4, some ⟨4, (bookH bx i).map encEn, 57, .wr⟩)]) (fun i => i ≤ min bx.length 6) (fun i => min bx.length 6 - i) 0 (fun x => by simp (maxSteps := 1000000) -implicitDefEqProofs (disch := omega) only [go_sem]; rfl) ?_ ?_ fun x hx => ?_
 · simp only [brH, feH, allN, bookH, List.take_zero, List.range_zero, List.map_nil]
   refine weak_snapRow [192, 256] 448 (es' := [houseC]) (by first | (simp only [go_sem]; done) | (simp only [go_sem]; rfl)) (by rfl) ?_ (by first | assumption | (simp only [go_sem] <;> assumption) | (simp only [go_sem, *]; done) | (simp [go_sem]; done)) (by first | (simp only [go_sem]; done) | (simp only [go_sem]; rfl)) ?_
   · simp only [houseC]
     (try simp (maxSteps := 1000000) -implicitDefEqProofs (disch := omega) only [go_sem])
     repeat' (first
       | with_reducible (first | exact PurI.nil | exact Pur.nilsl _ _ | exact PurE.nil)
       | (with_reducible (first | refine PurI.puL ?_ | refine PurE.puE ?_)) <;> (first | assumption | (simp only [go_sem] <;> assumption) | (simp only [go_sem, *]; done) | (simp [go_sem]; done))
       | with_reducible apply PurI.cons
       | (with_reducible refine Pur.pu _ ?_) <;> (first | assumption | (simp only [go_sem] <;> assumption) | (simp only [go_sem, *]; done) | (simp [go_sem]; done))
       | ((with_reducible apply Pur.refR) <;> (first | rfl | decide | (simp only [go_sem]; omega) | (simp only [go_sem]) | skip))
       | ((with_reducible apply Pur.osR) <;> (first | rfl | exact fun h => h | omega | (simp; omega) | (simp; done) | (simp only [go_sem]) | skip))
       | with_reducible (first | apply Pur.fnI | apply Pur.aggI | apply PurE.cons)
       | (with_reducible refine PurI.eqL ?_ ?_); (focus rfl); (focus (first | assumption | (simp only [go_sem] <;> assumption) | (simp only [go_sem, *]; done) | (simp [go_sem]; done)))
       | simp (maxSteps := 1000000) -implicitDefEqProofs (disch := omega) only [go_sem])
   exact weak_do3 [(1, 640), (2, 704), (3, 768), (4, 384)]
 · exact Nat.zero_le _
 by_cases hlt : x < min bx.length 6
 · have hxl : x < bx.length := by omega
   have h6 : x < 6 := by omega
   have hbb := hb _ (getD_mem hxl)
   have hba := hbb.a
   have hbc := hbb.b
   have h1 := brH_len (bx := bx) (i := x) (by omega)
   have h2 := feH_len (bx := bx) (i := x) (by omega)
   have h3 := allN_len x
   have h4 := bookH_len bx x
   have h5 := outN_bd (bx.getD x default)
   have h7 := bckN_bd (bx.getD x default)
   have e1 : (bx.getD x default).1 % 101 = outN (bx.getD x default) := rfl
   have e2 : (bx.getD x default).2 % (outN (bx.getD x default) + 1) = bckN (bx.getD x default) := rfl
   repeat' (first
     | (with_reducible apply Req_intro); focus (first | omega | assumption | (simp; done))
     | with_reducible (first | apply Req_intro | refine nilT ?_ fun hn => ?_ | apply wk_draw Try_mixed | refine drawEnd (by kernel_rfl) ?_)
     | (with_reducible (first | apply condA_if | apply stepDG_ifN | apply stepDG_if | apply stepG_ifN | apply stepG_if)) <;> intro hb <;> (have hif := hb) <;> (try simp only [bo] at hif) <;> (try simp -implicitDefEqProofs (disch := omega) only [go_sem, hb, e1, e2]) <;> clear hb
     | simp (maxSteps := 1000000) -implicitDefEqProofs (disch := omega) only [go_sem, e1, e2])
   all_goals first | (exfalso; omega) | omega | exact ⟨by omega, by omega⟩ | skip
   with_reducible refine nxt_w (x + 1) ?_ ?_
   · (try dsimp only)
     rw [brH_succ hxl, feH_succ hxl, allN_succ, bookH_enc, two_succ]
     exact weak_do3 [(1, 2944), (2, 3200), (3, 3520), (4, 4288)]
   try dsimp only
   omega
 obtain rfl : x = min bx.length 6 := by omega
 generalize hn : min bx.length 6 = n at hlt hx ⊢
 have hn1 : n ≤ bx.length := by omega
 have hn6 : n ≤ 6 := by omega
 have hlb := brH_len hn1
 have hlf := feH_len hn1
 have hal := allN_len n
 have hlk := bookH_len bx n
 have hpt : 0 < n := hn ▸ hp0
 have hts := task_spec rb (brH bx n) (feH bx n) false false 1000 hr (by omega) (by omega)
 have hok := taskR_ok (holds := 1000) hr (by omega : (brH bx n).length ≤ 6) (by omega : (feH bx n).length = _) brH_rg feH_rg (by omega)
 have hps := taskR_n rb (brH bx n) (feH bx n) 1000
 have hdl := home_loads (rb := rb) (bx := bx) (f := f) (holds := 1000) hn1
 generalize taskR rb (brH bx n) (feH bx n) 1000 = T at *
 have hord : OrdOk T.ps.length (rotR (allN n) f) := by rw [hps, hlb]; exact (allN_ord n).rot f
 have hrl : (rotR (allN n) f).length = n := by rw [rotR_len, hal]
 have hlo := Load_spec T hok (rotR (allN n) f) false hord (fun h => by rw [h] at hrl; simp at hrl; omega)
 have hlen : ((roads T (rotR (allN n) f)).map Leg.load).length = n + 1 := by rw [List.length_map, roads_length, hrl]
 generalize (roads T (rotR (allN n) f)).map Leg.load = loads at *
 have hoo := oakOrder_spec (allN n) false f (by omega) hf
 generalize rotR (allN n) f = o at *
 have hli := Lies_spec (bookH bx n) false (book_ok bx n hn6)
 rw [show homeS (bookH bx n) 6 = diffH bx n from by rw [homeS_book, Nat.min_eq_right hn6]] at hli
 have hdb := diffH_bd bx n
 refine cutG (A := ?A) (fun key => ?main) ?tail
 case main =>
   repeat' (first
     | (with_reducible apply Req_intro); focus (first | omega | assumption | (simp; done))
     | with_reducible (first | apply Req_intro | refine nilT ?_ fun hn => ?_ | apply wk_draw Try_mixed | refine drawEnd (by kernel_rfl) ?_)
     | (with_reducible (first | apply condA_if | apply stepDG_ifN | apply stepDG_if | apply stepG_ifN | apply stepG_if)) <;> intro hb <;> (have hif := hb) <;> (try simp only [bo] at hif) <;> (try simp -implicitDefEqProofs (disch := omega) only [go_sem, hb]) <;> clear hb
     | simp (maxSteps := 1000000) -implicitDefEqProofs (disch := omega) only [go_sem])
   all_goals first | (exfalso; omega) | omega | skip
   · refine callf [1, 2] hts ?_
     try simp (maxSteps := 1000000) -implicitDefEqProofs (disch := omega) only [go_sem]
     repeat' (first
       | (with_reducible apply Req_intro); focus (first | omega | assumption | (simp; done))
       | with_reducible (first | apply Req_intro | refine nilT ?_ fun hn => ?_ | apply wk_draw Try_mixed | refine drawEnd (by kernel_rfl) ?_)
       | (with_reducible (first | apply condA_if | apply stepDG_ifN | apply stepDG_if | apply stepG_ifN | apply stepG_if)) <;> intro hb <;> (have hif := hb) <;> (try simp only [bo] at hif) <;> (try simp -implicitDefEqProofs (disch := omega) only [go_sem, hb]) <;> clear hb
       | simp (maxSteps := 1000000) -implicitDefEqProofs (disch := omega) only [go_sem])
     all_goals first | (exfalso; omega) | omega | skip
     refine calldf 3 hoo ?_
     try simp (maxSteps := 1000000) -implicitDefEqProofs (disch := omega) only [go_sem]
     repeat' (first
       | (with_reducible apply Req_intro); focus (first | omega | assumption | (simp; done))
       | with_reducible (first | apply Req_intro | refine nilT ?_ fun hn => ?_ | apply wk_draw Try_mixed | refine drawEnd (by kernel_rfl) ?_)
       | (with_reducible (first | apply condA_if | apply stepDG_ifN | apply stepDG_if | apply stepG_ifN | apply stepG_if)) <;> intro hb <;> (have hif := hb) <;> (try simp only [bo] at hif) <;> (try simp -implicitDefEqProofs (disch := omega) only [go_sem, hb]) <;> clear hb
       | simp (maxSteps := 1000000) -implicitDefEqProofs (disch := omega) only [go_sem])
     refine calld hlo ?_
     try simp (maxSteps := 1000000) -implicitDefEqProofs (disch := omega) only [go_sem]
     repeat' (first
       | (with_reducible apply Req_intro); focus (first | omega | assumption | (simp; done))
       | with_reducible (first | apply Req_intro | refine nilT ?_ fun hn => ?_ | apply wk_draw Try_mixed | refine drawEnd (by kernel_rfl) ?_)
       | (with_reducible (first | apply condA_if | apply stepDG_ifN | apply stepDG_if | apply stepG_ifN | apply stepG_if)) <;> intro hb <;> (have hif := hb) <;> (try simp only [bo] at hif) <;> (try simp -implicitDefEqProofs (disch := omega) only [go_sem, hb]) <;> clear hb
       | simp (maxSteps := 1000000) -implicitDefEqProofs (disch := omega) only [go_sem])
     all_goals first | (exfalso; omega) | omega | skip
     refine calldf 2880 hli ?_
     try simp (maxSteps := 1000000) -implicitDefEqProofs (disch := omega) only [go_sem]
     repeat' (first
       | (with_reducible apply Req_intro); focus (first | omega | assumption | (simp; done))
       | with_reducible (first | apply Req_intro | refine nilT ?_ fun hn => ?_ | apply wk_draw Try_mixed | refine drawEnd (by kernel_rfl) ?_)
       | (with_reducible (first | apply condA_if | apply stepDG_ifN | apply stepDG_if | apply stepG_ifN | apply stepG_if)) <;> intro hb <;> (have hif := hb) <;> (try simp only [bo] at hif) <;> (try simp -implicitDefEqProofs (disch := omega) only [go_sem, hb]) <;> clear hb
       | simp (maxSteps := 1000000) -implicitDefEqProofs (disch := omega) only [go_sem])
     all_goals first | (exfalso; omega) | omega | skip
     refine loop_rows (α := Nat) (34 :: 35 :: 36 :: 37 :: 38 :: 39 :: 40 :: 41 :: 82 :: 83 :: 84 :: 85 :: 86 :: 87 :: 88 :: 89 :: 90 :: 91 :: 92 :: 93 :: 94 :: 95 :: 96 :: 97 :: 98 :: 99 :: 100 :: 101 :: 102 :: 103 :: 104 :: 105 :: 106 :: 107 :: 108 :: 109 :: 110 :: 111 :: 112 :: 113 :: 114 :: 115 :: 116 :: 117 :: 118 :: 119 :: 120 :: 121 :: 122 :: 123 :: 124 :: 125 :: 126 :: 127 :: 128 :: 129 :: 130 :: 131 :: 132 :: 133 :: [6, 22, 23, 24, 25, 134, 135, 136, 137, 138, 139, 140, 141, 142, 143, 144, 145, 146, 147, 148, 149, 150, 151, 152, 153, 154, 155, 156, 157, 158, 159, 160, 161, 162, 163, 164, 165, 166, 167, 168, 169, 170, 171, 172, 173, 174, 175, 176, 177, 178, 179, 180, 181, 182, 183, 184, 185, 186]) (fun i => [(6, .lit (.bool false)), (22, .lit (.int .i64 (diffH bx i))), (23, .lit (.int .i64 i))]) (fun i => [(448, some ⟨3, [houseC], 53, .wr⟩), (1, some ⟨1, (brH bx n).map encI, 3, .fz⟩), (2, some ⟨1, (feH bx n).map encI, 3, .fz⟩), (3, some ⟨1, (allN n).map encI, 3, .fz⟩), (4, some ⟨4, (bookH bx n).map encEn, 57, .wr⟩), (3328, some ⟨2, [[int (diffH bx n), int (diffH bx n)]], 33, .wr⟩)]) (fun i => i ≤ n) (fun i => n - i) 0 (fun x => by simp (maxSteps := 1000000) -implicitDefEqProofs (disch := omega) only [go_sem]; rfl) ?_ ?_ fun x hx => ?_
     · simp only [diffH]
       exact weak_do3 []
     · exact Nat.zero_le _
     clear hif
     revert x
     exact key trivial
   · refine callf [1, 2] hts ?_
     try simp (maxSteps := 1000000) -implicitDefEqProofs (disch := omega) only [go_sem]
     repeat' (first
       | (with_reducible apply Req_intro); focus (first | omega | assumption | (simp; done))
       | with_reducible (first | apply Req_intro | refine nilT ?_ fun hn => ?_ | apply wk_draw Try_mixed | refine drawEnd (by kernel_rfl) ?_)
       | (with_reducible (first | apply condA_if | apply stepDG_ifN | apply stepDG_if | apply stepG_ifN | apply stepG_if)) <;> intro hb <;> (have hif := hb) <;> (try simp only [bo] at hif) <;> (try simp -implicitDefEqProofs (disch := omega) only [go_sem, hb]) <;> clear hb
       | simp (maxSteps := 1000000) -implicitDefEqProofs (disch := omega) only [go_sem])
     all_goals first | (exfalso; omega) | omega | skip
     refine calldf 3 hoo ?_
     try simp (maxSteps := 1000000) -implicitDefEqProofs (disch := omega) only [go_sem]
     repeat' (first
       | (with_reducible apply Req_intro); focus (first | omega | assumption | (simp; done))
       | with_reducible (first | apply Req_intro | refine nilT ?_ fun hn => ?_ | apply wk_draw Try_mixed | refine drawEnd (by kernel_rfl) ?_)
       | (with_reducible (first | apply condA_if | apply stepDG_ifN | apply stepDG_if | apply stepG_ifN | apply stepG_if)) <;> intro hb <;> (have hif := hb) <;> (try simp only [bo] at hif) <;> (try simp -implicitDefEqProofs (disch := omega) only [go_sem, hb]) <;> clear hb
       | simp (maxSteps := 1000000) -implicitDefEqProofs (disch := omega) only [go_sem])
     refine calld hlo ?_
     try simp (maxSteps := 1000000) -implicitDefEqProofs (disch := omega) only [go_sem]
     repeat' (first
       | (with_reducible apply Req_intro); focus (first | omega | assumption | (simp; done))
       | with_reducible (first | apply Req_intro | refine nilT ?_ fun hn => ?_ | apply wk_draw Try_mixed | refine drawEnd (by kernel_rfl) ?_)
       | (with_reducible (first | apply condA_if | apply stepDG_ifN | apply stepDG_if | apply stepG_ifN | apply stepG_if)) <;> intro hb <;> (have hif := hb) <;> (try simp only [bo] at hif) <;> (try simp -implicitDefEqProofs (disch := omega) only [go_sem, hb]) <;> clear hb
       | simp (maxSteps := 1000000) -implicitDefEqProofs (disch := omega) only [go_sem])
     all_goals first | (exfalso; omega) | omega | skip
     refine calldf 2880 hli ?_
     try simp (maxSteps := 1000000) -implicitDefEqProofs (disch := omega) only [go_sem]
     repeat' (first
       | (with_reducible apply Req_intro); focus (first | omega | assumption | (simp; done))
       | with_reducible (first | apply Req_intro | refine nilT ?_ fun hn => ?_ | apply wk_draw Try_mixed | refine drawEnd (by kernel_rfl) ?_)
       | (with_reducible (first | apply condA_if | apply stepDG_ifN | apply stepDG_if | apply stepG_ifN | apply stepG_if)) <;> intro hb <;> (have hif := hb) <;> (try simp only [bo] at hif) <;> (try simp -implicitDefEqProofs (disch := omega) only [go_sem, hb]) <;> clear hb
       | simp (maxSteps := 1000000) -implicitDefEqProofs (disch := omega) only [go_sem])
     all_goals first | (exfalso; omega) | omega | skip
     refine loop_rows (α := Nat) (34 :: 35 :: 36 :: 37 :: 38 :: 39 :: 40 :: 41 :: 82 :: 83 :: 84 :: 85 :: 86 :: 87 :: 88 :: 89 :: 90 :: 91 :: 92 :: 93 :: 94 :: 95 :: 96 :: 97 :: 98 :: 99 :: 100 :: 101 :: 102 :: 103 :: 104 :: 105 :: 106 :: 107 :: 108 :: 109 :: 110 :: 111 :: 112 :: 113 :: 114 :: 115 :: 116 :: 117 :: 118 :: 119 :: 120 :: 121 :: 122 :: 123 :: 124 :: 125 :: 126 :: 127 :: 128 :: 129 :: 130 :: 131 :: 132 :: 133 :: [6, 22, 23, 24, 25, 134, 135, 136, 137, 138, 139, 140, 141, 142, 143, 144, 145, 146, 147, 148, 149, 150, 151, 152, 153, 154, 155, 156, 157, 158, 159, 160, 161, 162, 163, 164, 165, 166, 167, 168, 169, 170, 171, 172, 173, 174, 175, 176, 177, 178, 179, 180, 181, 182, 183, 184, 185, 186]) (fun i => [(6, .lit (.bool false)), (22, .lit (.int .i64 (diffH bx i))), (23, .lit (.int .i64 i))]) (fun i => [(448, some ⟨3, [houseC], 53, .wr⟩), (1, some ⟨1, (brH bx n).map encI, 3, .fz⟩), (2, some ⟨1, (feH bx n).map encI, 3, .fz⟩), (3, some ⟨1, (allN n).map encI, 3, .fz⟩), (4, some ⟨4, (bookH bx n).map encEn, 57, .wr⟩), (3328, some ⟨2, [[int (diffH bx n), int (diffH bx n)]], 33, .wr⟩)]) (fun i => i ≤ n) (fun i => n - i) 0 (fun x => by simp (maxSteps := 1000000) -implicitDefEqProofs (disch := omega) only [go_sem]; rfl) ?_ ?_ fun x hx => ?_
     · simp only [diffH]
       exact weak_do3 []
     · exact Nat.zero_le _
     clear hif
     revert x
     exact key trivial
 clear hli hoo hlo hord hts hok hps hdb
 revert hdl
 revert hlen
 revert loads
 clear hrl
 revert o
 revert T
 clear hlb hlf hal hlk
 revert hpt
 revert hn6
 revert hn1
 clear hn
 revert n
 revert base
 exact hTail.h
end Go.Aw
end
