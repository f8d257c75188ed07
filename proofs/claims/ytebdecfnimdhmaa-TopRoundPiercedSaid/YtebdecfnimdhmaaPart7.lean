/-
  A part of the proof that a law returns true for every input that the given row speaks of: an own verified walk over the program (namespace Go.Aw), contracts of the functions that the law calls, and the law itself. Conditions: those of the given row, no other.
-/
import Derived.Test.YtebdecfnimdhmaaPart6
set_option linter.unusedVariables false
set_option linter.unusedSimpArgs false
section
set_option maxRecDepth 20000
set_option maxHeartbeats 4000000
namespace Go.Aw
open Go.RowKit Go.Proofs
def enc8 (x : Int) : List V := [u8r x]
@[go_sem] theorem enc8_eq (x : Int) : enc8 x = [u8r x] := rfl
structure SplitQ (P : Prop) where
 G : Prop
 h : TlS G → P
noncomputable def pier_cut (rb bx : List Int) (v : Int × Int) (e : Bool) (hr : Byt rb) (hb : ∀ x ∈ bx, 0 ≤ x ∧ x ≤ 255) (hv : BxOk v) (hl : bx.length ≤ 4611686018427387904) (hp0 : 0 < min bx.length 6) :
   SplitQ (Ct Try.prog 3 [.agg (bytC rb), .sl 1 (bx.map enc8) e, .agg (encBy v)] (.lit (.bool true))) := by
 apply SplitQ.mk
 intro hTail
 obtain ⟨h61, hby⟩ := id hr
 have hva := hv.a
 have hvb := hv.b
 refine fn_enter Try.func3 rfl (by decide) Try.results3 Try.ntmps3 ?_ rfl (by simp (maxSteps := 1000000) -implicitDefEqProofs (disch := omega) only [go_sem]; rfl) fun base => ?_
 · first | assumption | (simp only [go_sem] <;> assumption) | (simp only [go_sem, *]; done) | (simp [go_sem]; done)
 repeat' (first
   | (with_reducible apply Req_intro); focus (first | omega | assumption | (simp; done))
   | with_reducible (first | apply Req_intro | refine nilT ?_ fun hn => ?_ | apply wk_draw Try_mixed | refine drawEnd (by kernel_rfl) ?_)
   | (with_reducible (first | apply condA_if | apply stepDG_ifN | apply stepDG_if | apply stepG_ifN | apply stepG_if)) <;> intro hb <;> (have hif := hb) <;> (try simp only [bo] at hif) <;> (try simp -implicitDefEqProofs (disch := omega) only [go_sem, hb]) <;> clear hb
   | simp (maxSteps := 1000000) -implicitDefEqProofs (disch := omega) only [go_sem])
 all_goals first | (exfalso; omega) | omega | skip
 have hF : 2 ≤ 2 + v.1 % 9 ∧ 2 + v.1 % 9 ≤ 10 := by omega
 generalize 2 + v.1 % 9 = F at *
 have hK : 0 ≤ v.2 % (F + 1) ∧ v.2 % (F + 1) ≤ F := by
   have h1 := Int.emod_nonneg v.2 (show F + 1 ≠ 0 by omega)
   have h2 := Int.emod_lt_of_pos v.2 (show 0 < F + 1 by omega)
   omega
 generalize v.2 % (F + 1) = K at *
 refine loop_rows (α := Nat) (42 :: 43 :: 44 :: [6, 8, 9, 10, 11, 12, 13, 14, 15, 45, 46, 47, 48, 49, 50, 51, 52, 53, 54, 55, 56, 57, 58, 59, 60, 61, 62, 63, 64, 65, 66, 67, 68, 69, 70, 71, 72, 73, 74, 75, 76, 77, 78, 79, 80, 81, 82, 83, 84, 85, 86, 87, 88, 89, 90, 91, 92, 93, 94, 95, 96]) (fun i => [(8, .os 1 1 i false), (9, .os 2 1 i false), (10, .os 3 1 i false), (11, .lit (.int .i64 (firstN bx i))), (12, .lit (.int .i64 i))]) (fun i => [(0, some ⟨61, [bytC rb], 27, .wr⟩), (576, some ⟨2, [[int F, int K]], 30, .wr⟩), (1, some ⟨1, (brL bx i).map encI, 3, .wr⟩), (2, some ⟨1, (feL F K bx i).map encI, 3, .wr⟩), (3, some ⟨1, (allN i).map encI, 3, .wr⟩)]) (fun i => i ≤ min bx.length 6) (fun i => min bx.length 6 - i) 0 (fun x => by simp (maxSteps := 1000000) -implicitDefEqProofs (disch := omega) only [go_sem]; rfl) ?_ ?_ fun x hx => ?_
 · simp only [brL, feL, allN, List.take_zero, List.range_zero, List.map_nil]
   exact weak_do3 [(1, 1280), (2, 1344), (3, 1408)]
 · exact Nat.zero_le _
 by_cases hlt : x < min bx.length 6
 · have hxl : x < bx.length := by omega
   have h6 : x < 6 := by omega
   have hbb := hb _ (getD_mem hxl)
   have h1 := brL_len (bx := bx) (i := x) (by omega)
   have h2 := feL_len (f := F) (k := K) (bx := bx) (i := x) (by omega)
   have h3 := allN_len x
   have h4 := firstN_bd (bx := bx) x
   have h5 := breaksR_bd (n := bx.getD x default % 101) hF hK (by omega)
   repeat' (first
     | (with_reducible apply Req_intro); focus (first | omega | assumption | (simp; done))
     | with_reducible (first | apply Req_intro | refine nilT ?_ fun hn => ?_ | apply wk_draw Try_mixed | refine drawEnd (by kernel_rfl) ?_)
     | (with_reducible (first | apply condA_if | apply stepDG_ifN | apply stepDG_if | apply stepG_ifN | apply stepG_if)) <;> intro hb <;> (have hif := hb) <;> (try simp only [bo] at hif) <;> (try simp -implicitDefEqProofs (disch := omega) only [go_sem, hb]) <;> clear hb
     | simp (maxSteps := 1000000) -implicitDefEqProofs (disch := omega) only [go_sem])
   all_goals first | (exfalso; omega) | omega | skip
   refine callp (Whole_spec F K (bx.getD x default % 101) hF hK (by omega)) ?_
   try simp (maxSteps := 1000000) -implicitDefEqProofs (disch := omega) only [go_sem]
   repeat' (first
     | (with_reducible apply Req_intro); focus (first | omega | assumption | (simp; done))
     | with_reducible (first | apply Req_intro | refine nilT ?_ fun hn => ?_ | apply wk_draw Try_mixed | refine drawEnd (by kernel_rfl) ?_)
     | (with_reducible (first | apply condA_if | apply stepDG_ifN | apply stepDG_if | apply stepG_ifN | apply stepG_if)) <;> intro hb <;> (have hif := hb) <;> (try simp only [bo] at hif) <;> (try simp -implicitDefEqProofs (disch := omega) only [go_sem, hb]) <;> clear hb
     | simp (maxSteps := 1000000) -implicitDefEqProofs (disch := omega) only [go_sem])
   all_goals first | (exfalso; omega) | omega | skip
   with_reducible refine nxt_w (x + 1) ?_ ?_
   · (try dsimp only)
     rw [brL_succ hxl, feL_succ hxl, allN_succ, firstN_succ hxl]
     exact weak_do3 [(1, 4352), (2, 4672), (3, 4992)]
   try dsimp only
   omega
 obtain rfl : x = min bx.length 6 := by omega
 generalize hn : min bx.length 6 = n at hlt hx ⊢
 have hn1 : n ≤ bx.length := by omega
 have hn6 : n ≤ 6 := by omega
 have hlb := brL_len hn1
 have hlf := feL_len (f := F) (k := K) hn1
 have hfs := firstN_bd (bx := bx) n
 have hpt : 0 < n := hn ▸ hp0
 have hle : ∀ j, j < (brL bx n).length → (feL F K bx n).getD j default ≤ (brL bx n).getD j default := fun j hj => fe_le_br hF hK hn1 (by omega)
 have hgo := pier_good hr (by omega : (brL bx n).length ≤ 6) hle
 have hld := fun (i : Nat) (hi : i < (brL bx n).length + 1) => pier_loads (rb := rb) (holds := (brL bx n).sum) hle hi
 have hlf0 := pier_first (rb := rb) (br := brL bx n) (fe := feL F K bx n) (holds := (brL bx n).sum)
 have hsb := sumBr_all (rb := rb) (br := brL bx n) (fe := feL F K bx n) (holds := (brL bx n).sum - 1)
 have hts := fun (h : Int) => task_spec rb (brL bx n) (feL F K bx n) false false h hr (by omega) (by omega)
 have hok := fun (h : Int) (hh : 0 ≤ h ∧ h ≤ 1000) => taskR_ok hr (by omega : (brL bx n).length ≤ 6) (by omega : (feL F K bx n).length = _) brL_rg (feL_rg hF hK) hh
 have hps := fun (h : Int) => taskR_n rb (brL bx n) (feL F K bx n) h
 rw [hlb] at hgo hld hlf0 hsb hps
 change 0 ≤ (brL bx n).sum ∧ (brL bx n).sum ≤ _ at hfs
 unfold firstN
 have hok1 := hok (brL bx n).sum (by omega)
 have hts1 := hts (brL bx n).sum
 have hps1 := hps (brL bx n).sum
 have hho : (taskR rb (brL bx n) (feL F K bx n) (brL bx n).sum).holds = (brL bx n).sum := rfl
 generalize taskR rb (brL bx n) (feL F K bx n) (brL bx n).sum = T at *
 have hord : OrdOk T.ps.length (allN n) := by rw [hps1]; exact allN_ord n
 have hlo := Load_spec T hok1 (allN n) false hord (fun h => by have := congrArg List.length h; rw [allN_len] at this; simp at this; omega)
 have hfa := Fault_none T hok1 (allN n) false hord hgo
 have hla := Late_spec T hok1 (allN n) false hord hgo
 have hl0 : 0 ≤ lateR T (allN n) := srch_bd _ _ _ (Int.le_refl 0)
 have hal := allN_len n
 have hlen : ((roads T (allN n)).map Leg.load).length = n + 1 := by rw [List.length_map, roads_length, hal]
 generalize (roads T (allN n)).map Leg.load = loads at *
 refine cutG (A := ?A) (fun key => ?main) ?tail
 case main =>
   repeat' (first
     | (with_reducible apply Req_intro); focus (first | omega | assumption | (simp; done))
     | with_reducible (first | apply Req_intro | refine nilT ?_ fun hn => ?_ | apply wk_draw Try_mixed | refine drawEnd (by kernel_rfl) ?_)
     | (with_reducible (first | apply condA_if | apply stepDG_ifN | apply stepDG_if | apply stepG_ifN | apply stepG_if)) <;> intro hb <;> (have hif := hb) <;> (try simp only [bo] at hif) <;> (try simp -implicitDefEqProofs (disch := omega) only [go_sem, hb]) <;> clear hb
     | simp (maxSteps := 1000000) -implicitDefEqProofs (disch := omega) only [go_sem])
   all_goals first | (exfalso; omega) | omega | skip
   · refine callf [1, 2] hts1 ?_
     try simp (maxSteps := 1000000) -implicitDefEqProofs (disch := omega) only [go_sem]
     repeat' (first
       | (with_reducible apply Req_intro); focus (first | omega | assumption | (simp; done))
       | with_reducible (first | apply Req_intro | refine nilT ?_ fun hn => ?_ | apply wk_draw Try_mixed | refine drawEnd (by kernel_rfl) ?_)
       | (with_reducible (first | apply condA_if | apply stepDG_ifN | apply stepDG_if | apply stepG_ifN | apply stepG_if)) <;> intro hb <;> (have hif := hb) <;> (try simp only [bo] at hif) <;> (try simp -implicitDefEqProofs (disch := omega) only [go_sem, hb]) <;> clear hb
       | simp (maxSteps := 1000000) -implicitDefEqProofs (disch := omega) only [go_sem])
     all_goals first | (exfalso; omega) | omega | skip
     refine calldf 2944 hlo ?_
     try simp (maxSteps := 1000000) -implicitDefEqProofs (disch := omega) only [go_sem]
     repeat' (first
       | (with_reducible apply Req_intro); focus (first | omega | assumption | (simp; done))
       | with_reducible (first | apply Req_intro | refine nilT ?_ fun hn => ?_ | apply wk_draw Try_mixed | refine drawEnd (by kernel_rfl) ?_)
       | (with_reducible (first | apply condA_if | apply stepDG_ifN | apply stepDG_if | apply stepG_ifN | apply stepG_if)) <;> intro hb <;> (have hif := hb) <;> (try simp only [bo] at hif) <;> (try simp -implicitDefEqProofs (disch := omega) only [go_sem, hb]) <;> clear hb
       | simp (maxSteps := 1000000) -implicitDefEqProofs (disch := omega) only [go_sem])
     all_goals first | (exfalso; omega) | omega | skip
     refine calldf 3584 hfa ?_
     try simp (maxSteps := 1000000) -implicitDefEqProofs (disch := omega) only [go_sem]
     repeat' (first
       | (with_reducible apply Req_intro); focus (first | omega | assumption | (simp; done))
       | with_reducible (first | apply Req_intro | refine nilT ?_ fun hn => ?_ | apply wk_draw Try_mixed | refine drawEnd (by kernel_rfl) ?_)
       | (with_reducible (first | apply condA_if | apply stepDG_ifN | apply stepDG_if | apply stepG_ifN | apply stepG_if)) <;> intro hb <;> (have hif := hb) <;> (try simp only [bo] at hif) <;> (try simp -implicitDefEqProofs (disch := omega) only [go_sem, hb]) <;> clear hb
       | simp (maxSteps := 1000000) -implicitDefEqProofs (disch := omega) only [go_sem])
     all_goals first | (exfalso; omega) | omega | skip
     refine calldf 4352 hla ?_
     try simp (maxSteps := 1000000) -implicitDefEqProofs (disch := omega) only [go_sem]
     repeat' (first
       | (with_reducible apply Req_intro); focus (first | omega | assumption | (simp; done))
       | with_reducible (first | apply Req_intro | refine nilT ?_ fun hn => ?_ | apply wk_draw Try_mixed | refine drawEnd (by kernel_rfl) ?_)
       | (with_reducible (first | apply condA_if | apply stepDG_ifN | apply stepDG_if | apply stepG_ifN | apply stepG_if)) <;> intro hb <;> (have hif := hb) <;> (try simp only [bo] at hif) <;> (try simp -implicitDefEqProofs (disch := omega) only [go_sem, hb]) <;> clear hb
       | simp (maxSteps := 1000000) -implicitDefEqProofs (disch := omega) only [go_sem])
     all_goals first | (exfalso; omega) | omega | skip
     refine loop_rows (α := Nat) (45 :: 46 :: 47 :: 48 :: 49 :: 50 :: 51 :: 52 :: 97 :: 98 :: 99 :: 100 :: 101 :: 102 :: 103 :: 104 :: 105 :: 106 :: 107 :: 108 :: 109 :: 110 :: 111 :: 112 :: 113 :: 114 :: 115 :: 116 :: 117 :: 118 :: 119 :: 120 :: 121 :: 122 :: 123 :: 124 :: 125 :: 126 :: 127 :: 128 :: 129 :: 130 :: 131 :: 132 :: 133 :: 134 :: 135 :: 136 :: 137 :: 138 :: 139 :: 140 :: [6, 24, 141, 142, 143, 144, 145, 146, 147, 148, 149, 150, 151, 152, 153, 154, 155, 156, 157, 158, 159, 160, 161, 162, 163, 164]) (fun i => [(24, .lit (.int .i64 i))]) (fun i => [(0, some ⟨61, [bytC rb], 27, .wr⟩), (1, some ⟨1, (brL bx n).map encI, 3, .fz⟩), (2, some ⟨1, (feL F K bx n).map encI, 3, .fz⟩), (3, some ⟨1, (allN n).map encI, 3, .wr⟩)]) (fun i => i ≤ n + 1) (fun i => n + 1 - i) 0 (fun x => by simp (maxSteps := 1000000) -implicitDefEqProofs (disch := omega) only [go_sem]; rfl) ?_ ?_ fun x hx => ?_
     · exact weak_do3 []
     · exact Nat.zero_le _
     clear hif
     revert x
     exact key trivial
   · refine callf [1, 2] hts1 ?_
     try simp (maxSteps := 1000000) -implicitDefEqProofs (disch := omega) only [go_sem]
     repeat' (first
       | (with_reducible apply Req_intro); focus (first | omega | assumption | (simp; done))
       | with_reducible (first | apply Req_intro | refine nilT ?_ fun hn => ?_ | apply wk_draw Try_mixed | refine drawEnd (by kernel_rfl) ?_)
       | (with_reducible (first | apply condA_if | apply stepDG_ifN | apply stepDG_if | apply stepG_ifN | apply stepG_if)) <;> intro hb <;> (have hif := hb) <;> (try simp only [bo] at hif) <;> (try simp -implicitDefEqProofs (disch := omega) only [go_sem, hb]) <;> clear hb
       | simp (maxSteps := 1000000) -implicitDefEqProofs (disch := omega) only [go_sem])
     all_goals first | (exfalso; omega) | omega | skip
     refine calldf 2944 hlo ?_
     try simp (maxSteps := 1000000) -implicitDefEqProofs (disch := omega) only [go_sem]
     repeat' (first
       | (with_reducible apply Req_intro); focus (first | omega | assumption | (simp; done))
       | with_reducible (first | apply Req_intro | refine nilT ?_ fun hn => ?_ | apply wk_draw Try_mixed | refine drawEnd (by kernel_rfl) ?_)
       | (with_reducible (first | apply condA_if | apply stepDG_ifN | apply stepDG_if | apply stepG_ifN | apply stepG_if)) <;> intro hb <;> (have hif := hb) <;> (try simp only [bo] at hif) <;> (try simp -implicitDefEqProofs (disch := omega) only [go_sem, hb]) <;> clear hb
       | simp (maxSteps := 1000000) -implicitDefEqProofs (disch := omega) only [go_sem])
     all_goals first | (exfalso; omega) | omega | skip
     refine calldf 3584 hfa ?_
     try simp (maxSteps := 1000000) -implicitDefEqProofs (disch := omega) only [go_sem]
     repeat' (first
       | (with_reducible apply Req_intro); focus (first | omega | assumption | (simp; done))
       | with_reducible (first | apply Req_intro | refine nilT ?_ fun hn => ?_ | apply wk_draw Try_mixed | refine drawEnd (by kernel_rfl) ?_)
       | (with_reducible (first | apply condA_if | apply stepDG_ifN | apply stepDG_if | apply stepG_ifN | apply stepG_if)) <;> intro hb <;> (have hif := hb) <;> (try simp only [bo] at hif) <;> (try simp -implicitDefEqProofs (disch := omega) only [go_sem, hb]) <;> clear hb
       | simp (maxSteps := 1000000) -implicitDefEqProofs (disch := omega) only [go_sem])
     all_goals first | (exfalso; omega) | omega | skip
     refine calldf 4352 hla ?_
     try simp (maxSteps := 1000000) -implicitDefEqProofs (disch := omega) only [go_sem]
     repeat' (first
       | (with_reducible apply Req_intro); focus (first | omega | assumption | (simp; done))
       | with_reducible (first | apply Req_intro | refine nilT ?_ fun hn => ?_ | apply wk_draw Try_mixed | refine drawEnd (by kernel_rfl) ?_)
       | (with_reducible (first | apply condA_if | apply stepDG_ifN | apply stepDG_if | apply stepG_ifN | apply stepG_if)) <;> intro hb <;> (have hif := hb) <;> (try simp only [bo] at hif) <;> (try simp -implicitDefEqProofs (disch := omega) only [go_sem, hb]) <;> clear hb
       | simp (maxSteps := 1000000) -implicitDefEqProofs (disch := omega) only [go_sem])
     all_goals first | (exfalso; omega) | omega | skip
     refine loop_rows (α := Nat) (45 :: 46 :: 47 :: 48 :: 49 :: 50 :: 51 :: 52 :: 97 :: 98 :: 99 :: 100 :: 101 :: 102 :: 103 :: 104 :: 105 :: 106 :: 107 :: 108 :: 109 :: 110 :: 111 :: 112 :: 113 :: 114 :: 115 :: 116 :: 117 :: 118 :: 119 :: 120 :: 121 :: 122 :: 123 :: 124 :: 125 :: 126 :: 127 :: 128 :: 129 :: 130 :: 131 :: 132 :: 133 :: 134 :: 135 :: 136 :: 137 :: 138 :: 139 :: 140 :: [6, 24, 141, 142, 143, 144, 145, 146, 147, 148, 149, 150, 151, 152, 153, 154, 155, 156, 157, 158, 159, 160, 161, 162, 163, 164]) (fun i => [(24, .lit (.int .i64 i))]) (fun i => [(0, some ⟨61, [bytC rb], 27, .wr⟩), (1, some ⟨1, (brL bx n).map encI, 3, .fz⟩), (2, some ⟨1, (feL F K bx n).map encI, 3, .fz⟩), (3, some ⟨1, (allN n).map encI, 3, .wr⟩)]) (fun i => i ≤ n + 1) (fun i => n + 1 - i) 0 (fun x => by simp (maxSteps := 1000000) -implicitDefEqProofs (disch := omega) only [go_sem]; rfl) ?_ ?_ fun x hx => ?_
     · exact weak_do3 []
     · exact Nat.zero_le _
     clear hif
     revert x
     exact key trivial
 clear hlo hfa hla hl0 hord hgo hts1 hok1 hps1 hho hts hok hps hsb
 revert hlen
 revert hld
 revert hlf0
 revert loads
 revert T
 revert hn6
 revert hn1
 clear hle hfs hlb hlf hpt hal hn
 revert n
 revert hK
 revert K
 revert hF
 revert F
 revert base
 exact hTail.h
end Go.Aw
end
