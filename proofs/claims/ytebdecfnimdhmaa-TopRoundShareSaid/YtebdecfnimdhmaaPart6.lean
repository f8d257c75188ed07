/-
  A part of the proof that a law returns true for every input that the given row speaks of: an own verified walk over the program (namespace Go.Aw), contracts of the functions that the law calls, and the law itself. Conditions: those of the given row, no other.
-/
import Derived.Test.YtebdecfnimdhmaaPart5
set_option linter.unusedVariables false
set_option linter.unusedSimpArgs false
section
set_option maxRecDepth 20000
set_option maxHeartbeats 4000000
namespace Go.Aw
open Go.RowKit Go.Proofs
theorem Load_none (t : Task) (ht : TaskOk t) (e : Bool) : Ct Try.prog 9 [encT t, .sl 1 [] e] (.tup [nilV, int 0]) := by
 have ho : OrdOk t.ps.length [] := ⟨List.nodup_nil, fun x h => by cases h⟩
 refine ct_enterT Try.func9 rfl (by decide) Try.results9 Try.ntmps9 ?_ rfl (by simp (maxSteps := 1000000) -implicitDefEqProofs (disch := omega) only [go_sem]; rfl) fun base => ?_
 · first | assumption | (simp only [go_sem] <;> assumption) | (simp only [go_sem, *]; done) | (simp [go_sem]; done)
 repeat' (first
   | (with_reducible apply Req_intro); focus (first | omega | assumption | (simp; done))
   | with_reducible (first | apply Req_intro | refine nilT ?_ fun hn => ?_ | apply wk_draw Try_mixed | refine drawEnd (by kernel_rfl) ?_)
   | (with_reducible (first | apply condA_if | apply stepDG_ifN | apply stepDG_if | apply stepG_ifN | apply stepG_if)) <;> intro hb <;> (have hif := hb) <;> (try simp only [bo] at hif) <;> (try simp -implicitDefEqProofs (disch := omega) only [go_sem, hb]) <;> clear hb
   | simp (maxSteps := 1000000) -implicitDefEqProofs (disch := omega) only [go_sem])
 refine callp (openOrder_spec t ht [] e ho) ?_
 try simp (maxSteps := 1000000) -implicitDefEqProofs (disch := omega) only [go_sem]
 repeat' (first
   | (with_reducible apply Req_intro); focus (first | omega | assumption | (simp; done))
   | with_reducible (first | apply Req_intro | refine nilT ?_ fun hn => ?_ | apply wk_draw Try_mixed | refine drawEnd (by kernel_rfl) ?_)
   | (with_reducible (first | apply condA_if | apply stepDG_ifN | apply stepDG_if | apply stepG_ifN | apply stepG_if)) <;> intro hb <;> (have hif := hb) <;> (try simp only [bo] at hif) <;> (try simp -implicitDefEqProofs (disch := omega) only [go_sem, hb]) <;> clear hb
   | simp (maxSteps := 1000000) -implicitDefEqProofs (disch := omega) only [go_sem])
 all_goals first | (exfalso; exact absurd rfl ‹_›) | skip
 exact rett []
def encBy (x : Int × Int) : List V := [u8r x.1, u8r x.2]
@[go_sem] theorem encBy_eq (x : Int × Int) : encBy x = [u8r x.1, u8r x.2] := rfl
structure BxOk (x : Int × Int) : Prop where
 a : 0 ≤ x.1 ∧ x.1 ≤ 255
 b : 0 ≤ x.2 ∧ x.2 ≤ 255
def dozL (bx : List (Int × Int)) (i : Nat) : List Int := (bx.take i).map fun x => x.2 % 50
def ownL (bx : List (Int × Int)) (i : Nat) : List Int := (bx.take i).map fun x => x.1 % 2
def many6 (bx : List (Int × Int)) : Nat := min bx.length 6
theorem dozL_len {bx : List (Int × Int)} {i : Nat} (h : i ≤ bx.length) : (dozL bx i).length = i := by rw [dozL, List.length_map, List.length_take]; omega
theorem ownL_len {bx : List (Int × Int)} {i : Nat} (h : i ≤ bx.length) : (ownL bx i).length = i := by rw [ownL, List.length_map, List.length_take]; omega
theorem dozL_succ {bx : List (Int × Int)} {i : Nat} (h : i < bx.length) : dozL bx (i + 1) = dozL bx i ++ [(bx.getD i default).2 % 50] := by rw [dozL, take_succ_getD h, List.map_append]; rfl
theorem ownL_get {bx : List (Int × Int)} {n i : Nat} (h : i < many6 bx) (hn : n = many6 bx := by rfl) : (ownL bx n).getD i default = (bx.getD i default).1 % 2 := by
 subst hn
 have h2 : many6 bx ≤ bx.length := Nat.min_le_left _ _
 rw [getD_default (by rw [ownL_len h2]; exact h), getD_default (by omega)]
 simp [ownL]
theorem cartL_is {w : List Int} {c : Int} {i : Nat} (h : w.getD i default = c) : cartL w c (i + 1) = cartL w c i ++ [(i : Int) + 1] := by rw [cartL, if_pos h]
theorem cartL_no {w : List Int} {c : Int} {i : Nat} (h : w.getD i default ≠ c) : cartL w c (i + 1) = cartL w c i := by rw [cartL, if_neg h]
theorem weak_snapRow {tm : List V} {nx : Nat} {gh : Gh} {st : St} (ids : List Nat) (id : Nat) {l l' l2 : List (Nat × Option Blk)} {k : Nat} {es : List (List V)} {ty : TypeId} {md : Mode'} (es' : List (List V))
   (hl : frzL ids l = l') (hb : hpOf (fun _ => none) l' id = some ⟨k, es, ty, md⟩) (hp : PurE true (hpOf (fun _ => none) l') es es') (hpu : PuE es') (hs : hset id (some ⟨k, es', ty, md⟩) l' = l2) (h : Weak ⟨tm, hpOf (fun _ => none) l2, nx, gh⟩ st) :
   Weak ⟨tm, hpOf (fun _ => none) l, nx, gh⟩ st := by
 subst hl hs
 refine (Weak.snap ids (tm' := tm) rfl fun t d d' hd hd' => .inl (by rw [hd] at hd'; exact (Option.some.inj hd').symm)).trans ?_
 rw [frz_hpOf]
 refine (Weak.rowSnap id hb hp hpu).trans ?_
 rw [upd_hpOf]
 exact h
theorem Load_cart (T : Task) (hT : TaskOk T) (W d : List Int) (n : Nat) (c : Int) (f : Nat) (hTn : T.ps.length = n) (hTl : ((roads T (rotR (cartL W c n) f)).map Leg.load).getD (cartL W c n).length default = sumK d W c n) (h0 : cartL W c n ≠ []) :
   ∃ loads : List Int, Ct Try.prog 9 [encT T, .sl 1 ((rotR (cartL W c n) f).map encI) false] (.tup [.sl 1 (loads.map encI) false, int 0]) ∧ loads.length = (cartL W c n).length + 1 ∧ loads.getD (cartL W c n).length default = sumK d W c n :=
 ⟨_, Load_spec T hT _ false (by rw [hTn]; exact (cartL_ord W c n).rot f) (fun h => h0 (List.eq_nil_of_length_eq_zero (by rw [← rotR_len (cartL W c n) f, h]; rfl))), by rw [List.length_map, roads_length, rotR_len], hTl⟩
def lastTo (k : Nat) (s : Int) (c : Nat) : Int := if k < c then s else 0
structure TlS (G : Prop) : Prop where
 h : G
structure SplitS (P : Prop) where
 G0 : Prop
 G1 : Prop
 G2 : Prop
 h : TlS G0 → TlS G1 → TlS G2 → P
theorem cutG {A B : Prop} (h : (True → A) → B) (p : A) : B := h fun _ => p
theorem task0_spec (rb : List Int) (n : Nat) (d : List Int) (holds : Int) (hr : Byt rb) (h6 : n ≤ 6) (hd : d.length = n) : Ct Try.prog 8 [.agg (bytC rb), .sl 1 (List.replicate n [int 0]) true, .sl 1 (d.map encI) false, int holds] (encT (taskR rb (List.replicate n 0) d holds)) := by
 have := task_spec rb (List.replicate n 0) d true false holds hr (by simp; omega) (by simp; omega)
 rwa [List.map_replicate] at this
@[go_sem] theorem bytC_take (rb : List Int) (n : Nat) (h : rb.length ≤ n) : (bytC rb).take n = bytC rb := List.take_of_length_le (by simpa [bytC] using h)
@[go_sem] theorem take_rep {α : Type} (n : Nat) (a : α) : (List.replicate n a).take n = List.replicate n a := by simp
noncomputable def share_cut (rb : List Int) (bx : List (Int × Int)) (e : Bool) (f : Nat) (hr : Byt rb) (hb : ∀ x ∈ bx, BxOk x) (hf : f ≤ 255) (hl : bx.length ≤ 4611686018427387904) :
   SplitS (Ct Try.prog 5 [.agg (bytC rb), .sl 2 (bx.map encBy) e, u8r f] (.lit (.bool true))) := by
 apply SplitS.mk
 intro hT0 hT1 hT2
 obtain ⟨h61, hby⟩ := id hr
 refine fn_enter Try.func5 rfl (by decide) Try.results5 Try.ntmps5 ?_ rfl (by simp (maxSteps := 1000000) -implicitDefEqProofs (disch := omega) only [go_sem]; rfl) fun base => ?_
 · first | assumption | (simp only [go_sem] <;> assumption) | (simp only [go_sem, *]; done) | (simp [go_sem]; done)
 repeat' (first
   | (with_reducible apply Req_intro); focus (first | omega | assumption | (simp; done))
   | with_reducible (first | apply Req_intro | refine nilT ?_ fun hn => ?_ | apply wk_draw Try_mixed | refine drawEnd (by kernel_rfl) ?_)
   | (with_reducible (first | apply condA_if | apply stepDG_ifN | apply stepDG_if | apply stepG_ifN | apply stepG_if)) <;> intro hb <;> (have hif := hb) <;> (try simp only [bo] at hif) <;> (try simp -implicitDefEqProofs (disch := omega) only [go_sem, hb]) <;> clear hb
   | simp (maxSteps := 1000000) -implicitDefEqProofs (disch := omega) only [go_sem])
 generalize hW : ownL bx (many6 bx) = W
 have hWi : ∀ i, i < many6 bx → W.getD i default = (bx.getD i default).1 % 2 := fun i hi => by rw [← hW]; exact ownL_get hi
 have hn6 : many6 bx ≤ 6 := Nat.min_le_right _ _
 have hnl : many6 bx ≤ bx.length := Nat.min_le_left _ _
 refine loop_rows (α := Nat) (23 :: [7, 9, 25, 26, 27, 28, 29, 30, 31, 32, 33, 34, 35, 36, 37, 38, 39, 40, 41, 42, 43, 44, 45, 46, 47, 48, 49, 50, 51, 52, 53, 54, 55, 56, 57, 58, 59, 60, 61, 62, 63, 64, 65]) (fun i => [(7, .os 1 1 i false), (9, .lit (.int .i64 i))]) (fun i => [(0, some ⟨61, [bytC rb], 27, .wr⟩), (1, some ⟨1, (dozL bx i).map encI, 3, .wr⟩), (256, some ⟨2, [[.os 2 1 (cartL W 0 i).length false, .os 3 1 (cartL W 1 i).length false]], 65, .wr⟩), (2, some ⟨1, (cartL W 0 i).map encI, 3, .wr⟩), (3, some ⟨1, (cartL W 1 i).map encI, 3, .wr⟩)]) (fun i => i ≤ many6 bx) (fun i => many6 bx - i) 0 (fun x => by simp (maxSteps := 1000000) -implicitDefEqProofs (disch := omega) only [go_sem]; rfl) ?_ ?_ fun x hx => ?_
 · simp only [dozL, cartL, List.take_zero, List.map_nil, List.length_nil]
   exact weak_do3 [(1, 128), (2, 1000000), (3, 1000001)]
 · exact Nat.zero_le _
 by_cases hlt : x < many6 bx
 · have hbb := hb _ (getD_mem (l := bx) (i := x) (by omega))
   have hba := hbb.a
   have hbc := hbb.b
   have h1 := dozL_len (bx := bx) (i := x) (by omega)
   have h2 := cartL_le W 0 x
   have h3 := cartL_le W 1 x
   have hwx := hWi x hlt
   have h6 : x < 6 := by omega
   have hxl : x < bx.length := by omega
   rcases Int.emod_two_eq (bx.getD x default).1 with hk | hk
   · repeat' (first
       | (with_reducible apply Req_intro); focus (first | omega | assumption | (simp; done))
       | with_reducible (first | apply Req_intro | refine nilT ?_ fun hn => ?_ | apply wk_draw Try_mixed | refine drawEnd (by kernel_rfl) ?_)
       | (with_reducible (first | apply condA_if | apply stepDG_ifN | apply stepDG_if | apply stepG_ifN | apply stepG_if)) <;> intro hb <;> (have hif := hb) <;> (try simp only [bo] at hif) <;> (try simp -implicitDefEqProofs (disch := omega) only [go_sem, hb, hk]) <;> clear hb
       | simp (maxSteps := 1000000) -implicitDefEqProofs (disch := omega) only [go_sem, hk])
     all_goals first | (exfalso; omega) | omega | skip
     with_reducible refine nxt_w (x + 1) ?_ ?_
     · (try dsimp only)
       rw [dozL_succ hxl, cartL_is (show W.getD x default = 0 by rw [hwx]; exact hk), cartL_no (c := 1) (show W.getD x default ≠ 1 by rw [hwx]; omega), List.length_append, List.length_singleton]
       exact weak_do3 [(1, 1600), (2, 2944)]
     try dsimp only
     omega
   · repeat' (first
       | (with_reducible apply Req_intro); focus (first | omega | assumption | (simp; done))
       | with_reducible (first | apply Req_intro | refine nilT ?_ fun hn => ?_ | apply wk_draw Try_mixed | refine drawEnd (by kernel_rfl) ?_)
       | (with_reducible (first | apply condA_if | apply stepDG_ifN | apply stepDG_if | apply stepG_ifN | apply stepG_if)) <;> intro hb <;> (have hif := hb) <;> (try simp only [bo] at hif) <;> (try simp -implicitDefEqProofs (disch := omega) only [go_sem, hb, hk]) <;> clear hb
       | simp (maxSteps := 1000000) -implicitDefEqProofs (disch := omega) only [go_sem, hk])
     all_goals first | (exfalso; omega) | omega | skip
     with_reducible refine nxt_w (x + 1) ?_ ?_
     · (try dsimp only)
       rw [dozL_succ hxl, cartL_is (show W.getD x default = 1 by rw [hwx]; exact hk), cartL_no (c := 0) (show W.getD x default ≠ 0 by rw [hwx]; omega), List.length_append, List.length_singleton]
       exact weak_do3 [(1, 1600), (3, 2944)]
     try dsimp only
     omega
 obtain rfl : x = many6 bx := by omega
 have hmn : bx.length < 6 → many6 bx = bx.length := fun h => by unfold many6; omega
 have hmx : ¬ bx.length < 6 → many6 bx = 6 := fun h => by unfold many6; omega
 have hdl := dozL_len (bx := bx) (i := many6 bx) hnl
 have hd : ∀ x ∈ dozL bx (many6 bx), 0 ≤ x ∧ x ≤ 100 := fun x hx => by
   obtain ⟨y, hy, rfl⟩ := List.mem_map.1 hx
   omega
 have hwl : W.length = (dozL bx (many6 bx)).length := by rw [← hW, ownL_len hnl, hdl]
 have hwc : InC 2 W := fun x hx => by
   rw [← hW] at hx
   obtain ⟨y, hy, rfl⟩ := List.mem_map.1 hx
   omega
 have hx2 : many6 bx < bx.length → 6 ≤ many6 bx := fun h => by unfold many6 at *; omega
 generalize many6 bx = n at *
 generalize dozL bx n = d at *
 have hT : TaskOk (taskR rb (List.replicate n 0) d 1000) := taskR_ok hr (by simp; omega) (by simp; omega) (fun x hx => by rw [List.eq_of_mem_replicate hx]; omega) hd ⟨by omega, by omega⟩
 have hTn : (taskR rb (List.replicate n 0) d 1000).ps.length = n := by rw [taskR_n]; simp
 have hTs := task0_spec rb n d 1000 hr hn6 hdl
 have hTl := fun (c : Int) (f : Nat) => last_cart (rb := rb) (d := d) (w := W) (n := n) (holds := 1000) hdl c f
 generalize taskR rb (List.replicate n 0) d 1000 = T at *
 refine cutG (A := ?A) (fun key => ?main) ?tail
 case main =>
   repeat' (first
     | (with_reducible apply Req_intro); focus (first | omega | assumption | (simp; done))
     | with_reducible (first | apply Req_intro | refine nilT ?_ fun hn => ?_ | apply wk_draw Try_mixed | refine drawEnd (by kernel_rfl) ?_)
     | (with_reducible (first | apply condA_if | apply stepDG_ifN | apply stepDG_if | apply stepG_ifN | apply stepG_if)) <;> intro hb <;> (have hif := hb) <;> (try simp only [bo] at hif) <;> (try simp -implicitDefEqProofs (disch := omega) only [go_sem, hb]) <;> clear hb
     | simp (maxSteps := 1000000) -implicitDefEqProofs (disch := omega) only [go_sem])
   all_goals first | (exfalso; omega) | omega | skip
   · refine calldf2 1216 1 hTs ?_
     try simp (maxSteps := 1000000) -implicitDefEqProofs (disch := omega) only [go_sem]
     repeat' (first
       | (with_reducible apply Req_intro); focus (first | omega | assumption | (simp; done))
       | with_reducible (first | apply Req_intro | refine nilT ?_ fun hn => ?_ | apply wk_draw Try_mixed | refine drawEnd (by kernel_rfl) ?_)
       | (with_reducible (first | apply condA_if | apply stepDG_ifN | apply stepDG_if | apply stepG_ifN | apply stepG_if)) <;> intro hb <;> (have hif := hb) <;> (try simp only [bo] at hif) <;> (try simp -implicitDefEqProofs (disch := omega) only [go_sem, hb]) <;> clear hb
       | simp (maxSteps := 1000000) -implicitDefEqProofs (disch := omega) only [go_sem])
     refine loop_rows (α := Nat) (24 :: 25 :: 26 :: 27 :: 28 :: 29 :: 30 :: 31 :: 32 :: 66 :: 67 :: 68 :: 69 :: 70 :: 71 :: 72 :: [12, 73, 74, 75, 76, 77, 78, 79, 80, 81, 82, 83, 84, 85, 86, 87, 88, 89, 90, 91, 92, 93, 94]) (fun i => [(12, .lit (.int .i64 i))]) (fun i => [(0, some ⟨61, [bytC rb], 27, .wr⟩), (1, some ⟨1, d.map encI, 3, .fz⟩), (256, some ⟨2, [[.os 2 1 (cartL W 0 n).length false, .os 3 1 (cartL W 1 n).length false]], 65, .wr⟩), (2, some ⟨1, (cartL W 0 n).map encI, 3, .wr⟩), (3, some ⟨1, (cartL W 1 n).map encI, 3, .wr⟩), (1408, some ⟨5, [cellT T], 40, .wr⟩), (1600, some ⟨2, [[.os 4 1 i false, nilV]], 69, .wr⟩), (4, some ⟨1, (sharpB (d.take i)).map encB, 71, .wr⟩)]) (fun i => i ≤ n) (fun i => n - i) 0 (fun x => by simp (maxSteps := 1000000) -implicitDefEqProofs (disch := omega) only [go_sem]; rfl) ?_ ?_ fun x hx => ?_
     · simp only [sharpB, List.take_zero, List.map_nil]
       exact weak_do3 [(4, 1000000)]
     · exact Nat.zero_le _
     clear hif
     revert x
     exact key trivial
   · refine calldf2 1216 1 hTs ?_
     try simp (maxSteps := 1000000) -implicitDefEqProofs (disch := omega) only [go_sem]
     repeat' (first
       | (with_reducible apply Req_intro); focus (first | omega | assumption | (simp; done))
       | with_reducible (first | apply Req_intro | refine nilT ?_ fun hn => ?_ | apply wk_draw Try_mixed | refine drawEnd (by kernel_rfl) ?_)
       | (with_reducible (first | apply condA_if | apply stepDG_ifN | apply stepDG_if | apply stepG_ifN | apply stepG_if)) <;> intro hb <;> (have hif := hb) <;> (try simp only [bo] at hif) <;> (try simp -implicitDefEqProofs (disch := omega) only [go_sem, hb]) <;> clear hb
       | simp (maxSteps := 1000000) -implicitDefEqProofs (disch := omega) only [go_sem])
     refine loop_rows (α := Nat) (24 :: 25 :: 26 :: 27 :: 28 :: 29 :: 30 :: 31 :: 32 :: 66 :: 67 :: 68 :: 69 :: 70 :: 71 :: 72 :: [12, 73, 74, 75, 76, 77, 78, 79, 80, 81, 82, 83, 84, 85, 86, 87, 88, 89, 90, 91, 92, 93, 94]) (fun i => [(12, .lit (.int .i64 i))]) (fun i => [(0, some ⟨61, [bytC rb], 27, .wr⟩), (1, some ⟨1, d.map encI, 3, .fz⟩), (256, some ⟨2, [[.os 2 1 (cartL W 0 n).length false, .os 3 1 (cartL W 1 n).length false]], 65, .wr⟩), (2, some ⟨1, (cartL W 0 n).map encI, 3, .wr⟩), (3, some ⟨1, (cartL W 1 n).map encI, 3, .wr⟩), (1408, some ⟨5, [cellT T], 40, .wr⟩), (1600, some ⟨2, [[.os 4 1 i false, nilV]], 69, .wr⟩), (4, some ⟨1, (sharpB (d.take i)).map encB, 71, .wr⟩)]) (fun i => i ≤ n) (fun i => n - i) 0 (fun x => by simp (maxSteps := 1000000) -implicitDefEqProofs (disch := omega) only [go_sem]; rfl) ?_ ?_ fun x hx => ?_
     · simp only [sharpB, List.take_zero, List.map_nil]
       exact weak_do3 [(4, 1000000)]
     · exact Nat.zero_le _
     clear hif
     revert x
     exact key trivial
 case tail =>
   clear hx hlt
   intro x hx
   have hbl : (sharpB (d.take x)).length = x := by rw [sharpB_len, List.length_take]; omega
   by_cases hlt : x < n
   · have hdx := hd _ (getD_mem (l := d) (i := x) (by omega))
     repeat' (first
       | (with_reducible apply Req_intro); focus (first | omega | assumption | (simp; done))
       | with_reducible (first | apply Req_intro | refine nilT ?_ fun hn => ?_ | apply wk_draw Try_mixed | refine drawEnd (by kernel_rfl) ?_)
       | (with_reducible (first | apply condA_if | apply stepDG_ifN | apply stepDG_if | apply stepG_ifN | apply stepG_if)) <;> intro hb <;> (have hif := hb) <;> (try simp only [bo] at hif) <;> (try simp -implicitDefEqProofs (disch := omega) only [go_sem, hb]) <;> clear hb
       | simp (maxSteps := 1000000) -implicitDefEqProofs (disch := omega) only [go_sem])
     all_goals first | (exfalso; omega) | omega | skip
     refine calld (oakSpan_spec _ _) ?_
     try simp (maxSteps := 1000000) -implicitDefEqProofs (disch := omega) only [go_sem]
     repeat' (first
       | (with_reducible apply Req_intro); focus (first | omega | assumption | (simp; done))
       | with_reducible (first | apply Req_intro | refine nilT ?_ fun hn => ?_ | apply wk_draw Try_mixed | refine drawEnd (by kernel_rfl) ?_)
       | (with_reducible (first | apply condA_if | apply stepDG_ifN | apply stepDG_if | apply stepG_ifN | apply stepG_if)) <;> intro hb <;> (have hif := hb) <;> (try simp only [bo] at hif) <;> (try simp -implicitDefEqProofs (disch := omega) only [go_sem, hb]) <;> clear hb
       | simp (maxSteps := 1000000) -implicitDefEqProofs (disch := omega) only [go_sem])
     refine calldf 2752 (oakBox_spec (d.getD x default, d.getD x default) true) ?_
     try simp (maxSteps := 1000000) -implicitDefEqProofs (disch := omega) only [go_sem]
     repeat' (first
       | (with_reducible apply Req_intro); focus (first | omega | assumption | (simp; done))
       | with_reducible (first | apply Req_intro | refine nilT ?_ fun hn => ?_ | apply wk_draw Try_mixed | refine drawEnd (by kernel_rfl) ?_)
       | (with_reducible (first | apply condA_if | apply stepDG_ifN | apply stepDG_if | apply stepG_ifN | apply stepG_if)) <;> intro hb <;> (have hif := hb) <;> (try simp only [bo] at hif) <;> (try simp -implicitDefEqProofs (disch := omega) only [go_sem, hb]) <;> clear hb
       | simp (maxSteps := 1000000) -implicitDefEqProofs (disch := omega) only [go_sem])
     all_goals first | (exfalso; omega) | omega | skip
     rw [show (sharpB (d.take x)).map encB ++ [[V.sl 2 [[V.lit (Value.int IntKind.i64 (d.getD x default)), V.lit (Value.int IntKind.i64 (d.getD x default))]] false]] = (sharpB (d.take (x + 1))).map encB from by rw [take_succ_getD (by omega), sharpB, sharpB, List.map_append, List.map_append]; rfl]
     with_reducible refine nxt_w (x + 1) ?_ ?_
     · (try dsimp only)
       skip
       exact weak_do3 [(4, 2944)]
     try dsimp only
     omega
   · obtain rfl : n = x := by omega
     rw [List.take_of_length_le (show d.length ≤ n by omega)]
     rw [List.take_of_length_le (show d.length ≤ n by omega)] at hbl
     clear hlt hx
     repeat' (first
       | (with_reducible apply Req_intro); focus (first | omega | assumption | (simp; done))
       | with_reducible (first | apply Req_intro | refine nilT ?_ fun hn => ?_ | apply wk_draw Try_mixed | refine drawEnd (by kernel_rfl) ?_)
       | (with_reducible (first | apply condA_if | apply stepDG_ifN | apply stepDG_if | apply stepG_ifN | apply stepG_if)) <;> intro hb <;> (have hif := hb) <;> (try simp only [bo] at hif) <;> (try simp -implicitDefEqProofs (disch := omega) only [go_sem, hb]) <;> clear hb
       | simp (maxSteps := 1000000) -implicitDefEqProofs (disch := omega) only [go_sem])
     all_goals first | (exfalso; omega) | omega | skip
     clear hif
     refine loop_rows (α := Nat) (12 :: 73 :: 74 :: 75 :: 76 :: 77 :: 78 :: 79 :: 80 :: 81 :: 82 :: 83 :: 84 :: 85 :: 86 :: 87 :: 88 :: 89 :: 90 :: 91 :: 92 :: 93 :: 94 :: 95 :: [6, 14, 15, 16, 96, 97, 98, 99, 100, 101, 102, 103, 104, 105, 106, 107, 108, 109, 110, 111, 112, 113, 114, 115, 116, 117, 118, 119, 120, 121, 122, 123, 124, 125, 126, 127, 128, 129, 130, 131, 132, 133, 134, 135, 136, 137, 138, 139, 140, 141, 142, 143, 144, 145, 146, 147, 148, 149, 150, 151, 152, 153, 154, 155, 156, 157, 158, 159, 160, 161, 162, 163, 164, 165, 166, 167, 168, 169, 170, 171, 172, 173, 174, 175, 176, 177, 178, 179, 180]) (fun c => [(6, .lit (.bool false)), (14, .lit (.int .i64 c))]) (fun c => [(256, some ⟨2, [[.sl 1 ((cartL W 0 n).map encI) false, .sl 1 ((cartL W 1 n).map encI) false]], 65, .wr⟩), (1408, some ⟨5, [cellT T], 40, .wr⟩), (1600, some ⟨2, [[.sl 1 ((sharpB d).map encB) false, .os 5 2 c false]], 69, .wr⟩), (2112, some ⟨2, [[int (lastTo 0 (sumK d W 0 n) c), int (lastTo 1 (sumK d W 1 n) c)]], 73, .wr⟩), (5, some ⟨2, ((sharpC d W).take c).map encBill, 75, .wr⟩)]) (fun c => c ≤ 2) (fun c => 2 - c) 0 (fun x => by simp (maxSteps := 1000000) -implicitDefEqProofs (disch := omega) only [go_sem]; rfl) ?_ ?_ fun x hx => ?_
     · simp only [List.take_zero, List.map_nil]
       refine weak_snapRow [2, 3] 256 (es' := [[.sl 1 ((cartL W 0 n).map encI) false, .sl 1 ((cartL W 1 n).map encI) false]]) (by first | (simp only [go_sem]; done) | (simp only [go_sem]; rfl)) (by rfl) ?_ (by first | assumption | (simp only [go_sem] <;> assumption) | (simp only [go_sem, *]; done) | (simp [go_sem]; done)) (by first | (simp only [go_sem]; done) | (simp only [go_sem]; rfl)) ?_
       · (try simp (maxSteps := 1000000) -implicitDefEqProofs (disch := omega) only [go_sem])
         repeat' (first
           | with_reducible (first | exact PurI.nil | exact Pur.nilsl _ _ | exact PurE.nil)
           | (with_reducible (first | refine PurI.puL ?_ | refine PurE.puE ?_)) <;> (first | assumption | (simp only [go_sem] <;> assumption) | (simp only [go_sem, *]; done) | (simp [go_sem]; done))
           | with_reducible apply PurI.cons
           | (with_reducible refine Pur.pu _ ?_) <;> (first | assumption | (simp only [go_sem] <;> assumption) | (simp only [go_sem, *]; done) | (simp [go_sem]; done))
           | ((with_reducible apply Pur.refR) <;> (first | rfl | decide | (simp only [go_sem]; omega) | (simp only [go_sem]) | skip))
           | ((with_reducible apply Pur.osR) <;> (first | rfl | exact fun h => h | omega | (simp; omega) | (simp; done) | (simp only [go_sem]) | skip))
           | with_reducible (first | apply Pur.fnI | apply Pur.aggI | apply PurE.cons)
           | (with_reducible refine PurI.eqL ?_ ?_); (focus rfl); (focus (first | assumption | (simp only [go_sem] <;> assumption) | (simp only [go_sem, *]; done) | (simp [go_sem]; done)))
           | simp (maxSteps := 1000000) -implicitDefEqProofs (disch := omega) only [go_sem])
       refine weak_snapRow [4] 1600 (es' := [[.sl 1 ((sharpB d).map encB) false, nilV]]) (by first | (simp only [go_sem]; done) | (simp only [go_sem]; rfl)) (by rfl) ?_ (by first | assumption | (simp only [go_sem] <;> assumption) | (simp only [go_sem, *]; done) | (simp [go_sem]; done)) (by first | (simp only [go_sem]; done) | (simp only [go_sem]; rfl)) ?_
       · (try simp (maxSteps := 1000000) -implicitDefEqProofs (disch := omega) only [go_sem])
         repeat' (first
           | with_reducible (first | exact PurI.nil | exact Pur.nilsl _ _ | exact PurE.nil)
           | (with_reducible (first | refine PurI.puL ?_ | refine PurE.puE ?_)) <;> (first | assumption | (simp only [go_sem] <;> assumption) | (simp only [go_sem, *]; done) | (simp [go_sem]; done))
           | with_reducible apply PurI.cons
           | (with_reducible refine Pur.pu _ ?_) <;> (first | assumption | (simp only [go_sem] <;> assumption) | (simp only [go_sem, *]; done) | (simp [go_sem]; done))
           | ((with_reducible apply Pur.refR) <;> (first | rfl | decide | (simp only [go_sem]; omega) | (simp only [go_sem]) | skip))
           | ((with_reducible apply Pur.osR) <;> (first | rfl | exact fun h => h | omega | (simp; omega) | (simp; done) | (simp only [go_sem]) | skip))
           | with_reducible (first | apply Pur.fnI | apply Pur.aggI | apply PurE.cons)
           | (with_reducible refine PurI.eqL ?_ ?_); (focus rfl); (focus (first | assumption | (simp only [go_sem] <;> assumption) | (simp only [go_sem, *]; done) | (simp [go_sem]; done)))
           | simp (maxSteps := 1000000) -implicitDefEqProofs (disch := omega) only [go_sem])
       exact weak_do3 [(5, 1000000)]
     · exact Nat.zero_le _
     clear hW hWi hnl hmn hmx hx2
     rcases Nat.eq_or_lt_of_le (show 0 ≤ x by omega) with he | he
     · subst he
       clear hx
       revert hbl
       revert hTl
       revert hTs
       revert hTn
       revert hT
       revert T
       revert hd
       revert hwl
       revert hdl
       revert d
       revert hn6
       revert n
       revert hwc
       revert W
       revert base
       exact hT0.h
     rcases Nat.eq_or_lt_of_le (show 1 ≤ x by omega) with he1 | he1
     · subst he1
       clear hx he
       revert hbl
       revert hTl
       revert hTs
       revert hTn
       revert hT
       revert T
       revert hd
       revert hwl
       revert hdl
       revert d
       revert hn6
       revert n
       revert hwc
       revert W
       revert base
       exact hT1.h
     obtain rfl : x = 2 := by omega
     clear hx he he1
     revert hbl
     revert hTl
     revert hTs
     revert hTn
     revert hT
     revert T
     revert hd
     revert hwl
     revert hdl
     revert d
     revert hn6
     revert n
     revert hwc
     revert W
     revert base
     exact hT2.h
end Go.Aw
end
