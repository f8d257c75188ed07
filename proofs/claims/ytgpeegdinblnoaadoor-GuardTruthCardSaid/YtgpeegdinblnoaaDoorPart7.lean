/-
  A part of the proof that a law returns true for every input that the given row speaks of: an own verified walk over the program (namespace Go.Aw), contracts of the functions that the law calls, and the law itself. Conditions: those of the given row, no other.
-/
import Derived.Test.YtgpeegdinblnoaaDoorPart6
set_option linter.unusedVariables false
set_option linter.unusedSimpArgs false
section
set_option maxRecDepth 20000
set_option maxHeartbeats 4000000
namespace Go.Aw
open Go.RowKit Go.Proofs
@[go_sem] theorem und_bool9 : Tryd.prog.underlying 4 = some .bool := Tryd.underlying4
def usedV (L : List (Nat × Nat)) : List V := (List.range 8).map fun k => .lit (.bool (L.any fun p => p.2 == k))
theorem usedV_get {L : List (Nat × Nat)} {k : Nat} (h : k < 8) : (usedV L)[k]? = some (.lit (.bool (L.any fun p => p.2 == k))) := by
 rw [usedV, List.getElem?_map, List.getElem?_range h]; rfl
@[go_sem] theorem usedV_len (L : List (Nat × Nat)) : (usedV L).length = 8 := by simp [usedV]
@[go_sem] theorem usedV_pu (L : List (Nat × Nat)) : PuL (usedV L) = True := by
 simp only [PuL, eq_iff_iff, iff_true, usedV]
 intro e he
 obtain ⟨c, _, rfl⟩ := List.mem_map.1 he
 exact Pu_lit _
def usedT (L : List (Nat × Nat)) (k : Nat) : List V := (usedV L).drop (k + 1)
@[go_sem] theorem usedV_drop (L : List (Nat × Nat)) (k : Nat) (h : k < 8) : (usedV L).drop k = .lit (.bool (L.any fun p => p.2 == k)) :: usedT L k := by
 unfold usedT
 have h8 : k < (usedV L).length := by rw [usedV_len]; exact h
 rw [List.drop_eq_getElem_cons h8]
 have := usedV_get (L := L) h
 rw [List.getElem?_eq_getElem h8] at this
 rw [Option.some.inj this]
@[go_sem] theorem usedV_cells (L : List (Nat × Nat)) : (∀ c ∈ usedV L, c.cell = true) = True := by
 simp only [eq_iff_iff, iff_true, usedV]
 intro e he
 obtain ⟨c, _, rfl⟩ := List.mem_map.1 he
 rfl
@[go_sem] theorem usedV_cl (L : List (Nat × Nat)) : ClL (usedV L) = True := by
 simp only [ClL, eq_iff_iff, iff_true, usedV]
 intro e he
 obtain ⟨c, _, rfl⟩ := List.mem_map.1 he
 simp [Cl]
theorem usedV_set {L : List (Nat × Nat)} {i k : Nat} (h : k < 8) : (usedV L).set k (.lit (.bool true)) = usedV (L ++ [(i, k)]) := by
 refine List.ext_getElem? fun j => ?_
 by_cases hj : j < 8
 · by_cases hk : j = k
   · subst hk
     rw [List.getElem?_set_self (by rw [usedV_len]; exact hj), usedV_get hj]
     simp
   · rw [List.getElem?_set_ne (Ne.symm hk), usedV_get hj, usedV_get hj, List.any_append]
     have : (k == j) = false := beq_eq_false_iff_ne.2 (fun e => hk e.symm)
     simp [this]
 · rw [List.getElem?_eq_none (by rw [List.length_set, usedV_len]; omega), List.getElem?_eq_none (by rw [usedV_len]; omega)]
theorem usedV_splice {L : List (Nat × Nat)} {i k : Nat} (h : k < 8) : splice (usedV L) k [.lit (.bool true)] = usedV (L ++ [(i, k)]) := by
 rw [← usedV_set (i := i) h]
 refine List.ext_getElem? fun j => ?_
 rw [splice_get (by rw [usedV_len]; simp; omega)]
 by_cases hj : j = k
 · subst hj
   rw [if_pos ⟨Nat.le_refl _, by simp⟩, Nat.sub_self, List.getElem?_set_self (by rw [usedV_len]; exact h)]; rfl
 · rw [if_neg (by simp; omega), List.getElem?_set_ne (Ne.symm hj)]
theorem true_mild {g : Gau} {b : List Int} {i m : Nat} {x : Grd} (hx : Fine m x) (hg : GauOk g) : Mild (trueG g b i x).1 ∧ ∀ k, k < m → Mild ((trueG g b i x).2.getD k default) := by
 have g1 := hg.sc
 have g2 := hg.ga
 simp only [inR', Bool.and_eq_true, decide_eq_true_eq] at g1 g2
 have w1 := hx.w1
 have w2 := hx.w2
 refine ⟨?_, fun k hk => ?_⟩
 · have := atR_small (b := b) (i := i) (k := 0) g1
   unfold Mild trueG
   simp only
   omega
 · have := atR_small (b := b) (i := i) (k := 1 + k) g2
   have hl := hx.len
   have hc := hx.c _ (getD_mem (l := x.2) (i := k) (by omega))
   rw [trueG_get (by omega)]
   unfold Mild
   omega
theorem GuardTruth_spec (x : Chst) (tr : List Int) (h : x.ok) (htr : ∀ n ∈ tr, 0 ≤ n ∧ n ≤ 255) (htl : tr.length ≤ 4611686018427387904) : Ct Tryd.prog 11 [.agg (chC x), .sl 1 (tr.map encY) false] (.lit (.bool true)) := by
 obtain ⟨_, hm1, hm2⟩ := chM_is h
 have hmade := made_spec x h
 have hfl := chL_fine h.l hm2
 have hfr := chL_fine h.r hm2
 have hgg := chG_ok h
 have hl8 : (chL x.l (chM x)).length ≤ 8 := by rw [chL_len]; omega
 have hr8 : (chL x.r (chM x)).length ≤ 8 := by rw [chL_len]; omega
 generalize chL x.l (chM x) = ls at *
 generalize chL x.r (chM x) = rs at *
 generalize chG x = g at *
 generalize chM x = m at *
 have h0 := check_fine hm1 (by omega) hl8 hr8 hfl hfr hgg
 obtain ⟨_, _, hgk, _, _, _, _⟩ := checkS_ok h0
 have hg1 := hgk.sc
 have hg2 := hgk.ga
 simp only [inR', Bool.and_eq_true, decide_eq_true_eq] at hg1 hg2
 have hst : StOk ls rs := ⟨by omega, by omega, fun x hx => by have := (hfl x hx).len; omega, fun x hx => by have := (hfr x hx).len; omega⟩
 have hown := own_spec ls rs false false hst
 have hp := Pairs_ok g ls rs false false hst h0
 have hq := Possible_ok g ls rs false false hst h0
 obtain ⟨hb1, hb2, hb3, hb4⟩ := pairs_bnd (g := g) (ls := ls) (rs := rs) (k := 2) (by omega)
 have hle : mostR (tableR g ls rs 2) ≤ mostR (tableR g ls rs (-2)) := most_more (by omega) fun a b hab => sure_may hg1.1 hg2.1 hab
 have hml := most_left_le (g := g) (ls := ls) (rs := rs) (k := -2) (by omega)
 have hmr := most_right_le (g := g) (ls := ls) (rs := rs) (k := -2) (by omega)
 have hlens : ∀ i k, i < ls.length → k < rs.length → (ls.getD i default).2.length = (rs.getD k default).2.length := fun i k hi hk => by rw [(hfl _ (getD_mem hi)).len, (hfr _ (getD_mem hk)).len]
 have hgr := gr_most (g := g) (ls := ls) (rs := rs) (is := fun i k => alikeR g (trueG g tr i (ls.getD i default)) (trueG g tr (8 + k) (rs.getD k default)) 0) (by omega) fun i k hi hk hh => truth_may hg1.1 hg2.1 (hlens i k hi hk) hh
 have hgro := fun i hi => grT_ok (is := fun i k => alikeR g (trueG g tr i (ls.getD i default)) (trueG g tr (8 + k) (rs.getD k default)) 0) (nl := ls.length) (nr := rs.length) i hi
 have his : ∀ i k, (fun i k => alikeR g (trueG g tr i (ls.getD i default)) (trueG g tr (8 + k) (rs.getD k default)) 0) i k = alikeR g (trueG g tr i (ls.getD i default)) (trueG g tr (8 + k) (rs.getD k default)) 0 := fun _ _ => rfl
 generalize hisd : (fun i k => alikeR g (trueG g tr i (ls.getD i default)) (trueG g tr (8 + k) (rs.getD k default)) 0) = is at *
 have hap := apart_spec ls rs false false false (pairsR (tableR g ls rs 2)) (by omega) (fun p hp => ⟨(hb1 p hp).1, (hb1 p hp).2.1⟩) hb2 hb3
 generalize mostR (tableR g ls rs 2) = M at *
 generalize mostR (tableR g ls rs (-2)) = Nn at *
 generalize pairsR (tableR g ls rs 2) = PR at *
 have hgi2 := fun i => grT_ok (is := is) (nl := i) (nr := rs.length) i (Nat.le_refl _)
 have hT0 : grT is rs.length 0 = [] := rfl
 have hTs : ∀ i, grT is rs.length (i + 1) = grK is (grT is rs.length i) i rs.length := fun i => rfl
 generalize hGT : grT is rs.length = GT at *
 refine fn_enter Tryd.func11 rfl (by decide) Tryd.results11 Tryd.ntmps11 ?_ rfl (by simp (maxSteps := 1000000) -implicitDefEqProofs (disch := omega) only [go_sem]; rfl) fun base => ?_
 · first | assumption | (simp only [go_sem] <;> assumption) | (simp only [go_sem, *]; done) | (simp [go_sem]; done)
 repeat' (first
   | (with_reducible apply Req_intro); focus (first | omega | assumption | (simp; done))
   | with_reducible (first | apply Req_intro | refine nilT ?_ fun hn => ?_ | apply wk_draw Tryd_mixed | refine drawEnd (by kernel_rfl) ?_)
   | (with_reducible (first | apply condA_if | apply stepDG_ifN | apply stepDG_if | apply stepG_ifN | apply stepG_if)) <;> intro hb <;> (have hif := hb) <;> (try simp only [bo] at hif) <;> (try simp -implicitDefEqProofs (disch := omega) only [go_sem, hb]) <;> clear hb
   | simp (maxSteps := 1000000) -implicitDefEqProofs (disch := omega) only [go_sem])
 first | refine callp hmade ?_ | refine calld hmade ?_
 try simp (maxSteps := 1000000) -implicitDefEqProofs (disch := omega) only [go_sem]
 repeat' (first
   | (with_reducible apply Req_intro); focus (first | omega | assumption | (simp; done))
   | with_reducible (first | apply Req_intro | refine nilT ?_ fun hn => ?_ | apply wk_draw Tryd_mixed | refine drawEnd (by kernel_rfl) ?_)
   | (with_reducible (first | apply condA_if | apply stepDG_ifN | apply stepDG_if | apply stepG_ifN | apply stepG_if)) <;> intro hb <;> (have hif := hb) <;> (try simp only [bo] at hif) <;> (try simp -implicitDefEqProofs (disch := omega) only [go_sem, hb]) <;> clear hb
   | simp (maxSteps := 1000000) -implicitDefEqProofs (disch := omega) only [go_sem])
 all_goals first | exact absurd trivial ‹¬True› | exact absurd ‹false = true› (by decide) | exact absurd ‹true = false› (by decide) | (exfalso; omega) | omega | skip
 first | refine callp hown ?_ | refine calld hown ?_
 try simp (maxSteps := 1000000) -implicitDefEqProofs (disch := omega) only [go_sem]
 repeat' (first
   | (with_reducible apply Req_intro); focus (first | omega | assumption | (simp; done))
   | with_reducible (first | apply Req_intro | refine nilT ?_ fun hn => ?_ | apply wk_draw Tryd_mixed | refine drawEnd (by kernel_rfl) ?_)
   | (with_reducible (first | apply condA_if | apply stepDG_ifN | apply stepDG_if | apply stepG_ifN | apply stepG_if)) <;> intro hb <;> (have hif := hb) <;> (try simp only [bo] at hif) <;> (try simp -implicitDefEqProofs (disch := omega) only [go_sem, hb]) <;> clear hb
   | simp (maxSteps := 1000000) -implicitDefEqProofs (disch := omega) only [go_sem])
 all_goals first | exact absurd trivial ‹¬True› | exact absurd ‹false = true› (by decide) | exact absurd ‹true = false› (by decide) | (exfalso; omega) | omega | skip
 first | refine callp hp ?_ | refine calld hp ?_
 try simp (maxSteps := 1000000) -implicitDefEqProofs (disch := omega) only [go_sem]
 repeat' (first
   | (with_reducible apply Req_intro); focus (first | omega | assumption | (simp; done))
   | with_reducible (first | apply Req_intro | refine nilT ?_ fun hn => ?_ | apply wk_draw Tryd_mixed | refine drawEnd (by kernel_rfl) ?_)
   | (with_reducible (first | apply condA_if | apply stepDG_ifN | apply stepDG_if | apply stepG_ifN | apply stepG_if)) <;> intro hb <;> (have hif := hb) <;> (try simp only [bo] at hif) <;> (try simp -implicitDefEqProofs (disch := omega) only [go_sem, hb]) <;> clear hb
   | simp (maxSteps := 1000000) -implicitDefEqProofs (disch := omega) only [go_sem])
 all_goals first | exact absurd trivial ‹¬True› | exact absurd ‹false = true› (by decide) | exact absurd ‹true = false› (by decide) | (exfalso; omega) | omega | skip
 first | refine callp hown ?_ | refine calld hown ?_
 try simp (maxSteps := 1000000) -implicitDefEqProofs (disch := omega) only [go_sem]
 repeat' (first
   | (with_reducible apply Req_intro); focus (first | omega | assumption | (simp; done))
   | with_reducible (first | apply Req_intro | refine nilT ?_ fun hn => ?_ | apply wk_draw Tryd_mixed | refine drawEnd (by kernel_rfl) ?_)
   | (with_reducible (first | apply condA_if | apply stepDG_ifN | apply stepDG_if | apply stepG_ifN | apply stepG_if)) <;> intro hb <;> (have hif := hb) <;> (try simp only [bo] at hif) <;> (try simp -implicitDefEqProofs (disch := omega) only [go_sem, hb]) <;> clear hb
   | simp (maxSteps := 1000000) -implicitDefEqProofs (disch := omega) only [go_sem])
 all_goals first | exact absurd trivial ‹¬True› | exact absurd ‹false = true› (by decide) | exact absurd ‹true = false› (by decide) | (exfalso; omega) | omega | skip
 first | refine callp hq ?_ | refine calld hq ?_
 try simp (maxSteps := 1000000) -implicitDefEqProofs (disch := omega) only [go_sem]
 repeat' (first
   | (with_reducible apply Req_intro); focus (first | omega | assumption | (simp; done))
   | with_reducible (first | apply Req_intro | refine nilT ?_ fun hn => ?_ | apply wk_draw Tryd_mixed | refine drawEnd (by kernel_rfl) ?_)
   | (with_reducible (first | apply condA_if | apply stepDG_ifN | apply stepDG_if | apply stepG_ifN | apply stepG_if)) <;> intro hb <;> (have hif := hb) <;> (try simp only [bo] at hif) <;> (try simp -implicitDefEqProofs (disch := omega) only [go_sem, hb]) <;> clear hb
   | simp (maxSteps := 1000000) -implicitDefEqProofs (disch := omega) only [go_sem])
 all_goals first | exact absurd trivial ‹¬True› | exact absurd ‹false = true› (by decide) | exact absurd ‹true = false› (by decide) | (exfalso; omega) | omega | skip
 first | refine callp hap ?_ | refine calld hap ?_
 try simp (maxSteps := 1000000) -implicitDefEqProofs (disch := omega) only [go_sem]
 repeat' (first
   | (with_reducible apply Req_intro); focus (first | omega | assumption | (simp; done))
   | with_reducible (first | apply Req_intro | refine nilT ?_ fun hn => ?_ | apply wk_draw Tryd_mixed | refine drawEnd (by kernel_rfl) ?_)
   | (with_reducible (first | apply condA_if | apply stepDG_ifN | apply stepDG_if | apply stepG_ifN | apply stepG_if)) <;> intro hb <;> (have hif := hb) <;> (try simp only [bo] at hif) <;> (try simp -implicitDefEqProofs (disch := omega) only [go_sem, hb]) <;> clear hb
   | simp (maxSteps := 1000000) -implicitDefEqProofs (disch := omega) only [go_sem])
 all_goals first | exact absurd trivial ‹¬True› | exact absurd ‹false = true› (by decide) | exact absurd ‹true = false› (by decide) | (exfalso; omega) | omega | skip
 refine loop_rows (α := Nat) (14 :: 15 :: 16 :: 17 :: 18 :: 19 :: 20 :: 21 :: 22 :: 23 :: [4, 11, 13, 14, 15, 16, 17, 18, 19, 20, 21, 22, 23, 73, 74, 75, 76, 77, 78, 79, 80, 81, 82, 83, 84, 85, 86, 87, 88, 89, 90, 91, 92, 93, 94, 95, 96, 97, 98, 99, 100, 101, 102, 103, 104, 105, 106, 107, 108, 109, 110, 111, 112, 113, 114, 115, 116, 117, 118, 119, 120, 121, 122, 123, 124, 125, 126, 127, 128, 129, 130, 131, 132, 133, 134, 135, 136, 137, 138, 139, 140, 141, 142, 143, 144, 145, 146, 147, 148, 149, 150, 151, 152, 153, 154, 155, 156, 157, 158, 159, 160, 161, 162, 163, 164, 165, 166, 167, 168, 169, 170, 171, 172, 173, 174, 175, 176, 177, 178, 179, 180, 181, 182, 183, 184, 185, 186]) (fun i => [(13, .lit (.int .i64 i)), (11, int (GT i).length)]) (fun i => [(448, some ⟨2, [[.sl 2 (ls.map encGd) false, .sl 2 (rs.map encGd) false]], 38, .wr⟩), (512, some ⟨4, [[int g.sc, int g.ga, int g.we, int g.cu]], 26, .wr⟩), (3776, some ⟨8, [usedV (GT i)], 82, .wr⟩)]) (fun i => i ≤ ls.length) (fun i => ls.length - i) 0 (fun x => by simp (maxSteps := 1000000) -implicitDefEqProofs (disch := omega) only [go_sem]; rfl) ?_ ?_ fun x hx => ?_
 · rw [hT0]
   simp only [usedV, List.range, List.range.loop, List.map_cons, List.map_nil, List.any_nil, List.length_nil]
   exact weak_do3 []
 · exact Nat.zero_le _
 rename Nat => i
 by_cases hi : i < ls.length
 · have hfi := hfl _ (getD_mem hi)
   have hsu := hTs i
   have hgi := hgro i (by omega)
   have hg1' := hgro (i + 1) (by omega)
   rw [hsu] at hg1'
   have hGKl : ∀ k, (grK is (GT i) i k).length ≤ 100 := fun k => by
     have h1 : (GT i).length ≤ 8 := by
       have h2 := hgi2 i
       have h3 := nodup_len (a := (GT i).map (·.1)) (b := List.range i) h2.a fun x hx => by
         obtain ⟨p, hp, rfl⟩ := List.mem_map.1 hx
         exact List.mem_range.2 (h2.e p hp).1
       rw [List.length_map, List.length_range] at h3
       omega
     have h4 : ∀ k, (grK is (GT i) i k).length ≤ (GT i).length + k := fun k => by
       induction k with
       | zero => exact Nat.le_refl _
       | succ k ih =>
         rw [grK]; split
         · rw [List.length_append]; simp; omega
         · omega
     by_cases hk : k ≤ 90
     · have := h4 k; omega
     · have h5 : (grK is (GT i) i k).length ≤ (GT i).length + 1 := by
         have : ∀ k, ((grK is (GT i) i k).any fun p => p.1 == i) = false ∧ (grK is (GT i) i k).length ≤ (GT i).length ∨ ((grK is (GT i) i k).any fun p => p.1 == i) = true ∧ (grK is (GT i) i k).length ≤ (GT i).length + 1 := fun k => by
           induction k with
           | zero =>
             show ((GT i).any fun p => p.1 == i) = false ∧ (GT i).length ≤ _ ∨ _
             cases hh : (GT i).any fun p => p.1 == i with
             | false => exact .inl ⟨rfl, Nat.le_refl _⟩
             | true => exact .inr ⟨hh, by show (GT i).length ≤ _; omega⟩
           | succ k ih =>
             rw [grK]
             split
             · rename_i hc
               rcases ih with ⟨e, hl⟩ | ⟨e, hl⟩
               · right
                 refine ⟨by rw [List.any_append]; simp, by rw [List.length_append]; simp; omega⟩
               · rw [e] at hc; simp at hc
             · exact ih
         rcases this k with h | h <;> omega
       omega
   have hK0 : grK is (GT i) i 0 = GT i := rfl
   have hKs : ∀ k, grK is (GT i) i (k + 1) = if is i k && !((grK is (GT i) i k).any fun p => p.1 == i) && !((grK is (GT i) i k).any fun p => p.2 == k) then grK is (GT i) i k ++ [(i, k)] else grK is (GT i) i k := fun k => rfl
   generalize grK is (GT i) i = GK at *
   repeat' (first
     | (with_reducible apply Req_intro); focus (first | omega | assumption | (simp; done))
     | with_reducible (first | apply Req_intro | refine nilT ?_ fun hn => ?_ | apply wk_draw Tryd_mixed | refine drawEnd (by kernel_rfl) ?_)
     | (with_reducible (first | apply condA_if | apply stepDG_ifN | apply stepDG_if | apply stepG_ifN | apply stepG_if)) <;> intro hb <;> (have hif := hb) <;> (try simp only [bo] at hif) <;> (try simp -implicitDefEqProofs (disch := omega) only [go_sem, hb]) <;> clear hb
     | simp (maxSteps := 1000000) -implicitDefEqProofs (disch := omega) only [go_sem])
   all_goals first | exact absurd trivial ‹¬True› | exact absurd ‹false = true› (by decide) | exact absurd ‹true = false› (by decide) | (exfalso; omega) | omega | skip
   refine loop_rows (α := Nat) (16 :: 17 :: 18 :: 19 :: 20 :: 21 :: 22 :: 23 :: [4, 11, 14, 15, 16, 17, 18, 19, 20, 21, 22, 23, 80, 81, 82, 83, 84, 85, 86, 87, 88, 89, 90, 91, 92, 93, 94, 95, 96, 97, 98, 99, 100, 101, 102, 103, 104, 105, 106, 107, 108, 109, 110, 111, 112, 113, 114, 115, 116, 117, 118, 119, 120, 121, 122, 123, 124, 125, 126, 127, 128, 129, 130, 131, 132, 133, 134, 135, 136, 137, 138, 139, 140, 141, 142, 143, 144, 145, 146, 147, 148, 149, 150, 151, 152, 153, 154, 155, 156, 157, 158, 159, 160, 161, 162, 163, 164, 165, 166, 167, 168, 169, 170, 171, 172, 173, 174, 175, 176, 177, 178, 179, 180, 181, 182, 183, 184, 185, 186]) (fun k => [(15, .lit (.int .i64 k)), (11, int (GK k).length), (14, .lit (.bool (!((GK k).any fun p => p.1 == i))))]) (fun k => [(448, some ⟨2, [[.sl 2 (ls.map encGd) false, .sl 2 (rs.map encGd) false]], 38, .wr⟩), (512, some ⟨4, [[int g.sc, int g.ga, int g.we, int g.cu]], 26, .wr⟩), (3776, some ⟨8, [usedV (GK k)], 82, .wr⟩)]) (fun k => k ≤ rs.length) (fun k => rs.length - k) 0 (fun x => by simp (maxSteps := 1000000) -implicitDefEqProofs (disch := omega) only [go_sem]; rfl) ?_ ?_ fun x hx => ?_
   · rw [hK0, show ((GT i).any fun p => p.1 == i) = false from by
       rw [List.any_eq_false]
       intro p hp
       have := (hgi2 i).e p hp
       simp only [beq_iff_eq]
       omega]
     exact weak_do3 []
   · exact Nat.zero_le _
   rename Nat => k
   by_cases hk : k < rs.length
   · have hfk := hfr _ (getD_mem hk)
     have t1 := true1_spec g (ls.getD i default) tr false i m (by omega) hfi hgk htr htl (by omega)
     have t2 := true1_spec g (rs.getD k default) tr false (8 + k) m (by omega) hfk hgk htr htl (by omega)
     have m1 := true_mild (b := tr) (i := i) hfi hgk
     have m2 := true_mild (b := tr) (i := 8 + k) hfk hgk
     have hsi := fun hh => truth_sure (by' := tr) (i := i) (k := 8 + k) hg1.1 hg2.1 (hlens i k hi hk) hh
     have him := fun hh => truth_may (by' := tr) (i := i) (k := 8 + k) hg1.1 hg2.1 (hlens i k hi hk) hh
     have hlk := lalike_spec g (trueG g tr i (ls.getD i default)) (trueG g tr (8 + k) (rs.getD k default)) m (by omega) hgk (by rw [trueG_len]; exact hfi.len) (by rw [trueG_len]; exact hfk.len) m1.1 m2.1 m1.2 m2.2
     have hal := Alike_spec g (ls.getD i default) (rs.getD k default) (by have := hfi.len; omega) (by have := hfk.len; omega)
     rw [if_pos (chk_two hm1 (by omega) hfi hfk hgg)] at hal
     have hpr := fun q (hq : q < PR.length) => (hb1 _ (getD_mem hq)).2.2
     have hprk : ∀ q, q < PR.length → (PR.getD q default).1 = i → (PR.getD q default).2 = k → alikeR g (ls.getD i default) (rs.getD k default) 2 = true := fun q hq e1 e2 => by
       have := hpr q hq
       rwa [e1, e2] at this
     have hik := his i k
     rw [Int.natCast_add] at t2
     rw [← hik] at hsi him hlk
     have hKk := hKs k
     have hGl : (GK k).length ≤ 100 := hGKl k
     clear m1 m2 hpr hik
     generalize trueG g tr i (ls.getD i default) = ta at *
     generalize trueG g tr (8 + k) (rs.getD k default) = tb at *
     generalize is i k = iv at *
     generalize alikeR g (ls.getD i default) (rs.getD k default) 2 = sv at *
     generalize alikeR g (ls.getD i default) (rs.getD k default) (-2) = mv at *
     repeat' (first
       | (with_reducible apply Req_intro); focus (first | omega | assumption | (simp; done))
       | with_reducible (first | apply Req_intro | refine nilT ?_ fun hn => ?_ | apply wk_draw Tryd_mixed | refine drawEnd (by kernel_rfl) ?_)
       | (with_reducible (first | apply condA_if | apply stepDG_ifN | apply stepDG_if | apply stepG_ifN | apply stepG_if)) <;> intro hb <;> (have hif := hb) <;> (try simp only [bo] at hif) <;> (try simp -implicitDefEqProofs (disch := omega) only [go_sem, hb]) <;> clear hb
       | simp (maxSteps := 1000000) -implicitDefEqProofs (disch := omega) only [go_sem])
     all_goals first | exact absurd trivial ‹¬True› | exact absurd ‹false = true› (by decide) | exact absurd ‹true = false› (by decide) | (exfalso; omega) | omega | skip
     first | refine callp t1 ?_ | refine calld t1 ?_
     try simp (maxSteps := 1000000) -implicitDefEqProofs (disch := omega) only [go_sem]
     repeat' (first
       | (with_reducible apply Req_intro); focus (first | omega | assumption | (simp; done))
       | with_reducible (first | apply Req_intro | refine nilT ?_ fun hn => ?_ | apply wk_draw Tryd_mixed | refine drawEnd (by kernel_rfl) ?_)
       | (with_reducible (first | apply condA_if | apply stepDG_ifN | apply stepDG_if | apply stepG_ifN | apply stepG_if)) <;> intro hb <;> (have hif := hb) <;> (try simp only [bo] at hif) <;> (try simp -implicitDefEqProofs (disch := omega) only [go_sem, hb]) <;> clear hb
       | simp (maxSteps := 1000000) -implicitDefEqProofs (disch := omega) only [go_sem])
     all_goals first | exact absurd trivial ‹¬True› | exact absurd ‹false = true› (by decide) | exact absurd ‹true = false› (by decide) | (exfalso; omega) | omega | skip
     first | refine callp t2 ?_ | refine calld t2 ?_
     try simp (maxSteps := 1000000) -implicitDefEqProofs (disch := omega) only [go_sem]
     repeat' (first
       | (with_reducible apply Req_intro); focus (first | omega | assumption | (simp; done))
       | with_reducible (first | apply Req_intro | refine nilT ?_ fun hn => ?_ | apply wk_draw Tryd_mixed | refine drawEnd (by kernel_rfl) ?_)
       | (with_reducible (first | apply condA_if | apply stepDG_ifN | apply stepDG_if | apply stepG_ifN | apply stepG_if)) <;> intro hb <;> (have hif := hb) <;> (try simp only [bo] at hif) <;> (try simp -implicitDefEqProofs (disch := omega) only [go_sem, hb]) <;> clear hb
       | simp (maxSteps := 1000000) -implicitDefEqProofs (disch := omega) only [go_sem])
     all_goals first | exact absurd trivial ‹¬True› | exact absurd ‹false = true› (by decide) | exact absurd ‹true = false› (by decide) | (exfalso; omega) | omega | skip
     first | refine callp hlk ?_ | refine calld hlk ?_
     try simp (maxSteps := 1000000) -implicitDefEqProofs (disch := omega) only [go_sem]
     repeat' (first
       | (with_reducible apply Req_intro); focus (first | omega | assumption | (simp; done))
       | with_reducible (first | apply Req_intro | refine nilT ?_ fun hn => ?_ | apply wk_draw Tryd_mixed | refine drawEnd (by kernel_rfl) ?_)
       | (with_reducible (first | apply condA_if | apply stepDG_ifN | apply stepDG_if | apply stepG_ifN | apply stepG_if)) <;> intro hb <;> (have hif := hb) <;> (try simp only [bo] at hif) <;> (try simp -implicitDefEqProofs (disch := omega) only [go_sem, hb]) <;> clear hb
       | simp (maxSteps := 1000000) -implicitDefEqProofs (disch := omega) only [go_sem])
     all_goals first | exact absurd trivial ‹¬True› | exact absurd ‹false = true› (by decide) | exact absurd ‹true = false› (by decide) | (exfalso; omega) | omega | skip
     first | refine callp hown ?_ | refine calld hown ?_
     try simp (maxSteps := 1000000) -implicitDefEqProofs (disch := omega) only [go_sem]
     repeat' (first
       | (with_reducible apply Req_intro); focus (first | omega | assumption | (simp; done))
       | with_reducible (first | apply Req_intro | refine nilT ?_ fun hn => ?_ | apply wk_draw Tryd_mixed | refine drawEnd (by kernel_rfl) ?_)
       | (with_reducible (first | apply condA_if | apply stepDG_ifN | apply stepDG_if | apply stepG_ifN | apply stepG_if)) <;> intro hb <;> (have hif := hb) <;> (try simp only [bo] at hif) <;> (try simp -implicitDefEqProofs (disch := omega) only [go_sem, hb]) <;> clear hb
       | simp (maxSteps := 1000000) -implicitDefEqProofs (disch := omega) only [go_sem])
     all_goals first | exact absurd trivial ‹¬True› | exact absurd ‹false = true› (by decide) | exact absurd ‹true = false› (by decide) | (exfalso; omega) | omega | skip
     first | refine callp hal ?_ | refine calld hal ?_
     try simp (maxSteps := 1000000) -implicitDefEqProofs (disch := omega) only [go_sem]
     cases sv with
     | true =>
       have e1 := hsi rfl
       subst e1
       have e2 := him rfl
       subst e2
       have hKk' : GK (k + 1) = if true && !((GK k).any fun p => p.1 == i) && !((GK k).any fun p => p.2 == k) then GK k ++ [(i, k)] else GK k := hKk
       try simp (maxSteps := 1000000) -implicitDefEqProofs (disch := omega) only [go_sem]
       repeat' (first
         | (with_reducible apply Req_intro); focus (first | omega | assumption | (simp; done))
         | with_reducible (first | apply Req_intro | refine nilT ?_ fun hn => ?_ | apply wk_draw Tryd_mixed | refine drawEnd (by kernel_rfl) ?_)
         | (with_reducible (first | apply condA_if | apply stepDG_ifN | apply stepDG_if | apply stepG_ifN | apply stepG_if)) <;> intro hb <;> (have hif := hb) <;> (try simp only [bo] at hif) <;> (try simp -implicitDefEqProofs (disch := omega) only [go_sem, hb]) <;> clear hb
         | simp (maxSteps := 1000000) -implicitDefEqProofs (disch := omega) only [go_sem])
       all_goals first | exact absurd trivial ‹¬True› | exact absurd ‹false = true› (by decide) | exact absurd ‹true = false› (by decide) | (exfalso; omega) | omega | skip
       refine loop_rows (α := Nat) ([4, 23, 151, 152, 153, 154, 155, 156, 157, 158, 159, 160, 161, 162, 163, 164, 165, 166, 167, 168, 169, 170, 171, 172]) (fun q => [(23, .lit (.int .i64 q))]) (fun q => [(448, some ⟨2, [[.sl 2 (ls.map encGd) false, .sl 2 (rs.map encGd) false]], 38, .wr⟩), (512, some ⟨4, [[int g.sc, int g.ga, int g.we, int g.cu]], 26, .wr⟩), (3776, some ⟨8, [usedV (GK k)], 82, .wr⟩)]) (fun q => q ≤ PR.length) (fun q => PR.length - q) 0 (fun x => by simp (maxSteps := 1000000) -implicitDefEqProofs (disch := omega) only [go_sem]; rfl) ?_ ?_ fun x hx => ?_
       · exact weak_do3 []
       · exact Nat.zero_le _
       rename Nat => q
       by_cases hq9 : q < PR.length
       · have hpq := hprk q hq9
         obtain ⟨pa, hpa⟩ : ∃ pa, (PR.getD q default).1 = pa := ⟨_, rfl⟩
         obtain ⟨pb, hpb⟩ : ∃ pb, (PR.getD q default).2 = pb := ⟨_, rfl⟩
         rw [hpa, hpb] at hpq
         repeat' (first
           | (with_reducible apply Req_intro); focus (first | omega | assumption | (simp; done))
           | with_reducible (first | apply Req_intro | refine nilT ?_ fun hn => ?_ | apply wk_draw Tryd_mixed | refine drawEnd (by kernel_rfl) ?_)
           | (with_reducible (first | apply condA_if | apply stepDG_ifN | apply stepDG_if | apply stepG_ifN | apply stepG_if)) <;> intro hb <;> (have hif := hb) <;> (try simp only [bo] at hif) <;> (try simp -implicitDefEqProofs (disch := omega) only [go_sem, hb, hpa, hpb]) <;> clear hb
           | simp (maxSteps := 1000000) -implicitDefEqProofs (disch := omega) only [go_sem, hpa, hpb])
         all_goals first | exact absurd trivial ‹¬True› | exact absurd ‹false = true› (by decide) | exact absurd ‹true = false› (by decide) | (exfalso; omega) | omega | skip
         first | refine callp (pair_spec i k) ?_ | refine calld (pair_spec i k) ?_
         try simp (maxSteps := 1000000) -implicitDefEqProofs (disch := omega) only [go_sem]
         by_cases hsame : pa = i ∧ pb = k
         · obtain ⟨e1, e2⟩ := hsame
           have hsv := hpq e1 e2
           subst e1 e2
           repeat' (first
             | (with_reducible apply Req_intro); focus (first | omega | assumption | (simp; done))
             | with_reducible (first | apply Req_intro | refine nilT ?_ fun hn => ?_ | apply wk_draw Tryd_mixed | refine drawEnd (by kernel_rfl) ?_)
             | (with_reducible (first | apply condA_if | apply stepDG_ifN | apply stepDG_if | apply stepG_ifN | apply stepG_if)) <;> intro hb <;> (have hif := hb) <;> (try simp only [bo] at hif) <;> (try simp -implicitDefEqProofs (disch := omega) only [go_sem, hb, hpa, hpb]) <;> clear hb
             | simp (maxSteps := 1000000) -implicitDefEqProofs (disch := omega) only [go_sem, hpa, hpb])
           all_goals first | exact absurd trivial (‹True → ¬True› trivial) | skip
           all_goals first | exact absurd trivial ‹¬True› | exact absurd ‹false = true› (by decide) | exact absurd ‹true = false› (by decide) | (exfalso; omega) | omega | skip
           with_reducible refine nxt_w (q + 1) ?_ ?_
           · (try dsimp only)
             skip
             exact weak_do3 []
           try dsimp only
           omega
         · have hne : (((pa : Int) == (i : Int)) && ((pb : Int) == (k : Int))) = false := by
             rw [Bool.and_eq_false_iff, beq_eq_false_iff_ne, beq_eq_false_iff_ne]
             omega
           repeat' (first
             | (with_reducible apply Req_intro); focus (first | omega | assumption | (simp; done))
             | with_reducible (first | apply Req_intro | refine nilT ?_ fun hn => ?_ | apply wk_draw Tryd_mixed | refine drawEnd (by kernel_rfl) ?_)
             | (with_reducible (first | apply condA_if | apply stepDG_ifN | apply stepDG_if | apply stepG_ifN | apply stepG_if)) <;> intro hb <;> (have hif := hb) <;> (try simp only [bo] at hif) <;> (try simp -implicitDefEqProofs (disch := omega) only [go_sem, hb, hpa, hpb, hne]) <;> clear hb
             | simp (maxSteps := 1000000) -implicitDefEqProofs (disch := omega) only [go_sem, hpa, hpb, hne])
           all_goals first | exact absurd trivial ‹¬True› | exact absurd ‹false = true› (by decide) | exact absurd ‹true = false› (by decide) | (exfalso; omega) | omega | skip
           with_reducible refine nxt_w (q + 1) ?_ ?_
           · (try dsimp only)
             skip
             exact weak_do3 []
           try dsimp only
           omega
       · cases hf : (GK k).any fun p => p.1 == i with
         | true =>
           have hK2 : GK (k + 1) = GK k := by rw [hKk', hf]; rfl
           repeat' (first
             | (with_reducible apply Req_intro); focus (first | omega | assumption | (simp; done))
             | with_reducible (first | apply Req_intro | refine nilT ?_ fun hn => ?_ | apply wk_draw Tryd_mixed | refine drawEnd (by kernel_rfl) ?_)
             | (with_reducible (first | apply condA_if | apply stepDG_ifN | apply stepDG_if | apply stepG_ifN | apply stepG_if)) <;> intro hb <;> (have hif := hb) <;> (try simp only [bo] at hif) <;> (try simp -implicitDefEqProofs (disch := omega) only [go_sem, hb, hf]) <;> clear hb
             | simp (maxSteps := 1000000) -implicitDefEqProofs (disch := omega) only [go_sem, hf])
           all_goals first | exact absurd trivial ‹¬True› | exact absurd ‹false = true› (by decide) | exact absurd ‹true = false› (by decide) | (exfalso; omega) | omega | skip
           with_reducible refine nxt_w (k + 1) ?_ ?_
           · (try dsimp only)
             (rw [hK2, hf]; simp only [Bool.not_true, Bool.not_false])
             exact weak_do3 []
           try dsimp only
           omega
         | false =>
           cases hu : (GK k).any fun p => p.2 == k with
           | true =>
             have hK2 : GK (k + 1) = GK k := by rw [hKk', hf, hu]; rfl
             repeat' (first
               | (with_reducible apply Req_intro); focus (first | omega | assumption | (simp; done))
               | with_reducible (first | apply Req_intro | refine nilT ?_ fun hn => ?_ | apply wk_draw Tryd_mixed | refine drawEnd (by kernel_rfl) ?_)
               | (with_reducible (first | apply condA_if | apply stepDG_ifN | apply stepDG_if | apply stepG_ifN | apply stepG_if)) <;> intro hb <;> (have hif := hb) <;> (try simp only [bo] at hif) <;> (try simp -implicitDefEqProofs (disch := omega) only [go_sem, hb, hf, hu, Nat.mul_one]) <;> clear hb
               | simp (maxSteps := 1000000) -implicitDefEqProofs (disch := omega) only [go_sem, hf, hu, Nat.mul_one])
             all_goals first | exact absurd trivial ‹¬True› | exact absurd ‹false = true› (by decide) | exact absurd ‹true = false› (by decide) | (exfalso; omega) | omega | skip
             with_reducible refine nxt_w (k + 1) ?_ ?_
             · (try dsimp only)
               (rw [hK2, hf]; simp only [Bool.not_true, Bool.not_false])
               exact weak_do3 []
             try dsimp only
             omega
           | false =>
             have hK2 : GK (k + 1) = GK k ++ [(i, k)] := by rw [hKk', hf, hu]; rfl
             have hus := usedV_splice (L := GK k) (i := i) (show k < 8 by omega)
             repeat' (first
               | (with_reducible apply Req_intro); focus (first | omega | assumption | (simp; done))
               | with_reducible (first | apply Req_intro | refine nilT ?_ fun hn => ?_ | apply wk_draw Tryd_mixed | refine drawEnd (by kernel_rfl) ?_)
               | (with_reducible (first | apply condA_if | apply stepDG_ifN | apply stepDG_if | apply stepG_ifN | apply stepG_if)) <;> intro hb <;> (have hif := hb) <;> (try simp only [bo] at hif) <;> (try simp -implicitDefEqProofs (disch := omega) only [go_sem, hb, hf, hu, hus, Nat.mul_one]) <;> clear hb
               | simp (maxSteps := 1000000) -implicitDefEqProofs (disch := omega) only [go_sem, hf, hu, hus, Nat.mul_one])
             all_goals first | exact absurd trivial ‹¬True› | exact absurd ‹false = true› (by decide) | exact absurd ‹true = false› (by decide) | (exfalso; omega) | omega | skip
             with_reducible refine nxt_w (k + 1) ?_ ?_
             · (try dsimp only)
               (rw [hK2]; simp only [List.length_append, List.any_append, hf, List.any_cons, List.any_nil, beq_self_eq_true, Bool.or_false, Bool.or_true, Bool.not_true, List.length_cons, List.length_nil, Nat.zero_add])
               exact weak_do3 []
             try dsimp only
             omega
     | false =>
       cases iv with
       | true =>
         have e2 := him rfl
         subst e2
         have hKk' : GK (k + 1) = if true && !((GK k).any fun p => p.1 == i) && !((GK k).any fun p => p.2 == k) then GK k ++ [(i, k)] else GK k := hKk
         try simp (maxSteps := 1000000) -implicitDefEqProofs (disch := omega) only [go_sem]
         repeat' (first
           | (with_reducible apply Req_intro); focus (first | omega | assumption | (simp; done))
           | with_reducible (first | apply Req_intro | refine nilT ?_ fun hn => ?_ | apply wk_draw Tryd_mixed | refine drawEnd (by kernel_rfl) ?_)
           | (with_reducible (first | apply condA_if | apply stepDG_ifN | apply stepDG_if | apply stepG_ifN | apply stepG_if)) <;> intro hb <;> (have hif := hb) <;> (try simp only [bo] at hif) <;> (try simp -implicitDefEqProofs (disch := omega) only [go_sem, hb]) <;> clear hb
           | simp (maxSteps := 1000000) -implicitDefEqProofs (disch := omega) only [go_sem])
         all_goals first | exact absurd trivial ‹¬True› | exact absurd ‹false = true› (by decide) | exact absurd ‹true = false› (by decide) | (exfalso; omega) | omega | skip
         refine loop_rows (α := Nat) ([4, 23, 151, 152, 153, 154, 155, 156, 157, 158, 159, 160, 161, 162, 163, 164, 165, 166, 167, 168, 169, 170, 171, 172]) (fun q => [(23, .lit (.int .i64 q))]) (fun q => [(448, some ⟨2, [[.sl 2 (ls.map encGd) false, .sl 2 (rs.map encGd) false]], 38, .wr⟩), (512, some ⟨4, [[int g.sc, int g.ga, int g.we, int g.cu]], 26, .wr⟩), (3776, some ⟨8, [usedV (GK k)], 82, .wr⟩)]) (fun q => q ≤ PR.length) (fun q => PR.length - q) 0 (fun x => by simp (maxSteps := 1000000) -implicitDefEqProofs (disch := omega) only [go_sem]; rfl) ?_ ?_ fun x hx => ?_
         · exact weak_do3 []
         · exact Nat.zero_le _
         rename Nat => q
         by_cases hq9 : q < PR.length
         · have hpq := hprk q hq9
           obtain ⟨pa, hpa⟩ : ∃ pa, (PR.getD q default).1 = pa := ⟨_, rfl⟩
           obtain ⟨pb, hpb⟩ : ∃ pb, (PR.getD q default).2 = pb := ⟨_, rfl⟩
           rw [hpa, hpb] at hpq
           repeat' (first
             | (with_reducible apply Req_intro); focus (first | omega | assumption | (simp; done))
             | with_reducible (first | apply Req_intro | refine nilT ?_ fun hn => ?_ | apply wk_draw Tryd_mixed | refine drawEnd (by kernel_rfl) ?_)
             | (with_reducible (first | apply condA_if | apply stepDG_ifN | apply stepDG_if | apply stepG_ifN | apply stepG_if)) <;> intro hb <;> (have hif := hb) <;> (try simp only [bo] at hif) <;> (try simp -implicitDefEqProofs (disch := omega) only [go_sem, hb, hpa, hpb]) <;> clear hb
             | simp (maxSteps := 1000000) -implicitDefEqProofs (disch := omega) only [go_sem, hpa, hpb])
           all_goals first | exact absurd trivial ‹¬True› | exact absurd ‹false = true› (by decide) | exact absurd ‹true = false› (by decide) | (exfalso; omega) | omega | skip
           first | refine callp (pair_spec i k) ?_ | refine calld (pair_spec i k) ?_
           try simp (maxSteps := 1000000) -implicitDefEqProofs (disch := omega) only [go_sem]
           by_cases hsame : pa = i ∧ pb = k
           · obtain ⟨e1, e2⟩ := hsame
             have hsv := hpq e1 e2
             subst e1 e2
             cases hsv
           · have hne : (((pa : Int) == (i : Int)) && ((pb : Int) == (k : Int))) = false := by
               rw [Bool.and_eq_false_iff, beq_eq_false_iff_ne, beq_eq_false_iff_ne]
               omega
             repeat' (first
               | (with_reducible apply Req_intro); focus (first | omega | assumption | (simp; done))
               | with_reducible (first | apply Req_intro | refine nilT ?_ fun hn => ?_ | apply wk_draw Tryd_mixed | refine drawEnd (by kernel_rfl) ?_)
               | (with_reducible (first | apply condA_if | apply stepDG_ifN | apply stepDG_if | apply stepG_ifN | apply stepG_if)) <;> intro hb <;> (have hif := hb) <;> (try simp only [bo] at hif) <;> (try simp -implicitDefEqProofs (disch := omega) only [go_sem, hb, hpa, hpb, hne]) <;> clear hb
               | simp (maxSteps := 1000000) -implicitDefEqProofs (disch := omega) only [go_sem, hpa, hpb, hne])
             all_goals first | exact absurd trivial ‹¬True› | exact absurd ‹false = true› (by decide) | exact absurd ‹true = false› (by decide) | (exfalso; omega) | omega | skip
             with_reducible refine nxt_w (q + 1) ?_ ?_
             · (try dsimp only)
               skip
               exact weak_do3 []
             try dsimp only
             omega
         · cases hf : (GK k).any fun p => p.1 == i with
           | true =>
             have hK2 : GK (k + 1) = GK k := by rw [hKk', hf]; rfl
             repeat' (first
               | (with_reducible apply Req_intro); focus (first | omega | assumption | (simp; done))
               | with_reducible (first | apply Req_intro | refine nilT ?_ fun hn => ?_ | apply wk_draw Tryd_mixed | refine drawEnd (by kernel_rfl) ?_)
               | (with_reducible (first | apply condA_if | apply stepDG_ifN | apply stepDG_if | apply stepG_ifN | apply stepG_if)) <;> intro hb <;> (have hif := hb) <;> (try simp only [bo] at hif) <;> (try simp -implicitDefEqProofs (disch := omega) only [go_sem, hb, hf]) <;> clear hb
               | simp (maxSteps := 1000000) -implicitDefEqProofs (disch := omega) only [go_sem, hf])
             all_goals first | exact absurd trivial ‹¬True› | exact absurd ‹false = true› (by decide) | exact absurd ‹true = false› (by decide) | (exfalso; omega) | omega | skip
             with_reducible refine nxt_w (k + 1) ?_ ?_
             · (try dsimp only)
               (rw [hK2, hf]; simp only [Bool.not_true, Bool.not_false])
               exact weak_do3 []
             try dsimp only
             omega
           | false =>
             cases hu : (GK k).any fun p => p.2 == k with
             | true =>
               have hK2 : GK (k + 1) = GK k := by rw [hKk', hf, hu]; rfl
               repeat' (first
                 | (with_reducible apply Req_intro); focus (first | omega | assumption | (simp; done))
                 | with_reducible (first | apply Req_intro | refine nilT ?_ fun hn => ?_ | apply wk_draw Tryd_mixed | refine drawEnd (by kernel_rfl) ?_)
                 | (with_reducible (first | apply condA_if | apply stepDG_ifN | apply stepDG_if | apply stepG_ifN | apply stepG_if)) <;> intro hb <;> (have hif := hb) <;> (try simp only [bo] at hif) <;> (try simp -implicitDefEqProofs (disch := omega) only [go_sem, hb, hf, hu, Nat.mul_one]) <;> clear hb
                 | simp (maxSteps := 1000000) -implicitDefEqProofs (disch := omega) only [go_sem, hf, hu, Nat.mul_one])
               all_goals first | exact absurd trivial ‹¬True› | exact absurd ‹false = true› (by decide) | exact absurd ‹true = false› (by decide) | (exfalso; omega) | omega | skip
               with_reducible refine nxt_w (k + 1) ?_ ?_
               · (try dsimp only)
                 (rw [hK2, hf]; simp only [Bool.not_true, Bool.not_false])
                 exact weak_do3 []
               try dsimp only
               omega
             | false =>
               have hK2 : GK (k + 1) = GK k ++ [(i, k)] := by rw [hKk', hf, hu]; rfl
               have hus := usedV_splice (L := GK k) (i := i) (show k < 8 by omega)
               repeat' (first
                 | (with_reducible apply Req_intro); focus (first | omega | assumption | (simp; done))
                 | with_reducible (first | apply Req_intro | refine nilT ?_ fun hn => ?_ | apply wk_draw Tryd_mixed | refine drawEnd (by kernel_rfl) ?_)
                 | (with_reducible (first | apply condA_if | apply stepDG_ifN | apply stepDG_if | apply stepG_ifN | apply stepG_if)) <;> intro hb <;> (have hif := hb) <;> (try simp only [bo] at hif) <;> (try simp -implicitDefEqProofs (disch := omega) only [go_sem, hb, hf, hu, hus, Nat.mul_one]) <;> clear hb
                 | simp (maxSteps := 1000000) -implicitDefEqProofs (disch := omega) only [go_sem, hf, hu, hus, Nat.mul_one])
               all_goals first | exact absurd trivial ‹¬True› | exact absurd ‹false = true› (by decide) | exact absurd ‹true = false› (by decide) | (exfalso; omega) | omega | skip
               with_reducible refine nxt_w (k + 1) ?_ ?_
               · (try dsimp only)
                 (rw [hK2]; simp only [List.length_append, List.any_append, hf, List.any_cons, List.any_nil, beq_self_eq_true, Bool.or_false, Bool.or_true, Bool.not_true, List.length_cons, List.length_nil, Nat.zero_add])
                 exact weak_do3 []
               try dsimp only
               omega
       | false =>
         cases mv with
         | true =>
           have hKk' : GK (k + 1) = if false && !((GK k).any fun p => p.1 == i) && !((GK k).any fun p => p.2 == k) then GK k ++ [(i, k)] else GK k := hKk
           try simp (maxSteps := 1000000) -implicitDefEqProofs (disch := omega) only [go_sem]
           repeat' (first
             | (with_reducible apply Req_intro); focus (first | omega | assumption | (simp; done))
             | with_reducible (first | apply Req_intro | refine nilT ?_ fun hn => ?_ | apply wk_draw Tryd_mixed | refine drawEnd (by kernel_rfl) ?_)
             | (with_reducible (first | apply condA_if | apply stepDG_ifN | apply stepDG_if | apply stepG_ifN | apply stepG_if)) <;> intro hb <;> (have hif := hb) <;> (try simp only [bo] at hif) <;> (try simp -implicitDefEqProofs (disch := omega) only [go_sem, hb]) <;> clear hb
             | simp (maxSteps := 1000000) -implicitDefEqProofs (disch := omega) only [go_sem])
           all_goals first | exact absurd trivial ‹¬True› | exact absurd ‹false = true› (by decide) | exact absurd ‹true = false› (by decide) | (exfalso; omega) | omega | skip
           refine loop_rows (α := Nat) ([4, 23, 151, 152, 153, 154, 155, 156, 157, 158, 159, 160, 161, 162, 163, 164, 165, 166, 167, 168, 169, 170, 171, 172]) (fun q => [(23, .lit (.int .i64 q))]) (fun q => [(448, some ⟨2, [[.sl 2 (ls.map encGd) false, .sl 2 (rs.map encGd) false]], 38, .wr⟩), (512, some ⟨4, [[int g.sc, int g.ga, int g.we, int g.cu]], 26, .wr⟩), (3776, some ⟨8, [usedV (GK k)], 82, .wr⟩)]) (fun q => q ≤ PR.length) (fun q => PR.length - q) 0 (fun x => by simp (maxSteps := 1000000) -implicitDefEqProofs (disch := omega) only [go_sem]; rfl) ?_ ?_ fun x hx => ?_
           · exact weak_do3 []
           · exact Nat.zero_le _
           rename Nat => q
           by_cases hq9 : q < PR.length
           · have hpq := hprk q hq9
             obtain ⟨pa, hpa⟩ : ∃ pa, (PR.getD q default).1 = pa := ⟨_, rfl⟩
             obtain ⟨pb, hpb⟩ : ∃ pb, (PR.getD q default).2 = pb := ⟨_, rfl⟩
             rw [hpa, hpb] at hpq
             repeat' (first
               | (with_reducible apply Req_intro); focus (first | omega | assumption | (simp; done))
               | with_reducible (first | apply Req_intro | refine nilT ?_ fun hn => ?_ | apply wk_draw Tryd_mixed | refine drawEnd (by kernel_rfl) ?_)
               | (with_reducible (first | apply condA_if | apply stepDG_ifN | apply stepDG_if | apply stepG_ifN | apply stepG_if)) <;> intro hb <;> (have hif := hb) <;> (try simp only [bo] at hif) <;> (try simp -implicitDefEqProofs (disch := omega) only [go_sem, hb, hpa, hpb]) <;> clear hb
               | simp (maxSteps := 1000000) -implicitDefEqProofs (disch := omega) only [go_sem, hpa, hpb])
             all_goals first | exact absurd trivial ‹¬True› | exact absurd ‹false = true› (by decide) | exact absurd ‹true = false› (by decide) | (exfalso; omega) | omega | skip
             first | refine callp (pair_spec i k) ?_ | refine calld (pair_spec i k) ?_
             try simp (maxSteps := 1000000) -implicitDefEqProofs (disch := omega) only [go_sem]
             by_cases hsame : pa = i ∧ pb = k
             · obtain ⟨e1, e2⟩ := hsame
               have hsv := hpq e1 e2
               subst e1 e2
               cases hsv
             · have hne : (((pa : Int) == (i : Int)) && ((pb : Int) == (k : Int))) = false := by
                 rw [Bool.and_eq_false_iff, beq_eq_false_iff_ne, beq_eq_false_iff_ne]
                 omega
               repeat' (first
                 | (with_reducible apply Req_intro); focus (first | omega | assumption | (simp; done))
                 | with_reducible (first | apply Req_intro | refine nilT ?_ fun hn => ?_ | apply wk_draw Tryd_mixed | refine drawEnd (by kernel_rfl) ?_)
                 | (with_reducible (first | apply condA_if | apply stepDG_ifN | apply stepDG_if | apply stepG_ifN | apply stepG_if)) <;> intro hb <;> (have hif := hb) <;> (try simp only [bo] at hif) <;> (try simp -implicitDefEqProofs (disch := omega) only [go_sem, hb, hpa, hpb, hne]) <;> clear hb
                 | simp (maxSteps := 1000000) -implicitDefEqProofs (disch := omega) only [go_sem, hpa, hpb, hne])
               all_goals first | exact absurd trivial ‹¬True› | exact absurd ‹false = true› (by decide) | exact absurd ‹true = false› (by decide) | (exfalso; omega) | omega | skip
               with_reducible refine nxt_w (q + 1) ?_ ?_
               · (try dsimp only)
                 skip
                 exact weak_do3 []
               try dsimp only
               omega
           · have hK2 : GK (k + 1) = GK k := by rw [hKk']; rfl
             repeat' (first
               | (with_reducible apply Req_intro); focus (first | omega | assumption | (simp; done))
               | with_reducible (first | apply Req_intro | refine nilT ?_ fun hn => ?_ | apply wk_draw Tryd_mixed | refine drawEnd (by kernel_rfl) ?_)
               | (with_reducible (first | apply condA_if | apply stepDG_ifN | apply stepDG_if | apply stepG_ifN | apply stepG_if)) <;> intro hb <;> (have hif := hb) <;> (try simp only [bo] at hif) <;> (try simp -implicitDefEqProofs (disch := omega) only [go_sem, hb]) <;> clear hb
               | simp (maxSteps := 1000000) -implicitDefEqProofs (disch := omega) only [go_sem])
             all_goals first | exact absurd trivial ‹¬True› | exact absurd ‹false = true› (by decide) | exact absurd ‹true = false› (by decide) | (exfalso; omega) | omega | skip
             with_reducible refine nxt_w (k + 1) ?_ ?_
             · (try dsimp only)
               (rw [hK2])
               exact weak_do3 []
             try dsimp only
             omega
         | false =>
           have hKk' : GK (k + 1) = if false && !((GK k).any fun p => p.1 == i) && !((GK k).any fun p => p.2 == k) then GK k ++ [(i, k)] else GK k := hKk
           try simp (maxSteps := 1000000) -implicitDefEqProofs (disch := omega) only [go_sem]
           repeat' (first
             | (with_reducible apply Req_intro); focus (first | omega | assumption | (simp; done))
             | with_reducible (first | apply Req_intro | refine nilT ?_ fun hn => ?_ | apply wk_draw Tryd_mixed | refine drawEnd (by kernel_rfl) ?_)
             | (with_reducible (first | apply condA_if | apply stepDG_ifN | apply stepDG_if | apply stepG_ifN | apply stepG_if)) <;> intro hb <;> (have hif := hb) <;> (try simp only [bo] at hif) <;> (try simp -implicitDefEqProofs (disch := omega) only [go_sem, hb]) <;> clear hb
             | simp (maxSteps := 1000000) -implicitDefEqProofs (disch := omega) only [go_sem])
           all_goals first | exact absurd trivial ‹¬True› | exact absurd ‹false = true› (by decide) | exact absurd ‹true = false› (by decide) | (exfalso; omega) | omega | skip
           refine loop_rows (α := Nat) ([4, 23, 151, 152, 153, 154, 155, 156, 157, 158, 159, 160, 161, 162, 163, 164, 165, 166, 167, 168, 169, 170, 171, 172]) (fun q => [(23, .lit (.int .i64 q))]) (fun q => [(448, some ⟨2, [[.sl 2 (ls.map encGd) false, .sl 2 (rs.map encGd) false]], 38, .wr⟩), (512, some ⟨4, [[int g.sc, int g.ga, int g.we, int g.cu]], 26, .wr⟩), (3776, some ⟨8, [usedV (GK k)], 82, .wr⟩)]) (fun q => q ≤ PR.length) (fun q => PR.length - q) 0 (fun x => by simp (maxSteps := 1000000) -implicitDefEqProofs (disch := omega) only [go_sem]; rfl) ?_ ?_ fun x hx => ?_
           · exact weak_do3 []
           · exact Nat.zero_le _
           rename Nat => q
           by_cases hq9 : q < PR.length
           · have hpq := hprk q hq9
             obtain ⟨pa, hpa⟩ : ∃ pa, (PR.getD q default).1 = pa := ⟨_, rfl⟩
             obtain ⟨pb, hpb⟩ : ∃ pb, (PR.getD q default).2 = pb := ⟨_, rfl⟩
             rw [hpa, hpb] at hpq
             repeat' (first
               | (with_reducible apply Req_intro); focus (first | omega | assumption | (simp; done))
               | with_reducible (first | apply Req_intro | refine nilT ?_ fun hn => ?_ | apply wk_draw Tryd_mixed | refine drawEnd (by kernel_rfl) ?_)
               | (with_reducible (first | apply condA_if | apply stepDG_ifN | apply stepDG_if | apply stepG_ifN | apply stepG_if)) <;> intro hb <;> (have hif := hb) <;> (try simp only [bo] at hif) <;> (try simp -implicitDefEqProofs (disch := omega) only [go_sem, hb, hpa, hpb]) <;> clear hb
               | simp (maxSteps := 1000000) -implicitDefEqProofs (disch := omega) only [go_sem, hpa, hpb])
             all_goals first | exact absurd trivial ‹¬True› | exact absurd ‹false = true› (by decide) | exact absurd ‹true = false› (by decide) | (exfalso; omega) | omega | skip
             first | refine callp (pair_spec i k) ?_ | refine calld (pair_spec i k) ?_
             try simp (maxSteps := 1000000) -implicitDefEqProofs (disch := omega) only [go_sem]
             by_cases hsame : pa = i ∧ pb = k
             · obtain ⟨e1, e2⟩ := hsame
               have hsv := hpq e1 e2
               subst e1 e2
               cases hsv
             · have hne : (((pa : Int) == (i : Int)) && ((pb : Int) == (k : Int))) = false := by
                 rw [Bool.and_eq_false_iff, beq_eq_false_iff_ne, beq_eq_false_iff_ne]
                 omega
               repeat' (first
                 | (with_reducible apply Req_intro); focus (first | omega | assumption | (simp; done))
                 | with_reducible (first | apply Req_intro | refine nilT ?_ fun hn => ?_ | apply wk_draw Tryd_mixed | refine drawEnd (by kernel_rfl) ?_)
                 | (with_reducible (first | apply condA_if | apply stepDG_ifN | apply stepDG_if | apply stepG_ifN | apply stepG_if)) <;> intro hb <;> (have hif := hb) <;> (try simp only [bo] at hif) <;> (try simp -implicitDefEqProofs (disch := omega) only [go_sem, hb, hpa, hpb, hne]) <;> clear hb
                 | simp (maxSteps := 1000000) -implicitDefEqProofs (disch := omega) only [go_sem, hpa, hpb, hne])
               all_goals first | exact absurd trivial ‹¬True› | exact absurd ‹false = true› (by decide) | exact absurd ‹true = false› (by decide) | (exfalso; omega) | omega | skip
               with_reducible refine nxt_w (q + 1) ?_ ?_
               · (try dsimp only)
                 skip
                 exact weak_do3 []
               try dsimp only
               omega
           · have hK2 : GK (k + 1) = GK k := by rw [hKk']; rfl
             repeat' (first
               | (with_reducible apply Req_intro); focus (first | omega | assumption | (simp; done))
               | with_reducible (first | apply Req_intro | refine nilT ?_ fun hn => ?_ | apply wk_draw Tryd_mixed | refine drawEnd (by kernel_rfl) ?_)
               | (with_reducible (first | apply condA_if | apply stepDG_ifN | apply stepDG_if | apply stepG_ifN | apply stepG_if)) <;> intro hb <;> (have hif := hb) <;> (try simp only [bo] at hif) <;> (try simp -implicitDefEqProofs (disch := omega) only [go_sem, hb]) <;> clear hb
               | simp (maxSteps := 1000000) -implicitDefEqProofs (disch := omega) only [go_sem])
             all_goals first | exact absurd trivial ‹¬True› | exact absurd ‹false = true› (by decide) | exact absurd ‹true = false› (by decide) | (exfalso; omega) | omega | skip
             with_reducible refine nxt_w (k + 1) ?_ ?_
             · (try dsimp only)
               (rw [hK2])
               exact weak_do3 []
             try dsimp only
             omega
   · obtain rfl : k = rs.length := by omega
     rw [← hsu]
     repeat' (first
       | (with_reducible apply Req_intro); focus (first | omega | assumption | (simp; done))
       | with_reducible (first | apply Req_intro | refine nilT ?_ fun hn => ?_ | apply wk_draw Tryd_mixed | refine drawEnd (by kernel_rfl) ?_)
       | (with_reducible (first | apply condA_if | apply stepDG_ifN | apply stepDG_if | apply stepG_ifN | apply stepG_if)) <;> intro hb <;> (have hif := hb) <;> (try simp only [bo] at hif) <;> (try simp -implicitDefEqProofs (disch := omega) only [go_sem, hb]) <;> clear hb
       | simp (maxSteps := 1000000) -implicitDefEqProofs (disch := omega) only [go_sem])
     all_goals first | exact absurd trivial ‹¬True› | exact absurd ‹false = true› (by decide) | exact absurd ‹true = false› (by decide) | (exfalso; omega) | omega | skip
     with_reducible refine nxt_w (i + 1) ?_ ?_
     · (try dsimp only)
       skip
       exact weak_do3 []
     try dsimp only
     omega
 · obtain rfl : i = ls.length := by omega
   repeat' (first
     | (with_reducible apply Req_intro); focus (first | omega | assumption | (simp; done))
     | with_reducible (first | apply Req_intro | refine nilT ?_ fun hn => ?_ | apply wk_draw Tryd_mixed | refine drawEnd (by kernel_rfl) ?_)
     | (with_reducible (first | apply condA_if | apply stepDG_ifN | apply stepDG_if | apply stepG_ifN | apply stepG_if)) <;> intro hb <;> (have hif := hb) <;> (try simp only [bo] at hif) <;> (try simp -implicitDefEqProofs (disch := omega) only [go_sem, hb]) <;> clear hb
     | simp (maxSteps := 1000000) -implicitDefEqProofs (disch := omega) only [go_sem])
   all_goals first | exact absurd trivial ‹¬True› | exact absurd ‹false = true› (by decide) | exact absurd ‹true = false› (by decide) | (exfalso; omega) | omega | skip
   refine callp gknown_spec ?_
   try simp (maxSteps := 1000000) -implicitDefEqProofs (disch := omega) only [go_sem]
   repeat' (first
     | (with_reducible apply Req_intro); focus (first | omega | assumption | (simp; done))
     | with_reducible (first | apply Req_intro | refine nilT ?_ fun hn => ?_ | apply wk_draw Tryd_mixed | refine drawEnd (by kernel_rfl) ?_)
     | (with_reducible (first | apply condA_if | apply stepDG_ifN | apply stepDG_if | apply stepG_ifN | apply stepG_if)) <;> intro hb <;> (have hif := hb) <;> (try simp only [bo] at hif) <;> (try simp -implicitDefEqProofs (disch := omega) only [go_sem, hb]) <;> clear hb
     | simp (maxSteps := 1000000) -implicitDefEqProofs (disch := omega) only [go_sem])
   all_goals first | exact absurd trivial ‹¬True› | exact absurd ‹false = true› (by decide) | exact absurd ‹true = false› (by decide) | (exfalso; omega) | omega | skip
   refine ret_do ?_
   rfl
end Go.Aw
end
