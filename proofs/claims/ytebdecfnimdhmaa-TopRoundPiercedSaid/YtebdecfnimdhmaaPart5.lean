/-
  A part of the proof that a law returns true for every input that the given row speaks of: an own verified walk over the program (namespace Go.Aw), contracts of the functions that the law calls, and the law itself. Conditions: those of the given row, no other.
-/
import Derived.Test.YtebdecfnimdhmaaPart4
set_option linter.unusedVariables false
set_option linter.unusedSimpArgs false
section
set_option maxRecDepth 20000
set_option maxHeartbeats 4000000
namespace Go.Aw
open Go.RowKit Go.Proofs
def laterT (t : Task) (b : Int) : Task := { t with leaves := t.leaves + b }
theorem laterT_ok {t : Task} (h : TaskOk t) {b : Int} (hb : 0 ≤ b ∧ b ≤ 5000) : LegOk (laterT t b) := by
 have h1 := h.leg
 have h2 := h.l
 have h3 := h.b
 exact ⟨h1.n, h1.ml, h1.rl, h1.so, h1.po, by show 0 ≤ t.leaves + b ∧ t.leaves + b ≤ 10000; omega⟩
theorem Late1_spec (t : Task) (ht : TaskOk t) (o : List Int) (e : Bool) (hl : OrdOk t.ps.length o) (b : Int) (hb : 0 ≤ b ∧ b ≤ 5000) : Ct Try.prog 33 [int b, .rp (cellT t), .rp [.sl 1 (o.map encI) e]] (.lit (.bool (goodO (laterT t b) o))) := by
 have h2 := ht.l
 have h3 := ht.b
 refine fn_enter Try.func33 rfl (by decide) Try.results33 Try.ntmps33 ?_ rfl (by simp (maxSteps := 1000000) -implicitDefEqProofs (disch := omega) only [go_sem]; rfl) fun base => ?_
 · first | assumption | (simp only [go_sem] <;> assumption) | (simp only [go_sem, *]; done) | (simp [go_sem]; done)
 repeat' (first
   | (with_reducible apply Req_intro); focus (first | omega | assumption | (simp; done))
   | with_reducible (first | apply Req_intro | refine nilT ?_ fun hn => ?_ | apply wk_draw Try_mixed | refine drawEnd (by kernel_rfl) ?_)
   | (with_reducible (first | apply condA_if | apply stepDG_ifN | apply stepDG_if | apply stepG_ifN | apply stepG_if)) <;> intro hb <;> (have hif := hb) <;> (try simp only [bo] at hif) <;> (try simp -implicitDefEqProofs (disch := omega) only [go_sem, hb]) <;> clear hb
   | simp (maxSteps := 1000000) -implicitDefEqProofs (disch := omega) only [go_sem])
 all_goals first | (exfalso; omega) | omega | skip
 refine callp (back_spec (laterT t b) (laterT_ok ht hb) o e hl) ?_
 try simp (maxSteps := 1000000) -implicitDefEqProofs (disch := omega) only [go_sem]
 repeat' (first
   | (with_reducible apply Req_intro); focus (first | omega | assumption | (simp; done))
   | with_reducible (first | apply Req_intro | refine nilT ?_ fun hn => ?_ | apply wk_draw Try_mixed | refine drawEnd (by kernel_rfl) ?_)
   | (with_reducible (first | apply condA_if | apply stepDG_ifN | apply stepDG_if | apply stepG_ifN | apply stepG_if)) <;> intro hb <;> (have hif := hb) <;> (try simp only [bo] at hif) <;> (try simp -implicitDefEqProofs (disch := omega) only [go_sem, hb]) <;> clear hb
   | simp (maxSteps := 1000000) -implicitDefEqProofs (disch := omega) only [go_sem])
 refine ret_do ?_
 rfl
def srch (ok : Int → Bool) : Nat → Int → Int → Int
 | 0, lo, _ => lo
 | k + 1, lo, hi => if lo < hi then (if ok ((lo + hi + 1) / 2) then srch ok k ((lo + hi + 1) / 2) hi else srch ok k lo ((lo + hi + 1) / 2 - 1)) else lo
theorem srch_end {ok : Int → Bool} {lo : Int} : ∀ k, srch ok k lo lo = lo
 | 0 => rfl
 | k + 1 => by rw [srch, if_neg (Int.lt_irrefl _)]
structure AtS (ok : Int → Bool) (R : Int) (z : Int × Int) : Prop where
 b : 0 ≤ z.1 ∧ z.1 ≤ z.2 ∧ z.2 ≤ 5000
 e : ∃ k : Nat, srch ok k z.1 z.2 = R ∧ z.2 - z.1 ≤ k
def lateR (t : Task) (o : List Int) : Int := srch (fun b => goodO (laterT t b) o) 5000 0 5000
theorem AtS.yes {ok : Int → Bool} {R lo hi : Int} (h : AtS ok R (lo, hi)) (hlt : lo < hi) (hy : ok ((lo + hi + 1) / 2) = true) : AtS ok R ((lo + hi + 1) / 2, hi) := by
 obtain ⟨hb, k, hk, hd⟩ := h
 simp only at hb hk hd
 refine ⟨by simp only; omega, ?_⟩
 cases k with
 | zero => exfalso; omega
 | succ k =>
   rw [srch, if_pos hlt, hy, if_pos rfl] at hk
   exact ⟨k, hk, by simp only; omega⟩
theorem AtS.no {ok : Int → Bool} {R lo hi : Int} (h : AtS ok R (lo, hi)) (hlt : lo < hi) (hy : ok ((lo + hi + 1) / 2) = false) : AtS ok R (lo, (lo + hi + 1) / 2 - 1) := by
 obtain ⟨hb, k, hk, hd⟩ := h
 simp only at hb hk hd
 refine ⟨by simp only; omega, ?_⟩
 cases k with
 | zero => exfalso; omega
 | succ k =>
   rw [srch, if_pos hlt, hy] at hk
   exact ⟨k, hk, by simp only; omega⟩
theorem AtS.fin {ok : Int → Bool} {R lo hi : Int} (h : AtS ok R (lo, hi)) (hlt : ¬ lo < hi) : lo = R := by
 obtain ⟨hb, k, hk, hd⟩ := h
 simp only at hb hk hd
 obtain rfl : lo = hi := by omega
 rw [srch_end] at hk
 exact hk
theorem srch_bd {ok : Int → Bool} : ∀ k lo hi, 0 ≤ lo → 0 ≤ srch ok k lo hi
 | 0, lo, hi, h => h
 | k + 1, lo, hi, h => by
   rw [srch]
   split
   · split
     · exact srch_bd k _ _ (by omega)
     · exact srch_bd k _ _ h
   · exact h
theorem Late_spec (t : Task) (ht : TaskOk t) (o : List Int) (e : Bool) (hl : OrdOk t.ps.length o) (hg : goodO t o = true) : Ct Try.prog 11 [encT t, .sl 1 (o.map encI) e] (.tup [int (lateR t o), int 0]) := by
 have hlen := hl.len
 have h7 := ht.n
 have hg0 : goodO (laterT t 0) o = true := by
   have : laterT t 0 = t := by unfold laterT; rw [Int.add_zero]
   rw [this]; exact hg
 refine ct_enterT Try.func11 rfl (by decide) Try.results11 Try.ntmps11 ?_ rfl (by simp (maxSteps := 1000000) -implicitDefEqProofs (disch := omega) only [go_sem]; rfl) fun base => ?_
 · first | assumption | (simp only [go_sem] <;> assumption) | (simp only [go_sem, *]; done) | (simp [go_sem]; done)
 repeat' (first
   | (with_reducible apply Req_intro); focus (first | omega | assumption | (simp; done))
   | with_reducible (first | apply Req_intro | refine nilT ?_ fun hn => ?_ | apply wk_draw Try_mixed | refine drawEnd (by kernel_rfl) ?_)
   | (with_reducible (first | apply condA_if | apply stepDG_ifN | apply stepDG_if | apply stepG_ifN | apply stepG_if)) <;> intro hb <;> (have hif := hb) <;> (try simp only [bo] at hif) <;> (try simp -implicitDefEqProofs (disch := omega) only [go_sem, hb]) <;> clear hb
   | simp (maxSteps := 1000000) -implicitDefEqProofs (disch := omega) only [go_sem])
 refine callp (openOrder_spec t ht o e hl) ?_
 try simp (maxSteps := 1000000) -implicitDefEqProofs (disch := omega) only [go_sem]
 repeat' (first
   | (with_reducible apply Req_intro); focus (first | omega | assumption | (simp; done))
   | with_reducible (first | apply Req_intro | refine nilT ?_ fun hn => ?_ | apply wk_draw Try_mixed | refine drawEnd (by kernel_rfl) ?_)
   | (with_reducible (first | apply condA_if | apply stepDG_ifN | apply stepDG_if | apply stepG_ifN | apply stepG_if)) <;> intro hb <;> (have hif := hb) <;> (try simp only [bo] at hif) <;> (try simp -implicitDefEqProofs (disch := omega) only [go_sem, hb]) <;> clear hb
   | simp (maxSteps := 1000000) -implicitDefEqProofs (disch := omega) only [go_sem])
 refine callc (Late1_spec t ht o e hl 0 (by omega)) ?_
 try simp (maxSteps := 1000000) -implicitDefEqProofs (disch := omega) only [go_sem]
 repeat' (first
   | (with_reducible apply Req_intro); focus (first | omega | assumption | (simp; done))
   | with_reducible (first | apply Req_intro | refine nilT ?_ fun hn => ?_ | apply wk_draw Try_mixed | refine drawEnd (by kernel_rfl) ?_)
   | (with_reducible (first | apply condA_if | apply stepDG_ifN | apply stepDG_if | apply stepG_ifN | apply stepG_if)) <;> intro hb <;> (have hif := hb) <;> (try simp only [bo] at hif) <;> (try simp -implicitDefEqProofs (disch := omega) only [go_sem, hb]) <;> clear hb
   | simp (maxSteps := 1000000) -implicitDefEqProofs (disch := omega) only [go_sem])
 all_goals first | (exfalso; exact absurd (hg0.symm.trans ‹goodO (laterT t 0) o = false›) (by decide)) | skip
 refine loop_rows (α := Int × Int) ([9, 10, 11, 25, 26, 27, 28, 29, 30, 31, 32, 33, 34, 35, 36, 37, 38]) (fun z => [(9, .lit (.int .i64 z.1)), (10, .lit (.int .i64 z.2))]) (fun z => [(64, some ⟨1, [[.sl 1 (o.map encI) e]], 31, .wr⟩), (640, some ⟨5, [cellT t], 103, .wr⟩)]) (fun z => AtS (fun b => goodO (laterT t b) o) (lateR t o) z) (fun z => (z.2 - z.1).toNat) (0, 5000) (fun x => by simp (maxSteps := 1000000) -implicitDefEqProofs (disch := omega) only [go_sem]; rfl) ?_ ?_ fun x hx => ?_
 · exact weak_do []
 · exact ⟨by simp only; omega, 5000, rfl, by simp only; omega⟩
 obtain ⟨lo, hi⟩ := x
 have hb := hx.b
 simp only at hb
 by_cases hlt : lo < hi
 · have hm : 0 ≤ (lo + hi + 1) / 2 ∧ (lo + hi + 1) / 2 ≤ 5000 := by omega
   repeat' (first
     | (with_reducible apply Req_intro); focus (first | omega | assumption | (simp; done))
     | with_reducible (first | apply Req_intro | refine nilT ?_ fun hn => ?_ | apply wk_draw Try_mixed | refine drawEnd (by kernel_rfl) ?_)
     | (with_reducible (first | apply condA_if | apply stepDG_ifN | apply stepDG_if | apply stepG_ifN | apply stepG_if)) <;> intro hb <;> (have hif := hb) <;> (try simp only [bo] at hif) <;> (try simp -implicitDefEqProofs (disch := omega) only [go_sem, hb]) <;> clear hb
     | simp (maxSteps := 1000000) -implicitDefEqProofs (disch := omega) only [go_sem])
   all_goals first | (exfalso; omega) | omega | skip
   refine callc (Late1_spec t ht o e hl ((lo + hi + 1) / 2) hm) ?_
   try simp (maxSteps := 1000000) -implicitDefEqProofs (disch := omega) only [go_sem]
   cases hy : goodO (laterT t ((lo + hi + 1) / 2)) o
   · repeat' (first
       | (with_reducible apply Req_intro); focus (first | omega | assumption | (simp; done))
       | with_reducible (first | apply Req_intro | refine nilT ?_ fun hn => ?_ | apply wk_draw Try_mixed | refine drawEnd (by kernel_rfl) ?_)
       | (with_reducible (first | apply condA_if | apply stepDG_ifN | apply stepDG_if | apply stepG_ifN | apply stepG_if)) <;> intro hb <;> (have hif := hb) <;> (try simp only [bo] at hif) <;> (try simp -implicitDefEqProofs (disch := omega) only [go_sem, hb]) <;> clear hb
       | simp (maxSteps := 1000000) -implicitDefEqProofs (disch := omega) only [go_sem])
     all_goals first | exact absurd ‹false = true› (by decide) | exact absurd ‹true = false› (by decide) | (exfalso; omega) | omega | skip
     with_reducible refine nxt_w ((lo, (lo + hi + 1) / 2 - 1)) ?_ ?_
     · (try dsimp only)
       skip
       exact weak_do3 []
     try dsimp only
     exact hx.no hlt hy
   · repeat' (first
       | (with_reducible apply Req_intro); focus (first | omega | assumption | (simp; done))
       | with_reducible (first | apply Req_intro | refine nilT ?_ fun hn => ?_ | apply wk_draw Try_mixed | refine drawEnd (by kernel_rfl) ?_)
       | (with_reducible (first | apply condA_if | apply stepDG_ifN | apply stepDG_if | apply stepG_ifN | apply stepG_if)) <;> intro hb <;> (have hif := hb) <;> (try simp only [bo] at hif) <;> (try simp -implicitDefEqProofs (disch := omega) only [go_sem, hb]) <;> clear hb
       | simp (maxSteps := 1000000) -implicitDefEqProofs (disch := omega) only [go_sem])
     all_goals first | exact absurd ‹false = true› (by decide) | exact absurd ‹true = false› (by decide) | (exfalso; omega) | omega | skip
     with_reducible refine nxt_w (((lo + hi + 1) / 2, hi)) ?_ ?_
     · (try dsimp only)
       skip
       exact weak_do3 []
     try dsimp only
     exact hx.yes hlt hy
 · have hR := hx.fin hlt
   repeat' (first
     | (with_reducible apply Req_intro); focus (first | omega | assumption | (simp; done))
     | with_reducible (first | apply Req_intro | refine nilT ?_ fun hn => ?_ | apply wk_draw Try_mixed | refine drawEnd (by kernel_rfl) ?_)
     | (with_reducible (first | apply condA_if | apply stepDG_ifN | apply stepDG_if | apply stepG_ifN | apply stepG_if)) <;> intro hb <;> (have hif := hb) <;> (try simp only [bo] at hif) <;> (try simp -implicitDefEqProofs (disch := omega) only [go_sem, hb]) <;> clear hb
     | simp (maxSteps := 1000000) -implicitDefEqProofs (disch := omega) only [go_sem])
   all_goals first | (exfalso; omega) | omega | skip
   rw [← hR]
   exact rett []
end Go.Aw
end
section
namespace Go.Aw
open Go.RowKit
def brL (bx : List Int) (i : Nat) : List Int := (bx.take i).map fun x => x % 101
def feL (f h : Int) (bx : List Int) (i : Nat) : List Int := (bx.take i).map fun x => x % 101 - breaksR f h (x % 101)
def allN (i : Nat) : List Int := (List.range i).map fun (k : Nat) => (k : Int) + 1
def firstN (bx : List Int) (i : Nat) : Int := (brL bx i).sum
theorem brL_len {bx : List Int} {i : Nat} (h : i ≤ bx.length) : (brL bx i).length = i := by rw [brL, List.length_map, List.length_take]; omega
theorem feL_len {f k : Int} {bx : List Int} {i : Nat} (h : i ≤ bx.length) : (feL f k bx i).length = i := by rw [feL, List.length_map, List.length_take]; omega
theorem allN_len (i : Nat) : (allN i).length = i := by simp [allN]
theorem brL_succ {bx : List Int} {i : Nat} (h : i < bx.length) : brL bx (i + 1) = brL bx i ++ [bx.getD i default % 101] := by rw [brL, take_succ_getD h, List.map_append]; rfl
theorem feL_succ {f k : Int} {bx : List Int} {i : Nat} (h : i < bx.length) : feL f k bx (i + 1) = feL f k bx i ++ [bx.getD i default % 101 - breaksR f k (bx.getD i default % 101)] := by rw [feL, take_succ_getD h, List.map_append]; rfl
theorem allN_succ (i : Nat) : allN (i + 1) = allN i ++ [(i : Int) + 1] := range_map_succ _ _
theorem firstN_succ {bx : List Int} {i : Nat} (h : i < bx.length) : firstN bx (i + 1) = firstN bx i + bx.getD i default % 101 := by rw [firstN, brL_succ h, List.sum_append]; simp [firstN]
theorem brL_rg {bx : List Int} {i : Nat} : ∀ x ∈ brL bx i, 0 ≤ x ∧ x ≤ 100 := fun x hx => by
 obtain ⟨y, _, rfl⟩ := List.mem_map.1 hx
 omega
theorem firstN_bd {bx : List Int} : ∀ i, 0 ≤ firstN bx i ∧ firstN bx i ≤ 100 * i
 | 0 => by simp [firstN, brL]
 | i + 1 => by
   have ih := firstN_bd (bx := bx) i
   by_cases h : i < bx.length
   · rw [firstN_succ h]; omega
   · have : firstN bx (i + 1) = firstN bx i := by unfold firstN brL; rw [List.take_of_length_le (by omega), List.take_of_length_le (by omega)]
     omega
theorem feL_rg {f k : Int} (hf : 2 ≤ f ∧ f ≤ 10) (hk : 0 ≤ k ∧ k ≤ f) {bx : List Int} {i : Nat} : ∀ x ∈ feL f k bx i, 0 ≤ x ∧ x ≤ 100 := fun x hx => by
 obtain ⟨y, _, rfl⟩ := List.mem_map.1 hx
 have := breaksR_bd (n := y % 101) hf hk (by omega)
 omega
theorem allN_ord (n : Nat) : OrdOk n (allN n) := by
 refine ⟨?_, fun x hx => ?_⟩
 · unfold allN
   rw [List.nodup_iff_pairwise_ne, List.pairwise_map]
   exact List.Pairwise.imp (fun h => by omega) (List.nodup_iff_pairwise_ne.1 List.nodup_range)
 · obtain ⟨k, hk, rfl⟩ := List.mem_map.1 hx
   have := List.mem_range.1 hk
   omega
theorem fe_le_br {f k : Int} (hf : 2 ≤ f ∧ f ≤ 10) (hk : 0 ≤ k ∧ k ≤ f) {bx : List Int} {n j : Nat} (hn : n ≤ bx.length) (hj : j < n) : (feL f k bx n).getD j default ≤ (brL bx n).getD j default := by
 rw [getD_default (by rw [feL_len hn]; exact hj), getD_default (by rw [brL_len hn]; exact hj)]
 unfold feL brL
 rw [List.getElem_map, List.getElem_map]
 generalize (bx.take n)[j]'(by rw [List.length_take]; omega) = y
 have := breaksR_bd (n := y % 101) hf hk (by omega)
 omega
theorem sumBr_all {rb br fe : List Int} {holds : Int} : sumBr (taskR rb br fe holds) (allN br.length) = br.sum := by
 unfold sumBr
 congr 1
 refine List.ext_getElem (by rw [List.length_map, allN_len]) fun j h1 h2 => ?_
 rw [List.getElem_map]
 have h3 : (allN br.length)[j]'(by rw [allN_len]; exact h2) = (j : Int) + 1 := by simp [allN]
 rw [h3, pAt_task (by omega)]
 show br.getD ((j : Int) + 1 - 1).toNat default = br[j]
 rw [show ((j : Int) + 1 - 1).toNat = j by omega, getD_default h2]
theorem legsR_load {t : Task} : ∀ {l : List Int} {i f c : Int} {s : Int × Int} {g : Leg}, (∀ p ∈ l, (pAt t p).fetched ≤ (pAt t p).brought) → g ∈ legsR t l i f c s → g.load ≤ c
 | [], i, f, c, s, g, _, h => by
   rw [legsR, List.mem_singleton] at h
   subst h
   exact Int.le_refl _
 | p :: r, i, f, c, s, g, hl, h => by
   rw [legsR] at h
   rcases List.mem_cons.1 h with rfl | h
   · exact Int.le_refl _
   · have h1 := legsR_load (fun x hx => hl x (List.mem_cons_of_mem _ hx)) h
     have h2 := hl p (List.mem_cons_self ..)
     omega
theorem legsR_time {t : Task} {n : Nat} (hm : ∀ f p : Int, 0 ≤ f ∧ f ≤ n → 0 ≤ p ∧ p ≤ n → 0 ≤ (mAt t f p).2 ∧ (mAt t f p).2 ≤ 103) (hp : ∀ p : Int, 1 ≤ p ∧ p ≤ n → (pAt t p).ready ≤ 255 ∧ 0 ≤ (pAt t p).stop ∧ (pAt t p).stop ≤ 59) :
   ∀ {l : List Int} {i f c : Int} {s : Int × Int} {g : Leg}, (∀ x ∈ l, 1 ≤ x ∧ x ≤ (n : Int)) → 0 ≤ f ∧ f ≤ n → 0 ≤ s.2 → g ∈ legsR t l i f c s → g.comes.2 ≤ s.2 + 417 * l.length + 103
 | [], i, f, c, s, g, _, hf, hs, h => by
   rw [legsR, List.mem_singleton] at h
   subst h
   have := hm f 0 hf (by omega)
   simp only [addSp, List.length_nil]
   omega
 | p :: r, i, f, c, s, g, hl, hf, hs, h => by
   rw [legsR] at h
   have h1 := hl p (List.mem_cons_self ..)
   have h2 := hm f p hf (by omega)
   have h3 := hp p h1
   rw [List.length_cons]
   rcases List.mem_cons.1 h with rfl | h
   · simp only [addSp]
     omega
   · have h4 := legsR_time hm hp (fun x hx => hl x (List.mem_cons_of_mem _ hx)) (by omega) (by simp only [onward, addSp]; omega) h
     simp only [onward, addSp] at h4
     omega
theorem task_m {rb br fe : List Int} {holds : Int} (hr : Byt rb) {f p : Int} (hf : 0 ≤ f ∧ f ≤ br.length) (hp : 0 ≤ p ∧ p ≤ br.length) : 0 ≤ (mAt (taskR rb br fe holds) f p).2 ∧ (mAt (taskR rb br fe holds) f p).2 ≤ 103 := by
 have : mAt (taskR rb br fe holds) f p = cellM rb f.toNat p.toNat := by
   show ((mTo rb (br.length + 1) (br.length + 1)).getD f.toNat default).getD p.toNat default = _
   rw [mTo_get (by omega), rowM_get (by omega)]
 rw [this]
 have h1 := hr.b (f.toNat * 7 + p.toNat)
 have h2 := hr.b (p.toNat * 7 + f.toNat)
 unfold cellM lowR
 split
 · simp
 · simp only; omega
theorem task_due {rb br fe : List Int} {holds p : Int} (hp : 0 ≤ p ∧ p ≤ br.length) : untilR (taskR rb br fe holds) p = 5000 := by
 unfold untilR
 split
 · rfl
 · rw [pAt_task (by omega)]; rfl
theorem pier_good {rb br fe : List Int} (hr : Byt rb) (h6 : br.length ≤ 6) (hle : ∀ j, j < br.length → fe.getD j default ≤ br.getD j default) : goodO (taskR rb br fe br.sum) (allN br.length) = true := by
 have ho := allN_ord br.length
 unfold goodO
 rw [List.all_eq_true]
 intro g hg
 have hto := roads_to (t := taskR rb br fe br.sum) (by rw [taskR_n]; exact ho) hg
 rw [taskR_n] at hto
 unfold roads at hg
 have h1 := legsR_load (fun p hp => by
   have h := ho.rg p hp
   rw [pAt_task h]
   exact hle _ (by omega)) hg
 rw [sumBr_all] at h1
 have h2 := legsR_time (n := br.length) (fun f p hf hp => task_m hr hf hp) (fun p hp => by
   rw [pAt_task hp]
   have h3 := hr.b (49 + (p - 1).toNat * 2)
   show rb.getD (49 + (p - 1).toNat * 2) 0 ≤ 255 ∧ 0 ≤ rb.getD (49 + (p - 1).toNat * 2 + 1) 0 % 60 ∧ rb.getD (49 + (p - 1).toNat * 2 + 1) 0 % 60 ≤ 59
   omega) ho.rg (by omega) (show (0 : Int) ≤ 0 by decide) hg
 rw [allN_len] at h2
 have h2 : g.comes.2 ≤ 0 + 417 * (br.length : Int) + 103 := h2
 unfold badL
 rw [task_due hto, decide_eq_false (show ¬ (taskR rb br fe br.sum).holds < g.load from by show ¬ br.sum < g.load; omega), decide_eq_false (by omega)]
 rfl
theorem pier_loads {rb br fe : List Int} {holds : Int} (hle : ∀ j, j < br.length → fe.getD j default ≤ br.getD j default) {i : Nat} (hi : i < br.length + 1) : ((roads (taskR rb br fe holds) (allN br.length)).map Leg.load).getD i default ≤ br.sum := by
 have ho := allN_ord br.length
 have hl : i < ((roads (taskR rb br fe holds) (allN br.length)).map Leg.load).length := by rw [List.length_map, roads_length, allN_len]; exact hi
 rw [getD_default hl, List.getElem_map]
 have hm : (roads (taskR rb br fe holds) (allN br.length))[i]'(by simpa using hl) ∈ legsR (taskR rb br fe holds) (allN br.length) 0 0 (sumBr (taskR rb br fe holds) (allN br.length)) ((taskR rb br fe holds).leaves, (taskR rb br fe holds).leaves) := List.getElem_mem (l := roads (taskR rb br fe holds) (allN br.length)) (by simpa using hl)
 have h1 := legsR_load (fun p hp => by
   have h := ho.rg p hp
   rw [pAt_task h]
   exact hle _ (by omega)) hm
 rwa [sumBr_all] at h1
theorem pier_first {rb br fe : List Int} {holds : Int} : ((roads (taskR rb br fe holds) (allN br.length)).map Leg.load).getD 0 default = br.sum := by
 rw [← sumBr_all (rb := rb) (br := br) (fe := fe) (holds := holds)]
 unfold roads
 cases allN br.length with
 | nil => rw [legsR]; rfl
 | cons p r => rw [legsR]; rfl
end Go.Aw
end
