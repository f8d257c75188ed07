/-
  A part of the proof that a law returns true for every input that the given row speaks of: an own verified walk over the program (namespace Go.Aw), contracts of the functions that the law calls, and the law itself. Conditions: those of the given row, no other.
-/
import Derived.Test.YtebdecfnimdhmaaPart4
set_option linter.unusedVariables false
set_option linter.unusedSimpArgs false
section
set_option maxRecDepth 20000
set_option maxHeartbeats 4000000
namespace Go.Aw
open Go.RowKit Go.Proofs
def oneI (n : Int) : List V := [int n]
theorem AppendSeq_own (ls : List Int) (f : FuncId) (cap : List V) (hcap : PuL cap) (hl : ls.length ≤ 1000) (hit : It Try.prog f cap (ls.map fun x => [int x])) :
   OneNew Try.prog 123 [.lit (.slice none 0 0), .fn (.func f) [] cap] 192 1 ls.length ⟨1, ls.map encI, 3, .wr⟩ 384 := by
 refine ⟨[(0, some ⟨1, [[.os 192 1 ls.length false]], 31, .wr⟩), (192, some ⟨1, ls.map encI, 3, .wr⟩)], ?_, ?_⟩
 · refine callH_enter Try.func123 rfl Try.results123 Try.ntmps123 rfl (by simp (maxSteps := 1000000) -implicitDefEqProofs (disch := omega) only [go_sem]; rfl) fun base => ?_
   repeat' (first
     | (with_reducible apply Req_intro); focus (first | omega | assumption | (simp; done))
     | with_reducible (first | apply Req_intro | refine nilT ?_ fun hn => ?_ | apply wk_draw Try_mixed | refine drawEnd (by kernel_rfl) ?_)
     | (with_reducible (first | apply condA_if | apply stepDG_ifN | apply stepDG_if | apply stepG_ifN | apply stepG_if)) <;> intro hb <;> (have hif := hb) <;> (try simp only [bo] at hif) <;> (try simp -implicitDefEqProofs (disch := omega) only [go_sem, hb]) <;> clear hb
     | simp (maxSteps := 1000000) -implicitDefEqProofs (disch := omega) only [go_sem])
   refine range_rows (α := Nat) [] (fun i => [(0, some ⟨1, [[.os 192 1 i false]], 31, .wr⟩), (192, some ⟨1, (ls.take i).map encI, 3, .wr⟩)]) (fun _ => 0) (fun _ => false) (fun i y => y = i ∧ i ≤ ls.length) (fun _ _ => False) 0 256 (by first | (simp (maxSteps := 1000000) -implicitDefEqProofs (disch := omega) only [go_sem]; done) | (simp (maxSteps := 1000000) -implicitDefEqProofs (disch := omega) only [go_sem]; rfl)) (by first | (simp (maxSteps := 1000000) -implicitDefEqProofs (disch := omega) only [go_sem]; done) | (simp (maxSteps := 1000000) -implicitDefEqProofs (disch := omega) only [go_sem]; rfl)) hit ?_ ?_ ?_ ?_ ?_ ?_ ?_ ?_ ?_ ?_ ?_ ?_ ?_
   · exact hcap
   · intro y hy
     rw [List.mem_map] at hy
     obtain ⟨w, _, rfl⟩ := hy
     rfl
   · simp only [List.take_zero, List.map_nil]
     exact weak_do [(192, 1000000)]
   · rfl
   · rfl
   · exact ⟨rfl, Nat.zero_le _⟩
   · repeat' (first
       | with_reducible exact idsLt_nil
       | with_reducible refine idsLt_cons ?_ ?_
       | with_reducible exact IdLt.pu _ Pu_undef
       | with_reducible exact IdLt.pu _ (Pu_lit _)
       | ((with_reducible refine IdLt.ref _ _ _ _ ?_); decide)
       | ((with_reducible refine IdLt.os _ _ _ _ ?_); decide)
       | ((with_reducible refine IdLt.pu _ ?_); first | assumption | (simp only [go_sem] <;> assumption) | (simp only [go_sem, *]; done) | (simp [go_sem]; done))
       | (with_reducible refine idLt_fn ?_ ?_)
       | (with_reducible refine idLt_agg ?_))
   · decide
   · decide
   · rintro i x y ⟨hxi, hxl⟩ hy
     subst hxi
     rw [List.getElem?_map, Option.map_eq_some_iff] at hy
     obtain ⟨w, hw, rfl⟩ := hy
     have hi := (List.getElem?_eq_some_iff.1 hw).1
     have hlen : x = (List.take x ls).length := by rw [List.length_take]; omega
     repeat' (first
       | (with_reducible apply Req_intro); focus (first | omega | assumption | (simp; done))
       | with_reducible (first | apply Req_intro | refine nilT ?_ fun hn => ?_ | apply wk_draw Try_mixed | refine drawEnd (by kernel_rfl) ?_)
       | (with_reducible (first | apply condA_if | apply stepDG_ifN | apply stepDG_if | apply stepG_ifN | apply stepG_if)) <;> intro hb <;> (have hif := hb) <;> (try simp only [bo] at hif) <;> (try simp -implicitDefEqProofs (disch := omega) only [go_sem, hb]) <;> clear hb
       | simp (maxSteps := 1000000) -implicitDefEqProofs (disch := omega) only [go_sem])
     rw [show List.take x ls ++ [w] = List.take (x + 1) ls from by
       rw [take_succ_getD hi, getD_default hi, show ls[x] = w from (List.getElem?_eq_some_iff.1 hw).2]]
     refine rnd_next (x + 1) ⟨rfl, hi⟩ ?_
     exact forget_do [(192, 512)]
   · rintro x ⟨hx, _⟩
     subst hx
     simp only [List.length_map]
     repeat' (first
       | (with_reducible apply Req_intro); focus (first | omega | assumption | (simp; done))
       | with_reducible (first | apply Req_intro | refine nilT ?_ fun hn => ?_ | apply wk_draw Try_mixed | refine drawEnd (by kernel_rfl) ?_)
       | (with_reducible (first | apply condA_if | apply stepDG_ifN | apply stepDG_if | apply stepG_ifN | apply stepG_if)) <;> intro hb <;> (have hif := hb) <;> (try simp only [bo] at hif) <;> (try simp -implicitDefEqProofs (disch := omega) only [go_sem, hb]) <;> clear hb
       | simp (maxSteps := 1000000) -implicitDefEqProofs (disch := omega) only [go_sem])
     simp only [List.take_length]
     refine ret_do ?_
     exact ⟨rfl, rfl, rfl⟩
   · exact fun x h => h.elim
   · exact fun id x h => h.elim
 · rfl
theorem Collect_own (ls : List Int) (f : FuncId) (cap : List V) (hcap : PuL cap) (hl : ls.length ≤ 1000) (hit : It Try.prog f cap (ls.map fun x => [int x])) :
   OneNew Try.prog 91 [.fn (.func f) [] cap] 320 1 ls.length ⟨1, ls.map encI, 3, .wr⟩ 640 := by
 refine ⟨[(320, some ⟨1, ls.map encI, 3, .wr⟩)], ?_, ?_⟩
 · refine callH_enter Try.func91 rfl Try.results91 Try.ntmps91 rfl (by simp (maxSteps := 1000000) -implicitDefEqProofs (disch := omega) only [go_sem]; rfl) fun base => ?_
   repeat' (first
     | (with_reducible apply Req_intro); focus (first | omega | assumption | (simp; done))
     | with_reducible (first | apply Req_intro | refine nilT ?_ fun hn => ?_ | apply wk_draw Try_mixed | refine drawEnd (by kernel_rfl) ?_)
     | (with_reducible (first | apply condA_if | apply stepDG_ifN | apply stepDG_if | apply stepG_ifN | apply stepG_if)) <;> intro hb <;> (have hif := hb) <;> (try simp only [bo] at hif) <;> (try simp -implicitDefEqProofs (disch := omega) only [go_sem, hb]) <;> clear hb
     | simp (maxSteps := 1000000) -implicitDefEqProofs (disch := omega) only [go_sem])
   refine call_one (AppendSeq_own ls f cap hcap hl hit) ?_ ⟨_, Try.func123, by rfl, by decide⟩ (hpu := by simp [PuL]; exact hcap)
   try simp (maxSteps := 1000000) -implicitDefEqProofs (disch := omega) only [go_sem]
   repeat' (first
     | (with_reducible apply Req_intro); focus (first | omega | assumption | (simp; done))
     | with_reducible (first | apply Req_intro | refine nilT ?_ fun hn => ?_ | apply wk_draw Try_mixed | refine drawEnd (by kernel_rfl) ?_)
     | (with_reducible (first | apply condA_if | apply stepDG_ifN | apply stepDG_if | apply stepG_ifN | apply stepG_if)) <;> intro hb <;> (have hif := hb) <;> (try simp only [bo] at hif) <;> (try simp -implicitDefEqProofs (disch := omega) only [go_sem, hb]) <;> clear hb
     | simp (maxSteps := 1000000) -implicitDefEqProofs (disch := omega) only [go_sem])
   refine ret_do ?_
   exact ⟨rfl, rfl, rfl⟩
 · rfl
theorem Sorted_spec (l : List Int) (e : Bool) (hl : l.length ≤ 12) : Ct Try.prog 63 [.fn (.func 93) [] [.rp [.sl 1 (l.map encI) e]]] (.sl 1 ((isort l).map encI) false) := by
 have hlen := isort_len l
 refine fn_enter Try.func63 rfl (by decide) Try.results63 Try.ntmps63 ?_ rfl (by simp (maxSteps := 1000000) -implicitDefEqProofs (disch := omega) only [go_sem]; rfl) fun base => ?_
 · first | assumption | (simp only [go_sem] <;> assumption) | (simp only [go_sem, *]; done) | (simp [go_sem]; done)
 repeat' (first
   | (with_reducible apply Req_intro); focus (first | omega | assumption | (simp; done))
   | with_reducible (first | apply Req_intro | refine nilT ?_ fun hn => ?_ | apply wk_draw Try_mixed | refine drawEnd (by kernel_rfl) ?_)
   | (with_reducible (first | apply condA_if | apply stepDG_ifN | apply stepDG_if | apply stepG_ifN | apply stepG_if)) <;> intro hb <;> (have hif := hb) <;> (try simp only [bo] at hif) <;> (try simp -implicitDefEqProofs (disch := omega) only [go_sem, hb]) <;> clear hb
   | simp (maxSteps := 1000000) -implicitDefEqProofs (disch := omega) only [go_sem])
 refine call_one (Collect_own l 93 [.rp [.sl 1 (l.map encI) e]] (by first | assumption | (simp only [go_sem] <;> assumption) | (simp only [go_sem, *]; done) | (simp [go_sem]; done)) (by omega) (Values_it l e (by omega))) ?_ ⟨_, Try.func91, by rfl, by decide⟩
 try simp (maxSteps := 1000000) -implicitDefEqProofs (disch := omega) only [go_sem]
 repeat' (first
   | (with_reducible apply Req_intro); focus (first | omega | assumption | (simp; done))
   | with_reducible (first | apply Req_intro | refine nilT ?_ fun hn => ?_ | apply wk_draw Try_mixed | refine drawEnd (by kernel_rfl) ?_)
   | (with_reducible (first | apply condA_if | apply stepDG_ifN | apply stepDG_if | apply stepG_ifN | apply stepG_if)) <;> intro hb <;> (have hif := hb) <;> (try simp only [bo] at hif) <;> (try simp -implicitDefEqProofs (disch := omega) only [go_sem, hb]) <;> clear hb
   | simp (maxSteps := 1000000) -implicitDefEqProofs (disch := omega) only [go_sem])
 refine call_row 448 (Sort_spec l hl) ?_ ⟨_, Try.func92, by rfl, by decide⟩ ?_
 · try simp (maxSteps := 1000000) -implicitDefEqProofs (disch := omega) only [go_sem]
   repeat' (first
     | (with_reducible apply Req_intro); focus (first | omega | assumption | (simp; done))
     | with_reducible (first | apply Req_intro | refine nilT ?_ fun hn => ?_ | apply wk_draw Try_mixed | refine drawEnd (by kernel_rfl) ?_)
     | (with_reducible (first | apply condA_if | apply stepDG_ifN | apply stepDG_if | apply stepG_ifN | apply stepG_if)) <;> intro hb <;> (have hif := hb) <;> (try simp only [bo] at hif) <;> (try simp -implicitDefEqProofs (disch := omega) only [go_sem, hb]) <;> clear hb
     | simp (maxSteps := 1000000) -implicitDefEqProofs (disch := omega) only [go_sem])
   exact retf [448] [2] [.sl 1 ((isort l).map encI) false]
 · refine .cons _ _ _ _ (Ren.osN _ _ rfl rfl (by omega) (fun h => h)) .nil
end Go.Aw
end
section
set_option maxRecDepth 20000
set_option maxHeartbeats 4000000
namespace Go.Aw
open Go.RowKit Go.Proofs
theorem nodup_next {l : List Int} (h : l.Nodup) {x : Nat} (hx : x + 1 < l.length) : l.getD (x + 1) default ≠ l.getD x default := by
 rw [getD_default hx, getD_default (by omega)]
 intro e
 exact List.pairwise_iff_getElem.1 h x (x + 1) (by omega) hx (by omega) e.symm
theorem Compact_spec (l : List Int) (e : Bool) (hl : l.length ≤ 1000) (hnd : l.Nodup) : Ct Try.prog 66 [.sl 1 (l.map encI) e] (.sl 1 (l.map encI) e) := by
 refine fn_enter Try.func66 rfl (by decide) Try.results66 Try.ntmps66 ?_ rfl (by simp (maxSteps := 1000000) -implicitDefEqProofs (disch := omega) only [go_sem]; rfl) fun base => ?_
 · first | assumption | (simp only [go_sem] <;> assumption) | (simp only [go_sem, *]; done) | (simp [go_sem]; done)
 repeat' (first
   | (with_reducible apply Req_intro); focus (first | omega | assumption | (simp; done))
   | with_reducible (first | apply Req_intro | refine nilT ?_ fun hn => ?_ | apply wk_draw Try_mixed | refine drawEnd (by kernel_rfl) ?_)
   | (with_reducible (first | apply condA_if | apply stepDG_ifN | apply stepDG_if | apply stepG_ifN | apply stepG_if)) <;> intro hb <;> (have hif := hb) <;> (try simp only [bo] at hif) <;> (try simp -implicitDefEqProofs (disch := omega) only [go_sem, hb]) <;> clear hb
   | simp (maxSteps := 1000000) -implicitDefEqProofs (disch := omega) only [go_sem])
 · refine ret_do ?_
   rfl
 refine loop_at (α := Nat) [2, 3, 4, 5, 10, 11, 12, 13, 14, 15, 16, 17, 18, 19, 20, 21, 22, 23, 24, 25, 26, 27, 28, 29, 30, 31, 32, 33, 34, 35, 36, 37, 38, 39, 40, 41, 42, 43, 44, 45, 46, 47, 48, 49, 50, 51, 52, 53, 54, 55, 56, 57, 58, 59] (fun i => [(3, .lit (.int .i64 ((i : Int) + 1)))]) (fun i => i + 1 ≤ l.length) (fun i => l.length - i) 0 (fun x => by simp (maxSteps := 1000000) -implicitDefEqProofs (disch := omega) only [go_sem]; rfl) ?_ ?_ fun x hx => ?_
 · exact weak_do []
 · omega
 by_cases hlt : x + 1 < l.length
 · have hne := nodup_next hnd hlt
   have e1 : ((((x + 1 : Nat) : Int) - 1).toNat) = x := by omega
   have e2 : (((x + 1 : Nat) : Int)).toNat = x + 1 := by omega
   have e3 : ((x : Int) + 1).toNat = x + 1 := by omega
   have e4 : ((x : Int) + 1 - 1).toNat = x := by omega
   repeat' (first
     | (with_reducible apply Req_intro); focus (first | omega | assumption | (simp; done))
     | with_reducible (first | apply Req_intro | refine nilT ?_ fun hn => ?_ | apply wk_draw Try_mixed | refine drawEnd (by kernel_rfl) ?_)
     | (with_reducible (first | apply condA_if | apply stepDG_ifN | apply stepDG_if | apply stepG_ifN | apply stepG_if)) <;> intro hb <;> (have hif := hb) <;> (try simp only [bo] at hif) <;> (try simp -implicitDefEqProofs (disch := omega) only [go_sem, hb, e1, e2, e3, e4]) <;> clear hb
     | simp (maxSteps := 1000000) -implicitDefEqProofs (disch := omega) only [go_sem, e1, e2, e3, e4])
   all_goals first | (exfalso; omega) | exact absurd ‹_› hne | skip
   refine nxt_w (x + 1) (weak_do []) ?_
   try dsimp only
   omega
 · repeat' (first
     | (with_reducible apply Req_intro); focus (first | omega | assumption | (simp; done))
     | with_reducible (first | apply Req_intro | refine nilT ?_ fun hn => ?_ | apply wk_draw Try_mixed | refine drawEnd (by kernel_rfl) ?_)
     | (with_reducible (first | apply condA_if | apply stepDG_ifN | apply stepDG_if | apply stepG_ifN | apply stepG_if)) <;> intro hb <;> (have hif := hb) <;> (try simp only [bo] at hif) <;> (try simp -implicitDefEqProofs (disch := omega) only [go_sem, hb]) <;> clear hb
     | simp (maxSteps := 1000000) -implicitDefEqProofs (disch := omega) only [go_sem])
   all_goals first | (exfalso; omega) | skip
   refine ret_do ?_
   rfl
theorem ropen_spec (t : Task) (ht : TaskOk t) : Ct Try.prog 62 [encT t] (.tup [encT t, int 0]) := by
 refine ct_enterZ Try.func62 rfl (by decide) Try.results62 Try.ntmps62 ?_ rfl (by simp (maxSteps := 1000000) -implicitDefEqProofs (disch := omega) only [go_sem]; rfl) fun base => ?_
 · first | assumption | (simp only [go_sem] <;> assumption) | (simp only [go_sem, *]; done) | (simp [go_sem]; done)
 repeat' (first
   | (with_reducible apply Req_intro); focus (first | omega | assumption | (simp; done))
   | with_reducible (first | apply Req_intro | refine nilT ?_ fun hn => ?_ | apply wk_draw Try_mixed | refine drawEnd (by kernel_rfl) ?_)
   | (with_reducible (first | apply condA_if | apply stepDG_ifN | apply stepDG_if | apply stepG_ifN | apply stepG_if)) <;> intro hb <;> (have hif := hb) <;> (try simp only [bo] at hif) <;> (try simp -implicitDefEqProofs (disch := omega) only [go_sem, hb]) <;> clear hb
   | simp (maxSteps := 1000000) -implicitDefEqProofs (disch := omega) only [go_sem])
 refine calld (rCheck_spec t ht) ?_
 try simp (maxSteps := 1000000) -implicitDefEqProofs (disch := omega) only [go_sem]
 repeat' (first
   | (with_reducible apply Req_intro); focus (first | omega | assumption | (simp; done))
   | with_reducible (first | apply Req_intro | refine nilT ?_ fun hn => ?_ | apply wk_draw Try_mixed | refine drawEnd (by kernel_rfl) ?_)
   | (with_reducible (first | apply condA_if | apply stepDG_ifN | apply stepDG_if | apply stepG_ifN | apply stepG_if)) <;> intro hb <;> (have hif := hb) <;> (try simp only [bo] at hif) <;> (try simp -implicitDefEqProofs (disch := omega) only [go_sem, hb]) <;> clear hb
   | simp (maxSteps := 1000000) -implicitDefEqProofs (disch := omega) only [go_sem])
 exact retz []
theorem rnodup_le {α : Type} : ∀ {l m : List α}, l.Nodup → (∀ x ∈ l, x ∈ m) → l.length ≤ m.length
 | [], m, _, _ => Nat.zero_le _
 | a :: l, m, h, hs => by
   obtain ⟨p, q, rfl⟩ := List.append_of_mem (hs a (List.mem_cons_self ..))
   rw [List.nodup_cons] at h
   have := rnodup_le (l := l) (m := p ++ q) h.2 fun x hx => by
     have hx' := hs x (List.mem_cons_of_mem _ hx)
     rw [List.mem_append, List.mem_cons] at hx'
     rw [List.mem_append]
     rcases hx' with h' | h' | h'
     · exact .inl h'
     · subst h'; exact absurd hx h.1
     · exact .inr h'
   simp only [List.length_append, List.length_cons] at this ⊢
   omega
structure OrdOk (n : Nat) (l : List Int) : Prop where
 nd : l.Nodup
 rg : ∀ x ∈ l, 1 ≤ x ∧ x ≤ n
theorem OrdOk.len {n : Nat} {l : List Int} (h : OrdOk n l) : l.length ≤ n := by
 have hs : l ⊆ (List.range n).map fun (i : Nat) => ((i : Int) + 1) := fun x hx => by
   have := h.rg x hx
   exact List.mem_map.2 ⟨(x - 1).toNat, List.mem_range.2 (by omega), by omega⟩
 have := rnodup_le h.nd hs
 simpa using this
theorem openOrder_spec (t : Task) (ht : TaskOk t) (l : List Int) (e : Bool) (hl : OrdOk t.ps.length l) : Ct Try.prog 30 [encT t, .sl 1 (l.map encI) e] (.tup [encT t, int 0]) := by
 have hlen := hl.len
 have h7 := ht.n
 have hsl := isort_len l
 refine ct_enterZ Try.func30 rfl (by decide) Try.results30 Try.ntmps30 ?_ rfl (by simp (maxSteps := 1000000) -implicitDefEqProofs (disch := omega) only [go_sem]; rfl) fun base => ?_
 · first | assumption | (simp only [go_sem] <;> assumption) | (simp only [go_sem, *]; done) | (simp [go_sem]; done)
 repeat' (first
   | (with_reducible apply Req_intro); focus (first | omega | assumption | (simp; done))
   | with_reducible (first | apply Req_intro | refine nilT ?_ fun hn => ?_ | apply wk_draw Try_mixed | refine drawEnd (by kernel_rfl) ?_)
   | (with_reducible (first | apply condA_if | apply stepDG_ifN | apply stepDG_if | apply stepG_ifN | apply stepG_if)) <;> intro hb <;> (have hif := hb) <;> (try simp only [bo] at hif) <;> (try simp -implicitDefEqProofs (disch := omega) only [go_sem, hb]) <;> clear hb
   | simp (maxSteps := 1000000) -implicitDefEqProofs (disch := omega) only [go_sem])
 refine callp (ropen_spec t ht) ?_
 try simp (maxSteps := 1000000) -implicitDefEqProofs (disch := omega) only [go_sem]
 repeat' (first
   | (with_reducible apply Req_intro); focus (first | omega | assumption | (simp; done))
   | with_reducible (first | apply Req_intro | refine nilT ?_ fun hn => ?_ | apply wk_draw Try_mixed | refine drawEnd (by kernel_rfl) ?_)
   | (with_reducible (first | apply condA_if | apply stepDG_ifN | apply stepDG_if | apply stepG_ifN | apply stepG_if)) <;> intro hb <;> (have hif := hb) <;> (try simp only [bo] at hif) <;> (try simp -implicitDefEqProofs (disch := omega) only [go_sem, hb]) <;> clear hb
   | simp (maxSteps := 1000000) -implicitDefEqProofs (disch := omega) only [go_sem])
 all_goals first | (exfalso; simp at hif; done) | skip
 refine callp (Values_spec l e) ?_
 try simp (maxSteps := 1000000) -implicitDefEqProofs (disch := omega) only [go_sem]
 repeat' (first
   | (with_reducible apply Req_intro); focus (first | omega | assumption | (simp; done))
   | with_reducible (first | apply Req_intro | refine nilT ?_ fun hn => ?_ | apply wk_draw Try_mixed | refine drawEnd (by kernel_rfl) ?_)
   | (with_reducible (first | apply condA_if | apply stepDG_ifN | apply stepDG_if | apply stepG_ifN | apply stepG_if)) <;> intro hb <;> (have hif := hb) <;> (try simp only [bo] at hif) <;> (try simp -implicitDefEqProofs (disch := omega) only [go_sem, hb]) <;> clear hb
   | simp (maxSteps := 1000000) -implicitDefEqProofs (disch := omega) only [go_sem])
 refine callp (Sorted_spec l e (by omega)) ?_
 try simp (maxSteps := 1000000) -implicitDefEqProofs (disch := omega) only [go_sem]
 repeat' (first
   | (with_reducible apply Req_intro); focus (first | omega | assumption | (simp; done))
   | with_reducible (first | apply Req_intro | refine nilT ?_ fun hn => ?_ | apply wk_draw Try_mixed | refine drawEnd (by kernel_rfl) ?_)
   | (with_reducible (first | apply condA_if | apply stepDG_ifN | apply stepDG_if | apply stepG_ifN | apply stepG_if)) <;> intro hb <;> (have hif := hb) <;> (try simp only [bo] at hif) <;> (try simp -implicitDefEqProofs (disch := omega) only [go_sem, hb]) <;> clear hb
   | simp (maxSteps := 1000000) -implicitDefEqProofs (disch := omega) only [go_sem])
 refine callp (rwithin_ok 1 t.ps.length l e (by omega) hl.rg) ?_
 try simp (maxSteps := 1000000) -implicitDefEqProofs (disch := omega) only [go_sem]
 repeat' (first
   | (with_reducible apply Req_intro); focus (first | omega | assumption | (simp; done))
   | with_reducible (first | apply Req_intro | refine nilT ?_ fun hn => ?_ | apply wk_draw Try_mixed | refine drawEnd (by kernel_rfl) ?_)
   | (with_reducible (first | apply condA_if | apply stepDG_ifN | apply stepDG_if | apply stepG_ifN | apply stepG_if)) <;> intro hb <;> (have hif := hb) <;> (try simp only [bo] at hif) <;> (try simp -implicitDefEqProofs (disch := omega) only [go_sem, hb]) <;> clear hb
   | simp (maxSteps := 1000000) -implicitDefEqProofs (disch := omega) only [go_sem])
 refine callp (Compact_spec (isort l) false (by omega) (isort_nodup hl.nd)) ?_
 try simp (maxSteps := 1000000) -implicitDefEqProofs (disch := omega) only [go_sem]
 repeat' (first
   | (with_reducible apply Req_intro); focus (first | omega | assumption | (simp; done))
   | with_reducible (first | apply Req_intro | refine nilT ?_ fun hn => ?_ | apply wk_draw Try_mixed | refine drawEnd (by kernel_rfl) ?_)
   | (with_reducible (first | apply condA_if | apply stepDG_ifN | apply stepDG_if | apply stepG_ifN | apply stepG_if)) <;> intro hb <;> (have hif := hb) <;> (try simp only [bo] at hif) <;> (try simp -implicitDefEqProofs (disch := omega) only [go_sem, hb]) <;> clear hb
   | simp (maxSteps := 1000000) -implicitDefEqProofs (disch := omega) only [go_sem])
 all_goals first | (exfalso; omega) | skip
 exact retz []
end Go.Aw
end
section
set_option maxRecDepth 20000
set_option maxHeartbeats 4000000
namespace Go.Aw
open Go.RowKit Go.Proofs
def addSp (a b : Int × Int) : Int × Int := (a.1 + b.1, a.2 + b.2)
@[go_sem] theorem addSp_eq (a b : Int × Int) : addSp a b = (a.1 + b.1, a.2 + b.2) := rfl
theorem ralike_spec (n : Int) : Ct Try.prog 68 [int n] (.agg (encS (n, n))) := by
 refine ct_enterZ Try.func68 rfl (by decide) Try.results68 Try.ntmps68 ?_ rfl (by simp (maxSteps := 1000000) -implicitDefEqProofs (disch := omega) only [go_sem]; rfl) fun base => ?_
 · first | assumption | (simp only [go_sem] <;> assumption) | (simp only [go_sem, *]; done) | (simp [go_sem]; done)
 repeat' (first
   | (with_reducible apply Req_intro); focus (first | omega | assumption | (simp; done))
   | with_reducible (first | apply Req_intro | refine nilT ?_ fun hn => ?_ | apply wk_draw Try_mixed | refine drawEnd (by kernel_rfl) ?_)
   | (with_reducible (first | apply condA_if | apply stepDG_ifN | apply stepDG_if | apply stepG_ifN | apply stepG_if)) <;> intro hb <;> (have hif := hb) <;> (try simp only [bo] at hif) <;> (try simp -implicitDefEqProofs (disch := omega) only [go_sem, hb]) <;> clear hb
   | simp (maxSteps := 1000000) -implicitDefEqProofs (disch := omega) only [go_sem])
 exact retz []
theorem rplus_spec (a b : Int × Int) (h1 : -4611686018427387904 ≤ a.1 ∧ a.1 ≤ 4611686018427387903) (h2 : -4611686018427387904 ≤ a.2 ∧ a.2 ≤ 4611686018427387903) (h3 : -4611686018427387904 ≤ b.1 ∧ b.1 ≤ 4611686018427387903) (h4 : -4611686018427387904 ≤ b.2 ∧ b.2 ≤ 4611686018427387903) :
   Ct Try.prog 69 [.agg (encS a), .agg (encS b)] (.agg (encS (addSp a b))) := by
 refine ct_enterZ Try.func69 rfl (by decide) Try.results69 Try.ntmps69 ?_ rfl (by simp (maxSteps := 1000000) -implicitDefEqProofs (disch := omega) only [go_sem]; rfl) fun base => ?_
 · first | assumption | (simp only [go_sem] <;> assumption) | (simp only [go_sem, *]; done) | (simp [go_sem]; done)
 repeat' (first
   | (with_reducible apply Req_intro); focus (first | omega | assumption | (simp; done))
   | with_reducible (first | apply Req_intro | refine nilT ?_ fun hn => ?_ | apply wk_draw Try_mixed | refine drawEnd (by kernel_rfl) ?_)
   | (with_reducible (first | apply condA_if | apply stepDG_ifN | apply stepDG_if | apply stepG_ifN | apply stepG_if)) <;> intro hb <;> (have hif := hb) <;> (try simp only [bo] at hif) <;> (try simp -implicitDefEqProofs (disch := omega) only [go_sem, hb]) <;> clear hb
   | simp (maxSteps := 1000000) -implicitDefEqProofs (disch := omega) only [go_sem])
 exact retz []
theorem rlegs_spec (t : Task) (l : List Int) (e : Bool) : Ct Try.prog 31 [encT t, .sl 1 (l.map encI) e] (.fn (.func 67) [] [.rp (cellT t), .rp [.sl 1 (l.map encI) e]]) := by
 refine fn_enter Try.func31 rfl (by decide) Try.results31 Try.ntmps31 ?_ rfl (by simp (maxSteps := 1000000) -implicitDefEqProofs (disch := omega) only [go_sem]; rfl) fun base => ?_
 · first | assumption | (simp only [go_sem] <;> assumption) | (simp only [go_sem, *]; done) | (simp [go_sem]; done)
 repeat' (first
   | (with_reducible apply Req_intro); focus (first | omega | assumption | (simp; done))
   | with_reducible (first | apply Req_intro | refine nilT ?_ fun hn => ?_ | apply wk_draw Try_mixed | refine drawEnd (by kernel_rfl) ?_)
   | (with_reducible (first | apply condA_if | apply stepDG_ifN | apply stepDG_if | apply stepG_ifN | apply stepG_if)) <;> intro hb <;> (have hif := hb) <;> (try simp only [bo] at hif) <;> (try simp -implicitDefEqProofs (disch := omega) only [go_sem, hb]) <;> clear hb
   | simp (maxSteps := 1000000) -implicitDefEqProofs (disch := omega) only [go_sem])
 exact retf [0, 64] [4] [.fn (.func 67) [] [.rp (cellT t), .rp [.sl 1 (l.map encI) e]]]
structure Leg where
 number : Int
 frm : Int
 to : Int
 load : Int
 leaves : Int × Int
 comes : Int × Int
instance : Inhabited Leg := ⟨⟨0, 0, 0, 0, (0, 0), (0, 0)⟩⟩
def encLeg (g : Leg) : List V := [int g.number, int g.frm, int g.to, int g.load, int g.leaves.1, int g.leaves.2, int g.comes.1, int g.comes.2]
@[go_sem] theorem encLeg_eq (g : Leg) : encLeg g = [int g.number, int g.frm, int g.to, int g.load, int g.leaves.1, int g.leaves.2, int g.comes.1, int g.comes.2] := rfl
def yLeg (g : Leg) : List V := [.agg (encLeg g)]
@[go_sem] theorem yLeg_eq (g : Leg) : yLeg g = [.agg (encLeg g)] := rfl
def mAt (t : Task) (f p : Int) : Int × Int := (t.m.getD f.toNat default).getD p.toNat default
def pAt (t : Task) (p : Int) : Pl := t.ps.getD (p - 1).toNat default
def onward (t : Task) (p : Int) (comes : Int × Int) : Int × Int := addSp (max comes.1 (pAt t p).ready, max comes.2 (pAt t p).ready) ((pAt t p).stop, (pAt t p).stop)
def legsR (t : Task) : List Int → Int → Int → Int → Int × Int → List Leg
 | [], i, f, c, s => [⟨i, f, 0, c, s, addSp s (mAt t f 0)⟩]
 | p :: r, i, f, c, s => ⟨i, f, p, c, s, addSp s (mAt t f p)⟩ :: legsR t r (i + 1) p (c + ((pAt t p).fetched - (pAt t p).brought)) (onward t p (addSp s (mAt t f p)))
def sumBr (t : Task) (l : List Int) : Int := (l.map fun p => (pAt t p).brought).sum
def roads (t : Task) (l : List Int) : List Leg := legsR t l 0 0 (sumBr t l) (t.leaves, t.leaves)
structure LegOk (t : Task) : Prop where
 n : t.ps.length ≤ 7
 ml : t.m.length = t.ps.length + 1
 rl : ∀ r ∈ t.m, r.length = t.ps.length + 1
 so : ∀ r ∈ t.m, ∀ s ∈ r, 0 ≤ s.1 ∧ s.1 ≤ s.2 ∧ s.2 ≤ 600
 po : ∀ p ∈ t.ps, PlOk p
 l : 0 ≤ t.leaves ∧ t.leaves ≤ 10000
theorem TaskOk.leg {t : Task} (h : TaskOk t) : LegOk t := ⟨h.n, h.ml, h.rl, h.so, h.po, by have := h.l; have := h.b; omega⟩
theorem LegOk.pl {t : Task} (h : LegOk t) {p : Int} (hp : 1 ≤ p ∧ p ≤ t.ps.length) : PlOk (t.ps.getD (p - 1).toNat default) := h.po _ (getD_mem (by omega))
theorem sumBr_bd {t : Task} (h : LegOk t) {l : List Int} (hl : OrdOk t.ps.length l) : ∀ i, 0 ≤ sumBr t (l.take i) ∧ sumBr t (l.take i) ≤ 100 * i
 | 0 => by simp [sumBr]
 | i + 1 => by
   have ih := sumBr_bd h hl i
   by_cases hi : i < l.length
   · have hb : 0 ≤ (pAt t (l.getD i default)).brought ∧ (pAt t (l.getD i default)).brought ≤ 100 := (h.pl (hl.rg _ (getD_mem hi))).b
     rw [take_succ_getD hi]
     unfold sumBr at ih ⊢
     rw [List.map_append, List.sum_append]
     simp only [List.map_cons, List.map_nil, List.sum_cons, List.sum_nil]
     omega
   · rw [List.take_of_length_le (by omega)] at ih ⊢
     omega
theorem sumBr_step {t : Task} {o : List Int} {x : Nat} (h : x < o.length) : sumBr t (o.take (x + 1)) = sumBr t (o.take x) + (t.ps.getD (o.getD x default - 1).toNat default).brought := by
 rw [take_succ_getD h]
 unfold sumBr
 rw [List.map_append, List.sum_append]
 simp [pAt]
structure AtLeg (t : Task) (o : List Int) (i : Nat) (g : Leg) : Prop where
 hi : i ≤ o.length
 d : legsR t (o.drop i) i g.frm g.load g.leaves = (roads t o).drop i
 f : 0 ≤ g.frm ∧ g.frm ≤ t.ps.length
 lo : -100 * (i : Int) ≤ g.load ∧ g.load ≤ 100 * ((o.length : Int) + i)
 lv : 0 ≤ g.leaves.1 ∧ g.leaves.1 ≤ g.leaves.2 ∧ g.leaves.2 ≤ 10000 * ((i : Int) + 1)
theorem drop_at {o : List Int} {i : Nat} (h : i < o.length) : o.drop i = o.getD i default :: o.drop (i + 1) := by
 rw [getD_default h]; exact List.drop_eq_getElem_cons h
theorem roads_at {t : Task} {o : List Int} {i : Nat} {frm load : Int} {leaves : Int × Int} (hd : legsR t (o.drop i) i frm load leaves = (roads t o).drop i) (h : i < o.length) :
   (roads t o)[i]? = some ⟨i, frm, o.getD i default, load, leaves, addSp leaves (mAt t frm (o.getD i default))⟩ := by
 rw [drop_at h, legsR] at hd
 have := congrArg (fun l => l[0]?) hd
 simp only [List.getElem?_cons_zero, List.getElem?_drop, Nat.add_zero] at this
 exact this.symm
theorem roads_end {t : Task} {o : List Int} {frm load : Int} {leaves : Int × Int} (hd : legsR t (o.drop o.length) o.length frm load leaves = (roads t o).drop o.length) :
   (roads t o)[o.length]? = some ⟨o.length, frm, 0, load, leaves, addSp leaves (mAt t frm 0)⟩ := by
 rw [List.drop_length, legsR] at hd
 have := congrArg (fun l => l[0]?) hd
 simp only [List.getElem?_cons_zero, List.getElem?_drop, Nat.add_zero] at this
 exact this.symm
theorem roads_len {t : Task} {o : List Int} {frm load : Int} {leaves : Int × Int} (hd : legsR t (o.drop o.length) o.length frm load leaves = (roads t o).drop o.length) : (roads t o).length = o.length + 1 := by
 have h1 := roads_end hd
 have h2 := (List.getElem?_eq_some_iff.1 h1).1
 rw [List.drop_length, legsR] at hd
 have := congrArg List.length hd
 rw [List.length_drop] at this
 simp at this
 omega
structure AddOk (a b : Int × Int) (i : Nat) : Prop where
 lv : 0 ≤ a.1 ∧ a.1 ≤ a.2 ∧ a.2 ≤ 10000 * ((i : Int) + 1)
 so : 0 ≤ b.1 ∧ b.1 ≤ b.2 ∧ b.2 ≤ 600
theorem AddOk.mx {a b : Int × Int} {i n k : Nat} {r : Int} (h : AddOk a b i) (hr : 0 ≤ r ∧ r ≤ 5000) (hn : n ≤ k) (hk : k ≤ 7) (hi : i ≤ n) :
   (-4611686018427387904 ≤ max (addSp a b).1 r ∧ max (addSp a b).1 r ≤ 4611686018427387903) ∧ -4611686018427387904 ≤ max (addSp a b).2 r ∧ max (addSp a b).2 r ≤ 4611686018427387903 := by
 obtain ⟨h1, h2⟩ := h
 simp only [addSp]
 omega
theorem AtLeg.next {t : Task} {o : List Int} {i : Nat} {number frm to load : Int} {leaves comes : Int × Int} (h : AtLeg t o i ⟨number, frm, to, load, leaves, comes⟩) (hlt : i < o.length) (hp : 1 ≤ o.getD i default ∧ o.getD i default ≤ t.ps.length)
   (hpo : PlOk (t.ps.getD (o.getD i default - 1).toNat default)) (hso : 0 ≤ (mAt t frm (o.getD i default)).1 ∧ (mAt t frm (o.getD i default)).1 ≤ (mAt t frm (o.getD i default)).2 ∧ (mAt t frm (o.getD i default)).2 ≤ 600) :
   AtLeg t o (i + 1) ⟨i, o.getD i default, o.getD i default, load + ((pAt t (o.getD i default)).fetched - (pAt t (o.getD i default)).brought), onward t (o.getD i default) (addSp leaves (mAt t frm (o.getD i default))), addSp leaves (mAt t frm (o.getD i default))⟩ := by
 obtain ⟨hi, hd, hf, hlo, hlv⟩ := h
 simp only at hi hd hf hlo hlv
 have hb : 0 ≤ (pAt t (o.getD i default)).brought ∧ (pAt t (o.getD i default)).brought ≤ 100 := hpo.b
 have hf' : 0 ≤ (pAt t (o.getD i default)).fetched ∧ (pAt t (o.getD i default)).fetched ≤ 100 := hpo.f
 have hr' : 0 ≤ (pAt t (o.getD i default)).ready ∧ (pAt t (o.getD i default)).ready ≤ 5000 := hpo.r
 have hs' : 0 ≤ (pAt t (o.getD i default)).stop ∧ (pAt t (o.getD i default)).stop ≤ 600 := hpo.s
 refine ⟨hlt, ?_, by simp only; omega, by simp only; push_cast; omega, ?_⟩
 · rw [drop_at hlt, legsR] at hd
   have h2 := congrArg (List.drop 1) hd
   rw [List.drop_succ_cons, List.drop_zero, List.drop_drop] at h2
   rw [← h2]
   push_cast
   rfl
 · simp only [onward, addSp]
   push_cast
   omega
theorem legs_it (t : Task) (ht : LegOk t) (o : List Int) (e : Bool) (hl : OrdOk t.ps.length o) : It Try.prog 67 [.rp (cellT t), .rp [.sl 1 (o.map encI) e]] ((roads t o).map yLeg) := by
 have hlen := hl.len
 have h7 := ht.n
 have hle := ht.l
 refine it_enter Try.func67 rfl (by decide) Try.results67 Try.ntmps67 ?_ rfl (fun l => by simp (maxSteps := 1000000) -implicitDefEqProofs (disch := omega) only [go_sem]; rfl) fun base l => ?_
 · first | assumption | (simp only [go_sem] <;> assumption) | (simp only [go_sem, *]; done) | (simp [go_sem]; done)
 repeat' (first
   | (with_reducible apply Req_intro); focus (first | omega | assumption | (simp; done))
   | with_reducible (first | apply Req_intro | refine nilT ?_ fun hn => ?_ | apply wk_draw Try_mixed | refine drawEnd (by kernel_rfl) ?_)
   | (with_reducible (first | apply condA_if | apply stepDG_ifN | apply stepDG_if | apply stepG_ifN | apply stepG_if)) <;> intro hb <;> (have hif := hb) <;> (try simp only [bo] at hif) <;> (try simp -implicitDefEqProofs (disch := omega) only [go_sem, hb]) <;> clear hb
   | simp (maxSteps := 1000000) -implicitDefEqProofs (disch := omega) only [go_sem])
 refine callp (ralike_spec t.leaves) ?_
 try simp (maxSteps := 1000000) -implicitDefEqProofs (disch := omega) only [go_sem]
 repeat' (first
   | (with_reducible apply Req_intro); focus (first | omega | assumption | (simp; done))
   | with_reducible (first | apply Req_intro | refine nilT ?_ fun hn => ?_ | apply wk_draw Try_mixed | refine drawEnd (by kernel_rfl) ?_)
   | (with_reducible (first | apply condA_if | apply stepDG_ifN | apply stepDG_if | apply stepG_ifN | apply stepG_if)) <;> intro hb <;> (have hif := hb) <;> (try simp only [bo] at hif) <;> (try simp -implicitDefEqProofs (disch := omega) only [go_sem, hb]) <;> clear hb
   | simp (maxSteps := 1000000) -implicitDefEqProofs (disch := omega) only [go_sem])
 refine loop_rows (α := Nat) [6, 16, 17, 18, 19, 20, 21, 22, 23, 24, 25, 26, 27, 28, 29, 30, 31, 32] (fun i => [(16, .lit (.int .i64 i))]) (fun i => [(320, some ⟨8, [encLeg ⟨0, 0, 0, sumBr t (o.take i), (t.leaves, t.leaves), (0, 0)⟩], 109, .wr⟩)]) (fun i => i ≤ o.length) (fun i => o.length - i) 0 (fun x => by simp (maxSteps := 1000000) -implicitDefEqProofs (disch := omega) only [go_sem]; rfl) ?_ ?_ fun x hx => ?_
 · exact weak_do []
 · omega
 by_cases hlt : x < o.length
 · have hp := hl.rg _ (getD_mem hlt)
   have hs := sumBr_bd ht hl x
   have hpo := ht.pl hp
   repeat' (first
     | (with_reducible apply Req_intro); focus (first | omega | assumption | (simp; done))
     | with_reducible (first | apply Req_intro | refine nilT ?_ fun hn => ?_ | apply wk_draw Try_mixed | refine drawEnd (by kernel_rfl) ?_)
     | (with_reducible (first | apply condA_if | apply stepDG_ifN | apply stepDG_if | apply stepG_ifN | apply stepG_if)) <;> intro hb <;> (have hif := hb) <;> (try simp only [bo] at hif) <;> (try simp -implicitDefEqProofs (disch := omega) only [go_sem, hb]) <;> clear hb
     | simp (maxSteps := 1000000) -implicitDefEqProofs (disch := omega) only [go_sem])
   all_goals first | (exfalso; omega) | (have := hpo.b; omega) | skip
   with_reducible refine nxt_w (x + 1) ?_ ?_
   · (try dsimp only)
     rw [sumBr_step hlt]
     exact weak_do3 []
   try dsimp only
   omega
 obtain rfl : x = o.length := by omega
 rw [List.take_length]
 repeat' (first
   | (with_reducible apply Req_intro); focus (first | omega | assumption | (simp; done))
   | with_reducible (first | apply Req_intro | refine nilT ?_ fun hn => ?_ | apply wk_draw Try_mixed | refine drawEnd (by kernel_rfl) ?_)
   | (with_reducible (first | apply condA_if | apply stepDG_ifN | apply stepDG_if | apply stepG_ifN | apply stepG_if)) <;> intro hb <;> (have hif := hb) <;> (try simp only [bo] at hif) <;> (try simp -implicitDefEqProofs (disch := omega) only [go_sem, hb]) <;> clear hb
   | simp (maxSteps := 1000000) -implicitDefEqProofs (disch := omega) only [go_sem])
 all_goals first | (exfalso; omega) | omega | skip
 refine loop_gh (α := Nat × Leg) [7, 8, 36, 37, 38, 39, 40, 41, 42, 43, 44, 45, 46, 47, 48, 49, 50, 51, 52, 53, 54, 55, 56, 57, 58, 59, 60, 61, 62, 63, 64, 65, 66, 67, 68, 69, 70, 71, 72, 73, 74, 75, 76, 77, 78, 79, 80, 81, 82, 83, 84, 85, 86, 87, 88, 89, 90, 91, 92, 93, 94, 95, 96, 97, 98, 99, 100, 101, 102, 103, 104, 105, 106, 107, 108, 109, 110, 111, 112, 113] (fun z => [(36, .lit (.int .i64 z.1))]) (fun z => [(320, some ⟨8, [encLeg z.2], 109, .wr⟩)]) (fun z => z.1) (fun z => AtLeg t o z.1 z.2) (fun z => o.length + 1 - z.1) (0, ⟨0, 0, 0, sumBr t o, (t.leaves, t.leaves), (0, 0)⟩) (fun x => by simp (maxSteps := 1000000) -implicitDefEqProofs (disch := omega) only [go_sem]; rfl) ?_ ?_ ?_ fun x hx => ?_
 · rfl
 · exact weak_do []
 · have := sumBr_bd ht hl o.length
   rw [List.take_length] at this
   exact ⟨Nat.zero_le _, rfl, by simp, by simp; omega, by simp; omega⟩
 obtain ⟨i, number, frm, to, load, leaves, comes⟩ := x
 obtain ⟨hi, hd, hf, hlo, hlv⟩ := hx
 simp only at hi hd hf hlo hlv
 by_cases hlt : i < o.length
 · have hp := hl.rg _ (getD_mem hlt)
   have hpo := ht.pl hp
   have hml := ht.ml
   have hrow := ht.rl (t.m.getD frm.toNat default) (getD_mem (by omega))
   have hso := ht.so (t.m.getD frm.toNat default) (getD_mem (by omega)) ((t.m.getD frm.toNat default).getD (o.getD i default).toNat default) (getD_mem (by omega))
   repeat' (first
     | (with_reducible apply Req_intro); focus (first | omega | assumption | (simp; done))
     | with_reducible (first | apply Req_intro | refine nilT ?_ fun hn => ?_ | apply wk_draw Try_mixed | refine drawEnd (by kernel_rfl) ?_)
     | (with_reducible (first | apply condA_if | apply stepDG_ifN | apply stepDG_if | apply stepG_ifN | apply stepG_if)) <;> intro hb <;> (have hif := hb) <;> (try simp only [bo] at hif) <;> (try simp -implicitDefEqProofs (disch := omega) only [go_sem, hb]) <;> clear hb
     | simp (maxSteps := 1000000) -implicitDefEqProofs (disch := omega) only [go_sem])
   all_goals first | (exfalso; omega) | omega | skip
   refine calld (rplus_spec leaves ((t.m.getD frm.toNat default).getD (o.getD i default).toNat default) (by omega) (by omega) (by omega) (by omega)) ?_
   try simp (maxSteps := 1000000) -implicitDefEqProofs (disch := omega) only [go_sem]
   repeat' (first
     | (with_reducible apply Req_intro); focus (first | omega | assumption | (simp; done))
     | with_reducible (first | apply Req_intro | refine nilT ?_ fun hn => ?_ | apply wk_draw Try_mixed | refine drawEnd (by kernel_rfl) ?_)
     | (with_reducible (first | apply condA_if | apply stepDG_ifN | apply stepDG_if | apply stepG_ifN | apply stepG_if)) <;> intro hb <;> (have hif := hb) <;> (try simp only [bo] at hif) <;> (try simp -implicitDefEqProofs (disch := omega) only [go_sem, hb]) <;> clear hb
     | simp (maxSteps := 1000000) -implicitDefEqProofs (disch := omega) only [go_sem])
   all_goals first | (exfalso; omega) | omega | skip
   refine call_yield [] (by first | (simp (maxSteps := 1000000) -implicitDefEqProofs (disch := omega) only [go_sem]; done) | (simp (maxSteps := 1000000) -implicitDefEqProofs (disch := omega) only [go_sem]; rfl)) (rs := yLeg ⟨i, frm, o.getD i default, load, leaves, addSp leaves (mAt t frm (o.getD i default))⟩) ?_ ?_ fun b => ?_
   · rw [List.getElem?_map, roads_at hd hlt]; rfl
   · simp only [yLeg, encLeg, addSp, mAt]
     (try simp (maxSteps := 1000000) -implicitDefEqProofs (disch := omega) only [go_sem])
     repeat' (first
       | with_reducible (first | exact PurI.nil | exact Pur.nilsl _ _ | exact PurE.nil)
       | (with_reducible (first | refine PurI.puL ?_ | refine PurE.puE ?_)) <;> (first | assumption | (simp only [go_sem] <;> assumption) | (simp only [go_sem, *]; done) | (simp [go_sem]; done))
       | with_reducible apply PurI.cons
       | (with_reducible refine Pur.pu _ ?_) <;> (first | assumption | (simp only [go_sem] <;> assumption) | (simp only [go_sem, *]; done) | (simp [go_sem]; done))
       | ((with_reducible apply Pur.refR) <;> (first | rfl | decide | (simp only [go_sem]; omega) | (simp only [go_sem]) | skip))
       | ((with_reducible apply Pur.osR) <;> (first | rfl | exact fun h => h | omega | (simp; omega) | (simp; done) | (simp only [go_sem]) | skip))
       | with_reducible (first | apply Pur.fnI | apply Pur.aggI | apply PurE.cons)
       | (with_reducible refine PurI.eqL ?_ ?_); (focus rfl); (focus (first | assumption | (simp only [go_sem] <;> assumption) | (simp only [go_sem, *]; done) | (simp [go_sem]; done)))
       | simp (maxSteps := 1000000) -implicitDefEqProofs (disch := omega) only [go_sem])
   cases b
   · repeat' (first
       | (with_reducible apply Req_intro); focus (first | omega | assumption | (simp; done))
       | with_reducible (first | apply Req_intro | refine nilT ?_ fun hn => ?_ | apply wk_draw Try_mixed | refine drawEnd (by kernel_rfl) ?_)
       | (with_reducible (first | apply condA_if | apply stepDG_ifN | apply stepDG_if | apply stepG_ifN | apply stepG_if)) <;> intro hb <;> (have hif := hb) <;> (try simp only [bo] at hif) <;> (try simp -implicitDefEqProofs (disch := omega) only [go_sem, hb]) <;> clear hb
       | simp (maxSteps := 1000000) -implicitDefEqProofs (disch := omega) only [go_sem])
     all_goals first | (exfalso; omega) | skip
     refine retI fun h => ?_
     cases h
   · repeat' (first
       | (with_reducible apply Req_intro); focus (first | omega | assumption | (simp; done))
       | with_reducible (first | apply Req_intro | refine nilT ?_ fun hn => ?_ | apply wk_draw Try_mixed | refine drawEnd (by kernel_rfl) ?_)
       | (with_reducible (first | apply condA_if | apply stepDG_ifN | apply stepDG_if | apply stepG_ifN | apply stepG_if)) <;> intro hb <;> (have hif := hb) <;> (try simp only [bo] at hif) <;> (try simp -implicitDefEqProofs (disch := omega) only [go_sem, hb]) <;> clear hb
       | simp (maxSteps := 1000000) -implicitDefEqProofs (disch := omega) only [go_sem])
     all_goals first | (exfalso; omega) | (have := hpo.b; have := hpo.f; omega) | skip
     have hb := hpo.b
     have hf' := hpo.f
     have hr' := hpo.r
     have hs' := hpo.s
     refine calld (ralike_spec (t.ps.getD (o.getD i default - 1).toNat default).stop) ?_
     try simp (maxSteps := 1000000) -implicitDefEqProofs (disch := omega) only [go_sem]
     repeat' (first
       | (with_reducible apply Req_intro); focus (first | omega | assumption | (simp; done))
       | with_reducible (first | apply Req_intro | refine nilT ?_ fun hn => ?_ | apply wk_draw Try_mixed | refine drawEnd (by kernel_rfl) ?_)
       | (with_reducible (first | apply condA_if | apply stepDG_ifN | apply stepDG_if | apply stepG_ifN | apply stepG_if)) <;> intro hb <;> (have hif := hb) <;> (try simp only [bo] at hif) <;> (try simp -implicitDefEqProofs (disch := omega) only [go_sem, hb]) <;> clear hb
       | simp (maxSteps := 1000000) -implicitDefEqProofs (disch := omega) only [go_sem])
     all_goals first | (exfalso; omega) | omega | skip
     have hcm : AddOk leaves (mAt t frm (o.getD i default)) i := ⟨hlv, hso⟩
     have hmx := hcm.mx hr' hlen h7 hi
     refine calld (rplus_spec (max (addSp leaves (mAt t frm (o.getD i default))).1 (pAt t (o.getD i default)).ready, max (addSp leaves (mAt t frm (o.getD i default))).2 (pAt t (o.getD i default)).ready) ((pAt t (o.getD i default)).stop, (pAt t (o.getD i default)).stop) hmx.1 hmx.2 (by simp only [pAt]; omega) (by simp only [pAt]; omega)) ?_
     try simp (maxSteps := 1000000) -implicitDefEqProofs (disch := omega) only [go_sem]
     repeat' (first
       | (with_reducible apply Req_intro); focus (first | omega | assumption | (simp; done))
       | with_reducible (first | apply Req_intro | refine nilT ?_ fun hn => ?_ | apply wk_draw Try_mixed | refine drawEnd (by kernel_rfl) ?_)
       | (with_reducible (first | apply condA_if | apply stepDG_ifN | apply stepDG_if | apply stepG_ifN | apply stepG_if)) <;> intro hb <;> (have hif := hb) <;> (try simp only [bo] at hif) <;> (try simp -implicitDefEqProofs (disch := omega) only [go_sem, hb]) <;> clear hb
       | simp (maxSteps := 1000000) -implicitDefEqProofs (disch := omega) only [go_sem])
     all_goals first | (exfalso; omega) | omega | skip
     with_reducible refine nxt_w (i + 1, ⟨i, o.getD i default, o.getD i default, load + ((pAt t (o.getD i default)).fetched - (pAt t (o.getD i default)).brought), onward t (o.getD i default) (addSp leaves (mAt t frm (o.getD i default))), addSp leaves (mAt t frm (o.getD i default))⟩) ?_ ?_
     · (try dsimp only)
       simp only [encLeg, onward, addSp, mAt, pAt]
       exact weak_do3 []
     try dsimp only
     · exact AtLeg.next (number := number) (to := to) (comes := comes) ⟨hi, hd, hf, hlo, hlv⟩ hlt hp hpo hso
 · obtain rfl : i = o.length := by omega
   have hml := ht.ml
   have hrow := ht.rl (t.m.getD frm.toNat default) (getD_mem (by omega))
   have hso := ht.so (t.m.getD frm.toNat default) (getD_mem (by omega)) ((t.m.getD frm.toNat default).getD 0 default) (getD_mem (by omega))
   repeat' (first
     | (with_reducible apply Req_intro); focus (first | omega | assumption | (simp; done))
     | with_reducible (first | apply Req_intro | refine nilT ?_ fun hn => ?_ | apply wk_draw Try_mixed | refine drawEnd (by kernel_rfl) ?_)
     | (with_reducible (first | apply condA_if | apply stepDG_ifN | apply stepDG_if | apply stepG_ifN | apply stepG_if)) <;> intro hb <;> (have hif := hb) <;> (try simp only [bo] at hif) <;> (try simp -implicitDefEqProofs (disch := omega) only [go_sem, hb]) <;> clear hb
     | simp (maxSteps := 1000000) -implicitDefEqProofs (disch := omega) only [go_sem])
   all_goals first | (exfalso; omega) | omega | skip
   refine calld (rplus_spec leaves ((t.m.getD frm.toNat default).getD 0 default) (by omega) (by omega) (by omega) (by omega)) ?_
   try simp (maxSteps := 1000000) -implicitDefEqProofs (disch := omega) only [go_sem]
   repeat' (first
     | (with_reducible apply Req_intro); focus (first | omega | assumption | (simp; done))
     | with_reducible (first | apply Req_intro | refine nilT ?_ fun hn => ?_ | apply wk_draw Try_mixed | refine drawEnd (by kernel_rfl) ?_)
     | (with_reducible (first | apply condA_if | apply stepDG_ifN | apply stepDG_if | apply stepG_ifN | apply stepG_if)) <;> intro hb <;> (have hif := hb) <;> (try simp only [bo] at hif) <;> (try simp -implicitDefEqProofs (disch := omega) only [go_sem, hb]) <;> clear hb
     | simp (maxSteps := 1000000) -implicitDefEqProofs (disch := omega) only [go_sem])
   all_goals first | (exfalso; omega) | omega | skip
   refine call_yield [] (by first | (simp (maxSteps := 1000000) -implicitDefEqProofs (disch := omega) only [go_sem]; done) | (simp (maxSteps := 1000000) -implicitDefEqProofs (disch := omega) only [go_sem]; rfl)) (rs := yLeg ⟨o.length, frm, 0, load, leaves, addSp leaves (mAt t frm 0)⟩) ?_ ?_ fun b => ?_
   · rw [List.getElem?_map, roads_end hd]; rfl
   · simp only [yLeg, encLeg, addSp, mAt]
     (try simp (maxSteps := 1000000) -implicitDefEqProofs (disch := omega) only [go_sem])
     repeat' (first
       | with_reducible (first | exact PurI.nil | exact Pur.nilsl _ _ | exact PurE.nil)
       | (with_reducible (first | refine PurI.puL ?_ | refine PurE.puE ?_)) <;> (first | assumption | (simp only [go_sem] <;> assumption) | (simp only [go_sem, *]; done) | (simp [go_sem]; done))
       | with_reducible apply PurI.cons
       | (with_reducible refine Pur.pu _ ?_) <;> (first | assumption | (simp only [go_sem] <;> assumption) | (simp only [go_sem, *]; done) | (simp [go_sem]; done))
       | ((with_reducible apply Pur.refR) <;> (first | rfl | decide | (simp only [go_sem]; omega) | (simp only [go_sem]) | skip))
       | ((with_reducible apply Pur.osR) <;> (first | rfl | exact fun h => h | omega | (simp; omega) | (simp; done) | (simp only [go_sem]) | skip))
       | with_reducible (first | apply Pur.fnI | apply Pur.aggI | apply PurE.cons)
       | (with_reducible refine PurI.eqL ?_ ?_); (focus rfl); (focus (first | assumption | (simp only [go_sem] <;> assumption) | (simp only [go_sem, *]; done) | (simp [go_sem]; done)))
       | simp (maxSteps := 1000000) -implicitDefEqProofs (disch := omega) only [go_sem])
   cases b
   · repeat' (first
       | (with_reducible apply Req_intro); focus (first | omega | assumption | (simp; done))
       | with_reducible (first | apply Req_intro | refine nilT ?_ fun hn => ?_ | apply wk_draw Try_mixed | refine drawEnd (by kernel_rfl) ?_)
       | (with_reducible (first | apply condA_if | apply stepDG_ifN | apply stepDG_if | apply stepG_ifN | apply stepG_if)) <;> intro hb <;> (have hif := hb) <;> (try simp only [bo] at hif) <;> (try simp -implicitDefEqProofs (disch := omega) only [go_sem, hb]) <;> clear hb
       | simp (maxSteps := 1000000) -implicitDefEqProofs (disch := omega) only [go_sem])
     all_goals first | (exfalso; omega) | skip
     refine retI fun h => ?_
     cases h
   · repeat' (first
       | (with_reducible apply Req_intro); focus (first | omega | assumption | (simp; done))
       | with_reducible (first | apply Req_intro | refine nilT ?_ fun hn => ?_ | apply wk_draw Try_mixed | refine drawEnd (by kernel_rfl) ?_)
       | (with_reducible (first | apply condA_if | apply stepDG_ifN | apply stepDG_if | apply stepG_ifN | apply stepG_if)) <;> intro hb <;> (have hif := hb) <;> (try simp only [bo] at hif) <;> (try simp -implicitDefEqProofs (disch := omega) only [go_sem, hb]) <;> clear hb
       | simp (maxSteps := 1000000) -implicitDefEqProofs (disch := omega) only [go_sem])
     all_goals first | (exfalso; omega) | omega | skip
     refine retI fun _ => ?_
     rw [List.length_map, roads_len hd]
end Go.Aw
end
section
set_option maxRecDepth 20000
set_option maxHeartbeats 4000000
namespace Go.Aw
open Go.RowKit Go.Proofs
theorem legsR_len (t : Task) : ∀ (l : List Int) (i f c : Int) (s : Int × Int), (legsR t l i f c s).length = l.length + 1
 | [], i, f, c, s => rfl
 | p :: r, i, f, c, s => by rw [legsR, List.length_cons, legsR_len t r, List.length_cons]
theorem roads_length (t : Task) (l : List Int) : (roads t l).length = l.length + 1 := legsR_len t l _ _ _ _
def encN (g : Leg) : List V := encI g.load
theorem Load_spec (t : Task) (ht : TaskOk t) (o : List Int) (e : Bool) (hl : OrdOk t.ps.length o) (h0 : o ≠ []) : Ct Try.prog 9 [encT t, .sl 1 (o.map encI) e] (.tup [.sl 1 (((roads t o).map Leg.load).map encI) false, int 0]) := by
 have hlen := hl.len
 have h7 := ht.n
 have hrl := roads_length t o
 refine ct_enterT Try.func9 rfl (by decide) Try.results9 Try.ntmps9 ?_ rfl (by simp (maxSteps := 1000000) -implicitDefEqProofs (disch := omega) only [go_sem]; rfl) fun base => ?_
 · first | assumption | (simp only [go_sem] <;> assumption) | (simp only [go_sem, *]; done) | (simp [go_sem]; done)
 repeat' (first
   | (with_reducible apply Req_intro); focus (first | omega | assumption | (simp; done))
   | with_reducible (first | apply Req_intro | refine nilT ?_ fun hn => ?_ | apply wk_draw Try_mixed | refine drawEnd (by kernel_rfl) ?_)
   | (with_reducible (first | apply condA_if | apply stepDG_ifN | apply stepDG_if | apply stepG_ifN | apply stepG_if)) <;> intro hb <;> (have hif := hb) <;> (try simp only [bo] at hif) <;> (try simp -implicitDefEqProofs (disch := omega) only [go_sem, hb]) <;> clear hb
   | simp (maxSteps := 1000000) -implicitDefEqProofs (disch := omega) only [go_sem])
 refine callp (openOrder_spec t ht o e hl) ?_
 try simp (maxSteps := 1000000) -implicitDefEqProofs (disch := omega) only [go_sem]
 repeat' (first
   | (with_reducible apply Req_intro); focus (first | omega | assumption | (simp; done))
   | with_reducible (first | apply Req_intro | refine nilT ?_ fun hn => ?_ | apply wk_draw Try_mixed | refine drawEnd (by kernel_rfl) ?_)
   | (with_reducible (first | apply condA_if | apply stepDG_ifN | apply stepDG_if | apply stepG_ifN | apply stepG_if)) <;> intro hb <;> (have hif := hb) <;> (try simp only [bo] at hif) <;> (try simp -implicitDefEqProofs (disch := omega) only [go_sem, hb]) <;> clear hb
   | simp (maxSteps := 1000000) -implicitDefEqProofs (disch := omega) only [go_sem])
 all_goals first | (exfalso; exact h0 (List.eq_nil_of_length_eq_zero (by omega))) | skip
 refine callf [] (rlegs_spec t o e) ?_
 try simp (maxSteps := 1000000) -implicitDefEqProofs (disch := omega) only [go_sem]
 repeat' (first
   | (with_reducible apply Req_intro); focus (first | omega | assumption | (simp; done))
   | with_reducible (first | apply Req_intro | refine nilT ?_ fun hn => ?_ | apply wk_draw Try_mixed | refine drawEnd (by kernel_rfl) ?_)
   | (with_reducible (first | apply condA_if | apply stepDG_ifN | apply stepDG_if | apply stepG_ifN | apply stepG_if)) <;> intro hb <;> (have hif := hb) <;> (try simp only [bo] at hif) <;> (try simp -implicitDefEqProofs (disch := omega) only [go_sem, hb]) <;> clear hb
   | simp (maxSteps := 1000000) -implicitDefEqProofs (disch := omega) only [go_sem])
 refine range_rows (α := Nat) [] (fun i => [(64, some ⟨1, [[.os 1408 1 i false]], 31, .wr⟩), (1408, some ⟨1, (((roads t o).take i).map Leg.load).map encI, 3, .wr⟩)]) (fun _ => 0) (fun _ => false) (fun i y => y = i ∧ i ≤ (roads t o).length) (fun _ _ => False) 0 1472 (by first | (simp (maxSteps := 1000000) -implicitDefEqProofs (disch := omega) only [go_sem]; done) | (simp (maxSteps := 1000000) -implicitDefEqProofs (disch := omega) only [go_sem]; rfl)) (by first | (simp (maxSteps := 1000000) -implicitDefEqProofs (disch := omega) only [go_sem]; done) | (simp (maxSteps := 1000000) -implicitDefEqProofs (disch := omega) only [go_sem]; rfl)) (legs_it t ht.leg o e hl) ?_ ?_ ?_ ?_ ?_ ?_ ?_ ?_ ?_ ?_ ?_ ?_ ?_
 · first | assumption | (simp only [go_sem] <;> assumption) | (simp only [go_sem, *]; done) | (simp [go_sem]; done)
 · intro y hy
   rw [List.mem_map] at hy
   obtain ⟨w, _, rfl⟩ := hy
   rfl
 · simp only [List.take_zero, List.map_nil]
   exact weak_do [(1408, 1000000)]
 · rfl
 · rfl
 · exact ⟨rfl, Nat.zero_le _⟩
 · repeat' (first
     | with_reducible exact idsLt_nil
     | with_reducible refine idsLt_cons ?_ ?_
     | with_reducible exact IdLt.pu _ Pu_undef
     | with_reducible exact IdLt.pu _ (Pu_lit _)
     | ((with_reducible refine IdLt.ref _ _ _ _ ?_); decide)
     | ((with_reducible refine IdLt.os _ _ _ _ ?_); decide)
     | ((with_reducible refine IdLt.pu _ ?_); first | assumption | (simp only [go_sem] <;> assumption) | (simp only [go_sem, *]; done) | (simp [go_sem]; done))
     | (with_reducible refine idLt_fn ?_ ?_)
     | (with_reducible refine idLt_agg ?_))
 · decide
 · decide
 · rintro i x y ⟨hxi, hxl⟩ hy
   subst hxi
   rw [List.getElem?_map, Option.map_eq_some_iff] at hy
   obtain ⟨w, hw, rfl⟩ := hy
   have hi := (List.getElem?_eq_some_iff.1 hw).1
   have hlen : x = (List.take x (roads t o)).length := by rw [List.length_take]; omega
   repeat' (first
     | (with_reducible apply Req_intro); focus (first | omega | assumption | (simp; done))
     | with_reducible (first | apply Req_intro | refine nilT ?_ fun hn => ?_ | apply wk_draw Try_mixed | refine drawEnd (by kernel_rfl) ?_)
     | (with_reducible (first | apply condA_if | apply stepDG_ifN | apply stepDG_if | apply stepG_ifN | apply stepG_if)) <;> intro hb <;> (have hif := hb) <;> (try simp only [bo] at hif) <;> (try simp -implicitDefEqProofs (disch := omega) only [go_sem, hb]) <;> clear hb
     | simp (maxSteps := 1000000) -implicitDefEqProofs (disch := omega) only [go_sem])
   rw [show List.map Leg.load (List.take x (roads t o)) ++ [w.load] = List.map Leg.load (List.take (x + 1) (roads t o)) from by
     rw [take_succ_getD hi, getD_default hi, show (roads t o)[x] = w from (List.getElem?_eq_some_iff.1 hw).2, List.map_append]; rfl]
   refine rnd_next (x + 1) ⟨rfl, hi⟩ ?_
   exact forget_do [(1408, 1856)]
 · rintro x ⟨hx, _⟩
   subst hx
   simp only [List.length_map]
   repeat' (first
     | (with_reducible apply Req_intro); focus (first | omega | assumption | (simp; done))
     | with_reducible (first | apply Req_intro | refine nilT ?_ fun hn => ?_ | apply wk_draw Try_mixed | refine drawEnd (by kernel_rfl) ?_)
     | (with_reducible (first | apply condA_if | apply stepDG_ifN | apply stepDG_if | apply stepG_ifN | apply stepG_if)) <;> intro hb <;> (have hif := hb) <;> (try simp only [bo] at hif) <;> (try simp -implicitDefEqProofs (disch := omega) only [go_sem, hb]) <;> clear hb
     | simp (maxSteps := 1000000) -implicitDefEqProofs (disch := omega) only [go_sem])
   simp only [List.take_length]
   exact rett [1408]
 · exact fun x h => h.elim
 · exact fun id x h => h.elim
def encC (g : Leg) : List V := encS g.comes
theorem Times_spec (t : Task) (ht : TaskOk t) (o : List Int) (e : Bool) (hl : OrdOk t.ps.length o) : Ct Try.prog 35 [encT t, .sl 1 (o.map encI) e] (.tup [.sl 2 (((roads t o).map Leg.comes).map encS) false, int 0]) := by
 have hlen := hl.len
 have h7 := ht.n
 have hrl := roads_length t o
 refine ct_enterT Try.func35 rfl (by decide) Try.results35 Try.ntmps35 ?_ rfl (by simp (maxSteps := 1000000) -implicitDefEqProofs (disch := omega) only [go_sem]; rfl) fun base => ?_
 · first | assumption | (simp only [go_sem] <;> assumption) | (simp only [go_sem, *]; done) | (simp [go_sem]; done)
 repeat' (first
   | (with_reducible apply Req_intro); focus (first | omega | assumption | (simp; done))
   | with_reducible (first | apply Req_intro | refine nilT ?_ fun hn => ?_ | apply wk_draw Try_mixed | refine drawEnd (by kernel_rfl) ?_)
   | (with_reducible (first | apply condA_if | apply stepDG_ifN | apply stepDG_if | apply stepG_ifN | apply stepG_if)) <;> intro hb <;> (have hif := hb) <;> (try simp only [bo] at hif) <;> (try simp -implicitDefEqProofs (disch := omega) only [go_sem, hb]) <;> clear hb
   | simp (maxSteps := 1000000) -implicitDefEqProofs (disch := omega) only [go_sem])
 refine callp (openOrder_spec t ht o e hl) ?_
 try simp (maxSteps := 1000000) -implicitDefEqProofs (disch := omega) only [go_sem]
 repeat' (first
   | (with_reducible apply Req_intro); focus (first | omega | assumption | (simp; done))
   | with_reducible (first | apply Req_intro | refine nilT ?_ fun hn => ?_ | apply wk_draw Try_mixed | refine drawEnd (by kernel_rfl) ?_)
   | (with_reducible (first | apply condA_if | apply stepDG_ifN | apply stepDG_if | apply stepG_ifN | apply stepG_if)) <;> intro hb <;> (have hif := hb) <;> (try simp only [bo] at hif) <;> (try simp -implicitDefEqProofs (disch := omega) only [go_sem, hb]) <;> clear hb
   | simp (maxSteps := 1000000) -implicitDefEqProofs (disch := omega) only [go_sem])
 refine callf [] (rlegs_spec t o e) ?_
 try simp (maxSteps := 1000000) -implicitDefEqProofs (disch := omega) only [go_sem]
 repeat' (first
   | (with_reducible apply Req_intro); focus (first | omega | assumption | (simp; done))
   | with_reducible (first | apply Req_intro | refine nilT ?_ fun hn => ?_ | apply wk_draw Try_mixed | refine drawEnd (by kernel_rfl) ?_)
   | (with_reducible (first | apply condA_if | apply stepDG_ifN | apply stepDG_if | apply stepG_ifN | apply stepG_if)) <;> intro hb <;> (have hif := hb) <;> (try simp only [bo] at hif) <;> (try simp -implicitDefEqProofs (disch := omega) only [go_sem, hb]) <;> clear hb
   | simp (maxSteps := 1000000) -implicitDefEqProofs (disch := omega) only [go_sem])
 refine range_rows (α := Nat) [] (fun i => [(64, some ⟨1, [[.os 1088 2 i false]], 51, .wr⟩), (1088, some ⟨2, (((roads t o).take i).map Leg.comes).map encS, 33, .wr⟩)]) (fun _ => 0) (fun _ => false) (fun i y => y = i ∧ i ≤ (roads t o).length) (fun _ _ => False) 0 1152 (by first | (simp (maxSteps := 1000000) -implicitDefEqProofs (disch := omega) only [go_sem]; done) | (simp (maxSteps := 1000000) -implicitDefEqProofs (disch := omega) only [go_sem]; rfl)) (by first | (simp (maxSteps := 1000000) -implicitDefEqProofs (disch := omega) only [go_sem]; done) | (simp (maxSteps := 1000000) -implicitDefEqProofs (disch := omega) only [go_sem]; rfl)) (legs_it t ht.leg o e hl) ?_ ?_ ?_ ?_ ?_ ?_ ?_ ?_ ?_ ?_ ?_ ?_ ?_
 · first | assumption | (simp only [go_sem] <;> assumption) | (simp only [go_sem, *]; done) | (simp [go_sem]; done)
 · intro y hy
   rw [List.mem_map] at hy
   obtain ⟨w, _, rfl⟩ := hy
   rfl
 · simp only [List.take_zero, List.map_nil]
   exact weak_do [(1088, 1000000)]
 · rfl
 · rfl
 · exact ⟨rfl, Nat.zero_le _⟩
 · repeat' (first
     | with_reducible exact idsLt_nil
     | with_reducible refine idsLt_cons ?_ ?_
     | with_reducible exact IdLt.pu _ Pu_undef
     | with_reducible exact IdLt.pu _ (Pu_lit _)
     | ((with_reducible refine IdLt.ref _ _ _ _ ?_); decide)
     | ((with_reducible refine IdLt.os _ _ _ _ ?_); decide)
     | ((with_reducible refine IdLt.pu _ ?_); first | assumption | (simp only [go_sem] <;> assumption) | (simp only [go_sem, *]; done) | (simp [go_sem]; done))
     | (with_reducible refine idLt_fn ?_ ?_)
     | (with_reducible refine idLt_agg ?_))
 · decide
 · decide
 · rintro i x y ⟨hxi, hxl⟩ hy
   subst hxi
   rw [List.getElem?_map, Option.map_eq_some_iff] at hy
   obtain ⟨w, hw, rfl⟩ := hy
   have hi := (List.getElem?_eq_some_iff.1 hw).1
   have hlen : x = (List.take x (roads t o)).length := by rw [List.length_take]; omega
   repeat' (first
     | (with_reducible apply Req_intro); focus (first | omega | assumption | (simp; done))
     | with_reducible (first | apply Req_intro | refine nilT ?_ fun hn => ?_ | apply wk_draw Try_mixed | refine drawEnd (by kernel_rfl) ?_)
     | (with_reducible (first | apply condA_if | apply stepDG_ifN | apply stepDG_if | apply stepG_ifN | apply stepG_if)) <;> intro hb <;> (have hif := hb) <;> (try simp only [bo] at hif) <;> (try simp -implicitDefEqProofs (disch := omega) only [go_sem, hb]) <;> clear hb
     | simp (maxSteps := 1000000) -implicitDefEqProofs (disch := omega) only [go_sem])
   rw [show List.map encS (List.map Leg.comes (List.take x (roads t o))) ++ [[int w.comes.1, int w.comes.2]] = List.map encS (List.map Leg.comes (List.take (x + 1) (roads t o))) from by
     rw [take_succ_getD hi, getD_default hi, show (roads t o)[x] = w from (List.getElem?_eq_some_iff.1 hw).2, List.map_append, List.map_append]; rfl]
   refine rnd_next (x + 1) ⟨rfl, hi⟩ ?_
   exact forget_do [(1088, 1536)]
 · rintro x ⟨hx, _⟩
   subst hx
   simp only [List.length_map]
   repeat' (first
     | (with_reducible apply Req_intro); focus (first | omega | assumption | (simp; done))
     | with_reducible (first | apply Req_intro | refine nilT ?_ fun hn => ?_ | apply wk_draw Try_mixed | refine drawEnd (by kernel_rfl) ?_)
     | (with_reducible (first | apply condA_if | apply stepDG_ifN | apply stepDG_if | apply stepG_ifN | apply stepG_if)) <;> intro hb <;> (have hif := hb) <;> (try simp only [bo] at hif) <;> (try simp -implicitDefEqProofs (disch := omega) only [go_sem, hb]) <;> clear hb
     | simp (maxSteps := 1000000) -implicitDefEqProofs (disch := omega) only [go_sem])
   simp only [List.take_length]
   exact rett [1088]
 · exact fun x h => h.elim
 · exact fun id x h => h.elim
end Go.Aw
end
section
set_option maxRecDepth 20000
set_option maxHeartbeats 4000000
namespace Go.Aw
open Go.RowKit Go.Proofs
theorem oakSpan_spec (a b : Int) : Ct Try.prog 16 [int a, int b] (.agg (encS (a, b))) := by
 refine ct_enterZ Try.func16 rfl (by decide) Try.results16 Try.ntmps16 ?_ rfl (by simp (maxSteps := 1000000) -implicitDefEqProofs (disch := omega) only [go_sem]; rfl) fun base => ?_
 · first | assumption | (simp only [go_sem] <;> assumption) | (simp only [go_sem, *]; done) | (simp [go_sem]; done)
 repeat' (first
   | (with_reducible apply Req_intro); focus (first | omega | assumption | (simp; done))
   | with_reducible (first | apply Req_intro | refine nilT ?_ fun hn => ?_ | apply wk_draw Try_mixed | refine drawEnd (by kernel_rfl) ?_)
   | (with_reducible (first | apply condA_if | apply stepDG_ifN | apply stepDG_if | apply stepG_ifN | apply stepG_if)) <;> intro hb <;> (have hif := hb) <;> (try simp only [bo] at hif) <;> (try simp -implicitDefEqProofs (disch := omega) only [go_sem, hb]) <;> clear hb
   | simp (maxSteps := 1000000) -implicitDefEqProofs (disch := omega) only [go_sem])
 exact retz []
def boxRows0 (s : Int × Int) : List (Nat × Option Blk) := [(0, some ⟨1, [[.os 192 2 1 false]], 71, .wr⟩), (64, some ⟨2, [], 33, .wr⟩), (192, some ⟨2, [encS s], 33, .wr⟩)]
def billRows0 (n : Int) (s : Int × Int) : List (Nat × Option Blk) := [(0, some ⟨2, [[int n, .os 256 2 1 false]], 75, .wr⟩), (128, some ⟨2, [], 33, .wr⟩), (256, some ⟨2, [encS s], 33, .wr⟩)]
theorem oakBox_new (s : Int × Int) : CallH Try.prog 17 [.sl 2 ([s].map encS) true] (fun _ => none) 0 (fun r h' nx' => r = .agg [.os 192 2 1 false] ∧ h' = hpOf (fun _ => none) (boxRows0 s) ∧ nx' = 384) := by
 refine callH_enter Try.func17 rfl Try.results17 Try.ntmps17 rfl (by simp (maxSteps := 1000000) -implicitDefEqProofs (disch := omega) only [go_sem]; rfl) fun base => ?_
 repeat' (first
   | (with_reducible apply Req_intro); focus (first | omega | assumption | (simp; done))
   | with_reducible (first | apply Req_intro | refine nilT ?_ fun hn => ?_ | apply wk_draw Try_mixed | refine drawEnd (by kernel_rfl) ?_)
   | (with_reducible (first | apply condA_if | apply stepDG_ifN | apply stepDG_if | apply stepG_ifN | apply stepG_if)) <;> intro hb <;> (have hif := hb) <;> (try simp only [bo] at hif) <;> (try simp -implicitDefEqProofs (disch := omega) only [go_sem, hb]) <;> clear hb
   | simp (maxSteps := 1000000) -implicitDefEqProofs (disch := omega) only [go_sem])
 refine ret_do ?_
 exact ⟨rfl, rfl, rfl⟩
theorem oakBill_new (n : Int) (s : Int × Int) : CallH Try.prog 18 [int n, .sl 2 ([s].map encS) true] (fun _ => none) 0 (fun r h' nx' => r = .agg [int n, .os 256 2 1 false] ∧ h' = hpOf (fun _ => none) (billRows0 n s) ∧ nx' = 448) := by
 refine callH_enter Try.func18 rfl Try.results18 Try.ntmps18 rfl (by simp (maxSteps := 1000000) -implicitDefEqProofs (disch := omega) only [go_sem]; rfl) fun base => ?_
 repeat' (first
   | (with_reducible apply Req_intro); focus (first | omega | assumption | (simp; done))
   | with_reducible (first | apply Req_intro | refine nilT ?_ fun hn => ?_ | apply wk_draw Try_mixed | refine drawEnd (by kernel_rfl) ?_)
   | (with_reducible (first | apply condA_if | apply stepDG_ifN | apply stepDG_if | apply stepG_ifN | apply stepG_if)) <;> intro hb <;> (have hif := hb) <;> (try simp only [bo] at hif) <;> (try simp -implicitDefEqProofs (disch := omega) only [go_sem, hb]) <;> clear hb
   | simp (maxSteps := 1000000) -implicitDefEqProofs (disch := omega) only [go_sem])
 refine ret_do ?_
 exact ⟨rfl, rfl, rfl⟩
def oneTo (m k : Nat) : Nat := if k = 0 then m else k + 1000000
theorem oakBox_spec (s : Int × Int) (e : Bool) : Ct Try.prog 17 [.sl 2 ([s].map encS) e] (.agg (encB [s])) := by
 refine ct_enterZ Try.func17 rfl (by decide) Try.results17 Try.ntmps17 ?_ rfl (by simp (maxSteps := 1000000) -implicitDefEqProofs (disch := omega) only [go_sem]; rfl) fun base => ?_
 · first | assumption | (simp only [go_sem] <;> assumption) | (simp only [go_sem, *]; done) | (simp [go_sem]; done)
 repeat' (first
   | (with_reducible apply Req_intro); focus (first | omega | assumption | (simp; done))
   | with_reducible (first | apply Req_intro | refine nilT ?_ fun hn => ?_ | apply wk_draw Try_mixed | refine drawEnd (by kernel_rfl) ?_)
   | (with_reducible (first | apply condA_if | apply stepDG_ifN | apply stepDG_if | apply stepG_ifN | apply stepG_if)) <;> intro hb <;> (have hif := hb) <;> (try simp only [bo] at hif) <;> (try simp -implicitDefEqProofs (disch := omega) only [go_sem, hb]) <;> clear hb
   | simp (maxSteps := 1000000) -implicitDefEqProofs (disch := omega) only [go_sem])
 exact retz [192]
theorem oakBill_spec (n : Int) (s : Int × Int) (e : Bool) : Ct Try.prog 18 [int n, .sl 2 ([s].map encS) e] (.agg (encBill (n, [s]))) := by
 refine ct_enterZ Try.func18 rfl (by decide) Try.results18 Try.ntmps18 ?_ rfl (by simp (maxSteps := 1000000) -implicitDefEqProofs (disch := omega) only [go_sem]; rfl) fun base => ?_
 · first | assumption | (simp only [go_sem] <;> assumption) | (simp only [go_sem, *]; done) | (simp [go_sem]; done)
 repeat' (first
   | (with_reducible apply Req_intro); focus (first | omega | assumption | (simp; done))
   | with_reducible (first | apply Req_intro | refine nilT ?_ fun hn => ?_ | apply wk_draw Try_mixed | refine drawEnd (by kernel_rfl) ?_)
   | (with_reducible (first | apply condA_if | apply stepDG_ifN | apply stepDG_if | apply stepG_ifN | apply stepG_if)) <;> intro hb <;> (have hif := hb) <;> (try simp only [bo] at hif) <;> (try simp -implicitDefEqProofs (disch := omega) only [go_sem, hb]) <;> clear hb
   | simp (maxSteps := 1000000) -implicitDefEqProofs (disch := omega) only [go_sem])
 exact retz [256]
theorem oakInts_spec (a b : List Int) (ea eb : Bool) (ha : a.length ≤ 1000000) (hb : b.length ≤ 1000000) : Ct Try.prog 25 [.sl 1 (a.map encI) ea, .sl 1 (b.map encI) eb] (.lit (.bool (a == b))) := by
 refine fn_enter Try.func25 rfl (by decide) Try.results25 Try.ntmps25 ?_ rfl (by simp (maxSteps := 1000000) -implicitDefEqProofs (disch := omega) only [go_sem]; rfl) fun base => ?_
 · simp
 repeat' (first
   | (with_reducible apply Req_intro); focus (first | omega | assumption | (simp; done))
   | with_reducible (first | apply Req_intro | refine nilT ?_ fun hn => ?_ | apply wk_draw Try_mixed | refine drawEnd (by kernel_rfl) ?_)
   | (with_reducible (first | apply condA_if | apply stepDG_ifN | apply stepDG_if | apply stepG_ifN | apply stepG_if)) <;> intro hb <;> (have hif := hb) <;> (try simp only [bo] at hif) <;> (try simp -implicitDefEqProofs (disch := omega) only [go_sem, hb]) <;> clear hb
   | simp (maxSteps := 1000000) -implicitDefEqProofs (disch := omega) only [go_sem])
 · refine ret_do ?_
   have : (a == b) = false := by rw [beq_eq_false_iff_ne]; intro e; subst e; exact hif rfl
   rw [this]; rfl
 refine loop_at (α := Nat) [4, 5, 11, 12, 13, 14, 15, 16, 17, 18, 19, 20, 21, 22, 23, 24, 25] (fun i => [(5, .lit (.int .i64 i))]) (fun i => i ≤ a.length ∧ a.take i = b.take i) (fun i => a.length - i) 0 (fun x => by simp (maxSteps := 1000000) -implicitDefEqProofs (disch := omega) only [go_sem]; rfl) ?_ ?_ fun x hx => ?_
 · exact weak_do []
 · simp
 obtain ⟨hi, he⟩ := hx
 repeat' (first
   | (with_reducible apply Req_intro); focus (first | omega | assumption | (simp; done))
   | with_reducible (first | apply Req_intro | refine nilT ?_ fun hn => ?_ | apply wk_draw Try_mixed | refine drawEnd (by kernel_rfl) ?_)
   | (with_reducible (first | apply condA_if | apply stepDG_ifN | apply stepDG_if | apply stepG_ifN | apply stepG_if)) <;> intro hb <;> (have hif := hb) <;> (try simp only [bo] at hif) <;> (try simp -implicitDefEqProofs (disch := omega) only [go_sem, hb]) <;> clear hb
   | simp (maxSteps := 1000000) -implicitDefEqProofs (disch := omega) only [go_sem])
 · refine ret_do ?_
   have : (a == b) = false := by rw [beq_eq_false_iff_ne]; intro e; subst e; exact hif rfl
   rw [this]; rfl
 · refine nxt_w (x + 1) (weak_do []) ?_
   try dsimp only
   refine ⟨by omega, ?_⟩
   rw [take_succ_getD (by omega), take_succ_getD (by omega), he, hif]
 · refine ret_do ?_
   have : a = b := by
     rw [List.take_of_length_le (by omega), List.take_of_length_le (by omega)] at he; exact he
   subst this; simp; rfl
def rotR (l : List Int) (f : Nat) : List Int := (List.range l.length).map fun i => l.getD ((i + f) % l.length) default
theorem rotR_len (l : List Int) (f : Nat) : (rotR l f).length = l.length := by simp [rotR]
theorem range_map_succ {α : Type} (f : Nat → α) (n : Nat) : (List.range (n + 1)).map f = (List.range n).map f ++ [f n] := by rw [List.range_succ, List.map_append]; rfl
theorem oakOrder_spec (o : List Int) (e : Bool) (f : Nat) (ho : o.length ≤ 1000) (hf : f ≤ 255) : Ct Try.prog 13 [.sl 1 (o.map encI) e, int f] (.sl 1 ((rotR o f).map encI) false) := by
 refine fn_enter Try.func13 rfl (by decide) Try.results13 Try.ntmps13 ?_ rfl (by simp (maxSteps := 1000000) -implicitDefEqProofs (disch := omega) only [go_sem]; rfl) fun base => ?_
 · first | assumption | (simp only [go_sem] <;> assumption) | (simp only [go_sem, *]; done) | (simp [go_sem]; done)
 repeat' (first
   | (with_reducible apply Req_intro); focus (first | omega | assumption | (simp; done))
   | with_reducible (first | apply Req_intro | refine nilT ?_ fun hn => ?_ | apply wk_draw Try_mixed | refine drawEnd (by kernel_rfl) ?_)
   | (with_reducible (first | apply condA_if | apply stepDG_ifN | apply stepDG_if | apply stepG_ifN | apply stepG_if)) <;> intro hb <;> (have hif := hb) <;> (try simp only [bo] at hif) <;> (try simp -implicitDefEqProofs (disch := omega) only [go_sem, hb]) <;> clear hb
   | simp (maxSteps := 1000000) -implicitDefEqProofs (disch := omega) only [go_sem])
 refine loop_rows (α := Nat) (7 :: [5, 6, 8, 9, 10, 11, 12, 13, 14, 15, 16, 17, 18, 19, 20, 21, 22, 23, 24, 25]) (fun i => [(5, .os 128 1 i false), (6, .lit (.int .i64 i))]) (fun i => [(128, some ⟨1, ((List.range i).map fun j => o.getD ((j + f) % o.length) default).map encI, 3, .wr⟩)]) (fun i => i ≤ o.length) (fun i => o.length - i) 0 (fun x => by simp (maxSteps := 1000000) -implicitDefEqProofs (disch := omega) only [go_sem]; rfl) ?_ ?_ fun x hx => ?_
 · exact weak_do3 [(128, 64)]
 · exact Nat.zero_le _
 by_cases hlt : x < o.length
 · have hm : (x + f) % o.length < o.length := Nat.mod_lt _ (by omega)
   have e0 : ((x : Int) + (f : Int)) % (o.length : Int) = (((x + f) % o.length : Nat) : Int) := by push_cast; rfl
   have e1 : (List.range x).length = x := List.length_range
   repeat' (first
     | (with_reducible apply Req_intro); focus (first | omega | assumption | (simp; done))
     | with_reducible (first | apply Req_intro | refine nilT ?_ fun hn => ?_ | apply wk_draw Try_mixed | refine drawEnd (by kernel_rfl) ?_)
     | (with_reducible (first | apply condA_if | apply stepDG_ifN | apply stepDG_if | apply stepG_ifN | apply stepG_if)) <;> intro hb <;> (have hif := hb) <;> (try simp only [bo] at hif) <;> (try simp -implicitDefEqProofs (disch := omega) only [go_sem, hb, e0, e1]) <;> clear hb
     | simp (maxSteps := 1000000) -implicitDefEqProofs (disch := omega) only [go_sem, e0, e1])
   all_goals first | (exfalso; omega) | omega | skip
   rw [show (List.range x).map (fun j => o.getD ((j + f) % o.length) default) ++ [o.getD ((x + f) % o.length) default] = (List.range (x + 1)).map (fun j => o.getD ((j + f) % o.length) default) from (range_map_succ _ x).symm]
   with_reducible refine nxt_w (x + 1) ?_ ?_
   · (try dsimp only)
     skip
     exact weak_do3 [(128, 1216)]
   try dsimp only
   omega
 · obtain rfl : x = o.length := by omega
   have hrl := rotR_len o f
   rw [show (List.range o.length).map (fun j => o.getD ((j + f) % o.length) default) = rotR o f from rfl]
   repeat' (first
     | (with_reducible apply Req_intro); focus (first | omega | assumption | (simp; done))
     | with_reducible (first | apply Req_intro | refine nilT ?_ fun hn => ?_ | apply wk_draw Try_mixed | refine drawEnd (by kernel_rfl) ?_)
     | (with_reducible (first | apply condA_if | apply stepDG_ifN | apply stepDG_if | apply stepG_ifN | apply stepG_if)) <;> intro hb <;> (have hif := hb) <;> (try simp only [bo] at hif) <;> (try simp -implicitDefEqProofs (disch := omega) only [go_sem, hb]) <;> clear hb
     | simp (maxSteps := 1000000) -implicitDefEqProofs (disch := omega) only [go_sem])
   all_goals first | (exfalso; omega) | omega | skip
   exact retf [128] [4] [.sl 1 ((rotR o f).map encI) false]
def cntW (way : List Int) (n i : Nat) : List Int := (List.range n).map fun (c : Nat) => (((way.take i).count (c : Int) : Nat) : Int)
theorem cntW_len (way : List Int) (n i : Nat) : (cntW way n i).length = n := by simp [cntW]
theorem cntW_get {way : List Int} {n i c : Nat} (h : c < n) : (cntW way n i).getD c default = (((way.take i).count (c : Int) : Nat) : Int) := by
 rw [getD_default (by rw [cntW_len]; exact h)]
 simp [cntW]
theorem cntW_step {way : List Int} {n i c : Nat} (hi : i < way.length) (hc : way.getD i default = (c : Int)) (h : c < n) : (cntW way n i).set c ((cntW way n i).getD c default + 1) = cntW way n (i + 1) := by
 refine List.ext_getElem (by simp [cntW]) fun j h1 h2 => ?_
 rw [List.getElem_set]
 simp only [cntW_get h]
 have hj : j < n := by rw [cntW_len] at h2; exact h2
 simp only [cntW, List.getElem_map, List.getElem_range]
 rw [take_succ_getD hi, List.count_append, hc, List.count_singleton]
 by_cases e : c = j
 · subst e; simp
 · rw [if_neg e]
   have : ((c : Int) == (j : Int)) = false := beq_eq_false_iff_ne.2 (fun h => e (by omega))
   simp [this]
theorem cntW_zero (way : List Int) (n : Nat) : cntW way n 0 = List.replicate n 0 := by
 refine List.ext_getElem (by simp [cntW]) fun j h1 h2 => ?_
 simp [cntW]
theorem oakWay_spec (bs : List Box) (cs : List Bill) (way : List Int) (e : Bool) (hb : bs.length ≤ 8) (hc : cs.length ≤ 3) (hl : way.length = bs.length) (hr : ∀ x ∈ way, 0 ≤ x ∧ x < cs.length) (hcnt : ∀ c, c < cs.length → ((way.count (c : Int) : Nat) : Int) = (cs.getD c default).1) :
   Ct Try.prog 20 [encLoad bs cs, .sl 1 (way.map encI) e] (.lit (.bool true)) := by
 refine fn_enter Try.func20 rfl (by decide) Try.results20 Try.ntmps20 ?_ rfl (by simp (maxSteps := 1000000) -implicitDefEqProofs (disch := omega) only [go_sem]; rfl) fun base => ?_
 · first | assumption | (simp only [go_sem] <;> assumption) | (simp only [go_sem, *]; done) | (simp [go_sem]; done)
 repeat' (first
   | (with_reducible apply Req_intro); focus (first | omega | assumption | (simp; done))
   | with_reducible (first | apply Req_intro | refine nilT ?_ fun hn => ?_ | apply wk_draw Try_mixed | refine drawEnd (by kernel_rfl) ?_)
   | (with_reducible (first | apply condA_if | apply stepDG_ifN | apply stepDG_if | apply stepG_ifN | apply stepG_if)) <;> intro hb <;> (have hif := hb) <;> (try simp only [bo] at hif) <;> (try simp -implicitDefEqProofs (disch := omega) only [go_sem, hb]) <;> clear hb
   | simp (maxSteps := 1000000) -implicitDefEqProofs (disch := omega) only [go_sem])
 all_goals first | (exfalso; omega) | omega | skip
 refine loop_rows (α := Nat) ([4, 6, 18, 19, 20, 21, 22, 23, 24, 25, 26, 27, 28, 29, 30, 31, 32, 33, 34, 35, 36, 37, 38, 39, 40, 41, 42, 43, 44, 45, 46, 47]) (fun i => [(6, .lit (.int .i64 i))]) (fun i => [(0, some ⟨2, [loadC bs cs], 69, .wr⟩), (704, some ⟨1, (cntW way cs.length i).map encI, 3, .wr⟩)]) (fun i => i ≤ way.length) (fun i => way.length - i) 0 (fun x => by simp (maxSteps := 1000000) -implicitDefEqProofs (disch := omega) only [go_sem]; rfl) ?_ ?_ fun x hx => ?_
 · simp only [cntW_zero, List.map_replicate, encI_eq]
   exact weak_do3 []
 · exact Nat.zero_le _
 by_cases hlt : x < way.length
 · have hw := hr _ (getD_mem hlt)
   have hcl := cntW_len way cs.length x
   have hk := cntW_get (way := way) (i := x) (n := cs.length) (c := (way.getD x default).toNat) (by omega)
   have hk2 : (way.take x).count (((way.getD x default).toNat : Nat) : Int) ≤ x := Nat.le_trans List.count_le_length (by rw [List.length_take]; omega)
   repeat' (first
     | (with_reducible apply Req_intro); focus (first | omega | assumption | (simp; done))
     | with_reducible (first | apply Req_intro | refine nilT ?_ fun hn => ?_ | apply wk_draw Try_mixed | refine drawEnd (by kernel_rfl) ?_)
     | (with_reducible (first | apply condA_if | apply stepDG_ifN | apply stepDG_if | apply stepG_ifN | apply stepG_if)) <;> intro hb <;> (have hif := hb) <;> (try simp only [bo] at hif) <;> (try simp -implicitDefEqProofs (disch := omega) only [go_sem, hb]) <;> clear hb
     | simp (maxSteps := 1000000) -implicitDefEqProofs (disch := omega) only [go_sem])
   all_goals first | (exfalso; omega) | omega | skip
   rw [cntW_step hlt (show way.getD x default = (((way.getD x default).toNat : Nat) : Int) from by omega) (by omega)]
   with_reducible refine nxt_w (x + 1) ?_ ?_
   · (try dsimp only)
     skip
     exact weak_do3 []
   try dsimp only
   omega
 · obtain rfl : x = way.length := by omega
   have hcl := cntW_len way cs.length way.length
   repeat' (first
     | (with_reducible apply Req_intro); focus (first | omega | assumption | (simp; done))
     | with_reducible (first | apply Req_intro | refine nilT ?_ fun hn => ?_ | apply wk_draw Try_mixed | refine drawEnd (by kernel_rfl) ?_)
     | (with_reducible (first | apply condA_if | apply stepDG_ifN | apply stepDG_if | apply stepG_ifN | apply stepG_if)) <;> intro hb <;> (have hif := hb) <;> (try simp only [bo] at hif) <;> (try simp -implicitDefEqProofs (disch := omega) only [go_sem, hb]) <;> clear hb
     | simp (maxSteps := 1000000) -implicitDefEqProofs (disch := omega) only [go_sem])
   all_goals first | (exfalso; omega) | omega | skip
   refine loop_rows (α := Nat) ([4, 7, 48, 49, 50, 51, 52, 53, 54, 55, 56, 57, 58, 59, 60, 61, 62, 63, 64, 65]) (fun i => [(7, .lit (.int .i64 i))]) (fun i => [(0, some ⟨2, [loadC bs cs], 69, .wr⟩), (704, some ⟨1, (cntW way cs.length way.length).map encI, 3, .wr⟩)]) (fun i => i ≤ cs.length) (fun i => cs.length - i) 0 (fun x => by simp (maxSteps := 1000000) -implicitDefEqProofs (disch := omega) only [go_sem]; rfl) ?_ ?_ fun x hx => ?_
   · exact weak_do3 []
   · exact Nat.zero_le _
   by_cases hlt : x < cs.length
   · have hk := cntW_get (way := way) (i := way.length) (n := cs.length) (c := x) hlt
     rw [List.take_length, hcnt x hlt] at hk
     repeat' (first
       | (with_reducible apply Req_intro); focus (first | omega | assumption | (simp; done))
       | with_reducible (first | apply Req_intro | refine nilT ?_ fun hn => ?_ | apply wk_draw Try_mixed | refine drawEnd (by kernel_rfl) ?_)
       | (with_reducible (first | apply condA_if | apply stepDG_ifN | apply stepDG_if | apply stepG_ifN | apply stepG_if)) <;> intro hb <;> (have hif := hb) <;> (try simp only [bo] at hif) <;> (try simp -implicitDefEqProofs (disch := omega) only [go_sem, hb, hk]) <;> clear hb
       | simp (maxSteps := 1000000) -implicitDefEqProofs (disch := omega) only [go_sem, hk])
     all_goals first | (exfalso; omega) | omega | (exact absurd trivial ‹¬True›) | skip
     with_reducible refine nxt_w (x + 1) ?_ ?_
     · (try dsimp only)
       skip
       exact weak_do3 []
     try dsimp only
     omega
   · repeat' (first
       | (with_reducible apply Req_intro); focus (first | omega | assumption | (simp; done))
       | with_reducible (first | apply Req_intro | refine nilT ?_ fun hn => ?_ | apply wk_draw Try_mixed | refine drawEnd (by kernel_rfl) ?_)
       | (with_reducible (first | apply condA_if | apply stepDG_ifN | apply stepDG_if | apply stepG_ifN | apply stepG_if)) <;> intro hb <;> (have hif := hb) <;> (try simp only [bo] at hif) <;> (try simp -implicitDefEqProofs (disch := omega) only [go_sem, hb]) <;> clear hb
       | simp (maxSteps := 1000000) -implicitDefEqProofs (disch := omega) only [go_sem])
     all_goals first | (exfalso; omega) | omega | skip
     refine ret_do ?_
     rfl
end Go.Aw
end
section
set_option maxRecDepth 20000
set_option maxHeartbeats 4000000
namespace Go.Aw
open Go.RowKit Go.Proofs
abbrev u8r (n : Int) : V := .lit (.int .u8 n)
def bytC (rb : List Int) : List V := rb.map fun n => u8r n
@[go_sem] theorem bytC_len (rb : List Int) : (bytC rb).length = rb.length := by simp [bytC]
@[go_sem] theorem bytC_pu (rb : List Int) : PuL (bytC rb) = True := by
 simp only [PuL, eq_iff_iff, iff_true, bytC]
 intro e he
 obtain ⟨c, _, rfl⟩ := List.mem_map.1 he
 exact Pu_lit _
def bytR (rb : List Int) (i : Nat) : List V := (bytC rb).drop (i + 1)
@[go_sem] theorem bytC_drop (rb : List Int) (i : Nat) (h : i < rb.length) : (bytC rb).drop i = u8r (rb.getD i 0) :: bytR rb i := by
 unfold bytC bytR
 rw [List.drop_eq_getElem_cons (by simpa using h)]
 simp [List.getD_eq_getElem?_getD, List.getElem?_eq_getElem h, bytC]
def at61 (rb : List Int) (i : Nat) : Int := rb.getD i 0
def lowR (rb : List Int) (i k : Nat) : Int := rb.getD (i * 7 + k) 0 % 100
def cellM (rb : List Int) (i k : Nat) : Int × Int := if i = k then (0, 0) else (lowR rb i k, lowR rb i k + rb.getD (k * 7 + i) 0 % 5)
def rowM (rb : List Int) (n i k : Nat) : List (Int × Int) := (List.range k).map (cellM rb i)
def plM (rb : List Int) (br fe : List Int) (i : Nat) : Pl := ⟨rb.getD (49 + i * 2) 0, 5000, rb.getD (49 + i * 2 + 1) 0 % 60, br.getD i default, fe.getD i default⟩
def mTo (rb : List Int) (n i : Nat) : List (List (Int × Int)) := (List.range i).map fun j => rowM rb n j n
def pTo (rb br fe : List Int) (i : Nat) : List Pl := (List.range i).map (plM rb br fe)
theorem mTo_len (rb : List Int) (n i : Nat) : (mTo rb n i).length = i := by simp [mTo]
theorem pTo_len (rb br fe : List Int) (i : Nat) : (pTo rb br fe i).length = i := by simp [pTo]
theorem mTo_succ (rb : List Int) (n i : Nat) : mTo rb n (i + 1) = mTo rb n i ++ [rowM rb n i n] := range_map_succ _ _
theorem pTo_succ (rb br fe : List Int) (i : Nat) : pTo rb br fe (i + 1) = pTo rb br fe i ++ [plM rb br fe i] := range_map_succ _ _
def taskR (rb br fe : List Int) (holds : Int) : Task := ⟨mTo rb (br.length + 1) (br.length + 1), pTo rb br fe br.length, holds, 0, 5000⟩
@[go_sem] theorem take_map_P (l : List Pl) (n : Nat) (h : l.length = n) : (l.map encP).take n = l.map encP := List.take_of_length_le (by simp; omega)
@[go_sem] theorem rowOk_five (a b c d e : V) : rowOk [[a, b, c, d, e]] = (a.cell = true ∧ b.cell = true ∧ c.cell = true ∧ d.cell = true ∧ e.cell = true) := by simp [rowOk]
structure Byt (rb : List Int) : Prop where
 n : rb.length = 61
 b : ∀ i, 0 ≤ rb.getD i 0 ∧ rb.getD i 0 ≤ 255
theorem rowM_succ (rb : List Int) (n i k : Nat) : rowM rb n i (k + 1) = rowM rb n i k ++ [cellM rb i k] := by rw [rowM, rowM, List.range_succ, List.map_append]; rfl
theorem task_spec (rb br fe : List Int) (eb ef : Bool) (holds : Int) (hr : Byt rb) (h6 : br.length ≤ 6) (hf : fe.length = br.length) :
   Ct Try.prog 8 [.agg (bytC rb), .sl 1 (br.map encI) eb, .sl 1 (fe.map encI) ef, int holds] (encT (taskR rb br fe holds)) := by
 obtain ⟨h61, hby⟩ := hr
 refine ct_enterZ Try.func8 rfl (by decide) Try.results8 Try.ntmps8 ?_ rfl (by simp (maxSteps := 1000000) -implicitDefEqProofs (disch := omega) only [go_sem]; rfl) fun base => ?_
 · first | assumption | (simp only [go_sem] <;> assumption) | (simp only [go_sem, *]; done) | (simp [go_sem]; done)
 repeat' (first
   | (with_reducible apply Req_intro); focus (first | omega | assumption | (simp; done))
   | with_reducible (first | apply Req_intro | refine nilT ?_ fun hn => ?_ | apply wk_draw Try_mixed | refine drawEnd (by kernel_rfl) ?_)
   | (with_reducible (first | apply condA_if | apply stepDG_ifN | apply stepDG_if | apply stepG_ifN | apply stepG_if)) <;> intro hb <;> (have hif := hb) <;> (try simp only [bo] at hif) <;> (try simp -implicitDefEqProofs (disch := omega) only [go_sem, hb]) <;> clear hb
   | simp (maxSteps := 1000000) -implicitDefEqProofs (disch := omega) only [go_sem])
 refine loop_rows (α := Nat) ([11, 12, 13, 14, 21, 22, 23, 24, 25, 26, 27, 28, 29, 30, 31, 32, 33, 34, 35, 36, 37, 38, 39, 40, 41, 42, 43, 44, 45, 46, 47, 48, 49, 50, 51, 52, 53, 54, 55, 56, 57, 58, 59, 60, 61, 62, 63, 64, 65, 66, 67]) (fun i => [(11, .lit (.int .i64 i))]) (fun i => [(0, some ⟨61, [bytC rb], 27, .wr⟩), (64, some ⟨5, [[nilV, nilV, int 0, int 0, int 0]], 40, .wr⟩), (448, some ⟨5, [[.os 65 1 i false, nilV, int holds, int 0, int 5000]], 40, .wr⟩), (65, some ⟨1, (mTo rb (br.length + 1) i).map encB, 51, .wr⟩)]) (fun i => i ≤ br.length + 1) (fun i => br.length + 1 - i) 0 (fun x => by simp (maxSteps := 1000000) -implicitDefEqProofs (disch := omega) only [go_sem]; rfl) ?_ ?_ fun x hx => ?_
 · simp only [mTo, List.range_zero, List.map_nil]
   exact weak_do3 [(65, 1000000)]
 · exact Nat.zero_le _
 revert x
 intro i hi
 by_cases hlt : i < br.length + 1
 · repeat' (first
     | (with_reducible apply Req_intro); focus (first | omega | assumption | (simp; done))
     | with_reducible (first | apply Req_intro | refine nilT ?_ fun hn => ?_ | apply wk_draw Try_mixed | refine drawEnd (by kernel_rfl) ?_)
     | (with_reducible (first | apply condA_if | apply stepDG_ifN | apply stepDG_if | apply stepG_ifN | apply stepG_if)) <;> intro hb <;> (have hif := hb) <;> (try simp only [bo] at hif) <;> (try simp -implicitDefEqProofs (disch := omega) only [go_sem, hb]) <;> clear hb
     | simp (maxSteps := 1000000) -implicitDefEqProofs (disch := omega) only [go_sem])
   all_goals first | (exfalso; omega) | omega | skip
   refine loop_rows (α := Nat) (26 :: [12, 13, 14, 27, 28, 29, 30, 31, 32, 33, 34, 35, 36, 37, 38, 39, 40, 41, 42, 43, 44, 45, 46, 47, 48, 49, 50, 51, 52, 53, 54, 55, 56, 57, 58, 59, 60, 61]) (fun k => [(12, .os 66 2 k false), (13, .lit (.int .i64 k))]) (fun k => [(0, some ⟨61, [bytC rb], 27, .wr⟩), (64, some ⟨5, [[nilV, nilV, int 0, int 0, int 0]], 40, .wr⟩), (448, some ⟨5, [[.os 65 1 i false, nilV, int holds, int 0, int 5000]], 40, .wr⟩), (65, some ⟨1, (mTo rb (br.length + 1) i).map encB, 51, .wr⟩), (66, some ⟨2, (rowM rb (br.length + 1) i k).map encS, 33, .wr⟩)]) (fun k => k ≤ br.length + 1) (fun k => br.length + 1 - k) 0 (fun x => by simp (maxSteps := 1000000) -implicitDefEqProofs (disch := omega) only [go_sem]; rfl) ?_ ?_ fun x hx => ?_
   · simp only [rowM, List.range_zero, List.map_nil]
     exact weak_do3 [(66, 896)]
   · exact Nat.zero_le _
   have hrm : (rowM rb (br.length + 1) i x).length = x := by simp [rowM]
   have hrx : (mTo rb (br.length + 1) i).length = i := mTo_len ..
   by_cases hlt2 : x < br.length + 1
   · have hb1 := hby (i * 7 + x)
     have hb2 := hby (x * 7 + i)
     repeat' (first
       | (with_reducible apply Req_intro); focus (first | omega | assumption | (simp; done))
       | with_reducible (first | apply Req_intro | refine nilT ?_ fun hn => ?_ | apply wk_draw Try_mixed | refine drawEnd (by kernel_rfl) ?_)
       | (with_reducible (first | apply condA_if | apply stepDG_ifN | apply stepDG_if | apply stepG_ifN | apply stepG_if)) <;> intro hb <;> (have hif := hb) <;> (try simp only [bo] at hif) <;> (try simp -implicitDefEqProofs (disch := omega) only [go_sem, hb, Nat.mul_one]) <;> clear hb
       | simp (maxSteps := 1000000) -implicitDefEqProofs (disch := omega) only [go_sem, Nat.mul_one])
     all_goals first | (exfalso; omega) | omega | skip
     · subst hif
       rw [show List.map encS (rowM rb (br.length + 1) i i) ++ [[V.lit (Value.int IntKind.i64 0), V.lit (Value.int IntKind.i64 0)]] = List.map encS (rowM rb (br.length + 1) i (i + 1)) from by rw [rowM_succ, List.map_append, cellM, if_pos rfl]; rfl]
       with_reducible refine nxt_w (i + 1) ?_ ?_
       · (try dsimp only)
         skip
         exact weak_do3 [(66, 2240)]
       try dsimp only
       omega
     · refine callp (oakSpan_spec _ _) ?_
       try simp (maxSteps := 1000000) -implicitDefEqProofs (disch := omega) only [go_sem]
       repeat' (first
         | (with_reducible apply Req_intro); focus (first | omega | assumption | (simp; done))
         | with_reducible (first | apply Req_intro | refine nilT ?_ fun hn => ?_ | apply wk_draw Try_mixed | refine drawEnd (by kernel_rfl) ?_)
         | (with_reducible (first | apply condA_if | apply stepDG_ifN | apply stepDG_if | apply stepG_ifN | apply stepG_if)) <;> intro hb <;> (have hif := hb) <;> (try simp only [bo] at hif) <;> (try simp -implicitDefEqProofs (disch := omega) only [go_sem, hb]) <;> clear hb
         | simp (maxSteps := 1000000) -implicitDefEqProofs (disch := omega) only [go_sem])
       all_goals first | (exfalso; omega) | omega | skip
       rw [show List.map encS (rowM rb (br.length + 1) i x) ++ [[V.lit (Value.int IntKind.i64 (rb.getD (i * 7 + x) 0 % 100)), V.lit (Value.int IntKind.i64 (rb.getD (i * 7 + x) 0 % 100 + rb.getD (x * 7 + i) 0 % 5))]] = List.map encS (rowM rb (br.length + 1) i (x + 1)) from by rw [rowM_succ, List.map_append, cellM, if_neg hif]; rfl]
       with_reducible refine nxt_w (x + 1) ?_ ?_
       · (try dsimp only)
         skip
         exact weak_do3 [(66, 2944)]
       try dsimp only
       omega
   · obtain rfl : x = br.length + 1 := by omega
     repeat' (first
       | (with_reducible apply Req_intro); focus (first | omega | assumption | (simp; done))
       | with_reducible (first | apply Req_intro | refine nilT ?_ fun hn => ?_ | apply wk_draw Try_mixed | refine drawEnd (by kernel_rfl) ?_)
       | (with_reducible (first | apply condA_if | apply stepDG_ifN | apply stepDG_if | apply stepG_ifN | apply stepG_if)) <;> intro hb <;> (have hif := hb) <;> (try simp only [bo] at hif) <;> (try simp -implicitDefEqProofs (disch := omega) only [go_sem, hb, List.length_range]) <;> clear hb
       | simp (maxSteps := 1000000) -implicitDefEqProofs (disch := omega) only [go_sem, List.length_range])
     all_goals first | (exfalso; omega) | omega | skip
     refine nxt_snapRow [66] 1536 (es' := (mTo rb (br.length + 1) (i + 1)).map encB) (by first | (simp only [go_sem]; done) | (simp only [go_sem]; rfl)) (by rfl) ?_ (by first | assumption | (simp only [go_sem] <;> assumption) | (simp only [go_sem, *]; done) | (simp [go_sem]; done)) (by first | (simp only [go_sem]; done) | (simp only [go_sem]; rfl)) ?_
     · rw [show (mTo rb (br.length + 1) (i + 1)).map encB = (mTo rb (br.length + 1) i).map encB ++ [encB (rowM rb (br.length + 1) i (br.length + 1))] from by rw [mTo_succ, List.map_append]; simp only [List.map_cons, List.map_nil]]
       refine PurE.snocR (by first | assumption | (simp only [go_sem] <;> assumption) | (simp only [go_sem, *]; done) | (simp [go_sem]; done)) ?_
       rw [show encB (rowM rb (br.length + 1) i (br.length + 1)) = [.sl 2 ((rowM rb (br.length + 1) i (br.length + 1)).map encS) false] from rfl]
       (try simp (maxSteps := 1000000) -implicitDefEqProofs (disch := omega) only [go_sem])
       repeat' (first
         | with_reducible (first | exact PurI.nil | exact Pur.nilsl _ _ | exact PurE.nil)
         | (with_reducible (first | refine PurI.puL ?_ | refine PurE.puE ?_)) <;> (first | assumption | (simp only [go_sem] <;> assumption) | (simp only [go_sem, *]; done) | (simp [go_sem]; done))
         | with_reducible apply PurI.cons
         | (with_reducible refine Pur.pu _ ?_) <;> (first | assumption | (simp only [go_sem] <;> assumption) | (simp only [go_sem, *]; done) | (simp [go_sem]; done))
         | ((with_reducible apply Pur.refR) <;> (first | rfl | decide | (simp only [go_sem]; omega) | (simp only [go_sem]) | skip))
         | ((with_reducible apply Pur.osR) <;> (first | rfl | exact fun h => h | omega | (simp; omega) | (simp; done) | (simp only [go_sem]) | skip))
         | with_reducible (first | apply Pur.fnI | apply Pur.aggI | apply PurE.cons)
         | (with_reducible refine PurI.eqL ?_ ?_); (focus rfl); (focus (first | assumption | (simp only [go_sem] <;> assumption) | (simp only [go_sem, *]; done) | (simp [go_sem]; done)))
         | simp (maxSteps := 1000000) -implicitDefEqProofs (disch := omega) only [go_sem])
     with_reducible refine nxt_w (i + 1) ?_ ?_
     · (try dsimp only)
       skip
       exact weak_do3 [(65, 1536)]
     try dsimp only
     omega
 · obtain rfl : i = br.length + 1 := by omega
   repeat' (first
     | (with_reducible apply Req_intro); focus (first | omega | assumption | (simp; done))
     | with_reducible (first | apply Req_intro | refine nilT ?_ fun hn => ?_ | apply wk_draw Try_mixed | refine drawEnd (by kernel_rfl) ?_)
     | (with_reducible (first | apply condA_if | apply stepDG_ifN | apply stepDG_if | apply stepG_ifN | apply stepG_if)) <;> intro hb <;> (have hif := hb) <;> (try simp only [bo] at hif) <;> (try simp -implicitDefEqProofs (disch := omega) only [go_sem, hb]) <;> clear hb
     | simp (maxSteps := 1000000) -implicitDefEqProofs (disch := omega) only [go_sem])
   all_goals first | (exfalso; omega) | omega | skip
   refine loop_rows (α := Nat) ([15, 68, 69, 70, 71, 72, 73, 74, 75, 76, 77, 78, 79, 80, 81, 82, 83, 84, 85, 86, 87, 88, 89, 90, 91, 92, 93, 94, 95, 96, 97, 98, 99, 100]) (fun i => [(15, .lit (.int .i64 i))]) (fun i => [(0, some ⟨61, [bytC rb], 27, .wr⟩), (64, some ⟨5, [[nilV, nilV, int 0, int 0, int 0]], 40, .wr⟩), (448, some ⟨5, [[.os 65 1 (br.length + 1) false, .os 67 5 i false, int holds, int 0, int 5000]], 40, .wr⟩), (65, some ⟨1, (mTo rb (br.length + 1) (br.length + 1)).map encB, 51, .wr⟩), (67, some ⟨5, (pTo rb br fe i).map encP, 101, .wr⟩)]) (fun i => i ≤ br.length) (fun i => br.length - i) 0 (fun x => by simp (maxSteps := 1000000) -implicitDefEqProofs (disch := omega) only [go_sem]; rfl) ?_ ?_ fun x hx => ?_
   · simp only [pTo, List.range_zero, List.map_nil]
     exact weak_do3 [(67, 1000000)]
   · exact Nat.zero_le _
   have hrx : (pTo rb br fe x).length = x := pTo_len ..
   by_cases hlt : x < br.length
   · have hb1 := hby (49 + x * 2)
     have hb2 := hby (49 + x * 2 + 1)
     repeat' (first
       | (with_reducible apply Req_intro); focus (first | omega | assumption | (simp; done))
       | with_reducible (first | apply Req_intro | refine nilT ?_ fun hn => ?_ | apply wk_draw Try_mixed | refine drawEnd (by kernel_rfl) ?_)
       | (with_reducible (first | apply condA_if | apply stepDG_ifN | apply stepDG_if | apply stepG_ifN | apply stepG_if)) <;> intro hb <;> (have hif := hb) <;> (try simp only [bo] at hif) <;> (try simp -implicitDefEqProofs (disch := omega) only [go_sem, hb, List.length_range]) <;> clear hb
       | simp (maxSteps := 1000000) -implicitDefEqProofs (disch := omega) only [go_sem, List.length_range])
     all_goals first | (exfalso; omega) | omega | skip
     rw [show (pTo rb br fe x).map encP ++ [[V.lit (Value.int IntKind.i64 (rb.getD (49 + x * 2) 0)), V.lit (Value.int IntKind.i64 5000), V.lit (Value.int IntKind.i64 (rb.getD (49 + x * 2 + 1) 0 % 60)), V.lit (Value.int IntKind.i64 (br.getD x default)), V.lit (Value.int IntKind.i64 (fe.getD x default))]] = (pTo rb br fe (x + 1)).map encP from by rw [pTo_succ, List.map_append]; simp only [List.map_cons, List.map_nil, encP, plM]]
     with_reducible refine nxt_w (x + 1) ?_ ?_
     · (try dsimp only)
       skip
       exact weak_do3 [(67, 2816)]
     try dsimp only
     omega
   · obtain rfl : x = br.length := by omega
     repeat' (first
       | (with_reducible apply Req_intro); focus (first | omega | assumption | (simp; done))
       | with_reducible (first | apply Req_intro | refine nilT ?_ fun hn => ?_ | apply wk_draw Try_mixed | refine drawEnd (by kernel_rfl) ?_)
       | (with_reducible (first | apply condA_if | apply stepDG_ifN | apply stepDG_if | apply stepG_ifN | apply stepG_if)) <;> intro hb <;> (have hif := hb) <;> (try simp only [bo] at hif) <;> (try simp -implicitDefEqProofs (disch := omega) only [go_sem, hb]) <;> clear hb
       | simp (maxSteps := 1000000) -implicitDefEqProofs (disch := omega) only [go_sem])
     all_goals first | (exfalso; omega) | omega | skip
     have hm1 := mTo_len rb (br.length + 1) (br.length + 1)
     simp only [taskR]
     exact retz [65, 67]
end Go.Aw
end
section
set_option maxRecDepth 20000
set_option maxHeartbeats 4000000
namespace Go.Aw
open Go.RowKit Go.Proofs
theorem mTo_get {rb : List Int} {n i j : Nat} (h : j < i) : (mTo rb n i).getD j default = rowM rb n j n := by
 rw [getD_default (by rw [mTo_len]; exact h)]; simp [mTo]
theorem rowM_len (rb : List Int) (n i k : Nat) : (rowM rb n i k).length = k := by simp [rowM]
theorem rowM_get {rb : List Int} {n i k j : Nat} (h : j < k) : (rowM rb n i k).getD j default = cellM rb i j := by
 rw [getD_default (by rw [rowM_len]; exact h)]; simp [rowM]
theorem pTo_get {rb br fe : List Int} {i j : Nat} (h : j < i) : (pTo rb br fe i).getD j default = plM rb br fe j := by
 rw [getD_default (by rw [pTo_len]; exact h)]; simp [pTo]
theorem taskR_n (rb br fe : List Int) (holds : Int) : (taskR rb br fe holds).ps.length = br.length := pTo_len ..
theorem taskR_ok {rb br fe : List Int} {holds : Int} (hr : Byt rb) (h6 : br.length ≤ 6) (hf : fe.length = br.length) (hb : ∀ x ∈ br, 0 ≤ x ∧ x ≤ 100) (hfe : ∀ x ∈ fe, 0 ≤ x ∧ x ≤ 100) (hh : 0 ≤ holds ∧ holds ≤ 1000) : TaskOk (taskR rb br fe holds) := by
 refine ⟨by rw [taskR_n]; omega, ?_, ?_, ?_, ?_, ?_, hh, ⟨Int.le_refl _, by show (0 : Int) ≤ 5000; decide⟩, by show (5000 : Int) ≤ 5000; decide⟩
 · rw [taskR_n]; exact mTo_len ..
 · intro r h
   obtain ⟨j, _, rfl⟩ := List.mem_map.1 (show r ∈ (List.range (br.length + 1)).map fun j => rowM rb (br.length + 1) j (br.length + 1) from h)
   rw [taskR_n, rowM_len]
 · intro r h s hs
   obtain ⟨j, _, rfl⟩ := List.mem_map.1 (show r ∈ (List.range (br.length + 1)).map fun j => rowM rb (br.length + 1) j (br.length + 1) from h)
   obtain ⟨k, _, rfl⟩ := List.mem_map.1 (show s ∈ (List.range (br.length + 1)).map (cellM rb j) from hs)
   have h1 := hr.b (j * 7 + k)
   have h2 := hr.b (k * 7 + j)
   unfold cellM lowR
   split
   · simp
   · simp only; omega
 · intro i hi
   rw [taskR_n] at hi
   show ((mTo rb (br.length + 1) (br.length + 1)).getD i default).getD i default = (0, 0)
   rw [mTo_get hi, rowM_get hi, cellM, if_pos rfl]
 · intro p h
   obtain ⟨j, hj, rfl⟩ := List.mem_map.1 (show p ∈ (List.range br.length).map (plM rb br fe) from h)
   rw [List.mem_range] at hj
   have h1 := hr.b (49 + j * 2)
   have h2 := hr.b (49 + j * 2 + 1)
   have h3 := hb _ (getD_mem hj)
   have h4 := hfe _ (getD_mem (l := fe) (i := j) (by omega))
   exact ⟨by simp only [plM]; omega, by simp [plM], by simp only [plM]; omega, h3, h4⟩
def kT : Task := ⟨[[(0, 0), (10, 15)], [(10, 15), (0, 0)]], [⟨0, 60, 5, 3, 2⟩], 6, 0, 80⟩
theorem kT_ok : TaskOk kT := by
 refine ⟨by decide, by decide, by decide, by decide, ?_, ?_, by decide, by decide, by decide⟩
 · intro i hi
   have : i = 0 ∨ i = 1 := by simp [kT] at hi; omega
   rcases this with rfl | rfl <;> rfl
 · intro p hp
   simp only [kT, List.mem_singleton] at hp
   subst hp
   exact ⟨by decide, by decide, by decide, by decide, by decide⟩
theorem kT_ord : OrdOk kT.ps.length [1] := ⟨by decide, by decide⟩
theorem kT_times : (roads kT [1]).map Leg.comes = [(10, 15), (25, 35)] := by decide +kernel
theorem k_Times : Ct Try.prog 35 [encT kT, .sl 1 (([1] : List Int).map encI) true] (.tup [.sl 2 (([(10, 15), (25, 35)] : List (Int × Int)).map encS) false, int 0]) := by
 have := Times_spec kT kT_ok [1] true kT_ord
 rwa [kT_times] at this
theorem oakKnown10_spec : Ct Try.prog 12 [] (.lit (.bool true)) := by
 refine fn_enter Try.func12 rfl (by decide) Try.results12 Try.ntmps12 ?_ rfl (by simp (maxSteps := 1000000) -implicitDefEqProofs (disch := omega) only [go_sem]; rfl) fun base => ?_
 · first | assumption | (simp only [go_sem] <;> assumption) | (simp only [go_sem, *]; done) | (simp [go_sem]; done)
 repeat' (first
   | (with_reducible apply Req_intro); focus (first | omega | assumption | (simp; done))
   | with_reducible (first | apply Req_intro | refine nilT ?_ fun hn => ?_ | apply wk_draw Try_mixed | refine drawEnd (by kernel_rfl) ?_)
   | (with_reducible (first | apply condA_if | apply stepDG_ifN | apply stepDG_if | apply stepG_ifN | apply stepG_if)) <;> intro hb <;> (have hif := hb) <;> (try simp only [bo] at hif) <;> (try simp -implicitDefEqProofs (disch := omega) only [go_sem, hb]) <;> clear hb
   | simp (maxSteps := 1000000) -implicitDefEqProofs (disch := omega) only [go_sem])
 refine callp (oakSpan_spec 10 15) ?_
 try simp (maxSteps := 1000000) -implicitDefEqProofs (disch := omega) only [go_sem]
 repeat' (first
   | (with_reducible apply Req_intro); focus (first | omega | assumption | (simp; done))
   | with_reducible (first | apply Req_intro | refine nilT ?_ fun hn => ?_ | apply wk_draw Try_mixed | refine drawEnd (by kernel_rfl) ?_)
   | (with_reducible (first | apply condA_if | apply stepDG_ifN | apply stepDG_if | apply stepG_ifN | apply stepG_if)) <;> intro hb <;> (have hif := hb) <;> (try simp only [bo] at hif) <;> (try simp -implicitDefEqProofs (disch := omega) only [go_sem, hb]) <;> clear hb
   | simp (maxSteps := 1000000) -implicitDefEqProofs (disch := omega) only [go_sem])
 refine callp (oakSpan_spec 10 15) ?_
 try simp (maxSteps := 1000000) -implicitDefEqProofs (disch := omega) only [go_sem]
 repeat' (first
   | (with_reducible apply Req_intro); focus (first | omega | assumption | (simp; done))
   | with_reducible (first | apply Req_intro | refine nilT ?_ fun hn => ?_ | apply wk_draw Try_mixed | refine drawEnd (by kernel_rfl) ?_)
   | (with_reducible (first | apply condA_if | apply stepDG_ifN | apply stepDG_if | apply stepG_ifN | apply stepG_if)) <;> intro hb <;> (have hif := hb) <;> (try simp only [bo] at hif) <;> (try simp -implicitDefEqProofs (disch := omega) only [go_sem, hb]) <;> clear hb
   | simp (maxSteps := 1000000) -implicitDefEqProofs (disch := omega) only [go_sem])
 refine callf [192, 384, 448, 576, 896] k_Times ?_ (hp := ?_)
 rotate_left
 · simp only [encT, cellT, kT, encB, encS, encP, encI, List.map_cons, List.map_nil]
   (try simp (maxSteps := 1000000) -implicitDefEqProofs (disch := omega) only [go_sem])
   repeat' (first
     | with_reducible (first | exact PurI.nil | exact Pur.nilsl _ _ | exact PurE.nil)
     | (with_reducible (first | refine PurI.puL ?_ | refine PurE.puE ?_)) <;> (first | assumption | (simp only [go_sem] <;> assumption) | (simp only [go_sem, *]; done) | (simp [go_sem]; done))
     | with_reducible apply PurI.cons
     | (with_reducible refine Pur.pu _ ?_) <;> (first | assumption | (simp only [go_sem] <;> assumption) | (simp only [go_sem, *]; done) | (simp [go_sem]; done))
     | ((with_reducible apply Pur.refR) <;> (first | rfl | decide | (simp only [go_sem]; omega) | (simp only [go_sem]) | skip))
     | ((with_reducible apply Pur.osR) <;> (first | rfl | exact fun h => h | omega | (simp; omega) | (simp; done) | (simp only [go_sem]) | skip))
     | with_reducible (first | apply Pur.fnI | apply Pur.aggI | apply PurE.cons)
     | (with_reducible refine PurI.eqL ?_ ?_); (focus rfl); (focus (first | assumption | (simp only [go_sem] <;> assumption) | (simp only [go_sem, *]; done) | (simp [go_sem]; done)))
     | simp (maxSteps := 1000000) -implicitDefEqProofs (disch := omega) only [go_sem])
 try simp (maxSteps := 1000000) -implicitDefEqProofs (disch := omega) only [go_sem]
 repeat' (first
   | (with_reducible apply Req_intro); focus (first | omega | assumption | (simp; done))
   | with_reducible (first | apply Req_intro | refine nilT ?_ fun hn => ?_ | apply wk_draw Try_mixed | refine drawEnd (by kernel_rfl) ?_)
   | (with_reducible (first | apply condA_if | apply stepDG_ifN | apply stepDG_if | apply stepG_ifN | apply stepG_if)) <;> intro hb <;> (have hif := hb) <;> (try simp only [bo] at hif) <;> (try simp -implicitDefEqProofs (disch := omega) only [go_sem, hb]) <;> clear hb
   | simp (maxSteps := 1000000) -implicitDefEqProofs (disch := omega) only [go_sem])
 refine calld (oakSpan_spec 10 15) ?_
 try simp (maxSteps := 1000000) -implicitDefEqProofs (disch := omega) only [go_sem]
 repeat' (first
   | (with_reducible apply Req_intro); focus (first | omega | assumption | (simp; done))
   | with_reducible (first | apply Req_intro | refine nilT ?_ fun hn => ?_ | apply wk_draw Try_mixed | refine drawEnd (by kernel_rfl) ?_)
   | (with_reducible (first | apply condA_if | apply stepDG_ifN | apply stepDG_if | apply stepG_ifN | apply stepG_if)) <;> intro hb <;> (have hif := hb) <;> (try simp only [bo] at hif) <;> (try simp -implicitDefEqProofs (disch := omega) only [go_sem, hb]) <;> clear hb
   | simp (maxSteps := 1000000) -implicitDefEqProofs (disch := omega) only [go_sem])
 refine calld (oakSpan_spec 25 35) ?_
 try simp (maxSteps := 1000000) -implicitDefEqProofs (disch := omega) only [go_sem]
 repeat' (first
   | (with_reducible apply Req_intro); focus (first | omega | assumption | (simp; done))
   | with_reducible (first | apply Req_intro | refine nilT ?_ fun hn => ?_ | apply wk_draw Try_mixed | refine drawEnd (by kernel_rfl) ?_)
   | (with_reducible (first | apply condA_if | apply stepDG_ifN | apply stepDG_if | apply stepG_ifN | apply stepG_if)) <;> intro hb <;> (have hif := hb) <;> (try simp only [bo] at hif) <;> (try simp -implicitDefEqProofs (disch := omega) only [go_sem, hb]) <;> clear hb
   | simp (maxSteps := 1000000) -implicitDefEqProofs (disch := omega) only [go_sem])
 all_goals first | (exfalso; omega) | skip
 refine ret_do ?_
 rfl
end Go.Aw
end
section
namespace Go.Aw
open Go.RowKit
theorem rfW_mem {bs : List Box} {cs : List Bill} {set : Nat} : ∀ (r : Nat) (now w : List Int), now <+: w → w.length = now.length + r → InC cs.length w → wayR bs cs w set = true → w ∈ refW bs cs set r now
 | 0, now, w, hp, hl, hi, hw => by
   obtain rfl : now = w := hp.eq_of_length (by omega)
   rw [refW, hw, if_pos rfl]; exact List.mem_singleton.2 rfl
 | r + 1, now, w, hp, hl, hi, hw => by
   have hlt : now.length < w.length := by omega
   have hm := hi _ (getD_mem (l := w) (i := now.length) hlt)
   obtain ⟨c, hc⟩ : ∃ c : Nat, w.getD now.length default = c := ⟨(w.getD now.length default).toNat, by omega⟩
   rw [hc] at hm
   rw [refW, List.mem_flatMap]
   refine ⟨c, List.mem_range.2 (by omega), rfW_mem r _ w ?_ (by rw [List.length_append]; simp; omega) hi hw⟩
   obtain ⟨t, rfl⟩ := hp
   cases t with
   | nil => simp at hlt
   | cons a t =>
     have : a = (c : Int) := by
       rw [← hc]; simp
     subst this
     exact ⟨t, by simp⟩
theorem rfW_in {bs : List Box} {cs : List Bill} : ∀ (r : Nat) (now w : List Int), w ∈ refW bs cs 0 r now → InC cs.length now → now <+: w ∧ w.length = now.length + r ∧ InC cs.length w ∧ wayR bs cs w 0 = true
 | 0, now, w, h, hi => by
   rw [refW] at h
   split at h
   · rename_i hy
     obtain rfl := List.mem_singleton.1 h
     exact ⟨List.prefix_refl _, rfl, hi, hy⟩
   · cases h
 | r + 1, now, w, h, hi => by
   rw [refW, List.mem_flatMap] at h
   obtain ⟨c, hc, h⟩ := h
   obtain ⟨h1, h2, h3, h4⟩ := rfW_in r _ w h (hi.snoc (List.mem_range.1 hc))
   refine ⟨(List.prefix_append _ _).trans h1, ?_, h3, h4⟩
   rw [h2, List.length_append]; simp; omega
theorem allW_iffR {bs : List Box} {cs : List Bill} (hp : Pos bs cs) (w : List Int) : w ∈ allW bs cs ↔ w.length = bs.length ∧ InC cs.length w ∧ wayR bs cs w 0 = true := by
 rw [allW_refW hp]
 constructor
 · intro h
   have := rfW_in _ _ w h (fun x hx => by cases hx)
   exact ⟨by simpa using this.2.1, this.2.2⟩
 · rintro ⟨h1, h2, h3⟩
   exact rfW_mem _ [] w List.nil_prefix (by simpa using h1) h2 h3
def sumK (d w : List Int) (c : Int) : Nat → Int
 | 0 => 0
 | i + 1 => if w.getD i default = c then sumK d w c i + d.getD i default else sumK d w c i
def sharpB (d : List Int) : List Box := d.map fun x => [(x, x)]
def billK (d w : List Int) (c : Int) : Bill := (cntTo w c d.length, [(sumK d w c d.length, sumK d w c d.length)])
def sharpC (d w : List Int) : List Bill := [billK d w 0, billK d w 1]
theorem sharpB_len (d : List Int) : (sharpB d).length = d.length := by simp [sharpB]
theorem sharpB_get {d : List Int} {i : Nat} (h : i < d.length) : (sharpB d).getD i default = [(d.getD i default, d.getD i default)] := by
 rw [getD_default (by rw [sharpB_len]; exact h), getD_default h]
 simp [sharpB]
theorem sumR_sharp {d : List Int} (v : List Int) (c : Int) : ∀ i, i ≤ d.length → sumR (sharpB d) v c 0 0 i = (sumK d v c i, sumK d v c i)
 | 0, _ => rfl
 | i + 1, h => by
   rw [sumR, sumK, sumR_sharp v c i (by omega), sharpB_get (by omega)]
   split
   · rw [if_neg (by simp)]; rfl
   · rfl
theorem sumK_bd {d : List Int} (hd : ∀ x ∈ d, 0 ≤ x ∧ x ≤ 100) (v : List Int) (c : Int) : ∀ i : Nat, i ≤ d.length → 0 ≤ sumK d v c i ∧ sumK d v c i ≤ 100 * i
 | 0, _ => by simp [sumK]
 | i + 1, h => by
   have h1 := sumK_bd hd v c i (by omega)
   have h2 := hd _ (getD_mem (l := d) (i := i) (by omega))
   rw [sumK]
   split <;> omega
theorem k2 {c : Nat} (h : c < 2) : c = 0 ∨ c = 1 := by omega
theorem sharpC_get {d w : List Int} {c : Nat} (h : c < 2) : (sharpC d w).getD c default = billK d w c := by
 rcases k2 h with rfl | rfl <;> rfl
theorem carr_sharp {d w v : List Int} (hv : v.length = d.length) {c : Nat} (hc : c < 2) : carrOk (sharpB d) (sharpC d w) v 0 c = (cntTo v c d.length == cntTo w c d.length && decide (sumK d v c d.length = sumK d w c d.length)) := by
 unfold carrOk
 rw [sharpC_get hc, hv]
 congr 1
 simp only [billK, List.length_cons, List.length_nil, List.range_succ, List.range_zero, List.nil_append, List.all_cons, List.all_nil, Bool.and_true]
 unfold stuffOk
 rw [hv, sumR_sharp v c _ (Nat.le_refl _), sharpC_get hc]
 simp only [billK, List.getD_cons_zero]
 rw [Bool.eq_iff_iff, decide_eq_true_eq, decide_eq_true_eq]
 omega
theorem way_sharp {d w v : List Int} (hv : v.length = d.length) : wayR (sharpB d) (sharpC d w) v 0 = true ↔ ∀ c : Nat, c < 2 → cntTo v c d.length = cntTo w c d.length ∧ sumK d v c d.length = sumK d w c d.length := by
 unfold wayR
 rw [List.all_eq_true]
 constructor
 · intro h c hc
   have := h c (List.mem_range.2 hc)
   rw [carr_sharp hv hc, Bool.and_eq_true, beq_iff_eq, decide_eq_true_eq] at this
   exact this
 · intro h c hc
   have hc := List.mem_range.1 hc
   rw [carr_sharp hv hc, Bool.and_eq_true, beq_iff_eq, decide_eq_true_eq]
   exact h c hc
theorem check_sharp {d w : List Int} (hd : ∀ x ∈ d, 0 ≤ x ∧ x ≤ 100) (h8 : d.length ≤ 8) : checkR (sharpB d) (sharpC d w) = 0 := by
 have hb := fun c => sumK_bd hd w c _ (Nat.le_refl d.length)
 have hk := fun c => cntTo_bnd w c d.length
 have e : ∀ (m : Int) (x : Int), (0 ≤ x ∧ x ≤ m) → spanOk m (x, x) = true := fun m s h => by
   simp only [spanOk, inR', Bool.and_eq_true, decide_eq_true_eq]; omega
 have q5 : stuffs (sharpC d w) = 1 := rfl
 have q1 : (sharpB d).any (fun h => !h.all (spanOk 1000)) = false := by
   rw [List.any_eq_false]
   intro x hx
   obtain ⟨y, hy, rfl⟩ := List.mem_map.1 hx
   have := hd y hy
   simp only [List.all_cons, List.all_nil]
   rw [e _ _ (by omega)]; simp
 have q2 : (sharpC d w).any (fun b => !b.2.all (spanOk 10000) || !inR' 0 8 b.1) = false := by
   have h0 := hb 0
   have h1 := hb 1
   have n0 := hk 0
   have n1 := hk 1
   simp only [sharpC, billK, List.any_cons, List.any_nil, List.all_cons, List.all_nil]
   rw [e _ _ (by omega), e _ _ (by omega)]
   simp only [inR', Bool.and_true, Bool.not_true, Bool.false_or, Bool.or_false]
   rw [decide_eq_true (by omega), decide_eq_true (by omega), decide_eq_true (by omega), decide_eq_true (by omega)]
   rfl
 have q3 : (sharpB d).any (fun h => (h.length : Int) != (stuffs (sharpC d w) : Int)) = false := by
   rw [q5, List.any_eq_false]
   intro x hx
   obtain ⟨y, hy, rfl⟩ := List.mem_map.1 hx
   simp
 have q4 : (sharpC d w).any (fun b => (b.2.length : Int) != (stuffs (sharpC d w) : Int)) = false := by
   rw [q5]; simp [sharpC, billK]
 rw [checkR, if_neg (by rw [sharpB_len]; simp [sharpC]; omega), if_neg (by simp [sharpC]), if_neg (by rw [q5]; decide), if_neg (by rw [q3]; decide), if_neg (by rw [q4]; decide), if_neg (by rw [q1]; decide), if_neg (by rw [q2]; decide)]
section
variable {d w : List Int} (hd : ∀ x ∈ d, 0 ≤ x ∧ x ≤ 100) (h8 : d.length ≤ 8) (hl : w.length = d.length) (hw : InC 2 w)
include hd h8
theorem pos_sharp : Pos (sharpB d) (sharpC d w) := (good_of_check (check_sharp hd h8)).pos
theorem all_sharp (v : List Int) : v ∈ allW (sharpB d) (sharpC d w) ↔ v.length = d.length ∧ InC 2 v ∧ ∀ c : Nat, c < 2 → cntTo v c d.length = cntTo w c d.length ∧ sumK d v c d.length = sumK d w c d.length := by
 rw [allW_iffR (pos_sharp hd h8), sharpB_len]
 constructor
 · rintro ⟨h1, h2, h3⟩
   exact ⟨h1, h2, (way_sharp h1).1 h3⟩
 · rintro ⟨h1, h2, h3⟩
   exact ⟨h1, h2, (way_sharp h1).2 h3⟩
include hl hw
theorem ne_sharp : allW (sharpB d) (sharpC d w) ≠ [] := by
 have : w ∈ allW (sharpB d) (sharpC d w) := (all_sharp hd h8 w).2 ⟨hl, hw, fun c _ => ⟨rfl, rfl⟩⟩
 exact List.ne_nil_of_mem this
theorem first_sharp : (allW (sharpB d) (sharpC d w)).getD 0 default ∈ allW (sharpB d) (sharpC d w) :=
 getD_mem (List.length_pos_iff.2 (ne_sharp hd h8 hl hw))
omit hl hw
theorem shareW_sharp {v : List Int} (hv : v ∈ allW (sharpB d) (sharpC d w)) {c : Nat} (hc : c < 2) : shareW (sharpB d) (sharpC d w) c 0 v = (sumK d w c d.length, sumK d w c d.length) := by
 obtain ⟨h1, h2, h3⟩ := (all_sharp hd h8 v).1 hv
 have hp := pos_sharp (w := w) hd h8
 have e := cartTo_get (bs := sharpB d) v c 0 (fun b hb => by obtain ⟨y, _, rfl⟩ := List.mem_map.1 hb; simp) (fun b hb => by obtain ⟨y, _, rfl⟩ := List.mem_map.1 hb; simp) d.length (by rw [sharpB_len]; exact Nat.le_refl _)
 unfold shareW
 rw [sharpB_len, e, sumR_sharp v c _ (Nat.le_refl _), sharpC_get hc, (h3 c hc).2]
 simp [billK]
theorem shareTo_sharp {c : Nat} (hc : c < 2) {ws : List (List Int)} (hws : ∀ v ∈ ws, v ∈ allW (sharpB d) (sharpC d w)) : ∀ n, n < ws.length → shareTo (sharpB d) (sharpC d w) c 0 ws (n + 1) = (sumK d w c d.length, sumK d w c d.length)
 | 0, h => by
   rw [shareTo, if_neg (by omega), shareW_sharp hd h8 (hws _ (getD_mem h)) hc]
 | n + 1, h => by
   rw [shareTo, if_pos (by omega), shareTo_sharp hc hws n (by omega), shareW_sharp hd h8 (hws _ (getD_mem h)) hc]
   simp
end
theorem cntTo_count (w : List Int) (c : Int) : ∀ i, i ≤ w.length → cntTo w c i = (((w.take i).count c : Nat) : Int)
 | 0, _ => rfl
 | i + 1, h => by
   rw [cntTo, cntTo_count w c i (by omega), take_succ_getD (by omega), List.count_append, List.count_singleton]
   by_cases e : w.getD i default = c
   · rw [if_pos e, if_pos (beq_iff_eq.2 e)]; push_cast; rfl
   · rw [if_neg e, if_neg (by rw [beq_iff_eq]; exact e)]; simp
def cartL (w : List Int) (c : Int) : Nat → List Int
 | 0 => []
 | i + 1 => if w.getD i default = c then cartL w c i ++ [(i : Int) + 1] else cartL w c i
theorem cartL_len (w : List Int) (c : Int) : ∀ i, ((cartL w c i).length : Int) = cntTo w c i
 | 0 => rfl
 | i + 1 => by
   rw [cartL, cntTo]
   split
   · rw [List.length_append, ← cartL_len w c i]; push_cast; rfl
   · exact cartL_len w c i
theorem cartL_le (w : List Int) (c : Int) (i : Nat) : (cartL w c i).length ≤ i := by
 have h1 := cartL_len w c i
 have h2 := cntTo_bnd w c i
 omega
theorem cartL_rg (w : List Int) (c : Int) : ∀ i, ∀ x ∈ cartL w c i, 1 ≤ x ∧ x ≤ i
 | 0, x, h => by cases h
 | i + 1, x, h => by
   rw [cartL] at h
   split at h
   · rcases List.mem_append.1 h with h | h
     · have := cartL_rg w c i x h; omega
     · rw [List.mem_singleton] at h; omega
   · have := cartL_rg w c i x h; omega
theorem cartL_nd (w : List Int) (c : Int) : ∀ i, (cartL w c i).Nodup
 | 0 => List.nodup_nil
 | i + 1 => by
   rw [cartL]
   split
   · rw [List.nodup_append]
     refine ⟨cartL_nd w c i, by simp, fun a ha b hb => ?_⟩
     have := cartL_rg w c i a ha
     rw [List.mem_singleton] at hb
     omega
   · exact cartL_nd w c i
theorem cartL_ord (w : List Int) (c : Int) (n : Nat) : OrdOk n (cartL w c n) := ⟨cartL_nd w c n, fun x h => cartL_rg w c n x h⟩
theorem rotR_perm (l : List Int) (f : Nat) : (rotR l f).Perm l := by
 rcases Nat.eq_zero_or_pos l.length with h0 | h0
 · obtain rfl := List.eq_nil_of_length_eq_zero h0
   exact .refl _
 have hk : f % l.length < l.length := Nat.mod_lt _ h0
 have e : rotR l f = l.drop (f % l.length) ++ l.take (f % l.length) := by
   refine List.ext_getElem (by rw [rotR_len, List.length_append, List.length_drop, List.length_take]; omega) fun i h1 h2 => ?_
   have hi : i < l.length := by rw [rotR_len] at h1; exact h1
   have e1 : (rotR l f)[i] = l.getD ((i + f) % l.length) default := by simp [rotR]
   rw [e1, getD_default (Nat.mod_lt _ h0), List.getElem_append]
   have e2 : (i + f) % l.length = (i + f % l.length) % l.length := by rw [Nat.add_mod, Nat.add_mod i (f % l.length), Nat.mod_mod]
   split
   · rename_i h3
     rw [List.length_drop] at h3
     rw [List.getElem_drop]
     congr 1
     rw [e2, Nat.mod_eq_of_lt (by omega)]; omega
   · rename_i h3
     rw [List.length_drop] at h3
     rw [List.getElem_take]
     congr 1
     rw [e2, List.length_drop, Nat.mod_eq_sub_mod (by omega), Nat.mod_eq_of_lt (by omega)]; omega
 rw [e]
 exact List.perm_append_comm.trans (by rw [List.take_append_drop])
theorem OrdOk.rot {n : Nat} {l : List Int} (h : OrdOk n l) (f : Nat) : OrdOk n (rotR l f) :=
 ⟨(rotR_perm l f).nodup_iff.2 h.nd, fun x hx => h.rg x ((rotR_perm l f).mem_iff.1 hx)⟩
theorem legsR_last (t : Task) : ∀ (l : List Int) (i f c : Int) (s : Int × Int), ((legsR t l i f c s).map Leg.load).getD l.length default = c + (l.map fun p => (pAt t p).fetched - (pAt t p).brought).sum
 | [], i, f, c, s => by simp [legsR]
 | p :: r, i, f, c, s => by
   rw [legsR, List.map_cons, List.length_cons, List.getD_cons_succ, legsR_last t r, List.map_cons, List.sum_cons]
   omega
theorem sum_perm {l m : List Int} (h : l.Perm m) : l.sum = m.sum := by
 induction h with
 | nil => rfl
 | cons x _ ih => rw [List.sum_cons, List.sum_cons, ih]
 | swap x y l => simp only [List.sum_cons]; omega
 | trans _ _ h1 h2 => rw [h1, h2]
theorem cartL_sum (d w : List Int) (c : Int) : ∀ i, ((cartL w c i).map fun p => d.getD (p - 1).toNat default).sum = sumK d w c i
 | 0 => rfl
 | i + 1 => by
   rw [cartL, sumK]
   split
   · rw [List.map_append, List.sum_append, cartL_sum d w c i]
     simp only [List.map_cons, List.map_nil, List.sum_cons, List.sum_nil]
     rw [show ((i : Int) + 1 - 1).toNat = i from by omega]
     omega
   · exact cartL_sum d w c i
theorem pAt_task {rb br fe : List Int} {holds : Int} {p : Int} (h : 1 ≤ p ∧ p ≤ br.length) : pAt (taskR rb br fe holds) p = plM rb br fe (p - 1).toNat := pTo_get (by omega)
theorem rep_zero (n i : Nat) : (List.replicate n (0 : Int)).getD i default = 0 := by
 rw [List.getD_eq_getElem?_getD, List.getElem?_replicate]
 split <;> rfl
theorem last_load {rb d : List Int} {n : Nat} {holds : Int} (hn : d.length = n) {o : List Int} (ho : OrdOk n o) : ((roads (taskR rb (List.replicate n 0) d holds) o).map Leg.load).getD o.length default = (o.map fun p => d.getD (p - 1).toNat default).sum := by
 have e : ∀ p ∈ o, pAt (taskR rb (List.replicate n 0) d holds) p = plM rb (List.replicate n 0) d (p - 1).toNat := fun p hp => pAt_task (by rw [List.length_replicate]; exact ho.rg p hp)
 rw [roads, legsR_last]
 have e1 : sumBr (taskR rb (List.replicate n 0) d holds) o = 0 := by
   unfold sumBr
   rw [List.map_congr_left (g := fun _ => (0 : Int)) (fun p hp => by rw [e p hp]; exact rep_zero _ _)]
   rw [List.map_const']
   simp
 rw [e1, Int.zero_add]
 congr 1
 refine List.map_congr_left fun p hp => ?_
 rw [e p hp]
 show d.getD (p - 1).toNat default - (List.replicate n (0 : Int)).getD (p - 1).toNat default = _
 rw [rep_zero]; omega
theorem last_cart {rb d w : List Int} {n : Nat} {holds : Int} (hn : d.length = n) (c : Int) (f : Nat) : ((roads (taskR rb (List.replicate n 0) d holds) (rotR (cartL w c n) f)).map Leg.load).getD (cartL w c n).length default = sumK d w c n := by
 have h := last_load (rb := rb) (holds := holds) hn ((cartL_ord w c n).rot f)
 rw [rotR_len] at h
 rw [h, sum_perm ((rotR_perm (cartL w c n) f).map _), cartL_sum]
end Go.Aw
end
