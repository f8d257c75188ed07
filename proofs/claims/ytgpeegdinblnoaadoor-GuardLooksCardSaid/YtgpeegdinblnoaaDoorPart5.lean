/-
  A part of the proof that a law returns true for every input that the given row speaks of: an own verified walk over the program (namespace Go.Aw), contracts of the functions that the law calls, and the law itself. Conditions: those of the given row, no other.
-/
import Derived.Test.YtgpeegdinblnoaaDoorPart4
set_option linter.unusedVariables false
set_option linter.unusedSimpArgs false
set_option maxHeartbeats 4000000
set_option maxRecDepth 20000
section
namespace Go.Aw
open Go.RowKit Go.Proofs
@[go_sem] theorem map_set_U0 (l : List Nat) (i : Nat) : (l.map encU).set i [.lit (.int .u64 0)] = (l.set i 0).map encU := map_set_U l i 0
theorem shr_nat (x : Nat) {i : Nat} (hi : i < 64) : (x : Int).fdiv (2 ^ min i 64) = ((x / 2 ^ i : Nat) : Int) := by
 rw [Nat.min_eq_left (by omega), Int.fdiv_eq_ediv_of_nonneg _ (Int.pow_nonneg (by decide)), Int.natCast_ediv, Int.natCast_pow]
 rfl
theorem shr_bit (x : Nat) {i : Nat} (hx : x < 512) : ibits .and .u64 ((x / 2 ^ i : Nat) : Int) 1 = if x.testBit i then 1 else 0 := by
 have h1 : x / 2 ^ i ≤ x := Nat.div_le_self _ _
 have h := ib_and (x / 2 ^ i) 1 (by omega) (by omega)
 rw [show (((1 : Nat) : Int)) = 1 from rfl] at h
 rw [h, Nat.and_one_is_mod, Nat.testBit_eq_decide_div_mod_eq]
 have h2 : x / 2 ^ i % 2 < 2 := Nat.mod_lt _ (by decide)
 by_cases h3 : x / 2 ^ i % 2 = 1
 · rw [decide_eq_true h3, h3]; rfl
 · rw [decide_eq_false h3, show x / 2 ^ i % 2 = 0 by omega]; rfl
theorem Clone_uint (t : List Nat) (e : Bool) (hl : t.length ≤ 8) (h0 : t ≠ []) : OneNew Tryd.prog 84 [.sl 1 (t.map encU) e] 320 1 t.length ⟨1, t.map encU, 112, .wr⟩ 448 := by
 refine ⟨[(192, some ⟨1, [], 112, .wr⟩), (320, some ⟨1, t.map encU, 112, .wr⟩)], ?_, rfl⟩
 refine callH_enter Tryd.func84 rfl Tryd.results84 Tryd.ntmps84 rfl (by simp (maxSteps := 1000000) -implicitDefEqProofs (disch := omega) only [go_sem]; rfl) fun base => ?_
 repeat' (first
   | (with_reducible apply Req_intro); focus (first | omega | assumption | (simp; done))
   | with_reducible (first | apply Req_intro | refine nilT ?_ fun hn => ?_ | apply wk_draw Tryd_mixed | refine drawEnd (by kernel_rfl) ?_)
   | (with_reducible (first | apply condA_if | apply stepDG_ifN | apply stepDG_if | apply stepG_ifN | apply stepG_if)) <;> intro hb <;> (have hif := hb) <;> (try simp only [bo] at hif) <;> (try simp -implicitDefEqProofs (disch := omega) only [go_sem, hb]) <;> clear hb
   | simp (maxSteps := 1000000) -implicitDefEqProofs (disch := omega) only [go_sem])
 all_goals first | (exfalso; omega) | (exfalso; exact h0 (List.map_eq_nil_iff.1 ‹_›)) | omega | skip
 refine ret_do ?_
 exact ⟨rfl, rfl, rfl⟩
theorem Clone_none (e : Bool) : Ct Tryd.prog 84 [.sl 1 (([] : List Nat).map encU) e] (.sl 1 [] false) := by
 refine fn_enter Tryd.func84 rfl (by decide) Tryd.results84 Tryd.ntmps84 ?_ rfl (by simp (maxSteps := 1000000) -implicitDefEqProofs (disch := omega) only [go_sem]; rfl) fun base => ?_
 · first | assumption | (simp only [go_sem] <;> assumption) | (simp only [go_sem, *]; done) | (simp [go_sem]; done)
 repeat' (first
   | (with_reducible apply Req_intro); focus (first | omega | assumption | (simp; done))
   | with_reducible (first | apply Req_intro | refine nilT ?_ fun hn => ?_ | apply wk_draw Tryd_mixed | refine drawEnd (by kernel_rfl) ?_)
   | (with_reducible (first | apply condA_if | apply stepDG_ifN | apply stepDG_if | apply stepG_ifN | apply stepG_if)) <;> intro hb <;> (have hif := hb) <;> (try simp only [bo] at hif) <;> (try simp -implicitDefEqProofs (disch := omega) only [go_sem, hb]) <;> clear hb
   | simp (maxSteps := 1000000) -implicitDefEqProofs (disch := omega) only [go_sem])
 all_goals first | (exfalso; omega) | omega | skip
 · exact retf [320] [2] [.sl 1 [] false]
 · exact retf [] [2] [.sl 1 [] false]
theorem withoutR_len (t : List Nat) (l r : Nat) : (withoutR t l r).length = t.length := by simp [withoutR]
theorem withoutR_get {t : List Nat} {l r i : Nat} (h : i < t.length) : (withoutR t l r).getD i default = if l.testBit i then 0 else ndiff (t.getD i default) r := by
 rw [getD_default (by rw [withoutR_len]; exact h), getD_default h]; simp [withoutR]
def mixTo (t T : List Nat) (i : Nat) : List Nat := T.take i ++ t.drop i
theorem mixTo_len {t T : List Nat} {i : Nat} (h : T.length = t.length) : (mixTo t T i).length = t.length := by rw [mixTo, List.length_append, List.length_take, List.length_drop]; omega
theorem mixTo_get {t T : List Nat} {i : Nat} (h : T.length = t.length) (hi : i < t.length) : (mixTo t T i).getD i default = t.getD i default := by
 rw [mixTo, List.getD_eq_getElem?_getD, List.getElem?_append_right (by rw [List.length_take]; omega), List.getElem?_drop, List.length_take, Nat.min_eq_left (by omega), Nat.sub_self, Nat.add_zero, List.getD_eq_getElem?_getD]
theorem mixTo_succ {t T : List Nat} {i : Nat} (h : T.length = t.length) (hi : i < t.length) : (mixTo t T i).set i (T.getD i default) = mixTo t T (i + 1) := by
 rw [mixTo, mixTo, List.take_add_one, List.getElem?_eq_getElem (by omega), Option.toList_some, List.set_append_right _ _ (by rw [List.length_take]; omega), List.length_take, Nat.min_eq_left (by omega), Nat.sub_self, List.drop_eq_getElem_cons hi, List.set_cons_zero, getD_default (by omega), List.append_assoc]
 rfl
theorem mixTo_all {t T : List Nat} (h : T.length = t.length) : mixTo t T t.length = T := by rw [mixTo, ← h, List.take_length, h, List.drop_length, List.append_nil]
theorem mixTo_zero (t T : List Nat) : mixTo t T 0 = t := rfl
theorem without_spec (t : List Nat) (e : Bool) (left right : Nat) (hf : Nine t) (hl : t.length ≤ 8) (h1 : left < 512) (h2 : right < 512) :
   Ct Tryd.prog 77 [.sl 1 (t.map encU) e, u64 left, u64 right] (.sl 1 ((withoutR t left right).map encU) false) := by
 by_cases h0 : t = []
 · subst h0
   refine fn_enter Tryd.func77 rfl (by decide) Tryd.results77 Tryd.ntmps77 ?_ rfl (by simp (maxSteps := 1000000) -implicitDefEqProofs (disch := omega) only [go_sem]; rfl) fun base => ?_
   · first | assumption | (simp only [go_sem] <;> assumption) | (simp only [go_sem, *]; done) | (simp [go_sem]; done)
   repeat' (first
     | (with_reducible apply Req_intro); focus (first | omega | assumption | (simp; done))
     | with_reducible (first | apply Req_intro | refine nilT ?_ fun hn => ?_ | apply wk_draw Tryd_mixed | refine drawEnd (by kernel_rfl) ?_)
     | (with_reducible (first | apply condA_if | apply stepDG_ifN | apply stepDG_if | apply stepG_ifN | apply stepG_if)) <;> intro hb <;> (have hif := hb) <;> (try simp only [bo] at hif) <;> (try simp -implicitDefEqProofs (disch := omega) only [go_sem, hb]) <;> clear hb
     | simp (maxSteps := 1000000) -implicitDefEqProofs (disch := omega) only [go_sem])
   refine callp (Clone_none e) ?_
   try simp (maxSteps := 1000000) -implicitDefEqProofs (disch := omega) only [go_sem]
   repeat' (first
     | (with_reducible apply Req_intro); focus (first | omega | assumption | (simp; done))
     | with_reducible (first | apply Req_intro | refine nilT ?_ fun hn => ?_ | apply wk_draw Tryd_mixed | refine drawEnd (by kernel_rfl) ?_)
     | (with_reducible (first | apply condA_if | apply stepDG_ifN | apply stepDG_if | apply stepG_ifN | apply stepG_if)) <;> intro hb <;> (have hif := hb) <;> (try simp only [bo] at hif) <;> (try simp -implicitDefEqProofs (disch := omega) only [go_sem, hb]) <;> clear hb
     | simp (maxSteps := 1000000) -implicitDefEqProofs (disch := omega) only [go_sem])
   refine loop_rows (α := Nat) [8, 13, 14, 15, 16, 17, 18, 19, 20, 21, 22, 23, 24, 25, 26, 27, 28, 29, 30, 31] (fun i => [(13, .lit (.int .i64 0))]) (fun i => []) (fun i => i ≤ 0) (fun i => 0 - i) 0 (fun x => by simp (maxSteps := 1000000) -implicitDefEqProofs (disch := omega) only [go_sem]; rfl) ?_ ?_ fun x hx => ?_
   · exact weak_do3 []
   · exact Nat.zero_le _
   repeat' (first
     | (with_reducible apply Req_intro); focus (first | omega | assumption | (simp; done))
     | with_reducible (first | apply Req_intro | refine nilT ?_ fun hn => ?_ | apply wk_draw Tryd_mixed | refine drawEnd (by kernel_rfl) ?_)
     | (with_reducible (first | apply condA_if | apply stepDG_ifN | apply stepDG_if | apply stepG_ifN | apply stepG_if)) <;> intro hb <;> (have hif := hb) <;> (try simp only [bo] at hif) <;> (try simp -implicitDefEqProofs (disch := omega) only [go_sem, hb]) <;> clear hb
     | simp (maxSteps := 1000000) -implicitDefEqProofs (disch := omega) only [go_sem])
   all_goals first | (exfalso; omega) | omega | skip
   refine ret_do ?_
   rfl
 have hTl := withoutR_len t left right
 have hTg := fun i => withoutR_get (t := t) (l := left) (r := right) (i := i)
 generalize withoutR t left right = T at *
 refine fn_enter Tryd.func77 rfl (by decide) Tryd.results77 Tryd.ntmps77 ?_ rfl (by simp (maxSteps := 1000000) -implicitDefEqProofs (disch := omega) only [go_sem]; rfl) fun base => ?_
 · first | assumption | (simp only [go_sem] <;> assumption) | (simp only [go_sem, *]; done) | (simp [go_sem]; done)
 repeat' (first
   | (with_reducible apply Req_intro); focus (first | omega | assumption | (simp; done))
   | with_reducible (first | apply Req_intro | refine nilT ?_ fun hn => ?_ | apply wk_draw Tryd_mixed | refine drawEnd (by kernel_rfl) ?_)
   | (with_reducible (first | apply condA_if | apply stepDG_ifN | apply stepDG_if | apply stepG_ifN | apply stepG_if)) <;> intro hb <;> (have hif := hb) <;> (try simp only [bo] at hif) <;> (try simp -implicitDefEqProofs (disch := omega) only [go_sem, hb]) <;> clear hb
   | simp (maxSteps := 1000000) -implicitDefEqProofs (disch := omega) only [go_sem])
 refine call_one (Clone_uint t e hl h0) ?_ ⟨_, Tryd.func84, by rfl, by decide⟩
 try simp (maxSteps := 1000000) -implicitDefEqProofs (disch := omega) only [go_sem]
 repeat' (first
   | (with_reducible apply Req_intro); focus (first | omega | assumption | (simp; done))
   | with_reducible (first | apply Req_intro | refine nilT ?_ fun hn => ?_ | apply wk_draw Tryd_mixed | refine drawEnd (by kernel_rfl) ?_)
   | (with_reducible (first | apply condA_if | apply stepDG_ifN | apply stepDG_if | apply stepG_ifN | apply stepG_if)) <;> intro hb <;> (have hif := hb) <;> (try simp only [bo] at hif) <;> (try simp -implicitDefEqProofs (disch := omega) only [go_sem, hb]) <;> clear hb
   | simp (maxSteps := 1000000) -implicitDefEqProofs (disch := omega) only [go_sem])
 refine loop_rows (α := Nat) [8, 13, 14, 15, 16, 17, 18, 19, 20, 21, 22, 23, 24, 25, 26, 27, 28, 29, 30, 31] (fun i => [(13, .lit (.int .i64 i))]) (fun i => [(448, some ⟨1, (mixTo t T i).map encU, 112, .wr⟩)]) (fun i => i ≤ t.length) (fun i => t.length - i) 0 (fun x => by simp (maxSteps := 1000000) -implicitDefEqProofs (disch := omega) only [go_sem]; rfl) ?_ ?_ fun x hx => ?_
 · rw [mixTo_zero]
   exact weak_do3 []
 · exact Nat.zero_le _
 by_cases hlt : x < t.length
 · have hml := mixTo_len (t := t) (T := T) (i := x) hTl
   have hmg := mixTo_get hTl hlt
   have hset := mixTo_succ hTl hlt
   have hg := hTg x hlt
   have hrow := hf _ (getD_mem hlt)
   have f1 := shr_nat left (i := x) (by omega)
   have f2 := shr_bit left (i := x) h1
   have f3 := ib_andNot (t.getD x default) right (by omega) (by omega)
   have f4 := ndiff_le (t.getD x default) right
   have f5 : x < ((mixTo t T x).set x (ndiff (t.getD x default) right)).length := by rw [List.length_set]; omega
   have f6 : (List.map encU ((mixTo t T x).set x (ndiff (t.getD x default) right))).getD x [] = [V.lit (.int .u64 (ndiff (t.getD x default) right))] := by
     rw [List.getD_eq_getElem?_getD, List.getElem?_map, List.getElem?_set_self (by rw [hml]; exact hlt)]; rfl
   repeat' (first
     | (with_reducible apply Req_intro); focus (first | omega | assumption | (simp; done))
     | with_reducible (first | apply Req_intro | refine nilT ?_ fun hn => ?_ | apply wk_draw Tryd_mixed | refine drawEnd (by kernel_rfl) ?_)
     | (with_reducible (first | apply condA_if | apply stepDG_ifN | apply stepDG_if | apply stepG_ifN | apply stepG_if)) <;> intro hb <;> (have hif := hb) <;> (try simp only [bo] at hif) <;> (try simp -implicitDefEqProofs (disch := omega) only [go_sem, hb, hmg, f3, f1, f2, f6, List.drop_succ_cons, List.drop_nil]) <;> clear hb
     | simp (maxSteps := 1000000) -implicitDefEqProofs (disch := omega) only [go_sem, hmg, f3, f1, f2, f6, List.drop_succ_cons, List.drop_nil])
   all_goals first | (exfalso; omega) | omega | skip
   · rw [if_pos (by by_cases hh : left.testBit x = true; exact hh; rw [if_neg hh] at hif; omega)] at hg
     rw [hg] at hset
     with_reducible refine nxt_w (x + 1) ?_ ?_
     · (try dsimp only)
       rw [List.set_set, hset]
       exact weak_do3 []
     try dsimp only
     omega
   · rw [if_neg (fun hh => by rw [if_pos hh] at hif; omega)] at hg
     rw [hg] at hset
     with_reducible refine nxt_w (x + 1) ?_ ?_
     · (try dsimp only)
       rw [hset]
       exact weak_do3 []
     try dsimp only
     omega
 · obtain rfl : x = t.length := by omega
   rw [mixTo_all hTl]
   repeat' (first
     | (with_reducible apply Req_intro); focus (first | omega | assumption | (simp; done))
     | with_reducible (first | apply Req_intro | refine nilT ?_ fun hn => ?_ | apply wk_draw Tryd_mixed | refine drawEnd (by kernel_rfl) ?_)
     | (with_reducible (first | apply condA_if | apply stepDG_ifN | apply stepDG_if | apply stepG_ifN | apply stepG_if)) <;> intro hb <;> (have hif := hb) <;> (try simp only [bo] at hif) <;> (try simp -implicitDefEqProofs (disch := omega) only [go_sem, hb]) <;> clear hb
     | simp (maxSteps := 1000000) -implicitDefEqProofs (disch := omega) only [go_sem])
   all_goals first | (exfalso; omega) | omega | skip
   exact retf [448] [6] [.sl 1 (T.map encU) false]
end Go.Aw
end
section
namespace Go.Aw
open Go.RowKit Go.Proofs
def oA (x : Int) : Int := ibits .and .u64 (x.fdiv (2 ^ min 1 64)) 6148914691236517205 + ibits .and .u64 x 6148914691236517205
def oB (x : Int) : Int := ibits .and .u64 (x.fdiv (2 ^ min 2 64)) 3689348814741910323 + ibits .and .u64 x 3689348814741910323
def oC (x : Int) : Int := x.fdiv (2 ^ min 4 64) + x
def oC2 (x : Int) : Int := ibits .and .u64 x 1085102592571150095
def oD (x : Int) : Int := x + x.fdiv (2 ^ min 8 64)
def oE (x : Int) : Int := x + x.fdiv (2 ^ min 16 64)
def oF (x : Int) : Int := x + x.fdiv (2 ^ min 32 64)
def oG (x : Int) : Int := ibits .and .i64 x 127
def oOk (x : Int) : Prop := 0 ≤ x ∧ x < 1000000
instance (x : Int) : Decidable (oOk x) := by unfold oOk; infer_instance
theorem oc_all : ∀ x : Nat, x < 512 → oOk (oA x) ∧ oOk (oB (oA x)) ∧ oOk (oC (oB (oA x))) ∧ oOk (oC2 (oC (oB (oA x)))) ∧ oOk (oD (oC2 (oC (oB (oA x))))) ∧ oOk (oE (oD (oC2 (oC (oB (oA x)))))) ∧ oOk (oF (oE (oD (oC2 (oC (oB (oA x))))))) ∧
   oG (oF (oE (oD (oC2 (oC (oB (oA x))))))) = popR x := by decide +kernel
theorem OC64 (x : Nat) (h : x < 512) : Ct Tryd.prog 98 [u64 x] (int (popR x)) := by
 obtain ⟨ha, hb, hc, hc2, hd, he, hf, hg⟩ := oc_all x h
 generalize ea : oA x = a at *
 generalize eb : oB a = b at *
 generalize ec : oC b = c at *
 generalize ec2 : oC2 c = c2 at *
 generalize ed : oD c2 = d at *
 generalize ee : oE d = e at *
 generalize ef : oF e = f at *
 unfold oA at ea
 unfold oB at eb
 unfold oC at ec
 unfold oC2 at ec2
 unfold oD at ed
 unfold oE at ee
 unfold oF at ef
 unfold oG at hg
 unfold oOk at *
 refine fn_enter Tryd.func98 rfl (by decide) Tryd.results98 Tryd.ntmps98 ?_ rfl (by simp (maxSteps := 1000000) -implicitDefEqProofs (disch := omega) only [go_sem]; rfl) fun base => ?_
 · first | assumption | (simp only [go_sem] <;> assumption) | (simp only [go_sem, *]; done) | (simp [go_sem]; done)
 repeat' (first
   | (with_reducible apply Req_intro); focus (first | omega | assumption | (simp; done))
   | with_reducible (first | apply Req_intro | refine nilT ?_ fun hn => ?_ | apply wk_draw Tryd_mixed | refine drawEnd (by kernel_rfl) ?_)
   | (with_reducible (first | apply condA_if | apply stepDG_ifN | apply stepDG_if | apply stepG_ifN | apply stepG_if)) <;> intro hb <;> (have hif := hb) <;> (try simp only [bo] at hif) <;> (try simp -implicitDefEqProofs (disch := omega) only [go_sem, hb, ea, eb, ec, ec2, ed, ee, ef, hg]) <;> clear hb
   | simp (maxSteps := 1000000) -implicitDefEqProofs (disch := omega) only [go_sem, ea, eb, ec, ec2, ed, ee, ef, hg])
 refine ret_do ?_
 rfl
theorem OC (x : Nat) (h : x < 512) : Ct Tryd.prog 69 [u64 x] (int (popR x)) := by
 refine fn_enter Tryd.func69 rfl (by decide) Tryd.results69 Tryd.ntmps69 ?_ rfl (by simp (maxSteps := 1000000) -implicitDefEqProofs (disch := omega) only [go_sem]; rfl) fun base => ?_
 · first | assumption | (simp only [go_sem] <;> assumption) | (simp only [go_sem, *]; done) | (simp [go_sem]; done)
 repeat' (first
   | (with_reducible apply Req_intro); focus (first | omega | assumption | (simp; done))
   | with_reducible (first | apply Req_intro | refine nilT ?_ fun hn => ?_ | apply wk_draw Tryd_mixed | refine drawEnd (by kernel_rfl) ?_)
   | (with_reducible (first | apply condA_if | apply stepDG_ifN | apply stepDG_if | apply stepG_ifN | apply stepG_if)) <;> intro hb <;> (have hif := hb) <;> (try simp only [bo] at hif) <;> (try simp -implicitDefEqProofs (disch := omega) only [go_sem, hb]) <;> clear hb
   | simp (maxSteps := 1000000) -implicitDefEqProofs (disch := omega) only [go_sem])
 refine callp (OC64 x h) ?_
 try simp (maxSteps := 1000000) -implicitDefEqProofs (disch := omega) only [go_sem]
 repeat' (first
   | (with_reducible apply Req_intro); focus (first | omega | assumption | (simp; done))
   | with_reducible (first | apply Req_intro | refine nilT ?_ fun hn => ?_ | apply wk_draw Tryd_mixed | refine drawEnd (by kernel_rfl) ?_)
   | (with_reducible (first | apply condA_if | apply stepDG_ifN | apply stepDG_if | apply stepG_ifN | apply stepG_if)) <;> intro hb <;> (have hif := hb) <;> (try simp only [bo] at hif) <;> (try simp -implicitDefEqProofs (disch := omega) only [go_sem, hb]) <;> clear hb
   | simp (maxSteps := 1000000) -implicitDefEqProofs (disch := omega) only [go_sem])
 refine ret_do ?_
 rfl
theorem cover_lt {t : List Nat} (hf : Nine t) (left : Nat) : ∀ i, coverTo t left i < 512
 | 0 => by show 0 < 512; decide
 | i + 1 => by
   rw [coverTo]
   split
   · exact cover_lt hf left i
   · refine or_lt9 (cover_lt hf left i) ?_
     by_cases h : i < t.length
     · rw [← show t.getD i default = t.getD i 0 from rfl]
       exact hf _ (getD_mem h)
     · rw [List.getD_eq_getElem?_getD, List.getElem?_eq_none (by omega)]; decide
theorem cover_spec (t : List Nat) (e : Bool) (left : Nat) (hf : Nine t) (hl : t.length ≤ 8) (h1 : left < 512) : Ct Tryd.prog 70 [.sl 1 (t.map encU) e, u64 left] (u64 (coverR t left)) := by
 refine fn_enter Tryd.func70 rfl (by decide) Tryd.results70 Tryd.ntmps70 ?_ rfl (by simp (maxSteps := 1000000) -implicitDefEqProofs (disch := omega) only [go_sem]; rfl) fun base => ?_
 · first | assumption | (simp only [go_sem] <;> assumption) | (simp only [go_sem, *]; done) | (simp [go_sem]; done)
 repeat' (first
   | (with_reducible apply Req_intro); focus (first | omega | assumption | (simp; done))
   | with_reducible (first | apply Req_intro | refine nilT ?_ fun hn => ?_ | apply wk_draw Tryd_mixed | refine drawEnd (by kernel_rfl) ?_)
   | (with_reducible (first | apply condA_if | apply stepDG_ifN | apply stepDG_if | apply stepG_ifN | apply stepG_if)) <;> intro hb <;> (have hif := hb) <;> (try simp only [bo] at hif) <;> (try simp -implicitDefEqProofs (disch := omega) only [go_sem, hb]) <;> clear hb
   | simp (maxSteps := 1000000) -implicitDefEqProofs (disch := omega) only [go_sem])
 refine loop_rows (α := Nat) [4, 5, 6, 9, 10, 11, 12, 13, 14, 15, 16, 17, 18, 19, 20, 21, 22] (fun i => [(9, .lit (.int .i64 i)), (4, u64 (coverTo t left i))]) (fun i => []) (fun i => i ≤ t.length) (fun i => t.length - i) 0 (fun x => by simp (maxSteps := 1000000) -implicitDefEqProofs (disch := omega) only [go_sem]; rfl) ?_ ?_ fun x hx => ?_
 · exact weak_do3 []
 · exact Nat.zero_le _
 by_cases hlt : x < t.length
 · have f1 := shr_nat left (i := x) (by omega)
   have f3 := ib_or (coverTo t left x) (t.getD x default) (by have := cover_lt hf left x; omega) (by have := hf _ (getD_mem hlt); omega)
   have f2 := shr_bit left (i := x) h1
   have hrow := hf _ (getD_mem hlt)
   repeat' (first
     | (with_reducible apply Req_intro); focus (first | omega | assumption | (simp; done))
     | with_reducible (first | apply Req_intro | refine nilT ?_ fun hn => ?_ | apply wk_draw Tryd_mixed | refine drawEnd (by kernel_rfl) ?_)
     | (with_reducible (first | apply condA_if | apply stepDG_ifN | apply stepDG_if | apply stepG_ifN | apply stepG_if)) <;> intro hb <;> (have hif := hb) <;> (try simp only [bo] at hif) <;> (try simp -implicitDefEqProofs (disch := omega) only [go_sem, hb, f1, f2, f3]) <;> clear hb
     | simp (maxSteps := 1000000) -implicitDefEqProofs (disch := omega) only [go_sem, f1, f2, f3])
   all_goals first | (exfalso; omega) | omega | skip
   · rename_i hb
     with_reducible refine nxt_w (x + 1) ?_ ?_
     · (try dsimp only)
       rw [show coverTo t left (x + 1) = coverTo t left x ||| t.getD x default from by rw [coverTo, if_neg (fun hh => by rw [if_pos hh] at hif; omega)]; rfl]
       exact weak_do3 []
     try dsimp only
     omega
   · with_reducible refine nxt_w (x + 1) ?_ ?_
     · (try dsimp only)
       rw [show coverTo t left (x + 1) = coverTo t left x from by rw [coverTo, if_pos (by by_cases hh : left.testBit x = true; exact hh; rw [if_neg hh] at hif; omega)]]
       exact weak_do3 []
     try dsimp only
     omega
 · obtain rfl : x = t.length := by omega
   repeat' (first
     | (with_reducible apply Req_intro); focus (first | omega | assumption | (simp; done))
     | with_reducible (first | apply Req_intro | refine nilT ?_ fun hn => ?_ | apply wk_draw Tryd_mixed | refine drawEnd (by kernel_rfl) ?_)
     | (with_reducible (first | apply condA_if | apply stepDG_ifN | apply stepDG_if | apply stepG_ifN | apply stepG_if)) <;> intro hb <;> (have hif := hb) <;> (try simp only [bo] at hif) <;> (try simp -implicitDefEqProofs (disch := omega) only [go_sem, hb]) <;> clear hb
     | simp (maxSteps := 1000000) -implicitDefEqProofs (disch := omega) only [go_sem])
   all_goals first | (exfalso; omega) | omega | skip
   refine ret_do ?_
   rfl
end Go.Aw
end
section
namespace Go.Aw
open Go.RowKit Go.Proofs
def orR (a b : Int) : Int := if a ≠ 0 then a else b
theorem Or_spec (a b : Int) (e : Bool) : Ct Tryd.prog 71 [.sl 1 [[int a], [int b]] e] (int (orR a b)) := by
 refine fn_enter Tryd.func71 rfl (by decide) Tryd.results71 Tryd.ntmps71 ?_ rfl (by simp (maxSteps := 1000000) -implicitDefEqProofs (disch := omega) only [go_sem]; rfl) fun base => ?_
 · first | assumption | (simp only [go_sem] <;> assumption) | (simp only [go_sem, *]; done) | (simp [go_sem]; done)
 repeat' (first
   | (with_reducible apply Req_intro); focus (first | omega | assumption | (simp; done))
   | with_reducible (first | apply Req_intro | refine nilT ?_ fun hn => ?_ | apply wk_draw Tryd_mixed | refine drawEnd (by kernel_rfl) ?_)
   | (with_reducible (first | apply condA_if | apply stepDG_ifN | apply stepDG_if | apply stepG_ifN | apply stepG_if)) <;> intro hb <;> (have hif := hb) <;> (try simp only [bo] at hif) <;> (try simp -implicitDefEqProofs (disch := omega) only [go_sem, hb]) <;> clear hb
   | simp (maxSteps := 1000000) -implicitDefEqProofs (disch := omega) only [go_sem])
 refine loop_rows (α := Nat) [2, 5, 8, 9, 10, 11, 12, 13, 14, 15, 16] (fun i => [(8, .lit (.int .i64 i))]) (fun i => []) (fun i => i ≤ 2 ∧ (1 ≤ i → a = 0) ∧ (2 ≤ i → b = 0)) (fun i => 2 - i) 0 (fun x => by simp (maxSteps := 1000000) -implicitDefEqProofs (disch := omega) only [go_sem]; rfl) ?_ ?_ fun x hx => ?_
 · exact weak_do3 []
 · exact ⟨by omega, by omega, by omega⟩
 obtain ⟨h1, h2, h3⟩ := hx
 obtain rfl | rfl | rfl : x = 0 ∨ x = 1 ∨ x = 2 := by omega
 · repeat' (first
     | (with_reducible apply Req_intro); focus (first | omega | assumption | (simp; done))
     | with_reducible (first | apply Req_intro | refine nilT ?_ fun hn => ?_ | apply wk_draw Tryd_mixed | refine drawEnd (by kernel_rfl) ?_)
     | (with_reducible (first | apply condA_if | apply stepDG_ifN | apply stepDG_if | apply stepG_ifN | apply stepG_if)) <;> intro hb <;> (have hif := hb) <;> (try simp only [bo] at hif) <;> (try simp -implicitDefEqProofs (disch := omega) only [go_sem, hb]) <;> clear hb
     | simp (maxSteps := 1000000) -implicitDefEqProofs (disch := omega) only [go_sem])
   all_goals first | (exfalso; omega) | omega | skip
   · refine ret_do ?_
     rw [orR, if_pos hif]; rfl
   · with_reducible refine nxt_w 1 ?_ ?_
     · (try dsimp only)
       skip
       exact weak_do3 []
     try dsimp only
     refine ⟨by omega, by omega, by omega⟩
 · obtain rfl := h2 (by omega)
   repeat' (first
     | (with_reducible apply Req_intro); focus (first | omega | assumption | (simp; done))
     | with_reducible (first | apply Req_intro | refine nilT ?_ fun hn => ?_ | apply wk_draw Tryd_mixed | refine drawEnd (by kernel_rfl) ?_)
     | (with_reducible (first | apply condA_if | apply stepDG_ifN | apply stepDG_if | apply stepG_ifN | apply stepG_if)) <;> intro hb <;> (have hif := hb) <;> (try simp only [bo] at hif) <;> (try simp -implicitDefEqProofs (disch := omega) only [go_sem, hb]) <;> clear hb
     | simp (maxSteps := 1000000) -implicitDefEqProofs (disch := omega) only [go_sem])
   all_goals first | (exfalso; omega) | omega | skip
   · refine ret_do ?_
     rw [orR, if_neg (by simp)]; rfl
   · with_reducible refine nxt_w 2 ?_ ?_
     · (try dsimp only)
       skip
       exact weak_do3 []
     try dsimp only
     first | exact ⟨by omega, by simp, fun _ => by simpa using hif⟩ | exact ⟨by omega, fun _ => by simpa using hif⟩ | exact fun _ => by simpa using hif | skip
 · obtain rfl := h2 (by omega)
   obtain rfl := h3 (by omega)
   repeat' (first
     | (with_reducible apply Req_intro); focus (first | omega | assumption | (simp; done))
     | with_reducible (first | apply Req_intro | refine nilT ?_ fun hn => ?_ | apply wk_draw Tryd_mixed | refine drawEnd (by kernel_rfl) ?_)
     | (with_reducible (first | apply condA_if | apply stepDG_ifN | apply stepDG_if | apply stepG_ifN | apply stepG_if)) <;> intro hb <;> (have hif := hb) <;> (try simp only [bo] at hif) <;> (try simp -implicitDefEqProofs (disch := omega) only [go_sem, hb]) <;> clear hb
     | simp (maxSteps := 1000000) -implicitDefEqProofs (disch := omega) only [go_sem])
   all_goals first | (exfalso; omega) | omega | skip
   refine ret_do ?_
   rfl
theorem cmpL_lt : ∀ a b : List Nat, cmpL (natL a) (natL b) < 0 ↔ listLt a b = true
 | [], [] => by simp [natL, cmpL, listLt]
 | [], _ :: _ => by simp [natL, cmpL, listLt]
 | _ :: _, [] => by simp [natL, cmpL, listLt]
 | x :: a, y :: b => by
   have ih := cmpL_lt a b
   simp only [natL] at ih ⊢
   simp only [List.map_cons, cmpL, listLt, cmpI]
   by_cases h1 : x < y
   · simp [h1]
   · by_cases h2 : y < x
     · simp [h1, h2]
     · simp [h1, h2]; exact ih
theorem orR_lt (a b : Nat) (l m : List Nat) : orR ((a : Int) - b) (cmpL (natL l) (natL m)) < 0 ↔ a < b ∨ (a = b ∧ listLt l m = true) := by
 unfold orR
 split
 · constructor
   · intro h; left; omega
   · rintro (h | ⟨h, _⟩) <;> omega
 · rename_i h
   rw [cmpL_lt]
   constructor
   · intro h2; exact .inr ⟨by omega, h2⟩
   · rintro (h2 | ⟨_, h2⟩)
     · omega
     · exact h2
theorem size_spec (t : List Nat) (e : Bool) (left : Nat) (hf : Nine t) (hl : t.length ≤ 8) (h1 : left < 512) : Ct Tryd.prog 68 [u64 left, .rp [.sl 1 (t.map encU) e]] (int (sizeR t left)) := by
 have q1 := OC left h1
 have q2 := cover_spec t e left hf hl h1
 have q3 := OC (coverR t left) (cover_lt hf left _)
 have hs : (sizeR t left : Int) = (popR left : Int) + (popR (coverR t left) : Int) := by rw [sizeR]; omega
 have b1 : popR left ≤ 16 := by have := List.countP_le_length (p := fun i => left.testBit i) (l := List.range 16); simpa [popR] using this
 have b2 : popR (coverR t left) ≤ 16 := by have := List.countP_le_length (p := fun i => (coverR t left).testBit i) (l := List.range 16); simpa [popR] using this
 refine fn_enter Tryd.func68 rfl (by decide) Tryd.results68 Tryd.ntmps68 ?_ rfl (by simp (maxSteps := 1000000) -implicitDefEqProofs (disch := omega) only [go_sem]; rfl) fun base => ?_
 · first | assumption | (simp only [go_sem] <;> assumption) | (simp only [go_sem, *]; done) | (simp [go_sem]; done)
 repeat' (first
   | (with_reducible apply Req_intro); focus (first | omega | assumption | (simp; done))
   | with_reducible (first | apply Req_intro | refine nilT ?_ fun hn => ?_ | apply wk_draw Tryd_mixed | refine drawEnd (by kernel_rfl) ?_)
   | (with_reducible (first | apply condA_if | apply stepDG_ifN | apply stepDG_if | apply stepG_ifN | apply stepG_if)) <;> intro hb <;> (have hif := hb) <;> (try simp only [bo] at hif) <;> (try simp -implicitDefEqProofs (disch := omega) only [go_sem, hb]) <;> clear hb
   | simp (maxSteps := 1000000) -implicitDefEqProofs (disch := omega) only [go_sem])
 refine calld q1 ?_
 try simp (maxSteps := 1000000) -implicitDefEqProofs (disch := omega) only [go_sem]
 repeat' (first
   | (with_reducible apply Req_intro); focus (first | omega | assumption | (simp; done))
   | with_reducible (first | apply Req_intro | refine nilT ?_ fun hn => ?_ | apply wk_draw Tryd_mixed | refine drawEnd (by kernel_rfl) ?_)
   | (with_reducible (first | apply condA_if | apply stepDG_ifN | apply stepDG_if | apply stepG_ifN | apply stepG_if)) <;> intro hb <;> (have hif := hb) <;> (try simp only [bo] at hif) <;> (try simp -implicitDefEqProofs (disch := omega) only [go_sem, hb]) <;> clear hb
   | simp (maxSteps := 1000000) -implicitDefEqProofs (disch := omega) only [go_sem])
 refine calld q2 ?_
 try simp (maxSteps := 1000000) -implicitDefEqProofs (disch := omega) only [go_sem]
 repeat' (first
   | (with_reducible apply Req_intro); focus (first | omega | assumption | (simp; done))
   | with_reducible (first | apply Req_intro | refine nilT ?_ fun hn => ?_ | apply wk_draw Tryd_mixed | refine drawEnd (by kernel_rfl) ?_)
   | (with_reducible (first | apply condA_if | apply stepDG_ifN | apply stepDG_if | apply stepG_ifN | apply stepG_if)) <;> intro hb <;> (have hif := hb) <;> (try simp only [bo] at hif) <;> (try simp -implicitDefEqProofs (disch := omega) only [go_sem, hb]) <;> clear hb
   | simp (maxSteps := 1000000) -implicitDefEqProofs (disch := omega) only [go_sem])
 refine calld q3 ?_
 try simp (maxSteps := 1000000) -implicitDefEqProofs (disch := omega) only [go_sem]
 repeat' (first
   | (with_reducible apply Req_intro); focus (first | omega | assumption | (simp; done))
   | with_reducible (first | apply Req_intro | refine nilT ?_ fun hn => ?_ | apply wk_draw Tryd_mixed | refine drawEnd (by kernel_rfl) ?_)
   | (with_reducible (first | apply condA_if | apply stepDG_ifN | apply stepDG_if | apply stepG_ifN | apply stepG_if)) <;> intro hb <;> (have hif := hb) <;> (try simp only [bo] at hif) <;> (try simp -implicitDefEqProofs (disch := omega) only [go_sem, hb]) <;> clear hb
   | simp (maxSteps := 1000000) -implicitDefEqProofs (disch := omega) only [go_sem])
 all_goals first | (exfalso; omega) | omega | skip
 refine ret_do ?_
 rw [hs]; rfl
theorem Grow_none : Ct Tryd.prog 95 [.lit (.slice none 0 0), int 0] (.lit (.slice none 0 0)) := by
 refine fn_enter Tryd.func95 rfl (by decide) Tryd.results95 Tryd.ntmps95 ?_ rfl (by simp (maxSteps := 1000000) -implicitDefEqProofs (disch := omega) only [go_sem]; rfl) fun base => ?_
 · first | assumption | (simp only [go_sem] <;> assumption) | (simp only [go_sem, *]; done) | (simp [go_sem]; done)
 repeat' (first
   | (with_reducible apply Req_intro); focus (first | omega | assumption | (simp; done))
   | with_reducible (first | apply Req_intro | refine nilT ?_ fun hn => ?_ | apply wk_draw Tryd_mixed | refine drawEnd (by kernel_rfl) ?_)
   | (with_reducible (first | apply condA_if | apply stepDG_ifN | apply stepDG_if | apply stepG_ifN | apply stepG_if)) <;> intro hb <;> (have hif := hb) <;> (try simp only [bo] at hif) <;> (try simp -implicitDefEqProofs (disch := omega) only [go_sem, hb]) <;> clear hb
   | simp (maxSteps := 1000000) -implicitDefEqProofs (disch := omega) only [go_sem])
 all_goals first | (exfalso; omega) | omega | skip
 refine ret_do ?_
 rfl
theorem Grow_some (n : Nat) (h0 : 0 < n) (h1 : n ≤ 1000) : OneNew Tryd.prog 95 [.lit (.slice none 0 0), int n] 1152 2 0 ⟨2, [], 24, .wr⟩ 1600 := by
 refine ⟨[(1152, some ⟨2, [], 24, .wr⟩)], ?_, rfl⟩
 refine callH_enter Tryd.func95 rfl Tryd.results95 Tryd.ntmps95 rfl (by simp (maxSteps := 1000000) -implicitDefEqProofs (disch := omega) only [go_sem]; rfl) fun base => ?_
 repeat' (first
   | (with_reducible apply Req_intro); focus (first | omega | assumption | (simp; done))
   | with_reducible (first | apply Req_intro | refine nilT ?_ fun hn => ?_ | apply wk_draw Tryd_mixed | refine drawEnd (by kernel_rfl) ?_)
   | (with_reducible (first | apply condA_if | apply stepDG_ifN | apply stepDG_if | apply stepG_ifN | apply stepG_if)) <;> intro hb <;> (have hif := hb) <;> (try simp only [bo] at hif) <;> (try simp -implicitDefEqProofs (disch := omega) only [go_sem, hb]) <;> clear hb
   | simp (maxSteps := 1000000) -implicitDefEqProofs (disch := omega) only [go_sem])
 all_goals first | (exfalso; omega) | omega | skip
 refine ret_do ?_
 exact ⟨rfl, rfl, rfl⟩
def catTo (ls rs : List Grd) (i : Nat) : List Grd := if i = 0 then [] else if i = 1 then ls else ls ++ rs
theorem Concat_none (e1 e2 e : Bool) : Ct Tryd.prog 64 [.sl 1 [[.sl 2 (([] : List Grd).map encGd) e1], [.sl 2 (([] : List Grd).map encGd) e2]] e] (.sl 2 (([] : List Grd).map encGd) false) := by
 refine fn_enter Tryd.func64 rfl (by decide) Tryd.results64 Tryd.ntmps64 ?_ rfl (by simp (maxSteps := 1000000) -implicitDefEqProofs (disch := omega) only [go_sem]; rfl) fun base => ?_
 · first | assumption | (simp only [go_sem] <;> assumption) | (simp only [go_sem, *]; done) | (simp [go_sem]; done)
 repeat' (first
   | (with_reducible apply Req_intro); focus (first | omega | assumption | (simp; done))
   | with_reducible (first | apply Req_intro | refine nilT ?_ fun hn => ?_ | apply wk_draw Tryd_mixed | refine drawEnd (by kernel_rfl) ?_)
   | (with_reducible (first | apply condA_if | apply stepDG_ifN | apply stepDG_if | apply stepG_ifN | apply stepG_if)) <;> intro hb <;> (have hif := hb) <;> (try simp only [bo] at hif) <;> (try simp -implicitDefEqProofs (disch := omega) only [go_sem, hb]) <;> clear hb
   | simp (maxSteps := 1000000) -implicitDefEqProofs (disch := omega) only [go_sem])
 refine loop_rows (α := Nat) [3, 5, 11, 12, 13, 14, 15, 16, 17, 18, 19, 20, 21, 22] (fun i => [(11, .lit (.int .i64 i)), (3, int 0)]) (fun i => []) (fun i => i ≤ 2) (fun i => 2 - i) 0 (fun x => by simp (maxSteps := 1000000) -implicitDefEqProofs (disch := omega) only [go_sem]; rfl) ?_ ?_ fun x hx => ?_
 · exact weak_do3 []
 · exact Nat.zero_le _
 obtain rfl | rfl | rfl : x = 0 ∨ x = 1 ∨ x = 2 := by omega
 · repeat' (first
     | (with_reducible apply Req_intro); focus (first | omega | assumption | (simp; done))
     | with_reducible (first | apply Req_intro | refine nilT ?_ fun hn => ?_ | apply wk_draw Tryd_mixed | refine drawEnd (by kernel_rfl) ?_)
     | (with_reducible (first | apply condA_if | apply stepDG_ifN | apply stepDG_if | apply stepG_ifN | apply stepG_if)) <;> intro hb <;> (have hif := hb) <;> (try simp only [bo] at hif) <;> (try simp -implicitDefEqProofs (disch := omega) only [go_sem, hb]) <;> clear hb
     | simp (maxSteps := 1000000) -implicitDefEqProofs (disch := omega) only [go_sem])
   all_goals first | (exfalso; omega) | omega | skip
   with_reducible refine nxt_w 1 ?_ ?_
   · (try dsimp only)
     skip
     exact weak_do3 []
   try dsimp only
   omega
 · repeat' (first
     | (with_reducible apply Req_intro); focus (first | omega | assumption | (simp; done))
     | with_reducible (first | apply Req_intro | refine nilT ?_ fun hn => ?_ | apply wk_draw Tryd_mixed | refine drawEnd (by kernel_rfl) ?_)
     | (with_reducible (first | apply condA_if | apply stepDG_ifN | apply stepDG_if | apply stepG_ifN | apply stepG_if)) <;> intro hb <;> (have hif := hb) <;> (try simp only [bo] at hif) <;> (try simp -implicitDefEqProofs (disch := omega) only [go_sem, hb]) <;> clear hb
     | simp (maxSteps := 1000000) -implicitDefEqProofs (disch := omega) only [go_sem])
   all_goals first | (exfalso; omega) | omega | skip
   with_reducible refine nxt_w 2 ?_ ?_
   · (try dsimp only)
     skip
     exact weak_do3 []
   try dsimp only
   omega
 · repeat' (first
     | (with_reducible apply Req_intro); focus (first | omega | assumption | (simp; done))
     | with_reducible (first | apply Req_intro | refine nilT ?_ fun hn => ?_ | apply wk_draw Tryd_mixed | refine drawEnd (by kernel_rfl) ?_)
     | (with_reducible (first | apply condA_if | apply stepDG_ifN | apply stepDG_if | apply stepG_ifN | apply stepG_if)) <;> intro hb <;> (have hif := hb) <;> (try simp only [bo] at hif) <;> (try simp -implicitDefEqProofs (disch := omega) only [go_sem, hb]) <;> clear hb
     | simp (maxSteps := 1000000) -implicitDefEqProofs (disch := omega) only [go_sem])
   all_goals first | (exfalso; omega) | omega | skip
   refine callp Grow_none ?_
   try simp (maxSteps := 1000000) -implicitDefEqProofs (disch := omega) only [go_sem]
   repeat' (first
     | (with_reducible apply Req_intro); focus (first | omega | assumption | (simp; done))
     | with_reducible (first | apply Req_intro | refine nilT ?_ fun hn => ?_ | apply wk_draw Tryd_mixed | refine drawEnd (by kernel_rfl) ?_)
     | (with_reducible (first | apply condA_if | apply stepDG_ifN | apply stepDG_if | apply stepG_ifN | apply stepG_if)) <;> intro hb <;> (have hif := hb) <;> (try simp only [bo] at hif) <;> (try simp -implicitDefEqProofs (disch := omega) only [go_sem, hb]) <;> clear hb
     | simp (maxSteps := 1000000) -implicitDefEqProofs (disch := omega) only [go_sem])
   refine loop_rows (α := Nat) [6, 8, 27, 28, 29, 30, 31, 32, 33, 34] (fun i => [(27, .lit (.int .i64 i)), (6, .os 64 2 0 false)]) (fun i => [(64, some ⟨2, [], 24, .wr⟩)]) (fun i => i ≤ 2) (fun i => 2 - i) 0 (fun x => by simp (maxSteps := 1000000) -implicitDefEqProofs (disch := omega) only [go_sem]; rfl) ?_ ?_ fun x hx => ?_
   · exact weak_do3 [(64, 1000000)]
   · exact Nat.zero_le _
   obtain rfl | rfl | rfl : x = 0 ∨ x = 1 ∨ x = 2 := by omega
   · repeat' (first
       | (with_reducible apply Req_intro); focus (first | omega | assumption | (simp; done))
       | with_reducible (first | apply Req_intro | refine nilT ?_ fun hn => ?_ | apply wk_draw Tryd_mixed | refine drawEnd (by kernel_rfl) ?_)
       | (with_reducible (first | apply condA_if | apply stepDG_ifN | apply stepDG_if | apply stepG_ifN | apply stepG_if)) <;> intro hb <;> (have hif := hb) <;> (try simp only [bo] at hif) <;> (try simp -implicitDefEqProofs (disch := omega) only [go_sem, hb]) <;> clear hb
       | simp (maxSteps := 1000000) -implicitDefEqProofs (disch := omega) only [go_sem])
     all_goals first | (exfalso; omega) | omega | skip
     with_reducible refine nxt_w 1 ?_ ?_
     · (try dsimp only)
       skip
       exact weak_do3 [(64, 1152)]
     try dsimp only
     omega
   · repeat' (first
       | (with_reducible apply Req_intro); focus (first | omega | assumption | (simp; done))
       | with_reducible (first | apply Req_intro | refine nilT ?_ fun hn => ?_ | apply wk_draw Tryd_mixed | refine drawEnd (by kernel_rfl) ?_)
       | (with_reducible (first | apply condA_if | apply stepDG_ifN | apply stepDG_if | apply stepG_ifN | apply stepG_if)) <;> intro hb <;> (have hif := hb) <;> (try simp only [bo] at hif) <;> (try simp -implicitDefEqProofs (disch := omega) only [go_sem, hb]) <;> clear hb
       | simp (maxSteps := 1000000) -implicitDefEqProofs (disch := omega) only [go_sem])
     all_goals first | (exfalso; omega) | omega | skip
     with_reducible refine nxt_w 2 ?_ ?_
     · (try dsimp only)
       skip
       exact weak_do3 [(64, 1152)]
     try dsimp only
     omega
   · repeat' (first
       | (with_reducible apply Req_intro); focus (first | omega | assumption | (simp; done))
       | with_reducible (first | apply Req_intro | refine nilT ?_ fun hn => ?_ | apply wk_draw Tryd_mixed | refine drawEnd (by kernel_rfl) ?_)
       | (with_reducible (first | apply condA_if | apply stepDG_ifN | apply stepDG_if | apply stepG_ifN | apply stepG_if)) <;> intro hb <;> (have hif := hb) <;> (try simp only [bo] at hif) <;> (try simp -implicitDefEqProofs (disch := omega) only [go_sem, hb]) <;> clear hb
       | simp (maxSteps := 1000000) -implicitDefEqProofs (disch := omega) only [go_sem])
     all_goals first | (exfalso; omega) | omega | skip
     exact retf [64] [2] [.sl 2 [] false]
theorem Concat_spec (ls rs : List Grd) (e1 e2 e : Bool) (h0 : 0 < ls.length + rs.length) (hl : ls.length ≤ 100) (hr : rs.length ≤ 100) : Ct Tryd.prog 64 [.sl 1 [[.sl 2 (ls.map encGd) e1], [.sl 2 (rs.map encGd) e2]] e] (.sl 2 ((ls ++ rs).map encGd) false) := by
 have c0 : catTo ls rs 0 = [] := rfl
 have c1 : catTo ls rs 1 = ls := rfl
 have c2 : catTo ls rs 2 = ls ++ rs := rfl
 have s0 : catTo ls rs 0 ++ ls = catTo ls rs 1 := rfl
 have s1 : catTo ls rs 1 ++ rs = catTo ls rs 2 := rfl
 have l2 : (catTo ls rs 2).length = ls.length + rs.length := by rw [c2, List.length_append]
 refine fn_enter Tryd.func64 rfl (by decide) Tryd.results64 Tryd.ntmps64 ?_ rfl (by simp (maxSteps := 1000000) -implicitDefEqProofs (disch := omega) only [go_sem]; rfl) fun base => ?_
 · first | assumption | (simp only [go_sem] <;> assumption) | (simp only [go_sem, *]; done) | (simp [go_sem]; done)
 repeat' (first
   | (with_reducible apply Req_intro); focus (first | omega | assumption | (simp; done))
   | with_reducible (first | apply Req_intro | refine nilT ?_ fun hn => ?_ | apply wk_draw Tryd_mixed | refine drawEnd (by kernel_rfl) ?_)
   | (with_reducible (first | apply condA_if | apply stepDG_ifN | apply stepDG_if | apply stepG_ifN | apply stepG_if)) <;> intro hb <;> (have hif := hb) <;> (try simp only [bo] at hif) <;> (try simp -implicitDefEqProofs (disch := omega) only [go_sem, hb]) <;> clear hb
   | simp (maxSteps := 1000000) -implicitDefEqProofs (disch := omega) only [go_sem])
 refine loop_rows (α := Nat) [3, 5, 11, 12, 13, 14, 15, 16, 17, 18, 19, 20, 21, 22] (fun i => [(11, .lit (.int .i64 i)), (3, int ((catTo ls rs i).length : Nat))]) (fun i => []) (fun i => i ≤ 2) (fun i => 2 - i) 0 (fun x => by simp (maxSteps := 1000000) -implicitDefEqProofs (disch := omega) only [go_sem]; rfl) ?_ ?_ fun x hx => ?_
 · exact weak_do3 []
 · exact Nat.zero_le _
 obtain rfl | rfl | rfl : x = 0 ∨ x = 1 ∨ x = 2 := by omega
 · rw [c0]
   repeat' (first
     | (with_reducible apply Req_intro); focus (first | omega | assumption | (simp; done))
     | with_reducible (first | apply Req_intro | refine nilT ?_ fun hn => ?_ | apply wk_draw Tryd_mixed | refine drawEnd (by kernel_rfl) ?_)
     | (with_reducible (first | apply condA_if | apply stepDG_ifN | apply stepDG_if | apply stepG_ifN | apply stepG_if)) <;> intro hb <;> (have hif := hb) <;> (try simp only [bo] at hif) <;> (try simp -implicitDefEqProofs (disch := omega) only [go_sem, hb]) <;> clear hb
     | simp (maxSteps := 1000000) -implicitDefEqProofs (disch := omega) only [go_sem])
   all_goals first | (exfalso; omega) | omega | skip
   with_reducible refine nxt_w 1 ?_ ?_
   · (try dsimp only)
     rw [c1]
     exact weak_do3 []
   try dsimp only
   omega
 · rw [c1]
   repeat' (first
     | (with_reducible apply Req_intro); focus (first | omega | assumption | (simp; done))
     | with_reducible (first | apply Req_intro | refine nilT ?_ fun hn => ?_ | apply wk_draw Tryd_mixed | refine drawEnd (by kernel_rfl) ?_)
     | (with_reducible (first | apply condA_if | apply stepDG_ifN | apply stepDG_if | apply stepG_ifN | apply stepG_if)) <;> intro hb <;> (have hif := hb) <;> (try simp only [bo] at hif) <;> (try simp -implicitDefEqProofs (disch := omega) only [go_sem, hb]) <;> clear hb
     | simp (maxSteps := 1000000) -implicitDefEqProofs (disch := omega) only [go_sem])
   all_goals first | (exfalso; omega) | omega | skip
   with_reducible refine nxt_w 2 ?_ ?_
   · (try dsimp only)
     rw [c2, List.length_append]
     exact weak_do3 []
   try dsimp only
   omega
 · rw [l2]
   repeat' (first
     | (with_reducible apply Req_intro); focus (first | omega | assumption | (simp; done))
     | with_reducible (first | apply Req_intro | refine nilT ?_ fun hn => ?_ | apply wk_draw Tryd_mixed | refine drawEnd (by kernel_rfl) ?_)
     | (with_reducible (first | apply condA_if | apply stepDG_ifN | apply stepDG_if | apply stepG_ifN | apply stepG_if)) <;> intro hb <;> (have hif := hb) <;> (try simp only [bo] at hif) <;> (try simp -implicitDefEqProofs (disch := omega) only [go_sem, hb]) <;> clear hb
     | simp (maxSteps := 1000000) -implicitDefEqProofs (disch := omega) only [go_sem])
   all_goals first | (exfalso; omega) | omega | skip
   refine call_one (Grow_some (ls.length + rs.length) h0 (by omega)) ?_ ⟨_, Tryd.func95, by rfl, by decide⟩
   try simp (maxSteps := 1000000) -implicitDefEqProofs (disch := omega) only [go_sem]
   repeat' (first
     | (with_reducible apply Req_intro); focus (first | omega | assumption | (simp; done))
     | with_reducible (first | apply Req_intro | refine nilT ?_ fun hn => ?_ | apply wk_draw Tryd_mixed | refine drawEnd (by kernel_rfl) ?_)
     | (with_reducible (first | apply condA_if | apply stepDG_ifN | apply stepDG_if | apply stepG_ifN | apply stepG_if)) <;> intro hb <;> (have hif := hb) <;> (try simp only [bo] at hif) <;> (try simp -implicitDefEqProofs (disch := omega) only [go_sem, hb]) <;> clear hb
     | simp (maxSteps := 1000000) -implicitDefEqProofs (disch := omega) only [go_sem])
   refine loop_rows (α := Nat) (24 :: [6, 8, 27, 28, 29, 30, 31, 32, 33, 34]) (fun i => [(27, .lit (.int .i64 i)), (6, .os 1600 2 (catTo ls rs i).length false)]) (fun i => [(1600, some ⟨2, (catTo ls rs i).map encGd, 24, .wr⟩)]) (fun i => i ≤ 2) (fun i => 2 - i) 0 (fun x => by simp (maxSteps := 1000000) -implicitDefEqProofs (disch := omega) only [go_sem]; rfl) ?_ ?_ fun x hx => ?_
   · exact weak_do3 []
   · exact Nat.zero_le _
   obtain rfl | rfl | rfl : x = 0 ∨ x = 1 ∨ x = 2 := by omega
   · rw [c0]
     repeat' (first
       | (with_reducible apply Req_intro); focus (first | omega | assumption | (simp; done))
       | with_reducible (first | apply Req_intro | refine nilT ?_ fun hn => ?_ | apply wk_draw Tryd_mixed | refine drawEnd (by kernel_rfl) ?_)
       | (with_reducible (first | apply condA_if | apply stepDG_ifN | apply stepDG_if | apply stepG_ifN | apply stepG_if)) <;> intro hb <;> (have hif := hb) <;> (try simp only [bo] at hif) <;> (try simp -implicitDefEqProofs (disch := omega) only [go_sem, hb]) <;> clear hb
       | simp (maxSteps := 1000000) -implicitDefEqProofs (disch := omega) only [go_sem])
     all_goals first | (exfalso; omega) | omega | skip
     with_reducible refine nxt_w 1 ?_ ?_
     · (try dsimp only)
       rw [c1]
       exact weak_do3 [(1600, 2752)]
     try dsimp only
     omega
   · rw [c1]
     repeat' (first
       | (with_reducible apply Req_intro); focus (first | omega | assumption | (simp; done))
       | with_reducible (first | apply Req_intro | refine nilT ?_ fun hn => ?_ | apply wk_draw Tryd_mixed | refine drawEnd (by kernel_rfl) ?_)
       | (with_reducible (first | apply condA_if | apply stepDG_ifN | apply stepDG_if | apply stepG_ifN | apply stepG_if)) <;> intro hb <;> (have hif := hb) <;> (try simp only [bo] at hif) <;> (try simp -implicitDefEqProofs (disch := omega) only [go_sem, hb]) <;> clear hb
       | simp (maxSteps := 1000000) -implicitDefEqProofs (disch := omega) only [go_sem])
     all_goals first | (exfalso; omega) | omega | skip
     with_reducible refine nxt_w 2 ?_ ?_
     · (try dsimp only)
       rw [c2, List.length_append, List.map_append]
       exact weak_do3 [(1600, 2752)]
     try dsimp only
     omega
   · rw [c2]
     generalize ls ++ rs = L at *
     repeat' (first
       | (with_reducible apply Req_intro); focus (first | omega | assumption | (simp; done))
       | with_reducible (first | apply Req_intro | refine nilT ?_ fun hn => ?_ | apply wk_draw Tryd_mixed | refine drawEnd (by kernel_rfl) ?_)
       | (with_reducible (first | apply condA_if | apply stepDG_ifN | apply stepDG_if | apply stepG_ifN | apply stepG_if)) <;> intro hb <;> (have hif := hb) <;> (try simp only [bo] at hif) <;> (try simp -implicitDefEqProofs (disch := omega) only [go_sem, hb]) <;> clear hb
       | simp (maxSteps := 1000000) -implicitDefEqProofs (disch := omega) only [go_sem])
     all_goals first | (exfalso; omega) | omega | skip
     exact retf [1600] [2] [.sl 2 (L.map encGd) false]
def checkS (g : Gau) (ls rs : List Grd) : Int := if 8 < ls.length ∨ 8 < rs.length then 5 else chkR g (ls ++ rs)
theorem checkS_ok {g : Gau} {ls rs : List Grd} (h : checkS g ls rs = 0) : ls.length ≤ 8 ∧ rs.length ≤ 8 ∧ GauOk g ∧ ∃ n, n ≤ 4 ∧ (∀ x ∈ ls, GrdOk n x) ∧ ∀ x ∈ rs, GrdOk n x := by
 unfold checkS at h
 split at h
 · cases h
 · rename_i hn
   obtain ⟨hg, n, hn4, hall⟩ := chk_ok h
   exact ⟨by omega, by omega, hg, n, hn4, fun x hx => hall x (List.mem_append_left _ hx), fun x hx => hall x (List.mem_append_right _ hx)⟩
theorem Check_stock (g : Gau) (ls rs : List Grd) (e1 e2 : Bool) (hl : ls.length ≤ 4611686018427387904) (hr : rs.length ≤ 4611686018427387904) (hlc : ∀ x ∈ ls, x.2.length ≤ 4611686018427387904) (hrc : ∀ x ∈ rs, x.2.length ≤ 4611686018427387904) :
   Ct Tryd.prog 25 [encSt ls rs e1 e2, encGa g] (int (checkS g ls rs)) := by
 by_cases hbig : 8 < ls.length ∨ 8 < rs.length
 · rw [checkS, if_pos hbig]
   refine fn_enter Tryd.func25 rfl (by decide) Tryd.results25 Tryd.ntmps25 ?_ rfl (by simp (maxSteps := 1000000) -implicitDefEqProofs (disch := omega) only [go_sem]; rfl) fun base => ?_
   · first | assumption | (simp only [go_sem] <;> assumption) | (simp only [go_sem, *]; done) | (simp [go_sem]; done)
   repeat' (first
     | (with_reducible apply Req_intro); focus (first | omega | assumption | (simp; done))
     | with_reducible (first | apply Req_intro | refine nilT ?_ fun hn => ?_ | apply wk_draw Tryd_mixed | refine drawEnd (by kernel_rfl) ?_)
     | (with_reducible (first | apply condA_if | apply stepDG_ifN | apply stepDG_if | apply stepG_ifN | apply stepG_if)) <;> intro hb <;> (have hif := hb) <;> (try simp only [bo] at hif) <;> (try simp -implicitDefEqProofs (disch := omega) only [go_sem, hb]) <;> clear hb
     | simp (maxSteps := 1000000) -implicitDefEqProofs (disch := omega) only [go_sem])
   all_goals first | (exfalso; omega) | omega | skip
   refine ret_do ?_
   rfl
 rw [checkS, if_neg hbig]
 have hca := checkAll_spec g (ls ++ rs) false (by rw [List.length_append]; omega) (fun x hx => by
   rcases List.mem_append.1 hx with h | h
   · exact hlc x h
   · exact hrc x h)
 by_cases h0 : 0 < ls.length + rs.length
 · have hc := Concat_spec ls rs e1 e2 true h0 (by omega) (by omega)
   refine fn_enter Tryd.func25 rfl (by decide) Tryd.results25 Tryd.ntmps25 ?_ rfl (by simp (maxSteps := 1000000) -implicitDefEqProofs (disch := omega) only [go_sem]; rfl) fun base => ?_
   · first | assumption | (simp only [go_sem] <;> assumption) | (simp only [go_sem, *]; done) | (simp [go_sem]; done)
   repeat' (first
     | (with_reducible apply Req_intro); focus (first | omega | assumption | (simp; done))
     | with_reducible (first | apply Req_intro | refine nilT ?_ fun hn => ?_ | apply wk_draw Tryd_mixed | refine drawEnd (by kernel_rfl) ?_)
     | (with_reducible (first | apply condA_if | apply stepDG_ifN | apply stepDG_if | apply stepG_ifN | apply stepG_if)) <;> intro hb <;> (have hif := hb) <;> (try simp only [bo] at hif) <;> (try simp -implicitDefEqProofs (disch := omega) only [go_sem, hb]) <;> clear hb
     | simp (maxSteps := 1000000) -implicitDefEqProofs (disch := omega) only [go_sem])
   all_goals first | (exfalso; omega) | omega | skip
   refine calldf 1024 hc ?_
   try simp (maxSteps := 1000000) -implicitDefEqProofs (disch := omega) only [go_sem]
   repeat' (first
     | (with_reducible apply Req_intro); focus (first | omega | assumption | (simp; done))
     | with_reducible (first | apply Req_intro | refine nilT ?_ fun hn => ?_ | apply wk_draw Tryd_mixed | refine drawEnd (by kernel_rfl) ?_)
     | (with_reducible (first | apply condA_if | apply stepDG_ifN | apply stepDG_if | apply stepG_ifN | apply stepG_if)) <;> intro hb <;> (have hif := hb) <;> (try simp only [bo] at hif) <;> (try simp -implicitDefEqProofs (disch := omega) only [go_sem, hb]) <;> clear hb
     | simp (maxSteps := 1000000) -implicitDefEqProofs (disch := omega) only [go_sem])
   refine calld hca ?_
   try simp (maxSteps := 1000000) -implicitDefEqProofs (disch := omega) only [go_sem]
   repeat' (first
     | (with_reducible apply Req_intro); focus (first | omega | assumption | (simp; done))
     | with_reducible (first | apply Req_intro | refine nilT ?_ fun hn => ?_ | apply wk_draw Tryd_mixed | refine drawEnd (by kernel_rfl) ?_)
     | (with_reducible (first | apply condA_if | apply stepDG_ifN | apply stepDG_if | apply stepG_ifN | apply stepG_if)) <;> intro hb <;> (have hif := hb) <;> (try simp only [bo] at hif) <;> (try simp -implicitDefEqProofs (disch := omega) only [go_sem, hb]) <;> clear hb
     | simp (maxSteps := 1000000) -implicitDefEqProofs (disch := omega) only [go_sem])
   refine ret_do ?_
   rfl
 · have hn1 : ls = [] := List.eq_nil_of_length_eq_zero (by omega)
   have hn2 : rs = [] := List.eq_nil_of_length_eq_zero (by omega)
   subst hn1
   subst hn2
   have hc := Concat_none e1 e2 true
   refine fn_enter Tryd.func25 rfl (by decide) Tryd.results25 Tryd.ntmps25 ?_ rfl (by simp (maxSteps := 1000000) -implicitDefEqProofs (disch := omega) only [go_sem]; rfl) fun base => ?_
   · first | assumption | (simp only [go_sem] <;> assumption) | (simp only [go_sem, *]; done) | (simp [go_sem]; done)
   repeat' (first
     | (with_reducible apply Req_intro); focus (first | omega | assumption | (simp; done))
     | with_reducible (first | apply Req_intro | refine nilT ?_ fun hn => ?_ | apply wk_draw Tryd_mixed | refine drawEnd (by kernel_rfl) ?_)
     | (with_reducible (first | apply condA_if | apply stepDG_ifN | apply stepDG_if | apply stepG_ifN | apply stepG_if)) <;> intro hb <;> (have hif := hb) <;> (try simp only [bo] at hif) <;> (try simp -implicitDefEqProofs (disch := omega) only [go_sem, hb]) <;> clear hb
     | simp (maxSteps := 1000000) -implicitDefEqProofs (disch := omega) only [go_sem])
   all_goals first | (exfalso; omega) | omega | skip
   refine calldf 1024 hc ?_
   try simp (maxSteps := 1000000) -implicitDefEqProofs (disch := omega) only [go_sem]
   repeat' (first
     | (with_reducible apply Req_intro); focus (first | omega | assumption | (simp; done))
     | with_reducible (first | apply Req_intro | refine nilT ?_ fun hn => ?_ | apply wk_draw Tryd_mixed | refine drawEnd (by kernel_rfl) ?_)
     | (with_reducible (first | apply condA_if | apply stepDG_ifN | apply stepDG_if | apply stepG_ifN | apply stepG_if)) <;> intro hb <;> (have hif := hb) <;> (try simp only [bo] at hif) <;> (try simp -implicitDefEqProofs (disch := omega) only [go_sem, hb]) <;> clear hb
     | simp (maxSteps := 1000000) -implicitDefEqProofs (disch := omega) only [go_sem])
   refine calld hca ?_
   try simp (maxSteps := 1000000) -implicitDefEqProofs (disch := omega) only [go_sem]
   repeat' (first
     | (with_reducible apply Req_intro); focus (first | omega | assumption | (simp; done))
     | with_reducible (first | apply Req_intro | refine nilT ?_ fun hn => ?_ | apply wk_draw Tryd_mixed | refine drawEnd (by kernel_rfl) ?_)
     | (with_reducible (first | apply condA_if | apply stepDG_ifN | apply stepDG_if | apply stepG_ifN | apply stepG_if)) <;> intro hb <;> (have hif := hb) <;> (try simp only [bo] at hif) <;> (try simp -implicitDefEqProofs (disch := omega) only [go_sem, hb]) <;> clear hb
     | simp (maxSteps := 1000000) -implicitDefEqProofs (disch := omega) only [go_sem])
   refine ret_do ?_
   rfl
end Go.Aw
end
section
namespace Go.Aw
open Go.RowKit Go.Proofs
def encP (p : Nat × Nat) : List V := [.lit (.int .i64 p.1), .lit (.int .i64 p.2)]
@[go_sem] theorem encP_eq (p : Nat × Nat) : encP p = [.lit (.int .i64 p.1), .lit (.int .i64 p.2)] := rfl
theorem nine_without {t : List Nat} (hf : Nine t) (l r : Nat) : Nine (withoutR t l r) := by
 intro x hx
 rw [withoutR, List.mem_mapIdx] at hx
 obtain ⟨i, hi, rfl⟩ := hx
 split
 · decide
 · have := ndiff_le t[i] r
   have := hf _ (List.getElem_mem hi)
   omega
theorem pairsTo_nine {t : List Nat} (hf : Nine t) : ∀ i, Nine (pairsTo t i).2 ∧ (pairsTo t i).2.length = t.length ∧ (pairsTo t i).1.length ≤ i
 | 0 => ⟨hf, rfl, Nat.le_refl _⟩
 | i + 1 => by
   obtain ⟨h1, h2, h3⟩ := pairsTo_nine hf i
   rw [pairsTo]
   split
   · exact ⟨nine_without (nine_without h1 _ _) _ _, by rw [withoutR_len, withoutR_len, h2], by rw [List.length_append]; simp; omega⟩
   · exact ⟨nine_without h1 _ _, by rw [withoutR_len, h2], by show (pairsTo t i).1.length ≤ i + 1; omega⟩
theorem mem_bits {x r : Nat} (h : r ∈ bitsL x) : x.testBit r = true := (List.mem_filter.1 h).2
theorem bit_lt9 {x r : Nat} (hx : x < 512) (h : r ∈ bitsL x) : r < 9 := by
 have h1 := mem_bits h
 have h2 := Nat.ge_two_pow_of_testBit h1
 apply Nat.lt_of_not_le
 intro h3
 have := Nat.pow_le_pow_right (n := 2) (by decide) h3
 omega
theorem find_at {α : Type} {l : List α} {p : α → Bool} : ∀ {k : Nat} {r : α}, (∀ y ∈ l.take k, p y = false) → l[k]? = some r → p r = true → l.find? p = some r := by
 induction l with
 | nil => intro k r _ h; cases h
 | cons a l ih =>
   intro k r h1 h2 h3
   cases k with
   | zero => cases h2; simp [h3]
   | succ k =>
     rw [List.find?_cons_of_neg (by rw [h1 a (by simp)]; decide)]
     exact ih (fun y hy => h1 y (by simp [hy])) h2 h3
theorem pop_le (x : Nat) : popR x ≤ 16 := by have := List.countP_le_length (p := fun i => x.testBit i) (l := List.range 16); simpa [popR] using this
theorem most_small {t : List Nat} (hf : Nine t) (hl : t.length ≤ 16) : mostR t ≤ 100 := by
 have h1 := konig_le hf.few hl 0
 have h2 := pop_le 0
 have h3 := pop_le (coverR t 0)
 unfold sizeR at h1
 omega
theorem pairs_spec (t : List Nat) (hf : Nine t) (hl8 : t.length ≤ 8) : Ct Tryd.prog 66 [.sl 1 (t.map encU) false] (.sl 2 ((pairsR t).map encP) false) := by
 refine ct_enterZ Tryd.func66 rfl (by decide) Tryd.results66 Tryd.ntmps66 ?_ rfl (by simp (maxSteps := 1000000) -implicitDefEqProofs (disch := omega) only [go_sem]; rfl) fun base => ?_
 · first | assumption | (simp only [go_sem] <;> assumption) | (simp only [go_sem, *]; done) | (simp [go_sem]; done)
 repeat' (first
   | (with_reducible apply Req_intro); focus (first | omega | assumption | (simp; done))
   | with_reducible (first | apply Req_intro | refine nilT ?_ fun hn => ?_ | apply wk_draw Tryd_mixed | refine drawEnd (by kernel_rfl) ?_)
   | (with_reducible (first | apply condA_if | apply stepDG_ifN | apply stepDG_if | apply stepG_ifN | apply stepG_if)) <;> intro hb <;> (have hif := hb) <;> (try simp only [bo] at hif) <;> (try simp -implicitDefEqProofs (disch := omega) only [go_sem, hb]) <;> clear hb
   | simp (maxSteps := 1000000) -implicitDefEqProofs (disch := omega) only [go_sem])
 refine loop_rows (α := Nat) [3, 4, 5, 8, 9, 10, 11, 12, 13, 14, 15, 16, 17, 18, 19, 20, 21, 22, 23, 24, 25, 26, 27, 28, 29, 30, 31, 32, 33, 34, 35, 36, 37, 38, 39, 40] (fun i => [(8, .lit (.int .i64 i))]) (fun i => [(0, some ⟨1, [[.sl 1 ((pairsTo t i).2.map encU) false]], 107, .wr⟩), (64, some ⟨1, [[.os 192 2 (pairsTo t i).1.length false]], 42, .wr⟩), (192, some ⟨2, (pairsTo t i).1.map encP, 85, .wr⟩)]) (fun i => i ≤ t.length) (fun i => t.length - i) 0 (fun x => by simp (maxSteps := 1000000) -implicitDefEqProofs (disch := omega) only [go_sem]; rfl) ?_ ?_ fun x hx => ?_
 · simp only [pairsTo, List.map_nil, List.length_nil]
   exact weak_do3 [(192, 1000000)]
 · exact Nat.zero_le _
 by_cases hlt : x < t.length
 · obtain ⟨hT1, hT2, hT3⟩ := pairsTo_nine hf x
   have hst : pairsTo t (x + 1) = match pairAt (pairsTo t x).2 x with
     | some r => ((pairsTo t x).1 ++ [(x, r)], withoutR (withoutR (pairsTo t x).2 (2 ^ x) (2 ^ r)) (2 ^ x) 0)
     | none => ((pairsTo t x).1, withoutR (pairsTo t x).2 (2 ^ x) 0) := rfl
   generalize (pairsTo t x).2 = T at *
   generalize (pairsTo t x).1 = L at *
   have hrow := hT1 _ (getD_mem (i := x) (by omega))
   have hp9 := pow_lt9 (r := x) (by omega)
   have f3 : (1 : Int) * 2 ^ min x 64 = ((2 ^ x : Nat) : Int) := by rw [Nat.min_eq_left (by omega), Int.one_mul, Int.natCast_pow]; rfl
   repeat' (first
     | (with_reducible apply Req_intro); focus (first | omega | assumption | (simp; done))
     | with_reducible (first | apply Req_intro | refine nilT ?_ fun hn => ?_ | apply wk_draw Tryd_mixed | refine drawEnd (by kernel_rfl) ?_)
     | (with_reducible (first | apply condA_if | apply stepDG_ifN | apply stepDG_if | apply stepG_ifN | apply stepG_if)) <;> intro hb <;> (have hif := hb) <;> (try simp only [bo] at hif) <;> (try simp -implicitDefEqProofs (disch := omega) only [go_sem, hb]) <;> clear hb
     | simp (maxSteps := 1000000) -implicitDefEqProofs (disch := omega) only [go_sem])
   all_goals first | (exfalso; omega) | omega | skip
   refine call_box (bitsOf_box _) ?_ ⟨_, Tryd.func81, by rfl, by decide⟩
   try simp (maxSteps := 1000000) -implicitDefEqProofs (disch := omega) only [go_sem]
   repeat' (first
     | (with_reducible apply Req_intro); focus (first | omega | assumption | (simp; done))
     | with_reducible (first | apply Req_intro | refine nilT ?_ fun hn => ?_ | apply wk_draw Tryd_mixed | refine drawEnd (by kernel_rfl) ?_)
     | (with_reducible (first | apply condA_if | apply stepDG_ifN | apply stepDG_if | apply stepG_ifN | apply stepG_if)) <;> intro hb <;> (have hif := hb) <;> (try simp only [bo] at hif) <;> (try simp -implicitDefEqProofs (disch := omega) only [go_sem, hb]) <;> clear hb
     | simp (maxSteps := 1000000) -implicitDefEqProofs (disch := omega) only [go_sem])
   have hbits := fun (r : Nat) (hr : r ∈ bitsL (T.getD x default)) => bit_lt9 hrow hr
   have hpa : pairAt T x = (bitsL (T.getD x default)).find? fun r => 1 + mostR (withoutR T (2 ^ x) (2 ^ r)) == mostR T := rfl
   have hit := bits_it (T.getD x default) hrow
   generalize bitsL (T.getD x default) = bl at *
   refine range_own (α := List (Nat × Nat) × List Nat) [] 832 ⟨1, [[u64 (T.getD x default)]], 112, .wr⟩ (fun z => [(0, some ⟨1, [[.sl 1 (z.2.map encU) false]], 107, .wr⟩), (64, some ⟨1, [[.os 1152 2 z.1.length false]], 42, .wr⟩), (1152, some ⟨2, z.1.map encP, 85, .wr⟩), (448, some ⟨1, [[int x]], 3, .wr⟩)]) (fun _ => 0) (fun _ => false) (fun k z => z = (L, T) ∧ ∀ y ∈ bl.take k, (1 + mostR (withoutR T (2 ^ x) (2 ^ y)) == mostR T) = false) (fun c z => c = .exit 2 ∧ ∃ r, pairAt T x = some r ∧ z = (L ++ [(x, r)], withoutR T (2 ^ x) (2 ^ r))) (L, T) 1216 (by first | (simp (maxSteps := 1000000) -implicitDefEqProofs (disch := omega) only [go_sem]; done) | (simp (maxSteps := 1000000) -implicitDefEqProofs (disch := omega) only [go_sem]; rfl)) (by first | (simp (maxSteps := 1000000) -implicitDefEqProofs (disch := omega) only [go_sem]; done) | (simp (maxSteps := 1000000) -implicitDefEqProofs (disch := omega) only [go_sem]; rfl)) hit ?_ rfl (pu_one _) (by decide) ?_ ?_ (by rfl) ?_ ?_ ?_ ?_ ?_ ?_ (fun base' => ?_) ?_ ?_ ?_
   · first | assumption | (simp only [go_sem] <;> assumption) | (simp only [go_sem, *]; done) | (simp [go_sem]; done)
   · intro y hy
     rw [List.mem_map] at hy
     obtain ⟨w, _, rfl⟩ := hy
     rfl
   · exact weak_do3 [(1152, 192)]
   · rfl
   · rfl
   · exact ⟨rfl, by simp⟩
   · repeat' (first
       | with_reducible exact idsLt_nil
       | with_reducible refine idsLt_cons ?_ ?_
       | with_reducible exact IdLt.pu _ Pu_undef
       | with_reducible exact IdLt.pu _ (Pu_lit _)
       | ((with_reducible refine IdLt.ref _ _ _ _ ?_); decide)
       | ((with_reducible refine IdLt.os _ _ _ _ ?_); decide)
       | ((with_reducible refine IdLt.pu _ ?_); first | assumption | (simp only [go_sem] <;> assumption) | (simp only [go_sem, *]; done) | (simp [go_sem]; done))
       | (with_reducible refine idLt_fn ?_ ?_)
       | (with_reducible refine idLt_agg ?_))
   · decide
   · decide
   · rintro k z y ⟨rfl, hz⟩ hy
     rw [List.getElem?_map, Option.map_eq_some_iff] at hy
     obtain ⟨w, hw, rfl⟩ := hy
     have hw9 := hbits w (List.mem_of_getElem? hw)
     have hq9 := pow_lt9 hw9
     have f4 : (1 : Int) * 2 ^ min w 64 = ((2 ^ w : Nat) : Int) := by rw [Nat.min_eq_left (by omega), Int.one_mul, Int.natCast_pow]; rfl
     have c1 := without_spec T false (2 ^ x) (2 ^ w) hT1 (by omega) hp9 hq9
     have c2 := most_spec (withoutR T (2 ^ x) (2 ^ w)) (nine_without hT1 _ _) false (by rw [withoutR_len]; omega)
     have c3 := most_spec T hT1 false (by omega)
     have m1 : mostR (withoutR T (2 ^ x) (2 ^ w)) ≤ 100 := most_small (nine_without hT1 _ _) (by rw [withoutR_len]; omega)
     have hpw : (1 + mostR (withoutR T (2 ^ x) (2 ^ w)) == mostR T) = true → pairAt T x = some w := fun h => by rw [hpa]; exact find_at hz hw h
     simp only at *
     have hnp : ¬ (1 + (mostR (withoutR T (2 ^ x) (2 ^ w)) : Int)) = (mostR T : Int) → (1 + mostR (withoutR T (2 ^ x) (2 ^ w)) == mostR T) = false := fun h => beq_eq_false_iff_ne.2 (by omega)
     generalize hT' : withoutR T (2 ^ x) (2 ^ w) = T' at *
     generalize hqx : 2 ^ x = qx at *
     generalize hqw : 2 ^ w = qw at *
     repeat' (first
       | (with_reducible apply Req_intro); focus (first | omega | assumption | (simp; done))
       | with_reducible (first | apply Req_intro | refine nilT ?_ fun hn => ?_ | apply wk_draw Tryd_mixed | refine drawEnd (by kernel_rfl) ?_)
       | (with_reducible (first | apply condA_if | apply stepDG_ifN | apply stepDG_if | apply stepG_ifN | apply stepG_if)) <;> intro hb <;> (have hif := hb) <;> (try simp only [bo] at hif) <;> (try simp -implicitDefEqProofs (disch := omega) only [go_sem, hb, f3, f4]) <;> clear hb
       | simp (maxSteps := 1000000) -implicitDefEqProofs (disch := omega) only [go_sem, f3, f4])
     all_goals first | (exfalso; omega) | omega | skip
     refine calld c1 ?_
     try simp (maxSteps := 1000000) -implicitDefEqProofs (disch := omega) only [go_sem]
     repeat' (first
       | (with_reducible apply Req_intro); focus (first | omega | assumption | (simp; done))
       | with_reducible (first | apply Req_intro | refine nilT ?_ fun hn => ?_ | apply wk_draw Tryd_mixed | refine drawEnd (by kernel_rfl) ?_)
       | (with_reducible (first | apply condA_if | apply stepDG_ifN | apply stepDG_if | apply stepG_ifN | apply stepG_if)) <;> intro hb <;> (have hif := hb) <;> (try simp only [bo] at hif) <;> (try simp -implicitDefEqProofs (disch := omega) only [go_sem, hb]) <;> clear hb
       | simp (maxSteps := 1000000) -implicitDefEqProofs (disch := omega) only [go_sem])
     refine calld c2 ?_
     try simp (maxSteps := 1000000) -implicitDefEqProofs (disch := omega) only [go_sem]
     repeat' (first
       | (with_reducible apply Req_intro); focus (first | omega | assumption | (simp; done))
       | with_reducible (first | apply Req_intro | refine nilT ?_ fun hn => ?_ | apply wk_draw Tryd_mixed | refine drawEnd (by kernel_rfl) ?_)
       | (with_reducible (first | apply condA_if | apply stepDG_ifN | apply stepDG_if | apply stepG_ifN | apply stepG_if)) <;> intro hb <;> (have hif := hb) <;> (try simp only [bo] at hif) <;> (try simp -implicitDefEqProofs (disch := omega) only [go_sem, hb]) <;> clear hb
       | simp (maxSteps := 1000000) -implicitDefEqProofs (disch := omega) only [go_sem])
     refine calld c3 ?_
     try simp (maxSteps := 1000000) -implicitDefEqProofs (disch := omega) only [go_sem]
     repeat' (first
       | (with_reducible apply Req_intro); focus (first | omega | assumption | (simp; done))
       | with_reducible (first | apply Req_intro | refine nilT ?_ fun hn => ?_ | apply wk_draw Tryd_mixed | refine drawEnd (by kernel_rfl) ?_)
       | (with_reducible (first | apply condA_if | apply stepDG_ifN | apply stepDG_if | apply stepG_ifN | apply stepG_if)) <;> intro hb <;> (have hif := hb) <;> (try simp only [bo] at hif) <;> (try simp -implicitDefEqProofs (disch := omega) only [go_sem, hb]) <;> clear hb
       | simp (maxSteps := 1000000) -implicitDefEqProofs (disch := omega) only [go_sem])
     all_goals first | (exfalso; omega) | omega | skip
     · rw [show List.map encP L ++ [[V.lit (.int .i64 x), V.lit (.int .i64 w)]] = (L ++ [(x, w)]).map encP from by rw [List.map_append]; rfl, show L.length + 1 = (L ++ [(x, w)]).length from by simp]
       refine rnd_exit (L ++ [(x, w)], T') ⟨rfl, w, hpw (beq_iff_eq.2 (by omega)), by rw [hqw, hT']⟩ ?_
       exact forget_do [(1152, 2432)]
     · refine rnd_next (L, T) ⟨rfl, fun y hy => ?_⟩ ?_
       · rw [List.take_add_one, hw] at hy
         rcases List.mem_append.1 hy with h | h
         · exact hz y h
         · simp at h
           subst h
           rw [hqw, hT']
           exact hnp hif
       · exact forget_do []
   · rintro z ⟨rfl, hz⟩
     have hno : pairAt T x = none := by
       rw [hpa, List.find?_eq_none]
       intro y hy
       rw [hz y (by simpa using hy)]; decide
     rw [hno] at hst
     simp only at hst
     have c1 := without_spec T false (2 ^ x) 0 hT1 (by omega) hp9 (by decide)
     generalize hqx : 2 ^ x = qx at *
     repeat' (first
       | (with_reducible apply Req_intro); focus (first | omega | assumption | (simp; done))
       | with_reducible (first | apply Req_intro | refine nilT ?_ fun hn => ?_ | apply wk_draw Tryd_mixed | refine drawEnd (by kernel_rfl) ?_)
       | (with_reducible (first | apply condA_if | apply stepDG_ifN | apply stepDG_if | apply stepG_ifN | apply stepG_if)) <;> intro hb <;> (have hif := hb) <;> (try simp only [bo] at hif) <;> (try simp -implicitDefEqProofs (disch := omega) only [go_sem, hb, f3]) <;> clear hb
       | simp (maxSteps := 1000000) -implicitDefEqProofs (disch := omega) only [go_sem, f3])
     refine calld c1 ?_
     try simp (maxSteps := 1000000) -implicitDefEqProofs (disch := omega) only [go_sem]
     repeat' (first
       | (with_reducible apply Req_intro); focus (first | omega | assumption | (simp; done))
       | with_reducible (first | apply Req_intro | refine nilT ?_ fun hn => ?_ | apply wk_draw Tryd_mixed | refine drawEnd (by kernel_rfl) ?_)
       | (with_reducible (first | apply condA_if | apply stepDG_ifN | apply stepDG_if | apply stepG_ifN | apply stepG_if)) <;> intro hb <;> (have hif := hb) <;> (try simp only [bo] at hif) <;> (try simp -implicitDefEqProofs (disch := omega) only [go_sem, hb]) <;> clear hb
       | simp (maxSteps := 1000000) -implicitDefEqProofs (disch := omega) only [go_sem])
     all_goals first | (exfalso; omega) | omega | skip
     with_reducible refine nxt_w (x + 1) ?_ ?_
     · (try dsimp only)
       rw [hst]
       exact weak_do3 [(192, 1152)]
     try dsimp only
     omega
   · rintro z ⟨h, _⟩
     cases h
   · rintro id z ⟨h, r, hr, rfl⟩
     cases h
     rw [hr] at hst
     simp only at hst
     have c1 := without_spec (withoutR T (2 ^ x) (2 ^ r)) false (2 ^ x) 0 (nine_without hT1 _ _) (by rw [withoutR_len]; omega) hp9 (by decide)
     generalize withoutR T (2 ^ x) (2 ^ r) = T' at *
     generalize hqx : 2 ^ x = qx at *
     repeat' (first
       | (with_reducible apply Req_intro); focus (first | omega | assumption | (simp; done))
       | with_reducible (first | apply Req_intro | refine nilT ?_ fun hn => ?_ | apply wk_draw Tryd_mixed | refine drawEnd (by kernel_rfl) ?_)
       | (with_reducible (first | apply condA_if | apply stepDG_ifN | apply stepDG_if | apply stepG_ifN | apply stepG_if)) <;> intro hb <;> (have hif := hb) <;> (try simp only [bo] at hif) <;> (try simp -implicitDefEqProofs (disch := omega) only [go_sem, hb, f3]) <;> clear hb
       | simp (maxSteps := 1000000) -implicitDefEqProofs (disch := omega) only [go_sem, f3])
     refine calld c1 ?_
     try simp (maxSteps := 1000000) -implicitDefEqProofs (disch := omega) only [go_sem]
     repeat' (first
       | (with_reducible apply Req_intro); focus (first | omega | assumption | (simp; done))
       | with_reducible (first | apply Req_intro | refine nilT ?_ fun hn => ?_ | apply wk_draw Tryd_mixed | refine drawEnd (by kernel_rfl) ?_)
       | (with_reducible (first | apply condA_if | apply stepDG_ifN | apply stepDG_if | apply stepG_ifN | apply stepG_if)) <;> intro hb <;> (have hif := hb) <;> (try simp only [bo] at hif) <;> (try simp -implicitDefEqProofs (disch := omega) only [go_sem, hb]) <;> clear hb
       | simp (maxSteps := 1000000) -implicitDefEqProofs (disch := omega) only [go_sem])
     all_goals first | (exfalso; omega) | omega | skip
     with_reducible refine nxt_w (x + 1) ?_ ?_
     · (try dsimp only)
       rw [hst]
       exact weak_do3 [(192, 1152)]
     try dsimp only
     omega
 · obtain rfl : x = t.length := by omega
   repeat' (first
     | (with_reducible apply Req_intro); focus (first | omega | assumption | (simp; done))
     | with_reducible (first | apply Req_intro | refine nilT ?_ fun hn => ?_ | apply wk_draw Tryd_mixed | refine drawEnd (by kernel_rfl) ?_)
     | (with_reducible (first | apply condA_if | apply stepDG_ifN | apply stepDG_if | apply stepG_ifN | apply stepG_if)) <;> intro hb <;> (have hif := hb) <;> (try simp only [bo] at hif) <;> (try simp -implicitDefEqProofs (disch := omega) only [go_sem, hb]) <;> clear hb
     | simp (maxSteps := 1000000) -implicitDefEqProofs (disch := omega) only [go_sem])
   all_goals first | (exfalso; omega) | omega | skip
   rw [show pairsR t = (pairsTo t t.length).1 from rfl]
   exact retz [192]
end Go.Aw
end
section
namespace Go.Aw
open Go.RowKit Go.Proofs
structure StOk (ls rs : List Grd) : Prop where
 l : ls.length ≤ 1000
 r : rs.length ≤ 1000
 lc : ∀ x ∈ ls, x.2.length ≤ 1000
 rc : ∀ x ∈ rs, x.2.length ≤ 1000
theorem Check_st (g : Gau) {ls rs : List Grd} (e1 e2 : Bool) (h : StOk ls rs) : Ct Tryd.prog 25 [encSt ls rs e1 e2, encGa g] (int (checkS g ls rs)) :=
 Check_stock g ls rs e1 e2 (by have := h.l; omega) (by have := h.r; omega) (fun x hx => by have := h.lc x hx; omega) (fun x hx => by have := h.rc x hx; omega)
theorem table_nine (g : Gau) (ls rs : List Grd) (k : Int) (h : rs.length ≤ 9) : Nine (tableR g ls rs k) := by
 intro m hm
 rw [tableR, List.mem_map] at hm
 obtain ⟨a, _, rfl⟩ := hm
 exact bitsIf_lt9 h
theorem Pairs_ok (g : Gau) (ls rs : List Grd) (e1 e2 : Bool) (hs : StOk ls rs) (hc : checkS g ls rs = 0) : Ct Tryd.prog 26 [encSt ls rs e1 e2, encGa g] (.tup [.sl 2 ((pairsR (tableR g ls rs 2)).map encP) false, int 0]) := by
 have hk := Check_st g e1 e2 hs
 rw [hc] at hk
 obtain ⟨hl8, hr8, hg, n, hn, hl, hr⟩ := checkS_ok hc
 have ht := table_spec g ls rs e1 e2 2 n hn hg hl hr (by decide) hl8 (by omega)
 have hp := pairs_spec (tableR g ls rs 2) (table_nine g ls rs 2 (by omega)) (by rw [tableR_len]; exact hl8)
 refine fn_enter Tryd.func26 rfl (by decide) Tryd.results26 Tryd.ntmps26 ?_ rfl (by simp (maxSteps := 1000000) -implicitDefEqProofs (disch := omega) only [go_sem]; rfl) fun base => ?_
 · first | assumption | (simp only [go_sem] <;> assumption) | (simp only [go_sem, *]; done) | (simp [go_sem]; done)
 repeat' (first
   | (with_reducible apply Req_intro); focus (first | omega | assumption | (simp; done))
   | with_reducible (first | apply Req_intro | refine nilT ?_ fun hn => ?_ | apply wk_draw Tryd_mixed | refine drawEnd (by kernel_rfl) ?_)
   | (with_reducible (first | apply condA_if | apply stepDG_ifN | apply stepDG_if | apply stepG_ifN | apply stepG_if)) <;> intro hb <;> (have hif := hb) <;> (try simp only [bo] at hif) <;> (try simp -implicitDefEqProofs (disch := omega) only [go_sem, hb]) <;> clear hb
   | simp (maxSteps := 1000000) -implicitDefEqProofs (disch := omega) only [go_sem])
 refine callp hk ?_
 try simp (maxSteps := 1000000) -implicitDefEqProofs (disch := omega) only [go_sem]
 repeat' (first
   | (with_reducible apply Req_intro); focus (first | omega | assumption | (simp; done))
   | with_reducible (first | apply Req_intro | refine nilT ?_ fun hn => ?_ | apply wk_draw Tryd_mixed | refine drawEnd (by kernel_rfl) ?_)
   | (with_reducible (first | apply condA_if | apply stepDG_ifN | apply stepDG_if | apply stepG_ifN | apply stepG_if)) <;> intro hb <;> (have hif := hb) <;> (try simp only [bo] at hif) <;> (try simp -implicitDefEqProofs (disch := omega) only [go_sem, hb]) <;> clear hb
   | simp (maxSteps := 1000000) -implicitDefEqProofs (disch := omega) only [go_sem])
 refine callp ht ?_
 try simp (maxSteps := 1000000) -implicitDefEqProofs (disch := omega) only [go_sem]
 repeat' (first
   | (with_reducible apply Req_intro); focus (first | omega | assumption | (simp; done))
   | with_reducible (first | apply Req_intro | refine nilT ?_ fun hn => ?_ | apply wk_draw Tryd_mixed | refine drawEnd (by kernel_rfl) ?_)
   | (with_reducible (first | apply condA_if | apply stepDG_ifN | apply stepDG_if | apply stepG_ifN | apply stepG_if)) <;> intro hb <;> (have hif := hb) <;> (try simp only [bo] at hif) <;> (try simp -implicitDefEqProofs (disch := omega) only [go_sem, hb]) <;> clear hb
   | simp (maxSteps := 1000000) -implicitDefEqProofs (disch := omega) only [go_sem])
 refine callp hp ?_
 try simp (maxSteps := 1000000) -implicitDefEqProofs (disch := omega) only [go_sem]
 repeat' (first
   | (with_reducible apply Req_intro); focus (first | omega | assumption | (simp; done))
   | with_reducible (first | apply Req_intro | refine nilT ?_ fun hn => ?_ | apply wk_draw Tryd_mixed | refine drawEnd (by kernel_rfl) ?_)
   | (with_reducible (first | apply condA_if | apply stepDG_ifN | apply stepDG_if | apply stepG_ifN | apply stepG_if)) <;> intro hb <;> (have hif := hb) <;> (try simp only [bo] at hif) <;> (try simp -implicitDefEqProofs (disch := omega) only [go_sem, hb]) <;> clear hb
   | simp (maxSteps := 1000000) -implicitDefEqProofs (disch := omega) only [go_sem])
 refine ret_do ?_
 rfl
theorem Possible_ok (g : Gau) (ls rs : List Grd) (e1 e2 : Bool) (hs : StOk ls rs) (hc : checkS g ls rs = 0) : Ct Tryd.prog 27 [encSt ls rs e1 e2, encGa g] (.tup [int (mostR (tableR g ls rs (-2))), int 0]) := by
 have hk := Check_st g e1 e2 hs
 rw [hc] at hk
 obtain ⟨hl8, hr8, hg, n, hn, hl, hr⟩ := checkS_ok hc
 have ht := table_spec g ls rs e1 e2 (-2) n hn hg hl hr (by decide) hl8 (by omega)
 have hp := most_spec (tableR g ls rs (-2)) (table_nine g ls rs (-2) (by omega)) false (by rw [tableR_len]; exact hl8)
 refine fn_enter Tryd.func27 rfl (by decide) Tryd.results27 Tryd.ntmps27 ?_ rfl (by simp (maxSteps := 1000000) -implicitDefEqProofs (disch := omega) only [go_sem]; rfl) fun base => ?_
 · first | assumption | (simp only [go_sem] <;> assumption) | (simp only [go_sem, *]; done) | (simp [go_sem]; done)
 repeat' (first
   | (with_reducible apply Req_intro); focus (first | omega | assumption | (simp; done))
   | with_reducible (first | apply Req_intro | refine nilT ?_ fun hn => ?_ | apply wk_draw Tryd_mixed | refine drawEnd (by kernel_rfl) ?_)
   | (with_reducible (first | apply condA_if | apply stepDG_ifN | apply stepDG_if | apply stepG_ifN | apply stepG_if)) <;> intro hb <;> (have hif := hb) <;> (try simp only [bo] at hif) <;> (try simp -implicitDefEqProofs (disch := omega) only [go_sem, hb]) <;> clear hb
   | simp (maxSteps := 1000000) -implicitDefEqProofs (disch := omega) only [go_sem])
 refine callp hk ?_
 try simp (maxSteps := 1000000) -implicitDefEqProofs (disch := omega) only [go_sem]
 repeat' (first
   | (with_reducible apply Req_intro); focus (first | omega | assumption | (simp; done))
   | with_reducible (first | apply Req_intro | refine nilT ?_ fun hn => ?_ | apply wk_draw Tryd_mixed | refine drawEnd (by kernel_rfl) ?_)
   | (with_reducible (first | apply condA_if | apply stepDG_ifN | apply stepDG_if | apply stepG_ifN | apply stepG_if)) <;> intro hb <;> (have hif := hb) <;> (try simp only [bo] at hif) <;> (try simp -implicitDefEqProofs (disch := omega) only [go_sem, hb]) <;> clear hb
   | simp (maxSteps := 1000000) -implicitDefEqProofs (disch := omega) only [go_sem])
 refine callp ht ?_
 try simp (maxSteps := 1000000) -implicitDefEqProofs (disch := omega) only [go_sem]
 repeat' (first
   | (with_reducible apply Req_intro); focus (first | omega | assumption | (simp; done))
   | with_reducible (first | apply Req_intro | refine nilT ?_ fun hn => ?_ | apply wk_draw Tryd_mixed | refine drawEnd (by kernel_rfl) ?_)
   | (with_reducible (first | apply condA_if | apply stepDG_ifN | apply stepDG_if | apply stepG_ifN | apply stepG_if)) <;> intro hb <;> (have hif := hb) <;> (try simp only [bo] at hif) <;> (try simp -implicitDefEqProofs (disch := omega) only [go_sem, hb]) <;> clear hb
   | simp (maxSteps := 1000000) -implicitDefEqProofs (disch := omega) only [go_sem])
 refine callp hp ?_
 try simp (maxSteps := 1000000) -implicitDefEqProofs (disch := omega) only [go_sem]
 repeat' (first
   | (with_reducible apply Req_intro); focus (first | omega | assumption | (simp; done))
   | with_reducible (first | apply Req_intro | refine nilT ?_ fun hn => ?_ | apply wk_draw Tryd_mixed | refine drawEnd (by kernel_rfl) ?_)
   | (with_reducible (first | apply condA_if | apply stepDG_ifN | apply stepDG_if | apply stepG_ifN | apply stepG_if)) <;> intro hb <;> (have hif := hb) <;> (try simp only [bo] at hif) <;> (try simp -implicitDefEqProofs (disch := omega) only [go_sem, hb]) <;> clear hb
   | simp (maxSteps := 1000000) -implicitDefEqProofs (disch := omega) only [go_sem])
 refine ret_do ?_
 rfl
end Go.Aw
end
section
namespace Go.Aw
open Go.RowKit Go.Proofs
def filTo (p : Nat → Bool) (i : Nat) : List Nat := (List.range i).filter p
theorem filTo_zero (p : Nat → Bool) : filTo p 0 = [] := rfl
theorem filTo_yes {p : Nat → Bool} {i : Nat} (h : p i = true) : filTo p (i + 1) = filTo p i ++ [i] := by rw [filTo, List.range_succ, List.filter_append, List.filter_cons_of_pos (by simpa using h)]; rfl
theorem filTo_no {p : Nat → Bool} {i : Nat} (h : p i = false) : filTo p (i + 1) = filTo p i := by rw [filTo, List.range_succ, List.filter_append, List.filter_cons_of_neg (by simp [h])]; simp [filTo]
theorem filTo_len (p : Nat → Bool) (i : Nat) : (filTo p i).length ≤ i := by have := List.length_filter_le p (List.range i); rwa [List.length_range] at this
theorem natL_snoc (l : List Nat) (i : Nat) : natL (l ++ [i]) = natL l ++ [(i : Int)] := by rw [natL, natL, List.map_append]; rfl
theorem Spare_err (g : Gau) (ls rs : List Grd) (e1 e2 : Bool) (hs : StOk ls rs) (hc : checkS g ls rs ≠ 0) : Ct Tryd.prog 37 [encSt ls rs e1 e2, encGa g] (.tup [.lit (.slice none 0 0), .lit (.slice none 0 0), int (checkS g ls rs)]) := by
 have hk := Check_st g e1 e2 hs
 generalize checkS g ls rs = c at *
 refine fn_enter Tryd.func37 rfl (by decide) Tryd.results37 Tryd.ntmps37 ?_ rfl (by simp (maxSteps := 1000000) -implicitDefEqProofs (disch := omega) only [go_sem]; rfl) fun base => ?_
 · first | assumption | (simp only [go_sem] <;> assumption) | (simp only [go_sem, *]; done) | (simp [go_sem]; done)
 repeat' (first
   | (with_reducible apply Req_intro); focus (first | omega | assumption | (simp; done))
   | with_reducible (first | apply Req_intro | refine nilT ?_ fun hn => ?_ | apply wk_draw Tryd_mixed | refine drawEnd (by kernel_rfl) ?_)
   | (with_reducible (first | apply condA_if | apply stepDG_ifN | apply stepDG_if | apply stepG_ifN | apply stepG_if)) <;> intro hb <;> (have hif := hb) <;> (try simp only [bo] at hif) <;> (try simp -implicitDefEqProofs (disch := omega) only [go_sem, hb]) <;> clear hb
   | simp (maxSteps := 1000000) -implicitDefEqProofs (disch := omega) only [go_sem])
 refine callp hk ?_
 try simp (maxSteps := 1000000) -implicitDefEqProofs (disch := omega) only [go_sem]
 repeat' (first
   | (with_reducible apply Req_intro); focus (first | omega | assumption | (simp; done))
   | with_reducible (first | apply Req_intro | refine nilT ?_ fun hn => ?_ | apply wk_draw Tryd_mixed | refine drawEnd (by kernel_rfl) ?_)
   | (with_reducible (first | apply condA_if | apply stepDG_ifN | apply stepDG_if | apply stepG_ifN | apply stepG_if)) <;> intro hb <;> (have hif := hb) <;> (try simp only [bo] at hif) <;> (try simp -implicitDefEqProofs (disch := omega) only [go_sem, hb]) <;> clear hb
   | simp (maxSteps := 1000000) -implicitDefEqProofs (disch := omega) only [go_sem])
 all_goals first | exact absurd ‹c = 0› hc | skip
 refine ret_do ?_
 rfl
theorem Spare_ok (g : Gau) (ls rs : List Grd) (e1 e2 : Bool) (hs : StOk ls rs) (hc : checkS g ls rs = 0) : Ct Tryd.prog 37 [encSt ls rs e1 e2, encGa g] (.tup [.sl 1 ((natL (spareL (tableR g ls rs 2))).map encI) false, .sl 1 ((natL (spareRt (tableR g ls rs 2) rs.length)).map encI) false, int 0]) := by
 have hk := Check_st g e1 e2 hs
 rw [hc] at hk
 obtain ⟨hl8, hr8, hg, n, hn, hl, hr⟩ := checkS_ok hc
 have ht := table_spec g ls rs e1 e2 2 n hn hg hl hr (by decide) hl8 (by omega)
 have hn9 := table_nine g ls rs 2 (by omega)
 have hTl := tableR_len g ls rs 2
 generalize tableR g ls rs 2 = T at *
 have hm := most_spec T hn9 false (by omega)
 have hsl : spareL T = filTo (fun i => mostR (withoutR T (2 ^ i) 0) == mostR T) ls.length := by rw [spareL, hTl]; rfl
 have hsr : spareRt T rs.length = filTo (fun i => mostR (withoutR T 0 (2 ^ i)) == mostR T) rs.length := rfl
 have hp1 : ∀ i, (fun i => mostR (withoutR T (2 ^ i) 0) == mostR T) i = (mostR (withoutR T (2 ^ i) 0) == mostR T) := fun _ => rfl
 have hp2 : ∀ i, (fun i => mostR (withoutR T 0 (2 ^ i)) == mostR T) i = (mostR (withoutR T 0 (2 ^ i)) == mostR T) := fun _ => rfl
 rw [hsl, hsr]
 generalize (fun i => mostR (withoutR T (2 ^ i) 0) == mostR T) = p1 at *
 generalize (fun i => mostR (withoutR T 0 (2 ^ i)) == mostR T) = p2 at *
 refine fn_enter Tryd.func37 rfl (by decide) Tryd.results37 Tryd.ntmps37 ?_ rfl (by simp (maxSteps := 1000000) -implicitDefEqProofs (disch := omega) only [go_sem]; rfl) fun base => ?_
 · first | assumption | (simp only [go_sem] <;> assumption) | (simp only [go_sem, *]; done) | (simp [go_sem]; done)
 repeat' (first
   | (with_reducible apply Req_intro); focus (first | omega | assumption | (simp; done))
   | with_reducible (first | apply Req_intro | refine nilT ?_ fun hn => ?_ | apply wk_draw Tryd_mixed | refine drawEnd (by kernel_rfl) ?_)
   | (with_reducible (first | apply condA_if | apply stepDG_ifN | apply stepDG_if | apply stepG_ifN | apply stepG_if)) <;> intro hb <;> (have hif := hb) <;> (try simp only [bo] at hif) <;> (try simp -implicitDefEqProofs (disch := omega) only [go_sem, hb]) <;> clear hb
   | simp (maxSteps := 1000000) -implicitDefEqProofs (disch := omega) only [go_sem])
 refine callp hk ?_
 try simp (maxSteps := 1000000) -implicitDefEqProofs (disch := omega) only [go_sem]
 repeat' (first
   | (with_reducible apply Req_intro); focus (first | omega | assumption | (simp; done))
   | with_reducible (first | apply Req_intro | refine nilT ?_ fun hn => ?_ | apply wk_draw Tryd_mixed | refine drawEnd (by kernel_rfl) ?_)
   | (with_reducible (first | apply condA_if | apply stepDG_ifN | apply stepDG_if | apply stepG_ifN | apply stepG_if)) <;> intro hb <;> (have hif := hb) <;> (try simp only [bo] at hif) <;> (try simp -implicitDefEqProofs (disch := omega) only [go_sem, hb]) <;> clear hb
   | simp (maxSteps := 1000000) -implicitDefEqProofs (disch := omega) only [go_sem])
 refine callp ht ?_
 try simp (maxSteps := 1000000) -implicitDefEqProofs (disch := omega) only [go_sem]
 repeat' (first
   | (with_reducible apply Req_intro); focus (first | omega | assumption | (simp; done))
   | with_reducible (first | apply Req_intro | refine nilT ?_ fun hn => ?_ | apply wk_draw Tryd_mixed | refine drawEnd (by kernel_rfl) ?_)
   | (with_reducible (first | apply condA_if | apply stepDG_ifN | apply stepDG_if | apply stepG_ifN | apply stepG_if)) <;> intro hb <;> (have hif := hb) <;> (try simp only [bo] at hif) <;> (try simp -implicitDefEqProofs (disch := omega) only [go_sem, hb]) <;> clear hb
   | simp (maxSteps := 1000000) -implicitDefEqProofs (disch := omega) only [go_sem])
 refine loop_rows (α := Nat) [4, 9, 24, 25, 26, 27, 28, 29, 30, 31, 32, 33, 34, 35, 36, 37, 38, 39] (fun i => [(24, .lit (.int .i64 i)), (4, .os 128 1 (filTo p1 i).length false)]) (fun i => [(0, some ⟨2, [[.sl 2 (ls.map encGd) e1, .sl 2 (rs.map encGd) e2]], 38, .wr⟩), (64, some ⟨4, [[int g.sc, int g.ga, int g.we, int g.cu]], 26, .wr⟩), (128, some ⟨1, (natL (filTo p1 i)).map encI, 3, .wr⟩)]) (fun i => i ≤ ls.length) (fun i => ls.length - i) 0 (fun x => by simp (maxSteps := 1000000) -implicitDefEqProofs (disch := omega) only [go_sem]; rfl) ?_ ?_ fun x hx => ?_
 · simp only [filTo_zero, natL, List.map_nil, List.length_nil]
   exact weak_do3 [(128, 1000000)]
 · exact Nat.zero_le _
 by_cases hlt : x < ls.length
 · have hq9 := pow_lt9 (r := x) (by omega)
   have f4 : (1 : Int) * 2 ^ min x 64 = ((2 ^ x : Nat) : Int) := by rw [Nat.min_eq_left (by omega), Int.one_mul, Int.natCast_pow]; rfl
   have c1 := without_spec T false (2 ^ x) 0 hn9 (by omega) hq9 (by decide)
   have c2 := most_spec (withoutR T (2 ^ x) 0) (nine_without hn9 _ _) false (by rw [withoutR_len]; omega)
   have hpx := hp1 x
   have hfl := filTo_len p1 x
   have hnl := natL_len (filTo p1 x)
   generalize withoutR T (2 ^ x) 0 = T' at *
   generalize 2 ^ x = qx at *
   repeat' (first
     | (with_reducible apply Req_intro); focus (first | omega | assumption | (simp; done))
     | with_reducible (first | apply Req_intro | refine nilT ?_ fun hn => ?_ | apply wk_draw Tryd_mixed | refine drawEnd (by kernel_rfl) ?_)
     | (with_reducible (first | apply condA_if | apply stepDG_ifN | apply stepDG_if | apply stepG_ifN | apply stepG_if)) <;> intro hb <;> (have hif := hb) <;> (try simp only [bo] at hif) <;> (try simp -implicitDefEqProofs (disch := omega) only [go_sem, hb, f4]) <;> clear hb
     | simp (maxSteps := 1000000) -implicitDefEqProofs (disch := omega) only [go_sem, f4])
   all_goals first | (exfalso; omega) | omega | skip
   refine callp c1 ?_
   try simp (maxSteps := 1000000) -implicitDefEqProofs (disch := omega) only [go_sem]
   repeat' (first
     | (with_reducible apply Req_intro); focus (first | omega | assumption | (simp; done))
     | with_reducible (first | apply Req_intro | refine nilT ?_ fun hn => ?_ | apply wk_draw Tryd_mixed | refine drawEnd (by kernel_rfl) ?_)
     | (with_reducible (first | apply condA_if | apply stepDG_ifN | apply stepDG_if | apply stepG_ifN | apply stepG_if)) <;> intro hb <;> (have hif := hb) <;> (try simp only [bo] at hif) <;> (try simp -implicitDefEqProofs (disch := omega) only [go_sem, hb]) <;> clear hb
     | simp (maxSteps := 1000000) -implicitDefEqProofs (disch := omega) only [go_sem])
   refine callp c2 ?_
   try simp (maxSteps := 1000000) -implicitDefEqProofs (disch := omega) only [go_sem]
   repeat' (first
     | (with_reducible apply Req_intro); focus (first | omega | assumption | (simp; done))
     | with_reducible (first | apply Req_intro | refine nilT ?_ fun hn => ?_ | apply wk_draw Tryd_mixed | refine drawEnd (by kernel_rfl) ?_)
     | (with_reducible (first | apply condA_if | apply stepDG_ifN | apply stepDG_if | apply stepG_ifN | apply stepG_if)) <;> intro hb <;> (have hif := hb) <;> (try simp only [bo] at hif) <;> (try simp -implicitDefEqProofs (disch := omega) only [go_sem, hb]) <;> clear hb
     | simp (maxSteps := 1000000) -implicitDefEqProofs (disch := omega) only [go_sem])
   refine callp hm ?_
   try simp (maxSteps := 1000000) -implicitDefEqProofs (disch := omega) only [go_sem]
   repeat' (first
     | (with_reducible apply Req_intro); focus (first | omega | assumption | (simp; done))
     | with_reducible (first | apply Req_intro | refine nilT ?_ fun hn => ?_ | apply wk_draw Tryd_mixed | refine drawEnd (by kernel_rfl) ?_)
     | (with_reducible (first | apply condA_if | apply stepDG_ifN | apply stepDG_if | apply stepG_ifN | apply stepG_if)) <;> intro hb <;> (have hif := hb) <;> (try simp only [bo] at hif) <;> (try simp -implicitDefEqProofs (disch := omega) only [go_sem, hb]) <;> clear hb
     | simp (maxSteps := 1000000) -implicitDefEqProofs (disch := omega) only [go_sem])
   all_goals first | (exfalso; omega) | omega | skip
   · rw [beq_iff_eq.2 hif] at hpx
     rw [← natL_snoc]
     with_reducible refine nxt_w (x + 1) ?_ ?_
     · (try dsimp only)
       rw [filTo_yes hpx, List.length_append]
       exact weak_do3 [(128, 2176)]
     try dsimp only
     omega
   · rw [beq_eq_false_iff_ne.2 hif] at hpx
     with_reducible refine nxt_w (x + 1) ?_ ?_
     · (try dsimp only)
       rw [filTo_no hpx]
       exact weak_do3 []
     try dsimp only
     omega
 · obtain rfl : x = ls.length := by omega
   repeat' (first
     | (with_reducible apply Req_intro); focus (first | omega | assumption | (simp; done))
     | with_reducible (first | apply Req_intro | refine nilT ?_ fun hn => ?_ | apply wk_draw Tryd_mixed | refine drawEnd (by kernel_rfl) ?_)
     | (with_reducible (first | apply condA_if | apply stepDG_ifN | apply stepDG_if | apply stepG_ifN | apply stepG_if)) <;> intro hb <;> (have hif := hb) <;> (try simp only [bo] at hif) <;> (try simp -implicitDefEqProofs (disch := omega) only [go_sem, hb]) <;> clear hb
     | simp (maxSteps := 1000000) -implicitDefEqProofs (disch := omega) only [go_sem])
   all_goals first | (exfalso; omega) | omega | skip
   refine loop_rows (α := Nat) [5, 10, 43, 44, 45, 46, 47, 48, 49, 50, 51, 52, 53, 54, 55, 56, 57, 58] (fun i => [(43, .lit (.int .i64 i)), (5, .os 192 1 (filTo p2 i).length false)]) (fun i => [(0, some ⟨2, [[.sl 2 (ls.map encGd) e1, .sl 2 (rs.map encGd) e2]], 38, .wr⟩), (64, some ⟨4, [[int g.sc, int g.ga, int g.we, int g.cu]], 26, .wr⟩), (128, some ⟨1, (natL (filTo p1 ls.length)).map encI, 3, .wr⟩), (192, some ⟨1, (natL (filTo p2 i)).map encI, 3, .wr⟩)]) (fun i => i ≤ rs.length) (fun i => rs.length - i) 0 (fun x => by simp (maxSteps := 1000000) -implicitDefEqProofs (disch := omega) only [go_sem]; rfl) ?_ ?_ fun x hx => ?_
   · rw [filTo_zero p2]
     simp only [natL, List.map_nil, List.length_nil]
     exact weak_do3 [(192, 1000000)]
   · exact Nat.zero_le _
   by_cases hlt2 : x < rs.length
   · have hq9 := pow_lt9 (r := x) (by omega)
     have f4 : (1 : Int) * 2 ^ min x 64 = ((2 ^ x : Nat) : Int) := by rw [Nat.min_eq_left (by omega), Int.one_mul, Int.natCast_pow]; rfl
     have c1 := without_spec T false 0 (2 ^ x) hn9 (by omega) (by decide) hq9
     have c2 := most_spec (withoutR T 0 (2 ^ x)) (nine_without hn9 _ _) false (by rw [withoutR_len]; omega)
     have hpx := hp2 x
     have hfl := filTo_len p2 x
     have hnl := natL_len (filTo p2 x)
     generalize withoutR T 0 (2 ^ x) = T' at *
     generalize 2 ^ x = qx at *
     repeat' (first
       | (with_reducible apply Req_intro); focus (first | omega | assumption | (simp; done))
       | with_reducible (first | apply Req_intro | refine nilT ?_ fun hn => ?_ | apply wk_draw Tryd_mixed | refine drawEnd (by kernel_rfl) ?_)
       | (with_reducible (first | apply condA_if | apply stepDG_ifN | apply stepDG_if | apply stepG_ifN | apply stepG_if)) <;> intro hb <;> (have hif := hb) <;> (try simp only [bo] at hif) <;> (try simp -implicitDefEqProofs (disch := omega) only [go_sem, hb, f4]) <;> clear hb
       | simp (maxSteps := 1000000) -implicitDefEqProofs (disch := omega) only [go_sem, f4])
     all_goals first | (exfalso; omega) | omega | skip
     refine callp c1 ?_
     try simp (maxSteps := 1000000) -implicitDefEqProofs (disch := omega) only [go_sem]
     repeat' (first
       | (with_reducible apply Req_intro); focus (first | omega | assumption | (simp; done))
       | with_reducible (first | apply Req_intro | refine nilT ?_ fun hn => ?_ | apply wk_draw Tryd_mixed | refine drawEnd (by kernel_rfl) ?_)
       | (with_reducible (first | apply condA_if | apply stepDG_ifN | apply stepDG_if | apply stepG_ifN | apply stepG_if)) <;> intro hb <;> (have hif := hb) <;> (try simp only [bo] at hif) <;> (try simp -implicitDefEqProofs (disch := omega) only [go_sem, hb]) <;> clear hb
       | simp (maxSteps := 1000000) -implicitDefEqProofs (disch := omega) only [go_sem])
     refine callp c2 ?_
     try simp (maxSteps := 1000000) -implicitDefEqProofs (disch := omega) only [go_sem]
     repeat' (first
       | (with_reducible apply Req_intro); focus (first | omega | assumption | (simp; done))
       | with_reducible (first | apply Req_intro | refine nilT ?_ fun hn => ?_ | apply wk_draw Tryd_mixed | refine drawEnd (by kernel_rfl) ?_)
       | (with_reducible (first | apply condA_if | apply stepDG_ifN | apply stepDG_if | apply stepG_ifN | apply stepG_if)) <;> intro hb <;> (have hif := hb) <;> (try simp only [bo] at hif) <;> (try simp -implicitDefEqProofs (disch := omega) only [go_sem, hb]) <;> clear hb
       | simp (maxSteps := 1000000) -implicitDefEqProofs (disch := omega) only [go_sem])
     refine callp hm ?_
     try simp (maxSteps := 1000000) -implicitDefEqProofs (disch := omega) only [go_sem]
     repeat' (first
       | (with_reducible apply Req_intro); focus (first | omega | assumption | (simp; done))
       | with_reducible (first | apply Req_intro | refine nilT ?_ fun hn => ?_ | apply wk_draw Tryd_mixed | refine drawEnd (by kernel_rfl) ?_)
       | (with_reducible (first | apply condA_if | apply stepDG_ifN | apply stepDG_if | apply stepG_ifN | apply stepG_if)) <;> intro hb <;> (have hif := hb) <;> (try simp only [bo] at hif) <;> (try simp -implicitDefEqProofs (disch := omega) only [go_sem, hb]) <;> clear hb
       | simp (maxSteps := 1000000) -implicitDefEqProofs (disch := omega) only [go_sem])
     all_goals first | (exfalso; omega) | omega | skip
     · rw [beq_iff_eq.2 hif] at hpx
       rw [← natL_snoc]
       with_reducible refine nxt_w (x + 1) ?_ ?_
       · (try dsimp only)
         rw [filTo_yes hpx, List.length_append]
         exact weak_do3 [(192, 2496)]
       try dsimp only
       omega
     · rw [beq_eq_false_iff_ne.2 hif] at hpx
       with_reducible refine nxt_w (x + 1) ?_ ?_
       · (try dsimp only)
         rw [filTo_no hpx]
         exact weak_do3 []
       try dsimp only
       omega
   · obtain rfl : x = rs.length := by omega
     have h1 := natL_len (filTo p1 ls.length)
     have h2 := natL_len (filTo p2 rs.length)
     repeat' (first
       | (with_reducible apply Req_intro); focus (first | omega | assumption | (simp; done))
       | with_reducible (first | apply Req_intro | refine nilT ?_ fun hn => ?_ | apply wk_draw Tryd_mixed | refine drawEnd (by kernel_rfl) ?_)
       | (with_reducible (first | apply condA_if | apply stepDG_ifN | apply stepDG_if | apply stepG_ifN | apply stepG_if)) <;> intro hb <;> (have hif := hb) <;> (try simp only [bo] at hif) <;> (try simp -implicitDefEqProofs (disch := omega) only [go_sem, hb]) <;> clear hb
       | simp (maxSteps := 1000000) -implicitDefEqProofs (disch := omega) only [go_sem])
     all_goals first | (exfalso; omega) | omega | skip
     rw [← h1, ← h2]
     exact retf [128, 192] [4, 5, 6] [.sl 1 ((natL (filTo p1 ls.length)).map encI) false, .sl 1 ((natL (filTo p2 rs.length)).map encI) false, int 0]
end Go.Aw
end
section
namespace Go.Aw
open Go.RowKit Go.Proofs
theorem Cover_err (g : Gau) (ls rs : List Grd) (e1 e2 : Bool) (hs : StOk ls rs) (hc : checkS g ls rs ≠ 0) : Ct Tryd.prog 34 [encSt ls rs e1 e2, encGa g] (.tup [.lit (.slice none 0 0), .lit (.slice none 0 0), int (checkS g ls rs)]) := by
 have hk := Check_st g e1 e2 hs
 generalize checkS g ls rs = c at *
 refine fn_enter Tryd.func34 rfl (by decide) Tryd.results34 Tryd.ntmps34 ?_ rfl (by simp (maxSteps := 1000000) -implicitDefEqProofs (disch := omega) only [go_sem]; rfl) fun base => ?_
 · first | assumption | (simp only [go_sem] <;> assumption) | (simp only [go_sem, *]; done) | (simp [go_sem]; done)
 repeat' (first
   | (with_reducible apply Req_intro); focus (first | omega | assumption | (simp; done))
   | with_reducible (first | apply Req_intro | refine nilT ?_ fun hn => ?_ | apply wk_draw Tryd_mixed | refine drawEnd (by kernel_rfl) ?_)
   | (with_reducible (first | apply condA_if | apply stepDG_ifN | apply stepDG_if | apply stepG_ifN | apply stepG_if)) <;> intro hb <;> (have hif := hb) <;> (try simp only [bo] at hif) <;> (try simp -implicitDefEqProofs (disch := omega) only [go_sem, hb]) <;> clear hb
   | simp (maxSteps := 1000000) -implicitDefEqProofs (disch := omega) only [go_sem])
 refine callp hk ?_
 try simp (maxSteps := 1000000) -implicitDefEqProofs (disch := omega) only [go_sem]
 repeat' (first
   | (with_reducible apply Req_intro); focus (first | omega | assumption | (simp; done))
   | with_reducible (first | apply Req_intro | refine nilT ?_ fun hn => ?_ | apply wk_draw Tryd_mixed | refine drawEnd (by kernel_rfl) ?_)
   | (with_reducible (first | apply condA_if | apply stepDG_ifN | apply stepDG_if | apply stepG_ifN | apply stepG_if)) <;> intro hb <;> (have hif := hb) <;> (try simp only [bo] at hif) <;> (try simp -implicitDefEqProofs (disch := omega) only [go_sem, hb]) <;> clear hb
   | simp (maxSteps := 1000000) -implicitDefEqProofs (disch := omega) only [go_sem])
 all_goals first | exact absurd ‹c = 0› hc | skip
 refine ret_do ?_
 rfl
theorem Cover_ok (g : Gau) (ls rs : List Grd) (e1 e2 : Bool) (hs : StOk ls rs) (hc : checkS g ls rs = 0) : Ct Tryd.prog 34 [encSt ls rs e1 e2, encGa g] (.tup [.sl 1 ((natL (bitsL (bestS (tableR g ls rs 2)))).map encI) false, .sl 1 ((natL (bitsL (coverR (tableR g ls rs 2) (bestS (tableR g ls rs 2))))).map encI) false, int 0]) := by
 have hk := Check_st g e1 e2 hs
 rw [hc] at hk
 obtain ⟨hl8, hr8, hg, n, hn, hl, hr⟩ := checkS_ok hc
 have ht := table_spec g ls rs e1 e2 2 n hn hg hl hr (by decide) hl8 (by omega)
 have hn9 := table_nine g ls rs 2 (by omega)
 have hTl := tableR_len g ls rs 2
 generalize tableR g ls rs 2 = T at *
 have hp9 := pow_lt9 (r := T.length) (by omega)
 have hp1 : 1 ≤ 2 ^ T.length := Nat.one_le_two_pow
 have f3 : (1 : Int) * 2 ^ min T.length 64 = ((2 ^ T.length : Nat) : Int) := by rw [Nat.min_eq_left (by omega), Int.one_mul, Int.natCast_pow]; rfl
 have hsz := fun left h => size_spec T false left hn9 (by omega) h
 have hb : bestS T = bestTo T (2 ^ T.length) := rfl
 have hstep : ∀ k, 1 ≤ k → bestTo T (k + 1) = if sizeR T k < sizeR T (bestTo T k) ∨ (sizeR T k = sizeR T (bestTo T k) ∧ listLt (bitsL k) (bitsL (bestTo T k)) = true) then k else bestTo T k := fun k hk => by
   obtain ⟨j, rfl⟩ : ∃ j, k = j + 1 := ⟨k - 1, by omega⟩
   rfl
 have hsb : ∀ a, sizeR T a ≤ 32 := fun a => by have := pop_le a; have := pop_le (coverR T a); unfold sizeR; omega
 have hlen : ∀ a, (natL (bitsL a)).length ≤ 1000 := fun a => by rw [natL_len, bitsL_len]; have := pop_le a; omega
 generalize 2 ^ T.length = N at *
 refine fn_enter Tryd.func34 rfl (by decide) Tryd.results34 Tryd.ntmps34 ?_ rfl (by simp (maxSteps := 1000000) -implicitDefEqProofs (disch := omega) only [go_sem]; rfl) fun base => ?_
 · first | assumption | (simp only [go_sem] <;> assumption) | (simp only [go_sem, *]; done) | (simp [go_sem]; done)
 repeat' (first
   | (with_reducible apply Req_intro); focus (first | omega | assumption | (simp; done))
   | with_reducible (first | apply Req_intro | refine nilT ?_ fun hn => ?_ | apply wk_draw Tryd_mixed | refine drawEnd (by kernel_rfl) ?_)
   | (with_reducible (first | apply condA_if | apply stepDG_ifN | apply stepDG_if | apply stepG_ifN | apply stepG_if)) <;> intro hb <;> (have hif := hb) <;> (try simp only [bo] at hif) <;> (try simp -implicitDefEqProofs (disch := omega) only [go_sem, hb]) <;> clear hb
   | simp (maxSteps := 1000000) -implicitDefEqProofs (disch := omega) only [go_sem])
 refine callp hk ?_
 try simp (maxSteps := 1000000) -implicitDefEqProofs (disch := omega) only [go_sem]
 repeat' (first
   | (with_reducible apply Req_intro); focus (first | omega | assumption | (simp; done))
   | with_reducible (first | apply Req_intro | refine nilT ?_ fun hn => ?_ | apply wk_draw Tryd_mixed | refine drawEnd (by kernel_rfl) ?_)
   | (with_reducible (first | apply condA_if | apply stepDG_ifN | apply stepDG_if | apply stepG_ifN | apply stepG_if)) <;> intro hb <;> (have hif := hb) <;> (try simp only [bo] at hif) <;> (try simp -implicitDefEqProofs (disch := omega) only [go_sem, hb]) <;> clear hb
   | simp (maxSteps := 1000000) -implicitDefEqProofs (disch := omega) only [go_sem])
 refine callp ht ?_
 try simp (maxSteps := 1000000) -implicitDefEqProofs (disch := omega) only [go_sem]
 repeat' (first
   | (with_reducible apply Req_intro); focus (first | omega | assumption | (simp; done))
   | with_reducible (first | apply Req_intro | refine nilT ?_ fun hn => ?_ | apply wk_draw Tryd_mixed | refine drawEnd (by kernel_rfl) ?_)
   | (with_reducible (first | apply condA_if | apply stepDG_ifN | apply stepDG_if | apply stepG_ifN | apply stepG_if)) <;> intro hb <;> (have hif := hb) <;> (try simp only [bo] at hif) <;> (try simp -implicitDefEqProofs (disch := omega) only [go_sem, hb]) <;> clear hb
   | simp (maxSteps := 1000000) -implicitDefEqProofs (disch := omega) only [go_sem])
 refine loop_rows (α := Nat) [9, 11, 23, 24, 25, 26, 27, 28, 29, 30, 31, 32, 33, 34, 35, 36, 37, 38, 39, 40, 41, 42, 43, 44, 45] (fun k => [(11, u64 k), (9, u64 (bestTo T k))]) (fun k => [(0, some ⟨2, [[.sl 2 (ls.map encGd) e1, .sl 2 (rs.map encGd) e2]], 38, .wr⟩), (64, some ⟨4, [[int g.sc, int g.ga, int g.we, int g.cu]], 26, .wr⟩), (960, some ⟨1, [[.sl 1 (T.map encU) false]], 107, .wr⟩)]) (fun k => 1 ≤ k ∧ k ≤ N) (fun k => N - k) 1 (fun x => by simp (maxSteps := 1000000) -implicitDefEqProofs (disch := omega) only [go_sem]; rfl) ?_ ?_ fun x hx => ?_
 · exact weak_do3 []
 · exact ⟨Nat.le_refl _, hp1⟩
 obtain ⟨hx1, hx2⟩ := hx
 have hbl := bestTo_lt T x hx1
 have c1 := hsz x (by omega)
 have c2 := hsz (bestTo T x) (by omega)
 have c3 := numbers_spec x (by omega)
 have c4 := numbers_spec (bestTo T x) (by omega)
 have c5 := CompareL (natL (bitsL x)) (natL (bitsL (bestTo T x))) false false (hlen _) (hlen _)
 have c6 := Or_spec ((sizeR T x : Int) - sizeR T (bestTo T x)) (cmpL (natL (bitsL x)) (natL (bitsL (bestTo T x)))) true
 have hor := orR_lt (sizeR T x) (sizeR T (bestTo T x)) (bitsL x) (bitsL (bestTo T x))
 have s1 := hsb x
 have s2 := hsb (bestTo T x)
 have hst := hstep x hx1
 by_cases hlt : x < N
 · repeat' (first
     | (with_reducible apply Req_intro); focus (first | omega | assumption | (simp; done))
     | with_reducible (first | apply Req_intro | refine nilT ?_ fun hn => ?_ | apply wk_draw Tryd_mixed | refine drawEnd (by kernel_rfl) ?_)
     | (with_reducible (first | apply condA_if | apply stepDG_ifN | apply stepDG_if | apply stepG_ifN | apply stepG_if)) <;> intro hb <;> (have hif := hb) <;> (try simp only [bo] at hif) <;> (try simp -implicitDefEqProofs (disch := omega) only [go_sem, hb, f3]) <;> clear hb
     | simp (maxSteps := 1000000) -implicitDefEqProofs (disch := omega) only [go_sem, f3])
   all_goals first | (exfalso; omega) | omega | skip
   refine callc c1 ?_
   try simp (maxSteps := 1000000) -implicitDefEqProofs (disch := omega) only [go_sem]
   repeat' (first
     | (with_reducible apply Req_intro); focus (first | omega | assumption | (simp; done))
     | with_reducible (first | apply Req_intro | refine nilT ?_ fun hn => ?_ | apply wk_draw Tryd_mixed | refine drawEnd (by kernel_rfl) ?_)
     | (with_reducible (first | apply condA_if | apply stepDG_ifN | apply stepDG_if | apply stepG_ifN | apply stepG_if)) <;> intro hb <;> (have hif := hb) <;> (try simp only [bo] at hif) <;> (try simp -implicitDefEqProofs (disch := omega) only [go_sem, hb]) <;> clear hb
     | simp (maxSteps := 1000000) -implicitDefEqProofs (disch := omega) only [go_sem])
   refine callc c2 ?_
   try simp (maxSteps := 1000000) -implicitDefEqProofs (disch := omega) only [go_sem]
   repeat' (first
     | (with_reducible apply Req_intro); focus (first | omega | assumption | (simp; done))
     | with_reducible (first | apply Req_intro | refine nilT ?_ fun hn => ?_ | apply wk_draw Tryd_mixed | refine drawEnd (by kernel_rfl) ?_)
     | (with_reducible (first | apply condA_if | apply stepDG_ifN | apply stepDG_if | apply stepG_ifN | apply stepG_if)) <;> intro hb <;> (have hif := hb) <;> (try simp only [bo] at hif) <;> (try simp -implicitDefEqProofs (disch := omega) only [go_sem, hb]) <;> clear hb
     | simp (maxSteps := 1000000) -implicitDefEqProofs (disch := omega) only [go_sem])
   all_goals first | (exfalso; omega) | omega | skip
   refine callp c3 ?_
   try simp (maxSteps := 1000000) -implicitDefEqProofs (disch := omega) only [go_sem]
   repeat' (first
     | (with_reducible apply Req_intro); focus (first | omega | assumption | (simp; done))
     | with_reducible (first | apply Req_intro | refine nilT ?_ fun hn => ?_ | apply wk_draw Tryd_mixed | refine drawEnd (by kernel_rfl) ?_)
     | (with_reducible (first | apply condA_if | apply stepDG_ifN | apply stepDG_if | apply stepG_ifN | apply stepG_if)) <;> intro hb <;> (have hif := hb) <;> (try simp only [bo] at hif) <;> (try simp -implicitDefEqProofs (disch := omega) only [go_sem, hb]) <;> clear hb
     | simp (maxSteps := 1000000) -implicitDefEqProofs (disch := omega) only [go_sem])
   refine callp c4 ?_
   try simp (maxSteps := 1000000) -implicitDefEqProofs (disch := omega) only [go_sem]
   repeat' (first
     | (with_reducible apply Req_intro); focus (first | omega | assumption | (simp; done))
     | with_reducible (first | apply Req_intro | refine nilT ?_ fun hn => ?_ | apply wk_draw Tryd_mixed | refine drawEnd (by kernel_rfl) ?_)
     | (with_reducible (first | apply condA_if | apply stepDG_ifN | apply stepDG_if | apply stepG_ifN | apply stepG_if)) <;> intro hb <;> (have hif := hb) <;> (try simp only [bo] at hif) <;> (try simp -implicitDefEqProofs (disch := omega) only [go_sem, hb]) <;> clear hb
     | simp (maxSteps := 1000000) -implicitDefEqProofs (disch := omega) only [go_sem])
   refine callp c5 ?_
   try simp (maxSteps := 1000000) -implicitDefEqProofs (disch := omega) only [go_sem]
   repeat' (first
     | (with_reducible apply Req_intro); focus (first | omega | assumption | (simp; done))
     | with_reducible (first | apply Req_intro | refine nilT ?_ fun hn => ?_ | apply wk_draw Tryd_mixed | refine drawEnd (by kernel_rfl) ?_)
     | (with_reducible (first | apply condA_if | apply stepDG_ifN | apply stepDG_if | apply stepG_ifN | apply stepG_if)) <;> intro hb <;> (have hif := hb) <;> (try simp only [bo] at hif) <;> (try simp -implicitDefEqProofs (disch := omega) only [go_sem, hb]) <;> clear hb
     | simp (maxSteps := 1000000) -implicitDefEqProofs (disch := omega) only [go_sem])
   refine callc c6 ?_
   try simp (maxSteps := 1000000) -implicitDefEqProofs (disch := omega) only [go_sem]
   repeat' (first
     | (with_reducible apply Req_intro); focus (first | omega | assumption | (simp; done))
     | with_reducible (first | apply Req_intro | refine nilT ?_ fun hn => ?_ | apply wk_draw Tryd_mixed | refine drawEnd (by kernel_rfl) ?_)
     | (with_reducible (first | apply condA_if | apply stepDG_ifN | apply stepDG_if | apply stepG_ifN | apply stepG_if)) <;> intro hb <;> (have hif := hb) <;> (try simp only [bo] at hif) <;> (try simp -implicitDefEqProofs (disch := omega) only [go_sem, hb]) <;> clear hb
     | simp (maxSteps := 1000000) -implicitDefEqProofs (disch := omega) only [go_sem])
   all_goals first | (exfalso; omega) | omega | skip
   · rw [if_pos (hor.1 hif)] at hst
     with_reducible refine nxt_w (x + 1) ?_ ?_
     · (try dsimp only)
       rw [hst]
       exact weak_do3 []
     try dsimp only
     exact ⟨by omega, by omega⟩
   · rw [if_neg (fun h => absurd (hor.2 h) (by omega))] at hst
     with_reducible refine nxt_w (x + 1) ?_ ?_
     · (try dsimp only)
       rw [hst]
       exact weak_do3 []
     try dsimp only
     exact ⟨by omega, by omega⟩
 · obtain rfl : x = N := by omega
   have c7 := cover_spec T false (bestTo T x) hn9 (by omega) (by omega)
   have c8 := numbers_spec (coverR T (bestTo T x)) (cover_lt hn9 _ _)
   repeat' (first
     | (with_reducible apply Req_intro); focus (first | omega | assumption | (simp; done))
     | with_reducible (first | apply Req_intro | refine nilT ?_ fun hn => ?_ | apply wk_draw Tryd_mixed | refine drawEnd (by kernel_rfl) ?_)
     | (with_reducible (first | apply condA_if | apply stepDG_ifN | apply stepDG_if | apply stepG_ifN | apply stepG_if)) <;> intro hb <;> (have hif := hb) <;> (try simp only [bo] at hif) <;> (try simp -implicitDefEqProofs (disch := omega) only [go_sem, hb, f3]) <;> clear hb
     | simp (maxSteps := 1000000) -implicitDefEqProofs (disch := omega) only [go_sem, f3])
   all_goals first | (exfalso; omega) | omega | skip
   refine calld c4 ?_
   try simp (maxSteps := 1000000) -implicitDefEqProofs (disch := omega) only [go_sem]
   repeat' (first
     | (with_reducible apply Req_intro); focus (first | omega | assumption | (simp; done))
     | with_reducible (first | apply Req_intro | refine nilT ?_ fun hn => ?_ | apply wk_draw Tryd_mixed | refine drawEnd (by kernel_rfl) ?_)
     | (with_reducible (first | apply condA_if | apply stepDG_ifN | apply stepDG_if | apply stepG_ifN | apply stepG_if)) <;> intro hb <;> (have hif := hb) <;> (try simp only [bo] at hif) <;> (try simp -implicitDefEqProofs (disch := omega) only [go_sem, hb]) <;> clear hb
     | simp (maxSteps := 1000000) -implicitDefEqProofs (disch := omega) only [go_sem])
   refine calld c7 ?_
   try simp (maxSteps := 1000000) -implicitDefEqProofs (disch := omega) only [go_sem]
   repeat' (first
     | (with_reducible apply Req_intro); focus (first | omega | assumption | (simp; done))
     | with_reducible (first | apply Req_intro | refine nilT ?_ fun hn => ?_ | apply wk_draw Tryd_mixed | refine drawEnd (by kernel_rfl) ?_)
     | (with_reducible (first | apply condA_if | apply stepDG_ifN | apply stepDG_if | apply stepG_ifN | apply stepG_if)) <;> intro hb <;> (have hif := hb) <;> (try simp only [bo] at hif) <;> (try simp -implicitDefEqProofs (disch := omega) only [go_sem, hb]) <;> clear hb
     | simp (maxSteps := 1000000) -implicitDefEqProofs (disch := omega) only [go_sem])
   refine calld c8 ?_
   try simp (maxSteps := 1000000) -implicitDefEqProofs (disch := omega) only [go_sem]
   repeat' (first
     | (with_reducible apply Req_intro); focus (first | omega | assumption | (simp; done))
     | with_reducible (first | apply Req_intro | refine nilT ?_ fun hn => ?_ | apply wk_draw Tryd_mixed | refine drawEnd (by kernel_rfl) ?_)
     | (with_reducible (first | apply condA_if | apply stepDG_ifN | apply stepDG_if | apply stepG_ifN | apply stepG_if)) <;> intro hb <;> (have hif := hb) <;> (try simp only [bo] at hif) <;> (try simp -implicitDefEqProofs (disch := omega) only [go_sem, hb]) <;> clear hb
     | simp (maxSteps := 1000000) -implicitDefEqProofs (disch := omega) only [go_sem])
   refine ret_do ?_
   rw [hb]; rfl
end Go.Aw
end
section
namespace Go.Aw
open Go.RowKit Go.Proofs
theorem Clip_gd (l : List Grd) (e : Bool) (hl : l.length ≤ 1000) : Ct Tryd.prog 82 [.sl 2 (l.map encGd) e] (.sl 2 (l.map encGd) true) := by
 refine fn_enter Tryd.func82 rfl (by decide) Tryd.results82 Tryd.ntmps82 ?_ rfl (by simp (maxSteps := 1000000) -implicitDefEqProofs (disch := omega) only [go_sem]; rfl) fun base => ?_
 · first | assumption | (simp only [go_sem] <;> assumption) | (simp only [go_sem, *]; done) | (simp [go_sem]; done)
 repeat' (first
   | (with_reducible apply Req_intro); focus (first | omega | assumption | (simp; done))
   | with_reducible (first | apply Req_intro | refine nilT ?_ fun hn => ?_ | apply wk_draw Tryd_mixed | refine drawEnd (by kernel_rfl) ?_)
   | (with_reducible (first | apply condA_if | apply stepDG_ifN | apply stepDG_if | apply stepG_ifN | apply stepG_if)) <;> intro hb <;> (have hif := hb) <;> (try simp only [bo] at hif) <;> (try simp -implicitDefEqProofs (disch := omega) only [go_sem, hb]) <;> clear hb
   | simp (maxSteps := 1000000) -implicitDefEqProofs (disch := omega) only [go_sem])
 all_goals first | (exfalso; omega) | omega | skip
 refine ret_do ?_
 rfl
theorem Cut_err (g : Gau) (ls rs : List Grd) (e1 e2 : Bool) (hs : StOk ls rs) (hc : checkS g ls rs ≠ 0) : Ct Tryd.prog 41 [encSt ls rs e1 e2, encGa g] (.tup [int 0, int 0, int (checkS g ls rs)]) := by
 have hk := Check_st g e1 e2 hs
 generalize checkS g ls rs = c at *
 refine fn_enter Tryd.func41 rfl (by decide) Tryd.results41 Tryd.ntmps41 ?_ rfl (by simp (maxSteps := 1000000) -implicitDefEqProofs (disch := omega) only [go_sem]; rfl) fun base => ?_
 · first | assumption | (simp only [go_sem] <;> assumption) | (simp only [go_sem, *]; done) | (simp [go_sem]; done)
 repeat' (first
   | (with_reducible apply Req_intro); focus (first | omega | assumption | (simp; done))
   | with_reducible (first | apply Req_intro | refine nilT ?_ fun hn => ?_ | apply wk_draw Tryd_mixed | refine drawEnd (by kernel_rfl) ?_)
   | (with_reducible (first | apply condA_if | apply stepDG_ifN | apply stepDG_if | apply stepG_ifN | apply stepG_if)) <;> intro hb <;> (have hif := hb) <;> (try simp only [bo] at hif) <;> (try simp -implicitDefEqProofs (disch := omega) only [go_sem, hb]) <;> clear hb
   | simp (maxSteps := 1000000) -implicitDefEqProofs (disch := omega) only [go_sem])
 refine callp hk ?_
 try simp (maxSteps := 1000000) -implicitDefEqProofs (disch := omega) only [go_sem]
 repeat' (first
   | (with_reducible apply Req_intro); focus (first | omega | assumption | (simp; done))
   | with_reducible (first | apply Req_intro | refine nilT ?_ fun hn => ?_ | apply wk_draw Tryd_mixed | refine drawEnd (by kernel_rfl) ?_)
   | (with_reducible (first | apply condA_if | apply stepDG_ifN | apply stepDG_if | apply stepG_ifN | apply stepG_if)) <;> intro hb <;> (have hif := hb) <;> (try simp only [bo] at hif) <;> (try simp -implicitDefEqProofs (disch := omega) only [go_sem, hb]) <;> clear hb
   | simp (maxSteps := 1000000) -implicitDefEqProofs (disch := omega) only [go_sem])
 all_goals first | exact absurd ‹c = 0› hc | skip
 refine ret_do ?_
 rfl
def cutV (g : Gau) (ls rs : List Grd) : V := if (cutTo g ls rs ls.length).2 = mostR (tableR g ls rs 2) then .tup [int 0, int 0, int 7] else .tup [int (cutTo g ls rs ls.length).1, int (cutTo g ls rs ls.length).2, int 0]
theorem cutTo_small {g : Gau} {ls rs : List Grd} (hl : ls.length ≤ 8) (hr : rs.length ≤ 8) : ∀ i, (cutTo g ls rs i).2 ≤ 100 ∧ (cutTo g ls rs i).1 ≤ i
 | 0 => ⟨most_small (table_nine g ls rs 2 (by omega)) (by rw [tableR_len]; omega), Nat.le_refl _⟩
 | i + 1 => by
   have h := cutTo_small (g := g) hl hr i
   rw [cutTo]
   split
   · exact ⟨most_small (table_nine _ _ _ 2 (by simp; omega)) (by rw [tableR_len]; omega), by simp⟩
   · exact ⟨h.1, by omega⟩
theorem Cut_ok (g : Gau) (ls rs : List Grd) (e1 e2 : Bool) (hs : StOk ls rs) (hc : checkS g ls rs = 0) : Ct Tryd.prog 41 [encSt ls rs e1 e2, encGa g] (cutV g ls rs) := by
 have hk := Check_st g e1 e2 hs
 rw [hc] at hk
 obtain ⟨hl8, hr8, hg, n, hn, hl, hr⟩ := checkS_ok hc
 have ht := table_spec g ls rs e1 e2 2 n hn hg hl hr (by decide) hl8 (by omega)
 have hn9 := table_nine g ls rs 2 (by omega)
 have hTl := tableR_len g ls rs 2
 have hm := most_spec (tableR g ls rs 2) hn9 false (by omega)
 have hcl := Clip_gd rs e2 (by omega)
 have ht2 := fun x (hx : x ∈ ls) => table_spec g ls (rs ++ [x]) e1 false 2 n hn hg hl (fun y hy => by
   rcases List.mem_append.1 hy with h | h
   · exact hr y h
   · rw [List.mem_singleton] at h; subst h; exact hl y hx) (by decide) hl8 (by simp; omega)
 have hm2 := fun x => most_spec (tableR g ls (rs ++ [x]) 2) (table_nine _ _ _ 2 (by simp; omega)) false (by rw [tableR_len]; omega)
 have hsm := cutTo_small (g := g) hl8 hr8
 have hc0 : cutTo g ls rs 0 = (0, mostR (tableR g ls rs 2)) := rfl
 have hst := fun i => show cutTo g ls rs (i + 1) = if (cutTo g ls rs i).2 < mostR (tableR g ls (rs ++ [ls.getD i default]) 2) then (i, mostR (tableR g ls (rs ++ [ls.getD i default]) 2)) else cutTo g ls rs i from rfl
 unfold cutV
 generalize cutTo g ls rs = C at *
 generalize mostR (tableR g ls rs 2) = M at *
 refine fn_enter Tryd.func41 rfl (by decide) Tryd.results41 Tryd.ntmps41 ?_ rfl (by simp (maxSteps := 1000000) -implicitDefEqProofs (disch := omega) only [go_sem]; rfl) fun base => ?_
 · split <;> first | assumption | (simp only [go_sem] <;> assumption) | (simp only [go_sem, *]; done) | (simp [go_sem]; done)
 repeat' (first
   | (with_reducible apply Req_intro); focus (first | omega | assumption | (simp; done))
   | with_reducible (first | apply Req_intro | refine nilT ?_ fun hn => ?_ | apply wk_draw Tryd_mixed | refine drawEnd (by kernel_rfl) ?_)
   | (with_reducible (first | apply condA_if | apply stepDG_ifN | apply stepDG_if | apply stepG_ifN | apply stepG_if)) <;> intro hb <;> (have hif := hb) <;> (try simp only [bo] at hif) <;> (try simp -implicitDefEqProofs (disch := omega) only [go_sem, hb]) <;> clear hb
   | simp (maxSteps := 1000000) -implicitDefEqProofs (disch := omega) only [go_sem])
 refine callp hk ?_
 try simp (maxSteps := 1000000) -implicitDefEqProofs (disch := omega) only [go_sem]
 repeat' (first
   | (with_reducible apply Req_intro); focus (first | omega | assumption | (simp; done))
   | with_reducible (first | apply Req_intro | refine nilT ?_ fun hn => ?_ | apply wk_draw Tryd_mixed | refine drawEnd (by kernel_rfl) ?_)
   | (with_reducible (first | apply condA_if | apply stepDG_ifN | apply stepDG_if | apply stepG_ifN | apply stepG_if)) <;> intro hb <;> (have hif := hb) <;> (try simp only [bo] at hif) <;> (try simp -implicitDefEqProofs (disch := omega) only [go_sem, hb]) <;> clear hb
   | simp (maxSteps := 1000000) -implicitDefEqProofs (disch := omega) only [go_sem])
 refine callp ht ?_
 try simp (maxSteps := 1000000) -implicitDefEqProofs (disch := omega) only [go_sem]
 repeat' (first
   | (with_reducible apply Req_intro); focus (first | omega | assumption | (simp; done))
   | with_reducible (first | apply Req_intro | refine nilT ?_ fun hn => ?_ | apply wk_draw Tryd_mixed | refine drawEnd (by kernel_rfl) ?_)
   | (with_reducible (first | apply condA_if | apply stepDG_ifN | apply stepDG_if | apply stepG_ifN | apply stepG_if)) <;> intro hb <;> (have hif := hb) <;> (try simp only [bo] at hif) <;> (try simp -implicitDefEqProofs (disch := omega) only [go_sem, hb]) <;> clear hb
   | simp (maxSteps := 1000000) -implicitDefEqProofs (disch := omega) only [go_sem])
 refine callp hm ?_
 try simp (maxSteps := 1000000) -implicitDefEqProofs (disch := omega) only [go_sem]
 repeat' (first
   | (with_reducible apply Req_intro); focus (first | omega | assumption | (simp; done))
   | with_reducible (first | apply Req_intro | refine nilT ?_ fun hn => ?_ | apply wk_draw Tryd_mixed | refine drawEnd (by kernel_rfl) ?_)
   | (with_reducible (first | apply condA_if | apply stepDG_ifN | apply stepDG_if | apply stepG_ifN | apply stepG_if)) <;> intro hb <;> (have hif := hb) <;> (try simp only [bo] at hif) <;> (try simp -implicitDefEqProofs (disch := omega) only [go_sem, hb]) <;> clear hb
   | simp (maxSteps := 1000000) -implicitDefEqProofs (disch := omega) only [go_sem])
 refine loop_rows (α := Nat) [4, 5, 9, 10, 11, 12, 28, 29, 30, 31, 32, 33, 34, 35, 36, 37, 38, 39, 40, 41, 42, 43, 44, 45, 46, 47, 48, 49, 50, 51, 52] (fun i => [(28, .lit (.int .i64 i)), (4, int (C i).1), (5, int (C i).2)]) (fun i => [(0, some ⟨2, [[.sl 2 (ls.map encGd) e1, .sl 2 (rs.map encGd) e2]], 38, .wr⟩), (64, some ⟨4, [[int g.sc, int g.ga, int g.we, int g.cu]], 26, .wr⟩)]) (fun i => i ≤ ls.length) (fun i => ls.length - i) 0 (fun x => by simp (maxSteps := 1000000) -implicitDefEqProofs (disch := omega) only [go_sem]; rfl) ?_ ?_ fun x hx => ?_
 · rw [hc0]
   exact weak_do3 []
 · exact Nat.zero_le _
 by_cases hlt : x < ls.length
 · have hxm := getD_mem hlt
   have c1 := ht2 _ hxm
   have c2 := hm2 (ls.getD x default)
   have hstx := hst x
   have hsx := hsm x
   generalize hM : mostR (tableR g ls (rs ++ [ls.getD x default]) 2) = M' at *
   repeat' (first
     | (with_reducible apply Req_intro); focus (first | omega | assumption | (simp; done))
     | with_reducible (first | apply Req_intro | refine nilT ?_ fun hn => ?_ | apply wk_draw Tryd_mixed | refine drawEnd (by kernel_rfl) ?_)
     | (with_reducible (first | apply condA_if | apply stepDG_ifN | apply stepDG_if | apply stepG_ifN | apply stepG_if)) <;> intro hb <;> (have hif := hb) <;> (try simp only [bo] at hif) <;> (try simp -implicitDefEqProofs (disch := omega) only [go_sem, hb]) <;> clear hb
     | simp (maxSteps := 1000000) -implicitDefEqProofs (disch := omega) only [go_sem])
   all_goals first | (exfalso; omega) | omega | skip
   refine calld hcl ?_
   try simp (maxSteps := 1000000) -implicitDefEqProofs (disch := omega) only [go_sem]
   repeat' (first
     | (with_reducible apply Req_intro); focus (first | omega | assumption | (simp; done))
     | with_reducible (first | apply Req_intro | refine nilT ?_ fun hn => ?_ | apply wk_draw Tryd_mixed | refine drawEnd (by kernel_rfl) ?_)
     | (with_reducible (first | apply condA_if | apply stepDG_ifN | apply stepDG_if | apply stepG_ifN | apply stepG_if)) <;> intro hb <;> (have hif := hb) <;> (try simp only [bo] at hif) <;> (try simp -implicitDefEqProofs (disch := omega) only [go_sem, hb]) <;> clear hb
     | simp (maxSteps := 1000000) -implicitDefEqProofs (disch := omega) only [go_sem])
   all_goals first | (exfalso; omega) | omega | skip
   have hrx : List.map encGd rs ++ [[V.lit (.int .i64 (ls.getD x default).1), V.sl 1 ((ls.getD x default).2.map encI) false]] = (rs ++ [ls.getD x default]).map encGd := by rw [List.map_append]; rfl
   have hrl : (rs ++ [ls.getD x default]).length = rs.length + 1 := by simp
   rw [hrx]
   generalize rs ++ [ls.getD x default] = R at *
   rw [← hrl]
   refine callf2 [2368] c1 ?_
   try simp (maxSteps := 1000000) -implicitDefEqProofs (disch := omega) only [go_sem]
   repeat' (first
     | (with_reducible apply Req_intro); focus (first | omega | assumption | (simp; done))
     | with_reducible (first | apply Req_intro | refine nilT ?_ fun hn => ?_ | apply wk_draw Tryd_mixed | refine drawEnd (by kernel_rfl) ?_)
     | (with_reducible (first | apply condA_if | apply stepDG_ifN | apply stepDG_if | apply stepG_ifN | apply stepG_if)) <;> intro hb <;> (have hif := hb) <;> (try simp only [bo] at hif) <;> (try simp -implicitDefEqProofs (disch := omega) only [go_sem, hb]) <;> clear hb
     | simp (maxSteps := 1000000) -implicitDefEqProofs (disch := omega) only [go_sem])
   refine callp c2 ?_
   try simp (maxSteps := 1000000) -implicitDefEqProofs (disch := omega) only [go_sem]
   repeat' (first
     | (with_reducible apply Req_intro); focus (first | omega | assumption | (simp; done))
     | with_reducible (first | apply Req_intro | refine nilT ?_ fun hn => ?_ | apply wk_draw Tryd_mixed | refine drawEnd (by kernel_rfl) ?_)
     | (with_reducible (first | apply condA_if | apply stepDG_ifN | apply stepDG_if | apply stepG_ifN | apply stepG_if)) <;> intro hb <;> (have hif := hb) <;> (try simp only [bo] at hif) <;> (try simp -implicitDefEqProofs (disch := omega) only [go_sem, hb]) <;> clear hb
     | simp (maxSteps := 1000000) -implicitDefEqProofs (disch := omega) only [go_sem])
   all_goals first | (exfalso; omega) | omega | skip
   · rw [if_pos hif] at hstx
     with_reducible refine nxt_w (x + 1) ?_ ?_
     · (try dsimp only)
       rw [hstx]
       exact weak_do3 []
     try dsimp only
     omega
   · rw [if_neg (by omega)] at hstx
     with_reducible refine nxt_w (x + 1) ?_ ?_
     · (try dsimp only)
       rw [hstx]
       exact weak_do3 []
     try dsimp only
     omega
 · obtain rfl : x = ls.length := by omega
   have hsx := hsm ls.length
   repeat' (first
     | (with_reducible apply Req_intro); focus (first | omega | assumption | (simp; done))
     | with_reducible (first | apply Req_intro | refine nilT ?_ fun hn => ?_ | apply wk_draw Tryd_mixed | refine drawEnd (by kernel_rfl) ?_)
     | (with_reducible (first | apply condA_if | apply stepDG_ifN | apply stepDG_if | apply stepG_ifN | apply stepG_if)) <;> intro hb <;> (have hif := hb) <;> (try simp only [bo] at hif) <;> (try simp -implicitDefEqProofs (disch := omega) only [go_sem, hb]) <;> clear hb
     | simp (maxSteps := 1000000) -implicitDefEqProofs (disch := omega) only [go_sem])
   all_goals first | (exfalso; omega) | omega | skip
   · rw [if_pos hif]
     refine ret_do ?_
     rfl
   · rw [if_neg hif]
     refine ret_do ?_
     rfl
end Go.Aw
end
section
namespace Go.Aw
open Go.RowKit Go.Proofs
theorem restr_one {h : Hp} {id : Nat} {b : Blk} (hb : h id = some b) : restr [id] h = hpOf (fun _ => none) [(id, some b)] := by
 funext i
 by_cases c : i = id
 · subst c; simp [restr, hpOf, hget, hb]
 · have c' : ¬ id = i := fun e => c e.symm
   simp [restr, hpOf, hget, c, c']
theorem calldr {P : Program} {nx : Nat} {g : FuncId} {first cap args as1 as2 : List V} {h : Hp} {r : V} {K : V → List Nat → Wr → Prop} (id : Nat) {k : Nat} {es : List (List V)} {ty : TypeId} (hc : Ct P g as2 r) (hk : K r [id] []) (ha : first ++ args ++ cap = as1 := by first | (simp only [go_sem]; done) | (simp only [go_sem]; rfl)) (hb : h id = some ⟨k, es, ty, .wr⟩ := by rfl)
   (hp : PurI false (hpOf (fun _ => none) [(id, some ⟨k, es, ty, .wr⟩)]) as1 as2 := by
     (try simp (maxSteps := 1000000) -implicitDefEqProofs (disch := omega) only [go_sem])
     repeat' (first
       | with_reducible (first | exact PurI.nil | exact Pur.nilsl _ _ | exact PurE.nil)
       | (with_reducible (first | refine PurI.puL ?_ | refine PurE.puE ?_)) <;> (first | assumption | (simp only [go_sem] <;> assumption) | (simp only [go_sem, *]; done) | (simp [go_sem]; done))
       | with_reducible apply PurI.cons
       | (with_reducible refine Pur.pu _ ?_) <;> (first | assumption | (simp only [go_sem] <;> assumption) | (simp only [go_sem, *]; done) | (simp [go_sem]; done))
       | ((with_reducible apply Pur.refR) <;> (first | rfl | decide | (simp only [go_sem]; omega) | (simp only [go_sem]) | skip))
       | ((with_reducible apply Pur.osR) <;> (first | rfl | exact fun h => h | omega | (simp; omega) | (simp; done) | (simp only [go_sem]) | skip))
       | with_reducible (first | apply Pur.fnI | apply Pur.aggI | apply PurE.cons)
       | (with_reducible refine PurI.eqL ?_ ?_); (focus rfl); (focus (first | assumption | (simp only [go_sem] <;> assumption) | (simp only [go_sem, *]; done) | (simp [go_sem]; done)))
       | simp (maxSteps := 1000000) -implicitDefEqProofs (disch := omega) only [go_sem])) (hr : Cl r := by first | assumption | (simp only [go_sem] <;> assumption) | (simp only [go_sem, *]; done) | (simp [go_sem]; done)) : CallD P (.fn (.func g) first cap) args h nx K := call_d [id] ha (by rw [restr_one hb]; exact hp) hc hr hk
theorem Twins1_spec (g : Gau) (a b : Grd) (n : Nat) (hn : n ≤ 4) (hg : GauOk g) (ha : GrdOk n a) (hb : GrdOk n b) : Ct Tryd.prog 80 [.agg (encGd a), .agg (encGd b), .rp [int g.sc, int g.ga, int g.we, int g.cu]] (.lit (.bool (alikeR g a b 2))) := by
 have c1 := alike_spec g a b 2 n hn hg ha hb (by decide)
 refine fn_enter Tryd.func80 rfl (by decide) Tryd.results80 Tryd.ntmps80 ?_ rfl (by simp (maxSteps := 1000000) -implicitDefEqProofs (disch := omega) only [go_sem]; rfl) fun base => ?_
 · first | assumption | (simp only [go_sem] <;> assumption) | (simp only [go_sem, *]; done) | (simp [go_sem]; done)
 repeat' (first
   | (with_reducible apply Req_intro); focus (first | omega | assumption | (simp; done))
   | with_reducible (first | apply Req_intro | refine nilT ?_ fun hn => ?_ | apply wk_draw Tryd_mixed | refine drawEnd (by kernel_rfl) ?_)
   | (with_reducible (first | apply condA_if | apply stepDG_ifN | apply stepDG_if | apply stepG_ifN | apply stepG_if)) <;> intro hb <;> (have hif := hb) <;> (try simp only [bo] at hif) <;> (try simp -implicitDefEqProofs (disch := omega) only [go_sem, hb]) <;> clear hb
   | simp (maxSteps := 1000000) -implicitDefEqProofs (disch := omega) only [go_sem])
 refine callp c1 ?_
 try simp (maxSteps := 1000000) -implicitDefEqProofs (disch := omega) only [go_sem]
 repeat' (first
   | (with_reducible apply Req_intro); focus (first | omega | assumption | (simp; done))
   | with_reducible (first | apply Req_intro | refine nilT ?_ fun hn => ?_ | apply wk_draw Tryd_mixed | refine drawEnd (by kernel_rfl) ?_)
   | (with_reducible (first | apply condA_if | apply stepDG_ifN | apply stepDG_if | apply stepG_ifN | apply stepG_if)) <;> intro hb <;> (have hif := hb) <;> (try simp only [bo] at hif) <;> (try simp -implicitDefEqProofs (disch := omega) only [go_sem, hb]) <;> clear hb
   | simp (maxSteps := 1000000) -implicitDefEqProofs (disch := omega) only [go_sem])
 refine ret_do ?_
 rfl
abbrev TwP := (Nat × Nat) × (Nat × Nat)
def tM (t : List Nat) (isR : Nat → Nat → Bool) (i k j : Nat) : Option TwP := (bitsL (ndiff (t.getD i default &&& t.getD j default) (2 ^ k))).findSome? fun m => if isR k m then some ((i, k), (j, m)) else none
def tJ (t : List Nat) (isL isR : Nat → Nat → Bool) (i k j : Nat) : Option TwP := if i < j ∧ (t.getD j default).testBit k = true ∧ isL i j = true then tM t isR i k j else none
def tK (t : List Nat) (isL isR : Nat → Nat → Bool) (i k : Nat) : Option TwP := (List.range t.length).findSome? (tJ t isL isR i k)
def tI (t : List Nat) (isL isR : Nat → Nat → Bool) (i : Nat) : Option TwP := (bitsL (t.getD i default)).findSome? (tK t isL isR i)
def tAll (t : List Nat) (isL isR : Nat → Nat → Bool) : Option TwP := (List.range t.length).findSome? (tI t isL isR)
theorem some_filter {α β : Type} (p : α → Bool) (f : α → Option β) : ∀ l : List α, (l.filter p).findSome? f = l.findSome? fun x => if p x then f x else none
 | [] => rfl
 | a :: l => by
   cases h : p a with
   | true => rw [List.filter_cons_of_pos h, List.findSome?_cons, List.findSome?_cons, if_pos h, some_filter p f l]
   | false => rw [List.filter_cons_of_neg (by rw [h]; decide), List.findSome?_cons, if_neg (by rw [h]; decide), some_filter p f l]
theorem head_map {α β : Type} (f : α → β) (l : List α) : (l.map f).head? = l.findSome? fun x => some (f x) := by cases l <;> rfl
theorem twins_eq (t : List Nat) (isL isR : Nat → Nat → Bool) : twinsR t isL isR = tAll t isL isR := by
 unfold twinsR tAll tI tK
 simp only [List.head?_flatMap, some_filter, head_map]
 have hd : ∀ i, t.getD i 0 = t.getD i default := fun _ => rfl
 congr 1
 funext i
 congr 1
 funext k
 congr 1
 funext j
 unfold tJ tM
 simp only [hd]
 by_cases h1 : i < j
 · by_cases h2 : (t.getD j default).testBit k = true
   · by_cases h3 : isL i j = true
     · simp [h1, h2, h3]
     · simp [h1, h2, h3]
   · simp [h1, h2]
 · simp [h1]
theorem some_at {α β : Type} {l : List α} {f : α → Option β} : ∀ {k : Nat} {r : α} {b : β}, (∀ y ∈ l.take k, f y = none) → l[k]? = some r → f r = some b → l.findSome? f = some b := by
 induction l with
 | nil => intro k r b _ h; cases h
 | cons a l ih =>
   intro k r b h1 h2 h3
   cases k with
   | zero => cases h2; rw [List.findSome?_cons, h3]
   | succ k =>
     rw [List.findSome?_cons, h1 a (by simp)]
     exact ih (fun y hy => h1 y (by simp [hy])) h2 h3
theorem some_none {α β : Type} {l : List α} {f : α → Option β} (h : ∀ y ∈ l, f y = none) : l.findSome? f = none := List.findSome?_eq_none_iff.2 h
theorem Twins_err (g : Gau) (ls rs : List Grd) (e1 e2 : Bool) (hs : StOk ls rs) (hc : checkS g ls rs ≠ 0) : Ct Tryd.prog 39 [encSt ls rs e1 e2, encGa g] (.tup [.lit (.slice none 0 0), int (checkS g ls rs)]) := by
 have hk := Check_st g e1 e2 hs
 generalize checkS g ls rs = c at *
 refine ct_enterZ Tryd.func39 rfl (by decide) Tryd.results39 Tryd.ntmps39 ?_ rfl (by simp (maxSteps := 1000000) -implicitDefEqProofs (disch := omega) only [go_sem]; rfl) fun base => ?_
 · first | assumption | (simp only [go_sem] <;> assumption) | (simp only [go_sem, *]; done) | (simp [go_sem]; done)
 repeat' (first
   | (with_reducible apply Req_intro); focus (first | omega | assumption | (simp; done))
   | with_reducible (first | apply Req_intro | refine nilT ?_ fun hn => ?_ | apply wk_draw Tryd_mixed | refine drawEnd (by kernel_rfl) ?_)
   | (with_reducible (first | apply condA_if | apply stepDG_ifN | apply stepDG_if | apply stepG_ifN | apply stepG_if)) <;> intro hb <;> (have hif := hb) <;> (try simp only [bo] at hif) <;> (try simp -implicitDefEqProofs (disch := omega) only [go_sem, hb]) <;> clear hb
   | simp (maxSteps := 1000000) -implicitDefEqProofs (disch := omega) only [go_sem])
 refine callp hk ?_
 try simp (maxSteps := 1000000) -implicitDefEqProofs (disch := omega) only [go_sem]
 repeat' (first
   | (with_reducible apply Req_intro); focus (first | omega | assumption | (simp; done))
   | with_reducible (first | apply Req_intro | refine nilT ?_ fun hn => ?_ | apply wk_draw Tryd_mixed | refine drawEnd (by kernel_rfl) ?_)
   | (with_reducible (first | apply condA_if | apply stepDG_ifN | apply stepDG_if | apply stepG_ifN | apply stepG_if)) <;> intro hb <;> (have hif := hb) <;> (try simp only [bo] at hif) <;> (try simp -implicitDefEqProofs (disch := omega) only [go_sem, hb]) <;> clear hb
   | simp (maxSteps := 1000000) -implicitDefEqProofs (disch := omega) only [go_sem])
 all_goals first | exact absurd ‹c = 0› hc | skip
 exact retz []
def twV : Option TwP → List V
 | none => [.sl 2 (([] : List (Nat × Nat)).map encP) false, int 7]
 | some (p, q) => [.sl 2 ([p, q].map encP) false, int 0]
theorem Twins_ok (g : Gau) (ls rs : List Grd) (e1 e2 : Bool) (hs : StOk ls rs) (hc : checkS g ls rs = 0) : Ct Tryd.prog 39 [encSt ls rs e1 e2, encGa g]
   (.tup (twV (tAll (tableR g ls rs 2) (fun i j => alikeR g (ls.getD i default) (ls.getD j default) 2) (fun i j => alikeR g (rs.getD i default) (rs.getD j default) 2)))) := by
 have hk := Check_st g e1 e2 hs
 rw [hc] at hk
 obtain ⟨hl8, hr8, hg, n, hn, hl, hr⟩ := checkS_ok hc
 have ht := table_spec g ls rs e1 e2 2 n hn hg hl hr (by decide) hl8 (by omega)
 have hn9 := table_nine g ls rs 2 (by omega)
 have hTl := tableR_len g ls rs 2
 have hTb : ∀ i, i < ls.length → ∀ r, ((tableR g ls rs 2).getD i default).testBit r = true → r < rs.length := fun i hi r h => by
   rw [show (tableR g ls rs 2).getD i default = rowR g (ls.getD i default) rs 2 from tableR_get hi, rowR_bit] at h
   simp only [Bool.and_eq_true, decide_eq_true_eq] at h
   exact h.1
 generalize tableR g ls rs 2 = T at *
 have cL : ∀ i j, i < ls.length → j < ls.length → Ct Tryd.prog 80 [.agg (encGd (ls.getD i default)), .agg (encGd (ls.getD j default)), .rp [int g.sc, int g.ga, int g.we, int g.cu]] (.lit (.bool ((fun i j => alikeR g (ls.getD i default) (ls.getD j default) 2) i j))) :=
   fun i j h1 h2 => Twins1_spec g _ _ n hn hg (hl _ (getD_mem h1)) (hl _ (getD_mem h2))
 have cR : ∀ i j, i < rs.length → j < rs.length → Ct Tryd.prog 80 [.agg (encGd (rs.getD i default)), .agg (encGd (rs.getD j default)), .rp [int g.sc, int g.ga, int g.we, int g.cu]] (.lit (.bool ((fun i j => alikeR g (rs.getD i default) (rs.getD j default) 2) i j))) :=
   fun i j h1 h2 => Twins1_spec g _ _ n hn hg (hr _ (getD_mem h1)) (hr _ (getD_mem h2))
 generalize (fun i j => alikeR g (ls.getD i default) (ls.getD j default) 2) = isL at *
 generalize (fun i j => alikeR g (rs.getD i default) (rs.getD j default) 2) = isR at *
 refine ct_enterT Tryd.func39 rfl (by decide) Tryd.results39 Tryd.ntmps39 ?_ rfl (by simp (maxSteps := 1000000) -implicitDefEqProofs (disch := omega) only [go_sem]; rfl) fun base => ?_
 · cases tAll T isL isR with
   | none => show PuL (twV none); unfold twV; first | assumption | (simp only [go_sem] <;> assumption) | (simp only [go_sem, *]; done) | (simp [go_sem]; done)
   | some z => obtain ⟨p, q⟩ := z; show PuL (twV (some (p, q))); unfold twV; first | assumption | (simp only [go_sem] <;> assumption) | (simp only [go_sem, *]; done) | (simp [go_sem]; done)
 repeat' (first
   | (with_reducible apply Req_intro); focus (first | omega | assumption | (simp; done))
   | with_reducible (first | apply Req_intro | refine nilT ?_ fun hn => ?_ | apply wk_draw Tryd_mixed | refine drawEnd (by kernel_rfl) ?_)
   | (with_reducible (first | apply condA_if | apply stepDG_ifN | apply stepDG_if | apply stepG_ifN | apply stepG_if)) <;> intro hb <;> (have hif := hb) <;> (try simp only [bo] at hif) <;> (try simp -implicitDefEqProofs (disch := omega) only [go_sem, hb]) <;> clear hb
   | simp (maxSteps := 1000000) -implicitDefEqProofs (disch := omega) only [go_sem])
 refine callp hk ?_
 try simp (maxSteps := 1000000) -implicitDefEqProofs (disch := omega) only [go_sem]
 repeat' (first
   | (with_reducible apply Req_intro); focus (first | omega | assumption | (simp; done))
   | with_reducible (first | apply Req_intro | refine nilT ?_ fun hn => ?_ | apply wk_draw Tryd_mixed | refine drawEnd (by kernel_rfl) ?_)
   | (with_reducible (first | apply condA_if | apply stepDG_ifN | apply stepDG_if | apply stepG_ifN | apply stepG_if)) <;> intro hb <;> (have hif := hb) <;> (try simp only [bo] at hif) <;> (try simp -implicitDefEqProofs (disch := omega) only [go_sem, hb]) <;> clear hb
   | simp (maxSteps := 1000000) -implicitDefEqProofs (disch := omega) only [go_sem])
 refine callp ht ?_
 try simp (maxSteps := 1000000) -implicitDefEqProofs (disch := omega) only [go_sem]
 repeat' (first
   | (with_reducible apply Req_intro); focus (first | omega | assumption | (simp; done))
   | with_reducible (first | apply Req_intro | refine nilT ?_ fun hn => ?_ | apply wk_draw Tryd_mixed | refine drawEnd (by kernel_rfl) ?_)
   | (with_reducible (first | apply condA_if | apply stepDG_ifN | apply stepDG_if | apply stepG_ifN | apply stepG_if)) <;> intro hb <;> (have hif := hb) <;> (try simp only [bo] at hif) <;> (try simp -implicitDefEqProofs (disch := omega) only [go_sem, hb]) <;> clear hb
   | simp (maxSteps := 1000000) -implicitDefEqProofs (disch := omega) only [go_sem])
 refine loop_rows (α := Nat) [9, 10, 11, 12, 13, 27, 28, 29, 30, 31, 32, 33, 34, 35, 36, 37, 38, 39, 40, 41, 42, 43, 44, 45, 46, 47, 48, 49, 50, 51, 52, 53, 54, 55, 56, 57, 58, 59, 60, 61, 62, 63, 64, 65, 66, 67, 68, 69, 70, 71, 72, 73, 74, 75, 76, 77, 78, 79, 80, 81, 82, 83, 84, 85, 86, 87, 88, 89, 90, 91, 92, 93, 94, 95, 96, 97] (fun i => [(27, .lit (.int .i64 i))]) (fun i => [(0, some ⟨2, [[.sl 2 (ls.map encGd) e1, .sl 2 (rs.map encGd) e2]], 38, .wr⟩), (64, some ⟨4, [[int g.sc, int g.ga, int g.we, int g.cu]], 26, .wr⟩), (128, some ⟨1, [[.os 256 2 0 false]], 42, .wr⟩), (192, some ⟨1, [[int 0]], 30, .wr⟩), (256, some ⟨2, [], 85, .wr⟩), (896, some ⟨1, [[.sl 1 (T.map encU) false]], 107, .wr⟩), (1088, some ⟨1, [[.fn (.func 80) [] [.ref 64 4 0 0]]], 123, .wr⟩)]) (fun i => i ≤ T.length ∧ ∀ y, y < i → tI T isL isR y = none) (fun i => T.length - i) 0 (fun x => by simp (maxSteps := 1000000) -implicitDefEqProofs (disch := omega) only [go_sem]; rfl) ?_ ?_ fun x hx => ?_
 · exact weak_do3 [(256, 1000000)]
 · exact ⟨Nat.zero_le _, fun y hy => by omega⟩
 obtain ⟨hxl, hxn⟩ := hx
 by_cases hlt : x < T.length
 · have hrow := hn9 _ (getD_mem (i := x) (by omega))
   repeat' (first
     | (with_reducible apply Req_intro); focus (first | omega | assumption | (simp; done))
     | with_reducible (first | apply Req_intro | refine nilT ?_ fun hn => ?_ | apply wk_draw Tryd_mixed | refine drawEnd (by kernel_rfl) ?_)
     | (with_reducible (first | apply condA_if | apply stepDG_ifN | apply stepDG_if | apply stepG_ifN | apply stepG_if)) <;> intro hb <;> (have hif := hb) <;> (try simp only [bo] at hif) <;> (try simp -implicitDefEqProofs (disch := omega) only [go_sem, hb]) <;> clear hb
     | simp (maxSteps := 1000000) -implicitDefEqProofs (disch := omega) only [go_sem])
   all_goals first | (exfalso; omega) | omega | skip
   refine call_box (bitsOf_box _) ?_ ⟨_, Tryd.func81, by rfl, by decide⟩
   try simp (maxSteps := 1000000) -implicitDefEqProofs (disch := omega) only [go_sem]
   repeat' (first
     | (with_reducible apply Req_intro); focus (first | omega | assumption | (simp; done))
     | with_reducible (first | apply Req_intro | refine nilT ?_ fun hn => ?_ | apply wk_draw Tryd_mixed | refine drawEnd (by kernel_rfl) ?_)
     | (with_reducible (first | apply condA_if | apply stepDG_ifN | apply stepDG_if | apply stepG_ifN | apply stepG_if)) <;> intro hb <;> (have hif := hb) <;> (try simp only [bo] at hif) <;> (try simp -implicitDefEqProofs (disch := omega) only [go_sem, hb]) <;> clear hb
     | simp (maxSteps := 1000000) -implicitDefEqProofs (disch := omega) only [go_sem])
   have hbits := fun (r : Nat) (hr : r ∈ bitsL (T.getD x default)) => bit_lt9 hrow hr
   have htI : tI T isL isR x = (bitsL (T.getD x default)).findSome? (tK T isL isR x) := rfl
   have hbR := fun (r : Nat) (hr : r ∈ bitsL (T.getD x default)) => hTb x (by omega) r (mem_bits hr)
   have hit := bits_it (T.getD x default) hrow
   generalize bitsL (T.getD x default) = bl at *
   refine range_own (α := List (Nat × Nat)) [] 1984 ⟨1, [[u64 (T.getD x default)]], 112, .wr⟩ (fun L => [(0, some ⟨2, [[.sl 2 (ls.map encGd) e1, .sl 2 (rs.map encGd) e2]], 38, .wr⟩), (64, some ⟨4, [[int g.sc, int g.ga, int g.we, int g.cu]], 26, .wr⟩), (128, some ⟨1, [[.os 2304 2 L.length false]], 42, .wr⟩), (192, some ⟨1, [[int 0]], 30, .wr⟩), (2304, some ⟨2, L.map encP, 85, .wr⟩), (896, some ⟨1, [[.sl 1 (T.map encU) false]], 107, .wr⟩), (1088, some ⟨1, [[.fn (.func 80) [] [.ref 64 4 0 0]]], 123, .wr⟩), (1664, some ⟨1, [[int x]], 3, .wr⟩), (1728, some ⟨1, [[u64 (T.getD x default)]], 112, .wr⟩)]) (fun _ => 0) (fun _ => false) (fun k L => L = [] ∧ ∀ y ∈ bl.take k, tK T isL isR x y = none) (fun c L => c = .ret ∧ ∃ p q, tI T isL isR x = some (p, q) ∧ L = [p, q]) [] 2368 (by first | (simp (maxSteps := 1000000) -implicitDefEqProofs (disch := omega) only [go_sem]; done) | (simp (maxSteps := 1000000) -implicitDefEqProofs (disch := omega) only [go_sem]; rfl)) (by first | (simp (maxSteps := 1000000) -implicitDefEqProofs (disch := omega) only [go_sem]; done) | (simp (maxSteps := 1000000) -implicitDefEqProofs (disch := omega) only [go_sem]; rfl)) hit ?_ rfl (pu_one _) (by decide) ?_ ?_ (by rfl) ?_ ?_ ?_ ?_ ?_ ?_ (fun base' => ?_) ?_ ?_ ?_
   · first | assumption | (simp only [go_sem] <;> assumption) | (simp only [go_sem, *]; done) | (simp [go_sem]; done)
   · intro y hy
     rw [List.mem_map] at hy
     obtain ⟨w, _, rfl⟩ := hy
     rfl
   · simp only [List.map_nil, List.length_nil]
     exact weak_do3 [(2304, 256)]
   · rfl
   · rfl
   · exact ⟨rfl, by simp⟩
   · repeat' (first
       | with_reducible exact idsLt_nil
       | with_reducible refine idsLt_cons ?_ ?_
       | with_reducible exact IdLt.pu _ Pu_undef
       | with_reducible exact IdLt.pu _ (Pu_lit _)
       | ((with_reducible refine IdLt.ref _ _ _ _ ?_); decide)
       | ((with_reducible refine IdLt.os _ _ _ _ ?_); decide)
       | ((with_reducible refine IdLt.pu _ ?_); first | assumption | (simp only [go_sem] <;> assumption) | (simp only [go_sem, *]; done) | (simp [go_sem]; done))
       | (with_reducible refine idLt_fn ?_ ?_)
       | (with_reducible refine idLt_agg ?_))
   · decide
   · decide
   · rintro k L y ⟨rfl, hz⟩ hy
     rw [List.getElem?_map, Option.map_eq_some_iff] at hy
     obtain ⟨w, hw, rfl⟩ := hy
     have hwm := List.mem_of_getElem? hw
     have hw9 := hbits w hwm
     have hwR := hbR w hwm
     have hq9 := pow_lt9 hw9
     have f4 : (1 : Int) * 2 ^ min w 64 = ((2 ^ w : Nat) : Int) := by rw [Nat.min_eq_left (by omega), Int.one_mul, Int.natCast_pow]; rfl
     have htKw : tK T isL isR x w = (List.range T.length).findSome? (tJ T isL isR x w) := rfl
     simp only [List.map_nil, List.length_nil]
     repeat' (first
       | (with_reducible apply Req_intro); focus (first | omega | assumption | (simp; done))
       | with_reducible (first | apply Req_intro | refine nilT ?_ fun hn => ?_ | apply wk_draw Tryd_mixed | refine drawEnd (by kernel_rfl) ?_)
       | (with_reducible (first | apply condA_if | apply stepDG_ifN | apply stepDG_if | apply stepG_ifN | apply stepG_if)) <;> intro hb <;> (have hif := hb) <;> (try simp only [bo] at hif) <;> (try simp -implicitDefEqProofs (disch := omega) only [go_sem, hb]) <;> clear hb
       | simp (maxSteps := 1000000) -implicitDefEqProofs (disch := omega) only [go_sem])
     refine loop_rows (α := Nat) [12, 13, 37, 38, 39, 40, 41, 42, 43, 44, 45, 46, 47, 48, 49, 50, 51, 52, 53, 54, 55, 56, 57, 58, 59, 60, 61, 62, 63, 64, 65, 66, 67, 68, 69, 70, 71, 72, 73, 74, 75, 76, 77, 78, 79, 80, 81, 82, 83, 84, 85, 86, 87, 88, 89, 90, 91, 92, 93, 94, 95, 96] (fun j => [(12, .ref 2624 1 0 0)]) (fun j => [(0, some ⟨2, [[.sl 2 (ls.map encGd) e1, .sl 2 (rs.map encGd) e2]], 38, .wr⟩), (64, some ⟨4, [[int g.sc, int g.ga, int g.we, int g.cu]], 26, .wr⟩), (128, some ⟨1, [[.os 2304 2 0 false]], 42, .wr⟩), (192, some ⟨1, [[int 0]], 30, .wr⟩), (2304, some ⟨2, [], 85, .wr⟩), (896, some ⟨1, [[.sl 1 (T.map encU) false]], 107, .wr⟩), (1088, some ⟨1, [[.fn (.func 80) [] [.ref 64 4 0 0]]], 123, .wr⟩), (1664, some ⟨1, [[int x]], 3, .wr⟩), (1728, some ⟨1, [[u64 (T.getD x default)]], 112, .wr⟩), (2368, some ⟨1, [[int w]], 3, .wr⟩), (2624, some ⟨1, [[int j]], 3, .wr⟩)]) (fun j => x < j ∧ j ≤ T.length ∧ ∀ y, y < j → tJ T isL isR x w y = none) (fun j => T.length - j) (x + 1) (fun x => by simp (maxSteps := 1000000) -implicitDefEqProofs (disch := omega) only [go_sem]; rfl) ?_ ?_ fun x hx => ?_
     · exact weak_do3 []
     · exact ⟨by omega, by omega, fun y hy => by rw [tJ, if_neg (fun h => by omega)]⟩
     rename_i ox
     obtain ⟨hj1, hj2, hj3⟩ := hx
     by_cases hjt : x < T.length
     · have hrj := hn9 _ (getD_mem (i := x) (by omega))
       have f1 := shr_nat (T.getD x default) (i := w) (by omega)
       have f2 := shr_bit (T.getD x default) (i := w) hrj
       have hbj := hTb x (by omega)
       have f5 := ib_and (T.getD ox default) (T.getD x default) (by omega) (by omega)
       have hM1 : T.getD ox default &&& T.getD x default < 512 := Nat.lt_of_le_of_lt Nat.and_le_left hrow
       have f6 := ib_andNot (T.getD ox default &&& T.getD x default) (2 ^ w) (by omega) (by omega)
       have hM2 : ndiff (T.getD ox default &&& T.getD x default) (2 ^ w) < 512 := Nat.lt_of_le_of_lt (ndiff_le _ _) hM1
       have hMb : ∀ r, r ∈ bitsL (ndiff (T.getD ox default &&& T.getD x default) (2 ^ w)) → r < 9 ∧ r < rs.length := fun r h => ⟨bit_lt9 hM2 h, by
         have h2 := mem_bits h
         rw [ndiff_bit, Nat.testBit_and] at h2
         simp only [Bool.and_eq_true] at h2
         exact hbj r h2.1.2⟩
       have htM : tM T isR ox w x = (bitsL (ndiff (T.getD ox default &&& T.getD x default) (2 ^ w))).findSome? fun m => if isR w m then some ((ox, w), (x, m)) else none := rfl
       have hJx : tJ T isL isR ox w x = if ox < x ∧ (T.getD x default).testBit w = true ∧ isL ox x = true then tM T isR ox w x else none := rfl
       have cl := cL ox x (by omega) (by omega)
       by_cases htb : (T.getD x default).testBit w = true
       · rw [if_pos htb] at f2
         rw [htb] at hJx
         repeat' (first
           | (with_reducible apply Req_intro); focus (first | omega | assumption | (simp; done))
           | with_reducible (first | apply Req_intro | refine nilT ?_ fun hn => ?_ | apply wk_draw Tryd_mixed | refine drawEnd (by kernel_rfl) ?_)
           | (with_reducible (first | apply condA_if | apply stepDG_ifN | apply stepDG_if | apply stepG_ifN | apply stepG_if)) <;> intro hb <;> (have hif := hb) <;> (try simp only [bo] at hif) <;> (try simp -implicitDefEqProofs (disch := omega) only [go_sem, hb, f1, f2]) <;> clear hb
           | simp (maxSteps := 1000000) -implicitDefEqProofs (disch := omega) only [go_sem, f1, f2])
         all_goals first | (exfalso; omega) | omega | skip
         refine calldr 64 cl ?_
         try simp (maxSteps := 1000000) -implicitDefEqProofs (disch := omega) only [go_sem]
         generalize 2 ^ w = qw at *
         repeat' (first
           | (with_reducible apply Req_intro); focus (first | omega | assumption | (simp; done))
           | with_reducible (first | apply Req_intro | refine nilT ?_ fun hn => ?_ | apply wk_draw Tryd_mixed | refine drawEnd (by kernel_rfl) ?_)
           | (with_reducible (first | apply condA_if | apply stepDG_ifN | apply stepDG_if | apply stepG_ifN | apply stepG_if)) <;> intro hb <;> (have hif := hb) <;> (try simp only [bo] at hif) <;> (try simp -implicitDefEqProofs (disch := omega) only [go_sem, hb, f4, f5, f6]) <;> clear hb
           | simp (maxSteps := 1000000) -implicitDefEqProofs (disch := omega) only [go_sem, f4, f5, f6])
         all_goals first | (exfalso; omega) | omega | skip
         · rw [if_neg (fun h => by rw [hif] at h; exact absurd h.2.2 (by decide))] at hJx
           with_reducible refine nxt_w (x + 1) ?_ ?_
           · (try dsimp only)
             skip
             exact weak_do3 [(2624, 4544)]
           try dsimp only
           · refine ⟨by omega, by omega, fun y hy => ?_⟩
             rcases Nat.lt_succ_iff_lt_or_eq.1 hy with h | rfl
             · exact hj3 y h
             · exact hJx
         rw [if_pos ⟨hj1, rfl, hif⟩] at hJx
         (with_reducible refine callL_last (by kernel_rfl) ?_)
         try simp only [go_sem]
         refine call_box (bitsOf_box _) ?_ ⟨_, Tryd.func81, by rfl, by decide⟩
         try simp (maxSteps := 1000000) -implicitDefEqProofs (disch := omega) only [go_sem]
         repeat' (first
           | (with_reducible apply Req_intro); focus (first | omega | assumption | (simp; done))
           | with_reducible (first | apply Req_intro | refine nilT ?_ fun hn => ?_ | apply wk_draw Tryd_mixed | refine drawEnd (by kernel_rfl) ?_)
           | (with_reducible (first | apply condA_if | apply stepDG_ifN | apply stepDG_if | apply stepG_ifN | apply stepG_if)) <;> intro hb <;> (have hif := hb) <;> (try simp only [bo] at hif) <;> (try simp -implicitDefEqProofs (disch := omega) only [go_sem, hb]) <;> clear hb
           | simp (maxSteps := 1000000) -implicitDefEqProofs (disch := omega) only [go_sem])
         have hit2 := bits_it _ hM2
         generalize ndiff (T.getD ox default &&& T.getD x default) qw = M at *
         generalize bitsL M = ml at *
         refine range_own (α := List (Nat × Nat)) [] 5056 ⟨1, [[u64 M]], 112, .wr⟩ (fun L => [(0, some ⟨2, [[.sl 2 (ls.map encGd) e1, .sl 2 (rs.map encGd) e2]], 38, .wr⟩), (64, some ⟨4, [[int g.sc, int g.ga, int g.we, int g.cu]], 26, .wr⟩), (128, some ⟨1, [[.os 5376 2 L.length false]], 42, .wr⟩), (192, some ⟨1, [[int 0]], 30, .wr⟩), (5376, some ⟨2, L.map encP, 85, .wr⟩), (896, some ⟨1, [[.sl 1 (T.map encU) false]], 107, .wr⟩), (1088, some ⟨1, [[.fn (.func 80) [] [.ref 64 4 0 0]]], 123, .wr⟩), (1664, some ⟨1, [[int ox]], 3, .wr⟩), (1728, some ⟨1, [[u64 (T.getD ox default)]], 112, .wr⟩), (2368, some ⟨1, [[int w]], 3, .wr⟩), (2624, some ⟨1, [[int x]], 3, .wr⟩)]) (fun _ => 0) (fun _ => false) (fun k L => L = [] ∧ ∀ y ∈ ml.take k, isR w y = false) (fun c L => c = .ret ∧ ∃ p q, tM T isR ox w x = some (p, q) ∧ L = [p, q]) [] 5440 (by first | (simp (maxSteps := 1000000) -implicitDefEqProofs (disch := omega) only [go_sem]; done) | (simp (maxSteps := 1000000) -implicitDefEqProofs (disch := omega) only [go_sem]; rfl)) (by first | (simp (maxSteps := 1000000) -implicitDefEqProofs (disch := omega) only [go_sem]; done) | (simp (maxSteps := 1000000) -implicitDefEqProofs (disch := omega) only [go_sem]; rfl)) hit2 ?_ rfl (pu_one _) (by decide) ?_ ?_ (by rfl) ?_ ?_ ?_ ?_ ?_ ?_ (fun base' => ?_) ?_ ?_ ?_
         · first | assumption | (simp only [go_sem] <;> assumption) | (simp only [go_sem, *]; done) | (simp [go_sem]; done)
         · intro y hy
           rw [List.mem_map] at hy
           obtain ⟨w, _, rfl⟩ := hy
           rfl
         · simp only [List.map_nil, List.length_nil]
           exact weak_do3 [(5376, 2304)]
         · rfl
         · rfl
         · exact ⟨rfl, by simp⟩
         · repeat' (first
             | with_reducible exact idsLt_nil
             | with_reducible refine idsLt_cons ?_ ?_
             | with_reducible exact IdLt.pu _ Pu_undef
             | with_reducible exact IdLt.pu _ (Pu_lit _)
             | ((with_reducible refine IdLt.ref _ _ _ _ ?_); decide)
             | ((with_reducible refine IdLt.os _ _ _ _ ?_); decide)
             | ((with_reducible refine IdLt.pu _ ?_); first | assumption | (simp only [go_sem] <;> assumption) | (simp only [go_sem, *]; done) | (simp [go_sem]; done))
             | (with_reducible refine idLt_fn ?_ ?_)
             | (with_reducible refine idLt_agg ?_))
         · decide
         · decide
         · rintro k2 L y ⟨rfl, hz2⟩ hy
           rw [List.getElem?_map, Option.map_eq_some_iff] at hy
           obtain ⟨m, hm, rfl⟩ := hy
           have hmm := List.mem_of_getElem? hm
           obtain ⟨hm9, hmR⟩ := hMb m hmm
           have cr := cR w m hwR hmR
           simp only [List.map_nil, List.length_nil]
           repeat' (first
             | (with_reducible apply Req_intro); focus (first | omega | assumption | (simp; done))
             | with_reducible (first | apply Req_intro | refine nilT ?_ fun hn => ?_ | apply wk_draw Tryd_mixed | refine drawEnd (by kernel_rfl) ?_)
             | (with_reducible (first | apply condA_if | apply stepDG_ifN | apply stepDG_if | apply stepG_ifN | apply stepG_if)) <;> intro hb <;> (have hif := hb) <;> (try simp only [bo] at hif) <;> (try simp -implicitDefEqProofs (disch := omega) only [go_sem, hb]) <;> clear hb
             | simp (maxSteps := 1000000) -implicitDefEqProofs (disch := omega) only [go_sem])
           all_goals first | (exfalso; omega) | omega | skip
           (with_reducible refine callL_last (by kernel_rfl) ?_)
           try simp only [go_sem]
           refine callc cr ?_
           try simp (maxSteps := 1000000) -implicitDefEqProofs (disch := omega) only [go_sem]
           repeat' (first
             | (with_reducible apply Req_intro); focus (first | omega | assumption | (simp; done))
             | with_reducible (first | apply Req_intro | refine nilT ?_ fun hn => ?_ | apply wk_draw Tryd_mixed | refine drawEnd (by kernel_rfl) ?_)
             | (with_reducible (first | apply condA_if | apply stepDG_ifN | apply stepDG_if | apply stepG_ifN | apply stepG_if)) <;> intro hb <;> (have hif := hb) <;> (try simp only [bo] at hif) <;> (try simp -implicitDefEqProofs (disch := omega) only [go_sem, hb]) <;> clear hb
             | simp (maxSteps := 1000000) -implicitDefEqProofs (disch := omega) only [go_sem])
           all_goals first | (exfalso; omega) | omega | skip
           · have hMs : tM T isR ox w x = some ((ox, w), (x, m)) := by
               rw [htM]
               exact some_at (k := k2) (fun y hy => by rw [if_neg (by rw [hz2 y hy]; decide)]) hm (by rw [if_pos hif])
             rw [show [[V.lit (.int .i64 ox), V.lit (.int .i64 w)], [V.lit (.int .i64 x), V.lit (.int .i64 m)]] = [(ox, w), (x, m)].map encP from rfl]
             refine rnd_ret [(ox, w), (x, m)] ⟨rfl, _, _, hMs, rfl⟩ ?_
             exact forget_do [(5376, 6656)]
           · refine rnd_next [] ⟨rfl, fun y hy => ?_⟩ ?_
             · rw [List.take_add_one, hm] at hy
               rcases List.mem_append.1 hy with h | h
               · exact hz2 y h
               · simp at h
                 subst h
                 exact hif
             · simp only [List.map_nil, List.length_nil]
               exact forget_do []
         · rintro L ⟨rfl, hz2⟩
           have hMn : tM T isR ox w x = none := by
             rw [htM]
             exact some_none fun y hy => by rw [if_neg (by rw [hz2 y (by simpa using hy)]; decide)]
           rw [hMn] at hJx
           simp only [List.map_nil, List.length_nil]
           repeat' (first
             | (with_reducible apply Req_intro); focus (first | omega | assumption | (simp; done))
             | with_reducible (first | apply Req_intro | refine nilT ?_ fun hn => ?_ | apply wk_draw Tryd_mixed | refine drawEnd (by kernel_rfl) ?_)
             | (with_reducible (first | apply condA_if | apply stepDG_ifN | apply stepDG_if | apply stepG_ifN | apply stepG_if)) <;> intro hb <;> (have hif := hb) <;> (try simp only [bo] at hif) <;> (try simp -implicitDefEqProofs (disch := omega) only [go_sem, hb]) <;> clear hb
             | simp (maxSteps := 1000000) -implicitDefEqProofs (disch := omega) only [go_sem])
           all_goals first | (exfalso; omega) | omega | skip
           with_reducible refine nxt_w (x + 1) ?_ ?_
           · (try dsimp only)
             skip
             exact weak_do3 [(2624, 5504), (2304, 5376)]
           try dsimp only
           refine ⟨by omega, by omega, fun y hy => ?_⟩
           rcases Nat.lt_succ_iff_lt_or_eq.1 hy with h | rfl
           · exact hj3 y h
           · exact hJx
         · rintro L ⟨_, p, q, hpq, rfl⟩
           have hKw : tK T isL isR ox w = some (p, q) := by
             rw [htKw]
             exact some_at (k := x) (fun y hy => hj3 y (by rw [List.take_range] at hy; have := List.mem_range.1 hy; omega)) (by rw [List.getElem?_range (by omega)]) (by rw [hJx, hpq])
           have hIx : tI T isL isR ox = some (p, q) := by rw [htI]; exact some_at hz hw hKw
           repeat' (first
             | (with_reducible apply Req_intro); focus (first | omega | assumption | (simp; done))
             | with_reducible (first | apply Req_intro | refine nilT ?_ fun hn => ?_ | apply wk_draw Tryd_mixed | refine drawEnd (by kernel_rfl) ?_)
             | (with_reducible (first | apply condA_if | apply stepDG_ifN | apply stepDG_if | apply stepG_ifN | apply stepG_if)) <;> intro hb <;> (have hif := hb) <;> (try simp only [bo] at hif) <;> (try simp -implicitDefEqProofs (disch := omega) only [go_sem, hb]) <;> clear hb
             | simp (maxSteps := 1000000) -implicitDefEqProofs (disch := omega) only [go_sem])
           refine rnd_ret [p, q] ⟨rfl, p, q, hIx, rfl⟩ ?_
           exact forget_do [(2304, 5376)]
         · rintro id L ⟨h, _⟩
           cases h
       · rw [if_neg htb] at f2
         rw [if_neg (fun h => htb h.2.1)] at hJx
         repeat' (first
           | (with_reducible apply Req_intro); focus (first | omega | assumption | (simp; done))
           | with_reducible (first | apply Req_intro | refine nilT ?_ fun hn => ?_ | apply wk_draw Tryd_mixed | refine drawEnd (by kernel_rfl) ?_)
           | (with_reducible (first | apply condA_if | apply stepDG_ifN | apply stepDG_if | apply stepG_ifN | apply stepG_if)) <;> intro hb <;> (have hif := hb) <;> (try simp only [bo] at hif) <;> (try simp -implicitDefEqProofs (disch := omega) only [go_sem, hb, f1, f2]) <;> clear hb
           | simp (maxSteps := 1000000) -implicitDefEqProofs (disch := omega) only [go_sem, f1, f2])
         all_goals first | (exfalso; omega) | omega | skip
         with_reducible refine nxt_w (x + 1) ?_ ?_
         · (try dsimp only)
           skip
           exact weak_do3 [(2624, 4544)]
         try dsimp only
         · refine ⟨by omega, by omega, fun y hy => ?_⟩
           rcases Nat.lt_succ_iff_lt_or_eq.1 hy with h | rfl
           · exact hj3 y h
           · exact hJx
     · obtain rfl : x = T.length := by omega
       repeat' (first
         | (with_reducible apply Req_intro); focus (first | omega | assumption | (simp; done))
         | with_reducible (first | apply Req_intro | refine nilT ?_ fun hn => ?_ | apply wk_draw Tryd_mixed | refine drawEnd (by kernel_rfl) ?_)
         | (with_reducible (first | apply condA_if | apply stepDG_ifN | apply stepDG_if | apply stepG_ifN | apply stepG_if)) <;> intro hb <;> (have hif := hb) <;> (try simp only [bo] at hif) <;> (try simp -implicitDefEqProofs (disch := omega) only [go_sem, hb]) <;> clear hb
         | simp (maxSteps := 1000000) -implicitDefEqProofs (disch := omega) only [go_sem])
       all_goals first | (exfalso; omega) | omega | skip
       have hKw : tK T isL isR ox w = none := by rw [htKw]; exact some_none fun y hy => hj3 y (List.mem_range.1 hy)
       refine rnd_next [] ⟨rfl, fun y hy => ?_⟩ ?_
       · rw [List.take_add_one, hw] at hy
         rcases List.mem_append.1 hy with h | h
         · exact hz y h
         · simp at h
           subst h
           exact hKw
       · simp only [List.map_nil, List.length_nil]
         exact forget_do []
   · rintro L ⟨rfl, hz⟩
     have hIx : tI T isL isR x = none := by rw [htI]; exact some_none fun y hy => hz y (by simpa using hy)
     simp only [List.map_nil, List.length_nil]
     repeat' (first
       | (with_reducible apply Req_intro); focus (first | omega | assumption | (simp; done))
       | with_reducible (first | apply Req_intro | refine nilT ?_ fun hn => ?_ | apply wk_draw Tryd_mixed | refine drawEnd (by kernel_rfl) ?_)
       | (with_reducible (first | apply condA_if | apply stepDG_ifN | apply stepDG_if | apply stepG_ifN | apply stepG_if)) <;> intro hb <;> (have hif := hb) <;> (try simp only [bo] at hif) <;> (try simp -implicitDefEqProofs (disch := omega) only [go_sem, hb]) <;> clear hb
       | simp (maxSteps := 1000000) -implicitDefEqProofs (disch := omega) only [go_sem])
     all_goals first | (exfalso; omega) | omega | skip
     with_reducible refine nxt_w (x + 1) ?_ ?_
     · (try dsimp only)
       skip
       exact weak_do3 [(256, 2304)]
     try dsimp only
     refine ⟨by omega, fun y hy => ?_⟩
     rcases Nat.lt_succ_iff_lt_or_eq.1 hy with h | rfl
     · exact hxn y h
     · exact hIx
   · rintro L ⟨_, p, q, hpq, rfl⟩
     rw [show tAll T isL isR = some (p, q) from some_at (k := x) (fun y hy => hxn y (by rw [List.take_range] at hy; have := List.mem_range.1 hy; omega)) (by rw [List.getElem?_range (by omega)]) hpq, show twV (some (p, q)) = [.sl 2 ([p, q].map encP) false, int 0] from rfl]
     repeat' (first
       | (with_reducible apply Req_intro); focus (first | omega | assumption | (simp; done))
       | with_reducible (first | apply Req_intro | refine nilT ?_ fun hn => ?_ | apply wk_draw Tryd_mixed | refine drawEnd (by kernel_rfl) ?_)
       | (with_reducible (first | apply condA_if | apply stepDG_ifN | apply stepDG_if | apply stepG_ifN | apply stepG_if)) <;> intro hb <;> (have hif := hb) <;> (try simp only [bo] at hif) <;> (try simp -implicitDefEqProofs (disch := omega) only [go_sem, hb]) <;> clear hb
       | simp (maxSteps := 1000000) -implicitDefEqProofs (disch := omega) only [go_sem])
     exact rett [2304]
   · rintro id L ⟨h, _⟩
     cases h
 · obtain rfl : x = T.length := by omega
   rw [show tAll T isL isR = none from some_none fun y hy => hxn y (List.mem_range.1 hy), show twV none = [.sl 2 (([] : List (Nat × Nat)).map encP) false, int 7] from rfl]
   repeat' (first
     | (with_reducible apply Req_intro); focus (first | omega | assumption | (simp; done))
     | with_reducible (first | apply Req_intro | refine nilT ?_ fun hn => ?_ | apply wk_draw Tryd_mixed | refine drawEnd (by kernel_rfl) ?_)
     | (with_reducible (first | apply condA_if | apply stepDG_ifN | apply stepDG_if | apply stepG_ifN | apply stepG_if)) <;> intro hb <;> (have hif := hb) <;> (try simp only [bo] at hif) <;> (try simp -implicitDefEqProofs (disch := omega) only [go_sem, hb]) <;> clear hb
     | simp (maxSteps := 1000000) -implicitDefEqProofs (disch := omega) only [go_sem])
   all_goals first | (exfalso; omega) | omega | skip
   exact rett []
end Go.Aw
end
section
namespace Go.Aw
open Go.RowKit Go.Proofs
section
variable {P : Program} {g f : FuncId} {args0 first args cap : List V} {rows0 l : List (Nat × Option Blk)} {m nx0 n k : Nat} {b : Blk} {dst : Option Tmp} {K : St → Prop} {tm : List V} {gh : Gh}
def BoxNewK (P : Program) (g f : FuncId) (args : List V) (m k : Nat) (b : Blk) (nx0 : Nat) : Prop :=
 ∃ rows0, CallH P g args (fun _ => none) 0 (fun r h n => r = .fn (.func f) [] [.ref m k 0 0] ∧ h = hpOf (fun _ => none) rows0 ∧ n = nx0) ∧ hpOf (fun _ => none) rows0 m = some b
theorem call_boxK (hc : BoxNewK P g f args0 m k b nx0) (hk : K ⟨putT tm dst (.fn (.func f) [] [.ref (n + m) k 0 0]), hpOf (fun _ => none) (l ++ [(n + m, some b)]), n + nx0, gh⟩)
   (hbd : ∃ fn, P.funcs[g]? = some fn ∧ fn.body.isSome = true ∧ fn.name ≠ "runtime.NumGoroutine") (ha : first ++ args ++ cap = args0 := by first | (simp only [go_sem]; done) | (simp only [go_sem]; rfl)) (hpu : PuL args0 = True := by first | assumption | (simp only [go_sem] <;> assumption) | (simp only [go_sem, *]; done) | (simp [go_sem]; done))
   (hn : nx0 ≤ 9223372036854775808 := by decide) (hm : m < nx0 := by decide) (hbp : PuE b.es = True := by first | assumption | (simp only [go_sem] <;> assumption) | (simp only [go_sem, *]; done) | (simp [go_sem]; done)) :
   CallA P (.fn (.func g) first cap) args dst K ⟨tm, hpOf (fun _ => none) l, n, gh⟩ := by
 obtain ⟨rows0, hc, hb⟩ := hc
 have hp : PurL true (hpOf (fun _ => none) l) (first ++ args ++ cap) args0 := by
   rw [ha]
   exact ⟨rfl, fun i d d' h1 h2 => by rw [h1] at h2; cases h2; exact .pu _ (of_eq_true hpu _ (List.mem_of_getElem? h1))⟩
 have e : rhoF n (n + m) = m := by unfold rhoF; rw [if_neg (by omega)]; omega
 refine callA_shared _ (CallH.fresh (nx := n) (l := l) hc hp hn (r' := .fn (.func f) [] [.ref (n + m) k 0 0]) (rows := [(n + m, some b)]) (Ren.fn _ _ _ _ _ rfl rfl (fun j d d' h => by cases h) (fun j d d' h h' => by
   cases j with
   | zero => cases h; cases h'; exact .ref _ _ _ _ _ e (by omega)
   | succ j => cases h)) (.row _ _ _ _ _ _ _ (by omega) (by rw [e]; exact hb) (RenE.pu _ (of_eq_true hbp)) .nil) (by simp)) hbd fun r h' nx' hp => ?_
 obtain ⟨rfl, rfl, rfl⟩ := hp
 exact hk
end
theorem places_box (ls rs : List Grd) (e1 e2 : Bool) : BoxNewK Tryd.prog 83 103 [encSt ls rs e1 e2] 0 2 ⟨2, [[.sl 2 (ls.map encGd) e1, .sl 2 (rs.map encGd) e2]], 38, .wr⟩ 256 := by
 refine ⟨[(0, some ⟨2, [[.sl 2 (ls.map encGd) e1, .sl 2 (rs.map encGd) e2]], 38, .wr⟩)], ?_, ?_⟩
 · refine callH_enter Tryd.func83 rfl Tryd.results83 Tryd.ntmps83 rfl (by simp (maxSteps := 1000000) -implicitDefEqProofs (disch := omega) only [go_sem]; rfl) fun base => ?_
   repeat' (first
     | (with_reducible apply Req_intro); focus (first | omega | assumption | (simp; done))
     | with_reducible (first | apply Req_intro | refine nilT ?_ fun hn => ?_ | apply wk_draw Tryd_mixed | refine drawEnd (by kernel_rfl) ?_)
     | (with_reducible (first | apply condA_if | apply stepDG_ifN | apply stepDG_if | apply stepG_ifN | apply stepG_if)) <;> intro hb <;> (have hif := hb) <;> (try simp only [bo] at hif) <;> (try simp -implicitDefEqProofs (disch := omega) only [go_sem, hb]) <;> clear hb
     | simp (maxSteps := 1000000) -implicitDefEqProofs (disch := omega) only [go_sem])
   refine ret_do ?_
   exact ⟨rfl, rfl, rfl⟩
 · rfl
def placesL (a b : Nat) : List (Bool × Nat) := (List.range a).map (fun i => (false, i)) ++ (List.range b).map fun i => (true, i)
theorem places_len (a b : Nat) : (placesL a b).length = a + b := by simp [placesL]
theorem places_l {a b i : Nat} (h : i < a) : (placesL a b)[i]? = some (false, i) := by rw [placesL, List.getElem?_append_left (by simpa using h)]; simp [h]
theorem places_r {a b i : Nat} (h : i < b) : (placesL a b)[a + i]? = some (true, i) := by rw [placesL, List.getElem?_append_right (by simp)]; simp [h]
def encPl (p : Bool × Nat) : List V := [.agg [.lit (.bool p.1), int p.2]]
def cntS (a b s : Nat) : Nat := if s = 0 then 0 else if s = 1 then a else a + b
theorem places_it (ls rs : List Grd) (e1 e2 : Bool) (hl : ls.length ≤ 100) (hr : rs.length ≤ 100) : ItO Tryd.prog 103 [.ref 0 2 0 0] [(0, some ⟨2, [[.sl 2 (ls.map encGd) e1, .sl 2 (rs.map encGd) e2]], 38, .wr⟩)] 64 ((placesL ls.length rs.length).map encPl) := by
 refine it_enterO (rows := [(0, some ⟨2, [[.sl 2 (ls.map encGd) e1, .sl 2 (rs.map encGd) e2]], 38, .wr⟩)]) (nx := 64) Tryd.func103 rfl (by decide) Tryd.results103 Tryd.ntmps103 rfl (fun l => by simp (maxSteps := 1000000) -implicitDefEqProofs (disch := omega) only [go_sem]; rfl) fun base l => ?_
 have hpl := fun i => places_l (a := ls.length) (b := rs.length) (i := i)
 have hpr := fun i => places_r (a := ls.length) (b := rs.length) (i := i)
 have hlen := places_len ls.length rs.length
 generalize placesL ls.length rs.length = pl at *
 have s0 : cntS ls.length rs.length 0 = 0 := rfl
 have s1 : cntS ls.length rs.length 1 = ls.length := rfl
 have s2 : cntS ls.length rs.length 2 = ls.length + rs.length := rfl
 repeat' (first
   | (with_reducible apply Req_intro); focus (first | omega | assumption | (simp; done))
   | with_reducible (first | apply Req_intro | refine nilT ?_ fun hn => ?_ | apply wk_draw Tryd_mixed | refine drawEnd (by kernel_rfl) ?_)
   | (with_reducible (first | apply condA_if | apply stepDG_ifN | apply stepDG_if | apply stepG_ifN | apply stepG_if)) <;> intro hb <;> (have hif := hb) <;> (try simp only [bo] at hif) <;> (try simp -implicitDefEqProofs (disch := omega) only [go_sem, hb]) <;> clear hb
   | simp (maxSteps := 1000000) -implicitDefEqProofs (disch := omega) only [go_sem])
 refine loop_gh (α := Nat) [4, 5, 16, 17, 18, 19, 20, 21, 22, 23, 24, 25, 26, 27, 28, 29, 30, 31, 32, 33] (fun s => [(16, .lit (.int .i64 s))]) (fun s => [(0, some ⟨2, [[.sl 2 (ls.map encGd) e1, .sl 2 (rs.map encGd) e2]], 38, .wr⟩), (576, some ⟨2, [[.lit (.bool false), int ls.length], [.lit (.bool true), int rs.length]], 152, .wr⟩)]) (fun s => cntS ls.length rs.length s) (fun s => s ≤ 2) (fun s => 2 - s) 0 (fun x => by simp (maxSteps := 1000000) -implicitDefEqProofs (disch := omega) only [go_sem]; rfl) ?_ ?_ ?_ fun x hx => ?_
 · rfl
 · exact weak_do3 []
 · exact Nat.zero_le _
 obtain rfl | rfl | rfl : x = 0 ∨ x = 1 ∨ x = 2 := by omega
 · rw [s0]
   repeat' (first
     | (with_reducible apply Req_intro); focus (first | omega | assumption | (simp; done))
     | with_reducible (first | apply Req_intro | refine nilT ?_ fun hn => ?_ | apply wk_draw Tryd_mixed | refine drawEnd (by kernel_rfl) ?_)
     | (with_reducible (first | apply condA_if | apply stepDG_ifN | apply stepDG_if | apply stepG_ifN | apply stepG_if)) <;> intro hb <;> (have hif := hb) <;> (try simp only [bo] at hif) <;> (try simp -implicitDefEqProofs (disch := omega) only [go_sem, hb]) <;> clear hb
     | simp (maxSteps := 1000000) -implicitDefEqProofs (disch := omega) only [go_sem])
   all_goals first | (exfalso; omega) | omega | skip
   refine loop_gh (α := Nat) [5, 22, 23, 24, 25, 26, 27, 28, 29, 30, 31, 32] (fun i => [(22, .lit (.int .i64 i))]) (fun i => [(0, some ⟨2, [[.sl 2 (ls.map encGd) e1, .sl 2 (rs.map encGd) e2]], 38, .wr⟩), (576, some ⟨2, [[.lit (.bool false), int ls.length], [.lit (.bool true), int rs.length]], 152, .wr⟩), (960, some ⟨2, [[.lit (.bool false), int ls.length]], 152, .wr⟩)]) (fun i => i) (fun i => i ≤ ls.length) (fun i => ls.length - i) 0 (fun x => by simp (maxSteps := 1000000) -implicitDefEqProofs (disch := omega) only [go_sem]; rfl) ?_ ?_ ?_ fun x hx => ?_
   · first | rfl | omega
   · exact weak_do3 []
   · exact Nat.zero_le _
   by_cases hlt : x < ls.length
   · have hg := hpl x hlt
     repeat' (first
       | (with_reducible apply Req_intro); focus (first | omega | assumption | (simp; done))
       | with_reducible (first | apply Req_intro | refine nilT ?_ fun hn => ?_ | apply wk_draw Tryd_mixed | refine drawEnd (by kernel_rfl) ?_)
       | (with_reducible (first | apply condA_if | apply stepDG_ifN | apply stepDG_if | apply stepG_ifN | apply stepG_if)) <;> intro hb <;> (have hif := hb) <;> (try simp only [bo] at hif) <;> (try simp -implicitDefEqProofs (disch := omega) only [go_sem, hb]) <;> clear hb
       | simp (maxSteps := 1000000) -implicitDefEqProofs (disch := omega) only [go_sem])
     all_goals first | (exfalso; omega) | omega | skip
     refine call_yield [] (by first | (simp (maxSteps := 1000000) -implicitDefEqProofs (disch := omega) only [go_sem]; done) | (simp (maxSteps := 1000000) -implicitDefEqProofs (disch := omega) only [go_sem]; rfl)) (rs := [.agg [.lit (.bool false), int x]]) (by rw [List.getElem?_map, hg]; rfl) ?_ fun b => ?_
     · (try simp (maxSteps := 1000000) -implicitDefEqProofs (disch := omega) only [go_sem])
       repeat' (first
         | with_reducible (first | exact PurI.nil | exact Pur.nilsl _ _ | exact PurE.nil)
         | (with_reducible (first | refine PurI.puL ?_ | refine PurE.puE ?_)) <;> (first | assumption | (simp only [go_sem] <;> assumption) | (simp only [go_sem, *]; done) | (simp [go_sem]; done))
         | with_reducible apply PurI.cons
         | (with_reducible refine Pur.pu _ ?_) <;> (first | assumption | (simp only [go_sem] <;> assumption) | (simp only [go_sem, *]; done) | (simp [go_sem]; done))
         | ((with_reducible apply Pur.refR) <;> (first | rfl | decide | (simp only [go_sem]; omega) | (simp only [go_sem]) | skip))
         | ((with_reducible apply Pur.osR) <;> (first | rfl | exact fun h => h | omega | (simp; omega) | (simp; done) | (simp only [go_sem]) | skip))
         | with_reducible (first | apply Pur.fnI | apply Pur.aggI | apply PurE.cons)
         | (with_reducible refine PurI.eqL ?_ ?_); (focus rfl); (focus (first | assumption | (simp only [go_sem] <;> assumption) | (simp only [go_sem, *]; done) | (simp [go_sem]; done)))
         | simp (maxSteps := 1000000) -implicitDefEqProofs (disch := omega) only [go_sem])
     cases b
     · repeat' (first
         | (with_reducible apply Req_intro); focus (first | omega | assumption | (simp; done))
         | with_reducible (first | apply Req_intro | refine nilT ?_ fun hn => ?_ | apply wk_draw Tryd_mixed | refine drawEnd (by kernel_rfl) ?_)
         | (with_reducible (first | apply condA_if | apply stepDG_ifN | apply stepDG_if | apply stepG_ifN | apply stepG_if)) <;> intro hb <;> (have hif := hb) <;> (try simp only [bo] at hif) <;> (try simp -implicitDefEqProofs (disch := omega) only [go_sem, hb]) <;> clear hb
         | simp (maxSteps := 1000000) -implicitDefEqProofs (disch := omega) only [go_sem])
       all_goals first | (exfalso; omega) | skip
       refine retI fun h => ?_
       cases h
     · repeat' (first
         | (with_reducible apply Req_intro); focus (first | omega | assumption | (simp; done))
         | with_reducible (first | apply Req_intro | refine nilT ?_ fun hn => ?_ | apply wk_draw Tryd_mixed | refine drawEnd (by kernel_rfl) ?_)
         | (with_reducible (first | apply condA_if | apply stepDG_ifN | apply stepDG_if | apply stepG_ifN | apply stepG_if)) <;> intro hb <;> (have hif := hb) <;> (try simp only [bo] at hif) <;> (try simp -implicitDefEqProofs (disch := omega) only [go_sem, hb]) <;> clear hb
         | simp (maxSteps := 1000000) -implicitDefEqProofs (disch := omega) only [go_sem])
       all_goals first | (exfalso; omega) | omega | skip
       with_reducible refine nxt_w (x + 1) ?_ ?_
       · (try dsimp only)
         skip
         exact weak_do3 []
       try dsimp only
       omega
   · obtain rfl : x = ls.length := by omega
     repeat' (first
       | (with_reducible apply Req_intro); focus (first | omega | assumption | (simp; done))
       | with_reducible (first | apply Req_intro | refine nilT ?_ fun hn => ?_ | apply wk_draw Tryd_mixed | refine drawEnd (by kernel_rfl) ?_)
       | (with_reducible (first | apply condA_if | apply stepDG_ifN | apply stepDG_if | apply stepG_ifN | apply stepG_if)) <;> intro hb <;> (have hif := hb) <;> (try simp only [bo] at hif) <;> (try simp -implicitDefEqProofs (disch := omega) only [go_sem, hb]) <;> clear hb
       | simp (maxSteps := 1000000) -implicitDefEqProofs (disch := omega) only [go_sem])
     all_goals first | (exfalso; omega) | omega | skip
     with_reducible refine nxt_w 1 ?_ ?_
     · (try dsimp only)
       rw [s1]
       exact weak_do3 []
     try dsimp only
     omega
 · rw [s1]
   repeat' (first
     | (with_reducible apply Req_intro); focus (first | omega | assumption | (simp; done))
     | with_reducible (first | apply Req_intro | refine nilT ?_ fun hn => ?_ | apply wk_draw Tryd_mixed | refine drawEnd (by kernel_rfl) ?_)
     | (with_reducible (first | apply condA_if | apply stepDG_ifN | apply stepDG_if | apply stepG_ifN | apply stepG_if)) <;> intro hb <;> (have hif := hb) <;> (try simp only [bo] at hif) <;> (try simp -implicitDefEqProofs (disch := omega) only [go_sem, hb]) <;> clear hb
     | simp (maxSteps := 1000000) -implicitDefEqProofs (disch := omega) only [go_sem])
   all_goals first | (exfalso; omega) | omega | skip
   refine loop_gh (α := Nat) [5, 22, 23, 24, 25, 26, 27, 28, 29, 30, 31, 32] (fun i => [(22, .lit (.int .i64 i))]) (fun i => [(0, some ⟨2, [[.sl 2 (ls.map encGd) e1, .sl 2 (rs.map encGd) e2]], 38, .wr⟩), (576, some ⟨2, [[.lit (.bool false), int ls.length], [.lit (.bool true), int rs.length]], 152, .wr⟩), (960, some ⟨2, [[.lit (.bool true), int rs.length]], 152, .wr⟩)]) (fun i => ls.length + i) (fun i => i ≤ rs.length) (fun i => rs.length - i) 0 (fun x => by simp (maxSteps := 1000000) -implicitDefEqProofs (disch := omega) only [go_sem]; rfl) ?_ ?_ ?_ fun x hx => ?_
   · first | rfl | omega
   · exact weak_do3 []
   · exact Nat.zero_le _
   by_cases hlt : x < rs.length
   · have hg := hpr x hlt
     repeat' (first
       | (with_reducible apply Req_intro); focus (first | omega | assumption | (simp; done))
       | with_reducible (first | apply Req_intro | refine nilT ?_ fun hn => ?_ | apply wk_draw Tryd_mixed | refine drawEnd (by kernel_rfl) ?_)
       | (with_reducible (first | apply condA_if | apply stepDG_ifN | apply stepDG_if | apply stepG_ifN | apply stepG_if)) <;> intro hb <;> (have hif := hb) <;> (try simp only [bo] at hif) <;> (try simp -implicitDefEqProofs (disch := omega) only [go_sem, hb]) <;> clear hb
       | simp (maxSteps := 1000000) -implicitDefEqProofs (disch := omega) only [go_sem])
     all_goals first | (exfalso; omega) | omega | skip
     refine call_yield [] (by first | (simp (maxSteps := 1000000) -implicitDefEqProofs (disch := omega) only [go_sem]; done) | (simp (maxSteps := 1000000) -implicitDefEqProofs (disch := omega) only [go_sem]; rfl)) (rs := [.agg [.lit (.bool true), int x]]) (by rw [List.getElem?_map, hg]; rfl) ?_ fun b => ?_
     · (try simp (maxSteps := 1000000) -implicitDefEqProofs (disch := omega) only [go_sem])
       repeat' (first
         | with_reducible (first | exact PurI.nil | exact Pur.nilsl _ _ | exact PurE.nil)
         | (with_reducible (first | refine PurI.puL ?_ | refine PurE.puE ?_)) <;> (first | assumption | (simp only [go_sem] <;> assumption) | (simp only [go_sem, *]; done) | (simp [go_sem]; done))
         | with_reducible apply PurI.cons
         | (with_reducible refine Pur.pu _ ?_) <;> (first | assumption | (simp only [go_sem] <;> assumption) | (simp only [go_sem, *]; done) | (simp [go_sem]; done))
         | ((with_reducible apply Pur.refR) <;> (first | rfl | decide | (simp only [go_sem]; omega) | (simp only [go_sem]) | skip))
         | ((with_reducible apply Pur.osR) <;> (first | rfl | exact fun h => h | omega | (simp; omega) | (simp; done) | (simp only [go_sem]) | skip))
         | with_reducible (first | apply Pur.fnI | apply Pur.aggI | apply PurE.cons)
         | (with_reducible refine PurI.eqL ?_ ?_); (focus rfl); (focus (first | assumption | (simp only [go_sem] <;> assumption) | (simp only [go_sem, *]; done) | (simp [go_sem]; done)))
         | simp (maxSteps := 1000000) -implicitDefEqProofs (disch := omega) only [go_sem])
     cases b
     · repeat' (first
         | (with_reducible apply Req_intro); focus (first | omega | assumption | (simp; done))
         | with_reducible (first | apply Req_intro | refine nilT ?_ fun hn => ?_ | apply wk_draw Tryd_mixed | refine drawEnd (by kernel_rfl) ?_)
         | (with_reducible (first | apply condA_if | apply stepDG_ifN | apply stepDG_if | apply stepG_ifN | apply stepG_if)) <;> intro hb <;> (have hif := hb) <;> (try simp only [bo] at hif) <;> (try simp -implicitDefEqProofs (disch := omega) only [go_sem, hb]) <;> clear hb
         | simp (maxSteps := 1000000) -implicitDefEqProofs (disch := omega) only [go_sem])
       all_goals first | (exfalso; omega) | skip
       refine retI fun h => ?_
       cases h
     · repeat' (first
         | (with_reducible apply Req_intro); focus (first | omega | assumption | (simp; done))
         | with_reducible (first | apply Req_intro | refine nilT ?_ fun hn => ?_ | apply wk_draw Tryd_mixed | refine drawEnd (by kernel_rfl) ?_)
         | (with_reducible (first | apply condA_if | apply stepDG_ifN | apply stepDG_if | apply stepG_ifN | apply stepG_if)) <;> intro hb <;> (have hif := hb) <;> (try simp only [bo] at hif) <;> (try simp -implicitDefEqProofs (disch := omega) only [go_sem, hb]) <;> clear hb
         | simp (maxSteps := 1000000) -implicitDefEqProofs (disch := omega) only [go_sem])
       all_goals first | (exfalso; omega) | omega | skip
       with_reducible refine nxt_w (x + 1) ?_ ?_
       · (try dsimp only)
         skip
         exact weak_do3 []
       try dsimp only
       omega
   · obtain rfl : x = rs.length := by omega
     repeat' (first
       | (with_reducible apply Req_intro); focus (first | omega | assumption | (simp; done))
       | with_reducible (first | apply Req_intro | refine nilT ?_ fun hn => ?_ | apply wk_draw Tryd_mixed | refine drawEnd (by kernel_rfl) ?_)
       | (with_reducible (first | apply condA_if | apply stepDG_ifN | apply stepDG_if | apply stepG_ifN | apply stepG_if)) <;> intro hb <;> (have hif := hb) <;> (try simp only [bo] at hif) <;> (try simp -implicitDefEqProofs (disch := omega) only [go_sem, hb]) <;> clear hb
       | simp (maxSteps := 1000000) -implicitDefEqProofs (disch := omega) only [go_sem])
     all_goals first | (exfalso; omega) | omega | skip
     with_reducible refine nxt_w 2 ?_ ?_
     · (try dsimp only)
       rw [s2]
       exact weak_do3 []
     try dsimp only
     omega
 · rw [s2]
   repeat' (first
     | (with_reducible apply Req_intro); focus (first | omega | assumption | (simp; done))
     | with_reducible (first | apply Req_intro | refine nilT ?_ fun hn => ?_ | apply wk_draw Tryd_mixed | refine drawEnd (by kernel_rfl) ?_)
     | (with_reducible (first | apply condA_if | apply stepDG_ifN | apply stepDG_if | apply stepG_ifN | apply stepG_if)) <;> intro hb <;> (have hif := hb) <;> (try simp only [bo] at hif) <;> (try simp -implicitDefEqProofs (disch := omega) only [go_sem, hb]) <;> clear hb
     | simp (maxSteps := 1000000) -implicitDefEqProofs (disch := omega) only [go_sem])
   all_goals first | (exfalso; omega) | omega | skip
   refine retIN fun _ => ?_
   rw [List.length_map, hlen]
end Go.Aw
end
section
namespace Go.Aw
open Go.RowKit Go.Proofs
theorem Look_err (g : Gau) (ls rs : List Grd) (e1 e2 : Bool) (hs : StOk ls rs) (hc : checkS g ls rs ≠ 0) : Ct Tryd.prog 43 [encSt ls rs e1 e2, encGa g] (.tup [.lit (.bool false), int 0, int 0, int (checkS g ls rs)]) := by
 have hk := Check_st g e1 e2 hs
 generalize checkS g ls rs = c at *
 refine ct_enterT Tryd.func43 rfl (by decide) Tryd.results43 Tryd.ntmps43 ?_ rfl (by simp (maxSteps := 1000000) -implicitDefEqProofs (disch := omega) only [go_sem]; rfl) fun base => ?_
 · first | assumption | (simp only [go_sem] <;> assumption) | (simp only [go_sem, *]; done) | (simp [go_sem]; done)
 repeat' (first
   | (with_reducible apply Req_intro); focus (first | omega | assumption | (simp; done))
   | with_reducible (first | apply Req_intro | refine nilT ?_ fun hn => ?_ | apply wk_draw Tryd_mixed | refine drawEnd (by kernel_rfl) ?_)
   | (with_reducible (first | apply condA_if | apply stepDG_ifN | apply stepDG_if | apply stepG_ifN | apply stepG_if)) <;> intro hb <;> (have hif := hb) <;> (try simp only [bo] at hif) <;> (try simp -implicitDefEqProofs (disch := omega) only [go_sem, hb]) <;> clear hb
   | simp (maxSteps := 1000000) -implicitDefEqProofs (disch := omega) only [go_sem])
 refine callp hk ?_
 try simp (maxSteps := 1000000) -implicitDefEqProofs (disch := omega) only [go_sem]
 repeat' (first
   | (with_reducible apply Req_intro); focus (first | omega | assumption | (simp; done))
   | with_reducible (first | apply Req_intro | refine nilT ?_ fun hn => ?_ | apply wk_draw Tryd_mixed | refine drawEnd (by kernel_rfl) ?_)
   | (with_reducible (first | apply condA_if | apply stepDG_ifN | apply stepDG_if | apply stepG_ifN | apply stepG_if)) <;> intro hb <;> (have hif := hb) <;> (try simp only [bo] at hif) <;> (try simp -implicitDefEqProofs (disch := omega) only [go_sem, hb]) <;> clear hb
   | simp (maxSteps := 1000000) -implicitDefEqProofs (disch := omega) only [go_sem])
 all_goals first | exact absurd ‹c = 0› hc | skip
 exact rett []
def lookStep (t sure : List Nat) (p : Bool × Nat) (b : Bool × Nat × Nat) : Bool × Nat × Nat := if b.2.2 < mostR (lookT t sure p.1 p.2) - mostR t then (p.1, p.2, mostR (lookT t sure p.1 p.2) - mostR t) else b
theorem lookTo_snoc (t sure : List Nat) (p : Bool × Nat) : ∀ (l : List (Bool × Nat)) (b : Bool × Nat × Nat), lookTo t sure (l ++ [p]) b = lookStep t sure p (lookTo t sure l b)
 | [], _ => rfl
 | _ :: l, _ => lookTo_snoc t sure p l _
theorem lookT_len (t s : List Nat) (b : Bool) (n : Nat) : (lookT t s b n).length = t.length := by simp [lookT]
theorem lookT_get {t s : List Nat} {b : Bool} {n i : Nat} (h : i < t.length) : (lookT t s b n).getD i default = if b then t.getD i default ||| (s.getD i default &&& 2 ^ n) else if i = n then s.getD i default else t.getD i default := by
 rw [getD_default (by rw [lookT_len]; exact h), getD_default h]; simp [lookT]
theorem nine_look {t s : List Nat} (ht : Nine t) (hs : Nine s) (hl : s.length = t.length) (b : Bool) (n : Nat) : Nine (lookT t s b n) := by
 intro x hx
 obtain ⟨i, hi, rfl⟩ := List.getElem_of_mem hx
 rw [lookT_len] at hi
 rw [← getD_default (by rw [lookT_len]; exact hi), lookT_get hi]
 have h1 := ht _ (getD_mem hi)
 have h2 := hs _ (getD_mem (l := s) (i := i) (by omega))
 split
 · exact or_lt9 h1 (Nat.lt_of_le_of_lt Nat.and_le_left h2)
 · split <;> assumption
theorem mixTo_same {t T : List Nat} {i : Nat} (h : T.length = t.length) (hi : i < t.length) (he : T.getD i default = t.getD i default) : mixTo t T (i + 1) = mixTo t T i := by
 rw [← mixTo_succ h hi, he, ← mixTo_get h hi]
 refine List.ext_getElem (by simp) fun j h1 h2 => ?_
 rw [List.getElem_set]
 split
 · rename_i e
   subst e
   rw [getD_default h2]
 · rfl
theorem lookTo_small {t s : List Nat} (ht : Nine t) (hs : Nine s) (hl : s.length = t.length) (hl8 : t.length ≤ 16) : ∀ (l : List (Bool × Nat)) (b : Bool × Nat × Nat), b.2.2 ≤ 100 → b.2.1 ≤ 100 → (∀ p ∈ l, p.2 ≤ 100) → (lookTo t s l b).2.2 ≤ 100 ∧ (lookTo t s l b).2.1 ≤ 100
 | [], _, h1, h2, _ => ⟨h1, h2⟩
 | p :: l, b, h1, h2, h3 => by
   rw [lookTo]
   refine lookTo_small ht hs hl hl8 l _ ?_ ?_ (fun q hq => h3 q (by simp [hq]))
   · have := most_small (nine_look ht hs hl p.1 p.2) (by rw [lookT_len]; exact hl8)
     split
     · show _ - _ ≤ 100; omega
     · exact h1
   · split
     · exact h3 p (by simp)
     · exact h2
def lookV (b : Bool × Nat × Nat) : List V := if b.2.2 = 0 then [.lit (.bool false), int 0, int 0, int 7] else [.lit (.bool b.1), int b.2.1, int b.2.2, int 0]
theorem places_mem {a b : Nat} {p : Bool × Nat} (h : p ∈ placesL a b) : p.2 < a + b ∧ (p.1 = false → p.2 < a) ∧ (p.1 = true → p.2 < b) := by
 rw [placesL, List.mem_append, List.mem_map, List.mem_map] at h
 rcases h with ⟨i, hi, rfl⟩ | ⟨i, hi, rfl⟩
 · have := List.mem_range.1 hi; exact ⟨by show i < a + b; omega, fun _ => this, fun h => by cases h⟩
 · have := List.mem_range.1 hi; exact ⟨by show i < a + b; omega, fun h => (by cases h), fun _ => this⟩
theorem pu_gds (l : List Grd) (e : Bool) : Pu (.sl 2 (l.map encGd) e) := by first | assumption | (simp only [go_sem] <;> assumption) | (simp only [go_sem, *]; done) | (simp [go_sem]; done)
theorem pu_stock (ls rs : List Grd) (e1 e2 : Bool) : ∀ e ∈ [[V.sl 2 (ls.map encGd) e1, V.sl 2 (rs.map encGd) e2]], ∀ d ∈ e, Pu d := by
 intro e he d hd
 rw [List.mem_singleton] at he
 subst he
 simp only [List.mem_cons, List.not_mem_nil, or_false] at hd
 rcases hd with rfl | rfl
 · exact pu_gds ls e1
 · exact pu_gds rs e2
theorem Look_ok (g : Gau) (ls rs : List Grd) (e1 e2 : Bool) (hs : StOk ls rs) (hc : checkS g ls rs = 0) : Ct Tryd.prog 43 [encSt ls rs e1 e2, encGa g] (.tup (lookV (lookR (tableR g ls rs 2) (tableR g ls rs 1) rs.length))) := by
 have hk := Check_st g e1 e2 hs
 rw [hc] at hk
 obtain ⟨hl8, hr8, hg, n, hn, hl, hr⟩ := checkS_ok hc
 have ht := table_spec g ls rs e1 e2 2 n hn hg hl hr (by decide) hl8 (by omega)
 have hts := table_spec g ls rs e1 e2 1 n hn hg hl hr (by decide) hl8 (by omega)
 have hn9 := table_nine g ls rs 2 (by omega)
 have hs9 := table_nine g ls rs 1 (by omega)
 have hTl := tableR_len g ls rs 2
 have hSl := tableR_len g ls rs 1
 generalize tableR g ls rs 2 = T at *
 generalize tableR g ls rs 1 = S at *
 have hm := most_spec T hn9 false (by omega)
 have hR : lookR T S rs.length = lookTo T S (placesL ls.length rs.length) (false, 0, 0) := by rw [lookR, hTl]; rfl
 have hit := places_it ls rs e1 e2 (by omega) (by omega)
 have hpm := fun p => places_mem (a := ls.length) (b := rs.length) (p := p)
 rw [hR]
 generalize placesL ls.length rs.length = pl at *
 have hsm := fun k => lookTo_small hn9 hs9 (by omega) (by omega) (pl.take k) (false, 0, 0) (by decide) (by decide) (fun p hp => by have := hpm p (List.mem_of_mem_take hp); omega)
 refine ct_enterT Tryd.func43 rfl (by decide) Tryd.results43 Tryd.ntmps43 ?_ rfl (by simp (maxSteps := 1000000) -implicitDefEqProofs (disch := omega) only [go_sem]; rfl) fun base => ?_
 · unfold lookV
   split <;> first | assumption | (simp only [go_sem] <;> assumption) | (simp only [go_sem, *]; done) | (simp [go_sem]; done)
 repeat' (first
   | (with_reducible apply Req_intro); focus (first | omega | assumption | (simp; done))
   | with_reducible (first | apply Req_intro | refine nilT ?_ fun hn => ?_ | apply wk_draw Tryd_mixed | refine drawEnd (by kernel_rfl) ?_)
   | (with_reducible (first | apply condA_if | apply stepDG_ifN | apply stepDG_if | apply stepG_ifN | apply stepG_if)) <;> intro hb <;> (have hif := hb) <;> (try simp only [bo] at hif) <;> (try simp -implicitDefEqProofs (disch := omega) only [go_sem, hb]) <;> clear hb
   | simp (maxSteps := 1000000) -implicitDefEqProofs (disch := omega) only [go_sem])
 refine callp hk ?_
 try simp (maxSteps := 1000000) -implicitDefEqProofs (disch := omega) only [go_sem]
 repeat' (first
   | (with_reducible apply Req_intro); focus (first | omega | assumption | (simp; done))
   | with_reducible (first | apply Req_intro | refine nilT ?_ fun hn => ?_ | apply wk_draw Tryd_mixed | refine drawEnd (by kernel_rfl) ?_)
   | (with_reducible (first | apply condA_if | apply stepDG_ifN | apply stepDG_if | apply stepG_ifN | apply stepG_if)) <;> intro hb <;> (have hif := hb) <;> (try simp only [bo] at hif) <;> (try simp -implicitDefEqProofs (disch := omega) only [go_sem, hb]) <;> clear hb
   | simp (maxSteps := 1000000) -implicitDefEqProofs (disch := omega) only [go_sem])
 refine calld ht ?_
 try simp (maxSteps := 1000000) -implicitDefEqProofs (disch := omega) only [go_sem]
 repeat' (first
   | (with_reducible apply Req_intro); focus (first | omega | assumption | (simp; done))
   | with_reducible (first | apply Req_intro | refine nilT ?_ fun hn => ?_ | apply wk_draw Tryd_mixed | refine drawEnd (by kernel_rfl) ?_)
   | (with_reducible (first | apply condA_if | apply stepDG_ifN | apply stepDG_if | apply stepG_ifN | apply stepG_if)) <;> intro hb <;> (have hif := hb) <;> (try simp only [bo] at hif) <;> (try simp -implicitDefEqProofs (disch := omega) only [go_sem, hb]) <;> clear hb
   | simp (maxSteps := 1000000) -implicitDefEqProofs (disch := omega) only [go_sem])
 refine calld hts ?_
 try simp (maxSteps := 1000000) -implicitDefEqProofs (disch := omega) only [go_sem]
 repeat' (first
   | (with_reducible apply Req_intro); focus (first | omega | assumption | (simp; done))
   | with_reducible (first | apply Req_intro | refine nilT ?_ fun hn => ?_ | apply wk_draw Tryd_mixed | refine drawEnd (by kernel_rfl) ?_)
   | (with_reducible (first | apply condA_if | apply stepDG_ifN | apply stepDG_if | apply stepG_ifN | apply stepG_if)) <;> intro hb <;> (have hif := hb) <;> (try simp only [bo] at hif) <;> (try simp -implicitDefEqProofs (disch := omega) only [go_sem, hb]) <;> clear hb
   | simp (maxSteps := 1000000) -implicitDefEqProofs (disch := omega) only [go_sem])
 refine call_boxK (places_box ls rs e1 e2) ?_ ⟨_, Tryd.func83, by rfl, by decide⟩
 try simp (maxSteps := 1000000) -implicitDefEqProofs (disch := omega) only [go_sem]
 repeat' (first
   | (with_reducible apply Req_intro); focus (first | omega | assumption | (simp; done))
   | with_reducible (first | apply Req_intro | refine nilT ?_ fun hn => ?_ | apply wk_draw Tryd_mixed | refine drawEnd (by kernel_rfl) ?_)
   | (with_reducible (first | apply condA_if | apply stepDG_ifN | apply stepDG_if | apply stepG_ifN | apply stepG_if)) <;> intro hb <;> (have hif := hb) <;> (try simp only [bo] at hif) <;> (try simp -implicitDefEqProofs (disch := omega) only [go_sem, hb]) <;> clear hb
   | simp (maxSteps := 1000000) -implicitDefEqProofs (disch := omega) only [go_sem])
 refine range_own (α := Bool × Nat × Nat) [] 1600 ⟨2, [[.sl 2 (ls.map encGd) e1, .sl 2 (rs.map encGd) e2]], 38, .wr⟩ (fun z => [(0, some ⟨2, [[.sl 2 (ls.map encGd) e1, .sl 2 (rs.map encGd) e2]], 38, .wr⟩), (64, some ⟨4, [[int g.sc, int g.ga, int g.we, int g.cu]], 26, .wr⟩), (128, some ⟨1, [[.lit (.bool z.1)]], 4, .wr⟩), (192, some ⟨1, [[int z.2.1]], 3, .wr⟩), (256, some ⟨1, [[int z.2.2]], 3, .wr⟩), (1280, some ⟨1, [[.sl 1 (T.map encU) false]], 107, .wr⟩), (1344, some ⟨1, [[.sl 1 (S.map encU) false]], 107, .wr⟩)]) (fun _ => 0) (fun _ => false) (fun k z => z = lookTo T S (pl.take k) (false, 0, 0)) (fun c z => False) (false, 0, 0) 1984 (by first | (simp (maxSteps := 1000000) -implicitDefEqProofs (disch := omega) only [go_sem]; done) | (simp (maxSteps := 1000000) -implicitDefEqProofs (disch := omega) only [go_sem]; rfl)) (by first | (simp (maxSteps := 1000000) -implicitDefEqProofs (disch := omega) only [go_sem]; done) | (simp (maxSteps := 1000000) -implicitDefEqProofs (disch := omega) only [go_sem]; rfl)) hit ?_ rfl (pu_stock ls rs e1 e2) (by decide) ?_ ?_ (by rfl) ?_ ?_ ?_ ?_ ?_ ?_ (fun base' => ?_) ?_ ?_ ?_
 · first | assumption | (simp only [go_sem] <;> assumption) | (simp only [go_sem, *]; done) | (simp [go_sem]; done)
 · intro y hy
   rw [List.mem_map] at hy
   obtain ⟨w, _, rfl⟩ := hy
   rfl
 · exact weak_do3 []
 · rfl
 · rfl
 · rfl
 · repeat' (first
     | with_reducible exact idsLt_nil
     | with_reducible refine idsLt_cons ?_ ?_
     | with_reducible exact IdLt.pu _ Pu_undef
     | with_reducible exact IdLt.pu _ (Pu_lit _)
     | ((with_reducible refine IdLt.ref _ _ _ _ ?_); decide)
     | ((with_reducible refine IdLt.os _ _ _ _ ?_); decide)
     | ((with_reducible refine IdLt.pu _ ?_); first | assumption | (simp only [go_sem] <;> assumption) | (simp only [go_sem, *]; done) | (simp [go_sem]; done))
     | (with_reducible refine idLt_fn ?_ ?_)
     | (with_reducible refine idLt_agg ?_))
 · decide
 · decide
 · rintro k z y hz hy
   rw [List.getElem?_map, Option.map_eq_some_iff] at hy
   obtain ⟨p, hp, rfl⟩ := hy
   have hpq := hpm p (List.mem_of_getElem? hp)
   have hstep : lookTo T S (pl.take (k + 1)) (false, 0, 0) = lookStep T S p z := by rw [List.take_add_one, hp, hz]; exact lookTo_snoc T S p _ _
   have hzs := hsm k
   rw [← hz] at hzs
   obtain ⟨pb, pn⟩ := p
   obtain ⟨zb, zn, zg⟩ := z
   unfold encPl
   have hpn : pn < 9 := by
     have h1 := hpq.2.1
     have h2 := hpq.2.2
     simp only at h1 h2
     cases pb
     · have := h1 rfl; omega
     · have := h2 rfl; omega
   simp only at hpq hzs hstep ⊢
   by_cases h0 : T = []
   · subst h0
     repeat' (first
       | (with_reducible apply Req_intro); focus (first | omega | assumption | (simp; done))
       | with_reducible (first | apply Req_intro | refine nilT ?_ fun hn => ?_ | apply wk_draw Tryd_mixed | refine drawEnd (by kernel_rfl) ?_)
       | (with_reducible (first | apply condA_if | apply stepDG_ifN | apply stepDG_if | apply stepG_ifN | apply stepG_if)) <;> intro hb <;> (have hif := hb) <;> (try simp only [bo] at hif) <;> (try simp -implicitDefEqProofs (disch := omega) only [go_sem, hb]) <;> clear hb
       | simp (maxSteps := 1000000) -implicitDefEqProofs (disch := omega) only [go_sem])
     have hsz : lookStep [] S (pb, pn) (zb, zn, zg) = (zb, zn, zg) := by
       unfold lookStep
       rw [if_neg (by rw [show lookT [] S (pb, pn).1 (pb, pn).2 = [] from rfl]; simp)]
     rw [hsz] at hstep
     simp only [List.map_nil] at hm
     refine callp (Clone_none false) ?_
     try simp (maxSteps := 1000000) -implicitDefEqProofs (disch := omega) only [go_sem]
     repeat' (first
       | (with_reducible apply Req_intro); focus (first | omega | assumption | (simp; done))
       | with_reducible (first | apply Req_intro | refine nilT ?_ fun hn => ?_ | apply wk_draw Tryd_mixed | refine drawEnd (by kernel_rfl) ?_)
       | (with_reducible (first | apply condA_if | apply stepDG_ifN | apply stepDG_if | apply stepG_ifN | apply stepG_if)) <;> intro hb <;> (have hif := hb) <;> (try simp only [bo] at hif) <;> (try simp -implicitDefEqProofs (disch := omega) only [go_sem, hb]) <;> clear hb
       | simp (maxSteps := 1000000) -implicitDefEqProofs (disch := omega) only [go_sem])
     refine loop_rows (α := Nat) [13, 36, 37, 38, 39, 40, 41, 42, 43, 44, 45, 46, 47, 48, 49, 50, 51, 52, 53, 54, 55, 56, 57, 58, 59, 60, 61, 62, 63, 64, 65, 66, 67, 68] (fun i => [(36, .lit (.int .i64 0))]) (fun i => [(0, some ⟨2, [[.sl 2 (ls.map encGd) e1, .sl 2 (rs.map encGd) e2]], 38, .wr⟩), (64, some ⟨4, [[int g.sc, int g.ga, int g.we, int g.cu]], 26, .wr⟩), (128, some ⟨1, [[.lit (.bool zb)]], 4, .wr⟩), (192, some ⟨1, [[int zn]], 3, .wr⟩), (256, some ⟨1, [[int zg]], 3, .wr⟩), (1280, some ⟨1, [[.sl 1 (([] : List Nat).map encU) false]], 107, .wr⟩), (1344, some ⟨1, [[.sl 1 (S.map encU) false]], 107, .wr⟩), (1984, some ⟨2, [[.lit (.bool pb), int pn]], 129, .wr⟩)]) (fun i => i ≤ 0) (fun i => 0 - i) 0 (fun x => by simp (maxSteps := 1000000) -implicitDefEqProofs (disch := omega) only [go_sem]; rfl) ?_ ?_ fun x hx => ?_
     · exact weak_do3 []
     · exact Nat.zero_le _
     repeat' (first
       | (with_reducible apply Req_intro); focus (first | omega | assumption | (simp; done))
       | with_reducible (first | apply Req_intro | refine nilT ?_ fun hn => ?_ | apply wk_draw Tryd_mixed | refine drawEnd (by kernel_rfl) ?_)
       | (with_reducible (first | apply condA_if | apply stepDG_ifN | apply stepDG_if | apply stepG_ifN | apply stepG_if)) <;> intro hb <;> (have hif := hb) <;> (try simp only [bo] at hif) <;> (try simp -implicitDefEqProofs (disch := omega) only [go_sem, hb]) <;> clear hb
       | simp (maxSteps := 1000000) -implicitDefEqProofs (disch := omega) only [go_sem])
     all_goals first | (exfalso; omega) | omega | skip
     refine calld hm ?_
     try simp (maxSteps := 1000000) -implicitDefEqProofs (disch := omega) only [go_sem]
     repeat' (first
       | (with_reducible apply Req_intro); focus (first | omega | assumption | (simp; done))
       | with_reducible (first | apply Req_intro | refine nilT ?_ fun hn => ?_ | apply wk_draw Tryd_mixed | refine drawEnd (by kernel_rfl) ?_)
       | (with_reducible (first | apply condA_if | apply stepDG_ifN | apply stepDG_if | apply stepG_ifN | apply stepG_if)) <;> intro hb <;> (have hif := hb) <;> (try simp only [bo] at hif) <;> (try simp -implicitDefEqProofs (disch := omega) only [go_sem, hb]) <;> clear hb
       | simp (maxSteps := 1000000) -implicitDefEqProofs (disch := omega) only [go_sem])
     refine calld hm ?_
     try simp (maxSteps := 1000000) -implicitDefEqProofs (disch := omega) only [go_sem]
     repeat' (first
       | (with_reducible apply Req_intro); focus (first | omega | assumption | (simp; done))
       | with_reducible (first | apply Req_intro | refine nilT ?_ fun hn => ?_ | apply wk_draw Tryd_mixed | refine drawEnd (by kernel_rfl) ?_)
       | (with_reducible (first | apply condA_if | apply stepDG_ifN | apply stepDG_if | apply stepG_ifN | apply stepG_if)) <;> intro hb <;> (have hif := hb) <;> (try simp only [bo] at hif) <;> (try simp -implicitDefEqProofs (disch := omega) only [go_sem, hb]) <;> clear hb
       | simp (maxSteps := 1000000) -implicitDefEqProofs (disch := omega) only [go_sem])
     all_goals first | (exfalso; omega) | omega | skip
     refine rnd_next (zb, zn, zg) hstep.symm ?_
     exact forget_do []
   repeat' (first
     | (with_reducible apply Req_intro); focus (first | omega | assumption | (simp; done))
     | with_reducible (first | apply Req_intro | refine nilT ?_ fun hn => ?_ | apply wk_draw Tryd_mixed | refine drawEnd (by kernel_rfl) ?_)
     | (with_reducible (first | apply condA_if | apply stepDG_ifN | apply stepDG_if | apply stepG_ifN | apply stepG_if)) <;> intro hb <;> (have hif := hb) <;> (try simp only [bo] at hif) <;> (try simp -implicitDefEqProofs (disch := omega) only [go_sem, hb]) <;> clear hb
     | simp (maxSteps := 1000000) -implicitDefEqProofs (disch := omega) only [go_sem])
   refine call_one (Clone_uint T false (by omega) h0) ?_ ⟨_, Tryd.func84, by rfl, by decide⟩
   try simp (maxSteps := 1000000) -implicitDefEqProofs (disch := omega) only [go_sem]
   repeat' (first
     | (with_reducible apply Req_intro); focus (first | omega | assumption | (simp; done))
     | with_reducible (first | apply Req_intro | refine nilT ?_ fun hn => ?_ | apply wk_draw Tryd_mixed | refine drawEnd (by kernel_rfl) ?_)
     | (with_reducible (first | apply condA_if | apply stepDG_ifN | apply stepDG_if | apply stepG_ifN | apply stepG_if)) <;> intro hb <;> (have hif := hb) <;> (try simp only [bo] at hif) <;> (try simp -implicitDefEqProofs (disch := omega) only [go_sem, hb]) <;> clear hb
     | simp (maxSteps := 1000000) -implicitDefEqProofs (disch := omega) only [go_sem])
   have hLl := lookT_len T S pb pn
   have hLg := fun i => lookT_get (t := T) (s := S) (b := pb) (n := pn) (i := i)
   have hm2 := most_spec (lookT T S pb pn) (nine_look hn9 hs9 (by omega) pb pn) false (by omega)
   have hms1 := most_small hn9 (by omega)
   have hms2 := most_small (nine_look hn9 hs9 (by omega) pb pn) (by omega)
   have hst2 : lookStep T S (pb, pn) (zb, zn, zg) = if zg < mostR (lookT T S pb pn) - mostR T then (pb, pn, mostR (lookT T S pb pn) - mostR T) else (zb, zn, zg) := rfl
   rw [hst2] at hstep
   generalize lookT T S pb pn = L at *
   generalize mostR L = M' at *
   generalize mostR T = M at *
   refine loop_rows (α := Nat) [13, 36, 37, 38, 39, 40, 41, 42, 43, 44, 45, 46, 47, 48, 49, 50, 51, 52, 53, 54, 55, 56, 57, 58, 59, 60, 61, 62, 63, 64, 65, 66, 67, 68] (fun i => [(36, .lit (.int .i64 i))]) (fun i => [(0, some ⟨2, [[.sl 2 (ls.map encGd) e1, .sl 2 (rs.map encGd) e2]], 38, .wr⟩), (64, some ⟨4, [[int g.sc, int g.ga, int g.we, int g.cu]], 26, .wr⟩), (128, some ⟨1, [[.lit (.bool zb)]], 4, .wr⟩), (192, some ⟨1, [[int zn]], 3, .wr⟩), (256, some ⟨1, [[int zg]], 3, .wr⟩), (1280, some ⟨1, [[.sl 1 (T.map encU) false]], 107, .wr⟩), (1344, some ⟨1, [[.sl 1 (S.map encU) false]], 107, .wr⟩), (1984, some ⟨2, [[.lit (.bool pb), int pn]], 129, .wr⟩), (2496, some ⟨1, (mixTo T L i).map encU, 112, .wr⟩)]) (fun i => i ≤ T.length) (fun i => T.length - i) 0 (fun x => by simp (maxSteps := 1000000) -implicitDefEqProofs (disch := omega) only [go_sem]; rfl) ?_ ?_ fun x hx => ?_
   · rw [mixTo_zero]
     exact weak_do3 []
   · exact Nat.zero_le _
   by_cases hlt : x < T.length
   · have hml := mixTo_len (t := T) (T := L) (i := x) hLl
     have hmg := mixTo_get hLl hlt
     have hset := mixTo_succ hLl hlt
     have hg := hLg x hlt
     have hT9 := hn9 _ (getD_mem hlt)
     have hS9 := hs9 _ (getD_mem (l := S) (i := x) (by omega))
     have hp9 := pow_lt9 (r := pn) (by omega)
     have f4 : (1 : Int) * 2 ^ min pn 64 = ((2 ^ pn : Nat) : Int) := by rw [Nat.min_eq_left (by omega), Int.one_mul, Int.natCast_pow]; rfl
     have f5 := ib_and (S.getD x default) (2 ^ pn) (by omega) (by omega)
     have ha9 : S.getD x default &&& 2 ^ pn ≤ S.getD x default := Nat.and_le_left
     have f6 := ib_or (T.getD x default) (S.getD x default &&& 2 ^ pn) (by omega) (by omega)
     cases pb with
     | true =>
       rw [if_pos rfl] at hg
       rw [hg] at hset
       generalize 2 ^ pn = q at *
       repeat' (first
         | (with_reducible apply Req_intro); focus (first | omega | assumption | (simp; done))
         | with_reducible (first | apply Req_intro | refine nilT ?_ fun hn => ?_ | apply wk_draw Tryd_mixed | refine drawEnd (by kernel_rfl) ?_)
         | (with_reducible (first | apply condA_if | apply stepDG_ifN | apply stepDG_if | apply stepG_ifN | apply stepG_if)) <;> intro hb <;> (have hif := hb) <;> (try simp only [bo] at hif) <;> (try simp -implicitDefEqProofs (disch := omega) only [go_sem, hb, hmg, f4, f5, f6]) <;> clear hb
         | simp (maxSteps := 1000000) -implicitDefEqProofs (disch := omega) only [go_sem, hmg, f4, f5, f6])
       all_goals first | (exfalso; omega) | omega | skip
       with_reducible refine nxt_w (x + 1) ?_ ?_
       · (try dsimp only)
         rw [hset]
         exact weak_do3 []
       try dsimp only
       omega
     | false =>
       simp only [Bool.false_eq_true, if_false] at hg
       by_cases hxp : x = pn
       · rw [if_pos hxp] at hg
         rw [hg] at hset
         repeat' (first
           | (with_reducible apply Req_intro); focus (first | omega | assumption | (simp; done))
           | with_reducible (first | apply Req_intro | refine nilT ?_ fun hn => ?_ | apply wk_draw Tryd_mixed | refine drawEnd (by kernel_rfl) ?_)
           | (with_reducible (first | apply condA_if | apply stepDG_ifN | apply stepDG_if | apply stepG_ifN | apply stepG_if)) <;> intro hb <;> (have hif := hb) <;> (try simp only [bo] at hif) <;> (try simp -implicitDefEqProofs (disch := omega) only [go_sem, hb, hmg]) <;> clear hb
           | simp (maxSteps := 1000000) -implicitDefEqProofs (disch := omega) only [go_sem, hmg])
         all_goals first | (exfalso; omega) | omega | skip
         with_reducible refine nxt_w (x + 1) ?_ ?_
         · (try dsimp only)
           rw [hset]
           exact weak_do3 []
         try dsimp only
         omega
       · rw [if_neg hxp] at hg
         repeat' (first
           | (with_reducible apply Req_intro); focus (first | omega | assumption | (simp; done))
           | with_reducible (first | apply Req_intro | refine nilT ?_ fun hn => ?_ | apply wk_draw Tryd_mixed | refine drawEnd (by kernel_rfl) ?_)
           | (with_reducible (first | apply condA_if | apply stepDG_ifN | apply stepDG_if | apply stepG_ifN | apply stepG_if)) <;> intro hb <;> (have hif := hb) <;> (try simp only [bo] at hif) <;> (try simp -implicitDefEqProofs (disch := omega) only [go_sem, hb, hmg]) <;> clear hb
           | simp (maxSteps := 1000000) -implicitDefEqProofs (disch := omega) only [go_sem, hmg])
         all_goals first | (exfalso; omega) | omega | skip
         with_reducible refine nxt_w (x + 1) ?_ ?_
         · (try dsimp only)
           rw [mixTo_same hLl hlt hg]
           exact weak_do3 []
         try dsimp only
         omega
   · obtain rfl : x = T.length := by omega
     rw [mixTo_all hLl]
     repeat' (first
       | (with_reducible apply Req_intro); focus (first | omega | assumption | (simp; done))
       | with_reducible (first | apply Req_intro | refine nilT ?_ fun hn => ?_ | apply wk_draw Tryd_mixed | refine drawEnd (by kernel_rfl) ?_)
       | (with_reducible (first | apply condA_if | apply stepDG_ifN | apply stepDG_if | apply stepG_ifN | apply stepG_if)) <;> intro hb <;> (have hif := hb) <;> (try simp only [bo] at hif) <;> (try simp -implicitDefEqProofs (disch := omega) only [go_sem, hb]) <;> clear hb
       | simp (maxSteps := 1000000) -implicitDefEqProofs (disch := omega) only [go_sem])
     all_goals first | (exfalso; omega) | omega | skip
     rw [← hLl]
     refine calldr 2496 hm2 ?_
     try simp (maxSteps := 1000000) -implicitDefEqProofs (disch := omega) only [go_sem]
     repeat' (first
       | (with_reducible apply Req_intro); focus (first | omega | assumption | (simp; done))
       | with_reducible (first | apply Req_intro | refine nilT ?_ fun hn => ?_ | apply wk_draw Tryd_mixed | refine drawEnd (by kernel_rfl) ?_)
       | (with_reducible (first | apply condA_if | apply stepDG_ifN | apply stepDG_if | apply stepG_ifN | apply stepG_if)) <;> intro hb <;> (have hif := hb) <;> (try simp only [bo] at hif) <;> (try simp -implicitDefEqProofs (disch := omega) only [go_sem, hb]) <;> clear hb
       | simp (maxSteps := 1000000) -implicitDefEqProofs (disch := omega) only [go_sem])
     refine calld hm ?_
     try simp (maxSteps := 1000000) -implicitDefEqProofs (disch := omega) only [go_sem]
     repeat' (first
       | (with_reducible apply Req_intro); focus (first | omega | assumption | (simp; done))
       | with_reducible (first | apply Req_intro | refine nilT ?_ fun hn => ?_ | apply wk_draw Tryd_mixed | refine drawEnd (by kernel_rfl) ?_)
       | (with_reducible (first | apply condA_if | apply stepDG_ifN | apply stepDG_if | apply stepG_ifN | apply stepG_if)) <;> intro hb <;> (have hif := hb) <;> (try simp only [bo] at hif) <;> (try simp -implicitDefEqProofs (disch := omega) only [go_sem, hb]) <;> clear hb
       | simp (maxSteps := 1000000) -implicitDefEqProofs (disch := omega) only [go_sem])
     all_goals first | (exfalso; omega) | omega | skip
     · rw [if_pos (by omega)] at hstep
       rw [show (M' : Int) - (M : Int) = ((M' - M : Nat) : Int) by omega]
       refine rnd_next (pb, pn, M' - M) hstep.symm ?_
       exact forget_do []
     · rw [if_neg (by omega)] at hstep
       refine rnd_next (zb, zn, zg) hstep.symm ?_
       exact forget_do []
 · intro z hz
   have hzs := hsm pl.length
   rw [show List.length (List.map encPl pl) = pl.length from List.length_map ..] at hz
   rw [List.take_length] at hz hzs
   rw [← hz] at hzs ⊢
   obtain ⟨zb, zn, zg⟩ := z
   unfold lookV
   simp only at hzs ⊢
   repeat' (first
     | (with_reducible apply Req_intro); focus (first | omega | assumption | (simp; done))
     | with_reducible (first | apply Req_intro | refine nilT ?_ fun hn => ?_ | apply wk_draw Tryd_mixed | refine drawEnd (by kernel_rfl) ?_)
     | (with_reducible (first | apply condA_if | apply stepDG_ifN | apply stepDG_if | apply stepG_ifN | apply stepG_if)) <;> intro hb <;> (have hif := hb) <;> (try simp only [bo] at hif) <;> (try simp -implicitDefEqProofs (disch := omega) only [go_sem, hb]) <;> clear hb
     | simp (maxSteps := 1000000) -implicitDefEqProofs (disch := omega) only [go_sem])
   · rw [if_pos (by omega)]
     exact rett []
   · rw [if_neg (by omega)]
     exact rett []
 · exact fun x h => h.elim
 · exact fun id x h => h.elim
end Go.Aw
end
section
namespace Go.Aw
open Go.RowKit Go.Proofs
theorem Balance_err (g : Gau) (ls rs : List Grd) (e1 e2 : Bool) (hs : StOk ls rs) (hc : checkS g ls rs ≠ 0) : Ct Tryd.prog 45 [encSt ls rs e1 e2, encGa g] (.tup [.lit (.slice none 0 0), int 0, int (checkS g ls rs)]) := by
 have hk := Check_st g e1 e2 hs
 generalize checkS g ls rs = c at *
 refine fn_enter Tryd.func45 rfl (by decide) Tryd.results45 Tryd.ntmps45 ?_ rfl (by simp (maxSteps := 1000000) -implicitDefEqProofs (disch := omega) only [go_sem]; rfl) fun base => ?_
 · first | assumption | (simp only [go_sem] <;> assumption) | (simp only [go_sem, *]; done) | (simp [go_sem]; done)
 repeat' (first
   | (with_reducible apply Req_intro); focus (first | omega | assumption | (simp; done))
   | with_reducible (first | apply Req_intro | refine nilT ?_ fun hn => ?_ | apply wk_draw Tryd_mixed | refine drawEnd (by kernel_rfl) ?_)
   | (with_reducible (first | apply condA_if | apply stepDG_ifN | apply stepDG_if | apply stepG_ifN | apply stepG_if)) <;> intro hb <;> (have hif := hb) <;> (try simp only [bo] at hif) <;> (try simp -implicitDefEqProofs (disch := omega) only [go_sem, hb]) <;> clear hb
   | simp (maxSteps := 1000000) -implicitDefEqProofs (disch := omega) only [go_sem])
 refine callp hk ?_
 try simp (maxSteps := 1000000) -implicitDefEqProofs (disch := omega) only [go_sem]
 repeat' (first
   | (with_reducible apply Req_intro); focus (first | omega | assumption | (simp; done))
   | with_reducible (first | apply Req_intro | refine nilT ?_ fun hn => ?_ | apply wk_draw Tryd_mixed | refine drawEnd (by kernel_rfl) ?_)
   | (with_reducible (first | apply condA_if | apply stepDG_ifN | apply stepDG_if | apply stepG_ifN | apply stepG_if)) <;> intro hb <;> (have hif := hb) <;> (try simp only [bo] at hif) <;> (try simp -implicitDefEqProofs (disch := omega) only [go_sem, hb]) <;> clear hb
   | simp (maxSteps := 1000000) -implicitDefEqProofs (disch := omega) only [go_sem])
 all_goals first | exact absurd ‹c = 0› hc | skip
 refine ret_do ?_
 rfl
def dTo (ls rs : List Grd) (i : Nat) : List Int := 0 :: (ls.take i).flatMap fun a => rs.map fun b => farR a.1 b.1
def dK (ls rs : List Grd) (i k : Nat) : List Int := dTo ls rs i ++ (rs.take k).map fun b => farR (ls.getD i default).1 b.1
theorem dTo_all (ls rs : List Grd) : dTo ls rs ls.length = diffs ls rs := by rw [dTo, diffs, List.take_length]
theorem dK_zero (ls rs : List Grd) (i : Nat) : dK ls rs i 0 = dTo ls rs i := by simp [dK]
theorem dK_succ {ls rs : List Grd} {i k : Nat} (h : k < rs.length) : dK ls rs i (k + 1) = dK ls rs i k ++ [farR (ls.getD i default).1 (rs.getD k default).1] := by
 rw [dK, dK, take_succ_getD h, List.map_append, List.append_assoc]; rfl
theorem dK_all {ls rs : List Grd} {i : Nat} (h : i < ls.length) : dK ls rs i rs.length = dTo ls rs (i + 1) := by
 rw [dK, dTo, dTo, take_succ_getD h, List.flatMap_append, List.take_length, List.cons_append]
 simp
theorem dK_len {ls rs : List Grd} {i k : Nat} (hi : i ≤ ls.length) (hl : ls.length ≤ 8) (hr : rs.length ≤ 8) : (dK ls rs i k).length ≤ 100 := by
 have h1 : ((ls.take i).flatMap fun a => rs.map fun b => farR a.1 b.1).length ≤ 8 * 8 := by
   rw [List.length_flatMap]
   simp only [List.length_map, List.map_const', List.sum_replicate_nat, List.length_take]
   exact Nat.mul_le_mul (by omega) hr
 rw [dK, dTo]
 simp only [List.length_append, List.length_cons, List.length_map, List.length_take]
 omega
theorem nearR_len (ls rs : List Grd) (w : Int) : (nearR ls rs w).length = ls.length := by simp [nearR]
theorem nearR_get {ls rs : List Grd} {w : Int} {i : Nat} (h : i < ls.length) : (nearR ls rs w).getD i default = bitsIf (fun r => decide (farR (ls.getD i default).1 (rs.getD r default).1 ≤ w)) rs.length := by
 rw [getD_default (by rw [nearR_len]; exact h), getD_default h]; simp [nearR]
theorem near_nine (ls rs : List Grd) (w : Int) (h : rs.length ≤ 9) : Nine (nearR ls rs w) := by
 intro m hm
 rw [nearR, List.mem_map] at hm
 obtain ⟨a, _, rfl⟩ := hm
 exact bitsIf_lt9 h
def balV : Option (List (Nat × Nat) × Int) → V
 | none => .tup [.sl 2 (([] : List (Nat × Nat)).map encP) false, int 0, int 0]
 | some (ps, w) => .tup [.sl 2 (ps.map encP) false, int w, int 0]
theorem balV_pu (x : Option (List (Nat × Nat) × Int)) : Pu (balV x) := by
 cases x with
 | none => unfold balV; first | assumption | (simp only [go_sem] <;> assumption) | (simp only [go_sem, *]; done) | (simp [go_sem]; done)
 | some z => obtain ⟨p, q⟩ := z; unfold balV; first | assumption | (simp only [go_sem] <;> assumption) | (simp only [go_sem, *]; done) | (simp [go_sem]; done)
theorem diffs_small {ls rs : List Grd} {n : Nat} (hl : ∀ x ∈ ls, GrdOk n x) (hr : ∀ x ∈ rs, GrdOk n x) : ∀ d ∈ diffs ls rs, 0 ≤ d ∧ d ≤ 1000000 := by
 intro d hd
 rw [diffs, List.mem_cons, List.mem_flatMap] at hd
 rcases hd with rfl | ⟨a, ha, hd⟩
 · decide
 · rw [List.mem_map] at hd
   obtain ⟨b, hb, rfl⟩ := hd
   exact farR_small (hl a ha).w (hr b hb).w
theorem Balance_ok (g : Gau) (ls rs : List Grd) (e1 e2 : Bool) (hs : StOk ls rs) (hc : checkS g ls rs = 0) (hlr : ls.length = rs.length) (D : List Int) (hDl : D.length = (diffs ls rs).length) (hDi : ∀ x ∈ D, x ∈ diffs ls rs)
   (hD : RowTo 86 [.os 0 1 (diffs ls rs).length false] (diffs ls rs) D) : Ct Tryd.prog 45 [encSt ls rs e1 e2, encGa g] (balV (balanceTo ls rs D)) := by
 have hk := Check_st g e1 e2 hs
 rw [hc] at hk
 obtain ⟨hl8, hr8, hg, n, hn, hl, hr⟩ := checkS_ok hc
 have hfar : ∀ i k, i < ls.length → k < rs.length → Ct Tryd.prog 85 [int (ls.getD i default).1, int (rs.getD k default).1] (int (farR (ls.getD i default).1 (rs.getD k default).1)) := fun i k hi hk => gfar_spec _ _ (hl _ (getD_mem hi)).w (hr _ (getD_mem hk)).w
 refine fn_enter Tryd.func45 rfl (by decide) Tryd.results45 Tryd.ntmps45 ?_ rfl (by simp (maxSteps := 1000000) -implicitDefEqProofs (disch := omega) only [go_sem]; rfl) fun base => ?_
 · exact balV_pu _
 repeat' (first
   | (with_reducible apply Req_intro); focus (first | omega | assumption | (simp; done))
   | with_reducible (first | apply Req_intro | refine nilT ?_ fun hn => ?_ | apply wk_draw Tryd_mixed | refine drawEnd (by kernel_rfl) ?_)
   | (with_reducible (first | apply condA_if | apply stepDG_ifN | apply stepDG_if | apply stepG_ifN | apply stepG_if)) <;> intro hb <;> (have hif := hb) <;> (try simp only [bo] at hif) <;> (try simp -implicitDefEqProofs (disch := omega) only [go_sem, hb]) <;> clear hb
   | simp (maxSteps := 1000000) -implicitDefEqProofs (disch := omega) only [go_sem])
 refine callp hk ?_
 try simp (maxSteps := 1000000) -implicitDefEqProofs (disch := omega) only [go_sem]
 repeat' (first
   | (with_reducible apply Req_intro); focus (first | omega | assumption | (simp; done))
   | with_reducible (first | apply Req_intro | refine nilT ?_ fun hn => ?_ | apply wk_draw Tryd_mixed | refine drawEnd (by kernel_rfl) ?_)
   | (with_reducible (first | apply condA_if | apply stepDG_ifN | apply stepDG_if | apply stepG_ifN | apply stepG_if)) <;> intro hb <;> (have hif := hb) <;> (try simp only [bo] at hif) <;> (try simp -implicitDefEqProofs (disch := omega) only [go_sem, hb]) <;> clear hb
   | simp (maxSteps := 1000000) -implicitDefEqProofs (disch := omega) only [go_sem])
 all_goals first | (exfalso; omega) | skip
 refine loop_rows (α := Nat) (33 :: [8, 10, 12, 37, 38, 39, 40, 41, 42, 43, 44, 45, 46, 47, 48, 49, 50, 51, 52, 53, 54, 55, 56, 57]) (fun i => [(37, .lit (.int .i64 i)), (8, .os 1152 1 (dTo ls rs i).length false)]) (fun i => [(0, some ⟨2, [[.sl 2 (ls.map encGd) e1, .sl 2 (rs.map encGd) e2]], 38, .wr⟩), (64, some ⟨4, [[int g.sc, int g.ga, int g.we, int g.cu]], 26, .wr⟩), (1152, some ⟨1, (dTo ls rs i).map encI, 3, .wr⟩)]) (fun i => i ≤ ls.length) (fun i => ls.length - i) 0 (fun x => by simp (maxSteps := 1000000) -implicitDefEqProofs (disch := omega) only [go_sem]; rfl) ?_ ?_ fun x hx => ?_
 · simp only [dTo, List.take_zero, List.flatMap_nil]
   exact weak_do3 []
 · exact Nat.zero_le _
 by_cases hlt : x < ls.length
 · repeat' (first
     | (with_reducible apply Req_intro); focus (first | omega | assumption | (simp; done))
     | with_reducible (first | apply Req_intro | refine nilT ?_ fun hn => ?_ | apply wk_draw Tryd_mixed | refine drawEnd (by kernel_rfl) ?_)
     | (with_reducible (first | apply condA_if | apply stepDG_ifN | apply stepDG_if | apply stepG_ifN | apply stepG_if)) <;> intro hb <;> (have hif := hb) <;> (try simp only [bo] at hif) <;> (try simp -implicitDefEqProofs (disch := omega) only [go_sem, hb]) <;> clear hb
     | simp (maxSteps := 1000000) -implicitDefEqProofs (disch := omega) only [go_sem])
   all_goals first | (exfalso; omega) | omega | skip
   refine loop_rows (α := Nat) (33 :: [8, 12, 44, 45, 46, 47, 48, 49, 50, 51, 52, 53, 54, 55, 56]) (fun k => [(44, .lit (.int .i64 k)), (8, .os 1152 1 (dK ls rs x k).length false)]) (fun k => [(0, some ⟨2, [[.sl 2 (ls.map encGd) e1, .sl 2 (rs.map encGd) e2]], 38, .wr⟩), (64, some ⟨4, [[int g.sc, int g.ga, int g.we, int g.cu]], 26, .wr⟩), (1152, some ⟨1, (dK ls rs x k).map encI, 3, .wr⟩), (1728, some ⟨2, [encGd (ls.getD x default)], 24, .wr⟩)]) (fun k => k ≤ rs.length) (fun k => rs.length - k) 0 (fun x => by simp (maxSteps := 1000000) -implicitDefEqProofs (disch := omega) only [go_sem]; rfl) ?_ ?_ fun x hx => ?_
   · rw [dK_zero]
     exact weak_do3 []
   · exact Nat.zero_le _
   rename_i ox ohx
   by_cases hlt2 : x < rs.length
   · have hdl := dK_len (ls := ls) (rs := rs) (i := ox) (k := x) (by omega) hl8 hr8
     have hds := dK_succ (ls := ls) (i := ox) hlt2
     have hf := hfar ox x hlt hlt2
     generalize farR (ls.getD ox default).1 (rs.getD x default).1 = fd at *
     repeat' (first
       | (with_reducible apply Req_intro); focus (first | omega | assumption | (simp; done))
       | with_reducible (first | apply Req_intro | refine nilT ?_ fun hn => ?_ | apply wk_draw Tryd_mixed | refine drawEnd (by kernel_rfl) ?_)
       | (with_reducible (first | apply condA_if | apply stepDG_ifN | apply stepDG_if | apply stepG_ifN | apply stepG_if)) <;> intro hb <;> (have hif := hb) <;> (try simp only [bo] at hif) <;> (try simp -implicitDefEqProofs (disch := omega) only [go_sem, hb]) <;> clear hb
       | simp (maxSteps := 1000000) -implicitDefEqProofs (disch := omega) only [go_sem])
     all_goals first | (exfalso; omega) | omega | skip
     refine callp hf ?_
     try simp (maxSteps := 1000000) -implicitDefEqProofs (disch := omega) only [go_sem]
     repeat' (first
       | (with_reducible apply Req_intro); focus (first | omega | assumption | (simp; done))
       | with_reducible (first | apply Req_intro | refine nilT ?_ fun hn => ?_ | apply wk_draw Tryd_mixed | refine drawEnd (by kernel_rfl) ?_)
       | (with_reducible (first | apply condA_if | apply stepDG_ifN | apply stepDG_if | apply stepG_ifN | apply stepG_if)) <;> intro hb <;> (have hif := hb) <;> (try simp only [bo] at hif) <;> (try simp -implicitDefEqProofs (disch := omega) only [go_sem, hb]) <;> clear hb
       | simp (maxSteps := 1000000) -implicitDefEqProofs (disch := omega) only [go_sem])
     all_goals first | (exfalso; omega) | omega | skip
     with_reducible refine nxt_w (x + 1) ?_ ?_
     · (try dsimp only)
       rw [hds, List.length_append]
       exact weak_do3 [(1152, 2880)]
     try dsimp only
     omega
   · obtain rfl : x = rs.length := by omega
     rw [dK_all hlt]
     repeat' (first
       | (with_reducible apply Req_intro); focus (first | omega | assumption | (simp; done))
       | with_reducible (first | apply Req_intro | refine nilT ?_ fun hn => ?_ | apply wk_draw Tryd_mixed | refine drawEnd (by kernel_rfl) ?_)
       | (with_reducible (first | apply condA_if | apply stepDG_ifN | apply stepDG_if | apply stepG_ifN | apply stepG_if)) <;> intro hb <;> (have hif := hb) <;> (try simp only [bo] at hif) <;> (try simp -implicitDefEqProofs (disch := omega) only [go_sem, hb]) <;> clear hb
       | simp (maxSteps := 1000000) -implicitDefEqProofs (disch := omega) only [go_sem])
     all_goals first | (exfalso; omega) | omega | skip
     with_reducible refine nxt_w (ox + 1) ?_ ?_
     · (try dsimp only)
       skip
       exact weak_do3 []
     try dsimp only
     omega
 · obtain rfl : x = ls.length := by omega
   rw [dTo_all]
   repeat' (first
     | (with_reducible apply Req_intro); focus (first | omega | assumption | (simp; done))
     | with_reducible (first | apply Req_intro | refine nilT ?_ fun hn => ?_ | apply wk_draw Tryd_mixed | refine drawEnd (by kernel_rfl) ?_)
     | (with_reducible (first | apply condA_if | apply stepDG_ifN | apply stepDG_if | apply stepG_ifN | apply stepG_if)) <;> intro hb <;> (have hif := hb) <;> (try simp only [bo] at hif) <;> (try simp -implicitDefEqProofs (disch := omega) only [go_sem, hb]) <;> clear hb
     | simp (maxSteps := 1000000) -implicitDefEqProofs (disch := omega) only [go_sem])
   all_goals first | (exfalso; omega) | omega | skip
   refine call_row 1152 hD ?_ ⟨_, Tryd.func86, by rfl, by decide⟩ ?_
   rotate_left
   · refine .cons _ _ _ _ (Ren.osN _ _ rfl rfl (by omega) (fun h => h)) .nil
   try simp (maxSteps := 1000000) -implicitDefEqProofs (disch := omega) only [go_sem]
   rw [← hDl]
   repeat' (first
     | (with_reducible apply Req_intro); focus (first | omega | assumption | (simp; done))
     | with_reducible (first | apply Req_intro | refine nilT ?_ fun hn => ?_ | apply wk_draw Tryd_mixed | refine drawEnd (by kernel_rfl) ?_)
     | (with_reducible (first | apply condA_if | apply stepDG_ifN | apply stepDG_if | apply stepG_ifN | apply stepG_if)) <;> intro hb <;> (have hif := hb) <;> (try simp only [bo] at hif) <;> (try simp -implicitDefEqProofs (disch := omega) only [go_sem, hb]) <;> clear hb
     | simp (maxSteps := 1000000) -implicitDefEqProofs (disch := omega) only [go_sem])
   refine loop_rows (α := Nat) [4, 5, 6, 14, 15, 16, 17, 18, 19, 62, 63, 64, 65, 66, 67, 68, 69, 70, 71, 72, 73, 74, 75, 76, 77, 78, 79, 80, 81, 82, 83, 84, 85, 86, 87, 88, 89, 90, 91, 92, 93, 94, 95, 96, 97, 98, 99, 100, 101, 102, 103, 104, 105, 106, 107, 108, 109, 110, 111] (fun i => [(62, .lit (.int .i64 i))]) (fun i => [(0, some ⟨2, [[.sl 2 (ls.map encGd) e1, .sl 2 (rs.map encGd) e2]], 38, .wr⟩), (64, some ⟨4, [[int g.sc, int g.ga, int g.we, int g.cu]], 26, .wr⟩), (1152, some ⟨1, D.map encI, 3, .wr⟩)]) (fun i => i ≤ D.length ∧ balanceTo ls rs D = balanceTo ls rs (D.drop i)) (fun i => D.length - i) 0 (fun x => by simp (maxSteps := 1000000) -implicitDefEqProofs (disch := omega) only [go_sem]; rfl) ?_ ?_ fun x hx => ?_
   · exact weak_do3 []
   · exact ⟨Nat.zero_le _, rfl⟩
   have hD100 : D.length ≤ 100 := by rw [hDl, ← dTo_all, ← dK_zero]; exact dK_len (Nat.le_refl _) hl8 hr8
   obtain ⟨hxd, hbt⟩ := hx
   by_cases hlt : x < D.length
   · have hdr : D.drop x = D.getD x default :: D.drop (x + 1) := drop_cons hlt
     rw [hdr] at hbt
     have hx9 := hDi _ (getD_mem hlt)
     have hwb := diffs_small hl hr _ hx9
     have hnl := nearR_len ls rs (D.getD x default)
     have hn9 := near_nine ls rs (D.getD x default) (by omega)
     have hng := fun i (h : i < ls.length) => nearR_get (rs := rs) (w := D.getD x default) h
     have hbs : balanceTo ls rs (D.getD x default :: D.drop (x + 1)) = if mostR (nearR ls rs (D.getD x default)) = ls.length then some (pairsR (nearR ls rs (D.getD x default)), D.getD x default) else balanceTo ls rs (D.drop (x + 1)) := rfl
     rw [hbs] at hbt
     generalize nearR ls rs (D.getD x default) = T at *
     generalize hwst : D.getD x default = wst at *
     have c1 := most_spec T hn9 true (by omega)
     have c2 := pairs_spec T hn9 (by omega)
     have hms := most_small hn9 (by omega)
     repeat' (first
       | (with_reducible apply Req_intro); focus (first | omega | assumption | (simp; done))
       | with_reducible (first | apply Req_intro | refine nilT ?_ fun hn => ?_ | apply wk_draw Tryd_mixed | refine drawEnd (by kernel_rfl) ?_)
       | (with_reducible (first | apply condA_if | apply stepDG_ifN | apply stepDG_if | apply stepG_ifN | apply stepG_if)) <;> intro hb <;> (have hif := hb) <;> (try simp only [bo] at hif) <;> (try simp -implicitDefEqProofs (disch := omega) only [go_sem, hb, hwst]) <;> clear hb
       | simp (maxSteps := 1000000) -implicitDefEqProofs (disch := omega) only [go_sem, hwst])
     all_goals first | (exfalso; omega) | omega | skip
     refine loop_rows (α := Nat) [16, 17, 18, 19, 73, 74, 75, 76, 77, 78, 79, 80, 81, 82, 83, 84, 85, 86, 87, 88, 89, 90, 91, 92, 93, 94, 95, 96, 97, 98, 99, 100, 101, 102] (fun i => [(73, .lit (.int .i64 i))]) (fun i => [(0, some ⟨2, [[.sl 2 (ls.map encGd) e1, .sl 2 (rs.map encGd) e2]], 38, .wr⟩), (64, some ⟨4, [[int g.sc, int g.ga, int g.we, int g.cu]], 26, .wr⟩), (1152, some ⟨1, D.map encI, 3, .wr⟩), (2368, some ⟨1, (tabTo T i).map encU, 112, .wr⟩)]) (fun i => i ≤ ls.length) (fun i => ls.length - i) 0 (fun x => by simp (maxSteps := 1000000) -implicitDefEqProofs (disch := omega) only [go_sem]; rfl) ?_ ?_ fun x hx => ?_
     · rw [tabTo_nil, hnl]
       exact weak_do3 []
     · exact Nat.zero_le _
     rename_i od
     by_cases hlt3 : x < ls.length
     · have htl := tabTo_len (T := T) (i := x) (by omega)
       repeat' (first
         | (with_reducible apply Req_intro); focus (first | omega | assumption | (simp; done))
         | with_reducible (first | apply Req_intro | refine nilT ?_ fun hn => ?_ | apply wk_draw Tryd_mixed | refine drawEnd (by kernel_rfl) ?_)
         | (with_reducible (first | apply condA_if | apply stepDG_ifN | apply stepDG_if | apply stepG_ifN | apply stepG_if)) <;> intro hb <;> (have hif := hb) <;> (try simp only [bo] at hif) <;> (try simp -implicitDefEqProofs (disch := omega) only [go_sem, hb]) <;> clear hb
         | simp (maxSteps := 1000000) -implicitDefEqProofs (disch := omega) only [go_sem])
       all_goals first | (exfalso; omega) | omega | skip
       have hTx := hng x hlt3
       have hz : ∀ j, bitsIf (fun r => decide (farR (ls.getD x default).1 (rs.getD r default).1 ≤ wst)) (j + 1) = if decide (farR (ls.getD x default).1 (rs.getD j default).1 ≤ wst) = true then bitsIf (fun r => decide (farR (ls.getD x default).1 (rs.getD r default).1 ≤ wst)) j ||| 2 ^ j else bitsIf (fun r => decide (farR (ls.getD x default).1 (rs.getD r default).1 ≤ wst)) j := fun j => rfl
       have h0 : bitsIf (fun r => decide (farR (ls.getD x default).1 (rs.getD r default).1 ≤ wst)) 0 = 0 := rfl
       have h9 : ∀ j, j ≤ 9 → bitsIf (fun r => decide (farR (ls.getD x default).1 (rs.getD r default).1 ≤ wst)) j < 512 := fun j hj => bitsIf_lt9 hj
       generalize bitsIf (fun r => decide (farR (ls.getD x default).1 (rs.getD r default).1 ≤ wst)) = bt at *
       have hs0 : (tabTo T x).set x (bt 0) = tabTo T x := by rw [h0]; exact tabTo_zero (by omega)
       refine loop_rows (α := Nat) [18, 19, 81, 82, 83, 84, 85, 86, 87, 88, 89, 90, 91, 92, 93, 94, 95, 96, 97, 98, 99, 100, 101] (fun i => [(81, .lit (.int .i64 i))]) (fun i => [(0, some ⟨2, [[.sl 2 (ls.map encGd) e1, .sl 2 (rs.map encGd) e2]], 38, .wr⟩), (64, some ⟨4, [[int g.sc, int g.ga, int g.we, int g.cu]], 26, .wr⟩), (1152, some ⟨1, D.map encI, 3, .wr⟩), (2368, some ⟨1, ((tabTo T x).set x (bt i)).map encU, 112, .wr⟩), (3008, some ⟨2, [encGd (ls.getD x default)], 24, .wr⟩)]) (fun i => i ≤ rs.length) (fun i => rs.length - i) 0 (fun x => by simp (maxSteps := 1000000) -implicitDefEqProofs (disch := omega) only [go_sem]; rfl) ?_ ?_ fun x hx => ?_
       · rw [hs0]
         exact weak_do3 []
       · exact Nat.zero_le _
       rename_i ox ohx
       by_cases hlt4 : x < rs.length
       · have hsl : ((tabTo T ox).set ox (bt x)).length = T.length := by rw [List.length_set]; exact htl
         have hsg : ((tabTo T ox).set ox (bt x)).getD ox default = bt x := set_get (by omega)
         have hb9 := h9 x (by omega)
         have hp9 := pow_lt9 (r := x) (by omega)
         have f3 : (1 : Int) * 2 ^ min x 64 = ((2 ^ x : Nat) : Int) := by rw [Nat.min_eq_left (by omega), Int.one_mul, Int.natCast_pow]; rfl
         have f2 := ib_or (bt x) (2 ^ x) (by omega) (by omega)
         have hzy := hz x
         have hf := hfar ox x hlt3 hlt4
         generalize farR (ls.getD ox default).1 (rs.getD x default).1 = fd at *
         generalize 2 ^ x = q at *
         repeat' (first
           | (with_reducible apply Req_intro); focus (first | omega | assumption | (simp; done))
           | with_reducible (first | apply Req_intro | refine nilT ?_ fun hn => ?_ | apply wk_draw Tryd_mixed | refine drawEnd (by kernel_rfl) ?_)
           | (with_reducible (first | apply condA_if | apply stepDG_ifN | apply stepDG_if | apply stepG_ifN | apply stepG_if)) <;> intro hb <;> (have hif := hb) <;> (try simp only [bo] at hif) <;> (try simp -implicitDefEqProofs (disch := omega) only [go_sem, hb]) <;> clear hb
           | simp (maxSteps := 1000000) -implicitDefEqProofs (disch := omega) only [go_sem])
         all_goals first | (exfalso; omega) | omega | skip
         refine callp hf ?_
         try simp (maxSteps := 1000000) -implicitDefEqProofs (disch := omega) only [go_sem]
         repeat' (first
           | (with_reducible apply Req_intro); focus (first | omega | assumption | (simp; done))
           | with_reducible (first | apply Req_intro | refine nilT ?_ fun hn => ?_ | apply wk_draw Tryd_mixed | refine drawEnd (by kernel_rfl) ?_)
           | (with_reducible (first | apply condA_if | apply stepDG_ifN | apply stepDG_if | apply stepG_ifN | apply stepG_if)) <;> intro hb <;> (have hif := hb) <;> (try simp only [bo] at hif) <;> (try simp -implicitDefEqProofs (disch := omega) only [go_sem, hb, hsg, f3, f2]) <;> clear hb
           | simp (maxSteps := 1000000) -implicitDefEqProofs (disch := omega) only [go_sem, hsg, f3, f2])
         all_goals first | (exfalso; omega) | omega | skip
         · rw [if_pos (decide_eq_true hif)] at hzy
           with_reducible refine nxt_w (x + 1) ?_ ?_
           · (try dsimp only)
             rw [List.set_set, hzy]
             exact weak_do3 []
           try dsimp only
           omega
         · rw [if_neg (by rw [decide_eq_false (by omega)]; decide)] at hzy
           with_reducible refine nxt_w (x + 1) ?_ ?_
           · (try dsimp only)
             rw [hzy]
             exact weak_do3 []
           try dsimp only
           omega
       · obtain rfl : x = rs.length := by omega
         repeat' (first
           | (with_reducible apply Req_intro); focus (first | omega | assumption | (simp; done))
           | with_reducible (first | apply Req_intro | refine nilT ?_ fun hn => ?_ | apply wk_draw Tryd_mixed | refine drawEnd (by kernel_rfl) ?_)
           | (with_reducible (first | apply condA_if | apply stepDG_ifN | apply stepDG_if | apply stepG_ifN | apply stepG_if)) <;> intro hb <;> (have hif := hb) <;> (try simp only [bo] at hif) <;> (try simp -implicitDefEqProofs (disch := omega) only [go_sem, hb]) <;> clear hb
           | simp (maxSteps := 1000000) -implicitDefEqProofs (disch := omega) only [go_sem])
         all_goals first | (exfalso; omega) | omega | skip
         with_reducible refine nxt_w (ox + 1) ?_ ?_
         · (try dsimp only)
           rw [← hTx, tabTo_succ (by omega)]
           exact weak_do3 []
         try dsimp only
         omega
     · obtain rfl : x = ls.length := by omega
       rw [show tabTo T ls.length = T from by rw [← hnl]; exact tabTo_all T]
       repeat' (first
         | (with_reducible apply Req_intro); focus (first | omega | assumption | (simp; done))
         | with_reducible (first | apply Req_intro | refine nilT ?_ fun hn => ?_ | apply wk_draw Tryd_mixed | refine drawEnd (by kernel_rfl) ?_)
         | (with_reducible (first | apply condA_if | apply stepDG_ifN | apply stepDG_if | apply stepG_ifN | apply stepG_if)) <;> intro hb <;> (have hif := hb) <;> (try simp only [bo] at hif) <;> (try simp -implicitDefEqProofs (disch := omega) only [go_sem, hb]) <;> clear hb
         | simp (maxSteps := 1000000) -implicitDefEqProofs (disch := omega) only [go_sem])
       all_goals first | (exfalso; omega) | omega | skip
       rw [← hnl]
       refine callc c1 ?_
       try simp (maxSteps := 1000000) -implicitDefEqProofs (disch := omega) only [go_sem]
       repeat' (first
         | (with_reducible apply Req_intro); focus (first | omega | assumption | (simp; done))
         | with_reducible (first | apply Req_intro | refine nilT ?_ fun hn => ?_ | apply wk_draw Tryd_mixed | refine drawEnd (by kernel_rfl) ?_)
         | (with_reducible (first | apply condA_if | apply stepDG_ifN | apply stepDG_if | apply stepG_ifN | apply stepG_if)) <;> intro hb <;> (have hif := hb) <;> (try simp only [bo] at hif) <;> (try simp -implicitDefEqProofs (disch := omega) only [go_sem, hb]) <;> clear hb
         | simp (maxSteps := 1000000) -implicitDefEqProofs (disch := omega) only [go_sem])
       all_goals first | (exfalso; omega) | omega | skip
       · rw [if_pos (by omega)] at hbt
         rw [hbt, show balV (some (pairsR T, wst)) = .tup [.sl 2 ((pairsR T).map encP) false, int wst, int 0] from rfl]
         refine callf [2368] c2 ?_
         try simp (maxSteps := 1000000) -implicitDefEqProofs (disch := omega) only [go_sem]
         repeat' (first
           | (with_reducible apply Req_intro); focus (first | omega | assumption | (simp; done))
           | with_reducible (first | apply Req_intro | refine nilT ?_ fun hn => ?_ | apply wk_draw Tryd_mixed | refine drawEnd (by kernel_rfl) ?_)
           | (with_reducible (first | apply condA_if | apply stepDG_ifN | apply stepDG_if | apply stepG_ifN | apply stepG_if)) <;> intro hb <;> (have hif := hb) <;> (try simp only [bo] at hif) <;> (try simp -implicitDefEqProofs (disch := omega) only [go_sem, hb]) <;> clear hb
           | simp (maxSteps := 1000000) -implicitDefEqProofs (disch := omega) only [go_sem])
         all_goals first | (exfalso; omega) | omega | skip
         refine ret_do ?_
         rfl
       · rw [if_neg (by omega)] at hbt
         all_goals first | (exfalso; omega) | omega | skip
         with_reducible refine nxt_w (od + 1) ?_ ?_
         · (try dsimp only)
           skip
           exact weak_do3 []
         try dsimp only
         exact ⟨by omega, hbt⟩
   · obtain rfl : x = D.length := by omega
     rw [show balanceTo ls rs D = none from by rw [hbt, List.drop_length]; rfl, show balV none = .tup [.sl 2 (([] : List (Nat × Nat)).map encP) false, int 0, int 0] from rfl]
     repeat' (first
       | (with_reducible apply Req_intro); focus (first | omega | assumption | (simp; done))
       | with_reducible (first | apply Req_intro | refine nilT ?_ fun hn => ?_ | apply wk_draw Tryd_mixed | refine drawEnd (by kernel_rfl) ?_)
       | (with_reducible (first | apply condA_if | apply stepDG_ifN | apply stepDG_if | apply stepG_ifN | apply stepG_if)) <;> intro hb <;> (have hif := hb) <;> (try simp only [bo] at hif) <;> (try simp -implicitDefEqProofs (disch := omega) only [go_sem, hb]) <;> clear hb
       | simp (maxSteps := 1000000) -implicitDefEqProofs (disch := omega) only [go_sem])
     all_goals first | (exfalso; omega) | omega | skip
     exact retf [] [4, 5, 6] [.sl 2 (([] : List (Nat × Nat)).map encP) false, int 0, int 0]
end Go.Aw
end
section
namespace Go.Aw
open Go.RowKit Go.Proofs
theorem one_spec (w c : Int) : Ct Tryd.prog 57 [int w, int c] (.agg (encGd (w, [c]))) := by
 refine ct_enterZ Tryd.func57 rfl (by decide) Tryd.results57 Tryd.ntmps57 ?_ rfl (by simp (maxSteps := 1000000) -implicitDefEqProofs (disch := omega) only [go_sem]; rfl) fun base => ?_
 · first | assumption | (simp only [go_sem] <;> assumption) | (simp only [go_sem, *]; done) | (simp [go_sem]; done)
 repeat' (first
   | (with_reducible apply Req_intro); focus (first | omega | assumption | (simp; done))
   | with_reducible (first | apply Req_intro | refine nilT ?_ fun hn => ?_ | apply wk_draw Tryd_mixed | refine drawEnd (by kernel_rfl) ?_)
   | (with_reducible (first | apply condA_if | apply stepDG_ifN | apply stepDG_if | apply stepG_ifN | apply stepG_if)) <;> intro hb <;> (have hif := hb) <;> (try simp only [bo] at hif) <;> (try simp -implicitDefEqProofs (disch := omega) only [go_sem, hb]) <;> clear hb
   | simp (maxSteps := 1000000) -implicitDefEqProofs (disch := omega) only [go_sem])
 exact retz [192]
theorem gauge_spec (w : Int) : Ct Tryd.prog 58 [int w] (encGa (exG w)) := by
 refine ct_enterZ Tryd.func58 rfl (by decide) Tryd.results58 Tryd.ntmps58 ?_ rfl (by simp (maxSteps := 1000000) -implicitDefEqProofs (disch := omega) only [go_sem]; rfl) fun base => ?_
 · unfold exG; first | assumption | (simp only [go_sem] <;> assumption) | (simp only [go_sem, *]; done) | (simp [go_sem]; done)
 repeat' (first
   | (with_reducible apply Req_intro); focus (first | omega | assumption | (simp; done))
   | with_reducible (first | apply Req_intro | refine nilT ?_ fun hn => ?_ | apply wk_draw Tryd_mixed | refine drawEnd (by kernel_rfl) ?_)
   | (with_reducible (first | apply condA_if | apply stepDG_ifN | apply stepDG_if | apply stepG_ifN | apply stepG_if)) <;> intro hb <;> (have hif := hb) <;> (try simp only [bo] at hif) <;> (try simp -implicitDefEqProofs (disch := omega) only [go_sem, hb]) <;> clear hb
   | simp (maxSteps := 1000000) -implicitDefEqProofs (disch := omega) only [go_sem])
 unfold exG
 exact retz []
theorem pair_spec (a b : Int) : Ct Tryd.prog 51 [int a, int b] (.agg [int a, int b]) := by
 refine ct_enterZ Tryd.func51 rfl (by decide) Tryd.results51 Tryd.ntmps51 ?_ rfl (by simp (maxSteps := 1000000) -implicitDefEqProofs (disch := omega) only [go_sem]; rfl) fun base => ?_
 · first | assumption | (simp only [go_sem] <;> assumption) | (simp only [go_sem, *]; done) | (simp [go_sem]; done)
 repeat' (first
   | (with_reducible apply Req_intro); focus (first | omega | assumption | (simp; done))
   | with_reducible (first | apply Req_intro | refine nilT ?_ fun hn => ?_ | apply wk_draw Tryd_mixed | refine drawEnd (by kernel_rfl) ?_)
   | (with_reducible (first | apply condA_if | apply stepDG_ifN | apply stepDG_if | apply stepG_ifN | apply stepG_if)) <;> intro hb <;> (have hif := hb) <;> (try simp only [bo] at hif) <;> (try simp -implicitDefEqProofs (disch := omega) only [go_sem, hb]) <;> clear hb
   | simp (maxSteps := 1000000) -implicitDefEqProofs (disch := omega) only [go_sem])
 exact retz []
theorem exL_enc : exL.map encGd = [[int 100, .sl 1 [[int 20]] false], [int 104, .sl 1 [[int 24]] false], [int 120, .sl 1 [[int 20]] false]] := rfl
theorem exR_enc : exR.map encGd = [[int 103, .sl 1 [[int 22]] false], [int 101, .sl 1 [[int 20]] false], [int 118, .sl 1 [[int 30]] false]] := rfl
theorem stock_spec : Ct Tryd.prog 59 [] (encSt exL exR false false) := by
 rw [encSt, exL_enc, exR_enc]
 refine ct_enterZ Tryd.func59 rfl (by decide) Tryd.results59 Tryd.ntmps59 ?_ rfl (by simp (maxSteps := 1000000) -implicitDefEqProofs (disch := omega) only [go_sem]; rfl) fun base => ?_
 · first | assumption | (simp only [go_sem] <;> assumption) | (simp only [go_sem, *]; done) | (simp [go_sem]; done)
 repeat' (first
   | (with_reducible apply Req_intro); focus (first | omega | assumption | (simp; done))
   | with_reducible (first | apply Req_intro | refine nilT ?_ fun hn => ?_ | apply wk_draw Tryd_mixed | refine drawEnd (by kernel_rfl) ?_)
   | (with_reducible (first | apply condA_if | apply stepDG_ifN | apply stepDG_if | apply stepG_ifN | apply stepG_if)) <;> intro hb <;> (have hif := hb) <;> (try simp only [bo] at hif) <;> (try simp -implicitDefEqProofs (disch := omega) only [go_sem, hb]) <;> clear hb
   | simp (maxSteps := 1000000) -implicitDefEqProofs (disch := omega) only [go_sem])
 refine callp (one_spec 100 20) ?_
 try simp (maxSteps := 1000000) -implicitDefEqProofs (disch := omega) only [go_sem]
 repeat' (first
   | (with_reducible apply Req_intro); focus (first | omega | assumption | (simp; done))
   | with_reducible (first | apply Req_intro | refine nilT ?_ fun hn => ?_ | apply wk_draw Tryd_mixed | refine drawEnd (by kernel_rfl) ?_)
   | (with_reducible (first | apply condA_if | apply stepDG_ifN | apply stepDG_if | apply stepG_ifN | apply stepG_if)) <;> intro hb <;> (have hif := hb) <;> (try simp only [bo] at hif) <;> (try simp -implicitDefEqProofs (disch := omega) only [go_sem, hb]) <;> clear hb
   | simp (maxSteps := 1000000) -implicitDefEqProofs (disch := omega) only [go_sem])
 refine callp (one_spec 104 24) ?_
 try simp (maxSteps := 1000000) -implicitDefEqProofs (disch := omega) only [go_sem]
 repeat' (first
   | (with_reducible apply Req_intro); focus (first | omega | assumption | (simp; done))
   | with_reducible (first | apply Req_intro | refine nilT ?_ fun hn => ?_ | apply wk_draw Tryd_mixed | refine drawEnd (by kernel_rfl) ?_)
   | (with_reducible (first | apply condA_if | apply stepDG_ifN | apply stepDG_if | apply stepG_ifN | apply stepG_if)) <;> intro hb <;> (have hif := hb) <;> (try simp only [bo] at hif) <;> (try simp -implicitDefEqProofs (disch := omega) only [go_sem, hb]) <;> clear hb
   | simp (maxSteps := 1000000) -implicitDefEqProofs (disch := omega) only [go_sem])
 refine callp (one_spec 120 20) ?_
 try simp (maxSteps := 1000000) -implicitDefEqProofs (disch := omega) only [go_sem]
 repeat' (first
   | (with_reducible apply Req_intro); focus (first | omega | assumption | (simp; done))
   | with_reducible (first | apply Req_intro | refine nilT ?_ fun hn => ?_ | apply wk_draw Tryd_mixed | refine drawEnd (by kernel_rfl) ?_)
   | (with_reducible (first | apply condA_if | apply stepDG_ifN | apply stepDG_if | apply stepG_ifN | apply stepG_if)) <;> intro hb <;> (have hif := hb) <;> (try simp only [bo] at hif) <;> (try simp -implicitDefEqProofs (disch := omega) only [go_sem, hb]) <;> clear hb
   | simp (maxSteps := 1000000) -implicitDefEqProofs (disch := omega) only [go_sem])
 refine callp (one_spec 103 22) ?_
 try simp (maxSteps := 1000000) -implicitDefEqProofs (disch := omega) only [go_sem]
 repeat' (first
   | (with_reducible apply Req_intro); focus (first | omega | assumption | (simp; done))
   | with_reducible (first | apply Req_intro | refine nilT ?_ fun hn => ?_ | apply wk_draw Tryd_mixed | refine drawEnd (by kernel_rfl) ?_)
   | (with_reducible (first | apply condA_if | apply stepDG_ifN | apply stepDG_if | apply stepG_ifN | apply stepG_if)) <;> intro hb <;> (have hif := hb) <;> (try simp only [bo] at hif) <;> (try simp -implicitDefEqProofs (disch := omega) only [go_sem, hb]) <;> clear hb
   | simp (maxSteps := 1000000) -implicitDefEqProofs (disch := omega) only [go_sem])
 refine callp (one_spec 101 20) ?_
 try simp (maxSteps := 1000000) -implicitDefEqProofs (disch := omega) only [go_sem]
 repeat' (first
   | (with_reducible apply Req_intro); focus (first | omega | assumption | (simp; done))
   | with_reducible (first | apply Req_intro | refine nilT ?_ fun hn => ?_ | apply wk_draw Tryd_mixed | refine drawEnd (by kernel_rfl) ?_)
   | (with_reducible (first | apply condA_if | apply stepDG_ifN | apply stepDG_if | apply stepG_ifN | apply stepG_if)) <;> intro hb <;> (have hif := hb) <;> (try simp only [bo] at hif) <;> (try simp -implicitDefEqProofs (disch := omega) only [go_sem, hb]) <;> clear hb
   | simp (maxSteps := 1000000) -implicitDefEqProofs (disch := omega) only [go_sem])
 refine callp (one_spec 118 30) ?_
 try simp (maxSteps := 1000000) -implicitDefEqProofs (disch := omega) only [go_sem]
 repeat' (first
   | (with_reducible apply Req_intro); focus (first | omega | assumption | (simp; done))
   | with_reducible (first | apply Req_intro | refine nilT ?_ fun hn => ?_ | apply wk_draw Tryd_mixed | refine drawEnd (by kernel_rfl) ?_)
   | (with_reducible (first | apply condA_if | apply stepDG_ifN | apply stepDG_if | apply stepG_ifN | apply stepG_if)) <;> intro hb <;> (have hif := hb) <;> (try simp only [bo] at hif) <;> (try simp -implicitDefEqProofs (disch := omega) only [go_sem, hb]) <;> clear hb
   | simp (maxSteps := 1000000) -implicitDefEqProofs (disch := omega) only [go_sem])
 exact retz [256, 512]
theorem rInts_spec (a b : List Int) (ea eb : Bool) (ha : a.length ≤ 4611686018427387904) (hb : b.length ≤ 4611686018427387904) : Ct Tryd.prog 36 [.sl 1 (a.map encI) ea, .sl 1 (b.map encI) eb] (.lit (.bool (a == b))) := by
 refine fn_enter Tryd.func36 rfl (by decide) Tryd.results36 Tryd.ntmps36 ?_ rfl (by simp (maxSteps := 1000000) -implicitDefEqProofs (disch := omega) only [go_sem]; rfl) fun base => ?_
 · simp
 repeat' (first
   | (with_reducible apply Req_intro); focus (first | omega | assumption | (simp; done))
   | with_reducible (first | apply Req_intro | refine nilT ?_ fun hn => ?_ | apply wk_draw Tryd_mixed | refine drawEnd (by kernel_rfl) ?_)
   | (with_reducible (first | apply condA_if | apply stepDG_ifN | apply stepDG_if | apply stepG_ifN | apply stepG_if)) <;> intro hb <;> (have hif := hb) <;> (try simp only [bo] at hif) <;> (try simp -implicitDefEqProofs (disch := omega) only [go_sem, hb]) <;> clear hb
   | simp (maxSteps := 1000000) -implicitDefEqProofs (disch := omega) only [go_sem])
 · refine ret_do ?_
   have : (a == b) = false := by rw [beq_eq_false_iff_ne]; intro e; subst e; exact hif rfl
   rw [this]; rfl
 refine loop_at (α := Nat) [4, 5, 11, 12, 13, 14, 15, 16, 17, 18, 19, 20, 21, 22, 23, 24, 25] (fun i => [(5, .lit (.int .i64 i))]) (fun i => i ≤ a.length ∧ a.take i = b.take i) (fun i => a.length - i) 0 (fun x => by simp (maxSteps := 1000000) -implicitDefEqProofs (disch := omega) only [go_sem]; rfl) ?_ ?_ fun x hx => ?_
 · exact weak_do []
 · simp
 obtain ⟨hi, he⟩ := hx
 repeat' (first
   | (with_reducible apply Req_intro); focus (first | omega | assumption | (simp; done))
   | with_reducible (first | apply Req_intro | refine nilT ?_ fun hn => ?_ | apply wk_draw Tryd_mixed | refine drawEnd (by kernel_rfl) ?_)
   | (with_reducible (first | apply condA_if | apply stepDG_ifN | apply stepDG_if | apply stepG_ifN | apply stepG_if)) <;> intro hb <;> (have hif := hb) <;> (try simp only [bo] at hif) <;> (try simp -implicitDefEqProofs (disch := omega) only [go_sem, hb]) <;> clear hb
   | simp (maxSteps := 1000000) -implicitDefEqProofs (disch := omega) only [go_sem])
 · refine ret_do ?_
   have : (a == b) = false := by rw [beq_eq_false_iff_ne]; intro e; subst e; exact hif rfl
   rw [this]; rfl
 · refine nxt_w (x + 1) (weak_do []) ?_
   try dsimp only
   refine ⟨by omega, ?_⟩
   rw [take_succ_getD (by omega), take_succ_getD (by omega), he, hif]
 · refine ret_do ?_
   have : a = b := by
     rw [List.take_of_length_le (by omega), List.take_of_length_le (by omega)] at he; exact he
   subst this; simp; rfl
@[go_sem] theorem eqGuardP : Tryd.prog.eqGuardType Tryd.prog.depth 85 = false := by kernel_rfl
@[go_sem] theorem eqCells_P (x y z w : Int) : eqCells (Tryd.prog) 10000 85 [.lit (.int .i64 x), .lit (.int .i64 y)] [.lit (.int .i64 z), .lit (.int .i64 w)] = some ((x == z) && (y == w)) := by
 have h : eqCells (Tryd.prog) 10000 85 [.lit (.int .i64 x), .lit (.int .i64 y)] [.lit (.int .i64 z), .lit (.int .i64 w)] = some ((x == z) && ((y == w) && true)) := by kernel_rfl
 rw [h, Bool.and_true]
theorem rAll_spec (a b : List (Nat × Nat)) (ea eb : Bool) (ha : a.length ≤ 4611686018427387904) (hb : b.length ≤ 4611686018427387904) : Ct Tryd.prog 30 [.sl 2 (a.map encP) ea, .sl 2 (b.map encP) eb] (.lit (.bool (a == b))) := by
 refine fn_enter Tryd.func30 rfl (by decide) Tryd.results30 Tryd.ntmps30 ?_ rfl (by simp (maxSteps := 1000000) -implicitDefEqProofs (disch := omega) only [go_sem]; rfl) fun base => ?_
 · simp
 repeat' (first
   | (with_reducible apply Req_intro); focus (first | omega | assumption | (simp; done))
   | with_reducible (first | apply Req_intro | refine nilT ?_ fun hn => ?_ | apply wk_draw Tryd_mixed | refine drawEnd (by kernel_rfl) ?_)
   | (with_reducible (first | apply condA_if | apply stepDG_ifN | apply stepDG_if | apply stepG_ifN | apply stepG_if)) <;> intro hb <;> (have hif := hb) <;> (try simp only [bo] at hif) <;> (try simp -implicitDefEqProofs (disch := omega) only [go_sem, hb]) <;> clear hb
   | simp (maxSteps := 1000000) -implicitDefEqProofs (disch := omega) only [go_sem])
 · refine ret_do ?_
   have : (a == b) = false := by rw [beq_eq_false_iff_ne]; intro e; subst e; exact hif rfl
   rw [this]; rfl
 refine loop_at (α := Nat) [4, 5, 11, 12, 13, 14, 15, 16, 17, 18, 19, 20, 21, 22, 23, 24, 25] (fun i => [(5, .lit (.int .i64 i))]) (fun i => i ≤ a.length ∧ a.take i = b.take i) (fun i => a.length - i) 0 (fun x => by simp (maxSteps := 1000000) -implicitDefEqProofs (disch := omega) only [go_sem]; rfl) ?_ ?_ fun x hx => ?_
 · exact weak_do []
 · simp
 obtain ⟨hi, he⟩ := hx
 repeat' (first
   | (with_reducible apply Req_intro); focus (first | omega | assumption | (simp; done))
   | with_reducible (first | apply Req_intro | refine nilT ?_ fun hn => ?_ | apply wk_draw Tryd_mixed | refine drawEnd (by kernel_rfl) ?_)
   | (with_reducible (first | apply condA_if | apply stepDG_ifN | apply stepDG_if | apply stepG_ifN | apply stepG_if)) <;> intro hb <;> (have hif := hb) <;> (try simp only [bo] at hif) <;> (try simp -implicitDefEqProofs (disch := omega) only [go_sem, hb]) <;> clear hb
   | simp (maxSteps := 1000000) -implicitDefEqProofs (disch := omega) only [go_sem])
 · refine ret_do ?_
   have : (a == b) = false := by
     rw [beq_eq_false_iff_ne]; intro e; subst e
     exact hif rfl rfl
   rw [this]; rfl
 · refine nxt_w (x + 1) (weak_do []) ?_
   try dsimp only
   refine ⟨by omega, ?_⟩
   rw [take_succ_getD (by omega), take_succ_getD (by omega), he, show a.getD x default = b.getD x default from Prod.ext (by omega) (by omega)]
 · refine ret_do ?_
   have : a = b := by
     rw [List.take_of_length_le (by omega), List.take_of_length_le (by omega)] at he; exact he
   subst this; simp; rfl
end Go.Aw
end
section
namespace Go.Aw
open Go.RowKit Go.Proofs
theorem ex_st : StOk exL exR := ⟨by decide, by decide, by decide, by decide⟩
theorem ex_chk5 : checkS (exG 5) exL exR = 0 := by decide +kernel
theorem ex_chk6 : checkS (exG 6) exL exR = 0 := by decide +kernel
theorem kAlike : Ct Tryd.prog 17 [.agg (encGd (100, [20])), .agg (encGd (104, [24])), encGa (exG 5)] (.tup [.lit (.bool false), .lit (.bool true), int 0]) := by
 have h := Alike_spec (exG 5) (100, [20]) (104, [24]) (by decide) (by decide)
 rwa [if_pos (show chkR (exG 5) [(100, [20]), (104, [24])] = 0 by decide +kernel), show alikeR (exG 5) (100, [20]) (104, [24]) 2 = false by decide +kernel, show alikeR (exG 5) (100, [20]) (104, [24]) (-2) = true by decide +kernel] at h
theorem kPairs : Ct Tryd.prog 26 [encSt exL exR false false, encGa (exG 5)] (.tup [.sl 2 ([(0, 0), (1, 1)].map encP) false, int 0]) := by
 have h := Pairs_ok (exG 5) exL exR false false ex_st ex_chk5
 rwa [ex1] at h
theorem kPossible : Ct Tryd.prog 27 [encSt exL exR false false, encGa (exG 5)] (.tup [int 2, int 0]) := by
 have h := Possible_ok (exG 5) exL exR false false ex_st ex_chk5
 rwa [ex2] at h
theorem kCover : Ct Tryd.prog 34 [encSt exL exR false false, encGa (exG 5)] (.tup [.sl 1 (([] : List Int).map encI) false, .sl 1 (([0, 1] : List Int).map encI) false, int 0]) := by
 have h := Cover_ok (exG 5) exL exR false false ex_st ex_chk5
 rwa [ex3.1, ex3.2, show bitsL 0 = [] from bitsL_zero] at h
theorem kSpare : Ct Tryd.prog 37 [encSt exL exR false false, encGa (exG 5)] (.tup [.sl 1 (([2] : List Int).map encI) false, .sl 1 (([2] : List Int).map encI) false, int 0]) := by
 have h := Spare_ok (exG 5) exL exR false false ex_st ex_chk5
 rwa [ex4.1, show exR.length = 3 from rfl, ex4.2] at h
theorem kTwins : Ct Tryd.prog 39 [encSt exL exR false false, encGa (exG 6)] (.tup [.sl 2 ([(0, 0), (1, 1)].map encP) false, int 0]) := by
 have h := Twins_ok (exG 6) exL exR false false ex_st ex_chk6
 rwa [← twins_eq, ex5] at h
theorem kCut : Ct Tryd.prog 41 [encSt exL exR false false, encGa (exG 5)] (.tup [int 2, int 3, int 0]) := by
 have h := Cut_ok (exG 5) exL exR false false ex_st ex_chk5
 rwa [cutV, show exL.length = 3 from rfl, ex6, if_neg (by decide +kernel)] at h
theorem kLook : Ct Tryd.prog 43 [encSt exL exR false false, encGa (exG 5)] (.tup [.lit (.bool false), int 0, int 0, int 7]) := by
 have h := Look_ok (exG 5) exL exR false false ex_st ex_chk5
 rwa [lookV, show exR.length = 3 from rfl, if_pos ex7] at h
theorem kBalance : Ct Tryd.prog 45 [encSt exL exR false false, encGa (exG 5)] (.tup [.sl 2 ([(0, 1), (1, 0), (2, 2)].map encP) false, int 2, int 0]) := by
 have hd : isort (diffs exL exR) = [0, 1, 1, 2, 3, 3, 14, 17, 18, 19] := by decide +kernel
 have h := Balance_ok (exG 5) exL exR false false ex_st ex_chk5 rfl (isort (diffs exL exR)) (isort_len _) (fun x hx => by
   rw [← List.count_pos_iff, isort_count, List.count_pos_iff] at hx
   exact hx) (Sort_spec _ (by decide))
 rwa [hd, ex8] at h
theorem kCheck : Ct Tryd.prog 25 [encSt exL exR false false, encGa ⟨-1, 0, 0, 0⟩] (int 3) := by
 have h := Check_st ⟨-1, 0, 0, 0⟩ false false ex_st
 rwa [show checkS ⟨-1, 0, 0, 0⟩ exL exR = 3 by decide +kernel] at h
end Go.Aw
end
