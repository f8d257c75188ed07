/-
  A part of the proof that a law returns true for every input that the given row speaks of: an own verified walk over the program (namespace Go.Aw), contracts of the functions that the law calls, and the law itself. Conditions: those of the given row, no other.
-/
import Derived.Test.YtebdecfnimdhmaaPart7
set_option linter.unusedVariables false
set_option linter.unusedSimpArgs false
section
set_option maxRecDepth 20000
set_option maxHeartbeats 4000000
namespace Go.Aw
open Go.RowKit Go.Proofs
end Go.Aw
end
section
set_option maxRecDepth 20000
set_option maxHeartbeats 4000000
namespace Go.Aw
open Go.RowKit Go.Proofs
theorem restr_one {h : Hp} {id : Nat} {b : Blk} (hb : h id = some b) : restr [id] h = hpOf (fun _ => none) [(id, some b)] := by
 funext i
 by_cases c : i = id
 · subst c; simp [restr, hpOf, hget, hb]
 · have c' : ¬ id = i := fun e => c e.symm
   simp [restr, hpOf, hget, c, c']
theorem calldr {P : Program} {nx : Nat} {g : FuncId} {first cap args as1 as2 : List V} {h : Hp} {r : V} {K : V → List Nat → Wr → Prop} (id : Nat) {k : Nat} {es : List (List V)} {ty : TypeId} (hc : Ct P g as2 r) (hk : K r [id] []) (ha : first ++ args ++ cap = as1 := by first | (simp only [go_sem]; done) | (simp only [go_sem]; rfl)) (hb : h id = some ⟨k, es, ty, .wr⟩ := by rfl)
   (hp : PurI false (hpOf (fun _ => none) [(id, some ⟨k, es, ty, .wr⟩)]) as1 as2 := by
     (try simp (maxSteps := 1000000) -implicitDefEqProofs (disch := omega) only [go_sem])
     repeat' (first
       | with_reducible (first | exact PurI.nil | exact Pur.nilsl _ _ | exact PurE.nil)
       | (with_reducible (first | refine PurI.puL ?_ | refine PurE.puE ?_)) <;> (first | assumption | (simp only [go_sem] <;> assumption) | (simp only [go_sem, *]; done) | (simp [go_sem]; done))
       | with_reducible apply PurI.cons
       | (with_reducible refine Pur.pu _ ?_) <;> (first | assumption | (simp only [go_sem] <;> assumption) | (simp only [go_sem, *]; done) | (simp [go_sem]; done))
       | ((with_reducible apply Pur.refR) <;> (first | rfl | decide | (simp only [go_sem]; omega) | (simp only [go_sem]) | skip))
       | ((with_reducible apply Pur.osR) <;> (first | rfl | exact fun h => h | omega | (simp; omega) | (simp; done) | (simp only [go_sem]) | skip))
       | with_reducible (first | apply Pur.fnI | apply Pur.aggI | apply PurE.cons)
       | (with_reducible refine PurI.eqL ?_ ?_); (focus rfl); (focus (first | assumption | (simp only [go_sem] <;> assumption) | (simp only [go_sem, *]; done) | (simp [go_sem]; done)))
       | simp (maxSteps := 1000000) -implicitDefEqProofs (disch := omega) only [go_sem])) (hr : Cl r := by first | assumption | (simp only [go_sem] <;> assumption) | (simp only [go_sem, *]; done) | (simp [go_sem]; done)) : CallD P (.fn (.func g) first cap) args h nx K := call_d [id] ha (by rw [restr_one hb]; exact hp) hc hr hk
structure Entry where
 w : Int
 k : Int
 c : Int
instance : Inhabited Entry := ⟨⟨0, 0, 0⟩⟩
def encEn (x : Entry) : List V := [int x.w, int x.k, int 0, int x.c]
@[go_sem] theorem encEn_eq (x : Entry) : encEn x = [int x.w, int x.k, int 0, int x.c] := rfl
structure EntOkk (x : Entry) : Prop where
 w : 0 ≤ x.w ∧ x.w ≤ 5
 k : x.k = 1 ∨ x.k = 2
 c : 0 ≤ x.c ∧ x.c ≤ 100000
def houseC : List V := [int 0, .sl 2 ([((0 : Int), (0 : Int))].map encS) false, .sl 1 ([(0 : Int)].map encI) false]
@[go_sem] theorem houseC_eq : houseC = [int 0, .sl 2 ([((0 : Int), (0 : Int))].map encS) false, .sl 1 ([(0 : Int)].map encI) false] := rfl
def houseV : V := .agg houseC
@[go_sem] theorem houseV_eq : houseV = .agg [int 0, .sl 2 ([((0 : Int), (0 : Int))].map encS) false, .sl 1 ([(0 : Int)].map encI) false] := rfl
def offC (bk : List Entry) (e : Bool) : List V := [int 0, .sl 2 ([((0 : Int), (0 : Int))].map encS) false, .sl 1 ([(0 : Int)].map encI) false, .sl 4 (bk.map encEn) e]
@[go_sem] theorem offC_eq (bk : List Entry) (e : Bool) : offC bk e = [int 0, .sl 2 ([((0 : Int), (0 : Int))].map encS) false, .sl 1 ([(0 : Int)].map encI) false, .sl 4 (bk.map encEn) e] := rfl
def offV (bk : List Entry) (e : Bool) : V := .agg (offC bk e)
@[go_sem] theorem offV_eq (bk : List Entry) (e : Bool) : offV bk e = .agg [int 0, .sl 2 ([((0 : Int), (0 : Int))].map encS) false, .sl 1 ([(0 : Int)].map encI) false, .sl 4 (bk.map encEn) e] := rfl
theorem IndexFunc_En (l : List (Entry)) (e : Bool) (p : Entry → Bool) (g : FuncId) (cap : List V) (hl : l.length ≤ 4611686018427387904) (hcap : PuL cap) (hg : ∀ x ∈ l, Ct Try.prog g (.agg (encEn x) :: cap) (.lit (.bool (p x)))) :
   Ct Try.prog 127 [.sl 4 (l.map encEn) e, .fn (.func g) [] cap] (.lit (.int .i64 (idxR l p))) := by
 refine fn_enter Try.func127 rfl (by decide) Try.results127 Try.ntmps127 ?_ rfl (by simp (maxSteps := 1000000) -implicitDefEqProofs (disch := omega) only [go_sem]; rfl) fun base => ?_
 · simp
 repeat' (first
   | (with_reducible apply Req_intro); focus (first | omega | assumption | (simp; done))
   | with_reducible (first | apply Req_intro | refine nilT ?_ fun hn => ?_ | apply wk_draw Try_mixed | refine drawEnd (by kernel_rfl) ?_)
   | (with_reducible (first | apply condA_if | apply stepDG_ifN | apply stepDG_if | apply stepG_ifN | apply stepG_if)) <;> intro hb <;> (have hif := hb) <;> (try simp only [bo] at hif) <;> (try simp -implicitDefEqProofs (disch := omega) only [go_sem, hb]) <;> clear hb
   | simp (maxSteps := 1000000) -implicitDefEqProofs (disch := omega) only [go_sem])
 refine loop_at (α := Nat) [4, 5, 8, 9, 10, 11, 12, 13, 14, 15, 16, 17, 18] (fun i => [(8, .lit (.int .i64 i))]) (fun i => i ≤ l.length ∧ ∀ x ∈ l.take i, p x = false) (fun i => l.length - i) 0 (fun x => by simp (maxSteps := 1000000) -implicitDefEqProofs (disch := omega) only [go_sem]; rfl) ?_ ?_ fun x hx => ?_
 · exact weak_do []
 · simp
 obtain ⟨hi, hp⟩ := hx
 repeat' (first
   | (with_reducible apply Req_intro); focus (first | omega | assumption | (simp; done))
   | with_reducible (first | apply Req_intro | refine nilT ?_ fun hn => ?_ | apply wk_draw Try_mixed | refine drawEnd (by kernel_rfl) ?_)
   | (with_reducible (first | apply condA_if | apply stepDG_ifN | apply stepDG_if | apply stepG_ifN | apply stepG_if)) <;> intro hb <;> (have hif := hb) <;> (try simp only [bo] at hif) <;> (try simp -implicitDefEqProofs (disch := omega) only [go_sem, hb]) <;> clear hb
   | simp (maxSteps := 1000000) -implicitDefEqProofs (disch := omega) only [go_sem])
 · have hif' : x < l.length := hif
   refine callp (hg (l.getD x default) (getD_mem hif')) ?_
   try simp (maxSteps := 1000000) -implicitDefEqProofs (disch := omega) only [go_sem]
   repeat' (first
     | (with_reducible apply Req_intro); focus (first | omega | assumption | (simp; done))
     | with_reducible (first | apply Req_intro | refine nilT ?_ fun hn => ?_ | apply wk_draw Try_mixed | refine drawEnd (by kernel_rfl) ?_)
     | (with_reducible (first | apply condA_if | apply stepDG_ifN | apply stepDG_if | apply stepG_ifN | apply stepG_if)) <;> intro hb <;> (have hif := hb) <;> (try simp only [bo] at hif) <;> (try simp -implicitDefEqProofs (disch := omega) only [go_sem, hb]) <;> clear hb
     | simp (maxSteps := 1000000) -implicitDefEqProofs (disch := omega) only [go_sem])
   · refine ret_do ?_
     rw [idxR_some hif' hp hif]; rfl
   · refine nxt_w (x + 1) (weak_do []) ?_
     try dsimp only
     exact idxR_step hif' hp hif
 · refine ret_do ?_
   rw [idxR_none hif hp]; rfl
theorem ContainsFunc_En (l : List (Entry)) (e : Bool) (p : Entry → Bool) (g : FuncId) (cap : List V) (hl : l.length ≤ 4611686018427387904) (hcap : PuL cap) (hg : ∀ x ∈ l, Ct Try.prog g (.agg (encEn x) :: cap) (.lit (.bool (p x)))) :
   Ct Try.prog 98 [.sl 4 (l.map encEn) e, .fn (.func g) [] cap] (.lit (.bool (l.any p))) := by
 refine fn_enter Try.func98 rfl (by decide) Try.results98 Try.ntmps98 ?_ rfl (by simp (maxSteps := 1000000) -implicitDefEqProofs (disch := omega) only [go_sem]; rfl) fun base => ?_
 · simp
 repeat' (first
   | (with_reducible apply Req_intro); focus (first | omega | assumption | (simp; done))
   | with_reducible (first | apply Req_intro | refine nilT ?_ fun hn => ?_ | apply wk_draw Try_mixed | refine drawEnd (by kernel_rfl) ?_)
   | (with_reducible (first | apply condA_if | apply stepDG_ifN | apply stepDG_if | apply stepG_ifN | apply stepG_if)) <;> intro hb <;> (have hif := hb) <;> (try simp only [bo] at hif) <;> (try simp -implicitDefEqProofs (disch := omega) only [go_sem, hb]) <;> clear hb
   | simp (maxSteps := 1000000) -implicitDefEqProofs (disch := omega) only [go_sem])
 refine callp (IndexFunc_En l e p g cap hl hcap hg) ?_
 try simp (maxSteps := 1000000) -implicitDefEqProofs (disch := omega) only [go_sem]
 repeat' (first
   | (with_reducible apply Req_intro); focus (first | omega | assumption | (simp; done))
   | with_reducible (first | apply Req_intro | refine nilT ?_ fun hn => ?_ | apply wk_draw Try_mixed | refine drawEnd (by kernel_rfl) ?_)
   | (with_reducible (first | apply condA_if | apply stepDG_ifN | apply stepDG_if | apply stepG_ifN | apply stepG_if)) <;> intro hb <;> (have hif := hb) <;> (try simp only [bo] at hif) <;> (try simp -implicitDefEqProofs (disch := omega) only [go_sem, hb]) <;> clear hb
   | simp (maxSteps := 1000000) -implicitDefEqProofs (disch := omega) only [go_sem])
 refine ret_do ?_
 rw [← idxR_any]; rfl
theorem owithin1_spec (n a b : Int) : Ct Try.prog 102 [.lit (.int .i64 n), .rp [.lit (.int .i64 a)], .rp [.lit (.int .i64 b)]] (.lit (.bool (decide (n < a) || decide (b < n)))) := by
 refine fn_enter Try.func102 rfl (by decide) Try.results102 Try.ntmps102 ?_ rfl (by simp (maxSteps := 1000000) -implicitDefEqProofs (disch := omega) only [go_sem]; rfl) fun base => ?_
 · simp
 repeat' (first
   | (with_reducible apply Req_intro); focus (first | omega | assumption | (simp; done))
   | with_reducible (first | apply Req_intro | refine nilT ?_ fun hn => ?_ | apply wk_draw Try_mixed | refine drawEnd (by kernel_rfl) ?_)
   | (with_reducible (first | apply condA_if | apply stepDG_ifN | apply stepDG_if | apply stepG_ifN | apply stepG_if)) <;> intro hb <;> (have hif := hb) <;> (try simp only [bo] at hif) <;> (try simp -implicitDefEqProofs (disch := omega) only [go_sem, hb]) <;> clear hb
   | simp (maxSteps := 1000000) -implicitDefEqProofs (disch := omega) only [go_sem])
 · refine ret_do ?_
   rfl
 · refine ret_do ?_
   rfl
theorem owithin_ok (a b : Int) (l : List Int) (e : Bool) (hl : l.length ≤ 4611686018427387904) (h : ∀ x ∈ l, a ≤ x ∧ x ≤ b) : Ct Try.prog 72 [.lit (.int .i64 a), .lit (.int .i64 b), .sl 1 (l.map encI) e] (.lit (.bool true)) := by
 have h2 : (l.any fun n => decide (n < a) || decide (b < n)) = false := by
   rw [List.any_eq_false]
   intro x hx
   have := h x hx
   simp; omega
 refine fn_enter Try.func72 rfl (by decide) Try.results72 Try.ntmps72 ?_ rfl (by simp (maxSteps := 1000000) -implicitDefEqProofs (disch := omega) only [go_sem]; rfl) fun base => ?_
 · simp
 repeat' (first
   | (with_reducible apply Req_intro); focus (first | omega | assumption | (simp; done))
   | with_reducible (first | apply Req_intro | refine nilT ?_ fun hn => ?_ | apply wk_draw Try_mixed | refine drawEnd (by kernel_rfl) ?_)
   | (with_reducible (first | apply condA_if | apply stepDG_ifN | apply stepDG_if | apply stepG_ifN | apply stepG_if)) <;> intro hb <;> (have hif := hb) <;> (try simp only [bo] at hif) <;> (try simp -implicitDefEqProofs (disch := omega) only [go_sem, hb]) <;> clear hb
   | simp (maxSteps := 1000000) -implicitDefEqProofs (disch := omega) only [go_sem])
 refine callc (ContainsFunc_int l e (fun n => decide (n < a) || decide (b < n)) 102 [.rp [.lit (.int .i64 a)], .rp [.lit (.int .i64 b)]] hl (by first | assumption | (simp only [go_sem] <;> assumption) | (simp only [go_sem, *]; done) | (simp [go_sem]; done)) (fun n _ => owithin1_spec n a b)) ?_
 try simp (maxSteps := 1000000) -implicitDefEqProofs (disch := omega) only [go_sem]
 repeat' (first
   | (with_reducible apply Req_intro); focus (first | omega | assumption | (simp; done))
   | with_reducible (first | apply Req_intro | refine nilT ?_ fun hn => ?_ | apply wk_draw Try_mixed | refine drawEnd (by kernel_rfl) ?_)
   | (with_reducible (first | apply condA_if | apply stepDG_ifN | apply stepDG_if | apply stepG_ifN | apply stepG_if)) <;> intro hb <;> (have hif := hb) <;> (try simp only [bo] at hif) <;> (try simp -implicitDefEqProofs (disch := omega) only [go_sem, hb, h2]) <;> clear hb
   | simp (maxSteps := 1000000) -implicitDefEqProofs (disch := omega) only [go_sem, h2])
 refine ret_do ?_
 rfl
theorem one_in {a b n : Int} (h : a ≤ n ∧ n ≤ b) : ∀ x ∈ [n], a ≤ x ∧ x ≤ b := fun x hx => by
 rw [List.mem_singleton] at hx; subst hx; exact h
theorem two_in {a b n m : Int} (h : a ≤ n ∧ n ≤ b) (h' : a ≤ m ∧ m ≤ b) : ∀ x ∈ [n, m], a ≤ x ∧ x ≤ b := fun x hx => by
 simp only [List.mem_cons, List.not_mem_nil, or_false] at hx
 rcases hx with rfl | rfl
 · exact h
 · exact h'
theorem isWorker_ok (w : Int) (h : 0 ≤ w ∧ w ≤ 5) : Ct Try.prog 44 [int w] (.lit (.bool true)) := by
 refine fn_enter Try.func44 rfl (by decide) Try.results44 Try.ntmps44 ?_ rfl (by simp (maxSteps := 1000000) -implicitDefEqProofs (disch := omega) only [go_sem]; rfl) fun base => ?_
 · simp
 repeat' (first
   | (with_reducible apply Req_intro); focus (first | omega | assumption | (simp; done))
   | with_reducible (first | apply Req_intro | refine nilT ?_ fun hn => ?_ | apply wk_draw Try_mixed | refine drawEnd (by kernel_rfl) ?_)
   | (with_reducible (first | apply condA_if | apply stepDG_ifN | apply stepDG_if | apply stepG_ifN | apply stepG_if)) <;> intro hb <;> (have hif := hb) <;> (try simp only [bo] at hif) <;> (try simp -implicitDefEqProofs (disch := omega) only [go_sem, hb]) <;> clear hb
   | simp (maxSteps := 1000000) -implicitDefEqProofs (disch := omega) only [go_sem])
 refine callc (owithin_ok 0 5 [w] _ (by simp) (one_in h)) ?_
 try simp (maxSteps := 1000000) -implicitDefEqProofs (disch := omega) only [go_sem]
 repeat' (first
   | (with_reducible apply Req_intro); focus (first | omega | assumption | (simp; done))
   | with_reducible (first | apply Req_intro | refine nilT ?_ fun hn => ?_ | apply wk_draw Try_mixed | refine drawEnd (by kernel_rfl) ?_)
   | (with_reducible (first | apply condA_if | apply stepDG_ifN | apply stepDG_if | apply stepG_ifN | apply stepG_if)) <;> intro hb <;> (have hif := hb) <;> (try simp only [bo] at hif) <;> (try simp -implicitDefEqProofs (disch := omega) only [go_sem, hb]) <;> clear hb
   | simp (maxSteps := 1000000) -implicitDefEqProofs (disch := omega) only [go_sem])
 refine ret_do ?_
 rfl
theorem isStuff_ok : Ct Try.prog 37 [houseV, int 0] (.lit (.bool true)) := by
 refine fn_enter Try.func37 rfl (by decide) Try.results37 Try.ntmps37 ?_ rfl (by simp (maxSteps := 1000000) -implicitDefEqProofs (disch := omega) only [go_sem]; rfl) fun base => ?_
 · simp
 repeat' (first
   | (with_reducible apply Req_intro); focus (first | omega | assumption | (simp; done))
   | with_reducible (first | apply Req_intro | refine nilT ?_ fun hn => ?_ | apply wk_draw Try_mixed | refine drawEnd (by kernel_rfl) ?_)
   | (with_reducible (first | apply condA_if | apply stepDG_ifN | apply stepDG_if | apply stepG_ifN | apply stepG_if)) <;> intro hb <;> (have hif := hb) <;> (try simp only [bo] at hif) <;> (try simp -implicitDefEqProofs (disch := omega) only [go_sem, hb]) <;> clear hb
   | simp (maxSteps := 1000000) -implicitDefEqProofs (disch := omega) only [go_sem])
 refine callc (owithin_ok 0 0 [0] _ (by simp) (one_in (by omega))) ?_
 try simp (maxSteps := 1000000) -implicitDefEqProofs (disch := omega) only [go_sem]
 repeat' (first
   | (with_reducible apply Req_intro); focus (first | omega | assumption | (simp; done))
   | with_reducible (first | apply Req_intro | refine nilT ?_ fun hn => ?_ | apply wk_draw Try_mixed | refine drawEnd (by kernel_rfl) ?_)
   | (with_reducible (first | apply condA_if | apply stepDG_ifN | apply stepDG_if | apply stepG_ifN | apply stepG_if)) <;> intro hb <;> (have hif := hb) <;> (try simp only [bo] at hif) <;> (try simp -implicitDefEqProofs (disch := omega) only [go_sem, hb]) <;> clear hb
   | simp (maxSteps := 1000000) -implicitDefEqProofs (disch := omega) only [go_sem])
 refine ret_do ?_
 rfl
theorem isEntry_ok (x : Entry) (h : EntOkk x) : Ct Try.prog 100 [houseV, .agg (encEn x)] (.lit (.bool true)) := by
 obtain ⟨h1, h2, h3⟩ := h
 rcases h2 with h2 | h2
 · refine fn_enter Try.func100 rfl (by decide) Try.results100 Try.ntmps100 ?_ rfl (by simp (maxSteps := 1000000) -implicitDefEqProofs (disch := omega) only [go_sem]; rfl) fun base => ?_
   · simp
   repeat' (first
     | (with_reducible apply Req_intro); focus (first | omega | assumption | (simp; done))
     | with_reducible (first | apply Req_intro | refine nilT ?_ fun hn => ?_ | apply wk_draw Try_mixed | refine drawEnd (by kernel_rfl) ?_)
     | (with_reducible (first | apply condA_if | apply stepDG_ifN | apply stepDG_if | apply stepG_ifN | apply stepG_if)) <;> intro hb <;> (have hif := hb) <;> (try simp only [bo] at hif) <;> (try simp -implicitDefEqProofs (disch := omega) only [go_sem, hb, h2]) <;> clear hb
     | simp (maxSteps := 1000000) -implicitDefEqProofs (disch := omega) only [go_sem, h2])
   refine callp (isWorker_ok x.w h1) ?_
   try simp (maxSteps := 1000000) -implicitDefEqProofs (disch := omega) only [go_sem]
   repeat' (first
     | (with_reducible apply Req_intro); focus (first | omega | assumption | (simp; done))
     | with_reducible (first | apply Req_intro | refine nilT ?_ fun hn => ?_ | apply wk_draw Try_mixed | refine drawEnd (by kernel_rfl) ?_)
     | (with_reducible (first | apply condA_if | apply stepDG_ifN | apply stepDG_if | apply stepG_ifN | apply stepG_if)) <;> intro hb <;> (have hif := hb) <;> (try simp only [bo] at hif) <;> (try simp -implicitDefEqProofs (disch := omega) only [go_sem, hb, h2]) <;> clear hb
     | simp (maxSteps := 1000000) -implicitDefEqProofs (disch := omega) only [go_sem, h2])
   refine callp (isStuff_ok) ?_
   try simp (maxSteps := 1000000) -implicitDefEqProofs (disch := omega) only [go_sem]
   repeat' (first
     | (with_reducible apply Req_intro); focus (first | omega | assumption | (simp; done))
     | with_reducible (first | apply Req_intro | refine nilT ?_ fun hn => ?_ | apply wk_draw Try_mixed | refine drawEnd (by kernel_rfl) ?_)
     | (with_reducible (first | apply condA_if | apply stepDG_ifN | apply stepDG_if | apply stepG_ifN | apply stepG_if)) <;> intro hb <;> (have hif := hb) <;> (try simp only [bo] at hif) <;> (try simp -implicitDefEqProofs (disch := omega) only [go_sem, hb, h2]) <;> clear hb
     | simp (maxSteps := 1000000) -implicitDefEqProofs (disch := omega) only [go_sem, h2])
   refine ret_do ?_
   rfl
 · refine fn_enter Try.func100 rfl (by decide) Try.results100 Try.ntmps100 ?_ rfl (by simp (maxSteps := 1000000) -implicitDefEqProofs (disch := omega) only [go_sem]; rfl) fun base => ?_
   · simp
   repeat' (first
     | (with_reducible apply Req_intro); focus (first | omega | assumption | (simp; done))
     | with_reducible (first | apply Req_intro | refine nilT ?_ fun hn => ?_ | apply wk_draw Try_mixed | refine drawEnd (by kernel_rfl) ?_)
     | (with_reducible (first | apply condA_if | apply stepDG_ifN | apply stepDG_if | apply stepG_ifN | apply stepG_if)) <;> intro hb <;> (have hif := hb) <;> (try simp only [bo] at hif) <;> (try simp -implicitDefEqProofs (disch := omega) only [go_sem, hb, h2]) <;> clear hb
     | simp (maxSteps := 1000000) -implicitDefEqProofs (disch := omega) only [go_sem, h2])
   refine callp (isWorker_ok x.w h1) ?_
   try simp (maxSteps := 1000000) -implicitDefEqProofs (disch := omega) only [go_sem]
   repeat' (first
     | (with_reducible apply Req_intro); focus (first | omega | assumption | (simp; done))
     | with_reducible (first | apply Req_intro | refine nilT ?_ fun hn => ?_ | apply wk_draw Try_mixed | refine drawEnd (by kernel_rfl) ?_)
     | (with_reducible (first | apply condA_if | apply stepDG_ifN | apply stepDG_if | apply stepG_ifN | apply stepG_if)) <;> intro hb <;> (have hif := hb) <;> (try simp only [bo] at hif) <;> (try simp -implicitDefEqProofs (disch := omega) only [go_sem, hb, h2]) <;> clear hb
     | simp (maxSteps := 1000000) -implicitDefEqProofs (disch := omega) only [go_sem, h2])
   refine callp (isStuff_ok) ?_
   try simp (maxSteps := 1000000) -implicitDefEqProofs (disch := omega) only [go_sem]
   repeat' (first
     | (with_reducible apply Req_intro); focus (first | omega | assumption | (simp; done))
     | with_reducible (first | apply Req_intro | refine nilT ?_ fun hn => ?_ | apply wk_draw Try_mixed | refine drawEnd (by kernel_rfl) ?_)
     | (with_reducible (first | apply condA_if | apply stepDG_ifN | apply stepDG_if | apply stepG_ifN | apply stepG_if)) <;> intro hb <;> (have hif := hb) <;> (try simp only [bo] at hif) <;> (try simp -implicitDefEqProofs (disch := omega) only [go_sem, hb, h2]) <;> clear hb
     | simp (maxSteps := 1000000) -implicitDefEqProofs (disch := omega) only [go_sem, h2])
   refine ret_do ?_
   rfl
theorem most_ok (x : Entry) (h : EntOkk x) : Ct Try.prog 73 [.agg (encEn x)] (int 100000) := by
 obtain ⟨h1, h2, h3⟩ := h
 have h4 : ¬ x.k = 3 := by omega
 refine fn_enter Try.func73 rfl (by decide) Try.results73 Try.ntmps73 ?_ rfl (by simp (maxSteps := 1000000) -implicitDefEqProofs (disch := omega) only [go_sem]; rfl) fun base => ?_
 · simp
 repeat' (first
   | (with_reducible apply Req_intro); focus (first | omega | assumption | (simp; done))
   | with_reducible (first | apply Req_intro | refine nilT ?_ fun hn => ?_ | apply wk_draw Try_mixed | refine drawEnd (by kernel_rfl) ?_)
   | (with_reducible (first | apply condA_if | apply stepDG_ifN | apply stepDG_if | apply stepG_ifN | apply stepG_if)) <;> intro hb <;> (have hif := hb) <;> (try simp only [bo] at hif) <;> (try simp -implicitDefEqProofs (disch := omega) only [go_sem, hb]) <;> clear hb
   | simp (maxSteps := 1000000) -implicitDefEqProofs (disch := omega) only [go_sem])
 all_goals first | (exfalso; exact h4 ‹_›) | skip
 refine ret_do ?_
 rfl
theorem oplus_spec (a b : Int × Int) (h1 : -4611686018427387904 ≤ a.1 ∧ a.1 ≤ 4611686018427387903) (h2 : -4611686018427387904 ≤ a.2 ∧ a.2 ≤ 4611686018427387903) (h3 : -4611686018427387904 ≤ b.1 ∧ b.1 ≤ 4611686018427387903) (h4 : -4611686018427387904 ≤ b.2 ∧ b.2 ≤ 4611686018427387903) :
   Ct Try.prog 40 [.agg (encS a), .agg (encS b)] (.agg (encS (addSp a b))) := by
 refine ct_enterZ Try.func40 rfl (by decide) Try.results40 Try.ntmps40 ?_ rfl (by simp (maxSteps := 1000000) -implicitDefEqProofs (disch := omega) only [go_sem]; rfl) fun base => ?_
 · first | assumption | (simp only [go_sem] <;> assumption) | (simp only [go_sem, *]; done) | (simp [go_sem]; done)
 repeat' (first
   | (with_reducible apply Req_intro); focus (first | omega | assumption | (simp; done))
   | with_reducible (first | apply Req_intro | refine nilT ?_ fun hn => ?_ | apply wk_draw Try_mixed | refine drawEnd (by kernel_rfl) ?_)
   | (with_reducible (first | apply condA_if | apply stepDG_ifN | apply stepDG_if | apply stepG_ifN | apply stepG_if)) <;> intro hb <;> (have hif := hb) <;> (try simp only [bo] at hif) <;> (try simp -implicitDefEqProofs (disch := omega) only [go_sem, hb]) <;> clear hb
   | simp (maxSteps := 1000000) -implicitDefEqProofs (disch := omega) only [go_sem])
 exact retz []
theorem none_spec (n : Int) : Ct Try.prog 39 [int n] (.lit (.bool false)) := by
 refine fn_enter Try.func39 rfl (by decide) Try.results39 Try.ntmps39 ?_ rfl (by simp (maxSteps := 1000000) -implicitDefEqProofs (disch := omega) only [go_sem]; rfl) fun base => ?_
 · simp
 repeat' (first
   | (with_reducible apply Req_intro); focus (first | omega | assumption | (simp; done))
   | with_reducible (first | apply Req_intro | refine nilT ?_ fun hn => ?_ | apply wk_draw Try_mixed | refine drawEnd (by kernel_rfl) ?_)
   | (with_reducible (first | apply condA_if | apply stepDG_ifN | apply stepDG_if | apply stepG_ifN | apply stepG_if)) <;> intro hb <;> (have hif := hb) <;> (try simp only [bo] at hif) <;> (try simp -implicitDefEqProofs (disch := omega) only [go_sem, hb]) <;> clear hb
   | simp (maxSteps := 1000000) -implicitDefEqProofs (disch := omega) only [go_sem])
 refine ret_do ?_
 rfl
theorem weight_spec (bk : List Entry) (e : Bool) (c : Int) (hc : 0 ≤ c ∧ c ≤ 100000) : Ct Try.prog 74 [offV bk e, int c] (.agg (encS (c, c))) := by
 have hm : max 0 (c - 0) = c := by omega
 have hp : c + 0 = c := by omega
 refine ct_enterZ Try.func74 rfl (by decide) Try.results74 Try.ntmps74 ?_ rfl (by simp (maxSteps := 1000000) -implicitDefEqProofs (disch := omega) only [go_sem]; rfl) fun base => ?_
 · first | assumption | (simp only [go_sem] <;> assumption) | (simp only [go_sem, *]; done) | (simp [go_sem]; done)
 repeat' (first
   | (with_reducible apply Req_intro); focus (first | omega | assumption | (simp; done))
   | with_reducible (first | apply Req_intro | refine nilT ?_ fun hn => ?_ | apply wk_draw Try_mixed | refine drawEnd (by kernel_rfl) ?_)
   | (with_reducible (first | apply condA_if | apply stepDG_ifN | apply stepDG_if | apply stepG_ifN | apply stepG_if)) <;> intro hb <;> (have hif := hb) <;> (try simp only [bo] at hif) <;> (try simp -implicitDefEqProofs (disch := omega) only [go_sem, hb]) <;> clear hb
   | simp (maxSteps := 1000000) -implicitDefEqProofs (disch := omega) only [go_sem])
 all_goals first | (exfalso; omega) | omega | skip
 rw [hm, hp]
 exact retz []
end Go.Aw
end
section
set_option maxRecDepth 20000
set_option maxHeartbeats 4000000
namespace Go.Aw
open Go.RowKit Go.Proofs
theorem oCheck1_ok : Ct Try.prog 95 [.agg (encS ((0 : Int), (0 : Int)))] (.lit (.bool true)) := by
 refine fn_enter Try.func95 rfl (by decide) Try.results95 Try.ntmps95 ?_ rfl (by simp (maxSteps := 1000000) -implicitDefEqProofs (disch := omega) only [go_sem]; rfl) fun base => ?_
 · simp
 repeat' (first
   | (with_reducible apply Req_intro); focus (first | omega | assumption | (simp; done))
   | with_reducible (first | apply Req_intro | refine nilT ?_ fun hn => ?_ | apply wk_draw Try_mixed | refine drawEnd (by kernel_rfl) ?_)
   | (with_reducible (first | apply condA_if | apply stepDG_ifN | apply stepDG_if | apply stepG_ifN | apply stepG_if)) <;> intro hb <;> (have hif := hb) <;> (try simp only [bo] at hif) <;> (try simp -implicitDefEqProofs (disch := omega) only [go_sem, hb]) <;> clear hb
   | simp (maxSteps := 1000000) -implicitDefEqProofs (disch := omega) only [go_sem])
 refine callc (owithin_ok 0 1000 [0, 0] _ (by simp) (two_in (by omega) (by omega))) ?_
 try simp (maxSteps := 1000000) -implicitDefEqProofs (disch := omega) only [go_sem]
 repeat' (first
   | (with_reducible apply Req_intro); focus (first | omega | assumption | (simp; done))
   | with_reducible (first | apply Req_intro | refine nilT ?_ fun hn => ?_ | apply wk_draw Try_mixed | refine drawEnd (by kernel_rfl) ?_)
   | (with_reducible (first | apply condA_if | apply stepDG_ifN | apply stepDG_if | apply stepG_ifN | apply stepG_if)) <;> intro hb <;> (have hif := hb) <;> (try simp only [bo] at hif) <;> (try simp -implicitDefEqProofs (disch := omega) only [go_sem, hb]) <;> clear hb
   | simp (maxSteps := 1000000) -implicitDefEqProofs (disch := omega) only [go_sem])
 refine ret_do ?_
 rfl
theorem oCheck2_ok : Ct Try.prog 97 [.agg (encS ((0 : Int), (0 : Int))), .rp [.fn (.func 95) [] []]] (.lit (.bool false)) := by
 refine fn_enter Try.func97 rfl (by decide) Try.results97 Try.ntmps97 ?_ rfl (by simp (maxSteps := 1000000) -implicitDefEqProofs (disch := omega) only [go_sem]; rfl) fun base => ?_
 · simp
 repeat' (first
   | (with_reducible apply Req_intro); focus (first | omega | assumption | (simp; done))
   | with_reducible (first | apply Req_intro | refine nilT ?_ fun hn => ?_ | apply wk_draw Try_mixed | refine drawEnd (by kernel_rfl) ?_)
   | (with_reducible (first | apply condA_if | apply stepDG_ifN | apply stepDG_if | apply stepG_ifN | apply stepG_if)) <;> intro hb <;> (have hif := hb) <;> (try simp only [bo] at hif) <;> (try simp -implicitDefEqProofs (disch := omega) only [go_sem, hb]) <;> clear hb
   | simp (maxSteps := 1000000) -implicitDefEqProofs (disch := omega) only [go_sem])
 refine callp (oCheck1_ok) ?_
 try simp (maxSteps := 1000000) -implicitDefEqProofs (disch := omega) only [go_sem]
 repeat' (first
   | (with_reducible apply Req_intro); focus (first | omega | assumption | (simp; done))
   | with_reducible (first | apply Req_intro | refine nilT ?_ fun hn => ?_ | apply wk_draw Try_mixed | refine drawEnd (by kernel_rfl) ?_)
   | (with_reducible (first | apply condA_if | apply stepDG_ifN | apply stepDG_if | apply stepG_ifN | apply stepG_if)) <;> intro hb <;> (have hif := hb) <;> (try simp only [bo] at hif) <;> (try simp -implicitDefEqProofs (disch := omega) only [go_sem, hb]) <;> clear hb
   | simp (maxSteps := 1000000) -implicitDefEqProofs (disch := omega) only [go_sem])
 refine ret_do ?_
 rfl
theorem oCheck3_ok (x : Entry) (h : EntOkk x) : Ct Try.prog 99 [.agg (encEn x), .rp houseC] (.lit (.bool false)) := by
 refine fn_enter Try.func99 rfl (by decide) Try.results99 Try.ntmps99 ?_ rfl (by simp (maxSteps := 1000000) -implicitDefEqProofs (disch := omega) only [go_sem]; rfl) fun base => ?_
 · simp
 repeat' (first
   | (with_reducible apply Req_intro); focus (first | omega | assumption | (simp; done))
   | with_reducible (first | apply Req_intro | refine nilT ?_ fun hn => ?_ | apply wk_draw Try_mixed | refine drawEnd (by kernel_rfl) ?_)
   | (with_reducible (first | apply condA_if | apply stepDG_ifN | apply stepDG_if | apply stepG_ifN | apply stepG_if)) <;> intro hb <;> (have hif := hb) <;> (try simp only [bo] at hif) <;> (try simp -implicitDefEqProofs (disch := omega) only [go_sem, hb]) <;> clear hb
   | simp (maxSteps := 1000000) -implicitDefEqProofs (disch := omega) only [go_sem])
 refine callp (isEntry_ok x h) ?_
 try simp (maxSteps := 1000000) -implicitDefEqProofs (disch := omega) only [go_sem]
 repeat' (first
   | (with_reducible apply Req_intro); focus (first | omega | assumption | (simp; done))
   | with_reducible (first | apply Req_intro | refine nilT ?_ fun hn => ?_ | apply wk_draw Try_mixed | refine drawEnd (by kernel_rfl) ?_)
   | (with_reducible (first | apply condA_if | apply stepDG_ifN | apply stepDG_if | apply stepG_ifN | apply stepG_if)) <;> intro hb <;> (have hif := hb) <;> (try simp only [bo] at hif) <;> (try simp -implicitDefEqProofs (disch := omega) only [go_sem, hb]) <;> clear hb
   | simp (maxSteps := 1000000) -implicitDefEqProofs (disch := omega) only [go_sem])
 refine ret_do ?_
 rfl
theorem oCheck4_ok (x : Entry) (h : EntOkk x) : Ct Try.prog 101 [.agg (encEn x)] (.lit (.bool false)) := by
 refine fn_enter Try.func101 rfl (by decide) Try.results101 Try.ntmps101 ?_ rfl (by simp (maxSteps := 1000000) -implicitDefEqProofs (disch := omega) only [go_sem]; rfl) fun base => ?_
 · simp
 repeat' (first
   | (with_reducible apply Req_intro); focus (first | omega | assumption | (simp; done))
   | with_reducible (first | apply Req_intro | refine nilT ?_ fun hn => ?_ | apply wk_draw Try_mixed | refine drawEnd (by kernel_rfl) ?_)
   | (with_reducible (first | apply condA_if | apply stepDG_ifN | apply stepDG_if | apply stepG_ifN | apply stepG_if)) <;> intro hb <;> (have hif := hb) <;> (try simp only [bo] at hif) <;> (try simp -implicitDefEqProofs (disch := omega) only [go_sem, hb]) <;> clear hb
   | simp (maxSteps := 1000000) -implicitDefEqProofs (disch := omega) only [go_sem])
 refine calld (most_ok x h) ?_
 try simp (maxSteps := 1000000) -implicitDefEqProofs (disch := omega) only [go_sem]
 repeat' (first
   | (with_reducible apply Req_intro); focus (first | omega | assumption | (simp; done))
   | with_reducible (first | apply Req_intro | refine nilT ?_ fun hn => ?_ | apply wk_draw Try_mixed | refine drawEnd (by kernel_rfl) ?_)
   | (with_reducible (first | apply condA_if | apply stepDG_ifN | apply stepDG_if | apply stepG_ifN | apply stepG_if)) <;> intro hb <;> (have hif := hb) <;> (try simp only [bo] at hif) <;> (try simp -implicitDefEqProofs (disch := omega) only [go_sem, hb]) <;> clear hb
   | simp (maxSteps := 1000000) -implicitDefEqProofs (disch := omega) only [go_sem])
 refine calldf 384 (owithin_ok 0 100000 [x.c] _ (by simp) (one_in h.c)) ?_
 try simp (maxSteps := 1000000) -implicitDefEqProofs (disch := omega) only [go_sem]
 repeat' (first
   | (with_reducible apply Req_intro); focus (first | omega | assumption | (simp; done))
   | with_reducible (first | apply Req_intro | refine nilT ?_ fun hn => ?_ | apply wk_draw Try_mixed | refine drawEnd (by kernel_rfl) ?_)
   | (with_reducible (first | apply condA_if | apply stepDG_ifN | apply stepDG_if | apply stepG_ifN | apply stepG_if)) <;> intro hb <;> (have hif := hb) <;> (try simp only [bo] at hif) <;> (try simp -implicitDefEqProofs (disch := omega) only [go_sem, hb]) <;> clear hb
   | simp (maxSteps := 1000000) -implicitDefEqProofs (disch := omega) only [go_sem])
 refine ret_do ?_
 rfl
theorem cSpan_no (e : Bool) : Ct Try.prog 96 [.sl 2 ([((0 : Int), (0 : Int))].map encS) e, .fn (.func 97) [] [.rp [.fn (.func 95) [] []]]] (.lit (.bool false)) :=
 ContainsFunc_Span [((0 : Int), (0 : Int))] e (fun _ => false) 97 [.rp [.fn (.func 95) [] []]] (by simp) (by first | assumption | (simp only [go_sem] <;> assumption) | (simp only [go_sem, *]; done) | (simp [go_sem]; done)) (fun s hs => by rw [List.mem_singleton] at hs; subst hs; exact oCheck2_ok)
theorem cEn3_no (bk : List Entry) (e : Bool) (h : ∀ x ∈ bk, EntOkk x) (h12 : bk.length ≤ 12) : Ct Try.prog 98 [.sl 4 (bk.map encEn) e, .fn (.func 99) [] [.rp houseC]] (.lit (.bool false)) := by
 have := ContainsFunc_En bk e (fun _ => false) 99 [.rp houseC] (by omega) (by first | assumption | (simp only [go_sem] <;> assumption) | (simp only [go_sem, *]; done) | (simp [go_sem]; done)) (fun s hs => oCheck3_ok s (h s hs))
 rwa [show bk.any (fun _ => false) = false by simp] at this
theorem cEn4_no (bk : List Entry) (e : Bool) (h : ∀ x ∈ bk, EntOkk x) (h12 : bk.length ≤ 12) : Ct Try.prog 98 [.sl 4 (bk.map encEn) e, .fn (.func 101) [] []] (.lit (.bool false)) := by
 have := ContainsFunc_En bk e (fun _ => false) 101 [] (by omega) (by first | assumption | (simp only [go_sem] <;> assumption) | (simp only [go_sem, *]; done) | (simp [go_sem]; done)) (fun s hs => oCheck4_ok s (h s hs))
 rwa [show bk.any (fun _ => false) = false by simp] at this
theorem oCheck_ok (bk : List Entry) (e : Bool) (h : ∀ x ∈ bk, EntOkk x) (h12 : bk.length ≤ 12) : Ct Try.prog 70 [houseV, .sl 4 (bk.map encEn) e] (int 0) := by
 refine fn_enter Try.func70 rfl (by decide) Try.results70 Try.ntmps70 ?_ rfl (by simp (maxSteps := 1000000) -implicitDefEqProofs (disch := omega) only [go_sem]; rfl) fun base => ?_
 · simp
 repeat' (first
   | (with_reducible apply Req_intro); focus (first | omega | assumption | (simp; done))
   | with_reducible (first | apply Req_intro | refine nilT ?_ fun hn => ?_ | apply wk_draw Try_mixed | refine drawEnd (by kernel_rfl) ?_)
   | (with_reducible (first | apply condA_if | apply stepDG_ifN | apply stepDG_if | apply stepG_ifN | apply stepG_if)) <;> intro hb <;> (have hif := hb) <;> (try simp only [bo] at hif) <;> (try simp -implicitDefEqProofs (disch := omega) only [go_sem, hb]) <;> clear hb
   | simp (maxSteps := 1000000) -implicitDefEqProofs (disch := omega) only [go_sem])
 refine calldf 384 (owithin_ok 0 100 [0] _ (by simp) (one_in (by omega))) ?_
 try simp (maxSteps := 1000000) -implicitDefEqProofs (disch := omega) only [go_sem]
 repeat' (first
   | (with_reducible apply Req_intro); focus (first | omega | assumption | (simp; done))
   | with_reducible (first | apply Req_intro | refine nilT ?_ fun hn => ?_ | apply wk_draw Try_mixed | refine drawEnd (by kernel_rfl) ?_)
   | (with_reducible (first | apply condA_if | apply stepDG_ifN | apply stepDG_if | apply stepG_ifN | apply stepG_if)) <;> intro hb <;> (have hif := hb) <;> (try simp only [bo] at hif) <;> (try simp -implicitDefEqProofs (disch := omega) only [go_sem, hb]) <;> clear hb
   | simp (maxSteps := 1000000) -implicitDefEqProofs (disch := omega) only [go_sem])
 refine calldf 768 (owithin_ok 1 4 [((1 : Nat) : Int)] _ (by simp) (one_in (by omega))) ?_
 try simp (maxSteps := 1000000) -implicitDefEqProofs (disch := omega) only [go_sem]
 repeat' (first
   | (with_reducible apply Req_intro); focus (first | omega | assumption | (simp; done))
   | with_reducible (first | apply Req_intro | refine nilT ?_ fun hn => ?_ | apply wk_draw Try_mixed | refine drawEnd (by kernel_rfl) ?_)
   | (with_reducible (first | apply condA_if | apply stepDG_ifN | apply stepDG_if | apply stepG_ifN | apply stepG_if)) <;> intro hb <;> (have hif := hb) <;> (try simp only [bo] at hif) <;> (try simp -implicitDefEqProofs (disch := omega) only [go_sem, hb]) <;> clear hb
   | simp (maxSteps := 1000000) -implicitDefEqProofs (disch := omega) only [go_sem])
 all_goals first | (exfalso; omega) | omega | skip
 refine calldr 128 (cSpan_no _) ?_
 try simp (maxSteps := 1000000) -implicitDefEqProofs (disch := omega) only [go_sem]
 repeat' (first
   | (with_reducible apply Req_intro); focus (first | omega | assumption | (simp; done))
   | with_reducible (first | apply Req_intro | refine nilT ?_ fun hn => ?_ | apply wk_draw Try_mixed | refine drawEnd (by kernel_rfl) ?_)
   | (with_reducible (first | apply condA_if | apply stepDG_ifN | apply stepDG_if | apply stepG_ifN | apply stepG_if)) <;> intro hb <;> (have hif := hb) <;> (try simp only [bo] at hif) <;> (try simp -implicitDefEqProofs (disch := omega) only [go_sem, hb]) <;> clear hb
   | simp (maxSteps := 1000000) -implicitDefEqProofs (disch := omega) only [go_sem])
 refine calld (owithin_ok 0 1000 [0] _ (by simp) (one_in (by omega))) ?_
 try simp (maxSteps := 1000000) -implicitDefEqProofs (disch := omega) only [go_sem]
 repeat' (first
   | (with_reducible apply Req_intro); focus (first | omega | assumption | (simp; done))
   | with_reducible (first | apply Req_intro | refine nilT ?_ fun hn => ?_ | apply wk_draw Try_mixed | refine drawEnd (by kernel_rfl) ?_)
   | (with_reducible (first | apply condA_if | apply stepDG_ifN | apply stepDG_if | apply stepG_ifN | apply stepG_if)) <;> intro hb <;> (have hif := hb) <;> (try simp only [bo] at hif) <;> (try simp -implicitDefEqProofs (disch := omega) only [go_sem, hb]) <;> clear hb
   | simp (maxSteps := 1000000) -implicitDefEqProofs (disch := omega) only [go_sem])
 all_goals first | (exfalso; omega) | omega | skip
 refine calldr 0 (cEn3_no bk _ h h12) ?_
 try simp (maxSteps := 1000000) -implicitDefEqProofs (disch := omega) only [go_sem]
 repeat' (first
   | (with_reducible apply Req_intro); focus (first | omega | assumption | (simp; done))
   | with_reducible (first | apply Req_intro | refine nilT ?_ fun hn => ?_ | apply wk_draw Try_mixed | refine drawEnd (by kernel_rfl) ?_)
   | (with_reducible (first | apply condA_if | apply stepDG_ifN | apply stepDG_if | apply stepG_ifN | apply stepG_if)) <;> intro hb <;> (have hif := hb) <;> (try simp only [bo] at hif) <;> (try simp -implicitDefEqProofs (disch := omega) only [go_sem, hb]) <;> clear hb
   | simp (maxSteps := 1000000) -implicitDefEqProofs (disch := omega) only [go_sem])
 refine calld (cEn4_no bk _ h h12) ?_
 try simp (maxSteps := 1000000) -implicitDefEqProofs (disch := omega) only [go_sem]
 repeat' (first
   | (with_reducible apply Req_intro); focus (first | omega | assumption | (simp; done))
   | with_reducible (first | apply Req_intro | refine nilT ?_ fun hn => ?_ | apply wk_draw Try_mixed | refine drawEnd (by kernel_rfl) ?_)
   | (with_reducible (first | apply condA_if | apply stepDG_ifN | apply stepDG_if | apply stepG_ifN | apply stepG_if)) <;> intro hb <;> (have hif := hb) <;> (try simp only [bo] at hif) <;> (try simp -implicitDefEqProofs (disch := omega) only [go_sem, hb]) <;> clear hb
   | simp (maxSteps := 1000000) -implicitDefEqProofs (disch := omega) only [go_sem])
 all_goals first | (exfalso; omega) | omega | skip
 refine loop_rows (α := Nat) [4, 7, 53, 54, 55, 56, 57, 58, 59, 60, 61] (fun i => [(53, .lit (.int .i64 i))]) (fun _ => []) (fun i => i ≤ 6) (fun i => 6 - i) 0 (fun x => by simp (maxSteps := 1000000) -implicitDefEqProofs (disch := omega) only [go_sem]; rfl) ?_ ?_ fun x hx => ?_
 · exact weak_do3 []
 · exact Nat.zero_le _
 by_cases hlt : x < 6
 · obtain rfl | rfl | rfl | rfl | rfl | rfl : x = 0 ∨ x = 1 ∨ x = 2 ∨ x = 3 ∨ x = 4 ∨ x = 5 := by omega
   · repeat' (first
       | (with_reducible apply Req_intro); focus (first | omega | assumption | (simp; done))
       | with_reducible (first | apply Req_intro | refine nilT ?_ fun hn => ?_ | apply wk_draw Try_mixed | refine drawEnd (by kernel_rfl) ?_)
       | (with_reducible (first | apply condA_if | apply stepDG_ifN | apply stepDG_if | apply stepG_ifN | apply stepG_if)) <;> intro hb <;> (have hif := hb) <;> (try simp only [bo] at hif) <;> (try simp -implicitDefEqProofs (disch := omega) only [go_sem, hb]) <;> clear hb
       | simp (maxSteps := 1000000) -implicitDefEqProofs (disch := omega) only [go_sem])
     all_goals first | (exfalso; omega) | omega | skip
     with_reducible refine nxt_w (0 + 1) ?_ ?_
     · (try dsimp only)
       skip
       exact weak_do3 []
     try dsimp only
     omega
   · repeat' (first
       | (with_reducible apply Req_intro); focus (first | omega | assumption | (simp; done))
       | with_reducible (first | apply Req_intro | refine nilT ?_ fun hn => ?_ | apply wk_draw Try_mixed | refine drawEnd (by kernel_rfl) ?_)
       | (with_reducible (first | apply condA_if | apply stepDG_ifN | apply stepDG_if | apply stepG_ifN | apply stepG_if)) <;> intro hb <;> (have hif := hb) <;> (try simp only [bo] at hif) <;> (try simp -implicitDefEqProofs (disch := omega) only [go_sem, hb]) <;> clear hb
       | simp (maxSteps := 1000000) -implicitDefEqProofs (disch := omega) only [go_sem])
     all_goals first | (exfalso; omega) | omega | skip
     with_reducible refine nxt_w (1 + 1) ?_ ?_
     · (try dsimp only)
       skip
       exact weak_do3 []
     try dsimp only
     omega
   · repeat' (first
       | (with_reducible apply Req_intro); focus (first | omega | assumption | (simp; done))
       | with_reducible (first | apply Req_intro | refine nilT ?_ fun hn => ?_ | apply wk_draw Try_mixed | refine drawEnd (by kernel_rfl) ?_)
       | (with_reducible (first | apply condA_if | apply stepDG_ifN | apply stepDG_if | apply stepG_ifN | apply stepG_if)) <;> intro hb <;> (have hif := hb) <;> (try simp only [bo] at hif) <;> (try simp -implicitDefEqProofs (disch := omega) only [go_sem, hb]) <;> clear hb
       | simp (maxSteps := 1000000) -implicitDefEqProofs (disch := omega) only [go_sem])
     all_goals first | (exfalso; omega) | omega | skip
     with_reducible refine nxt_w (2 + 1) ?_ ?_
     · (try dsimp only)
       skip
       exact weak_do3 []
     try dsimp only
     omega
   · repeat' (first
       | (with_reducible apply Req_intro); focus (first | omega | assumption | (simp; done))
       | with_reducible (first | apply Req_intro | refine nilT ?_ fun hn => ?_ | apply wk_draw Try_mixed | refine drawEnd (by kernel_rfl) ?_)
       | (with_reducible (first | apply condA_if | apply stepDG_ifN | apply stepDG_if | apply stepG_ifN | apply stepG_if)) <;> intro hb <;> (have hif := hb) <;> (try simp only [bo] at hif) <;> (try simp -implicitDefEqProofs (disch := omega) only [go_sem, hb]) <;> clear hb
       | simp (maxSteps := 1000000) -implicitDefEqProofs (disch := omega) only [go_sem])
     all_goals first | (exfalso; omega) | omega | skip
     with_reducible refine nxt_w (3 + 1) ?_ ?_
     · (try dsimp only)
       skip
       exact weak_do3 []
     try dsimp only
     omega
   · repeat' (first
       | (with_reducible apply Req_intro); focus (first | omega | assumption | (simp; done))
       | with_reducible (first | apply Req_intro | refine nilT ?_ fun hn => ?_ | apply wk_draw Try_mixed | refine drawEnd (by kernel_rfl) ?_)
       | (with_reducible (first | apply condA_if | apply stepDG_ifN | apply stepDG_if | apply stepG_ifN | apply stepG_if)) <;> intro hb <;> (have hif := hb) <;> (try simp only [bo] at hif) <;> (try simp -implicitDefEqProofs (disch := omega) only [go_sem, hb]) <;> clear hb
       | simp (maxSteps := 1000000) -implicitDefEqProofs (disch := omega) only [go_sem])
     all_goals first | (exfalso; omega) | omega | skip
     with_reducible refine nxt_w (4 + 1) ?_ ?_
     · (try dsimp only)
       skip
       exact weak_do3 []
     try dsimp only
     omega
   · repeat' (first
       | (with_reducible apply Req_intro); focus (first | omega | assumption | (simp; done))
       | with_reducible (first | apply Req_intro | refine nilT ?_ fun hn => ?_ | apply wk_draw Try_mixed | refine drawEnd (by kernel_rfl) ?_)
       | (with_reducible (first | apply condA_if | apply stepDG_ifN | apply stepDG_if | apply stepG_ifN | apply stepG_if)) <;> intro hb <;> (have hif := hb) <;> (try simp only [bo] at hif) <;> (try simp -implicitDefEqProofs (disch := omega) only [go_sem, hb]) <;> clear hb
       | simp (maxSteps := 1000000) -implicitDefEqProofs (disch := omega) only [go_sem])
     all_goals first | (exfalso; omega) | omega | skip
     with_reducible refine nxt_w (5 + 1) ?_ ?_
     · (try dsimp only)
       skip
       exact weak_do3 []
     try dsimp only
     omega
 · repeat' (first
     | (with_reducible apply Req_intro); focus (first | omega | assumption | (simp; done))
     | with_reducible (first | apply Req_intro | refine nilT ?_ fun hn => ?_ | apply wk_draw Try_mixed | refine drawEnd (by kernel_rfl) ?_)
     | (with_reducible (first | apply condA_if | apply stepDG_ifN | apply stepDG_if | apply stepG_ifN | apply stepG_if)) <;> intro hb <;> (have hif := hb) <;> (try simp only [bo] at hif) <;> (try simp -implicitDefEqProofs (disch := omega) only [go_sem, hb]) <;> clear hb
     | simp (maxSteps := 1000000) -implicitDefEqProofs (disch := omega) only [go_sem])
   all_goals first | (exfalso; omega) | omega | skip
   refine ret_do ?_
   rfl
def kS (k : Int) (bk : List Entry) (w : Int) : Nat → Int
 | 0 => 0
 | i + 1 => if (bk.getD i default).w = w ∧ (bk.getD i default).k = k then kS k bk w i + (bk.getD i default).c else kS k bk w i
theorem kS_bd {k : Int} {bk : List Entry} {w : Int} (h : ∀ x ∈ bk, EntOkk x) : ∀ i : Nat, i ≤ bk.length → 0 ≤ kS k bk w i ∧ kS k bk w i ≤ 100000 * i
 | 0, _ => by simp [kS]
 | i + 1, hi => by
   have ih := kS_bd (k := k) (w := w) h i (by omega)
   have hc := (h _ (getD_mem (l := bk) (i := i) (by omega))).c
   rw [kS]
   split <;> omega
theorem kS_yes {k : Int} {bk : List Entry} {w : Int} {i : Nat} (h1 : (bk.getD i default).w = w) (h2 : (bk.getD i default).k = k) : kS k bk w (i + 1) = kS k bk w i + (bk.getD i default).c := by rw [kS, if_pos ⟨h1, h2⟩]
theorem kS_no {k : Int} {bk : List Entry} {w : Int} {i : Nat} (h : (bk.getD i default).w ≠ w ∨ (bk.getD i default).k ≠ k) : kS k bk w (i + 1) = kS k bk w i := by
 rw [kS, if_neg]
 rintro ⟨h1, h2⟩
 rcases h with h | h
 · exact h h1
 · exact h h2
def accC (o b : Int) : List V := [int o, int o, int b, int b, int 0, int 0, int 0]
@[go_sem] theorem accC_eq (o b : Int) : accC o b = [int o, int o, int b, int b, int 0, int 0, int 0] := rfl
def accV (o b : Int) : V := .agg (accC o b)
@[go_sem] theorem accV_eq (o b : Int) : accV o b = .agg [int o, int o, int b, int b, int 0, int 0, int 0] := rfl
def noneV : V := .fn (.func 39) [] []
@[go_sem] theorem noneV_eq : noneV = .fn (.func 39) [] [] := rfl
theorem account_spec (bk : List Entry) (e : Bool) (h : ∀ x ∈ bk, EntOkk x) (h12 : bk.length ≤ 12) (w : Int) : Ct Try.prog 38 [offV bk e, int w, int 0, noneV] (accV (kS 1 bk w bk.length) (kS 2 bk w bk.length)) := by
 refine ct_enterZ Try.func38 rfl (by decide) Try.results38 Try.ntmps38 ?_ rfl (by simp (maxSteps := 1000000) -implicitDefEqProofs (disch := omega) only [go_sem]; rfl) fun base => ?_
 · first | assumption | (simp only [go_sem] <;> assumption) | (simp only [go_sem, *]; done) | (simp [go_sem]; done)
 repeat' (first
   | (with_reducible apply Req_intro); focus (first | omega | assumption | (simp; done))
   | with_reducible (first | apply Req_intro | refine nilT ?_ fun hn => ?_ | apply wk_draw Try_mixed | refine drawEnd (by kernel_rfl) ?_)
   | (with_reducible (first | apply condA_if | apply stepDG_ifN | apply stepDG_if | apply stepG_ifN | apply stepG_if)) <;> intro hb <;> (have hif := hb) <;> (try simp only [bo] at hif) <;> (try simp -implicitDefEqProofs (disch := omega) only [go_sem, hb]) <;> clear hb
   | simp (maxSteps := 1000000) -implicitDefEqProofs (disch := omega) only [go_sem])
 refine loop_rows (α := Nat) [10, 11, 12, 23, 24, 25, 26, 27, 28, 29, 30, 31, 32, 33, 34, 35, 36, 37, 38, 39, 40, 41, 42, 43, 44, 45, 46, 47, 48, 49, 50, 51, 52, 53, 54, 55, 56, 57, 58, 59, 60, 61, 62, 63, 64, 65, 66, 67, 68, 69, 70, 71, 72, 73, 74, 75, 76, 77, 78, 79, 80, 81, 82, 83, 84, 85, 86, 87, 88, 89, 90, 91, 92, 93, 94, 95, 96, 97, 98, 99, 100, 101, 102, 103, 104, 105, 106, 107, 108, 109, 110, 111, 112] (fun i => [(23, .lit (.int .i64 i))]) (fun i => [(0, some ⟨4, [offC bk e], 115, .wr⟩), (64, some ⟨7, [accC 0 0], 120, .wr⟩), (576, some ⟨7, [accC (kS 1 bk w i) (kS 2 bk w i)], 120, .wr⟩)]) (fun i => i ≤ bk.length) (fun i => bk.length - i) 0 (fun x => by simp (maxSteps := 1000000) -implicitDefEqProofs (disch := omega) only [go_sem]; rfl) ?_ ?_ fun x hx => ?_
 · exact weak_do3 []
 · exact Nat.zero_le _
 by_cases hlt : x < bk.length
 · have hx := h _ (getD_mem hlt)
   have hc := hx.c
   have b1 := kS_bd (k := 1) (w := w) h x (by omega)
   have b2 := kS_bd (k := 2) (w := w) h x (by omega)
   repeat' (first
     | (with_reducible apply Req_intro); focus (first | omega | assumption | (simp; done))
     | with_reducible (first | apply Req_intro | refine nilT ?_ fun hn => ?_ | apply wk_draw Try_mixed | refine drawEnd (by kernel_rfl) ?_)
     | (with_reducible (first | apply condA_if | apply stepDG_ifN | apply stepDG_if | apply stepG_ifN | apply stepG_if)) <;> intro hb <;> (have hif := hb) <;> (try simp only [bo] at hif) <;> (try simp -implicitDefEqProofs (disch := omega) only [go_sem, hb]) <;> clear hb
     | simp (maxSteps := 1000000) -implicitDefEqProofs (disch := omega) only [go_sem])
   all_goals first | (exfalso; omega) | omega | skip
   refine callp (none_spec x) ?_
   try simp (maxSteps := 1000000) -implicitDefEqProofs (disch := omega) only [go_sem]
   by_cases hw : (bk.getD x default).w = w
   · rcases hx.k with hk | hk
     · repeat' (first
         | (with_reducible apply Req_intro); focus (first | omega | assumption | (simp; done))
         | with_reducible (first | apply Req_intro | refine nilT ?_ fun hn => ?_ | apply wk_draw Try_mixed | refine drawEnd (by kernel_rfl) ?_)
         | (with_reducible (first | apply condA_if | apply stepDG_ifN | apply stepDG_if | apply stepG_ifN | apply stepG_if)) <;> intro hb <;> (have hif := hb) <;> (try simp only [bo] at hif) <;> (try simp -implicitDefEqProofs (disch := omega) only [go_sem, hb, hw, hk]) <;> clear hb
         | simp (maxSteps := 1000000) -implicitDefEqProofs (disch := omega) only [go_sem, hw, hk])
       all_goals first | (exfalso; omega) | omega | skip
       refine calld (weight_spec bk e (bk.getD x default).c hc) ?_
       try simp (maxSteps := 1000000) -implicitDefEqProofs (disch := omega) only [go_sem]
       repeat' (first
         | (with_reducible apply Req_intro); focus (first | omega | assumption | (simp; done))
         | with_reducible (first | apply Req_intro | refine nilT ?_ fun hn => ?_ | apply wk_draw Try_mixed | refine drawEnd (by kernel_rfl) ?_)
         | (with_reducible (first | apply condA_if | apply stepDG_ifN | apply stepDG_if | apply stepG_ifN | apply stepG_if)) <;> intro hb <;> (have hif := hb) <;> (try simp only [bo] at hif) <;> (try simp -implicitDefEqProofs (disch := omega) only [go_sem, hb]) <;> clear hb
         | simp (maxSteps := 1000000) -implicitDefEqProofs (disch := omega) only [go_sem])
       refine calld (weight_spec bk e (bk.getD x default).c hc) ?_
       try simp (maxSteps := 1000000) -implicitDefEqProofs (disch := omega) only [go_sem]
       repeat' (first
         | (with_reducible apply Req_intro); focus (first | omega | assumption | (simp; done))
         | with_reducible (first | apply Req_intro | refine nilT ?_ fun hn => ?_ | apply wk_draw Try_mixed | refine drawEnd (by kernel_rfl) ?_)
         | (with_reducible (first | apply condA_if | apply stepDG_ifN | apply stepDG_if | apply stepG_ifN | apply stepG_if)) <;> intro hb <;> (have hif := hb) <;> (try simp only [bo] at hif) <;> (try simp -implicitDefEqProofs (disch := omega) only [go_sem, hb]) <;> clear hb
         | simp (maxSteps := 1000000) -implicitDefEqProofs (disch := omega) only [go_sem])
       all_goals first | (exfalso; omega) | omega | skip
       refine calld (oplus_spec (kS 1 bk w x, kS 1 bk w x) ((bk.getD x default).c, (bk.getD x default).c) (by simp only; omega) (by simp only; omega) (by simp only; omega) (by simp only; omega)) ?_
       try simp (maxSteps := 1000000) -implicitDefEqProofs (disch := omega) only [go_sem]
       repeat' (first
         | (with_reducible apply Req_intro); focus (first | omega | assumption | (simp; done))
         | with_reducible (first | apply Req_intro | refine nilT ?_ fun hn => ?_ | apply wk_draw Try_mixed | refine drawEnd (by kernel_rfl) ?_)
         | (with_reducible (first | apply condA_if | apply stepDG_ifN | apply stepDG_if | apply stepG_ifN | apply stepG_if)) <;> intro hb <;> (have hif := hb) <;> (try simp only [bo] at hif) <;> (try simp -implicitDefEqProofs (disch := omega) only [go_sem, hb]) <;> clear hb
         | simp (maxSteps := 1000000) -implicitDefEqProofs (disch := omega) only [go_sem])
       all_goals first | (exfalso; omega) | omega | skip
       with_reducible refine nxt_w (x + 1) ?_ ?_
       · (try dsimp only)
         rw [kS_yes hw hk, kS_no (k := 2) (.inr (by rw [hk]; decide))]
         exact weak_do3 []
       try dsimp only
       omega
     · repeat' (first
         | (with_reducible apply Req_intro); focus (first | omega | assumption | (simp; done))
         | with_reducible (first | apply Req_intro | refine nilT ?_ fun hn => ?_ | apply wk_draw Try_mixed | refine drawEnd (by kernel_rfl) ?_)
         | (with_reducible (first | apply condA_if | apply stepDG_ifN | apply stepDG_if | apply stepG_ifN | apply stepG_if)) <;> intro hb <;> (have hif := hb) <;> (try simp only [bo] at hif) <;> (try simp -implicitDefEqProofs (disch := omega) only [go_sem, hb, hw, hk]) <;> clear hb
         | simp (maxSteps := 1000000) -implicitDefEqProofs (disch := omega) only [go_sem, hw, hk])
       all_goals first | (exfalso; omega) | omega | skip
       refine calld (weight_spec bk e (bk.getD x default).c hc) ?_
       try simp (maxSteps := 1000000) -implicitDefEqProofs (disch := omega) only [go_sem]
       repeat' (first
         | (with_reducible apply Req_intro); focus (first | omega | assumption | (simp; done))
         | with_reducible (first | apply Req_intro | refine nilT ?_ fun hn => ?_ | apply wk_draw Try_mixed | refine drawEnd (by kernel_rfl) ?_)
         | (with_reducible (first | apply condA_if | apply stepDG_ifN | apply stepDG_if | apply stepG_ifN | apply stepG_if)) <;> intro hb <;> (have hif := hb) <;> (try simp only [bo] at hif) <;> (try simp -implicitDefEqProofs (disch := omega) only [go_sem, hb]) <;> clear hb
         | simp (maxSteps := 1000000) -implicitDefEqProofs (disch := omega) only [go_sem])
       refine calld (weight_spec bk e (bk.getD x default).c hc) ?_
       try simp (maxSteps := 1000000) -implicitDefEqProofs (disch := omega) only [go_sem]
       repeat' (first
         | (with_reducible apply Req_intro); focus (first | omega | assumption | (simp; done))
         | with_reducible (first | apply Req_intro | refine nilT ?_ fun hn => ?_ | apply wk_draw Try_mixed | refine drawEnd (by kernel_rfl) ?_)
         | (with_reducible (first | apply condA_if | apply stepDG_ifN | apply stepDG_if | apply stepG_ifN | apply stepG_if)) <;> intro hb <;> (have hif := hb) <;> (try simp only [bo] at hif) <;> (try simp -implicitDefEqProofs (disch := omega) only [go_sem, hb]) <;> clear hb
         | simp (maxSteps := 1000000) -implicitDefEqProofs (disch := omega) only [go_sem])
       all_goals first | (exfalso; omega) | omega | skip
       refine calld (oplus_spec (kS 2 bk w x, kS 2 bk w x) ((bk.getD x default).c, (bk.getD x default).c) (by simp only; omega) (by simp only; omega) (by simp only; omega) (by simp only; omega)) ?_
       try simp (maxSteps := 1000000) -implicitDefEqProofs (disch := omega) only [go_sem]
       repeat' (first
         | (with_reducible apply Req_intro); focus (first | omega | assumption | (simp; done))
         | with_reducible (first | apply Req_intro | refine nilT ?_ fun hn => ?_ | apply wk_draw Try_mixed | refine drawEnd (by kernel_rfl) ?_)
         | (with_reducible (first | apply condA_if | apply stepDG_ifN | apply stepDG_if | apply stepG_ifN | apply stepG_if)) <;> intro hb <;> (have hif := hb) <;> (try simp only [bo] at hif) <;> (try simp -implicitDefEqProofs (disch := omega) only [go_sem, hb]) <;> clear hb
         | simp (maxSteps := 1000000) -implicitDefEqProofs (disch := omega) only [go_sem])
       all_goals first | (exfalso; omega) | omega | skip
       with_reducible refine nxt_w (x + 1) ?_ ?_
       · (try dsimp only)
         rw [kS_yes hw hk, kS_no (k := 1) (.inr (by rw [hk]; decide))]
         exact weak_do3 []
       try dsimp only
       omega
   · repeat' (first
       | (with_reducible apply Req_intro); focus (first | omega | assumption | (simp; done))
       | with_reducible (first | apply Req_intro | refine nilT ?_ fun hn => ?_ | apply wk_draw Try_mixed | refine drawEnd (by kernel_rfl) ?_)
       | (with_reducible (first | apply condA_if | apply stepDG_ifN | apply stepDG_if | apply stepG_ifN | apply stepG_if)) <;> intro hb <;> (have hif := hb) <;> (try simp only [bo] at hif) <;> (try simp -implicitDefEqProofs (disch := omega) only [go_sem, hb]) <;> clear hb
       | simp (maxSteps := 1000000) -implicitDefEqProofs (disch := omega) only [go_sem])
     all_goals first | (exfalso; omega) | omega | skip
     with_reducible refine nxt_w (x + 1) ?_ ?_
     · (try dsimp only)
       rw [kS_no (.inl hw), kS_no (.inl hw)]
       exact weak_do3 []
     try dsimp only
     omega
 · obtain rfl : x = bk.length := by omega
   repeat' (first
     | (with_reducible apply Req_intro); focus (first | omega | assumption | (simp; done))
     | with_reducible (first | apply Req_intro | refine nilT ?_ fun hn => ?_ | apply wk_draw Try_mixed | refine drawEnd (by kernel_rfl) ?_)
     | (with_reducible (first | apply condA_if | apply stepDG_ifN | apply stepDG_if | apply stepG_ifN | apply stepG_if)) <;> intro hb <;> (have hif := hb) <;> (try simp only [bo] at hif) <;> (try simp -implicitDefEqProofs (disch := omega) only [go_sem, hb]) <;> clear hb
     | simp (maxSteps := 1000000) -implicitDefEqProofs (disch := omega) only [go_sem])
   all_goals first | (exfalso; omega) | omega | skip
   exact retz []
theorem ohigh_spec (o b : Int) (ho : 0 ≤ o ∧ o ≤ 1200000) (hb : 0 ≤ b ∧ b ≤ 1200000) : Ct Try.prog 43 [accV o b] (int (o - b)) := by
 refine fn_enter Try.func43 rfl (by decide) Try.results43 Try.ntmps43 ?_ rfl (by simp (maxSteps := 1000000) -implicitDefEqProofs (disch := omega) only [go_sem]; rfl) fun base => ?_
 · first | assumption | (simp only [go_sem] <;> assumption) | (simp only [go_sem, *]; done) | (simp [go_sem]; done)
 repeat' (first
   | (with_reducible apply Req_intro); focus (first | omega | assumption | (simp; done))
   | with_reducible (first | apply Req_intro | refine nilT ?_ fun hn => ?_ | apply wk_draw Try_mixed | refine drawEnd (by kernel_rfl) ?_)
   | (with_reducible (first | apply condA_if | apply stepDG_ifN | apply stepDG_if | apply stepG_ifN | apply stepG_if)) <;> intro hb <;> (have hif := hb) <;> (try simp only [bo] at hif) <;> (try simp -implicitDefEqProofs (disch := omega) only [go_sem, hb]) <;> clear hb
   | simp (maxSteps := 1000000) -implicitDefEqProofs (disch := omega) only [go_sem])
 all_goals first | (exfalso; omega) | omega | skip
 refine ret_do ?_
 simp [retV]
theorem oloss_spec (o b n : Int) (hn : 0 ≤ n ∧ n ≤ 1200000) : Ct Try.prog 42 [accV o b, int n] (int 0) := by
 refine fn_enter Try.func42 rfl (by decide) Try.results42 Try.ntmps42 ?_ rfl (by simp (maxSteps := 1000000) -implicitDefEqProofs (disch := omega) only [go_sem]; rfl) fun base => ?_
 · first | assumption | (simp only [go_sem] <;> assumption) | (simp only [go_sem, *]; done) | (simp [go_sem]; done)
 repeat' (first
   | (with_reducible apply Req_intro); focus (first | omega | assumption | (simp; done))
   | with_reducible (first | apply Req_intro | refine nilT ?_ fun hn => ?_ | apply wk_draw Try_mixed | refine drawEnd (by kernel_rfl) ?_)
   | (with_reducible (first | apply condA_if | apply stepDG_ifN | apply stepDG_if | apply stepG_ifN | apply stepG_if)) <;> intro hb <;> (have hif := hb) <;> (try simp only [bo] at hif) <;> (try simp -implicitDefEqProofs (disch := omega) only [go_sem, hb]) <;> clear hb
   | simp (maxSteps := 1000000) -implicitDefEqProofs (disch := omega) only [go_sem])
 all_goals first | (exfalso; omega) | omega | skip
 refine ret_do ?_
 simp [retV]
theorem ohas_spec (o b : Int) (ho : 0 ≤ b ∧ b ≤ o ∧ o ≤ 1200000) : Ct Try.prog 41 [accV o b] (.agg (encS (o - b, o - b))) := by
 have hm : max 0 (o - 0 - b - 0) = o - b := by omega
 refine ct_enterZ Try.func41 rfl (by decide) Try.results41 Try.ntmps41 ?_ rfl (by simp (maxSteps := 1000000) -implicitDefEqProofs (disch := omega) only [go_sem]; rfl) fun base => ?_
 · first | assumption | (simp only [go_sem] <;> assumption) | (simp only [go_sem, *]; done) | (simp [go_sem]; done)
 repeat' (first
   | (with_reducible apply Req_intro); focus (first | omega | assumption | (simp; done))
   | with_reducible (first | apply Req_intro | refine nilT ?_ fun hn => ?_ | apply wk_draw Try_mixed | refine drawEnd (by kernel_rfl) ?_)
   | (with_reducible (first | apply condA_if | apply stepDG_ifN | apply stepDG_if | apply stepG_ifN | apply stepG_if)) <;> intro hb <;> (have hif := hb) <;> (try simp only [bo] at hif) <;> (try simp -implicitDefEqProofs (disch := omega) only [go_sem, hb]) <;> clear hb
   | simp (maxSteps := 1000000) -implicitDefEqProofs (disch := omega) only [go_sem])
 refine calld (oloss_spec o b o (by omega)) ?_
 try simp (maxSteps := 1000000) -implicitDefEqProofs (disch := omega) only [go_sem]
 repeat' (first
   | (with_reducible apply Req_intro); focus (first | omega | assumption | (simp; done))
   | with_reducible (first | apply Req_intro | refine nilT ?_ fun hn => ?_ | apply wk_draw Try_mixed | refine drawEnd (by kernel_rfl) ?_)
   | (with_reducible (first | apply condA_if | apply stepDG_ifN | apply stepDG_if | apply stepG_ifN | apply stepG_if)) <;> intro hb <;> (have hif := hb) <;> (try simp only [bo] at hif) <;> (try simp -implicitDefEqProofs (disch := omega) only [go_sem, hb]) <;> clear hb
   | simp (maxSteps := 1000000) -implicitDefEqProofs (disch := omega) only [go_sem])
 refine calld (ohigh_spec o b (by omega) (by omega)) ?_
 try simp (maxSteps := 1000000) -implicitDefEqProofs (disch := omega) only [go_sem]
 repeat' (first
   | (with_reducible apply Req_intro); focus (first | omega | assumption | (simp; done))
   | with_reducible (first | apply Req_intro | refine nilT ?_ fun hn => ?_ | apply wk_draw Try_mixed | refine drawEnd (by kernel_rfl) ?_)
   | (with_reducible (first | apply condA_if | apply stepDG_ifN | apply stepDG_if | apply stepG_ifN | apply stepG_if)) <;> intro hb <;> (have hif := hb) <;> (try simp only [bo] at hif) <;> (try simp -implicitDefEqProofs (disch := omega) only [go_sem, hb]) <;> clear hb
   | simp (maxSteps := 1000000) -implicitDefEqProofs (disch := omega) only [go_sem])
 all_goals first | (exfalso; omega) | omega | skip
 rw [hm]
 exact retz []
end Go.Aw
end
section
set_option maxRecDepth 20000
set_option maxHeartbeats 4000000
namespace Go.Aw
open Go.RowKit Go.Proofs
structure BookOk (bk : List Entry) : Prop where
 h : ∀ x ∈ bk, EntOkk x
 n : bk.length ≤ 12
 t : ∀ w : Int, kS 2 bk w bk.length ≤ kS 1 bk w bk.length
theorem BookOk.b {bk : List Entry} (h : BookOk bk) (w : Int) : 0 ≤ kS 2 bk w bk.length ∧ kS 2 bk w bk.length ≤ kS 1 bk w bk.length ∧ kS 1 bk w bk.length ≤ 1200000 := by
 have h1 := kS_bd (k := 1) (w := w) h.h _ (Nat.le_refl bk.length)
 have h2 := kS_bd (k := 2) (w := w) h.h _ (Nat.le_refl bk.length)
 have h3 := h.t w
 have h4 := h.n
 omega
def outA (bk : List Entry) (w : Int) : Int := kS 1 bk w bk.length
def backA (bk : List Entry) (w : Int) : Int := kS 2 bk w bk.length
def yAcc (bk : List Entry) (w : Int) : List V := [int ((0 : Nat) : Int), accV (outA bk w) (backA bk w)]
@[go_sem] theorem yAcc_eq (bk : List Entry) (w : Int) : yAcc bk w = [int ((0 : Nat) : Int), accV (outA bk w) (backA bk w)] := rfl
theorem stuffs_it (bk : List Entry) (e : Bool) (h : BookOk bk) (w : Int) : It Try.prog 75 [.rp (offC bk e), .rp [int w], .rp [noneV]] [yAcc bk w] := by
 refine it_enter Try.func75 rfl (by decide) Try.results75 Try.ntmps75 ?_ rfl (fun l => by simp (maxSteps := 1000000) -implicitDefEqProofs (disch := omega) only [go_sem]; rfl) fun base l => ?_
 · first | assumption | (simp only [go_sem] <;> assumption) | (simp only [go_sem, *]; done) | (simp [go_sem]; done)
 repeat' (first
   | (with_reducible apply Req_intro); focus (first | omega | assumption | (simp; done))
   | with_reducible (first | apply Req_intro | refine nilT ?_ fun hn => ?_ | apply wk_draw Try_mixed | refine drawEnd (by kernel_rfl) ?_)
   | (with_reducible (first | apply condA_if | apply stepDG_ifN | apply stepDG_if | apply stepG_ifN | apply stepG_if)) <;> intro hb <;> (have hif := hb) <;> (try simp only [bo] at hif) <;> (try simp -implicitDefEqProofs (disch := omega) only [go_sem, hb]) <;> clear hb
   | simp (maxSteps := 1000000) -implicitDefEqProofs (disch := omega) only [go_sem])
 refine loop_gh (α := Nat) [5, 10, 11, 12, 13, 14, 15, 16, 17, 18, 19, 20, 21, 22] (fun i => [(10, .lit (.int .i64 i))]) (fun i => []) (fun i => i) (fun i => i ≤ 1) (fun i => 1 - i) 0 (fun x => by simp (maxSteps := 1000000) -implicitDefEqProofs (disch := omega) only [go_sem]; rfl) ?_ ?_ ?_ fun x hx => ?_
 · rfl
 · exact weak_do []
 · exact Nat.zero_le _
 by_cases hlt : x < 1
 · obtain rfl : x = 0 := by omega
   repeat' (first
     | (with_reducible apply Req_intro); focus (first | omega | assumption | (simp; done))
     | with_reducible (first | apply Req_intro | refine nilT ?_ fun hn => ?_ | apply wk_draw Try_mixed | refine drawEnd (by kernel_rfl) ?_)
     | (with_reducible (first | apply condA_if | apply stepDG_ifN | apply stepDG_if | apply stepG_ifN | apply stepG_if)) <;> intro hb <;> (have hif := hb) <;> (try simp only [bo] at hif) <;> (try simp -implicitDefEqProofs (disch := omega) only [go_sem, hb]) <;> clear hb
     | simp (maxSteps := 1000000) -implicitDefEqProofs (disch := omega) only [go_sem])
   all_goals first | (exfalso; omega) | skip
   refine callp (account_spec bk e h.h h.n w) ?_
   try simp (maxSteps := 1000000) -implicitDefEqProofs (disch := omega) only [go_sem]
   repeat' (first
     | (with_reducible apply Req_intro); focus (first | omega | assumption | (simp; done))
     | with_reducible (first | apply Req_intro | refine nilT ?_ fun hn => ?_ | apply wk_draw Try_mixed | refine drawEnd (by kernel_rfl) ?_)
     | (with_reducible (first | apply condA_if | apply stepDG_ifN | apply stepDG_if | apply stepG_ifN | apply stepG_if)) <;> intro hb <;> (have hif := hb) <;> (try simp only [bo] at hif) <;> (try simp -implicitDefEqProofs (disch := omega) only [go_sem, hb]) <;> clear hb
     | simp (maxSteps := 1000000) -implicitDefEqProofs (disch := omega) only [go_sem])
   refine call_yield [] (by first | (simp (maxSteps := 1000000) -implicitDefEqProofs (disch := omega) only [go_sem]; done) | (simp (maxSteps := 1000000) -implicitDefEqProofs (disch := omega) only [go_sem]; rfl)) (rs := yAcc bk w) rfl ?_ fun b => ?_
   · simp only [yAcc, outA, backA]
     (try simp (maxSteps := 1000000) -implicitDefEqProofs (disch := omega) only [go_sem])
     repeat' (first
       | with_reducible (first | exact PurI.nil | exact Pur.nilsl _ _ | exact PurE.nil)
       | (with_reducible (first | refine PurI.puL ?_ | refine PurE.puE ?_)) <;> (first | assumption | (simp only [go_sem] <;> assumption) | (simp only [go_sem, *]; done) | (simp [go_sem]; done))
       | with_reducible apply PurI.cons
       | (with_reducible refine Pur.pu _ ?_) <;> (first | assumption | (simp only [go_sem] <;> assumption) | (simp only [go_sem, *]; done) | (simp [go_sem]; done))
       | ((with_reducible apply Pur.refR) <;> (first | rfl | decide | (simp only [go_sem]; omega) | (simp only [go_sem]) | skip))
       | ((with_reducible apply Pur.osR) <;> (first | rfl | exact fun h => h | omega | (simp; omega) | (simp; done) | (simp only [go_sem]) | skip))
       | with_reducible (first | apply Pur.fnI | apply Pur.aggI | apply PurE.cons)
       | (with_reducible refine PurI.eqL ?_ ?_); (focus rfl); (focus (first | assumption | (simp only [go_sem] <;> assumption) | (simp only [go_sem, *]; done) | (simp [go_sem]; done)))
       | simp (maxSteps := 1000000) -implicitDefEqProofs (disch := omega) only [go_sem])
   cases b
   · repeat' (first
       | (with_reducible apply Req_intro); focus (first | omega | assumption | (simp; done))
       | with_reducible (first | apply Req_intro | refine nilT ?_ fun hn => ?_ | apply wk_draw Try_mixed | refine drawEnd (by kernel_rfl) ?_)
       | (with_reducible (first | apply condA_if | apply stepDG_ifN | apply stepDG_if | apply stepG_ifN | apply stepG_if)) <;> intro hb <;> (have hif := hb) <;> (try simp only [bo] at hif) <;> (try simp -implicitDefEqProofs (disch := omega) only [go_sem, hb]) <;> clear hb
       | simp (maxSteps := 1000000) -implicitDefEqProofs (disch := omega) only [go_sem])
     all_goals first | (exfalso; omega) | skip
     refine retI fun h => ?_
     cases h
   · repeat' (first
       | (with_reducible apply Req_intro); focus (first | omega | assumption | (simp; done))
       | with_reducible (first | apply Req_intro | refine nilT ?_ fun hn => ?_ | apply wk_draw Try_mixed | refine drawEnd (by kernel_rfl) ?_)
       | (with_reducible (first | apply condA_if | apply stepDG_ifN | apply stepDG_if | apply stepG_ifN | apply stepG_if)) <;> intro hb <;> (have hif := hb) <;> (try simp only [bo] at hif) <;> (try simp -implicitDefEqProofs (disch := omega) only [go_sem, hb]) <;> clear hb
       | simp (maxSteps := 1000000) -implicitDefEqProofs (disch := omega) only [go_sem])
     all_goals first | (exfalso; omega) | skip
     refine nxt_w (0 + 1) (weak_do []) ?_
     try dsimp only
     omega
 · obtain rfl : x = 1 := by omega
   repeat' (first
     | (with_reducible apply Req_intro); focus (first | omega | assumption | (simp; done))
     | with_reducible (first | apply Req_intro | refine nilT ?_ fun hn => ?_ | apply wk_draw Try_mixed | refine drawEnd (by kernel_rfl) ?_)
     | (with_reducible (first | apply condA_if | apply stepDG_ifN | apply stepDG_if | apply stepG_ifN | apply stepG_if)) <;> intro hb <;> (have hif := hb) <;> (try simp only [bo] at hif) <;> (try simp -implicitDefEqProofs (disch := omega) only [go_sem, hb]) <;> clear hb
     | simp (maxSteps := 1000000) -implicitDefEqProofs (disch := omega) only [go_sem])
   all_goals first | (exfalso; omega) | skip
   refine retIN fun _ => ?_
   simp
theorem stuffs_spec (bk : List Entry) (e : Bool) (w : Int) : Ct Try.prog 45 [offV bk e, int w, noneV] (.fn (.func 75) [] [.rp (offC bk e), .rp [int w], .rp [noneV]]) := by
 refine fn_enter Try.func45 rfl (by decide) Try.results45 Try.ntmps45 ?_ rfl (by simp (maxSteps := 1000000) -implicitDefEqProofs (disch := omega) only [go_sem]; rfl) fun base => ?_
 · first | assumption | (simp only [go_sem] <;> assumption) | (simp only [go_sem, *]; done) | (simp [go_sem]; done)
 repeat' (first
   | (with_reducible apply Req_intro); focus (first | omega | assumption | (simp; done))
   | with_reducible (first | apply Req_intro | refine nilT ?_ fun hn => ?_ | apply wk_draw Try_mixed | refine drawEnd (by kernel_rfl) ?_)
   | (with_reducible (first | apply condA_if | apply stepDG_ifN | apply stepDG_if | apply stepG_ifN | apply stepG_if)) <;> intro hb <;> (have hif := hb) <;> (try simp only [bo] at hif) <;> (try simp -implicitDefEqProofs (disch := omega) only [go_sem, hb]) <;> clear hb
   | simp (maxSteps := 1000000) -implicitDefEqProofs (disch := omega) only [go_sem])
 exact retf [0, 64, 128] [6] [.fn (.func 75) [] [.rp (offC bk e), .rp [int w], .rp [noneV]]]
theorem isTrue_spec (bk : List Entry) (e : Bool) (h : BookOk bk) : Ct Try.prog 71 [offV bk e, noneV] (.lit (.bool true)) := by
 refine ct_enterZ Try.func71 rfl (by decide) Try.results71 Try.ntmps71 ?_ rfl (by simp (maxSteps := 1000000) -implicitDefEqProofs (disch := omega) only [go_sem]; rfl) fun base => ?_
 · first | assumption | (simp only [go_sem] <;> assumption) | (simp only [go_sem, *]; done) | (simp [go_sem]; done)
 repeat' (first
   | (with_reducible apply Req_intro); focus (first | omega | assumption | (simp; done))
   | with_reducible (first | apply Req_intro | refine nilT ?_ fun hn => ?_ | apply wk_draw Try_mixed | refine drawEnd (by kernel_rfl) ?_)
   | (with_reducible (first | apply condA_if | apply stepDG_ifN | apply stepDG_if | apply stepG_ifN | apply stepG_if)) <;> intro hb <;> (have hif := hb) <;> (try simp only [bo] at hif) <;> (try simp -implicitDefEqProofs (disch := omega) only [go_sem, hb]) <;> clear hb
   | simp (maxSteps := 1000000) -implicitDefEqProofs (disch := omega) only [go_sem])
 refine loop_rows (α := Nat) [5, 7, 8, 9, 10, 11, 12, 13, 14, 15, 16, 17, 18, 19, 20] (fun i => [(8, .lit (.int .i64 i))]) (fun i => [(0, some ⟨4, [offC bk e], 115, .wr⟩), (64, some ⟨1, [[.lit (.bool false)]], 4, .wr⟩)]) (fun i => i ≤ 6) (fun i => 6 - i) 0 (fun x => by simp (maxSteps := 1000000) -implicitDefEqProofs (disch := omega) only [go_sem]; rfl) ?_ ?_ fun x hx => ?_
 · exact weak_do3 []
 · exact Nat.zero_le _
 by_cases hlt : x < 6
 · have hb := h.b x
   repeat' (first
     | (with_reducible apply Req_intro); focus (first | omega | assumption | (simp; done))
     | with_reducible (first | apply Req_intro | refine nilT ?_ fun hn => ?_ | apply wk_draw Try_mixed | refine drawEnd (by kernel_rfl) ?_)
     | (with_reducible (first | apply condA_if | apply stepDG_ifN | apply stepDG_if | apply stepG_ifN | apply stepG_if)) <;> intro hb <;> (have hif := hb) <;> (try simp only [bo] at hif) <;> (try simp -implicitDefEqProofs (disch := omega) only [go_sem, hb]) <;> clear hb
     | simp (maxSteps := 1000000) -implicitDefEqProofs (disch := omega) only [go_sem])
   all_goals first | (exfalso; omega) | omega | skip
   refine callf [] (stuffs_spec bk e x) ?_
   try simp (maxSteps := 1000000) -implicitDefEqProofs (disch := omega) only [go_sem]
   repeat' (first
     | (with_reducible apply Req_intro); focus (first | omega | assumption | (simp; done))
     | with_reducible (first | apply Req_intro | refine nilT ?_ fun hn => ?_ | apply wk_draw Try_mixed | refine drawEnd (by kernel_rfl) ?_)
     | (with_reducible (first | apply condA_if | apply stepDG_ifN | apply stepDG_if | apply stepG_ifN | apply stepG_if)) <;> intro hb <;> (have hif := hb) <;> (try simp only [bo] at hif) <;> (try simp -implicitDefEqProofs (disch := omega) only [go_sem, hb]) <;> clear hb
     | simp (maxSteps := 1000000) -implicitDefEqProofs (disch := omega) only [go_sem])
   refine range_rows (α := Unit) [] (fun _ => [(0, some ⟨4, [offC bk e], 115, .wr⟩), (64, some ⟨1, [[.lit (.bool false)]], 4, .wr⟩)]) (fun _ => 0) (fun _ => false) (fun i x => True) (fun c x => False) () 2944 (by first | (simp (maxSteps := 1000000) -implicitDefEqProofs (disch := omega) only [go_sem]; done) | (simp (maxSteps := 1000000) -implicitDefEqProofs (disch := omega) only [go_sem]; rfl)) (by first | (simp (maxSteps := 1000000) -implicitDefEqProofs (disch := omega) only [go_sem]; done) | (simp (maxSteps := 1000000) -implicitDefEqProofs (disch := omega) only [go_sem]; rfl)) (stuffs_it bk e h x) ?_ ?_ ?_ ?_ ?_ ?_ ?_ ?_ ?_ ?_ ?_ ?_ ?_
   · first | assumption | (simp only [go_sem] <;> assumption) | (simp only [go_sem, *]; done) | (simp [go_sem]; done)
   · intro y hy
     rw [List.mem_singleton] at hy
     subst hy
     rfl
   · exact weak_do []
   · rfl
   · rfl
   · trivial
   · repeat' (first
       | with_reducible exact idsLt_nil
       | with_reducible refine idsLt_cons ?_ ?_
       | with_reducible exact IdLt.pu _ Pu_undef
       | with_reducible exact IdLt.pu _ (Pu_lit _)
       | ((with_reducible refine IdLt.ref _ _ _ _ ?_); decide)
       | ((with_reducible refine IdLt.os _ _ _ _ ?_); decide)
       | ((with_reducible refine IdLt.pu _ ?_); first | assumption | (simp only [go_sem] <;> assumption) | (simp only [go_sem, *]; done) | (simp [go_sem]; done))
       | (with_reducible refine idLt_fn ?_ ?_)
       | (with_reducible refine idLt_agg ?_))
   · decide
   · decide
   · rintro i x2 y _ hy
     obtain rfl : y = yAcc bk x := by
       cases i with
       | zero => cases hy; rfl
       | succ i => cases hy
     simp only [yAcc, outA, backA]
     repeat' (first
       | (with_reducible apply Req_intro); focus (first | omega | assumption | (simp; done))
       | with_reducible (first | apply Req_intro | refine nilT ?_ fun hn => ?_ | apply wk_draw Try_mixed | refine drawEnd (by kernel_rfl) ?_)
       | (with_reducible (first | apply condA_if | apply stepDG_ifN | apply stepDG_if | apply stepG_ifN | apply stepG_if)) <;> intro hb <;> (have hif := hb) <;> (try simp only [bo] at hif) <;> (try simp -implicitDefEqProofs (disch := omega) only [go_sem, hb]) <;> clear hb
       | simp (maxSteps := 1000000) -implicitDefEqProofs (disch := omega) only [go_sem])
     refine callp (ohigh_spec (kS 1 bk x bk.length) (kS 2 bk x bk.length) (by omega) (by omega)) ?_
     try simp (maxSteps := 1000000) -implicitDefEqProofs (disch := omega) only [go_sem]
     repeat' (first
       | (with_reducible apply Req_intro); focus (first | omega | assumption | (simp; done))
       | with_reducible (first | apply Req_intro | refine nilT ?_ fun hn => ?_ | apply wk_draw Try_mixed | refine drawEnd (by kernel_rfl) ?_)
       | (with_reducible (first | apply condA_if | apply stepDG_ifN | apply stepDG_if | apply stepG_ifN | apply stepG_if)) <;> intro hb <;> (have hif := hb) <;> (try simp only [bo] at hif) <;> (try simp -implicitDefEqProofs (disch := omega) only [go_sem, hb]) <;> clear hb
       | simp (maxSteps := 1000000) -implicitDefEqProofs (disch := omega) only [go_sem])
     all_goals first | (exfalso; omega) | omega | skip
     refine rnd_next () trivial ?_
     exact forget_do []
   · rintro x2 _
     repeat' (first
       | (with_reducible apply Req_intro); focus (first | omega | assumption | (simp; done))
       | with_reducible (first | apply Req_intro | refine nilT ?_ fun hn => ?_ | apply wk_draw Try_mixed | refine drawEnd (by kernel_rfl) ?_)
       | (with_reducible (first | apply condA_if | apply stepDG_ifN | apply stepDG_if | apply stepG_ifN | apply stepG_if)) <;> intro hb <;> (have hif := hb) <;> (try simp only [bo] at hif) <;> (try simp -implicitDefEqProofs (disch := omega) only [go_sem, hb]) <;> clear hb
       | simp (maxSteps := 1000000) -implicitDefEqProofs (disch := omega) only [go_sem])
     all_goals first | (exfalso; omega) | omega | skip
     with_reducible refine nxt_w (x + 1) ?_ ?_
     · (try dsimp only)
       skip
       exact weak_do3 []
     try dsimp only
     omega
   · exact fun x h => h.elim
   · exact fun id x h => h.elim
 · repeat' (first
     | (with_reducible apply Req_intro); focus (first | omega | assumption | (simp; done))
     | with_reducible (first | apply Req_intro | refine nilT ?_ fun hn => ?_ | apply wk_draw Try_mixed | refine drawEnd (by kernel_rfl) ?_)
     | (with_reducible (first | apply condA_if | apply stepDG_ifN | apply stepDG_if | apply stepG_ifN | apply stepG_if)) <;> intro hb <;> (have hif := hb) <;> (try simp only [bo] at hif) <;> (try simp -implicitDefEqProofs (disch := omega) only [go_sem, hb]) <;> clear hb
     | simp (maxSteps := 1000000) -implicitDefEqProofs (disch := omega) only [go_sem])
   all_goals first | (exfalso; omega) | omega | skip
   exact retz []
theorem oopen_spec (bk : List Entry) (e : Bool) (h : BookOk bk) : Ct Try.prog 36 [houseV, .sl 4 (bk.map encEn) e] (.tup [offV bk e, int 0]) := by
 refine ct_enterT Try.func36 rfl (by decide) Try.results36 Try.ntmps36 ?_ rfl (by simp (maxSteps := 1000000) -implicitDefEqProofs (disch := omega) only [go_sem]; rfl) fun base => ?_
 · first | assumption | (simp only [go_sem] <;> assumption) | (simp only [go_sem, *]; done) | (simp [go_sem]; done)
 repeat' (first
   | (with_reducible apply Req_intro); focus (first | omega | assumption | (simp; done))
   | with_reducible (first | apply Req_intro | refine nilT ?_ fun hn => ?_ | apply wk_draw Try_mixed | refine drawEnd (by kernel_rfl) ?_)
   | (with_reducible (first | apply condA_if | apply stepDG_ifN | apply stepDG_if | apply stepG_ifN | apply stepG_if)) <;> intro hb <;> (have hif := hb) <;> (try simp only [bo] at hif) <;> (try simp -implicitDefEqProofs (disch := omega) only [go_sem, hb]) <;> clear hb
   | simp (maxSteps := 1000000) -implicitDefEqProofs (disch := omega) only [go_sem])
 refine calld (oCheck_ok bk e h.h h.n) ?_
 try simp (maxSteps := 1000000) -implicitDefEqProofs (disch := omega) only [go_sem]
 repeat' (first
   | (with_reducible apply Req_intro); focus (first | omega | assumption | (simp; done))
   | with_reducible (first | apply Req_intro | refine nilT ?_ fun hn => ?_ | apply wk_draw Try_mixed | refine drawEnd (by kernel_rfl) ?_)
   | (with_reducible (first | apply condA_if | apply stepDG_ifN | apply stepDG_if | apply stepG_ifN | apply stepG_if)) <;> intro hb <;> (have hif := hb) <;> (try simp only [bo] at hif) <;> (try simp -implicitDefEqProofs (disch := omega) only [go_sem, hb]) <;> clear hb
   | simp (maxSteps := 1000000) -implicitDefEqProofs (disch := omega) only [go_sem])
 refine callp (isTrue_spec bk e h) ?_
 try simp (maxSteps := 1000000) -implicitDefEqProofs (disch := omega) only [go_sem]
 repeat' (first
   | (with_reducible apply Req_intro); focus (first | omega | assumption | (simp; done))
   | with_reducible (first | apply Req_intro | refine nilT ?_ fun hn => ?_ | apply wk_draw Try_mixed | refine drawEnd (by kernel_rfl) ?_)
   | (with_reducible (first | apply condA_if | apply stepDG_ifN | apply stepDG_if | apply stepG_ifN | apply stepG_if)) <;> intro hb <;> (have hif := hb) <;> (try simp only [bo] at hif) <;> (try simp -implicitDefEqProofs (disch := omega) only [go_sem, hb]) <;> clear hb
   | simp (maxSteps := 1000000) -implicitDefEqProofs (disch := omega) only [go_sem])
 all_goals first | (exfalso; omega) | omega | skip
 exact rett []
end Go.Aw
end
section
set_option maxRecDepth 20000
set_option maxHeartbeats 4000000
namespace Go.Aw
open Go.RowKit Go.Proofs
def homeS (bk : List Entry) : Nat → Int
 | 0 => 0
 | w + 1 => homeS bk w + (outA bk w - backA bk w)
theorem BookOk.a {bk : List Entry} (h : BookOk bk) (w : Int) : 0 ≤ backA bk w ∧ backA bk w ≤ outA bk w ∧ outA bk w ≤ 1200000 := h.b w
theorem homeS_bd {bk : List Entry} (h : BookOk bk) : ∀ i : Nat, 0 ≤ homeS bk i ∧ homeS bk i ≤ 1200000 * i
 | 0 => by simp [homeS]
 | i + 1 => by
   have ih := homeS_bd h i
   have hb := h.a i
   rw [homeS]
   omega
theorem accountA (bk : List Entry) (e : Bool) (h : BookOk bk) (w : Int) : Ct Try.prog 38 [offV bk e, int w, int 0, noneV] (accV (outA bk w) (backA bk w)) := account_spec bk e h.h h.n w
theorem Lies_spec (bk : List Entry) (e : Bool) (h : BookOk bk) : Ct Try.prog 14 [houseV, .sl 4 (bk.map encEn) e, int 0] (.tup [.agg (encS (homeS bk 6, homeS bk 6)), .agg (encS ((0 : Int), (0 : Int))), .agg (encS ((0 : Int), (0 : Int))), int 0]) := by
 refine ct_enterT Try.func14 rfl (by decide) Try.results14 Try.ntmps14 ?_ rfl (by simp (maxSteps := 1000000) -implicitDefEqProofs (disch := omega) only [go_sem]; rfl) fun base => ?_
 · first | assumption | (simp only [go_sem] <;> assumption) | (simp only [go_sem, *]; done) | (simp [go_sem]; done)
 repeat' (first
   | (with_reducible apply Req_intro); focus (first | omega | assumption | (simp; done))
   | with_reducible (first | apply Req_intro | refine nilT ?_ fun hn => ?_ | apply wk_draw Try_mixed | refine drawEnd (by kernel_rfl) ?_)
   | (with_reducible (first | apply condA_if | apply stepDG_ifN | apply stepDG_if | apply stepG_ifN | apply stepG_if)) <;> intro hb <;> (have hif := hb) <;> (try simp only [bo] at hif) <;> (try simp -implicitDefEqProofs (disch := omega) only [go_sem, hb]) <;> clear hb
   | simp (maxSteps := 1000000) -implicitDefEqProofs (disch := omega) only [go_sem])
 refine callp (oopen_spec bk e h) ?_
 try simp (maxSteps := 1000000) -implicitDefEqProofs (disch := omega) only [go_sem]
 repeat' (first
   | (with_reducible apply Req_intro); focus (first | omega | assumption | (simp; done))
   | with_reducible (first | apply Req_intro | refine nilT ?_ fun hn => ?_ | apply wk_draw Try_mixed | refine drawEnd (by kernel_rfl) ?_)
   | (with_reducible (first | apply condA_if | apply stepDG_ifN | apply stepDG_if | apply stepG_ifN | apply stepG_if)) <;> intro hb <;> (have hif := hb) <;> (try simp only [bo] at hif) <;> (try simp -implicitDefEqProofs (disch := omega) only [go_sem, hb]) <;> clear hb
   | simp (maxSteps := 1000000) -implicitDefEqProofs (disch := omega) only [go_sem])
 refine callp (isStuff_ok) ?_
 try simp (maxSteps := 1000000) -implicitDefEqProofs (disch := omega) only [go_sem]
 repeat' (first
   | (with_reducible apply Req_intro); focus (first | omega | assumption | (simp; done))
   | with_reducible (first | apply Req_intro | refine nilT ?_ fun hn => ?_ | apply wk_draw Try_mixed | refine drawEnd (by kernel_rfl) ?_)
   | (with_reducible (first | apply condA_if | apply stepDG_ifN | apply stepDG_if | apply stepG_ifN | apply stepG_if)) <;> intro hb <;> (have hif := hb) <;> (try simp only [bo] at hif) <;> (try simp -implicitDefEqProofs (disch := omega) only [go_sem, hb]) <;> clear hb
   | simp (maxSteps := 1000000) -implicitDefEqProofs (disch := omega) only [go_sem])
 refine loop_rows (α := Nat) [11, 12, 34, 35, 36, 37, 38, 39, 40, 41, 42, 43, 44, 45, 46, 47, 48, 49, 50, 51, 52, 53, 54, 55, 56, 57, 58, 59, 60, 61, 62, 63, 64, 65, 66, 67, 68, 69, 70, 71, 72, 73] (fun i => [(34, .lit (.int .i64 i))]) (fun i => [(64, some ⟨2, [encS (homeS bk i, homeS bk i)], 33, .wr⟩), (128, some ⟨2, [[int 0, int 0]], 33, .wr⟩), (192, some ⟨2, [[int 0, int 0]], 33, .wr⟩), (704, some ⟨4, [offC bk e], 115, .wr⟩)]) (fun i => i ≤ 6) (fun i => 6 - i) 0 (fun x => by simp (maxSteps := 1000000) -implicitDefEqProofs (disch := omega) only [go_sem]; rfl) ?_ ?_ fun x hx => ?_
 · simp only [homeS]
   exact weak_do3 []
 · exact Nat.zero_le _
 by_cases hlt : x < 6
 · have hb := h.a x
   have hh := homeS_bd h x
   have hm : min 0 (outA bk x - backA bk x) = 0 := by omega
   repeat' (first
     | (with_reducible apply Req_intro); focus (first | omega | assumption | (simp; done))
     | with_reducible (first | apply Req_intro | refine nilT ?_ fun hn => ?_ | apply wk_draw Try_mixed | refine drawEnd (by kernel_rfl) ?_)
     | (with_reducible (first | apply condA_if | apply stepDG_ifN | apply stepDG_if | apply stepG_ifN | apply stepG_if)) <;> intro hb <;> (have hif := hb) <;> (try simp only [bo] at hif) <;> (try simp -implicitDefEqProofs (disch := omega) only [go_sem, hb]) <;> clear hb
     | simp (maxSteps := 1000000) -implicitDefEqProofs (disch := omega) only [go_sem])
   all_goals first | (exfalso; omega) | omega | skip
   refine callp (accountA bk e h x) ?_
   try simp (maxSteps := 1000000) -implicitDefEqProofs (disch := omega) only [go_sem]
   repeat' (first
     | (with_reducible apply Req_intro); focus (first | omega | assumption | (simp; done))
     | with_reducible (first | apply Req_intro | refine nilT ?_ fun hn => ?_ | apply wk_draw Try_mixed | refine drawEnd (by kernel_rfl) ?_)
     | (with_reducible (first | apply condA_if | apply stepDG_ifN | apply stepDG_if | apply stepG_ifN | apply stepG_if)) <;> intro hb <;> (have hif := hb) <;> (try simp only [bo] at hif) <;> (try simp -implicitDefEqProofs (disch := omega) only [go_sem, hb]) <;> clear hb
     | simp (maxSteps := 1000000) -implicitDefEqProofs (disch := omega) only [go_sem])
   all_goals first | (exfalso; omega) | omega | skip
   refine calld (ohas_spec (outA bk x) (backA bk x) hb) ?_
   try simp (maxSteps := 1000000) -implicitDefEqProofs (disch := omega) only [go_sem]
   repeat' (first
     | (with_reducible apply Req_intro); focus (first | omega | assumption | (simp; done))
     | with_reducible (first | apply Req_intro | refine nilT ?_ fun hn => ?_ | apply wk_draw Try_mixed | refine drawEnd (by kernel_rfl) ?_)
     | (with_reducible (first | apply condA_if | apply stepDG_ifN | apply stepDG_if | apply stepG_ifN | apply stepG_if)) <;> intro hb <;> (have hif := hb) <;> (try simp only [bo] at hif) <;> (try simp -implicitDefEqProofs (disch := omega) only [go_sem, hb]) <;> clear hb
     | simp (maxSteps := 1000000) -implicitDefEqProofs (disch := omega) only [go_sem])
   refine calld (oplus_spec (homeS bk x, homeS bk x) (outA bk x - backA bk x, outA bk x - backA bk x) (by simp only; omega) (by simp only; omega) (by simp only; omega) (by simp only; omega)) ?_
   try simp (maxSteps := 1000000) -implicitDefEqProofs (disch := omega) only [go_sem]
   repeat' (first
     | (with_reducible apply Req_intro); focus (first | omega | assumption | (simp; done))
     | with_reducible (first | apply Req_intro | refine nilT ?_ fun hn => ?_ | apply wk_draw Try_mixed | refine drawEnd (by kernel_rfl) ?_)
     | (with_reducible (first | apply condA_if | apply stepDG_ifN | apply stepDG_if | apply stepG_ifN | apply stepG_if)) <;> intro hb <;> (have hif := hb) <;> (try simp only [bo] at hif) <;> (try simp -implicitDefEqProofs (disch := omega) only [go_sem, hb, hm]) <;> clear hb
     | simp (maxSteps := 1000000) -implicitDefEqProofs (disch := omega) only [go_sem, hm])
   all_goals first | (exfalso; omega) | omega | skip
   refine callp (oplus_spec ((0 : Int), (0 : Int)) ((0 : Int), (0 : Int)) (by simp only; omega) (by simp only; omega) (by simp only; omega) (by simp only; omega)) ?_
   try simp (maxSteps := 1000000) -implicitDefEqProofs (disch := omega) only [go_sem]
   repeat' (first
     | (with_reducible apply Req_intro); focus (first | omega | assumption | (simp; done))
     | with_reducible (first | apply Req_intro | refine nilT ?_ fun hn => ?_ | apply wk_draw Try_mixed | refine drawEnd (by kernel_rfl) ?_)
     | (with_reducible (first | apply condA_if | apply stepDG_ifN | apply stepDG_if | apply stepG_ifN | apply stepG_if)) <;> intro hb <;> (have hif := hb) <;> (try simp only [bo] at hif) <;> (try simp -implicitDefEqProofs (disch := omega) only [go_sem, hb]) <;> clear hb
     | simp (maxSteps := 1000000) -implicitDefEqProofs (disch := omega) only [go_sem])
   all_goals first | (exfalso; omega) | omega | skip
   refine calld (oloss_spec (outA bk x) (backA bk x) (outA bk x) (by omega)) ?_
   try simp (maxSteps := 1000000) -implicitDefEqProofs (disch := omega) only [go_sem]
   repeat' (first
     | (with_reducible apply Req_intro); focus (first | omega | assumption | (simp; done))
     | with_reducible (first | apply Req_intro | refine nilT ?_ fun hn => ?_ | apply wk_draw Try_mixed | refine drawEnd (by kernel_rfl) ?_)
     | (with_reducible (first | apply condA_if | apply stepDG_ifN | apply stepDG_if | apply stepG_ifN | apply stepG_if)) <;> intro hb <;> (have hif := hb) <;> (try simp only [bo] at hif) <;> (try simp -implicitDefEqProofs (disch := omega) only [go_sem, hb]) <;> clear hb
     | simp (maxSteps := 1000000) -implicitDefEqProofs (disch := omega) only [go_sem])
   refine calld (ohigh_spec (outA bk x) (backA bk x) (by omega) (by omega)) ?_
   try simp (maxSteps := 1000000) -implicitDefEqProofs (disch := omega) only [go_sem]
   repeat' (first
     | (with_reducible apply Req_intro); focus (first | omega | assumption | (simp; done))
     | with_reducible (first | apply Req_intro | refine nilT ?_ fun hn => ?_ | apply wk_draw Try_mixed | refine drawEnd (by kernel_rfl) ?_)
     | (with_reducible (first | apply condA_if | apply stepDG_ifN | apply stepDG_if | apply stepG_ifN | apply stepG_if)) <;> intro hb <;> (have hif := hb) <;> (try simp only [bo] at hif) <;> (try simp -implicitDefEqProofs (disch := omega) only [go_sem, hb, hm]) <;> clear hb
     | simp (maxSteps := 1000000) -implicitDefEqProofs (disch := omega) only [go_sem, hm])
   all_goals first | (exfalso; omega) | omega | skip
   refine calld (oplus_spec ((0 : Int), (0 : Int)) ((0 : Int), (0 : Int)) (by simp only; omega) (by simp only; omega) (by simp only; omega) (by simp only; omega)) ?_
   try simp (maxSteps := 1000000) -implicitDefEqProofs (disch := omega) only [go_sem]
   repeat' (first
     | (with_reducible apply Req_intro); focus (first | omega | assumption | (simp; done))
     | with_reducible (first | apply Req_intro | refine nilT ?_ fun hn => ?_ | apply wk_draw Try_mixed | refine drawEnd (by kernel_rfl) ?_)
     | (with_reducible (first | apply condA_if | apply stepDG_ifN | apply stepDG_if | apply stepG_ifN | apply stepG_if)) <;> intro hb <;> (have hif := hb) <;> (try simp only [bo] at hif) <;> (try simp -implicitDefEqProofs (disch := omega) only [go_sem, hb]) <;> clear hb
     | simp (maxSteps := 1000000) -implicitDefEqProofs (disch := omega) only [go_sem])
   all_goals first | (exfalso; omega) | omega | skip
   with_reducible refine nxt_w (x + 1) ?_ ?_
   · (try dsimp only)
     rw [homeS]
     exact weak_do3 []
   try dsimp only
   omega
 · obtain rfl : x = 6 := by omega
   repeat' (first
     | (with_reducible apply Req_intro); focus (first | omega | assumption | (simp; done))
     | with_reducible (first | apply Req_intro | refine nilT ?_ fun hn => ?_ | apply wk_draw Try_mixed | refine drawEnd (by kernel_rfl) ?_)
     | (with_reducible (first | apply condA_if | apply stepDG_ifN | apply stepDG_if | apply stepG_ifN | apply stepG_if)) <;> intro hb <;> (have hif := hb) <;> (try simp only [bo] at hif) <;> (try simp -implicitDefEqProofs (disch := omega) only [go_sem, hb]) <;> clear hb
     | simp (maxSteps := 1000000) -implicitDefEqProofs (disch := omega) only [go_sem])
   all_goals first | (exfalso; omega) | omega | skip
   exact rett []
def spanL (n : Int) (i : Nat) : List (Int × Int) := List.replicate i (n, n)
theorem Has_spec (bk : List Entry) (e : Bool) (h : BookOk bk) (w : Int) (hw : 0 ≤ w ∧ w ≤ 5) : Ct Try.prog 15 [houseV, .sl 4 (bk.map encEn) e, int w] (.tup [.sl 2 ((spanL (outA bk w - backA bk w) 1).map encS) false, int 0]) := by
 have hb := h.a w
 refine ct_enterT Try.func15 rfl (by decide) Try.results15 Try.ntmps15 ?_ rfl (by simp (maxSteps := 1000000) -implicitDefEqProofs (disch := omega) only [go_sem]; rfl) fun base => ?_
 · first | assumption | (simp only [go_sem] <;> assumption) | (simp only [go_sem, *]; done) | (simp [go_sem]; done)
 repeat' (first
   | (with_reducible apply Req_intro); focus (first | omega | assumption | (simp; done))
   | with_reducible (first | apply Req_intro | refine nilT ?_ fun hn => ?_ | apply wk_draw Try_mixed | refine drawEnd (by kernel_rfl) ?_)
   | (with_reducible (first | apply condA_if | apply stepDG_ifN | apply stepDG_if | apply stepG_ifN | apply stepG_if)) <;> intro hb <;> (have hif := hb) <;> (try simp only [bo] at hif) <;> (try simp -implicitDefEqProofs (disch := omega) only [go_sem, hb]) <;> clear hb
   | simp (maxSteps := 1000000) -implicitDefEqProofs (disch := omega) only [go_sem])
 refine callp (oopen_spec bk e h) ?_
 try simp (maxSteps := 1000000) -implicitDefEqProofs (disch := omega) only [go_sem]
 repeat' (first
   | (with_reducible apply Req_intro); focus (first | omega | assumption | (simp; done))
   | with_reducible (first | apply Req_intro | refine nilT ?_ fun hn => ?_ | apply wk_draw Try_mixed | refine drawEnd (by kernel_rfl) ?_)
   | (with_reducible (first | apply condA_if | apply stepDG_ifN | apply stepDG_if | apply stepG_ifN | apply stepG_if)) <;> intro hb <;> (have hif := hb) <;> (try simp only [bo] at hif) <;> (try simp -implicitDefEqProofs (disch := omega) only [go_sem, hb]) <;> clear hb
   | simp (maxSteps := 1000000) -implicitDefEqProofs (disch := omega) only [go_sem])
 refine callp (isWorker_ok w hw) ?_
 try simp (maxSteps := 1000000) -implicitDefEqProofs (disch := omega) only [go_sem]
 repeat' (first
   | (with_reducible apply Req_intro); focus (first | omega | assumption | (simp; done))
   | with_reducible (first | apply Req_intro | refine nilT ?_ fun hn => ?_ | apply wk_draw Try_mixed | refine drawEnd (by kernel_rfl) ?_)
   | (with_reducible (first | apply condA_if | apply stepDG_ifN | apply stepDG_if | apply stepG_ifN | apply stepG_if)) <;> intro hb <;> (have hif := hb) <;> (try simp only [bo] at hif) <;> (try simp -implicitDefEqProofs (disch := omega) only [go_sem, hb]) <;> clear hb
   | simp (maxSteps := 1000000) -implicitDefEqProofs (disch := omega) only [go_sem])
 refine callf [] (stuffs_spec bk e w) ?_
 try simp (maxSteps := 1000000) -implicitDefEqProofs (disch := omega) only [go_sem]
 repeat' (first
   | (with_reducible apply Req_intro); focus (first | omega | assumption | (simp; done))
   | with_reducible (first | apply Req_intro | refine nilT ?_ fun hn => ?_ | apply wk_draw Try_mixed | refine drawEnd (by kernel_rfl) ?_)
   | (with_reducible (first | apply condA_if | apply stepDG_ifN | apply stepDG_if | apply stepG_ifN | apply stepG_if)) <;> intro hb <;> (have hif := hb) <;> (try simp only [bo] at hif) <;> (try simp -implicitDefEqProofs (disch := omega) only [go_sem, hb]) <;> clear hb
   | simp (maxSteps := 1000000) -implicitDefEqProofs (disch := omega) only [go_sem])
 refine range_rows (α := Nat) [] (fun i => [(64, some ⟨1, [[.os 1408 2 i false]], 51, .wr⟩), (1408, some ⟨2, (spanL (outA bk w - backA bk w) i).map encS, 33, .wr⟩)]) (fun _ => 0) (fun _ => false) (fun i y => y = i ∧ i ≤ 1) (fun _ _ => False) 0 1472 (by first | (simp (maxSteps := 1000000) -implicitDefEqProofs (disch := omega) only [go_sem]; done) | (simp (maxSteps := 1000000) -implicitDefEqProofs (disch := omega) only [go_sem]; rfl)) (by first | (simp (maxSteps := 1000000) -implicitDefEqProofs (disch := omega) only [go_sem]; done) | (simp (maxSteps := 1000000) -implicitDefEqProofs (disch := omega) only [go_sem]; rfl)) (stuffs_it bk e h w) ?_ ?_ ?_ ?_ ?_ ?_ ?_ ?_ ?_ ?_ ?_ ?_ ?_
 · first | assumption | (simp only [go_sem] <;> assumption) | (simp only [go_sem, *]; done) | (simp [go_sem]; done)
 · intro y hy
   rw [List.mem_singleton] at hy
   subst hy
   rfl
 · simp only [spanL, List.replicate_zero, List.map_nil]
   exact weak_do [(1408, 1000000)]
 · rfl
 · rfl
 · exact ⟨rfl, Nat.zero_le _⟩
 · repeat' (first
     | with_reducible exact idsLt_nil
     | with_reducible refine idsLt_cons ?_ ?_
     | with_reducible exact IdLt.pu _ Pu_undef
     | with_reducible exact IdLt.pu _ (Pu_lit _)
     | ((with_reducible refine IdLt.ref _ _ _ _ ?_); decide)
     | ((with_reducible refine IdLt.os _ _ _ _ ?_); decide)
     | ((with_reducible refine IdLt.pu _ ?_); first | assumption | (simp only [go_sem] <;> assumption) | (simp only [go_sem, *]; done) | (simp [go_sem]; done))
     | (with_reducible refine idLt_fn ?_ ?_)
     | (with_reducible refine idLt_agg ?_))
 · decide
 · decide
 · rintro i x y ⟨hxi, hxl⟩ hy
   subst hxi
   have h0 : x = 0 := by
     cases x with
     | zero => rfl
     | succ i => cases hy
   subst h0
   obtain rfl : y = yAcc bk w := by cases hy; rfl
   simp only [yAcc, spanL, List.replicate_zero, List.map_nil]
   repeat' (first
     | (with_reducible apply Req_intro); focus (first | omega | assumption | (simp; done))
     | with_reducible (first | apply Req_intro | refine nilT ?_ fun hn => ?_ | apply wk_draw Try_mixed | refine drawEnd (by kernel_rfl) ?_)
     | (with_reducible (first | apply condA_if | apply stepDG_ifN | apply stepDG_if | apply stepG_ifN | apply stepG_if)) <;> intro hb <;> (have hif := hb) <;> (try simp only [bo] at hif) <;> (try simp -implicitDefEqProofs (disch := omega) only [go_sem, hb]) <;> clear hb
     | simp (maxSteps := 1000000) -implicitDefEqProofs (disch := omega) only [go_sem])
   refine calld (ohas_spec (outA bk w) (backA bk w) hb) ?_
   try simp (maxSteps := 1000000) -implicitDefEqProofs (disch := omega) only [go_sem]
   repeat' (first
     | (with_reducible apply Req_intro); focus (first | omega | assumption | (simp; done))
     | with_reducible (first | apply Req_intro | refine nilT ?_ fun hn => ?_ | apply wk_draw Try_mixed | refine drawEnd (by kernel_rfl) ?_)
     | (with_reducible (first | apply condA_if | apply stepDG_ifN | apply stepDG_if | apply stepG_ifN | apply stepG_if)) <;> intro hb <;> (have hif := hb) <;> (try simp only [bo] at hif) <;> (try simp -implicitDefEqProofs (disch := omega) only [go_sem, hb]) <;> clear hb
     | simp (maxSteps := 1000000) -implicitDefEqProofs (disch := omega) only [go_sem])
   all_goals first | (exfalso; omega) | omega | skip
   refine rnd_next (0 + 1) ⟨rfl, Nat.le_refl _⟩ ?_
   simp only [List.replicate_succ, List.replicate_zero, List.map_cons, List.map_nil]
   exact forget_do [(1408, 1856)]
 · rintro x ⟨hx, _⟩
   subst hx
   simp only [List.length_singleton]
   repeat' (first
     | (with_reducible apply Req_intro); focus (first | omega | assumption | (simp; done))
     | with_reducible (first | apply Req_intro | refine nilT ?_ fun hn => ?_ | apply wk_draw Try_mixed | refine drawEnd (by kernel_rfl) ?_)
     | (with_reducible (first | apply condA_if | apply stepDG_ifN | apply stepDG_if | apply stepG_ifN | apply stepG_if)) <;> intro hb <;> (have hif := hb) <;> (try simp only [bo] at hif) <;> (try simp -implicitDefEqProofs (disch := omega) only [go_sem, hb]) <;> clear hb
     | simp (maxSteps := 1000000) -implicitDefEqProofs (disch := omega) only [go_sem])
   simp only [spanL, List.replicate_succ, List.replicate_zero, List.map_cons, List.map_nil]
   exact rett [1408]
 · exact fun x h => h.elim
 · exact fun id x h => h.elim
end Go.Aw
end
section
namespace Go.Aw
open Go.RowKit
def outN (x : Int × Int) : Int := x.1 % 101
def bckN (x : Int × Int) : Int := x.2 % (outN x + 1)
theorem outN_bd (x : Int × Int) : 0 ≤ outN x ∧ outN x ≤ 100 := by unfold outN; omega
theorem bckN_bd (x : Int × Int) : 0 ≤ bckN x ∧ bckN x ≤ outN x := by
 have h := outN_bd x
 have h1 := Int.emod_nonneg x.2 (show outN x + 1 ≠ 0 by omega)
 have h2 := Int.emod_lt_of_pos x.2 (show 0 < outN x + 1 by omega)
 unfold bckN
 omega
def brH (bx : List (Int × Int)) (i : Nat) : List Int := (bx.take i).map outN
def feH (bx : List (Int × Int)) (i : Nat) : List Int := (bx.take i).map bckN
def bookH (bx : List (Int × Int)) : Nat → List Entry
 | 0 => []
 | i + 1 => bookH bx i ++ [⟨i, 1, outN (bx.getD i default)⟩, ⟨i, 2, bckN (bx.getD i default)⟩]
def diffH (bx : List (Int × Int)) : Nat → Int
 | 0 => 0
 | i + 1 => diffH bx i + (outN (bx.getD i default) - bckN (bx.getD i default))
theorem brH_len {bx : List (Int × Int)} {i : Nat} (h : i ≤ bx.length) : (brH bx i).length = i := by rw [brH, List.length_map, List.length_take]; omega
theorem feH_len {bx : List (Int × Int)} {i : Nat} (h : i ≤ bx.length) : (feH bx i).length = i := by rw [feH, List.length_map, List.length_take]; omega
theorem brH_succ {bx : List (Int × Int)} {i : Nat} (h : i < bx.length) : brH bx (i + 1) = brH bx i ++ [outN (bx.getD i default)] := by rw [brH, take_succ_getD h, List.map_append]; rfl
theorem feH_succ {bx : List (Int × Int)} {i : Nat} (h : i < bx.length) : feH bx (i + 1) = feH bx i ++ [bckN (bx.getD i default)] := by rw [feH, take_succ_getD h, List.map_append]; rfl
theorem brH_get {bx : List (Int × Int)} {n i : Nat} (hn : n ≤ bx.length) (h : i < n) : (brH bx n).getD i default = outN (bx.getD i default) := by
 rw [getD_default (by rw [brH_len hn]; exact h), getD_default (by omega)]
 simp [brH]
theorem feH_get {bx : List (Int × Int)} {n i : Nat} (hn : n ≤ bx.length) (h : i < n) : (feH bx n).getD i default = bckN (bx.getD i default) := by
 rw [getD_default (by rw [feH_len hn]; exact h), getD_default (by omega)]
 simp [feH]
theorem brH_rg {bx : List (Int × Int)} {i : Nat} : ∀ x ∈ brH bx i, 0 ≤ x ∧ x ≤ 100 := fun x hx => by
 obtain ⟨y, _, rfl⟩ := List.mem_map.1 hx
 exact outN_bd y
theorem feH_rg {bx : List (Int × Int)} {i : Nat} : ∀ x ∈ feH bx i, 0 ≤ x ∧ x ≤ 100 := fun x hx => by
 obtain ⟨y, _, rfl⟩ := List.mem_map.1 hx
 have h1 := outN_bd y
 have h2 := bckN_bd y
 omega
theorem bookH_len (bx : List (Int × Int)) : ∀ i, (bookH bx i).length = 2 * i
 | 0 => rfl
 | i + 1 => by rw [bookH, List.length_append, bookH_len bx i]; simp; omega
theorem bookH_ok (bx : List (Int × Int)) : ∀ i, i ≤ 6 → ∀ x ∈ bookH bx i, EntOkk x
 | 0, _, x, h => by cases h
 | i + 1, hi, x, h => by
   have h1 := outN_bd (bx.getD i default)
   have h2 := bckN_bd (bx.getD i default)
   rw [bookH, List.mem_append] at h
   rcases h with h | h
   · exact bookH_ok bx i (by omega) x h
   · simp only [List.mem_cons, List.not_mem_nil, or_false] at h
     rcases h with rfl | rfl
     · exact ⟨by simp only; omega, .inl rfl, by simp only; omega⟩
     · exact ⟨by simp only; omega, .inr rfl, by simp only; omega⟩
theorem kS_app {k : Int} {l r : List Entry} {w : Int} : ∀ i : Nat, i ≤ l.length → kS k (l ++ r) w i = kS k l w i
 | 0, _ => rfl
 | i + 1, h => by
   have e : (l ++ r).getD i default = l.getD i default := by
     rw [List.getD_eq_getElem?_getD, List.getD_eq_getElem?_getD, List.getElem?_append_left (by omega)]
   rw [kS, kS, kS_app i (by omega), e]
theorem kS_book (k : Int) (bx : List (Int × Int)) (w : Int) (i : Nat) : kS k (bookH bx (i + 1)) w (bookH bx (i + 1)).length =
   kS k (bookH bx i) w (bookH bx i).length + (if (i : Int) = w ∧ 1 = k then outN (bx.getD i default) else 0) + (if (i : Int) = w ∧ 2 = k then bckN (bx.getD i default) else 0) := by
 have hl := bookH_len bx i
 have e1 : (bookH bx (i + 1)).length = (2 * i + 1) + 1 := by rw [bookH_len]; omega
 have g1 : (bookH bx (i + 1)).getD (2 * i) default = ⟨i, 1, outN (bx.getD i default)⟩ := by
   rw [bookH, List.getD_eq_getElem?_getD, List.getElem?_append_right (by omega), show 2 * i - (bookH bx i).length = 0 by omega]; rfl
 have g2 : (bookH bx (i + 1)).getD (2 * i + 1) default = ⟨i, 2, bckN (bx.getD i default)⟩ := by
   rw [bookH, List.getD_eq_getElem?_getD, List.getElem?_append_right (by omega), show 2 * i + 1 - (bookH bx i).length = 1 by omega]; rfl
 have e2 : kS k (bookH bx (i + 1)) w (2 * i) = kS k (bookH bx i) w (bookH bx i).length := by
   rw [← hl, bookH, kS_app _ (Nat.le_refl _)]
 rw [e1, kS, kS, g1, g2, e2]
 simp only
 split <;> split <;> omega
theorem outA_book (bx : List (Int × Int)) (w : Nat) : ∀ n, outA (bookH bx n) w = if w < n then outN (bx.getD w default) else 0
 | 0 => by simp [outA, bookH, kS]
 | n + 1 => by
   have ih := outA_book bx w n
   unfold outA at ih ⊢
   rw [kS_book, ih]
   by_cases h : n = w
   · subst h
     simp
   · by_cases h2 : w < n
     · rw [if_pos h2, if_pos (by omega : w < n + 1), if_neg (by omega), if_neg (by omega)]; omega
     · rw [if_neg h2, if_neg (by omega : ¬ w < n + 1), if_neg (by omega), if_neg (by omega)]; omega
theorem backA_book (bx : List (Int × Int)) (w : Nat) : ∀ n, backA (bookH bx n) w = if w < n then bckN (bx.getD w default) else 0
 | 0 => by simp [backA, bookH, kS]
 | n + 1 => by
   have ih := backA_book bx w n
   unfold backA at ih ⊢
   rw [kS_book, ih]
   by_cases h : n = w
   · subst h
     simp
   · by_cases h2 : w < n
     · rw [if_pos h2, if_pos (by omega : w < n + 1), if_neg (by omega), if_neg (by omega)]; omega
     · rw [if_neg h2, if_neg (by omega : ¬ w < n + 1), if_neg (by omega), if_neg (by omega)]; omega
theorem kS_neg (k : Int) (bx : List (Int × Int)) (w : Int) (hw : w < 0) : ∀ n, kS k (bookH bx n) w (bookH bx n).length = 0
 | 0 => rfl
 | n + 1 => by
   rw [kS_book, kS_neg k bx w hw n, if_neg (by omega), if_neg (by omega)]; rfl
theorem book_ok (bx : List (Int × Int)) (n : Nat) (h6 : n ≤ 6) : BookOk (bookH bx n) := by
 refine ⟨bookH_ok bx n h6, by rw [bookH_len]; omega, fun w => ?_⟩
 rcases Int.lt_or_le w 0 with h | h
 · rw [kS_neg 2 bx w h, kS_neg 1 bx w h]; exact Int.le_refl 0
 · obtain ⟨m, rfl⟩ : ∃ m : Nat, w = m := ⟨w.toNat, by omega⟩
   have h1 := outA_book bx m n
   have h2 := backA_book bx m n
   unfold outA at h1
   unfold backA at h2
   rw [h1, h2]
   have := bckN_bd (bx.getD m default)
   split <;> omega
theorem homeS_book (bx : List (Int × Int)) (n : Nat) : ∀ i, homeS (bookH bx n) i = diffH bx (min i n)
 | 0 => by rw [Nat.zero_min]; rfl
 | i + 1 => by
   rw [homeS, homeS_book bx n i, outA_book, backA_book]
   by_cases h : i < n
   · rw [if_pos h, if_pos h, show min (i + 1) n = min i n + 1 by omega, diffH, show min i n = i by omega]
   · rw [if_neg h, if_neg h, show min (i + 1) n = min i n by omega]; omega
theorem diffH_bd (bx : List (Int × Int)) : ∀ i : Nat, 0 ≤ diffH bx i ∧ diffH bx i ≤ 100 * i
 | 0 => by simp [diffH]
 | i + 1 => by
   have ih := diffH_bd bx i
   have h1 := outN_bd (bx.getD i default)
   have h2 := bckN_bd (bx.getD i default)
   rw [diffH]
   omega
theorem home_loads {rb : List Int} {bx : List (Int × Int)} {n f : Nat} {holds : Int} (hn : n ≤ bx.length) :
   ((roads (taskR rb (brH bx n) (feH bx n) holds) (rotR (allN n) f)).map Leg.load).getD 0 default - ((roads (taskR rb (brH bx n) (feH bx n) holds) (rotR (allN n) f)).map Leg.load).getD n default = diffH bx n := by
 have ho := (allN_ord n).rot f
 have hl : (rotR (allN n) f).length = n := by rw [rotR_len, allN_len]
 have h0 : ((roads (taskR rb (brH bx n) (feH bx n) holds) (rotR (allN n) f)).map Leg.load).getD 0 default = sumBr (taskR rb (brH bx n) (feH bx n) holds) (rotR (allN n) f) := by
   unfold roads
   cases rotR (allN n) f with
   | nil => rw [legsR]; rfl
   | cons p r => rw [legsR]; rfl
 have h1 := legsR_last (taskR rb (brH bx n) (feH bx n) holds) (rotR (allN n) f) 0 0 (sumBr (taskR rb (brH bx n) (feH bx n) holds) (rotR (allN n) f)) ((taskR rb (brH bx n) (feH bx n) holds).leaves, (taskR rb (brH bx n) (feH bx n) holds).leaves)
 rw [hl] at h1
 rw [h0, show ((roads (taskR rb (brH bx n) (feH bx n) holds) (rotR (allN n) f)).map Leg.load).getD n default = _ from h1]
 have hp := sum_perm (((rotR_perm (allN n) f)).map fun p => (pAt (taskR rb (brH bx n) (feH bx n) holds) p).fetched - (pAt (taskR rb (brH bx n) (feH bx n) holds) p).brought)
 rw [hp]
 have key : ∀ i, i ≤ n → ((allN i).map fun p => (pAt (taskR rb (brH bx n) (feH bx n) holds) p).fetched - (pAt (taskR rb (brH bx n) (feH bx n) holds) p).brought).sum = - diffH bx i := by
   intro i
   induction i with
   | zero => intro _; rfl
   | succ i ih =>
     intro hi
     have hpa : pAt (taskR rb (brH bx n) (feH bx n) holds) ((i : Int) + 1) = plM rb (brH bx n) (feH bx n) i := by
       rw [pAt_task (by rw [brH_len hn]; omega)]
       congr 1
       omega
     rw [allN_succ, List.map_append, List.sum_append, ih (by omega), diffH]
     simp only [List.map_cons, List.map_nil, List.sum_cons, List.sum_nil]
     rw [hpa]
     show -diffH bx i + ((feH bx n).getD i default - (brH bx n).getD i default + 0) = _
     rw [feH_get hn (by omega), brH_get hn (by omega)]
     omega
 rw [key n (Nat.le_refl n)]
 omega
end Go.Aw
end
