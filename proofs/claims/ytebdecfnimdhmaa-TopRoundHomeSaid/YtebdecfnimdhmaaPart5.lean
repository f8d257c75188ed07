/-
  A part of the proof that a law returns true for every input that the given row speaks of: an own verified walk over the program (namespace Go.Aw), contracts of the functions that the law calls, and the law itself. Conditions: those of the given row, no other.
-/
import Derived.Test.YtebdecfnimdhmaaPart4
set_option linter.unusedVariables false
set_option linter.unusedSimpArgs false
section
set_option maxRecDepth 20000
set_option maxHeartbeats 4000000
namespace Go.Aw
open Go.RowKit Go.Proofs
theorem Load_none (t : Task) (ht : TaskOk t) (e : Bool) : Ct Try.prog 9 [encT t, .sl 1 [] e] (.tup [nilV, int 0]) := by
 have ho : OrdOk t.ps.length [] := ⟨List.nodup_nil, fun x h => by cases h⟩
 refine ct_enterT Try.func9 rfl (by decide) Try.results9 Try.ntmps9 ?_ rfl (by simp (maxSteps := 1000000) -implicitDefEqProofs (disch := omega) only [go_sem]; rfl) fun base => ?_
 · first | assumption | (simp only [go_sem] <;> assumption) | (simp only [go_sem, *]; done) | (simp [go_sem]; done)
 repeat' (first
   | (with_reducible apply Req_intro); focus (first | omega | assumption | (simp; done))
   | with_reducible (first | apply Req_intro | refine nilT ?_ fun hn => ?_ | apply wk_draw Try_mixed | refine drawEnd (by kernel_rfl) ?_)
   | (with_reducible (first | apply condA_if | apply stepDG_ifN | apply stepDG_if | apply stepG_ifN | apply stepG_if)) <;> intro hb <;> (have hif := hb) <;> (try simp only [bo] at hif) <;> (try simp -implicitDefEqProofs (disch := omega) only [go_sem, hb]) <;> clear hb
   | simp (maxSteps := 1000000) -implicitDefEqProofs (disch := omega) only [go_sem])
 refine callp (openOrder_spec t ht [] e ho) ?_
 try simp (maxSteps := 1000000) -implicitDefEqProofs (disch := omega) only [go_sem]
 repeat' (first
   | (with_reducible apply Req_intro); focus (first | omega | assumption | (simp; done))
   | with_reducible (first | apply Req_intro | refine nilT ?_ fun hn => ?_ | apply wk_draw Try_mixed | refine drawEnd (by kernel_rfl) ?_)
   | (with_reducible (first | apply condA_if | apply stepDG_ifN | apply stepDG_if | apply stepG_ifN | apply stepG_if)) <;> intro hb <;> (have hif := hb) <;> (try simp only [bo] at hif) <;> (try simp -implicitDefEqProofs (disch := omega) only [go_sem, hb]) <;> clear hb
   | simp (maxSteps := 1000000) -implicitDefEqProofs (disch := omega) only [go_sem])
 all_goals first | (exfalso; exact absurd rfl ‹_›) | skip
 exact rett []
def encBy (x : Int × Int) : List V := [u8r x.1, u8r x.2]
@[go_sem] theorem encBy_eq (x : Int × Int) : encBy x = [u8r x.1, u8r x.2] := rfl
structure BxOk (x : Int × Int) : Prop where
 a : 0 ≤ x.1 ∧ x.1 ≤ 255
 b : 0 ≤ x.2 ∧ x.2 ≤ 255
def dozL (bx : List (Int × Int)) (i : Nat) : List Int := (bx.take i).map fun x => x.2 % 50
def ownL (bx : List (Int × Int)) (i : Nat) : List Int := (bx.take i).map fun x => x.1 % 2
def many6 (bx : List (Int × Int)) : Nat := min bx.length 6
theorem weak_snapRow {tm : List V} {nx : Nat} {gh : Gh} {st : St} (ids : List Nat) (id : Nat) {l l' l2 : List (Nat × Option Blk)} {k : Nat} {es : List (List V)} {ty : TypeId} {md : Mode'} (es' : List (List V))
   (hl : frzL ids l = l') (hb : hpOf (fun _ => none) l' id = some ⟨k, es, ty, md⟩) (hp : PurE true (hpOf (fun _ => none) l') es es') (hpu : PuE es') (hs : hset id (some ⟨k, es', ty, md⟩) l' = l2) (h : Weak ⟨tm, hpOf (fun _ => none) l2, nx, gh⟩ st) :
   Weak ⟨tm, hpOf (fun _ => none) l, nx, gh⟩ st := by
 subst hl hs
 refine (Weak.snap ids (tm' := tm) rfl fun t d d' hd hd' => .inl (by rw [hd] at hd'; exact (Option.some.inj hd').symm)).trans ?_
 rw [frz_hpOf]
 refine (Weak.rowSnap id hb hp hpu).trans ?_
 rw [upd_hpOf]
 exact h
def lastTo (k : Nat) (s : Int) (c : Nat) : Int := if k < c then s else 0
structure TlS (G : Prop) : Prop where
 h : G
structure SplitS (P : Prop) where
 G0 : Prop
 G1 : Prop
 G2 : Prop
 h : TlS G0 → TlS G1 → TlS G2 → P
theorem cutG {A B : Prop} (h : (True → A) → B) (p : A) : B := h fun _ => p
@[go_sem] theorem bytC_take (rb : List Int) (n : Nat) (h : rb.length ≤ n) : (bytC rb).take n = bytC rb := List.take_of_length_le (by simpa [bytC] using h)
end Go.Aw
end
