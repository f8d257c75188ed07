/-
  A part of the proof that a law returns true for every input that the given row speaks of: an own verified walk over the program (namespace Go.Aw), contracts of the functions that the law calls, and the law itself. Conditions: those of the given row, no other.
-/
import Derived.Test.YtgpeegdinblnoaaDoorPart6
import Derived.ProofKit
import Derived.Lib.SmallJoins
set_option linter.unusedVariables false
set_option linter.unusedSimpArgs false
section
set_option maxRecDepth 100000
namespace Go.Aw
open Go.RowKit Go.ChangeShapes Go.WideShapes Go.Proofs
section
variable {H : Type} {enc : TypeId × Value → H} {w : World}
theorem gint_read {n : Nat} {cs : List Value} {x : DataW H × List MemPlace} (h : DataW.trod enc Tryd.prog w 0 (fun _ => true) true n 3 cs = some x) : ∃ i, cs = [.int .i64 i] := by
 obtain ⟨i, e, _⟩ := int_rep Tryd.underlying3 h
 exact ⟨i, e⟩
theorem gints_read {n : Nat} {cs : List Value} {x : DataW H × List MemPlace} (h : DataW.trod enc Tryd.prog w 0 (fun _ => true) true n 22 cs = some x) (hw : ∀ m ∈ x.1.weights Tryd.prog 22, m ≤ reachBytes) :
   ∃ (v : Value) (l : List Int), cs = [v] ∧ l.length ≤ reachBytes ∧ (∀ a ∈ l, True) ∧ Rep w (okAll w) (fun _ => none) v (.sl 1 (l.map encI) false) :=
 slice_rep (k := 1) (en := encI) (q := fun _ => True) (by decide) Tryd.underlying22 (by kernel_rfl) (of_decide_eq_true (by kernel_rfl)) (fun _ => rfl) (fun n cs x h _ => by
   obtain ⟨i, rfl⟩ := gint_read h
   refine ⟨i, trivial, rfl, fun k d u hd hu => ?_⟩
   match k with
   | 0 => cases hd; cases hu; exact .lit _ rfl
   | k + 1 => cases hd) (fun b o u h => ⟨u, h⟩) h hw
theorem guard_read (n : Nat) (cs : List Value) (x : DataW H × List MemPlace) (h : DataW.trod enc Tryd.prog w 0 (fun _ => true) true n 24 cs = some x) (hw : ∀ m ∈ x.1.weights Tryd.prog 24, m ≤ reachBytes) :
   ∃ a : Grd, a.2.length ≤ reachBytes ∧ RepL w (okAll w) cs (encGd a) := by
 obtain ⟨u, v, y, z, m, rfl, h1, h2, _, h3⟩ := struct2_cells Tryd.underlying24 (by kernel_rfl) rfl rfl (by kernel_rfl) (by kernel_rfl) h hw
 obtain ⟨i, e1⟩ := gint_read h1
 obtain ⟨v, l, e, hl, _, hr⟩ := gints_read h2 h3
 cases e
 cases e1
 refine ⟨(i, l), hl, rfl, fun k d u hd hu => ?_⟩
 match k with
 | 0 => cases hd; cases hu; exact .lit _ rfl
 | 1 => cases hd; cases hu; exact hr
 | k + 2 => cases hd
theorem guardA_read {base : Nat} {v : Value} {d : DataW H} {p : List MemPlace} (hv : Value.okWide Tryd.prog w .any base 24 v) (h : DataW.Trod enc Tryd.prog w 0 (fun _ => true) true 24 v d p) (hw : ∀ m ∈ d.weights Tryd.prog 24, m ≤ reachBytes) :
   ∃ a : Grd, Rep w (okAll w) (fun _ => none) v (.agg (encGd a)) ∧ a.2.length ≤ 4611686018427387904 := by
 obtain ⟨vs, rfl, hsz⟩ := okWide_struct Tryd.underlying24 hv
 obtain ⟨n, h⟩ := h
 obtain ⟨a, hl, hr⟩ := guard_read _ _ _ h hw
 have hr2 : reachBytes ≤ 4611686018427387904 := by decide
 refine ⟨a, .agg vs _ (by rw [← Array.length_toList]; exact hr.1) fun i d u hd hu => hr.2 i d u hd ?_, by omega⟩
 have : (Value.agg vs).cells.toList = vs.toList := rfl
 rw [this, Array.getElem?_toList]; exact hu
theorem gaugeA_read {base : Nat} {v : Value} {d : DataW H} {p : List MemPlace} (hv : Value.okWide Tryd.prog w .any base 26 v) (h : DataW.Trod enc Tryd.prog w 0 (fun _ => true) true 26 v d p) :
   ∃ g : Gau, Rep w (okAll w) (fun _ => none) v (encGa g) := by
 obtain ⟨vs, rfl, hsz⟩ := okWide_struct Tryd.underlying26 hv
 obtain ⟨n, h⟩ := h
 obtain ⟨y0, y1, y2, y3, m, e, hl, g0, g1, g2, g3⟩ := Go.Joins.trod_struct4 Tryd.underlying26 h
 have hc4 : Tryd.prog.cellsOf 26 = 4 := by kernel_rfl
 have hc1 : Tryd.prog.cellsOf 3 = 1 := by kernel_rfl
 rw [hc4] at hl
 simp only [hc1] at g0 g1 g2 g3
 have hl' : vs.toList.length = 4 := hl
 have hcs : (Value.agg vs).cells.toList = vs.toList := rfl
 rw [hcs] at g0 g1 g2 g3
 match hvs : vs.toList, hl' with
 | [c0, c1, c2, c3], _ =>
   rw [hvs] at g0 g1 g2 g3
   simp only [List.drop_zero, List.drop_succ_cons, List.take_succ_cons, List.take_zero] at g0 g1 g2 g3
   obtain ⟨i0, e0⟩ := gint_read g0
   obtain ⟨i1, e1⟩ := gint_read g1
   obtain ⟨i2, e2⟩ := gint_read g2
   obtain ⟨i3, e3⟩ := gint_read g3
   cases e0
   cases e1
   cases e2
   cases e3
   refine ⟨⟨i0, i1, i2, i3⟩, .agg vs _ (by rw [← Array.length_toList, hvs]; rfl) fun i d u hd hu => ?_⟩
   have hu' : vs.toList[i]? = some u := by rw [Array.getElem?_toList]; exact hu
   rw [hvs] at hu'
   match i with
   | 0 => cases hd; cases hu'; exact .lit _ rfl
   | 1 => cases hd; cases hu'; exact .lit _ rfl
   | 2 => cases hd; cases hu'; exact .lit _ rfl
   | 3 => cases hd; cases hu'; exact .lit _ rfl
   | i + 4 => cases hd
theorem stockA_read {base : Nat} {v : Value} {d : DataW H} {p : List MemPlace} (hv : Value.okWide Tryd.prog w .any base 38 v) (h : DataW.Trod enc Tryd.prog w 0 (fun _ => true) true 38 v d p) (hw : ∀ m ∈ d.weights Tryd.prog 38, m ≤ reachBytes) :
   ∃ ls rs : List Grd, Rep w (okAll w) (fun _ => none) v (encSt ls rs false false) ∧ ls.length ≤ 4611686018427387904 ∧ rs.length ≤ 4611686018427387904 ∧ (∀ x ∈ ls, x.2.length ≤ 4611686018427387904) ∧ (∀ x ∈ rs, x.2.length ≤ 4611686018427387904) := by
 obtain ⟨vs, rfl, hsz⟩ := okWide_struct Tryd.underlying38 hv
 obtain ⟨n, h⟩ := h
 obtain ⟨a, b, y, z, m, e, h1, h2, h3, h4⟩ := struct2_cells Tryd.underlying38 (by kernel_rfl) rfl rfl (by kernel_rfl) (by kernel_rfl) h hw
 obtain ⟨v1, ls, e1, hl1, hq1, hr1⟩ := slice_rep (k := 2) (en := encGd) (by decide) Tryd.underlying28 (by kernel_rfl) (of_decide_eq_true (by kernel_rfl)) (fun _ => rfl) guard_read (fun b o u h => ⟨u, h⟩) h1 h3
 obtain ⟨v2, rs, e2, hl2, hq2, hr2⟩ := slice_rep (k := 2) (en := encGd) (by decide) Tryd.underlying28 (by kernel_rfl) (of_decide_eq_true (by kernel_rfl)) (fun _ => rfl) guard_read (fun b o u h => ⟨u, h⟩) h2 h4
 cases e1
 cases e2
 have hr : reachBytes ≤ 4611686018427387904 := by decide
 refine ⟨ls, rs, .agg vs _ (by rw [← Array.length_toList]; exact congrArg List.length e) fun i d u hd hu => ?_, by omega, by omega, fun b hb => Nat.le_trans (hq1 b hb) hr, fun c hc => Nat.le_trans (hq2 c hc) hr⟩
 have e' : vs.toList = [a, b] := e
 have hu' : vs.toList[i]? = some u := by rw [Array.getElem?_toList]; exact hu
 rw [e'] at hu'
 match i with
 | 0 => cases hd; cases hu'; exact hr1
 | 1 => cases hd; cases hu'; exact hr2
 | i + 2 => cases hd
end
noncomputable def laidWorld (os : Os) : World :=
 let w0 := World.holding Tryd.prog os ⟨#[], #[], []⟩
 let put (w : World) (g : Nat) (vs : List Int) : World := { w with heap := w.heap.modify g fun
     | .cells _ t frozen => .cells (vs.map (Value.int .u8)).toArray t frozen
     | o => o }
 put (put w0 0 [0, 1, 28, 2, 29, 14, 24, 3, 30, 22, 20, 15, 25, 17, 4, 8, 31, 27, 13, 23, 21, 19, 16, 7, 26, 12, 18, 6, 11, 5, 10, 9]) 1
   [0, 1, 56, 2, 57, 49, 28, 3, 61, 58, 42, 50, 38, 29, 17, 4, 62, 47, 59, 36, 45, 43, 51, 22, 53, 39, 33, 30, 24, 18, 12, 5, 63, 55, 48, 27, 60, 41, 37, 16, 46, 35, 44, 21, 52, 32, 23, 11, 54, 26, 40, 15, 34, 20, 31, 10, 25, 14, 19, 9, 13, 8, 7, 6]
theorem laidWorld_met (os : Os) (args : Array Value) : laidMetH Tryd.prog YtgpeegdinblnoaaDoor.Rows.guardAlikesRow.laid ((laidWorld os).forCall (fun _ _ => 0) ⟨#[], args, []⟩).memory := by
 show laidMet _ _ _
 exact laidMet_of_run' 8 (by kernel_rfl) (by kernel_rfl)
end Go.Aw
end
section
set_option maxRecDepth 100000
namespace Go.Proofs.YtgpeegdinblnoaaDoor
open Go Go.Aw Go.RowKit Go.ChangeShapes Go.WideShapes
theorem guardCuts_wit (os : Os) (H : Type) (enc : TypeId × Value → H) : ∃ (w : World) (tape : Tape) (i : Input), w.os = os ∧ (w.forCall tape i).Shaped Tryd.checked.prog ∧ i.vars = [] ∧ Input.okWide Tryd.checked.prog (w.forCall tape i) .any w.heap.size 8 i ∧
     ((Rows.guardCutsSpec.pre enc Tryd.checked.prog Tryd.f8 [] false (w.forCall tape i).memory i.args ∧ laidMetH Tryd.prog Rows.guardCutsRow.laid (w.forCall tape i).memory) ∧ sizedMet enc Tryd.checked.prog Tryd.f8 (OpenSpec.ofChange Rows.guardCutsSpec) false (w.forCall tape i).memory i.args) ∧ ({} : Assume).holds Tryd.checked.prog (lone (Frame.enter Tryd.checked.prog 8 i.args .normal) [] (w.forCall tape i)) :=
 ChangeSpec.witness_at (enc := enc) (C := Tryd.checked) (os := os) (X := fun w _ => laidMetH Tryd.prog Rows.guardCutsRow.laid w) false (laidWorld os) #[.agg #[.slice none 0 0, .slice none 0 0], .agg #[.int .i64 0, .int .i64 0, .int .i64 0, .int .i64 0]] 8 rfl (by kernel_rfl) (by kernel_rfl) (by kernel_rfl) (by kernel_rfl) (by kernel_rfl) (laidWorld_met os _)
theorem guardCuts_said : Rows.GuardCutsSaid :=
 OpenClaim.holds_of_wide 8 Tryd.f8 rfl rfl rfl rfl rfl rfl rfl ⟨rfl, rfl, rfl, rfl, rfl⟩ rfl rfl rfl rfl rfl (by kernel_rfl) Tryd.func8 (by kernel_rfl)
   (of_decide_eq_true (by kernel_rfl)) (by unfold Func.isWrapper; first | (rw [if_pos (by decide +kernel)]; kernel_rfl) | (rw [if_neg (by decide +kernel)]; exact ⟨rfl, rfl⟩))
   (fun os started H enc _ => lifted_of Tryd.func8 rfl (by kernel_rfl) (fun H ds hd => by
       match ds, hd with
       | [_, _], _ => rfl) (by kernel_rfl) (fun t ht => by
         have : Tryd.f8.params.toList.all (fun t => decide (t < Tryd.prog.types.size)) = true := by kernel_rfl
         simpa using List.all_eq_true.1 this t ht)
     (fun {H enc} w base args ds p hv hA hw => by
       rw [Tryd.params8] at hA hv hw
       obtain ⟨v0, vs0, d0, ds0, p0, q0, e0, rfl, _, g0, r0⟩ := trodAll_cons hA
       obtain ⟨v1, vs1, d1, ds1, p1, q1, rfl, rfl, _, g1, r1⟩ := trodAll_cons r0
       obtain ⟨rfl, rfl, _⟩ := trodAll_nil r1
       obtain rfl : args = #[v0, v1] := by cases args; simp_all
       obtain ⟨a0, b0, h0, k0, l0, m0, n0⟩ := stockA_read (hv 0 38 v0 rfl rfl) g0 (fun m hm => hw m (by simp only [DataW.weightsEach, List.mem_append]; exact .inl hm))
       obtain ⟨a1, h1⟩ := gaugeA_read (hv 1 26 v1 rfl rfl) g1
       refine ⟨[encSt a0 b0 false false, encGa a1], rfl, fun i d u hd hu => ?_, (GuardCuts_spec a0 b0 a1 k0 l0 m0 n0 ).1⟩
       match i with
       | 0 => cases hd; cases hu; exact h0
       | 1 => cases hd; cases hu; exact h1
       | i + 2 => cases hd) os started H enc (guardCuts_wit os H enc))
theorem guardCuts_card : Rows.GuardCutsCardSaid :=
 Claim7.holds_tied_plain_at .later [] [.data, .data] true (true, "2743f537752629cc39242edba28dddd2878ae44136102d9440533fb6bdff82ae") false
   guardCuts_said (fun _ h => by cases h) (by kernel_rfl) (fun _ h => by cases h) guardCuts_row_tie rfl ⟨rfl, rfl⟩ (by kernel_rfl) rfl
   (fun f fn hf hfn => by
     obtain rfl : f = 8 := Option.some.inj ((show Tryd.prog.funcNamed "panache/panachelaw06.GuardCuts" = some 8 by kernel_rfl).symm.trans hf) |>.symm
     obtain rfl : fn = Tryd.f8 := (Option.some.inj (Tryd.func8.symm.trans hfn)).symm
     exact ⟨by kernel_rfl, fun j t ht => by
       have h3 : Tryd.f8.params.toList.all (fun t => !Tryd.prog.wantsStandIn t) = true := by kernel_rfl
       have h4 : (!Tryd.prog.wantsStandIn t) = true := List.all_eq_true.1 h3 t (by rw [← Array.getElem?_toList] at ht; exact List.mem_of_getElem? ht)
       have h5 : Tryd.prog.wantsStandIn t = false := by rwa [Bool.not_eq_true'] at h4
       exact h5⟩)
   (by kernel_rfl)
#print axioms guardCuts_card
end Go.Proofs.YtgpeegdinblnoaaDoor
end
