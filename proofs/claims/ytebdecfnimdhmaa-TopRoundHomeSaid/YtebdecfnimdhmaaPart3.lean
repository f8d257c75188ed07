/-
  A part of the proof that a law returns true for every input that the given row speaks of: an own verified walk over the program (namespace Go.Aw), contracts of the functions that the law calls, and the law itself. Conditions: those of the given row, no other.
-/
import Derived.Test.YtebdecfnimdhmaaPart2
set_option linter.unusedVariables false
set_option linter.unusedSimpArgs false
section
namespace Go.Aw
open Go.RowKit
section
variable {P : Program} {g : FuncId} {first cap args as as' : List V} {dst : Option Tmp} {K : St → Prop} {tm : List V} {h h' : Hp} {nx : Nat} {gh : Gh} {r : V}
theorem weak_do (ρl : List (Nat × Nat)) {tm tm' : List V} {h : Hp} {l' : List (Nat × Option Blk)} {nx nx' : Nat} {gh : Gh} (hlow : (ρl.all fun p => decide (gh.lim ≤ p.1)) = true := by rfl)
   (ht : RenL (renOf ρl) nx' tm' tm := by
     repeat' (first
       | with_reducible (first | exact RenL.nil | refine RenL.cons _ _ _ _ ?_ ?_ | exact Ren.any _ | exact Ren.lit _)
       | (with_reducible (first | refine Ren.int _ _ _ ?_ | refine Ren.bool _ _ ?_)) <;> (first | rfl | omega | (simp <;> omega) | (simp only [go_sem]; done) | (push_cast; omega))
       | with_reducible (first | exact Ren.nil _ _ _ | exact Ren.nilsl _ _ | exact RowsRen.nil | exact RenE.nil)
       | (with_reducible refine Ren.ref _ _ _ _ _ ?_ ?_) <;> decide
       | (with_reducible refine Ren.osN _ _ ?_ ?_ ?_ ?_) <;> (first | decide | first | rfl | omega | (simp <;> omega) | (simp only [go_sem]; done) | (push_cast; omega) | (intro h; exact h) | (intro h; cases h))
       | with_reducible (first | refine Ren.fnL _ _ ?_ ?_ | refine Ren.aggL _ _ ?_)
       | (with_reducible (first | refine Ren.pu _ ?_ | refine RenE.puE ?_)) <;> (first | assumption | (simp only [go_sem] <;> assumption) | (simp only [go_sem, *]; done) | (simp [go_sem]; done))
       | (with_reducible apply RowsRen.row); (focus decide); (focus rfl)
       | (with_reducible refine RowsRen.virt _ _ _ _ _ ?_ ?_ ?_ ?_); (focus decide); (focus decide); (focus decide)
       | with_reducible (first | refine RowsRen.gone _ _ ?_ | refine RenE.cons _ _ _ _ ?_ ?_)
       | (with_reducible (first | refine Ren.slE _ _ _ ?_ ?_ | refine RenE.eqE ?_ ?_)); (focus (first | rfl | omega | (simp <;> omega) | (simp only [go_sem]; done) | (push_cast; omega))); (focus (first | assumption | (simp only [go_sem] <;> assumption) | (simp only [go_sem, *]; done) | (simp [go_sem]; done)))
       | (with_reducible refine RenL.puL ?_) <;> (first | assumption | (simp only [go_sem] <;> assumption) | (simp only [go_sem, *]; done) | (simp [go_sem]; done))
       | (with_reducible refine RenL.eqL ?_ ?_); (focus (first | rfl | omega | (simp <;> omega) | (simp only [go_sem]; done) | (push_cast; omega))); (focus (first | assumption | (simp only [go_sem] <;> assumption) | (simp only [go_sem, *]; done) | (simp [go_sem]; done)))))
   (hh : RowsRen (renOf ρl) nx' nx h l' := by
     repeat' (first
       | with_reducible (first | exact RenL.nil | refine RenL.cons _ _ _ _ ?_ ?_ | exact Ren.any _ | exact Ren.lit _)
       | (with_reducible (first | refine Ren.int _ _ _ ?_ | refine Ren.bool _ _ ?_)) <;> (first | rfl | omega | (simp <;> omega) | (simp only [go_sem]; done) | (push_cast; omega))
       | with_reducible (first | exact Ren.nil _ _ _ | exact Ren.nilsl _ _ | exact RowsRen.nil | exact RenE.nil)
       | (with_reducible refine Ren.ref _ _ _ _ _ ?_ ?_) <;> decide
       | (with_reducible refine Ren.osN _ _ ?_ ?_ ?_ ?_) <;> (first | decide | first | rfl | omega | (simp <;> omega) | (simp only [go_sem]; done) | (push_cast; omega) | (intro h; exact h) | (intro h; cases h))
       | with_reducible (first | refine Ren.fnL _ _ ?_ ?_ | refine Ren.aggL _ _ ?_)
       | (with_reducible (first | refine Ren.pu _ ?_ | refine RenE.puE ?_)) <;> (first | assumption | (simp only [go_sem] <;> assumption) | (simp only [go_sem, *]; done) | (simp [go_sem]; done))
       | (with_reducible apply RowsRen.row); (focus decide); (focus rfl)
       | (with_reducible refine RowsRen.virt _ _ _ _ _ ?_ ?_ ?_ ?_); (focus decide); (focus decide); (focus decide)
       | with_reducible (first | refine RowsRen.gone _ _ ?_ | refine RenE.cons _ _ _ _ ?_ ?_)
       | (with_reducible (first | refine Ren.slE _ _ _ ?_ ?_ | refine RenE.eqE ?_ ?_)); (focus (first | rfl | omega | (simp <;> omega) | (simp only [go_sem]; done) | (push_cast; omega))); (focus (first | assumption | (simp only [go_sem] <;> assumption) | (simp only [go_sem, *]; done) | (simp [go_sem]; done)))
       | (with_reducible refine RenL.puL ?_) <;> (first | assumption | (simp only [go_sem] <;> assumption) | (simp only [go_sem, *]; done) | (simp [go_sem]; done))
       | (with_reducible refine RenL.eqL ?_ ?_); (focus (first | rfl | omega | (simp <;> omega) | (simp only [go_sem]; done) | (push_cast; omega))); (focus (first | assumption | (simp only [go_sem] <;> assumption) | (simp only [go_sem, *]; done) | (simp [go_sem]; done)))))
   (hi : renInj (renOf ρl) (keysOf l') = true := by rfl) (hl : gh.lim ≤ nx' := by exact Nat.zero_le _) : Weak ⟨tm, h, nx, gh⟩ ⟨tm', hpOf (fun _ => none) l', nx', gh⟩ := Weak.rows ρl hl hlow ht hh hi
theorem forget_do (ρl : List (Nat × Nat)) {tm : List V} {h : Hp} {l' : List (Nat × Option Blk)} {nx nx' : Nat} {gh gh' : Gh} (hgh : gh = gh' := by first | rfl | (simp; omega)) (hl : gh.lim ≤ nx' := by exact Nat.le_of_ble_eq_true rfl) (hlow : (ρl.all fun p => decide (gh.lim ≤ p.1)) = true := by rfl)
   (hh : RowsRen (renOf ρl) nx' nx h l' := by
     repeat' (first
       | with_reducible (first | exact RenL.nil | refine RenL.cons _ _ _ _ ?_ ?_ | exact Ren.any _ | exact Ren.lit _)
       | (with_reducible (first | refine Ren.int _ _ _ ?_ | refine Ren.bool _ _ ?_)) <;> (first | rfl | omega | (simp <;> omega) | (simp only [go_sem]; done) | (push_cast; omega))
       | with_reducible (first | exact Ren.nil _ _ _ | exact Ren.nilsl _ _ | exact RowsRen.nil | exact RenE.nil)
       | (with_reducible refine Ren.ref _ _ _ _ _ ?_ ?_) <;> decide
       | (with_reducible refine Ren.osN _ _ ?_ ?_ ?_ ?_) <;> (first | decide | first | rfl | omega | (simp <;> omega) | (simp only [go_sem]; done) | (push_cast; omega) | (intro h; exact h) | (intro h; cases h))
       | with_reducible (first | refine Ren.fnL _ _ ?_ ?_ | refine Ren.aggL _ _ ?_)
       | (with_reducible (first | refine Ren.pu _ ?_ | refine RenE.puE ?_)) <;> (first | assumption | (simp only [go_sem] <;> assumption) | (simp only [go_sem, *]; done) | (simp [go_sem]; done))
       | (with_reducible apply RowsRen.row); (focus decide); (focus rfl)
       | (with_reducible refine RowsRen.virt _ _ _ _ _ ?_ ?_ ?_ ?_); (focus decide); (focus decide); (focus decide)
       | with_reducible (first | refine RowsRen.gone _ _ ?_ | refine RenE.cons _ _ _ _ ?_ ?_)
       | (with_reducible (first | refine Ren.slE _ _ _ ?_ ?_ | refine RenE.eqE ?_ ?_)); (focus (first | rfl | omega | (simp <;> omega) | (simp only [go_sem]; done) | (push_cast; omega))); (focus (first | assumption | (simp only [go_sem] <;> assumption) | (simp only [go_sem, *]; done) | (simp [go_sem]; done)))
       | (with_reducible refine RenL.puL ?_) <;> (first | assumption | (simp only [go_sem] <;> assumption) | (simp only [go_sem, *]; done) | (simp [go_sem]; done))
       | (with_reducible refine RenL.eqL ?_ ?_); (focus (first | rfl | omega | (simp <;> omega) | (simp only [go_sem]; done) | (push_cast; omega))); (focus (first | assumption | (simp only [go_sem] <;> assumption) | (simp only [go_sem, *]; done) | (simp [go_sem]; done)))))
   (hi : renInj (renOf ρl) (keysOf l') = true := by rfl) : Weak ⟨tm, h, nx, gh⟩ (forget ⟨tm, h, nx, gh⟩ (hpOf (fun _ => none) l') nx' gh') := weak_forget ρl hgh hl hlow hh hi
theorem nxt_w {α : Type} {J : α → Prop} {m : α → Nat} {S : α → St} {x : α} {st : St} (y : α) (hw : Weak st (S y)) (hJ : J y) (hm : m y < m x := by
   (try dsimp only)
   first | omega | (simp; omega) | (simp_all; omega)) : Nxt J m S x st := ⟨y, hJ, hm, hw⟩
theorem callp (hc : Ct P g as r) (hk : K ⟨putT tm dst r, h, nx, gh⟩) (ha : first ++ args ++ cap = as := by first | (simp only [go_sem]; done) | (simp only [go_sem]; rfl)) (hp : PuL as := by first | assumption | (simp only [go_sem] <;> assumption) | (simp only [go_sem, *]; done) | (simp [go_sem]; done)) (hr : Pu r := by first | assumption | (simp only [go_sem] <;> assumption) | (simp only [go_sem, *]; done) | (simp [go_sem]; done)) : CallA P (.fn (.func g) first cap) args dst K ⟨tm, h, nx, gh⟩ := call_pu ha hp hc hr hk
theorem calld {K : V → List Nat → Wr → Prop} (hc : Ct P g as r) (hk : K r [] []) (ha : first ++ args ++ cap = as := by first | (simp only [go_sem]; done) | (simp only [go_sem]; rfl)) (hp : PuL as := by first | assumption | (simp only [go_sem] <;> assumption) | (simp only [go_sem, *]; done) | (simp [go_sem]; done)) (hr : Pu r := by first | assumption | (simp only [go_sem] <;> assumption) | (simp only [go_sem, *]; done) | (simp [go_sem]; done)) : CallD P (.fn (.func g) first cap) args h nx K := call_dp ha hp hc hr hk
theorem callc {av : List V} (hc : Ct P g as' r) (hk : K ⟨putT tm dst r, h, nx, gh⟩) (ha : first ++ args ++ cap = as := by first | (simp only [go_sem]; done) | (simp only [go_sem]; rfl)) (hp : PurI false h as av := by
     (try simp (maxSteps := 1000000) -implicitDefEqProofs (disch := omega) only [go_sem])
     repeat' (first
       | with_reducible (first | exact PurI.nil | exact Pur.nilsl _ _ | exact PurE.nil)
       | (with_reducible (first | refine PurI.puL ?_ | refine PurE.puE ?_)) <;> (first | assumption | (simp only [go_sem] <;> assumption) | (simp only [go_sem, *]; done) | (simp [go_sem]; done))
       | with_reducible apply PurI.cons
       | (with_reducible refine Pur.pu _ ?_) <;> (first | assumption | (simp only [go_sem] <;> assumption) | (simp only [go_sem, *]; done) | (simp [go_sem]; done))
       | ((with_reducible apply Pur.refR) <;> (first | rfl | decide | (simp only [go_sem]; omega) | (simp only [go_sem]) | skip))
       | ((with_reducible apply Pur.osR) <;> (first | rfl | exact fun h => h | omega | (simp; omega) | (simp; done) | (simp only [go_sem]) | skip))
       | with_reducible (first | apply Pur.fnI | apply Pur.aggI | apply PurE.cons)
       | (with_reducible refine PurI.eqL ?_ ?_); (focus rfl); (focus (first | assumption | (simp only [go_sem] <;> assumption) | (simp only [go_sem, *]; done) | (simp [go_sem]; done)))
       | simp (maxSteps := 1000000) -implicitDefEqProofs (disch := omega) only [go_sem])) (he : av = as' := by rfl) (hr : Cl r := by first | assumption | (simp only [go_sem] <;> assumption) | (simp only [go_sem, *]; done) | (simp [go_sem]; done)) : CallA P (.fn (.func g) first cap) args dst K ⟨tm, h, nx, gh⟩ := call_cl ha (he ▸ hp) hc hr hk
theorem callf (ids : List Nat) {l l' : List (Nat × Option Blk)} (hc : Ct P g as' r) (hk : K ⟨putT tm dst r, hpOf (fun _ => none) l', nx, gh⟩) (hl : frzL ids l = l' := by first | (simp only [go_sem]; done) | (simp only [go_sem]; rfl)) (ha : first ++ args ++ cap = as := by first | (simp only [go_sem]; done) | (simp only [go_sem]; rfl)) (hp : PurI true (hpOf (fun _ => none) l') as as' := by
     (try simp (maxSteps := 1000000) -implicitDefEqProofs (disch := omega) only [go_sem])
     repeat' (first
       | with_reducible (first | exact PurI.nil | exact Pur.nilsl _ _ | exact PurE.nil)
       | (with_reducible (first | refine PurI.puL ?_ | refine PurE.puE ?_)) <;> (first | assumption | (simp only [go_sem] <;> assumption) | (simp only [go_sem, *]; done) | (simp [go_sem]; done))
       | with_reducible apply PurI.cons
       | (with_reducible refine Pur.pu _ ?_) <;> (first | assumption | (simp only [go_sem] <;> assumption) | (simp only [go_sem, *]; done) | (simp [go_sem]; done))
       | ((with_reducible apply Pur.refR) <;> (first | rfl | decide | (simp only [go_sem]; omega) | (simp only [go_sem]) | skip))
       | ((with_reducible apply Pur.osR) <;> (first | rfl | exact fun h => h | omega | (simp; omega) | (simp; done) | (simp only [go_sem]) | skip))
       | with_reducible (first | apply Pur.fnI | apply Pur.aggI | apply PurE.cons)
       | (with_reducible refine PurI.eqL ?_ ?_); (focus rfl); (focus (first | assumption | (simp only [go_sem] <;> assumption) | (simp only [go_sem, *]; done) | (simp [go_sem]; done)))
       | simp (maxSteps := 1000000) -implicitDefEqProofs (disch := omega) only [go_sem])) (hr : Pu r := by first | assumption | (simp only [go_sem] <;> assumption) | (simp only [go_sem, *]; done) | (simp [go_sem]; done)) : CallA P (.fn (.func g) first cap) args dst K ⟨tm, hpOf (fun _ => none) l, nx, gh⟩ := call_fz ids hl ha hp hc hr hk
theorem calldf {K : V → List Nat → Wr → Prop} (id : Nat) {k : Nat} {es : List (List V)} {ty : TypeId} (hc : Ct P g as' r) (hk : K r [id] [(id, some ⟨k, es, ty, .fz⟩)]) (ha : first ++ args ++ cap = as := by first | (simp only [go_sem]; done) | (simp only [go_sem]; rfl)) (hb : h id = some ⟨k, es, ty, .wr⟩ := by rfl)
   (hp : PurI true (hpOf (fun _ => none) [(id, some ⟨k, es, ty, .fz⟩)]) as as' := by
     (try simp (maxSteps := 1000000) -implicitDefEqProofs (disch := omega) only [go_sem])
     repeat' (first
       | with_reducible (first | exact PurI.nil | exact Pur.nilsl _ _ | exact PurE.nil)
       | (with_reducible (first | refine PurI.puL ?_ | refine PurE.puE ?_)) <;> (first | assumption | (simp only [go_sem] <;> assumption) | (simp only [go_sem, *]; done) | (simp [go_sem]; done))
       | with_reducible apply PurI.cons
       | (with_reducible refine Pur.pu _ ?_) <;> (first | assumption | (simp only [go_sem] <;> assumption) | (simp only [go_sem, *]; done) | (simp [go_sem]; done))
       | ((with_reducible apply Pur.refR) <;> (first | rfl | decide | (simp only [go_sem]; omega) | (simp only [go_sem]) | skip))
       | ((with_reducible apply Pur.osR) <;> (first | rfl | exact fun h => h | omega | (simp; omega) | (simp; done) | (simp only [go_sem]) | skip))
       | with_reducible (first | apply Pur.fnI | apply Pur.aggI | apply PurE.cons)
       | (with_reducible refine PurI.eqL ?_ ?_); (focus rfl); (focus (first | assumption | (simp only [go_sem] <;> assumption) | (simp only [go_sem, *]; done) | (simp [go_sem]; done)))
       | simp (maxSteps := 1000000) -implicitDefEqProofs (disch := omega) only [go_sem])) (hr : Pu r := by first | assumption | (simp only [go_sem] <;> assumption) | (simp only [go_sem, *]; done) | (simp [go_sem]; done)) : CallD P (.fn (.func g) first cap) args h nx K := call_dfz id ha hb hp hc hr hk
theorem ret_do {rs : List ResultVar} {Post : V → Hp → Nat → Prop} {st : St} {c : Prop} {vs : List V} (hp : Post (retV vs) st.h st.nx) (h : resV P st rs = some (c, vs) := by simp (maxSteps := 1000000) -implicitDefEqProofs (disch := omega) only [go_sem]; rfl) (hc : c := by first | trivial | omega | (simp; omega)) : RetB P rs Post .ret st := ret_at h hc hp
theorem retf {Post : V → Hp → Nat → Prop} {l l' : List (Nat × Option Blk)} (ids : List Nat) (ts : List Tmp) {ds : List V} (ds' : List V) (hnd : decide ts.Nodup = true := by decide) (hlt : (ts.all fun t => decide (t < tm.length)) = true := by rfl)
   (hv : mapEv tm (ts.map .tmp) = ds := by simp (maxSteps := 1000000) -implicitDefEqProofs (disch := omega) only [go_sem]; rfl) (hl : frzL ids l = l' := by first | (simp only [go_sem]; done) | (simp only [go_sem]; rfl)) (hp : PurI true (hpOf (fun _ => none) l') ds ds' := by
     (try simp (maxSteps := 1000000) -implicitDefEqProofs (disch := omega) only [go_sem])
     repeat' (first
       | with_reducible (first | exact PurI.nil | exact Pur.nilsl _ _ | exact PurE.nil)
       | (with_reducible (first | refine PurI.puL ?_ | refine PurE.puE ?_)) <;> (first | assumption | (simp only [go_sem] <;> assumption) | (simp only [go_sem, *]; done) | (simp [go_sem]; done))
       | with_reducible apply PurI.cons
       | (with_reducible refine Pur.pu _ ?_) <;> (first | assumption | (simp only [go_sem] <;> assumption) | (simp only [go_sem, *]; done) | (simp [go_sem]; done))
       | ((with_reducible apply Pur.refR) <;> (first | rfl | decide | (simp only [go_sem]; omega) | (simp only [go_sem]) | skip))
       | ((with_reducible apply Pur.osR) <;> (first | rfl | exact fun h => h | omega | (simp; omega) | (simp; done) | (simp only [go_sem]) | skip))
       | with_reducible (first | apply Pur.fnI | apply Pur.aggI | apply PurE.cons)
       | (with_reducible refine PurI.eqL ?_ ?_); (focus rfl); (focus (first | assumption | (simp only [go_sem] <;> assumption) | (simp only [go_sem, *]; done) | (simp [go_sem]; done)))
       | simp (maxSteps := 1000000) -implicitDefEqProofs (disch := omega) only [go_sem])) (hpu : PuL ds' := by first | assumption | (simp only [go_sem] <;> assumption) | (simp only [go_sem, *]; done) | (simp [go_sem]; done)) (hP : Post (retV ds') (hpOf (fun _ => none) l') nx := by rfl) : RetB P (ts.map .tmp) Post .ret ⟨tm, hpOf (fun _ => none) l, nx, gh⟩ := ret_fz ids hnd hlt hv hl hp hpu hP
theorem retz {rs : List ResultVar} {l l' : List (Nat × Option Blk)} {c : Prop} {vs : List V} (ids : List Nat) (h : resV P ⟨tm, hpOf (fun _ => none) l, nx, gh⟩ rs = some (c, vs) := by simp (maxSteps := 1000000) -implicitDefEqProofs (disch := omega) only [go_sem]; rfl) (hc : c := by first | trivial | omega | (simp; omega)) (hl : frzL ids l = l' := by first | (simp only [go_sem]; done) | (simp only [go_sem]; rfl))
   (hp : Pur true (hpOf (fun _ => none) l') (retV vs) r := by
     (try simp (maxSteps := 1000000) -implicitDefEqProofs (disch := omega) only [go_sem])
     repeat' (first
       | with_reducible (first | exact PurI.nil | exact Pur.nilsl _ _ | exact PurE.nil)
       | (with_reducible (first | refine PurI.puL ?_ | refine PurE.puE ?_)) <;> (first | assumption | (simp only [go_sem] <;> assumption) | (simp only [go_sem, *]; done) | (simp [go_sem]; done))
       | with_reducible apply PurI.cons
       | (with_reducible refine Pur.pu _ ?_) <;> (first | assumption | (simp only [go_sem] <;> assumption) | (simp only [go_sem, *]; done) | (simp [go_sem]; done))
       | ((with_reducible apply Pur.refR) <;> (first | rfl | decide | (simp only [go_sem]; omega) | (simp only [go_sem]) | skip))
       | ((with_reducible apply Pur.osR) <;> (first | rfl | exact fun h => h | omega | (simp; omega) | (simp; done) | (simp only [go_sem]) | skip))
       | with_reducible (first | apply Pur.fnI | apply Pur.aggI | apply PurE.cons)
       | (with_reducible refine PurI.eqL ?_ ?_); (focus rfl); (focus (first | assumption | (simp only [go_sem] <;> assumption) | (simp only [go_sem, *]; done) | (simp [go_sem]; done)))
       | simp (maxSteps := 1000000) -implicitDefEqProofs (disch := omega) only [go_sem])) : RetB P rs (fun r' h' _ => ∃ ids, Pur true (frz ids h') r' r) .ret ⟨tm, hpOf (fun _ => none) l, nx, gh⟩ := ret_at h hc (ret_z ids hl hp)
end
end Go.Aw
end
