/-
  A part of the proof that a law returns true for every input that the given row speaks of: an own verified walk over the program (namespace Go.Aw), contracts of the functions that the law calls, and the law itself. Conditions: those of the given row, no other.
-/
import Derived.Test.YtgpeegdinblnoaaDoorPart2
set_option linter.unusedVariables false
set_option linter.unusedSimpArgs false
section
namespace Go.Aw
open Go.RowKit
theorem Rep.snapT {w : World} {own : Nat → Prop} {ok : Nat → Nat → Prop} {s : Nat → Option Nat} {h : Hp} (hr : RH w own ok s h) {v : Value} {d d' : V} (hv : Rep w ok s v d) (hp : Pur true h d d') (hpu : Pu d') : Rep w ok s v d' := by
 refine ((hp.rep hr hv).pu hpu (s' := s)).keep (fun b o hb => ⟨?_, rfl⟩) (fun _ _ _ h => h) (fun _ _ h => h)
 rcases hb with hb | ⟨hb, _⟩
 · exact hb
 · cases hb
theorem Weak.rowSnap {tm : List V} {h : Hp} {nx : Nat} {gh : Gh} (id : Nat) {b : Blk} {es' : List (List V)} (hb : h id = some b) (hp : PurE true h b.es es') (hpu : PuE es') : Weak ⟨tm, h, nx, gh⟩ ⟨tm, upd h id (some { b with es := es' }), nx, gh⟩ := by
 intro A own ok s w a hA hr
 obtain ⟨hl, hat⟩ := hp.spec
 have hbk := hr.rh.blk id b hb
 have hcase : ∀ i c, upd h id (some { b with es := es' }) i = some c → (i = id ∧ c = { b with es := es' }) ∨ h i = some c := by
   intro i c hc
   unfold upd at hc
   split at hc
   · rename_i e; exact .inl ⟨e, (Option.some.inj hc).symm⟩
   · exact .inr hc
 refine ⟨own, ok, s, ⟨⟨hr.rh.okw, hr.rh.ownw, hr.rh.sw, fun i c hc => ?_, fun i j b1 b2 B h1 h2 m1 m2 => ?_, hr.rh.gl⟩, hr.sz, hr.tm, fun i hi => ⟨(hr.fr i hi).1, ?_⟩, hr.lm, hr.amb, hr.df⟩⟩
 · rcases hcase i c hc with ⟨rfl, rfl⟩ | hc
   · refine ⟨hbk.pos, fun e' he' => ?_, fun hs => ?_, hbk.own, fun B hB hnm => by rw [show es'.length = b.es.length from hl.symm]; exact hbk.shape B hB hnm, fun B hB k j e' d' he' hd' => ?_, hbk.fwr, fun B hB hm o => by rw [show es'.length = b.es.length from hl.symm]; exact hbk.ffz B hB hm o, fun B hB hm o => by rw [show es'.length = b.es.length from hl.symm]; exact hbk.fold B hB hm o, fun m hm => (by have := hbk.mpe m hm; rw [this] at hl; exact List.eq_nil_of_length_eq_zero hl.symm), hbk.map⟩
     · have he' : e' ∈ es' := he'
       obtain ⟨k, hk, rfl⟩ := List.mem_iff_getElem.1 he'
       have hk2 : k < b.es.length := by omega
       have := (hat k _ _ (List.getElem?_eq_getElem hk2) (List.getElem?_eq_getElem hk)).1
       rw [← this]; exact hbk.len _ (List.getElem_mem hk2)
     · have := hbk.virt hs
       exact List.eq_nil_of_length_eq_zero (by rw [← hl, this]; rfl)
     · have he' : es'[k]? = some e' := he'
       have hk := (List.getElem?_eq_some_iff.1 he').1
       have hk2 : k < b.es.length := by omega
       obtain ⟨q1, q2⟩ := hat k _ e' (List.getElem?_eq_getElem hk2) he'
       have hj := (List.getElem?_eq_some_iff.1 hd').1
       have hj2 : j < (b.es[k]).length := by omega
       obtain ⟨u, hu, hrep⟩ := hbk.cells B hB k j _ _ (List.getElem?_eq_getElem hk2) (List.getElem?_eq_getElem hj2)
       exact ⟨u, hu, Rep.snapT hr.rh hrep (q2 j _ d' (List.getElem?_eq_getElem hj2) hd') (hpu e' (List.mem_of_getElem? he') d' (List.mem_of_getElem? hd'))⟩
   · exact hr.rh.blk i c hc
 · have old : ∀ i c, upd h id (some { b with es := es' }) i = some c → ∃ c', h i = some c' ∧ c'.mode = c.mode := by
     intro i c hc
     rcases hcase i c hc with ⟨rfl, rfl⟩ | hc
     · exact ⟨b, hb, rfl⟩
     · exact ⟨c, hc, rfl⟩
   obtain ⟨c1, k1, e1⟩ := old i b1 h1
   obtain ⟨c2, k2, e2⟩ := old j b2 h2
   exact hr.rh.exc i j c1 c2 B k1 k2 (by rw [e1]; exact m1) (by rw [e2]; exact m2)
 · have h0 : h i = none := (hr.fr i hi).2
   show upd h id _ i = none
   unfold upd
   split
   · rename_i e; subst e; rw [h0] at hb; cases hb
   · exact h0
theorem PurE.setR {fr : Bool} {h : Hp} {e e' : List V} (he : PurI fr h e e') : ∀ {l : List (List V)} {i : Nat}, PuE l → PurE fr h (l.set i e) (l.set i e')
 | [], _, _ => .nil
 | a :: l, 0, hp => .cons _ _ _ _ he (.pu _ fun x hx => hp x (List.mem_cons_of_mem _ hx))
 | a :: l, i + 1, hp => .cons _ _ _ _ (.pu _ (hp a List.mem_cons_self)) (PurE.setR he fun x hx => hp x (List.mem_cons_of_mem _ hx))
theorem nxt_snapRow {α : Type} {J : α → Prop} {m : α → Nat} {S : α → St} {x : α} {tm : List V} {nx : Nat} {gh : Gh} (ids : List Nat) (id : Nat) {l l' l2 : List (Nat × Option Blk)} {k : Nat} {es : List (List V)} {ty : TypeId} {md : Mode'} (es' : List (List V))
   (hl : frzL ids l = l') (hb : hpOf (fun _ => none) l' id = some ⟨k, es, ty, md⟩) (hp : PurE true (hpOf (fun _ => none) l') es es') (hpu : PuE es') (hs : hset id (some ⟨k, es', ty, md⟩) l' = l2) (h : Nxt J m S x ⟨tm, hpOf (fun _ => none) l2, nx, gh⟩) :
   Nxt J m S x ⟨tm, hpOf (fun _ => none) l, nx, gh⟩ := by
 subst hl hs
 obtain ⟨y, h1, h2, h3⟩ := h
 refine ⟨y, h1, h2, (Weak.snap ids (tm' := tm) rfl fun t d d' hd hd' => .inl (by rw [hd] at hd'; exact (Option.some.inj hd').symm)).trans ?_⟩
 rw [frz_hpOf]
 refine (Weak.rowSnap id hb hp hpu).trans ?_
 rw [upd_hpOf]
 exact h3
theorem hget_app (i : Nat) (l : List (Nat × Option Blk)) : ∀ l' : List (Nat × Option Blk), hget i (l' ++ l) = (hget i l').orElse fun _ => hget i l
 | [] => rfl
 | (j, b) :: r => by
   simp only [List.cons_append, hget]
   split
   · rfl
   · exact hget_app i l r
theorem hpOf_app (B : Hp) (l l' : List (Nat × Option Blk)) : hpOf (hpOf B l) l' = hpOf B (l' ++ l) := by
 funext i
 simp only [hpOf, hget_app]
 cases hget i l' <;> rfl
theorem callH_enter {P : Program} {g : FuncId} {fn : Func} {c : Code} {rs : List ResultVar} {n : Nat} {args tm : List V} {h : Hp} {nx : Nat} {Post : V → Hp → Nat → Prop} (hf : P.funcs[g]? = some fn) (hb : fn.body = some c) (hr : fn.results = List.toArray rs) (hnt : fn.ntmps = n)
   (ha : decide (args.length ≤ n) = true) (ht : initT n args = tm) (hw : ∀ base, awp P c (RetB P rs Post) ⟨tm, hpOf h [], nx, { base := base, lim := nx }⟩) : CallH P g args h nx Post := by
 subst hnt ht
 have ha := of_decide_eq_true ha
 refine callH_of_awp hf hb ha fun base => ?_
 rw [retB_eq (rs := rs) (by rw [hr]), ← initT_eq _ _ ha]
 exact hw base
end Go.Aw
end
section
namespace Go.Aw
open Go.RowKit
theorem frz_restr1 {h : Hp} {id k : Nat} {es : List (List V)} {ty : TypeId} (hb : h id = some ⟨k, es, ty, .wr⟩) : frz [id] (restr [id] h) = hpOf (fun _ => none) [(id, some ⟨k, es, ty, .fz⟩)] := by
 funext i
 by_cases hi : i = id
 · subst hi
   simp [frz, restr, hpOf, hget, hb]
 · have hi' : ¬ id = i := fun e => hi e.symm
   simp [frz, restr, hpOf, hget, hi, hi']
theorem call_dfz {P : Program} {nx : Nat} {g : FuncId} {first cap args as as' : List V} {h : Hp} {r : V} {K : V → List Nat → Wr → Prop} (id : Nat) {k : Nat} {es : List (List V)} {ty : TypeId} (ha : first ++ args ++ cap = as) (hb : h id = some ⟨k, es, ty, .wr⟩)
   (hp : PurI true (hpOf (fun _ => none) [(id, some ⟨k, es, ty, .fz⟩)]) as as') (hc : Ct P g as' r) (hr : Pu r) (hk : K r [id] [(id, some ⟨k, es, ty, .fz⟩)]) : CallD P (.fn (.func g) first cap) args h nx K := by
 have e := frz_restr1 hb
 refine call_df id [id] (b := ⟨k, es, ty, .wr⟩) ha (by simp [restr, hb]) (by rw [e]; exact hp) hc hr ?_
 rw [e]
 have : hpOf (fun _ => none) [(id, some (⟨k, es, ty, .fz⟩ : Blk))] id = some ⟨k, es, ty, .fz⟩ := by simp [hpOf, hget]
 rw [this]; exact hk
end Go.Aw
end
section
namespace Go.Aw
open Go.RowKit
section
variable {P : Program} {g : FuncId} {first cap args as as' : List V} {dst : Option Tmp} {K : St → Prop} {tm : List V} {h h' : Hp} {nx : Nat} {gh : Gh} {r : V}
theorem weak_do (ρl : List (Nat × Nat)) {tm tm' : List V} {h : Hp} {l' : List (Nat × Option Blk)} {nx nx' : Nat} {gh : Gh} (hlow : (ρl.all fun p => decide (gh.lim ≤ p.1)) = true := by rfl)
   (ht : RenL (renOf ρl) nx' tm' tm := by
     repeat' (first
       | with_reducible (first | exact RenL.nil | refine RenL.cons _ _ _ _ ?_ ?_ | exact Ren.any _ | exact Ren.lit _)
       | (with_reducible (first | refine Ren.int _ _ _ ?_ | refine Ren.bool _ _ ?_)) <;> (first | rfl | omega | (simp <;> omega) | (simp only [go_sem]; done) | (push_cast; omega))
       | with_reducible (first | exact Ren.nil _ _ _ | exact Ren.nilsl _ _ | exact RowsRen.nil | exact RenE.nil)
       | (with_reducible refine Ren.ref _ _ _ _ _ ?_ ?_) <;> decide
       | (with_reducible refine Ren.mp _ _ ?_ ?_) <;> decide
       | (with_reducible refine Ren.osN _ _ ?_ ?_ ?_ ?_) <;> (first | decide | first | rfl | omega | (simp <;> omega) | (simp only [go_sem]; done) | (push_cast; omega) | (intro h; exact h) | (intro h; cases h))
       | with_reducible (first | refine Ren.fnL _ _ ?_ ?_ | refine Ren.aggL _ _ ?_)
       | (with_reducible (first | refine Ren.pu _ ?_ | refine RenE.puE ?_)) <;> (first | assumption | (simp only [go_sem] <;> assumption) | (simp only [go_sem, *]; done) | (simp [go_sem]; done))
       | (with_reducible apply RowsRen.row); (focus decide); (focus rfl)
       | (with_reducible refine RowsRen.virt _ _ _ _ _ ?_ ?_ ?_ ?_); (focus decide); (focus decide); (focus decide)
       | with_reducible (first | refine RowsRen.gone _ _ ?_ | refine RenE.cons _ _ _ _ ?_ ?_)
       | (with_reducible (first | refine Ren.slE _ _ _ ?_ ?_ | refine RenE.eqE ?_ ?_)); (focus (first | rfl | omega | (simp <;> omega) | (simp only [go_sem]; done) | (push_cast; omega))); (focus (first | assumption | (simp only [go_sem] <;> assumption) | (simp only [go_sem, *]; done) | (simp [go_sem]; done)))
       | (with_reducible refine RenL.puL ?_) <;> (first | assumption | (simp only [go_sem] <;> assumption) | (simp only [go_sem, *]; done) | (simp [go_sem]; done))
       | (with_reducible refine RenL.eqL ?_ ?_); (focus (first | rfl | omega | (simp <;> omega) | (simp only [go_sem]; done) | (push_cast; omega))); (focus (first | assumption | (simp only [go_sem] <;> assumption) | (simp only [go_sem, *]; done) | (simp [go_sem]; done)))))
   (hh : RowsRen (renOf ρl) nx' nx h l' := by
     repeat' (first
       | with_reducible (first | exact RenL.nil | refine RenL.cons _ _ _ _ ?_ ?_ | exact Ren.any _ | exact Ren.lit _)
       | (with_reducible (first | refine Ren.int _ _ _ ?_ | refine Ren.bool _ _ ?_)) <;> (first | rfl | omega | (simp <;> omega) | (simp only [go_sem]; done) | (push_cast; omega))
       | with_reducible (first | exact Ren.nil _ _ _ | exact Ren.nilsl _ _ | exact RowsRen.nil | exact RenE.nil)
       | (with_reducible refine Ren.ref _ _ _ _ _ ?_ ?_) <;> decide
       | (with_reducible refine Ren.mp _ _ ?_ ?_) <;> decide
       | (with_reducible refine Ren.osN _ _ ?_ ?_ ?_ ?_) <;> (first | decide | first | rfl | omega | (simp <;> omega) | (simp only [go_sem]; done) | (push_cast; omega) | (intro h; exact h) | (intro h; cases h))
       | with_reducible (first | refine Ren.fnL _ _ ?_ ?_ | refine Ren.aggL _ _ ?_)
       | (with_reducible (first | refine Ren.pu _ ?_ | refine RenE.puE ?_)) <;> (first | assumption | (simp only [go_sem] <;> assumption) | (simp only [go_sem, *]; done) | (simp [go_sem]; done))
       | (with_reducible apply RowsRen.row); (focus decide); (focus rfl)
       | (with_reducible refine RowsRen.virt _ _ _ _ _ ?_ ?_ ?_ ?_); (focus decide); (focus decide); (focus decide)
       | with_reducible (first | refine RowsRen.gone _ _ ?_ | refine RenE.cons _ _ _ _ ?_ ?_)
       | (with_reducible (first | refine Ren.slE _ _ _ ?_ ?_ | refine RenE.eqE ?_ ?_)); (focus (first | rfl | omega | (simp <;> omega) | (simp only [go_sem]; done) | (push_cast; omega))); (focus (first | assumption | (simp only [go_sem] <;> assumption) | (simp only [go_sem, *]; done) | (simp [go_sem]; done)))
       | (with_reducible refine RenL.puL ?_) <;> (first | assumption | (simp only [go_sem] <;> assumption) | (simp only [go_sem, *]; done) | (simp [go_sem]; done))
       | (with_reducible refine RenL.eqL ?_ ?_); (focus (first | rfl | omega | (simp <;> omega) | (simp only [go_sem]; done) | (push_cast; omega))); (focus (first | assumption | (simp only [go_sem] <;> assumption) | (simp only [go_sem, *]; done) | (simp [go_sem]; done)))))
   (hi : renInj (renOf ρl) (keysOf l') = true := by rfl) (hl : gh.lim ≤ nx' := by exact Nat.zero_le _) : Weak ⟨tm, h, nx, gh⟩ ⟨tm', hpOf (fun _ => none) l', nx', gh⟩ := Weak.rows ρl hl hlow ht hh hi
theorem forget_do (ρl : List (Nat × Nat)) {tm : List V} {h : Hp} {l' : List (Nat × Option Blk)} {nx nx' : Nat} {gh gh' : Gh} (hgh : gh = gh' := by first | rfl | (simp; omega)) (hl : gh.lim ≤ nx' := by exact Nat.le_of_ble_eq_true rfl) (hlow : (ρl.all fun p => decide (gh.lim ≤ p.1)) = true := by rfl)
   (hh : RowsRen (renOf ρl) nx' nx h l' := by
     repeat' (first
       | with_reducible (first | exact RenL.nil | refine RenL.cons _ _ _ _ ?_ ?_ | exact Ren.any _ | exact Ren.lit _)
       | (with_reducible (first | refine Ren.int _ _ _ ?_ | refine Ren.bool _ _ ?_)) <;> (first | rfl | omega | (simp <;> omega) | (simp only [go_sem]; done) | (push_cast; omega))
       | with_reducible (first | exact Ren.nil _ _ _ | exact Ren.nilsl _ _ | exact RowsRen.nil | exact RenE.nil)
       | (with_reducible refine Ren.ref _ _ _ _ _ ?_ ?_) <;> decide
       | (with_reducible refine Ren.mp _ _ ?_ ?_) <;> decide
       | (with_reducible refine Ren.osN _ _ ?_ ?_ ?_ ?_) <;> (first | decide | first | rfl | omega | (simp <;> omega) | (simp only [go_sem]; done) | (push_cast; omega) | (intro h; exact h) | (intro h; cases h))
       | with_reducible (first | refine Ren.fnL _ _ ?_ ?_ | refine Ren.aggL _ _ ?_)
       | (with_reducible (first | refine Ren.pu _ ?_ | refine RenE.puE ?_)) <;> (first | assumption | (simp only [go_sem] <;> assumption) | (simp only [go_sem, *]; done) | (simp [go_sem]; done))
       | (with_reducible apply RowsRen.row); (focus decide); (focus rfl)
       | (with_reducible refine RowsRen.virt _ _ _ _ _ ?_ ?_ ?_ ?_); (focus decide); (focus decide); (focus decide)
       | with_reducible (first | refine RowsRen.gone _ _ ?_ | refine RenE.cons _ _ _ _ ?_ ?_)
       | (with_reducible (first | refine Ren.slE _ _ _ ?_ ?_ | refine RenE.eqE ?_ ?_)); (focus (first | rfl | omega | (simp <;> omega) | (simp only [go_sem]; done) | (push_cast; omega))); (focus (first | assumption | (simp only [go_sem] <;> assumption) | (simp only [go_sem, *]; done) | (simp [go_sem]; done)))
       | (with_reducible refine RenL.puL ?_) <;> (first | assumption | (simp only [go_sem] <;> assumption) | (simp only [go_sem, *]; done) | (simp [go_sem]; done))
       | (with_reducible refine RenL.eqL ?_ ?_); (focus (first | rfl | omega | (simp <;> omega) | (simp only [go_sem]; done) | (push_cast; omega))); (focus (first | assumption | (simp only [go_sem] <;> assumption) | (simp only [go_sem, *]; done) | (simp [go_sem]; done)))))
   (hi : renInj (renOf ρl) (keysOf l') = true := by rfl) : Weak ⟨tm, h, nx, gh⟩ (forget ⟨tm, h, nx, gh⟩ (hpOf (fun _ => none) l') nx' gh') := weak_forget ρl hgh hl hlow hh hi
theorem nxt_w {α : Type} {J : α → Prop} {m : α → Nat} {S : α → St} {x : α} {st : St} (y : α) (hw : Weak st (S y)) (hJ : J y) (hm : m y < m x := by
   (try dsimp only)
   first | omega | (simp; omega) | (simp_all; omega)) : Nxt J m S x st := ⟨y, hJ, hm, hw⟩
theorem callp (hc : Ct P g as r) (hk : K ⟨putT tm dst r, h, nx, gh⟩) (ha : first ++ args ++ cap = as := by first | (simp only [go_sem]; done) | (simp only [go_sem]; rfl)) (hp : PuL as := by first | assumption | (simp only [go_sem] <;> assumption) | (simp only [go_sem, *]; done) | (simp [go_sem]; done)) (hr : Pu r := by first | assumption | (simp only [go_sem] <;> assumption) | (simp only [go_sem, *]; done) | (simp [go_sem]; done)) : CallA P (.fn (.func g) first cap) args dst K ⟨tm, h, nx, gh⟩ := call_pu ha hp hc hr hk
theorem calld {K : V → List Nat → Wr → Prop} (hc : Ct P g as r) (hk : K r [] []) (ha : first ++ args ++ cap = as := by first | (simp only [go_sem]; done) | (simp only [go_sem]; rfl)) (hp : PuL as := by first | assumption | (simp only [go_sem] <;> assumption) | (simp only [go_sem, *]; done) | (simp [go_sem]; done)) (hr : Pu r := by first | assumption | (simp only [go_sem] <;> assumption) | (simp only [go_sem, *]; done) | (simp [go_sem]; done)) : CallD P (.fn (.func g) first cap) args h nx K := call_dp ha hp hc hr hk
theorem callc {av : List V} (hc : Ct P g as' r) (hk : K ⟨putT tm dst r, h, nx, gh⟩) (ha : first ++ args ++ cap = as := by first | (simp only [go_sem]; done) | (simp only [go_sem]; rfl)) (hp : PurI false h as av := by
     (try simp (maxSteps := 1000000) -implicitDefEqProofs (disch := omega) only [go_sem])
     repeat' (first
       | with_reducible (first | exact PurI.nil | exact Pur.nilsl _ _ | exact PurE.nil)
       | (with_reducible (first | refine PurI.puL ?_ | refine PurE.puE ?_)) <;> (first | assumption | (simp only [go_sem] <;> assumption) | (simp only [go_sem, *]; done) | (simp [go_sem]; done))
       | with_reducible apply PurI.cons
       | (with_reducible refine Pur.pu _ ?_) <;> (first | assumption | (simp only [go_sem] <;> assumption) | (simp only [go_sem, *]; done) | (simp [go_sem]; done))
       | ((with_reducible apply Pur.refR) <;> (first | rfl | decide | (simp only [go_sem]; omega) | (simp only [go_sem]) | skip))
       | ((with_reducible apply Pur.osR) <;> (first | rfl | exact fun h => h | omega | (simp; omega) | (simp; done) | (simp only [go_sem]) | skip))
       | with_reducible (first | apply Pur.fnI | apply Pur.aggI | apply PurE.cons)
       | (with_reducible refine PurI.eqL ?_ ?_); (focus rfl); (focus (first | assumption | (simp only [go_sem] <;> assumption) | (simp only [go_sem, *]; done) | (simp [go_sem]; done)))
       | simp (maxSteps := 1000000) -implicitDefEqProofs (disch := omega) only [go_sem])) (he : av = as' := by rfl) (hr : Cl r := by first | assumption | (simp only [go_sem] <;> assumption) | (simp only [go_sem, *]; done) | (simp [go_sem]; done)) : CallA P (.fn (.func g) first cap) args dst K ⟨tm, h, nx, gh⟩ := call_cl ha (he ▸ hp) hc hr hk
theorem callf (ids : List Nat) {l l' : List (Nat × Option Blk)} (hc : Ct P g as' r) (hk : K ⟨putT tm dst r, hpOf (fun _ => none) l', nx, gh⟩) (hl : frzL ids l = l' := by first | (simp only [go_sem]; done) | (simp only [go_sem]; rfl)) (ha : first ++ args ++ cap = as := by first | (simp only [go_sem]; done) | (simp only [go_sem]; rfl)) (hp : PurI true (hpOf (fun _ => none) l') as as' := by
     (try simp (maxSteps := 1000000) -implicitDefEqProofs (disch := omega) only [go_sem])
     repeat' (first
       | with_reducible (first | exact PurI.nil | exact Pur.nilsl _ _ | exact PurE.nil)
       | (with_reducible (first | refine PurI.puL ?_ | refine PurE.puE ?_)) <;> (first | assumption | (simp only [go_sem] <;> assumption) | (simp only [go_sem, *]; done) | (simp [go_sem]; done))
       | with_reducible apply PurI.cons
       | (with_reducible refine Pur.pu _ ?_) <;> (first | assumption | (simp only [go_sem] <;> assumption) | (simp only [go_sem, *]; done) | (simp [go_sem]; done))
       | ((with_reducible apply Pur.refR) <;> (first | rfl | decide | (simp only [go_sem]; omega) | (simp only [go_sem]) | skip))
       | ((with_reducible apply Pur.osR) <;> (first | rfl | exact fun h => h | omega | (simp; omega) | (simp; done) | (simp only [go_sem]) | skip))
       | with_reducible (first | apply Pur.fnI | apply Pur.aggI | apply PurE.cons)
       | (with_reducible refine PurI.eqL ?_ ?_); (focus rfl); (focus (first | assumption | (simp only [go_sem] <;> assumption) | (simp only [go_sem, *]; done) | (simp [go_sem]; done)))
       | simp (maxSteps := 1000000) -implicitDefEqProofs (disch := omega) only [go_sem])) (hr : Pu r := by first | assumption | (simp only [go_sem] <;> assumption) | (simp only [go_sem, *]; done) | (simp [go_sem]; done)) : CallA P (.fn (.func g) first cap) args dst K ⟨tm, hpOf (fun _ => none) l, nx, gh⟩ := call_fz ids hl ha hp hc hr hk
theorem callf2 (ids : List Nat) {av : List V} {l l' : List (Nat × Option Blk)} (hc : Ct P g as' r) (hk : K ⟨putT tm dst r, hpOf (fun _ => none) l', nx, gh⟩) (hl : frzL ids l = l' := by first | (simp only [go_sem]; done) | (simp only [go_sem]; rfl)) (ha : first ++ args ++ cap = as := by first | (simp only [go_sem]; done) | (simp only [go_sem]; rfl)) (hp : PurI true (hpOf (fun _ => none) l') as av := by
     (try simp (maxSteps := 1000000) -implicitDefEqProofs (disch := omega) only [go_sem])
     repeat' (first
       | with_reducible (first | exact PurI.nil | exact Pur.nilsl _ _ | exact PurE.nil)
       | (with_reducible (first | refine PurI.puL ?_ | refine PurE.puE ?_)) <;> (first | assumption | (simp only [go_sem] <;> assumption) | (simp only [go_sem, *]; done) | (simp [go_sem]; done))
       | with_reducible apply PurI.cons
       | (with_reducible refine Pur.pu _ ?_) <;> (first | assumption | (simp only [go_sem] <;> assumption) | (simp only [go_sem, *]; done) | (simp [go_sem]; done))
       | ((with_reducible apply Pur.refR) <;> (first | rfl | decide | (simp only [go_sem]; omega) | (simp only [go_sem]) | skip))
       | ((with_reducible apply Pur.osR) <;> (first | rfl | exact fun h => h | omega | (simp; omega) | (simp; done) | (simp only [go_sem]) | skip))
       | with_reducible (first | apply Pur.fnI | apply Pur.aggI | apply PurE.cons)
       | (with_reducible refine PurI.eqL ?_ ?_); (focus rfl); (focus (first | assumption | (simp only [go_sem] <;> assumption) | (simp only [go_sem, *]; done) | (simp [go_sem]; done)))
       | simp (maxSteps := 1000000) -implicitDefEqProofs (disch := omega) only [go_sem])) (he : av = as' := by rfl) (hr : Pu r := by first | assumption | (simp only [go_sem] <;> assumption) | (simp only [go_sem, *]; done) | (simp [go_sem]; done)) : CallA P (.fn (.func g) first cap) args dst K ⟨tm, hpOf (fun _ => none) l, nx, gh⟩ := call_fz ids hl ha (he ▸ hp) hc hr hk
theorem calldf {K : V → List Nat → Wr → Prop} (id : Nat) {k : Nat} {es : List (List V)} {ty : TypeId} (hc : Ct P g as' r) (hk : K r [id] [(id, some ⟨k, es, ty, .fz⟩)]) (ha : first ++ args ++ cap = as := by first | (simp only [go_sem]; done) | (simp only [go_sem]; rfl)) (hb : h id = some ⟨k, es, ty, .wr⟩ := by rfl)
   (hp : PurI true (hpOf (fun _ => none) [(id, some ⟨k, es, ty, .fz⟩)]) as as' := by
     (try simp (maxSteps := 1000000) -implicitDefEqProofs (disch := omega) only [go_sem])
     repeat' (first
       | with_reducible (first | exact PurI.nil | exact Pur.nilsl _ _ | exact PurE.nil)
       | (with_reducible (first | refine PurI.puL ?_ | refine PurE.puE ?_)) <;> (first | assumption | (simp only [go_sem] <;> assumption) | (simp only [go_sem, *]; done) | (simp [go_sem]; done))
       | with_reducible apply PurI.cons
       | (with_reducible refine Pur.pu _ ?_) <;> (first | assumption | (simp only [go_sem] <;> assumption) | (simp only [go_sem, *]; done) | (simp [go_sem]; done))
       | ((with_reducible apply Pur.refR) <;> (first | rfl | decide | (simp only [go_sem]; omega) | (simp only [go_sem]) | skip))
       | ((with_reducible apply Pur.osR) <;> (first | rfl | exact fun h => h | omega | (simp; omega) | (simp; done) | (simp only [go_sem]) | skip))
       | with_reducible (first | apply Pur.fnI | apply Pur.aggI | apply PurE.cons)
       | (with_reducible refine PurI.eqL ?_ ?_); (focus rfl); (focus (first | assumption | (simp only [go_sem] <;> assumption) | (simp only [go_sem, *]; done) | (simp [go_sem]; done)))
       | simp (maxSteps := 1000000) -implicitDefEqProofs (disch := omega) only [go_sem])) (hr : Pu r := by first | assumption | (simp only [go_sem] <;> assumption) | (simp only [go_sem, *]; done) | (simp [go_sem]; done)) : CallD P (.fn (.func g) first cap) args h nx K := call_dfz id ha hb hp hc hr hk
theorem ret_do {rs : List ResultVar} {Post : V → Hp → Nat → Prop} {st : St} {c : Prop} {vs : List V} (hp : Post (retV vs) st.h st.nx) (h : resV P st rs = some (c, vs) := by simp (maxSteps := 1000000) -implicitDefEqProofs (disch := omega) only [go_sem]; rfl) (hc : c := by first | trivial | omega | (simp; omega)) : RetB P rs Post .ret st := ret_at h hc hp
theorem retf {Post : V → Hp → Nat → Prop} {l l' : List (Nat × Option Blk)} (ids : List Nat) (ts : List Tmp) {ds : List V} (ds' : List V) (hnd : decide ts.Nodup = true := by decide) (hlt : (ts.all fun t => decide (t < tm.length)) = true := by rfl)
   (hv : mapEv tm (ts.map .tmp) = ds := by simp (maxSteps := 1000000) -implicitDefEqProofs (disch := omega) only [go_sem]; rfl) (hl : frzL ids l = l' := by first | (simp only [go_sem]; done) | (simp only [go_sem]; rfl)) (hp : PurI true (hpOf (fun _ => none) l') ds ds' := by
     (try simp (maxSteps := 1000000) -implicitDefEqProofs (disch := omega) only [go_sem])
     repeat' (first
       | with_reducible (first | exact PurI.nil | exact Pur.nilsl _ _ | exact PurE.nil)
       | (with_reducible (first | refine PurI.puL ?_ | refine PurE.puE ?_)) <;> (first | assumption | (simp only [go_sem] <;> assumption) | (simp only [go_sem, *]; done) | (simp [go_sem]; done))
       | with_reducible apply PurI.cons
       | (with_reducible refine Pur.pu _ ?_) <;> (first | assumption | (simp only [go_sem] <;> assumption) | (simp only [go_sem, *]; done) | (simp [go_sem]; done))
       | ((with_reducible apply Pur.refR) <;> (first | rfl | decide | (simp only [go_sem]; omega) | (simp only [go_sem]) | skip))
       | ((with_reducible apply Pur.osR) <;> (first | rfl | exact fun h => h | omega | (simp; omega) | (simp; done) | (simp only [go_sem]) | skip))
       | with_reducible (first | apply Pur.fnI | apply Pur.aggI | apply PurE.cons)
       | (with_reducible refine PurI.eqL ?_ ?_); (focus rfl); (focus (first | assumption | (simp only [go_sem] <;> assumption) | (simp only [go_sem, *]; done) | (simp [go_sem]; done)))
       | simp (maxSteps := 1000000) -implicitDefEqProofs (disch := omega) only [go_sem])) (hpu : PuL ds' := by first | assumption | (simp only [go_sem] <;> assumption) | (simp only [go_sem, *]; done) | (simp [go_sem]; done)) (hP : Post (retV ds') (hpOf (fun _ => none) l') nx := by rfl) : RetB P (ts.map .tmp) Post .ret ⟨tm, hpOf (fun _ => none) l, nx, gh⟩ := ret_fz ids hnd hlt hv hl hp hpu hP
theorem retz {rs : List ResultVar} {l l' : List (Nat × Option Blk)} {c : Prop} {vs : List V} (ids : List Nat) (h : resV P ⟨tm, hpOf (fun _ => none) l, nx, gh⟩ rs = some (c, vs) := by simp (maxSteps := 1000000) -implicitDefEqProofs (disch := omega) only [go_sem]; rfl) (hc : c := by first | trivial | omega | (simp; omega)) (hl : frzL ids l = l' := by first | (simp only [go_sem]; done) | (simp only [go_sem]; rfl))
   (hp : Pur true (hpOf (fun _ => none) l') (retV vs) r := by
     (try simp (maxSteps := 1000000) -implicitDefEqProofs (disch := omega) only [go_sem])
     repeat' (first
       | with_reducible (first | exact PurI.nil | exact Pur.nilsl _ _ | exact PurE.nil)
       | (with_reducible (first | refine PurI.puL ?_ | refine PurE.puE ?_)) <;> (first | assumption | (simp only [go_sem] <;> assumption) | (simp only [go_sem, *]; done) | (simp [go_sem]; done))
       | with_reducible apply PurI.cons
       | (with_reducible refine Pur.pu _ ?_) <;> (first | assumption | (simp only [go_sem] <;> assumption) | (simp only [go_sem, *]; done) | (simp [go_sem]; done))
       | ((with_reducible apply Pur.refR) <;> (first | rfl | decide | (simp only [go_sem]; omega) | (simp only [go_sem]) | skip))
       | ((with_reducible apply Pur.osR) <;> (first | rfl | exact fun h => h | omega | (simp; omega) | (simp; done) | (simp only [go_sem]) | skip))
       | with_reducible (first | apply Pur.fnI | apply Pur.aggI | apply PurE.cons)
       | (with_reducible refine PurI.eqL ?_ ?_); (focus rfl); (focus (first | assumption | (simp only [go_sem] <;> assumption) | (simp only [go_sem, *]; done) | (simp [go_sem]; done)))
       | simp (maxSteps := 1000000) -implicitDefEqProofs (disch := omega) only [go_sem])) : RetB P rs (fun r' h' _ => ∃ ids, Pur true (frz ids h') r' r) .ret ⟨tm, hpOf (fun _ => none) l, nx, gh⟩ := ret_at h hc (ret_z ids hl hp)
end
end Go.Aw
end
