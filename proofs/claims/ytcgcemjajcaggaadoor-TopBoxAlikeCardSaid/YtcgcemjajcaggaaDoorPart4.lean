/-
  A part of the proof that a law returns true for every input that the given row speaks of: an own verified walk over the program (namespace Go.Aw), contracts of the functions that the law calls, and the law itself. Conditions: those of the given row, no other.
-/
import Derived.Test.YtcgcemjajcaggaaDoorPart3
import Derived.ReadAgain
import Derived.ChangeSame
import Derived.Test.YtcgcemjajcaggaaDoorTie
import Derived.Test.YtcgcemjajcaggaaDoorCards
import Derived.SevenTiedAt
import Derived.JoinedOf
import Derived.RowKit
import Derived.RowKitTokens
import Derived.LaidLaws
import Derived.Stop.Joined
import Derived.OpenShut
import Derived.ChangeVars
import Derived.ProofKit
set_option linter.unusedVariables false
set_option linter.unusedSimpArgs false
section
set_option maxRecDepth 20000
set_option maxHeartbeats 4000000
namespace Go.Aw
open Go.RowKit Go.Proofs
theorem weak_do3 (ρl : List (Nat × Nat)) {tm tm' : List V} {h : Hp} {l' : List (Nat × Option Blk)} {nx nx' : Nat} {gh : Gh} (hlow : (ρl.all fun p => decide (gh.lim ≤ p.1)) = true := by rfl)
    (ht : RenL (renOf ρl) nx' tm' tm := by
      repeat' (first
        | with_reducible (first | exact RenL.nil | refine RenL.cons _ _ _ _ ?_ ?_ | exact Ren.any _ | exact Ren.lit _)
        | (with_reducible (first | refine Ren.int _ _ _ ?_ | refine Ren.bool _ _ ?_)) <;> (first | rfl | omega | (simp <;> omega) | (simp only [go_sem]; done) | (push_cast; omega))
        | with_reducible (first | exact Ren.nil _ _ _ | exact Ren.nilsl _ _ | exact RowsRen.nil | exact RenE.nil)
        | (with_reducible refine Ren.ref _ _ _ _ _ ?_ ?_) <;> decide
        | (with_reducible refine Ren.osN _ _ ?_ ?_ ?_ ?_) <;> (first | decide | first | rfl | omega | (simp <;> omega) | (simp only [go_sem]; done) | (push_cast; omega) | (intro h; exact h) | (intro h; cases h))
        | with_reducible (first | refine Ren.fnL _ _ ?_ ?_ | refine Ren.aggL _ _ ?_)
        | (with_reducible (first | refine Ren.pu _ ?_ | refine RenE.puE ?_)) <;> (first | assumption | (simp only [go_sem] <;> assumption) | (simp only [go_sem, *]; done) | (simp [go_sem]; done))
        | (with_reducible apply RowsRen.row); (focus decide); (focus rfl)
        | (with_reducible refine RowsRen.virt _ _ _ _ _ ?_ ?_ ?_ ?_); (focus decide); (focus decide); (focus decide)
        | with_reducible (first | refine RowsRen.gone _ _ ?_ | refine RenE.cons _ _ _ _ ?_ ?_)
        | (with_reducible (first | refine Ren.slE _ _ _ ?_ ?_ | refine RenE.eqE ?_ ?_)); (focus (first | rfl | omega | (simp <;> omega) | (simp only [go_sem]; done) | (push_cast; omega))); (focus (first | assumption | (simp only [go_sem] <;> assumption) | (simp only [go_sem, *]; done) | (simp [go_sem]; done)))
        | (with_reducible refine RenL.puL ?_) <;> (first | assumption | (simp only [go_sem] <;> assumption) | (simp only [go_sem, *]; done) | (simp [go_sem]; done))
        | (with_reducible refine RenL.eqL ?_ ?_); (focus (first | rfl | omega | (simp <;> omega) | (simp only [go_sem]; done) | (push_cast; omega))); (focus (first | assumption | (simp only [go_sem] <;> assumption) | (simp only [go_sem, *]; done) | (simp [go_sem]; done)))))
    (hh : RowsRen (renOf ρl) nx' nx h l' := by
      repeat' (first
        | with_reducible (first | exact RenL.nil | refine RenL.cons _ _ _ _ ?_ ?_ | exact Ren.any _ | exact Ren.lit _)
        | (with_reducible (first | refine Ren.int _ _ _ ?_ | refine Ren.bool _ _ ?_)) <;> (first | rfl | omega | (simp <;> omega) | (simp only [go_sem]; done) | (push_cast; omega))
        | with_reducible (first | exact Ren.nil _ _ _ | exact Ren.nilsl _ _ | exact RowsRen.nil | exact RenE.nil)
        | (with_reducible refine Ren.ref _ _ _ _ _ ?_ ?_) <;> decide
        | (with_reducible refine Ren.osN _ _ ?_ ?_ ?_ ?_) <;> (first | decide | first | rfl | omega | (simp <;> omega) | (simp only [go_sem]; done) | (push_cast; omega) | (intro h; exact h) | (intro h; cases h))
        | with_reducible (first | refine Ren.fnL _ _ ?_ ?_ | refine Ren.aggL _ _ ?_)
        | (with_reducible (first | refine Ren.pu _ ?_ | refine RenE.puE ?_)) <;> (first | assumption | (simp only [go_sem] <;> assumption) | (simp only [go_sem, *]; done) | (simp [go_sem]; done))
        | (with_reducible apply RowsRen.row); (focus decide); (focus rfl)
        | (with_reducible refine RowsRen.virt _ _ _ _ _ ?_ ?_ ?_ ?_); (focus decide); (focus decide); (focus decide)
        | with_reducible (first | refine RowsRen.gone _ _ ?_ | refine RenE.cons _ _ _ _ ?_ ?_)
        | (with_reducible refine RenE.setR ?_ ?_); (focus (first | assumption | (simp only [go_sem] <;> assumption) | (simp only [go_sem, *]; done) | (simp [go_sem]; done)))
        | (with_reducible refine RenE.fam (B := 8) ?_ ?_ ?_) <;> (first | omega | decide | (intro j hj; rfl) | assumption)
        | (with_reducible refine RenE.famCt (B := 3) ?_ ?_ ?_ ?_) <;> (first | omega | decide | (intro j hj; rfl) | assumption)
        | (with_reducible refine RenE.famSnoc rfl ?_ ?_ ?_ ?_) <;> (first | decide | rfl | first | rfl | omega | (simp <;> omega) | (simp only [go_sem]; done) | (push_cast; omega))
        | (with_reducible refine RenE.famCSnoc rfl ?_ ?_ ?_ ?_ ?_) <;> (first | decide | rfl | first | rfl | omega | (simp <;> omega) | (simp only [go_sem]; done) | (push_cast; omega))
        | (with_reducible refine RenE.famSet (B := 8) ?_ ?_ ?_ ?_ ?_ ?_) <;> (first | omega | decide | rfl | assumption | first | rfl | omega | (simp <;> omega) | (simp only [go_sem]; done) | (push_cast; omega))
        | (with_reducible refine RenE.famCSet (B := 3) ?_ ?_ ?_ ?_ ?_ ?_ ?_ ?_) <;> (first | omega | decide | rfl | assumption | (intro j _ _; rfl) | first | rfl | omega | (simp <;> omega) | (simp only [go_sem]; done) | (push_cast; omega))
        | (with_reducible (first | refine Ren.slE _ _ _ ?_ ?_ | refine RenE.eqE ?_ ?_)); (focus (first | rfl | omega | (simp <;> omega) | (simp only [go_sem]; done) | (push_cast; omega))); (focus (first | assumption | (simp only [go_sem] <;> assumption) | (simp only [go_sem, *]; done) | (simp [go_sem]; done)))
        | (with_reducible refine RenL.puL ?_) <;> (first | assumption | (simp only [go_sem] <;> assumption) | (simp only [go_sem, *]; done) | (simp [go_sem]; done))
        | (with_reducible refine RenL.eqL ?_ ?_); (focus (first | rfl | omega | (simp <;> omega) | (simp only [go_sem]; done) | (push_cast; omega))); (focus (first | assumption | (simp only [go_sem] <;> assumption) | (simp only [go_sem, *]; done) | (simp [go_sem]; done)))))
    (hi : renInj (renOf ρl) (keysOf l') = true := by rfl) (hl : gh.lim ≤ nx' := by exact Nat.le_of_ble_eq_true rfl) : Weak ⟨tm, h, nx, gh⟩ ⟨tm', hpOf (fun _ => none) l', nx', gh⟩ := Weak.rows ρl hl hlow ht hh hi
def lnB (bs : List Box) (j : Nat) : Nat := (bs.getD j default).length
def lnC (cs : List Bill) (j : Nat) : Nat := (cs.getD j default).2.length
def ctC (cs : List Bill) (j : Nat) : Int := (cs.getD j default).1
def rowB (bs : List Box) (i j : Nat) : List (List V) := if j < i then (bs.getD j default).map encS else []
def rowC (cs : List Bill) (i j : Nat) : List (List V) := if j < i then (cs.getD j default).2.map encS else []
theorem rowB_zero (bs : List Box) (j : Nat) : rowB bs 0 j = [] := rfl
theorem rowC_zero (cs : List Bill) (j : Nat) : rowC cs 0 j = [] := rfl
theorem rowB_ne {bs : List Box} {i j : Nat} (h : j ≠ i) : rowB bs (i + 1) j = rowB bs i j := by
  unfold rowB
  by_cases hj : j < i
  · rw [if_pos hj, if_pos (by omega)]
  · rw [if_neg hj, if_neg (by omega)]
theorem rowB_eq {bs : List Box} {i : Nat} : rowB bs (i + 1) i = (bs.getD i default).map encS := by rw [rowB, if_pos (by omega)]
theorem rowC_ne {cs : List Bill} {i j : Nat} (h : j ≠ i) : rowC cs (i + 1) j = rowC cs i j := by
  unfold rowC
  by_cases hj : j < i
  · rw [if_pos hj, if_pos (by omega)]
  · rw [if_neg hj, if_neg (by omega)]
theorem rowC_eq {cs : List Bill} {i : Nat} : rowC cs (i + 1) i = (cs.getD i default).2.map encS := by rw [rowC, if_pos (by omega)]
@[go_sem] theorem rowB_pu (bs : List Box) (i j : Nat) : PuE (rowB bs i j) = True := by
  unfold rowB; split
  · first | assumption | (simp only [go_sem] <;> assumption) | (simp only [go_sem, *]; done) | (simp [go_sem]; done)
  · first | assumption | (simp only [go_sem] <;> assumption) | (simp only [go_sem, *]; done) | (simp [go_sem]; done)
@[go_sem] theorem rowC_pu (cs : List Bill) (i j : Nat) : PuE (rowC cs i j) = True := by
  unfold rowC; split
  · first | assumption | (simp only [go_sem] <;> assumption) | (simp only [go_sem, *]; done) | (simp [go_sem]; done)
  · first | assumption | (simp only [go_sem] <;> assumption) | (simp only [go_sem, *]; done) | (simp [go_sem]; done)
theorem famE_zero (F : Nat) (ln : Nat → Nat) : famE F 0 ln = [] := rfl
theorem famC_zero (F : Nat) (ct : Nat → Int) (ln : Nat → Nat) : famC F 0 ct ln = [] := rfl
def ownRows (bs : List Box) (cs : List Bill) : List (Nat × Option Blk) := [(0, some ⟨2, [loadC bs cs], 46, .wr⟩), (64, some ⟨2, [[nilV, nilV]], 46, .wr⟩), (192, some ⟨2, [loadC bs cs], 46, .wr⟩), (256, some ⟨2, [[.os 193 1 bs.length false, .os 194 2 cs.length false]], 46, .wr⟩), (384, some ⟨2, [[.os 193 1 bs.length false, .os 194 2 cs.length false]], 46, .wr⟩), (193, some ⟨1, famE 200 bs.length (lnB bs), 35, .wr⟩), (194, some ⟨2, famC 208 cs.length (ctC cs) (lnC cs), 41, .wr⟩), (200, some ⟨2, rowB bs bs.length 0, 38, .wr⟩), (201, some ⟨2, rowB bs bs.length 1, 38, .wr⟩), (202, some ⟨2, rowB bs bs.length 2, 38, .wr⟩), (203, some ⟨2, rowB bs bs.length 3, 38, .wr⟩), (204, some ⟨2, rowB bs bs.length 4, 38, .wr⟩), (205, some ⟨2, rowB bs bs.length 5, 38, .wr⟩), (206, some ⟨2, rowB bs bs.length 6, 38, .wr⟩), (207, some ⟨2, rowB bs bs.length 7, 38, .wr⟩), (208, some ⟨2, rowC cs cs.length 0, 38, .wr⟩), (209, some ⟨2, rowC cs cs.length 1, 38, .wr⟩), (210, some ⟨2, rowC cs cs.length 2, 38, .wr⟩)]
end Go.Aw
end
section
namespace Go.Aw
open Go.RowKit
def rhoD (ρ : Nat → Nat) (n : Nat) (id : Nat) : Nat := if n ≤ id ∧ id < n + 64 then ρ (id - n) else id + 9223372036854775808
section
variable {P : Program} {g : FuncId} {first args cap args' : List V} {nx nx0 M : Nat} {rows0 : List (Nat × Option Blk)} {rows : Wr} {r0 r' : V} {ρ : Nat → Nat}
theorem RH.joinD {w : World} {own : Nat → Prop} {ok : Nat → Nat → Prop} {s s0 : Nat → Option Nat} {h h0 h' : Hp} (hr : RH w own ok s h) {own0 : Nat → Prop} (hr0 : RH w own0 ok s0 h0) (hd : ∀ b, own b → ¬ own0 b) (hfr : ∀ id, nx ≤ id → id < nx + 64 → s id = none ∧ h id = none)
    (hfr0 : ∀ id, nx0 ≤ id → s0 id = none ∧ h0 id = none) (hn : nx0 ≤ 9223372036854775808) (hinj : ∀ a b, a < 64 → b < 64 → ρ a = ρ b → ρ a < nx0 → a = b)
    (hh : ∀ id b', h' id = some b' → (¬ (nx ≤ id ∧ id < nx + 64) ∧ h id = some b') ∨ ((nx ≤ id ∧ id < nx + 64) ∧ ∃ b, h0 (rhoD ρ nx id) = some b ∧ b'.k = b.k ∧ b'.ty = b.ty ∧ b'.mode = b.mode ∧ RenE (rhoD ρ nx) M b'.es b.es)) :
    RH w (fun b => own b ∨ own0 b) ok (fun id => if nx ≤ id ∧ id < nx + 64 then s0 (ρ (id - nx)) else s id) h' := by
  let s' : Nat → Option Nat := fun id => if nx ≤ id ∧ id < nx + 64 then s0 (ρ (id - nx)) else s id
  show RH w _ ok s' h'
  have hs1 : ∀ id B, s id = some B → s' id = some B := fun id B hB => by
    have : ¬ (nx ≤ id ∧ id < nx + 64) := fun h => by rw [(hfr id h.1 h.2).1] at hB; cases hB
    simp only [s', if_neg this]; exact hB
  have hs0 : ∀ id B, id < M → s0 (rhoD ρ nx id) = some B → s' id = some B := fun id B _ hB => by
    unfold rhoD at hB
    split at hB
    · rename_i h1; simp only [s', if_pos h1]; exact hB
    · rw [(hfr0 _ (by omega)).1] at hB; cases hB
  have hs2 : ∀ id B, (nx ≤ id ∧ id < nx + 64) → s' id = some B → s0 (rhoD ρ nx id) = some B := fun id B h1 hB => by
    simp only [s', if_pos h1] at hB
    unfold rhoD; rw [if_pos h1]; exact hB
  have hs3 : ∀ id B, ¬ (nx ≤ id ∧ id < nx + 64) → s' id = some B → s id = some B := fun id B h1 hB => by
    simp only [s', if_neg h1] at hB; exact hB
  have own1 : ∀ id b B, h id = some b → b.mode ≠ .old → s id = some B → own B := fun id b B h1 h2 h3 => ((hr.blk id b h1).own B h3 h2).1
  have own2 : ∀ id b B, h0 id = some b → b.mode ≠ .old → s0 id = some B → own0 B := fun id b B h1 h2 h3 => ((hr0.blk id b h1).own B h3 h2).1
  refine ⟨hr.okw, fun b hb => ?_, fun id B hB => ?_, fun id b' hb' => ?_, fun id1 id2 b1 b2 B g1 g2 m1 m2 e1 e2 => ?_, hr.gl⟩
  · rcases hb with hb | hb
    · exact hr.ownw b hb
    · exact hr0.ownw b hb
  · by_cases h1 : nx ≤ id ∧ id < nx + 64
    · exact hr0.sw _ B (hs2 id B h1 hB)
    · exact hr.sw id B (hs3 id B h1 hB)
  · rcases hh id b' hb' with ⟨h1, h2⟩ | ⟨h1, b, hb, hk, hty, hm, he⟩
    · have hbk := hr.blk id b' h2
      refine ⟨hbk.pos, hbk.len, fun hv => hbk.virt (by simpa [s', h1] using hv), fun B hB hm => ⟨.inl (hbk.own B (hs3 id B h1 hB) hm).1, (hbk.own B (hs3 id B h1 hB) hm).2⟩, fun B hB => hbk.shape B (hs3 id B h1 hB), fun B hB i j e d hi hj => ?_,
        fun B hB => hbk.fwr B (hs3 id B h1 hB), fun B hB => hbk.ffz B (hs3 id B h1 hB), fun B hB => hbk.fold B (hs3 id B h1 hB)⟩
      obtain ⟨u, g1, g2⟩ := hbk.cells B (hs3 id B h1 hB) i j e d hi hj
      exact ⟨u, g1, g2.keep (fun _ _ h => ⟨h, rfl⟩) (fun _ _ _ h => h) hs1⟩
    · have hbk := hr0.blk _ _ hb
      obtain ⟨el, ei⟩ := he.spec
      refine ⟨by rw [hk]; exact hbk.pos, fun e h => ?_, fun h => ?_, fun B hB hmm => ⟨.inr (hbk.own B (hs2 id B h1 hB) (by rw [← hm]; exact hmm)).1, (hbk.own B (hs2 id B h1 hB) (by rw [← hm]; exact hmm)).2⟩, fun B hB => ?_, fun B hB i j e d hi hj => ?_, fun B hB hmm => hbk.fwr B (hs2 id B h1 hB) (by rw [← hm]; exact hmm), fun B hB hmm o => ?_, fun B hB hmm o ho => ?_⟩
      · obtain ⟨i, hi, rfl⟩ := List.getElem_of_mem h
        have hi' : i < b.es.length := by omega
        rw [hk, (ei i _ _ (List.getElem?_eq_getElem hi) (List.getElem?_eq_getElem hi')).spec.1]
        exact hbk.len _ (List.getElem_mem hi')
      · have : s0 (rhoD ρ nx id) = none := by
          unfold rhoD; rw [if_pos h1]
          simpa [s', h1] using h
        have := hbk.virt this
        rw [this] at el
        exact List.eq_nil_of_length_eq_zero (by simpa using el)
      · obtain ⟨sz, g1, g2⟩ := hbk.shape B (hs2 id B h1 hB)
        exact ⟨sz, by rw [hty]; exact g1, by rw [hk, el]; exact g2⟩
      · have hi' : i < b.es.length := by have := (List.getElem?_eq_some_iff.1 hi).1; omega
        obtain ⟨jl, jr⟩ := (ei i _ _ hi (List.getElem?_eq_getElem hi')).spec
        have hj' : j < (b.es[i]).length := by have := (List.getElem?_eq_some_iff.1 hj).1; omega
        obtain ⟨u, g1, g2⟩ := hbk.cells B (hs2 id B h1 hB) i j _ _ (List.getElem?_eq_getElem hi') (List.getElem?_eq_getElem hj')
        exact ⟨u, by rw [hk]; exact g1, g2.ren (jr j _ _ hj (List.getElem?_eq_getElem hj')) hs0⟩
      · rw [hk, el]; exact hbk.ffz B (hs2 id B h1 hB) (by rw [← hm]; exact hmm) o
      · rw [hk, el] at ho; exact hbk.fold B (hs2 id B h1 hB) (by rw [← hm]; exact hmm) o ho
  · rcases hh id1 b1 g1 with ⟨a1, a2⟩ | ⟨a1, b, q1, _, _, q4, _⟩
    · rcases hh id2 b2 g2 with ⟨c1, c2⟩ | ⟨c1, b, p1, _, _, p4, _⟩
      · exact hr.exc id1 id2 b1 b2 B a2 c2 m1 m2 (hs3 _ _ a1 e1) (hs3 _ _ c1 e2)
      · exact (hd B (own1 _ _ _ a2 m1 (hs3 _ _ a1 e1)) (own2 _ _ _ p1 (by rw [← p4]; exact m2) (hs2 _ _ c1 e2))).elim
    · rcases hh id2 b2 g2 with ⟨c1, c2⟩ | ⟨c1, b', p1, _, _, p4, _⟩
      · exact (hd B (own1 _ _ _ c2 m2 (hs3 _ _ c1 e2)) (own2 _ _ _ q1 (by rw [← q4]; exact m1) (hs2 _ _ a1 e1))).elim
      · have hx := hr0.exc _ _ b b' B q1 p1 (by rw [← q4]; exact m1) (by rw [← p4]; exact m2) (hs2 _ _ a1 e1) (hs2 _ _ c1 e2)
        have hlt : rhoD ρ nx id1 < nx0 := by
          rcases Nat.lt_or_ge (rhoD ρ nx id1) nx0 with h | h
          · exact h
          · rw [(hfr0 _ h).2] at q1; cases q1
        unfold rhoD at hx hlt
        rw [if_pos a1, if_pos c1] at hx
        rw [if_pos a1] at hlt
        have := hinj _ _ (by omega) (by omega) hx hlt
        omega
theorem applyWr_some : ∀ {rows : Wr} {h : Hp} {id : Nat} {b' : Blk}, applyWr h rows id = some b' → (∃ p ∈ rows, p.1 = id ∧ p.2 = some b') ∨ (h id = some b' ∧ ∀ p ∈ rows, p.1 ≠ id)
  | [], h, id, b', e => .inr ⟨e, fun p hp => by cases hp⟩
  | (k, x) :: rows, h, id, b', e => by
    rcases applyWr_some (rows := rows) (h := upd h k x) e with ⟨p, hp, h1⟩ | ⟨h1, h2⟩
    · exact .inl ⟨p, by simp [hp], h1⟩
    · unfold upd at h1
      split at h1
      · rename_i e; subst e
        exact .inl ⟨(id, x), by simp, rfl, h1⟩
      · rename_i hne
        refine .inr ⟨h1, fun p hp => ?_⟩
        rcases List.mem_cons.1 hp with rfl | hp
        · exact fun h => hne h.symm
        · exact h2 p hp
structure RowIs (ρ : Nat → Nat) (nx : Nat) (rows0 : List (Nat × Option Blk)) (p : Nat × Option Blk) : Prop where
  ge : nx ≤ p.1
  lt : p.1 < nx + 64
  is : ∀ b', p.2 = some b' → ∃ b, hpOf (fun _ => none) rows0 (ρ (p.1 - nx)) = some b ∧ b'.k = b.k ∧ b'.ty = b.ty ∧ b'.mode = b.mode ∧ RenE (rhoD ρ nx) (nx + 64) b'.es b.es
theorem CallH.freshC (hc : CallH P g args' (fun _ => none) 0 (fun r h n => r = r0 ∧ h = hpOf (fun _ => none) rows0 ∧ n = nx0)) (hn : nx0 ≤ 9223372036854775808) (hinj : ∀ a b, a < 64 → b < 64 → ρ a = ρ b → ρ a < nx0 → a = b)
    (hr' : Ren (rhoD ρ nx) (nx + 64) r' r0) (hrows : ∀ p ∈ rows, RowIs ρ nx rows0 p) : FreshC P g args' r' rows nx := by
  intro w own ok s h args vals hrh hfr hp hsz hvals
  have hrh0 : RH w (fun _ => False) ok (fun _ => none) (fun _ => none) := ⟨hrh.okw, fun b hb => hb.elim, (fun id B hB => by cases hB), (fun id b hb => by cases hb), (fun id1 id2 b1 b2 B h1 => by cases h1), hrh.gl⟩
  have hok : ∀ b o, okT ok s h true b o → ok b o := fun b o h => by
    rcases h with h | ⟨h, _⟩
    · exact h
    · cases h
  have hargs : ∀ (i : Nat) (d : V) (v : Value), args'[i]? = some d → vals[i]? = some v → Rep w ok (fun _ => none) v d := fun i d v hd hv => by
    have hi : i < args.length := by rw [hp.1]; exact (List.getElem?_eq_some_iff.1 hd).1
    exact ((hp.2 i _ d (List.getElem?_eq_getElem hi) hd).rep hrh (hvals i _ v (List.getElem?_eq_getElem hi) hv)).keep (fun b o h => ⟨hok b o h, rfl⟩) (fun _ _ _ h => h) (fun _ _ h => h)
  refine CallsIn.mono (hc w _ ok _ vals hrh0 (fun id _ => ⟨rfl, rfl⟩) (hsz.trans hp.1) hargs) ?_
  rintro e w' ⟨v, r, h0, n, own0, ok0, s0, rfl, ⟨rfl, rfl, rfl⟩, g1, g2, g3, _, g5, _⟩
  obtain ⟨k1, k2⟩ := hrh.called g3 g1.okw
  have hd : ∀ b, own b → ¬ own0 b := fun b hb h0 => by
    rcases g3.ownn b h0 with h | h
    · exact h
    · have := hrh.ownw b hb; omega
  have hj := RH.joinD (nx := nx) (ρ := ρ) (M := nx + 64) (h' := applyWr h rows) k1 g1 hd hfr g5 hn hinj fun id b' hb' => by
    rcases applyWr_some hb' with ⟨p, hp, rfl, h2⟩ | ⟨h1, h2⟩
    · right
      have hrw := hrows p hp
      refine ⟨⟨hrw.ge, hrw.lt⟩, ?_⟩
      unfold rhoD
      rw [if_pos ⟨hrw.ge, hrw.lt⟩]
      exact hrw.is b' h2
    · left
      refine ⟨fun hr => ?_, h1⟩
      rw [(hfr id hr.1 hr.2).2] at h1; cases h1
  refine ⟨v, _, ok0, _, rfl, g2.ren hr' fun id B hid hB => ?_, hj, ⟨k2.os, k2.tape, k2.output, k2.size, k2.unch, fun b hb => ?_, k2.okk, k2.okc, k2.okn, k2.shape, k2.ctl⟩, fun id hid => ?_⟩
  · unfold rhoD at hB
    split at hB
    · rename_i h1; simp only [if_pos h1]; exact hB
    · rw [(g5 _ (by omega)).1] at hB; cases hB
  · rcases hb with hb | hb
    · exact .inl hb
    · rcases g3.ownn b hb with h | h
      · exact h.elim
      · exact .inr h
  · simp only [if_neg hid]
theorem call_dn {K : V → List Nat → Wr → Prop} (id : Nat) {k : Nat} {es : List (List V)} {ty : TypeId} {es1 es2 : List V} {r : V} {rows : Wr} {h : Hp} (hf : FreshC P g es2 r rows nx) (hk : K r [id] ((id, some ⟨k, es, ty, .fz⟩) :: rows)) (hbd : ∃ fn, P.funcs[g]? = some fn ∧ fn.body.isSome = true ∧ fn.name ≠ "runtime.NumGoroutine")
    (ha : first ++ args ++ cap = es1 := by first | (simp only [go_sem]; done) | (simp only [go_sem]; rfl)) (hb : h id = some ⟨k, es, ty, .wr⟩ := by rfl) (hp : PurI true (hpOf (fun _ => none) [(id, some ⟨k, es, ty, .fz⟩)]) es1 es2 := by
      (try simp (maxSteps := 1000000) -implicitDefEqProofs (disch := omega) only [go_sem])
      repeat' (first
        | with_reducible (first | exact PurI.nil | exact Pur.nilsl _ _ | exact PurE.nil)
        | (with_reducible (first | refine PurI.puL ?_ | refine PurE.puE ?_)) <;> (first | assumption | (simp only [go_sem] <;> assumption) | (simp only [go_sem, *]; done) | (simp [go_sem]; done))
        | with_reducible apply PurI.cons
        | (with_reducible refine Pur.pu _ ?_) <;> (first | assumption | (simp only [go_sem] <;> assumption) | (simp only [go_sem, *]; done) | (simp [go_sem]; done))
        | ((with_reducible apply Pur.refR) <;> (first | rfl | decide | (simp only [go_sem]; omega) | (simp only [go_sem]) | skip))
        | ((with_reducible apply Pur.osR) <;> (first | rfl | exact fun h => h | omega | (simp; omega) | (simp; done) | (simp only [go_sem]) | skip))
        | with_reducible (first | apply Pur.fnI | apply Pur.aggI | apply PurE.cons)
        | (with_reducible refine PurI.eqL ?_ ?_); (focus rfl); (focus (first | assumption | (simp only [go_sem] <;> assumption) | (simp only [go_sem, *]; done) | (simp [go_sem]; done)))
        | simp (maxSteps := 1000000) -implicitDefEqProofs (disch := omega) only [go_sem])) : CallD P (.fn (.func g) first cap) args h nx K := by
  subst ha
  have e := frz_restr1 hb
  refine .fresh id ⟨k, es, ty, .wr⟩ g first cap es2 r [id] rows rfl (by simp [restr, hb]) ?_ hf hbd ?_
  · rw [e]; exact hp.spec
  · rw [e]
    have : hpOf (fun _ => none) [(id, some (⟨k, es, ty, .fz⟩ : Blk))] id = some ⟨k, es, ty, .fz⟩ := by simp [hpOf, hget]
    rw [this]; exact hk
end
end Go.Aw
end
section
set_option maxRecDepth 20000
set_option maxHeartbeats 4000000
namespace Go.Aw
open Go.RowKit Go.Proofs
abbrev Grd := Int × List Int
def encGd (x : Grd) : List V := [.lit (.int .i64 x.1), .sl 1 (x.2.map encI) false]
@[go_sem] theorem encGd_eq (x : Grd) : encGd x = [.lit (.int .i64 x.1), .sl 1 (x.2.map encI) false] := rfl
structure Gau where
  sc : Int
  ga : Int
  we : Int
  cu : Int
def encGa (g : Gau) : V := .agg [int g.sc, int g.ga, int g.we, int g.cu]
@[go_sem] theorem encGa_eq (g : Gau) : encGa g = .agg [int g.sc, int g.ga, int g.we, int g.cu] := rfl
theorem IndexFunc_guard (l : List (Int × List Int)) (e : Bool) (p : Int × List Int → Bool) (g : FuncId) (cap : List V) (hl : l.length ≤ 4611686018427387904) (hcap : PuL cap) (hg : ∀ x ∈ l, Ct Tryd.prog g (.agg (encGd x) :: cap) (.lit (.bool (p x)))) :
    Ct Tryd.prog 44 [.sl 2 (l.map encGd) e, .fn (.func g) [] cap] (.lit (.int .i64 (idxR l p))) := by
  refine fn_enter Tryd.func44 rfl (by decide) Tryd.results44 Tryd.ntmps44 ?_ rfl (by simp (maxSteps := 1000000) -implicitDefEqProofs (disch := omega) only [go_sem]; rfl) fun base => ?_
  · simp
  repeat' (first
    | (with_reducible apply Req_intro); focus (first | omega | assumption | (simp; done))
    | with_reducible (first | apply Req_intro | refine nilT ?_ fun hn => ?_ | apply wk_draw Tryd_mixed | refine drawEnd (by kernel_rfl) ?_)
    | (with_reducible (first | apply condA_if | apply stepDG_ifN | apply stepDG_if | apply stepG_ifN | apply stepG_if)) <;> intro hb <;> (have hif := hb) <;> (try simp only [bo] at hif) <;> (try simp -implicitDefEqProofs (disch := omega) only [go_sem, hb]) <;> clear hb
    | simp (maxSteps := 1000000) -implicitDefEqProofs (disch := omega) only [go_sem])
  refine loop_at (α := Nat) [4, 5, 8, 9, 10, 11, 12, 13, 14, 15, 16, 17, 18] (fun i => [(8, .lit (.int .i64 i))]) (fun i => i ≤ l.length ∧ ∀ x ∈ l.take i, p x = false) (fun i => l.length - i) 0 (fun x => by simp (maxSteps := 1000000) -implicitDefEqProofs (disch := omega) only [go_sem]; rfl) ?_ ?_ fun x hx => ?_
  · exact weak_do []
  · simp
  obtain ⟨hi, hp⟩ := hx
  repeat' (first
    | (with_reducible apply Req_intro); focus (first | omega | assumption | (simp; done))
    | with_reducible (first | apply Req_intro | refine nilT ?_ fun hn => ?_ | apply wk_draw Tryd_mixed | refine drawEnd (by kernel_rfl) ?_)
    | (with_reducible (first | apply condA_if | apply stepDG_ifN | apply stepDG_if | apply stepG_ifN | apply stepG_if)) <;> intro hb <;> (have hif := hb) <;> (try simp only [bo] at hif) <;> (try simp -implicitDefEqProofs (disch := omega) only [go_sem, hb]) <;> clear hb
    | simp (maxSteps := 1000000) -implicitDefEqProofs (disch := omega) only [go_sem])
  · have hif' : x < l.length := hif
    refine callp (hg (l.getD x default) (getD_mem hif')) ?_
    try simp (maxSteps := 1000000) -implicitDefEqProofs (disch := omega) only [go_sem]
    repeat' (first
      | (with_reducible apply Req_intro); focus (first | omega | assumption | (simp; done))
      | with_reducible (first | apply Req_intro | refine nilT ?_ fun hn => ?_ | apply wk_draw Tryd_mixed | refine drawEnd (by kernel_rfl) ?_)
      | (with_reducible (first | apply condA_if | apply stepDG_ifN | apply stepDG_if | apply stepG_ifN | apply stepG_if)) <;> intro hb <;> (have hif := hb) <;> (try simp only [bo] at hif) <;> (try simp -implicitDefEqProofs (disch := omega) only [go_sem, hb]) <;> clear hb
      | simp (maxSteps := 1000000) -implicitDefEqProofs (disch := omega) only [go_sem])
    · refine ret_do ?_
      rw [idxR_some hif' hp hif]; rfl
    · refine nxt_w (x + 1) (weak_do []) ?_
      try dsimp only
      exact idxR_step hif' hp hif
  · refine ret_do ?_
    rw [idxR_none hif hp]; rfl
theorem ContainsFunc_guard (l : List (Int × List Int)) (e : Bool) (p : Int × List Int → Bool) (g : FuncId) (cap : List V) (hl : l.length ≤ 4611686018427387904) (hcap : PuL cap) (hg : ∀ x ∈ l, Ct Tryd.prog g (.agg (encGd x) :: cap) (.lit (.bool (p x)))) :
    Ct Tryd.prog 24 [.sl 2 (l.map encGd) e, .fn (.func g) [] cap] (.lit (.bool (l.any p))) := by
  refine fn_enter Tryd.func24 rfl (by decide) Tryd.results24 Tryd.ntmps24 ?_ rfl (by simp (maxSteps := 1000000) -implicitDefEqProofs (disch := omega) only [go_sem]; rfl) fun base => ?_
  · simp
  repeat' (first
    | (with_reducible apply Req_intro); focus (first | omega | assumption | (simp; done))
    | with_reducible (first | apply Req_intro | refine nilT ?_ fun hn => ?_ | apply wk_draw Tryd_mixed | refine drawEnd (by kernel_rfl) ?_)
    | (with_reducible (first | apply condA_if | apply stepDG_ifN | apply stepDG_if | apply stepG_ifN | apply stepG_if)) <;> intro hb <;> (have hif := hb) <;> (try simp only [bo] at hif) <;> (try simp -implicitDefEqProofs (disch := omega) only [go_sem, hb]) <;> clear hb
    | simp (maxSteps := 1000000) -implicitDefEqProofs (disch := omega) only [go_sem])
  refine callp (IndexFunc_guard l e p g cap hl hcap hg) ?_
  try simp (maxSteps := 1000000) -implicitDefEqProofs (disch := omega) only [go_sem]
  repeat' (first
    | (with_reducible apply Req_intro); focus (first | omega | assumption | (simp; done))
    | with_reducible (first | apply Req_intro | refine nilT ?_ fun hn => ?_ | apply wk_draw Tryd_mixed | refine drawEnd (by kernel_rfl) ?_)
    | (with_reducible (first | apply condA_if | apply stepDG_ifN | apply stepDG_if | apply stepG_ifN | apply stepG_if)) <;> intro hb <;> (have hif := hb) <;> (try simp only [bo] at hif) <;> (try simp -implicitDefEqProofs (disch := omega) only [go_sem, hb]) <;> clear hb
    | simp (maxSteps := 1000000) -implicitDefEqProofs (disch := omega) only [go_sem])
  refine ret_do ?_
  rw [← idxR_any]; rfl
theorem gwithin1_spec (n a b : Int) : Ct Tryd.prog 43 [.lit (.int .i64 n), .rp [.lit (.int .i64 a)], .rp [.lit (.int .i64 b)]] (.lit (.bool (decide (n < a) || decide (b < n)))) := by
  refine fn_enter Tryd.func43 rfl (by decide) Tryd.results43 Tryd.ntmps43 ?_ rfl (by simp (maxSteps := 1000000) -implicitDefEqProofs (disch := omega) only [go_sem]; rfl) fun base => ?_
  · simp
  repeat' (first
    | (with_reducible apply Req_intro); focus (first | omega | assumption | (simp; done))
    | with_reducible (first | apply Req_intro | refine nilT ?_ fun hn => ?_ | apply wk_draw Tryd_mixed | refine drawEnd (by kernel_rfl) ?_)
    | (with_reducible (first | apply condA_if | apply stepDG_ifN | apply stepDG_if | apply stepG_ifN | apply stepG_if)) <;> intro hb <;> (have hif := hb) <;> (try simp only [bo] at hif) <;> (try simp -implicitDefEqProofs (disch := omega) only [go_sem, hb]) <;> clear hb
    | simp (maxSteps := 1000000) -implicitDefEqProofs (disch := omega) only [go_sem])
  · refine ret_do ?_
    rfl
  · refine ret_do ?_
    rfl
theorem gwithin_spec (a b : Int) (l : List Int) (e : Bool) (hl : l.length ≤ 4611686018427387904) : Ct Tryd.prog 22 [.lit (.int .i64 a), .lit (.int .i64 b), .sl 1 (l.map encI) e] (.lit (.bool (l.all (inR' a b)))) := by
  refine fn_enter Tryd.func22 rfl (by decide) Tryd.results22 Tryd.ntmps22 ?_ rfl (by simp (maxSteps := 1000000) -implicitDefEqProofs (disch := omega) only [go_sem]; rfl) fun base => ?_
  · simp
  repeat' (first
    | (with_reducible apply Req_intro); focus (first | omega | assumption | (simp; done))
    | with_reducible (first | apply Req_intro | refine nilT ?_ fun hn => ?_ | apply wk_draw Tryd_mixed | refine drawEnd (by kernel_rfl) ?_)
    | (with_reducible (first | apply condA_if | apply stepDG_ifN | apply stepDG_if | apply stepG_ifN | apply stepG_if)) <;> intro hb <;> (have hif := hb) <;> (try simp only [bo] at hif) <;> (try simp -implicitDefEqProofs (disch := omega) only [go_sem, hb]) <;> clear hb
    | simp (maxSteps := 1000000) -implicitDefEqProofs (disch := omega) only [go_sem])
  refine callc (ContainsFunc_int l e (fun n => decide (n < a) || decide (b < n)) 43 [.rp [.lit (.int .i64 a)], .rp [.lit (.int .i64 b)]] hl (by first | assumption | (simp only [go_sem] <;> assumption) | (simp only [go_sem, *]; done) | (simp [go_sem]; done)) (fun n _ => gwithin1_spec n a b)) ?_
  try simp (maxSteps := 1000000) -implicitDefEqProofs (disch := omega) only [go_sem]
  repeat' (first
    | (with_reducible apply Req_intro); focus (first | omega | assumption | (simp; done))
    | with_reducible (first | apply Req_intro | refine nilT ?_ fun hn => ?_ | apply wk_draw Tryd_mixed | refine drawEnd (by kernel_rfl) ?_)
    | (with_reducible (first | apply condA_if | apply stepDG_ifN | apply stepDG_if | apply stepG_ifN | apply stepG_if)) <;> intro hb <;> (have hif := hb) <;> (try simp only [bo] at hif) <;> (try simp -implicitDefEqProofs (disch := omega) only [go_sem, hb]) <;> clear hb
    | simp (maxSteps := 1000000) -implicitDefEqProofs (disch := omega) only [go_sem])
  refine ret_do ?_
  rw [any_out]; rfl
def otherR (l : List Grd) (x : Grd) : Bool := !inR' 1 4 x.2.length || ((x.2.length : Int) != ((l.getD 0 default).2.length : Int))
def noneR (x : Grd) : Bool := !inR' 1 10000 x.1 || !x.2.all (inR' 0 500)
def gaugeR (g : Gau) : Bool := inR' 0 100 g.sc && inR' 0 100 g.ga && inR' 0 10000 g.we && inR' 0 500 g.cu
def chkR (g : Gau) (l : List Grd) : Int := if l.any (otherR l) then 4 else if l.any noneR then 2 else if gaugeR g then 0 else 3
theorem other_spec (l : List Grd) (hl : l ≠ []) (e : Bool) (x : Grd) : Ct Tryd.prog 21 [.agg (encGd x), .rp [.sl 2 (l.map encGd) e]] (.lit (.bool (otherR l x))) := by
  have h1 : 0 < l.length := List.length_pos_iff.2 hl
  refine fn_enter Tryd.func21 rfl (by decide) Tryd.results21 Tryd.ntmps21 ?_ rfl (by simp (maxSteps := 1000000) -implicitDefEqProofs (disch := omega) only [go_sem]; rfl) fun base => ?_
  · first | assumption | (simp only [go_sem] <;> assumption) | (simp only [go_sem, *]; done) | (simp [go_sem]; done)
  repeat' (first
    | (with_reducible apply Req_intro); focus (first | omega | assumption | (simp; done))
    | with_reducible (first | apply Req_intro | refine nilT ?_ fun hn => ?_ | apply wk_draw Tryd_mixed | refine drawEnd (by kernel_rfl) ?_)
    | (with_reducible (first | apply condA_if | apply stepDG_ifN | apply stepDG_if | apply stepG_ifN | apply stepG_if)) <;> intro hb <;> (have hif := hb) <;> (try simp only [bo] at hif) <;> (try simp -implicitDefEqProofs (disch := omega) only [go_sem, hb]) <;> clear hb
    | simp (maxSteps := 1000000) -implicitDefEqProofs (disch := omega) only [go_sem])
  refine calldf 320 (gwithin_spec 1 4 [(x.2.length : Int)] _ (by simp)) ?_
  try simp (maxSteps := 1000000) -implicitDefEqProofs (disch := omega) only [go_sem]
  repeat' (first
    | (with_reducible apply Req_intro); focus (first | omega | assumption | (simp; done))
    | with_reducible (first | apply Req_intro | refine nilT ?_ fun hn => ?_ | apply wk_draw Tryd_mixed | refine drawEnd (by kernel_rfl) ?_)
    | (with_reducible (first | apply condA_if | apply stepDG_ifN | apply stepDG_if | apply stepG_ifN | apply stepG_if)) <;> intro hb <;> (have hif := hb) <;> (try simp only [bo] at hif) <;> (try simp -implicitDefEqProofs (disch := omega) only [go_sem, hb]) <;> clear hb
    | simp (maxSteps := 1000000) -implicitDefEqProofs (disch := omega) only [go_sem])
  · refine ret_do ?_
    simp [retV, otherR, hif]
  · refine ret_do ?_
    simp only [retV, otherR, hif, Bool.not_true, Bool.false_or]
theorem none_spec (x : Grd) (hx : x.2.length ≤ 4611686018427387904) : Ct Tryd.prog 23 [.agg (encGd x)] (.lit (.bool (noneR x))) := by
  refine fn_enter Tryd.func23 rfl (by decide) Tryd.results23 Tryd.ntmps23 ?_ rfl (by simp (maxSteps := 1000000) -implicitDefEqProofs (disch := omega) only [go_sem]; rfl) fun base => ?_
  · first | assumption | (simp only [go_sem] <;> assumption) | (simp only [go_sem, *]; done) | (simp [go_sem]; done)
  repeat' (first
    | (with_reducible apply Req_intro); focus (first | omega | assumption | (simp; done))
    | with_reducible (first | apply Req_intro | refine nilT ?_ fun hn => ?_ | apply wk_draw Tryd_mixed | refine drawEnd (by kernel_rfl) ?_)
    | (with_reducible (first | apply condA_if | apply stepDG_ifN | apply stepDG_if | apply stepG_ifN | apply stepG_if)) <;> intro hb <;> (have hif := hb) <;> (try simp only [bo] at hif) <;> (try simp -implicitDefEqProofs (disch := omega) only [go_sem, hb]) <;> clear hb
    | simp (maxSteps := 1000000) -implicitDefEqProofs (disch := omega) only [go_sem])
  refine callc (gwithin_spec 1 10000 [x.1] _ (by simp)) ?_
  try simp (maxSteps := 1000000) -implicitDefEqProofs (disch := omega) only [go_sem]
  repeat' (first
    | (with_reducible apply Req_intro); focus (first | omega | assumption | (simp; done))
    | with_reducible (first | apply Req_intro | refine nilT ?_ fun hn => ?_ | apply wk_draw Tryd_mixed | refine drawEnd (by kernel_rfl) ?_)
    | (with_reducible (first | apply condA_if | apply stepDG_ifN | apply stepDG_if | apply stepG_ifN | apply stepG_if)) <;> intro hb <;> (have hif := hb) <;> (try simp only [bo] at hif) <;> (try simp -implicitDefEqProofs (disch := omega) only [go_sem, hb]) <;> clear hb
    | simp (maxSteps := 1000000) -implicitDefEqProofs (disch := omega) only [go_sem])
  · refine ret_do ?_
    simp [retV, noneR, hif]
  · refine callp (gwithin_spec 0 500 x.2 _ hx) ?_
    try simp (maxSteps := 1000000) -implicitDefEqProofs (disch := omega) only [go_sem]
    repeat' (first
      | (with_reducible apply Req_intro); focus (first | omega | assumption | (simp; done))
      | with_reducible (first | apply Req_intro | refine nilT ?_ fun hn => ?_ | apply wk_draw Tryd_mixed | refine drawEnd (by kernel_rfl) ?_)
      | (with_reducible (first | apply condA_if | apply stepDG_ifN | apply stepDG_if | apply stepG_ifN | apply stepG_if)) <;> intro hb <;> (have hif := hb) <;> (try simp only [bo] at hif) <;> (try simp -implicitDefEqProofs (disch := omega) only [go_sem, hb]) <;> clear hb
      | simp (maxSteps := 1000000) -implicitDefEqProofs (disch := omega) only [go_sem])
    refine ret_do ?_
    simp [retV, noneR, hif]
theorem gfar_spec (a b : Int) (ha : inR' 0 1000000 a = true) (hb : inR' 0 1000000 b = true) : Ct Tryd.prog 25 [int a, int b] (int (max (a - b) (b - a))) := by
  simp only [inR', Bool.and_eq_true, decide_eq_true_eq] at ha hb
  refine fn_enter Tryd.func25 rfl (by decide) Tryd.results25 Tryd.ntmps25 ?_ rfl (by simp (maxSteps := 1000000) -implicitDefEqProofs (disch := omega) only [go_sem]; rfl) fun base => ?_
  · first | assumption | (simp only [go_sem] <;> assumption) | (simp only [go_sem, *]; done) | (simp [go_sem]; done)
  repeat' (first
    | (with_reducible apply Req_intro); focus (first | omega | assumption | (simp; done))
    | with_reducible (first | apply Req_intro | refine nilT ?_ fun hn => ?_ | apply wk_draw Tryd_mixed | refine drawEnd (by kernel_rfl) ?_)
    | (with_reducible (first | apply condA_if | apply stepDG_ifN | apply stepDG_if | apply stepG_ifN | apply stepG_if)) <;> intro hb <;> (have hif := hb) <;> (try simp only [bo] at hif) <;> (try simp -implicitDefEqProofs (disch := omega) only [go_sem, hb]) <;> clear hb
    | simp (maxSteps := 1000000) -implicitDefEqProofs (disch := omega) only [go_sem])
  refine ret_do ?_
  rfl
structure GrdOk (n : Nat) (x : Grd) : Prop where
  w : inR' 0 1000000 x.1 = true
  len : x.2.length = n
  c : ∀ v ∈ x.2, inR' 0 1000000 v = true
structure GauOk (g : Gau) : Prop where
  sc : inR' 0 100 g.sc = true
  ga : inR' 0 100 g.ga = true
  we : inR' 0 10000 g.we = true
  cu : inR' 0 500 g.cu = true
def farR (a b : Int) : Int := max (a - b) (b - a)
def alikeR (g : Gau) (a b : Grd) (k : Int) : Bool := !decide (g.we < farR a.1 b.1 + k * g.sc) && (List.range a.2.length).all fun i => !decide (g.cu < farR (a.2.getD i default) (b.2.getD i default) + k * g.ga)
theorem mul_small {k s : Int} (hk : -2 ≤ k ∧ k ≤ 2) (hs : 0 ≤ s ∧ s ≤ 100) : -200 ≤ k * s ∧ k * s ≤ 200 := by
  obtain ⟨h1, h2⟩ := hk
  have : k = -2 ∨ k = -1 ∨ k = 0 ∨ k = 1 ∨ k = 2 := by omega
  rcases this with rfl | rfl | rfl | rfl | rfl <;> omega
theorem farR_small {a b : Int} (ha : inR' 0 1000000 a = true) (hb : inR' 0 1000000 b = true) : 0 ≤ farR a b ∧ farR a b ≤ 1000000 := by
  simp only [inR', Bool.and_eq_true, decide_eq_true_eq] at ha hb
  unfold farR
  omega
theorem alike_spec (g : Gau) (a b : Grd) (k : Int) (n : Nat) (hn : n ≤ 4) (hg : GauOk g) (ha : GrdOk n a) (hb : GrdOk n b) (hk : inR' (-2) 2 k = true) : Ct Tryd.prog 14 [encGa g, .agg (encGd a), .agg (encGd b), int k] (.lit (.bool (alikeR g a b k))) := by
  have g1 := hg.sc
  have g2 := hg.ga
  have g3 := hg.we
  have g4 := hg.cu
  have a2 := ha.len
  have b2 := hb.len
  have hw := gfar_spec a.1 b.1 ha.w hb.w
  have hc : ∀ i, i < n → Ct Tryd.prog 25 [int (a.2.getD i default), int (b.2.getD i default)] (int (farR (a.2.getD i default) (b.2.getD i default))) := fun i hi => gfar_spec _ _ (ha.c _ (getD_mem (by omega))) (hb.c _ (getD_mem (by omega)))
  have hkr : -2 ≤ k ∧ k ≤ 2 := by simpa [inR'] using hk
  have hs : 0 ≤ g.sc ∧ g.sc ≤ 100 := by simpa [inR'] using g1
  have hga : 0 ≤ g.ga ∧ g.ga ≤ 100 := by simpa [inR'] using g2
  have k1 := mul_small hkr hs
  have k2 := mul_small hkr hga
  have hb1 := farR_small ha.w hb.w
  unfold farR at hb1
  have hneg : g.we < farR a.1 b.1 + k * g.sc → alikeR g a b k = false := fun h => by rw [alikeR, decide_eq_true h]; rfl
  have hc1 : ∀ i, i < n → 0 ≤ farR (a.2.getD i default) (b.2.getD i default) ∧ farR (a.2.getD i default) (b.2.getD i default) ≤ 1000000 := fun i hi => farR_small (ha.c _ (getD_mem (by omega))) (hb.c _ (getD_mem (by omega)))
  refine fn_enter Tryd.func14 rfl (by decide) Tryd.results14 Tryd.ntmps14 ?_ rfl (by simp (maxSteps := 1000000) -implicitDefEqProofs (disch := omega) only [go_sem]; rfl) fun base => ?_
  · first | assumption | (simp only [go_sem] <;> assumption) | (simp only [go_sem, *]; done) | (simp [go_sem]; done)
  repeat' (first
    | (with_reducible apply Req_intro); focus (first | omega | assumption | (simp; done))
    | with_reducible (first | apply Req_intro | refine nilT ?_ fun hn => ?_ | apply wk_draw Tryd_mixed | refine drawEnd (by kernel_rfl) ?_)
    | (with_reducible (first | apply condA_if | apply stepDG_ifN | apply stepDG_if | apply stepG_ifN | apply stepG_if)) <;> intro hb <;> (have hif := hb) <;> (try simp only [bo] at hif) <;> (try simp -implicitDefEqProofs (disch := omega) only [go_sem, hb]) <;> clear hb
    | simp (maxSteps := 1000000) -implicitDefEqProofs (disch := omega) only [go_sem])
  refine calld hw ?_
  try simp (maxSteps := 1000000) -implicitDefEqProofs (disch := omega) only [go_sem]
  repeat' (first
    | (with_reducible apply Req_intro); focus (first | omega | assumption | (simp; done))
    | with_reducible (first | apply Req_intro | refine nilT ?_ fun hn => ?_ | apply wk_draw Tryd_mixed | refine drawEnd (by kernel_rfl) ?_)
    | (with_reducible (first | apply condA_if | apply stepDG_ifN | apply stepDG_if | apply stepG_ifN | apply stepG_if)) <;> intro hb <;> (have hif := hb) <;> (try simp only [bo] at hif) <;> (try simp -implicitDefEqProofs (disch := omega) only [go_sem, hb]) <;> clear hb
    | simp (maxSteps := 1000000) -implicitDefEqProofs (disch := omega) only [go_sem])
  · refine ret_do ?_
    rw [hneg (by unfold farR; exact hif)]; rfl
  refine loop_at (α := Nat) [8, 9, 10, 29, 30, 31, 32, 33, 34, 35, 36, 37, 38, 39, 40, 41, 42, 43, 44, 45, 46, 47, 48, 49, 50, 51] (fun i => [(29, .lit (.int .i64 i))]) (fun i => i ≤ n ∧ ∀ j, j < i → decide (g.cu < farR (a.2.getD j default) (b.2.getD j default) + k * g.ga) = false) (fun i => n - i) 0 (fun x => by simp (maxSteps := 1000000) -implicitDefEqProofs (disch := omega) only [go_sem]; rfl) ?_ ?_ fun x hx => ?_
  · exact weak_do []
  · exact ⟨Nat.zero_le _, fun j hj => by omega⟩
  obtain ⟨hi, hp⟩ := hx
  have hq : alikeR g a b k = (List.range a.2.length).all fun i => !decide (g.cu < farR (a.2.getD i default) (b.2.getD i default) + k * g.ga) := by
    rw [alikeR, farR, decide_eq_false (by omega)]; rfl
  by_cases hlt : x < n
  · have hcx := hc x hlt
    have hcb := hc1 x hlt
    repeat' (first
      | (with_reducible apply Req_intro); focus (first | omega | assumption | (simp; done))
      | with_reducible (first | apply Req_intro | refine nilT ?_ fun hn => ?_ | apply wk_draw Tryd_mixed | refine drawEnd (by kernel_rfl) ?_)
      | (with_reducible (first | apply condA_if | apply stepDG_ifN | apply stepDG_if | apply stepG_ifN | apply stepG_if)) <;> intro hb <;> (have hif := hb) <;> (try simp only [bo] at hif) <;> (try simp -implicitDefEqProofs (disch := omega) only [go_sem, hb]) <;> clear hb
      | simp (maxSteps := 1000000) -implicitDefEqProofs (disch := omega) only [go_sem])
    all_goals first | (exfalso; omega) | skip
    refine calld hcx ?_
    try simp (maxSteps := 1000000) -implicitDefEqProofs (disch := omega) only [go_sem]
    repeat' (first
      | (with_reducible apply Req_intro); focus (first | omega | assumption | (simp; done))
      | with_reducible (first | apply Req_intro | refine nilT ?_ fun hn => ?_ | apply wk_draw Tryd_mixed | refine drawEnd (by kernel_rfl) ?_)
      | (with_reducible (first | apply condA_if | apply stepDG_ifN | apply stepDG_if | apply stepG_ifN | apply stepG_if)) <;> intro hb <;> (have hif := hb) <;> (try simp only [bo] at hif) <;> (try simp -implicitDefEqProofs (disch := omega) only [go_sem, hb]) <;> clear hb
      | simp (maxSteps := 1000000) -implicitDefEqProofs (disch := omega) only [go_sem])
    · refine ret_do ?_
      rename_i h1 h2
      rw [hq, show ((List.range a.2.length).all fun i => !decide (g.cu < farR (a.2.getD i default) (b.2.getD i default) + k * g.ga)) = false from ?_]
      · rfl
      rw [List.all_eq_false]
      exact ⟨x, by rw [List.mem_range]; omega, by rw [decide_eq_true (by assumption)]; decide⟩
    · refine nxt_w (x + 1) (weak_do []) ?_
      try dsimp only
      refine ⟨by omega, fun j hj => ?_⟩
      rcases Nat.lt_succ_iff_lt_or_eq.1 hj with h | rfl
      · exact hp j h
      · exact decide_eq_false (by omega)
  · repeat' (first
      | (with_reducible apply Req_intro); focus (first | omega | assumption | (simp; done))
      | with_reducible (first | apply Req_intro | refine nilT ?_ fun hn => ?_ | apply wk_draw Tryd_mixed | refine drawEnd (by kernel_rfl) ?_)
      | (with_reducible (first | apply condA_if | apply stepDG_ifN | apply stepDG_if | apply stepG_ifN | apply stepG_if)) <;> intro hb <;> (have hif := hb) <;> (try simp only [bo] at hif) <;> (try simp -implicitDefEqProofs (disch := omega) only [go_sem, hb]) <;> clear hb
      | simp (maxSteps := 1000000) -implicitDefEqProofs (disch := omega) only [go_sem])
    all_goals first | (exfalso; omega) | skip
    refine ret_do ?_
    rw [hq, show ((List.range a.2.length).all fun i => !decide (g.cu < farR (a.2.getD i default) (b.2.getD i default) + k * g.ga)) = true from ?_]
    · rfl
    rw [List.all_eq_true]
    intro i hi2
    rw [hp i (by rw [List.mem_range] at hi2; omega)]; rfl
theorem chk_ok {g : Gau} {l : List Grd} (h : chkR g l = 0) : GauOk g ∧ ∃ n, n ≤ 4 ∧ ∀ x ∈ l, GrdOk n x := by
  unfold chkR at h
  split at h
  · cases h
  split at h
  · cases h
  split at h
  rotate_left
  · cases h
  rename_i h1 h2 h3
  simp only [gaugeR, Bool.and_eq_true] at h3
  obtain ⟨⟨⟨g1, g2⟩, g3⟩, g4⟩ := h3
  refine ⟨⟨g1, g2, g3, g4⟩, ?_⟩
  cases l with
  | nil => exact ⟨0, by omega, fun x hx => by cases hx⟩
  | cons y l =>
    simp only [Bool.not_eq_true, List.any_eq_false] at h1 h2
    have hy := h1 y (by simp)
    simp only [otherR, Bool.or_eq_false_iff, Bool.not_eq_false', inR', Bool.and_eq_true, decide_eq_true_eq, Bool.not_eq_true] at hy
    refine ⟨y.2.length, by omega, fun x hx => ?_⟩
    have hx1 := h1 x hx
    have hx2 := h2 x hx
    simp only [otherR, Bool.or_eq_false_iff, Bool.not_eq_false', inR', Bool.and_eq_true, decide_eq_true_eq, Bool.not_eq_true] at hx1
    simp only [noneR, Bool.or_eq_false_iff, Bool.not_eq_false', inR', Bool.and_eq_true, decide_eq_true_eq, Bool.not_eq_true, List.all_eq_true] at hx2
    refine ⟨?_, ?_, fun v hv => ?_⟩
    · simp only [inR', Bool.and_eq_true, decide_eq_true_eq]; omega
    · have := hx1.2
      simp at this
      omega
    · have := hx2.2 v hv
      simp only [inR', Bool.and_eq_true, decide_eq_true_eq]; omega
theorem checkAll_spec (g : Gau) (l : List Grd) (e : Bool) (hl : l.length ≤ 4611686018427387904) (hlc : ∀ x ∈ l, x.2.length ≤ 4611686018427387904) : Ct Tryd.prog 13 [encGa g, .sl 2 (l.map encGd) e] (.lit (.int .i64 (chkR g l))) := by
  have hbad : l.any (otherR l) = false → l.any noneR = false → gaugeR g = false → chkR g l = 3 := fun h1 h2 h => by rw [chkR, if_neg (by rw [h1]; decide), if_neg (by rw [h2]; decide), h]; rfl
  refine fn_enter Tryd.func13 rfl (by decide) Tryd.results13 Tryd.ntmps13 ?_ rfl (by simp (maxSteps := 1000000) -implicitDefEqProofs (disch := omega) only [go_sem]; rfl) fun base => ?_
  · first | assumption | (simp only [go_sem] <;> assumption) | (simp only [go_sem, *]; done) | (simp [go_sem]; done)
  repeat' (first
    | (with_reducible apply Req_intro); focus (first | omega | assumption | (simp; done))
    | with_reducible (first | apply Req_intro | refine nilT ?_ fun hn => ?_ | apply wk_draw Tryd_mixed | refine drawEnd (by kernel_rfl) ?_)
    | (with_reducible (first | apply condA_if | apply stepDG_ifN | apply stepDG_if | apply stepG_ifN | apply stepG_if)) <;> intro hb <;> (have hif := hb) <;> (try simp only [bo] at hif) <;> (try simp -implicitDefEqProofs (disch := omega) only [go_sem, hb]) <;> clear hb
    | simp (maxSteps := 1000000) -implicitDefEqProofs (disch := omega) only [go_sem])
  refine callc (ContainsFunc_guard l _ (otherR l) 21 [.rp [.sl 2 (l.map encGd) e]] hl (by first | assumption | (simp only [go_sem] <;> assumption) | (simp only [go_sem, *]; done) | (simp [go_sem]; done)) (fun x hx => other_spec l (List.ne_nil_of_mem hx) e x)) ?_
  try simp (maxSteps := 1000000) -implicitDefEqProofs (disch := omega) only [go_sem]
  repeat' (first
    | (with_reducible apply Req_intro); focus (first | omega | assumption | (simp; done))
    | with_reducible (first | apply Req_intro | refine nilT ?_ fun hn => ?_ | apply wk_draw Tryd_mixed | refine drawEnd (by kernel_rfl) ?_)
    | (with_reducible (first | apply condA_if | apply stepDG_ifN | apply stepDG_if | apply stepG_ifN | apply stepG_if)) <;> intro hb <;> (have hif := hb) <;> (try simp only [bo] at hif) <;> (try simp -implicitDefEqProofs (disch := omega) only [go_sem, hb]) <;> clear hb
    | simp (maxSteps := 1000000) -implicitDefEqProofs (disch := omega) only [go_sem])
  · refine ret_do ?_
    rw [chkR, if_pos hif]; rfl
  have h1 := hif
  clear hif
  refine callp (ContainsFunc_guard l _ noneR 23 [] hl (by first | assumption | (simp only [go_sem] <;> assumption) | (simp only [go_sem, *]; done) | (simp [go_sem]; done)) (fun x hx => none_spec x (hlc x hx))) ?_
  try simp (maxSteps := 1000000) -implicitDefEqProofs (disch := omega) only [go_sem]
  repeat' (first
    | (with_reducible apply Req_intro); focus (first | omega | assumption | (simp; done))
    | with_reducible (first | apply Req_intro | refine nilT ?_ fun hn => ?_ | apply wk_draw Tryd_mixed | refine drawEnd (by kernel_rfl) ?_)
    | (with_reducible (first | apply condA_if | apply stepDG_ifN | apply stepDG_if | apply stepG_ifN | apply stepG_if)) <;> intro hb <;> (have hif := hb) <;> (try simp only [bo] at hif) <;> (try simp -implicitDefEqProofs (disch := omega) only [go_sem, hb]) <;> clear hb
    | simp (maxSteps := 1000000) -implicitDefEqProofs (disch := omega) only [go_sem])
  · refine ret_do ?_
    rw [chkR, if_neg (by rw [h1]; decide), if_pos hif]; rfl
  have h2 := hif
  clear hif
  refine callc (gwithin_spec 0 100 [g.sc, g.ga] _ (by simp)) ?_
  try simp (maxSteps := 1000000) -implicitDefEqProofs (disch := omega) only [go_sem]
  repeat' (first
    | (with_reducible apply Req_intro); focus (first | omega | assumption | (simp; done))
    | with_reducible (first | apply Req_intro | refine nilT ?_ fun hn => ?_ | apply wk_draw Tryd_mixed | refine drawEnd (by kernel_rfl) ?_)
    | (with_reducible (first | apply condA_if | apply stepDG_ifN | apply stepDG_if | apply stepG_ifN | apply stepG_if)) <;> intro hb <;> (have hif := hb) <;> (try simp only [bo] at hif) <;> (try simp -implicitDefEqProofs (disch := omega) only [go_sem, hb]) <;> clear hb
    | simp (maxSteps := 1000000) -implicitDefEqProofs (disch := omega) only [go_sem])
  · refine ret_do ?_
    rw [hbad h1 h2 (by
      unfold gaugeR
      cases h : inR' 0 100 g.sc with
      | false => rfl
      | true => rw [hif h]; rfl)]; rfl
  have h3 := hif
  clear hif
  refine callc (gwithin_spec 0 10000 [g.we] _ (by simp)) ?_
  try simp (maxSteps := 1000000) -implicitDefEqProofs (disch := omega) only [go_sem]
  repeat' (first
    | (with_reducible apply Req_intro); focus (first | omega | assumption | (simp; done))
    | with_reducible (first | apply Req_intro | refine nilT ?_ fun hn => ?_ | apply wk_draw Tryd_mixed | refine drawEnd (by kernel_rfl) ?_)
    | (with_reducible (first | apply condA_if | apply stepDG_ifN | apply stepDG_if | apply stepG_ifN | apply stepG_if)) <;> intro hb <;> (have hif := hb) <;> (try simp only [bo] at hif) <;> (try simp -implicitDefEqProofs (disch := omega) only [go_sem, hb]) <;> clear hb
    | simp (maxSteps := 1000000) -implicitDefEqProofs (disch := omega) only [go_sem])
  · refine ret_do ?_
    rw [hbad h1 h2 (by simp only [gaugeR, h3, hif, Bool.and_self, Bool.and_false, Bool.false_and])]; rfl
  have h4 := hif
  clear hif
  refine callc (gwithin_spec 0 500 [g.cu] _ (by simp)) ?_
  try simp (maxSteps := 1000000) -implicitDefEqProofs (disch := omega) only [go_sem]
  repeat' (first
    | (with_reducible apply Req_intro); focus (first | omega | assumption | (simp; done))
    | with_reducible (first | apply Req_intro | refine nilT ?_ fun hn => ?_ | apply wk_draw Tryd_mixed | refine drawEnd (by kernel_rfl) ?_)
    | (with_reducible (first | apply condA_if | apply stepDG_ifN | apply stepDG_if | apply stepG_ifN | apply stepG_if)) <;> intro hb <;> (have hif := hb) <;> (try simp only [bo] at hif) <;> (try simp -implicitDefEqProofs (disch := omega) only [go_sem, hb]) <;> clear hb
    | simp (maxSteps := 1000000) -implicitDefEqProofs (disch := omega) only [go_sem])
  · refine ret_do ?_
    rw [hbad h1 h2 (by simp only [gaugeR, h3, h4, hif, Bool.and_self, Bool.and_false, Bool.false_and])]; rfl
  · refine ret_do ?_
    rw [chkR, if_neg (by rw [h1]; decide), if_neg (by rw [h2]; decide), if_pos (by simp only [gaugeR, h3, h4, hif, Bool.and_self])]; rfl
theorem Alike_spec (g : Gau) (a b : Grd) (ha : a.2.length ≤ 1000) (hb : b.2.length ≤ 1000) : Ct Tryd.prog 5 [.agg (encGd a), .agg (encGd b), encGa g]
    (if chkR g [a, b] = 0 then .tup [.lit (.bool (alikeR g a b 2)), .lit (.bool (alikeR g a b (-2))), int 0] else .tup [.lit (.bool false), .lit (.bool false), int (chkR g [a, b])]) := by
  have hc := checkAll_spec g [a, b] true (by simp) (by
    intro x hx
    simp only [List.mem_cons, List.not_mem_nil, or_false] at hx
    rcases hx with rfl | rfl <;> omega)
  by_cases h0 : chkR g [a, b] = 0
  · rw [if_pos h0]
    rw [h0] at hc
    obtain ⟨hg, n, hn, hok⟩ := chk_ok h0
    have ha := hok a (by simp)
    have hb := hok b (by simp)
    have q1 := alike_spec g a b 2 n hn hg ha hb (by decide)
    have q2 := alike_spec g a b (-2) n hn hg ha hb (by decide)
    refine fn_enter Tryd.func5 rfl (by decide) Tryd.results5 Tryd.ntmps5 ?_ rfl (by simp (maxSteps := 1000000) -implicitDefEqProofs (disch := omega) only [go_sem]; rfl) fun base => ?_
    · first | assumption | (simp only [go_sem] <;> assumption) | (simp only [go_sem, *]; done) | (simp [go_sem]; done)
    repeat' (first
      | (with_reducible apply Req_intro); focus (first | omega | assumption | (simp; done))
      | with_reducible (first | apply Req_intro | refine nilT ?_ fun hn => ?_ | apply wk_draw Tryd_mixed | refine drawEnd (by kernel_rfl) ?_)
      | (with_reducible (first | apply condA_if | apply stepDG_ifN | apply stepDG_if | apply stepG_ifN | apply stepG_if)) <;> intro hb <;> (have hif := hb) <;> (try simp only [bo] at hif) <;> (try simp -implicitDefEqProofs (disch := omega) only [go_sem, hb]) <;> clear hb
      | simp (maxSteps := 1000000) -implicitDefEqProofs (disch := omega) only [go_sem])
    refine callc hc ?_
    try simp (maxSteps := 1000000) -implicitDefEqProofs (disch := omega) only [go_sem]
    repeat' (first
      | (with_reducible apply Req_intro); focus (first | omega | assumption | (simp; done))
      | with_reducible (first | apply Req_intro | refine nilT ?_ fun hn => ?_ | apply wk_draw Tryd_mixed | refine drawEnd (by kernel_rfl) ?_)
      | (with_reducible (first | apply condA_if | apply stepDG_ifN | apply stepDG_if | apply stepG_ifN | apply stepG_if)) <;> intro hb <;> (have hif := hb) <;> (try simp only [bo] at hif) <;> (try simp -implicitDefEqProofs (disch := omega) only [go_sem, hb]) <;> clear hb
      | simp (maxSteps := 1000000) -implicitDefEqProofs (disch := omega) only [go_sem])
    refine calld q1 ?_
    try simp (maxSteps := 1000000) -implicitDefEqProofs (disch := omega) only [go_sem]
    repeat' (first
      | (with_reducible apply Req_intro); focus (first | omega | assumption | (simp; done))
      | with_reducible (first | apply Req_intro | refine nilT ?_ fun hn => ?_ | apply wk_draw Tryd_mixed | refine drawEnd (by kernel_rfl) ?_)
      | (with_reducible (first | apply condA_if | apply stepDG_ifN | apply stepDG_if | apply stepG_ifN | apply stepG_if)) <;> intro hb <;> (have hif := hb) <;> (try simp only [bo] at hif) <;> (try simp -implicitDefEqProofs (disch := omega) only [go_sem, hb]) <;> clear hb
      | simp (maxSteps := 1000000) -implicitDefEqProofs (disch := omega) only [go_sem])
    refine calld q2 ?_
    try simp (maxSteps := 1000000) -implicitDefEqProofs (disch := omega) only [go_sem]
    repeat' (first
      | (with_reducible apply Req_intro); focus (first | omega | assumption | (simp; done))
      | with_reducible (first | apply Req_intro | refine nilT ?_ fun hn => ?_ | apply wk_draw Tryd_mixed | refine drawEnd (by kernel_rfl) ?_)
      | (with_reducible (first | apply condA_if | apply stepDG_ifN | apply stepDG_if | apply stepG_ifN | apply stepG_if)) <;> intro hb <;> (have hif := hb) <;> (try simp only [bo] at hif) <;> (try simp -implicitDefEqProofs (disch := omega) only [go_sem, hb]) <;> clear hb
      | simp (maxSteps := 1000000) -implicitDefEqProofs (disch := omega) only [go_sem])
    refine ret_do ?_
    rfl
  · rw [if_neg h0]
    refine fn_enter Tryd.func5 rfl (by decide) Tryd.results5 Tryd.ntmps5 ?_ rfl (by simp (maxSteps := 1000000) -implicitDefEqProofs (disch := omega) only [go_sem]; rfl) fun base => ?_
    · first | assumption | (simp only [go_sem] <;> assumption) | (simp only [go_sem, *]; done) | (simp [go_sem]; done)
    repeat' (first
      | (with_reducible apply Req_intro); focus (first | omega | assumption | (simp; done))
      | with_reducible (first | apply Req_intro | refine nilT ?_ fun hn => ?_ | apply wk_draw Tryd_mixed | refine drawEnd (by kernel_rfl) ?_)
      | (with_reducible (first | apply condA_if | apply stepDG_ifN | apply stepDG_if | apply stepG_ifN | apply stepG_if)) <;> intro hb <;> (have hif := hb) <;> (try simp only [bo] at hif) <;> (try simp -implicitDefEqProofs (disch := omega) only [go_sem, hb]) <;> clear hb
      | simp (maxSteps := 1000000) -implicitDefEqProofs (disch := omega) only [go_sem])
    refine callc hc ?_
    try simp (maxSteps := 1000000) -implicitDefEqProofs (disch := omega) only [go_sem]
    repeat' (first
      | (with_reducible apply Req_intro); focus (first | omega | assumption | (simp; done))
      | with_reducible (first | apply Req_intro | refine nilT ?_ fun hn => ?_ | apply wk_draw Tryd_mixed | refine drawEnd (by kernel_rfl) ?_)
      | (with_reducible (first | apply condA_if | apply stepDG_ifN | apply stepDG_if | apply stepG_ifN | apply stepG_if)) <;> intro hb <;> (have hif := hb) <;> (try simp only [bo] at hif) <;> (try simp -implicitDefEqProofs (disch := omega) only [go_sem, hb]) <;> clear hb
      | simp (maxSteps := 1000000) -implicitDefEqProofs (disch := omega) only [go_sem])
    all_goals first | exact absurd ‹_› h0 | skip
    refine ret_do ?_
    rfl
end Go.Aw
end
section
set_option maxRecDepth 20000
set_option maxHeartbeats 4000000
namespace Go.Aw
open Go.RowKit Go.Proofs
theorem oakSpan_spec (a b : Int) : Ct Tryd.prog 7 [int a, int b] (.agg (encS (a, b))) := by
  refine ct_enterZ Tryd.func7 rfl (by decide) Tryd.results7 Tryd.ntmps7 ?_ rfl (by simp (maxSteps := 1000000) -implicitDefEqProofs (disch := omega) only [go_sem]; rfl) fun base => ?_
  · first | assumption | (simp only [go_sem] <;> assumption) | (simp only [go_sem, *]; done) | (simp [go_sem]; done)
  repeat' (first
    | (with_reducible apply Req_intro); focus (first | omega | assumption | (simp; done))
    | with_reducible (first | apply Req_intro | refine nilT ?_ fun hn => ?_ | apply wk_draw Tryd_mixed | refine drawEnd (by kernel_rfl) ?_)
    | (with_reducible (first | apply condA_if | apply stepDG_ifN | apply stepDG_if | apply stepG_ifN | apply stepG_if)) <;> intro hb <;> (have hif := hb) <;> (try simp only [bo] at hif) <;> (try simp -implicitDefEqProofs (disch := omega) only [go_sem, hb]) <;> clear hb
    | simp (maxSteps := 1000000) -implicitDefEqProofs (disch := omega) only [go_sem])
  exact retz []
def boxRows0 (s : Int × Int) : List (Nat × Option Blk) := [(0, some ⟨1, [[.os 192 2 1 false]], 35, .wr⟩), (64, some ⟨2, [], 38, .wr⟩), (192, some ⟨2, [encS s], 38, .wr⟩)]
def billRows0 (n : Int) (s : Int × Int) : List (Nat × Option Blk) := [(0, some ⟨2, [[int n, .os 256 2 1 false]], 41, .wr⟩), (128, some ⟨2, [], 38, .wr⟩), (256, some ⟨2, [encS s], 38, .wr⟩)]
theorem oakBox_new (s : Int × Int) : CallH Tryd.prog 6 [.sl 2 ([s].map encS) true] (fun _ => none) 0 (fun r h' nx' => r = .agg [.os 192 2 1 false] ∧ h' = hpOf (fun _ => none) (boxRows0 s) ∧ nx' = 384) := by
  refine callH_enter Tryd.func6 rfl Tryd.results6 Tryd.ntmps6 rfl (by simp (maxSteps := 1000000) -implicitDefEqProofs (disch := omega) only [go_sem]; rfl) fun base => ?_
  repeat' (first
    | (with_reducible apply Req_intro); focus (first | omega | assumption | (simp; done))
    | with_reducible (first | apply Req_intro | refine nilT ?_ fun hn => ?_ | apply wk_draw Tryd_mixed | refine drawEnd (by kernel_rfl) ?_)
    | (with_reducible (first | apply condA_if | apply stepDG_ifN | apply stepDG_if | apply stepG_ifN | apply stepG_if)) <;> intro hb <;> (have hif := hb) <;> (try simp only [bo] at hif) <;> (try simp -implicitDefEqProofs (disch := omega) only [go_sem, hb]) <;> clear hb
    | simp (maxSteps := 1000000) -implicitDefEqProofs (disch := omega) only [go_sem])
  refine ret_do ?_
  exact ⟨rfl, rfl, rfl⟩
theorem oakBill_new (n : Int) (s : Int × Int) : CallH Tryd.prog 8 [int n, .sl 2 ([s].map encS) true] (fun _ => none) 0 (fun r h' nx' => r = .agg [int n, .os 256 2 1 false] ∧ h' = hpOf (fun _ => none) (billRows0 n s) ∧ nx' = 448) := by
  refine callH_enter Tryd.func8 rfl Tryd.results8 Tryd.ntmps8 rfl (by simp (maxSteps := 1000000) -implicitDefEqProofs (disch := omega) only [go_sem]; rfl) fun base => ?_
  repeat' (first
    | (with_reducible apply Req_intro); focus (first | omega | assumption | (simp; done))
    | with_reducible (first | apply Req_intro | refine nilT ?_ fun hn => ?_ | apply wk_draw Tryd_mixed | refine drawEnd (by kernel_rfl) ?_)
    | (with_reducible (first | apply condA_if | apply stepDG_ifN | apply stepDG_if | apply stepG_ifN | apply stepG_if)) <;> intro hb <;> (have hif := hb) <;> (try simp only [bo] at hif) <;> (try simp -implicitDefEqProofs (disch := omega) only [go_sem, hb]) <;> clear hb
    | simp (maxSteps := 1000000) -implicitDefEqProofs (disch := omega) only [go_sem])
  refine ret_do ?_
  exact ⟨rfl, rfl, rfl⟩
def oneTo (m k : Nat) : Nat := if k = 0 then m else k + 1000000
theorem oneTo_inj {m n a b : Nat} (hm : m < n) (hn : n ≤ 1000000) (h : oneTo m a = oneTo m b) (h2 : oneTo m a < n) : a = b := by
  unfold oneTo at h h2
  split at h <;> split at h <;> omega
theorem oneTo_at (m nx : Nat) : rhoD (oneTo m) nx nx = m := by
  unfold rhoD; rw [if_pos ⟨Nat.le_refl _, by omega⟩, Nat.sub_self]; rfl
theorem oneTo_row {m nx : Nat} {b : Blk} {rows0 : List (Nat × Option Blk)} (h : hpOf (fun _ => none) rows0 m = some b) (hp : PuE b.es = True) : ∀ p ∈ [((nx : Nat), some b)], RowIs (oneTo m) nx rows0 p := by
  intro p hp'
  rw [List.mem_singleton] at hp'
  subst hp'
  refine ⟨Nat.le_refl _, by show nx < nx + 64; omega, fun b' h' => ?_⟩
  cases h'
  exact ⟨b, by show hpOf _ _ (oneTo m (nx - nx)) = _; rw [Nat.sub_self]; exact h, rfl, rfl, rfl, RenE.pu _ (of_eq_true hp)⟩
theorem box_fresh (s : Int × Int) (nx : Nat) : FreshC Tryd.prog 6 [.sl 2 ([s].map encS) true] (.agg [.os nx 2 1 false]) [(nx, some ⟨2, [encS s], 38, .wr⟩)] nx :=
  CallH.freshC (ρ := oneTo 192) (oakBox_new s) (by decide) (fun a b _ _ h1 h2 => oneTo_inj (by decide) (by decide) h1 h2) (Ren.aggL _ _ (.cons _ _ _ _ (Ren.osN _ _ rfl (oneTo_at _ _) (by omega) (fun h => h)) .nil)) (oneTo_row (by rfl) (by first | assumption | (simp only [go_sem] <;> assumption) | (simp only [go_sem, *]; done) | (simp [go_sem]; done)))
theorem bill_fresh (n : Int) (s : Int × Int) (nx : Nat) : FreshC Tryd.prog 8 [int n, .sl 2 ([s].map encS) true] (.agg [int n, .os nx 2 1 false]) [(nx, some ⟨2, [encS s], 38, .wr⟩)] nx :=
  CallH.freshC (ρ := oneTo 256) (oakBill_new n s) (by decide) (fun a b _ _ h1 h2 => oneTo_inj (by decide) (by decide) h1 h2) (Ren.aggL _ _ (.cons _ _ _ _ (.lit _) (.cons _ _ _ _ (Ren.osN _ _ rfl (oneTo_at _ _) (by omega) (fun h => h)) .nil))) (oneTo_row (by rfl) (by first | assumption | (simp only [go_sem] <;> assumption) | (simp only [go_sem, *]; done) | (simp [go_sem]; done)))
theorem oakGuard_spec (n : Int) (l : List Int) (e : Bool) (hl : l.length ≤ 1000000) : Ct Tryd.prog 4 [int n, .sl 1 (l.map encI) e] (.agg (encGd (n, l))) := by
  refine ct_enterZ Tryd.func4 rfl (by decide) Tryd.results4 Tryd.ntmps4 ?_ rfl (by simp (maxSteps := 1000000) -implicitDefEqProofs (disch := omega) only [go_sem]; rfl) fun base => ?_
  · first | assumption | (simp only [go_sem] <;> assumption) | (simp only [go_sem, *]; done) | (simp [go_sem]; done)
  repeat' (first
    | (with_reducible apply Req_intro); focus (first | omega | assumption | (simp; done))
    | with_reducible (first | apply Req_intro | refine nilT ?_ fun hn => ?_ | apply wk_draw Tryd_mixed | refine drawEnd (by kernel_rfl) ?_)
    | (with_reducible (first | apply condA_if | apply stepDG_ifN | apply stepDG_if | apply stepG_ifN | apply stepG_if)) <;> intro hb <;> (have hif := hb) <;> (try simp only [bo] at hif) <;> (try simp -implicitDefEqProofs (disch := omega) only [go_sem, hb]) <;> clear hb
    | simp (maxSteps := 1000000) -implicitDefEqProofs (disch := omega) only [go_sem])
  exact retz [256]
theorem oakBox_spec (s : Int × Int) (e : Bool) : Ct Tryd.prog 6 [.sl 2 ([s].map encS) e] (.agg (encB [s])) := by
  refine ct_enterZ Tryd.func6 rfl (by decide) Tryd.results6 Tryd.ntmps6 ?_ rfl (by simp (maxSteps := 1000000) -implicitDefEqProofs (disch := omega) only [go_sem]; rfl) fun base => ?_
  · first | assumption | (simp only [go_sem] <;> assumption) | (simp only [go_sem, *]; done) | (simp [go_sem]; done)
  repeat' (first
    | (with_reducible apply Req_intro); focus (first | omega | assumption | (simp; done))
    | with_reducible (first | apply Req_intro | refine nilT ?_ fun hn => ?_ | apply wk_draw Tryd_mixed | refine drawEnd (by kernel_rfl) ?_)
    | (with_reducible (first | apply condA_if | apply stepDG_ifN | apply stepDG_if | apply stepG_ifN | apply stepG_if)) <;> intro hb <;> (have hif := hb) <;> (try simp only [bo] at hif) <;> (try simp -implicitDefEqProofs (disch := omega) only [go_sem, hb]) <;> clear hb
    | simp (maxSteps := 1000000) -implicitDefEqProofs (disch := omega) only [go_sem])
  exact retz [192]
theorem oakBill_spec (n : Int) (s : Int × Int) (e : Bool) : Ct Tryd.prog 8 [int n, .sl 2 ([s].map encS) e] (.agg (encBill (n, [s]))) := by
  refine ct_enterZ Tryd.func8 rfl (by decide) Tryd.results8 Tryd.ntmps8 ?_ rfl (by simp (maxSteps := 1000000) -implicitDefEqProofs (disch := omega) only [go_sem]; rfl) fun base => ?_
  · first | assumption | (simp only [go_sem] <;> assumption) | (simp only [go_sem, *]; done) | (simp [go_sem]; done)
  repeat' (first
    | (with_reducible apply Req_intro); focus (first | omega | assumption | (simp; done))
    | with_reducible (first | apply Req_intro | refine nilT ?_ fun hn => ?_ | apply wk_draw Tryd_mixed | refine drawEnd (by kernel_rfl) ?_)
    | (with_reducible (first | apply condA_if | apply stepDG_ifN | apply stepDG_if | apply stepG_ifN | apply stepG_if)) <;> intro hb <;> (have hif := hb) <;> (try simp only [bo] at hif) <;> (try simp -implicitDefEqProofs (disch := omega) only [go_sem, hb]) <;> clear hb
    | simp (maxSteps := 1000000) -implicitDefEqProofs (disch := omega) only [go_sem])
  exact retz [256]
theorem oakInts_spec (a b : List Int) (ea eb : Bool) (ha : a.length ≤ 1000000) (hb : b.length ≤ 1000000) : Ct Tryd.prog 12 [.sl 1 (a.map encI) ea, .sl 1 (b.map encI) eb] (.lit (.bool (a == b))) := by
  refine fn_enter Tryd.func12 rfl (by decide) Tryd.results12 Tryd.ntmps12 ?_ rfl (by simp (maxSteps := 1000000) -implicitDefEqProofs (disch := omega) only [go_sem]; rfl) fun base => ?_
  · simp
  repeat' (first
    | (with_reducible apply Req_intro); focus (first | omega | assumption | (simp; done))
    | with_reducible (first | apply Req_intro | refine nilT ?_ fun hn => ?_ | apply wk_draw Tryd_mixed | refine drawEnd (by kernel_rfl) ?_)
    | (with_reducible (first | apply condA_if | apply stepDG_ifN | apply stepDG_if | apply stepG_ifN | apply stepG_if)) <;> intro hb <;> (have hif := hb) <;> (try simp only [bo] at hif) <;> (try simp -implicitDefEqProofs (disch := omega) only [go_sem, hb]) <;> clear hb
    | simp (maxSteps := 1000000) -implicitDefEqProofs (disch := omega) only [go_sem])
  · refine ret_do ?_
    have : (a == b) = false := by rw [beq_eq_false_iff_ne]; intro e; subst e; exact hif rfl
    rw [this]; rfl
  refine loop_at (α := Nat) [4, 5, 11, 12, 13, 14, 15, 16, 17, 18, 19, 20, 21, 22, 23, 24, 25] (fun i => [(5, .lit (.int .i64 i))]) (fun i => i ≤ a.length ∧ a.take i = b.take i) (fun i => a.length - i) 0 (fun x => by simp (maxSteps := 1000000) -implicitDefEqProofs (disch := omega) only [go_sem]; rfl) ?_ ?_ fun x hx => ?_
  · exact weak_do []
  · simp
  obtain ⟨hi, he⟩ := hx
  repeat' (first
    | (with_reducible apply Req_intro); focus (first | omega | assumption | (simp; done))
    | with_reducible (first | apply Req_intro | refine nilT ?_ fun hn => ?_ | apply wk_draw Tryd_mixed | refine drawEnd (by kernel_rfl) ?_)
    | (with_reducible (first | apply condA_if | apply stepDG_ifN | apply stepDG_if | apply stepG_ifN | apply stepG_if)) <;> intro hb <;> (have hif := hb) <;> (try simp only [bo] at hif) <;> (try simp -implicitDefEqProofs (disch := omega) only [go_sem, hb]) <;> clear hb
    | simp (maxSteps := 1000000) -implicitDefEqProofs (disch := omega) only [go_sem])
  · refine ret_do ?_
    have : (a == b) = false := by rw [beq_eq_false_iff_ne]; intro e; subst e; exact hif rfl
    rw [this]; rfl
  · refine nxt_w (x + 1) (weak_do []) ?_
    try dsimp only
    refine ⟨by omega, ?_⟩
    rw [take_succ_getD (by omega), take_succ_getD (by omega), he, hif]
  · refine ret_do ?_
    have : a = b := by
      rw [List.take_of_length_le (by omega), List.take_of_length_le (by omega)] at he; exact he
    subst this; simp; rfl
def knownB : List Box := [[(10, 12)], [(20, 22)], [(11, 11)], [(30, 30)]]
def knownC : List Bill := [(2, [(30, 32)]), (2, [(41, 42)])]
theorem kFits : Fits knownB knownC := by
  constructor <;> simp [knownB, knownC]
theorem kCheck : checkR knownB knownC = 0 := by decide +kernel
theorem kWays : allW knownB knownC = [[0, 0, 1, 1], [1, 0, 0, 1]] := by decide +kernel
theorem Ct.cast {P : Program} {g : FuncId} {av : List V} {r r' : V} (h : Ct P g av r) (e : r = r') : Ct P g av r' := e ▸ h
theorem k_Ways : Ct Tryd.prog 9 [encLoad knownB knownC] (.tup [int 2, .sl 1 (([0, 0, 1, 1] : List Int).map encI) false, int 0]) :=
  Ct.cast (Ways_ok _ _ kFits kCheck (by rw [kWays]; exact List.cons_ne_nil _ _)) (by rw [kWays]; rfl)
theorem oakKnown_spec : Ct Tryd.prog 11 [] (.lit (.bool true)) := by
  refine fn_enter Tryd.func11 rfl (by decide) Tryd.results11 Tryd.ntmps11 ?_ rfl (by simp (maxSteps := 1000000) -implicitDefEqProofs (disch := omega) only [go_sem]; rfl) fun base => ?_
  · first | assumption | (simp only [go_sem] <;> assumption) | (simp only [go_sem, *]; done) | (simp [go_sem]; done)
  repeat' (first
    | (with_reducible apply Req_intro); focus (first | omega | assumption | (simp; done))
    | with_reducible (first | apply Req_intro | refine nilT ?_ fun hn => ?_ | apply wk_draw Tryd_mixed | refine drawEnd (by kernel_rfl) ?_)
    | (with_reducible (first | apply condA_if | apply stepDG_ifN | apply stepDG_if | apply stepG_ifN | apply stepG_if)) <;> intro hb <;> (have hif := hb) <;> (try simp only [bo] at hif) <;> (try simp -implicitDefEqProofs (disch := omega) only [go_sem, hb]) <;> clear hb
    | simp (maxSteps := 1000000) -implicitDefEqProofs (disch := omega) only [go_sem])
  refine callp (oakSpan_spec 10 12) ?_
  try simp (maxSteps := 1000000) -implicitDefEqProofs (disch := omega) only [go_sem]
  repeat' (first
    | (with_reducible apply Req_intro); focus (first | omega | assumption | (simp; done))
    | with_reducible (first | apply Req_intro | refine nilT ?_ fun hn => ?_ | apply wk_draw Tryd_mixed | refine drawEnd (by kernel_rfl) ?_)
    | (with_reducible (first | apply condA_if | apply stepDG_ifN | apply stepDG_if | apply stepG_ifN | apply stepG_if)) <;> intro hb <;> (have hif := hb) <;> (try simp only [bo] at hif) <;> (try simp -implicitDefEqProofs (disch := omega) only [go_sem, hb]) <;> clear hb
    | simp (maxSteps := 1000000) -implicitDefEqProofs (disch := omega) only [go_sem])
  refine callf2 [128] (oakBox_spec (10, 12) true) ?_
  try simp (maxSteps := 1000000) -implicitDefEqProofs (disch := omega) only [go_sem]
  repeat' (first
    | (with_reducible apply Req_intro); focus (first | omega | assumption | (simp; done))
    | with_reducible (first | apply Req_intro | refine nilT ?_ fun hn => ?_ | apply wk_draw Tryd_mixed | refine drawEnd (by kernel_rfl) ?_)
    | (with_reducible (first | apply condA_if | apply stepDG_ifN | apply stepDG_if | apply stepG_ifN | apply stepG_if)) <;> intro hb <;> (have hif := hb) <;> (try simp only [bo] at hif) <;> (try simp -implicitDefEqProofs (disch := omega) only [go_sem, hb]) <;> clear hb
    | simp (maxSteps := 1000000) -implicitDefEqProofs (disch := omega) only [go_sem])
  refine callp (oakSpan_spec 20 22) ?_
  try simp (maxSteps := 1000000) -implicitDefEqProofs (disch := omega) only [go_sem]
  repeat' (first
    | (with_reducible apply Req_intro); focus (first | omega | assumption | (simp; done))
    | with_reducible (first | apply Req_intro | refine nilT ?_ fun hn => ?_ | apply wk_draw Tryd_mixed | refine drawEnd (by kernel_rfl) ?_)
    | (with_reducible (first | apply condA_if | apply stepDG_ifN | apply stepDG_if | apply stepG_ifN | apply stepG_if)) <;> intro hb <;> (have hif := hb) <;> (try simp only [bo] at hif) <;> (try simp -implicitDefEqProofs (disch := omega) only [go_sem, hb]) <;> clear hb
    | simp (maxSteps := 1000000) -implicitDefEqProofs (disch := omega) only [go_sem])
  refine callf2 [320] (oakBox_spec (20, 22) true) ?_
  try simp (maxSteps := 1000000) -implicitDefEqProofs (disch := omega) only [go_sem]
  repeat' (first
    | (with_reducible apply Req_intro); focus (first | omega | assumption | (simp; done))
    | with_reducible (first | apply Req_intro | refine nilT ?_ fun hn => ?_ | apply wk_draw Tryd_mixed | refine drawEnd (by kernel_rfl) ?_)
    | (with_reducible (first | apply condA_if | apply stepDG_ifN | apply stepDG_if | apply stepG_ifN | apply stepG_if)) <;> intro hb <;> (have hif := hb) <;> (try simp only [bo] at hif) <;> (try simp -implicitDefEqProofs (disch := omega) only [go_sem, hb]) <;> clear hb
    | simp (maxSteps := 1000000) -implicitDefEqProofs (disch := omega) only [go_sem])
  refine callp (oakSpan_spec 11 11) ?_
  try simp (maxSteps := 1000000) -implicitDefEqProofs (disch := omega) only [go_sem]
  repeat' (first
    | (with_reducible apply Req_intro); focus (first | omega | assumption | (simp; done))
    | with_reducible (first | apply Req_intro | refine nilT ?_ fun hn => ?_ | apply wk_draw Tryd_mixed | refine drawEnd (by kernel_rfl) ?_)
    | (with_reducible (first | apply condA_if | apply stepDG_ifN | apply stepDG_if | apply stepG_ifN | apply stepG_if)) <;> intro hb <;> (have hif := hb) <;> (try simp only [bo] at hif) <;> (try simp -implicitDefEqProofs (disch := omega) only [go_sem, hb]) <;> clear hb
    | simp (maxSteps := 1000000) -implicitDefEqProofs (disch := omega) only [go_sem])
  refine callf2 [512] (oakBox_spec (11, 11) true) ?_
  try simp (maxSteps := 1000000) -implicitDefEqProofs (disch := omega) only [go_sem]
  repeat' (first
    | (with_reducible apply Req_intro); focus (first | omega | assumption | (simp; done))
    | with_reducible (first | apply Req_intro | refine nilT ?_ fun hn => ?_ | apply wk_draw Tryd_mixed | refine drawEnd (by kernel_rfl) ?_)
    | (with_reducible (first | apply condA_if | apply stepDG_ifN | apply stepDG_if | apply stepG_ifN | apply stepG_if)) <;> intro hb <;> (have hif := hb) <;> (try simp only [bo] at hif) <;> (try simp -implicitDefEqProofs (disch := omega) only [go_sem, hb]) <;> clear hb
    | simp (maxSteps := 1000000) -implicitDefEqProofs (disch := omega) only [go_sem])
  refine callp (oakSpan_spec 30 30) ?_
  try simp (maxSteps := 1000000) -implicitDefEqProofs (disch := omega) only [go_sem]
  repeat' (first
    | (with_reducible apply Req_intro); focus (first | omega | assumption | (simp; done))
    | with_reducible (first | apply Req_intro | refine nilT ?_ fun hn => ?_ | apply wk_draw Tryd_mixed | refine drawEnd (by kernel_rfl) ?_)
    | (with_reducible (first | apply condA_if | apply stepDG_ifN | apply stepDG_if | apply stepG_ifN | apply stepG_if)) <;> intro hb <;> (have hif := hb) <;> (try simp only [bo] at hif) <;> (try simp -implicitDefEqProofs (disch := omega) only [go_sem, hb]) <;> clear hb
    | simp (maxSteps := 1000000) -implicitDefEqProofs (disch := omega) only [go_sem])
  refine callf2 [704] (oakBox_spec (30, 30) true) ?_
  try simp (maxSteps := 1000000) -implicitDefEqProofs (disch := omega) only [go_sem]
  repeat' (first
    | (with_reducible apply Req_intro); focus (first | omega | assumption | (simp; done))
    | with_reducible (first | apply Req_intro | refine nilT ?_ fun hn => ?_ | apply wk_draw Tryd_mixed | refine drawEnd (by kernel_rfl) ?_)
    | (with_reducible (first | apply condA_if | apply stepDG_ifN | apply stepDG_if | apply stepG_ifN | apply stepG_if)) <;> intro hb <;> (have hif := hb) <;> (try simp only [bo] at hif) <;> (try simp -implicitDefEqProofs (disch := omega) only [go_sem, hb]) <;> clear hb
    | simp (maxSteps := 1000000) -implicitDefEqProofs (disch := omega) only [go_sem])
  refine callp (oakSpan_spec 30 32) ?_
  try simp (maxSteps := 1000000) -implicitDefEqProofs (disch := omega) only [go_sem]
  repeat' (first
    | (with_reducible apply Req_intro); focus (first | omega | assumption | (simp; done))
    | with_reducible (first | apply Req_intro | refine nilT ?_ fun hn => ?_ | apply wk_draw Tryd_mixed | refine drawEnd (by kernel_rfl) ?_)
    | (with_reducible (first | apply condA_if | apply stepDG_ifN | apply stepDG_if | apply stepG_ifN | apply stepG_if)) <;> intro hb <;> (have hif := hb) <;> (try simp only [bo] at hif) <;> (try simp -implicitDefEqProofs (disch := omega) only [go_sem, hb]) <;> clear hb
    | simp (maxSteps := 1000000) -implicitDefEqProofs (disch := omega) only [go_sem])
  refine callf2 [960] (oakBill_spec 2 (30, 32) true) ?_
  try simp (maxSteps := 1000000) -implicitDefEqProofs (disch := omega) only [go_sem]
  repeat' (first
    | (with_reducible apply Req_intro); focus (first | omega | assumption | (simp; done))
    | with_reducible (first | apply Req_intro | refine nilT ?_ fun hn => ?_ | apply wk_draw Tryd_mixed | refine drawEnd (by kernel_rfl) ?_)
    | (with_reducible (first | apply condA_if | apply stepDG_ifN | apply stepDG_if | apply stepG_ifN | apply stepG_if)) <;> intro hb <;> (have hif := hb) <;> (try simp only [bo] at hif) <;> (try simp -implicitDefEqProofs (disch := omega) only [go_sem, hb]) <;> clear hb
    | simp (maxSteps := 1000000) -implicitDefEqProofs (disch := omega) only [go_sem])
  refine callp (oakSpan_spec 41 42) ?_
  try simp (maxSteps := 1000000) -implicitDefEqProofs (disch := omega) only [go_sem]
  repeat' (first
    | (with_reducible apply Req_intro); focus (first | omega | assumption | (simp; done))
    | with_reducible (first | apply Req_intro | refine nilT ?_ fun hn => ?_ | apply wk_draw Tryd_mixed | refine drawEnd (by kernel_rfl) ?_)
    | (with_reducible (first | apply condA_if | apply stepDG_ifN | apply stepDG_if | apply stepG_ifN | apply stepG_if)) <;> intro hb <;> (have hif := hb) <;> (try simp only [bo] at hif) <;> (try simp -implicitDefEqProofs (disch := omega) only [go_sem, hb]) <;> clear hb
    | simp (maxSteps := 1000000) -implicitDefEqProofs (disch := omega) only [go_sem])
  refine callf2 [1152] (oakBill_spec 2 (41, 42) true) ?_
  try simp (maxSteps := 1000000) -implicitDefEqProofs (disch := omega) only [go_sem]
  repeat' (first
    | (with_reducible apply Req_intro); focus (first | omega | assumption | (simp; done))
    | with_reducible (first | apply Req_intro | refine nilT ?_ fun hn => ?_ | apply wk_draw Tryd_mixed | refine drawEnd (by kernel_rfl) ?_)
    | (with_reducible (first | apply condA_if | apply stepDG_ifN | apply stepDG_if | apply stepG_ifN | apply stepG_if)) <;> intro hb <;> (have hif := hb) <;> (try simp only [bo] at hif) <;> (try simp -implicitDefEqProofs (disch := omega) only [go_sem, hb]) <;> clear hb
    | simp (maxSteps := 1000000) -implicitDefEqProofs (disch := omega) only [go_sem])
  refine callf [832, 1280] k_Ways ?_ (hp := ?_)
  rotate_left
  · simp only [encLoad, knownB, knownC, List.map_cons, List.map_nil]
    (try simp (maxSteps := 1000000) -implicitDefEqProofs (disch := omega) only [go_sem])
    repeat' (first
      | with_reducible (first | exact PurI.nil | exact Pur.nilsl _ _ | exact PurE.nil)
      | (with_reducible (first | refine PurI.puL ?_ | refine PurE.puE ?_)) <;> (first | assumption | (simp only [go_sem] <;> assumption) | (simp only [go_sem, *]; done) | (simp [go_sem]; done))
      | with_reducible apply PurI.cons
      | (with_reducible refine Pur.pu _ ?_) <;> (first | assumption | (simp only [go_sem] <;> assumption) | (simp only [go_sem, *]; done) | (simp [go_sem]; done))
      | ((with_reducible apply Pur.refR) <;> (first | rfl | decide | (simp only [go_sem]; omega) | (simp only [go_sem]) | skip))
      | ((with_reducible apply Pur.osR) <;> (first | rfl | exact fun h => h | omega | (simp; omega) | (simp; done) | (simp only [go_sem]) | skip))
      | with_reducible (first | apply Pur.fnI | apply Pur.aggI | apply PurE.cons)
      | (with_reducible refine PurI.eqL ?_ ?_); (focus rfl); (focus (first | assumption | (simp only [go_sem] <;> assumption) | (simp only [go_sem, *]; done) | (simp [go_sem]; done)))
      | simp (maxSteps := 1000000) -implicitDefEqProofs (disch := omega) only [go_sem])
  try simp (maxSteps := 1000000) -implicitDefEqProofs (disch := omega) only [go_sem]
  repeat' (first
    | (with_reducible apply Req_intro); focus (first | omega | assumption | (simp; done))
    | with_reducible (first | apply Req_intro | refine nilT ?_ fun hn => ?_ | apply wk_draw Tryd_mixed | refine drawEnd (by kernel_rfl) ?_)
    | (with_reducible (first | apply condA_if | apply stepDG_ifN | apply stepDG_if | apply stepG_ifN | apply stepG_if)) <;> intro hb <;> (have hif := hb) <;> (try simp only [bo] at hif) <;> (try simp -implicitDefEqProofs (disch := omega) only [go_sem, hb]) <;> clear hb
    | simp (maxSteps := 1000000) -implicitDefEqProofs (disch := omega) only [go_sem])
  refine callc (oakInts_spec [0, 0, 1, 1] [0, 0, 1, 1] _ _ (by decide) (by decide)) ?_
  try simp (maxSteps := 1000000) -implicitDefEqProofs (disch := omega) only [go_sem]
  repeat' (first
    | (with_reducible apply Req_intro); focus (first | omega | assumption | (simp; done))
    | with_reducible (first | apply Req_intro | refine nilT ?_ fun hn => ?_ | apply wk_draw Tryd_mixed | refine drawEnd (by kernel_rfl) ?_)
    | (with_reducible (first | apply condA_if | apply stepDG_ifN | apply stepDG_if | apply stepG_ifN | apply stepG_if)) <;> intro hb <;> (have hif := hb) <;> (try simp only [bo] at hif) <;> (try simp -implicitDefEqProofs (disch := omega) only [go_sem, hb]) <;> clear hb
    | simp (maxSteps := 1000000) -implicitDefEqProofs (disch := omega) only [go_sem])
  refine ret_do ?_
  rfl
end Go.Aw
end
section
set_option maxRecDepth 20000
set_option maxHeartbeats 4000000
namespace Go.Aw
open Go.RowKit Go.Proofs
abbrev u8 (n : Int) : V := .lit (.int .u8 n)
def okB (n : Int) : Prop := 0 ≤ n ∧ n ≤ 255
structure BoxIn (x0 x1 x2 y0 y1 y2 sc ga we cu : Int) : Prop where
  x0 : 100 ≤ x0 ∧ x0 ≤ 163
  x1 : 100 ≤ x1 ∧ x1 ≤ 163
  x2 : 100 ≤ x2 ∧ x2 ≤ 163
  y0 : 100 ≤ y0 ∧ y0 ≤ 163
  y1 : 100 ≤ y1 ∧ y1 ≤ 163
  y2 : 100 ≤ y2 ∧ y2 ≤ 163
  sc : 0 ≤ sc ∧ sc ≤ 9
  ga : 0 ≤ ga ∧ ga ≤ 9
  we : 0 ≤ we ∧ we ≤ 31
  cu : 0 ≤ cu ∧ cu ≤ 31
theorem chk_box {x0 x1 x2 y0 y1 y2 sc ga we cu : Int} (h : BoxIn x0 x1 x2 y0 y1 y2 sc ga we cu) : chkR ⟨sc, ga, we, cu⟩ [(x0, [x1, x2]), (y0, [y1, y2])] = 0 := by
  obtain ⟨h1, h2, h3, h4, h5, h6, h7, h8, h9, h10⟩ := h
  have e : ∀ (v a b : Int), a ≤ v ∧ v ≤ b → inR' a b v = true := fun v a b h => by simp only [inR', Bool.and_eq_true, decide_eq_true_eq]; exact h
  have q1 : [((x0, [x1, x2]) : Grd), (y0, [y1, y2])].any (otherR [(x0, [x1, x2]), (y0, [y1, y2])]) = false := by
    simp [otherR, inR']
  have q2 : [((x0, [x1, x2]) : Grd), (y0, [y1, y2])].any noneR = false := by
    simp only [List.any_cons, List.any_nil, noneR, List.all_cons, List.all_nil]
    rw [e x0 1 10000 (by omega), e y0 1 10000 (by omega), e x1 0 500 (by omega), e x2 0 500 (by omega), e y1 0 500 (by omega), e y2 0 500 (by omega)]
    rfl
  have q3 : gaugeR ⟨sc, ga, we, cu⟩ = true := by
    simp only [gaugeR]
    rw [e sc 0 100 (by omega), e ga 0 100 (by omega), e we 0 10000 (by omega), e cu 0 500 (by omega)]
    rfl
  rw [chkR, q1, q2, q3]; rfl
def boxOf (x0 x1 x2 sc ga : Int) : Box := [(x0 - sc, x0 + sc), (x1 - ga, x1 + ga), (x2 - ga, x2 + ga)]
def billOf (y0 y1 y2 sc ga we cu : Int) : Bill := (1, [(y0 - sc - we, y0 + sc + we), (y1 - ga - cu, y1 + ga + cu), (y2 - ga - cu, y2 + ga + cu)])
end Go.Aw
end
section
namespace Go.Aw
open Go.RowKit
theorem allW_one (b : Box) (c : Bill) : allW [b] [c] = if overR (addC carts0 0 b) c then [] else if allMay [c] (carts0.set 0 (addC carts0 0 b)) then [[0]] else [] := by
  simp [allW, waysG]
def meet (s t : Int × Int) : Bool := decide (t.1 ≤ s.2) && decide (s.1 ≤ t.2)
theorem allW_meet (s1 s2 s3 t1 t2 t3 : Int × Int) : allW [[s1, s2, s3]] [(1, [t1, t2, t3])] = if meet s1 t1 && meet s2 t2 && meet s3 t3 then [[0]] else [] := by
  rw [allW_one]
  have ho : overR (addC carts0 0 [s1, s2, s3]) (1, [t1, t2, t3]) = (decide (t1.2 < s1.1) || decide (t2.2 < s2.1) || decide (t3.2 < s3.1)) := by
    simp [overR, addC, carts0, plusR, addS, Carts.get, Sums.get, List.range_succ, default, Inhabited.default, Bool.or_assoc]
  have hm : allMay [(1, [t1, t2, t3])] (carts0.set 0 (addC carts0 0 [s1, s2, s3])) = (meet s1 t1 && meet s2 t2 && meet s3 t3) := by
    simp [allMay, mayR, addC, carts0, plusR, addS, Carts.get, Carts.set, Sums.get, List.range_succ, default, Inhabited.default, meet, Bool.and_assoc]
  rw [ho, hm]
  cases h : (meet s1 t1 && meet s2 t2 && meet s3 t3) with
  | false => simp
  | true =>
    simp only [meet, Bool.and_eq_true, decide_eq_true_eq] at h
    rw [decide_eq_false (by omega), decide_eq_false (by omega), decide_eq_false (by omega)]
    rfl
theorem far_le {x y u s w : Int} : (¬ w < farR x y + (-2) * s) ↔ (y - s - w ≤ x + s ∧ x - s ≤ y + s + w) := by
  unfold farR
  omega
theorem alike_meet (x0 x1 x2 y0 y1 y2 sc ga we cu : Int) : alikeR ⟨sc, ga, we, cu⟩ (x0, [x1, x2]) (y0, [y1, y2]) (-2) = (meet (x0 - sc, x0 + sc) (y0 - sc - we, y0 + sc + we) && meet (x1 - ga, x1 + ga) (y1 - ga - cu, y1 + ga + cu) && meet (x2 - ga, x2 + ga) (y2 - ga - cu, y2 + ga + cu)) := by
  rw [Bool.eq_iff_iff]
  simp only [alikeR, List.length_cons, List.length_nil, List.range_succ, List.range_zero, List.nil_append, List.cons_append, List.all_cons, List.all_nil, List.getD_cons_zero, List.getD_cons_succ, meet, Bool.and_eq_true, Bool.not_eq_true', decide_eq_true_eq, decide_eq_false_iff_not, Bool.and_true]
  have f0 := @far_le x0 y0 0 sc we
  have f1 := @far_le x1 y1 0 ga cu
  have f2 := @far_le x2 y2 0 ga cu
  rw [f0, f1, f2]
  constructor
  · rintro ⟨h1, h2, h3⟩; exact ⟨⟨h1, h2⟩, h3⟩
  · rintro ⟨⟨h1, h2⟩, h3⟩; exact ⟨h1, h2, h3⟩
theorem allW_box (x0 x1 x2 y0 y1 y2 sc ga we cu : Int) : allW [boxOf x0 x1 x2 sc ga] [billOf y0 y1 y2 sc ga we cu] = if alikeR ⟨sc, ga, we, cu⟩ (x0, [x1, x2]) (y0, [y1, y2]) (-2) then [[0]] else [] := by
  rw [alike_meet]; exact allW_meet _ _ _ _ _ _
theorem check_box {x0 x1 x2 y0 y1 y2 sc ga we cu : Int} (h : BoxIn x0 x1 x2 y0 y1 y2 sc ga we cu) : checkR [boxOf x0 x1 x2 sc ga] [billOf y0 y1 y2 sc ga we cu] = 0 := by
  obtain ⟨h1, h2, h3, h4, h5, h6, h7, h8, h9, h10⟩ := h
  have e : ∀ (m : Int) (s : Int × Int), (s.1 ≤ s.2 ∧ 0 ≤ s.1 ∧ s.2 ≤ m) → spanOk m s = true := fun m s h => by
    simp only [spanOk, inR', Bool.and_eq_true, decide_eq_true_eq]; omega
  have q1 : [boxOf x0 x1 x2 sc ga].any (fun h => !h.all (spanOk 1000)) = false := by
    simp only [List.any_cons, List.any_nil, boxOf, List.all_cons, List.all_nil]
    (rw [e, e, e] <;> first | rfl | (constructor <;> omega) | (dsimp only; omega))
  have q2 : [billOf y0 y1 y2 sc ga we cu].any (fun b => !b.2.all (spanOk 10000) || !inR' 0 8 b.1) = false := by
    simp only [List.any_cons, List.any_nil, billOf, List.all_cons, List.all_nil]
    (rw [e, e, e] <;> first | rfl | (constructor <;> omega) | (dsimp only; omega))
  have q3 : [boxOf x0 x1 x2 sc ga].any (fun h => (h.length : Int) != (stuffs [billOf y0 y1 y2 sc ga we cu] : Int)) = false := by
    simp [boxOf, billOf, stuffs]
  have q4 : [billOf y0 y1 y2 sc ga we cu].any (fun b => (b.2.length : Int) != (stuffs [billOf y0 y1 y2 sc ga we cu] : Int)) = false := by
    simp [billOf, stuffs]
  have q5 : stuffs [billOf y0 y1 y2 sc ga we cu] = 3 := rfl
  rw [checkR, if_neg (by simp), if_neg (by simp), if_neg (by rw [q5]; decide), if_neg (by rw [q3]; decide), if_neg (by rw [q4]; decide), if_neg (by rw [q1]; decide), if_neg (by rw [q2]; decide)]
theorem wrong_box {x0 x1 x2 y0 y1 y2 sc ga we cu : Int} (h : BoxIn x0 x1 x2 y0 y1 y2 sc ga we cu) (hn : alikeR ⟨sc, ga, we, cu⟩ (x0, [x1, x2]) (y0, [y1, y2]) (-2) = false) :
    wrongTo (isPos [boxOf x0 x1 x2 sc ga] [billOf y0 y1 y2 sc ga we cu]) (2 ^ 1) = some [0] := by
  obtain ⟨h1, h2, h3, h4, h5, h6, h7, h8, h9, h10⟩ := h
  have p0 : isPos [boxOf x0 x1 x2 sc ga] [billOf y0 y1 y2 sc ga we cu] 0 = false := by
    unfold isPos
    rw [spoil_zero, allW_box, hn]; rfl
  have p1 : isPos [boxOf x0 x1 x2 sc ga] [billOf y0 y1 y2 sc ga we cu] 1 = true := by
    unfold isPos
    rw [show spoil [boxOf x0 x1 x2 sc ga] 1 = [[(0, 10000), (0, 10000), (0, 10000)]] from by simp [spoil, spoilB, boxOf, List.replicate]]
    rw [show [billOf y0 y1 y2 sc ga we cu] = [(1, [(y0 - sc - we, y0 + sc + we), (y1 - ga - cu, y1 + ga + cu), (y2 - ga - cu, y2 + ga + cu)])] from rfl, allW_meet]
    have e : ∀ t : Int × Int, t.1 ≤ 10000 ∧ 0 ≤ t.2 → meet (0, 10000) t = true := fun t h => by simp only [meet, Bool.and_eq_true, decide_eq_true_eq]; omega
    (rw [e, e, e] <;> first | rfl | (constructor <;> omega) | (dsimp only; omega))
  simp only [Nat.pow_one]
  rw [wrongTo, wrongTo, wrongTo]
  simp only [p0, p1, nums_zero]
  rfl
end Go.Aw
end
section
set_option maxRecDepth 20000
set_option maxHeartbeats 4000000
namespace Go.Aw
open Go.RowKit Go.Proofs
def bxE (x0 x1 x2 sc ga : Int) (i : Nat) : List (List V) := ((boxOf x0 x1 x2 sc ga).take (i + 1)).map encS
def blE (y0 y1 y2 sc ga we cu : Int) (i : Nat) : List (List V) := ((billOf y0 y1 y2 sc ga we cu).2.take (i + 1)).map encS
theorem bxE0 (x0 x1 x2 sc ga : Int) : bxE x0 x1 x2 sc ga 0 = [encS (x0 - sc, x0 + sc)] := rfl
theorem bxE1 (x0 x1 x2 sc ga : Int) : bxE x0 x1 x2 sc ga 1 = [encS (x0 - sc, x0 + sc), encS (x1 - ga, x1 + ga)] := rfl
theorem bxE2 (x0 x1 x2 sc ga : Int) : bxE x0 x1 x2 sc ga 2 = [encS (x0 - sc, x0 + sc), encS (x1 - ga, x1 + ga), encS (x2 - ga, x2 + ga)] := rfl
theorem blE0 (y0 y1 y2 sc ga we cu : Int) : blE y0 y1 y2 sc ga we cu 0 = [encS (y0 - sc - we, y0 + sc + we)] := rfl
theorem blE1 (y0 y1 y2 sc ga we cu : Int) : blE y0 y1 y2 sc ga we cu 1 = [encS (y0 - sc - we, y0 + sc + we), encS (y1 - ga - cu, y1 + ga + cu)] := rfl
theorem blE2 (y0 y1 y2 sc ga we cu : Int) : blE y0 y1 y2 sc ga we cu 2 = [encS (y0 - sc - we, y0 + sc + we), encS (y1 - ga - cu, y1 + ga + cu), encS (y2 - ga - cu, y2 + ga + cu)] := rfl
theorem TopBoxAlike_spec (a0 a1 a2 b0 b1 b2 v0 v1 v2 v3 : Int) (ha0 : okB a0) (ha1 : okB a1) (ha2 : okB a2) (hb0 : okB b0) (hb1 : okB b1) (hb2 : okB b2) (hv0 : okB v0) (hv1 : okB v1) (hv2 : okB v2) (hv3 : okB v3) :
    Ct Tryd.prog 3 [.agg [u8 a0, u8 a1, u8 a2], .agg [u8 b0, u8 b1, u8 b2], .agg [u8 v0, u8 v1, u8 v2, u8 v3]] (.lit (.bool true)) := by
  unfold okB at *
  have hin : BoxIn (100 + a0 % 64) (100 + a1 % 64) (100 + a2 % 64) (100 + b0 % 64) (100 + b1 % 64) (100 + b2 % 64) (v0 % 10) (v1 % 10) (v2 % 32) (v3 % 32) := by
    constructor <;> omega
  refine fn_enter Tryd.func3 rfl (by decide) Tryd.results3 Tryd.ntmps3 ?_ rfl (by simp (maxSteps := 1000000) -implicitDefEqProofs (disch := omega) only [go_sem]; rfl) fun base => ?_
  · first | assumption | (simp only [go_sem] <;> assumption) | (simp only [go_sem, *]; done) | (simp [go_sem]; done)
  repeat' (first
    | (with_reducible apply Req_intro); focus (first | omega | assumption | (simp; done))
    | with_reducible (first | apply Req_intro | refine nilT ?_ fun hn => ?_ | apply wk_draw Tryd_mixed | refine drawEnd (by kernel_rfl) ?_)
    | (with_reducible (first | apply condA_if | apply stepDG_ifN | apply stepDG_if | apply stepG_ifN | apply stepG_if)) <;> intro hb <;> (have hif := hb) <;> (try simp only [bo] at hif) <;> (try simp -implicitDefEqProofs (disch := omega) only [go_sem, hb]) <;> clear hb
    | simp (maxSteps := 1000000) -implicitDefEqProofs (disch := omega) only [go_sem])
  generalize hx0 : 100 + a0 % 64 = x0 at *
  generalize hx1 : 100 + a1 % 64 = x1 at *
  generalize hx2 : 100 + a2 % 64 = x2 at *
  generalize hy0 : 100 + b0 % 64 = y0 at *
  generalize hy1 : 100 + b1 % 64 = y1 at *
  generalize hy2 : 100 + b2 % 64 = y2 at *
  generalize v0 % 10 = sc at *
  generalize v1 % 10 = ga at *
  generalize v2 % 32 = we at *
  generalize v3 % 32 = cu at *
  have hck := chk_box hin
  have hal := Alike_spec ⟨sc, ga, we, cu⟩ (x0, [x1, x2]) (y0, [y1, y2]) (by simp) (by simp)
  rw [if_pos hck] at hal
  obtain ⟨h1, h2, h3, h4, h5, h6, h7, h8, h9, h10⟩ := id hin
  refine calldf 2432 (oakGuard_spec x0 [x1, x2] true (by simp)) ?_
  try simp (maxSteps := 1000000) -implicitDefEqProofs (disch := omega) only [go_sem]
  repeat' (first
    | (with_reducible apply Req_intro); focus (first | omega | assumption | (simp; done))
    | with_reducible (first | apply Req_intro | refine nilT ?_ fun hn => ?_ | apply wk_draw Tryd_mixed | refine drawEnd (by kernel_rfl) ?_)
    | (with_reducible (first | apply condA_if | apply stepDG_ifN | apply stepDG_if | apply stepG_ifN | apply stepG_if)) <;> intro hb <;> (have hif := hb) <;> (try simp only [bo] at hif) <;> (try simp -implicitDefEqProofs (disch := omega) only [go_sem, hb, hy0, hy1, hy2]) <;> clear hb
    | simp (maxSteps := 1000000) -implicitDefEqProofs (disch := omega) only [go_sem, hy0, hy1, hy2])
  clear ha0 ha1 ha2 hb0 hb1 hb2 hv0 hv1 hv2 hv3
  refine calldf 3520 (oakGuard_spec y0 [y1, y2] true (by simp)) ?_
  try simp (maxSteps := 1000000) -implicitDefEqProofs (disch := omega) only [go_sem]
  repeat' (first
    | (with_reducible apply Req_intro); focus (first | omega | assumption | (simp; done))
    | with_reducible (first | apply Req_intro | refine nilT ?_ fun hn => ?_ | apply wk_draw Tryd_mixed | refine drawEnd (by kernel_rfl) ?_)
    | (with_reducible (first | apply condA_if | apply stepDG_ifN | apply stepDG_if | apply stepG_ifN | apply stepG_if)) <;> intro hb <;> (have hif := hb) <;> (try simp only [bo] at hif) <;> (try simp -implicitDefEqProofs (disch := omega) only [go_sem, hb]) <;> clear hb
    | simp (maxSteps := 1000000) -implicitDefEqProofs (disch := omega) only [go_sem])
  refine callp hal ?_
  try simp (maxSteps := 1000000) -implicitDefEqProofs (disch := omega) only [go_sem]
  repeat' (first
    | (with_reducible apply Req_intro); focus (first | omega | assumption | (simp; done))
    | with_reducible (first | apply Req_intro | refine nilT ?_ fun hn => ?_ | apply wk_draw Tryd_mixed | refine drawEnd (by kernel_rfl) ?_)
    | (with_reducible (first | apply condA_if | apply stepDG_ifN | apply stepDG_if | apply stepG_ifN | apply stepG_if)) <;> intro hb <;> (have hif := hb) <;> (try simp only [bo] at hif) <;> (try simp -implicitDefEqProofs (disch := omega) only [go_sem, hb]) <;> clear hb
    | simp (maxSteps := 1000000) -implicitDefEqProofs (disch := omega) only [go_sem])
  refine calld (oakSpan_spec _ _) ?_
  try simp (maxSteps := 1000000) -implicitDefEqProofs (disch := omega) only [go_sem]
  repeat' (first
    | (with_reducible apply Req_intro); focus (first | omega | assumption | (simp; done))
    | with_reducible (first | apply Req_intro | refine nilT ?_ fun hn => ?_ | apply wk_draw Tryd_mixed | refine drawEnd (by kernel_rfl) ?_)
    | (with_reducible (first | apply condA_if | apply stepDG_ifN | apply stepDG_if | apply stepG_ifN | apply stepG_if)) <;> intro hb <;> (have hif := hb) <;> (try simp only [bo] at hif) <;> (try simp -implicitDefEqProofs (disch := omega) only [go_sem, hb]) <;> clear hb
    | simp (maxSteps := 1000000) -implicitDefEqProofs (disch := omega) only [go_sem])
  refine call_dn 5312 (box_fresh (x0 - sc, x0 + sc) _) ?_ ⟨_, Tryd.func6, by rfl, by decide⟩
  try simp (maxSteps := 1000000) -implicitDefEqProofs (disch := omega) only [go_sem]
  repeat' (first
    | (with_reducible apply Req_intro); focus (first | omega | assumption | (simp; done))
    | with_reducible (first | apply Req_intro | refine nilT ?_ fun hn => ?_ | apply wk_draw Tryd_mixed | refine drawEnd (by kernel_rfl) ?_)
    | (with_reducible (first | apply condA_if | apply stepDG_ifN | apply stepDG_if | apply stepG_ifN | apply stepG_if)) <;> intro hb <;> (have hif := hb) <;> (try simp only [bo] at hif) <;> (try simp -implicitDefEqProofs (disch := omega) only [go_sem, hb]) <;> clear hb
    | simp (maxSteps := 1000000) -implicitDefEqProofs (disch := omega) only [go_sem])
  refine calld (oakSpan_spec _ _) ?_
  try simp (maxSteps := 1000000) -implicitDefEqProofs (disch := omega) only [go_sem]
  repeat' (first
    | (with_reducible apply Req_intro); focus (first | omega | assumption | (simp; done))
    | with_reducible (first | apply Req_intro | refine nilT ?_ fun hn => ?_ | apply wk_draw Tryd_mixed | refine drawEnd (by kernel_rfl) ?_)
    | (with_reducible (first | apply condA_if | apply stepDG_ifN | apply stepDG_if | apply stepG_ifN | apply stepG_if)) <;> intro hb <;> (have hif := hb) <;> (try simp only [bo] at hif) <;> (try simp -implicitDefEqProofs (disch := omega) only [go_sem, hb]) <;> clear hb
    | simp (maxSteps := 1000000) -implicitDefEqProofs (disch := omega) only [go_sem])
  refine call_dn 6528 (bill_fresh 1 (y0 - sc - we, y0 + sc + we) _) ?_ ⟨_, Tryd.func8, by rfl, by decide⟩
  try simp (maxSteps := 1000000) -implicitDefEqProofs (disch := omega) only [go_sem]
  repeat' (first
    | (with_reducible apply Req_intro); focus (first | omega | assumption | (simp; done))
    | with_reducible (first | apply Req_intro | refine nilT ?_ fun hn => ?_ | apply wk_draw Tryd_mixed | refine drawEnd (by kernel_rfl) ?_)
    | (with_reducible (first | apply condA_if | apply stepDG_ifN | apply stepDG_if | apply stepG_ifN | apply stepG_if)) <;> intro hb <;> (have hif := hb) <;> (try simp only [bo] at hif) <;> (try simp -implicitDefEqProofs (disch := omega) only [go_sem, hb]) <;> clear hb
    | simp (maxSteps := 1000000) -implicitDefEqProofs (disch := omega) only [go_sem])
  refine loop_rows (α := Nat) [15, 113, 114, 115, 116, 117, 118, 119, 120, 121, 122, 123, 124, 125, 126, 127, 128, 129, 130, 131, 132, 133, 134, 135, 136, 137, 138, 139, 140, 141, 142, 143, 144, 145, 146, 147, 148, 149, 150, 151, 152, 153, 154, 155, 156, 157, 158, 159, 160, 161, 162, 163, 164, 165, 166] (fun i => [(15, .lit (.int .i64 i)), (0, .undef), (1, .undef), (2, .undef), (3, .undef), (4, .undef), (5, .undef), (22, .undef), (23, .undef), (24, .undef), (25, .undef), (26, .undef), (27, .undef), (28, .undef), (29, .undef), (30, .undef), (31, .undef), (32, .undef), (33, .undef), (34, .undef), (35, .undef), (36, .undef), (37, .undef), (38, .undef), (39, .undef), (40, .undef), (41, .undef), (42, .undef), (43, .undef), (44, .undef), (45, .undef), (46, .undef), (47, .undef), (48, .undef), (49, .undef), (50, .undef), (51, .undef), (52, .undef), (53, .undef), (54, .undef), (55, .undef), (56, .undef), (57, .undef), (58, .undef), (59, .undef), (60, .undef), (61, .undef), (62, .undef), (63, .undef), (64, .undef), (65, .undef), (66, .undef), (67, .undef), (68, .undef), (69, .undef), (70, .undef), (71, .undef), (72, .undef), (73, .undef), (74, .undef), (75, .undef), (76, .undef), (77, .undef), (78, .undef), (79, .undef), (80, .undef), (81, .undef), (82, .undef), (83, .undef), (84, .undef), (85, .undef), (86, .undef), (87, .undef), (88, .undef), (89, .undef), (90, .undef), (91, .undef), (92, .undef), (93, .undef), (94, .undef), (95, .undef), (96, .undef), (97, .undef), (98, .undef), (99, .undef), (100, .undef), (101, .undef), (102, .undef), (103, .undef), (104, .undef), (105, .undef), (106, .undef), (107, .undef), (108, .undef), (109, .undef), (110, .undef), (111, .undef), (112, .undef)]) (fun i => [(1344, some ⟨4, [[int sc, int ga, int we, int cu]], 25, .wr⟩), (3648, some ⟨2, [[int x0, .sl 1 [[int x1], [int x2]] false]], 28, .wr⟩), (3712, some ⟨2, [[int y0, .sl 1 [[int y1], [int y2]] false]], 28, .wr⟩), (5376, some ⟨2, bxE x0 x1 x2 sc ga i, 38, .wr⟩), (6592, some ⟨2, blE y0 y1 y2 sc ga we cu i, 38, .wr⟩), (6656, some ⟨1, [[.os 5376 2 (i + 1) false]], 35, .wr⟩), (6720, some ⟨2, [[int 1, .os 6592 2 (i + 1) false]], 41, .wr⟩)]) (fun i => i ≤ 2) (fun i => 2 - i) 0 (fun x => by simp (maxSteps := 1000000) -implicitDefEqProofs (disch := omega) only [go_sem]; rfl) ?_ ?_ fun x hx => ?_
  · simp only [bxE0, blE0]
    exact weak_do3 []
  · exact Nat.zero_le _
  revert x
  intro i hi
  rcases Nat.eq_or_lt_of_le (show 0 ≤ i by omega) with he | he
  · subst he
    rw [bxE0, blE0]
    repeat' (first
      | (with_reducible apply Req_intro); focus (first | omega | assumption | (simp; done))
      | with_reducible (first | apply Req_intro | refine nilT ?_ fun hn => ?_ | apply wk_draw Tryd_mixed | refine drawEnd (by kernel_rfl) ?_)
      | (with_reducible (first | apply condA_if | apply stepDG_ifN | apply stepDG_if | apply stepG_ifN | apply stepG_if)) <;> intro hb <;> (have hif := hb) <;> (try simp only [bo] at hif) <;> (try simp -implicitDefEqProofs (disch := omega) only [go_sem, hb]) <;> clear hb
      | simp (maxSteps := 1000000) -implicitDefEqProofs (disch := omega) only [go_sem])
    all_goals first | (exfalso; omega) | skip
    refine calld (oakSpan_spec _ _) ?_
    try simp (maxSteps := 1000000) -implicitDefEqProofs (disch := omega) only [go_sem]
    repeat' (first
      | (with_reducible apply Req_intro); focus (first | omega | assumption | (simp; done))
      | with_reducible (first | apply Req_intro | refine nilT ?_ fun hn => ?_ | apply wk_draw Tryd_mixed | refine drawEnd (by kernel_rfl) ?_)
      | (with_reducible (first | apply condA_if | apply stepDG_ifN | apply stepDG_if | apply stepG_ifN | apply stepG_if)) <;> intro hb <;> (have hif := hb) <;> (try simp only [bo] at hif) <;> (try simp -implicitDefEqProofs (disch := omega) only [go_sem, hb]) <;> clear hb
      | simp (maxSteps := 1000000) -implicitDefEqProofs (disch := omega) only [go_sem])
    refine calld (oakSpan_spec _ _) ?_
    try simp (maxSteps := 1000000) -implicitDefEqProofs (disch := omega) only [go_sem]
    repeat' (first
      | (with_reducible apply Req_intro); focus (first | omega | assumption | (simp; done))
      | with_reducible (first | apply Req_intro | refine nilT ?_ fun hn => ?_ | apply wk_draw Tryd_mixed | refine drawEnd (by kernel_rfl) ?_)
      | (with_reducible (first | apply condA_if | apply stepDG_ifN | apply stepDG_if | apply stepG_ifN | apply stepG_if)) <;> intro hb <;> (have hif := hb) <;> (try simp only [bo] at hif) <;> (try simp -implicitDefEqProofs (disch := omega) only [go_sem, hb]) <;> clear hb
      | simp (maxSteps := 1000000) -implicitDefEqProofs (disch := omega) only [go_sem])
    with_reducible refine nxt_w 1 ?_ ?_
    · (try dsimp only)
      rw [bxE1, blE1]
      exact weak_do3 [(5376, 8384), (6592, 10240)]
    try dsimp only
    omega
  rcases Nat.eq_or_lt_of_le (show 1 ≤ i by omega) with he | he
  · subst he
    rw [bxE1, blE1]
    repeat' (first
      | (with_reducible apply Req_intro); focus (first | omega | assumption | (simp; done))
      | with_reducible (first | apply Req_intro | refine nilT ?_ fun hn => ?_ | apply wk_draw Tryd_mixed | refine drawEnd (by kernel_rfl) ?_)
      | (with_reducible (first | apply condA_if | apply stepDG_ifN | apply stepDG_if | apply stepG_ifN | apply stepG_if)) <;> intro hb <;> (have hif := hb) <;> (try simp only [bo] at hif) <;> (try simp -implicitDefEqProofs (disch := omega) only [go_sem, hb]) <;> clear hb
      | simp (maxSteps := 1000000) -implicitDefEqProofs (disch := omega) only [go_sem])
    all_goals first | (exfalso; omega) | skip
    refine calld (oakSpan_spec _ _) ?_
    try simp (maxSteps := 1000000) -implicitDefEqProofs (disch := omega) only [go_sem]
    repeat' (first
      | (with_reducible apply Req_intro); focus (first | omega | assumption | (simp; done))
      | with_reducible (first | apply Req_intro | refine nilT ?_ fun hn => ?_ | apply wk_draw Tryd_mixed | refine drawEnd (by kernel_rfl) ?_)
      | (with_reducible (first | apply condA_if | apply stepDG_ifN | apply stepDG_if | apply stepG_ifN | apply stepG_if)) <;> intro hb <;> (have hif := hb) <;> (try simp only [bo] at hif) <;> (try simp -implicitDefEqProofs (disch := omega) only [go_sem, hb]) <;> clear hb
      | simp (maxSteps := 1000000) -implicitDefEqProofs (disch := omega) only [go_sem])
    refine calld (oakSpan_spec _ _) ?_
    try simp (maxSteps := 1000000) -implicitDefEqProofs (disch := omega) only [go_sem]
    repeat' (first
      | (with_reducible apply Req_intro); focus (first | omega | assumption | (simp; done))
      | with_reducible (first | apply Req_intro | refine nilT ?_ fun hn => ?_ | apply wk_draw Tryd_mixed | refine drawEnd (by kernel_rfl) ?_)
      | (with_reducible (first | apply condA_if | apply stepDG_ifN | apply stepDG_if | apply stepG_ifN | apply stepG_if)) <;> intro hb <;> (have hif := hb) <;> (try simp only [bo] at hif) <;> (try simp -implicitDefEqProofs (disch := omega) only [go_sem, hb]) <;> clear hb
      | simp (maxSteps := 1000000) -implicitDefEqProofs (disch := omega) only [go_sem])
    with_reducible refine nxt_w 2 ?_ ?_
    · (try dsimp only)
      rw [bxE2, blE2]
      exact weak_do3 [(5376, 8384), (6592, 10240)]
    try dsimp only
    omega
  obtain rfl : i = 2 := by omega
  rw [bxE2, blE2]
  have hc := check_box hin
  have hf : Fits [boxOf x0 x1 x2 sc ga] [billOf y0 y1 y2 sc ga we cu] := by constructor <;> simp [boxOf, billOf]
  have hall := allW_box x0 x1 x2 y0 y1 y2 sc ga we cu
  repeat' (first
    | (with_reducible apply Req_intro); focus (first | omega | assumption | (simp; done))
    | with_reducible (first | apply Req_intro | refine nilT ?_ fun hn => ?_ | apply wk_draw Tryd_mixed | refine drawEnd (by kernel_rfl) ?_)
    | (with_reducible (first | apply condA_if | apply stepDG_ifN | apply stepDG_if | apply stepG_ifN | apply stepG_if)) <;> intro hb <;> (have hif := hb) <;> (try simp only [bo] at hif) <;> (try simp -implicitDefEqProofs (disch := omega) only [go_sem, hb]) <;> clear hb
    | simp (maxSteps := 1000000) -implicitDefEqProofs (disch := omega) only [go_sem])
  all_goals first | (exfalso; omega) | skip
  cases hm : alikeR ⟨sc, ga, we, cu⟩ (x0, [x1, x2]) (y0, [y1, y2]) (-2) with
  | true =>
    rw [hm, if_pos rfl] at hall
    have hne : allW [boxOf x0 x1 x2 sc ga] [billOf y0 y1 y2 sc ga we cu] ≠ [] := by rw [hall]; exact List.cons_ne_nil _ _
    have hW : Ct Tryd.prog 9 [encLoad [boxOf x0 x1 x2 sc ga] [billOf y0 y1 y2 sc ga we cu]] (.tup [int 1, .sl 1 (([0] : List Int).map encI) false, int 0]) := Ct.cast (Ways_ok _ _ hf hc hne) (by rw [hall]; rfl)
    have hWr := Wrong_twice _ _ hf hc hne
    refine callf [5376, 6592, 7168, 7296] hW ?_ (hp := ?_)
    rotate_left
    · simp only [encLoad, boxOf, billOf, List.map_cons, List.map_nil]
      (try simp (maxSteps := 1000000) -implicitDefEqProofs (disch := omega) only [go_sem])
      repeat' (first
        | with_reducible (first | exact PurI.nil | exact Pur.nilsl _ _ | exact PurE.nil)
        | (with_reducible (first | refine PurI.puL ?_ | refine PurE.puE ?_)) <;> (first | assumption | (simp only [go_sem] <;> assumption) | (simp only [go_sem, *]; done) | (simp [go_sem]; done))
        | with_reducible apply PurI.cons
        | (with_reducible refine Pur.pu _ ?_) <;> (first | assumption | (simp only [go_sem] <;> assumption) | (simp only [go_sem, *]; done) | (simp [go_sem]; done))
        | ((with_reducible apply Pur.refR) <;> (first | rfl | decide | (simp only [go_sem]; omega) | (simp only [go_sem]) | skip))
        | ((with_reducible apply Pur.osR) <;> (first | rfl | exact fun h => h | omega | (simp; omega) | (simp; done) | (simp only [go_sem]) | skip))
        | with_reducible (first | apply Pur.fnI | apply Pur.aggI | apply PurE.cons)
        | (with_reducible refine PurI.eqL ?_ ?_); (focus rfl); (focus (first | assumption | (simp only [go_sem] <;> assumption) | (simp only [go_sem, *]; done) | (simp [go_sem]; done)))
        | simp (maxSteps := 1000000) -implicitDefEqProofs (disch := omega) only [go_sem])
    try simp (maxSteps := 1000000) -implicitDefEqProofs (disch := omega) only [go_sem]
    repeat' (first
      | (with_reducible apply Req_intro); focus (first | omega | assumption | (simp; done))
      | with_reducible (first | apply Req_intro | refine nilT ?_ fun hn => ?_ | apply wk_draw Tryd_mixed | refine drawEnd (by kernel_rfl) ?_)
      | (with_reducible (first | apply condA_if | apply stepDG_ifN | apply stepDG_if | apply stepG_ifN | apply stepG_if)) <;> intro hb <;> (have hif := hb) <;> (try simp only [bo] at hif) <;> (try simp -implicitDefEqProofs (disch := omega) only [go_sem, hb]) <;> clear hb
      | simp (maxSteps := 1000000) -implicitDefEqProofs (disch := omega) only [go_sem])
    refine callf [5376, 6592, 7168, 7296] hWr ?_ (hp := ?_)
    rotate_left
    · simp only [encLoad, boxOf, billOf, List.map_cons, List.map_nil]
      (try simp (maxSteps := 1000000) -implicitDefEqProofs (disch := omega) only [go_sem])
      repeat' (first
        | with_reducible (first | exact PurI.nil | exact Pur.nilsl _ _ | exact PurE.nil)
        | (with_reducible (first | refine PurI.puL ?_ | refine PurE.puE ?_)) <;> (first | assumption | (simp only [go_sem] <;> assumption) | (simp only [go_sem, *]; done) | (simp [go_sem]; done))
        | with_reducible apply PurI.cons
        | (with_reducible refine Pur.pu _ ?_) <;> (first | assumption | (simp only [go_sem] <;> assumption) | (simp only [go_sem, *]; done) | (simp [go_sem]; done))
        | ((with_reducible apply Pur.refR) <;> (first | rfl | decide | (simp only [go_sem]; omega) | (simp only [go_sem]) | skip))
        | ((with_reducible apply Pur.osR) <;> (first | rfl | exact fun h => h | omega | (simp; omega) | (simp; done) | (simp only [go_sem]) | skip))
        | with_reducible (first | apply Pur.fnI | apply Pur.aggI | apply PurE.cons)
        | (with_reducible refine PurI.eqL ?_ ?_); (focus rfl); (focus (first | assumption | (simp only [go_sem] <;> assumption) | (simp only [go_sem, *]; done) | (simp [go_sem]; done)))
        | simp (maxSteps := 1000000) -implicitDefEqProofs (disch := omega) only [go_sem])
    try simp (maxSteps := 1000000) -implicitDefEqProofs (disch := omega) only [go_sem]
    repeat' (first
      | (with_reducible apply Req_intro); focus (first | omega | assumption | (simp; done))
      | with_reducible (first | apply Req_intro | refine nilT ?_ fun hn => ?_ | apply wk_draw Tryd_mixed | refine drawEnd (by kernel_rfl) ?_)
      | (with_reducible (first | apply condA_if | apply stepDG_ifN | apply stepDG_if | apply stepG_ifN | apply stepG_if)) <;> intro hb <;> (have hif := hb) <;> (try simp only [bo] at hif) <;> (try simp -implicitDefEqProofs (disch := omega) only [go_sem, hb, hm]) <;> clear hb
      | simp (maxSteps := 1000000) -implicitDefEqProofs (disch := omega) only [go_sem, hm])
    refine callp oakKnown_spec ?_
    try simp (maxSteps := 1000000) -implicitDefEqProofs (disch := omega) only [go_sem]
    repeat' (first
      | (with_reducible apply Req_intro); focus (first | omega | assumption | (simp; done))
      | with_reducible (first | apply Req_intro | refine nilT ?_ fun hn => ?_ | apply wk_draw Tryd_mixed | refine drawEnd (by kernel_rfl) ?_)
      | (with_reducible (first | apply condA_if | apply stepDG_ifN | apply stepDG_if | apply stepG_ifN | apply stepG_if)) <;> intro hb <;> (have hif := hb) <;> (try simp only [bo] at hif) <;> (try simp -implicitDefEqProofs (disch := omega) only [go_sem, hb]) <;> clear hb
      | simp (maxSteps := 1000000) -implicitDefEqProofs (disch := omega) only [go_sem])
    refine ret_do ?_
    rfl
  | false =>
    rw [hm, if_neg (by decide)] at hall
    have hW := Ways_no _ _ hf 9 (.none hc hall)
    have hWr : Ct Tryd.prog 10 [encLoad [boxOf x0 x1 x2 sc ga] [billOf y0 y1 y2 sc ga we cu]] (.tup [.sl 1 (([0] : List Int).map encI) false, int 0]) := Ct.cast (Wrong_ok _ _ hf hc hall) (by rw [show [boxOf x0 x1 x2 sc ga].length = 1 from rfl, wrong_box hin hm]; rfl)
    refine callf [5376, 6592, 7168, 7296] hW ?_ (hp := ?_)
    rotate_left
    · simp only [encLoad, boxOf, billOf, List.map_cons, List.map_nil]
      (try simp (maxSteps := 1000000) -implicitDefEqProofs (disch := omega) only [go_sem])
      repeat' (first
        | with_reducible (first | exact PurI.nil | exact Pur.nilsl _ _ | exact PurE.nil)
        | (with_reducible (first | refine PurI.puL ?_ | refine PurE.puE ?_)) <;> (first | assumption | (simp only [go_sem] <;> assumption) | (simp only [go_sem, *]; done) | (simp [go_sem]; done))
        | with_reducible apply PurI.cons
        | (with_reducible refine Pur.pu _ ?_) <;> (first | assumption | (simp only [go_sem] <;> assumption) | (simp only [go_sem, *]; done) | (simp [go_sem]; done))
        | ((with_reducible apply Pur.refR) <;> (first | rfl | decide | (simp only [go_sem]; omega) | (simp only [go_sem]) | skip))
        | ((with_reducible apply Pur.osR) <;> (first | rfl | exact fun h => h | omega | (simp; omega) | (simp; done) | (simp only [go_sem]) | skip))
        | with_reducible (first | apply Pur.fnI | apply Pur.aggI | apply PurE.cons)
        | (with_reducible refine PurI.eqL ?_ ?_); (focus rfl); (focus (first | assumption | (simp only [go_sem] <;> assumption) | (simp only [go_sem, *]; done) | (simp [go_sem]; done)))
        | simp (maxSteps := 1000000) -implicitDefEqProofs (disch := omega) only [go_sem])
    try simp (maxSteps := 1000000) -implicitDefEqProofs (disch := omega) only [go_sem]
    repeat' (first
      | (with_reducible apply Req_intro); focus (first | omega | assumption | (simp; done))
      | with_reducible (first | apply Req_intro | refine nilT ?_ fun hn => ?_ | apply wk_draw Tryd_mixed | refine drawEnd (by kernel_rfl) ?_)
      | (with_reducible (first | apply condA_if | apply stepDG_ifN | apply stepDG_if | apply stepG_ifN | apply stepG_if)) <;> intro hb <;> (have hif := hb) <;> (try simp only [bo] at hif) <;> (try simp -implicitDefEqProofs (disch := omega) only [go_sem, hb]) <;> clear hb
      | simp (maxSteps := 1000000) -implicitDefEqProofs (disch := omega) only [go_sem])
    refine callf [5376, 6592, 7168, 7296] hWr ?_ (hp := ?_)
    rotate_left
    · simp only [encLoad, boxOf, billOf, List.map_cons, List.map_nil]
      (try simp (maxSteps := 1000000) -implicitDefEqProofs (disch := omega) only [go_sem])
      repeat' (first
        | with_reducible (first | exact PurI.nil | exact Pur.nilsl _ _ | exact PurE.nil)
        | (with_reducible (first | refine PurI.puL ?_ | refine PurE.puE ?_)) <;> (first | assumption | (simp only [go_sem] <;> assumption) | (simp only [go_sem, *]; done) | (simp [go_sem]; done))
        | with_reducible apply PurI.cons
        | (with_reducible refine Pur.pu _ ?_) <;> (first | assumption | (simp only [go_sem] <;> assumption) | (simp only [go_sem, *]; done) | (simp [go_sem]; done))
        | ((with_reducible apply Pur.refR) <;> (first | rfl | decide | (simp only [go_sem]; omega) | (simp only [go_sem]) | skip))
        | ((with_reducible apply Pur.osR) <;> (first | rfl | exact fun h => h | omega | (simp; omega) | (simp; done) | (simp only [go_sem]) | skip))
        | with_reducible (first | apply Pur.fnI | apply Pur.aggI | apply PurE.cons)
        | (with_reducible refine PurI.eqL ?_ ?_); (focus rfl); (focus (first | assumption | (simp only [go_sem] <;> assumption) | (simp only [go_sem, *]; done) | (simp [go_sem]; done)))
        | simp (maxSteps := 1000000) -implicitDefEqProofs (disch := omega) only [go_sem])
    try simp (maxSteps := 1000000) -implicitDefEqProofs (disch := omega) only [go_sem]
    repeat' (first
      | (with_reducible apply Req_intro); focus (first | omega | assumption | (simp; done))
      | with_reducible (first | apply Req_intro | refine nilT ?_ fun hn => ?_ | apply wk_draw Tryd_mixed | refine drawEnd (by kernel_rfl) ?_)
      | (with_reducible (first | apply condA_if | apply stepDG_ifN | apply stepDG_if | apply stepG_ifN | apply stepG_if)) <;> intro hb <;> (have hif := hb) <;> (try simp only [bo] at hif) <;> (try simp -implicitDefEqProofs (disch := omega) only [go_sem, hb, hm]) <;> clear hb
      | simp (maxSteps := 1000000) -implicitDefEqProofs (disch := omega) only [go_sem, hm])
    refine callc (oakInts_spec [0] [0] _ _ (by decide) (by decide)) ?_
    try simp (maxSteps := 1000000) -implicitDefEqProofs (disch := omega) only [go_sem]
    repeat' (first
      | (with_reducible apply Req_intro); focus (first | omega | assumption | (simp; done))
      | with_reducible (first | apply Req_intro | refine nilT ?_ fun hn => ?_ | apply wk_draw Tryd_mixed | refine drawEnd (by kernel_rfl) ?_)
      | (with_reducible (first | apply condA_if | apply stepDG_ifN | apply stepDG_if | apply stepG_ifN | apply stepG_if)) <;> intro hb <;> (have hif := hb) <;> (try simp only [bo] at hif) <;> (try simp -implicitDefEqProofs (disch := omega) only [go_sem, hb]) <;> clear hb
      | simp (maxSteps := 1000000) -implicitDefEqProofs (disch := omega) only [go_sem])
    refine callp oakKnown_spec ?_
    try simp (maxSteps := 1000000) -implicitDefEqProofs (disch := omega) only [go_sem]
    repeat' (first
      | (with_reducible apply Req_intro); focus (first | omega | assumption | (simp; done))
      | with_reducible (first | apply Req_intro | refine nilT ?_ fun hn => ?_ | apply wk_draw Tryd_mixed | refine drawEnd (by kernel_rfl) ?_)
      | (with_reducible (first | apply condA_if | apply stepDG_ifN | apply stepDG_if | apply stepG_ifN | apply stepG_if)) <;> intro hb <;> (have hif := hb) <;> (try simp only [bo] at hif) <;> (try simp -implicitDefEqProofs (disch := omega) only [go_sem, hb]) <;> clear hb
      | simp (maxSteps := 1000000) -implicitDefEqProofs (disch := omega) only [go_sem])
    refine ret_do ?_
    rfl
end Go.Aw
end
section
namespace Go.Aw
open Go.RowKit Go.ChangeShapes Go.WideShapes
def RepL (w : World) (ok : Nat → Nat → Prop) (cs : List Value) (ds : List V) : Prop :=
  cs.length = ds.length ∧ ∀ (j : Nat) (d : V) (u : Value), ds[j]? = some d → cs[j]? = some u → Rep w ok (fun _ => none) u d
theorem exists_list {α : Type} {p : Nat → α → Prop} : ∀ n, (∀ i, i < n → ∃ a, p i a) → ∃ l : List α, l.length = n ∧ ∀ i a, l[i]? = some a → p i a
  | 0, _ => ⟨[], rfl, fun i a h => by cases h⟩
  | n + 1, h => by
    obtain ⟨l, hl, hp⟩ := exists_list n fun i hi => h i (by omega)
    obtain ⟨a, ha⟩ := h n (by omega)
    refine ⟨l ++ [a], by simp [hl], fun i b hb => ?_⟩
    rcases Nat.lt_or_ge i l.length with h1 | h1
    · rw [List.getElem?_append_left h1] at hb; exact hp i b hb
    · rw [List.getElem?_append_right h1] at hb
      have : i - l.length = 0 := by
        refine Classical.byContradiction fun hc => ?_
        rw [List.getElem?_eq_none (by simp; omega)] at hb; cases hb
      rw [this] at hb
      cases hb
      obtain rfl : i = n := by omega
      exact ha
theorem cells?_get {w : World} {base : Nat} {a : Addr} {n : Nat} {cs : List Value} (h : w.cells? base a n = some cs) : cs.length = n ∧ ∀ j, j < n → ∃ u, cs[j]? = some u ∧ w.cell? (a.add j) = some u := by
  unfold World.cells? at h
  split at h
  · have hl := mapM_some_length h
    rw [List.length_range] at hl
    refine ⟨hl, fun j hj => ?_⟩
    have := mapM_some_get h j j (by simp [hj])
    obtain ⟨u, hu⟩ : ∃ u, cs[j]? = some u := ⟨cs[j], List.getElem?_eq_getElem (by omega)⟩
    exact ⟨u, hu, by rw [this, hu]⟩
  · cases h
theorem add_at (b o n : Nat) : (⟨b, o, none⟩ : Addr).add n = ⟨b, o + n, none⟩ := by
  unfold Addr.add
  split
  · rename_i h; subst h; rfl
  · rfl
theorem add_add' (b o x j : Nat) : ((⟨b, o, none⟩ : Addr).add x).add j = ⟨b, o + x + j, none⟩ := by rw [add_at, add_at]
section
variable {H : Type} {enc : TypeId × Value → H} {P : Program} {w : World} {ok : Nat → Nat → Prop} {sp : Nat → Bool}
theorem mem_weightsAll {e : TypeId} : ∀ {es : List (DataW H)} {d : DataW H} {m : Nat}, d ∈ es → m ∈ d.weights P e → m ∈ DataW.weightsAll P e es
  | [], d, m, h, _ => by cases h
  | a :: r, d, m, h, hm => by
    simp only [DataW.weightsAll, List.mem_append]
    rcases List.mem_cons.1 h with rfl | h
    · exact .inl hm
    · exact .inr (mem_weightsAll h hm)
theorem slice_rep {α : Type} {en : α → List V} {k : Nat} {q : α → Prop} {t e : TypeId} (hk0 : 0 < k) (ht : P.underlying t = some (.slice e)) (hk : P.cellsOf e = k) (hb : 0 < P.bytesOf e)
    (hlen : ∀ a, (en a).length = k)
    (hel : ∀ n cs x, DataW.trod enc P w 0 sp true n e cs = some x → (∀ m ∈ x.1.weights P e, m ≤ reachBytes) → ∃ a, q a ∧ RepL w ok cs (en a))
    (hok : ∀ b o u, w.cell? ⟨b, o, none⟩ = some u → ok b o)
    {n : Nat} {cs : List Value} {x : DataW H × List MemPlace} (h : DataW.trod enc P w 0 sp true n t cs = some x) (hw : ∀ m ∈ x.1.weights P t, m ≤ reachBytes) :
    ∃ (v : Value) (l : List α), cs = [v] ∧ l.length ≤ reachBytes ∧ (∀ a ∈ l, q a) ∧ Rep w ok (fun _ => none) v (.sl k (l.map en) false) := by
  rcases DataW.trod_slice ht h with ⟨rfl, rfl⟩ | ⟨a, len, cap, elems, rest, m, rfl, rfl, rfl, hbase, hlc, hcm, hel1, hel2, hsp, hsp2⟩
  · exact ⟨_, [], rfl, Nat.zero_le _, fun a ha => (by cases ha), .sl none 0 0 k [] false (fun _ _ => undef) rfl (Nat.le_refl _) (fun h => by cases h) (fun i j hi => absurd hi (Nat.not_lt_zero _)) (fun e he => by cases he) (fun i j e d he => by cases he)⟩
  · rw [hk] at hel2
    have hwt : (elems.length + rest.length) * P.bytesOf e ≤ reachBytes ∧ ∀ d ∈ elems.map (·.1), ∀ m ∈ d.weights P e, m ≤ reachBytes := by
      simp only [DataW.weights, ht, List.length_map] at hw
      refine ⟨hw _ (List.mem_cons_self ..), fun d hd m hm => hw m ?_⟩
      exact List.mem_cons_of_mem _ (List.mem_append_left _ (mem_weightsAll hd hm))
    have key : ∀ i, i < len → ∃ p : α × List Value, w.cells? 0 (a.add (i * k)) k = some p.2 ∧ q p.1 ∧ RepL w ok p.2 (en p.1) := fun i hi => by
      have h1 := hel2 i hi
      obtain ⟨y, hy⟩ : ∃ y, elems[i]? = some y := ⟨elems[i], List.getElem?_eq_getElem (by omega)⟩
      rw [hy, Option.bind_eq_some_iff] at h1
      obtain ⟨cs, hc1, hc2⟩ := h1
      obtain ⟨b, hb1, hb2⟩ := hel _ _ _ hc2 (hwt.2 y.1 (List.mem_map_of_mem (List.mem_of_getElem? hy)))
      exact ⟨(b, cs), hc1, hb1, hb2⟩
    obtain ⟨l, hl, hp⟩ := exists_list len key
    have hspot : 0 < len → a.spot = none := fun h0 => by
      obtain ⟨p, hp1, _, _⟩ := key 0 h0
      obtain ⟨u, _, hu⟩ := (cells?_get hp1).2 0 hk0
      simp only [Nat.zero_mul, Addr.add, if_true] at hu
      unfold World.cell? at hu
      split at hu
      · split at hu
        · cases hu
        · rename_i hn; simpa using hn
      · cases hu
    refine ⟨_, l.map (·.1), rfl, ?_, ?_, ?_⟩
    · rw [List.length_map, hl, ← hel1]
      refine Nat.le_trans ?_ hwt.1
      exact Nat.le_trans (Nat.le_add_right _ _) (Nat.le_mul_of_pos_right _ hb)
    · intro b hb
      obtain ⟨p, hp1, rfl⟩ := List.mem_map.1 hb
      obtain ⟨i, hi⟩ := List.getElem?_of_mem hp1
      exact (hp i p hi).2.1
    · refine .sl (some a) len cap k _ false (fun i j => (w.cell? (a.add (i * k + j))).getD undef) (by simp [hl]) hlc (fun h => by cases h) (fun i j hi hj => ?_) (fun e he => ?_) (fun i j e d he hd => ?_)
      · obtain ⟨b, o, s⟩ := a
        obtain rfl : s = none := hspot (by omega)
        obtain ⟨p, hp1, _, _⟩ := key i hi
        obtain ⟨u, _, hu⟩ := (cells?_get hp1).2 j hj
        rw [add_add'] at hu
        have e1 : (⟨b, o, none⟩ : Addr).add (i * k + j) = ⟨b, o + i * k + j, none⟩ := by rw [add_at, Nat.add_assoc]
        exact ⟨b, o, rfl, hok _ _ _ hu, by rw [e1, hu]; rfl⟩
      · rw [List.map_map] at he
        obtain ⟨p, hp1, rfl⟩ := List.mem_map.1 he
        exact hlen _
      · rw [List.map_map, List.getElem?_map, Option.map_eq_some_iff] at he
        obtain ⟨p, hp1, rfl⟩ := he
        obtain ⟨h1, h2, h3⟩ := hp i p hp1
        have hi : i < len := by rw [← hl]; exact (List.getElem?_eq_some_iff.1 hp1).1
        have hj : j < k := by
          have := (List.getElem?_eq_some_iff.1 hd).1
          simp only [Function.comp] at this
          rwa [hlen] at this
        obtain ⟨u, hu1, hu2⟩ := (cells?_get h1).2 j hj
        have : w.cell? (a.add (i * k + j)) = some u := by
          obtain ⟨b, o, s⟩ := a
          obtain rfl : s = none := hspot (by omega)
          rw [add_add'] at hu2
          rw [← hu2, Nat.add_assoc, add_at]
        show Rep w ok _ ((w.cell? (a.add (i * k + j))).getD undef) d
        rw [this]
        exact h3.2 j d u hd hu1
theorem int_rep {k : IntKind} {t : TypeId} (ht : P.underlying t = some (.int k)) {n : Nat} {cs : List Value} {x : DataW H × List MemPlace} (h : DataW.trod enc P w 0 sp true n t cs = some x) : ∃ i, cs = [.int k i] ∧ k.min ≤ i ∧ i ≤ k.max := by
  obtain ⟨i, h1, _, h2⟩ := DataW.trod_int ht h
  simp only [Lit.wf, Bool.and_eq_true, decide_eq_true_eq] at h2
  exact ⟨i, h1, h2.1, h2.2⟩
theorem struct2_cells {t : TypeId} {f0 f1 : Field} (ht : P.underlying t = some (.struct #[f0, f1])) (hc : P.cellsOf t = 2) (h0 : f0.offset = 0) (h1 : f1.offset = 1) (c0 : P.cellsOf f0.type = 1) (c1 : P.cellsOf f1.type = 1)
    {n : Nat} {cs : List Value} {x : DataW H × List MemPlace} (h : DataW.trod enc P w 0 sp true n t cs = some x) (hw : ∀ m ∈ x.1.weights P t, m ≤ reachBytes) :
    ∃ u v y z m, cs = [u, v] ∧ DataW.trod enc P w 0 sp true m f0.type [u] = some y ∧ DataW.trod enc P w 0 sp true m f1.type [v] = some z ∧ (∀ m ∈ y.1.weights P f0.type, m ≤ reachBytes) ∧ (∀ m ∈ z.1.weights P f1.type, m ≤ reachBytes) := by
  obtain ⟨y0, y1, m, rfl, hl, g0, g1⟩ := trod_struct2 ht h
  rw [hc] at hl
  rw [h0, c0] at g0
  rw [h1, c1] at g1
  simp only [DataW.weights, ht, DataW.weightsEach, List.map_cons, List.map_nil, List.mem_append, List.append_nil] at hw
  match cs, hl with
  | [u, v], _ =>
    refine ⟨u, v, y0, y1, m, rfl, g0, g1, fun m hm => hw m ?_, fun m hm => hw m ?_⟩
    · exact .inl hm
    · exact .inr hm
theorem struct1_cells {t : TypeId} {f0 : Field} (ht : P.underlying t = some (.struct #[f0])) (hc : P.cellsOf t = 1) (h0 : f0.offset = 0) (c0 : P.cellsOf f0.type = 1)
    {n : Nat} {cs : List Value} {x : DataW H × List MemPlace} (h : DataW.trod enc P w 0 sp true n t cs = some x) (hw : ∀ m ∈ x.1.weights P t, m ≤ reachBytes) :
    ∃ u y m, cs = [u] ∧ DataW.trod enc P w 0 sp true m f0.type [u] = some y ∧ (∀ m ∈ y.1.weights P f0.type, m ≤ reachBytes) := by
  obtain ⟨y0, m, rfl, hl, g0⟩ := trod_struct1 ht h
  rw [hc] at hl
  rw [h0, c0] at g0
  simp only [DataW.weights, ht, DataW.weightsEach, List.map_cons, List.map_nil, List.mem_append, List.append_nil] at hw
  match cs, hl with
  | [u], _ => exact ⟨u, y0, m, rfl, g0, hw⟩
end
theorem Evol.kept {ok ok' : Nat → Nat → Prop} {own' : Nat → Prop} {w w' : World} (he : Evol (fun _ => False) ok w own' ok' w') : w.keptBut w' (fun _ => False) := by
  refine ⟨he.os, he.output, fun i hi => ?_⟩
  rw [he.unch i hi (fun h => h)]
  cases w.heap[i]? with
  | none => rfl
  | some o => cases o <;> simp
theorem Evol.sameAt {ok ok' : Nat → Nat → Prop} {own' : Nat → Prop} {w w' : World} (he : Evol (fun _ => False) ok w own' ok' w') {p : MemPlace} (hp : p.block < w.heap.size) : w.sameAt w' p := by
  have h := he.unch p.block hp (fun h => h)
  cases p with
  | cell b off => exact World.cell?_of_block (w := w) (a := ⟨b, off, none⟩) h
  | map b => exact h
end Go.Aw
end
section
set_option maxRecDepth 100000
namespace Go.Aw
open Go.RowKit Go.ChangeShapes Go.WideShapes Go.Proofs
theorem own0 : ownKnob Tryd.prog.godebug = none := by kernel_rfl
theorem laidOut0 : laidOutB Tryd.prog = true := by kernel_rfl
theorem rowed0 : mapsRowed Tryd.prog = true := by kernel_rfl
theorem full0 : ∀ t e, t < Tryd.prog.types.size → Tryd.prog.underlying t = some (.slice e) → 0 < Tryd.prog.cellsOf e := slices_full_of _ (by kernel_rfl)
def okAll (w : World) (b o : Nat) : Prop := ∃ u, w.cell? ⟨b, o, none⟩ = some u
theorem glob_of_laid {w : World} (h : laidMetH Tryd.prog YtcgcemjajcaggaaDoor.Rows.topBoxAlikeRow.laid w) : GlobOk w (okAll w) := by
  have h' : laidMet Tryd.prog YtcgcemjajcaggaaDoor.Rows.topBoxAlikeRow.laid w := h
  obtain ⟨ps, ⟨g1, t1, c1, n1, p1, q1, a1, a2, a3, a4, ⟨g, t, cs, n, p, q, b1, b2, b3, b4, _⟩, _⟩, _⟩ := h'
  intro g0 vs hg j v hv
  unfold globT at hg
  split at hg
  · rename_i e
    subst e
    cases hg
    obtain rfl : g = 1 := Option.some.inj (b1.symm.trans (by kernel_rfl))
    have ht : t = 106 := Option.some.inj (b2.symm.trans (by kernel_rfl))
    subst ht
    obtain ⟨xs, m, hn, hx, hl, hlen, hf⟩ := DataW.trod_array (P := Tryd.prog) (n := 64) (e := 5) (by kernel_rfl) b4
    obtain ⟨L, hL1, hL2⟩ : ∃ L : List Int, tab64 = L.map (Value.int .u8) ∧ (YtcgcemjajcaggaaDoor.Rows.laid_math_bits_deBruijn64tab : DataW Unit) = .agg (L.map fun n => .lit (.int .u8 n)) := ⟨_, rfl, rfl⟩
    have hc1 : Tryd.prog.cellsOf 5 = 1 := by kernel_rfl
    rw [hL2] at hx
    have hx' : xs.map (·.1) = L.map fun n => (.lit (.int .u8 n) : DataW Unit) := by
      have := congrArg Prod.fst hx
      simp only at this
      injection this with this
      exact this.symm
    rw [hL1, List.getElem?_map, Option.map_eq_some_iff] at hv
    obtain ⟨i, hi, rfl⟩ := hv
    have h1 : (xs.map (·.1))[j]? = some (.lit (.int .u8 i)) := by rw [hx', List.getElem?_map, hi]; rfl
    rw [List.getElem?_map, Option.map_eq_some_iff] at h1
    obtain ⟨y, hy, hy1⟩ := h1
    have hj : j < 64 := by rw [← hlen]; exact (List.getElem?_eq_some_iff.1 hy).1
    have h2 := hf j hj
    rw [hy, hc1, Nat.mul_one] at h2
    obtain ⟨i', h3, h4, _⟩ := DataW.trod_int (P := Tryd.prog) (k := .u8) (by kernel_rfl) h2
    rw [h4] at hy1
    simp only [DataW.lit.injEq, Lit.int.injEq, true_and] at hy1
    subst hy1
    have h5 : w.cell? ⟨1, j, none⟩ = some (.int .u8 i') := by
      rw [World.var?_cell b1 b3 j, ← Array.getElem?_toList]
      have h6 : (cs.toList.drop j)[0]? = some (.int .u8 i') := by
        have := congrArg (fun l => l[0]?) h3
        simpa [List.getElem?_take] using this
      simpa using h6
    exact ⟨⟨_, h5⟩, h5⟩
  · cases hg
theorem all_kept {H : Type} {enc : TypeId × Value → H} {w w' : World} {own' : Nat → Prop} {ok ok' : Nat → Nat → Prop} (he : Evol (fun _ => False) ok w own' ok' w') :
    ∀ {ts : List TypeId} {vs : List Value} {ds : List (DataW H)} {ps : List MemPlace}, DataW.TrodAll enc Tryd.prog w 0 (fun _ => true) true ts vs ds ps → DataW.TrodAll enc Tryd.prog w' 0 (fun _ => true) true ts vs ds ps
  | [], [], [], _, h => h
  | _ :: _, _ :: _, _ :: _, _, ⟨p, q, ⟨n, h1⟩, h2, e⟩ => ⟨p, q, ⟨n, DataW.trod_carry _ _ _ _ h1 fun a ha => he.sameAt (DataW.trod_lt _ _ _ _ h1 a ha)⟩, all_kept he h2, e⟩
theorem lifted_of {f : FuncId} {fn : Func} {s : ChangeSpec} (hfn : Tryd.prog.funcs[f]? = some fn) (hvars : s.vars = []) (hni : Tryd.prog.inits.idxOf? f = none)
    (hspec : ∀ (H : Type) (ds : List (DataW H)), ds.length = fn.params.toList.length → s.fn H ds = { results := [.lit (.bool true)], args := ds })
    (hres : fn.resultTypes.toList = [4]) (hps : ∀ t ∈ fn.params.toList, t < Tryd.prog.types.size)
    (hread : ∀ {H : Type} {enc : TypeId × Value → H} (w : World) (base : Nat) (args : Array Value) (ds : List (DataW H)) (p : List MemPlace), (∀ (j : Nat) t v, fn.params[j]? = some t → args[j]? = some v → Value.okWide Tryd.prog w .any base t v) →
      DataW.TrodAll enc Tryd.prog w 0 (fun _ => true) true fn.params.toList args.toList ds p → (∀ m ∈ DataW.weightsEach Tryd.prog fn.params.toList ds, m ≤ reachBytes) →
      ∃ av : List V, args.size = av.length ∧ (∀ (i : Nat) (d : V) (v : Value), av[i]? = some d → args[i]? = some v → Rep w (okAll w) (fun _ => none) v d) ∧ CallsTo Tryd.prog f av (.lit (.bool true)))
    (os : Os) (started : os.Started) (H : Type) (enc : TypeId × Value → H)
    (hwit : ∃ (w : World) (tape : Tape) (i : Input), w.os = os ∧ (w.forCall tape i).Shaped Tryd.checked.prog ∧ i.vars = [] ∧ Input.okWide Tryd.checked.prog (w.forCall tape i) .any w.heap.size f i ∧
      ((s.pre enc Tryd.checked.prog fn [] false (w.forCall tape i).memory i.args ∧ laidMetH Tryd.prog YtcgcemjajcaggaaDoor.Rows.topBoxAlikeRow.laid (w.forCall tape i).memory) ∧ sizedMet enc Tryd.checked.prog fn (OpenSpec.ofChange s) false (w.forCall tape i).memory i.args) ∧ ({} : Assume).holds Tryd.checked.prog (lone (Frame.enter Tryd.checked.prog f i.args .normal) [] (w.forCall tape i))) :
    ReturnsInHanded {} Tryd.checked os f .any (fun w args => (s.pre enc Tryd.checked.prog fn [] false w args ∧ laidMetH Tryd.prog YtcgcemjajcaggaaDoor.Rows.topBoxAlikeRow.laid w) ∧ sizedMet enc Tryd.checked.prog fn (OpenSpec.ofChange s) false w args)
      (s.post enc Tryd.checked.prog fn false true false false) := by
  refine returnsInHanded_of_change_and (C := Tryd.checked) (X := fun w _ => laidMetH Tryd.prog YtcgcemjajcaggaaDoor.Rows.topBoxAlikeRow.laid w) (fun _ _ _ hh h => h.of_heap hh) own0 started hni hfn hwit ?_
  intro W base args ds gs before hval hW _ hwts hL _
  have hW' := hW
  obtain ⟨p, q, hA, hV, hpq, hfz, hnd⟩ := hW
  rw [hvars] at hV
  obtain ⟨rfl, rfl⟩ : gs = [] ∧ q = [] := by
    cases gs with
    | nil => exact ⟨rfl, hV⟩
    | cons g r => exact absurd hV (by intro h; cases h)
  have hvt : s.plain.varTypes Tryd.checked.prog = [] := by unfold DataSpec.varTypes ChangeSpec.plain; rw [hvars]; rfl
  rw [hvt, List.append_nil, List.append_nil, List.all_eq_true] at hwts
  obtain ⟨av, hsz, hrep, hct⟩ := hread W base args ds p hval hA (fun m hm => by simpa using hwts m hm)
  refine ((hct W (okAll W) args (fun b o h => h) (glob_of_laid hL) hsz hrep).calls (FW_room _)).mono fun e W' ⟨v, own', ok', he, hev, _, hrv⟩ => ?_
  subst he
  refine ⟨v, rfl, ?_⟩
  have hv : v = .bool true := by cases hrv; rfl
  subst hv
  have hlen : ds.length = fn.params.toList.length := by
    have key : ∀ {ts : List TypeId} {vs : List Value} {ds : List (DataW H)} {ps : List MemPlace}, DataW.TrodAll enc Tryd.prog W 0 (fun _ => true) true ts vs ds ps → ds.length = ts.length := by
      intro ts
      induction ts with
      | nil => intro vs ds ps h; obtain ⟨_, rfl, _⟩ := trodAll_nil h; rfl
      | cons t ts ih =>
        intro vs ds ps h
        obtain ⟨v, vs', d, ds', p, q, _, rfl, _, _, h2⟩ := trodAll_cons h
        simp [ih h2]
    exact key hA
  have hfnd : s.fn H (ds ++ []) = { results := [.lit (.bool true)], args := ds } := by rw [List.append_nil]; exact hspec H ds hlen
  refine ⟨ds, [], before, [], p, [], hW', ?_, ?_, ?_, World.keptBut_mono (fun _ f => f.elim) hev.kept, fun h => by cases h⟩
  · rw [hfnd, hres]
    have : (Value.bool true).resultList fn.resultTypes.size = [.bool true] := by
      have : fn.resultTypes.size = 1 := by rw [← Array.length_toList, hres]; rfl
      rw [this]; rfl
    rw [this]
    exact trodAll_mk1 (shut_bool (P := Tryd.prog) (by kernel_rfl) true)
  · rw [hfnd]
    refine DataW.TrodAll.respare (P := Tryd.prog) (T := (· < Tryd.prog.types.size)) (kids_rows laidOut0 rowed0) full0 hps (all_kept hev hA) fun a ha => ?_
    exact decide_eq_true (DataW.TrodAll.lt hA a ha)
  · rw [hfnd, hvars]; rfl
end Go.Aw
end
section
set_option maxRecDepth 100000
namespace Go.Aw
open Go.RowKit Go.ChangeShapes Go.WideShapes Go.Proofs
noncomputable def laidWorld (os : Os) : World :=
  let w0 := World.holding Tryd.prog os ⟨#[], #[], []⟩
  let put (w : World) (g : Nat) (vs : List Int) : World := { w with heap := w.heap.modify g fun
      | .cells _ t frozen => .cells (vs.map (Value.int .u8)).toArray t frozen
      | o => o }
  put (put w0 0 [0, 1, 28, 2, 29, 14, 24, 3, 30, 22, 20, 15, 25, 17, 4, 8, 31, 27, 13, 23, 21, 19, 16, 7, 26, 12, 18, 6, 11, 5, 10, 9]) 1
    [0, 1, 56, 2, 57, 49, 28, 3, 61, 58, 42, 50, 38, 29, 17, 4, 62, 47, 59, 36, 45, 43, 51, 22, 53, 39, 33, 30, 24, 18, 12, 5, 63, 55, 48, 27, 60, 41, 37, 16, 46, 35, 44, 21, 52, 32, 23, 11, 54, 26, 40, 15, 34, 20, 31, 10, 25, 14, 19, 9, 13, 8, 7, 6]
theorem laidWorld_met (os : Os) (args : Array Value) : laidMetH Tryd.prog YtcgcemjajcaggaaDoor.Rows.topBoxAlikeRow.laid ((laidWorld os).forCall (fun _ _ => 0) ⟨#[], args, []⟩).memory := by
  show laidMet _ _ _
  exact laidMet_of_run' 8 (by kernel_rfl) (by kernel_rfl)
theorem okWide_array {P : Program} {w : World} {r : Reach} {base : Nat} {t : TypeId} {v : Value} {k : Nat} {e : TypeId} (ht : P.underlying t = some (.array k e)) (h : Value.okWide P w r base t v) : ∃ cs, v = .agg cs ∧ cs.size = P.cellsOf t := by
  simp only [Value.okWide, ht] at h
  obtain ⟨cs, h1, h2, _⟩ := h
  exact ⟨cs, h1, h2⟩
section
variable {H : Type} {enc : TypeId × Value → H} {w : World}
theorem u8_read {n : Nat} {cs : List Value} {x : DataW H × List MemPlace} (h : DataW.trod enc Tryd.prog w 0 (fun _ => true) true n 5 cs = some x) : ∃ i, cs = [.int .u8 i] ∧ okB i := by
  obtain ⟨i, e, h1, h2⟩ := int_rep Tryd.underlying5 h
  exact ⟨i, e, h1, h2⟩
theorem bytes_read {k : Nat} {t : TypeId} (ht : Tryd.prog.underlying t = some (.array k 5)) (hc : Tryd.prog.cellsOf t = k) {n : Nat} {cs : List Value} {x : DataW H × List MemPlace} (h : DataW.trod enc Tryd.prog w 0 (fun _ => true) true n t cs = some x) :
    cs.length = k ∧ ∀ (i : Nat) (c : Value), cs[i]? = some c → ∃ m, c = .int .u8 m ∧ okB m := by
  obtain ⟨xs, m, rfl, rfl, hl, hlen, hf⟩ := DataW.trod_array ht h
  rw [hc] at hl
  refine ⟨hl, fun i c hi => ?_⟩
  have hik : i < k := by rw [← hl]; exact (List.getElem?_eq_some_iff.1 hi).1
  have h1 := hf i hik
  have hc1 : Tryd.prog.cellsOf 5 = 1 := by kernel_rfl
  obtain ⟨y, hy⟩ : ∃ y, xs[i]? = some y := ⟨xs[i], List.getElem?_eq_getElem (by omega)⟩
  rw [hc1, Nat.mul_one, hy] at h1
  obtain ⟨j, e, h2⟩ := u8_read h1
  have h3 : (cs.drop i).take 1 = [c] := by
    have hlt := (List.getElem?_eq_some_iff.1 hi)
    obtain ⟨hlt, he⟩ := hlt
    rw [List.drop_eq_getElem_cons hlt, he]; rfl
  rw [h3] at e
  cases e
  exact ⟨j, rfl, h2⟩
theorem b3_read {base : Nat} {v : Value} {d : DataW H} {p : List MemPlace} (hv : Value.okWide Tryd.prog w .any base 22 v) (h : DataW.Trod enc Tryd.prog w 0 (fun _ => true) true 22 v d p) :
    ∃ v0 v1 v2 : Int, Rep w (okAll w) (fun _ => none) v (.agg [u8 v0, u8 v1, u8 v2]) ∧ okB v0 ∧ okB v1 ∧ okB v2 := by
  obtain ⟨vs, rfl, hsz⟩ := okWide_array Tryd.underlying22 hv
  obtain ⟨n, h⟩ := h
  obtain ⟨hl, hc⟩ := bytes_read Tryd.underlying22 (by kernel_rfl) h
  have hl' : vs.toList.length = 3 := hl
  match hvs : vs.toList, hl' with
  | [c0, c1, c2], _ =>
    have hc' : ∀ (i : Nat) (c : Value), [c0, c1, c2][i]? = some c → ∃ m, c = .int .u8 m ∧ okB m := fun i c hi => hc i c (by rw [show (Value.agg vs).cells.toList = vs.toList from rfl, hvs]; exact hi)
    obtain ⟨n0, rfl, h0⟩ := hc' 0 c0 rfl
    obtain ⟨n1, rfl, h1⟩ := hc' 1 c1 rfl
    obtain ⟨n2, rfl, h2⟩ := hc' 2 c2 rfl
    refine ⟨n0, n1, n2, .agg vs _ (by rw [← Array.length_toList, hvs]; rfl) fun i d u hd hu => ?_, h0, h1, h2⟩
    have hu' : vs.toList[i]? = some u := by rw [Array.getElem?_toList]; exact hu
    rw [hvs] at hu'
    match i with
    | 0 => cases hd; cases hu'; exact .lit _ rfl
    | 1 => cases hd; cases hu'; exact .lit _ rfl
    | 2 => cases hd; cases hu'; exact .lit _ rfl
    | i + 3 => cases hd
theorem b4_read {base : Nat} {v : Value} {d : DataW H} {p : List MemPlace} (hv : Value.okWide Tryd.prog w .any base 23 v) (h : DataW.Trod enc Tryd.prog w 0 (fun _ => true) true 23 v d p) :
    ∃ v0 v1 v2 v3 : Int, Rep w (okAll w) (fun _ => none) v (.agg [u8 v0, u8 v1, u8 v2, u8 v3]) ∧ okB v0 ∧ okB v1 ∧ okB v2 ∧ okB v3 := by
  obtain ⟨vs, rfl, hsz⟩ := okWide_array Tryd.underlying23 hv
  obtain ⟨n, h⟩ := h
  obtain ⟨hl, hc⟩ := bytes_read Tryd.underlying23 (by kernel_rfl) h
  have hl' : vs.toList.length = 4 := hl
  match hvs : vs.toList, hl' with
  | [c0, c1, c2, c3], _ =>
    have hc' : ∀ (i : Nat) (c : Value), [c0, c1, c2, c3][i]? = some c → ∃ m, c = .int .u8 m ∧ okB m := fun i c hi => hc i c (by rw [show (Value.agg vs).cells.toList = vs.toList from rfl, hvs]; exact hi)
    obtain ⟨n0, rfl, h0⟩ := hc' 0 c0 rfl
    obtain ⟨n1, rfl, h1⟩ := hc' 1 c1 rfl
    obtain ⟨n2, rfl, h2⟩ := hc' 2 c2 rfl
    obtain ⟨n3, rfl, h3⟩ := hc' 3 c3 rfl
    refine ⟨n0, n1, n2, n3, .agg vs _ (by rw [← Array.length_toList, hvs]; rfl) fun i d u hd hu => ?_, h0, h1, h2, h3⟩
    have hu' : vs.toList[i]? = some u := by rw [Array.getElem?_toList]; exact hu
    rw [hvs] at hu'
    match i with
    | 0 => cases hd; cases hu'; exact .lit _ rfl
    | 1 => cases hd; cases hu'; exact .lit _ rfl
    | 2 => cases hd; cases hu'; exact .lit _ rfl
    | 3 => cases hd; cases hu'; exact .lit _ rfl
    | i + 4 => cases hd
end
end Go.Aw
namespace Go.Proofs.YtcgcemjajcaggaaDoor
open Go Go.Aw Go.RowKit Go.ChangeShapes Go.WideShapes
theorem topBoxAlike_wit (os : Os) (H : Type) (enc : TypeId × Value → H) : ∃ (w : World) (tape : Tape) (i : Input), w.os = os ∧ (w.forCall tape i).Shaped Tryd.checked.prog ∧ i.vars = [] ∧ Input.okWide Tryd.checked.prog (w.forCall tape i) .any w.heap.size 3 i ∧
      ((Rows.topBoxAlikeSpec.pre enc Tryd.checked.prog Tryd.f3 [] false (w.forCall tape i).memory i.args ∧ laidMetH Tryd.prog Rows.topBoxAlikeRow.laid (w.forCall tape i).memory) ∧ sizedMet enc Tryd.checked.prog Tryd.f3 (OpenSpec.ofChange Rows.topBoxAlikeSpec) false (w.forCall tape i).memory i.args) ∧ ({} : Assume).holds Tryd.checked.prog (lone (Frame.enter Tryd.checked.prog 3 i.args .normal) [] (w.forCall tape i)) :=
  ChangeSpec.witness_at (enc := enc) (C := Tryd.checked) (os := os) (X := fun w _ => laidMetH Tryd.prog Rows.topBoxAlikeRow.laid w) false (laidWorld os) #[.agg #[.int .u8 0, .int .u8 0, .int .u8 0], .agg #[.int .u8 0, .int .u8 0, .int .u8 0], .agg #[.int .u8 0, .int .u8 0, .int .u8 0, .int .u8 0]] 8 rfl (by kernel_rfl) (by kernel_rfl) (by kernel_rfl) (by kernel_rfl) (by kernel_rfl) (laidWorld_met os _)
theorem topBoxAlike_said : Rows.TopBoxAlikeSaid :=
  OpenClaim.holds_of_wide 3 Tryd.f3 rfl rfl rfl rfl rfl rfl rfl ⟨rfl, rfl, rfl, rfl, rfl⟩ rfl rfl rfl rfl rfl (by kernel_rfl) Tryd.func3 (by kernel_rfl)
    (of_decide_eq_true (by kernel_rfl)) (by unfold Func.isWrapper; first | (rw [if_pos (by decide +kernel)]; kernel_rfl) | (rw [if_neg (by decide +kernel)]; exact ⟨rfl, rfl⟩))
    (fun os started H enc _ => lifted_of Tryd.func3 rfl (by kernel_rfl) (fun H ds hd => by
        match ds, hd with
        | [_, _, _], _ => rfl) (by kernel_rfl) (fun t ht => by
          have : Tryd.f3.params.toList.all (fun t => decide (t < Tryd.prog.types.size)) = true := by kernel_rfl
          simpa using List.all_eq_true.1 this t ht)
      (fun {H enc} w base args ds p hv hA hw => by
        rw [Tryd.params3] at hA hv hw
        obtain ⟨v0, vs0, d0, ds0, p0, q0, e0, rfl, _, g0, r0⟩ := trodAll_cons hA
        obtain ⟨v1, vs1, d1, ds1, p1, q1, rfl, rfl, _, g1, r1⟩ := trodAll_cons r0
        obtain ⟨v2, vs2, d2, ds2, p2, q2, rfl, rfl, _, g2, r2⟩ := trodAll_cons r1
        obtain ⟨rfl, rfl, _⟩ := trodAll_nil r2
        obtain rfl : args = #[v0, v1, v2] := by cases args; simp_all
        obtain ⟨a0, a1, a2, h1, k1, k2, k3⟩ := b3_read (hv 0 22 v0 rfl rfl) g0
        obtain ⟨b0, b1, b2, h2, k4, k5, k6⟩ := b3_read (hv 1 22 v1 rfl rfl) g1
        obtain ⟨c0, c1, c2, c3, h3, k7, k8, k9, k10⟩ := b4_read (hv 2 23 v2 rfl rfl) g2
        refine ⟨[.agg [u8 a0, u8 a1, u8 a2], .agg [u8 b0, u8 b1, u8 b2], .agg [u8 c0, u8 c1, u8 c2, u8 c3]], rfl, fun i d u hd hu => ?_, (TopBoxAlike_spec a0 a1 a2 b0 b1 b2 c0 c1 c2 c3 k1 k2 k3 k4 k5 k6 k7 k8 k9 k10).1⟩
        match i with
        | 0 => cases hd; cases hu; exact h1
        | 1 => cases hd; cases hu; exact h2
        | 2 => cases hd; cases hu; exact h3
        | i + 3 => cases hd) os started H enc (topBoxAlike_wit os H enc))
theorem topBoxAlike_card : Rows.TopBoxAlikeCardSaid :=
  Claim7.holds_tied_plain_at .later [] [.data, .data] true (true, "07377d4eae873313522a9e13868872e06392f6a4245aece367dcb1aaa42f0f8f") false
    topBoxAlike_said (fun _ h => by cases h) (by kernel_rfl) (fun _ h => by cases h) topBoxAlike_row_tie rfl ⟨rfl, rfl⟩ (by kernel_rfl) rfl
    (fun f fn hf hfn => by
      obtain rfl : f = 3 := Option.some.inj ((show Tryd.prog.funcNamed "panache/panachetop.TopBoxAlike" = some 3 by kernel_rfl).symm.trans hf) |>.symm
      obtain rfl : fn = Tryd.f3 := (Option.some.inj (Tryd.func3.symm.trans hfn)).symm
      exact ⟨by kernel_rfl, fun j t ht => by
        have h3 : Tryd.f3.params.toList.all (fun t => !Tryd.prog.wantsStandIn t) = true := by kernel_rfl
        have h4 : (!Tryd.prog.wantsStandIn t) = true := List.all_eq_true.1 h3 t (by rw [← Array.getElem?_toList] at ht; exact List.mem_of_getElem? ht)
        have h5 : Tryd.prog.wantsStandIn t = false := by rwa [Bool.not_eq_true'] at h4
        exact h5⟩)
    (by kernel_rfl)
#print axioms topBoxAlike_card
end Go.Proofs.YtcgcemjajcaggaaDoor
end
