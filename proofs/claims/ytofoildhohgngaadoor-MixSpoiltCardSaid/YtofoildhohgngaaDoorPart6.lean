/-
  A part of the proof that a law returns true for every input that the given row speaks of: an own verified walk over the program (namespace Go.Aw), contracts of the functions that the law calls, and the law itself. Conditions: those of the given row, no other.
-/
import Derived.Test.YtofoildhohgngaaDoorPart5
set_option linter.unusedVariables false
set_option linter.unusedSimpArgs false
section
set_option maxRecDepth 20000
set_option maxHeartbeats 4000000
namespace Go.Aw
open Go.RowKit Go.Proofs
def madeRowsN (x : Nat) (bs : List Box) (cs : List Bill) (way : List Int) (held : List (List Int)) : List (Nat × Option Blk) := [(x + 68, some ⟨1, famE (x + 72) bs.length (lnB bs), 67, .wr⟩), (x + 65, some ⟨2, cs.map encBill, 64, .wr⟩), (x + 66, some ⟨1, way.map encI, 3, .wr⟩), (x + 67, some ⟨1, held.map encW, 31, .wr⟩),
 (x + 72, some ⟨2, rowB bs bs.length 0, 60, .wr⟩), (x + 73, some ⟨2, rowB bs bs.length 1, 60, .wr⟩), (x + 74, some ⟨2, rowB bs bs.length 2, 60, .wr⟩), (x + 75, some ⟨2, rowB bs bs.length 3, 60, .wr⟩), (x + 76, some ⟨2, rowB bs bs.length 4, 60, .wr⟩), (x + 77, some ⟨2, rowB bs bs.length 5, 60, .wr⟩), (x + 78, some ⟨2, rowB bs bs.length 6, 60, .wr⟩), (x + 79, some ⟨2, rowB bs bs.length 7, 60, .wr⟩)]
theorem RenE.famShift2 {ρ : Nat → Nat} {m : Nat} {F F' n B : Nat} {ln ln' : Nat → Nat} (hB : n ≤ B) (hr : ∀ j, j < B → ρ (F' + j) = F + j ∧ F' + j < m) (hl : ∀ j, j < n → ln j = ln' j) : RenE ρ m (famE F' n ln) (famE F n ln') := by
 refine RenE.get (by simp only [famE_len]) fun j d d' h1 h2 => ?_
 have hj := famE_lt h1
 rw [famE_at hj] at h1 h2
 cases h1
 cases h2
 have := hr j (by omega)
 exact .cons _ _ _ _ (Ren.osN _ _ (hl j hj) this.1 this.2 (fun h => h)) .nil
theorem made_at (bx : List B5) (ca st b0 b1 b2 b3 b4 b5 : Int) (hlen : bx.length ≤ 4611686018427387904) (hbx : ∀ v ∈ bx, v.ok) (hca : okU ca) (hst : okU st) (h0 : okU b0) (h1 : okU b1) (h2 : okU b2) (h3 : okU b3) (h4 : okU b4) (h5 : okU b5) :
   ∃ (bs : List Box) (cs : List Bill) (way : List Int) (held : List (List Int)), checkR bs cs = 0 ∧ way ∈ allW bs cs ∧ stuffs cs ≤ 2 ∧ Truth bs cs way held ∧
     ∀ {first args cap : List V} {dst : Option Tmp} {K : St → Prop} {tm : List V} {l : List (Nat × Option Blk)} {x : Nat} {gh : Gh},
       K ⟨putT tm dst (.tup [.agg [.os (x + 68) 1 bs.length false, .os (x + 65) 2 cs.length false], .os (x + 66) 1 bs.length false, .os (x + 67) 1 bs.length false]), hpOf (fun _ => none) (l ++ madeRowsN x bs cs way held), x + 3200, gh⟩ →
       first ++ args ++ cap = [.agg (innC bx ca st b0 b1 b2 b3 b4 b5)] → CallA Tryd.prog (.fn (.func 37) first cap) args dst K ⟨tm, hpOf (fun _ => none) l, x, gh⟩ := by
 obtain ⟨nc, hnc⟩ : ∃ nc : Nat, 1 + ca % 3 = nc := ⟨(1 + ca % 3).toNat, by omega⟩
 obtain ⟨ns, hns⟩ : ∃ ns : Nat, 1 + st % 2 = ns := ⟨(1 + st % 2).toNat, by omega⟩
 obtain ⟨n, hn⟩ : ∃ n, n = min bx.length 8 := ⟨_, rfl⟩
 have hm := made_F bx ca st b0 b1 b2 b3 b4 b5 hbx hca hst h0 h1 h2 h3 h4 h5 hlen nc ns n hnc hns hn
 have hmv := madeV_eq bx nc ns n (bq b0 b1 b2 b3 b4 b5)
 have hq := bq_ok' h0 h1 h2 h3 h4 h5
 have hpin : PuL [V.agg (innC bx ca st b0 b1 b2 b3 b4 b5)] := by first | assumption | (simp only [go_sem] <;> assumption) | (simp only [go_sem, *]; done) | (simp [go_sem]; done)
 generalize bq b0 b1 b2 b3 b4 b5 = q at hm hq hmv
 have hnb : n ≤ bx.length := by omega
 have h8 : n ≤ 8 := by omega
 have hc : 1 ≤ nc ∧ nc ≤ 3 := by omega
 have hs : 1 ≤ ns ∧ ns ≤ 2 := by omega
 have hbl : (mB bx ns n).length = n := mB_len hnb
 have hss : stuffs (mC bx nc ns n q) = ns := mC_stuffs hc.1
 have hck := made_check (bx := bx) hbx hnb h8 hc hs hq
 have hg := good_of_check hck
 refine ⟨mB bx ns n, mC bx nc ns n q, mW bx nc n, mH bx ns n, hck, made_mem (bx := bx) hbx hnb h8 hc hs hq, by omega, ⟨by rw [hbl]; exact mH_len hnb, fun i hi => ?_, fun i k hi hk => ?_, fun i k hi hk => ?_, fun c k hcc hk => ?_⟩, fun {first args cap dst K tm l x gh} hk ha => ?_⟩
 · rw [mH_at hnb (by omega), hss]; simp [bHeld]
 · rw [mH_at hnb (by omega), bHeld_at _ (by omega)]
   exact bN_ok (hbx _ (getD_mem (by omega))) k
 · rw [mH_at hnb (by omega), bHeld_at _ (by omega), mB_at hnb (by omega), bBox_at _ (by omega)]
   have := bSpan_in (hbx _ (getD_mem (l := bx) (i := i) (by omega))) k
   omega
 · rw [mC_len] at hcc
   rw [hbl, trueSum_made hnb c (by omega) n (Nat.le_refl _), mC_at hcc]
   simp only
   rw [mHeld_at _ (by omega)]
   have h5 := sumB5_bnd hbx nc ns n hnb c k
   have h3 := hq c
   unfold okU at h3
   have h4 := mSpan_in (S := sumB5 bx nc ns n) (c := c) (k := k) (q := q) h5.1 ⟨h3.1.1, h3.2.1⟩
   omega
 · have hp : PurL true (hpOf (fun _ => none) l) (first ++ args ++ cap) [V.agg (innC bx ca st b0 b1 b2 b3 b4 b5)] := by
     rw [ha]
     exact ⟨rfl, fun i d d' h1 h2 => by rw [h1] at h2; cases h2; exact .pu _ (hpin _ (List.mem_of_getElem? h1))⟩
   unfold madeV at hmv
   simp only [V.tup.injEq, List.cons.injEq, V.agg.injEq, V.sl.injEq, and_true, true_and, encLoad] at hmv
   obtain ⟨⟨e1, e2⟩, e3, e4⟩ := hmv
   have hrow : ∀ j, rowB (mB bx ns n) n j = rowM bx ns n j := fun j => by
     unfold rowB rowM
     split
     · rename_i hj; rw [mB_at hnb hj]
     · rfl
   have pe : ∀ {es : List (List V)}, PuE es → RenE (rhoF x) (x + 3200) es es := fun h => .pu _ h
   have q1 : PuE ((mC bx nc ns n q).map encBill) := by first | assumption | (simp only [go_sem] <;> assumption) | (simp only [go_sem, *]; done) | (simp [go_sem]; done)
   have q2 : PuE ((mW bx nc n).map encI) := by first | assumption | (simp only [go_sem] <;> assumption) | (simp only [go_sem, *]; done) | (simp [go_sem]; done)
   have q3 : PuE ((mH bx ns n).map encW) := by first | assumption | (simp only [go_sem] <;> assumption) | (simp only [go_sem, *]; done) | (simp [go_sem]; done)
   refine callA_shared _ (CallH.fresh (nx := x) (l := l) (rows := madeRowsN x (mB bx ns n) (mC bx nc ns n q) (mW bx nc n) (mH bx ns n)) hm hp (by decide)
     (r' := .tup [.agg [.os (x + 68) 1 (mB bx ns n).length false, .os (x + 65) 2 (mC bx nc ns n q).length false], .os (x + 66) 1 (mB bx ns n).length false, .os (x + 67) 1 (mB bx ns n).length false]) ?_ ?_ ?_) ⟨_, Tryd.func37, by rfl, by decide⟩ fun r h' nx' hp => ?_
   · have o : ∀ (i k m m' : Nat), m = m' → i < 3200 → Ren (rhoF x) (x + 3200) (.os (x + i) k m false) (.os i k m' false) := fun i k m m' h hi => Ren.osN _ _ h (rhoF_add _ _) (by omega) (fun h => h)
     have e5 : (mC bx nc ns n q).length = nc := mC_len
     have hT : RenL (rhoF x) (x + 3200) [.agg [.os (x + 68) 1 (mB bx ns n).length false, .os (x + 65) 2 (mC bx nc ns n q).length false], .os (x + 66) 1 (mB bx ns n).length false, .os (x + 67) 1 (mB bx ns n).length false] [.agg [.os 68 1 n false, .os 65 2 nc false], .os 66 1 n false, .os 67 1 n false] :=
       .cons _ _ _ _ (Ren.aggL _ _ (.cons _ _ _ _ (o 68 1 _ _ hbl (by decide)) (.cons _ _ _ _ (o 65 2 _ _ e5 (by decide)) .nil))) (.cons _ _ _ _ (o 66 1 _ _ hbl (by decide)) (.cons _ _ _ _ (o 67 1 _ _ hbl (by decide)) .nil))
     exact .tup _ _ hT.spec.1 hT.spec.2
   · unfold madeRowsN
     rw [hbl]
     refine .row _ _ _ _ _ _ _ (by omega) (by rw [rhoF_add]; rfl) (RenE.famShift2 h8 (fun j hj => ⟨by rw [Nat.add_assoc, rhoF_add], by omega⟩) fun j hj => ?_) ?_
     · show ((mB bx ns n).getD j default).length = ns
       rw [mB_at hnb hj]; simp [bBox]
     refine .row _ _ _ _ _ _ _ (by omega) (by rw [rhoF_add]; rfl) (by rw [e2]; exact pe q1) ?_
     refine .row _ _ _ _ _ _ _ (by omega) (by rw [rhoF_add]; rfl) (by rw [e3]; exact pe q2) ?_
     refine .row _ _ _ _ _ _ _ (by omega) (by rw [rhoF_add]; rfl) (by rw [e4]; exact pe q3) ?_
     iterate 8 refine .row _ _ _ _ _ _ _ (by omega) (by rw [rhoF_add]; rfl) (by rw [hrow]; exact pe (of_eq_true (rowM_pu ..))) ?_
     exact .nil
   · simp [madeRowsN]
   · obtain ⟨rfl, rfl, rfl⟩ := hp
     exact hk
theorem call_ownP {first args cap : List V} {dst : Option Tmp} {K : St → Prop} {tm : List V} {l : List (Nat × Option Blk)} {n : Nat} {gh : Gh} (bs : List Box) (cs : List Bill) (hz : SizeOk bs cs) (h8 : bs.length ≤ 8) (h3 : cs.length ≤ 3)
   (hk : K ⟨putT tm dst (.agg [.os (n + 1) 1 bs.length false, .os (n + 2) 2 cs.length false]), hpOf (fun _ => none) (l ++ ownRowsN n bs cs), n + 1216, gh⟩)
   (hp : PurI true (hpOf (fun _ => none) l) (first ++ args ++ cap) [encLoad bs cs]) : CallA Tryd.prog (.fn (.func 38) first cap) args dst K ⟨tm, hpOf (fun _ => none) l, n, gh⟩ := by
 refine callA_shared _ (CallH.fresh (nx := n) (l := l) (own_F bs cs hz h8 h3) hp.spec (by decide) (r' := .agg [.os (n + 1) 1 bs.length false, .os (n + 2) 2 cs.length false]) (Ren.aggL _ _ (.cons _ _ _ _ (Ren.osN _ _ rfl (rhoF_add _ _) (by omega) (fun h => h)) (.cons _ _ _ _ (Ren.osN _ _ rfl (rhoF_add _ _) (by omega) (fun h => h)) .nil))) (ownRowsN_ren n bs cs h8 h3) ?_) ⟨_, Tryd.func38, by rfl, by decide⟩ fun r h' nx' hp => ?_
 · simp [ownRowsN]
 · obtain ⟨rfl, rfl, rfl⟩ := hp
   exact hk
end Go.Aw
end
section
set_option maxRecDepth 20000
set_option maxHeartbeats 4000000
namespace Go.Aw
open Go.RowKit Go.Proofs
def spK (b : Box) (q : Int × Int) (k : Nat) : Box := List.replicate k q ++ b.drop k
structure Tl (G : Prop) : Prop where
 h : G
structure Split (P : Prop) where
 G : Prop
 h : Tl G → P
structure Split2 (P : Prop) where
 G1 : Prop
 G2 : Prop
 h : Tl G1 → Tl G2 → P
theorem spK_zero (b : Box) (q : Int × Int) : spK b q 0 = b := rfl
theorem spK_len {b : Box} {q : Int × Int} {k : Nat} (h : k ≤ b.length) : (spK b q k).length = b.length := by simp [spK]; omega
theorem spK_full (b : Box) (q : Int × Int) : spK b q b.length = List.replicate b.length q := by simp [spK]
theorem spK_step {b : Box} {q : Int × Int} {k : Nat} (h : k < b.length) : (spK b q k).set k q = spK b q (k + 1) := by
 unfold spK
 rw [List.set_append_right _ _ (by simp), List.length_replicate, Nat.sub_self, drop_consA h, List.set_cons_zero, List.replicate_succ', List.append_assoc]
 rfl
def spRow (bs : List Box) (i : Nat) (q : Int × Int) (k j : Nat) : List (List V) := if j = i then (spK (bs.getD i default) q k).map encS else rowB bs bs.length j
@[go_sem] theorem spRow_pu (bs : List Box) (i : Nat) (q : Int × Int) (k j : Nat) : PuE (spRow bs i q k j) = True := by
 unfold spRow; split
 · first | assumption | (simp only [go_sem] <;> assumption) | (simp only [go_sem, *]; done) | (simp [go_sem]; done)
 · exact rowB_pu ..
theorem spRow_at {bs : List Box} {i : Nat} {q : Int × Int} (k : Nat) : spRow bs i q k i = (spK (bs.getD i default) q k).map encS := by rw [spRow, if_pos rfl]
theorem spRow_zero {bs : List Box} {i : Nat} (hi : i < bs.length) (q : Int × Int) (j : Nat) : spRow bs i q 0 j = rowB bs bs.length j := by
 unfold spRow
 split
 · rename_i h; subst h; rw [spK_zero, rowB, if_pos hi]
 · rfl
theorem spRow_full {bs : List Box} {i : Nat} (hi : i < bs.length) (q : Int × Int) (j : Nat) : spRow bs i q (bs.getD i default).length j = rowB (bs.set i (List.replicate (bs.getD i default).length q)) (bs.set i (List.replicate (bs.getD i default).length q)).length j := by
 unfold spRow
 split
 · rename_i h; subst h; rw [spK_full, rowB, List.length_set, if_pos hi, getD_set_eq hi]
 · rename_i h
   unfold rowB
   rw [List.length_set, getD_set_ne (fun e => h e.symm)]
theorem or_all : ∀ m : Nat, m < 256 → ∀ c : Nat, c < 8 → ibits .or .i64 (m : Int) ((2 ^ c : Nat) : Int) = ((m ||| 2 ^ c : Nat) : Int) ∧ (m ||| 2 ^ c) < 256 ∧ 2 ^ c < 256 := by decide +kernel
theorem sp_pur {h : Hp} {nb : Nat} {B : List Box} {cs : List Bill} {ln : Nat → Nat} (hbn : B.length = nb) (hB : h 260 = some ⟨1, famE 264 nb ln, 67, .fz⟩) (hC : h 257 = some ⟨2, cs.map encBill, 64, .fz⟩) (hl : ∀ j, j < nb → ln j = (B.getD j default).length)
   (hh : ∀ j, j < nb → h (264 + j) = some ⟨2, (B.getD j default).map encS, 60, .fz⟩) : PurI true h [.agg [.os 260 1 nb false, .os 257 2 cs.length false]] [encLoad B cs] := by
 have q1 : PuE (cs.map encBill) := by first | assumption | (simp only [go_sem] <;> assumption) | (simp only [go_sem, *]; done) | (simp [go_sem]; done)
 refine PurI.cons _ _ _ _ (Pur.aggI (.cons _ _ _ _ (Pur.osR hB rfl (by simp only [famE_len]; exact Nat.le_refl _) (fun h => h) (PurE.fam hbn hl hh)) (.cons _ _ _ _ (Pur.osR hC rfl (by simp) (fun h => h) ?_) .nil))) .nil
 rw [List.take_of_length_le (by simp)]
 exact .pu _ q1
end Go.Aw
end
