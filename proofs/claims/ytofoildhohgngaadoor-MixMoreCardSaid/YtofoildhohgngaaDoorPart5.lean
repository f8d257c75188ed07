/-
  A part of the proof that a law returns true for every input that the given row speaks of: an own verified walk over the program (namespace Go.Aw), contracts of the functions that the law calls, and the law itself. Conditions: those of the given row, no other.
-/
import Derived.Test.YtofoildhohgngaaDoorPart4
section
set_option linter.unusedVariables false
set_option linter.unusedSimpArgs false
set_option maxRecDepth 20000
set_option maxHeartbeats 4000000
/-! What the law's made makes: definitions. -/
namespace Go.Aw
open Go.RowKit Go.Proofs

/-- Five bytes. -/
structure B5 where
  a : Int
  b : Int
  c : Int
  d : Int
  e : Int
instance : Inhabited B5 := ⟨⟨0, 0, 0, 0, 0⟩⟩
abbrev u8 (n : Int) : V := .lit (.int .u8 n)
def encU (x : B5) : List V := [u8 x.a, u8 x.b, u8 x.c, u8 x.d, u8 x.e]
@[go_sem] theorem encU_eq (x : B5) : encU x = [u8 x.a, u8 x.b, u8 x.c, u8 x.d, u8 x.e] := rfl
def okU (n : Int) : Prop := 0 ≤ n ∧ n ≤ 255
def B5.ok (x : B5) : Prop := okU x.a ∧ okU x.b ∧ okU x.c ∧ okU x.d ∧ okU x.e
/-- What comes in: boxes, carriers, stuffs, bills. -/
def innC (bx : List B5) (ca st b0 b1 b2 b3 b4 b5 : Int) : List V := [.sl 5 (bx.map encU) false, u8 ca, u8 st, u8 b0, u8 b1, u8 b2, u8 b3, u8 b4, u8 b5]
@[go_sem] theorem innC_eq (bx : List B5) (ca st b0 b1 b2 b3 b4 b5 : Int) : innC bx ca st b0 b1 b2 b3 b4 b5 = [.sl 5 (bx.map encU) false, u8 ca, u8 st, u8 b0, u8 b1, u8 b2, u8 b3, u8 b4, u8 b5] := rfl

/-- Bills, so far. -/
def bl (n : Nat) (f : Nat → Int) : List (List V) := (List.range n).map fun c => [int (f c), nilV]
@[go_sem] theorem bl_len (n : Nat) (f : Nat → Int) : (bl n f).length = n := by simp [bl]
@[go_sem] theorem bl_pu (n : Nat) (f : Nat → Int) : PuE (bl n f) = True := by
  simp only [PuE, eq_iff_iff, iff_true, bl]
  intro e he
  obtain ⟨c, _, rfl⟩ := List.mem_map.1 he
  simp [PuL]
theorem bl_succ (n : Nat) (f : Nat → Int) : bl (n + 1) f = bl n f ++ [[int (f n), nilV]] := by
  simp [bl, List.range_succ]
@[go_sem] theorem bl_get (n : Nat) (f : Nat → Int) (c : Nat) (h : c < n) : (bl n f).getD c [] = [int (f c), nilV] := by
  rw [List.getD_eq_getElem?_getD]; simp [bl, h]
def updF (f : Nat → Int) (c : Nat) (v : Int) : Nat → Int := fun j => if j = c then v else f j
@[go_sem] theorem bl_set (n : Nat) (f : Nat → Int) (c : Nat) (v : Int) : (bl n f).set c [int v, nilV] = bl n (updF f c v) := by
  refine List.ext_getElem (by simp [bl]) fun i h1 h2 => ?_
  rw [List.getElem_set]
  simp only [bl, List.getElem_map, List.getElem_range, updF]
  by_cases h : i = c
  · subst h; simp
  · rw [if_neg (fun e => h e.symm), if_neg h]

/-- Sums, so far. -/
def encSm (s : Nat → Nat → Int) : List V := [int (s 0 0), int (s 0 1), int (s 1 0), int (s 1 1), int (s 2 0), int (s 2 1)]
def restSm (s : Nat → Nat → Int) (k : Nat) : List V := (encSm s).drop (k + 1)
def upd2 (s : Nat → Nat → Int) (c k : Nat) (v : Int) : Nat → Nat → Int := fun i j => if i = c ∧ j = k then v else s i j
@[go_sem] theorem encSm_len (s : Nat → Nat → Int) : (encSm s).length = 6 := rfl
@[go_sem] theorem encSm_pu (s : Nat → Nat → Int) : PuL (encSm s) = True := by simp [encSm, PuL]
@[go_sem] theorem encSm_drop (s : Nat → Nat → Int) (c : Nat) (h : c < 3) : (encSm s).drop (c * 2) = int (s c 0) :: restSm s (c * 2) := by
  rcases k3 h with rfl | rfl | rfl <;> rfl
@[go_sem] theorem encSm_drop1 (s : Nat → Nat → Int) (c : Nat) (h : c < 3) : (encSm s).drop (c * 2 + 1) = int (s c 1) :: restSm s (c * 2 + 1) := by
  rcases k3 h with rfl | rfl | rfl <;> rfl
@[go_sem] theorem encSm_splice (s : Nat → Nat → Int) (c : Nat) (v : Int) (h : c < 3) : splice (encSm s) (c * 2) [int v] = encSm (upd2 s c 0 v) := by
  rcases k3 h with rfl | rfl | rfl <;> rfl
@[go_sem] theorem encSm_splice1 (s : Nat → Nat → Int) (c : Nat) (v : Int) (h : c < 3) : splice (encSm s) (c * 2 + 1) [int v] = encSm (upd2 s c 1 v) := by
  rcases k3 h with rfl | rfl | rfl <;> rfl

/-- Whose a box is; what is in it; its spans. -/
def bWho (nc : Nat) (v : B5) : Nat := (v.a % nc).toNat
def bN (v : B5) : Nat → Int
  | 0 => v.b
  | _ => v.c
def bHeld (v : B5) (n : Nat) : List Int := (List.range n).map (bN v)
def bSpan (v : B5) (k : Nat) : Int × Int := (max 0 (bN v k - v.d % 8), bN v k + v.e % 8)
def bBox (v : B5) (n : Nat) : Box := (List.range n).map (bSpan v)
def cntB (bx : List B5) (nc : Nat) : Nat → Nat → Int
  | 0, _ => 0
  | i + 1, c => if c = bWho nc (bx.getD i default) then cntB bx nc i (bWho nc (bx.getD i default)) + 1 else cntB bx nc i c
/-- Sums with a box more, of which so many stuffs. -/
def smTo (s : Nat → Nat → Int) (c : Nat) (v : B5) : Nat → Nat → Nat → Int
  | 0 => s
  | k + 1 => upd2 (smTo s c v k) c k (smTo s c v k c k + bN v k)
def sumB5 (bx : List B5) (nc ns : Nat) : Nat → Nat → Nat → Int
  | 0 => fun _ _ => 0
  | i + 1 => smTo (sumB5 bx nc ns i) (bWho nc (bx.getD i default)) (bx.getD i default) ns

theorem bN_ok {v : B5} (h : v.ok) (k : Nat) : 0 ≤ bN v k ∧ bN v k ≤ 255 := by
  obtain ⟨_, h1, h2, _, _⟩ := h
  unfold okU at h1 h2
  cases k with
  | zero => exact h1
  | succ _ => exact h2
theorem smTo_bnd {s : Nat → Nat → Int} {B : Int} (hs : ∀ c k, 0 ≤ s c k ∧ s c k ≤ B) (c : Nat) {v : B5} (hv : v.ok) : ∀ n c' k', 0 ≤ smTo s c v n c' k' ∧ smTo s c v n c' k' ≤ (if k' < n then B + 255 else B)
  | 0, c', k' => by rw [smTo, if_neg (Nat.not_lt_zero _)]; exact hs c' k'
  | n + 1, c', k' => by
    have ih := smTo_bnd hs c hv n
    have hb := bN_ok hv n
    rw [smTo, upd2]
    split
    · rename_i h
      obtain ⟨rfl, rfl⟩ := h
      have := ih c' k'
      rw [if_neg (Nat.lt_irrefl _)] at this
      rw [if_pos (Nat.lt_succ_self _)]
      omega
    · have := ih c' k'
      split at this
      · rw [if_pos (by omega)]; exact this
      · split
        · omega
        · exact this
theorem sumB5_bnd {bx : List B5} (hbx : ∀ v ∈ bx, v.ok) (nc ns : Nat) : ∀ i, i ≤ bx.length → ∀ c k, 0 ≤ sumB5 bx nc ns i c k ∧ sumB5 bx nc ns i c k ≤ 255 * i
  | 0, _, _, _ => by simp [sumB5]
  | i + 1, h, c, k => by
    have ih := sumB5_bnd hbx nc ns i (by omega)
    have := smTo_bnd ih (bWho nc (bx.getD i default)) (hbx _ (getD_mem (l := bx) (i := i) (by omega))) ns c k
    rw [sumB5]
    split at this <;> omega
theorem cntB_bnd (bx : List B5) (nc : Nat) : ∀ i c, 0 ≤ cntB bx nc i c ∧ cntB bx nc i c ≤ i
  | 0, _ => by simp [cntB]
  | i + 1, c => by
    have := cntB_bnd bx nc i (bWho nc (bx.getD i default))
    have := cntB_bnd bx nc i c
    rw [cntB]; split <;> omega

/-- Bills, so far, of which some are filled. -/
def bl2 (n : Nat) (f : Nat → Int) (d : Nat) (M : Nat → List (Int × Int)) : List (List V) := (List.range n).map fun j => [int (f j), if j < d then .sl 2 ((M j).map encS) false else nilV]
theorem bl2_zero (n : Nat) (f : Nat → Int) (M : Nat → List (Int × Int)) : bl2 n f 0 M = bl n f := by simp [bl2, bl]
@[go_sem] theorem bl2_len (n : Nat) (f : Nat → Int) (d : Nat) (M : Nat → List (Int × Int)) : (bl2 n f d M).length = n := by simp [bl2]
@[go_sem] theorem bl2_pu (n : Nat) (f : Nat → Int) (d : Nat) (M : Nat → List (Int × Int)) : PuE (bl2 n f d M) = True := by
  simp only [PuE, eq_iff_iff, iff_true, bl2]
  intro e he
  obtain ⟨c, _, rfl⟩ := List.mem_map.1 he
  have h1 : Pu (.sl 2 ((M c).map encS) false) := by first | assumption | (simp only [go_sem] <;> assumption) | (simp only [go_sem, *]; done) | (simp [go_sem]; done)
  intro v hv
  simp only [List.mem_cons, List.not_mem_nil, or_false] at hv
  rcases hv with rfl | rfl
  · exact .lit _
  · split
    · exact h1
    · exact .lit _
@[go_sem] theorem bl2_get (n : Nat) (f : Nat → Int) (d : Nat) (M : Nat → List (Int × Int)) (h : d < n) : (bl2 n f d M).getD d [] = [int (f d), nilV] := by
  rw [List.getD_eq_getElem?_getD]; simp [bl2, h]
@[go_sem] theorem set_bl2_get (n : Nat) (f : Nat → Int) (d : Nat) (M : Nat → List (Int × Int)) (c : Nat) (e : List V) (h : c < n) : ((bl2 n f d M).set c e).getD c [] = e := by
  rw [List.getD_eq_getElem?_getD, List.getElem?_set_self (by rw [bl2_len]; exact h)]; rfl
@[go_sem] theorem set_bl2_len (n : Nat) (f : Nat → Int) (d : Nat) (M : Nat → List (Int × Int)) (c : Nat) (e : List V) : ((bl2 n f d M).set c e).length = n := by rw [List.length_set, bl2_len]
@[go_sem] theorem set_bl2_set (n : Nat) (f : Nat → Int) (d : Nat) (M : Nat → List (Int × Int)) (c : Nat) (e e' : List V) : ((bl2 n f d M).set c e).set c e' = (bl2 n f d M).set c e' := List.set_set ..
theorem bl2_next (n : Nat) (f : Nat → Int) (d : Nat) (M : Nat → List (Int × Int)) : (bl2 n f d M).set d [int (f d), .sl 2 ((M d).map encS) false] = bl2 n f (d + 1) M := by
  refine List.ext_getElem (by simp [bl2]) fun i h1 h2 => ?_
  rw [List.getElem_set]
  simp only [bl2, List.getElem_map, List.getElem_range]
  by_cases h : d = i
  · subst h; rw [if_pos rfl, if_pos (by omega)]
  · rw [if_neg h]
    by_cases h' : i < d
    · rw [if_pos h', if_pos (by omega)]
    · rw [if_neg h', if_neg (by omega)]
@[go_sem] theorem take_map_take {α : Type} (g : α → List V) (l : List α) (i : Nat) : ((l.take i).map g).take i = (l.take i).map g := List.take_of_length_le (by rw [List.length_map, List.length_take]; omega)
@[go_sem] theorem take_bl2 (n : Nat) (f : Nat → Int) (d : Nat) (M : Nat → List (Int × Int)) : (bl2 n f d M).take n = bl2 n f d M := List.take_of_length_le (by rw [bl2_len]; exact Nat.le_refl _)
@[go_sem] theorem le_self' (n : Nat) : (n ≤ n) = True := by simp
def bq (b0 b1 b2 b3 b4 b5 : Int) : Nat → Int × Int
  | 0 => (b0, b1)
  | 1 => (b2, b3)
  | _ => (b4, b5)
def mSpan (S : Nat → Nat → Int) (q : Nat → Int × Int) (c k : Nat) : Int × Int := (max 0 (S c k - (q c).1 % 8), S c k + (q c).2 % 8)
def mHeld (S : Nat → Nat → Int) (q : Nat → Int × Int) (n c : Nat) : List (Int × Int) := (List.range n).map (mSpan S q c)
def rowK (n : Nat) (f : Nat → Int) (c : Nat) (M : Nat → List (Int × Int)) : Nat → List (List V)
  | 0 => bl2 n f c M
  | k + 1 => (bl2 n f c M).set c [int (f c), .os 71 2 (k + 1) false]
def row71 (g : Nat → Int × Int) : Nat → Option Blk
  | 0 => none
  | k + 1 => some ⟨2, ((List.range (k + 1)).map g).map encS, 60, .wr⟩
theorem rowK0 (n : Nat) (f : Nat → Int) (c : Nat) (M : Nat → List (Int × Int)) : rowK n f c M 0 = bl2 n f c M := rfl
theorem rowK1 (n : Nat) (f : Nat → Int) (c : Nat) (M : Nat → List (Int × Int)) : rowK n f c M 1 = (bl2 n f c M).set c [int (f c), .os 71 2 1 false] := rfl
theorem rowK2 (n : Nat) (f : Nat → Int) (c : Nat) (M : Nat → List (Int × Int)) : rowK n f c M 2 = (bl2 n f c M).set c [int (f c), .os 71 2 2 false] := rfl
theorem row71_0 (g : Nat → Int × Int) : row71 g 0 = none := rfl
theorem row71_1 (g : Nat → Int × Int) : row71 g 1 = some ⟨2, [encS (g 0)], 60, .wr⟩ := rfl
theorem row71_2 (g : Nat → Int × Int) : row71 g 2 = some ⟨2, [encS (g 0), encS (g 1)], 60, .wr⟩ := rfl
theorem bSpan0 (S : Nat → Nat → Int) (b0 b1 b2 b3 b4 b5 : Int) (k : Nat) : mSpan S (bq b0 b1 b2 b3 b4 b5) 0 k = (max 0 (S 0 k - b0 % 8), S 0 k + b1 % 8) := rfl
theorem bSpan1 (S : Nat → Nat → Int) (b0 b1 b2 b3 b4 b5 : Int) (k : Nat) : mSpan S (bq b0 b1 b2 b3 b4 b5) 1 k = (max 0 (S 1 k - b2 % 8), S 1 k + b3 % 8) := rfl
theorem bSpan2 (S : Nat → Nat → Int) (b0 b1 b2 b3 b4 b5 : Int) (k : Nat) : mSpan S (bq b0 b1 b2 b3 b4 b5) 2 k = (max 0 (S 2 k - b4 % 8), S 2 k + b5 % 8) := rfl

/-- What is made. -/
def madeV (bx : List B5) (nc ns n : Nat) (q : Nat → Int × Int) : V :=
  .tup [.agg [.sl 1 ((bx.take n).map fun v => encB (bBox v ns)) false, .sl 2 (bl2 nc (cntB bx nc n) nc (mHeld (sumB5 bx nc ns n) q ns)) false], .sl 1 ((bx.take n).map fun v => encI (bWho nc v)) false, .sl 1 ((bx.take n).map fun v => encW (bHeld v ns)) false]

end Go.Aw
end
