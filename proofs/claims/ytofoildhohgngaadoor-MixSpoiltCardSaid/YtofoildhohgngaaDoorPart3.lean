/-
  A part of the proof that a law returns true for every input that the given row speaks of: an own verified walk over the program (namespace Go.Aw), contracts of the functions that the law calls, and the law itself. Conditions: those of the given row, no other.
-/
import Derived.Test.YtofoildhohgngaaDoorPart2
import Derived.Test.YtofoildhohgngaaDoorProg
set_option linter.unusedVariables false
set_option linter.unusedSimpArgs false
section
namespace Go.Aw
open Go.RowKit
theorem Tryd_mixed : Go.Proofs.Tryd.prog.follows .mixedOrders = true := by kernel_rfl
@[go_sem] theorem ti2 : tinfo Go.Proofs.Tryd.prog 2 = some
 { size := 1, zero := Value.int IntKind.i64 0, bytes := 8, desc := TypeDesc.int IntKind.i64 } := by kernel_rfl
@[go_sem] theorem ti3 : tinfo Go.Proofs.Tryd.prog 3 = some
 { size := 1, zero := Value.int IntKind.i64 0, bytes := 8, desc := TypeDesc.int IntKind.i64 } := by kernel_rfl
@[go_sem] theorem ti4 : tinfo Go.Proofs.Tryd.prog 4 = some
 { size := 1, zero := Value.bool false, bytes := 1, desc := TypeDesc.bool } := by kernel_rfl
@[go_sem] theorem ti5 : tinfo Go.Proofs.Tryd.prog 5 = some
 { size := 1, zero := Value.int IntKind.u8 0, bytes := 1, desc := TypeDesc.int IntKind.u8 } := by kernel_rfl
@[go_sem] theorem ti22 : tinfo Go.Proofs.Tryd.prog 22 = some
 { size := 1, zero := Value.slice none 0 0, bytes := 24, desc := TypeDesc.slice 67 } := by kernel_rfl
@[go_sem] theorem ti23 : tinfo Go.Proofs.Tryd.prog 23 = some
 { size := 1, zero := Value.slice none 0 0, bytes := 24, desc := TypeDesc.slice 64 } := by kernel_rfl
@[go_sem] theorem ti25 : tinfo Go.Proofs.Tryd.prog 25 = some
 { size := 2, zero := Value.agg #[Value.slice none 0 0, Value.slice none 0 0], bytes := 48,
   desc :=
     TypeDesc.struct
       #[{ name := "Boxes", type := 22, offset := 0, embedded := false, tag := "", pkgPath := "", byteOffset := 0 },
         { name := "Bills", type := 23, offset := 1, embedded := false, tag := "", pkgPath := "",
           byteOffset := 24 }] } := by kernel_rfl
@[go_sem] theorem ti31 : tinfo Go.Proofs.Tryd.prog 31 = some
 { size := 1, zero := Value.slice none 0 0, bytes := 24, desc := TypeDesc.slice 3 } := by kernel_rfl
@[go_sem] theorem ti37 : tinfo Go.Proofs.Tryd.prog 37 = some
 { size := 1, zero := Value.slice none 0 0, bytes := 24, desc := TypeDesc.slice 31 } := by kernel_rfl
@[go_sem] theorem ti41 : tinfo Go.Proofs.Tryd.prog 41 = some
 { size := 1, zero := Value.int IntKind.u64 0, bytes := 8, desc := TypeDesc.int IntKind.u64 } := by kernel_rfl
@[go_sem] theorem ti56 : tinfo Go.Proofs.Tryd.prog 56 = some
 { size := 1, zero := Value.slice none 0 0, bytes := 24, desc := TypeDesc.slice 60 } := by kernel_rfl
@[go_sem] theorem ti60 : tinfo Go.Proofs.Tryd.prog 60 = some
 { size := 2, zero := Value.agg #[Value.int IntKind.i64 0, Value.int IntKind.i64 0], bytes := 16,
   desc :=
     TypeDesc.struct
       #[{ name := "Low", type := 3, offset := 0, embedded := false, tag := "", pkgPath := "", byteOffset := 0 },
         { name := "High", type := 3, offset := 1, embedded := false, tag := "", pkgPath := "",
           byteOffset := 8 }] } := by kernel_rfl
@[go_sem] theorem ti64 : tinfo Go.Proofs.Tryd.prog 64 = some
 { size := 2, zero := Value.agg #[Value.int IntKind.i64 0, Value.slice none 0 0], bytes := 32,
   desc :=
     TypeDesc.struct
       #[{ name := "Boxes", type := 3, offset := 0, embedded := false, tag := "", pkgPath := "", byteOffset := 0 },
         { name := "Held", type := 56, offset := 1, embedded := false, tag := "", pkgPath := "",
           byteOffset := 8 }] } := by kernel_rfl
@[go_sem] theorem ti67 : tinfo Go.Proofs.Tryd.prog 67 = some
 { size := 1, zero := Value.agg #[Value.slice none 0 0], bytes := 24,
   desc :=
     TypeDesc.struct
       #[{ name := "Held", type := 56, offset := 0, embedded := false, tag := "", pkgPath := "",
           byteOffset := 0 }] } := by kernel_rfl
@[go_sem] theorem ti69 : tinfo Go.Proofs.Tryd.prog 69 = some
 { size := 1, zero := Value.slice none 0 0, bytes := 24, desc := TypeDesc.slice 118 } := by kernel_rfl
@[go_sem] theorem ti70 : tinfo Go.Proofs.Tryd.prog 70 = some
 { size := 2, zero := Value.agg #[Value.int IntKind.u8 0, Value.int IntKind.u8 0], bytes := 2,
   desc := TypeDesc.array 2 5 } := by kernel_rfl
@[go_sem] theorem ti71 : tinfo Go.Proofs.Tryd.prog 71 = some
 { size := 6,
   zero :=
     Value.agg
       #[Value.int IntKind.u8 0, Value.int IntKind.u8 0, Value.int IntKind.u8 0, Value.int IntKind.u8 0,
         Value.int IntKind.u8 0, Value.int IntKind.u8 0],
   bytes := 6, desc := TypeDesc.array 3 70 } := by kernel_rfl
@[go_sem] theorem ti73 : tinfo Go.Proofs.Tryd.prog 73 = some
 { size := 9,
   zero :=
     Value.agg
       #[Value.slice none 0 0, Value.int IntKind.u8 0, Value.int IntKind.u8 0, Value.int IntKind.u8 0,
         Value.int IntKind.u8 0, Value.int IntKind.u8 0, Value.int IntKind.u8 0, Value.int IntKind.u8 0,
         Value.int IntKind.u8 0],
   bytes := 32,
   desc :=
     TypeDesc.struct
       #[{ name := "Boxes", type := 69, offset := 0, embedded := false, tag := "", pkgPath := "", byteOffset := 0 },
         { name := "Carriers", type := 5, offset := 1, embedded := false, tag := "", pkgPath := "", byteOffset := 24 },
         { name := "Stuffs", type := 5, offset := 2, embedded := false, tag := "", pkgPath := "", byteOffset := 25 },
         { name := "Bills", type := 71, offset := 3, embedded := false, tag := "", pkgPath := "",
           byteOffset := 26 }] } := by kernel_rfl
@[go_sem] theorem ti78 : tinfo Go.Proofs.Tryd.prog 78 = some
 { size := 3, zero := Value.agg #[Value.int IntKind.u8 0, Value.int IntKind.u8 0, Value.int IntKind.u8 0], bytes := 3,
   desc := TypeDesc.array 3 5 } := by kernel_rfl
@[go_sem] theorem ti80 : tinfo Go.Proofs.Tryd.prog 80 = some
 { size := 1, zero := Value.slice none 0 0, bytes := 24, desc := TypeDesc.slice 78 } := by kernel_rfl
@[go_sem] theorem ti86 : tinfo Go.Proofs.Tryd.prog 86 = some
 { size := 1, zero := Value.nilFunc, bytes := 8, desc := TypeDesc.func #[56] #[4] false } := by kernel_rfl
@[go_sem] theorem ti87 : tinfo Go.Proofs.Tryd.prog 87 = some
 { size := 1, zero := Value.nilFunc, bytes := 8, desc := TypeDesc.func #[56, 3] #[4] false } := by kernel_rfl
@[go_sem] theorem ti94 : tinfo Go.Proofs.Tryd.prog 94 = some
 { size := 2, zero := Value.agg #[Value.slice none 0 0, Value.slice none 0 0], bytes := 48,
   desc :=
     TypeDesc.struct
       #[{ name := "MixLoad", type := 25, offset := 0, embedded := true, tag := "", pkgPath := "",
           byteOffset := 0 }] } := by kernel_rfl
@[go_sem] theorem ti95 : tinfo Go.Proofs.Tryd.prog 95 = some
 { size := 1, zero := Value.slice none 0 0, bytes := 24, desc := TypeDesc.slice 98 } := by kernel_rfl
@[go_sem] theorem ti98 : tinfo Go.Proofs.Tryd.prog 98 = some
 { size := 1, zero := Value.slice none 0 0, bytes := 24, desc := TypeDesc.slice 3 } := by kernel_rfl
@[go_sem] theorem ti101 : tinfo Go.Proofs.Tryd.prog 101 = some
 { size := 1, zero := Value.nilFunc, bytes := 8, desc := TypeDesc.func #[98] #[4] false } := by kernel_rfl
@[go_sem] theorem ti112 : tinfo Go.Proofs.Tryd.prog 112 = some
 { size := 6,
   zero :=
     Value.agg
       #[Value.int IntKind.i64 0, Value.int IntKind.i64 0, Value.int IntKind.i64 0, Value.int IntKind.i64 0,
         Value.int IntKind.i64 0, Value.int IntKind.i64 0],
   bytes := 48, desc := TypeDesc.array 3 60 } := by kernel_rfl
@[go_sem] theorem ti114 : tinfo Go.Proofs.Tryd.prog 114 = some
 { size := 7,
   zero :=
     Value.agg
       #[Value.int IntKind.i64 0, Value.int IntKind.i64 0, Value.int IntKind.i64 0, Value.int IntKind.i64 0,
         Value.int IntKind.i64 0, Value.int IntKind.i64 0, Value.int IntKind.i64 0],
   bytes := 56,
   desc :=
     TypeDesc.struct
       #[{ name := "boxes", type := 3, offset := 0, embedded := false, tag := "", pkgPath := "panache/mix",
           byteOffset := 0 },
         { name := "sums", type := 112, offset := 1, embedded := true, tag := "", pkgPath := "panache/mix",
           byteOffset := 8 }] } := by kernel_rfl
@[go_sem] theorem ti116 : tinfo Go.Proofs.Tryd.prog 116 = some
 { size := 2, zero := Value.agg #[Value.int IntKind.i64 0, Value.int IntKind.i64 0], bytes := 16,
   desc := TypeDesc.array 2 3 } := by kernel_rfl
@[go_sem] theorem ti117 : tinfo Go.Proofs.Tryd.prog 117 = some
 { size := 6,
   zero :=
     Value.agg
       #[Value.int IntKind.i64 0, Value.int IntKind.i64 0, Value.int IntKind.i64 0, Value.int IntKind.i64 0,
         Value.int IntKind.i64 0, Value.int IntKind.i64 0],
   bytes := 48, desc := TypeDesc.array 3 116 } := by kernel_rfl
@[go_sem] theorem ti118 : tinfo Go.Proofs.Tryd.prog 118 = some
 { size := 5,
   zero :=
     Value.agg
       #[Value.int IntKind.u8 0, Value.int IntKind.u8 0, Value.int IntKind.u8 0, Value.int IntKind.u8 0,
         Value.int IntKind.u8 0],
   bytes := 5, desc := TypeDesc.array 5 5 } := by kernel_rfl
@[go_sem] theorem ti130 : tinfo Go.Proofs.Tryd.prog 130 = some
 { size := 3, zero := Value.agg #[Value.slice none 0 0, Value.slice none 0 0, Value.slice none 0 0], bytes := 72,
   desc := TypeDesc.array 3 95 } := by kernel_rfl
@[go_sem] theorem ti134 : tinfo Go.Proofs.Tryd.prog 134 = some
 { size := 1, zero := Value.slice none 0 0, bytes := 24, desc := TypeDesc.slice 95 } := by kernel_rfl
@[go_sem] theorem ti138 : tinfo Go.Proofs.Tryd.prog 138 = some
 { size := 21,
   zero :=
     Value.agg
       #[Value.int IntKind.i64 0, Value.int IntKind.i64 0, Value.int IntKind.i64 0, Value.int IntKind.i64 0,
         Value.int IntKind.i64 0, Value.int IntKind.i64 0, Value.int IntKind.i64 0, Value.int IntKind.i64 0,
         Value.int IntKind.i64 0, Value.int IntKind.i64 0, Value.int IntKind.i64 0, Value.int IntKind.i64 0,
         Value.int IntKind.i64 0, Value.int IntKind.i64 0, Value.int IntKind.i64 0, Value.int IntKind.i64 0,
         Value.int IntKind.i64 0, Value.int IntKind.i64 0, Value.int IntKind.i64 0, Value.int IntKind.i64 0,
         Value.int IntKind.i64 0],
   bytes := 168, desc := TypeDesc.array 3 114 } := by kernel_rfl
@[go_sem] theorem ti151 : tinfo Go.Proofs.Tryd.prog 151 = some
 { size := 64,
   zero :=
     Value.agg
       #[Value.int IntKind.u8 0, Value.int IntKind.u8 0, Value.int IntKind.u8 0, Value.int IntKind.u8 0,
         Value.int IntKind.u8 0, Value.int IntKind.u8 0, Value.int IntKind.u8 0, Value.int IntKind.u8 0,
         Value.int IntKind.u8 0, Value.int IntKind.u8 0, Value.int IntKind.u8 0, Value.int IntKind.u8 0,
         Value.int IntKind.u8 0, Value.int IntKind.u8 0, Value.int IntKind.u8 0, Value.int IntKind.u8 0,
         Value.int IntKind.u8 0, Value.int IntKind.u8 0, Value.int IntKind.u8 0, Value.int IntKind.u8 0,
         Value.int IntKind.u8 0, Value.int IntKind.u8 0, Value.int IntKind.u8 0, Value.int IntKind.u8 0,
         Value.int IntKind.u8 0, Value.int IntKind.u8 0, Value.int IntKind.u8 0, Value.int IntKind.u8 0,
         Value.int IntKind.u8 0, Value.int IntKind.u8 0, Value.int IntKind.u8 0, Value.int IntKind.u8 0,
         Value.int IntKind.u8 0, Value.int IntKind.u8 0, Value.int IntKind.u8 0, Value.int IntKind.u8 0,
         Value.int IntKind.u8 0, Value.int IntKind.u8 0, Value.int IntKind.u8 0, Value.int IntKind.u8 0,
         Value.int IntKind.u8 0, Value.int IntKind.u8 0, Value.int IntKind.u8 0, Value.int IntKind.u8 0,
         Value.int IntKind.u8 0, Value.int IntKind.u8 0, Value.int IntKind.u8 0, Value.int IntKind.u8 0,
         Value.int IntKind.u8 0, Value.int IntKind.u8 0, Value.int IntKind.u8 0, Value.int IntKind.u8 0,
         Value.int IntKind.u8 0, Value.int IntKind.u8 0, Value.int IntKind.u8 0, Value.int IntKind.u8 0,
         Value.int IntKind.u8 0, Value.int IntKind.u8 0, Value.int IntKind.u8 0, Value.int IntKind.u8 0,
         Value.int IntKind.u8 0, Value.int IntKind.u8 0, Value.int IntKind.u8 0, Value.int IntKind.u8 0],
   bytes := 64, desc := TypeDesc.array 64 5 } := by kernel_rfl
end Go.Aw
end
section
set_option maxRecDepth 20000
namespace Go.Aw
open Go.RowKit Go.Proofs
theorem getD_default {α : Type} [Inhabited α] {l : List α} {i : Nat} (h : i < l.length) : l.getD i default = l[i] := by
 simp [List.getD_eq_getElem?_getD, List.getElem?_eq_getElem h]
theorem take_succ_getD {α : Type} [Inhabited α] {l : List α} {i : Nat} (h : i < l.length) : l.take (i + 1) = l.take i ++ [l.getD i default] := by
 rw [List.take_add_one, List.getElem?_eq_getElem h, getD_default h]; rfl
theorem getD_mem {α : Type} [Inhabited α] {l : List α} {i : Nat} (h : i < l.length) : l.getD i default ∈ l := by
 rw [getD_default h]; exact List.getElem_mem h
def idxR {α : Type} (l : List α) (p : α → Bool) : Int := match l.findIdx? p with
 | some i => i
 | none => -1
theorem idxR_any {α : Type} (l : List α) (p : α → Bool) : decide (0 ≤ idxR l p) = l.any p := by
 unfold idxR
 cases h : l.findIdx? p with
 | none =>
   rw [List.findIdx?_eq_none_iff] at h
   have : l.any p = false := by rw [List.any_eq_false]; intro x hx; simp [h x hx]
   rw [this]; simp
 | some i =>
   rw [List.findIdx?_eq_some_iff_getElem] at h
   obtain ⟨h1, h2, _⟩ := h
   have : l.any p = true := by rw [List.any_eq_true]; exact ⟨_, List.getElem_mem h1, h2⟩
   rw [this]; simp
theorem idxR_some {α : Type} [Inhabited α] {l : List α} {p : α → Bool} {i : Nat} (hif : i < l.length) (hp : ∀ x ∈ l.take i, p x = false) (h : p (l.getD i default) = true) : idxR l p = i := by
 unfold idxR
 rw [show l.findIdx? p = some i from ?_]
 rw [List.findIdx?_eq_some_iff_getElem]
 refine ⟨hif, ?_, fun j hj => ?_⟩
 · rw [getD_default hif] at h; exact h
 · have := hp l[j] (by rw [List.mem_take_iff_getElem]; exact ⟨j, by omega, rfl⟩)
   simp [this]
theorem idxR_step {α : Type} [Inhabited α] {l : List α} {p : α → Bool} {i : Nat} (hif : i < l.length) (hp : ∀ x ∈ l.take i, p x = false) (h : p (l.getD i default) = false) : i + 1 ≤ l.length ∧ ∀ x ∈ l.take (i + 1), p x = false := by
 refine ⟨by omega, fun x hx => ?_⟩
 rw [take_succ_getD hif, List.mem_append] at hx
 rcases hx with hx | hx
 · exact hp x hx
 · simp at hx; subst hx; exact h
theorem idxR_none {α : Type} {l : List α} {p : α → Bool} {i : Nat} (hi : ¬ i < l.length) (hp : ∀ x ∈ l.take i, p x = false) : idxR l p = -1 := by
 unfold idxR
 rw [show l.findIdx? p = none from ?_]
 rw [List.findIdx?_eq_none_iff]
 intro x hx
 exact hp x (by rw [List.take_of_length_le (by omega)]; exact hx)
theorem IndexFunc_int (l : List (Int)) (e : Bool) (p : Int → Bool) (g : FuncId) (cap : List V) (hl : l.length ≤ 4611686018427387904) (hcap : PuL cap) (hg : ∀ x ∈ l, Ct Tryd.prog g (.lit (.int .i64 x) :: cap) (.lit (.bool (p x)))) :
   Ct Tryd.prog 92 [.sl 1 (l.map encI) e, .fn (.func g) [] cap] (.lit (.int .i64 (idxR l p))) := by
 refine fn_enter Tryd.func92 rfl (by decide) Tryd.results92 Tryd.ntmps92 ?_ rfl (by simp (maxSteps := 1000000) -implicitDefEqProofs (disch := omega) only [go_sem]; rfl) fun base => ?_
 · simp
 repeat' (first
   | (with_reducible apply Req_intro); focus (first | omega | assumption | (simp; done))
   | with_reducible (first | apply Req_intro | refine nilT ?_ fun hn => ?_ | apply wk_draw Tryd_mixed | refine drawEnd (by kernel_rfl) ?_)
   | (with_reducible (first | apply condA_if | apply stepDG_ifN | apply stepDG_if | apply stepG_ifN | apply stepG_if)) <;> intro hb <;> (have hif := hb) <;> (try simp only [bo] at hif) <;> (try simp -implicitDefEqProofs (disch := omega) only [go_sem, hb]) <;> clear hb
   | simp (maxSteps := 1000000) -implicitDefEqProofs (disch := omega) only [go_sem])
 refine loop_at (α := Nat) [4, 5, 8, 9, 10, 11, 12, 13, 14, 15, 16, 17, 18] (fun i => [(8, .lit (.int .i64 i))]) (fun i => i ≤ l.length ∧ ∀ x ∈ l.take i, p x = false) (fun i => l.length - i) 0 (fun x => by simp (maxSteps := 1000000) -implicitDefEqProofs (disch := omega) only [go_sem]; rfl) ?_ ?_ fun x hx => ?_
 · exact weak_do []
 · simp
 obtain ⟨hi, hp⟩ := hx
 repeat' (first
   | (with_reducible apply Req_intro); focus (first | omega | assumption | (simp; done))
   | with_reducible (first | apply Req_intro | refine nilT ?_ fun hn => ?_ | apply wk_draw Tryd_mixed | refine drawEnd (by kernel_rfl) ?_)
   | (with_reducible (first | apply condA_if | apply stepDG_ifN | apply stepDG_if | apply stepG_ifN | apply stepG_if)) <;> intro hb <;> (have hif := hb) <;> (try simp only [bo] at hif) <;> (try simp -implicitDefEqProofs (disch := omega) only [go_sem, hb]) <;> clear hb
   | simp (maxSteps := 1000000) -implicitDefEqProofs (disch := omega) only [go_sem])
 · have hif' : x < l.length := hif
   refine callp (hg (l.getD x default) (getD_mem hif')) ?_
   try simp (maxSteps := 1000000) -implicitDefEqProofs (disch := omega) only [go_sem]
   repeat' (first
     | (with_reducible apply Req_intro); focus (first | omega | assumption | (simp; done))
     | with_reducible (first | apply Req_intro | refine nilT ?_ fun hn => ?_ | apply wk_draw Tryd_mixed | refine drawEnd (by kernel_rfl) ?_)
     | (with_reducible (first | apply condA_if | apply stepDG_ifN | apply stepDG_if | apply stepG_ifN | apply stepG_if)) <;> intro hb <;> (have hif := hb) <;> (try simp only [bo] at hif) <;> (try simp -implicitDefEqProofs (disch := omega) only [go_sem, hb]) <;> clear hb
     | simp (maxSteps := 1000000) -implicitDefEqProofs (disch := omega) only [go_sem])
   · refine ret_do ?_
     rw [idxR_some hif' hp hif]; rfl
   · refine nxt_w (x + 1) (weak_do []) ?_
     try dsimp only
     exact idxR_step hif' hp hif
 · refine ret_do ?_
   rw [idxR_none hif hp]; rfl
theorem ContainsFunc_int (l : List (Int)) (e : Bool) (p : Int → Bool) (g : FuncId) (cap : List V) (hl : l.length ≤ 4611686018427387904) (hcap : PuL cap) (hg : ∀ x ∈ l, Ct Tryd.prog g (.lit (.int .i64 x) :: cap) (.lit (.bool (p x)))) :
   Ct Tryd.prog 76 [.sl 1 (l.map encI) e, .fn (.func g) [] cap] (.lit (.bool (l.any p))) := by
 refine fn_enter Tryd.func76 rfl (by decide) Tryd.results76 Tryd.ntmps76 ?_ rfl (by simp (maxSteps := 1000000) -implicitDefEqProofs (disch := omega) only [go_sem]; rfl) fun base => ?_
 · simp
 repeat' (first
   | (with_reducible apply Req_intro); focus (first | omega | assumption | (simp; done))
   | with_reducible (first | apply Req_intro | refine nilT ?_ fun hn => ?_ | apply wk_draw Tryd_mixed | refine drawEnd (by kernel_rfl) ?_)
   | (with_reducible (first | apply condA_if | apply stepDG_ifN | apply stepDG_if | apply stepG_ifN | apply stepG_if)) <;> intro hb <;> (have hif := hb) <;> (try simp only [bo] at hif) <;> (try simp -implicitDefEqProofs (disch := omega) only [go_sem, hb]) <;> clear hb
   | simp (maxSteps := 1000000) -implicitDefEqProofs (disch := omega) only [go_sem])
 refine callp (IndexFunc_int l e p g cap hl hcap hg) ?_
 try simp (maxSteps := 1000000) -implicitDefEqProofs (disch := omega) only [go_sem]
 repeat' (first
   | (with_reducible apply Req_intro); focus (first | omega | assumption | (simp; done))
   | with_reducible (first | apply Req_intro | refine nilT ?_ fun hn => ?_ | apply wk_draw Tryd_mixed | refine drawEnd (by kernel_rfl) ?_)
   | (with_reducible (first | apply condA_if | apply stepDG_ifN | apply stepDG_if | apply stepG_ifN | apply stepG_if)) <;> intro hb <;> (have hif := hb) <;> (try simp only [bo] at hif) <;> (try simp -implicitDefEqProofs (disch := omega) only [go_sem, hb]) <;> clear hb
   | simp (maxSteps := 1000000) -implicitDefEqProofs (disch := omega) only [go_sem])
 refine ret_do ?_
 rw [← idxR_any]; rfl
end Go.Aw
end
section
set_option maxRecDepth 20000
namespace Go.Aw
open Go.RowKit Go.Proofs
abbrev Span := Int × Int
def encS (s : Int × Int) : List V := [.lit (.int .i64 s.1), .lit (.int .i64 s.2)]
@[go_sem] theorem encS_eq (s : Int × Int) : encS s = [.lit (.int .i64 s.1), .lit (.int .i64 s.2)] := rfl
def encB (h : List (Int × Int)) : List V := [.sl 2 (h.map encS) false]
@[go_sem] theorem encB_eq (h : List (Int × Int)) : encB h = [.sl 2 (h.map encS) false] := rfl
def encBill (b : Int × List (Int × Int)) : List V := [.lit (.int .i64 b.1), .sl 2 (b.2.map encS) false]
@[go_sem] theorem encBill_eq (b : Int × List (Int × Int)) : encBill b = [.lit (.int .i64 b.1), .sl 2 (b.2.map encS) false] := rfl
def encW (w : List Int) : List V := [.sl 1 (w.map encI) false]
@[go_sem] theorem encW_eq (w : List Int) : encW w = [.sl 1 (w.map encI) false] := rfl
def encWs (ws : List (List Int)) : List V := [.sl 1 (ws.map encW) false]
@[go_sem] theorem encWs_eq (ws : List (List Int)) : encWs ws = [.sl 1 (ws.map encW) false] := rfl
theorem IndexFunc_Span (l : List (Int × Int)) (e : Bool) (p : Int × Int → Bool) (g : FuncId) (cap : List V) (hl : l.length ≤ 4611686018427387904) (hcap : PuL cap) (hg : ∀ x ∈ l, Ct Tryd.prog g (.agg (encS x) :: cap) (.lit (.bool (p x)))) :
   Ct Tryd.prog 91 [.sl 2 (l.map encS) e, .fn (.func g) [] cap] (.lit (.int .i64 (idxR l p))) := by
 refine fn_enter Tryd.func91 rfl (by decide) Tryd.results91 Tryd.ntmps91 ?_ rfl (by simp (maxSteps := 1000000) -implicitDefEqProofs (disch := omega) only [go_sem]; rfl) fun base => ?_
 · simp
 repeat' (first
   | (with_reducible apply Req_intro); focus (first | omega | assumption | (simp; done))
   | with_reducible (first | apply Req_intro | refine nilT ?_ fun hn => ?_ | apply wk_draw Tryd_mixed | refine drawEnd (by kernel_rfl) ?_)
   | (with_reducible (first | apply condA_if | apply stepDG_ifN | apply stepDG_if | apply stepG_ifN | apply stepG_if)) <;> intro hb <;> (have hif := hb) <;> (try simp only [bo] at hif) <;> (try simp -implicitDefEqProofs (disch := omega) only [go_sem, hb]) <;> clear hb
   | simp (maxSteps := 1000000) -implicitDefEqProofs (disch := omega) only [go_sem])
 refine loop_at (α := Nat) [4, 5, 8, 9, 10, 11, 12, 13, 14, 15, 16, 17, 18] (fun i => [(8, .lit (.int .i64 i))]) (fun i => i ≤ l.length ∧ ∀ x ∈ l.take i, p x = false) (fun i => l.length - i) 0 (fun x => by simp (maxSteps := 1000000) -implicitDefEqProofs (disch := omega) only [go_sem]; rfl) ?_ ?_ fun x hx => ?_
 · exact weak_do []
 · simp
 obtain ⟨hi, hp⟩ := hx
 repeat' (first
   | (with_reducible apply Req_intro); focus (first | omega | assumption | (simp; done))
   | with_reducible (first | apply Req_intro | refine nilT ?_ fun hn => ?_ | apply wk_draw Tryd_mixed | refine drawEnd (by kernel_rfl) ?_)
   | (with_reducible (first | apply condA_if | apply stepDG_ifN | apply stepDG_if | apply stepG_ifN | apply stepG_if)) <;> intro hb <;> (have hif := hb) <;> (try simp only [bo] at hif) <;> (try simp -implicitDefEqProofs (disch := omega) only [go_sem, hb]) <;> clear hb
   | simp (maxSteps := 1000000) -implicitDefEqProofs (disch := omega) only [go_sem])
 · have hif' : x < l.length := hif
   refine callp (hg (l.getD x default) (getD_mem hif')) ?_
   try simp (maxSteps := 1000000) -implicitDefEqProofs (disch := omega) only [go_sem]
   repeat' (first
     | (with_reducible apply Req_intro); focus (first | omega | assumption | (simp; done))
     | with_reducible (first | apply Req_intro | refine nilT ?_ fun hn => ?_ | apply wk_draw Tryd_mixed | refine drawEnd (by kernel_rfl) ?_)
     | (with_reducible (first | apply condA_if | apply stepDG_ifN | apply stepDG_if | apply stepG_ifN | apply stepG_if)) <;> intro hb <;> (have hif := hb) <;> (try simp only [bo] at hif) <;> (try simp -implicitDefEqProofs (disch := omega) only [go_sem, hb]) <;> clear hb
     | simp (maxSteps := 1000000) -implicitDefEqProofs (disch := omega) only [go_sem])
   · refine ret_do ?_
     rw [idxR_some hif' hp hif]; rfl
   · refine nxt_w (x + 1) (weak_do []) ?_
     try dsimp only
     exact idxR_step hif' hp hif
 · refine ret_do ?_
   rw [idxR_none hif hp]; rfl
theorem ContainsFunc_Span (l : List (Int × Int)) (e : Bool) (p : Int × Int → Bool) (g : FuncId) (cap : List V) (hl : l.length ≤ 4611686018427387904) (hcap : PuL cap) (hg : ∀ x ∈ l, Ct Tryd.prog g (.agg (encS x) :: cap) (.lit (.bool (p x)))) :
   Ct Tryd.prog 74 [.sl 2 (l.map encS) e, .fn (.func g) [] cap] (.lit (.bool (l.any p))) := by
 refine fn_enter Tryd.func74 rfl (by decide) Tryd.results74 Tryd.ntmps74 ?_ rfl (by simp (maxSteps := 1000000) -implicitDefEqProofs (disch := omega) only [go_sem]; rfl) fun base => ?_
 · simp
 repeat' (first
   | (with_reducible apply Req_intro); focus (first | omega | assumption | (simp; done))
   | with_reducible (first | apply Req_intro | refine nilT ?_ fun hn => ?_ | apply wk_draw Tryd_mixed | refine drawEnd (by kernel_rfl) ?_)
   | (with_reducible (first | apply condA_if | apply stepDG_ifN | apply stepDG_if | apply stepG_ifN | apply stepG_if)) <;> intro hb <;> (have hif := hb) <;> (try simp only [bo] at hif) <;> (try simp -implicitDefEqProofs (disch := omega) only [go_sem, hb]) <;> clear hb
   | simp (maxSteps := 1000000) -implicitDefEqProofs (disch := omega) only [go_sem])
 refine callp (IndexFunc_Span l e p g cap hl hcap hg) ?_
 try simp (maxSteps := 1000000) -implicitDefEqProofs (disch := omega) only [go_sem]
 repeat' (first
   | (with_reducible apply Req_intro); focus (first | omega | assumption | (simp; done))
   | with_reducible (first | apply Req_intro | refine nilT ?_ fun hn => ?_ | apply wk_draw Tryd_mixed | refine drawEnd (by kernel_rfl) ?_)
   | (with_reducible (first | apply condA_if | apply stepDG_ifN | apply stepDG_if | apply stepG_ifN | apply stepG_if)) <;> intro hb <;> (have hif := hb) <;> (try simp only [bo] at hif) <;> (try simp -implicitDefEqProofs (disch := omega) only [go_sem, hb]) <;> clear hb
   | simp (maxSteps := 1000000) -implicitDefEqProofs (disch := omega) only [go_sem])
 refine ret_do ?_
 rw [← idxR_any]; rfl
theorem IndexFunc_box (l : List (List (Int × Int))) (e : Bool) (p : List (Int × Int) → Bool) (g : FuncId) (cap : List V) (hl : l.length ≤ 4611686018427387904) (hcap : PuL cap) (hg : ∀ x ∈ l, Ct Tryd.prog g (.agg (encB x) :: cap) (.lit (.bool (p x)))) :
   Ct Tryd.prog 78 [.sl 1 (l.map encB) e, .fn (.func g) [] cap] (.lit (.int .i64 (idxR l p))) := by
 refine fn_enter Tryd.func78 rfl (by decide) Tryd.results78 Tryd.ntmps78 ?_ rfl (by simp (maxSteps := 1000000) -implicitDefEqProofs (disch := omega) only [go_sem]; rfl) fun base => ?_
 · simp
 repeat' (first
   | (with_reducible apply Req_intro); focus (first | omega | assumption | (simp; done))
   | with_reducible (first | apply Req_intro | refine nilT ?_ fun hn => ?_ | apply wk_draw Tryd_mixed | refine drawEnd (by kernel_rfl) ?_)
   | (with_reducible (first | apply condA_if | apply stepDG_ifN | apply stepDG_if | apply stepG_ifN | apply stepG_if)) <;> intro hb <;> (have hif := hb) <;> (try simp only [bo] at hif) <;> (try simp -implicitDefEqProofs (disch := omega) only [go_sem, hb]) <;> clear hb
   | simp (maxSteps := 1000000) -implicitDefEqProofs (disch := omega) only [go_sem])
 refine loop_at (α := Nat) [4, 5, 8, 9, 10, 11, 12, 13, 14, 15, 16, 17, 18] (fun i => [(8, .lit (.int .i64 i))]) (fun i => i ≤ l.length ∧ ∀ x ∈ l.take i, p x = false) (fun i => l.length - i) 0 (fun x => by simp (maxSteps := 1000000) -implicitDefEqProofs (disch := omega) only [go_sem]; rfl) ?_ ?_ fun x hx => ?_
 · exact weak_do []
 · simp
 obtain ⟨hi, hp⟩ := hx
 repeat' (first
   | (with_reducible apply Req_intro); focus (first | omega | assumption | (simp; done))
   | with_reducible (first | apply Req_intro | refine nilT ?_ fun hn => ?_ | apply wk_draw Tryd_mixed | refine drawEnd (by kernel_rfl) ?_)
   | (with_reducible (first | apply condA_if | apply stepDG_ifN | apply stepDG_if | apply stepG_ifN | apply stepG_if)) <;> intro hb <;> (have hif := hb) <;> (try simp only [bo] at hif) <;> (try simp -implicitDefEqProofs (disch := omega) only [go_sem, hb]) <;> clear hb
   | simp (maxSteps := 1000000) -implicitDefEqProofs (disch := omega) only [go_sem])
 · have hif' : x < l.length := hif
   refine callp (hg (l.getD x default) (getD_mem hif')) ?_
   try simp (maxSteps := 1000000) -implicitDefEqProofs (disch := omega) only [go_sem]
   repeat' (first
     | (with_reducible apply Req_intro); focus (first | omega | assumption | (simp; done))
     | with_reducible (first | apply Req_intro | refine nilT ?_ fun hn => ?_ | apply wk_draw Tryd_mixed | refine drawEnd (by kernel_rfl) ?_)
     | (with_reducible (first | apply condA_if | apply stepDG_ifN | apply stepDG_if | apply stepG_ifN | apply stepG_if)) <;> intro hb <;> (have hif := hb) <;> (try simp only [bo] at hif) <;> (try simp -implicitDefEqProofs (disch := omega) only [go_sem, hb]) <;> clear hb
     | simp (maxSteps := 1000000) -implicitDefEqProofs (disch := omega) only [go_sem])
   · refine ret_do ?_
     rw [idxR_some hif' hp hif]; rfl
   · refine nxt_w (x + 1) (weak_do []) ?_
     try dsimp only
     exact idxR_step hif' hp hif
 · refine ret_do ?_
   rw [idxR_none hif hp]; rfl
theorem ContainsFunc_box (l : List (List (Int × Int))) (e : Bool) (p : List (Int × Int) → Bool) (g : FuncId) (cap : List V) (hl : l.length ≤ 4611686018427387904) (hcap : PuL cap) (hg : ∀ x ∈ l, Ct Tryd.prog g (.agg (encB x) :: cap) (.lit (.bool (p x)))) :
   Ct Tryd.prog 49 [.sl 1 (l.map encB) e, .fn (.func g) [] cap] (.lit (.bool (l.any p))) := by
 refine fn_enter Tryd.func49 rfl (by decide) Tryd.results49 Tryd.ntmps49 ?_ rfl (by simp (maxSteps := 1000000) -implicitDefEqProofs (disch := omega) only [go_sem]; rfl) fun base => ?_
 · simp
 repeat' (first
   | (with_reducible apply Req_intro); focus (first | omega | assumption | (simp; done))
   | with_reducible (first | apply Req_intro | refine nilT ?_ fun hn => ?_ | apply wk_draw Tryd_mixed | refine drawEnd (by kernel_rfl) ?_)
   | (with_reducible (first | apply condA_if | apply stepDG_ifN | apply stepDG_if | apply stepG_ifN | apply stepG_if)) <;> intro hb <;> (have hif := hb) <;> (try simp only [bo] at hif) <;> (try simp -implicitDefEqProofs (disch := omega) only [go_sem, hb]) <;> clear hb
   | simp (maxSteps := 1000000) -implicitDefEqProofs (disch := omega) only [go_sem])
 refine callp (IndexFunc_box l e p g cap hl hcap hg) ?_
 try simp (maxSteps := 1000000) -implicitDefEqProofs (disch := omega) only [go_sem]
 repeat' (first
   | (with_reducible apply Req_intro); focus (first | omega | assumption | (simp; done))
   | with_reducible (first | apply Req_intro | refine nilT ?_ fun hn => ?_ | apply wk_draw Tryd_mixed | refine drawEnd (by kernel_rfl) ?_)
   | (with_reducible (first | apply condA_if | apply stepDG_ifN | apply stepDG_if | apply stepG_ifN | apply stepG_if)) <;> intro hb <;> (have hif := hb) <;> (try simp only [bo] at hif) <;> (try simp -implicitDefEqProofs (disch := omega) only [go_sem, hb]) <;> clear hb
   | simp (maxSteps := 1000000) -implicitDefEqProofs (disch := omega) only [go_sem])
 refine ret_do ?_
 rw [← idxR_any]; rfl
theorem IndexFunc_bill (l : List (Int × List (Int × Int))) (e : Bool) (p : Int × List (Int × Int) → Bool) (g : FuncId) (cap : List V) (hl : l.length ≤ 4611686018427387904) (hcap : PuL cap) (hg : ∀ x ∈ l, Ct Tryd.prog g (.agg (encBill x) :: cap) (.lit (.bool (p x)))) :
   Ct Tryd.prog 79 [.sl 2 (l.map encBill) e, .fn (.func g) [] cap] (.lit (.int .i64 (idxR l p))) := by
 refine fn_enter Tryd.func79 rfl (by decide) Tryd.results79 Tryd.ntmps79 ?_ rfl (by simp (maxSteps := 1000000) -implicitDefEqProofs (disch := omega) only [go_sem]; rfl) fun base => ?_
 · simp
 repeat' (first
   | (with_reducible apply Req_intro); focus (first | omega | assumption | (simp; done))
   | with_reducible (first | apply Req_intro | refine nilT ?_ fun hn => ?_ | apply wk_draw Tryd_mixed | refine drawEnd (by kernel_rfl) ?_)
   | (with_reducible (first | apply condA_if | apply stepDG_ifN | apply stepDG_if | apply stepG_ifN | apply stepG_if)) <;> intro hb <;> (have hif := hb) <;> (try simp only [bo] at hif) <;> (try simp -implicitDefEqProofs (disch := omega) only [go_sem, hb]) <;> clear hb
   | simp (maxSteps := 1000000) -implicitDefEqProofs (disch := omega) only [go_sem])
 refine loop_at (α := Nat) [4, 5, 8, 9, 10, 11, 12, 13, 14, 15, 16, 17, 18] (fun i => [(8, .lit (.int .i64 i))]) (fun i => i ≤ l.length ∧ ∀ x ∈ l.take i, p x = false) (fun i => l.length - i) 0 (fun x => by simp (maxSteps := 1000000) -implicitDefEqProofs (disch := omega) only [go_sem]; rfl) ?_ ?_ fun x hx => ?_
 · exact weak_do []
 · simp
 obtain ⟨hi, hp⟩ := hx
 repeat' (first
   | (with_reducible apply Req_intro); focus (first | omega | assumption | (simp; done))
   | with_reducible (first | apply Req_intro | refine nilT ?_ fun hn => ?_ | apply wk_draw Tryd_mixed | refine drawEnd (by kernel_rfl) ?_)
   | (with_reducible (first | apply condA_if | apply stepDG_ifN | apply stepDG_if | apply stepG_ifN | apply stepG_if)) <;> intro hb <;> (have hif := hb) <;> (try simp only [bo] at hif) <;> (try simp -implicitDefEqProofs (disch := omega) only [go_sem, hb]) <;> clear hb
   | simp (maxSteps := 1000000) -implicitDefEqProofs (disch := omega) only [go_sem])
 · have hif' : x < l.length := hif
   refine callp (hg (l.getD x default) (getD_mem hif')) ?_
   try simp (maxSteps := 1000000) -implicitDefEqProofs (disch := omega) only [go_sem]
   repeat' (first
     | (with_reducible apply Req_intro); focus (first | omega | assumption | (simp; done))
     | with_reducible (first | apply Req_intro | refine nilT ?_ fun hn => ?_ | apply wk_draw Tryd_mixed | refine drawEnd (by kernel_rfl) ?_)
     | (with_reducible (first | apply condA_if | apply stepDG_ifN | apply stepDG_if | apply stepG_ifN | apply stepG_if)) <;> intro hb <;> (have hif := hb) <;> (try simp only [bo] at hif) <;> (try simp -implicitDefEqProofs (disch := omega) only [go_sem, hb]) <;> clear hb
     | simp (maxSteps := 1000000) -implicitDefEqProofs (disch := omega) only [go_sem])
   · refine ret_do ?_
     rw [idxR_some hif' hp hif]; rfl
   · refine nxt_w (x + 1) (weak_do []) ?_
     try dsimp only
     exact idxR_step hif' hp hif
 · refine ret_do ?_
   rw [idxR_none hif hp]; rfl
theorem ContainsFunc_bill (l : List (Int × List (Int × Int))) (e : Bool) (p : Int × List (Int × Int) → Bool) (g : FuncId) (cap : List V) (hl : l.length ≤ 4611686018427387904) (hcap : PuL cap) (hg : ∀ x ∈ l, Ct Tryd.prog g (.agg (encBill x) :: cap) (.lit (.bool (p x)))) :
   Ct Tryd.prog 51 [.sl 2 (l.map encBill) e, .fn (.func g) [] cap] (.lit (.bool (l.any p))) := by
 refine fn_enter Tryd.func51 rfl (by decide) Tryd.results51 Tryd.ntmps51 ?_ rfl (by simp (maxSteps := 1000000) -implicitDefEqProofs (disch := omega) only [go_sem]; rfl) fun base => ?_
 · simp
 repeat' (first
   | (with_reducible apply Req_intro); focus (first | omega | assumption | (simp; done))
   | with_reducible (first | apply Req_intro | refine nilT ?_ fun hn => ?_ | apply wk_draw Tryd_mixed | refine drawEnd (by kernel_rfl) ?_)
   | (with_reducible (first | apply condA_if | apply stepDG_ifN | apply stepDG_if | apply stepG_ifN | apply stepG_if)) <;> intro hb <;> (have hif := hb) <;> (try simp only [bo] at hif) <;> (try simp -implicitDefEqProofs (disch := omega) only [go_sem, hb]) <;> clear hb
   | simp (maxSteps := 1000000) -implicitDefEqProofs (disch := omega) only [go_sem])
 refine callp (IndexFunc_bill l e p g cap hl hcap hg) ?_
 try simp (maxSteps := 1000000) -implicitDefEqProofs (disch := omega) only [go_sem]
 repeat' (first
   | (with_reducible apply Req_intro); focus (first | omega | assumption | (simp; done))
   | with_reducible (first | apply Req_intro | refine nilT ?_ fun hn => ?_ | apply wk_draw Tryd_mixed | refine drawEnd (by kernel_rfl) ?_)
   | (with_reducible (first | apply condA_if | apply stepDG_ifN | apply stepDG_if | apply stepG_ifN | apply stepG_if)) <;> intro hb <;> (have hif := hb) <;> (try simp only [bo] at hif) <;> (try simp -implicitDefEqProofs (disch := omega) only [go_sem, hb]) <;> clear hb
   | simp (maxSteps := 1000000) -implicitDefEqProofs (disch := omega) only [go_sem])
 refine ret_do ?_
 rw [← idxR_any]; rfl
theorem IndexFunc_way (l : List (List Int)) (e : Bool) (p : List Int → Bool) (g : FuncId) (cap : List V) (hl : l.length ≤ 4611686018427387904) (hcap : PuL cap) (hg : ∀ x ∈ l, Ct Tryd.prog g (.sl 1 (x.map encI) false :: cap) (.lit (.bool (p x)))) :
   Ct Tryd.prog 82 [.sl 1 (l.map encW) e, .fn (.func g) [] cap] (.lit (.int .i64 (idxR l p))) := by
 refine fn_enter Tryd.func82 rfl (by decide) Tryd.results82 Tryd.ntmps82 ?_ rfl (by simp (maxSteps := 1000000) -implicitDefEqProofs (disch := omega) only [go_sem]; rfl) fun base => ?_
 · simp
 repeat' (first
   | (with_reducible apply Req_intro); focus (first | omega | assumption | (simp; done))
   | with_reducible (first | apply Req_intro | refine nilT ?_ fun hn => ?_ | apply wk_draw Tryd_mixed | refine drawEnd (by kernel_rfl) ?_)
   | (with_reducible (first | apply condA_if | apply stepDG_ifN | apply stepDG_if | apply stepG_ifN | apply stepG_if)) <;> intro hb <;> (have hif := hb) <;> (try simp only [bo] at hif) <;> (try simp -implicitDefEqProofs (disch := omega) only [go_sem, hb]) <;> clear hb
   | simp (maxSteps := 1000000) -implicitDefEqProofs (disch := omega) only [go_sem])
 refine loop_at (α := Nat) [4, 5, 8, 9, 10, 11, 12, 13, 14, 15, 16, 17, 18] (fun i => [(8, .lit (.int .i64 i))]) (fun i => i ≤ l.length ∧ ∀ x ∈ l.take i, p x = false) (fun i => l.length - i) 0 (fun x => by simp (maxSteps := 1000000) -implicitDefEqProofs (disch := omega) only [go_sem]; rfl) ?_ ?_ fun x hx => ?_
 · exact weak_do []
 · simp
 obtain ⟨hi, hp⟩ := hx
 repeat' (first
   | (with_reducible apply Req_intro); focus (first | omega | assumption | (simp; done))
   | with_reducible (first | apply Req_intro | refine nilT ?_ fun hn => ?_ | apply wk_draw Tryd_mixed | refine drawEnd (by kernel_rfl) ?_)
   | (with_reducible (first | apply condA_if | apply stepDG_ifN | apply stepDG_if | apply stepG_ifN | apply stepG_if)) <;> intro hb <;> (have hif := hb) <;> (try simp only [bo] at hif) <;> (try simp -implicitDefEqProofs (disch := omega) only [go_sem, hb]) <;> clear hb
   | simp (maxSteps := 1000000) -implicitDefEqProofs (disch := omega) only [go_sem])
 · have hif' : x < l.length := hif
   refine callp (hg (l.getD x default) (getD_mem hif')) ?_
   try simp (maxSteps := 1000000) -implicitDefEqProofs (disch := omega) only [go_sem]
   repeat' (first
     | (with_reducible apply Req_intro); focus (first | omega | assumption | (simp; done))
     | with_reducible (first | apply Req_intro | refine nilT ?_ fun hn => ?_ | apply wk_draw Tryd_mixed | refine drawEnd (by kernel_rfl) ?_)
     | (with_reducible (first | apply condA_if | apply stepDG_ifN | apply stepDG_if | apply stepG_ifN | apply stepG_if)) <;> intro hb <;> (have hif := hb) <;> (try simp only [bo] at hif) <;> (try simp -implicitDefEqProofs (disch := omega) only [go_sem, hb]) <;> clear hb
     | simp (maxSteps := 1000000) -implicitDefEqProofs (disch := omega) only [go_sem])
   · refine ret_do ?_
     rw [idxR_some hif' hp hif]; rfl
   · refine nxt_w (x + 1) (weak_do []) ?_
     try dsimp only
     exact idxR_step hif' hp hif
 · refine ret_do ?_
   rw [idxR_none hif hp]; rfl
theorem ContainsFunc_way (l : List (List Int)) (e : Bool) (p : List Int → Bool) (g : FuncId) (cap : List V) (hl : l.length ≤ 4611686018427387904) (hcap : PuL cap) (hg : ∀ x ∈ l, Ct Tryd.prog g (.sl 1 (x.map encI) false :: cap) (.lit (.bool (p x)))) :
   Ct Tryd.prog 61 [.sl 1 (l.map encW) e, .fn (.func g) [] cap] (.lit (.bool (l.any p))) := by
 refine fn_enter Tryd.func61 rfl (by decide) Tryd.results61 Tryd.ntmps61 ?_ rfl (by simp (maxSteps := 1000000) -implicitDefEqProofs (disch := omega) only [go_sem]; rfl) fun base => ?_
 · simp
 repeat' (first
   | (with_reducible apply Req_intro); focus (first | omega | assumption | (simp; done))
   | with_reducible (first | apply Req_intro | refine nilT ?_ fun hn => ?_ | apply wk_draw Tryd_mixed | refine drawEnd (by kernel_rfl) ?_)
   | (with_reducible (first | apply condA_if | apply stepDG_ifN | apply stepDG_if | apply stepG_ifN | apply stepG_if)) <;> intro hb <;> (have hif := hb) <;> (try simp only [bo] at hif) <;> (try simp -implicitDefEqProofs (disch := omega) only [go_sem, hb]) <;> clear hb
   | simp (maxSteps := 1000000) -implicitDefEqProofs (disch := omega) only [go_sem])
 refine callp (IndexFunc_way l e p g cap hl hcap hg) ?_
 try simp (maxSteps := 1000000) -implicitDefEqProofs (disch := omega) only [go_sem]
 repeat' (first
   | (with_reducible apply Req_intro); focus (first | omega | assumption | (simp; done))
   | with_reducible (first | apply Req_intro | refine nilT ?_ fun hn => ?_ | apply wk_draw Tryd_mixed | refine drawEnd (by kernel_rfl) ?_)
   | (with_reducible (first | apply condA_if | apply stepDG_ifN | apply stepDG_if | apply stepG_ifN | apply stepG_if)) <;> intro hb <;> (have hif := hb) <;> (try simp only [bo] at hif) <;> (try simp -implicitDefEqProofs (disch := omega) only [go_sem, hb]) <;> clear hb
   | simp (maxSteps := 1000000) -implicitDefEqProofs (disch := omega) only [go_sem])
 refine ret_do ?_
 rw [← idxR_any]; rfl
theorem IndexFunc_ways (l : List (List (List Int))) (e : Bool) (p : List (List Int) → Bool) (g : FuncId) (cap : List V) (hl : l.length ≤ 4611686018427387904) (hcap : PuL cap) (hg : ∀ x ∈ l, Ct Tryd.prog g (.sl 1 (x.map encW) false :: cap) (.lit (.bool (p x)))) :
   Ct Tryd.prog 94 [.sl 1 (l.map encWs) e, .fn (.func g) [] cap] (.lit (.int .i64 (idxR l p))) := by
 refine fn_enter Tryd.func94 rfl (by decide) Tryd.results94 Tryd.ntmps94 ?_ rfl (by simp (maxSteps := 1000000) -implicitDefEqProofs (disch := omega) only [go_sem]; rfl) fun base => ?_
 · simp
 repeat' (first
   | (with_reducible apply Req_intro); focus (first | omega | assumption | (simp; done))
   | with_reducible (first | apply Req_intro | refine nilT ?_ fun hn => ?_ | apply wk_draw Tryd_mixed | refine drawEnd (by kernel_rfl) ?_)
   | (with_reducible (first | apply condA_if | apply stepDG_ifN | apply stepDG_if | apply stepG_ifN | apply stepG_if)) <;> intro hb <;> (have hif := hb) <;> (try simp only [bo] at hif) <;> (try simp -implicitDefEqProofs (disch := omega) only [go_sem, hb]) <;> clear hb
   | simp (maxSteps := 1000000) -implicitDefEqProofs (disch := omega) only [go_sem])
 refine loop_at (α := Nat) [4, 5, 8, 9, 10, 11, 12, 13, 14, 15, 16, 17, 18] (fun i => [(8, .lit (.int .i64 i))]) (fun i => i ≤ l.length ∧ ∀ x ∈ l.take i, p x = false) (fun i => l.length - i) 0 (fun x => by simp (maxSteps := 1000000) -implicitDefEqProofs (disch := omega) only [go_sem]; rfl) ?_ ?_ fun x hx => ?_
 · exact weak_do []
 · simp
 obtain ⟨hi, hp⟩ := hx
 repeat' (first
   | (with_reducible apply Req_intro); focus (first | omega | assumption | (simp; done))
   | with_reducible (first | apply Req_intro | refine nilT ?_ fun hn => ?_ | apply wk_draw Tryd_mixed | refine drawEnd (by kernel_rfl) ?_)
   | (with_reducible (first | apply condA_if | apply stepDG_ifN | apply stepDG_if | apply stepG_ifN | apply stepG_if)) <;> intro hb <;> (have hif := hb) <;> (try simp only [bo] at hif) <;> (try simp -implicitDefEqProofs (disch := omega) only [go_sem, hb]) <;> clear hb
   | simp (maxSteps := 1000000) -implicitDefEqProofs (disch := omega) only [go_sem])
 · have hif' : x < l.length := hif
   refine callp (hg (l.getD x default) (getD_mem hif')) ?_
   try simp (maxSteps := 1000000) -implicitDefEqProofs (disch := omega) only [go_sem]
   repeat' (first
     | (with_reducible apply Req_intro); focus (first | omega | assumption | (simp; done))
     | with_reducible (first | apply Req_intro | refine nilT ?_ fun hn => ?_ | apply wk_draw Tryd_mixed | refine drawEnd (by kernel_rfl) ?_)
     | (with_reducible (first | apply condA_if | apply stepDG_ifN | apply stepDG_if | apply stepG_ifN | apply stepG_if)) <;> intro hb <;> (have hif := hb) <;> (try simp only [bo] at hif) <;> (try simp -implicitDefEqProofs (disch := omega) only [go_sem, hb]) <;> clear hb
     | simp (maxSteps := 1000000) -implicitDefEqProofs (disch := omega) only [go_sem])
   · refine ret_do ?_
     rw [idxR_some hif' hp hif]; rfl
   · refine nxt_w (x + 1) (weak_do []) ?_
     try dsimp only
     exact idxR_step hif' hp hif
 · refine ret_do ?_
   rw [idxR_none hif hp]; rfl
theorem ContainsFunc_ways (l : List (List (List Int))) (e : Bool) (p : List (List Int) → Bool) (g : FuncId) (cap : List V) (hl : l.length ≤ 4611686018427387904) (hcap : PuL cap) (hg : ∀ x ∈ l, Ct Tryd.prog g (.sl 1 (x.map encW) false :: cap) (.lit (.bool (p x)))) :
   Ct Tryd.prog 85 [.sl 1 (l.map encWs) e, .fn (.func g) [] cap] (.lit (.bool (l.any p))) := by
 refine fn_enter Tryd.func85 rfl (by decide) Tryd.results85 Tryd.ntmps85 ?_ rfl (by simp (maxSteps := 1000000) -implicitDefEqProofs (disch := omega) only [go_sem]; rfl) fun base => ?_
 · simp
 repeat' (first
   | (with_reducible apply Req_intro); focus (first | omega | assumption | (simp; done))
   | with_reducible (first | apply Req_intro | refine nilT ?_ fun hn => ?_ | apply wk_draw Tryd_mixed | refine drawEnd (by kernel_rfl) ?_)
   | (with_reducible (first | apply condA_if | apply stepDG_ifN | apply stepDG_if | apply stepG_ifN | apply stepG_if)) <;> intro hb <;> (have hif := hb) <;> (try simp only [bo] at hif) <;> (try simp -implicitDefEqProofs (disch := omega) only [go_sem, hb]) <;> clear hb
   | simp (maxSteps := 1000000) -implicitDefEqProofs (disch := omega) only [go_sem])
 refine callp (IndexFunc_ways l e p g cap hl hcap hg) ?_
 try simp (maxSteps := 1000000) -implicitDefEqProofs (disch := omega) only [go_sem]
 repeat' (first
   | (with_reducible apply Req_intro); focus (first | omega | assumption | (simp; done))
   | with_reducible (first | apply Req_intro | refine nilT ?_ fun hn => ?_ | apply wk_draw Tryd_mixed | refine drawEnd (by kernel_rfl) ?_)
   | (with_reducible (first | apply condA_if | apply stepDG_ifN | apply stepDG_if | apply stepG_ifN | apply stepG_if)) <;> intro hb <;> (have hif := hb) <;> (try simp only [bo] at hif) <;> (try simp -implicitDefEqProofs (disch := omega) only [go_sem, hb]) <;> clear hb
   | simp (maxSteps := 1000000) -implicitDefEqProofs (disch := omega) only [go_sem])
 refine ret_do ?_
 rw [← idxR_any]; rfl
theorem within1_spec (n a b : Int) : Ct Tryd.prog 77 [.lit (.int .i64 n), .rp [.lit (.int .i64 a)], .rp [.lit (.int .i64 b)]] (.lit (.bool (decide (n < a) || decide (b < n)))) := by
 refine fn_enter Tryd.func77 rfl (by decide) Tryd.results77 Tryd.ntmps77 ?_ rfl (by simp (maxSteps := 1000000) -implicitDefEqProofs (disch := omega) only [go_sem]; rfl) fun base => ?_
 · simp
 repeat' (first
   | (with_reducible apply Req_intro); focus (first | omega | assumption | (simp; done))
   | with_reducible (first | apply Req_intro | refine nilT ?_ fun hn => ?_ | apply wk_draw Tryd_mixed | refine drawEnd (by kernel_rfl) ?_)
   | (with_reducible (first | apply condA_if | apply stepDG_ifN | apply stepDG_if | apply stepG_ifN | apply stepG_if)) <;> intro hb <;> (have hif := hb) <;> (try simp only [bo] at hif) <;> (try simp -implicitDefEqProofs (disch := omega) only [go_sem, hb]) <;> clear hb
   | simp (maxSteps := 1000000) -implicitDefEqProofs (disch := omega) only [go_sem])
 · refine ret_do ?_
   rfl
 · refine ret_do ?_
   rfl
def inR' (a b : Int) (n : Int) : Bool := decide (a ≤ n) && decide (n ≤ b)
theorem any_out (a b : Int) (l : List Int) : (!l.any fun n => decide (n < a) || decide (b < n)) = l.all (inR' a b) := by
 rw [List.not_any_eq_all_not]
 congr 1; funext n
 simp only [inR', Bool.not_or, ← decide_not, Int.not_lt]
theorem within_spec (a b : Int) (l : List Int) (e : Bool) (hl : l.length ≤ 4611686018427387904) : Ct Tryd.prog 48 [.lit (.int .i64 a), .lit (.int .i64 b), .sl 1 (l.map encI) e] (.lit (.bool (l.all (inR' a b)))) := by
 refine fn_enter Tryd.func48 rfl (by decide) Tryd.results48 Tryd.ntmps48 ?_ rfl (by simp (maxSteps := 1000000) -implicitDefEqProofs (disch := omega) only [go_sem]; rfl) fun base => ?_
 · simp
 repeat' (first
   | (with_reducible apply Req_intro); focus (first | omega | assumption | (simp; done))
   | with_reducible (first | apply Req_intro | refine nilT ?_ fun hn => ?_ | apply wk_draw Tryd_mixed | refine drawEnd (by kernel_rfl) ?_)
   | (with_reducible (first | apply condA_if | apply stepDG_ifN | apply stepDG_if | apply stepG_ifN | apply stepG_if)) <;> intro hb <;> (have hif := hb) <;> (try simp only [bo] at hif) <;> (try simp -implicitDefEqProofs (disch := omega) only [go_sem, hb]) <;> clear hb
   | simp (maxSteps := 1000000) -implicitDefEqProofs (disch := omega) only [go_sem])
 refine callc (ContainsFunc_int l e (fun n => decide (n < a) || decide (b < n)) 77 [.rp [.lit (.int .i64 a)], .rp [.lit (.int .i64 b)]] hl (by first | assumption | (simp only [go_sem] <;> assumption) | (simp only [go_sem, *]; done) | (simp [go_sem]; done)) (fun n _ => within1_spec n a b)) ?_
 try simp (maxSteps := 1000000) -implicitDefEqProofs (disch := omega) only [go_sem]
 repeat' (first
   | (with_reducible apply Req_intro); focus (first | omega | assumption | (simp; done))
   | with_reducible (first | apply Req_intro | refine nilT ?_ fun hn => ?_ | apply wk_draw Tryd_mixed | refine drawEnd (by kernel_rfl) ?_)
   | (with_reducible (first | apply condA_if | apply stepDG_ifN | apply stepDG_if | apply stepG_ifN | apply stepG_if)) <;> intro hb <;> (have hif := hb) <;> (try simp only [bo] at hif) <;> (try simp -implicitDefEqProofs (disch := omega) only [go_sem, hb]) <;> clear hb
   | simp (maxSteps := 1000000) -implicitDefEqProofs (disch := omega) only [go_sem])
 refine ret_do ?_
 rw [any_out]; rfl
def spanOk (m : Int) (s : Int × Int) : Bool := decide (s.1 ≤ s.2) && inR' 0 m s.1 && inR' 0 m s.2
theorem areSpans1_spec (s : Int × Int) (m : Int) : Ct Tryd.prog 75 [.agg (encS s), .rp [.lit (.int .i64 m)]] (.lit (.bool (!spanOk m s))) := by
 refine fn_enter Tryd.func75 rfl (by decide) Tryd.results75 Tryd.ntmps75 ?_ rfl (by simp (maxSteps := 1000000) -implicitDefEqProofs (disch := omega) only [go_sem]; rfl) fun base => ?_
 · simp
 repeat' (first
   | (with_reducible apply Req_intro); focus (first | omega | assumption | (simp; done))
   | with_reducible (first | apply Req_intro | refine nilT ?_ fun hn => ?_ | apply wk_draw Tryd_mixed | refine drawEnd (by kernel_rfl) ?_)
   | (with_reducible (first | apply condA_if | apply stepDG_ifN | apply stepDG_if | apply stepG_ifN | apply stepG_if)) <;> intro hb <;> (have hif := hb) <;> (try simp only [bo] at hif) <;> (try simp -implicitDefEqProofs (disch := omega) only [go_sem, hb]) <;> clear hb
   | simp (maxSteps := 1000000) -implicitDefEqProofs (disch := omega) only [go_sem])
 · refine ret_do ?_
   simp only [spanOk, decide_eq_false (Int.not_le.2 hif)]; rfl
 · refine callc (within_spec 0 m [s.1, s.2] _ (by simp)) ?_
   try simp (maxSteps := 1000000) -implicitDefEqProofs (disch := omega) only [go_sem]
   repeat' (first
     | (with_reducible apply Req_intro); focus (first | omega | assumption | (simp; done))
     | with_reducible (first | apply Req_intro | refine nilT ?_ fun hn => ?_ | apply wk_draw Tryd_mixed | refine drawEnd (by kernel_rfl) ?_)
     | (with_reducible (first | apply condA_if | apply stepDG_ifN | apply stepDG_if | apply stepG_ifN | apply stepG_if)) <;> intro hb <;> (have hif := hb) <;> (try simp only [bo] at hif) <;> (try simp -implicitDefEqProofs (disch := omega) only [go_sem, hb]) <;> clear hb
     | simp (maxSteps := 1000000) -implicitDefEqProofs (disch := omega) only [go_sem])
   refine ret_do ?_
   simp [spanOk, hif, retV]
theorem areSpans_spec (l : List (Int × Int)) (e : Bool) (m : Int) (hl : l.length ≤ 4611686018427387904) : Ct Tryd.prog 47 [.sl 2 (l.map encS) e, .lit (.int .i64 m)] (.lit (.bool (l.all (spanOk m)))) := by
 refine fn_enter Tryd.func47 rfl (by decide) Tryd.results47 Tryd.ntmps47 ?_ rfl (by simp (maxSteps := 1000000) -implicitDefEqProofs (disch := omega) only [go_sem]; rfl) fun base => ?_
 · simp
 repeat' (first
   | (with_reducible apply Req_intro); focus (first | omega | assumption | (simp; done))
   | with_reducible (first | apply Req_intro | refine nilT ?_ fun hn => ?_ | apply wk_draw Tryd_mixed | refine drawEnd (by kernel_rfl) ?_)
   | (with_reducible (first | apply condA_if | apply stepDG_ifN | apply stepDG_if | apply stepG_ifN | apply stepG_if)) <;> intro hb <;> (have hif := hb) <;> (try simp only [bo] at hif) <;> (try simp -implicitDefEqProofs (disch := omega) only [go_sem, hb]) <;> clear hb
   | simp (maxSteps := 1000000) -implicitDefEqProofs (disch := omega) only [go_sem])
 refine callc (ContainsFunc_Span l e (fun s => !spanOk m s) 75 [.rp [.lit (.int .i64 m)]] hl (by first | assumption | (simp only [go_sem] <;> assumption) | (simp only [go_sem, *]; done) | (simp [go_sem]; done)) (fun s _ => areSpans1_spec s m)) ?_
 try simp (maxSteps := 1000000) -implicitDefEqProofs (disch := omega) only [go_sem]
 repeat' (first
   | (with_reducible apply Req_intro); focus (first | omega | assumption | (simp; done))
   | with_reducible (first | apply Req_intro | refine nilT ?_ fun hn => ?_ | apply wk_draw Tryd_mixed | refine drawEnd (by kernel_rfl) ?_)
   | (with_reducible (first | apply condA_if | apply stepDG_ifN | apply stepDG_if | apply stepG_ifN | apply stepG_if)) <;> intro hb <;> (have hif := hb) <;> (try simp only [bo] at hif) <;> (try simp -implicitDefEqProofs (disch := omega) only [go_sem, hb]) <;> clear hb
   | simp (maxSteps := 1000000) -implicitDefEqProofs (disch := omega) only [go_sem])
 refine ret_do ?_
 rw [List.not_any_eq_all_not]; simp [retV]
end Go.Aw
end
section
set_option maxRecDepth 20000
namespace Go.Aw
open Go.RowKit Go.Proofs
abbrev Box := List (Int × Int)
abbrev Bill := Int × List (Int × Int)
def encLoad (bs : List Box) (cs : List Bill) : V := .agg [.sl 1 (bs.map encB) false, .sl 2 (cs.map encBill) false]
@[go_sem] theorem encLoad_eq (bs : List Box) (cs : List Bill) : encLoad bs cs = .agg [.sl 1 (bs.map encB) false, .sl 2 (cs.map encBill) false] := rfl
theorem Check1_spec (h : List (Int × Int)) (e : Bool) (n : Int) : Ct Tryd.prog 45 [.sl 2 (h.map encS) e, .rp [.lit (.int .i64 n)]] (.lit (.bool ((h.length : Int) != n))) := by
 refine fn_enter Tryd.func45 rfl (by decide) Tryd.results45 Tryd.ntmps45 ?_ rfl (by simp (maxSteps := 1000000) -implicitDefEqProofs (disch := omega) only [go_sem]; rfl) fun base => ?_
 · simp
 repeat' (first
   | (with_reducible apply Req_intro); focus (first | omega | assumption | (simp; done))
   | with_reducible (first | apply Req_intro | refine nilT ?_ fun hn => ?_ | apply wk_draw Tryd_mixed | refine drawEnd (by kernel_rfl) ?_)
   | (with_reducible (first | apply condA_if | apply stepDG_ifN | apply stepDG_if | apply stepG_ifN | apply stepG_if)) <;> intro hb <;> (have hif := hb) <;> (try simp only [bo] at hif) <;> (try simp -implicitDefEqProofs (disch := omega) only [go_sem, hb]) <;> clear hb
   | simp (maxSteps := 1000000) -implicitDefEqProofs (disch := omega) only [go_sem])
 refine ret_do ?_
 rfl
theorem Check2_spec (h : List (Int × Int)) (e : Bool) (m : Int) (hl : h.length ≤ 4611686018427387904) : Ct Tryd.prog 46 [.sl 2 (h.map encS) e, .lit (.int .i64 m)] (.lit (.bool (!h.all (spanOk m)))) := by
 refine fn_enter Tryd.func46 rfl (by decide) Tryd.results46 Tryd.ntmps46 ?_ rfl (by simp (maxSteps := 1000000) -implicitDefEqProofs (disch := omega) only [go_sem]; rfl) fun base => ?_
 · simp
 repeat' (first
   | (with_reducible apply Req_intro); focus (first | omega | assumption | (simp; done))
   | with_reducible (first | apply Req_intro | refine nilT ?_ fun hn => ?_ | apply wk_draw Tryd_mixed | refine drawEnd (by kernel_rfl) ?_)
   | (with_reducible (first | apply condA_if | apply stepDG_ifN | apply stepDG_if | apply stepG_ifN | apply stepG_if)) <;> intro hb <;> (have hif := hb) <;> (try simp only [bo] at hif) <;> (try simp -implicitDefEqProofs (disch := omega) only [go_sem, hb]) <;> clear hb
   | simp (maxSteps := 1000000) -implicitDefEqProofs (disch := omega) only [go_sem])
 refine callp (areSpans_spec h e m hl) ?_
 try simp (maxSteps := 1000000) -implicitDefEqProofs (disch := omega) only [go_sem]
 repeat' (first
   | (with_reducible apply Req_intro); focus (first | omega | assumption | (simp; done))
   | with_reducible (first | apply Req_intro | refine nilT ?_ fun hn => ?_ | apply wk_draw Tryd_mixed | refine drawEnd (by kernel_rfl) ?_)
   | (with_reducible (first | apply condA_if | apply stepDG_ifN | apply stepDG_if | apply stepG_ifN | apply stepG_if)) <;> intro hb <;> (have hif := hb) <;> (try simp only [bo] at hif) <;> (try simp -implicitDefEqProofs (disch := omega) only [go_sem, hb]) <;> clear hb
   | simp (maxSteps := 1000000) -implicitDefEqProofs (disch := omega) only [go_sem])
 refine ret_do ?_
 rfl
theorem Check3_spec (h : List (Int × Int)) (n : Int) : Ct Tryd.prog 50 [.agg (encB h), .rp [.fn (.func 45) [] [.rp [.lit (.int .i64 n)]]]] (.lit (.bool ((h.length : Int) != n))) := by
 refine fn_enter Tryd.func50 rfl (by decide) Tryd.results50 Tryd.ntmps50 ?_ rfl (by simp (maxSteps := 1000000) -implicitDefEqProofs (disch := omega) only [go_sem]; rfl) fun base => ?_
 · simp
 repeat' (first
   | (with_reducible apply Req_intro); focus (first | omega | assumption | (simp; done))
   | with_reducible (first | apply Req_intro | refine nilT ?_ fun hn => ?_ | apply wk_draw Tryd_mixed | refine drawEnd (by kernel_rfl) ?_)
   | (with_reducible (first | apply condA_if | apply stepDG_ifN | apply stepDG_if | apply stepG_ifN | apply stepG_if)) <;> intro hb <;> (have hif := hb) <;> (try simp only [bo] at hif) <;> (try simp -implicitDefEqProofs (disch := omega) only [go_sem, hb]) <;> clear hb
   | simp (maxSteps := 1000000) -implicitDefEqProofs (disch := omega) only [go_sem])
 refine callp (Check1_spec h _ n) ?_
 try simp (maxSteps := 1000000) -implicitDefEqProofs (disch := omega) only [go_sem]
 repeat' (first
   | (with_reducible apply Req_intro); focus (first | omega | assumption | (simp; done))
   | with_reducible (first | apply Req_intro | refine nilT ?_ fun hn => ?_ | apply wk_draw Tryd_mixed | refine drawEnd (by kernel_rfl) ?_)
   | (with_reducible (first | apply condA_if | apply stepDG_ifN | apply stepDG_if | apply stepG_ifN | apply stepG_if)) <;> intro hb <;> (have hif := hb) <;> (try simp only [bo] at hif) <;> (try simp -implicitDefEqProofs (disch := omega) only [go_sem, hb]) <;> clear hb
   | simp (maxSteps := 1000000) -implicitDefEqProofs (disch := omega) only [go_sem])
 refine ret_do ?_
 rfl
theorem Check4_spec (b : Bill) (n : Int) : Ct Tryd.prog 52 [.agg (encBill b), .rp [.fn (.func 45) [] [.rp [.lit (.int .i64 n)]]]] (.lit (.bool ((b.2.length : Int) != n))) := by
 refine fn_enter Tryd.func52 rfl (by decide) Tryd.results52 Tryd.ntmps52 ?_ rfl (by simp (maxSteps := 1000000) -implicitDefEqProofs (disch := omega) only [go_sem]; rfl) fun base => ?_
 · simp
 repeat' (first
   | (with_reducible apply Req_intro); focus (first | omega | assumption | (simp; done))
   | with_reducible (first | apply Req_intro | refine nilT ?_ fun hn => ?_ | apply wk_draw Tryd_mixed | refine drawEnd (by kernel_rfl) ?_)
   | (with_reducible (first | apply condA_if | apply stepDG_ifN | apply stepDG_if | apply stepG_ifN | apply stepG_if)) <;> intro hb <;> (have hif := hb) <;> (try simp only [bo] at hif) <;> (try simp -implicitDefEqProofs (disch := omega) only [go_sem, hb]) <;> clear hb
   | simp (maxSteps := 1000000) -implicitDefEqProofs (disch := omega) only [go_sem])
 refine callp (Check1_spec b.2 _ n) ?_
 try simp (maxSteps := 1000000) -implicitDefEqProofs (disch := omega) only [go_sem]
 repeat' (first
   | (with_reducible apply Req_intro); focus (first | omega | assumption | (simp; done))
   | with_reducible (first | apply Req_intro | refine nilT ?_ fun hn => ?_ | apply wk_draw Tryd_mixed | refine drawEnd (by kernel_rfl) ?_)
   | (with_reducible (first | apply condA_if | apply stepDG_ifN | apply stepDG_if | apply stepG_ifN | apply stepG_if)) <;> intro hb <;> (have hif := hb) <;> (try simp only [bo] at hif) <;> (try simp -implicitDefEqProofs (disch := omega) only [go_sem, hb]) <;> clear hb
   | simp (maxSteps := 1000000) -implicitDefEqProofs (disch := omega) only [go_sem])
 refine ret_do ?_
 rfl
theorem Check5_spec (h : List (Int × Int)) (hl : h.length ≤ 4611686018427387904) : Ct Tryd.prog 53 [.agg (encB h), .rp [.fn (.func 46) [] []]] (.lit (.bool (!h.all (spanOk 1000)))) := by
 refine fn_enter Tryd.func53 rfl (by decide) Tryd.results53 Tryd.ntmps53 ?_ rfl (by simp (maxSteps := 1000000) -implicitDefEqProofs (disch := omega) only [go_sem]; rfl) fun base => ?_
 · simp
 repeat' (first
   | (with_reducible apply Req_intro); focus (first | omega | assumption | (simp; done))
   | with_reducible (first | apply Req_intro | refine nilT ?_ fun hn => ?_ | apply wk_draw Tryd_mixed | refine drawEnd (by kernel_rfl) ?_)
   | (with_reducible (first | apply condA_if | apply stepDG_ifN | apply stepDG_if | apply stepG_ifN | apply stepG_if)) <;> intro hb <;> (have hif := hb) <;> (try simp only [bo] at hif) <;> (try simp -implicitDefEqProofs (disch := omega) only [go_sem, hb]) <;> clear hb
   | simp (maxSteps := 1000000) -implicitDefEqProofs (disch := omega) only [go_sem])
 refine callp (Check2_spec h _ _ hl) ?_
 try simp (maxSteps := 1000000) -implicitDefEqProofs (disch := omega) only [go_sem]
 repeat' (first
   | (with_reducible apply Req_intro); focus (first | omega | assumption | (simp; done))
   | with_reducible (first | apply Req_intro | refine nilT ?_ fun hn => ?_ | apply wk_draw Tryd_mixed | refine drawEnd (by kernel_rfl) ?_)
   | (with_reducible (first | apply condA_if | apply stepDG_ifN | apply stepDG_if | apply stepG_ifN | apply stepG_if)) <;> intro hb <;> (have hif := hb) <;> (try simp only [bo] at hif) <;> (try simp -implicitDefEqProofs (disch := omega) only [go_sem, hb]) <;> clear hb
   | simp (maxSteps := 1000000) -implicitDefEqProofs (disch := omega) only [go_sem])
 refine ret_do ?_
 rfl
theorem Check6_spec (b : Bill) (hl : b.2.length ≤ 4611686018427387904) : Ct Tryd.prog 54 [.agg (encBill b), .rp [.fn (.func 46) [] []]] (.lit (.bool (!b.2.all (spanOk 10000) || !inR' 0 8 b.1))) := by
 refine fn_enter Tryd.func54 rfl (by decide) Tryd.results54 Tryd.ntmps54 ?_ rfl (by simp (maxSteps := 1000000) -implicitDefEqProofs (disch := omega) only [go_sem]; rfl) fun base => ?_
 · simp
 repeat' (first
   | (with_reducible apply Req_intro); focus (first | omega | assumption | (simp; done))
   | with_reducible (first | apply Req_intro | refine nilT ?_ fun hn => ?_ | apply wk_draw Tryd_mixed | refine drawEnd (by kernel_rfl) ?_)
   | (with_reducible (first | apply condA_if | apply stepDG_ifN | apply stepDG_if | apply stepG_ifN | apply stepG_if)) <;> intro hb <;> (have hif := hb) <;> (try simp only [bo] at hif) <;> (try simp -implicitDefEqProofs (disch := omega) only [go_sem, hb]) <;> clear hb
   | simp (maxSteps := 1000000) -implicitDefEqProofs (disch := omega) only [go_sem])
 refine callp (Check2_spec b.2 _ _ hl) ?_
 try simp (maxSteps := 1000000) -implicitDefEqProofs (disch := omega) only [go_sem]
 repeat' (first
   | (with_reducible apply Req_intro); focus (first | omega | assumption | (simp; done))
   | with_reducible (first | apply Req_intro | refine nilT ?_ fun hn => ?_ | apply wk_draw Tryd_mixed | refine drawEnd (by kernel_rfl) ?_)
   | (with_reducible (first | apply condA_if | apply stepDG_ifN | apply stepDG_if | apply stepG_ifN | apply stepG_if)) <;> intro hb <;> (have hif := hb) <;> (try simp only [bo] at hif) <;> (try simp -implicitDefEqProofs (disch := omega) only [go_sem, hb]) <;> clear hb
   | simp (maxSteps := 1000000) -implicitDefEqProofs (disch := omega) only [go_sem])
 · refine ret_do ?_
   simp [retV, hif]
 · refine callc (within_spec 0 8 [b.1] _ (by simp)) ?_
   try simp (maxSteps := 1000000) -implicitDefEqProofs (disch := omega) only [go_sem]
   repeat' (first
     | (with_reducible apply Req_intro); focus (first | omega | assumption | (simp; done))
     | with_reducible (first | apply Req_intro | refine nilT ?_ fun hn => ?_ | apply wk_draw Tryd_mixed | refine drawEnd (by kernel_rfl) ?_)
     | (with_reducible (first | apply condA_if | apply stepDG_ifN | apply stepDG_if | apply stepG_ifN | apply stepG_if)) <;> intro hb <;> (have hif := hb) <;> (try simp only [bo] at hif) <;> (try simp -implicitDefEqProofs (disch := omega) only [go_sem, hb]) <;> clear hb
     | simp (maxSteps := 1000000) -implicitDefEqProofs (disch := omega) only [go_sem])
   refine ret_do ?_
   simp [retV, hif]
def stuffs (cs : List Bill) : Nat := (cs.getD 0 default).2.length
def checkR (bs : List Box) (cs : List Bill) : Int :=
 if 8 < bs.length ∨ 3 < cs.length then 5
 else if cs.length = 0 then 7
 else if ¬ (1 ≤ stuffs cs ∧ stuffs cs ≤ 3) then 4
 else if (bs.any fun h => (h.length : Int) != (stuffs cs : Int)) = true then 4
 else if (cs.any fun b => (b.2.length : Int) != (stuffs cs : Int)) = true then 4
 else if (bs.any fun h => !h.all (spanOk 1000)) = true then 2
 else if (cs.any fun b => !b.2.all (spanOk 10000) || !inR' 0 8 b.1) = true then 2
 else 0
theorem Check_spec (bs : List Box) (cs : List Bill) (hb : ∀ b ∈ bs, b.length ≤ 4611686018427387904) (hc : ∀ c ∈ cs, c.2.length ≤ 4611686018427387904) : Ct Tryd.prog 17 [encLoad bs cs] (.lit (.int .i64 (checkR bs cs))) := by
 refine fn_enter Tryd.func17 rfl (by decide) Tryd.results17 Tryd.ntmps17 ?_ rfl (by simp (maxSteps := 1000000) -implicitDefEqProofs (disch := omega) only [go_sem]; rfl) fun base => ?_
 · simp
 repeat' (first
   | (with_reducible apply Req_intro); focus (first | omega | assumption | (simp; done))
   | with_reducible (first | apply Req_intro | refine nilT ?_ fun hn => ?_ | apply wk_draw Tryd_mixed | refine drawEnd (by kernel_rfl) ?_)
   | (with_reducible (first | apply condA_if | apply stepDG_ifN | apply stepDG_if | apply stepG_ifN | apply stepG_if)) <;> intro hb <;> (have hif := hb) <;> (try simp only [bo] at hif) <;> (try simp -implicitDefEqProofs (disch := omega) only [go_sem, hb]) <;> clear hb
   | simp (maxSteps := 1000000) -implicitDefEqProofs (disch := omega) only [go_sem])
 · refine ret_do ?_
   have : 8 < bs.length := by omega
   simp [retV, checkR, this]
 · refine ret_do ?_
   have : 3 < cs.length := by omega
   simp [retV, checkR, this]
 · refine ret_do ?_
   have : cs = [] := List.eq_nil_of_length_eq_zero (by omega)
   subst this
   have : ¬ 8 < bs.length := by omega
   simp [retV, checkR, this]
 have h1 : ¬ 8 < bs.length := by omega
 have h2 : ¬ 3 < cs.length := by omega
 have h3 : ¬ cs.length = 0 := by omega
 refine callc (within_spec 1 3 [((cs.getD 0 default).2.length : Int)] _ (by simp)) ?_
 try simp (maxSteps := 1000000) -implicitDefEqProofs (disch := omega) only [go_sem]
 repeat' (first
   | (with_reducible apply Req_intro); focus (first | omega | assumption | (simp; done))
   | with_reducible (first | apply Req_intro | refine nilT ?_ fun hn => ?_ | apply wk_draw Tryd_mixed | refine drawEnd (by kernel_rfl) ?_)
   | (with_reducible (first | apply condA_if | apply stepDG_ifN | apply stepDG_if | apply stepG_ifN | apply stepG_if)) <;> intro hb <;> (have hif := hb) <;> (try simp only [bo] at hif) <;> (try simp -implicitDefEqProofs (disch := omega) only [go_sem, hb]) <;> clear hb
   | simp (maxSteps := 1000000) -implicitDefEqProofs (disch := omega) only [go_sem])
 · refine ret_do ?_
   have h4 : ¬ (1 ≤ stuffs cs ∧ stuffs cs ≤ 3) := by
     simp only [List.all_cons, List.all_nil, inR', Bool.and_true, Bool.and_eq_false_imp, decide_eq_true_eq, decide_eq_false_iff_not] at hif
     unfold stuffs; omega
   simp only [checkR, retV]
   rw [if_neg (by omega), if_neg h3, if_pos h4]
 have h4 : 1 ≤ stuffs cs ∧ stuffs cs ≤ 3 := by
   simp only [List.all_cons, List.all_nil, inR', Bool.and_true, Bool.and_eq_true, decide_eq_true_eq] at hif
   unfold stuffs; omega
 clear hif
 refine callc (ContainsFunc_box bs _ (fun h => (h.length : Int) != (stuffs cs : Int)) 50 [.rp [.fn (.func 45) [] [.rp [.lit (.int .i64 (stuffs cs : Int))]]]] (by omega) (by first | assumption | (simp only [go_sem] <;> assumption) | (simp only [go_sem, *]; done) | (simp [go_sem]; done)) (fun h _ => Check3_spec h _)) ?_
 try simp (maxSteps := 1000000) -implicitDefEqProofs (disch := omega) only [go_sem]
 repeat' (first
   | (with_reducible apply Req_intro); focus (first | omega | assumption | (simp; done))
   | with_reducible (first | apply Req_intro | refine nilT ?_ fun hn => ?_ | apply wk_draw Tryd_mixed | refine drawEnd (by kernel_rfl) ?_)
   | (with_reducible (first | apply condA_if | apply stepDG_ifN | apply stepDG_if | apply stepG_ifN | apply stepG_if)) <;> intro hb <;> (have hif := hb) <;> (try simp only [bo] at hif) <;> (try simp -implicitDefEqProofs (disch := omega) only [go_sem, hb]) <;> clear hb
   | simp (maxSteps := 1000000) -implicitDefEqProofs (disch := omega) only [go_sem])
 · refine ret_do ?_
   simp only [checkR, retV]
   rw [if_neg (by omega), if_neg h3, if_neg (fun h => h h4), if_pos hif]
 have h5 := hif; clear hif
 refine callc (ContainsFunc_bill cs _ (fun h => (h.2.length : Int) != (stuffs cs : Int)) 52 [.rp [.fn (.func 45) [] [.rp [.lit (.int .i64 (stuffs cs : Int))]]]] (by omega) (by first | assumption | (simp only [go_sem] <;> assumption) | (simp only [go_sem, *]; done) | (simp [go_sem]; done)) (fun h _ => Check4_spec h _)) ?_
 try simp (maxSteps := 1000000) -implicitDefEqProofs (disch := omega) only [go_sem]
 repeat' (first
   | (with_reducible apply Req_intro); focus (first | omega | assumption | (simp; done))
   | with_reducible (first | apply Req_intro | refine nilT ?_ fun hn => ?_ | apply wk_draw Tryd_mixed | refine drawEnd (by kernel_rfl) ?_)
   | (with_reducible (first | apply condA_if | apply stepDG_ifN | apply stepDG_if | apply stepG_ifN | apply stepG_if)) <;> intro hb <;> (have hif := hb) <;> (try simp only [bo] at hif) <;> (try simp -implicitDefEqProofs (disch := omega) only [go_sem, hb]) <;> clear hb
   | simp (maxSteps := 1000000) -implicitDefEqProofs (disch := omega) only [go_sem])
 · refine ret_do ?_
   simp only [checkR, retV]
   rw [if_neg (by omega), if_neg h3, if_neg (fun h => h h4), if_neg (by rw [h5]; decide), if_pos hif]
 have h6 := hif; clear hif
 refine callc (ContainsFunc_box bs _ (fun h => !h.all (spanOk 1000)) 53 [.rp [.fn (.func 46) [] []]] (by omega) (by first | assumption | (simp only [go_sem] <;> assumption) | (simp only [go_sem, *]; done) | (simp [go_sem]; done)) (fun h hh => Check5_spec h (hb h hh))) ?_
 try simp (maxSteps := 1000000) -implicitDefEqProofs (disch := omega) only [go_sem]
 repeat' (first
   | (with_reducible apply Req_intro); focus (first | omega | assumption | (simp; done))
   | with_reducible (first | apply Req_intro | refine nilT ?_ fun hn => ?_ | apply wk_draw Tryd_mixed | refine drawEnd (by kernel_rfl) ?_)
   | (with_reducible (first | apply condA_if | apply stepDG_ifN | apply stepDG_if | apply stepG_ifN | apply stepG_if)) <;> intro hb <;> (have hif := hb) <;> (try simp only [bo] at hif) <;> (try simp -implicitDefEqProofs (disch := omega) only [go_sem, hb]) <;> clear hb
   | simp (maxSteps := 1000000) -implicitDefEqProofs (disch := omega) only [go_sem])
 · refine ret_do ?_
   simp only [checkR, retV]
   rw [if_neg (by omega), if_neg h3, if_neg (fun h => h h4), if_neg (by rw [h5]; decide), if_neg (by rw [h6]; decide), if_pos hif]
 have h7 := hif; clear hif
 refine callc (ContainsFunc_bill cs _ (fun b => !b.2.all (spanOk 10000) || !inR' 0 8 b.1) 54 [.rp [.fn (.func 46) [] []]] (by omega) (by first | assumption | (simp only [go_sem] <;> assumption) | (simp only [go_sem, *]; done) | (simp [go_sem]; done)) (fun h hh => Check6_spec h (hc h hh))) ?_
 try simp (maxSteps := 1000000) -implicitDefEqProofs (disch := omega) only [go_sem]
 repeat' (first
   | (with_reducible apply Req_intro); focus (first | omega | assumption | (simp; done))
   | with_reducible (first | apply Req_intro | refine nilT ?_ fun hn => ?_ | apply wk_draw Tryd_mixed | refine drawEnd (by kernel_rfl) ?_)
   | (with_reducible (first | apply condA_if | apply stepDG_ifN | apply stepDG_if | apply stepG_ifN | apply stepG_if)) <;> intro hb <;> (have hif := hb) <;> (try simp only [bo] at hif) <;> (try simp -implicitDefEqProofs (disch := omega) only [go_sem, hb]) <;> clear hb
   | simp (maxSteps := 1000000) -implicitDefEqProofs (disch := omega) only [go_sem])
 · refine ret_do ?_
   simp only [checkR, retV]
   rw [if_neg (by omega), if_neg h3, if_neg (fun h => h h4), if_neg (by rw [h5]; decide), if_neg (by rw [h6]; decide), if_neg (by rw [h7]; decide), if_pos hif]
 · refine ret_do ?_
   simp only [checkR, retV]
   rw [if_neg (by omega), if_neg h3, if_neg (fun h => h h4), if_neg (by rw [h5]; decide), if_neg (by rw [h6]; decide), if_neg (by rw [h7]; decide), if_neg (by rw [hif]; decide)]
end Go.Aw
end
section
set_option maxRecDepth 20000
namespace Go.Aw
open Go.RowKit Go.Proofs
structure Sums where
 a : Int × Int
 b : Int × Int
 c : Int × Int
 deriving DecidableEq
instance : Inhabited Sums := ⟨⟨(0, 0), (0, 0), (0, 0)⟩⟩
def Sums.get (s : Sums) : Nat → Int × Int
 | 0 => s.a
 | 1 => s.b
 | _ => s.c
def Sums.set (s : Sums) (k : Nat) (v : Int × Int) : Sums := match k with
 | 0 => { s with a := v }
 | 1 => { s with b := v }
 | _ => { s with c := v }
def encSums (s : Sums) : List V := encS s.a ++ encS s.b ++ encS s.c
def restS (s : Sums) (k : Nat) : List V := (encSums s).drop (k * 2 + 2)
theorem k3 {k : Nat} (h : k < 3) : k = 0 ∨ k = 1 ∨ k = 2 := by omega
@[go_sem] theorem encSums_len (s : Sums) : (encSums s).length = 6 := rfl
@[go_sem] theorem encSums_drop (s : Sums) (k : Nat) (h : k < 3) : (encSums s).drop (k * 2) = .lit (.int .i64 (s.get k).1) :: .lit (.int .i64 (s.get k).2) :: restS s k := by
 rcases k3 h with rfl | rfl | rfl <;> rfl
@[go_sem] theorem encSums_drop1 (s : Sums) (k : Nat) (h : k < 3) : (encSums s).drop (k * 2 + 1) = .lit (.int .i64 (s.get k).2) :: restS s k := by
 rcases k3 h with rfl | rfl | rfl <;> rfl
@[go_sem] theorem encSums_drop1' (s : Sums) (k : Nat) (h : k < 3) : (encSums s).drop (1 + k * 2) = .lit (.int .i64 (s.get k).2) :: restS s k := by
 rcases k3 h with rfl | rfl | rfl <;> rfl
@[go_sem] theorem drop_one_add (a : V) (l : List V) (n : Nat) : (a :: l).drop (1 + n) = l.drop n := by rw [Nat.add_comm]; rfl
@[go_sem] theorem encSums_splice (s : Sums) (k : Nat) (x y : Int) (h : k < 3) : splice (encSums s) (k * 2) [.lit (.int .i64 x), .lit (.int .i64 y)] = encSums (s.set k (x, y)) := by
 rcases k3 h with rfl | rfl | rfl <;> rfl
@[go_sem, simp] theorem encSums_cell (s : Sums) : (∀ c ∈ encSums s, c.cell = true) = True := by
 simp [encSums, encS, V.cell]
@[go_sem] theorem encSums_drop6 (s : Sums) : (encSums s).drop 6 = [] := rfl
@[go_sem] theorem encSums_take (s : Sums) : (encSums s).take 6 = encSums s := rfl
@[go_sem] theorem encSums_take' (s : Sums) (r : List V) : (encSums s ++ r).take 6 = encSums s := by
 rw [List.take_append_of_le_length (by rw [encSums_len]; exact Nat.le_refl _)]; rfl
@[go_sem] theorem encSums_pu (s : Sums) : PuL (encSums s) = True := by simp [encSums, encS, PuL]
def addS (s h : Int × Int) : Int × Int := (s.1 + h.1, s.2 + h.2)
def plusR (s : Sums) (held : List (Int × Int)) : Sums := match held with
 | [] => s
 | [x] => ⟨addS s.a x, s.b, s.c⟩
 | [x, y] => ⟨addS s.a x, addS s.b y, s.c⟩
 | x :: y :: z :: _ => ⟨addS s.a x, addS s.b y, addS s.c z⟩
theorem plusR_get (s : Sums) (held : List (Int × Int)) (k : Nat) (hk : k < held.length) (h3 : held.length ≤ 3) : (plusR s (held.take k)).get k = s.get k := by
 match held, k with
 | [], _ => simp at hk
 | [x], 0 => rfl
 | [x, y], 0 => rfl
 | [x, y], 1 => rfl
 | [x, y, z], 0 => rfl
 | [x, y, z], 1 => rfl
 | [x, y, z], 2 => rfl
 | x :: y :: z :: t :: r, _ => simp at h3
theorem plusR_step (s : Sums) (held : List (Int × Int)) (k : Nat) (hk : k < held.length) (h3 : held.length ≤ 3) : plusR s (held.take (k + 1)) = (plusR s (held.take k)).set k (addS (s.get k) (held.getD k default)) := by
 match held, k with
 | [], _ => simp at hk
 | [x], 0 => rfl
 | [x, y], 0 => rfl
 | [x, y], 1 => rfl
 | [x, y, z], 0 => rfl
 | [x, y, z], 1 => rfl
 | [x, y, z], 2 => rfl
 | x :: y :: z :: t :: r, _ => simp at h3
def SmallS (n : Int) (x : Int × Int) : Prop := -n ≤ x.1 ∧ x.1 ≤ n ∧ -n ≤ x.2 ∧ x.2 ≤ n
def Small (n : Int) (s : Sums) : Prop := SmallS n s.a ∧ SmallS n s.b ∧ SmallS n s.c
theorem Small.get {n : Int} {s : Sums} (h : Small n s) (k : Nat) : SmallS n (s.get k) := by
 rcases Nat.lt_or_ge k 2 with hk | hk
 · rcases (by omega : k = 0 ∨ k = 1) with rfl | rfl
   · exact h.1
   · exact h.2.1
 · have : s.get k = s.c := by
     match k, hk with
     | k + 2, _ => rfl
   rw [this]; exact h.2.2
theorem plus_spec (s : Sums) (held : List (Int × Int)) (e : Bool) (h3 : held.length ≤ 3) (hs : Small 1099511627776 s) (hh : ∀ x ∈ held, SmallS 1099511627776 x) :
   Ct Tryd.prog 71 [.agg (encSums s), .sl 2 (held.map encS) e] (.agg (encSums (plusR s held))) := by
 refine fn_enter Tryd.func71 rfl (by decide) Tryd.results71 Tryd.ntmps71 ?_ rfl (by simp (maxSteps := 1000000) -implicitDefEqProofs (disch := omega) only [go_sem]; rfl) fun base => ?_
 · first | assumption | (simp only [go_sem] <;> assumption) | (simp only [go_sem, *]; done) | (simp [go_sem]; done)
 repeat' (first
   | (with_reducible apply Req_intro); focus (first | omega | assumption | (simp; done))
   | with_reducible (first | apply Req_intro | refine nilT ?_ fun hn => ?_ | apply wk_draw Tryd_mixed | refine drawEnd (by kernel_rfl) ?_)
   | (with_reducible (first | apply condA_if | apply stepDG_ifN | apply stepDG_if | apply stepG_ifN | apply stepG_if)) <;> intro hb <;> (have hif := hb) <;> (try simp only [bo] at hif) <;> (try simp -implicitDefEqProofs (disch := omega) only [go_sem, hb]) <;> clear hb
   | simp (maxSteps := 1000000) -implicitDefEqProofs (disch := omega) only [go_sem])
 refine loop_rows (α := Nat) [5, 6, 9, 10, 11, 12, 13, 14, 15, 16, 17, 18, 19, 20, 21, 22, 23, 24, 25, 26, 27, 28, 29, 30, 31] (fun k => [(9, .lit (.int .i64 k))]) (fun k => [(0, some ⟨6, [encSums (plusR s (held.take k))], 112, .wr⟩), (64, some ⟨6, [encSums default], 112, .wr⟩)]) (fun k => k ≤ held.length) (fun k => held.length - k) 0 (fun x => by simp (maxSteps := 1000000) -implicitDefEqProofs (disch := omega) only [go_sem]; rfl) ?_ ?_ fun x hx => ?_
 · exact weak_do []
 · simp
 have hi := hx
 by_cases hlt : x < held.length
 · have h1 := plusR_get s held x hlt h3
   have h2 := hs.get x
   have h4 := hh _ (getD_mem hlt)
   unfold SmallS at h2 h4
   have h5 : x < 3 := by omega
   rw [← h1] at h2
   have h6 := plusR_step s held x hlt h3
   rw [← h1] at h6
   repeat' (first
     | (with_reducible apply Req_intro); focus (first | omega | assumption | (simp; done))
     | with_reducible (first | apply Req_intro | refine nilT ?_ fun hn => ?_ | apply wk_draw Tryd_mixed | refine drawEnd (by kernel_rfl) ?_)
     | (with_reducible (first | apply condA_if | apply stepDG_ifN | apply stepDG_if | apply stepG_ifN | apply stepG_if)) <;> intro hb <;> (have hif := hb) <;> (try simp only [bo] at hif) <;> (try simp -implicitDefEqProofs (disch := omega) only [go_sem, hb]) <;> clear hb
     | simp (maxSteps := 1000000) -implicitDefEqProofs (disch := omega) only [go_sem])
   · rw [show (plusR s (held.take x)).set x (((plusR s (held.take x)).get x).1 + (held.getD x default).1, ((plusR s (held.take x)).get x).2 + (held.getD x default).2) = plusR s (held.take (x + 1)) from h6.symm]
     refine nxt_w (x + 1) (weak_do []) ?_
     try dsimp only
     omega
   · omega
 · repeat' (first
     | (with_reducible apply Req_intro); focus (first | omega | assumption | (simp; done))
     | with_reducible (first | apply Req_intro | refine nilT ?_ fun hn => ?_ | apply wk_draw Tryd_mixed | refine drawEnd (by kernel_rfl) ?_)
     | (with_reducible (first | apply condA_if | apply stepDG_ifN | apply stepDG_if | apply stepG_ifN | apply stepG_if)) <;> intro hb <;> (have hif := hb) <;> (try simp only [bo] at hif) <;> (try simp -implicitDefEqProofs (disch := omega) only [go_sem, hb]) <;> clear hb
     | simp (maxSteps := 1000000) -implicitDefEqProofs (disch := omega) only [go_sem])
   · omega
   · refine ret_do ?_
     rw [List.take_of_length_le (by omega)]; rfl
structure Cart where
 boxes : Int
 sums : Sums
 deriving DecidableEq
instance : Inhabited Cart := ⟨⟨0, default⟩⟩
def encCart (c : Cart) : List V := .lit (.int .i64 c.boxes) :: encSums c.sums
@[go_sem] theorem encCart_eq (c : Cart) : encCart c = .lit (.int .i64 c.boxes) :: encSums c.sums := rfl
def mayR (c : Cart) (b : Bill) : Bool := c.boxes == b.1 && (List.range b.2.length).all fun k => decide ((b.2.getD k default).1 ≤ (c.sums.get k).2) && decide ((c.sums.get k).1 ≤ (b.2.getD k default).2)
def overR (c : Cart) (b : Bill) : Bool := decide (b.1 < c.boxes) || (List.range b.2.length).any fun k => decide ((b.2.getD k default).2 < (c.sums.get k).1)
theorem mayR_false {c : Cart} {b : Bill} {k : Nat} (hk : k < b.2.length) (h : (c.sums.get k).2 < (b.2.getD k default).1 ∨ (b.2.getD k default).2 < (c.sums.get k).1) : mayR c b = false := by
 unfold mayR
 rw [Bool.and_eq_false_iff]; right
 rw [List.all_eq_false]
 refine ⟨k, by simpa using hk, ?_⟩
 simp only [Bool.and_eq_true, decide_eq_true_eq]; omega
theorem mayR_true {c : Cart} {b : Bill} (hb : c.boxes = b.1) (h : ∀ j, j < b.2.length → (b.2.getD j default).1 ≤ (c.sums.get j).2 ∧ (c.sums.get j).1 ≤ (b.2.getD j default).2) : mayR c b = true := by
 unfold mayR
 rw [Bool.and_eq_true, beq_iff_eq, List.all_eq_true]
 refine ⟨hb, fun k hk => ?_⟩
 have := h k (by simpa using hk)
 simp only [this, decide_true, Bool.and_self]
theorem may_spec (c : Cart) (b : Bill) (h3 : b.2.length ≤ 3) : Ct Tryd.prog 96 [.agg (encCart c), .agg (encBill b)] (.lit (.bool (mayR c b))) := by
 refine fn_enter Tryd.func96 rfl (by decide) Tryd.results96 Tryd.ntmps96 ?_ rfl (by simp (maxSteps := 1000000) -implicitDefEqProofs (disch := omega) only [go_sem]; rfl) fun base => ?_
 · simp
 repeat' (first
   | (with_reducible apply Req_intro); focus (first | omega | assumption | (simp; done))
   | with_reducible (first | apply Req_intro | refine nilT ?_ fun hn => ?_ | apply wk_draw Tryd_mixed | refine drawEnd (by kernel_rfl) ?_)
   | (with_reducible (first | apply condA_if | apply stepDG_ifN | apply stepDG_if | apply stepG_ifN | apply stepG_if)) <;> intro hb <;> (have hif := hb) <;> (try simp only [bo] at hif) <;> (try simp -implicitDefEqProofs (disch := omega) only [go_sem, hb]) <;> clear hb
   | simp (maxSteps := 1000000) -implicitDefEqProofs (disch := omega) only [go_sem])
 · refine ret_do ?_
   have : mayR c b = false := by simp [mayR, hif]
   rw [this]; rfl
 refine loop_at (α := Nat) [4, 5, 6, 15, 16, 17, 18, 19, 20, 21, 22, 23, 24, 25, 26, 27, 28, 29, 30, 31, 32, 33, 34, 35, 36, 37, 38] (fun k => [(15, .lit (.int .i64 k))]) (fun k => k ≤ b.2.length ∧ ∀ j, j < k → (b.2.getD j default).1 ≤ (c.sums.get j).2 ∧ (c.sums.get j).1 ≤ (b.2.getD j default).2) (fun k => b.2.length - k) 0 (fun x => by simp (maxSteps := 1000000) -implicitDefEqProofs (disch := omega) only [go_sem]; rfl) ?_ ?_ fun x hx => ?_
 · exact weak_do []
 · exact ⟨Nat.zero_le _, fun j hj => absurd hj (Nat.not_lt_zero j)⟩
 obtain ⟨hi, hp⟩ := hx
 have heq := hif; clear hif
 repeat' (first
   | (with_reducible apply Req_intro); focus (first | omega | assumption | (simp; done))
   | with_reducible (first | apply Req_intro | refine nilT ?_ fun hn => ?_ | apply wk_draw Tryd_mixed | refine drawEnd (by kernel_rfl) ?_)
   | (with_reducible (first | apply condA_if | apply stepDG_ifN | apply stepDG_if | apply stepG_ifN | apply stepG_if)) <;> intro hb <;> (have hif := hb) <;> (try simp only [bo] at hif) <;> (try simp -implicitDefEqProofs (disch := omega) only [go_sem, hb]) <;> clear hb
   | simp (maxSteps := 1000000) -implicitDefEqProofs (disch := omega) only [go_sem])
 · refine ret_do ?_
   rw [mayR_false (k := x) (by assumption) (.inl hif)]; rfl
 · refine ret_do ?_
   rw [mayR_false (k := x) (by assumption) (.inr hif)]; rfl
 · refine nxt_w (x + 1) (weak_do []) ?_
   try dsimp only
   refine ⟨by omega, fun j hj => ?_⟩
   rcases Nat.lt_or_ge j x with h | h
   · exact hp j h
   · obtain rfl : j = x := by omega
     exact ⟨by assumption, by assumption⟩
 · refine ret_do ?_
   rw [mayR_true heq (fun j hj => hp j (by omega))]; rfl
theorem overR_true {c : Cart} {b : Bill} {k : Nat} (hk : k < b.2.length) (h : (b.2.getD k default).2 < (c.sums.get k).1) : overR c b = true := by
 unfold overR
 rw [Bool.or_eq_true]; right
 rw [List.any_eq_true]
 exact ⟨k, by simpa using hk, by simpa using h⟩
theorem overR_eq {c : Cart} {b : Bill} (h : ∀ j, j < b.2.length → (c.sums.get j).1 ≤ (b.2.getD j default).2) : overR c b = decide (b.1 < c.boxes) := by
 unfold overR
 have : ((List.range b.2.length).any fun k => decide ((b.2.getD k default).2 < (c.sums.get k).1)) = false := by
   rw [List.any_eq_false]
   intro k hk
   have := h k (by simpa using hk)
   simp only [decide_eq_true_eq]; omega
 rw [this, Bool.or_false]
theorem over_spec (c : Cart) (b : Bill) (h3 : b.2.length ≤ 3) : Ct Tryd.prog 98 [.agg (encCart c), .agg (encBill b)] (.lit (.bool (overR c b))) := by
 refine fn_enter Tryd.func98 rfl (by decide) Tryd.results98 Tryd.ntmps98 ?_ rfl (by simp (maxSteps := 1000000) -implicitDefEqProofs (disch := omega) only [go_sem]; rfl) fun base => ?_
 · simp
 repeat' (first
   | (with_reducible apply Req_intro); focus (first | omega | assumption | (simp; done))
   | with_reducible (first | apply Req_intro | refine nilT ?_ fun hn => ?_ | apply wk_draw Tryd_mixed | refine drawEnd (by kernel_rfl) ?_)
   | (with_reducible (first | apply condA_if | apply stepDG_ifN | apply stepDG_if | apply stepG_ifN | apply stepG_if)) <;> intro hb <;> (have hif := hb) <;> (try simp only [bo] at hif) <;> (try simp -implicitDefEqProofs (disch := omega) only [go_sem, hb]) <;> clear hb
   | simp (maxSteps := 1000000) -implicitDefEqProofs (disch := omega) only [go_sem])
 refine loop_at (α := Nat) [4, 5, 6, 10, 11, 12, 13, 14, 15, 16, 17, 18, 19, 20, 21, 22, 23] (fun k => [(10, .lit (.int .i64 k))]) (fun k => k ≤ b.2.length ∧ ∀ j, j < k → (c.sums.get j).1 ≤ (b.2.getD j default).2) (fun k => b.2.length - k) 0 (fun x => by simp (maxSteps := 1000000) -implicitDefEqProofs (disch := omega) only [go_sem]; rfl) ?_ ?_ fun x hx => ?_
 · exact weak_do []
 · exact ⟨Nat.zero_le _, fun j hj => absurd hj (Nat.not_lt_zero j)⟩
 obtain ⟨hi, hp⟩ := hx
 repeat' (first
   | (with_reducible apply Req_intro); focus (first | omega | assumption | (simp; done))
   | with_reducible (first | apply Req_intro | refine nilT ?_ fun hn => ?_ | apply wk_draw Tryd_mixed | refine drawEnd (by kernel_rfl) ?_)
   | (with_reducible (first | apply condA_if | apply stepDG_ifN | apply stepDG_if | apply stepG_ifN | apply stepG_if)) <;> intro hb <;> (have hif := hb) <;> (try simp only [bo] at hif) <;> (try simp -implicitDefEqProofs (disch := omega) only [go_sem, hb]) <;> clear hb
   | simp (maxSteps := 1000000) -implicitDefEqProofs (disch := omega) only [go_sem])
 · refine ret_do ?_
   rw [overR_true (k := x) (by assumption) hif]; rfl
 · refine nxt_w (x + 1) (weak_do []) ?_
   try dsimp only
   refine ⟨by omega, fun j hj => ?_⟩
   rcases Nat.lt_or_ge j x with h | h
   · exact hp j h
   · obtain rfl : j = x := by omega
     exact by assumption
 · refine ret_do ?_
   rw [overR_eq (fun j hj => hp j (by omega))]; rfl
end Go.Aw
end
section
set_option maxRecDepth 20000
namespace Go.Aw
open Go.RowKit Go.Proofs
theorem Clone_way (w : List Int) (e : Bool) (hl : w.length ≤ 1073741824) : Ct Tryd.prog 97 [.sl 1 (w.map encI) e] (.sl 1 (w.map encI) false) := by
 refine fn_enter Tryd.func97 rfl (by decide) Tryd.results97 Tryd.ntmps97 ?_ rfl (by simp (maxSteps := 1000000) -implicitDefEqProofs (disch := omega) only [go_sem]; rfl) fun base => ?_
 · first | assumption | (simp only [go_sem] <;> assumption) | (simp only [go_sem, *]; done) | (simp [go_sem]; done)
 repeat' (first
   | (with_reducible apply Req_intro); focus (first | omega | assumption | (simp; done))
   | with_reducible (first | apply Req_intro | refine nilT ?_ fun hn => ?_ | apply wk_draw Tryd_mixed | refine drawEnd (by kernel_rfl) ?_)
   | (with_reducible (first | apply condA_if | apply stepDG_ifN | apply stepDG_if | apply stepG_ifN | apply stepG_if)) <;> intro hb <;> (have hif := hb) <;> (try simp only [bo] at hif) <;> (try simp -implicitDefEqProofs (disch := omega) only [go_sem, hb]) <;> clear hb
   | simp (maxSteps := 1000000) -implicitDefEqProofs (disch := omega) only [go_sem])
 · exact retf [320] [2] [.sl 1 (w.map encI) false]
 · obtain rfl : w = [] := by simpa using hn
   exact retf [] [2] [.sl 1 [] false]
theorem Clip_way (w : List Int) (e : Bool) : Ct Tryd.prog 99 [.sl 1 (w.map encI) e] (.sl 1 (w.map encI) true) := by
 refine fn_enter Tryd.func99 rfl (by decide) Tryd.results99 Tryd.ntmps99 ?_ rfl (by simp (maxSteps := 1000000) -implicitDefEqProofs (disch := omega) only [go_sem]; rfl) fun base => ?_
 · first | assumption | (simp only [go_sem] <;> assumption) | (simp only [go_sem, *]; done) | (simp [go_sem]; done)
 repeat' (first
   | (with_reducible apply Req_intro); focus (first | omega | assumption | (simp; done))
   | with_reducible (first | apply Req_intro | refine nilT ?_ fun hn => ?_ | apply wk_draw Tryd_mixed | refine drawEnd (by kernel_rfl) ?_)
   | (with_reducible (first | apply condA_if | apply stepDG_ifN | apply stepDG_if | apply stepG_ifN | apply stepG_if)) <;> intro hb <;> (have hif := hb) <;> (try simp only [bo] at hif) <;> (try simp -implicitDefEqProofs (disch := omega) only [go_sem, hb]) <;> clear hb
   | simp (maxSteps := 1000000) -implicitDefEqProofs (disch := omega) only [go_sem])
 refine ret_do ?_
 rfl
theorem Clone_box (w : List Box) (e : Bool) (hl : w.length ≤ 1073741824) : Ct Tryd.prog 90 [.sl 1 (w.map encB) e] (.sl 1 (w.map encB) false) := by
 refine fn_enter Tryd.func90 rfl (by decide) Tryd.results90 Tryd.ntmps90 ?_ rfl (by simp (maxSteps := 1000000) -implicitDefEqProofs (disch := omega) only [go_sem]; rfl) fun base => ?_
 · first | assumption | (simp only [go_sem] <;> assumption) | (simp only [go_sem, *]; done) | (simp [go_sem]; done)
 repeat' (first
   | (with_reducible apply Req_intro); focus (first | omega | assumption | (simp; done))
   | with_reducible (first | apply Req_intro | refine nilT ?_ fun hn => ?_ | apply wk_draw Tryd_mixed | refine drawEnd (by kernel_rfl) ?_)
   | (with_reducible (first | apply condA_if | apply stepDG_ifN | apply stepDG_if | apply stepG_ifN | apply stepG_if)) <;> intro hb <;> (have hif := hb) <;> (try simp only [bo] at hif) <;> (try simp -implicitDefEqProofs (disch := omega) only [go_sem, hb]) <;> clear hb
   | simp (maxSteps := 1000000) -implicitDefEqProofs (disch := omega) only [go_sem])
 · exact retf [320] [2] [.sl 1 (w.map encB) false]
 · obtain rfl : w = [] := by simpa using hn
   exact retf [] [2] [.sl 1 [] false]
end Go.Aw
end
section
set_option maxRecDepth 20000
namespace Go.Aw
open Go.RowKit Go.Proofs
structure Carts where
 a : Cart
 b : Cart
 c : Cart
 deriving DecidableEq
instance : Inhabited Carts := ⟨⟨default, default, default⟩⟩
def Carts.get (s : Carts) : Nat → Cart
 | 0 => s.a
 | 1 => s.b
 | _ => s.c
def Carts.set (s : Carts) (k : Nat) (v : Cart) : Carts := match k with
 | 0 => { s with a := v }
 | 1 => { s with b := v }
 | _ => { s with c := v }
def encCarts (s : Carts) : List V := encCart s.a ++ encCart s.b ++ encCart s.c
def restC (s : Carts) (k : Nat) : List V := (encCarts s).drop (k * 7 + 7)
@[go_sem] theorem encCarts_len (s : Carts) : (encCarts s).length = 21 := rfl
@[go_sem] theorem encCarts_drop (s : Carts) (k : Nat) (h : k < 3) : (encCarts s).drop (k * 7) = .lit (.int .i64 (s.get k).boxes) :: (encSums (s.get k).sums ++ restC s k) := by
 rcases k3 h with rfl | rfl | rfl <;> rfl
@[go_sem] theorem encCarts_splice (s : Carts) (k : Nat) (n : Int) (h : k < 3) : splice (encCarts s) (k * 7) [.lit (.int .i64 n)] = encCarts (s.set k ⟨n, (s.get k).sums⟩) := by
 rcases k3 h with rfl | rfl | rfl <;> rfl
@[go_sem] theorem encCarts_splice1 (s : Carts) (k : Nat) (t : Sums) (h : k < 3) : splice (encCarts s) (k * 7 + 1) (encSums t) = encCarts (s.set k ⟨(s.get k).boxes, t⟩) := by
 rcases k3 h with rfl | rfl | rfl <;> rfl
@[go_sem, simp] theorem encCarts_cell (s : Carts) : (∀ c ∈ encCarts s, c.cell = true) = True := by
 simp [encCarts, encCart, encSums, encS, V.cell]
@[go_sem] theorem encCarts_take (s : Carts) : (encCarts s).take 21 = encCarts s := rfl
@[go_sem] theorem encCarts_pu (s : Carts) : PuL (encCarts s) = True := by simp [encCarts, encCart, encSums, encS, PuL]
@[go_sem] theorem restC_pu (s : Carts) (k : Nat) : PuL (restC s k) = True := by
 have : PuL (encCarts s) := by rw [encCarts_pu]; trivial
 simp only [eq_iff_iff, iff_true]
 exact fun c hc => this c (List.mem_of_mem_drop hc)
@[go_sem] theorem Carts_get_set (s : Carts) (k : Nat) (v : Cart) : (s.set k v).get k = v := by
 match k with
 | 0 => rfl
 | 1 => rfl
 | _ + 2 => rfl
@[go_sem] theorem Carts_set_set (s : Carts) (k : Nat) (v w : Cart) : (s.set k v).set k w = s.set k w := by
 match k with
 | 0 => rfl
 | 1 => rfl
 | _ + 2 => rfl
def allMay (cs : List Bill) (hv : Carts) : Bool := (List.range cs.length).all fun k => mayR (hv.get k) (cs.getD k default)
def addC (hv : Carts) (k : Nat) (b : Box) : Cart := ⟨(hv.get k).boxes + 1, plusR (hv.get k).sums b⟩
def waysG (cs : List Bill) : List Box → List Int → Carts → List (List Int)
 | [], now, hv => if allMay cs hv then [now] else []
 | b :: rest, now, hv => (List.range cs.length).flatMap fun k => if overR (addC hv k b) (cs.getD k default) then [] else waysG cs rest (now ++ [(k : Int)]) (hv.set k (addC hv k b))
def yWay (w : List Int) : List V := [.sl 1 (w.map encI) false]
@[go_sem] theorem map_snoc_I (l : List Int) (c : Int) : l.map encI ++ [[.lit (.int .i64 c)]] = (l ++ [c]).map encI := by simp [encI]
@[go_sem] theorem take_snoc_I {α : Type} (f : α → List V) (l : List α) (c : α) : ((l ++ [c]).map f).take (l.length + 1) = (l ++ [c]).map f := List.take_of_length_le (by simp)
@[go_sem] theorem yWay_eq (w : List Int) : yWay w = [.sl 1 (w.map encI) false] := rfl
def loadC (bs : List Box) (cs : List Bill) : List V := [.sl 1 (bs.map encB) false, .sl 2 (cs.map encBill) false]
@[go_sem] theorem loadC_eq (bs : List Box) (cs : List Bill) : loadC bs cs = [.sl 1 (bs.map encB) false, .sl 2 (cs.map encBill) false] := rfl
theorem ways_spec (bs : List Box) (cs : List Bill) (now : List Int) (e : Bool) (hv : Carts) : Ct Tryd.prog 86 [encLoad bs cs, .sl 1 (now.map encI) e, .agg (encCarts hv)]
   (.fn (.func 95) [] [.rp [.sl 1 (now.map encI) e], .rp (loadC bs cs), .rp (encCarts hv)]) := by
 refine fn_enter Tryd.func86 rfl (by decide) Tryd.results86 Tryd.ntmps86 ?_ rfl (by simp (maxSteps := 1000000) -implicitDefEqProofs (disch := omega) only [go_sem]; rfl) fun base => ?_
 · first | assumption | (simp only [go_sem] <;> assumption) | (simp only [go_sem, *]; done) | (simp [go_sem]; done)
 repeat' (first
   | (with_reducible apply Req_intro); focus (first | omega | assumption | (simp; done))
   | with_reducible (first | apply Req_intro | refine nilT ?_ fun hn => ?_ | apply wk_draw Tryd_mixed | refine drawEnd (by kernel_rfl) ?_)
   | (with_reducible (first | apply condA_if | apply stepDG_ifN | apply stepDG_if | apply stepG_ifN | apply stepG_if)) <;> intro hb <;> (have hif := hb) <;> (try simp only [bo] at hif) <;> (try simp -implicitDefEqProofs (disch := omega) only [go_sem, hb]) <;> clear hb
   | simp (maxSteps := 1000000) -implicitDefEqProofs (disch := omega) only [go_sem])
 exact retf [0, 64, 128] [6] [.fn (.func 95) [] [.rp [.sl 1 (now.map encI) e], .rp (loadC bs cs), .rp (encCarts hv)]]
theorem allMay_false {cs : List Bill} {hv : Carts} {k : Nat} (hk : k < cs.length) (h : mayR (hv.get k) (cs.getD k default) = false) : allMay cs hv = false := by
 unfold allMay
 rw [List.all_eq_false]
 exact ⟨k, by simpa using hk, by rw [h]; decide⟩
theorem allMay_true {cs : List Bill} {hv : Carts} (h : ∀ k, k < cs.length → mayR (hv.get k) (cs.getD k default) = true) : allMay cs hv = true := by
 unfold allMay
 rw [List.all_eq_true]
 exact fun k hk => h k (by simpa using hk)
theorem ways1_nil (bs : List Box) (cs : List Bill) (now : List Int) (e : Bool) (hv : Carts) (hl : now.length = bs.length) (hb : bs.length ≤ 1073741824) (hc : cs.length ≤ 3) (hs : ∀ c ∈ cs, c.2.length ≤ 3) :
   It Tryd.prog 95 [.rp [.sl 1 (now.map encI) e], .rp (loadC bs cs), .rp (encCarts hv)] ((if allMay cs hv then [now] else []).map yWay) := by
 refine it_enter Tryd.func95 rfl (by decide) Tryd.results95 Tryd.ntmps95 ?_ rfl (fun l => by simp (maxSteps := 1000000) -implicitDefEqProofs (disch := omega) only [go_sem]; rfl) fun base l => ?_
 · first | assumption | (simp only [go_sem] <;> assumption) | (simp only [go_sem, *]; done) | (simp [go_sem]; done)
 repeat' (first
   | (with_reducible apply Req_intro); focus (first | omega | assumption | (simp; done))
   | with_reducible (first | apply Req_intro | refine nilT ?_ fun hn => ?_ | apply wk_draw Tryd_mixed | refine drawEnd (by kernel_rfl) ?_)
   | (with_reducible (first | apply condA_if | apply stepDG_ifN | apply stepDG_if | apply stepG_ifN | apply stepG_if)) <;> intro hb <;> (have hif := hb) <;> (try simp only [bo] at hif) <;> (try simp -implicitDefEqProofs (disch := omega) only [go_sem, hb]) <;> clear hb
   | simp (maxSteps := 1000000) -implicitDefEqProofs (disch := omega) only [go_sem])
 · refine loop_at (α := Nat) [5, 6, 22, 23, 24, 25, 26, 27, 28, 29, 30, 31, 32, 33] (fun k => [(22, .lit (.int .i64 k))]) (fun k => k ≤ cs.length ∧ ∀ j, j < k → mayR (hv.get j) (cs.getD j default) = true) (fun k => cs.length - k) 0 (fun x => by simp (maxSteps := 1000000) -implicitDefEqProofs (disch := omega) only [go_sem]; rfl) ?_ ?_ fun x hx => ?_
   · exact weak_do []
   · exact ⟨Nat.zero_le _, fun j hj => absurd hj (Nat.not_lt_zero j)⟩
   obtain ⟨hi, hp⟩ := hx
   clear hif
   repeat' (first
     | (with_reducible apply Req_intro); focus (first | omega | assumption | (simp; done))
     | with_reducible (first | apply Req_intro | refine nilT ?_ fun hn => ?_ | apply wk_draw Tryd_mixed | refine drawEnd (by kernel_rfl) ?_)
     | (with_reducible (first | apply condA_if | apply stepDG_ifN | apply stepDG_if | apply stepG_ifN | apply stepG_if)) <;> intro hb <;> (have hif := hb) <;> (try simp only [bo] at hif) <;> (try simp -implicitDefEqProofs (disch := omega) only [go_sem, hb]) <;> clear hb
     | simp (maxSteps := 1000000) -implicitDefEqProofs (disch := omega) only [go_sem])
   · have hlt : x < cs.length := hif
     have h3 := hs _ (getD_mem hlt)
     refine calld (may_spec (hv.get x) (cs.getD x default) h3) ?_
     try simp (maxSteps := 1000000) -implicitDefEqProofs (disch := omega) only [go_sem]
     repeat' (first
       | (with_reducible apply Req_intro); focus (first | omega | assumption | (simp; done))
       | with_reducible (first | apply Req_intro | refine nilT ?_ fun hn => ?_ | apply wk_draw Tryd_mixed | refine drawEnd (by kernel_rfl) ?_)
       | (with_reducible (first | apply condA_if | apply stepDG_ifN | apply stepDG_if | apply stepG_ifN | apply stepG_if)) <;> intro hb <;> (have hif := hb) <;> (try simp only [bo] at hif) <;> (try simp -implicitDefEqProofs (disch := omega) only [go_sem, hb]) <;> clear hb
       | simp (maxSteps := 1000000) -implicitDefEqProofs (disch := omega) only [go_sem])
     · refine retI fun _ => ?_
       rw [if_neg (by rw [allMay_false hlt hif]; decide)]; rfl
     · refine nxt_w (x + 1) (weak_do []) ?_
       try dsimp only
       refine ⟨by omega, fun j hj => ?_⟩
       rcases Nat.lt_or_ge j x with h | h
       · exact hp j h
       · obtain rfl : j = x := by omega
         exact hif
   · have hall := allMay_true (hv := hv) (cs := cs) fun j hj => hp j (by omega)
     refine calld (Clone_way now e (by omega)) ?_
     try simp (maxSteps := 1000000) -implicitDefEqProofs (disch := omega) only [go_sem]
     repeat' (first
       | (with_reducible apply Req_intro); focus (first | omega | assumption | (simp; done))
       | with_reducible (first | apply Req_intro | refine nilT ?_ fun hn => ?_ | apply wk_draw Tryd_mixed | refine drawEnd (by kernel_rfl) ?_)
       | (with_reducible (first | apply condA_if | apply stepDG_ifN | apply stepDG_if | apply stepG_ifN | apply stepG_if)) <;> intro hb <;> (have hif := hb) <;> (try simp only [bo] at hif) <;> (try simp -implicitDefEqProofs (disch := omega) only [go_sem, hb]) <;> clear hb
       | simp (maxSteps := 1000000) -implicitDefEqProofs (disch := omega) only [go_sem])
     (with_reducible refine callL_last (by kernel_rfl) ?_)
     try simp only [go_sem]
     refine call_yield [] rfl (rs := yWay now) (by rw [if_pos hall]; rfl) ?_ fun b => ?_
     · (try simp (maxSteps := 1000000) -implicitDefEqProofs (disch := omega) only [go_sem])
       repeat' (first
         | with_reducible (first | exact PurI.nil | exact Pur.nilsl _ _ | exact PurE.nil)
         | (with_reducible (first | refine PurI.puL ?_ | refine PurE.puE ?_)) <;> (first | assumption | (simp only [go_sem] <;> assumption) | (simp only [go_sem, *]; done) | (simp [go_sem]; done))
         | with_reducible apply PurI.cons
         | (with_reducible refine Pur.pu _ ?_) <;> (first | assumption | (simp only [go_sem] <;> assumption) | (simp only [go_sem, *]; done) | (simp [go_sem]; done))
         | ((with_reducible apply Pur.refR) <;> (first | rfl | decide | (simp only [go_sem]; omega) | (simp only [go_sem]) | skip))
         | ((with_reducible apply Pur.osR) <;> (first | rfl | exact fun h => h | omega | (simp; omega) | (simp; done) | (simp only [go_sem]) | skip))
         | with_reducible (first | apply Pur.fnI | apply Pur.aggI | apply PurE.cons)
         | (with_reducible refine PurI.eqL ?_ ?_); (focus rfl); (focus (first | assumption | (simp only [go_sem] <;> assumption) | (simp only [go_sem, *]; done) | (simp [go_sem]; done)))
         | simp (maxSteps := 1000000) -implicitDefEqProofs (disch := omega) only [go_sem])
     simp (maxSteps := 1000000) -implicitDefEqProofs (disch := omega) only [go_sem]
     refine retI fun _ => ?_
     rw [if_pos hall]; rfl
 · omega
structure Valid (cs : List Bill) (bs : List Box) : Prop where
 nc : cs.length ≤ 3
 nb : bs.length ≤ 8
 sc : ∀ c ∈ cs, c.2.length ≤ 3
 sb : ∀ b ∈ bs, b.length ≤ 3
 vb : ∀ b ∈ bs, ∀ x ∈ b, SmallS 1000000 x
theorem flat_at {α β : Type} (F : Nat → List α) (y : α → β) (n k i : Nat) (hk : k < n) (hi : i < (F k).length) : (((List.range n).flatMap F).map y)[((List.range k).flatMap F).length + i]? = some (y ((F k)[i])) := by
 have e : List.range n = List.range k ++ k :: (List.range' (k + 1) (n - k - 1)) := by
   rw [List.range_eq_range', List.range_eq_range', show n = k + (1 + (n - k - 1)) from by omega, ← List.range'_append_1, ← List.range'_append_1]
   simp
 rw [e, List.flatMap_append, List.flatMap_cons, List.map_append, List.getElem?_append_right (by simp), List.map_append, List.getElem?_append_left (by simp; omega)]
 rw [List.getElem?_eq_getElem (by simp; omega)]
 simp
theorem SmallS.mono {m n : Int} {x : Int × Int} (h : SmallS m x) (hmn : m ≤ n) : SmallS n x := by unfold SmallS at *; omega
theorem Small.mono {m n : Int} {s : Sums} (h : Small m s) (hmn : m ≤ n) : Small n s := ⟨h.1.mono hmn, h.2.1.mono hmn, h.2.2.mono hmn⟩
theorem ways1_cons (bs : List Box) (cs : List Bill) (now : List Int) (e : Bool) (hv : Carts) (b : Box) (hl : now.length < bs.length) (hbb : bs.getD now.length default = b) (hvl : Valid cs bs)
   (hsm : ∀ k, Small (1000000 * now.length) (hv.get k).sums ∧ 0 ≤ (hv.get k).boxes ∧ (hv.get k).boxes ≤ now.length) (R : Nat → List (List Int))
   (hrec : ∀ k, k < cs.length → It Tryd.prog 95 [.rp [.sl 1 ((now ++ [(k : Int)]).map encI) false], .rp (loadC bs cs), .rp (encCarts (hv.set k (addC hv k b)))] ((R k).map yWay)) :
   It Tryd.prog 95 [.rp [.sl 1 (now.map encI) e], .rp (loadC bs cs), .rp (encCarts hv)] (((List.range cs.length).flatMap fun k => if overR (addC hv k b) (cs.getD k default) then [] else R k).map yWay) := by
 obtain ⟨hc3, hb8, hs, hb3, hvb⟩ := hvl
 have hll := Nat.le_trans (Nat.le_of_lt hl) hb8
 refine it_enter Tryd.func95 rfl (by decide) Tryd.results95 Tryd.ntmps95 ?_ rfl (fun l => by simp (maxSteps := 1000000) -implicitDefEqProofs (disch := omega) only [go_sem]; rfl) fun base l => ?_
 · first | assumption | (simp only [go_sem] <;> assumption) | (simp only [go_sem, *]; done) | (simp [go_sem]; done)
 repeat' (first
   | (with_reducible apply Req_intro); focus (first | omega | assumption | (simp; done))
   | with_reducible (first | apply Req_intro | refine nilT ?_ fun hn => ?_ | apply wk_draw Tryd_mixed | refine drawEnd (by kernel_rfl) ?_)
   | (with_reducible (first | apply condA_if | apply stepDG_ifN | apply stepDG_if | apply stepG_ifN | apply stepG_if)) <;> intro hb <;> (have hif := hb) <;> (try simp only [bo] at hif) <;> (try simp -implicitDefEqProofs (disch := omega) only [go_sem, hb]) <;> clear hb
   | simp (maxSteps := 1000000) -implicitDefEqProofs (disch := omega) only [go_sem])
 · omega
 clear hif
 generalize hF : (fun k => if overR (addC hv k b) (cs.getD k default) then [] else R k) = F
 refine loop_gh (α := Nat) [7, 8, 9, 10, 42, 43, 44, 45, 46, 47, 48, 49, 50, 51, 52, 53, 54, 55, 56, 57, 58, 59, 60, 61, 62, 63, 64, 65, 66, 67, 68, 69, 70, 71, 72, 73, 74, 75, 76, 77, 78, 79, 80, 81, 82, 83, 84, 85, 86, 87, 88, 89] (fun k => [(42, .lit (.int .i64 k))]) (fun k => [(0, some ⟨1, [[yieldV l]], 101, .wr⟩)]) (fun k => ((List.range k).flatMap F).length) (fun k => k ≤ cs.length) (fun k => cs.length - k) 0 (fun x => by simp (maxSteps := 1000000) -implicitDefEqProofs (disch := omega) only [go_sem]; rfl) ?_ ?_ ?_ fun x hx => ?_
 · rfl
 · exact weak_do []
 · exact Nat.zero_le _
 by_cases hlt : x < cs.length
 · have h3 := hs _ (getD_mem hlt)
   have hx3 : x < 3 := by omega
   obtain ⟨hsm1, hsm2, hsm3⟩ := hsm x
   have hmem : b ∈ bs := by rw [← hbb]; exact getD_mem hl
   have hb3' := hb3 b hmem
   rw [← hbb] at hb3' hmem
   repeat' (first
     | (with_reducible apply Req_intro); focus (first | omega | assumption | (simp; done))
     | with_reducible (first | apply Req_intro | refine nilT ?_ fun hn => ?_ | apply wk_draw Tryd_mixed | refine drawEnd (by kernel_rfl) ?_)
     | (with_reducible (first | apply condA_if | apply stepDG_ifN | apply stepDG_if | apply stepG_ifN | apply stepG_if)) <;> intro hb <;> (have hif := hb) <;> (try simp only [bo] at hif) <;> (try simp -implicitDefEqProofs (disch := omega) only [go_sem, hb]) <;> clear hb
     | simp (maxSteps := 1000000) -implicitDefEqProofs (disch := omega) only [go_sem])
   · refine calld (plus_spec (hv.get x).sums (bs.getD now.length default) _ hb3' (hsm1.mono (by omega)) (fun y hy => (hvb _ hmem y hy).mono (by omega))) ?_
     try simp (maxSteps := 1000000) -implicitDefEqProofs (disch := omega) only [go_sem]
     rw [hbb]
     repeat' (first
       | (with_reducible apply Req_intro); focus (first | omega | assumption | (simp; done))
       | with_reducible (first | apply Req_intro | refine nilT ?_ fun hn => ?_ | apply wk_draw Tryd_mixed | refine drawEnd (by kernel_rfl) ?_)
       | (with_reducible (first | apply condA_if | apply stepDG_ifN | apply stepDG_if | apply stepG_ifN | apply stepG_if)) <;> intro hb <;> (have hif := hb) <;> (try simp only [bo] at hif) <;> (try simp -implicitDefEqProofs (disch := omega) only [go_sem, hb]) <;> clear hb
       | simp (maxSteps := 1000000) -implicitDefEqProofs (disch := omega) only [go_sem])
     (with_reducible refine callL_last (by kernel_rfl) ?_)
     try simp only [go_sem]
     refine callp (over_spec (addC hv x b) (cs.getD x default) h3) ?_
     try simp (maxSteps := 1000000) -implicitDefEqProofs (disch := omega) only [go_sem]
     repeat' (first
       | (with_reducible apply Req_intro); focus (first | omega | assumption | (simp; done))
       | with_reducible (first | apply Req_intro | refine nilT ?_ fun hn => ?_ | apply wk_draw Tryd_mixed | refine drawEnd (by kernel_rfl) ?_)
       | (with_reducible (first | apply condA_if | apply stepDG_ifN | apply stepDG_if | apply stepG_ifN | apply stepG_if)) <;> intro hb <;> (have hif := hb) <;> (try simp only [bo] at hif) <;> (try simp -implicitDefEqProofs (disch := omega) only [go_sem, hb]) <;> clear hb
       | simp (maxSteps := 1000000) -implicitDefEqProofs (disch := omega) only [go_sem])
     · have hFx : F x = [] := by rw [← hF]; simp only; rw [if_pos hif]
       rw [show (List.flatMap F (List.range x)).length = (List.flatMap F (List.range (x + 1))).length from by rw [List.range_succ, List.flatMap_append, List.flatMap_cons, hFx]; simp]
       refine nxt_w (x + 1) (weak_do []) ?_
       try dsimp only
       omega
     · have hFx : F x = R x := by rw [← hF]; simp only; rw [if_neg (by rw [hif]; decide)]
       refine calld (Clip_way now e) ?_
       try simp (maxSteps := 1000000) -implicitDefEqProofs (disch := omega) only [go_sem]
       repeat' (first
         | (with_reducible apply Req_intro); focus (first | omega | assumption | (simp; done))
         | with_reducible (first | apply Req_intro | refine nilT ?_ fun hn => ?_ | apply wk_draw Tryd_mixed | refine drawEnd (by kernel_rfl) ?_)
         | (with_reducible (first | apply condA_if | apply stepDG_ifN | apply stepDG_if | apply stepG_ifN | apply stepG_if)) <;> intro hb <;> (have hif := hb) <;> (try simp only [bo] at hif) <;> (try simp -implicitDefEqProofs (disch := omega) only [go_sem, hb]) <;> clear hb
         | simp (maxSteps := 1000000) -implicitDefEqProofs (disch := omega) only [go_sem])
       (with_reducible refine callL_last (by kernel_rfl) ?_)
       try simp only [go_sem]
       refine callf2 [3712] (ways_spec bs cs (now ++ [(x : Int)]) false (hv.set x (addC hv x b))) ?_
       try simp (maxSteps := 1000000) -implicitDefEqProofs (disch := omega) only [go_sem]
       repeat' (first
         | (with_reducible apply Req_intro); focus (first | omega | assumption | (simp; done))
         | with_reducible (first | apply Req_intro | refine nilT ?_ fun hn => ?_ | apply wk_draw Tryd_mixed | refine drawEnd (by kernel_rfl) ?_)
         | (with_reducible (first | apply condA_if | apply stepDG_ifN | apply stepDG_if | apply stepG_ifN | apply stepG_if)) <;> intro hb <;> (have hif := hb) <;> (try simp only [bo] at hif) <;> (try simp -implicitDefEqProofs (disch := omega) only [go_sem, hb]) <;> clear hb
         | simp (maxSteps := 1000000) -implicitDefEqProofs (disch := omega) only [go_sem])
       refine range_const (α := Nat × Bool) (fun y => (List.flatMap F (List.range x)).length + y.1) (fun y => y.2) (fun i y => y = (i, false)) (fun c y => c = .ret ∧ y.2 = true) (0, false) (by first | (simp (maxSteps := 1000000) -implicitDefEqProofs (disch := omega) only [go_sem]; done) | (simp (maxSteps := 1000000) -implicitDefEqProofs (disch := omega) only [go_sem]; rfl)) (hrec x hlt) ?_ ?_ ?_ ?_ ?_ ?_ ?_ ?_ ?_ ?_ ?_
       · first | assumption | (simp only [go_sem] <;> assumption) | (simp only [go_sem, *]; done) | (simp [go_sem]; done)
       · intro y hy
         rw [List.mem_map] at hy
         obtain ⟨w, _, rfl⟩ := hy
         rfl
       · rfl
       · rfl
       · rfl
       · repeat' (first
           | with_reducible exact idsLt_nil
           | with_reducible refine idsLt_cons ?_ ?_
           | with_reducible exact IdLt.pu _ Pu_undef
           | with_reducible exact IdLt.pu _ (Pu_lit _)
           | ((with_reducible refine IdLt.ref _ _ _ _ ?_); decide)
           | ((with_reducible refine IdLt.os _ _ _ _ ?_); decide)
           | ((with_reducible refine IdLt.pu _ ?_); first | assumption | (simp only [go_sem] <;> assumption) | (simp only [go_sem, *]; done) | (simp [go_sem]; done))
           | (with_reducible refine idLt_fn ?_ ?_)
           | (with_reducible refine idLt_agg ?_))
       · decide
       · rintro i _ y rfl hy
         rw [List.getElem?_map, Option.map_eq_some_iff] at hy
         obtain ⟨w, hw, rfl⟩ := hy
         have hi : i < (F x).length := by rw [hFx]; exact (List.getElem?_eq_some_iff.1 hw).1
         have hyi := flat_at F yWay cs.length x i hlt hi
         rw [show (F x)[i] = w by simp only [hFx]; exact (List.getElem?_eq_some_iff.1 hw).2] at hyi
         repeat' (first
           | (with_reducible apply Req_intro); focus (first | omega | assumption | (simp; done))
           | with_reducible (first | apply Req_intro | refine nilT ?_ fun hn => ?_ | apply wk_draw Tryd_mixed | refine drawEnd (by kernel_rfl) ?_)
           | (with_reducible (first | apply condA_if | apply stepDG_ifN | apply stepDG_if | apply stepG_ifN | apply stepG_if)) <;> intro hb <;> (have hif := hb) <;> (try simp only [bo] at hif) <;> (try simp -implicitDefEqProofs (disch := omega) only [go_sem, hb]) <;> clear hb
           | simp (maxSteps := 1000000) -implicitDefEqProofs (disch := omega) only [go_sem])
         refine call_yield [] (by first | (simp (maxSteps := 1000000) -implicitDefEqProofs (disch := omega) only [go_sem]; done) | (simp (maxSteps := 1000000) -implicitDefEqProofs (disch := omega) only [go_sem]; rfl)) (rs := yWay w) hyi ?_ fun b => ?_
         · (try simp (maxSteps := 1000000) -implicitDefEqProofs (disch := omega) only [go_sem])
           repeat' (first
             | with_reducible (first | exact PurI.nil | exact Pur.nilsl _ _ | exact PurE.nil)
             | (with_reducible (first | refine PurI.puL ?_ | refine PurE.puE ?_)) <;> (first | assumption | (simp only [go_sem] <;> assumption) | (simp only [go_sem, *]; done) | (simp [go_sem]; done))
             | with_reducible apply PurI.cons
             | (with_reducible refine Pur.pu _ ?_) <;> (first | assumption | (simp only [go_sem] <;> assumption) | (simp only [go_sem, *]; done) | (simp [go_sem]; done))
             | ((with_reducible apply Pur.refR) <;> (first | rfl | decide | (simp only [go_sem]; omega) | (simp only [go_sem]) | skip))
             | ((with_reducible apply Pur.osR) <;> (first | rfl | exact fun h => h | omega | (simp; omega) | (simp; done) | (simp only [go_sem]) | skip))
             | with_reducible (first | apply Pur.fnI | apply Pur.aggI | apply PurE.cons)
             | (with_reducible refine PurI.eqL ?_ ?_); (focus rfl); (focus (first | assumption | (simp only [go_sem] <;> assumption) | (simp only [go_sem, *]; done) | (simp [go_sem]; done)))
             | simp (maxSteps := 1000000) -implicitDefEqProofs (disch := omega) only [go_sem])
         cases b
         · repeat' (first
             | (with_reducible apply Req_intro); focus (first | omega | assumption | (simp; done))
             | with_reducible (first | apply Req_intro | refine nilT ?_ fun hn => ?_ | apply wk_draw Tryd_mixed | refine drawEnd (by kernel_rfl) ?_)
             | (with_reducible (first | apply condA_if | apply stepDG_ifN | apply stepDG_if | apply stepG_ifN | apply stepG_if)) <;> intro hb <;> (have hif := hb) <;> (try simp only [bo] at hif) <;> (try simp -implicitDefEqProofs (disch := omega) only [go_sem, hb]) <;> clear hb
             | simp (maxSteps := 1000000) -implicitDefEqProofs (disch := omega) only [go_sem])
           refine rnd_ret (i + 1, true) ⟨rfl, rfl⟩ ?_
           exact forget_do []
         · repeat' (first
             | (with_reducible apply Req_intro); focus (first | omega | assumption | (simp; done))
             | with_reducible (first | apply Req_intro | refine nilT ?_ fun hn => ?_ | apply wk_draw Tryd_mixed | refine drawEnd (by kernel_rfl) ?_)
             | (with_reducible (first | apply condA_if | apply stepDG_ifN | apply stepDG_if | apply stepG_ifN | apply stepG_if)) <;> intro hb <;> (have hif := hb) <;> (try simp only [bo] at hif) <;> (try simp -implicitDefEqProofs (disch := omega) only [go_sem, hb]) <;> clear hb
             | simp (maxSteps := 1000000) -implicitDefEqProofs (disch := omega) only [go_sem])
           refine rnd_next (i + 1, false) rfl ?_
           exact forget_do []
       · rintro _ rfl
         repeat' (first
           | (with_reducible apply Req_intro); focus (first | omega | assumption | (simp; done))
           | with_reducible (first | apply Req_intro | refine nilT ?_ fun hn => ?_ | apply wk_draw Tryd_mixed | refine drawEnd (by kernel_rfl) ?_)
           | (with_reducible (first | apply condA_if | apply stepDG_ifN | apply stepDG_if | apply stepG_ifN | apply stepG_if)) <;> intro hb <;> (have hif := hb) <;> (try simp only [bo] at hif) <;> (try simp -implicitDefEqProofs (disch := omega) only [go_sem, hb]) <;> clear hb
           | simp (maxSteps := 1000000) -implicitDefEqProofs (disch := omega) only [go_sem])
         rw [show (List.flatMap F (List.range x)).length + (R x).length = (List.flatMap F (List.range (x + 1))).length from by rw [List.range_succ, List.flatMap_append, List.flatMap_cons, hFx]; simp]
         refine nxt_w (x + 1) (weak_do []) ?_
         try dsimp only
         omega
       · rintro y ⟨_, hy⟩
         repeat' (first
           | (with_reducible apply Req_intro); focus (first | omega | assumption | (simp; done))
           | with_reducible (first | apply Req_intro | refine nilT ?_ fun hn => ?_ | apply wk_draw Tryd_mixed | refine drawEnd (by kernel_rfl) ?_)
           | (with_reducible (first | apply condA_if | apply stepDG_ifN | apply stepDG_if | apply stepG_ifN | apply stepG_if)) <;> intro hb <;> (have hif := hb) <;> (try simp only [bo] at hif) <;> (try simp -implicitDefEqProofs (disch := omega) only [go_sem, hb]) <;> clear hb
           | simp (maxSteps := 1000000) -implicitDefEqProofs (disch := omega) only [go_sem])
         exact retI fun h => by rw [hy] at h; cases h
       · rintro id y ⟨hy, _⟩
         cases hy
   · omega
 · repeat' (first
     | (with_reducible apply Req_intro); focus (first | omega | assumption | (simp; done))
     | with_reducible (first | apply Req_intro | refine nilT ?_ fun hn => ?_ | apply wk_draw Tryd_mixed | refine drawEnd (by kernel_rfl) ?_)
     | (with_reducible (first | apply condA_if | apply stepDG_ifN | apply stepDG_if | apply stepG_ifN | apply stepG_if)) <;> intro hb <;> (have hif := hb) <;> (try simp only [bo] at hif) <;> (try simp -implicitDefEqProofs (disch := omega) only [go_sem, hb]) <;> clear hb
     | simp (maxSteps := 1000000) -implicitDefEqProofs (disch := omega) only [go_sem])
   · omega
   · obtain rfl : x = cs.length := by omega
     exact retIN fun _ => (by rw [List.length_map])
def HvOk (n : Nat) (hv : Carts) : Prop := ∀ k, Small (1000000 * n) (hv.get k).sums ∧ 0 ≤ (hv.get k).boxes ∧ (hv.get k).boxes ≤ n
theorem plusR_small {s : Sums} {b : Box} {m : Int} (hs : Small m s) (hb : ∀ x ∈ b, SmallS 1000000 x) (hm : 0 ≤ m) : Small (m + 1000000) (plusR s b) := by
 have add : ∀ {x y : Int × Int}, SmallS m x → SmallS 1000000 y → SmallS (m + 1000000) (addS x y) := fun {x y} h1 h2 => by
   unfold SmallS addS at *; simp only at *; omega
 obtain ⟨h1, h2, h3⟩ := hs
 match b, hb with
 | [], _ => exact ⟨h1.mono (by omega), h2.mono (by omega), h3.mono (by omega)⟩
 | [x], hb => exact ⟨add h1 (hb x (by simp)), h2.mono (by omega), h3.mono (by omega)⟩
 | [x, y], hb => exact ⟨add h1 (hb x (by simp)), add h2 (hb y (by simp)), h3.mono (by omega)⟩
 | x :: y :: z :: r, hb => exact ⟨add h1 (hb x (by simp)), add h2 (hb y (by simp)), add h3 (hb z (by simp))⟩
theorem HvOk.set {n : Nat} {hv : Carts} (h : HvOk n hv) (k : Nat) {b : Box} (hb : ∀ x ∈ b, SmallS 1000000 x) : HvOk (n + 1) (hv.set k (addC hv k b)) := by
 have old : ∀ j, Small (1000000 * ((n + 1 : Nat) : Int)) (hv.get j).sums ∧ 0 ≤ (hv.get j).boxes ∧ (hv.get j).boxes ≤ ((n + 1 : Nat) : Int) := fun j => by
   obtain ⟨h1, h2, h3⟩ := h j
   exact ⟨h1.mono (by omega), h2, by omega⟩
 have new : Small (1000000 * ((n + 1 : Nat) : Int)) (addC hv k b).sums ∧ 0 ≤ (addC hv k b).boxes ∧ (addC hv k b).boxes ≤ ((n + 1 : Nat) : Int) := by
   obtain ⟨h1, h2, h3⟩ := h k
   refine ⟨(plusR_small h1 hb (by omega)).mono (by omega), ?_, ?_⟩
   · simp only [addC]; omega
   · simp only [addC]; omega
 intro j
 match k, j with
 | 0, 0 => exact new
 | 0, 1 => exact old 1
 | 0, j + 2 => exact old (j + 2)
 | 1, 0 => exact old 0
 | 1, 1 => exact new
 | 1, j + 2 => exact old (j + 2)
 | k + 2, 0 => exact old 0
 | k + 2, 1 => exact old 1
 | k + 2, j + 2 => exact new
theorem ways1_spec (bs : List Box) (cs : List Bill) (hvl : Valid cs bs) : ∀ (rest : List Box) (now : List Int) (e : Bool) (hv : Carts), bs.drop now.length = rest → now.length ≤ bs.length → HvOk now.length hv →
   It Tryd.prog 95 [.rp [.sl 1 (now.map encI) e], .rp (loadC bs cs), .rp (encCarts hv)] ((waysG cs rest now hv).map yWay) := by
 intro rest
 induction rest with
 | nil =>
   intro now e hv hd hl hh
   have : now.length = bs.length := by
     have := List.drop_eq_nil_iff.1 hd; omega
   have hb := hvl.nb
   exact ways1_nil bs cs now e hv this (by omega) hvl.nc hvl.sc
 | cons b rest ih =>
   intro now e hv hd hl hh
   have hlt : now.length < bs.length := by
     rcases Nat.lt_or_ge now.length bs.length with h | h
     · exact h
     · rw [List.drop_eq_nil_iff.2 h] at hd; cases hd
   have hb : bs.getD now.length default = b := by
     rw [getD_default hlt]
     have := List.drop_eq_getElem_cons hlt
     rw [hd] at this
     exact (List.cons.inj this).1.symm
   have hr : bs.drop (now.length + 1) = rest := by
     have := List.drop_eq_getElem_cons hlt
     rw [hd] at this
     exact (List.cons.inj this).2.symm
   refine ways1_cons bs cs now e hv b hlt hb hvl hh _ fun k hk => ?_
   refine ih (now ++ [(k : Int)]) false _ (by rw [List.length_append]; exact hr) (by simp; omega) ?_
   rw [List.length_append]
   exact hh.set k (hvl.vb b (by rw [← hb]; exact getD_mem hlt))
end Go.Aw
end
section
set_option maxRecDepth 20000
namespace Go.Aw
open Go.RowKit Go.Proofs
theorem AppendSeq_spec (ws : List (List Int)) (f : FuncId) (cap : List V) (hcap : PuL cap) (hl : ws.length ≤ 1073741824) (hit : It Tryd.prog f cap (ws.map yWay)) :
   Ct Tryd.prog 101 [.lit (.slice none 0 0), .fn (.func f) [] cap] (.sl 1 (ws.map encW) false) := by
 refine fn_enter Tryd.func101 rfl (by decide) Tryd.results101 Tryd.ntmps101 ?_ rfl (by simp (maxSteps := 1000000) -implicitDefEqProofs (disch := omega) only [go_sem]; rfl) fun base => ?_
 · first | assumption | (simp only [go_sem] <;> assumption) | (simp only [go_sem, *]; done) | (simp [go_sem]; done)
 repeat' (first
   | (with_reducible apply Req_intro); focus (first | omega | assumption | (simp; done))
   | with_reducible (first | apply Req_intro | refine nilT ?_ fun hn => ?_ | apply wk_draw Tryd_mixed | refine drawEnd (by kernel_rfl) ?_)
   | (with_reducible (first | apply condA_if | apply stepDG_ifN | apply stepDG_if | apply stepG_ifN | apply stepG_if)) <;> intro hb <;> (have hif := hb) <;> (try simp only [bo] at hif) <;> (try simp -implicitDefEqProofs (disch := omega) only [go_sem, hb]) <;> clear hb
   | simp (maxSteps := 1000000) -implicitDefEqProofs (disch := omega) only [go_sem])
 refine range_rows (α := Nat) [] (fun i => [(0, some ⟨1, [[.os 192 1 i false]], 95, .wr⟩), (192, some ⟨1, (ws.take i).map encW, 98, .wr⟩)]) (fun _ => 0) (fun _ => false) (fun i y => y = i ∧ i ≤ ws.length) (fun _ _ => False) 0 256 (by first | (simp (maxSteps := 1000000) -implicitDefEqProofs (disch := omega) only [go_sem]; done) | (simp (maxSteps := 1000000) -implicitDefEqProofs (disch := omega) only [go_sem]; rfl)) (by first | (simp (maxSteps := 1000000) -implicitDefEqProofs (disch := omega) only [go_sem]; done) | (simp (maxSteps := 1000000) -implicitDefEqProofs (disch := omega) only [go_sem]; rfl)) hit ?_ ?_ ?_ ?_ ?_ ?_ ?_ ?_ ?_ ?_ ?_ ?_ ?_
 · exact hcap
 · intro y hy
   rw [List.mem_map] at hy
   obtain ⟨w, _, rfl⟩ := hy
   rfl
 · simp only [List.take_zero, List.map_nil]
   exact weak_do [(192, 1000000)]
 · rfl
 · rfl
 · exact ⟨rfl, Nat.zero_le _⟩
 · repeat' (first
     | with_reducible exact idsLt_nil
     | with_reducible refine idsLt_cons ?_ ?_
     | with_reducible exact IdLt.pu _ Pu_undef
     | with_reducible exact IdLt.pu _ (Pu_lit _)
     | ((with_reducible refine IdLt.ref _ _ _ _ ?_); decide)
     | ((with_reducible refine IdLt.os _ _ _ _ ?_); decide)
     | ((with_reducible refine IdLt.pu _ ?_); first | assumption | (simp only [go_sem] <;> assumption) | (simp only [go_sem, *]; done) | (simp [go_sem]; done))
     | (with_reducible refine idLt_fn ?_ ?_)
     | (with_reducible refine idLt_agg ?_))
 · decide
 · decide
 · rintro i x y ⟨hxi, hxl⟩ hy
   subst hxi
   rw [List.getElem?_map, Option.map_eq_some_iff] at hy
   obtain ⟨w, hw, rfl⟩ := hy
   have hi := (List.getElem?_eq_some_iff.1 hw).1
   have hlen : x = (List.take x ws).length := by rw [List.length_take]; omega
   repeat' (first
     | (with_reducible apply Req_intro); focus (first | omega | assumption | (simp; done))
     | with_reducible (first | apply Req_intro | refine nilT ?_ fun hn => ?_ | apply wk_draw Tryd_mixed | refine drawEnd (by kernel_rfl) ?_)
     | (with_reducible (first | apply condA_if | apply stepDG_ifN | apply stepDG_if | apply stepG_ifN | apply stepG_if)) <;> intro hb <;> (have hif := hb) <;> (try simp only [bo] at hif) <;> (try simp -implicitDefEqProofs (disch := omega) only [go_sem, hb]) <;> clear hb
     | simp (maxSteps := 1000000) -implicitDefEqProofs (disch := omega) only [go_sem])
   rw [show List.map encW (List.take x ws) ++ [[V.sl 1 (List.map encI w) false]] = List.map encW (List.take (x + 1) ws) from by
     rw [take_succ_getD hi, List.map_append, getD_default hi, show ws[x] = w from (List.getElem?_eq_some_iff.1 hw).2]; rfl]
   refine rnd_next (x + 1) ⟨rfl, hi⟩ ?_
   exact forget_do [(192, 512)]
 · rintro x ⟨hx, _⟩
   subst hx
   simp only [List.length_map]
   repeat' (first
     | (with_reducible apply Req_intro); focus (first | omega | assumption | (simp; done))
     | with_reducible (first | apply Req_intro | refine nilT ?_ fun hn => ?_ | apply wk_draw Tryd_mixed | refine drawEnd (by kernel_rfl) ?_)
     | (with_reducible (first | apply condA_if | apply stepDG_ifN | apply stepDG_if | apply stepG_ifN | apply stepG_if)) <;> intro hb <;> (have hif := hb) <;> (try simp only [bo] at hif) <;> (try simp -implicitDefEqProofs (disch := omega) only [go_sem, hb]) <;> clear hb
     | simp (maxSteps := 1000000) -implicitDefEqProofs (disch := omega) only [go_sem])
   simp only [List.take_length]
   exact retf [192] [4] [.sl 1 (ws.map encW) false]
 · exact fun x h => h.elim
 · exact fun id x h => h.elim
theorem Collect_spec (ws : List (List Int)) (f : FuncId) (cap : List V) (hcap : PuL cap) (hl : ws.length ≤ 1073741824) (hit : It Tryd.prog f cap (ws.map yWay)) :
   Ct Tryd.prog 93 [.fn (.func f) [] cap] (.sl 1 (ws.map encW) false) := by
 refine fn_enter Tryd.func93 rfl (by decide) Tryd.results93 Tryd.ntmps93 ?_ rfl (by simp (maxSteps := 1000000) -implicitDefEqProofs (disch := omega) only [go_sem]; rfl) fun base => ?_
 · first | assumption | (simp only [go_sem] <;> assumption) | (simp only [go_sem, *]; done) | (simp [go_sem]; done)
 repeat' (first
   | (with_reducible apply Req_intro); focus (first | omega | assumption | (simp; done))
   | with_reducible (first | apply Req_intro | refine nilT ?_ fun hn => ?_ | apply wk_draw Tryd_mixed | refine drawEnd (by kernel_rfl) ?_)
   | (with_reducible (first | apply condA_if | apply stepDG_ifN | apply stepDG_if | apply stepG_ifN | apply stepG_if)) <;> intro hb <;> (have hif := hb) <;> (try simp only [bo] at hif) <;> (try simp -implicitDefEqProofs (disch := omega) only [go_sem, hb]) <;> clear hb
   | simp (maxSteps := 1000000) -implicitDefEqProofs (disch := omega) only [go_sem])
 refine callp (AppendSeq_spec ws f cap hcap hl hit) ?_
 try simp (maxSteps := 1000000) -implicitDefEqProofs (disch := omega) only [go_sem]
 repeat' (first
   | (with_reducible apply Req_intro); focus (first | omega | assumption | (simp; done))
   | with_reducible (first | apply Req_intro | refine nilT ?_ fun hn => ?_ | apply wk_draw Tryd_mixed | refine drawEnd (by kernel_rfl) ?_)
   | (with_reducible (first | apply condA_if | apply stepDG_ifN | apply stepDG_if | apply stepG_ifN | apply stepG_if)) <;> intro hb <;> (have hif := hb) <;> (try simp only [bo] at hif) <;> (try simp -implicitDefEqProofs (disch := omega) only [go_sem, hb]) <;> clear hb
   | simp (maxSteps := 1000000) -implicitDefEqProofs (disch := omega) only [go_sem])
 exact retf [] [2] [.sl 1 (ws.map encW) false]
def carts0 : Carts := default
def allW (bs : List Box) (cs : List Bill) : List (List Int) := waysG cs bs [] carts0
theorem HvOk0 : HvOk 0 carts0 := by
 have h : SmallS (1000000 * ((0 : Nat) : Int)) (0, 0) := by unfold SmallS; decide
 intro k
 have : carts0.get k = default := by
   match k with
   | 0 => rfl
   | 1 => rfl
   | k + 2 => rfl
 rw [this]
 exact ⟨⟨h, h, h⟩, Int.le_refl _, Int.le_refl _⟩
theorem all_it (bs : List Box) (cs : List Bill) (hvl : Valid cs bs) : It Tryd.prog 95 [.rp [.sl 1 [] false], .rp (loadC bs cs), .rp (encCarts carts0)] ((allW bs cs).map yWay) :=
 ways1_spec bs cs hvl bs [] false carts0 rfl (Nat.zero_le _) HvOk0
theorem all_spec (bs : List Box) (cs : List Bill) (hvl : Valid cs bs) (hl : (allW bs cs).length ≤ 1073741824) : Ct Tryd.prog 80 [encLoad bs cs] (.sl 1 ((allW bs cs).map encW) false) := by
 refine fn_enter Tryd.func80 rfl (by decide) Tryd.results80 Tryd.ntmps80 ?_ rfl (by simp (maxSteps := 1000000) -implicitDefEqProofs (disch := omega) only [go_sem]; rfl) fun base => ?_
 · first | assumption | (simp only [go_sem] <;> assumption) | (simp only [go_sem, *]; done) | (simp [go_sem]; done)
 repeat' (first
   | (with_reducible apply Req_intro); focus (first | omega | assumption | (simp; done))
   | with_reducible (first | apply Req_intro | refine nilT ?_ fun hn => ?_ | apply wk_draw Tryd_mixed | refine drawEnd (by kernel_rfl) ?_)
   | (with_reducible (first | apply condA_if | apply stepDG_ifN | apply stepDG_if | apply stepG_ifN | apply stepG_if)) <;> intro hb <;> (have hif := hb) <;> (try simp only [bo] at hif) <;> (try simp -implicitDefEqProofs (disch := omega) only [go_sem, hb]) <;> clear hb
   | simp (maxSteps := 1000000) -implicitDefEqProofs (disch := omega) only [go_sem])
 refine callf [] (ways_spec bs cs [] false carts0) ?_
 try simp (maxSteps := 1000000) -implicitDefEqProofs (disch := omega) only [go_sem]
 repeat' (first
   | (with_reducible apply Req_intro); focus (first | omega | assumption | (simp; done))
   | with_reducible (first | apply Req_intro | refine nilT ?_ fun hn => ?_ | apply wk_draw Tryd_mixed | refine drawEnd (by kernel_rfl) ?_)
   | (with_reducible (first | apply condA_if | apply stepDG_ifN | apply stepDG_if | apply stepG_ifN | apply stepG_if)) <;> intro hb <;> (have hif := hb) <;> (try simp only [bo] at hif) <;> (try simp -implicitDefEqProofs (disch := omega) only [go_sem, hb]) <;> clear hb
   | simp (maxSteps := 1000000) -implicitDefEqProofs (disch := omega) only [go_sem])
 refine callp (Collect_spec (allW bs cs) 95 _ (by first | assumption | (simp only [go_sem] <;> assumption) | (simp only [go_sem, *]; done) | (simp [go_sem]; done)) hl (all_it bs cs hvl)) ?_
 try simp (maxSteps := 1000000) -implicitDefEqProofs (disch := omega) only [go_sem]
 repeat' (first
   | (with_reducible apply Req_intro); focus (first | omega | assumption | (simp; done))
   | with_reducible (first | apply Req_intro | refine nilT ?_ fun hn => ?_ | apply wk_draw Tryd_mixed | refine drawEnd (by kernel_rfl) ?_)
   | (with_reducible (first | apply condA_if | apply stepDG_ifN | apply stepDG_if | apply stepG_ifN | apply stepG_if)) <;> intro hb <;> (have hif := hb) <;> (try simp only [bo] at hif) <;> (try simp -implicitDefEqProofs (disch := omega) only [go_sem, hb]) <;> clear hb
   | simp (maxSteps := 1000000) -implicitDefEqProofs (disch := omega) only [go_sem])
 exact retf [] [2] [.sl 1 ((allW bs cs).map encW) false]
theorem isPossible_spec (bs : List Box) (cs : List Bill) (hvl : Valid cs bs) : Ct Tryd.prog 65 [encLoad bs cs] (.lit (.bool (!(allW bs cs).isEmpty))) := by
 refine fn_enter Tryd.func65 rfl (by decide) Tryd.results65 Tryd.ntmps65 ?_ rfl (by simp (maxSteps := 1000000) -implicitDefEqProofs (disch := omega) only [go_sem]; rfl) fun base => ?_
 · first | assumption | (simp only [go_sem] <;> assumption) | (simp only [go_sem, *]; done) | (simp [go_sem]; done)
 repeat' (first
   | (with_reducible apply Req_intro); focus (first | omega | assumption | (simp; done))
   | with_reducible (first | apply Req_intro | refine nilT ?_ fun hn => ?_ | apply wk_draw Tryd_mixed | refine drawEnd (by kernel_rfl) ?_)
   | (with_reducible (first | apply condA_if | apply stepDG_ifN | apply stepDG_if | apply stepG_ifN | apply stepG_if)) <;> intro hb <;> (have hif := hb) <;> (try simp only [bo] at hif) <;> (try simp -implicitDefEqProofs (disch := omega) only [go_sem, hb]) <;> clear hb
   | simp (maxSteps := 1000000) -implicitDefEqProofs (disch := omega) only [go_sem])
 refine callf [] (ways_spec bs cs [] false carts0) ?_
 try simp (maxSteps := 1000000) -implicitDefEqProofs (disch := omega) only [go_sem]
 repeat' (first
   | (with_reducible apply Req_intro); focus (first | omega | assumption | (simp; done))
   | with_reducible (first | apply Req_intro | refine nilT ?_ fun hn => ?_ | apply wk_draw Tryd_mixed | refine drawEnd (by kernel_rfl) ?_)
   | (with_reducible (first | apply condA_if | apply stepDG_ifN | apply stepDG_if | apply stepG_ifN | apply stepG_if)) <;> intro hb <;> (have hif := hb) <;> (try simp only [bo] at hif) <;> (try simp -implicitDefEqProofs (disch := omega) only [go_sem, hb]) <;> clear hb
   | simp (maxSteps := 1000000) -implicitDefEqProofs (disch := omega) only [go_sem])
 refine range_rows (α := Bool) [] (fun i => [(64, some ⟨1, [[.lit (.bool i)]], 4, .wr⟩)]) (fun _ => 0) (fun _ => false) (fun i y => i = 0 ∧ y = false) (fun c y => c = .ret ∧ y = true ∧ allW bs cs ≠ []) false 320 (by first | (simp (maxSteps := 1000000) -implicitDefEqProofs (disch := omega) only [go_sem]; done) | (simp (maxSteps := 1000000) -implicitDefEqProofs (disch := omega) only [go_sem]; rfl)) (by first | (simp (maxSteps := 1000000) -implicitDefEqProofs (disch := omega) only [go_sem]; done) | (simp (maxSteps := 1000000) -implicitDefEqProofs (disch := omega) only [go_sem]; rfl)) (all_it bs cs hvl) ?_ ?_ ?_ ?_ ?_ ?_ ?_ ?_ ?_ ?_ ?_ ?_ ?_
 · first | assumption | (simp only [go_sem] <;> assumption) | (simp only [go_sem, *]; done) | (simp [go_sem]; done)
 · intro y hy
   rw [List.mem_map] at hy
   obtain ⟨w, _, rfl⟩ := hy
   rfl
 · exact weak_do []
 · rfl
 · rfl
 · exact ⟨rfl, rfl⟩
 · repeat' (first
     | with_reducible exact idsLt_nil
     | with_reducible refine idsLt_cons ?_ ?_
     | with_reducible exact IdLt.pu _ Pu_undef
     | with_reducible exact IdLt.pu _ (Pu_lit _)
     | ((with_reducible refine IdLt.ref _ _ _ _ ?_); decide)
     | ((with_reducible refine IdLt.os _ _ _ _ ?_); decide)
     | ((with_reducible refine IdLt.pu _ ?_); first | assumption | (simp only [go_sem] <;> assumption) | (simp only [go_sem, *]; done) | (simp [go_sem]; done))
     | (with_reducible refine idLt_fn ?_ ?_)
     | (with_reducible refine idLt_agg ?_))
 · decide
 · decide
 · rintro i x y ⟨hi, hx⟩ hy
   subst hi hx
   have hne : allW bs cs ≠ [] := fun h => by rw [h] at hy; cases hy
   rw [List.getElem?_map, Option.map_eq_some_iff] at hy
   obtain ⟨w, hw, rfl⟩ := hy
   repeat' (first
     | (with_reducible apply Req_intro); focus (first | omega | assumption | (simp; done))
     | with_reducible (first | apply Req_intro | refine nilT ?_ fun hn => ?_ | apply wk_draw Tryd_mixed | refine drawEnd (by kernel_rfl) ?_)
     | (with_reducible (first | apply condA_if | apply stepDG_ifN | apply stepDG_if | apply stepG_ifN | apply stepG_if)) <;> intro hb <;> (have hif := hb) <;> (try simp only [bo] at hif) <;> (try simp -implicitDefEqProofs (disch := omega) only [go_sem, hb]) <;> clear hb
     | simp (maxSteps := 1000000) -implicitDefEqProofs (disch := omega) only [go_sem])
   refine rnd_ret true ⟨rfl, rfl, hne⟩ ?_
   exact forget_do []
 · rintro x ⟨h0, hx⟩
   subst hx
   have : allW bs cs = [] := List.eq_nil_of_length_eq_zero (by simpa using h0)
   repeat' (first
     | (with_reducible apply Req_intro); focus (first | omega | assumption | (simp; done))
     | with_reducible (first | apply Req_intro | refine nilT ?_ fun hn => ?_ | apply wk_draw Tryd_mixed | refine drawEnd (by kernel_rfl) ?_)
     | (with_reducible (first | apply condA_if | apply stepDG_ifN | apply stepDG_if | apply stepG_ifN | apply stepG_if)) <;> intro hb <;> (have hif := hb) <;> (try simp only [bo] at hif) <;> (try simp -implicitDefEqProofs (disch := omega) only [go_sem, hb]) <;> clear hb
     | simp (maxSteps := 1000000) -implicitDefEqProofs (disch := omega) only [go_sem])
   refine ret_do ?_
   rw [this]; rfl
 · rintro x ⟨_, hx, hne⟩
   subst hx
   repeat' (first
     | (with_reducible apply Req_intro); focus (first | omega | assumption | (simp; done))
     | with_reducible (first | apply Req_intro | refine nilT ?_ fun hn => ?_ | apply wk_draw Tryd_mixed | refine drawEnd (by kernel_rfl) ?_)
     | (with_reducible (first | apply condA_if | apply stepDG_ifN | apply stepDG_if | apply stepG_ifN | apply stepG_if)) <;> intro hb <;> (have hif := hb) <;> (try simp only [bo] at hif) <;> (try simp -implicitDefEqProofs (disch := omega) only [go_sem, hb]) <;> clear hb
     | simp (maxSteps := 1000000) -implicitDefEqProofs (disch := omega) only [go_sem])
   refine ret_do ?_
   cases h : allW bs cs with
   | nil => exact absurd h hne
   | cons _ _ => rfl
 · rintro id x ⟨h, _⟩
   cases h
theorem spanOk_small {m : Int} {x : Int × Int} (h : spanOk m x = true) : 0 ≤ x.1 ∧ x.1 ≤ x.2 ∧ x.2 ≤ m := by
 simp only [spanOk, inR', Bool.and_eq_true, decide_eq_true_eq] at h; omega
structure Good (bs : List Box) (cs : List Bill) : Prop where
 nb : bs.length ≤ 8
 nc : cs.length ≤ 3
 n1 : 1 ≤ cs.length
 st : 1 ≤ stuffs cs ∧ stuffs cs ≤ 3
 lb : ∀ b ∈ bs, b.length = stuffs cs
 lc : ∀ c ∈ cs, c.2.length = stuffs cs
 ob : ∀ b ∈ bs, ∀ x ∈ b, spanOk 1000 x = true
 oc : ∀ c ∈ cs, ∀ x ∈ c.2, spanOk 10000 x = true
 cb : ∀ c ∈ cs, 0 ≤ c.1 ∧ c.1 ≤ 8
theorem good_of_check {bs : List Box} {cs : List Bill} (h : checkR bs cs = 0) : Good bs cs := by
 unfold checkR at h
 split at h
 · cases h
 rename_i h1
 split at h
 · cases h
 rename_i h2
 split at h
 · cases h
 rename_i h3
 split at h
 · cases h
 rename_i h4
 split at h
 · cases h
 rename_i h5
 split at h
 · cases h
 rename_i h6
 split at h
 · cases h
 rename_i h7
 simp only [Bool.not_eq_true, List.any_eq_false] at h4 h5 h6 h7
 refine ⟨by omega, by omega, by omega, by omega, fun b hb => ?_, fun c hc => ?_, fun b hb => ?_, fun c hc => ?_, fun c hc => ?_⟩
 · have := h4 b hb; simp only [bne_eq_false_iff_eq] at this; omega
 · have := h5 c hc; simp only [bne_eq_false_iff_eq] at this; omega
 · have := h6 b hb; simpa using this
 · have := h7 c hc
   simp only [Bool.or_eq_false_iff, Bool.not_eq_false'] at this
   exact List.all_eq_true.1 this.1
 · have := h7 c hc
   simp only [Bool.or_eq_false_iff, Bool.not_eq_false'] at this
   simpa [inR'] using this.2
theorem Good.valid {bs : List Box} {cs : List Bill} (h : Good bs cs) : Valid cs bs := by
 have := h.st
 refine ⟨h.nc, h.nb, fun c hc => ?_, fun b hb => ?_, fun b hb x hx => ?_⟩
 · have := h.lc c hc; omega
 · have := h.lb b hb; omega
 · have := spanOk_small (h.ob b hb x hx); unfold SmallS; omega
theorem flat_len {α : Type} (f : Nat → List α) (m : Nat) : ∀ n : Nat, (∀ k, k < n → (f k).length ≤ m) → ((List.range n).flatMap f).length ≤ n * m
 | 0, _ => by simp
 | n + 1, h => by
   have := flat_len f m n (fun k hk => h k (by omega))
   have := h n (by omega)
   rw [List.range_succ, List.flatMap_append, List.length_append, Nat.add_mul, List.flatMap_cons, List.flatMap_nil, List.append_nil]
   omega
theorem waysG_len (cs : List Bill) : ∀ (rest : List Box) (now : List Int) (hv : Carts), (waysG cs rest now hv).length ≤ cs.length ^ rest.length
 | [], now, hv => by
   simp only [waysG]
   split <;> simp
 | b :: rest, now, hv => by
   simp only [waysG]
   rw [List.length_cons, Nat.pow_succ, Nat.mul_comm]
   refine flat_len _ _ _ fun k hk => ?_
   split
   · simp
   · exact waysG_len cs rest _ _
theorem Valid.few {bs : List Box} {cs : List Bill} (h : Valid cs bs) : (allW bs cs).length ≤ 6561 := by
 refine Nat.le_trans (waysG_len cs bs [] carts0) ?_
 calc cs.length ^ bs.length ≤ 3 ^ bs.length := Nat.pow_le_pow_left h.nc _
   _ ≤ 3 ^ 8 := Nat.pow_le_pow_right (by omega) h.nb
   _ = 6561 := rfl
structure Fits (bs : List Box) (cs : List Bill) : Prop where
 b : ∀ b ∈ bs, b.length ≤ 4611686018427387904
 c : ∀ c ∈ cs, c.2.length ≤ 4611686018427387904
theorem open_err (bs : List Box) (cs : List Bill) (hf : Fits bs cs) (h : checkR bs cs ≠ 0) : Ct Tryd.prog 55 [encLoad bs cs] (.tup [.agg [.lit (.slice none 0 0), .lit (.slice none 0 0)], .lit (.slice none 0 0), .lit (.int .i64 (checkR bs cs))]) := by
 refine fn_enter Tryd.func55 rfl (by decide) Tryd.results55 Tryd.ntmps55 ?_ rfl (by simp (maxSteps := 1000000) -implicitDefEqProofs (disch := omega) only [go_sem]; rfl) fun base => ?_
 · first | assumption | (simp only [go_sem] <;> assumption) | (simp only [go_sem, *]; done) | (simp [go_sem]; done)
 repeat' (first
   | (with_reducible apply Req_intro); focus (first | omega | assumption | (simp; done))
   | with_reducible (first | apply Req_intro | refine nilT ?_ fun hn => ?_ | apply wk_draw Tryd_mixed | refine drawEnd (by kernel_rfl) ?_)
   | (with_reducible (first | apply condA_if | apply stepDG_ifN | apply stepDG_if | apply stepG_ifN | apply stepG_if)) <;> intro hb <;> (have hif := hb) <;> (try simp only [bo] at hif) <;> (try simp -implicitDefEqProofs (disch := omega) only [go_sem, hb]) <;> clear hb
   | simp (maxSteps := 1000000) -implicitDefEqProofs (disch := omega) only [go_sem])
 refine callp (Check_spec bs cs hf.b hf.c) ?_
 try simp (maxSteps := 1000000) -implicitDefEqProofs (disch := omega) only [go_sem]
 repeat' (first
   | (with_reducible apply Req_intro); focus (first | omega | assumption | (simp; done))
   | with_reducible (first | apply Req_intro | refine nilT ?_ fun hn => ?_ | apply wk_draw Tryd_mixed | refine drawEnd (by kernel_rfl) ?_)
   | (with_reducible (first | apply condA_if | apply stepDG_ifN | apply stepDG_if | apply stepG_ifN | apply stepG_if)) <;> intro hb <;> (have hif := hb) <;> (try simp only [bo] at hif) <;> (try simp -implicitDefEqProofs (disch := omega) only [go_sem, hb]) <;> clear hb
   | simp (maxSteps := 1000000) -implicitDefEqProofs (disch := omega) only [go_sem])
 · refine ret_do ?_
   rfl
 · exact absurd hif h
theorem open_none (bs : List Box) (cs : List Bill) (hf : Fits bs cs) (h : checkR bs cs = 0) (hn : allW bs cs = []) : Ct Tryd.prog 55 [encLoad bs cs] (.tup [encLoad bs cs, .lit (.slice none 0 0), .lit (.int .i64 9)]) := by
 have hv := (good_of_check h).valid
 refine fn_enter Tryd.func55 rfl (by decide) Tryd.results55 Tryd.ntmps55 ?_ rfl (by simp (maxSteps := 1000000) -implicitDefEqProofs (disch := omega) only [go_sem]; rfl) fun base => ?_
 · first | assumption | (simp only [go_sem] <;> assumption) | (simp only [go_sem, *]; done) | (simp [go_sem]; done)
 repeat' (first
   | (with_reducible apply Req_intro); focus (first | omega | assumption | (simp; done))
   | with_reducible (first | apply Req_intro | refine nilT ?_ fun hn => ?_ | apply wk_draw Tryd_mixed | refine drawEnd (by kernel_rfl) ?_)
   | (with_reducible (first | apply condA_if | apply stepDG_ifN | apply stepDG_if | apply stepG_ifN | apply stepG_if)) <;> intro hb <;> (have hif := hb) <;> (try simp only [bo] at hif) <;> (try simp -implicitDefEqProofs (disch := omega) only [go_sem, hb]) <;> clear hb
   | simp (maxSteps := 1000000) -implicitDefEqProofs (disch := omega) only [go_sem])
 refine callp (Check_spec bs cs hf.b hf.c) ?_
 try simp (maxSteps := 1000000) -implicitDefEqProofs (disch := omega) only [go_sem]
 repeat' (first
   | (with_reducible apply Req_intro); focus (first | omega | assumption | (simp; done))
   | with_reducible (first | apply Req_intro | refine nilT ?_ fun hn => ?_ | apply wk_draw Tryd_mixed | refine drawEnd (by kernel_rfl) ?_)
   | (with_reducible (first | apply condA_if | apply stepDG_ifN | apply stepDG_if | apply stepG_ifN | apply stepG_if)) <;> intro hb <;> (have hif := hb) <;> (try simp only [bo] at hif) <;> (try simp -implicitDefEqProofs (disch := omega) only [go_sem, hb]) <;> clear hb
   | simp (maxSteps := 1000000) -implicitDefEqProofs (disch := omega) only [go_sem])
 · exact absurd h hif
 refine callp (all_spec bs cs hv (by have := hv.few; omega)) ?_
 try simp (maxSteps := 1000000) -implicitDefEqProofs (disch := omega) only [go_sem]
 repeat' (first
   | (with_reducible apply Req_intro); focus (first | omega | assumption | (simp; done))
   | with_reducible (first | apply Req_intro | refine nilT ?_ fun hn => ?_ | apply wk_draw Tryd_mixed | refine drawEnd (by kernel_rfl) ?_)
   | (with_reducible (first | apply condA_if | apply stepDG_ifN | apply stepDG_if | apply stepG_ifN | apply stepG_if)) <;> intro hb <;> (have hif := hb) <;> (try simp only [bo] at hif) <;> (try simp -implicitDefEqProofs (disch := omega) only [go_sem, hb]) <;> clear hb
   | simp (maxSteps := 1000000) -implicitDefEqProofs (disch := omega) only [go_sem])
 · refine ret_do ?_
   rfl
 · rw [hn] at hif; exact absurd rfl hif
theorem open_ok (bs : List Box) (cs : List Bill) (hf : Fits bs cs) (h : checkR bs cs = 0) (hn : allW bs cs ≠ []) : Ct Tryd.prog 55 [encLoad bs cs] (.tup [encLoad bs cs, .sl 1 ((allW bs cs).map encW) false, .lit (.int .i64 0)]) := by
 have hv := (good_of_check h).valid
 refine fn_enter Tryd.func55 rfl (by decide) Tryd.results55 Tryd.ntmps55 ?_ rfl (by simp (maxSteps := 1000000) -implicitDefEqProofs (disch := omega) only [go_sem]; rfl) fun base => ?_
 · first | assumption | (simp only [go_sem] <;> assumption) | (simp only [go_sem, *]; done) | (simp [go_sem]; done)
 repeat' (first
   | (with_reducible apply Req_intro); focus (first | omega | assumption | (simp; done))
   | with_reducible (first | apply Req_intro | refine nilT ?_ fun hn => ?_ | apply wk_draw Tryd_mixed | refine drawEnd (by kernel_rfl) ?_)
   | (with_reducible (first | apply condA_if | apply stepDG_ifN | apply stepDG_if | apply stepG_ifN | apply stepG_if)) <;> intro hb <;> (have hif := hb) <;> (try simp only [bo] at hif) <;> (try simp -implicitDefEqProofs (disch := omega) only [go_sem, hb]) <;> clear hb
   | simp (maxSteps := 1000000) -implicitDefEqProofs (disch := omega) only [go_sem])
 refine callp (Check_spec bs cs hf.b hf.c) ?_
 try simp (maxSteps := 1000000) -implicitDefEqProofs (disch := omega) only [go_sem]
 repeat' (first
   | (with_reducible apply Req_intro); focus (first | omega | assumption | (simp; done))
   | with_reducible (first | apply Req_intro | refine nilT ?_ fun hn => ?_ | apply wk_draw Tryd_mixed | refine drawEnd (by kernel_rfl) ?_)
   | (with_reducible (first | apply condA_if | apply stepDG_ifN | apply stepDG_if | apply stepG_ifN | apply stepG_if)) <;> intro hb <;> (have hif := hb) <;> (try simp only [bo] at hif) <;> (try simp -implicitDefEqProofs (disch := omega) only [go_sem, hb]) <;> clear hb
   | simp (maxSteps := 1000000) -implicitDefEqProofs (disch := omega) only [go_sem])
 · exact absurd h hif
 refine callp (all_spec bs cs hv (by have := hv.few; omega)) ?_
 try simp (maxSteps := 1000000) -implicitDefEqProofs (disch := omega) only [go_sem]
 repeat' (first
   | (with_reducible apply Req_intro); focus (first | omega | assumption | (simp; done))
   | with_reducible (first | apply Req_intro | refine nilT ?_ fun hn => ?_ | apply wk_draw Tryd_mixed | refine drawEnd (by kernel_rfl) ?_)
   | (with_reducible (first | apply condA_if | apply stepDG_ifN | apply stepDG_if | apply stepG_ifN | apply stepG_if)) <;> intro hb <;> (have hif := hb) <;> (try simp only [bo] at hif) <;> (try simp -implicitDefEqProofs (disch := omega) only [go_sem, hb]) <;> clear hb
   | simp (maxSteps := 1000000) -implicitDefEqProofs (disch := omega) only [go_sem])
 · exact absurd (List.eq_nil_of_length_eq_zero (by omega)) hn
 · refine ret_do ?_
   rfl
end Go.Aw
end
section
set_option maxRecDepth 20000
namespace Go.Aw
open Go.RowKit Go.Proofs
abbrev nilV : V := .lit (.slice none 0 0)
abbrev int (n : Int) : V := .lit (.int .i64 n)
inductive OpenIs (bs : List Box) (cs : List Bill) : Int → Prop
 | err (h : checkR bs cs ≠ 0) : OpenIs bs cs (checkR bs cs)
 | none (h : checkR bs cs = 0) (hn : allW bs cs = []) : OpenIs bs cs 9
theorem OpenIs.ne {bs : List Box} {cs : List Bill} {e : Int} (h : OpenIs bs cs e) : e ≠ 0 := by
 cases h with
 | err h => exact h
 | none => decide
def errL : V := .agg [nilV, nilV]
theorem open_no (bs : List Box) (cs : List Bill) (hf : Fits bs cs) (e : Int) (h : OpenIs bs cs e) : ∃ a b : V, Pu a ∧ Pu b ∧ (a.cell = true ∧ b.cell = true) ∧ Ct Tryd.prog 55 [encLoad bs cs] (.tup [.agg [a, b], nilV, int e]) := by
 cases h with
 | err h => exact ⟨nilV, nilV, .lit _, .lit _, ⟨rfl, rfl⟩, open_err bs cs hf h⟩
 | none h hn => exact ⟨.sl 1 (bs.map encB) false, .sl 2 (cs.map encBill) false, by first | assumption | (simp only [go_sem] <;> assumption) | (simp only [go_sem, *]; done) | (simp [go_sem]; done), by first | assumption | (simp only [go_sem] <;> assumption) | (simp only [go_sem, *]; done) | (simp [go_sem]; done), ⟨rfl, rfl⟩, open_none bs cs hf h hn⟩
theorem pos_of_ne {α : Type} {l : List α} (h : l ≠ []) : 0 < l.length := List.length_pos_iff.2 h
theorem openBox_ok (bs : List Box) (cs : List Bill) (ns : List Int) (e : Bool) (hf : Fits bs cs) (h : checkR bs cs = 0) (hn : allW bs cs ≠ []) (hl : ns.length ≤ 100) (hi : ns.all (inR' 0 (bs.length - 1)) = true) : Ct Tryd.prog 58 [encLoad bs cs, .sl 1 (ns.map encI) e] (.tup [encLoad bs cs, .sl 1 ((allW bs cs).map encW) false, int 0]) := by
 have hg := good_of_check h
 have h8 := hg.nb
 refine fn_enter Tryd.func58 rfl (by decide) Tryd.results58 Tryd.ntmps58 ?_ rfl (by simp (maxSteps := 1000000) -implicitDefEqProofs (disch := omega) only [go_sem]; rfl) fun base => ?_
 · first | assumption | (simp only [go_sem] <;> assumption) | (simp only [go_sem, *]; done) | (simp [go_sem]; done)
 repeat' (first
   | (with_reducible apply Req_intro); focus (first | omega | assumption | (simp; done))
   | with_reducible (first | apply Req_intro | refine nilT ?_ fun hn => ?_ | apply wk_draw Tryd_mixed | refine drawEnd (by kernel_rfl) ?_)
   | (with_reducible (first | apply condA_if | apply stepDG_ifN | apply stepDG_if | apply stepG_ifN | apply stepG_if)) <;> intro hb <;> (have hif := hb) <;> (try simp only [bo] at hif) <;> (try simp -implicitDefEqProofs (disch := omega) only [go_sem, hb]) <;> clear hb
   | simp (maxSteps := 1000000) -implicitDefEqProofs (disch := omega) only [go_sem])
 refine callp (open_ok bs cs hf h hn) ?_
 try simp (maxSteps := 1000000) -implicitDefEqProofs (disch := omega) only [go_sem]
 repeat' (first
   | (with_reducible apply Req_intro); focus (first | omega | assumption | (simp; done))
   | with_reducible (first | apply Req_intro | refine nilT ?_ fun hn => ?_ | apply wk_draw Tryd_mixed | refine drawEnd (by kernel_rfl) ?_)
   | (with_reducible (first | apply condA_if | apply stepDG_ifN | apply stepDG_if | apply stepG_ifN | apply stepG_if)) <;> intro hb <;> (have hif := hb) <;> (try simp only [bo] at hif) <;> (try simp -implicitDefEqProofs (disch := omega) only [go_sem, hb]) <;> clear hb
   | simp (maxSteps := 1000000) -implicitDefEqProofs (disch := omega) only [go_sem])
 refine callp (within_spec 0 (bs.length - 1) ns _ (by omega)) ?_
 try simp (maxSteps := 1000000) -implicitDefEqProofs (disch := omega) only [go_sem]
 repeat' (first
   | (with_reducible apply Req_intro); focus (first | omega | assumption | (simp; done))
   | with_reducible (first | apply Req_intro | refine nilT ?_ fun hn => ?_ | apply wk_draw Tryd_mixed | refine drawEnd (by kernel_rfl) ?_)
   | (with_reducible (first | apply condA_if | apply stepDG_ifN | apply stepDG_if | apply stepG_ifN | apply stepG_if)) <;> intro hb <;> (have hif := hb) <;> (try simp only [bo] at hif) <;> (try simp -implicitDefEqProofs (disch := omega) only [go_sem, hb]) <;> clear hb
   | simp (maxSteps := 1000000) -implicitDefEqProofs (disch := omega) only [go_sem])
 · rw [hi] at hif; cases hif
 · refine ret_do ?_
   rfl
theorem openBox_no (bs : List Box) (cs : List Bill) (ns : List Int) (x : Bool) (hf : Fits bs cs) (e : Int) (h : OpenIs bs cs e) : ∃ a b : V, Pu a ∧ Pu b ∧ (a.cell = true ∧ b.cell = true) ∧ Ct Tryd.prog 58 [encLoad bs cs, .sl 1 (ns.map encI) x] (.tup [.agg [a, b], nilV, int e]) := by
 obtain ⟨a, b, ha, hb, hab, hc⟩ := open_no bs cs hf e h
 have h0 := h.ne
 refine ⟨a, b, ha, hb, hab, ?_⟩
 refine fn_enter Tryd.func58 rfl (by decide) Tryd.results58 Tryd.ntmps58 ?_ rfl (by simp (maxSteps := 1000000) -implicitDefEqProofs (disch := omega) only [go_sem]; rfl) fun base => ?_
 · first | assumption | (simp only [go_sem] <;> assumption) | (simp only [go_sem, *]; done) | (simp [go_sem]; done)
 repeat' (first
   | (with_reducible apply Req_intro); focus (first | omega | assumption | (simp; done))
   | with_reducible (first | apply Req_intro | refine nilT ?_ fun hn => ?_ | apply wk_draw Tryd_mixed | refine drawEnd (by kernel_rfl) ?_)
   | (with_reducible (first | apply condA_if | apply stepDG_ifN | apply stepDG_if | apply stepG_ifN | apply stepG_if)) <;> intro hb <;> (have hif := hb) <;> (try simp only [bo] at hif) <;> (try simp -implicitDefEqProofs (disch := omega) only [go_sem, hb]) <;> clear hb
   | simp (maxSteps := 1000000) -implicitDefEqProofs (disch := omega) only [go_sem])
 refine callp hc ?_
 try simp (maxSteps := 1000000) -implicitDefEqProofs (disch := omega) only [go_sem]
 repeat' (first
   | (with_reducible apply Req_intro); focus (first | omega | assumption | (simp; done))
   | with_reducible (first | apply Req_intro | refine nilT ?_ fun hn => ?_ | apply wk_draw Tryd_mixed | refine drawEnd (by kernel_rfl) ?_)
   | (with_reducible (first | apply condA_if | apply stepDG_ifN | apply stepDG_if | apply stepG_ifN | apply stepG_if)) <;> intro hb <;> (have hif := hb) <;> (try simp only [bo] at hif) <;> (try simp -implicitDefEqProofs (disch := omega) only [go_sem, hb]) <;> clear hb
   | simp (maxSteps := 1000000) -implicitDefEqProofs (disch := omega) only [go_sem])
 · exact absurd hif h0
 · refine ret_do ?_
   rfl
theorem Ways_ok (bs : List Box) (cs : List Bill) (hf : Fits bs cs) (h : checkR bs cs = 0) (hn : allW bs cs ≠ []) : Ct Tryd.prog 18 [encLoad bs cs] (.tup [int (allW bs cs).length, .sl 1 (((allW bs cs).getD 0 default).map encI) false, int 0]) := by
 have hg := good_of_check h
 have h8 := hg.valid.few
 have h1 := pos_of_ne hn
 refine fn_enter Tryd.func18 rfl (by decide) Tryd.results18 Tryd.ntmps18 ?_ rfl (by simp (maxSteps := 1000000) -implicitDefEqProofs (disch := omega) only [go_sem]; rfl) fun base => ?_
 · first | assumption | (simp only [go_sem] <;> assumption) | (simp only [go_sem, *]; done) | (simp [go_sem]; done)
 repeat' (first
   | (with_reducible apply Req_intro); focus (first | omega | assumption | (simp; done))
   | with_reducible (first | apply Req_intro | refine nilT ?_ fun hn => ?_ | apply wk_draw Tryd_mixed | refine drawEnd (by kernel_rfl) ?_)
   | (with_reducible (first | apply condA_if | apply stepDG_ifN | apply stepDG_if | apply stepG_ifN | apply stepG_if)) <;> intro hb <;> (have hif := hb) <;> (try simp only [bo] at hif) <;> (try simp -implicitDefEqProofs (disch := omega) only [go_sem, hb]) <;> clear hb
   | simp (maxSteps := 1000000) -implicitDefEqProofs (disch := omega) only [go_sem])
 refine callp (open_ok bs cs hf h hn) ?_
 try simp (maxSteps := 1000000) -implicitDefEqProofs (disch := omega) only [go_sem]
 repeat' (first
   | (with_reducible apply Req_intro); focus (first | omega | assumption | (simp; done))
   | with_reducible (first | apply Req_intro | refine nilT ?_ fun hn => ?_ | apply wk_draw Tryd_mixed | refine drawEnd (by kernel_rfl) ?_)
   | (with_reducible (first | apply condA_if | apply stepDG_ifN | apply stepDG_if | apply stepG_ifN | apply stepG_if)) <;> intro hb <;> (have hif := hb) <;> (try simp only [bo] at hif) <;> (try simp -implicitDefEqProofs (disch := omega) only [go_sem, hb]) <;> clear hb
   | simp (maxSteps := 1000000) -implicitDefEqProofs (disch := omega) only [go_sem])
 refine ret_do ?_
 rfl
theorem Ways_no (bs : List Box) (cs : List Bill) (hf : Fits bs cs) (e : Int) (h : OpenIs bs cs e) : Ct Tryd.prog 18 [encLoad bs cs] (.tup [int 0, nilV, int e]) := by
 obtain ⟨a, b, ha, hb, hab, hc⟩ := open_no bs cs hf e h
 have h0 := h.ne
 refine fn_enter Tryd.func18 rfl (by decide) Tryd.results18 Tryd.ntmps18 ?_ rfl (by simp (maxSteps := 1000000) -implicitDefEqProofs (disch := omega) only [go_sem]; rfl) fun base => ?_
 · first | assumption | (simp only [go_sem] <;> assumption) | (simp only [go_sem, *]; done) | (simp [go_sem]; done)
 repeat' (first
   | (with_reducible apply Req_intro); focus (first | omega | assumption | (simp; done))
   | with_reducible (first | apply Req_intro | refine nilT ?_ fun hn => ?_ | apply wk_draw Tryd_mixed | refine drawEnd (by kernel_rfl) ?_)
   | (with_reducible (first | apply condA_if | apply stepDG_ifN | apply stepDG_if | apply stepG_ifN | apply stepG_if)) <;> intro hb <;> (have hif := hb) <;> (try simp only [bo] at hif) <;> (try simp -implicitDefEqProofs (disch := omega) only [go_sem, hb]) <;> clear hb
   | simp (maxSteps := 1000000) -implicitDefEqProofs (disch := omega) only [go_sem])
 refine callp hc ?_
 try simp (maxSteps := 1000000) -implicitDefEqProofs (disch := omega) only [go_sem]
 repeat' (first
   | (with_reducible apply Req_intro); focus (first | omega | assumption | (simp; done))
   | with_reducible (first | apply Req_intro | refine nilT ?_ fun hn => ?_ | apply wk_draw Tryd_mixed | refine drawEnd (by kernel_rfl) ?_)
   | (with_reducible (first | apply condA_if | apply stepDG_ifN | apply stepDG_if | apply stepG_ifN | apply stepG_if)) <;> intro hb <;> (have hif := hb) <;> (try simp only [bo] at hif) <;> (try simp -implicitDefEqProofs (disch := omega) only [go_sem, hb]) <;> clear hb
   | simp (maxSteps := 1000000) -implicitDefEqProofs (disch := omega) only [go_sem])
 · refine ret_do ?_
   rfl
 · exact absurd hif h0
end Go.Aw
end
section
set_option maxRecDepth 20000
namespace Go.Aw
open Go.RowKit Go.Proofs
def WaysOk (m n : Nat) (ws : List (List Int)) : Prop := ∀ w ∈ ws, w.length = n ∧ ∀ x ∈ w, 0 ≤ x ∧ x < m
theorem waysG_ok (cs : List Bill) : ∀ (rest : List Box) (now : List Int) (hv : Carts), (∀ x ∈ now, 0 ≤ x ∧ x < cs.length) → WaysOk cs.length (now.length + rest.length) (waysG cs rest now hv)
 | [], now, hv, h => by
   intro w hw
   simp only [waysG] at hw
   split at hw
   · rw [List.mem_singleton] at hw; subst hw; exact ⟨rfl, h⟩
   · cases hw
 | b :: rest, now, hv, h => by
   intro w hw
   simp only [waysG, List.mem_flatMap, List.mem_range] at hw
   obtain ⟨k, hk, hw⟩ := hw
   split at hw
   · cases hw
   have := waysG_ok cs rest (now ++ [(k : Int)]) _ (by
     intro x hx
     rw [List.mem_append, List.mem_singleton] at hx
     rcases hx with hx | rfl
     · exact h x hx
     · omega) w hw
   rw [List.length_append] at this
   refine ⟨?_, this.2⟩
   rw [this.1]; simp; omega
theorem allW_ok (bs : List Box) (cs : List Bill) : WaysOk cs.length bs.length (allW bs cs) := by
 have := waysG_ok cs bs [] carts0 (by intro x hx; cases hx)
 simpa [allW] using this
def bx (w : List Int) (a : Int) : Int := w.getD a.toNat default
theorem Together1_spec (w : List Int) (e : Bool) (a b : Int) (ha : 0 ≤ a ∧ a < w.length) (hb : 0 ≤ b ∧ b < w.length) (hl : w.length ≤ 1000) : Ct Tryd.prog 59 [.sl 1 (w.map encI) e, .rp [int a], .rp [int b]] (.lit (.bool (bx w a == bx w b))) := by
 obtain ⟨i, rfl⟩ := Int.eq_ofNat_of_zero_le ha.1
 obtain ⟨j, rfl⟩ := Int.eq_ofNat_of_zero_le hb.1
 refine fn_enter Tryd.func59 rfl (by decide) Tryd.results59 Tryd.ntmps59 ?_ rfl (by simp (maxSteps := 1000000) -implicitDefEqProofs (disch := omega) only [go_sem]; rfl) fun base => ?_
 · first | assumption | (simp only [go_sem] <;> assumption) | (simp only [go_sem, *]; done) | (simp [go_sem]; done)
 repeat' (first
   | (with_reducible apply Req_intro); focus (first | omega | assumption | (simp; done))
   | with_reducible (first | apply Req_intro | refine nilT ?_ fun hn => ?_ | apply wk_draw Tryd_mixed | refine drawEnd (by kernel_rfl) ?_)
   | (with_reducible (first | apply condA_if | apply stepDG_ifN | apply stepDG_if | apply stepG_ifN | apply stepG_if)) <;> intro hb <;> (have hif := hb) <;> (try simp only [bo] at hif) <;> (try simp -implicitDefEqProofs (disch := omega) only [go_sem, hb]) <;> clear hb
   | simp (maxSteps := 1000000) -implicitDefEqProofs (disch := omega) only [go_sem])
 refine ret_do ?_
 simp [bx, retV]
theorem Together2_spec (w : List Int) (e : Bool) (a b : Int) (ha : 0 ≤ a ∧ a < w.length) (hb : 0 ≤ b ∧ b < w.length) (hl : w.length ≤ 1000) : Ct Tryd.prog 60 [.sl 1 (w.map encI) e, .rp [int a], .rp [int b]] (.lit (.bool (bx w a != bx w b))) := by
 obtain ⟨i, rfl⟩ := Int.eq_ofNat_of_zero_le ha.1
 obtain ⟨j, rfl⟩ := Int.eq_ofNat_of_zero_le hb.1
 refine fn_enter Tryd.func60 rfl (by decide) Tryd.results60 Tryd.ntmps60 ?_ rfl (by simp (maxSteps := 1000000) -implicitDefEqProofs (disch := omega) only [go_sem]; rfl) fun base => ?_
 · first | assumption | (simp only [go_sem] <;> assumption) | (simp only [go_sem, *]; done) | (simp [go_sem]; done)
 repeat' (first
   | (with_reducible apply Req_intro); focus (first | omega | assumption | (simp; done))
   | with_reducible (first | apply Req_intro | refine nilT ?_ fun hn => ?_ | apply wk_draw Tryd_mixed | refine drawEnd (by kernel_rfl) ?_)
   | (with_reducible (first | apply condA_if | apply stepDG_ifN | apply stepDG_if | apply stepG_ifN | apply stepG_if)) <;> intro hb <;> (have hif := hb) <;> (try simp only [bo] at hif) <;> (try simp -implicitDefEqProofs (disch := omega) only [go_sem, hb]) <;> clear hb
   | simp (maxSteps := 1000000) -implicitDefEqProofs (disch := omega) only [go_sem])
 refine ret_do ?_
 simp [bx, retV]
theorem Together_no (bs : List Box) (cs : List Bill) (a b : Int) (hf : Fits bs cs) (e : Int) (h : OpenIs bs cs e) : Ct Tryd.prog 24 [encLoad bs cs, int a, int b] (.tup [.lit (.bool false), .lit (.bool false), int e]) := by
 obtain ⟨x, y, hx, hy, hxy, hc⟩ := openBox_no bs cs [a, b] true hf e h
 have h0 := h.ne
 refine fn_enter Tryd.func24 rfl (by decide) Tryd.results24 Tryd.ntmps24 ?_ rfl (by simp (maxSteps := 1000000) -implicitDefEqProofs (disch := omega) only [go_sem]; rfl) fun base => ?_
 · first | assumption | (simp only [go_sem] <;> assumption) | (simp only [go_sem, *]; done) | (simp [go_sem]; done)
 repeat' (first
   | (with_reducible apply Req_intro); focus (first | omega | assumption | (simp; done))
   | with_reducible (first | apply Req_intro | refine nilT ?_ fun hn => ?_ | apply wk_draw Tryd_mixed | refine drawEnd (by kernel_rfl) ?_)
   | (with_reducible (first | apply condA_if | apply stepDG_ifN | apply stepDG_if | apply stepG_ifN | apply stepG_if)) <;> intro hb <;> (have hif := hb) <;> (try simp only [bo] at hif) <;> (try simp -implicitDefEqProofs (disch := omega) only [go_sem, hb]) <;> clear hb
   | simp (maxSteps := 1000000) -implicitDefEqProofs (disch := omega) only [go_sem])
 refine callf2 [576] hc ?_
 try simp (maxSteps := 1000000) -implicitDefEqProofs (disch := omega) only [go_sem]
 repeat' (first
   | (with_reducible apply Req_intro); focus (first | omega | assumption | (simp; done))
   | with_reducible (first | apply Req_intro | refine nilT ?_ fun hn => ?_ | apply wk_draw Tryd_mixed | refine drawEnd (by kernel_rfl) ?_)
   | (with_reducible (first | apply condA_if | apply stepDG_ifN | apply stepDG_if | apply stepG_ifN | apply stepG_if)) <;> intro hb <;> (have hif := hb) <;> (try simp only [bo] at hif) <;> (try simp -implicitDefEqProofs (disch := omega) only [go_sem, hb]) <;> clear hb
   | simp (maxSteps := 1000000) -implicitDefEqProofs (disch := omega) only [go_sem])
 all_goals first | exact absurd ‹e = 0› h0 | skip
 refine ret_do ?_
 rfl
theorem Together_ok (bs : List Box) (cs : List Bill) (a b : Int) (hf : Fits bs cs) (h : checkR bs cs = 0) (hn : allW bs cs ≠ []) (hi : [a, b].all (inR' 0 (bs.length - 1)) = true) (hab : a ≠ b) : Ct Tryd.prog 24 [encLoad bs cs, int a, int b]
   (.tup [.lit (.bool (!(allW bs cs).any fun w => bx w a != bx w b)), .lit (.bool ((allW bs cs).any fun w => bx w a == bx w b)), int 0]) := by
 have hg := good_of_check h
 have h8 := hg.nb
 have hfew := hg.valid.few
 have hok := allW_ok bs cs
 have hr : (0 ≤ a ∧ a < bs.length) ∧ (0 ≤ b ∧ b < bs.length) := by
   simp [inR'] at hi; omega
 refine fn_enter Tryd.func24 rfl (by decide) Tryd.results24 Tryd.ntmps24 ?_ rfl (by simp (maxSteps := 1000000) -implicitDefEqProofs (disch := omega) only [go_sem]; rfl) fun base => ?_
 · first | assumption | (simp only [go_sem] <;> assumption) | (simp only [go_sem, *]; done) | (simp [go_sem]; done)
 repeat' (first
   | (with_reducible apply Req_intro); focus (first | omega | assumption | (simp; done))
   | with_reducible (first | apply Req_intro | refine nilT ?_ fun hn => ?_ | apply wk_draw Tryd_mixed | refine drawEnd (by kernel_rfl) ?_)
   | (with_reducible (first | apply condA_if | apply stepDG_ifN | apply stepDG_if | apply stepG_ifN | apply stepG_if)) <;> intro hb <;> (have hif := hb) <;> (try simp only [bo] at hif) <;> (try simp -implicitDefEqProofs (disch := omega) only [go_sem, hb]) <;> clear hb
   | simp (maxSteps := 1000000) -implicitDefEqProofs (disch := omega) only [go_sem])
 refine callf2 [576] (openBox_ok bs cs [a, b] _ hf h hn (by simp) hi) ?_
 try simp (maxSteps := 1000000) -implicitDefEqProofs (disch := omega) only [go_sem]
 repeat' (first
   | (with_reducible apply Req_intro); focus (first | omega | assumption | (simp; done))
   | with_reducible (first | apply Req_intro | refine nilT ?_ fun hn => ?_ | apply wk_draw Tryd_mixed | refine drawEnd (by kernel_rfl) ?_)
   | (with_reducible (first | apply condA_if | apply stepDG_ifN | apply stepDG_if | apply stepG_ifN | apply stepG_if)) <;> intro hb <;> (have hif := hb) <;> (try simp only [bo] at hif) <;> (try simp -implicitDefEqProofs (disch := omega) only [go_sem, hb]) <;> clear hb
   | simp (maxSteps := 1000000) -implicitDefEqProofs (disch := omega) only [go_sem])
 · exact absurd hif hab
 refine callc (ContainsFunc_way (allW bs cs) _ (fun w => bx w a != bx w b) 60 [.rp [int a], .rp [int b]] (by omega) (by first | assumption | (simp only [go_sem] <;> assumption) | (simp only [go_sem, *]; done) | (simp [go_sem]; done)) (fun w hw => Together2_spec w false a b (by have := (hok w hw).1; omega) (by have := (hok w hw).1; omega) (by have := (hok w hw).1; omega))) ?_
 try simp (maxSteps := 1000000) -implicitDefEqProofs (disch := omega) only [go_sem]
 repeat' (first
   | (with_reducible apply Req_intro); focus (first | omega | assumption | (simp; done))
   | with_reducible (first | apply Req_intro | refine nilT ?_ fun hn => ?_ | apply wk_draw Tryd_mixed | refine drawEnd (by kernel_rfl) ?_)
   | (with_reducible (first | apply condA_if | apply stepDG_ifN | apply stepDG_if | apply stepG_ifN | apply stepG_if)) <;> intro hb <;> (have hif := hb) <;> (try simp only [bo] at hif) <;> (try simp -implicitDefEqProofs (disch := omega) only [go_sem, hb]) <;> clear hb
   | simp (maxSteps := 1000000) -implicitDefEqProofs (disch := omega) only [go_sem])
 refine callc (ContainsFunc_way (allW bs cs) _ (fun w => bx w a == bx w b) 59 [.rp [int a], .rp [int b]] (by omega) (by first | assumption | (simp only [go_sem] <;> assumption) | (simp only [go_sem, *]; done) | (simp [go_sem]; done)) (fun w hw => Together1_spec w false a b (by have := (hok w hw).1; omega) (by have := (hok w hw).1; omega) (by have := (hok w hw).1; omega))) ?_
 try simp (maxSteps := 1000000) -implicitDefEqProofs (disch := omega) only [go_sem]
 repeat' (first
   | (with_reducible apply Req_intro); focus (first | omega | assumption | (simp; done))
   | with_reducible (first | apply Req_intro | refine nilT ?_ fun hn => ?_ | apply wk_draw Tryd_mixed | refine drawEnd (by kernel_rfl) ?_)
   | (with_reducible (first | apply condA_if | apply stepDG_ifN | apply stepDG_if | apply stepG_ifN | apply stepG_if)) <;> intro hb <;> (have hif := hb) <;> (try simp only [bo] at hif) <;> (try simp -implicitDefEqProofs (disch := omega) only [go_sem, hb]) <;> clear hb
   | simp (maxSteps := 1000000) -implicitDefEqProofs (disch := omega) only [go_sem])
 refine ret_do ?_
 rfl
end Go.Aw
end
section
set_option maxRecDepth 20000
namespace Go.Aw
open Go.RowKit Go.Proofs
def grp (ws : List (List Int)) (b : Nat) (k : Int) : List (List Int) := ws.filter fun w => w.getD b default == k
theorem grp_snoc_eq {ws : List (List Int)} {b : Nat} {k : Int} {x : Nat} (hx : x < ws.length) (h : (ws.getD x default).getD b default = k) : grp (ws.take (x + 1)) b k = grp (ws.take x) b k ++ [ws.getD x default] := by
 rw [take_succ_getD hx]; simp only [grp, List.filter_append]; rw [List.filter_cons_of_pos (by rw [h]; simp)]; rfl
theorem grp_snoc_ne {ws : List (List Int)} {b : Nat} {k j : Int} {x : Nat} (hx : x < ws.length) (h : (ws.getD x default).getD b default = j) (hne : j ≠ k) : grp (ws.take (x + 1)) b k = grp (ws.take x) b k := by
 rw [take_succ_getD hx]; simp only [grp, List.filter_append]; rw [List.filter_cons_of_neg (by rw [h]; simpa using hne)]; simp
def gcell (id : Nat) (ws : List (List Int)) (b : Nat) (k : Int) : V := .os id 1 (grp ws b k).length false
def grow (ws : List (List Int)) (b : Nat) (k : Int) : Option Blk := some ⟨1, (grp ws b k).map encW, 98, .wr⟩
def encG (ws : List (List Int)) (b : Nat) : List V := [.sl 1 ((grp ws b 0).map encW) false, .sl 1 ((grp ws b 1).map encW) false, .sl 1 ((grp ws b 2).map encW) false]
theorem PuW {l : List (List Int)} : ∀ e ∈ l.map encW, ∀ c ∈ e, Pu c := by
 intro e he c hc
 rw [List.mem_map] at he
 obtain ⟨w, _, rfl⟩ := he
 revert c
 show PuL (encW w)
 first | assumption | (simp only [go_sem] <;> assumption) | (simp only [go_sem, *]; done) | (simp [go_sem]; done)
theorem encG_pu (ws : List (List Int)) (b : Nat) : Pu (.agg (encG ws b)) := by
 rw [Pu_agg]
 intro c hc
 simp only [encG, List.mem_cons, List.not_mem_nil, or_false] at hc
 rcases hc with rfl | rfl | rfl <;> exact (Pu_sl ..).2 PuW
theorem answers_spec (ws : List (List Int)) (e : Bool) (n : Nat) (b : Nat) (hw : WaysOk 3 n ws) (hb : b < n) (hn : n ≤ 1000) (hl : ws.length ≤ 1073741824) : Ct Tryd.prog 83 [.sl 1 (ws.map encW) e, int b] (.agg (encG ws b)) := by
 refine ct_enterZ Tryd.func83 rfl (by decide) Tryd.results83 Tryd.ntmps83 ?_ rfl (by simp (maxSteps := 1000000) -implicitDefEqProofs (disch := omega) only [go_sem]; rfl) fun base => ?_
 · exact encG_pu ws b
 repeat' (first
   | (with_reducible apply Req_intro); focus (first | omega | assumption | (simp; done))
   | with_reducible (first | apply Req_intro | refine nilT ?_ fun hn => ?_ | apply wk_draw Tryd_mixed | refine drawEnd (by kernel_rfl) ?_)
   | (with_reducible (first | apply condA_if | apply stepDG_ifN | apply stepDG_if | apply stepG_ifN | apply stepG_if)) <;> intro hb <;> (have hif := hb) <;> (try simp only [bo] at hif) <;> (try simp -implicitDefEqProofs (disch := omega) only [go_sem, hb]) <;> clear hb
   | simp (maxSteps := 1000000) -implicitDefEqProofs (disch := omega) only [go_sem])
 refine loop_rows (α := Nat) [6, 9, 10, 11, 12, 13, 14, 15, 16, 17, 18, 19, 20, 21, 22, 23, 24, 25, 26, 27] (fun i => [(9, .lit (.int .i64 i))]) (fun i => [(0, some ⟨3, [[.os 64 1 (grp (ws.take i) b 0).length false, .os 128 1 (grp (ws.take i) b 1).length false, .os 192 1 (grp (ws.take i) b 2).length false]], 130, .wr⟩), (64, some ⟨1, (grp (ws.take i) b 0).map encW, 98, .wr⟩), (128, some ⟨1, (grp (ws.take i) b 1).map encW, 98, .wr⟩), (192, some ⟨1, (grp (ws.take i) b 2).map encW, 98, .wr⟩)]) (fun i => i ≤ ws.length) (fun i => ws.length - i) 0 (fun x => by simp (maxSteps := 1000000) -implicitDefEqProofs (disch := omega) only [go_sem]; rfl) ?_ ?_ fun x hx => ?_
 · simp only [List.take_zero, grp, List.filter_nil, List.map_nil, List.length_nil]
   exact weak_do [(64, 1000000), (128, 1000001), (192, 1000002)]
 · exact Nat.zero_le _
 by_cases hlt : x < ws.length
 · have hm := hw _ (getD_mem hlt)
   have hv := hm.2 _ (getD_mem (l := ws.getD x default) (i := b) (by omega))
   have hlen := hm.1
   have h0 : ∀ k, (grp (ws.take x) b k).length ≤ x := fun k => Nat.le_trans (List.length_filter_le _ _) (by rw [List.length_take]; omega)
   have h00 := h0 0
   have h01 := h0 1
   have h02 := h0 2
   have hk : (ws.getD x default).getD b default = 0 ∨ (ws.getD x default).getD b default = 1 ∨ (ws.getD x default).getD b default = 2 := by omega
   clear hv
   rcases hk with hk | hk | hk
   · repeat' (first
       | (with_reducible apply Req_intro); focus (first | omega | assumption | (simp; done))
       | with_reducible (first | apply Req_intro | refine nilT ?_ fun hn => ?_ | apply wk_draw Tryd_mixed | refine drawEnd (by kernel_rfl) ?_)
       | (with_reducible (first | apply condA_if | apply stepDG_ifN | apply stepDG_if | apply stepG_ifN | apply stepG_if)) <;> intro hb <;> (have hif := hb) <;> (try simp only [bo] at hif) <;> (try simp -implicitDefEqProofs (disch := omega) only [go_sem, hb, hk]) <;> clear hb
       | simp (maxSteps := 1000000) -implicitDefEqProofs (disch := omega) only [go_sem, hk])
     · with_reducible refine nxt_w (x + 1) ?_ ?_
       · (try dsimp only)
         rw [grp_snoc_eq hlt hk, grp_snoc_ne hlt hk (show (0 : Int) ≠ 1 by decide), grp_snoc_ne hlt hk (show (0 : Int) ≠ 2 by decide), List.map_append, List.length_append]
         exact weak_do [(64, 1280)]
       try dsimp only
       omega
     · exact absurd hlt hif
   · repeat' (first
       | (with_reducible apply Req_intro); focus (first | omega | assumption | (simp; done))
       | with_reducible (first | apply Req_intro | refine nilT ?_ fun hn => ?_ | apply wk_draw Tryd_mixed | refine drawEnd (by kernel_rfl) ?_)
       | (with_reducible (first | apply condA_if | apply stepDG_ifN | apply stepDG_if | apply stepG_ifN | apply stepG_if)) <;> intro hb <;> (have hif := hb) <;> (try simp only [bo] at hif) <;> (try simp -implicitDefEqProofs (disch := omega) only [go_sem, hb, hk]) <;> clear hb
       | simp (maxSteps := 1000000) -implicitDefEqProofs (disch := omega) only [go_sem, hk])
     · with_reducible refine nxt_w (x + 1) ?_ ?_
       · (try dsimp only)
         rw [grp_snoc_eq hlt hk, grp_snoc_ne hlt hk (show (1 : Int) ≠ 0 by decide), grp_snoc_ne hlt hk (show (1 : Int) ≠ 2 by decide), List.map_append, List.length_append]
         exact weak_do [(128, 1280)]
       try dsimp only
       omega
     · exact absurd hlt hif
   · repeat' (first
       | (with_reducible apply Req_intro); focus (first | omega | assumption | (simp; done))
       | with_reducible (first | apply Req_intro | refine nilT ?_ fun hn => ?_ | apply wk_draw Tryd_mixed | refine drawEnd (by kernel_rfl) ?_)
       | (with_reducible (first | apply condA_if | apply stepDG_ifN | apply stepDG_if | apply stepG_ifN | apply stepG_if)) <;> intro hb <;> (have hif := hb) <;> (try simp only [bo] at hif) <;> (try simp -implicitDefEqProofs (disch := omega) only [go_sem, hb, hk]) <;> clear hb
       | simp (maxSteps := 1000000) -implicitDefEqProofs (disch := omega) only [go_sem, hk])
     · with_reducible refine nxt_w (x + 1) ?_ ?_
       · (try dsimp only)
         rw [grp_snoc_eq hlt hk, grp_snoc_ne hlt hk (show (2 : Int) ≠ 0 by decide), grp_snoc_ne hlt hk (show (2 : Int) ≠ 1 by decide), List.map_append, List.length_append]
         exact weak_do [(192, 1280)]
       try dsimp only
       omega
     · exact absurd hlt hif
 · repeat' (first
     | (with_reducible apply Req_intro); focus (first | omega | assumption | (simp; done))
     | with_reducible (first | apply Req_intro | refine nilT ?_ fun hn => ?_ | apply wk_draw Tryd_mixed | refine drawEnd (by kernel_rfl) ?_)
     | (with_reducible (first | apply condA_if | apply stepDG_ifN | apply stepDG_if | apply stepG_ifN | apply stepG_if)) <;> intro hb <;> (have hif := hb) <;> (try simp only [bo] at hif) <;> (try simp -implicitDefEqProofs (disch := omega) only [go_sem, hb]) <;> clear hb
     | simp (maxSteps := 1000000) -implicitDefEqProofs (disch := omega) only [go_sem])
   · omega
   obtain rfl : x = ws.length := by omega
   rw [List.take_length]
   simp only [encG]
   exact retz [64, 128, 192]
def worthR (ws : List (List Int)) (b : Nat) : Int := max (max (max 0 ((grp ws b 0).length : Int)) (grp ws b 1).length) (grp ws b 2).length
def worthTo (ws : List (List Int)) (b : Nat) : Int → Int
 | 0 => 0
 | 1 => max 0 ((grp ws b 0).length : Int)
 | 2 => max (max 0 ((grp ws b 0).length : Int)) (grp ws b 1).length
 | _ => worthR ws b
theorem worth_spec (ws : List (List Int)) (e : Bool) (n : Nat) (b : Nat) (hw : WaysOk 3 n ws) (hb : b < n) (hn : n ≤ 1000) (hl : ws.length ≤ 1073741824) : Ct Tryd.prog 62 [.sl 1 (ws.map encW) e, int b] (int (worthR ws b)) := by
 have h0 : ∀ k, (grp ws b k).length ≤ ws.length := fun k => List.length_filter_le _ _
 have h00 := h0 0
 have h01 := h0 1
 have h02 := h0 2
 have hpu := encG_pu ws b
 refine fn_enter Tryd.func62 rfl (by decide) Tryd.results62 Tryd.ntmps62 ?_ rfl (by simp (maxSteps := 1000000) -implicitDefEqProofs (disch := omega) only [go_sem]; rfl) fun base => ?_
 · first | assumption | (simp only [go_sem] <;> assumption) | (simp only [go_sem, *]; done) | (simp [go_sem]; done)
 repeat' (first
   | (with_reducible apply Req_intro); focus (first | omega | assumption | (simp; done))
   | with_reducible (first | apply Req_intro | refine nilT ?_ fun hn => ?_ | apply wk_draw Tryd_mixed | refine drawEnd (by kernel_rfl) ?_)
   | (with_reducible (first | apply condA_if | apply stepDG_ifN | apply stepDG_if | apply stepG_ifN | apply stepG_if)) <;> intro hb <;> (have hif := hb) <;> (try simp only [bo] at hif) <;> (try simp -implicitDefEqProofs (disch := omega) only [go_sem, hb]) <;> clear hb
   | simp (maxSteps := 1000000) -implicitDefEqProofs (disch := omega) only [go_sem])
 refine callp (answers_spec ws e n b hw hb hn hl) ?_
 try simp (maxSteps := 1000000) -implicitDefEqProofs (disch := omega) only [go_sem]
 repeat' (first
   | (with_reducible apply Req_intro); focus (first | omega | assumption | (simp; done))
   | with_reducible (first | apply Req_intro | refine nilT ?_ fun hn => ?_ | apply wk_draw Tryd_mixed | refine drawEnd (by kernel_rfl) ?_)
   | (with_reducible (first | apply condA_if | apply stepDG_ifN | apply stepDG_if | apply stepG_ifN | apply stepG_if)) <;> intro hb <;> (have hif := hb) <;> (try simp only [bo] at hif) <;> (try simp -implicitDefEqProofs (disch := omega) only [go_sem, hb]) <;> clear hb
   | simp (maxSteps := 1000000) -implicitDefEqProofs (disch := omega) only [go_sem])
 simp only [encG]
 refine loop_at (α := Int) [4, 6, 10, 11, 12, 13, 14, 15, 16, 17] (fun i => [(10, .lit (.int .i64 i)), (4, .lit (.int .i64 (worthTo ws b i)))]) (fun i => 0 ≤ i ∧ i ≤ 3) (fun i => (3 - i).toNat) 0 (fun x => by simp (maxSteps := 1000000) -implicitDefEqProofs (disch := omega) only [go_sem]; rfl) ?_ ?_ fun x hx => ?_
 · exact weak_do []
 · decide
 have hk : x = 0 ∨ x = 1 ∨ x = 2 ∨ x = 3 := by omega
 rcases hk with rfl | rfl | rfl | rfl
 · simp only [worthTo]
   repeat' (first
     | (with_reducible apply Req_intro); focus (first | omega | assumption | (simp; done))
     | with_reducible (first | apply Req_intro | refine nilT ?_ fun hn => ?_ | apply wk_draw Tryd_mixed | refine drawEnd (by kernel_rfl) ?_)
     | (with_reducible (first | apply condA_if | apply stepDG_ifN | apply stepDG_if | apply stepG_ifN | apply stepG_if)) <;> intro hb <;> (have hif := hb) <;> (try simp only [bo] at hif) <;> (try simp -implicitDefEqProofs (disch := omega) only [go_sem, hb]) <;> clear hb
     | simp (maxSteps := 1000000) -implicitDefEqProofs (disch := omega) only [go_sem])
   refine nxt_w 1 (weak_do []) ?_
   try dsimp only
   decide
 · simp only [worthTo]
   repeat' (first
     | (with_reducible apply Req_intro); focus (first | omega | assumption | (simp; done))
     | with_reducible (first | apply Req_intro | refine nilT ?_ fun hn => ?_ | apply wk_draw Tryd_mixed | refine drawEnd (by kernel_rfl) ?_)
     | (with_reducible (first | apply condA_if | apply stepDG_ifN | apply stepDG_if | apply stepG_ifN | apply stepG_if)) <;> intro hb <;> (have hif := hb) <;> (try simp only [bo] at hif) <;> (try simp -implicitDefEqProofs (disch := omega) only [go_sem, hb]) <;> clear hb
     | simp (maxSteps := 1000000) -implicitDefEqProofs (disch := omega) only [go_sem])
   refine nxt_w 2 (weak_do []) ?_
   try dsimp only
   decide
 · simp only [worthTo]
   repeat' (first
     | (with_reducible apply Req_intro); focus (first | omega | assumption | (simp; done))
     | with_reducible (first | apply Req_intro | refine nilT ?_ fun hn => ?_ | apply wk_draw Tryd_mixed | refine drawEnd (by kernel_rfl) ?_)
     | (with_reducible (first | apply condA_if | apply stepDG_ifN | apply stepDG_if | apply stepG_ifN | apply stepG_if)) <;> intro hb <;> (have hif := hb) <;> (try simp only [bo] at hif) <;> (try simp -implicitDefEqProofs (disch := omega) only [go_sem, hb]) <;> clear hb
     | simp (maxSteps := 1000000) -implicitDefEqProofs (disch := omega) only [go_sem])
   refine nxt_w 3 (weak_do []) ?_
   try dsimp only
   decide
 · simp only [worthTo]
   repeat' (first
     | (with_reducible apply Req_intro); focus (first | omega | assumption | (simp; done))
     | with_reducible (first | apply Req_intro | refine nilT ?_ fun hn => ?_ | apply wk_draw Tryd_mixed | refine drawEnd (by kernel_rfl) ?_)
     | (with_reducible (first | apply condA_if | apply stepDG_ifN | apply stepDG_if | apply stepG_ifN | apply stepG_if)) <;> intro hb <;> (have hif := hb) <;> (try simp only [bo] at hif) <;> (try simp -implicitDefEqProofs (disch := omega) only [go_sem, hb]) <;> clear hb
     | simp (maxSteps := 1000000) -implicitDefEqProofs (disch := omega) only [go_sem])
   refine ret_do ?_
   rfl
end Go.Aw
end
section
set_option maxRecDepth 20000
namespace Go.Aw
open Go.RowKit Go.Proofs
theorem Worth_no (bs : List Box) (cs : List Bill) (a : Int) (hf : Fits bs cs) (e : Int) (h : OpenIs bs cs e) : Ct Tryd.prog 26 [encLoad bs cs, int a] (.tup [int 0, int e]) := by
 obtain ⟨x, y, hx, hy, hxy, hc⟩ := openBox_no bs cs [a] true hf e h
 have h0 := h.ne
 refine fn_enter Tryd.func26 rfl (by decide) Tryd.results26 Tryd.ntmps26 ?_ rfl (by simp (maxSteps := 1000000) -implicitDefEqProofs (disch := omega) only [go_sem]; rfl) fun base => ?_
 · first | assumption | (simp only [go_sem] <;> assumption) | (simp only [go_sem, *]; done) | (simp [go_sem]; done)
 repeat' (first
   | (with_reducible apply Req_intro); focus (first | omega | assumption | (simp; done))
   | with_reducible (first | apply Req_intro | refine nilT ?_ fun hn => ?_ | apply wk_draw Tryd_mixed | refine drawEnd (by kernel_rfl) ?_)
   | (with_reducible (first | apply condA_if | apply stepDG_ifN | apply stepDG_if | apply stepG_ifN | apply stepG_if)) <;> intro hb <;> (have hif := hb) <;> (try simp only [bo] at hif) <;> (try simp -implicitDefEqProofs (disch := omega) only [go_sem, hb]) <;> clear hb
   | simp (maxSteps := 1000000) -implicitDefEqProofs (disch := omega) only [go_sem])
 refine callf2 [320] hc ?_
 try simp (maxSteps := 1000000) -implicitDefEqProofs (disch := omega) only [go_sem]
 repeat' (first
   | (with_reducible apply Req_intro); focus (first | omega | assumption | (simp; done))
   | with_reducible (first | apply Req_intro | refine nilT ?_ fun hn => ?_ | apply wk_draw Tryd_mixed | refine drawEnd (by kernel_rfl) ?_)
   | (with_reducible (first | apply condA_if | apply stepDG_ifN | apply stepDG_if | apply stepG_ifN | apply stepG_if)) <;> intro hb <;> (have hif := hb) <;> (try simp only [bo] at hif) <;> (try simp -implicitDefEqProofs (disch := omega) only [go_sem, hb]) <;> clear hb
   | simp (maxSteps := 1000000) -implicitDefEqProofs (disch := omega) only [go_sem])
 all_goals first | exact absurd ‹e = 0› h0 | skip
 refine ret_do ?_
 rfl
theorem WaysOk.mono {k m n : Nat} {ws : List (List Int)} (h : WaysOk k n ws) (hk : k ≤ m) : WaysOk m n ws := fun w hw => ⟨(h w hw).1, fun x hx => by have := (h w hw).2 x hx; omega⟩
theorem Worth_ok (bs : List Box) (cs : List Bill) (b : Nat) (hf : Fits bs cs) (h : checkR bs cs = 0) (hn : allW bs cs ≠ []) (hb : b < bs.length) : Ct Tryd.prog 26 [encLoad bs cs, int b] (.tup [int (worthR (allW bs cs) b), int 0]) := by
 have hg := good_of_check h
 have h8 := hg.nb
 have hfew := hg.valid.few
 have hok := (allW_ok bs cs).mono hg.nc
 have hi : [(b : Int)].all (inR' 0 (bs.length - 1)) = true := by simp [inR']; omega
 refine fn_enter Tryd.func26 rfl (by decide) Tryd.results26 Tryd.ntmps26 ?_ rfl (by simp (maxSteps := 1000000) -implicitDefEqProofs (disch := omega) only [go_sem]; rfl) fun base => ?_
 · first | assumption | (simp only [go_sem] <;> assumption) | (simp only [go_sem, *]; done) | (simp [go_sem]; done)
 repeat' (first
   | (with_reducible apply Req_intro); focus (first | omega | assumption | (simp; done))
   | with_reducible (first | apply Req_intro | refine nilT ?_ fun hn => ?_ | apply wk_draw Tryd_mixed | refine drawEnd (by kernel_rfl) ?_)
   | (with_reducible (first | apply condA_if | apply stepDG_ifN | apply stepDG_if | apply stepG_ifN | apply stepG_if)) <;> intro hb <;> (have hif := hb) <;> (try simp only [bo] at hif) <;> (try simp -implicitDefEqProofs (disch := omega) only [go_sem, hb]) <;> clear hb
   | simp (maxSteps := 1000000) -implicitDefEqProofs (disch := omega) only [go_sem])
 refine callf2 [320] (openBox_ok bs cs [(b : Int)] _ hf h hn (by simp) hi) ?_
 try simp (maxSteps := 1000000) -implicitDefEqProofs (disch := omega) only [go_sem]
 repeat' (first
   | (with_reducible apply Req_intro); focus (first | omega | assumption | (simp; done))
   | with_reducible (first | apply Req_intro | refine nilT ?_ fun hn => ?_ | apply wk_draw Tryd_mixed | refine drawEnd (by kernel_rfl) ?_)
   | (with_reducible (first | apply condA_if | apply stepDG_ifN | apply stepDG_if | apply stepG_ifN | apply stepG_if)) <;> intro hb <;> (have hif := hb) <;> (try simp only [bo] at hif) <;> (try simp -implicitDefEqProofs (disch := omega) only [go_sem, hb]) <;> clear hb
   | simp (maxSteps := 1000000) -implicitDefEqProofs (disch := omega) only [go_sem])
 refine callp (worth_spec (allW bs cs) _ _ b hok hb (by omega) (by omega)) ?_
 try simp (maxSteps := 1000000) -implicitDefEqProofs (disch := omega) only [go_sem]
 repeat' (first
   | (with_reducible apply Req_intro); focus (first | omega | assumption | (simp; done))
   | with_reducible (first | apply Req_intro | refine nilT ?_ fun hn => ?_ | apply wk_draw Tryd_mixed | refine drawEnd (by kernel_rfl) ?_)
   | (with_reducible (first | apply condA_if | apply stepDG_ifN | apply stepDG_if | apply stepG_ifN | apply stepG_if)) <;> intro hb <;> (have hif := hb) <;> (try simp only [bo] at hif) <;> (try simp -implicitDefEqProofs (disch := omega) only [go_sem, hb]) <;> clear hb
   | simp (maxSteps := 1000000) -implicitDefEqProofs (disch := omega) only [go_sem])
 refine ret_do ?_
 rfl
def askTo (ws : List (List Int)) : Nat → Int × Int
 | 0 => (0, ws.length)
 | i + 1 => if worthR ws i < (askTo ws i).2 then (i, worthR ws i) else askTo ws i
theorem Ask_ok (bs : List Box) (cs : List Bill) (hf : Fits bs cs) (h : checkR bs cs = 0) (hn : 2 ≤ (allW bs cs).length) : Ct Tryd.prog 27 [encLoad bs cs] (.tup [int (askTo (allW bs cs) bs.length).1, int (askTo (allW bs cs) bs.length).2, int 0]) := by
 have hn' : allW bs cs ≠ [] := fun h => by rw [h] at hn; cases hn
 have hg := good_of_check h
 have h8 := hg.nb
 have hfew := hg.valid.few
 have hok := (allW_ok bs cs).mono hg.nc
 refine fn_enter Tryd.func27 rfl (by decide) Tryd.results27 Tryd.ntmps27 ?_ rfl (by simp (maxSteps := 1000000) -implicitDefEqProofs (disch := omega) only [go_sem]; rfl) fun base => ?_
 · first | assumption | (simp only [go_sem] <;> assumption) | (simp only [go_sem, *]; done) | (simp [go_sem]; done)
 repeat' (first
   | (with_reducible apply Req_intro); focus (first | omega | assumption | (simp; done))
   | with_reducible (first | apply Req_intro | refine nilT ?_ fun hn => ?_ | apply wk_draw Tryd_mixed | refine drawEnd (by kernel_rfl) ?_)
   | (with_reducible (first | apply condA_if | apply stepDG_ifN | apply stepDG_if | apply stepG_ifN | apply stepG_if)) <;> intro hb <;> (have hif := hb) <;> (try simp only [bo] at hif) <;> (try simp -implicitDefEqProofs (disch := omega) only [go_sem, hb]) <;> clear hb
   | simp (maxSteps := 1000000) -implicitDefEqProofs (disch := omega) only [go_sem])
 refine callp (open_ok bs cs hf h hn') ?_
 try simp (maxSteps := 1000000) -implicitDefEqProofs (disch := omega) only [go_sem]
 repeat' (first
   | (with_reducible apply Req_intro); focus (first | omega | assumption | (simp; done))
   | with_reducible (first | apply Req_intro | refine nilT ?_ fun hn => ?_ | apply wk_draw Tryd_mixed | refine drawEnd (by kernel_rfl) ?_)
   | (with_reducible (first | apply condA_if | apply stepDG_ifN | apply stepDG_if | apply stepG_ifN | apply stepG_if)) <;> intro hb <;> (have hif := hb) <;> (try simp only [bo] at hif) <;> (try simp -implicitDefEqProofs (disch := omega) only [go_sem, hb]) <;> clear hb
   | simp (maxSteps := 1000000) -implicitDefEqProofs (disch := omega) only [go_sem])
 · omega
 refine loop_at (α := Nat) [2, 3, 7, 8, 29, 30, 31, 32, 33, 34, 35, 36, 37, 38, 39, 40] (fun i => [(29, .lit (.int .i64 i)), (2, int (askTo (allW bs cs) i).1), (3, int (askTo (allW bs cs) i).2)]) (fun i => i ≤ bs.length) (fun i => bs.length - i) 0 (fun x => by simp (maxSteps := 1000000) -implicitDefEqProofs (disch := omega) only [go_sem]; rfl) ?_ ?_ fun x hx => ?_
 · simp only [askTo]
   exact weak_do []
 · exact Nat.zero_le _
 repeat' (first
   | (with_reducible apply Req_intro); focus (first | omega | assumption | (simp; done))
   | with_reducible (first | apply Req_intro | refine nilT ?_ fun hn => ?_ | apply wk_draw Tryd_mixed | refine drawEnd (by kernel_rfl) ?_)
   | (with_reducible (first | apply condA_if | apply stepDG_ifN | apply stepDG_if | apply stepG_ifN | apply stepG_if)) <;> intro hb <;> (have hif := hb) <;> (try simp only [bo] at hif) <;> (try simp -implicitDefEqProofs (disch := omega) only [go_sem, hb]) <;> clear hb
   | simp (maxSteps := 1000000) -implicitDefEqProofs (disch := omega) only [go_sem])
 · have hlt : x < bs.length := hif
   refine callp (worth_spec (allW bs cs) _ _ x hok hlt (by omega) (by omega)) ?_
   try simp (maxSteps := 1000000) -implicitDefEqProofs (disch := omega) only [go_sem]
   repeat' (first
     | (with_reducible apply Req_intro); focus (first | omega | assumption | (simp; done))
     | with_reducible (first | apply Req_intro | refine nilT ?_ fun hn => ?_ | apply wk_draw Tryd_mixed | refine drawEnd (by kernel_rfl) ?_)
     | (with_reducible (first | apply condA_if | apply stepDG_ifN | apply stepDG_if | apply stepG_ifN | apply stepG_if)) <;> intro hb <;> (have hif := hb) <;> (try simp only [bo] at hif) <;> (try simp -implicitDefEqProofs (disch := omega) only [go_sem, hb]) <;> clear hb
     | simp (maxSteps := 1000000) -implicitDefEqProofs (disch := omega) only [go_sem])
   · with_reducible refine nxt_w (x + 1) ?_ ?_
     · (try dsimp only)
       simp only [askTo, if_pos hif]
       exact weak_do []
     try dsimp only
     omega
   · with_reducible refine nxt_w (x + 1) ?_ ?_
     · (try dsimp only)
       simp only [askTo, if_neg (Int.not_lt.2 hif)]
       exact weak_do []
     try dsimp only
     omega
 · obtain rfl : x = bs.length := by omega
   refine ret_do ?_
   rfl
def orI (a c : Int) : Int := ibits .or .i64 a (1 * 2 ^ min c.toNat 64)
def canJ (l w : List Int) : Nat → List Int
 | 0 => l
 | j + 1 => (canJ l w j).set j (orI ((canJ l w j).getD j default) (w.getD j default))
def canI (ws : List (List Int)) (n : Nat) : Nat → List Int
 | 0 => List.replicate n 0
 | i + 1 => canJ (canI ws n i) (ws.getD i default) n
theorem canJ_len (l w : List Int) : ∀ j, (canJ l w j).length = l.length
 | 0 => rfl
 | j + 1 => by rw [canJ, List.length_set, canJ_len]
theorem canI_len (ws : List (List Int)) (n : Nat) : ∀ i, (canI ws n i).length = n
 | 0 => List.length_replicate
 | i + 1 => by rw [canI, canJ_len, canI_len]
@[go_sem] theorem PuE_rep (n : Nat) (v : Value) : PuE (List.replicate n [.lit v]) = True := by
 simp only [PuE, eq_iff_iff, iff_true]
 intro e he
 rw [List.eq_of_mem_replicate he]
 simp [PuL]
@[go_sem] theorem take_map_I (l : List Int) (n : Nat) (h : l.length = n) : (l.map encI).take n = l.map encI := List.take_of_length_le (by simp; omega)
@[go_sem] theorem map_set_I (l : List Int) (i : Nat) (v : Int) : (l.map encI).set i [.lit (.int .i64 v)] = (l.set i v).map encI := by rw [List.map_set]; rfl
theorem Can_ok (bs : List Box) (cs : List Bill) (hf : Fits bs cs) (h : checkR bs cs = 0) (hn : allW bs cs ≠ []) : Ct Tryd.prog 19 [encLoad bs cs] (.tup [.sl 1 ((canI (allW bs cs) bs.length (allW bs cs).length).map encI) true, int 0]) := by
 have hg := good_of_check h
 have h8 := hg.nb
 have hfew := hg.valid.few
 have hok := (allW_ok bs cs).mono hg.nc
 refine fn_enter Tryd.func19 rfl (by decide) Tryd.results19 Tryd.ntmps19 ?_ rfl (by simp (maxSteps := 1000000) -implicitDefEqProofs (disch := omega) only [go_sem]; rfl) fun base => ?_
 · first | assumption | (simp only [go_sem] <;> assumption) | (simp only [go_sem, *]; done) | (simp [go_sem]; done)
 repeat' (first
   | (with_reducible apply Req_intro); focus (first | omega | assumption | (simp; done))
   | with_reducible (first | apply Req_intro | refine nilT ?_ fun hn => ?_ | apply wk_draw Tryd_mixed | refine drawEnd (by kernel_rfl) ?_)
   | (with_reducible (first | apply condA_if | apply stepDG_ifN | apply stepDG_if | apply stepG_ifN | apply stepG_if)) <;> intro hb <;> (have hif := hb) <;> (try simp only [bo] at hif) <;> (try simp -implicitDefEqProofs (disch := omega) only [go_sem, hb]) <;> clear hb
   | simp (maxSteps := 1000000) -implicitDefEqProofs (disch := omega) only [go_sem])
 refine callp (open_ok bs cs hf h hn) ?_
 try simp (maxSteps := 1000000) -implicitDefEqProofs (disch := omega) only [go_sem]
 repeat' (first
   | (with_reducible apply Req_intro); focus (first | omega | assumption | (simp; done))
   | with_reducible (first | apply Req_intro | refine nilT ?_ fun hn => ?_ | apply wk_draw Tryd_mixed | refine drawEnd (by kernel_rfl) ?_)
   | (with_reducible (first | apply condA_if | apply stepDG_ifN | apply stepDG_if | apply stepG_ifN | apply stepG_if)) <;> intro hb <;> (have hif := hb) <;> (try simp only [bo] at hif) <;> (try simp -implicitDefEqProofs (disch := omega) only [go_sem, hb]) <;> clear hb
   | simp (maxSteps := 1000000) -implicitDefEqProofs (disch := omega) only [go_sem])
 refine loop_rows (α := Nat) [9, 10, 11, 28, 29, 30, 31, 32, 33, 34, 35, 36, 37, 38, 39, 40, 41, 42, 43, 44, 45, 46, 47, 48] (fun i => [(28, .lit (.int .i64 i))]) (fun i => [(0, some ⟨2, [loadC bs cs], 25, .wr⟩), (576, some ⟨2, [loadC bs cs], 94, .wr⟩), (1216, some ⟨1, (canI (allW bs cs) bs.length i).map encI, 3, .wr⟩)]) (fun i => i ≤ (allW bs cs).length) (fun i => (allW bs cs).length - i) 0 (fun x => by simp (maxSteps := 1000000) -implicitDefEqProofs (disch := omega) only [go_sem]; rfl) ?_ ?_ fun x hx => ?_
 · simp only [canI, List.map_replicate, encI]
   exact weak_do []
 · exact Nat.zero_le _
 have hcl := canI_len (allW bs cs) bs.length x
 repeat' (first
   | (with_reducible apply Req_intro); focus (first | omega | assumption | (simp; done))
   | with_reducible (first | apply Req_intro | refine nilT ?_ fun hn => ?_ | apply wk_draw Tryd_mixed | refine drawEnd (by kernel_rfl) ?_)
   | (with_reducible (first | apply condA_if | apply stepDG_ifN | apply stepDG_if | apply stepG_ifN | apply stepG_if)) <;> intro hb <;> (have hif := hb) <;> (try simp only [bo] at hif) <;> (try simp -implicitDefEqProofs (disch := omega) only [go_sem, hb]) <;> clear hb
   | simp (maxSteps := 1000000) -implicitDefEqProofs (disch := omega) only [go_sem])
 · have hlt : x < (allW bs cs).length := hif
   have hw := (hok _ (getD_mem hlt)).1
   have hcj := canJ_len (canI (allW bs cs) bs.length x) ((allW bs cs).getD x default)
   have hwv : ∀ y, y < bs.length → 0 ≤ ((allW bs cs).getD x default).getD y default ∧ ((allW bs cs).getD x default).getD y default < 3 := fun y hy => (hok _ (getD_mem hlt)).2 _ (getD_mem (by omega))
   refine loop_rows (α := Nat) [10, 11, 34, 35, 36, 37, 38, 39, 40, 41, 42, 43, 44, 45, 46, 47] (fun i => [(34, .lit (.int .i64 i))]) (fun i => [(0, some ⟨2, [loadC bs cs], 25, .wr⟩), (576, some ⟨2, [loadC bs cs], 94, .wr⟩), (1216, some ⟨1, (canJ (canI (allW bs cs) bs.length x) ((allW bs cs).getD x default) i).map encI, 3, .wr⟩)]) (fun i => i ≤ bs.length) (fun i => bs.length - i) 0 (fun x => by simp (maxSteps := 1000000) -implicitDefEqProofs (disch := omega) only [go_sem]; rfl) ?_ ?_ fun x hx => ?_
   · simp only [canJ]
     exact weak_do []
   · exact Nat.zero_le _
   rename_i y hy
   have hcx := hcj x
   repeat' (first
     | (with_reducible apply Req_intro); focus (first | omega | assumption | (simp; done))
     | with_reducible (first | apply Req_intro | refine nilT ?_ fun hn => ?_ | apply wk_draw Tryd_mixed | refine drawEnd (by kernel_rfl) ?_)
     | (with_reducible (first | apply condA_if | apply stepDG_ifN | apply stepDG_if | apply stepG_ifN | apply stepG_if)) <;> intro hb <;> (have hif := hb) <;> (try simp only [bo] at hif) <;> (try simp -implicitDefEqProofs (disch := omega) only [go_sem, hb]) <;> clear hb
     | simp (maxSteps := 1000000) -implicitDefEqProofs (disch := omega) only [go_sem])
   · have hlx : x < bs.length := by omega
     obtain ⟨h0, h2⟩ := hwv x hlx
     generalize ((allW bs cs).getD y default).getD x default = v at h0 h2
     obtain rfl | rfl | rfl : v = 0 ∨ v = 1 ∨ v = 2 := by omega
     all_goals decide
   · with_reducible refine nxt_w (x + 1) ?_ ?_
     · (try dsimp only)
       simp only [canJ, orI]
       exact weak_do []
     try dsimp only
     omega
   · obtain rfl : x = bs.length := by omega
     with_reducible refine nxt_w (y + 1) ?_ ?_
     · (try dsimp only)
       simp only [canI]
       exact weak_do []
     try dsimp only
     omega
 · obtain rfl : x = (allW bs cs).length := by omega
   exact retf [1216] [2, 3] [.sl 1 ((canI (allW bs cs) bs.length (allW bs cs).length).map encI) true, int 0]
end Go.Aw
end
section
set_option maxRecDepth 20000
namespace Go.Aw
open Go.RowKit Go.Proofs
def firstF (p : Nat → Bool) : Nat → Option Nat
 | 0 => none
 | n + 1 => match firstF p n with
   | some i => some i
   | none => if p n then some n else none
theorem firstF_none {p : Nat → Bool} : ∀ {n : Nat}, (∀ i, i < n → p i = false) → firstF p n = none
 | 0, _ => rfl
 | n + 1, h => by
   simp only [firstF]
   rw [firstF_none (fun i hi => h i (by omega)), h n (by omega)]; rfl
theorem firstF_some {p : Nat → Bool} {i : Nat} : ∀ {n : Nat}, i < n → p i = true → (∀ j, j < i → p j = false) → firstF p n = some i
 | 0, h, _, _ => absurd h (Nat.not_lt_zero _)
 | n + 1, h, hp, hj => by
   simp only [firstF]
   rcases Nat.lt_or_ge i n with h1 | h1
   · rw [firstF_some h1 hp hj]
   · obtain rfl : i = n := by omega
     rw [firstF_none hj, hp]; rfl
def grps (ws : List (List Int)) (b : Nat) : List (List (List Int)) := [grp ws b 0, grp ws b 1, grp ws b 2]
def decR (n : Nat) : Nat → List (List Int) → Int × Bool
 | 0, ws => if ws.length < 2 then (-1, true) else (0, false)
 | q + 1, ws => if ws.length < 2 then (-1, true) else
   match firstF (fun b => !(grps ws b).any fun g => (g.length == ws.length) || !(decR n q g).2) n with
   | some b => (b, true)
   | none => (0, false)
theorem WaysOk.grp {k n : Nat} {ws : List (List Int)} (h : WaysOk k n ws) (b : Nat) (c : Int) : WaysOk k n (grp ws b c) := fun w hw => h w ((List.mem_filter.1 hw).1)
theorem grp_len (ws : List (List Int)) (b : Nat) (k : Int) : (grp ws b k).length ≤ ws.length := List.length_filter_le _ _
def DecSpec (n q : Nat) : Prop := ∀ (ws : List (List Int)) (e : Bool), WaysOk 3 n ws → ws.length ≤ 1073741824 → Ct Tryd.prog 64 [.sl 1 (ws.map encW) e, int q] (.tup [int (decR n q ws).1, .lit (.bool (decR n q ws).2)])
theorem decided1_spec (n q : Nat) (hd : DecSpec n q) (ws g : List (List Int)) (e f : Bool) (hw : WaysOk 3 n g) (hl : ws.length ≤ 1073741824) (hg : g.length ≤ 1073741824) (hq : q ≤ 1000) :
   Ct Tryd.prog 84 [.sl 1 (g.map encW) e, .rp [int ((q : Int) + 1)], .rp [.sl 1 (ws.map encW) f]] (.lit (.bool ((g.length == ws.length) || !(decR n q g).2))) := by
 refine fn_enter Tryd.func84 rfl (by decide) Tryd.results84 Tryd.ntmps84 ?_ rfl (by simp (maxSteps := 1000000) -implicitDefEqProofs (disch := omega) only [go_sem]; rfl) fun base => ?_
 · first | assumption | (simp only [go_sem] <;> assumption) | (simp only [go_sem, *]; done) | (simp [go_sem]; done)
 repeat' (first
   | (with_reducible apply Req_intro); focus (first | omega | assumption | (simp; done))
   | with_reducible (first | apply Req_intro | refine nilT ?_ fun hn => ?_ | apply wk_draw Tryd_mixed | refine drawEnd (by kernel_rfl) ?_)
   | (with_reducible (first | apply condA_if | apply stepDG_ifN | apply stepDG_if | apply stepG_ifN | apply stepG_if)) <;> intro hb <;> (have hif := hb) <;> (try simp only [bo] at hif) <;> (try simp -implicitDefEqProofs (disch := omega) only [go_sem, hb]) <;> clear hb
   | simp (maxSteps := 1000000) -implicitDefEqProofs (disch := omega) only [go_sem])
 simp only [Int.add_sub_cancel]
 refine callp (hd g e hw hg) ?_
 try simp (maxSteps := 1000000) -implicitDefEqProofs (disch := omega) only [go_sem]
 repeat' (first
   | (with_reducible apply Req_intro); focus (first | omega | assumption | (simp; done))
   | with_reducible (first | apply Req_intro | refine nilT ?_ fun hn => ?_ | apply wk_draw Tryd_mixed | refine drawEnd (by kernel_rfl) ?_)
   | (with_reducible (first | apply condA_if | apply stepDG_ifN | apply stepDG_if | apply stepG_ifN | apply stepG_if)) <;> intro hb <;> (have hif := hb) <;> (try simp only [bo] at hif) <;> (try simp -implicitDefEqProofs (disch := omega) only [go_sem, hb]) <;> clear hb
   | simp (maxSteps := 1000000) -implicitDefEqProofs (disch := omega) only [go_sem])
 · refine ret_do ?_
   rw [hif]; simp [retV]
 · refine ret_do ?_
   rw [beq_eq_false_iff_ne.2 hif]; rfl
theorem decided_0 (n : Nat) : DecSpec n 0 := by
 intro ws e hw hl
 refine fn_enter Tryd.func64 rfl (by decide) Tryd.results64 Tryd.ntmps64 ?_ rfl (by simp (maxSteps := 1000000) -implicitDefEqProofs (disch := omega) only [go_sem]; rfl) fun base => ?_
 · first | assumption | (simp only [go_sem] <;> assumption) | (simp only [go_sem, *]; done) | (simp [go_sem]; done)
 repeat' (first
   | (with_reducible apply Req_intro); focus (first | omega | assumption | (simp; done))
   | with_reducible (first | apply Req_intro | refine nilT ?_ fun hn => ?_ | apply wk_draw Tryd_mixed | refine drawEnd (by kernel_rfl) ?_)
   | (with_reducible (first | apply condA_if | apply stepDG_ifN | apply stepDG_if | apply stepG_ifN | apply stepG_if)) <;> intro hb <;> (have hif := hb) <;> (try simp only [bo] at hif) <;> (try simp -implicitDefEqProofs (disch := omega) only [go_sem, hb]) <;> clear hb
   | simp (maxSteps := 1000000) -implicitDefEqProofs (disch := omega) only [go_sem])
 · refine ret_do ?_
   rw [decR, if_pos (by omega)]; rfl
 · refine ret_do ?_
   rw [decR, if_neg (by omega)]; rfl
 · exact absurd rfl hif
theorem decided_succ (n q : Nat) (hn : n ≤ 1000) (hq : q ≤ 1000) (hd : DecSpec n q) : DecSpec n (q + 1) := by
 intro ws e hw hl
 rw [show ((q + 1 : Nat) : Int) = (q : Int) + 1 from rfl]
 refine fn_enter Tryd.func64 rfl (by decide) Tryd.results64 Tryd.ntmps64 ?_ rfl (by simp (maxSteps := 1000000) -implicitDefEqProofs (disch := omega) only [go_sem]; rfl) fun base => ?_
 · first | assumption | (simp only [go_sem] <;> assumption) | (simp only [go_sem, *]; done) | (simp [go_sem]; done)
 repeat' (first
   | (with_reducible apply Req_intro); focus (first | omega | assumption | (simp; done))
   | with_reducible (first | apply Req_intro | refine nilT ?_ fun hn => ?_ | apply wk_draw Tryd_mixed | refine drawEnd (by kernel_rfl) ?_)
   | (with_reducible (first | apply condA_if | apply stepDG_ifN | apply stepDG_if | apply stepG_ifN | apply stepG_if)) <;> intro hb <;> (have hif := hb) <;> (try simp only [bo] at hif) <;> (try simp -implicitDefEqProofs (disch := omega) only [go_sem, hb]) <;> clear hb
   | simp (maxSteps := 1000000) -implicitDefEqProofs (disch := omega) only [go_sem])
 · refine ret_do ?_
   rw [decR, if_pos (by omega)]; rfl
 · omega
 rename_i hif1
 have hw0 : (ws.getD 0 default).length = n := (hw _ (getD_mem (by omega))).1
 generalize hP : (fun b => !(grps ws b).any fun g => (g.length == ws.length) || !(decR n q g).2) = P
 refine loop_at (α := Nat) [4, 5, 6, 7, 8, 20, 21, 22, 23, 24, 25, 26, 27, 28, 29, 30, 31, 32] (fun i => [(20, .lit (.int .i64 i))]) (fun i => i ≤ n ∧ ∀ j, j < i → P j = false) (fun i => n - i) 0 (fun x => by simp (maxSteps := 1000000) -implicitDefEqProofs (disch := omega) only [go_sem]; rfl) ?_ ?_ fun x hx => ?_
 · exact weak_do []
 · exact ⟨Nat.zero_le _, fun j hj => absurd hj (Nat.not_lt_zero _)⟩
 obtain ⟨hx1, hx2⟩ := hx
 repeat' (first
   | (with_reducible apply Req_intro); focus (first | omega | assumption | (simp; done))
   | with_reducible (first | apply Req_intro | refine nilT ?_ fun hn => ?_ | apply wk_draw Tryd_mixed | refine drawEnd (by kernel_rfl) ?_)
   | (with_reducible (first | apply condA_if | apply stepDG_ifN | apply stepDG_if | apply stepG_ifN | apply stepG_if)) <;> intro hb <;> (have hif := hb) <;> (try simp only [bo] at hif) <;> (try simp -implicitDefEqProofs (disch := omega) only [go_sem, hb]) <;> clear hb
   | simp (maxSteps := 1000000) -implicitDefEqProofs (disch := omega) only [go_sem])
 · have hxn : x < n := by omega
   have hpu := encG_pu ws x
   refine callp (answers_spec ws e n x hw hxn hn hl) ?_
   try simp (maxSteps := 1000000) -implicitDefEqProofs (disch := omega) only [go_sem]
   simp only [encG]
   repeat' (first
     | (with_reducible apply Req_intro); focus (first | omega | assumption | (simp; done))
     | with_reducible (first | apply Req_intro | refine nilT ?_ fun hn => ?_ | apply wk_draw Tryd_mixed | refine drawEnd (by kernel_rfl) ?_)
     | (with_reducible (first | apply condA_if | apply stepDG_ifN | apply stepDG_if | apply stepG_ifN | apply stepG_if)) <;> intro hb <;> (have hif := hb) <;> (try simp only [bo] at hif) <;> (try simp -implicitDefEqProofs (disch := omega) only [go_sem, hb]) <;> clear hb
     | simp (maxSteps := 1000000) -implicitDefEqProofs (disch := omega) only [go_sem])
   have hcc : ∀ g ∈ grps ws x, Ct Tryd.prog 84 (.sl 1 (g.map encW) false :: [.rp [int ((q : Int) + 1)], .rp [.sl 1 (ws.map encW) e]]) (.lit (.bool ((g.length == ws.length) || !(decR n q g).2))) := by
     intro g hg
     simp only [grps, List.mem_cons, List.not_mem_nil, or_false] at hg
     rcases hg with rfl | rfl | rfl <;> exact decided1_spec n q hd ws _ false e (hw.grp x _) hl (Nat.le_trans (grp_len ws x _) hl) hq
   refine callc (ContainsFunc_ways (grps ws x) _ (fun g => (g.length == ws.length) || !(decR n q g).2) 84 [.rp [int ((q : Int) + 1)], .rp [.sl 1 (ws.map encW) e]] (show 3 ≤ 4611686018427387904 by decide) (by first | assumption | (simp only [go_sem] <;> assumption) | (simp only [go_sem, *]; done) | (simp [go_sem]; done)) hcc) ?_
   try simp (maxSteps := 1000000) -implicitDefEqProofs (disch := omega) only [go_sem]
   repeat' (first
     | (with_reducible apply Req_intro); focus (first | omega | assumption | (simp; done))
     | with_reducible (first | apply Req_intro | refine nilT ?_ fun hn => ?_ | apply wk_draw Tryd_mixed | refine drawEnd (by kernel_rfl) ?_)
     | (with_reducible (first | apply condA_if | apply stepDG_ifN | apply stepDG_if | apply stepG_ifN | apply stepG_if)) <;> intro hb <;> (have hif := hb) <;> (try simp only [bo] at hif) <;> (try simp -implicitDefEqProofs (disch := omega) only [go_sem, hb]) <;> clear hb
     | simp (maxSteps := 1000000) -implicitDefEqProofs (disch := omega) only [go_sem])
   · refine ret_do ?_
     have hPx : P x = true := by rw [← hP]; simp only [hif]; rfl
     rw [decR, if_neg (by omega), hP, firstF_some hxn hPx hx2]; rfl
   · refine nxt_w (x + 1) (weak_do []) ?_
     try dsimp only
     refine ⟨hxn, fun j hj => ?_⟩
     rcases Nat.lt_or_ge j x with h | h
     · exact hx2 j h
     · obtain rfl : j = x := by omega
       rw [← hP]; simp only [hif]; rfl
 · obtain rfl : x = n := by omega
   refine ret_do ?_
   rw [decR, if_neg (by omega), hP, firstF_none hx2]; rfl
theorem decided_spec (n : Nat) (hn : n ≤ 1000) : ∀ q, q ≤ 1000 → DecSpec n q
 | 0, _ => decided_0 n
 | q + 1, h => decided_succ n q hn (by omega) (decided_spec n hn q (by omega))
def Con (ws : List (List Int)) (b : Nat) : Prop := ∀ w ∈ ws, ∀ v ∈ ws, w.getD b default = v.getD b default
def Open (n : Nat) (ws : List (List Int)) (s : List Nat) : Prop := ∀ b, b < n → b ∉ s → Con ws b
theorem all_con {n : Nat} {ws : List (List Int)} (hw : WaysOk 3 n ws) (hd : ws.Nodup) (h : ∀ b, b < n → Con ws b) : ws.length < 2 := by
 match ws, hw, hd, h with
 | [], _, _, _ => simp
 | [_], _, _, _ => simp
 | w :: v :: r, hw, hd, h =>
   exfalso
   have hne : w ≠ v := fun e => (List.nodup_cons.1 hd).1 (e ▸ List.mem_cons_self)
   have l1 := (hw w (by simp)).1
   have l2 := (hw v (by simp)).1
   refine hne (List.ext_getElem (by omega) fun i h1 h2 => ?_)
   have := h i (by omega) w (by simp) v (by simp)
   rwa [getD_default h1, getD_default h2] at this
theorem grp_con (ws : List (List Int)) (b : Nat) (k : Int) : Con (grp ws b k) b := by
 intro w hw v hv
 have h1 := (List.mem_filter.1 hw).2
 have h2 := (List.mem_filter.1 hv).2
 rw [beq_iff_eq] at h1 h2
 rw [h1, h2]
theorem firstF_isSome {p : Nat → Bool} {i : Nat} : ∀ {n : Nat}, i < n → p i = true → ∃ j, firstF p n = some j
 | 0, h, _ => absurd h (Nat.not_lt_zero _)
 | n + 1, h, hp => by
   simp only [firstF]
   rcases Nat.lt_or_ge i n with h1 | h1
   · obtain ⟨j, hj⟩ := firstF_isSome h1 hp; exact ⟨j, by rw [hj]⟩
   · obtain rfl : i = n := by omega
     cases h2 : firstF p i with
     | some j => exact ⟨j, rfl⟩
     | none => exact ⟨i, by simp only [hp]; rfl⟩
theorem decR_true (n : Nat) : ∀ (q : Nat) (ws : List (List Int)) (s : List Nat), WaysOk 3 n ws → ws.Nodup → Open n ws s → s.length ≤ q → (decR n q ws).2 = true
 | 0, ws, s, hw, hd, ho, hs => by
   obtain rfl : s = [] := List.eq_nil_of_length_eq_zero (by omega)
   rw [decR, if_pos (all_con hw hd fun b hb => ho b hb (by simp))]
 | q + 1, ws, s, hw, hd, ho, hs => by
   by_cases h2 : ws.length < 2
   · rw [decR, if_pos h2]
   have : ∃ b, b < n ∧ ¬ Con ws b := by
     refine Classical.byContradiction fun h => h2 (all_con hw hd fun b hb => ?_)
     exact Classical.byContradiction fun hc => h ⟨b, hb, hc⟩
   obtain ⟨b, hb, hc⟩ := this
   have hbs : b ∈ s := Classical.byContradiction fun h => hc (ho b hb h)
   rw [decR, if_neg h2]
   have hg : ∀ k, ((grp ws b k).length == ws.length) = false ∧ (decR n q (grp ws b k)).2 = true := fun k => by
     refine ⟨?_, decR_true n q (grp ws b k) (s.erase b) (hw.grp b k) (hd.filter _) (fun a ha hn => ?_) (by rw [List.length_erase_of_mem hbs]; omega)⟩
     · rw [beq_eq_false_iff_ne]
       intro e
       have : grp ws b k = ws := List.filter_sublist.eq_of_length e
       exact hc (this ▸ grp_con ws b k)
     · by_cases hab : a = b
       · subst hab; exact grp_con ws a k
       · have := ho a ha fun h => hn ((List.mem_erase_of_ne hab).2 h)
         exact fun w hw v hv => this w (List.mem_filter.1 hw).1 v (List.mem_filter.1 hv).1
   obtain ⟨j, hj⟩ := firstF_isSome (p := fun b => !(grps ws b).any fun g => (g.length == ws.length) || !(decR n q g).2) hb (by
     simp only [grps, List.any_cons, List.any_nil, (hg 0).1, (hg 0).2, (hg 1).1, (hg 1).2, (hg 2).1, (hg 2).2]; rfl)
   simp only [hj]
theorem nodup_flat {α : Type} (F : Nat → List α) : ∀ n, (∀ k, k < n → (F k).Nodup) → (∀ i j x, i < j → j < n → x ∈ F i → x ∉ F j) → ((List.range n).flatMap F).Nodup
 | 0, _, _ => by simp
 | n + 1, h, hd => by
   rw [List.range_succ, List.flatMap_append, List.nodup_append]
   refine ⟨nodup_flat F n (fun k hk => h k (by omega)) (fun i j x hij hj => hd i j x hij (by omega)), by simpa using h n (by omega), ?_⟩
   intro a ha b hb e
   subst e
   simp only [List.mem_flatMap, List.mem_range] at ha
   obtain ⟨i, hi, ha⟩ := ha
   exact hd i n a hi (by omega) ha (by simpa using hb)
theorem waysG_pre (cs : List Bill) : ∀ (rest : List Box) (now : List Int) (hv : Carts), ∀ w ∈ waysG cs rest now hv, now <+: w
 | [], now, hv, w, h => by
   simp only [waysG] at h
   split at h
   · rw [List.mem_singleton] at h; subst h; exact List.prefix_refl _
   · cases h
 | b :: rest, now, hv, w, h => by
   simp only [waysG, List.mem_flatMap, List.mem_range] at h
   obtain ⟨k, hk, h⟩ := h
   split at h
   · cases h
   exact List.IsPrefix.trans (List.prefix_append _ _) (waysG_pre cs rest _ _ w h)
theorem waysG_nodup (cs : List Bill) : ∀ (rest : List Box) (now : List Int) (hv : Carts), (waysG cs rest now hv).Nodup
 | [], now, hv => by simp only [waysG]; split <;> simp
 | b :: rest, now, hv => by
   simp only [waysG]
   refine nodup_flat _ _ (fun k hk => ?_) fun i j x hij hj hx hx' => ?_
   · split
     · simp
     · exact waysG_nodup cs rest _ _
   · split at hx
     · cases hx
     split at hx'
     · cases hx'
     have h1 := waysG_pre cs rest _ _ x hx
     have h2 := waysG_pre cs rest _ _ x hx'
     obtain ⟨r1, h1⟩ := h1
     obtain ⟨r2, h2⟩ := h2
     rw [← h2, List.append_assoc, List.append_assoc] at h1
     have := List.append_cancel_left h1
     simp at this
     omega
theorem allW_decided (bs : List Box) (cs : List Bill) (hc : cs.length ≤ 3) : (decR bs.length bs.length (allW bs cs)).2 = true :=
 decR_true _ _ _ (List.range bs.length) ((allW_ok bs cs).mono hc) (waysG_nodup cs bs [] carts0) (fun b hb hn => absurd (List.mem_range.2 hb) hn) (by simp)
theorem Questions_ok (bs : List Box) (cs : List Bill) (hf : Fits bs cs) (h : checkR bs cs = 0) (hn : allW bs cs ≠ []) (hs : (allW bs cs).length ≤ 300) (m : Nat) (hm : (decR bs.length m (allW bs cs)).2 = true) (hmin : ∀ j, j < m → (decR bs.length j (allW bs cs)).2 = false) : Ct Tryd.prog 29 [encLoad bs cs] (.tup [int m, int (decR bs.length m (allW bs cs)).1, int 0]) := by
 have hg := good_of_check h
 have h8 := hg.nb
 have hok := (allW_ok bs cs).mono hg.nc
 have hm8 : m ≤ 8 := by
   refine Classical.byContradiction fun hc => ?_
   have h1 := allW_decided bs cs hg.nc
   have h2 := hmin bs.length (by omega)
   rw [h1] at h2; cases h2
 refine fn_enter Tryd.func29 rfl (by decide) Tryd.results29 Tryd.ntmps29 ?_ rfl (by simp (maxSteps := 1000000) -implicitDefEqProofs (disch := omega) only [go_sem]; rfl) fun base => ?_
 · first | assumption | (simp only [go_sem] <;> assumption) | (simp only [go_sem, *]; done) | (simp [go_sem]; done)
 repeat' (first
   | (with_reducible apply Req_intro); focus (first | omega | assumption | (simp; done))
   | with_reducible (first | apply Req_intro | refine nilT ?_ fun hn => ?_ | apply wk_draw Tryd_mixed | refine drawEnd (by kernel_rfl) ?_)
   | (with_reducible (first | apply condA_if | apply stepDG_ifN | apply stepDG_if | apply stepG_ifN | apply stepG_if)) <;> intro hb <;> (have hif := hb) <;> (try simp only [bo] at hif) <;> (try simp -implicitDefEqProofs (disch := omega) only [go_sem, hb]) <;> clear hb
   | simp (maxSteps := 1000000) -implicitDefEqProofs (disch := omega) only [go_sem])
 refine callp (open_ok bs cs hf h hn) ?_
 try simp (maxSteps := 1000000) -implicitDefEqProofs (disch := omega) only [go_sem]
 repeat' (first
   | (with_reducible apply Req_intro); focus (first | omega | assumption | (simp; done))
   | with_reducible (first | apply Req_intro | refine nilT ?_ fun hn => ?_ | apply wk_draw Tryd_mixed | refine drawEnd (by kernel_rfl) ?_)
   | (with_reducible (first | apply condA_if | apply stepDG_ifN | apply stepDG_if | apply stepG_ifN | apply stepG_if)) <;> intro hb <;> (have hif := hb) <;> (try simp only [bo] at hif) <;> (try simp -implicitDefEqProofs (disch := omega) only [go_sem, hb]) <;> clear hb
   | simp (maxSteps := 1000000) -implicitDefEqProofs (disch := omega) only [go_sem])
 · omega
 refine loop_at (α := Nat) [2, 3, 4, 7, 22, 23, 24, 25, 26, 27, 28, 29, 30, 31, 32] (fun i => [(2, .lit (.int .i64 i))]) (fun i => i ≤ m) (fun i => m - i) 0 (fun x => by simp (maxSteps := 1000000) -implicitDefEqProofs (disch := omega) only [go_sem]; rfl) ?_ ?_ fun x hx => ?_
 · exact weak_do []
 · exact Nat.zero_le _
 have hds := decided_spec bs.length (by omega) x (by omega)
 repeat' (first
   | (with_reducible apply Req_intro); focus (first | omega | assumption | (simp; done))
   | with_reducible (first | apply Req_intro | refine nilT ?_ fun hn => ?_ | apply wk_draw Tryd_mixed | refine drawEnd (by kernel_rfl) ?_)
   | (with_reducible (first | apply condA_if | apply stepDG_ifN | apply stepDG_if | apply stepG_ifN | apply stepG_if)) <;> intro hb <;> (have hif := hb) <;> (try simp only [bo] at hif) <;> (try simp -implicitDefEqProofs (disch := omega) only [go_sem, hb]) <;> clear hb
   | simp (maxSteps := 1000000) -implicitDefEqProofs (disch := omega) only [go_sem])
 refine callp (hds (allW bs cs) _ hok (by omega)) ?_
 try simp (maxSteps := 1000000) -implicitDefEqProofs (disch := omega) only [go_sem]
 repeat' (first
   | (with_reducible apply Req_intro); focus (first | omega | assumption | (simp; done))
   | with_reducible (first | apply Req_intro | refine nilT ?_ fun hn => ?_ | apply wk_draw Tryd_mixed | refine drawEnd (by kernel_rfl) ?_)
   | (with_reducible (first | apply condA_if | apply stepDG_ifN | apply stepDG_if | apply stepG_ifN | apply stepG_if)) <;> intro hb <;> (have hif := hb) <;> (try simp only [bo] at hif) <;> (try simp -implicitDefEqProofs (disch := omega) only [go_sem, hb]) <;> clear hb
   | simp (maxSteps := 1000000) -implicitDefEqProofs (disch := omega) only [go_sem])
 · obtain rfl : x = m := by
     rcases Nat.lt_or_ge x m with h1 | h1
     · rw [hmin x h1] at hif; cases hif
     · omega
   refine ret_do ?_
   rfl
 · have hne : x ≠ m := fun e => by rw [e, hm] at hif; cases hif
   refine nxt_w (x + 1) (weak_do []) ?_
   try dsimp only
   omega
end Go.Aw
end
section
set_option maxRecDepth 20000
namespace Go.Aw
open Go.RowKit Go.Proofs
theorem Short_no (bs : List Box) (cs : List Bill) (hf : Fits bs cs) (h : checkR bs cs ≠ 0) : Ct Tryd.prog 33 [encLoad bs cs] (.tup [nilV, int (checkR bs cs)]) := by
 refine fn_enter Tryd.func33 rfl (by decide) Tryd.results33 Tryd.ntmps33 ?_ rfl (by simp (maxSteps := 1000000) -implicitDefEqProofs (disch := omega) only [go_sem]; rfl) fun base => ?_
 · first | assumption | (simp only [go_sem] <;> assumption) | (simp only [go_sem, *]; done) | (simp [go_sem]; done)
 repeat' (first
   | (with_reducible apply Req_intro); focus (first | omega | assumption | (simp; done))
   | with_reducible (first | apply Req_intro | refine nilT ?_ fun hn => ?_ | apply wk_draw Tryd_mixed | refine drawEnd (by kernel_rfl) ?_)
   | (with_reducible (first | apply condA_if | apply stepDG_ifN | apply stepDG_if | apply stepG_ifN | apply stepG_if)) <;> intro hb <;> (have hif := hb) <;> (try simp only [bo] at hif) <;> (try simp -implicitDefEqProofs (disch := omega) only [go_sem, hb]) <;> clear hb
   | simp (maxSteps := 1000000) -implicitDefEqProofs (disch := omega) only [go_sem])
 refine callp (Check_spec bs cs hf.b hf.c) ?_
 try simp (maxSteps := 1000000) -implicitDefEqProofs (disch := omega) only [go_sem]
 repeat' (first
   | (with_reducible apply Req_intro); focus (first | omega | assumption | (simp; done))
   | with_reducible (first | apply Req_intro | refine nilT ?_ fun hn => ?_ | apply wk_draw Tryd_mixed | refine drawEnd (by kernel_rfl) ?_)
   | (with_reducible (first | apply condA_if | apply stepDG_ifN | apply stepDG_if | apply stepG_ifN | apply stepG_if)) <;> intro hb <;> (have hif := hb) <;> (try simp only [bo] at hif) <;> (try simp -implicitDefEqProofs (disch := omega) only [go_sem, hb]) <;> clear hb
   | simp (maxSteps := 1000000) -implicitDefEqProofs (disch := omega) only [go_sem])
 · refine ret_do ?_
   rfl
 · exact absurd hif h
def sumB (bs : List Box) (k : Nat) : Int × Int := bs.foldl (fun s b => addS s (b.getD k default)) (0, 0)
def shortR (bs : List Box) (cs : List Bill) (k : Nat) : Int × Int := cs.foldl (fun s c => (s.1 - (c.2.getD k default).2, s.2 - (c.2.getD k default).1)) (sumB bs k)
def shorts (bs : List Box) (cs : List Bill) (n : Nat) : List (Int × Int) := (List.range n).map (shortR bs cs)
theorem foldl_take {α β : Type} [Inhabited α] (f : β → α → β) (b : β) (l : List α) (x : Nat) (h : x < l.length) : (l.take (x + 1)).foldl f b = f ((l.take x).foldl f b) (l.getD x default) := by
 rw [take_succ_getD h, List.foldl_append]; rfl
theorem foldl_take_all {α β : Type} (f : β → α → β) (b : β) (l : List α) : (l.take l.length).foldl f b = l.foldl f b := by rw [List.take_length]
def sumTo (bs : List Box) (k j : Nat) : Int × Int := (bs.take j).foldl (fun s b => addS s (b.getD k default)) (0, 0)
def subTo (bs : List Box) (cs : List Bill) (k j : Nat) : Int × Int := (cs.take j).foldl (fun s c => (s.1 - (c.2.getD k default).2, s.2 - (c.2.getD k default).1)) (sumB bs k)
theorem sumTo_succ (bs : List Box) (k j : Nat) (h : j < bs.length) : sumTo bs k (j + 1) = ((sumTo bs k j).1 + ((bs.getD j default).getD k default).1, (sumTo bs k j).2 + ((bs.getD j default).getD k default).2) := foldl_take _ _ _ _ h
theorem subTo_succ (bs : List Box) (cs : List Bill) (k j : Nat) (h : j < cs.length) : subTo bs cs k (j + 1) = ((subTo bs cs k j).1 - ((cs.getD j default).2.getD k default).2, (subTo bs cs k j).2 - ((cs.getD j default).2.getD k default).1) := foldl_take _ _ _ _ h
theorem Good.box {bs : List Box} {cs : List Bill} (hg : Good bs cs) {k j : Nat} (hk : k < stuffs cs) (hj : j < bs.length) : k < (bs.getD j default).length ∧ 0 ≤ ((bs.getD j default).getD k default).1 ∧ ((bs.getD j default).getD k default).1 ≤ ((bs.getD j default).getD k default).2 ∧ ((bs.getD j default).getD k default).2 ≤ 1000 := by
 have hl := hg.lb _ (getD_mem hj)
 have := spanOk_small (hg.ob _ (getD_mem hj) _ (getD_mem (l := bs.getD j default) (i := k) (by omega)))
 exact ⟨by omega, this⟩
theorem Good.bill {bs : List Box} {cs : List Bill} (hg : Good bs cs) {k j : Nat} (hk : k < stuffs cs) (hj : j < cs.length) : k < (cs.getD j default).2.length ∧ 0 ≤ ((cs.getD j default).2.getD k default).1 ∧ ((cs.getD j default).2.getD k default).1 ≤ ((cs.getD j default).2.getD k default).2 ∧ ((cs.getD j default).2.getD k default).2 ≤ 10000 := by
 have hl := hg.lc _ (getD_mem hj)
 have := spanOk_small (hg.oc _ (getD_mem hj) _ (getD_mem (l := (cs.getD j default).2) (i := k) (by omega)))
 exact ⟨by omega, this⟩
theorem sumTo_bnd {bs : List Box} {cs : List Bill} (hg : Good bs cs) {k : Nat} (hk : k < stuffs cs) : ∀ j, j ≤ bs.length → 0 ≤ (sumTo bs k j).1 ∧ (sumTo bs k j).1 ≤ (sumTo bs k j).2 ∧ (sumTo bs k j).2 ≤ 1000 * j
 | 0, _ => by simp [sumTo]
 | j + 1, h => by
   have h1 := sumTo_bnd hg hk j (by omega)
   have h2 := hg.box hk (show j < bs.length by omega)
   rw [sumTo_succ _ _ _ (by omega)]
   simp only
   omega
theorem subTo_bnd {bs : List Box} {cs : List Bill} (hg : Good bs cs) {k : Nat} (hk : k < stuffs cs) : ∀ j, j ≤ cs.length → -(10000 * j) ≤ (subTo bs cs k j).1 ∧ (subTo bs cs k j).1 ≤ (subTo bs cs k j).2 ∧ (subTo bs cs k j).2 ≤ 8000
 | 0, _ => by
   have h1 := sumTo_bnd hg hk bs.length (Nat.le_refl _)
   have h8 := hg.nb
   rw [sumTo, foldl_take_all] at h1
   simp only [subTo, List.take_zero, List.foldl_nil, sumB]
   omega
 | j + 1, h => by
   have h1 := subTo_bnd hg hk j (by omega)
   have h2 := hg.bill hk (show j < cs.length by omega)
   rw [subTo_succ _ _ _ _ (by omega)]
   simp only
   omega
theorem shorts_succ (bs : List Box) (cs : List Bill) (k : Nat) : shorts bs cs (k + 1) = shorts bs cs k ++ [subTo bs cs k cs.length] := by
 rw [shorts, List.range_succ, List.map_append, subTo, foldl_take_all]; rfl
@[go_sem] theorem take_map_S (l : List (Int × Int)) (n : Nat) (h : l.length = n) : (l.map encS).take n = l.map encS := List.take_of_length_le (by simp; omega)
theorem Short_ok (bs : List Box) (cs : List Bill) (hf : Fits bs cs) (h : checkR bs cs = 0) : Ct Tryd.prog 33 [encLoad bs cs] (.tup [.sl 2 ((shorts bs cs (stuffs cs)).map encS) false, int 0]) := by
 have hg := good_of_check h
 have h8 := hg.nb
 have h1 := hg.n1
 have hst := hg.st
 refine fn_enter Tryd.func33 rfl (by decide) Tryd.results33 Tryd.ntmps33 ?_ rfl (by simp (maxSteps := 1000000) -implicitDefEqProofs (disch := omega) only [go_sem]; rfl) fun base => ?_
 · first | assumption | (simp only [go_sem] <;> assumption) | (simp only [go_sem, *]; done) | (simp [go_sem]; done)
 repeat' (first
   | (with_reducible apply Req_intro); focus (first | omega | assumption | (simp; done))
   | with_reducible (first | apply Req_intro | refine nilT ?_ fun hn => ?_ | apply wk_draw Tryd_mixed | refine drawEnd (by kernel_rfl) ?_)
   | (with_reducible (first | apply condA_if | apply stepDG_ifN | apply stepDG_if | apply stepG_ifN | apply stepG_if)) <;> intro hb <;> (have hif := hb) <;> (try simp only [bo] at hif) <;> (try simp -implicitDefEqProofs (disch := omega) only [go_sem, hb]) <;> clear hb
   | simp (maxSteps := 1000000) -implicitDefEqProofs (disch := omega) only [go_sem])
 refine callp (Check_spec bs cs hf.b hf.c) ?_
 try simp (maxSteps := 1000000) -implicitDefEqProofs (disch := omega) only [go_sem]
 repeat' (first
   | (with_reducible apply Req_intro); focus (first | omega | assumption | (simp; done))
   | with_reducible (first | apply Req_intro | refine nilT ?_ fun hn => ?_ | apply wk_draw Tryd_mixed | refine drawEnd (by kernel_rfl) ?_)
   | (with_reducible (first | apply condA_if | apply stepDG_ifN | apply stepDG_if | apply stepG_ifN | apply stepG_if)) <;> intro hb <;> (have hif := hb) <;> (try simp only [bo] at hif) <;> (try simp -implicitDefEqProofs (disch := omega) only [go_sem, hb]) <;> clear hb
   | simp (maxSteps := 1000000) -implicitDefEqProofs (disch := omega) only [go_sem])
 · exact absurd h hif
 refine loop_rows (α := Nat) [2, 5, 6, 8, 10, 22, 23, 24, 25, 26, 27, 28, 29, 30, 31, 32, 33, 34, 35, 36, 37, 38, 39, 40, 41, 42, 43, 44, 45, 46, 47, 48, 49, 50, 51, 52, 53, 54, 55, 56, 57, 58, 59, 60, 61, 62, 63, 64, 65, 66, 67, 68, 69, 70, 71, 72, 73, 74, 75, 76, 77, 78, 79, 80, 81, 82, 83] (fun i => [(22, .lit (.int .i64 i)), (2, .os 64 2 i false)]) (fun i => [(0, some ⟨2, [loadC bs cs], 25, .wr⟩), (64, some ⟨2, (shorts bs cs i).map encS, 60, .wr⟩)]) (fun i => i ≤ stuffs cs) (fun i => stuffs cs - i) 0 (fun x => by simp (maxSteps := 1000000) -implicitDefEqProofs (disch := omega) only [go_sem]; rfl) ?_ ?_ fun x hx => ?_
 · simp only [shorts, List.range_zero, List.map_nil]
   exact weak_do [(64, 1000000)]
 · exact Nat.zero_le _
 repeat' (first
   | (with_reducible apply Req_intro); focus (first | omega | assumption | (simp; done))
   | with_reducible (first | apply Req_intro | refine nilT ?_ fun hn => ?_ | apply wk_draw Tryd_mixed | refine drawEnd (by kernel_rfl) ?_)
   | (with_reducible (first | apply condA_if | apply stepDG_ifN | apply stepDG_if | apply stepG_ifN | apply stepG_if)) <;> intro hb <;> (have hif := hb) <;> (try simp only [bo] at hif) <;> (try simp -implicitDefEqProofs (disch := omega) only [go_sem, hb]) <;> clear hb
   | simp (maxSteps := 1000000) -implicitDefEqProofs (disch := omega) only [go_sem])
 · have hk : x < stuffs cs := hif
   refine loop_rows (α := Nat) [8, 28, 29, 30, 31, 32, 33, 34, 35, 36, 37, 38, 39, 40, 41, 42, 43, 44, 45, 46, 47, 48, 49, 50, 51] (fun i => [(28, .lit (.int .i64 i))]) (fun i => [(0, some ⟨2, [loadC bs cs], 25, .wr⟩), (64, some ⟨2, (shorts bs cs x).map encS, 60, .wr⟩), (1152, some ⟨2, [encS (sumTo bs x i)], 60, .wr⟩)]) (fun i => i ≤ bs.length) (fun i => bs.length - i) 0 (fun x => by simp (maxSteps := 1000000) -implicitDefEqProofs (disch := omega) only [go_sem]; rfl) ?_ ?_ fun x hx => ?_
   · exact weak_do []
   · exact Nat.zero_le _
   rename_i k hk2
   have hb := sumTo_bnd hg hk x hx
   by_cases hlt : x < bs.length
   · have hbx := hg.box hk hlt
     repeat' (first
       | (with_reducible apply Req_intro); focus (first | omega | assumption | (simp; done))
       | with_reducible (first | apply Req_intro | refine nilT ?_ fun hn => ?_ | apply wk_draw Tryd_mixed | refine drawEnd (by kernel_rfl) ?_)
       | (with_reducible (first | apply condA_if | apply stepDG_ifN | apply stepDG_if | apply stepG_ifN | apply stepG_if)) <;> intro hb <;> (have hif := hb) <;> (try simp only [bo] at hif) <;> (try simp -implicitDefEqProofs (disch := omega) only [go_sem, hb]) <;> clear hb
       | simp (maxSteps := 1000000) -implicitDefEqProofs (disch := omega) only [go_sem])
     · with_reducible refine nxt_w (x + 1) ?_ ?_
       · (try dsimp only)
         simp only [sumTo_succ _ _ _ hlt]
         exact weak_do []
       try dsimp only
       omega
     · exact absurd hlt hif
   · obtain rfl : x = bs.length := by omega
     repeat' (first
       | (with_reducible apply Req_intro); focus (first | omega | assumption | (simp; done))
       | with_reducible (first | apply Req_intro | refine nilT ?_ fun hn => ?_ | apply wk_draw Tryd_mixed | refine drawEnd (by kernel_rfl) ?_)
       | (with_reducible (first | apply condA_if | apply stepDG_ifN | apply stepDG_if | apply stepG_ifN | apply stepG_if)) <;> intro hb <;> (have hif := hb) <;> (try simp only [bo] at hif) <;> (try simp -implicitDefEqProofs (disch := omega) only [go_sem, hb]) <;> clear hb
       | simp (maxSteps := 1000000) -implicitDefEqProofs (disch := omega) only [go_sem])
     · omega
     rw [show sumTo bs k bs.length = subTo bs cs k 0 from foldl_take_all _ _ _]
     clear hlt
     refine loop_rows (α := Nat) [10, 55, 56, 57, 58, 59, 60, 61, 62, 63, 64, 65, 66, 67, 68, 69, 70, 71, 72, 73, 74, 75, 76, 77, 78] (fun i => [(55, .lit (.int .i64 i))]) (fun i => [(0, some ⟨2, [loadC bs cs], 25, .wr⟩), (64, some ⟨2, (shorts bs cs k).map encS, 60, .wr⟩), (1152, some ⟨2, [encS (subTo bs cs k i)], 60, .wr⟩)]) (fun i => i ≤ cs.length) (fun i => cs.length - i) 0 (fun x => by simp (maxSteps := 1000000) -implicitDefEqProofs (disch := omega) only [go_sem]; rfl) ?_ ?_ fun x hx => ?_
     · exact weak_do []
     · exact Nat.zero_le _
     have hc := subTo_bnd hg hk x hx
     have h3 := hg.nc
     by_cases hlt : x < cs.length
     · have hbx := hg.bill hk hlt
       repeat' (first
         | (with_reducible apply Req_intro); focus (first | omega | assumption | (simp; done))
         | with_reducible (first | apply Req_intro | refine nilT ?_ fun hn => ?_ | apply wk_draw Tryd_mixed | refine drawEnd (by kernel_rfl) ?_)
         | (with_reducible (first | apply condA_if | apply stepDG_ifN | apply stepDG_if | apply stepG_ifN | apply stepG_if)) <;> intro hb <;> (have hif := hb) <;> (try simp only [bo] at hif) <;> (try simp -implicitDefEqProofs (disch := omega) only [go_sem, hb]) <;> clear hb
         | simp (maxSteps := 1000000) -implicitDefEqProofs (disch := omega) only [go_sem])
       · with_reducible refine nxt_w (x + 1) ?_ ?_
         · (try dsimp only)
           simp only [subTo_succ _ _ _ _ hlt]
           exact weak_do []
         try dsimp only
         omega
       · exact absurd hlt hif
     · obtain rfl : x = cs.length := by omega
       have hl : (shorts bs cs k).length = k := by simp [shorts]
       repeat' (first
         | (with_reducible apply Req_intro); focus (first | omega | assumption | (simp; done))
         | with_reducible (first | apply Req_intro | refine nilT ?_ fun hn => ?_ | apply wk_draw Tryd_mixed | refine drawEnd (by kernel_rfl) ?_)
         | (with_reducible (first | apply condA_if | apply stepDG_ifN | apply stepDG_if | apply stepG_ifN | apply stepG_if)) <;> intro hb <;> (have hif := hb) <;> (try simp only [bo] at hif) <;> (try simp -implicitDefEqProofs (disch := omega) only [go_sem, hb]) <;> clear hb
         | simp (maxSteps := 1000000) -implicitDefEqProofs (disch := omega) only [go_sem])
       · omega
       · with_reducible refine nxt_w (k + 1) ?_ ?_
         · (try dsimp only)
           rw [shorts_succ, List.map_append]
           exact weak_do [(64, 2048)]
         try dsimp only
         omega
 · obtain rfl : x = stuffs cs := by
     have : ¬ x < stuffs cs := hif
     omega
   have hl : (shorts bs cs (stuffs cs)).length = stuffs cs := by simp [shorts]
   exact retf [64] [2, 3] [.sl 2 ((shorts bs cs (stuffs cs)).map encS) false, int 0]
end Go.Aw
end
section
set_option maxRecDepth 20000
set_option maxHeartbeats 4000000
namespace Go.Aw
open Go.RowKit Go.Proofs
theorem Share_no (bs : List Box) (cs : List Bill) (a b : Int) (hf : Fits bs cs) (e : Int) (h : OpenIs bs cs e) : Ct Tryd.prog 34 [encLoad bs cs, int a, int b] (.tup [.agg [int 0, int 0], int e]) := by
 obtain ⟨x, y, hx, hy, hxy, hc⟩ := open_no bs cs hf e h
 have h0 := h.ne
 refine fn_enter Tryd.func34 rfl (by decide) Tryd.results34 Tryd.ntmps34 ?_ rfl (by simp (maxSteps := 1000000) -implicitDefEqProofs (disch := omega) only [go_sem]; rfl) fun base => ?_
 · first | assumption | (simp only [go_sem] <;> assumption) | (simp only [go_sem, *]; done) | (simp [go_sem]; done)
 repeat' (first
   | (with_reducible apply Req_intro); focus (first | omega | assumption | (simp; done))
   | with_reducible (first | apply Req_intro | refine nilT ?_ fun hn => ?_ | apply wk_draw Tryd_mixed | refine drawEnd (by kernel_rfl) ?_)
   | (with_reducible (first | apply condA_if | apply stepDG_ifN | apply stepDG_if | apply stepG_ifN | apply stepG_if)) <;> intro hb <;> (have hif := hb) <;> (try simp only [bo] at hif) <;> (try simp -implicitDefEqProofs (disch := omega) only [go_sem, hb]) <;> clear hb
   | simp (maxSteps := 1000000) -implicitDefEqProofs (disch := omega) only [go_sem])
 refine callp hc ?_
 try simp (maxSteps := 1000000) -implicitDefEqProofs (disch := omega) only [go_sem]
 repeat' (first
   | (with_reducible apply Req_intro); focus (first | omega | assumption | (simp; done))
   | with_reducible (first | apply Req_intro | refine nilT ?_ fun hn => ?_ | apply wk_draw Tryd_mixed | refine drawEnd (by kernel_rfl) ?_)
   | (with_reducible (first | apply condA_if | apply stepDG_ifN | apply stepDG_if | apply stepG_ifN | apply stepG_if)) <;> intro hb <;> (have hif := hb) <;> (try simp only [bo] at hif) <;> (try simp -implicitDefEqProofs (disch := omega) only [go_sem, hb]) <;> clear hb
   | simp (maxSteps := 1000000) -implicitDefEqProofs (disch := omega) only [go_sem])
 all_goals first | exact absurd ‹e = 0› h0 | skip
 refine ret_do ?_
 rfl
def cartTo (bs : List Box) (w : List Int) (a : Int) : Nat → Sums
 | 0 => default
 | j + 1 => if w.getD j default = a then plusR (cartTo bs w a j) (bs.getD j default) else cartTo bs w a j
theorem cartTo_small {bs : List Box} {cs : List Bill} (hv : Valid cs bs) (w : List Int) (a : Int) : ∀ j, j ≤ bs.length → Small (1000000 * j) (cartTo bs w a j)
 | 0, _ => by
   have h : SmallS (1000000 * ((0 : Nat) : Int)) (0, 0) := by unfold SmallS; decide
   exact ⟨h, h, h⟩
 | j + 1, h => by
   have h1 := cartTo_small hv w a j (by omega)
   rw [cartTo]
   split
   · exact (plusR_small h1 (hv.vb _ (getD_mem (by omega))) (by omega)).mono (by omega)
   · exact h1.mono (by omega)
def shareW (bs : List Box) (cs : List Bill) (a b : Nat) (w : List Int) : Int × Int :=
 (max ((cs.getD a default).2.getD b default).1 ((cartTo bs w a bs.length).get b).1, min ((cs.getD a default).2.getD b default).2 ((cartTo bs w a bs.length).get b).2)
def shareTo (bs : List Box) (cs : List Bill) (a b : Nat) (ws : List (List Int)) : Nat → Int × Int
 | 0 => (0, 0)
 | n + 1 => if 0 < n then (min (shareW bs cs a b (ws.getD n default)).1 (shareTo bs cs a b ws n).1, max (shareW bs cs a b (ws.getD n default)).2 (shareTo bs cs a b ws n).2) else shareW bs cs a b (ws.getD n default)
theorem stuffs_eq (cs : List Bill) : (cs.getD 0 default).2.length = stuffs cs := rfl
theorem Share_ok (bs : List Box) (cs : List Bill) (a b : Nat) (hf : Fits bs cs) (h : checkR bs cs = 0) (hn : allW bs cs ≠ []) (ha : a < cs.length) (hb : b < stuffs cs) : Ct Tryd.prog 34 [encLoad bs cs, int a, int b] (.tup [.agg (encS (shareTo bs cs a b (allW bs cs) (allW bs cs).length)), int 0]) := by
 have hg := good_of_check h
 have h3 := hg.nc
 have h1 := hg.n1
 have hst := hg.st
 have hse := stuffs_eq cs
 have hbl := hg.bill hb ha
 have ha' : inR' 0 (cs.length - 1) (a : Int) = true := by simp [inR']; omega
 have hb' : inR' 0 (stuffs cs - 1) (b : Int) = true := by simp [inR']; omega
 have hok := allW_ok bs cs
 have hfew := hg.valid.few
 refine fn_enter Tryd.func34 rfl (by decide) Tryd.results34 Tryd.ntmps34 ?_ rfl (by simp (maxSteps := 1000000) -implicitDefEqProofs (disch := omega) only [go_sem]; rfl) fun base => ?_
 · first | assumption | (simp only [go_sem] <;> assumption) | (simp only [go_sem, *]; done) | (simp [go_sem]; done)
 repeat' (first
   | (with_reducible apply Req_intro); focus (first | omega | assumption | (simp; done))
   | with_reducible (first | apply Req_intro | refine nilT ?_ fun hn => ?_ | apply wk_draw Tryd_mixed | refine drawEnd (by kernel_rfl) ?_)
   | (with_reducible (first | apply condA_if | apply stepDG_ifN | apply stepDG_if | apply stepG_ifN | apply stepG_if)) <;> intro hb <;> (have hif := hb) <;> (try simp only [bo] at hif) <;> (try simp -implicitDefEqProofs (disch := omega) only [go_sem, hb]) <;> clear hb
   | simp (maxSteps := 1000000) -implicitDefEqProofs (disch := omega) only [go_sem])
 refine callp (open_ok bs cs hf h hn) ?_
 try simp (maxSteps := 1000000) -implicitDefEqProofs (disch := omega) only [go_sem]
 repeat' (first
   | (with_reducible apply Req_intro); focus (first | omega | assumption | (simp; done))
   | with_reducible (first | apply Req_intro | refine nilT ?_ fun hn => ?_ | apply wk_draw Tryd_mixed | refine drawEnd (by kernel_rfl) ?_)
   | (with_reducible (first | apply condA_if | apply stepDG_ifN | apply stepDG_if | apply stepG_ifN | apply stepG_if)) <;> intro hb <;> (have hif := hb) <;> (try simp only [bo] at hif) <;> (try simp -implicitDefEqProofs (disch := omega) only [go_sem, hb]) <;> clear hb
   | simp (maxSteps := 1000000) -implicitDefEqProofs (disch := omega) only [go_sem])
 refine callc (within_spec 0 (cs.length - 1) [(a : Int)] _ (by simp)) ?_
 try simp (maxSteps := 1000000) -implicitDefEqProofs (disch := omega) only [go_sem]
 repeat' (first
   | (with_reducible apply Req_intro); focus (first | omega | assumption | (simp; done))
   | with_reducible (first | apply Req_intro | refine nilT ?_ fun hn => ?_ | apply wk_draw Tryd_mixed | refine drawEnd (by kernel_rfl) ?_)
   | (with_reducible (first | apply condA_if | apply stepDG_ifN | apply stepDG_if | apply stepG_ifN | apply stepG_if)) <;> intro hb <;> (have hif := hb) <;> (try simp only [bo] at hif) <;> (try simp -implicitDefEqProofs (disch := omega) only [go_sem, hb]) <;> clear hb
   | simp (maxSteps := 1000000) -implicitDefEqProofs (disch := omega) only [go_sem])
 · rw [ha'] at hif; cases hif
 rw [hse]
 refine callc (within_spec 0 (stuffs cs - 1) [(b : Int)] _ (by simp)) ?_
 try simp (maxSteps := 1000000) -implicitDefEqProofs (disch := omega) only [go_sem]
 repeat' (first
   | (with_reducible apply Req_intro); focus (first | omega | assumption | (simp; done))
   | with_reducible (first | apply Req_intro | refine nilT ?_ fun hn => ?_ | apply wk_draw Tryd_mixed | refine drawEnd (by kernel_rfl) ?_)
   | (with_reducible (first | apply condA_if | apply stepDG_ifN | apply stepDG_if | apply stepG_ifN | apply stepG_if)) <;> intro hb <;> (have hif := hb) <;> (try simp only [bo] at hif) <;> (try simp -implicitDefEqProofs (disch := omega) only [go_sem, hb]) <;> clear hb
   | simp (maxSteps := 1000000) -implicitDefEqProofs (disch := omega) only [go_sem])
 · rw [hb'] at hif; cases hif
 refine loop_rows (α := Nat) [11, 12, 13, 14, 15, 16, 17, 64, 65, 66, 67, 68, 69, 70, 71, 72, 73, 74, 75, 76, 77, 78, 79, 80, 81, 82, 83, 84, 85, 86, 87, 88, 89, 90, 91, 92, 93, 94, 95, 96, 97, 98, 99, 100, 101, 102, 103, 104, 105, 106, 107, 108, 109, 110, 111, 112, 113, 114, 115, 116, 117, 118, 119, 120] (fun i => [(64, .lit (.int .i64 i))]) (fun i => [(0, some ⟨2, [loadC bs cs], 25, .wr⟩), (64, some ⟨2, [encS (shareTo bs cs a b (allW bs cs) i)], 60, .wr⟩), (576, some ⟨2, [loadC bs cs], 94, .wr⟩), (3136, some ⟨2, [encS ((cs.getD a default).2.getD b default)], 60, .wr⟩)]) (fun i => i ≤ (allW bs cs).length) (fun i => (allW bs cs).length - i) 0 (fun x => by simp (maxSteps := 1000000) -implicitDefEqProofs (disch := omega) only [go_sem]; rfl) ?_ ?_ fun x hx => ?_
 · exact weak_do []
 · exact Nat.zero_le _
 repeat' (first
   | (with_reducible apply Req_intro); focus (first | omega | assumption | (simp; done))
   | with_reducible (first | apply Req_intro | refine nilT ?_ fun hn => ?_ | apply wk_draw Tryd_mixed | refine drawEnd (by kernel_rfl) ?_)
   | (with_reducible (first | apply condA_if | apply stepDG_ifN | apply stepDG_if | apply stepG_ifN | apply stepG_if)) <;> intro hb <;> (have hif := hb) <;> (try simp only [bo] at hif) <;> (try simp -implicitDefEqProofs (disch := omega) only [go_sem, hb]) <;> clear hb
   | simp (maxSteps := 1000000) -implicitDefEqProofs (disch := omega) only [go_sem])
 · have hlt : x < (allW bs cs).length := hif
   have hw := (hok _ (getD_mem hlt)).1
   generalize hwe : (allW bs cs).getD x default = w
   rw [hwe] at hw
   clear hif
   refine loop_rows (α := Nat) [14, 15, 71, 72, 73, 74, 75, 76, 77, 78, 79, 80, 81, 82, 83, 84, 85, 86, 87, 88, 89, 90] (fun i => [(71, .lit (.int .i64 i))]) (fun i => [(0, some ⟨2, [loadC bs cs], 25, .wr⟩), (64, some ⟨2, [encS (shareTo bs cs a b (allW bs cs) x)], 60, .wr⟩), (576, some ⟨2, [loadC bs cs], 94, .wr⟩), (3136, some ⟨2, [encS ((cs.getD a default).2.getD b default)], 60, .wr⟩), (3840, some ⟨7, [encCart ⟨0, cartTo bs w a i⟩], 114, .wr⟩)]) (fun i => i ≤ bs.length) (fun i => bs.length - i) 0 (fun x => by simp (maxSteps := 1000000) -implicitDefEqProofs (disch := omega) only [go_sem]; rfl) ?_ ?_ fun x hx => ?_
   · exact weak_do []
   · exact Nat.zero_le _
   rename_i k hk2
   have hsm := cartTo_small hg.valid w a x hx
   have h8 := hg.nb
   by_cases hlx : x < bs.length
   · have hb3 := hg.lb _ (getD_mem hlx)
     repeat' (first
       | (with_reducible apply Req_intro); focus (first | omega | assumption | (simp; done))
       | with_reducible (first | apply Req_intro | refine nilT ?_ fun hn => ?_ | apply wk_draw Tryd_mixed | refine drawEnd (by kernel_rfl) ?_)
       | (with_reducible (first | apply condA_if | apply stepDG_ifN | apply stepDG_if | apply stepG_ifN | apply stepG_if)) <;> intro hb <;> (have hif := hb) <;> (try simp only [bo] at hif) <;> (try simp -implicitDefEqProofs (disch := omega) only [go_sem, hb]) <;> clear hb
       | simp (maxSteps := 1000000) -implicitDefEqProofs (disch := omega) only [go_sem])
     all_goals first | (exfalso; omega) | skip
     · refine calld (plus_spec (cartTo bs w a x) (bs.getD x default) _ (by omega) (hsm.mono (by omega)) (fun y hy => (hg.valid.vb _ (getD_mem hlx) y hy).mono (by decide))) ?_
       try simp (maxSteps := 1000000) -implicitDefEqProofs (disch := omega) only [go_sem]
       repeat' (first
         | (with_reducible apply Req_intro); focus (first | omega | assumption | (simp; done))
         | with_reducible (first | apply Req_intro | refine nilT ?_ fun hn => ?_ | apply wk_draw Tryd_mixed | refine drawEnd (by kernel_rfl) ?_)
         | (with_reducible (first | apply condA_if | apply stepDG_ifN | apply stepDG_if | apply stepG_ifN | apply stepG_if)) <;> intro hb <;> (have hif := hb) <;> (try simp only [bo] at hif) <;> (try simp -implicitDefEqProofs (disch := omega) only [go_sem, hb]) <;> clear hb
         | simp (maxSteps := 1000000) -implicitDefEqProofs (disch := omega) only [go_sem])
       with_reducible refine nxt_w (x + 1) ?_ ?_
       · (try dsimp only)
         simp only [cartTo, if_pos hif]
         exact weak_do []
       try dsimp only
       omega
     · with_reducible refine nxt_w (x + 1) ?_ ?_
       · (try dsimp only)
         simp only [cartTo, if_neg hif]
         exact weak_do []
       try dsimp only
       omega
   · obtain rfl : x = bs.length := by omega
     repeat' (first
       | (with_reducible apply Req_intro); focus (first | omega | assumption | (simp; done))
       | with_reducible (first | apply Req_intro | refine nilT ?_ fun hn => ?_ | apply wk_draw Tryd_mixed | refine drawEnd (by kernel_rfl) ?_)
       | (with_reducible (first | apply condA_if | apply stepDG_ifN | apply stepDG_if | apply stepG_ifN | apply stepG_if)) <;> intro hb <;> (have hif := hb) <;> (try simp only [bo] at hif) <;> (try simp -implicitDefEqProofs (disch := omega) only [go_sem, hb]) <;> clear hb
       | simp (maxSteps := 1000000) -implicitDefEqProofs (disch := omega) only [go_sem])
     all_goals first | (exfalso; omega) | skip
     · with_reducible refine nxt_w (k + 1) ?_ ?_
       · (try dsimp only)
         simp only [shareTo, if_pos (show 0 < k by omega), shareW, hwe]
         exact weak_do []
       try dsimp only
       omega
     · with_reducible refine nxt_w (k + 1) ?_ ?_
       · (try dsimp only)
         simp only [shareTo, if_neg (show ¬ 0 < k by omega), shareW, hwe]
         exact weak_do []
       try dsimp only
       omega
 · obtain rfl : x = (allW bs cs).length := by omega
   refine ret_do ?_
   rfl
end Go.Aw
end
section
set_option maxRecDepth 20000
set_option maxHeartbeats 4000000
namespace Go.Aw
open Go.RowKit Go.Proofs
abbrev u64 (n : Int) : V := .lit (.int .u64 n)
@[go_sem] theorem globT_tab : globT 1 = some tab64 := rfl
def tz (x : Nat) : Nat := ((List.range 8).find? fun i => x.testBit i).getD 0
def tzE (x : Int) : Int := (IntKind.wrap .u64 (ibits .and .u64 x (IntKind.wrap .u64 (-x)) * 285870213051353865)).fdiv (2 ^ min 58 64)
def tabI : List Int := [0, 1, 56, 2, 57, 49, 28, 3, 61, 58, 42, 50, 38, 29, 17, 4, 62, 47, 59, 36, 45, 43, 51, 22, 53, 39, 33, 30, 24, 18, 12, 5, 63, 55, 48, 27, 60, 41, 37, 16, 46, 35, 44, 21, 52, 32, 23, 11, 54, 26, 40, 15, 34, 20, 31, 10, 25, 14, 19, 9, 13, 8, 7, 6]
theorem tz_all : ∀ x : Nat, x < 256 → (0 < x → (0 ≤ tzE x ∧ tzE x < 64) ∧ tabI.getD (tzE x).toNat 0 = tz x) := by decide +kernel
theorem tz_lt (x : Nat) (h : x < 256) : tz x < 8 := by
 have : ∀ x : Nat, x < 256 → tz x < 8 := by decide +kernel
 exact this x h
theorem tab_len (e : Nat) (h : e < 64) : 0 < (List.drop (e * 1) (List.map V.lit tab64)).length := by
 rw [List.length_drop, List.length_map]
 have : tab64.length = 64 := rfl
 omega
theorem tab_at : ∀ e : Nat, e < 64 → (List.drop (e * 1) (List.map V.lit tab64)).headD .undef = .lit (.int .u8 (tabI.getD e 0)) := by
 intro e h
 have h1 : e < tabI.length := h
 have h2 : List.map V.lit tab64 = tabI.map fun n => V.lit (.int .u8 n) := rfl
 rw [Nat.mul_one, h2]
 rw [← List.map_drop, List.drop_eq_getElem_cons h1]
 simp [List.getD_eq_getElem?_getD, h1]
theorem TZ64 (x : Nat) (h0 : 0 < x) (h : x < 256) : Ct Tryd.prog 88 [u64 x] (int (tz x)) := by
 obtain ⟨⟨h1, h2⟩, h3⟩ := tz_all x h h0
 have h4 := tz_lt x h
 obtain ⟨e, he⟩ := Int.eq_ofNat_of_zero_le h1
 rw [he] at h2 h3
 rw [Int.toNat_natCast] at h3
 have h5 := tab_len e (by omega)
 have h6 := tab_at e (by omega)
 rw [h3] at h6
 unfold tzE at he
 clear h1
 have hE := And.intro he h6
 refine fn_enter Tryd.func88 rfl (by decide) Tryd.results88 Tryd.ntmps88 ?_ rfl (by simp (maxSteps := 1000000) -implicitDefEqProofs (disch := omega) only [go_sem]; rfl) fun base => ?_
 · first | assumption | (simp only [go_sem] <;> assumption) | (simp only [go_sem, *]; done) | (simp [go_sem]; done)
 repeat' (first
   | (with_reducible apply Req_intro); focus (first | omega | assumption | (simp; done))
   | with_reducible (first | apply Req_intro | refine nilT ?_ fun hn => ?_ | apply wk_draw Tryd_mixed | refine drawEnd (by kernel_rfl) ?_)
   | (with_reducible (first | apply condA_if | apply stepDG_ifN | apply stepDG_if | apply stepG_ifN | apply stepG_if)) <;> intro hb <;> (have hif := hb) <;> (try simp only [bo] at hif) <;> (try simp -implicitDefEqProofs (disch := omega) only [go_sem, hb, hE]) <;> clear hb
   | simp (maxSteps := 1000000) -implicitDefEqProofs (disch := omega) only [go_sem, hE])
 · exfalso; omega
 · refine ret_do ?_
   rfl
theorem TZ (x : Nat) (h0 : 0 < x) (h : x < 256) : Ct Tryd.prog 66 [u64 x] (int (tz x)) := by
 refine fn_enter Tryd.func66 rfl (by decide) Tryd.results66 Tryd.ntmps66 ?_ rfl (by simp (maxSteps := 1000000) -implicitDefEqProofs (disch := omega) only [go_sem]; rfl) fun base => ?_
 · first | assumption | (simp only [go_sem] <;> assumption) | (simp only [go_sem, *]; done) | (simp [go_sem]; done)
 repeat' (first
   | (with_reducible apply Req_intro); focus (first | omega | assumption | (simp; done))
   | with_reducible (first | apply Req_intro | refine nilT ?_ fun hn => ?_ | apply wk_draw Tryd_mixed | refine drawEnd (by kernel_rfl) ?_)
   | (with_reducible (first | apply condA_if | apply stepDG_ifN | apply stepDG_if | apply stepG_ifN | apply stepG_if)) <;> intro hb <;> (have hif := hb) <;> (try simp only [bo] at hif) <;> (try simp -implicitDefEqProofs (disch := omega) only [go_sem, hb]) <;> clear hb
   | simp (maxSteps := 1000000) -implicitDefEqProofs (disch := omega) only [go_sem])
 refine callp (TZ64 x h0 h) ?_
 try simp (maxSteps := 1000000) -implicitDefEqProofs (disch := omega) only [go_sem]
 repeat' (first
   | (with_reducible apply Req_intro); focus (first | omega | assumption | (simp; done))
   | with_reducible (first | apply Req_intro | refine nilT ?_ fun hn => ?_ | apply wk_draw Tryd_mixed | refine drawEnd (by kernel_rfl) ?_)
   | (with_reducible (first | apply condA_if | apply stepDG_ifN | apply stepDG_if | apply stepG_ifN | apply stepG_if)) <;> intro hb <;> (have hif := hb) <;> (try simp only [bo] at hif) <;> (try simp -implicitDefEqProofs (disch := omega) only [go_sem, hb]) <;> clear hb
   | simp (maxSteps := 1000000) -implicitDefEqProofs (disch := omega) only [go_sem])
 refine ret_do ?_
 rfl
theorem isNaN_spec (x : Int) : Ct Tryd.prog 100 [int x] (.lit (.bool false)) := by
 refine fn_enter Tryd.func100 rfl (by decide) Tryd.results100 Tryd.ntmps100 ?_ rfl (by simp (maxSteps := 1000000) -implicitDefEqProofs (disch := omega) only [go_sem]; rfl) fun base => ?_
 · first | assumption | (simp only [go_sem] <;> assumption) | (simp only [go_sem, *]; done) | (simp [go_sem]; done)
 repeat' (first
   | (with_reducible apply Req_intro); focus (first | omega | assumption | (simp; done))
   | with_reducible (first | apply Req_intro | refine nilT ?_ fun hn => ?_ | apply wk_draw Tryd_mixed | refine drawEnd (by kernel_rfl) ?_)
   | (with_reducible (first | apply condA_if | apply stepDG_ifN | apply stepDG_if | apply stepG_ifN | apply stepG_if)) <;> intro hb <;> (have hif := hb) <;> (try simp only [bo] at hif) <;> (try simp -implicitDefEqProofs (disch := omega) only [go_sem, hb]) <;> clear hb
   | simp (maxSteps := 1000000) -implicitDefEqProofs (disch := omega) only [go_sem])
 refine ret_do ?_
 simp [retV]
def cmpI (x y : Int) : Int := if x < y then -1 else if y < x then 1 else 0
theorem Compare1 (x y : Int) : Ct Tryd.prog 89 [int x, int y] (int (cmpI x y)) := by
 refine fn_enter Tryd.func89 rfl (by decide) Tryd.results89 Tryd.ntmps89 ?_ rfl (by simp (maxSteps := 1000000) -implicitDefEqProofs (disch := omega) only [go_sem]; rfl) fun base => ?_
 · first | assumption | (simp only [go_sem] <;> assumption) | (simp only [go_sem, *]; done) | (simp [go_sem]; done)
 repeat' (first
   | (with_reducible apply Req_intro); focus (first | omega | assumption | (simp; done))
   | with_reducible (first | apply Req_intro | refine nilT ?_ fun hn => ?_ | apply wk_draw Tryd_mixed | refine drawEnd (by kernel_rfl) ?_)
   | (with_reducible (first | apply condA_if | apply stepDG_ifN | apply stepDG_if | apply stepG_ifN | apply stepG_if)) <;> intro hb <;> (have hif := hb) <;> (try simp only [bo] at hif) <;> (try simp -implicitDefEqProofs (disch := omega) only [go_sem, hb]) <;> clear hb
   | simp (maxSteps := 1000000) -implicitDefEqProofs (disch := omega) only [go_sem])
 refine callp (isNaN_spec x) ?_
 try simp (maxSteps := 1000000) -implicitDefEqProofs (disch := omega) only [go_sem]
 repeat' (first
   | (with_reducible apply Req_intro); focus (first | omega | assumption | (simp; done))
   | with_reducible (first | apply Req_intro | refine nilT ?_ fun hn => ?_ | apply wk_draw Tryd_mixed | refine drawEnd (by kernel_rfl) ?_)
   | (with_reducible (first | apply condA_if | apply stepDG_ifN | apply stepDG_if | apply stepG_ifN | apply stepG_if)) <;> intro hb <;> (have hif := hb) <;> (try simp only [bo] at hif) <;> (try simp -implicitDefEqProofs (disch := omega) only [go_sem, hb]) <;> clear hb
   | simp (maxSteps := 1000000) -implicitDefEqProofs (disch := omega) only [go_sem])
 refine callp (isNaN_spec y) ?_
 try simp (maxSteps := 1000000) -implicitDefEqProofs (disch := omega) only [go_sem]
 repeat' (first
   | (with_reducible apply Req_intro); focus (first | omega | assumption | (simp; done))
   | with_reducible (first | apply Req_intro | refine nilT ?_ fun hn => ?_ | apply wk_draw Tryd_mixed | refine drawEnd (by kernel_rfl) ?_)
   | (with_reducible (first | apply condA_if | apply stepDG_ifN | apply stepDG_if | apply stepG_ifN | apply stepG_if)) <;> intro hb <;> (have hif := hb) <;> (try simp only [bo] at hif) <;> (try simp -implicitDefEqProofs (disch := omega) only [go_sem, hb]) <;> clear hb
   | simp (maxSteps := 1000000) -implicitDefEqProofs (disch := omega) only [go_sem])
 · refine ret_do ?_
   rw [cmpI, if_pos hif]; rfl
 · refine ret_do ?_
   rw [cmpI, if_neg (by omega), if_pos hif]; rfl
 · refine ret_do ?_
   rw [cmpI, if_neg (by omega), if_neg (by omega)]; rfl
def cmpL : List Int → List Int → Int
 | [], [] => 0
 | [], _ :: _ => -1
 | _ :: _, [] => 1
 | x :: a, y :: b => if cmpI x y ≠ 0 then cmpI x y else cmpL a b
theorem drop_cons {l : List Int} {x : Nat} (h : x < l.length) : l.drop x = l.getD x default :: l.drop (x + 1) := by
 rw [getD_default h]; exact List.drop_eq_getElem_cons h
theorem CompareL (a b : List Int) (e f : Bool) (ha : a.length ≤ 1000) (hb : b.length ≤ 1000) : Ct Tryd.prog 67 [.sl 1 (a.map encI) e, .sl 1 (b.map encI) f] (int (cmpL a b)) := by
 refine fn_enter Tryd.func67 rfl (by decide) Tryd.results67 Tryd.ntmps67 ?_ rfl (by simp (maxSteps := 1000000) -implicitDefEqProofs (disch := omega) only [go_sem]; rfl) fun base => ?_
 · first | assumption | (simp only [go_sem] <;> assumption) | (simp only [go_sem, *]; done) | (simp [go_sem]; done)
 repeat' (first
   | (with_reducible apply Req_intro); focus (first | omega | assumption | (simp; done))
   | with_reducible (first | apply Req_intro | refine nilT ?_ fun hn => ?_ | apply wk_draw Tryd_mixed | refine drawEnd (by kernel_rfl) ?_)
   | (with_reducible (first | apply condA_if | apply stepDG_ifN | apply stepDG_if | apply stepG_ifN | apply stepG_if)) <;> intro hb <;> (have hif := hb) <;> (try simp only [bo] at hif) <;> (try simp -implicitDefEqProofs (disch := omega) only [go_sem, hb]) <;> clear hb
   | simp (maxSteps := 1000000) -implicitDefEqProofs (disch := omega) only [go_sem])
 refine loop_at (α := Nat) [4, 5, 6, 7, 8, 11, 12, 13, 14, 15, 16, 17, 18, 19, 20, 21, 22, 23, 24, 25, 26, 27, 28, 29, 30] (fun i => [(11, .lit (.int .i64 i))]) (fun i => i ≤ a.length ∧ i ≤ b.length ∧ cmpL a b = cmpL (a.drop i) (b.drop i)) (fun i => a.length - i) 0 (fun x => by simp (maxSteps := 1000000) -implicitDefEqProofs (disch := omega) only [go_sem]; rfl) ?_ ?_ fun x hx => ?_
 · exact weak_do []
 · simp
 obtain ⟨h1, h2, h3⟩ := hx
 repeat' (first
   | (with_reducible apply Req_intro); focus (first | omega | assumption | (simp; done))
   | with_reducible (first | apply Req_intro | refine nilT ?_ fun hn => ?_ | apply wk_draw Tryd_mixed | refine drawEnd (by kernel_rfl) ?_)
   | (with_reducible (first | apply condA_if | apply stepDG_ifN | apply stepDG_if | apply stepG_ifN | apply stepG_if)) <;> intro hb <;> (have hif := hb) <;> (try simp only [bo] at hif) <;> (try simp -implicitDefEqProofs (disch := omega) only [go_sem, hb]) <;> clear hb
   | simp (maxSteps := 1000000) -implicitDefEqProofs (disch := omega) only [go_sem])
 · rename_i hif1
   obtain rfl : x = b.length := by omega
   refine ret_do ?_
   rw [h3, drop_cons hif1, List.drop_length]; rfl
 · rename_i hif1
   have hbx : x < b.length := by omega
   refine callp (Compare1 (a.getD x default) (b.getD x default)) ?_
   try simp (maxSteps := 1000000) -implicitDefEqProofs (disch := omega) only [go_sem]
   repeat' (first
     | (with_reducible apply Req_intro); focus (first | omega | assumption | (simp; done))
     | with_reducible (first | apply Req_intro | refine nilT ?_ fun hn => ?_ | apply wk_draw Tryd_mixed | refine drawEnd (by kernel_rfl) ?_)
     | (with_reducible (first | apply condA_if | apply stepDG_ifN | apply stepDG_if | apply stepG_ifN | apply stepG_if)) <;> intro hb <;> (have hif := hb) <;> (try simp only [bo] at hif) <;> (try simp -implicitDefEqProofs (disch := omega) only [go_sem, hb]) <;> clear hb
     | simp (maxSteps := 1000000) -implicitDefEqProofs (disch := omega) only [go_sem])
   · refine ret_do ?_
     rw [h3, drop_cons hif1, drop_cons hbx, cmpL, if_pos (by assumption)]; rfl
   · refine nxt_w (x + 1) (weak_do []) ?_
     try dsimp only
     refine ⟨by omega, by omega, ?_⟩
     rw [h3, drop_cons hif1, drop_cons hbx, cmpL, if_neg (by simpa using hif)]
 · obtain rfl : x = a.length := by omega
   refine ret_do ?_
   rw [h3, List.drop_length, drop_cons (l := b) (by omega)]; rfl
 · obtain rfl : x = a.length := by omega
   refine ret_do ?_
   rw [h3, List.drop_length, show b.drop a.length = [] from List.drop_eq_nil_of_le (by omega)]; rfl
end Go.Aw
end
section
set_option maxRecDepth 20000
set_option maxHeartbeats 4000000
namespace Go.Aw
open Go.RowKit Go.Proofs
def spoilB (b : Box) : Box := List.replicate b.length (0, 10000)
def spoil (bs : List Box) (set : Nat) : List Box := bs.mapIdx fun i b => if set.testBit i then spoilB b else b
theorem bits_all : ∀ s : Nat, s < 256 → (0 < s → s.testBit (tz s) = true ∧ s &&& (s - 1) < s ∧ ibits .and .u64 s ((s : Int) - 1) = ((s &&& (s - 1) : Nat) : Int) ∧ ∀ i, i < 8 → (s &&& (s - 1)).testBit i = (s.testBit i && !(i == tz s))) := by decide +kernel
theorem tz_below : ∀ n : Nat, n < 9 → ∀ s : Nat, s < 2 ^ n → (0 < s → tz s < n) := by decide +kernel
theorem spoil_step {l : List Box} {s : Nat} (h8 : l.length ≤ 8) (h : s < 256) (h0 : 0 < s) : spoil (l.set (tz s) (spoilB (l.getD (tz s) default))) (s &&& (s - 1)) = spoil l s := by
 obtain ⟨b1, -, -, b2⟩ := bits_all s h h0
 refine List.ext_getElem (by simp [spoil]) fun i h1 h2 => ?_
 have hi : i < l.length := by simpa [spoil] using h2
 simp only [spoil, List.getElem_mapIdx, b2 i (by omega), List.getElem_set]
 by_cases e : tz s = i
 · subst e
   rw [if_pos rfl, b1, getD_default hi]; simp
 · have e' : (i == tz s) = false := beq_eq_false_iff_ne.2 (fun h => e h.symm)
   simp [e, e']
theorem spoil_zero (l : List Box) : spoil l 0 = l := by
 refine List.ext_getElem (by simp [spoil]) fun i h1 h2 => ?_
 simp [spoil]
theorem spoil_len (l : List Box) (s : Nat) : (spoil l s).length = l.length := by simp [spoil]
def fillTo (n x : Nat) : List (Int × Int) := List.replicate x (0, 10000) ++ List.replicate (n - x) (0, 0)
theorem fillTo_len {n x : Nat} (h : x ≤ n) : (fillTo n x).length = n := by simp [fillTo]; omega
theorem fillTo_at {n x : Nat} (h : x < n) : (fillTo n x).getD x default = (0, 0) := by
 rw [getD_default (by rw [fillTo_len (by omega)]; exact h)]
 simp [fillTo, List.getElem_append_right]
theorem fillTo_set {n x : Nat} (h : x < n) : (fillTo n x).set x (0, 10000) = fillTo n (x + 1) := by
 simp only [fillTo]
 rw [List.set_append_right _ _ (by simp), List.length_replicate, Nat.sub_self, show n - x = (n - (x + 1)) + 1 from by omega, List.replicate_succ, List.set_cons_zero, List.replicate_succ', List.append_assoc]
 rfl
theorem fillTo_full (b : Box) : fillTo b.length b.length = spoilB b := by simp [fillTo, spoilB]
@[go_sem] theorem PuE_rep2 (n : Nat) (v u : Value) : PuE (List.replicate n [.lit v, .lit u]) = True := by
 simp only [PuE, eq_iff_iff, iff_true]
 intro e he
 rw [List.eq_of_mem_replicate he]
 simp [PuL]
@[go_sem] theorem take_map_B (l : List Box) (n : Nat) (h : l.length = n) : (l.map encB).take n = l.map encB := List.take_of_length_le (by simp; omega)
@[go_sem] theorem map_set_S (l : List (Int × Int)) (i : Nat) (x y : Int) : (l.map encS).set i [.lit (.int .i64 x), .lit (.int .i64 y)] = (l.set i (x, y)).map encS := by rw [List.map_set]; rfl
theorem Clone_own (w : List Box) (e : Bool) (hl : w.length ≤ 1073741824) (hw : w ≠ []) (h : Hp) : CallH Tryd.prog 90 [.sl 1 (w.map encB) e] h 320 (fun r h' nx' => r = .os 640 1 w.length false ∧ h' = hpOf h [(512, some ⟨1, [], 67, .wr⟩), (640, some ⟨1, w.map encB, 67, .wr⟩)] ∧ nx' = 768) := by
 refine callH_enter Tryd.func90 rfl Tryd.results90 Tryd.ntmps90 rfl (by simp (maxSteps := 1000000) -implicitDefEqProofs (disch := omega) only [go_sem]; rfl) fun base => ?_
 repeat' (first
   | (with_reducible apply Req_intro); focus (first | omega | assumption | (simp; done))
   | with_reducible (first | apply Req_intro | refine nilT ?_ fun hn => ?_ | apply wk_draw Tryd_mixed | refine drawEnd (by kernel_rfl) ?_)
   | (with_reducible (first | apply condA_if | apply stepDG_ifN | apply stepDG_if | apply stepG_ifN | apply stepG_if)) <;> intro hb <;> (have hif := hb) <;> (try simp only [bo] at hif) <;> (try simp -implicitDefEqProofs (disch := omega) only [go_sem, hb]) <;> clear hb
   | simp (maxSteps := 1000000) -implicitDefEqProofs (disch := omega) only [go_sem])
 · refine ret_do ?_
   exact ⟨rfl, rfl, rfl⟩
 · exact absurd (by simpa using hn) hw
theorem wrong_spec (bs : List Box) (cs : List Bill) (set : Nat) (hb8 : bs.length ≤ 8) (h1 : 1 ≤ bs.length) (hset : set < 2 ^ bs.length) (hb : ∀ b ∈ bs, b.length ≤ 1000) : Ct Tryd.prog 68 [encLoad bs cs, u64 set] (encLoad (spoil bs set) cs) := by
 refine ct_enterZ Tryd.func68 rfl (by decide) Tryd.results68 Tryd.ntmps68 ?_ rfl (by simp (maxSteps := 1000000) -implicitDefEqProofs (disch := omega) only [go_sem]; rfl) fun base => ?_
 · first | assumption | (simp only [go_sem] <;> assumption) | (simp only [go_sem, *]; done) | (simp [go_sem]; done)
 repeat' (first
   | (with_reducible apply Req_intro); focus (first | omega | assumption | (simp; done))
   | with_reducible (first | apply Req_intro | refine nilT ?_ fun hn => ?_ | apply wk_draw Tryd_mixed | refine drawEnd (by kernel_rfl) ?_)
   | (with_reducible (first | apply condA_if | apply stepDG_ifN | apply stepDG_if | apply stepG_ifN | apply stepG_if)) <;> intro hb <;> (have hif := hb) <;> (try simp only [bo] at hif) <;> (try simp -implicitDefEqProofs (disch := omega) only [go_sem, hb]) <;> clear hb
   | simp (maxSteps := 1000000) -implicitDefEqProofs (disch := omega) only [go_sem])
 refine callA_shared _ (Clone_own bs _ (by omega) (fun h => by rw [h] at h1; cases h1) _) ⟨_, Tryd.func90, by rfl, by decide⟩ fun r h' nx' hp => ?_
 obtain ⟨rfl, rfl, rfl⟩ := hp
 rw [hpOf_app]
 simp only [List.cons_append, List.nil_append]
 repeat' (first
   | (with_reducible apply Req_intro); focus (first | omega | assumption | (simp; done))
   | with_reducible (first | apply Req_intro | refine nilT ?_ fun hn => ?_ | apply wk_draw Tryd_mixed | refine drawEnd (by kernel_rfl) ?_)
   | (with_reducible (first | apply condA_if | apply stepDG_ifN | apply stepDG_if | apply stepG_ifN | apply stepG_if)) <;> intro hb <;> (have hif := hb) <;> (try simp only [bo] at hif) <;> (try simp -implicitDefEqProofs (disch := omega) only [go_sem, hb]) <;> clear hb
   | simp (maxSteps := 1000000) -implicitDefEqProofs (disch := omega) only [go_sem])
 refine loop_rows (α := Nat × List Box) [1, 5, 6, 7, 14, 15, 16, 17, 18, 19, 20, 21, 22, 23, 24, 25, 26, 27, 28, 29, 30, 31, 32, 33, 34, 35, 36, 37, 38, 39, 40, 41, 42, 43, 44, 45, 46, 47] (fun y => [(1, u64 y.1)]) (fun y => [(0, some ⟨2, [[.os 640 1 bs.length false, .sl 2 (cs.map encBill) false]], 94, .wr⟩), (64, some ⟨2, [[nilV, nilV]], 94, .wr⟩), (640, some ⟨1, y.2.map encB, 67, .wr⟩)]) (fun y => spoil y.2 y.1 = spoil bs set ∧ y.2.length = bs.length ∧ y.1 < 2 ^ bs.length ∧ ∀ b ∈ y.2, b.length ≤ 1000) (fun y => y.1) (set, bs) (fun x => by simp (maxSteps := 1000000) -implicitDefEqProofs (disch := omega) only [go_sem]; rfl) ?_ ?_ fun x hx => ?_
 · exact weak_do []
 · exact ⟨rfl, rfl, hset, hb⟩
 obtain ⟨s, l⟩ := x
 obtain ⟨hs, hll, hs2, hlb⟩ := hx
 simp only at hs hll hs2 hlb
 have h256 : s < 256 := Nat.lt_of_lt_of_le hs2 (Nat.pow_le_pow_right (n := 2) (by omega) hb8)
 repeat' (first
   | (with_reducible apply Req_intro); focus (first | omega | assumption | (simp; done))
   | with_reducible (first | apply Req_intro | refine nilT ?_ fun hn => ?_ | apply wk_draw Tryd_mixed | refine drawEnd (by kernel_rfl) ?_)
   | (with_reducible (first | apply condA_if | apply stepDG_ifN | apply stepDG_if | apply stepG_ifN | apply stepG_if)) <;> intro hb <;> (have hif := hb) <;> (try simp only [bo] at hif) <;> (try simp -implicitDefEqProofs (disch := omega) only [go_sem, hb]) <;> clear hb
   | simp (maxSteps := 1000000) -implicitDefEqProofs (disch := omega) only [go_sem])
 · have h0 : 0 < s := by omega
   obtain ⟨b1, b2, b3, b4⟩ := bits_all s h256 h0
   have htz := tz_below bs.length (by omega) s hs2 h0
   have hbl := hlb _ (getD_mem (l := l) (i := tz s) (by omega))
   refine callp (TZ s h0 h256) ?_
   try simp (maxSteps := 1000000) -implicitDefEqProofs (disch := omega) only [go_sem]
   generalize hbb : l.getD (tz s) default = bb at hbl
   repeat' (first
     | (with_reducible apply Req_intro); focus (first | omega | assumption | (simp; done))
     | with_reducible (first | apply Req_intro | refine nilT ?_ fun hn => ?_ | apply wk_draw Tryd_mixed | refine drawEnd (by kernel_rfl) ?_)
     | (with_reducible (first | apply condA_if | apply stepDG_ifN | apply stepDG_if | apply stepG_ifN | apply stepG_if)) <;> intro hb <;> (have hif := hb) <;> (try simp only [bo] at hif) <;> (try simp -implicitDefEqProofs (disch := omega) only [go_sem, hb, hbb]) <;> clear hb
     | simp (maxSteps := 1000000) -implicitDefEqProofs (disch := omega) only [go_sem, hbb])
   refine loop_rows (α := Nat) [7, 33, 34, 35, 36, 37, 38, 39, 40] (fun x => [(33, .lit (.int .i64 x))]) (fun x => [(0, some ⟨2, [[.os 640 1 bs.length false, .sl 2 (cs.map encBill) false]], 94, .wr⟩), (64, some ⟨2, [[nilV, nilV]], 94, .wr⟩), (640, some ⟨1, l.map encB, 67, .wr⟩), (1856, some ⟨2, (fillTo bb.length x).map encS, 60, .wr⟩)]) (fun x => x ≤ bb.length) (fun x => bb.length - x) 0 (fun x => by simp (maxSteps := 1000000) -implicitDefEqProofs (disch := omega) only [go_sem]; rfl) ?_ ?_ fun x hx => ?_
   · simp only [fillTo, List.replicate_zero, List.nil_append, Nat.sub_zero, List.map_replicate, encS]
     exact weak_do []
   · exact Nat.zero_le _
   have hfl := fillTo_len hx
   by_cases hlt : x < bb.length
   · have hat := fillTo_at hlt
     repeat' (first
       | (with_reducible apply Req_intro); focus (first | omega | assumption | (simp; done))
       | with_reducible (first | apply Req_intro | refine nilT ?_ fun hn => ?_ | apply wk_draw Tryd_mixed | refine drawEnd (by kernel_rfl) ?_)
       | (with_reducible (first | apply condA_if | apply stepDG_ifN | apply stepDG_if | apply stepG_ifN | apply stepG_if)) <;> intro hb <;> (have hif := hb) <;> (try simp only [bo] at hif) <;> (try simp -implicitDefEqProofs (disch := omega) only [go_sem, hb, hat]) <;> clear hb
       | simp (maxSteps := 1000000) -implicitDefEqProofs (disch := omega) only [go_sem, hat])
     all_goals first | (exfalso; omega) | skip
     with_reducible refine nxt_w (x + 1) ?_ ?_
     · (try dsimp only)
       rw [← fillTo_set hlt]
       exact weak_do []
     try dsimp only
     omega
   · obtain rfl : x = bb.length := by omega
     rw [fillTo_full]
     rw [fillTo_full] at hfl
     repeat' (first
       | (with_reducible apply Req_intro); focus (first | omega | assumption | (simp; done))
       | with_reducible (first | apply Req_intro | refine nilT ?_ fun hn => ?_ | apply wk_draw Tryd_mixed | refine drawEnd (by kernel_rfl) ?_)
       | (with_reducible (first | apply condA_if | apply stepDG_ifN | apply stepDG_if | apply stepG_ifN | apply stepG_if)) <;> intro hb <;> (have hif := hb) <;> (try simp only [bo] at hif) <;> (try simp -implicitDefEqProofs (disch := omega) only [go_sem, hb, b3]) <;> clear hb
       | simp (maxSteps := 1000000) -implicitDefEqProofs (disch := omega) only [go_sem, b3])
     all_goals first | (exfalso; omega) | skip
     refine nxt_snapRow [1856] 640 (es' := (l.set (tz s) (spoilB bb)).map encB) (by first | (simp only [go_sem]; done) | (simp only [go_sem]; rfl)) (by rfl) ?_ (by first | assumption | (simp only [go_sem] <;> assumption) | (simp only [go_sem, *]; done) | (simp [go_sem]; done)) (by first | (simp only [go_sem]; done) | (simp only [go_sem]; rfl)) ?_
     · rw [List.map_set]
       refine PurE.setR ?_ (by first | assumption | (simp only [go_sem] <;> assumption) | (simp only [go_sem, *]; done) | (simp [go_sem]; done))
       rw [show encB (spoilB bb) = [.sl 2 ((spoilB bb).map encS) false] from rfl]
       (try simp (maxSteps := 1000000) -implicitDefEqProofs (disch := omega) only [go_sem])
       repeat' (first
         | with_reducible (first | exact PurI.nil | exact Pur.nilsl _ _ | exact PurE.nil)
         | (with_reducible (first | refine PurI.puL ?_ | refine PurE.puE ?_)) <;> (first | assumption | (simp only [go_sem] <;> assumption) | (simp only [go_sem, *]; done) | (simp [go_sem]; done))
         | with_reducible apply PurI.cons
         | (with_reducible refine Pur.pu _ ?_) <;> (first | assumption | (simp only [go_sem] <;> assumption) | (simp only [go_sem, *]; done) | (simp [go_sem]; done))
         | ((with_reducible apply Pur.refR) <;> (first | rfl | decide | (simp only [go_sem]; omega) | (simp only [go_sem]) | skip))
         | ((with_reducible apply Pur.osR) <;> (first | rfl | exact fun h => h | omega | (simp; omega) | (simp; done) | (simp only [go_sem]) | skip))
         | with_reducible (first | apply Pur.fnI | apply Pur.aggI | apply PurE.cons)
         | (with_reducible refine PurI.eqL ?_ ?_); (focus rfl); (focus (first | assumption | (simp only [go_sem] <;> assumption) | (simp only [go_sem, *]; done) | (simp [go_sem]; done)))
         | simp (maxSteps := 1000000) -implicitDefEqProofs (disch := omega) only [go_sem])
     refine nxt_w (s &&& (s - 1), l.set (tz s) (spoilB bb)) (weak_do []) ?_
     try dsimp only
     refine ⟨?_, by rw [List.length_set]; exact hll, by omega, fun b hb => ?_⟩
     · rw [← hs, ← hbb]; exact spoil_step (by omega) h256 h0
     · rcases List.mem_or_eq_of_mem_set hb with h | rfl
       · exact hlb b h
       · simp only [spoilB, List.length_replicate]; exact hbl
 · obtain rfl : s = 0 := by omega
   rw [spoil_zero] at hs
   subst hs
   exact retz [640]
theorem wrong_zero (bs : List Box) (cs : List Bill) (hb8 : bs.length ≤ 8) : Ct Tryd.prog 68 [encLoad bs cs, u64 0] (encLoad bs cs) := by
 refine ct_enterZ Tryd.func68 rfl (by decide) Tryd.results68 Tryd.ntmps68 ?_ rfl (by simp (maxSteps := 1000000) -implicitDefEqProofs (disch := omega) only [go_sem]; rfl) fun base => ?_
 · first | assumption | (simp only [go_sem] <;> assumption) | (simp only [go_sem, *]; done) | (simp [go_sem]; done)
 repeat' (first
   | (with_reducible apply Req_intro); focus (first | omega | assumption | (simp; done))
   | with_reducible (first | apply Req_intro | refine nilT ?_ fun hn => ?_ | apply wk_draw Tryd_mixed | refine drawEnd (by kernel_rfl) ?_)
   | (with_reducible (first | apply condA_if | apply stepDG_ifN | apply stepDG_if | apply stepG_ifN | apply stepG_if)) <;> intro hb <;> (have hif := hb) <;> (try simp only [bo] at hif) <;> (try simp -implicitDefEqProofs (disch := omega) only [go_sem, hb]) <;> clear hb
   | simp (maxSteps := 1000000) -implicitDefEqProofs (disch := omega) only [go_sem])
 refine callp (Clone_box bs _ (by omega)) ?_
 try simp (maxSteps := 1000000) -implicitDefEqProofs (disch := omega) only [go_sem]
 repeat' (first
   | (with_reducible apply Req_intro); focus (first | omega | assumption | (simp; done))
   | with_reducible (first | apply Req_intro | refine nilT ?_ fun hn => ?_ | apply wk_draw Tryd_mixed | refine drawEnd (by kernel_rfl) ?_)
   | (with_reducible (first | apply condA_if | apply stepDG_ifN | apply stepDG_if | apply stepG_ifN | apply stepG_if)) <;> intro hb <;> (have hif := hb) <;> (try simp only [bo] at hif) <;> (try simp -implicitDefEqProofs (disch := omega) only [go_sem, hb]) <;> clear hb
   | simp (maxSteps := 1000000) -implicitDefEqProofs (disch := omega) only [go_sem])
 refine loop_rows (α := Unit) [1, 5, 6, 7, 14, 15, 16, 17, 18, 19, 20, 21, 22, 23, 24, 25, 26, 27, 28, 29, 30, 31, 32, 33, 34, 35, 36, 37, 38, 39, 40, 41, 42, 43, 44, 45, 46, 47] (fun y => [(1, u64 0)]) (fun y => [(0, some ⟨2, [[.sl 1 (bs.map encB) false, .sl 2 (cs.map encBill) false]], 94, .wr⟩), (64, some ⟨2, [[nilV, nilV]], 94, .wr⟩)]) (fun y => True) (fun y => 0) () (fun x => by simp (maxSteps := 1000000) -implicitDefEqProofs (disch := omega) only [go_sem]; rfl) ?_ ?_ fun x hx => ?_
 · exact weak_do []
 · trivial
 repeat' (first
   | (with_reducible apply Req_intro); focus (first | omega | assumption | (simp; done))
   | with_reducible (first | apply Req_intro | refine nilT ?_ fun hn => ?_ | apply wk_draw Tryd_mixed | refine drawEnd (by kernel_rfl) ?_)
   | (with_reducible (first | apply condA_if | apply stepDG_ifN | apply stepDG_if | apply stepG_ifN | apply stepG_if)) <;> intro hb <;> (have hif := hb) <;> (try simp only [bo] at hif) <;> (try simp -implicitDefEqProofs (disch := omega) only [go_sem, hb]) <;> clear hb
   | simp (maxSteps := 1000000) -implicitDefEqProofs (disch := omega) only [go_sem])
 exact retz []
def nums (s : Nat) : List Int := ((List.range 8).filter fun i => s.testBit i).map Int.ofNat
theorem nums_all : ∀ s : Nat, s < 256 → (0 < s → nums s = (tz s : Int) :: nums (s &&& (s - 1))) := by decide +kernel
def wrongTo (ok : Nat → Bool) : Nat → Option (List Int)
 | 0 => none
 | k + 1 => match wrongTo ok k with
   | none => if ok k then some (nums k) else none
   | some b => if ((nums k).length > b.length || ((nums k).length == b.length && decide (0 < cmpL (nums k) b))) = false ∧ ok k = true then some (nums k) else some b
def isPos (bs : List Box) (cs : List Bill) (k : Nat) : Bool := !(allW (spoil bs k) cs).isEmpty
theorem Valid.spoil {bs : List Box} {cs : List Bill} (h : Valid cs bs) (k : Nat) : Valid cs (spoil bs k) := by
 obtain ⟨h1, h2, h3, h4, h5⟩ := h
 have key : ∀ b ∈ Aw.spoil bs k, b.length ≤ 3 ∧ ∀ x ∈ b, SmallS 1000000 x := by
   intro b hb
   obtain ⟨i, hi, rfl⟩ := List.mem_iff_getElem.1 hb
   have hi2 : i < bs.length := by rw [spoil_len] at hi; exact hi
   simp only [Aw.spoil, List.getElem_mapIdx]
   split
   · refine ⟨by simp only [spoilB, List.length_replicate]; exact h4 _ (List.getElem_mem hi2), fun x hx => ?_⟩
     rw [List.eq_of_mem_replicate hx]; unfold SmallS; decide
   · exact ⟨h4 _ (List.getElem_mem hi2), h5 _ (List.getElem_mem hi2)⟩
 exact ⟨h1, by rw [spoil_len]; exact h2, h3, fun b hb => (key b hb).1, fun b hb => (key b hb).2⟩
theorem wrong_any (bs : List Box) (cs : List Bill) (set : Nat) (hv : Valid cs bs) (hset : set < 2 ^ bs.length) : Ct Tryd.prog 68 [encLoad bs cs, u64 set] (encLoad (spoil bs set) cs) := by
 by_cases h0 : set = 0
 · subst h0
   rw [spoil_zero]
   exact wrong_zero bs cs hv.nb
 · have h1 : 1 ≤ bs.length := by
     rcases Nat.eq_zero_or_pos bs.length with h | h
     · rw [h] at hset; omega
     · exact h
   exact wrong_spec bs cs set hv.nb h1 hset fun b hb => by have := hv.sb b hb; omega
theorem Wrong_twice (bs : List Box) (cs : List Bill) (hf : Fits bs cs) (h : checkR bs cs = 0) (hn : allW bs cs ≠ []) : Ct Tryd.prog 31 [encLoad bs cs] (.tup [nilV, int 6]) := by
 have hv := (good_of_check h).valid
 refine fn_enter Tryd.func31 rfl (by decide) Tryd.results31 Tryd.ntmps31 ?_ rfl (by simp (maxSteps := 1000000) -implicitDefEqProofs (disch := omega) only [go_sem]; rfl) fun base => ?_
 · first | assumption | (simp only [go_sem] <;> assumption) | (simp only [go_sem, *]; done) | (simp [go_sem]; done)
 repeat' (first
   | (with_reducible apply Req_intro); focus (first | omega | assumption | (simp; done))
   | with_reducible (first | apply Req_intro | refine nilT ?_ fun hn => ?_ | apply wk_draw Tryd_mixed | refine drawEnd (by kernel_rfl) ?_)
   | (with_reducible (first | apply condA_if | apply stepDG_ifN | apply stepDG_if | apply stepG_ifN | apply stepG_if)) <;> intro hb <;> (have hif := hb) <;> (try simp only [bo] at hif) <;> (try simp -implicitDefEqProofs (disch := omega) only [go_sem, hb]) <;> clear hb
   | simp (maxSteps := 1000000) -implicitDefEqProofs (disch := omega) only [go_sem])
 refine callp (Check_spec bs cs hf.b hf.c) ?_
 try simp (maxSteps := 1000000) -implicitDefEqProofs (disch := omega) only [go_sem]
 repeat' (first
   | (with_reducible apply Req_intro); focus (first | omega | assumption | (simp; done))
   | with_reducible (first | apply Req_intro | refine nilT ?_ fun hn => ?_ | apply wk_draw Tryd_mixed | refine drawEnd (by kernel_rfl) ?_)
   | (with_reducible (first | apply condA_if | apply stepDG_ifN | apply stepDG_if | apply stepG_ifN | apply stepG_if)) <;> intro hb <;> (have hif := hb) <;> (try simp only [bo] at hif) <;> (try simp -implicitDefEqProofs (disch := omega) only [go_sem, hb]) <;> clear hb
   | simp (maxSteps := 1000000) -implicitDefEqProofs (disch := omega) only [go_sem])
 · exact absurd h hif
 refine callp (isPossible_spec bs cs hv) ?_
 try simp (maxSteps := 1000000) -implicitDefEqProofs (disch := omega) only [go_sem]
 repeat' (first
   | (with_reducible apply Req_intro); focus (first | omega | assumption | (simp; done))
   | with_reducible (first | apply Req_intro | refine nilT ?_ fun hn => ?_ | apply wk_draw Tryd_mixed | refine drawEnd (by kernel_rfl) ?_)
   | (with_reducible (first | apply condA_if | apply stepDG_ifN | apply stepDG_if | apply stepG_ifN | apply stepG_if)) <;> intro hb <;> (have hif := hb) <;> (try simp only [bo] at hif) <;> (try simp -implicitDefEqProofs (disch := omega) only [go_sem, hb]) <;> clear hb
   | simp (maxSteps := 1000000) -implicitDefEqProofs (disch := omega) only [go_sem])
 · refine ret_do ?_
   rfl
 all_goals (exfalso; exact hn (by simpa using hif))
end Go.Aw
end
