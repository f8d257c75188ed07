/-
  A part of the proof that a law returns true for every input that the given row speaks of: an own verified walk over the program (namespace Go.Aw), contracts of the functions that the law calls, and the law itself. Conditions: those of the given row, no other.
-/
import Derived.Test.YtebdecfnimdhmaaPart3
import Derived.Test.YtebdecfnimdhmaaProg
set_option linter.unusedVariables false
set_option linter.unusedSimpArgs false
section
namespace Go.Aw
open Go.RowKit
theorem Try_mixed : Go.Proofs.Try.prog.follows .mixedOrders = true := by kernel_rfl
@[go_sem] theorem ti2 : tinfo Go.Proofs.Try.prog 2 = some
 { size := 1, zero := Value.int IntKind.i64 0, bytes := 8, desc := TypeDesc.int IntKind.i64 } := by kernel_rfl
@[go_sem] theorem ti3 : tinfo Go.Proofs.Try.prog 3 = some
 { size := 1, zero := Value.int IntKind.i64 0, bytes := 8, desc := TypeDesc.int IntKind.i64 } := by kernel_rfl
@[go_sem] theorem ti4 : tinfo Go.Proofs.Try.prog 4 = some
 { size := 1, zero := Value.bool false, bytes := 1, desc := TypeDesc.bool } := by kernel_rfl
@[go_sem] theorem ti5 : tinfo Go.Proofs.Try.prog 5 = some
 { size := 1, zero := Value.int IntKind.u8 0, bytes := 1, desc := TypeDesc.int IntKind.u8 } := by kernel_rfl
@[go_sem] theorem ti9 : tinfo Go.Proofs.Try.prog 9 = some
 { size := 1, zero := Value.string { data := #[] }, bytes := 16, desc := TypeDesc.string } := by kernel_rfl
@[go_sem] theorem ti22 : tinfo Go.Proofs.Try.prog 22 = some
 { size := 7,
   zero :=
     Value.agg
       #[Value.int IntKind.u8 0, Value.int IntKind.u8 0, Value.int IntKind.u8 0, Value.int IntKind.u8 0,
         Value.int IntKind.u8 0, Value.int IntKind.u8 0, Value.int IntKind.u8 0],
   bytes := 7, desc := TypeDesc.array 7 5 } := by kernel_rfl
@[go_sem] theorem ti23 : tinfo Go.Proofs.Try.prog 23 = some
 { size := 49,
   zero :=
     Value.agg
       #[Value.int IntKind.u8 0, Value.int IntKind.u8 0, Value.int IntKind.u8 0, Value.int IntKind.u8 0,
         Value.int IntKind.u8 0, Value.int IntKind.u8 0, Value.int IntKind.u8 0, Value.int IntKind.u8 0,
         Value.int IntKind.u8 0, Value.int IntKind.u8 0, Value.int IntKind.u8 0, Value.int IntKind.u8 0,
         Value.int IntKind.u8 0, Value.int IntKind.u8 0, Value.int IntKind.u8 0, Value.int IntKind.u8 0,
         Value.int IntKind.u8 0, Value.int IntKind.u8 0, Value.int IntKind.u8 0, Value.int IntKind.u8 0,
         Value.int IntKind.u8 0, Value.int IntKind.u8 0, Value.int IntKind.u8 0, Value.int IntKind.u8 0,
         Value.int IntKind.u8 0, Value.int IntKind.u8 0, Value.int IntKind.u8 0, Value.int IntKind.u8 0,
         Value.int IntKind.u8 0, Value.int IntKind.u8 0, Value.int IntKind.u8 0, Value.int IntKind.u8 0,
         Value.int IntKind.u8 0, Value.int IntKind.u8 0, Value.int IntKind.u8 0, Value.int IntKind.u8 0,
         Value.int IntKind.u8 0, Value.int IntKind.u8 0, Value.int IntKind.u8 0, Value.int IntKind.u8 0,
         Value.int IntKind.u8 0, Value.int IntKind.u8 0, Value.int IntKind.u8 0, Value.int IntKind.u8 0,
         Value.int IntKind.u8 0, Value.int IntKind.u8 0, Value.int IntKind.u8 0, Value.int IntKind.u8 0,
         Value.int IntKind.u8 0],
   bytes := 49, desc := TypeDesc.array 7 22 } := by kernel_rfl
@[go_sem] theorem ti24 : tinfo Go.Proofs.Try.prog 24 = some
 { size := 2, zero := Value.agg #[Value.int IntKind.u8 0, Value.int IntKind.u8 0], bytes := 2,
   desc := TypeDesc.array 2 5 } := by kernel_rfl
@[go_sem] theorem ti25 : tinfo Go.Proofs.Try.prog 25 = some
 { size := 12,
   zero :=
     Value.agg
       #[Value.int IntKind.u8 0, Value.int IntKind.u8 0, Value.int IntKind.u8 0, Value.int IntKind.u8 0,
         Value.int IntKind.u8 0, Value.int IntKind.u8 0, Value.int IntKind.u8 0, Value.int IntKind.u8 0,
         Value.int IntKind.u8 0, Value.int IntKind.u8 0, Value.int IntKind.u8 0, Value.int IntKind.u8 0],
   bytes := 12, desc := TypeDesc.array 6 24 } := by kernel_rfl
@[go_sem] theorem ti27 : tinfo Go.Proofs.Try.prog 27 = some
 { size := 61,
   zero :=
     Value.agg
       #[Value.int IntKind.u8 0, Value.int IntKind.u8 0, Value.int IntKind.u8 0, Value.int IntKind.u8 0,
         Value.int IntKind.u8 0, Value.int IntKind.u8 0, Value.int IntKind.u8 0, Value.int IntKind.u8 0,
         Value.int IntKind.u8 0, Value.int IntKind.u8 0, Value.int IntKind.u8 0, Value.int IntKind.u8 0,
         Value.int IntKind.u8 0, Value.int IntKind.u8 0, Value.int IntKind.u8 0, Value.int IntKind.u8 0,
         Value.int IntKind.u8 0, Value.int IntKind.u8 0, Value.int IntKind.u8 0, Value.int IntKind.u8 0,
         Value.int IntKind.u8 0, Value.int IntKind.u8 0, Value.int IntKind.u8 0, Value.int IntKind.u8 0,
         Value.int IntKind.u8 0, Value.int IntKind.u8 0, Value.int IntKind.u8 0, Value.int IntKind.u8 0,
         Value.int IntKind.u8 0, Value.int IntKind.u8 0, Value.int IntKind.u8 0, Value.int IntKind.u8 0,
         Value.int IntKind.u8 0, Value.int IntKind.u8 0, Value.int IntKind.u8 0, Value.int IntKind.u8 0,
         Value.int IntKind.u8 0, Value.int IntKind.u8 0, Value.int IntKind.u8 0, Value.int IntKind.u8 0,
         Value.int IntKind.u8 0, Value.int IntKind.u8 0, Value.int IntKind.u8 0, Value.int IntKind.u8 0,
         Value.int IntKind.u8 0, Value.int IntKind.u8 0, Value.int IntKind.u8 0, Value.int IntKind.u8 0,
         Value.int IntKind.u8 0, Value.int IntKind.u8 0, Value.int IntKind.u8 0, Value.int IntKind.u8 0,
         Value.int IntKind.u8 0, Value.int IntKind.u8 0, Value.int IntKind.u8 0, Value.int IntKind.u8 0,
         Value.int IntKind.u8 0, Value.int IntKind.u8 0, Value.int IntKind.u8 0, Value.int IntKind.u8 0,
         Value.int IntKind.u8 0],
   bytes := 61,
   desc :=
     TypeDesc.struct
       #[{ name := "Minutes", type := 23, offset := 0, embedded := false, tag := "", pkgPath := "", byteOffset := 0 },
         { name := "Places", type := 25, offset := 49, embedded := false, tag := "", pkgPath := "",
           byteOffset := 49 }] } := by kernel_rfl
@[go_sem] theorem ti31 : tinfo Go.Proofs.Try.prog 31 = some
 { size := 1, zero := Value.slice none 0 0, bytes := 24, desc := TypeDesc.slice 3 } := by kernel_rfl
@[go_sem] theorem ti33 : tinfo Go.Proofs.Try.prog 33 = some
 { size := 2, zero := Value.agg #[Value.int IntKind.i64 0, Value.int IntKind.i64 0], bytes := 16,
   desc :=
     TypeDesc.struct
       #[{ name := "Low", type := 3, offset := 0, embedded := false, tag := "", pkgPath := "", byteOffset := 0 },
         { name := "High", type := 3, offset := 1, embedded := false, tag := "", pkgPath := "",
           byteOffset := 8 }] } := by kernel_rfl
@[go_sem] theorem ti34 : tinfo Go.Proofs.Try.prog 34 = some
 { size := 1, zero := Value.int IntKind.i64 0, bytes := 8, desc := TypeDesc.int IntKind.i64 } := by kernel_rfl
@[go_sem] theorem ti37 : tinfo Go.Proofs.Try.prog 37 = some
 { size := 1, zero := Value.slice none 0 0, bytes := 24, desc := TypeDesc.slice 51 } := by kernel_rfl
@[go_sem] theorem ti38 : tinfo Go.Proofs.Try.prog 38 = some
 { size := 1, zero := Value.slice none 0 0, bytes := 24, desc := TypeDesc.slice 101 } := by kernel_rfl
@[go_sem] theorem ti40 : tinfo Go.Proofs.Try.prog 40 = some
 { size := 5,
   zero :=
     Value.agg
       #[Value.slice none 0 0, Value.slice none 0 0, Value.int IntKind.i64 0, Value.int IntKind.i64 0,
         Value.int IntKind.i64 0],
   bytes := 72,
   desc :=
     TypeDesc.struct
       #[{ name := "Minutes", type := 37, offset := 0, embedded := false, tag := "", pkgPath := "", byteOffset := 0 },
         { name := "Places", type := 38, offset := 1, embedded := false, tag := "", pkgPath := "", byteOffset := 24 },
         { name := "Holds", type := 3, offset := 2, embedded := false, tag := "", pkgPath := "", byteOffset := 48 },
         { name := "Leaves", type := 3, offset := 3, embedded := false, tag := "", pkgPath := "", byteOffset := 56 },
         { name := "Back", type := 3, offset := 4, embedded := false, tag := "", pkgPath := "",
           byteOffset := 64 }] } := by kernel_rfl
@[go_sem] theorem ti50 : tinfo Go.Proofs.Try.prog 50 = some
 { size := 1, zero := Value.slice none 0 0, bytes := 24, desc := TypeDesc.slice 24 } := by kernel_rfl
@[go_sem] theorem ti51 : tinfo Go.Proofs.Try.prog 51 = some
 { size := 1, zero := Value.slice none 0 0, bytes := 24, desc := TypeDesc.slice 33 } := by kernel_rfl
@[go_sem] theorem ti53 : tinfo Go.Proofs.Try.prog 53 = some
 { size := 3, zero := Value.agg #[Value.int IntKind.i64 0, Value.slice none 0 0, Value.slice none 0 0], bytes := 56,
   desc :=
     TypeDesc.struct
       #[{ name := "Scales", type := 3, offset := 0, embedded := false, tag := "", pkgPath := "", byteOffset := 0 },
         { name := "Takes", type := 51, offset := 1, embedded := false, tag := "", pkgPath := "", byteOffset := 8 },
         { name := "Lost", type := 31, offset := 2, embedded := false, tag := "", pkgPath := "",
           byteOffset := 32 }] } := by kernel_rfl
@[go_sem] theorem ti54 : tinfo Go.Proofs.Try.prog 54 = some
 { size := 1, zero := Value.slice none 0 0, bytes := 24, desc := TypeDesc.slice 57 } := by kernel_rfl
@[go_sem] theorem ti55 : tinfo Go.Proofs.Try.prog 55 = some
 { size := 1, zero := Value.int IntKind.i64 0, bytes := 8, desc := TypeDesc.int IntKind.i64 } := by kernel_rfl
@[go_sem] theorem ti57 : tinfo Go.Proofs.Try.prog 57 = some
 { size := 4,
   zero :=
     Value.agg #[Value.int IntKind.i64 0, Value.int IntKind.i64 0, Value.int IntKind.i64 0, Value.int IntKind.i64 0],
   bytes := 32,
   desc :=
     TypeDesc.struct
       #[{ name := "Worker", type := 3, offset := 0, embedded := false, tag := "", pkgPath := "", byteOffset := 0 },
         { name := "Kind", type := 55, offset := 1, embedded := false, tag := "", pkgPath := "", byteOffset := 8 },
         { name := "Stuff", type := 3, offset := 2, embedded := false, tag := "", pkgPath := "", byteOffset := 16 },
         { name := "Count", type := 3, offset := 3, embedded := false, tag := "", pkgPath := "",
           byteOffset := 24 }] } := by kernel_rfl
@[go_sem] theorem ti101 : tinfo Go.Proofs.Try.prog 101 = some
 { size := 5,
   zero :=
     Value.agg
       #[Value.int IntKind.i64 0, Value.int IntKind.i64 0, Value.int IntKind.i64 0, Value.int IntKind.i64 0,
         Value.int IntKind.i64 0],
   bytes := 40,
   desc :=
     TypeDesc.struct
       #[{ name := "Ready", type := 3, offset := 0, embedded := false, tag := "", pkgPath := "", byteOffset := 0 },
         { name := "Due", type := 3, offset := 1, embedded := false, tag := "", pkgPath := "", byteOffset := 8 },
         { name := "Stop", type := 3, offset := 2, embedded := false, tag := "", pkgPath := "", byteOffset := 16 },
         { name := "Brought", type := 3, offset := 3, embedded := false, tag := "", pkgPath := "", byteOffset := 24 },
         { name := "Fetched", type := 3, offset := 4, embedded := false, tag := "", pkgPath := "",
           byteOffset := 32 }] } := by kernel_rfl
@[go_sem] theorem ti103 : tinfo Go.Proofs.Try.prog 103 = some
 { size := 5,
   zero :=
     Value.agg
       #[Value.slice none 0 0, Value.slice none 0 0, Value.int IntKind.i64 0, Value.int IntKind.i64 0,
         Value.int IntKind.i64 0],
   bytes := 72,
   desc :=
     TypeDesc.struct
       #[{ name := "RoundTask", type := 40, offset := 0, embedded := true, tag := "", pkgPath := "",
           byteOffset := 0 }] } := by kernel_rfl
@[go_sem] theorem ti109 : tinfo Go.Proofs.Try.prog 109 = some
 { size := 8,
   zero :=
     Value.agg
       #[Value.int IntKind.i64 0, Value.int IntKind.i64 0, Value.int IntKind.i64 0, Value.int IntKind.i64 0,
         Value.int IntKind.i64 0, Value.int IntKind.i64 0, Value.int IntKind.i64 0, Value.int IntKind.i64 0],
   bytes := 64,
   desc :=
     TypeDesc.struct
       #[{ name := "number", type := 3, offset := 0, embedded := false, tag := "", pkgPath := "panache/round",
           byteOffset := 0 },
         { name := "from", type := 3, offset := 1, embedded := false, tag := "", pkgPath := "panache/round",
           byteOffset := 8 },
         { name := "to", type := 3, offset := 2, embedded := false, tag := "", pkgPath := "panache/round",
           byteOffset := 16 },
         { name := "load", type := 3, offset := 3, embedded := false, tag := "", pkgPath := "panache/round",
           byteOffset := 24 },
         { name := "leaves", type := 33, offset := 4, embedded := false, tag := "", pkgPath := "panache/round",
           byteOffset := 32 },
         { name := "comes", type := 33, offset := 6, embedded := false, tag := "", pkgPath := "panache/round",
           byteOffset := 48 }] } := by kernel_rfl
@[go_sem] theorem ti112 : tinfo Go.Proofs.Try.prog 112 = some
 { size := 1, zero := Value.nilFunc, bytes := 8, desc := TypeDesc.func #[3] #[4] false } := by kernel_rfl
@[go_sem] theorem ti115 : tinfo Go.Proofs.Try.prog 115 = some
 { size := 4,
   zero := Value.agg #[Value.int IntKind.i64 0, Value.slice none 0 0, Value.slice none 0 0, Value.slice none 0 0],
   bytes := 80,
   desc :=
     TypeDesc.struct
       #[{ name := "OutworkHouse", type := 53, offset := 0, embedded := true, tag := "", pkgPath := "",
           byteOffset := 0 },
         { name := "book", type := 54, offset := 3, embedded := false, tag := "", pkgPath := "panache/outwork",
           byteOffset := 56 }] } := by kernel_rfl
@[go_sem] theorem ti120 : tinfo Go.Proofs.Try.prog 120 = some
 { size := 7,
   zero :=
     Value.agg
       #[Value.int IntKind.i64 0, Value.int IntKind.i64 0, Value.int IntKind.i64 0, Value.int IntKind.i64 0,
         Value.int IntKind.i64 0, Value.int IntKind.i64 0, Value.int IntKind.i64 0],
   bytes := 56,
   desc :=
     TypeDesc.struct
       #[{ name := "out", type := 33, offset := 0, embedded := false, tag := "", pkgPath := "panache/outwork",
           byteOffset := 0 },
         { name := "back", type := 33, offset := 2, embedded := false, tag := "", pkgPath := "panache/outwork",
           byteOffset := 16 },
         { name := "fans", type := 33, offset := 4, embedded := false, tag := "", pkgPath := "panache/outwork",
           byteOffset := 32 },
         { name := "lost", type := 3, offset := 6, embedded := false, tag := "", pkgPath := "panache/outwork",
           byteOffset := 48 }] } := by kernel_rfl
@[go_sem] theorem ti197 : tinfo Go.Proofs.Try.prog 197 = some
 { size := 1, zero := Value.nilFunc, bytes := 8, desc := TypeDesc.func #[33] #[4] false } := by kernel_rfl
@[go_sem] theorem ti198 : tinfo Go.Proofs.Try.prog 198 = some
 { size := 2, zero := Value.agg #[Value.bool false, Value.int IntKind.i64 0], bytes := 16,
   desc :=
     TypeDesc.struct
       #[{ name := "ok", type := 4, offset := 0, embedded := false, tag := "", pkgPath := "panache/outwork",
           byteOffset := 0 },
         { name := "e", type := 34, offset := 1, embedded := false, tag := "", pkgPath := "panache/outwork",
           byteOffset := 8 }] } := by kernel_rfl
@[go_sem] theorem ti203 : tinfo Go.Proofs.Try.prog 203 = some
 { size := 12,
   zero :=
     Value.agg
       #[Value.bool false, Value.int IntKind.i64 0, Value.bool false, Value.int IntKind.i64 0, Value.bool false,
         Value.int IntKind.i64 0, Value.bool false, Value.int IntKind.i64 0, Value.bool false, Value.int IntKind.i64 0,
         Value.bool false, Value.int IntKind.i64 0],
   bytes := 96, desc := TypeDesc.array 6 198 } := by kernel_rfl
@[go_sem] theorem ti226 : tinfo Go.Proofs.Try.prog 226 = some
 { size := 1, zero := Value.int IntKind.u64 0, bytes := 8, desc := TypeDesc.int IntKind.u64 } := by kernel_rfl
@[go_sem] theorem ti248 : tinfo Go.Proofs.Try.prog 248 = some
 { size := 1, zero := Value.int IntKind.u64 0, bytes := 8, desc := TypeDesc.int IntKind.u64 } := by kernel_rfl
end Go.Aw
end
section
set_option maxRecDepth 20000
namespace Go.Aw
open Go.RowKit Go.Proofs
theorem getD_default {α : Type} [Inhabited α] {l : List α} {i : Nat} (h : i < l.length) : l.getD i default = l[i] := by
 simp [List.getD_eq_getElem?_getD, List.getElem?_eq_getElem h]
theorem take_succ_getD {α : Type} [Inhabited α] {l : List α} {i : Nat} (h : i < l.length) : l.take (i + 1) = l.take i ++ [l.getD i default] := by
 rw [List.take_add_one, List.getElem?_eq_getElem h, getD_default h]; rfl
theorem getD_mem {α : Type} [Inhabited α] {l : List α} {i : Nat} (h : i < l.length) : l.getD i default ∈ l := by
 rw [getD_default h]; exact List.getElem_mem h
def idxR {α : Type} (l : List α) (p : α → Bool) : Int := match l.findIdx? p with
 | some i => i
 | none => -1
theorem idxR_any {α : Type} (l : List α) (p : α → Bool) : decide (0 ≤ idxR l p) = l.any p := by
 unfold idxR
 cases h : l.findIdx? p with
 | none =>
   rw [List.findIdx?_eq_none_iff] at h
   have : l.any p = false := by rw [List.any_eq_false]; intro x hx; simp [h x hx]
   rw [this]; simp
 | some i =>
   rw [List.findIdx?_eq_some_iff_getElem] at h
   obtain ⟨h1, h2, _⟩ := h
   have : l.any p = true := by rw [List.any_eq_true]; exact ⟨_, List.getElem_mem h1, h2⟩
   rw [this]; simp
theorem idxR_some {α : Type} [Inhabited α] {l : List α} {p : α → Bool} {i : Nat} (hif : i < l.length) (hp : ∀ x ∈ l.take i, p x = false) (h : p (l.getD i default) = true) : idxR l p = i := by
 unfold idxR
 rw [show l.findIdx? p = some i from ?_]
 rw [List.findIdx?_eq_some_iff_getElem]
 refine ⟨hif, ?_, fun j hj => ?_⟩
 · rw [getD_default hif] at h; exact h
 · have := hp l[j] (by rw [List.mem_take_iff_getElem]; exact ⟨j, by omega, rfl⟩)
   simp [this]
theorem idxR_step {α : Type} [Inhabited α] {l : List α} {p : α → Bool} {i : Nat} (hif : i < l.length) (hp : ∀ x ∈ l.take i, p x = false) (h : p (l.getD i default) = false) : i + 1 ≤ l.length ∧ ∀ x ∈ l.take (i + 1), p x = false := by
 refine ⟨by omega, fun x hx => ?_⟩
 rw [take_succ_getD hif, List.mem_append] at hx
 rcases hx with hx | hx
 · exact hp x hx
 · simp at hx; subst hx; exact h
theorem idxR_none {α : Type} {l : List α} {p : α → Bool} {i : Nat} (hi : ¬ i < l.length) (hp : ∀ x ∈ l.take i, p x = false) : idxR l p = -1 := by
 unfold idxR
 rw [show l.findIdx? p = none from ?_]
 rw [List.findIdx?_eq_none_iff]
 intro x hx
 exact hp x (by rw [List.take_of_length_le (by omega)]; exact hx)
theorem IndexFunc_int (l : List (Int)) (e : Bool) (p : Int → Bool) (g : FuncId) (cap : List V) (hl : l.length ≤ 4611686018427387904) (hcap : PuL cap) (hg : ∀ x ∈ l, Ct Try.prog g (.lit (.int .i64 x) :: cap) (.lit (.bool (p x)))) :
   Ct Try.prog 89 [.sl 1 (l.map encI) e, .fn (.func g) [] cap] (.lit (.int .i64 (idxR l p))) := by
 refine fn_enter Try.func89 rfl (by decide) Try.results89 Try.ntmps89 ?_ rfl (by simp (maxSteps := 1000000) -implicitDefEqProofs (disch := omega) only [go_sem]; rfl) fun base => ?_
 · simp
 repeat' (first
   | (with_reducible apply Req_intro); focus (first | omega | assumption | (simp; done))
   | with_reducible (first | apply Req_intro | refine nilT ?_ fun hn => ?_ | apply wk_draw Try_mixed | refine drawEnd (by kernel_rfl) ?_)
   | (with_reducible (first | apply condA_if | apply stepDG_ifN | apply stepDG_if | apply stepG_ifN | apply stepG_if)) <;> intro hb <;> (have hif := hb) <;> (try simp only [bo] at hif) <;> (try simp -implicitDefEqProofs (disch := omega) only [go_sem, hb]) <;> clear hb
   | simp (maxSteps := 1000000) -implicitDefEqProofs (disch := omega) only [go_sem])
 refine loop_at (α := Nat) [4, 5, 8, 9, 10, 11, 12, 13, 14, 15, 16, 17, 18] (fun i => [(8, .lit (.int .i64 i))]) (fun i => i ≤ l.length ∧ ∀ x ∈ l.take i, p x = false) (fun i => l.length - i) 0 (fun x => by simp (maxSteps := 1000000) -implicitDefEqProofs (disch := omega) only [go_sem]; rfl) ?_ ?_ fun x hx => ?_
 · exact weak_do []
 · simp
 obtain ⟨hi, hp⟩ := hx
 repeat' (first
   | (with_reducible apply Req_intro); focus (first | omega | assumption | (simp; done))
   | with_reducible (first | apply Req_intro | refine nilT ?_ fun hn => ?_ | apply wk_draw Try_mixed | refine drawEnd (by kernel_rfl) ?_)
   | (with_reducible (first | apply condA_if | apply stepDG_ifN | apply stepDG_if | apply stepG_ifN | apply stepG_if)) <;> intro hb <;> (have hif := hb) <;> (try simp only [bo] at hif) <;> (try simp -implicitDefEqProofs (disch := omega) only [go_sem, hb]) <;> clear hb
   | simp (maxSteps := 1000000) -implicitDefEqProofs (disch := omega) only [go_sem])
 · have hif' : x < l.length := hif
   refine callp (hg (l.getD x default) (getD_mem hif')) ?_
   try simp (maxSteps := 1000000) -implicitDefEqProofs (disch := omega) only [go_sem]
   repeat' (first
     | (with_reducible apply Req_intro); focus (first | omega | assumption | (simp; done))
     | with_reducible (first | apply Req_intro | refine nilT ?_ fun hn => ?_ | apply wk_draw Try_mixed | refine drawEnd (by kernel_rfl) ?_)
     | (with_reducible (first | apply condA_if | apply stepDG_ifN | apply stepDG_if | apply stepG_ifN | apply stepG_if)) <;> intro hb <;> (have hif := hb) <;> (try simp only [bo] at hif) <;> (try simp -implicitDefEqProofs (disch := omega) only [go_sem, hb]) <;> clear hb
     | simp (maxSteps := 1000000) -implicitDefEqProofs (disch := omega) only [go_sem])
   · refine ret_do ?_
     rw [idxR_some hif' hp hif]; rfl
   · refine nxt_w (x + 1) (weak_do []) ?_
     try dsimp only
     exact idxR_step hif' hp hif
 · refine ret_do ?_
   rw [idxR_none hif hp]; rfl
theorem ContainsFunc_int (l : List (Int)) (e : Bool) (p : Int → Bool) (g : FuncId) (cap : List V) (hl : l.length ≤ 4611686018427387904) (hcap : PuL cap) (hg : ∀ x ∈ l, Ct Try.prog g (.lit (.int .i64 x) :: cap) (.lit (.bool (p x)))) :
   Ct Try.prog 60 [.sl 1 (l.map encI) e, .fn (.func g) [] cap] (.lit (.bool (l.any p))) := by
 refine fn_enter Try.func60 rfl (by decide) Try.results60 Try.ntmps60 ?_ rfl (by simp (maxSteps := 1000000) -implicitDefEqProofs (disch := omega) only [go_sem]; rfl) fun base => ?_
 · simp
 repeat' (first
   | (with_reducible apply Req_intro); focus (first | omega | assumption | (simp; done))
   | with_reducible (first | apply Req_intro | refine nilT ?_ fun hn => ?_ | apply wk_draw Try_mixed | refine drawEnd (by kernel_rfl) ?_)
   | (with_reducible (first | apply condA_if | apply stepDG_ifN | apply stepDG_if | apply stepG_ifN | apply stepG_if)) <;> intro hb <;> (have hif := hb) <;> (try simp only [bo] at hif) <;> (try simp -implicitDefEqProofs (disch := omega) only [go_sem, hb]) <;> clear hb
   | simp (maxSteps := 1000000) -implicitDefEqProofs (disch := omega) only [go_sem])
 refine callp (IndexFunc_int l e p g cap hl hcap hg) ?_
 try simp (maxSteps := 1000000) -implicitDefEqProofs (disch := omega) only [go_sem]
 repeat' (first
   | (with_reducible apply Req_intro); focus (first | omega | assumption | (simp; done))
   | with_reducible (first | apply Req_intro | refine nilT ?_ fun hn => ?_ | apply wk_draw Try_mixed | refine drawEnd (by kernel_rfl) ?_)
   | (with_reducible (first | apply condA_if | apply stepDG_ifN | apply stepDG_if | apply stepG_ifN | apply stepG_if)) <;> intro hb <;> (have hif := hb) <;> (try simp only [bo] at hif) <;> (try simp -implicitDefEqProofs (disch := omega) only [go_sem, hb]) <;> clear hb
   | simp (maxSteps := 1000000) -implicitDefEqProofs (disch := omega) only [go_sem])
 refine ret_do ?_
 rw [← idxR_any]; rfl
end Go.Aw
end
section
set_option maxRecDepth 20000
namespace Go.Aw
open Go.RowKit Go.Proofs
abbrev Span := Int × Int
def encS (s : Int × Int) : List V := [.lit (.int .i64 s.1), .lit (.int .i64 s.2)]
@[go_sem] theorem encS_eq (s : Int × Int) : encS s = [.lit (.int .i64 s.1), .lit (.int .i64 s.2)] := rfl
def encB (h : List (Int × Int)) : List V := [.sl 2 (h.map encS) false]
@[go_sem] theorem encB_eq (h : List (Int × Int)) : encB h = [.sl 2 (h.map encS) false] := rfl
def encBill (b : Int × List (Int × Int)) : List V := [.lit (.int .i64 b.1), .sl 2 (b.2.map encS) false]
def encW (w : List Int) : List V := [.sl 1 (w.map encI) false]
def encWs (ws : List (List Int)) : List V := [.sl 1 (ws.map encW) false]
theorem IndexFunc_Span (l : List (Int × Int)) (e : Bool) (p : Int × Int → Bool) (g : FuncId) (cap : List V) (hl : l.length ≤ 4611686018427387904) (hcap : PuL cap) (hg : ∀ x ∈ l, Ct Try.prog g (.agg (encS x) :: cap) (.lit (.bool (p x)))) :
   Ct Try.prog 126 [.sl 2 (l.map encS) e, .fn (.func g) [] cap] (.lit (.int .i64 (idxR l p))) := by
 refine fn_enter Try.func126 rfl (by decide) Try.results126 Try.ntmps126 ?_ rfl (by simp (maxSteps := 1000000) -implicitDefEqProofs (disch := omega) only [go_sem]; rfl) fun base => ?_
 · simp
 repeat' (first
   | (with_reducible apply Req_intro); focus (first | omega | assumption | (simp; done))
   | with_reducible (first | apply Req_intro | refine nilT ?_ fun hn => ?_ | apply wk_draw Try_mixed | refine drawEnd (by kernel_rfl) ?_)
   | (with_reducible (first | apply condA_if | apply stepDG_ifN | apply stepDG_if | apply stepG_ifN | apply stepG_if)) <;> intro hb <;> (have hif := hb) <;> (try simp only [bo] at hif) <;> (try simp -implicitDefEqProofs (disch := omega) only [go_sem, hb]) <;> clear hb
   | simp (maxSteps := 1000000) -implicitDefEqProofs (disch := omega) only [go_sem])
 refine loop_at (α := Nat) [4, 5, 8, 9, 10, 11, 12, 13, 14, 15, 16, 17, 18] (fun i => [(8, .lit (.int .i64 i))]) (fun i => i ≤ l.length ∧ ∀ x ∈ l.take i, p x = false) (fun i => l.length - i) 0 (fun x => by simp (maxSteps := 1000000) -implicitDefEqProofs (disch := omega) only [go_sem]; rfl) ?_ ?_ fun x hx => ?_
 · exact weak_do []
 · simp
 obtain ⟨hi, hp⟩ := hx
 repeat' (first
   | (with_reducible apply Req_intro); focus (first | omega | assumption | (simp; done))
   | with_reducible (first | apply Req_intro | refine nilT ?_ fun hn => ?_ | apply wk_draw Try_mixed | refine drawEnd (by kernel_rfl) ?_)
   | (with_reducible (first | apply condA_if | apply stepDG_ifN | apply stepDG_if | apply stepG_ifN | apply stepG_if)) <;> intro hb <;> (have hif := hb) <;> (try simp only [bo] at hif) <;> (try simp -implicitDefEqProofs (disch := omega) only [go_sem, hb]) <;> clear hb
   | simp (maxSteps := 1000000) -implicitDefEqProofs (disch := omega) only [go_sem])
 · have hif' : x < l.length := hif
   refine callp (hg (l.getD x default) (getD_mem hif')) ?_
   try simp (maxSteps := 1000000) -implicitDefEqProofs (disch := omega) only [go_sem]
   repeat' (first
     | (with_reducible apply Req_intro); focus (first | omega | assumption | (simp; done))
     | with_reducible (first | apply Req_intro | refine nilT ?_ fun hn => ?_ | apply wk_draw Try_mixed | refine drawEnd (by kernel_rfl) ?_)
     | (with_reducible (first | apply condA_if | apply stepDG_ifN | apply stepDG_if | apply stepG_ifN | apply stepG_if)) <;> intro hb <;> (have hif := hb) <;> (try simp only [bo] at hif) <;> (try simp -implicitDefEqProofs (disch := omega) only [go_sem, hb]) <;> clear hb
     | simp (maxSteps := 1000000) -implicitDefEqProofs (disch := omega) only [go_sem])
   · refine ret_do ?_
     rw [idxR_some hif' hp hif]; rfl
   · refine nxt_w (x + 1) (weak_do []) ?_
     try dsimp only
     exact idxR_step hif' hp hif
 · refine ret_do ?_
   rw [idxR_none hif hp]; rfl
theorem ContainsFunc_Span (l : List (Int × Int)) (e : Bool) (p : Int × Int → Bool) (g : FuncId) (cap : List V) (hl : l.length ≤ 4611686018427387904) (hcap : PuL cap) (hg : ∀ x ∈ l, Ct Try.prog g (.agg (encS x) :: cap) (.lit (.bool (p x)))) :
   Ct Try.prog 96 [.sl 2 (l.map encS) e, .fn (.func g) [] cap] (.lit (.bool (l.any p))) := by
 refine fn_enter Try.func96 rfl (by decide) Try.results96 Try.ntmps96 ?_ rfl (by simp (maxSteps := 1000000) -implicitDefEqProofs (disch := omega) only [go_sem]; rfl) fun base => ?_
 · simp
 repeat' (first
   | (with_reducible apply Req_intro); focus (first | omega | assumption | (simp; done))
   | with_reducible (first | apply Req_intro | refine nilT ?_ fun hn => ?_ | apply wk_draw Try_mixed | refine drawEnd (by kernel_rfl) ?_)
   | (with_reducible (first | apply condA_if | apply stepDG_ifN | apply stepDG_if | apply stepG_ifN | apply stepG_if)) <;> intro hb <;> (have hif := hb) <;> (try simp only [bo] at hif) <;> (try simp -implicitDefEqProofs (disch := omega) only [go_sem, hb]) <;> clear hb
   | simp (maxSteps := 1000000) -implicitDefEqProofs (disch := omega) only [go_sem])
 refine callp (IndexFunc_Span l e p g cap hl hcap hg) ?_
 try simp (maxSteps := 1000000) -implicitDefEqProofs (disch := omega) only [go_sem]
 repeat' (first
   | (with_reducible apply Req_intro); focus (first | omega | assumption | (simp; done))
   | with_reducible (first | apply Req_intro | refine nilT ?_ fun hn => ?_ | apply wk_draw Try_mixed | refine drawEnd (by kernel_rfl) ?_)
   | (with_reducible (first | apply condA_if | apply stepDG_ifN | apply stepDG_if | apply stepG_ifN | apply stepG_if)) <;> intro hb <;> (have hif := hb) <;> (try simp only [bo] at hif) <;> (try simp -implicitDefEqProofs (disch := omega) only [go_sem, hb]) <;> clear hb
   | simp (maxSteps := 1000000) -implicitDefEqProofs (disch := omega) only [go_sem])
 refine ret_do ?_
 rw [← idxR_any]; rfl
def inR' (a b : Int) (n : Int) : Bool := decide (a ≤ n) && decide (n ≤ b)
theorem any_out (a b : Int) (l : List Int) : (!l.any fun n => decide (n < a) || decide (b < n)) = l.all (inR' a b) := by
 rw [List.not_any_eq_all_not]
 congr 1; funext n
 simp only [inR', Bool.not_or, ← decide_not, Int.not_lt]
def spanOk (m : Int) (s : Int × Int) : Bool := decide (s.1 ≤ s.2) && inR' 0 m s.1 && inR' 0 m s.2
end Go.Aw
end
section
set_option maxRecDepth 20000
namespace Go.Aw
open Go.RowKit Go.Proofs
abbrev Box := List (Int × Int)
abbrev Bill := Int × List (Int × Int)
def encLoad (bs : List Box) (cs : List Bill) : V := .agg [.sl 1 (bs.map encB) false, .sl 2 (cs.map encBill) false]
def stuffs (cs : List Bill) : Nat := (cs.getD 0 default).2.length
def checkR (bs : List Box) (cs : List Bill) : Int :=
 if 8 < bs.length ∨ 3 < cs.length then 5
 else if cs.length = 0 then 7
 else if ¬ (1 ≤ stuffs cs ∧ stuffs cs ≤ 3) then 4
 else if (bs.any fun h => (h.length : Int) != (stuffs cs : Int)) = true then 4
 else if (cs.any fun b => (b.2.length : Int) != (stuffs cs : Int)) = true then 4
 else if (bs.any fun h => !h.all (spanOk 1000)) = true then 2
 else if (cs.any fun b => !b.2.all (spanOk 10000) || !inR' 0 8 b.1) = true then 2
 else 0
end Go.Aw
end
section
set_option maxRecDepth 20000
namespace Go.Aw
open Go.RowKit Go.Proofs
structure Sums where
 a : Int × Int
 b : Int × Int
 c : Int × Int
 deriving DecidableEq
instance : Inhabited Sums := ⟨⟨(0, 0), (0, 0), (0, 0)⟩⟩
def Sums.get (s : Sums) : Nat → Int × Int
 | 0 => s.a
 | 1 => s.b
 | _ => s.c
def Sums.set (s : Sums) (k : Nat) (v : Int × Int) : Sums := match k with
 | 0 => { s with a := v }
 | 1 => { s with b := v }
 | _ => { s with c := v }
def encSums (s : Sums) : List V := encS s.a ++ encS s.b ++ encS s.c
def restS (s : Sums) (k : Nat) : List V := (encSums s).drop (k * 2 + 2)
theorem k3 {k : Nat} (h : k < 3) : k = 0 ∨ k = 1 ∨ k = 2 := by omega
def addS (s h : Int × Int) : Int × Int := (s.1 + h.1, s.2 + h.2)
def plusR (s : Sums) (held : List (Int × Int)) : Sums := match held with
 | [] => s
 | [x] => ⟨addS s.a x, s.b, s.c⟩
 | [x, y] => ⟨addS s.a x, addS s.b y, s.c⟩
 | x :: y :: z :: _ => ⟨addS s.a x, addS s.b y, addS s.c z⟩
def SmallS (n : Int) (x : Int × Int) : Prop := -n ≤ x.1 ∧ x.1 ≤ n ∧ -n ≤ x.2 ∧ x.2 ≤ n
def Small (n : Int) (s : Sums) : Prop := SmallS n s.a ∧ SmallS n s.b ∧ SmallS n s.c
theorem Small.get {n : Int} {s : Sums} (h : Small n s) (k : Nat) : SmallS n (s.get k) := by
 rcases Nat.lt_or_ge k 2 with hk | hk
 · rcases (by omega : k = 0 ∨ k = 1) with rfl | rfl
   · exact h.1
   · exact h.2.1
 · have : s.get k = s.c := by
     match k, hk with
     | k + 2, _ => rfl
   rw [this]; exact h.2.2
structure Cart where
 boxes : Int
 sums : Sums
 deriving DecidableEq
instance : Inhabited Cart := ⟨⟨0, default⟩⟩
def encCart (c : Cart) : List V := .lit (.int .i64 c.boxes) :: encSums c.sums
def mayR (c : Cart) (b : Bill) : Bool := c.boxes == b.1 && (List.range b.2.length).all fun k => decide ((b.2.getD k default).1 ≤ (c.sums.get k).2) && decide ((c.sums.get k).1 ≤ (b.2.getD k default).2)
def overR (c : Cart) (b : Bill) : Bool := decide (b.1 < c.boxes) || (List.range b.2.length).any fun k => decide ((b.2.getD k default).2 < (c.sums.get k).1)
end Go.Aw
end
section
set_option maxRecDepth 20000
namespace Go.Aw
open Go.RowKit Go.Proofs
end Go.Aw
end
section
set_option maxRecDepth 20000
namespace Go.Aw
open Go.RowKit Go.Proofs
structure Carts where
 a : Cart
 b : Cart
 c : Cart
 deriving DecidableEq
instance : Inhabited Carts := ⟨⟨default, default, default⟩⟩
def Carts.get (s : Carts) : Nat → Cart
 | 0 => s.a
 | 1 => s.b
 | _ => s.c
def Carts.set (s : Carts) (k : Nat) (v : Cart) : Carts := match k with
 | 0 => { s with a := v }
 | 1 => { s with b := v }
 | _ => { s with c := v }
def encCarts (s : Carts) : List V := encCart s.a ++ encCart s.b ++ encCart s.c
def restC (s : Carts) (k : Nat) : List V := (encCarts s).drop (k * 7 + 7)
def allMay (cs : List Bill) (hv : Carts) : Bool := (List.range cs.length).all fun k => mayR (hv.get k) (cs.getD k default)
def addC (hv : Carts) (k : Nat) (b : Box) : Cart := ⟨(hv.get k).boxes + 1, plusR (hv.get k).sums b⟩
def waysG (cs : List Bill) : List Box → List Int → Carts → List (List Int)
 | [], now, hv => if allMay cs hv then [now] else []
 | b :: rest, now, hv => (List.range cs.length).flatMap fun k => if overR (addC hv k b) (cs.getD k default) then [] else waysG cs rest (now ++ [(k : Int)]) (hv.set k (addC hv k b))
def yWay (w : List Int) : List V := [.sl 1 (w.map encI) false]
@[go_sem] theorem map_snoc_I (l : List Int) (c : Int) : l.map encI ++ [[.lit (.int .i64 c)]] = (l ++ [c]).map encI := by simp [encI]
def loadC (bs : List Box) (cs : List Bill) : List V := [.sl 1 (bs.map encB) false, .sl 2 (cs.map encBill) false]
structure Valid (cs : List Bill) (bs : List Box) : Prop where
 nc : cs.length ≤ 3
 nb : bs.length ≤ 8
 sc : ∀ c ∈ cs, c.2.length ≤ 3
 sb : ∀ b ∈ bs, b.length ≤ 3
 vb : ∀ b ∈ bs, ∀ x ∈ b, SmallS 1000000 x
theorem SmallS.mono {m n : Int} {x : Int × Int} (h : SmallS m x) (hmn : m ≤ n) : SmallS n x := by unfold SmallS at *; omega
theorem Small.mono {m n : Int} {s : Sums} (h : Small m s) (hmn : m ≤ n) : Small n s := ⟨h.1.mono hmn, h.2.1.mono hmn, h.2.2.mono hmn⟩
def HvOk (n : Nat) (hv : Carts) : Prop := ∀ k, Small (1000000 * n) (hv.get k).sums ∧ 0 ≤ (hv.get k).boxes ∧ (hv.get k).boxes ≤ n
theorem plusR_small {s : Sums} {b : Box} {m : Int} (hs : Small m s) (hb : ∀ x ∈ b, SmallS 1000000 x) (hm : 0 ≤ m) : Small (m + 1000000) (plusR s b) := by
 have add : ∀ {x y : Int × Int}, SmallS m x → SmallS 1000000 y → SmallS (m + 1000000) (addS x y) := fun {x y} h1 h2 => by
   unfold SmallS addS at *; simp only at *; omega
 obtain ⟨h1, h2, h3⟩ := hs
 match b, hb with
 | [], _ => exact ⟨h1.mono (by omega), h2.mono (by omega), h3.mono (by omega)⟩
 | [x], hb => exact ⟨add h1 (hb x (by simp)), h2.mono (by omega), h3.mono (by omega)⟩
 | [x, y], hb => exact ⟨add h1 (hb x (by simp)), add h2 (hb y (by simp)), h3.mono (by omega)⟩
 | x :: y :: z :: r, hb => exact ⟨add h1 (hb x (by simp)), add h2 (hb y (by simp)), add h3 (hb z (by simp))⟩
theorem HvOk.set {n : Nat} {hv : Carts} (h : HvOk n hv) (k : Nat) {b : Box} (hb : ∀ x ∈ b, SmallS 1000000 x) : HvOk (n + 1) (hv.set k (addC hv k b)) := by
 have old : ∀ j, Small (1000000 * ((n + 1 : Nat) : Int)) (hv.get j).sums ∧ 0 ≤ (hv.get j).boxes ∧ (hv.get j).boxes ≤ ((n + 1 : Nat) : Int) := fun j => by
   obtain ⟨h1, h2, h3⟩ := h j
   exact ⟨h1.mono (by omega), h2, by omega⟩
 have new : Small (1000000 * ((n + 1 : Nat) : Int)) (addC hv k b).sums ∧ 0 ≤ (addC hv k b).boxes ∧ (addC hv k b).boxes ≤ ((n + 1 : Nat) : Int) := by
   obtain ⟨h1, h2, h3⟩ := h k
   refine ⟨(plusR_small h1 hb (by omega)).mono (by omega), ?_, ?_⟩
   · simp only [addC]; omega
   · simp only [addC]; omega
 intro j
 match k, j with
 | 0, 0 => exact new
 | 0, 1 => exact old 1
 | 0, j + 2 => exact old (j + 2)
 | 1, 0 => exact old 0
 | 1, 1 => exact new
 | 1, j + 2 => exact old (j + 2)
 | k + 2, 0 => exact old 0
 | k + 2, 1 => exact old 1
 | k + 2, j + 2 => exact new
end Go.Aw
end
section
set_option maxRecDepth 20000
namespace Go.Aw
open Go.RowKit Go.Proofs
def carts0 : Carts := default
def allW (bs : List Box) (cs : List Bill) : List (List Int) := waysG cs bs [] carts0
theorem spanOk_small {m : Int} {x : Int × Int} (h : spanOk m x = true) : 0 ≤ x.1 ∧ x.1 ≤ x.2 ∧ x.2 ≤ m := by
 simp only [spanOk, inR', Bool.and_eq_true, decide_eq_true_eq] at h; omega
structure Good (bs : List Box) (cs : List Bill) : Prop where
 nb : bs.length ≤ 8
 nc : cs.length ≤ 3
 n1 : 1 ≤ cs.length
 st : 1 ≤ stuffs cs ∧ stuffs cs ≤ 3
 lb : ∀ b ∈ bs, b.length = stuffs cs
 lc : ∀ c ∈ cs, c.2.length = stuffs cs
 ob : ∀ b ∈ bs, ∀ x ∈ b, spanOk 1000 x = true
 oc : ∀ c ∈ cs, ∀ x ∈ c.2, spanOk 10000 x = true
 cb : ∀ c ∈ cs, 0 ≤ c.1 ∧ c.1 ≤ 8
structure Fits (bs : List Box) (cs : List Bill) : Prop where
 b : ∀ b ∈ bs, b.length ≤ 4611686018427387904
 c : ∀ c ∈ cs, c.2.length ≤ 4611686018427387904
end Go.Aw
end
section
set_option maxRecDepth 20000
namespace Go.Aw
open Go.RowKit Go.Proofs
abbrev nilV : V := .lit (.slice none 0 0)
abbrev int (n : Int) : V := .lit (.int .i64 n)
inductive OpenIs (bs : List Box) (cs : List Bill) : Int → Prop
 | err (h : checkR bs cs ≠ 0) : OpenIs bs cs (checkR bs cs)
 | none (h : checkR bs cs = 0) (hn : allW bs cs = []) : OpenIs bs cs 9
def errL : V := .agg [nilV, nilV]
end Go.Aw
end
section
set_option maxRecDepth 20000
namespace Go.Aw
open Go.RowKit Go.Proofs
def WaysOk (m n : Nat) (ws : List (List Int)) : Prop := ∀ w ∈ ws, w.length = n ∧ ∀ x ∈ w, 0 ≤ x ∧ x < m
def bx (w : List Int) (a : Int) : Int := w.getD a.toNat default
end Go.Aw
end
section
set_option maxRecDepth 20000
namespace Go.Aw
open Go.RowKit Go.Proofs
def grp (ws : List (List Int)) (b : Nat) (k : Int) : List (List Int) := ws.filter fun w => w.getD b default == k
def gcell (id : Nat) (ws : List (List Int)) (b : Nat) (k : Int) : V := .os id 1 (grp ws b k).length false
def grow (ws : List (List Int)) (b : Nat) (k : Int) : Option Blk := some ⟨1, (grp ws b k).map encW, 132, .wr⟩
def encG (ws : List (List Int)) (b : Nat) : List V := [.sl 1 ((grp ws b 0).map encW) false, .sl 1 ((grp ws b 1).map encW) false, .sl 1 ((grp ws b 2).map encW) false]
def worthR (ws : List (List Int)) (b : Nat) : Int := max (max (max 0 ((grp ws b 0).length : Int)) (grp ws b 1).length) (grp ws b 2).length
def worthTo (ws : List (List Int)) (b : Nat) : Int → Int
 | 0 => 0
 | 1 => max 0 ((grp ws b 0).length : Int)
 | 2 => max (max 0 ((grp ws b 0).length : Int)) (grp ws b 1).length
 | _ => worthR ws b
end Go.Aw
end
section
set_option maxRecDepth 20000
namespace Go.Aw
open Go.RowKit Go.Proofs
theorem WaysOk.mono {k m n : Nat} {ws : List (List Int)} (h : WaysOk k n ws) (hk : k ≤ m) : WaysOk m n ws := fun w hw => ⟨(h w hw).1, fun x hx => by have := (h w hw).2 x hx; omega⟩
def askTo (ws : List (List Int)) : Nat → Int × Int
 | 0 => (0, ws.length)
 | i + 1 => if worthR ws i < (askTo ws i).2 then (i, worthR ws i) else askTo ws i
def orI (a c : Int) : Int := ibits .or .i64 a (1 * 2 ^ min c.toNat 64)
def canJ (l w : List Int) : Nat → List Int
 | 0 => l
 | j + 1 => (canJ l w j).set j (orI ((canJ l w j).getD j default) (w.getD j default))
def canI (ws : List (List Int)) (n : Nat) : Nat → List Int
 | 0 => List.replicate n 0
 | i + 1 => canJ (canI ws n i) (ws.getD i default) n
@[go_sem] theorem take_map_I (l : List Int) (n : Nat) (h : l.length = n) : (l.map encI).take n = l.map encI := List.take_of_length_le (by simp; omega)
@[go_sem] theorem map_set_I (l : List Int) (i : Nat) (v : Int) : (l.map encI).set i [.lit (.int .i64 v)] = (l.set i v).map encI := by rw [List.map_set]; rfl
end Go.Aw
end
section
set_option maxRecDepth 20000
namespace Go.Aw
open Go.RowKit Go.Proofs
def firstF (p : Nat → Bool) : Nat → Option Nat
 | 0 => none
 | n + 1 => match firstF p n with
   | some i => some i
   | none => if p n then some n else none
def grps (ws : List (List Int)) (b : Nat) : List (List (List Int)) := [grp ws b 0, grp ws b 1, grp ws b 2]
def decR (n : Nat) : Nat → List (List Int) → Int × Bool
 | 0, ws => if ws.length < 2 then (-1, true) else (0, false)
 | q + 1, ws => if ws.length < 2 then (-1, true) else
   match firstF (fun b => !(grps ws b).any fun g => (g.length == ws.length) || !(decR n q g).2) n with
   | some b => (b, true)
   | none => (0, false)
theorem WaysOk.grp {k n : Nat} {ws : List (List Int)} (h : WaysOk k n ws) (b : Nat) (c : Int) : WaysOk k n (grp ws b c) := fun w hw => h w ((List.mem_filter.1 hw).1)
def Con (ws : List (List Int)) (b : Nat) : Prop := ∀ w ∈ ws, ∀ v ∈ ws, w.getD b default = v.getD b default
def Open (n : Nat) (ws : List (List Int)) (s : List Nat) : Prop := ∀ b, b < n → b ∉ s → Con ws b
end Go.Aw
end
section
set_option maxRecDepth 20000
namespace Go.Aw
open Go.RowKit Go.Proofs
def sumB (bs : List Box) (k : Nat) : Int × Int := bs.foldl (fun s b => addS s (b.getD k default)) (0, 0)
def shortR (bs : List Box) (cs : List Bill) (k : Nat) : Int × Int := cs.foldl (fun s c => (s.1 - (c.2.getD k default).2, s.2 - (c.2.getD k default).1)) (sumB bs k)
def shorts (bs : List Box) (cs : List Bill) (n : Nat) : List (Int × Int) := (List.range n).map (shortR bs cs)
def sumTo (bs : List Box) (k j : Nat) : Int × Int := (bs.take j).foldl (fun s b => addS s (b.getD k default)) (0, 0)
def subTo (bs : List Box) (cs : List Bill) (k j : Nat) : Int × Int := (cs.take j).foldl (fun s c => (s.1 - (c.2.getD k default).2, s.2 - (c.2.getD k default).1)) (sumB bs k)
theorem Good.box {bs : List Box} {cs : List Bill} (hg : Good bs cs) {k j : Nat} (hk : k < stuffs cs) (hj : j < bs.length) : k < (bs.getD j default).length ∧ 0 ≤ ((bs.getD j default).getD k default).1 ∧ ((bs.getD j default).getD k default).1 ≤ ((bs.getD j default).getD k default).2 ∧ ((bs.getD j default).getD k default).2 ≤ 1000 := by
 have hl := hg.lb _ (getD_mem hj)
 have := spanOk_small (hg.ob _ (getD_mem hj) _ (getD_mem (l := bs.getD j default) (i := k) (by omega)))
 exact ⟨by omega, this⟩
@[go_sem] theorem take_map_S (l : List (Int × Int)) (n : Nat) (h : l.length = n) : (l.map encS).take n = l.map encS := List.take_of_length_le (by simp; omega)
end Go.Aw
end
section
set_option maxRecDepth 20000
set_option maxHeartbeats 4000000
namespace Go.Aw
open Go.RowKit Go.Proofs
def cartTo (bs : List Box) (w : List Int) (a : Int) : Nat → Sums
 | 0 => default
 | j + 1 => if w.getD j default = a then plusR (cartTo bs w a j) (bs.getD j default) else cartTo bs w a j
def shareW (bs : List Box) (cs : List Bill) (a b : Nat) (w : List Int) : Int × Int :=
 (max ((cs.getD a default).2.getD b default).1 ((cartTo bs w a bs.length).get b).1, min ((cs.getD a default).2.getD b default).2 ((cartTo bs w a bs.length).get b).2)
def shareTo (bs : List Box) (cs : List Bill) (a b : Nat) (ws : List (List Int)) : Nat → Int × Int
 | 0 => (0, 0)
 | n + 1 => if 0 < n then (min (shareW bs cs a b (ws.getD n default)).1 (shareTo bs cs a b ws n).1, max (shareW bs cs a b (ws.getD n default)).2 (shareTo bs cs a b ws n).2) else shareW bs cs a b (ws.getD n default)
end Go.Aw
end
section
set_option maxRecDepth 20000
set_option maxHeartbeats 4000000
namespace Go.Aw
open Go.RowKit Go.Proofs
abbrev u64 (n : Int) : V := .lit (.int .u64 n)
def tz (x : Nat) : Nat := ((List.range 8).find? fun i => x.testBit i).getD 0
def tzE (x : Int) : Int := (IntKind.wrap .u64 (ibits .and .u64 x (IntKind.wrap .u64 (-x)) * 285870213051353865)).fdiv (2 ^ min 58 64)
def tabI : List Int := [0, 1, 56, 2, 57, 49, 28, 3, 61, 58, 42, 50, 38, 29, 17, 4, 62, 47, 59, 36, 45, 43, 51, 22, 53, 39, 33, 30, 24, 18, 12, 5, 63, 55, 48, 27, 60, 41, 37, 16, 46, 35, 44, 21, 52, 32, 23, 11, 54, 26, 40, 15, 34, 20, 31, 10, 25, 14, 19, 9, 13, 8, 7, 6]
def cmpI (x y : Int) : Int := if x < y then -1 else if y < x then 1 else 0
def cmpL : List Int → List Int → Int
 | [], [] => 0
 | [], _ :: _ => -1
 | _ :: _, [] => 1
 | x :: a, y :: b => if cmpI x y ≠ 0 then cmpI x y else cmpL a b
end Go.Aw
end
section
set_option maxRecDepth 20000
set_option maxHeartbeats 4000000
namespace Go.Aw
open Go.RowKit Go.Proofs
def spoilB (b : Box) : Box := List.replicate b.length (0, 10000)
def spoil (bs : List Box) (set : Nat) : List Box := bs.mapIdx fun i b => if set.testBit i then spoilB b else b
theorem spoil_len (l : List Box) (s : Nat) : (spoil l s).length = l.length := by simp [spoil]
def fillTo (n x : Nat) : List (Int × Int) := List.replicate x (0, 10000) ++ List.replicate (n - x) (0, 0)
@[go_sem] theorem take_map_B (l : List Box) (n : Nat) (h : l.length = n) : (l.map encB).take n = l.map encB := List.take_of_length_le (by simp; omega)
def nums (s : Nat) : List Int := ((List.range 8).filter fun i => s.testBit i).map Int.ofNat
def wrongTo (ok : Nat → Bool) : Nat → Option (List Int)
 | 0 => none
 | k + 1 => match wrongTo ok k with
   | none => if ok k then some (nums k) else none
   | some b => if ((nums k).length > b.length || ((nums k).length == b.length && decide (0 < cmpL (nums k) b))) = false ∧ ok k = true then some (nums k) else some b
def isPos (bs : List Box) (cs : List Bill) (k : Nat) : Bool := !(allW (spoil bs k) cs).isEmpty
theorem Valid.spoil {bs : List Box} {cs : List Bill} (h : Valid cs bs) (k : Nat) : Valid cs (spoil bs k) := by
 obtain ⟨h1, h2, h3, h4, h5⟩ := h
 have key : ∀ b ∈ Aw.spoil bs k, b.length ≤ 3 ∧ ∀ x ∈ b, SmallS 1000000 x := by
   intro b hb
   obtain ⟨i, hi, rfl⟩ := List.mem_iff_getElem.1 hb
   have hi2 : i < bs.length := by rw [spoil_len] at hi; exact hi
   simp only [Aw.spoil, List.getElem_mapIdx]
   split
   · refine ⟨by simp only [spoilB, List.length_replicate]; exact h4 _ (List.getElem_mem hi2), fun x hx => ?_⟩
     rw [List.eq_of_mem_replicate hx]; unfold SmallS; decide
   · exact ⟨h4 _ (List.getElem_mem hi2), h5 _ (List.getElem_mem hi2)⟩
 exact ⟨h1, by rw [spoil_len]; exact h2, h3, fun b hb => (key b hb).1, fun b hb => (key b hb).2⟩
end Go.Aw
end
section
set_option maxRecDepth 20000
set_option maxHeartbeats 4000000
namespace Go.Aw
open Go.RowKit Go.Proofs
def bestV : Option (List Int) → V
 | none => nilV
 | some b => .os 64 1 b.length false
def bestR : Option (List Int) → Option Blk
 | none => none
 | some b => some ⟨1, b.map encI, 3, .wr⟩
def bestO : Option (List Int) → V
 | none => .tup [nilV, int 7]
 | some b => .tup [.sl 1 (b.map encI) false, int 0]
def moreR (n b : List Int) : Bool := decide (n.length > b.length) || ((n.length == b.length) && decide (0 < cmpL n b))
end Go.Aw
end
section
namespace Go.Aw
@[go_sem ↓] theorem hget_nil' (i : Nat) : hget i [] = none := by rw [hget]
@[go_sem ↓] theorem hget_miss (i j : Nat) (b : Option Blk) (r : List (Nat × Option Blk)) (h : i ≠ j) : hget i ((j, b) :: r) = hget i r := by rw [hget, if_neg h]
@[go_sem ↓] theorem hget_hit (i : Nat) (b : Option Blk) (r : List (Nat × Option Blk)) : hget i ((i, b) :: r) = some b := by rw [hget, if_pos rfl]
@[go_sem ↓] theorem hset_nil' (i : Nat) (b : Option Blk) : hset i b [] = [(i, b)] := by rw [hset]
@[go_sem ↓] theorem hset_miss (i j : Nat) (b c : Option Blk) (r : List (Nat × Option Blk)) (h : i ≠ j) : hset i b ((j, c) :: r) = (j, c) :: hset i b r := by rw [hset, if_neg h]
@[go_sem ↓] theorem hset_hit (i : Nat) (b c : Option Blk) (r : List (Nat × Option Blk)) : hset i b ((i, c) :: r) = (i, b) :: r := by rw [hset, if_pos rfl]
theorem PurE.snocR {fr : Bool} {h : Hp} {e e' : List V} {l : List (List V)} (hp : PuE l) (he : PurI fr h e e') : PurE fr h (l ++ [e]) (l ++ [e']) := by
 induction l with
 | nil => exact .cons _ _ _ _ he .nil
 | cons a l ih => exact .cons _ _ _ _ (.pu _ (hp a List.mem_cons_self)) (ih fun x hx => hp x (List.mem_cons_of_mem _ hx))
theorem RenE.setR {ρ : Nat → Nat} {m : Nat} {e e' : List V} : ∀ {l : List (List V)} {i : Nat}, PuE l → RenL ρ m e e' → RenE ρ m (l.set i e) (l.set i e')
 | [], _, _, _ => .nil
 | a :: l, 0, hp, he => .cons _ _ _ _ he (.pu _ fun x hx => hp x (List.mem_cons_of_mem _ hx))
 | a :: l, i + 1, hp, he => .cons _ _ _ _ (.pu _ (hp a List.mem_cons_self)) (RenE.setR (fun x hx => hp x (List.mem_cons_of_mem _ hx)) he)
theorem callsTo_of_callT {P : Program} {g : FuncId} {args rs : List V} (hp : PuL rs) (h : CallH P g args (fun _ => none) 0 fun r' h' _ => ∃ ids rs', r' = .tup rs' ∧ PurI true (frz ids h') rs' rs) : CallsTo P g args (.tup rs) := by
 intro w ok vals hok hgl hsz hrep
 have hrh : RH w (fun _ => False) ok (fun _ => none) (fun _ => none) := ⟨hok, fun b hb => hb.elim, (fun id B hB => by cases hB), (fun id b hb => by cases hb), (fun id1 id2 b1 b2 B h1 => by cases h1), hgl⟩
 refine CallsIn.mono (h w _ ok _ vals hrh (fun id _ => ⟨rfl, rfl⟩) hsz hrep) ?_
 rintro e w' ⟨v, r', h', nx', own', ok', s', rfl, ⟨ids, rs', rfl, hpr⟩, g1, g2, g3, g4, g5, g6⟩
 obtain ⟨ok2, k1, k2⟩ := g1.frzAll ids
 obtain ⟨hl1, hc1⟩ := hpr.spec
 cases g2 with
 | tup vs _ hl hc =>
   refine ⟨_, own', ok2, rfl, g3.trans k2, k1.okw, .tup vs rs (by rw [hl, hl1]) fun i d u hd hu => ?_⟩
   have hi : i < rs'.length := by rw [hl1]; exact (List.getElem?_eq_some_iff.1 hd).1
   have hd' : rs'[i]? = some rs'[i] := List.getElem?_eq_getElem hi
   have h1 := (((hc1 i _ d hd' hd).rep k1 ((hc i _ u hd' hu).evol k2 (fun _ _ h => h))).pu (hp d (List.mem_of_getElem? hd)) (s' := fun _ => none))
   refine h1.keep (fun b o hb => ⟨?_, rfl⟩) (fun _ _ _ h => h) (fun _ _ h => h)
   rcases hb with hb | ⟨hb, _⟩
   · exact hb
   · cases hb
theorem ct_enterT {P : Program} {g : FuncId} {fn : Func} {c : Code} {rv : List ResultVar} {n : Nat} {args tm rs : List V} (hf : P.funcs[g]? = some fn) (hb : fn.body = some c) (hn : fn.name ≠ "runtime.NumGoroutine") (hr : fn.results = List.toArray rv) (hnt : fn.ntmps = n)
   (hp : PuL rs) (ha : decide (args.length ≤ n) = true) (ht : initT n args = tm) (hw : ∀ base, awp P c (RetB P rv fun r' h' _ => ∃ ids rs', r' = .tup rs' ∧ PurI true (frz ids h') rs' rs) ⟨tm, hpOf (fun _ => none) [], 0, { base := base }⟩) : Ct P g args (.tup rs) := by
 subst hnt ht
 have ha := of_decide_eq_true ha
 refine ⟨callsTo_of_callT hp ?_, fn, hf, by rw [hb]; rfl, hn⟩
 refine callH_of_awp hf hb ha fun base => ?_
 rw [retB_eq (rs := rv) (by rw [hr]), ← initT_eq _ _ ha]
 exact hw base
theorem rett {P : Program} {tm rs rs' : List V} {nx : Nat} {gh : Gh} {rv : List ResultVar} {l l' : List (Nat × Option Blk)} {c : Prop} (ids : List Nat) (h : resV P ⟨tm, hpOf (fun _ => none) l, nx, gh⟩ rv = some (c, rs') := by simp (maxSteps := 1000000) -implicitDefEqProofs (disch := omega) only [go_sem]; rfl) (hc : c := by first | trivial | omega | (simp; omega)) (ht : retV rs' = .tup rs' := by rfl) (hl : frzL ids l = l' := by first | (simp only [go_sem]; done) | (simp only [go_sem]; rfl))
   (hp : PurI true (hpOf (fun _ => none) l') rs' rs := by
     (try simp (maxSteps := 1000000) -implicitDefEqProofs (disch := omega) only [go_sem])
     repeat' (first
       | with_reducible (first | exact PurI.nil | exact Pur.nilsl _ _ | exact PurE.nil)
       | (with_reducible (first | refine PurI.puL ?_ | refine PurE.puE ?_)) <;> (first | assumption | (simp only [go_sem] <;> assumption) | (simp only [go_sem, *]; done) | (simp [go_sem]; done))
       | with_reducible apply PurI.cons
       | (with_reducible refine Pur.pu _ ?_) <;> (first | assumption | (simp only [go_sem] <;> assumption) | (simp only [go_sem, *]; done) | (simp [go_sem]; done))
       | ((with_reducible apply Pur.refR) <;> (first | rfl | decide | (simp only [go_sem]; omega) | (simp only [go_sem]) | skip))
       | ((with_reducible apply Pur.osR) <;> (first | rfl | exact fun h => h | omega | (simp; omega) | (simp; done) | (simp only [go_sem]) | skip))
       | with_reducible (first | apply Pur.fnI | apply Pur.aggI | apply PurE.cons)
       | (with_reducible refine PurI.eqL ?_ ?_); (focus rfl); (focus (first | assumption | (simp only [go_sem] <;> assumption) | (simp only [go_sem, *]; done) | (simp [go_sem]; done)))
       | simp (maxSteps := 1000000) -implicitDefEqProofs (disch := omega) only [go_sem])) : RetB P rv (fun r' h' _ => ∃ ids rs', r' = .tup rs' ∧ PurI true (frz ids h') rs' rs) .ret ⟨tm, hpOf (fun _ => none) l, nx, gh⟩ := ret_at h hc ⟨ids, rs', ht, by rw [frz_hpOf, hl]; exact hp⟩
end Go.Aw
end
section
namespace Go.Aw
open Go.RowKit
def famE (F n : Nat) (ln : Nat → Nat) : List (List V) := (List.range n).map fun j => [.os (F + j) 2 (ln j) false]
def famC (F n : Nat) (ct : Nat → Int) (ln : Nat → Nat) : List (List V) := (List.range n).map fun j => [int (ct j), .os (F + j) 2 (ln j) false]
@[go_sem] theorem famE_len (F n : Nat) (ln : Nat → Nat) : (famE F n ln).length = n := by simp [famE]
@[go_sem] theorem famC_len (F n : Nat) (ct : Nat → Int) (ln : Nat → Nat) : (famC F n ct ln).length = n := by simp [famC]
theorem famE_at {F n : Nat} {ln : Nat → Nat} {j : Nat} (h : j < n) : (famE F n ln)[j]? = some [.os (F + j) 2 (ln j) false] := by simp [famE, h]
theorem famC_at {F n : Nat} {ct : Nat → Int} {ln : Nat → Nat} {j : Nat} (h : j < n) : (famC F n ct ln)[j]? = some [int (ct j), .os (F + j) 2 (ln j) false] := by simp [famC, h]
theorem famE_lt {F n : Nat} {ln : Nat → Nat} {j : Nat} {e : List V} (h : (famE F n ln)[j]? = some e) : j < n := by have := (List.getElem?_eq_some_iff.1 h).1; rwa [famE_len] at this
theorem famC_lt {F n : Nat} {ct : Nat → Int} {ln : Nat → Nat} {j : Nat} {e : List V} (h : (famC F n ct ln)[j]? = some e) : j < n := by have := (List.getElem?_eq_some_iff.1 h).1; rwa [famC_len] at this
section
variable {ρ : Nat → Nat} {m : Nat}
theorem RenE.get : ∀ {a b : List (List V)}, a.length = b.length → (∀ (j : Nat) (d d' : List V), a[j]? = some d → b[j]? = some d' → RenL ρ m d d') → RenE ρ m a b
 | [], [], _, _ => .nil
 | _ :: _, [], h, _ => by cases h
 | [], _ :: _, h, _ => by cases h
 | d :: a, d' :: b, h, hc => .cons _ _ _ _ (hc 0 d d' rfl rfl) (RenE.get (by simpa using h) fun j x y hx hy => hc (j + 1) x y (by simpa using hx) (by simpa using hy))
theorem RenE.fam {F n B : Nat} {ln ln' : Nat → Nat} (hB : n ≤ B) (hr : ∀ j, j < B → ρ (F + j) = F + j ∧ F + j < m) (hl : ∀ j, j < n → ln j = ln' j) : RenE ρ m (famE F n ln) (famE F n ln') := by
 refine RenE.get (by simp only [famE_len]) fun j d d' h1 h2 => ?_
 have hj := famE_lt h1
 rw [famE_at hj] at h1 h2
 cases h1
 cases h2
 have := hr j (by omega)
 exact .cons _ _ _ _ (Ren.osN _ _ (hl j hj) this.1 this.2 (fun h => h)) .nil
theorem RenE.famCt {F n B : Nat} {ct ct' : Nat → Int} {ln ln' : Nat → Nat} (hB : n ≤ B) (hr : ∀ j, j < B → ρ (F + j) = F + j ∧ F + j < m) (hl : ∀ j, j < n → ln j = ln' j) (hc : ∀ j, j < n → ct j = ct' j) : RenE ρ m (famC F n ct ln) (famC F n ct' ln') := by
 refine RenE.get (by simp only [famC_len]) fun j d d' h1 h2 => ?_
 have hj := famC_lt h1
 rw [famC_at hj] at h1 h2
 cases h1
 cases h2
 have := hr j (by omega)
 rw [hc j hj]
 exact .cons _ _ _ _ (.lit _) (.cons _ _ _ _ (Ren.osN _ _ (hl j hj) this.1 this.2 (fun h => h)) .nil)
theorem RenE.famSnoc {F n n1 X L : Nat} {ln : Nat → Nat} {ex : Bool} (hn : n1 = n + 1) (hr : ∀ j, j < n → ρ (F + j) = F + j) (hm : F + n < m) (hX : ρ (F + n) = X) (hL : ln n = L) : RenE ρ m (famE F n1 ln) (famE F n ln ++ [[.os X 2 L ex]]) := by
 subst hn
 refine RenE.get (by simp [famE_len]) fun j d d' h1 h2 => ?_
 have hj := famE_lt h1
 rw [famE_at hj] at h1
 cases h1
 rcases Nat.lt_or_ge j n with h | h
 · rw [List.getElem?_append_left (by rw [famE_len]; exact h), famE_at h] at h2
   cases h2
   exact .cons _ _ _ _ (Ren.osN _ _ rfl (hr j h) (by omega) (fun h => h)) .nil
 · obtain rfl : j = n := by omega
   rw [List.getElem?_append_right (by rw [famE_len]; exact h), famE_len, Nat.sub_self] at h2
   cases h2
   exact .cons _ _ _ _ (Ren.osN _ _ hL hX hm (fun h => by cases h)) .nil
theorem RenE.famCSnoc {F n n1 X L : Nat} {ct : Nat → Int} {c : Int} {ln : Nat → Nat} {ex : Bool} (hn : n1 = n + 1) (hr : ∀ j, j < n → ρ (F + j) = F + j) (hm : F + n < m) (hX : ρ (F + n) = X) (hL : ln n = L) (hc : ct n = c) : RenE ρ m (famC F n1 ct ln) (famC F n ct ln ++ [[int c, .os X 2 L ex]]) := by
 subst hn
 refine RenE.get (by simp [famC_len]) fun j d d' h1 h2 => ?_
 have hj := famC_lt h1
 rw [famC_at hj] at h1
 cases h1
 rcases Nat.lt_or_ge j n with h | h
 · rw [List.getElem?_append_left (by rw [famC_len]; exact h), famC_at h] at h2
   cases h2
   exact .cons _ _ _ _ (.lit _) (.cons _ _ _ _ (Ren.osN _ _ rfl (hr j h) (by omega) (fun h => h)) .nil)
 · obtain rfl : j = n := by omega
   rw [List.getElem?_append_right (by rw [famC_len]; exact h), famC_len, Nat.sub_self] at h2
   cases h2
   rw [hc]
   exact .cons _ _ _ _ (.lit _) (.cons _ _ _ _ (Ren.osN _ _ hL hX hm (fun h => by cases h)) .nil)
theorem RenE.famSet {F n B x X L : Nat} {ln ln' : Nat → Nat} {ex : Bool} (hB : n ≤ B) (hr : ∀ j, j < B → j ≠ x → ρ (F + j) = F + j) (hm : ∀ j, j < B → F + j < m) (hX : ρ (F + x) = X) (hL : ln x = L) (hl : ∀ j, j < n → j ≠ x → ln j = ln' j) : RenE ρ m (famE F n ln) ((famE F n ln').set x [.os X 2 L ex]) := by
 refine RenE.get (by simp [famE_len]) fun j d d' h1 h2 => ?_
 have hj := famE_lt h1
 rw [famE_at hj] at h1
 cases h1
 by_cases he : j = x
 · subst he
   rw [List.getElem?_set_self (by rw [famE_len]; exact hj)] at h2
   cases h2
   exact .cons _ _ _ _ (Ren.osN _ _ hL hX (hm j (by omega)) (fun h => by cases h)) .nil
 · rw [List.getElem?_set_ne (fun h => he h.symm), famE_at hj] at h2
   cases h2
   exact .cons _ _ _ _ (Ren.osN _ _ (hl j hj he) (hr j (by omega) he) (hm j (by omega)) (fun h => h)) .nil
theorem RenE.famCSet {F n B x X L : Nat} {ct ct' : Nat → Int} {c : Int} {ln ln' : Nat → Nat} {ex : Bool} (hB : n ≤ B) (hr : ∀ j, j < B → j ≠ x → ρ (F + j) = F + j) (hm : ∀ j, j < B → F + j < m) (hX : ρ (F + x) = X) (hL : ln x = L) (hl : ∀ j, j < n → j ≠ x → ln j = ln' j) (hc : ct x = c) (hcl : ∀ j, j < n → j ≠ x → ct j = ct' j) :
   RenE ρ m (famC F n ct ln) ((famC F n ct' ln').set x [int c, .os X 2 L ex]) := by
 refine RenE.get (by simp [famC_len]) fun j d d' h1 h2 => ?_
 have hj := famC_lt h1
 rw [famC_at hj] at h1
 cases h1
 by_cases he : j = x
 · subst he
   rw [List.getElem?_set_self (by rw [famC_len]; exact hj)] at h2
   cases h2
   rw [hc]
   exact .cons _ _ _ _ (.lit _) (.cons _ _ _ _ (Ren.osN _ _ hL hX (hm j (by omega)) (fun h => by cases h)) .nil)
 · rw [List.getElem?_set_ne (fun h => he h.symm), famC_at hj] at h2
   cases h2
   rw [hcl j hj he]
   exact .cons _ _ _ _ (.lit _) (.cons _ _ _ _ (Ren.osN _ _ (hl j hj he) (hr j (by omega) he) (hm j (by omega)) (fun h => h)) .nil)
end
section
variable {fr : Bool} {h : Hp}
theorem PurE.get : ∀ {a b : List (List V)}, a.length = b.length → (∀ (j : Nat) (d d' : List V), a[j]? = some d → b[j]? = some d' → PurI fr h d d') → PurE fr h a b
 | [], [], _, _ => .nil
 | _ :: _, [], h, _ => by cases h
 | [], _ :: _, h, _ => by cases h
 | d :: a, d' :: b, h, hc => .cons _ _ _ _ (hc 0 d d' rfl rfl) (PurE.get (by simpa using h) fun j x y hx hy => hc (j + 1) x y (by simpa using hx) (by simpa using hy))
theorem PurE.fam {F n : Nat} {ln : Nat → Nat} {bs : List Box} (hn : bs.length = n) (hl : ∀ j, j < n → ln j = (bs.getD j default).length) (hh : ∀ j, j < n → h (F + j) = some ⟨2, (bs.getD j default).map encS, 33, .fz⟩) : PurE true h ((famE F n ln).take n) (bs.map encB) := by
 rw [List.take_of_length_le (by rw [famE_len]; exact Nat.le_refl _)]
 refine PurE.get (by rw [famE_len, List.length_map, hn]) fun j d d' h1 h2 => ?_
 have hj := famE_lt h1
 rw [famE_at hj] at h1
 rw [List.getElem?_map, List.getElem?_eq_getElem (by omega)] at h2
 cases h1
 cases h2
 have e : bs.getD j default = bs[j] := getD_default (by omega)
 have h3 := hh j hj
 have h4 := hl j hj
 rw [e] at h3 h4
 rw [h4]
 refine .cons _ _ _ _ (Pur.osR h3 rfl (by rw [List.length_map]; exact Nat.le_refl _) (fun h => h) ?_) .nil
 rw [List.take_of_length_le (by rw [List.length_map]; exact Nat.le_refl _)]
 exact .puE (by first | assumption | (simp only [go_sem] <;> assumption) | (simp only [go_sem, *]; done) | (simp [go_sem]; done))
theorem PurE.famCt {F n : Nat} {ct : Nat → Int} {ln : Nat → Nat} {cs : List Bill} (hn : cs.length = n) (hc : ∀ j, j < n → ct j = (cs.getD j default).1) (hl : ∀ j, j < n → ln j = (cs.getD j default).2.length) (hh : ∀ j, j < n → h (F + j) = some ⟨2, (cs.getD j default).2.map encS, 33, .fz⟩) : PurE true h ((famC F n ct ln).take n) (cs.map encBill) := by
 rw [List.take_of_length_le (by rw [famC_len]; exact Nat.le_refl _)]
 refine PurE.get (by rw [famC_len, List.length_map, hn]) fun j d d' h1 h2 => ?_
 have hj := famC_lt h1
 rw [famC_at hj] at h1
 rw [List.getElem?_map, List.getElem?_eq_getElem (by omega)] at h2
 cases h1
 cases h2
 have e : cs.getD j default = cs[j] := getD_default (by omega)
 have h3 := hh j hj
 have h4 := hl j hj
 have h5 := hc j hj
 rw [e] at h3 h4 h5
 rw [h4, h5]
 refine .cons _ _ _ _ (.pu _ (.lit _)) (.cons _ _ _ _ (Pur.osR h3 rfl (by rw [List.length_map]; exact Nat.le_refl _) (fun h => h) ?_) .nil)
 rw [List.take_of_length_le (by rw [List.length_map]; exact Nat.le_refl _)]
 exact .puE (by first | assumption | (simp only [go_sem] <;> assumption) | (simp only [go_sem, *]; done) | (simp [go_sem]; done))
end
end Go.Aw
end
section
namespace Go.Aw
open Go.RowKit
def rhoF (n : Nat) (id : Nat) : Nat := if id < n then id + 9223372036854775808 else id - n
section
variable {P : Program} {g : FuncId} {args args' : List V} {nx nx0 : Nat} {l rows rows0 : List (Nat × Option Blk)} {r0 r' : V}
theorem hget_app2 (i : Nat) : ∀ (a b : List (Nat × Option Blk)) (x : Option Blk), hget i (a ++ b) = some x → hget i a = some x ∨ hget i b = some x
 | [], b, x, h => .inr h
 | p :: a, b, x, h => by
   obtain ⟨j, y⟩ := p
   simp only [List.cons_append, hget] at h ⊢
   by_cases e : i = j
   · rw [if_pos e] at h ⊢; exact .inl h
   · rw [if_neg e] at h ⊢; exact hget_app2 i a b x h
theorem RH.join {w : World} {own : Nat → Prop} {ok : Nat → Nat → Prop} {s s0 : Nat → Option Nat} {h h0 h' : Hp} (hr : RH w own ok s h) {own0 : Nat → Prop} (hr0 : RH w own0 ok s0 h0) (hd : ∀ b, own b → ¬ own0 b) (hfr : ∀ id, nx ≤ id → s id = none ∧ h id = none)
   (hfr0 : ∀ id, nx0 ≤ id → s0 id = none ∧ h0 id = none) (hn : nx0 ≤ 9223372036854775808)
   (hh : ∀ id b', h' id = some b' → (id < nx ∧ h id = some b') ∨ (nx ≤ id ∧ id < nx + nx0 ∧ (nx0 ≤ rhoF nx id ∧ 0 < b'.k ∧ b'.es = [] ∨ ∃ b, h0 (rhoF nx id) = some b ∧ b'.k = b.k ∧ b'.ty = b.ty ∧ b'.mode = b.mode ∧ RenE (rhoF nx) (nx + nx0) b'.es b.es))) :
   RH w (fun b => own b ∨ own0 b) ok (fun id => if id < nx then s id else s0 (id - nx)) h' := by
 let s' : Nat → Option Nat := fun id => if id < nx then s id else s0 (id - nx)
 show RH w _ ok s' h'
 have hs1 : ∀ id B, s id = some B → s' id = some B := fun id B hB => by
   have : id < nx := by
     rcases Nat.lt_or_ge id nx with h1 | h1
     · exact h1
     · rw [(hfr id h1).1] at hB; cases hB
   simp only [s', if_pos this]; exact hB
 have hs0 : ∀ id B, id < nx + nx0 → s0 (rhoF nx id) = some B → s' id = some B := fun id B _ hB => by
   unfold rhoF at hB
   split at hB
   · rw [(hfr0 _ (by omega)).1] at hB; cases hB
   · rename_i h1; simp only [s', if_neg h1]; exact hB
 have hs2 : ∀ id B, nx ≤ id → s' id = some B → s0 (rhoF nx id) = some B := fun id B h1 hB => by
   simp only [s', if_neg (Nat.not_lt.2 h1)] at hB
   unfold rhoF; rw [if_neg (Nat.not_lt.2 h1)]; exact hB
 have hs3 : ∀ id B, id < nx → s' id = some B → s id = some B := fun id B h1 hB => by
   simp only [s', if_pos h1] at hB; exact hB
 refine ⟨hr.okw, fun b hb => ?_, fun id B hB => ?_, fun id b' hb' => ?_, fun id1 id2 b1 b2 B g1 g2 m1 m2 e1 e2 => ?_, hr.gl⟩
 · rcases hb with hb | hb
   · exact hr.ownw b hb
   · exact hr0.ownw b hb
 · rcases Nat.lt_or_ge id nx with h1 | h1
   · exact hr.sw id B (hs3 id B h1 hB)
   · exact hr0.sw _ B (hs2 id B h1 hB)
 · rcases hh id b' hb' with ⟨h1, h2⟩ | ⟨h1, h1', hrow⟩
   · have hbk := hr.blk id b' h2
     refine ⟨hbk.pos, hbk.len, fun hv => hbk.virt (by simpa [s', h1] using hv), fun B hB hm => ⟨.inl (hbk.own B (hs3 id B h1 hB) hm).1, (hbk.own B (hs3 id B h1 hB) hm).2⟩, fun B hB => hbk.shape B (hs3 id B h1 hB), fun B hB i j e d hi hj => ?_,
       fun B hB => hbk.fwr B (hs3 id B h1 hB), fun B hB => hbk.ffz B (hs3 id B h1 hB), fun B hB => hbk.fold B (hs3 id B h1 hB), hbk.mpe, fun B hB => hbk.map B (hs3 id B h1 hB)⟩
     obtain ⟨u, g1, g2⟩ := hbk.cells B (hs3 id B h1 hB) i j e d hi hj
     exact ⟨u, g1, g2.keep (fun _ _ h => ⟨h, rfl⟩) (fun _ _ _ h => h) hs1⟩
   · rcases hrow with ⟨hv, hk, he⟩ | ⟨b, hb, hk, hty, hm, he⟩
     · have hno : ∀ B, s' id = some B → False := fun B hB => by
         have := hs2 id B h1 hB
         rw [(hfr0 _ hv).1] at this; cases this
       exact ⟨hk, fun e h => (by rw [he] at h; cases h), fun _ => he, fun B hB => (hno B hB).elim, fun B hB => (hno B hB).elim, fun B hB => (hno B hB).elim, fun B hB => (hno B hB).elim, fun B hB => (hno B hB).elim, fun B hB => (hno B hB).elim, fun _ _ => he, fun B hB => (hno B hB).elim⟩
     · have hbk := hr0.blk _ _ hb
       obtain ⟨el, ei⟩ := he.spec
       refine ⟨by rw [hk]; exact hbk.pos, fun e h => ?_, fun h => ?_, fun B hB hmm => ⟨.inr (hbk.own B (hs2 id B h1 hB) (by rw [← hm]; exact hmm)).1, (hbk.own B (hs2 id B h1 hB) (by rw [← hm]; exact hmm)).2⟩, fun B hB hnm => ?_, fun B hB i j e d hi hj => ?_, fun B hB hmm => hbk.fwr B (hs2 id B h1 hB) (by rw [← hm]; exact hmm), fun B hB hmm o => ?_, fun B hB hmm o ho => ?_, fun m hm' => ?_, fun B hB m hm' => hbk.map B (hs2 id B h1 hB) m (by rw [← hm]; exact hm')⟩
       · obtain ⟨i, hi, rfl⟩ := List.getElem_of_mem h
         have hi' : i < b.es.length := by omega
         rw [hk, (ei i _ _ (List.getElem?_eq_getElem hi) (List.getElem?_eq_getElem hi')).spec.1]
         exact hbk.len _ (List.getElem_mem hi')
       · have : s0 (rhoF nx id) = none := by
           unfold rhoF; rw [if_neg (Nat.not_lt.2 h1)]
           simpa [s', Nat.not_lt.2 h1] using h
         have := hbk.virt this
         rw [this] at el
         exact List.eq_nil_of_length_eq_zero (by simpa using el)
       · obtain ⟨sz, g1, g2⟩ := hbk.shape B (hs2 id B h1 hB) (fun m h => hnm m (by rw [hm]; exact h))
         exact ⟨sz, by rw [hty]; exact g1, by rw [hk, el]; exact g2⟩
       · have hi' : i < b.es.length := by have := (List.getElem?_eq_some_iff.1 hi).1; omega
         obtain ⟨jl, jr⟩ := (ei i _ _ hi (List.getElem?_eq_getElem hi')).spec
         have hj' : j < (b.es[i]).length := by have := (List.getElem?_eq_some_iff.1 hj).1; omega
         obtain ⟨u, g1, g2⟩ := hbk.cells B (hs2 id B h1 hB) i j _ _ (List.getElem?_eq_getElem hi') (List.getElem?_eq_getElem hj')
         exact ⟨u, by rw [hk]; exact g1, g2.ren (jr j _ _ hj (List.getElem?_eq_getElem hj')) hs0⟩
       · rw [hk, el]; exact hbk.ffz B (hs2 id B h1 hB) (by rw [← hm]; exact hmm) o
       · rw [hk, el] at ho; exact hbk.fold B (hs2 id B h1 hB) (by rw [← hm]; exact hmm) o ho
       · have := hbk.mpe m (by rw [← hm]; exact hm')
         rw [this] at el
         exact List.eq_nil_of_length_eq_zero (by simpa using el)
 · have hno : ∀ id B, nx ≤ id → nx0 ≤ rhoF nx id → s' id = some B → False := fun id B h1 hv hB => by
     have := hs2 id B h1 hB
     rw [(hfr0 _ hv).1] at this; cases this
   have own1 : ∀ id b B, h id = some b → b.mode ≠ .old → s id = some B → own B := fun id b B h1 h2 h3 => ((hr.blk id b h1).own B h3 h2).1
   have own2 : ∀ id b B, h0 id = some b → b.mode ≠ .old → s0 id = some B → own0 B := fun id b B h1 h2 h3 => ((hr0.blk id b h1).own B h3 h2).1
   rcases hh id1 b1 g1 with ⟨a1, a2⟩ | ⟨a1, a2, a3⟩
   · rcases hh id2 b2 g2 with ⟨c1, c2⟩ | ⟨c1, c2, c3⟩
     · exact hr.exc id1 id2 b1 b2 B a2 c2 m1 m2 (hs3 _ _ a1 e1) (hs3 _ _ c1 e2)
     · rcases c3 with ⟨c3, _⟩ | ⟨b, q1, _, _, q4, _⟩
       · exact (hno _ _ c1 c3 e2).elim
       · exact (hd B (own1 _ _ _ a2 m1 (hs3 _ _ a1 e1)) (own2 _ _ _ q1 (by rw [← q4]; exact m2) (hs2 _ _ c1 e2))).elim
   · rcases a3 with ⟨a3, _⟩ | ⟨b, q1, _, _, q4, _⟩
     · exact (hno _ _ a1 a3 e1).elim
     rcases hh id2 b2 g2 with ⟨c1, c2⟩ | ⟨c1, c2, c3⟩
     · exact (hd B (own1 _ _ _ c2 m2 (hs3 _ _ c1 e2)) (own2 _ _ _ q1 (by rw [← q4]; exact m1) (hs2 _ _ a1 e1))).elim
     · rcases c3 with ⟨c3, _⟩ | ⟨b', p1, _, _, p4, _⟩
       · exact (hno _ _ c1 c3 e2).elim
       · have := hr0.exc _ _ b b' B q1 p1 (by rw [← q4]; exact m1) (by rw [← p4]; exact m2) (hs2 _ _ a1 e1) (hs2 _ _ c1 e2)
         unfold rhoF at this
         rw [if_neg (Nat.not_lt.2 a1), if_neg (Nat.not_lt.2 c1)] at this
         omega
theorem CallH.fresh (hc : CallH P g args' (fun _ => none) 0 (fun r h n => r = r0 ∧ h = hpOf (fun _ => none) rows0 ∧ n = nx0)) (hp : PurL true (hpOf (fun _ => none) l) args args') (hn : nx0 ≤ 9223372036854775808)
   (hr' : Ren (rhoF nx) (nx + nx0) r' r0) (hrows : RowsRen (rhoF nx) (nx + nx0) nx0 (hpOf (fun _ => none) rows0) rows) (hge : (rows.all fun p => decide (nx ≤ p.1)) = true) :
   CallH P g args (hpOf (fun _ => none) l) nx (fun r h n => r = r' ∧ h = hpOf (fun _ => none) (l ++ rows) ∧ n = nx + nx0) := by
 intro w own ok s vals hrh hfr hsz hvals
 have hrh0 : RH w (fun _ => False) ok (fun _ => none) (fun _ => none) := ⟨hrh.okw, fun b hb => hb.elim, (fun id B hB => by cases hB), (fun id b hb => by cases hb), (fun id1 id2 b1 b2 B h1 => by cases h1), hrh.gl⟩
 have hok : ∀ b o, okT ok s (hpOf (fun _ => none) l) true b o → ok b o := fun b o h => by
   rcases h with h | ⟨h, _⟩
   · exact h
   · cases h
 have hargs : ∀ (i : Nat) (d : V) (v : Value), args'[i]? = some d → vals[i]? = some v → Rep w ok (fun _ => none) v d := fun i d v hd hv => by
   have hi : i < args.length := by rw [hp.1]; exact (List.getElem?_eq_some_iff.1 hd).1
   exact ((hp.2 i _ d (List.getElem?_eq_getElem hi) hd).rep hrh (hvals i _ v (List.getElem?_eq_getElem hi) hv)).keep (fun b o h => ⟨hok b o h, rfl⟩) (fun _ _ _ h => h) (fun _ _ h => h)
 refine CallsIn.mono (hc w _ ok _ vals hrh0 (fun id _ => ⟨rfl, rfl⟩) (hsz.trans hp.1) hargs) ?_
 rintro e w' ⟨v, r, h0, n, own0, ok0, s0, rfl, ⟨rfl, rfl, rfl⟩, g1, g2, g3, _, g5, _⟩
 obtain ⟨k1, k2⟩ := hrh.called g3 g1.okw
 have hd : ∀ b, own b → ¬ own0 b := fun b hb h0 => by
   rcases g3.ownn b h0 with h | h
   · exact h
   · have := hrh.ownw b hb; omega
 have hj := RH.join (nx := nx) (h' := hpOf (fun _ => none) (l ++ rows)) k1 g1 hd hfr g5 hn fun id b' hb' => by
   unfold hpOf at hb'
   split at hb'
   · rename_i x hx
     rcases hget_app2 id l rows x hx with h1 | h1
     · left
       have : hpOf (fun _ => none) l id = some b' := by unfold hpOf; rw [h1]; exact hb'
       refine ⟨?_, this⟩
       rcases Nat.lt_or_ge id nx with h2 | h2
       · exact h2
       · rw [(hfr id h2).2] at this; cases this
     · right
       subst hb'
       obtain ⟨q1, q2⟩ := hrows.spec id b' h1
       have h3 : nx ≤ id := by
         obtain ⟨p, hp1, hp2⟩ := List.mem_map.1 (hget_key h1)
         have := List.all_eq_true.1 hge p hp1
         rw [decide_eq_true_eq] at this
         rw [← hp2]; exact this
       exact ⟨h3, q1, q2⟩
   · cases hb'
 refine ⟨v, r', _, _, _, ok0, _, rfl, ⟨rfl, rfl, rfl⟩, hj, g2.ren hr' fun id B hid hB => ?_, ⟨k2.os, k2.tape, k2.output, k2.size, k2.unch, fun b hb => ?_, k2.okk, k2.okc, k2.okn, k2.shape, k2.ctl⟩, Nat.le_add_right _ _, fun id hid => ⟨?_, ?_⟩, fun id hid => ?_⟩
 · unfold rhoF at hB
   split at hB
   · rw [(g5 _ (by omega)).1] at hB; cases hB
   · rename_i h1; simp only [if_neg h1]; exact hB
 · rcases hb with hb | hb
   · exact .inl hb
   · rcases g3.ownn b hb with h | h
     · exact h.elim
     · exact .inr h
 · rw [if_neg (by omega)]
   exact (g5 _ (by omega)).1
 · cases hh : hpOf (fun _ => none) (l ++ rows) id with
   | none => rfl
   | some b' =>
     exfalso
     unfold hpOf at hh
     split at hh
     · rename_i x hx
       subst hh
       rcases hget_app2 id l rows _ hx with h1 | h1
       · have : hpOf (fun _ => none) l id = some b' := by unfold hpOf; rw [h1]
         rw [(hfr id (by omega)).2] at this; cases this
       · have := (hrows.spec id b' h1).1
         omega
     · cases hh
 · simp only [if_pos hid]
end
end Go.Aw
end
section
namespace Go.Aw
open Go.RowKit
def rhoD (ρ : Nat → Nat) (n : Nat) (id : Nat) : Nat := if n ≤ id ∧ id < n + 64 then ρ (id - n) else id + 9223372036854775808
section
variable {P : Program} {g : FuncId} {first args cap args' : List V} {nx nx0 M : Nat} {rows0 : List (Nat × Option Blk)} {rows : Wr} {r0 r' : V} {ρ : Nat → Nat}
theorem applyWr_some : ∀ {rows : Wr} {h : Hp} {id : Nat} {b' : Blk}, applyWr h rows id = some b' → (∃ p ∈ rows, p.1 = id ∧ p.2 = some b') ∨ (h id = some b' ∧ ∀ p ∈ rows, p.1 ≠ id)
 | [], h, id, b', e => .inr ⟨e, fun p hp => by cases hp⟩
 | (k, x) :: rows, h, id, b', e => by
   rcases applyWr_some (rows := rows) (h := upd h k x) e with ⟨p, hp, h1⟩ | ⟨h1, h2⟩
   · exact .inl ⟨p, by simp [hp], h1⟩
   · unfold upd at h1
     split at h1
     · rename_i e; subst e
       exact .inl ⟨(id, x), by simp, rfl, h1⟩
     · rename_i hne
       refine .inr ⟨h1, fun p hp => ?_⟩
       rcases List.mem_cons.1 hp with rfl | hp
       · exact fun h => hne h.symm
       · exact h2 p hp
structure RowIs (ρ : Nat → Nat) (nx : Nat) (rows0 : List (Nat × Option Blk)) (p : Nat × Option Blk) : Prop where
 ge : nx ≤ p.1
 lt : p.1 < nx + 64
 is : ∀ b', p.2 = some b' → ∃ b, hpOf (fun _ => none) rows0 (ρ (p.1 - nx)) = some b ∧ b'.k = b.k ∧ b'.ty = b.ty ∧ b'.mode = b.mode ∧ RenE (rhoD ρ nx) (nx + 64) b'.es b.es
end
end Go.Aw
end
section
namespace Go.Aw
open Go.RowKit
section
variable {P : Program} {g : FuncId} {args0 args : List V} {n0 nx : Nat} {h0 h : Hp} {r0 : V} {σ : Nat → Nat} {b' : Nat → Blk}
def turned (n0 : Nat) (σ : Nat → Nat) (b' : Nat → Blk) : Wr := (List.range n0).map fun k => (σ k, some (b' k))
theorem mem_turned {p : Nat × Option Blk} (h : p ∈ turned n0 σ b') : ∃ k, k < n0 ∧ p = (σ k, some (b' k)) := by
 unfold turned at h
 rw [List.mem_map] at h
 obtain ⟨k, hk, rfl⟩ := h
 exact ⟨k, List.mem_range.1 hk, rfl⟩
theorem turned_mem {k : Nat} (h : k < n0) : (σ k, some (b' k)) ∈ turned n0 σ b' := List.mem_map.2 ⟨k, List.mem_range.2 h, rfl⟩
theorem CallH.at (hc : CallH P g args0 h0 n0 (fun r h' n => r = r0 ∧ ∀ k, k < n0 → h' k = some (b' k))) (hout : ∀ k, n0 ≤ k → h0 k = none)
   (hin : ∀ k, k < n0 → ∃ b, h0 k = some b ∧ h (σ k) = some b ∧ b.mode ≠ .old ∧ PuE b.es) (hb' : ∀ k, k < n0 → (b' k).mode ≠ .old ∧ PuE (b' k).es)
   (hinj : ∀ k j, k < n0 → j < n0 → σ k = σ j → k = j) (hargs : RenL σ n0 args0 args) (hr0 : Pu r0) :
   CallH P g args h nx (fun r h' n => r = r0 ∧ h' = applyWr h (turned n0 σ b') ∧ n = nx) := by
 intro w own ok s vals hrh hfr hsz hvals
 let s0 : Nat → Option Nat := fun k => if k < n0 then s (σ k) else none
 let own0 : Nat → Prop := fun B => ∃ k, k < n0 ∧ s (σ k) = some B
 have hs0 : ∀ k, k < n0 → s0 k = s (σ k) := fun k hk => by simp only [s0, if_pos hk]
 have hs0n : ∀ k, n0 ≤ k → s0 k = none := fun k hk => by simp only [s0, if_neg (Nat.not_lt.2 hk)]
 have hown0 : ∀ B, own0 B → own B := fun B ⟨k, hk, hB⟩ => by
   obtain ⟨b, _, h2, h3, _⟩ := hin k hk
   exact ((hrh.blk _ b h2).own B hB h3).1
 have hrh0 : RH w own0 ok s0 h0 := by
   refine ⟨hrh.okw, fun b hb => hrh.ownw b (hown0 b hb), fun k B hB => ?_, fun k b hb => ?_, fun k1 k2 b1 b2 B e1 e2 m1 m2 g1 g2 => ?_, hrh.gl⟩
   · rcases Nat.lt_or_ge k n0 with hk | hk
     · rw [hs0 k hk] at hB; exact hrh.sw _ B hB
     · rw [hs0n k hk] at hB; cases hB
   · rcases Nat.lt_or_ge k n0 with hk | hk
     · obtain ⟨b2, e1, e2, e3, e4⟩ := hin k hk
       rw [e1] at hb; cases hb
       have hbk := hrh.blk _ b e2
       have e := hs0 k hk
       refine ⟨hbk.pos, hbk.len, fun hv => hbk.virt (by rw [← e]; exact hv), fun B hB hm => ⟨⟨k, hk, by rw [← e]; exact hB⟩, (hbk.own B (by rw [← e]; exact hB) hm).2⟩, fun B hB => hbk.shape B (by rw [← e]; exact hB), fun B hB i j u d hi hj => ?_, fun B hB => hbk.fwr B (by rw [← e]; exact hB), fun B hB => hbk.ffz B (by rw [← e]; exact hB), fun B hB => hbk.fold B (by rw [← e]; exact hB), hbk.mpe, fun B hB => hbk.map B (by rw [← e]; exact hB)⟩
       obtain ⟨x, q1, q2⟩ := hbk.cells B (by rw [← e]; exact hB) i j u d hi hj
       exact ⟨x, q1, q2.pu (e4 u (List.mem_of_getElem? hi) d (List.mem_of_getElem? hj))⟩
     · rw [hout k hk] at hb; cases hb
   · have l1 : k1 < n0 := by
       rcases Nat.lt_or_ge k1 n0 with hk | hk
       · exact hk
       · rw [hout k1 hk] at e1; cases e1
     have l2 : k2 < n0 := by
       rcases Nat.lt_or_ge k2 n0 with hk | hk
       · exact hk
       · rw [hout k2 hk] at e2; cases e2
     obtain ⟨c1, p1, p2, p3, _⟩ := hin k1 l1
     obtain ⟨c2, q1, q2, q3, _⟩ := hin k2 l2
     rw [hs0 k1 l1] at g1
     rw [hs0 k2 l2] at g2
     exact hinj k1 k2 l1 l2 (hrh.exc _ _ c1 c2 B p2 q2 p3 q3 g1 g2)
 obtain ⟨hl, hri⟩ := hargs.spec
 have hvals0 : ∀ (i : Nat) (d : V) (v : Value), args0[i]? = some d → vals[i]? = some v → Rep w ok s0 v d := fun i d v hd hv => by
   have hi : i < args.length := by rw [← hl]; exact (List.getElem?_eq_some_iff.1 hd).1
   exact (hvals i _ v (List.getElem?_eq_getElem hi) hv).ren (hri i _ _ hd (List.getElem?_eq_getElem hi)) fun k B hk hB => by rw [hs0 k hk]; exact hB
 refine CallsIn.mono (hc w own0 ok s0 vals hrh0 (fun k hk => ⟨hs0n k hk, hout k hk⟩) (hsz.trans hl.symm) hvals0) ?_
 rintro e w' ⟨v, r, h1, n1, own1, ok1, s1, rfl, ⟨rfl, hbb⟩, g1, g2, g3, g4, g5, g6⟩
 have hs1 : ∀ k, k < n0 → s1 k = s (σ k) := fun k hk => (g6 k hk).trans (hs0 k hk)
 have hne : ∀ id b, h id = some b → b.mode ≠ .old → (∀ k, k < n0 → σ k ≠ id) → ∀ B, s id = some B → ¬ own0 B := fun id b hb hm hno B hB ⟨k, hk, hkB⟩ => by
   obtain ⟨c, _, p2, p3, _⟩ := hin k hk
   exact hno k hk (hrh.exc _ _ c b B p2 hb p3 hm hkB hB)
 have hrow : ∀ id b, applyWr h (turned n0 σ b') id = some b → (∃ k, k < n0 ∧ σ k = id ∧ b = b' k) ∨ (h id = some b ∧ ∀ k, k < n0 → σ k ≠ id) := fun id b hb => by
   rcases applyWr_some hb with ⟨p, hp, e1, e2⟩ | ⟨e1, e2⟩
   · obtain ⟨k, hk, rfl⟩ := mem_turned hp
     cases e2
     exact .inl ⟨k, hk, e1, rfl⟩
   · exact .inr ⟨e1, fun k hk => e2 _ (turned_mem hk)⟩
 have hkeep : ∀ {u d}, Rep w ok s u d → Rep w' ok1 s u d := fun hv => hv.keep (fun b o hb => ⟨g3.okk b o hb, g3.okc b o hb⟩) g3.shape (fun _ _ h => h)
 refine ⟨v, r, _, nx, fun B => (own B ∧ ¬ own0 B) ∨ own1 B, ok1, s, rfl, ⟨rfl, rfl, rfl⟩, ⟨g1.okw, fun b hb => ?_, fun id B hB => Nat.lt_of_lt_of_le (hrh.sw id B hB) g3.size, fun id b hb => ?_, fun id1 id2 b1 b2 B e1 e2 m1 m2 q1 q2 => ?_, g1.gl⟩, g2.pu hr0, ⟨g3.os, g3.tape, g3.output, g3.size, fun b hb hn => g3.unch b hb (fun h => hn (hown0 b h)), fun b hb => ?_, g3.okk, g3.okc, fun b o hb => ?_, g3.shape, g3.ctl⟩, Nat.le_refl _, fun id hid => ⟨(hfr id hid).1, ?_⟩, fun _ _ => rfl⟩
 · rcases hb with ⟨hb, _⟩ | hb
   · exact Nat.lt_of_lt_of_le (hrh.ownw b hb) g3.size
   · exact g1.ownw b hb
 · rcases hrow id b hb with ⟨k, hk, rfl, rfl⟩ | ⟨hb, hno⟩
   · have hbk := g1.blk k _ (hbb k hk)
     have e := hs1 k hk
     refine ⟨hbk.pos, hbk.len, fun hv => hbk.virt (by rw [e]; exact hv), fun B hB hm => ⟨.inr (hbk.own B (by rw [e]; exact hB) hm).1, (hbk.own B (by rw [e]; exact hB) hm).2⟩, fun B hB => hbk.shape B (by rw [e]; exact hB), fun B hB i j u d hi hj => ?_, fun B hB => hbk.fwr B (by rw [e]; exact hB), fun B hB => hbk.ffz B (by rw [e]; exact hB), fun B hB => hbk.fold B (by rw [e]; exact hB), hbk.mpe, fun B hB => hbk.map B (by rw [e]; exact hB)⟩
     obtain ⟨x, q1, q2⟩ := hbk.cells B (by rw [e]; exact hB) i j u d hi hj
     exact ⟨x, q1, q2.pu ((hb' k hk).2 u (List.mem_of_getElem? hi) d (List.mem_of_getElem? hj))⟩
   · have hbk := hrh.blk id b hb
     have hun : b.mode ≠ .old → ∀ B, s id = some B → w'.heap[B]? = w.heap[B]? := fun hm B hB => g3.unch B (hrh.sw id B hB) (hne id b hb hm hno B hB)
     have hold : b.mode ≠ .old → ∀ B, s id = some B → ∀ o, ok1 B o → ok B o := fun hm B hB o ho => by
       rcases g3.okn B o ho with h' | h' | h'
       · exact h'
       · exact absurd h' (hne id b hb hm hno B hB)
       · have := hrh.sw id B hB; omega
     refine ⟨hbk.pos, hbk.len, hbk.virt, fun B hB hm => ⟨.inl ⟨(hbk.own B hB hm).1, hne id b hb hm hno B hB⟩, fun o => (World.frozen?_of_block (w := w) (a := ⟨B, o, none⟩) (hun hm B hB)).trans ((hbk.own B hB hm).2 o)⟩, fun B hB hnm => ?_, fun B hB i j u d hi hj => ?_,
       fun B hB hm o ho => hbk.fwr B hB hm o (hold (by rw [hm]; intro h; cases h) B hB o ho), fun B hB hm o => ⟨fun ho => (hbk.ffz B hB hm o).1 (hold (by rw [hm]; intro h; cases h) B hB o ho), fun ho => g3.okk _ _ ((hbk.ffz B hB hm o).2 ho)⟩, fun B hB hm o ho => g3.okk _ _ (hbk.fold B hB hm o ho), hbk.mpe, fun B hB m hm => ?_⟩
     · obtain ⟨sz, q1, q2⟩ := hbk.shape B hB hnm
       exact ⟨sz, g3.shape _ _ _ q1, q2⟩
     · obtain ⟨x, q1, q2⟩ := hbk.cells B hB i j u d hi hj
       refine ⟨x, ?_, hkeep q2⟩
       by_cases hm : b.mode = .old
       · refine (g3.okc B _ (hbk.fold B hB hm _ ?_)).trans q1
         have h1 := (List.getElem?_eq_some_iff.1 hi).1
         have h2 := (List.getElem?_eq_some_iff.1 hj).1
         rw [hbk.len u (List.mem_of_getElem? hi)] at h2
         exact addr_lt h1 h2
       · exact (World.cell?_of_block (w := w) (a := ⟨B, i * b.k + j, none⟩) (hun hm B hB)).trans q1
     · obtain ⟨es', ck, q1, q2⟩ := hbk.map B hB m hm
       exact ⟨es', ck, (hun (by rw [hm]; intro h; cases h) B hB).trans q1, q2⟩
 · rcases hrow id1 b1 e1 with ⟨k1, l1, rfl, rfl⟩ | ⟨e1, n1⟩
   · rcases hrow id2 b2 e2 with ⟨k2, l2, rfl, rfl⟩ | ⟨e2, n2⟩
     · rw [g1.exc k1 k2 _ _ B (hbb k1 l1) (hbb k2 l2) m1 m2 ((hs1 k1 l1).trans q1) ((hs1 k2 l2).trans q2)]
     · exact absurd ⟨k1, l1, q1⟩ (hne id2 b2 e2 m2 n2 B q2)
   · rcases hrow id2 b2 e2 with ⟨k2, l2, rfl, rfl⟩ | ⟨e2, n2⟩
     · exact absurd ⟨k2, l2, q2⟩ (hne id1 b1 e1 m1 n1 B q1)
     · exact hrh.exc id1 id2 b1 b2 B e1 e2 m1 m2 q1 q2
 · rcases hb with ⟨hb, _⟩ | hb
   · exact .inl hb
   · rcases g3.ownn b hb with h | h
     · exact .inl (hown0 b h)
     · exact .inr h
 · rcases g3.okn b o hb with h | h | h
   · exact .inl h
   · exact .inr (.inl (hown0 b h))
   · exact .inr (.inr h)
 · cases hx : applyWr h (turned n0 σ b') id with
   | none => rfl
   | some b =>
     exfalso
     rcases hrow id b hx with ⟨k, hk, rfl, rfl⟩ | ⟨hb, _⟩
     · obtain ⟨c, _, p2, _⟩ := hin k hk
       rw [(hfr _ hid).2] at p2; cases p2
     · rw [(hfr id hid).2] at hb; cases hb
end
end Go.Aw
end
section
set_option maxRecDepth 20000
set_option maxHeartbeats 4000000
namespace Go.Aw
open Go.RowKit Go.Proofs
theorem weak_do3 (ρl : List (Nat × Nat)) {tm tm' : List V} {h : Hp} {l' : List (Nat × Option Blk)} {nx nx' : Nat} {gh : Gh} (hlow : (ρl.all fun p => decide (gh.lim ≤ p.1)) = true := by rfl)
   (ht : RenL (renOf ρl) nx' tm' tm := by
     repeat' (first
       | with_reducible (first | exact RenL.nil | refine RenL.cons _ _ _ _ ?_ ?_ | exact Ren.any _ | exact Ren.lit _)
       | (with_reducible (first | refine Ren.int _ _ _ ?_ | refine Ren.bool _ _ ?_)) <;> (first | rfl | omega | (simp <;> omega) | (simp only [go_sem]; done) | (push_cast; omega))
       | with_reducible (first | exact Ren.nil _ _ _ | exact Ren.nilsl _ _ | exact RowsRen.nil | exact RenE.nil)
       | (with_reducible refine Ren.ref _ _ _ _ _ ?_ ?_) <;> decide
       | (with_reducible refine Ren.osN _ _ ?_ ?_ ?_ ?_) <;> (first | decide | first | rfl | omega | (simp <;> omega) | (simp only [go_sem]; done) | (push_cast; omega) | (intro h; exact h) | (intro h; cases h))
       | with_reducible (first | refine Ren.fnL _ _ ?_ ?_ | refine Ren.aggL _ _ ?_)
       | (with_reducible (first | refine Ren.pu _ ?_ | refine RenE.puE ?_)) <;> (first | assumption | (simp only [go_sem] <;> assumption) | (simp only [go_sem, *]; done) | (simp [go_sem]; done))
       | (with_reducible apply RowsRen.row); (focus decide); (focus rfl)
       | (with_reducible refine RowsRen.virt _ _ _ _ _ ?_ ?_ ?_ ?_); (focus decide); (focus decide); (focus decide)
       | with_reducible (first | refine RowsRen.gone _ _ ?_ | refine RenE.cons _ _ _ _ ?_ ?_)
       | (with_reducible (first | refine Ren.slE _ _ _ ?_ ?_ | refine RenE.eqE ?_ ?_)); (focus (first | rfl | omega | (simp <;> omega) | (simp only [go_sem]; done) | (push_cast; omega))); (focus (first | assumption | (simp only [go_sem] <;> assumption) | (simp only [go_sem, *]; done) | (simp [go_sem]; done)))
       | (with_reducible refine RenL.puL ?_) <;> (first | assumption | (simp only [go_sem] <;> assumption) | (simp only [go_sem, *]; done) | (simp [go_sem]; done))
       | (with_reducible refine RenL.eqL ?_ ?_); (focus (first | rfl | omega | (simp <;> omega) | (simp only [go_sem]; done) | (push_cast; omega))); (focus (first | assumption | (simp only [go_sem] <;> assumption) | (simp only [go_sem, *]; done) | (simp [go_sem]; done)))))
   (hh : RowsRen (renOf ρl) nx' nx h l' := by
     repeat' (first
       | with_reducible (first | exact RenL.nil | refine RenL.cons _ _ _ _ ?_ ?_ | exact Ren.any _ | exact Ren.lit _)
       | (with_reducible (first | refine Ren.int _ _ _ ?_ | refine Ren.bool _ _ ?_)) <;> (first | rfl | omega | (simp <;> omega) | (simp only [go_sem]; done) | (push_cast; omega))
       | with_reducible (first | exact Ren.nil _ _ _ | exact Ren.nilsl _ _ | exact RowsRen.nil | exact RenE.nil)
       | (with_reducible refine Ren.ref _ _ _ _ _ ?_ ?_) <;> decide
       | (with_reducible refine Ren.osN _ _ ?_ ?_ ?_ ?_) <;> (first | decide | first | rfl | omega | (simp <;> omega) | (simp only [go_sem]; done) | (push_cast; omega) | (intro h; exact h) | (intro h; cases h))
       | with_reducible (first | refine Ren.fnL _ _ ?_ ?_ | refine Ren.aggL _ _ ?_)
       | (with_reducible (first | refine Ren.pu _ ?_ | refine RenE.puE ?_)) <;> (first | assumption | (simp only [go_sem] <;> assumption) | (simp only [go_sem, *]; done) | (simp [go_sem]; done))
       | (with_reducible apply RowsRen.row); (focus decide); (focus rfl)
       | (with_reducible refine RowsRen.virt _ _ _ _ _ ?_ ?_ ?_ ?_); (focus decide); (focus decide); (focus decide)
       | with_reducible (first | refine RowsRen.gone _ _ ?_ | refine RenE.cons _ _ _ _ ?_ ?_)
       | (with_reducible refine RenE.setR ?_ ?_); (focus (first | assumption | (simp only [go_sem] <;> assumption) | (simp only [go_sem, *]; done) | (simp [go_sem]; done)))
       | (with_reducible refine RenE.fam (B := 8) ?_ ?_ ?_) <;> (first | omega | decide | (intro j hj; rfl) | assumption)
       | (with_reducible refine RenE.famCt (B := 3) ?_ ?_ ?_ ?_) <;> (first | omega | decide | (intro j hj; rfl) | assumption)
       | (with_reducible refine RenE.famSnoc rfl ?_ ?_ ?_ ?_) <;> (first | decide | rfl | first | rfl | omega | (simp <;> omega) | (simp only [go_sem]; done) | (push_cast; omega))
       | (with_reducible refine RenE.famCSnoc rfl ?_ ?_ ?_ ?_ ?_) <;> (first | decide | rfl | first | rfl | omega | (simp <;> omega) | (simp only [go_sem]; done) | (push_cast; omega))
       | (with_reducible refine RenE.famSet (B := 8) ?_ ?_ ?_ ?_ ?_ ?_) <;> (first | omega | decide | rfl | assumption | first | rfl | omega | (simp <;> omega) | (simp only [go_sem]; done) | (push_cast; omega))
       | (with_reducible refine RenE.famCSet (B := 3) ?_ ?_ ?_ ?_ ?_ ?_ ?_ ?_) <;> (first | omega | decide | rfl | assumption | (intro j _ _; rfl) | first | rfl | omega | (simp <;> omega) | (simp only [go_sem]; done) | (push_cast; omega))
       | (with_reducible (first | refine Ren.slE _ _ _ ?_ ?_ | refine RenE.eqE ?_ ?_)); (focus (first | rfl | omega | (simp <;> omega) | (simp only [go_sem]; done) | (push_cast; omega))); (focus (first | assumption | (simp only [go_sem] <;> assumption) | (simp only [go_sem, *]; done) | (simp [go_sem]; done)))
       | (with_reducible refine RenL.puL ?_) <;> (first | assumption | (simp only [go_sem] <;> assumption) | (simp only [go_sem, *]; done) | (simp [go_sem]; done))
       | (with_reducible refine RenL.eqL ?_ ?_); (focus (first | rfl | omega | (simp <;> omega) | (simp only [go_sem]; done) | (push_cast; omega))); (focus (first | assumption | (simp only [go_sem] <;> assumption) | (simp only [go_sem, *]; done) | (simp [go_sem]; done)))))
   (hi : renInj (renOf ρl) (keysOf l') = true := by rfl) (hl : gh.lim ≤ nx' := by exact Nat.le_of_ble_eq_true rfl) : Weak ⟨tm, h, nx, gh⟩ ⟨tm', hpOf (fun _ => none) l', nx', gh⟩ := Weak.rows ρl hl hlow ht hh hi
def lnB (bs : List Box) (j : Nat) : Nat := (bs.getD j default).length
def lnC (cs : List Bill) (j : Nat) : Nat := (cs.getD j default).2.length
def ctC (cs : List Bill) (j : Nat) : Int := (cs.getD j default).1
def rowB (bs : List Box) (i j : Nat) : List (List V) := if j < i then (bs.getD j default).map encS else []
def rowC (cs : List Bill) (i j : Nat) : List (List V) := if j < i then (cs.getD j default).2.map encS else []
def ownRows (bs : List Box) (cs : List Bill) : List (Nat × Option Blk) := [(0, some ⟨2, [loadC bs cs], 69, .wr⟩), (64, some ⟨2, [[nilV, nilV]], 69, .wr⟩), (192, some ⟨2, [loadC bs cs], 69, .wr⟩), (256, some ⟨2, [[.os 193 1 bs.length false, .os 194 2 cs.length false]], 69, .wr⟩), (384, some ⟨2, [[.os 193 1 bs.length false, .os 194 2 cs.length false]], 69, .wr⟩), (193, some ⟨1, famE 200 bs.length (lnB bs), 71, .wr⟩), (194, some ⟨2, famC 208 cs.length (ctC cs) (lnC cs), 75, .wr⟩), (200, some ⟨2, rowB bs bs.length 0, 33, .wr⟩), (201, some ⟨2, rowB bs bs.length 1, 33, .wr⟩), (202, some ⟨2, rowB bs bs.length 2, 33, .wr⟩), (203, some ⟨2, rowB bs bs.length 3, 33, .wr⟩), (204, some ⟨2, rowB bs bs.length 4, 33, .wr⟩), (205, some ⟨2, rowB bs bs.length 5, 33, .wr⟩), (206, some ⟨2, rowB bs bs.length 6, 33, .wr⟩), (207, some ⟨2, rowB bs bs.length 7, 33, .wr⟩), (208, some ⟨2, rowC cs cs.length 0, 33, .wr⟩), (209, some ⟨2, rowC cs cs.length 1, 33, .wr⟩), (210, some ⟨2, rowC cs cs.length 2, 33, .wr⟩)]
end Go.Aw
end
section
namespace Go.Aw
open Go.RowKit
section
variable {P : Program} {g : FuncId} {args0 args first cap : List V} {nx : Nat} {h : Hp} {r0 : V} {b0 b1 : Blk} {i : Nat} {dst : Option Tmp} {K : St → Prop} {tm : List V} {gh : Gh}
theorem CallH.at1 (i : Nat) (hc : CallH P g args0 (hpOf (fun _ => none) [(0, some b0)]) 1 (fun r h' n => r = r0 ∧ ∀ k, k < 1 → h' k = some b1)) (hb : h i = some b0) (hargs : RenL (fun _ => i) 1 args0 args)
   (m0 : b0.mode ≠ .old) (p0 : PuE b0.es) (m1 : b1.mode ≠ .old) (p1 : PuE b1.es) (hr0 : Pu r0) : CallH P g args h nx (fun r h' n => r = r0 ∧ h' = applyWr h [(i, some b1)] ∧ n = nx) :=
 CallH.at (σ := fun _ => i) (b' := fun _ => b1) hc (fun k hk => by
   unfold hpOf
   rw [show hget k [((0 : Nat), some b0)] = none from by simp only [hget]; rw [if_neg (by omega)]]) (fun k hk => by
   obtain rfl : k = 0 := by omega
   exact ⟨b0, rfl, hb, m0, p0⟩) (fun k _ => ⟨m1, p1⟩) (fun k j hk hj _ => by omega) hargs hr0
theorem call_row (i : Nat) (hc : CallH P g args0 (hpOf (fun _ => none) [(0, some b0)]) 1 (fun r h' n => r = r0 ∧ ∀ k, k < 1 → h' k = some b1)) (hk : K ⟨putT tm dst r0, applyWr h [(i, some b1)], nx, gh⟩) (hbd : ∃ fn, P.funcs[g]? = some fn ∧ fn.body.isSome = true ∧ fn.name ≠ "runtime.NumGoroutine")
   (hargs : RenL (fun _ => i) 1 args0 (first ++ args ++ cap)) (hb : h i = some b0 := by rfl) (m0 : b0.mode ≠ .old := by intro h; cases h) (p0 : PuE b0.es = True := by first | assumption | (simp only [go_sem] <;> assumption) | (simp only [go_sem, *]; done) | (simp [go_sem]; done)) (m1 : b1.mode ≠ .old := by intro h; cases h) (p1 : PuE b1.es = True := by first | assumption | (simp only [go_sem] <;> assumption) | (simp only [go_sem, *]; done) | (simp [go_sem]; done)) (hr0 : Pu r0 := by first | assumption | (simp only [go_sem] <;> assumption) | (simp only [go_sem, *]; done) | (simp [go_sem]; done)) :
   CallA P (.fn (.func g) first cap) args dst K ⟨tm, h, nx, gh⟩ :=
 callA_shared _ (CallH.at1 i hc hb hargs m0 (of_eq_true p0) m1 (of_eq_true p1) hr0) hbd fun r h' n hp => by
   obtain ⟨rfl, rfl, rfl⟩ := hp
   exact hk
end
end Go.Aw
end
section
namespace Go.Aw
open Go.RowKit
section
variable {P : Program} {g : FuncId} {args0 first args cap : List V} {rows0 l : List (Nat × Option Blk)} {m k len nx0 n : Nat} {b : Blk} {dst : Option Tmp} {K : St → Prop} {tm : List V} {gh : Gh}
def OneNew (P : Program) (g : FuncId) (args : List V) (m k len : Nat) (b : Blk) (nx0 : Nat) : Prop :=
 ∃ rows0, CallH P g args (fun _ => none) 0 (fun r h n => r = .os m k len false ∧ h = hpOf (fun _ => none) rows0 ∧ n = nx0) ∧ hpOf (fun _ => none) rows0 m = some b
theorem call_one (hc : OneNew P g args0 m k len b nx0) (hk : K ⟨putT tm dst (.os (n + m) k len false), hpOf (fun _ => none) (l ++ [(n + m, some b)]), n + nx0, gh⟩)
   (hbd : ∃ fn, P.funcs[g]? = some fn ∧ fn.body.isSome = true ∧ fn.name ≠ "runtime.NumGoroutine") (ha : first ++ args ++ cap = args0 := by first | (simp only [go_sem]; done) | (simp only [go_sem]; rfl)) (hpu : PuL args0 = True := by first | assumption | (simp only [go_sem] <;> assumption) | (simp only [go_sem, *]; done) | (simp [go_sem]; done))
   (hn : nx0 ≤ 9223372036854775808 := by decide) (hm : m < nx0 := by decide) (hbp : PuE b.es = True := by first | assumption | (simp only [go_sem] <;> assumption) | (simp only [go_sem, *]; done) | (simp [go_sem]; done)) :
   CallA P (.fn (.func g) first cap) args dst K ⟨tm, hpOf (fun _ => none) l, n, gh⟩ := by
 obtain ⟨rows0, hc, hb⟩ := hc
 have hp : PurL true (hpOf (fun _ => none) l) (first ++ args ++ cap) args0 := by
   rw [ha]
   exact ⟨rfl, fun i d d' h1 h2 => by rw [h1] at h2; cases h2; exact .pu _ (of_eq_true hpu _ (List.mem_of_getElem? h1))⟩
 have e : rhoF n (n + m) = m := by unfold rhoF; rw [if_neg (by omega)]; omega
 refine callA_shared _ (CallH.fresh (nx := n) (l := l) hc hp hn (r' := .os (n + m) k len false) (rows := [(n + m, some b)]) (Ren.osN _ _ rfl e (by omega) (fun h => h)) (.row _ _ _ _ _ _ _ (by omega) (by rw [e]; exact hb) (RenE.pu _ (of_eq_true hbp)) .nil) (by simp)) hbd fun r h' nx' hp => ?_
 obtain ⟨rfl, rfl, rfl⟩ := hp
 exact hk
end
end Go.Aw
end
section
set_option maxRecDepth 20000
set_option maxHeartbeats 4000000
namespace Go.Aw
open Go.RowKit Go.Proofs
structure SizeOk (bs : List Box) (cs : List Bill) : Prop where
 nb : bs.length ≤ 1000
 nc : cs.length ≤ 1000
 lb : ∀ b ∈ bs, b.length ≤ 1000
 lc : ∀ c ∈ cs, c.2.length ≤ 1000
end Go.Aw
end
section
set_option maxRecDepth 20000
set_option maxHeartbeats 4000000
namespace Go.Aw
open Go.RowKit Go.Proofs
end Go.Aw
end
section
set_option maxRecDepth 20000
set_option maxHeartbeats 4000000
namespace Go.Aw
open Go.RowKit Go.Proofs
def sumR (bs : List Box) (w : List Int) (c : Int) (k set : Nat) : Nat → Int × Int
 | 0 => (0, 0)
 | i + 1 => if w.getD i default = c then addS (sumR bs w c k set i) (if set.testBit i then (0, 1048576) else (bs.getD i default).getD k default) else sumR bs w c k set i
end Go.Aw
end
section
set_option maxRecDepth 20000
set_option maxHeartbeats 4000000
namespace Go.Aw
open Go.RowKit Go.Proofs
def cntTo (w : List Int) (c : Int) : Nat → Int
 | 0 => 0
 | i + 1 => if w.getD i default = c then cntTo w c i + 1 else cntTo w c i
def stuffOk (bs : List Box) (cs : List Bill) (w : List Int) (set c k : Nat) : Bool :=
 decide (max (sumR bs w c k set w.length).1 ((cs.getD c default).2.getD k default).1 ≤ min (sumR bs w c k set w.length).2 ((cs.getD c default).2.getD k default).2)
def carrOk (bs : List Box) (cs : List Bill) (w : List Int) (set c : Nat) : Bool :=
 (cntTo w c w.length == (cs.getD c default).1) && (List.range (cs.getD c default).2.length).all fun k => stuffOk bs cs w set c k
def wayR (bs : List Box) (cs : List Bill) (w : List Int) (set : Nat) : Bool := (List.range cs.length).all fun c => carrOk bs cs w set c
end Go.Aw
end
section
set_option maxRecDepth 20000
set_option maxHeartbeats 4000000
namespace Go.Aw
open Go.RowKit Go.Proofs
def refW (bs : List Box) (cs : List Bill) (set : Nat) : Nat → List Int → List (List Int)
 | 0, now => if wayR bs cs now set then [now] else []
 | r + 1, now => (List.range cs.length).flatMap fun (c : Nat) => refW bs cs set r (now ++ [(c : Int)])
end Go.Aw
end
section
set_option maxRecDepth 20000
namespace Go.Aw
open Go.RowKit Go.Proofs
def cartsTo (bs : List Box) (w : List Int) : Nat → Carts
 | 0 => carts0
 | i + 1 => (cartsTo bs w i).set (w.getD i default).toNat (addC (cartsTo bs w i) (w.getD i default).toNat (bs.getD i default))
def InC (m : Nat) (w : List Int) : Prop := ∀ x ∈ w, 0 ≤ x ∧ x < (m : Int)
theorem InC.snoc {m : Nat} {w : List Int} (h : InC m w) {k : Nat} (hk : k < m) : InC m (w ++ [(k : Int)]) := by
 intro x hx
 rcases List.mem_append.1 hx with h1 | h1
 · exact h x h1
 · rw [List.mem_singleton] at h1; subst h1; omega
structure Pos (bs : List Box) (cs : List Bill) : Prop where
 nc : cs.length ≤ 3
 lc : ∀ c ∈ cs, c.2.length ≤ 3
 lb : ∀ b ∈ bs, ∀ c ∈ cs, b.length = c.2.length
 ob : ∀ b ∈ bs, ∀ x ∈ b, 0 ≤ x.1 ∧ x.1 ≤ x.2
 oc : ∀ c ∈ cs, ∀ x ∈ c.2, x.1 ≤ x.2
theorem Good.pos {bs : List Box} {cs : List Bill} (hg : Good bs cs) : Pos bs cs := by
 have := hg.st
 refine ⟨hg.nc, fun c hc => by have := hg.lc c hc; omega, fun b hb c hc => by rw [hg.lb b hb, hg.lc c hc], fun b hb x hx => ?_, fun c hc x hx => ?_⟩
 · have := spanOk_small (hg.ob b hb x hx); omega
 · have := spanOk_small (hg.oc c hc x hx); omega
theorem spoil_mem {bs : List Box} {set : Nat} {b : Box} (hb : b ∈ spoil bs set) : ∃ a ∈ bs, b = spoilB a ∨ b = a := by
 obtain ⟨i, hi, rfl⟩ := List.mem_iff_getElem.1 hb
 have hi2 : i < bs.length := by rw [spoil_len] at hi; exact hi
 refine ⟨bs[i], List.getElem_mem hi2, ?_⟩
 simp only [spoil, List.getElem_mapIdx]
 split
 · exact .inl rfl
 · exact .inr rfl
theorem Pos.spoil {bs : List Box} {cs : List Bill} (h : Pos bs cs) (k : Nat) : Pos (Aw.spoil bs k) cs := by
 refine ⟨h.nc, h.lc, fun b hb c hc => ?_, fun b hb x hx => ?_, h.oc⟩
 · obtain ⟨a, ha, rfl | rfl⟩ := spoil_mem hb
   · rw [spoilB, List.length_replicate]; exact h.lb a ha c hc
   · exact h.lb _ ha c hc
 · obtain ⟨a, ha, rfl | rfl⟩ := spoil_mem hb
   · rw [List.eq_of_mem_replicate hx]; decide
   · exact h.ob _ ha x hx
end Go.Aw
end
section
set_option maxRecDepth 20000
set_option maxHeartbeats 4000000
namespace Go.Aw
open Go.RowKit Go.Proofs
theorem ret_none {P : Program} {Post : V → Hp → Nat → Prop} {tm : List V} {h : Hp} {nx : Nat} {gh : Gh} (hp : Post (.tup []) h nx) : RetB P [] Post .normal ⟨tm, h, nx, gh⟩ :=
 (ret_do (rs := []) (c := True) (vs := []) hp rfl trivial : RetB P [] Post .ret ⟨tm, h, nx, gh⟩)
theorem isNaN_int (a : Int) : Ct Try.prog 156 [int a] (.lit (.bool false)) := by
 refine fn_enter Try.func156 rfl (by decide) Try.results156 Try.ntmps156 ?_ rfl (by simp (maxSteps := 1000000) -implicitDefEqProofs (disch := omega) only [go_sem]; rfl) fun base => ?_
 · first | assumption | (simp only [go_sem] <;> assumption) | (simp only [go_sem, *]; done) | (simp [go_sem]; done)
 repeat' (first
   | (with_reducible apply Req_intro); focus (first | omega | assumption | (simp; done))
   | with_reducible (first | apply Req_intro | refine nilT ?_ fun hn => ?_ | apply wk_draw Try_mixed | refine drawEnd (by kernel_rfl) ?_)
   | (with_reducible (first | apply condA_if | apply stepDG_ifN | apply stepDG_if | apply stepG_ifN | apply stepG_if)) <;> intro hb <;> (have hif := hb) <;> (try simp only [bo] at hif) <;> (try simp -implicitDefEqProofs (disch := omega) only [go_sem, hb]) <;> clear hb
   | simp (maxSteps := 1000000) -implicitDefEqProofs (disch := omega) only [go_sem])
 refine ret_do ?_
 simp [retV]
theorem Less_int (a b : Int) : Ct Try.prog 146 [int a, int b] (.lit (.bool (decide (a < b)))) := by
 refine fn_enter Try.func146 rfl (by decide) Try.results146 Try.ntmps146 ?_ rfl (by simp (maxSteps := 1000000) -implicitDefEqProofs (disch := omega) only [go_sem]; rfl) fun base => ?_
 · first | assumption | (simp only [go_sem] <;> assumption) | (simp only [go_sem, *]; done) | (simp [go_sem]; done)
 repeat' (first
   | (with_reducible apply Req_intro); focus (first | omega | assumption | (simp; done))
   | with_reducible (first | apply Req_intro | refine nilT ?_ fun hn => ?_ | apply wk_draw Try_mixed | refine drawEnd (by kernel_rfl) ?_)
   | (with_reducible (first | apply condA_if | apply stepDG_ifN | apply stepDG_if | apply stepG_ifN | apply stepG_if)) <;> intro hb <;> (have hif := hb) <;> (try simp only [bo] at hif) <;> (try simp -implicitDefEqProofs (disch := omega) only [go_sem, hb]) <;> clear hb
   | simp (maxSteps := 1000000) -implicitDefEqProofs (disch := omega) only [go_sem])
 refine callp (isNaN_int a) ?_
 try simp (maxSteps := 1000000) -implicitDefEqProofs (disch := omega) only [go_sem]
 repeat' (first
   | (with_reducible apply Req_intro); focus (first | omega | assumption | (simp; done))
   | with_reducible (first | apply Req_intro | refine nilT ?_ fun hn => ?_ | apply wk_draw Try_mixed | refine drawEnd (by kernel_rfl) ?_)
   | (with_reducible (first | apply condA_if | apply stepDG_ifN | apply stepDG_if | apply stepG_ifN | apply stepG_if)) <;> intro hb <;> (have hif := hb) <;> (try simp only [bo] at hif) <;> (try simp -implicitDefEqProofs (disch := omega) only [go_sem, hb]) <;> clear hb
   | simp (maxSteps := 1000000) -implicitDefEqProofs (disch := omega) only [go_sem])
 refine ret_do ?_
 rfl
def insR : Nat → List Int → List Int
 | 0, y => y
 | j + 1, y => if y.getD (j + 1) default < y.getD j default then insR j ((y.set (j + 1) (y.getD j default)).set j (y.getD (j + 1) default)) else y
def isortTo (l : List Int) : Nat → List Int
 | 0 => l
 | i + 1 => insR (i + 1) (isortTo l i)
def isort (l : List Int) : List Int := isortTo l (l.length - 1)
theorem swap_len (y : List Int) (j k : Nat) (a b : Int) : ((y.set j a).set k b).length = y.length := by simp
theorem insR_len : ∀ (j : Nat) (y : List Int), (insR j y).length = y.length
 | 0, y => rfl
 | j + 1, y => by
   rw [insR]
   split
   · rw [insR_len, swap_len]
   · rfl
theorem isortTo_len (l : List Int) : ∀ i, (isortTo l i).length = l.length
 | 0 => rfl
 | i + 1 => by rw [isortTo, insR_len, isortTo_len l i]
theorem isort_len (l : List Int) : (isort l).length = l.length := isortTo_len l _
theorem count_swap {y : List Int} {j k : Nat} (hj : j < y.length) (hk : k < y.length) (h : j ≠ k) (x : Int) : ((y.set j (y.getD k default)).set k (y.getD j default)).count x = y.count x := by
 have hk' : k < (y.set j (y.getD k default)).length := by simpa using hk
 rw [List.count_set hk', List.count_set hj]
 have e1 : (y.set j (y.getD k default))[k] = y[k] := by rw [List.getElem_set_ne h]
 rw [e1, getD_default hj, getD_default hk]
 have p1 : 0 < y.count y[j] := List.count_pos_iff.2 (List.getElem_mem hj)
 have p2 : 0 < y.count y[k] := List.count_pos_iff.2 (List.getElem_mem hk)
 simp only [beq_iff_eq]
 by_cases a : y[j] = x
 · by_cases b : y[k] = x
   · rw [if_pos a, if_pos b]; subst a; omega
   · rw [if_pos a, if_neg b]; subst a; omega
 · by_cases b : y[k] = x
   · rw [if_neg a, if_pos b]; omega
   · rw [if_neg a, if_neg b]; omega
theorem insR_count : ∀ (j : Nat) (y : List Int), j < y.length ∨ j = 0 → ∀ x, (insR j y).count x = y.count x
 | 0, y, _, x => rfl
 | j + 1, y, h, x => by
   have hj : j + 1 < y.length := by omega
   rw [insR]
   split
   · rw [insR_count j _ (.inl (by rw [swap_len]; omega)) x]
     exact count_swap hj (by omega) (by omega) x
   · rfl
theorem isort_count (l : List Int) (x : Int) : (isort l).count x = l.count x := by
 have key : ∀ i, i ≤ l.length - 1 → (isortTo l i).count x = l.count x := by
   intro i
   induction i with
   | zero => intro _; rfl
   | succ i ih =>
     intro h
     rw [isortTo, insR_count (i + 1) _ (.inl (by rw [isortTo_len]; omega)) x, ih (by omega)]
 exact key _ (Nat.le_refl _)
theorem isort_nodup {l : List Int} (h : l.Nodup) : (isort l).Nodup := by
 rw [List.nodup_iff_count] at *
 intro a
 rw [isort_count]; exact h a
theorem isort_spec (l : List Int) (hl : l.length ≤ 1000) : CallH Try.prog 140 [.os 0 1 l.length false, int 0, int l.length] (hpOf (fun _ => none) [(0, some ⟨1, l.map encI, 3, .wr⟩)]) 1
   (fun r h' n => r = .tup [] ∧ ∀ k, k < 1 → h' k = some ⟨1, (isort l).map encI, 3, .wr⟩) := by
 refine callH_enter Try.func140 rfl Try.results140 Try.ntmps140 rfl (by simp (maxSteps := 1000000) -implicitDefEqProofs (disch := omega) only [go_sem]; rfl) fun base => ?_
 rw [hpOf_app]
 simp only [List.nil_append]
 repeat' (first
   | (with_reducible apply Req_intro); focus (first | omega | assumption | (simp; done))
   | with_reducible (first | apply Req_intro | refine nilT ?_ fun hn => ?_ | apply wk_draw Try_mixed | refine drawEnd (by kernel_rfl) ?_)
   | (with_reducible (first | apply condA_if | apply stepDG_ifN | apply stepDG_if | apply stepG_ifN | apply stepG_if)) <;> intro hb <;> (have hif := hb) <;> (try simp only [bo] at hif) <;> (try simp -implicitDefEqProofs (disch := omega) only [go_sem, hb]) <;> clear hb
   | simp (maxSteps := 1000000) -implicitDefEqProofs (disch := omega) only [go_sem])
 refine loop_rows (α := Nat) [6, 7, 10, 11, 12, 13, 14, 15, 16, 17, 18, 19, 20, 21, 22, 23, 24, 25, 26, 27, 28, 29, 30, 31, 32, 33, 34, 35, 36, 37, 38, 39, 40, 41, 42, 43, 44, 45, 46, 47, 48] (fun i => [(6, .lit (.int .i64 ((i : Int) + 1)))]) (fun i => [(0, some ⟨1, (isortTo l i).map encI, 3, .wr⟩)]) (fun i => i + 1 ≤ max 1 l.length) (fun i => l.length - i) 0 (fun x => by simp (maxSteps := 1000000) -implicitDefEqProofs (disch := omega) only [go_sem]; rfl) ?_ ?_ fun x hx => ?_
 · rw [show isortTo l 0 = l from rfl]
   exact weak_do3 []
 · omega
 revert x
 intro i hi
 have hyl := isortTo_len l i
 by_cases hlt : i + 1 < l.length
 · repeat' (first
     | (with_reducible apply Req_intro); focus (first | omega | assumption | (simp; done))
     | with_reducible (first | apply Req_intro | refine nilT ?_ fun hn => ?_ | apply wk_draw Try_mixed | refine drawEnd (by kernel_rfl) ?_)
     | (with_reducible (first | apply condA_if | apply stepDG_ifN | apply stepDG_if | apply stepG_ifN | apply stepG_if)) <;> intro hb <;> (have hif := hb) <;> (try simp only [bo] at hif) <;> (try simp -implicitDefEqProofs (disch := omega) only [go_sem, hb]) <;> clear hb
     | simp (maxSteps := 1000000) -implicitDefEqProofs (disch := omega) only [go_sem])
   all_goals first | (exfalso; omega) | skip
   refine loop_rows (α := Nat × List Int) [7, 16, 17, 18, 19, 20, 21, 22, 23, 24, 25, 26, 27, 28, 29, 30, 31, 32, 33, 34, 35, 36, 37, 38, 39, 40, 41, 42, 43, 44, 45, 46, 47, 48] (fun z => [(7, .lit (.int .i64 z.1))]) (fun z => [(0, some ⟨1, z.2.map encI, 3, .wr⟩)]) (fun z => z.2.length = l.length ∧ z.1 < l.length ∧ insR z.1 z.2 = isortTo l (i + 1)) (fun z => z.1) (i + 1, isortTo l i) (fun x => by simp (maxSteps := 1000000) -implicitDefEqProofs (disch := omega) only [go_sem]; rfl) ?_ ?_ fun x hx => ?_
   · exact weak_do3 []
   · exact ⟨hyl, hlt, rfl⟩
   obtain ⟨j, y⟩ := x
   obtain ⟨h1, h2, h3⟩ := hx
   simp only at h1 h2 h3
   cases j with
   | zero =>
     rw [insR] at h3
     subst h3
     repeat' (first
       | (with_reducible apply Req_intro); focus (first | omega | assumption | (simp; done))
       | with_reducible (first | apply Req_intro | refine nilT ?_ fun hn => ?_ | apply wk_draw Try_mixed | refine drawEnd (by kernel_rfl) ?_)
       | (with_reducible (first | apply condA_if | apply stepDG_ifN | apply stepDG_if | apply stepG_ifN | apply stepG_if)) <;> intro hb <;> (have hif := hb) <;> (try simp only [bo] at hif) <;> (try simp -implicitDefEqProofs (disch := omega) only [go_sem, hb]) <;> clear hb
       | simp (maxSteps := 1000000) -implicitDefEqProofs (disch := omega) only [go_sem])
     all_goals first | (exfalso; omega) | skip
     with_reducible refine nxt_w (i + 1) ?_ ?_
     · (try dsimp only)
       skip
       exact weak_do3 []
     try dsimp only
     omega
   | succ j =>
     have e1 : ((((j + 1 : Nat) : Int) - 1).toNat) = j := by omega
     have e2 : (((j + 1 : Nat) : Int)).toNat = j + 1 := by omega
     repeat' (first
       | (with_reducible apply Req_intro); focus (first | omega | assumption | (simp; done))
       | with_reducible (first | apply Req_intro | refine nilT ?_ fun hn => ?_ | apply wk_draw Try_mixed | refine drawEnd (by kernel_rfl) ?_)
       | (with_reducible (first | apply condA_if | apply stepDG_ifN | apply stepDG_if | apply stepG_ifN | apply stepG_if)) <;> intro hb <;> (have hif := hb) <;> (try simp only [bo] at hif) <;> (try simp -implicitDefEqProofs (disch := omega) only [go_sem, hb, e1, e2]) <;> clear hb
       | simp (maxSteps := 1000000) -implicitDefEqProofs (disch := omega) only [go_sem, e1, e2])
     all_goals first | (exfalso; omega) | skip
     have hl2 : (y.set (j + 1) (y.getD j default)).length = y.length := List.length_set
     refine calld (Less_int _ _) ?_
     try simp (maxSteps := 1000000) -implicitDefEqProofs (disch := omega) only [go_sem]
     repeat' (first
       | (with_reducible apply Req_intro); focus (first | omega | assumption | (simp; done))
       | with_reducible (first | apply Req_intro | refine nilT ?_ fun hn => ?_ | apply wk_draw Try_mixed | refine drawEnd (by kernel_rfl) ?_)
       | (with_reducible (first | apply condA_if | apply stepDG_ifN | apply stepDG_if | apply stepG_ifN | apply stepG_if)) <;> intro hb <;> (have hif := hb) <;> (try simp only [bo] at hif) <;> (try simp -implicitDefEqProofs (disch := omega) only [go_sem, hb, e1, e2]) <;> clear hb
       | simp (maxSteps := 1000000) -implicitDefEqProofs (disch := omega) only [go_sem, e1, e2])
     all_goals first | (exfalso; omega) | omega | skip
     · with_reducible refine nxt_w (j, (y.set (j + 1) (y.getD j default)).set j (y.getD (j + 1) default)) ?_ ?_
       · (try dsimp only)
         skip
         exact weak_do3 []
       try dsimp only
       refine ⟨by rw [swap_len]; exact h1, by show j < l.length; omega, ?_⟩
       rw [← h3, insR, if_pos (by assumption)]
     · have hs : isortTo l (i + 1) = y := by
         rw [← h3, insR]
         exact if_neg (Int.not_lt.2 (by assumption))
       with_reducible refine nxt_w (i + 1) ?_ ?_
       · (try dsimp only)
         rw [hs]
         exact weak_do3 []
       try dsimp only
       omega
 · repeat' (first
     | (with_reducible apply Req_intro); focus (first | omega | assumption | (simp; done))
     | with_reducible (first | apply Req_intro | refine nilT ?_ fun hn => ?_ | apply wk_draw Try_mixed | refine drawEnd (by kernel_rfl) ?_)
     | (with_reducible (first | apply condA_if | apply stepDG_ifN | apply stepDG_if | apply stepG_ifN | apply stepG_if)) <;> intro hb <;> (have hif := hb) <;> (try simp only [bo] at hif) <;> (try simp -implicitDefEqProofs (disch := omega) only [go_sem, hb]) <;> clear hb
     | simp (maxSteps := 1000000) -implicitDefEqProofs (disch := omega) only [go_sem])
   all_goals first | (exfalso; omega) | skip
   refine ret_none ⟨rfl, fun k hk => ?_⟩
   obtain rfl : k = 0 := by omega
   rw [isort, show l.length - 1 = i from by omega]; rfl
end Go.Aw
end
section
set_option maxRecDepth 20000
set_option maxHeartbeats 4000000
namespace Go.Aw
open Go.RowKit Go.Proofs
theorem ret_noneR {P : Program} {Post : V → Hp → Nat → Prop} {tm : List V} {h : Hp} {nx : Nat} {gh : Gh} (hp : Post (.tup []) h nx) : RetB P [] Post .ret ⟨tm, h, nx, gh⟩ :=
 ret_do (rs := []) (c := True) (vs := []) hp rfl trivial
theorem ret_ev {P : Program} {Post : V → Hp → Nat → Prop} {t : Tmp} {st : St} (hp : Post (st.ev (.tmp t)) st.h st.nx) : RetB P [.tmp t] Post .ret st := ret_at (c := True) (vs := [st.ev (.tmp t)]) rfl trivial hp
def RowTo (g : FuncId) (args : List V) (l l' : List Int) : Prop := CallH Try.prog g args (hpOf (fun _ => none) [(0, some ⟨1, l.map encI, 3, .wr⟩)]) 1 (fun r h' n => r = .tup [] ∧ ∀ k, k < 1 → h' k = some ⟨1, l'.map encI, 3, .wr⟩)
theorem pdq_spec (l : List Int) (hl : l.length ≤ 12) (m : Int) : RowTo 124 [.os 0 1 l.length false, int 0, int l.length, int m] l (isort l) := by
 have hlen := isort_len l
 unfold RowTo
 refine callH_enter Try.func124 rfl Try.results124 Try.ntmps124 rfl (by simp (maxSteps := 1000000) -implicitDefEqProofs (disch := omega) only [go_sem]; rfl) fun base => ?_
 rw [hpOf_app]
 simp only [List.nil_append]
 repeat' (first
   | (with_reducible apply Req_intro); focus (first | omega | assumption | (simp; done))
   | with_reducible (first | apply Req_intro | refine nilT ?_ fun hn => ?_ | apply wk_draw Try_mixed | refine drawEnd (by kernel_rfl) ?_)
   | (with_reducible (first | apply condA_if | apply stepDG_ifN | apply stepDG_if | apply stepG_ifN | apply stepG_if)) <;> intro hb <;> (have hif := hb) <;> (try simp only [bo] at hif) <;> (try simp -implicitDefEqProofs (disch := omega) only [go_sem, hb]) <;> clear hb
   | simp (maxSteps := 1000000) -implicitDefEqProofs (disch := omega) only [go_sem])
 refine loop_rows (α := Unit) [1, 2, 3, 8, 9, 10, 11, 12, 13, 14, 15, 16, 17, 18, 19, 20, 21, 22, 23, 24, 25, 26, 27, 28, 29, 30, 31, 32, 33, 34, 35, 36, 37, 38, 39, 40, 41, 42, 43, 44, 45, 46, 47, 48, 49, 50, 51, 52, 53, 54, 55, 56, 57, 58, 59, 60, 61, 62, 63, 64, 65, 66, 67, 68, 69, 70, 71, 72, 73, 74, 75, 76, 77, 78, 79, 80, 81, 82, 83, 84, 85, 86, 87, 88, 89, 90, 91, 92, 93, 94, 95, 96, 97, 98, 99, 100, 101, 102, 103, 104, 105, 106, 107, 108, 109, 110, 111, 112, 113, 114, 115, 116, 117, 118, 119, 120, 121, 122, 123, 124, 125, 126, 127, 128, 129, 130, 131, 132, 133] (fun _ => [(1, int 0), (2, int l.length), (3, int m), (8, .lit (.bool true)), (9, .lit (.bool true))]) (fun _ => [(0, some ⟨1, l.map encI, 3, .wr⟩)]) (fun _ => True) (fun _ => 0) () (fun x => by simp (maxSteps := 1000000) -implicitDefEqProofs (disch := omega) only [go_sem]; rfl) ?_ ?_ fun x hx => ?_
 · exact weak_do3 []
 · trivial
 repeat' (first
   | (with_reducible apply Req_intro); focus (first | omega | assumption | (simp; done))
   | with_reducible (first | apply Req_intro | refine nilT ?_ fun hn => ?_ | apply wk_draw Try_mixed | refine drawEnd (by kernel_rfl) ?_)
   | (with_reducible (first | apply condA_if | apply stepDG_ifN | apply stepDG_if | apply stepG_ifN | apply stepG_if)) <;> intro hb <;> (have hif := hb) <;> (try simp only [bo] at hif) <;> (try simp -implicitDefEqProofs (disch := omega) only [go_sem, hb]) <;> clear hb
   | simp (maxSteps := 1000000) -implicitDefEqProofs (disch := omega) only [go_sem])
 all_goals first | (exfalso; omega) | skip
 refine call_row 0 (isort_spec l (by omega)) ?_ ⟨_, Try.func140, by rfl, by decide⟩ ?_
 · try simp (maxSteps := 1000000) -implicitDefEqProofs (disch := omega) only [go_sem]
   repeat' (first
     | (with_reducible apply Req_intro); focus (first | omega | assumption | (simp; done))
     | with_reducible (first | apply Req_intro | refine nilT ?_ fun hn => ?_ | apply wk_draw Try_mixed | refine drawEnd (by kernel_rfl) ?_)
     | (with_reducible (first | apply condA_if | apply stepDG_ifN | apply stepDG_if | apply stepG_ifN | apply stepG_if)) <;> intro hb <;> (have hif := hb) <;> (try simp only [bo] at hif) <;> (try simp -implicitDefEqProofs (disch := omega) only [go_sem, hb]) <;> clear hb
     | simp (maxSteps := 1000000) -implicitDefEqProofs (disch := omega) only [go_sem])
   refine ret_noneR ⟨rfl, fun k hk => ?_⟩
   obtain rfl : k = 0 := by omega
   rfl
 · refine .cons _ _ _ _ (Ren.osN _ _ rfl rfl (by omega) (fun h => h)) (.cons _ _ _ _ (.lit _) (.cons _ _ _ _ (.lit _) .nil))
theorem u8_in (u : UInt8) : -9223372036854775808 ≤ (u.toNat : Int) ∧ (u.toNat : Int) ≤ 9223372036854775807 := by
 have := u.toNat_lt
 omega
theorem Len64_spec (x : Nat) (h : x < 256) : ∃ m, Ct Try.prog 150 [.lit (.int .u64 x)] (int m) := by
 apply Exists.intro
 case h =>
   refine fn_enter Try.func150 rfl (by decide) Try.results150 Try.ntmps150 ?_ rfl (by simp (maxSteps := 1000000) -implicitDefEqProofs (disch := omega) only [go_sem]; rfl) fun base => ?_
   · first | assumption | (simp only [go_sem] <;> assumption) | (simp only [go_sem, *]; done) | (simp [go_sem]; done)
   repeat' (first
     | (with_reducible apply Req_intro); focus (first | omega | assumption | (simp; done))
     | with_reducible (first | apply Req_intro | refine nilT ?_ fun hn => ?_ | apply wk_draw Try_mixed | refine drawEnd (by kernel_rfl) ?_)
     | (with_reducible (first | apply condA_if | apply stepDG_ifN | apply stepDG_if | apply stepG_ifN | apply stepG_if)) <;> intro hb <;> (have hif := hb) <;> (try simp only [bo] at hif) <;> (try simp -implicitDefEqProofs (disch := omega) only [go_sem, hb]) <;> clear hb
     | simp (maxSteps := 1000000) -implicitDefEqProofs (disch := omega) only [go_sem])
   all_goals first | (exfalso; omega) | exact ⟨by omega, Int.ofNat_lt.2 (Nat.lt_of_lt_of_eq h (by rfl))⟩ | exact u8_in _ | (rw [Int.zero_add]; exact u8_in _) | skip
   all_goals exact ret_ev rfl
theorem Len_spec (x : Nat) (h : x < 256) : ∃ m, Ct Try.prog 125 [.lit (.int .u64 x)] (int m) := by
 obtain ⟨m, hm⟩ := Len64_spec x h
 refine ⟨m, ?_⟩
 refine fn_enter Try.func125 rfl (by decide) Try.results125 Try.ntmps125 ?_ rfl (by simp (maxSteps := 1000000) -implicitDefEqProofs (disch := omega) only [go_sem]; rfl) fun base => ?_
 · first | assumption | (simp only [go_sem] <;> assumption) | (simp only [go_sem, *]; done) | (simp [go_sem]; done)
 repeat' (first
   | (with_reducible apply Req_intro); focus (first | omega | assumption | (simp; done))
   | with_reducible (first | apply Req_intro | refine nilT ?_ fun hn => ?_ | apply wk_draw Try_mixed | refine drawEnd (by kernel_rfl) ?_)
   | (with_reducible (first | apply condA_if | apply stepDG_ifN | apply stepDG_if | apply stepG_ifN | apply stepG_if)) <;> intro hb <;> (have hif := hb) <;> (try simp only [bo] at hif) <;> (try simp -implicitDefEqProofs (disch := omega) only [go_sem, hb]) <;> clear hb
   | simp (maxSteps := 1000000) -implicitDefEqProofs (disch := omega) only [go_sem])
 refine callp hm ?_
 try simp (maxSteps := 1000000) -implicitDefEqProofs (disch := omega) only [go_sem]
 repeat' (first
   | (with_reducible apply Req_intro); focus (first | omega | assumption | (simp; done))
   | with_reducible (first | apply Req_intro | refine nilT ?_ fun hn => ?_ | apply wk_draw Try_mixed | refine drawEnd (by kernel_rfl) ?_)
   | (with_reducible (first | apply condA_if | apply stepDG_ifN | apply stepDG_if | apply stepG_ifN | apply stepG_if)) <;> intro hb <;> (have hif := hb) <;> (try simp only [bo] at hif) <;> (try simp -implicitDefEqProofs (disch := omega) only [go_sem, hb]) <;> clear hb
   | simp (maxSteps := 1000000) -implicitDefEqProofs (disch := omega) only [go_sem])
 refine ret_do ?_
 rfl
theorem Sort_spec (l : List Int) (hl : l.length ≤ 12) : RowTo 92 [.os 0 1 l.length false] l (isort l) := by
 obtain ⟨m, hm⟩ := Len_spec l.length (by omega)
 unfold RowTo
 refine callH_enter Try.func92 rfl Try.results92 Try.ntmps92 rfl (by simp (maxSteps := 1000000) -implicitDefEqProofs (disch := omega) only [go_sem]; rfl) fun base => ?_
 rw [hpOf_app]
 simp only [List.nil_append]
 repeat' (first
   | (with_reducible apply Req_intro); focus (first | omega | assumption | (simp; done))
   | with_reducible (first | apply Req_intro | refine nilT ?_ fun hn => ?_ | apply wk_draw Try_mixed | refine drawEnd (by kernel_rfl) ?_)
   | (with_reducible (first | apply condA_if | apply stepDG_ifN | apply stepDG_if | apply stepG_ifN | apply stepG_if)) <;> intro hb <;> (have hif := hb) <;> (try simp only [bo] at hif) <;> (try simp -implicitDefEqProofs (disch := omega) only [go_sem, hb]) <;> clear hb
   | simp (maxSteps := 1000000) -implicitDefEqProofs (disch := omega) only [go_sem])
 refine callp hm ?_
 try simp (maxSteps := 1000000) -implicitDefEqProofs (disch := omega) only [go_sem]
 repeat' (first
   | (with_reducible apply Req_intro); focus (first | omega | assumption | (simp; done))
   | with_reducible (first | apply Req_intro | refine nilT ?_ fun hn => ?_ | apply wk_draw Try_mixed | refine drawEnd (by kernel_rfl) ?_)
   | (with_reducible (first | apply condA_if | apply stepDG_ifN | apply stepDG_if | apply stepG_ifN | apply stepG_if)) <;> intro hb <;> (have hif := hb) <;> (try simp only [bo] at hif) <;> (try simp -implicitDefEqProofs (disch := omega) only [go_sem, hb]) <;> clear hb
   | simp (maxSteps := 1000000) -implicitDefEqProofs (disch := omega) only [go_sem])
 refine call_row 0 (pdq_spec l hl m) ?_ ⟨_, Try.func124, by rfl, by decide⟩ ?_
 · try simp (maxSteps := 1000000) -implicitDefEqProofs (disch := omega) only [go_sem]
   repeat' (first
     | (with_reducible apply Req_intro); focus (first | omega | assumption | (simp; done))
     | with_reducible (first | apply Req_intro | refine nilT ?_ fun hn => ?_ | apply wk_draw Try_mixed | refine drawEnd (by kernel_rfl) ?_)
     | (with_reducible (first | apply condA_if | apply stepDG_ifN | apply stepDG_if | apply stepG_ifN | apply stepG_if)) <;> intro hb <;> (have hif := hb) <;> (try simp only [bo] at hif) <;> (try simp -implicitDefEqProofs (disch := omega) only [go_sem, hb]) <;> clear hb
     | simp (maxSteps := 1000000) -implicitDefEqProofs (disch := omega) only [go_sem])
   refine ret_none ⟨rfl, fun k hk => ?_⟩
   obtain rfl : k = 0 := by omega
   rfl
 · refine .cons _ _ _ _ (Ren.osN _ _ rfl rfl (by omega) (fun h => h)) (.cons _ _ _ _ (.lit _) (.cons _ _ _ _ (.lit _) (.cons _ _ _ _ (.lit _) .nil)))
theorem Values_it (ls : List Int) (e : Bool) (hl : ls.length ≤ 1000) : It Try.prog 93 [.rp [.sl 1 (ls.map encI) e]] (ls.map fun x => [int x]) := by
 refine it_enter Try.func93 rfl (by decide) Try.results93 Try.ntmps93 ?_ rfl (fun l => by simp (maxSteps := 1000000) -implicitDefEqProofs (disch := omega) only [go_sem]; rfl) fun base l => ?_
 · first | assumption | (simp only [go_sem] <;> assumption) | (simp only [go_sem, *]; done) | (simp [go_sem]; done)
 repeat' (first
   | (with_reducible apply Req_intro); focus (first | omega | assumption | (simp; done))
   | with_reducible (first | apply Req_intro | refine nilT ?_ fun hn => ?_ | apply wk_draw Try_mixed | refine drawEnd (by kernel_rfl) ?_)
   | (with_reducible (first | apply condA_if | apply stepDG_ifN | apply stepDG_if | apply stepG_ifN | apply stepG_if)) <;> intro hb <;> (have hif := hb) <;> (try simp only [bo] at hif) <;> (try simp -implicitDefEqProofs (disch := omega) only [go_sem, hb]) <;> clear hb
   | simp (maxSteps := 1000000) -implicitDefEqProofs (disch := omega) only [go_sem])
 refine loop_gh (α := Nat) [4, 7, 8, 9, 10, 11, 12, 13, 14, 15] (fun i => [(7, .lit (.int .i64 i))]) (fun i => []) (fun i => i) (fun i => i ≤ ls.length) (fun i => ls.length - i) 0 (fun x => by simp (maxSteps := 1000000) -implicitDefEqProofs (disch := omega) only [go_sem]; rfl) ?_ ?_ ?_ fun x hx => ?_
 · rfl
 · exact weak_do []
 · exact Nat.zero_le _
 by_cases hlt : x < ls.length
 · repeat' (first
     | (with_reducible apply Req_intro); focus (first | omega | assumption | (simp; done))
     | with_reducible (first | apply Req_intro | refine nilT ?_ fun hn => ?_ | apply wk_draw Try_mixed | refine drawEnd (by kernel_rfl) ?_)
     | (with_reducible (first | apply condA_if | apply stepDG_ifN | apply stepDG_if | apply stepG_ifN | apply stepG_if)) <;> intro hb <;> (have hif := hb) <;> (try simp only [bo] at hif) <;> (try simp -implicitDefEqProofs (disch := omega) only [go_sem, hb]) <;> clear hb
     | simp (maxSteps := 1000000) -implicitDefEqProofs (disch := omega) only [go_sem])
   all_goals first | (exfalso; omega) | skip
   refine call_yield [] (by first | (simp (maxSteps := 1000000) -implicitDefEqProofs (disch := omega) only [go_sem]; done) | (simp (maxSteps := 1000000) -implicitDefEqProofs (disch := omega) only [go_sem]; rfl)) (rs := [int (ls.getD x default)]) (by rw [List.getElem?_map, List.getElem?_eq_getElem hlt, getD_default hlt]; rfl) ?_ fun b => ?_
   · (try simp (maxSteps := 1000000) -implicitDefEqProofs (disch := omega) only [go_sem])
     repeat' (first
       | with_reducible (first | exact PurI.nil | exact Pur.nilsl _ _ | exact PurE.nil)
       | (with_reducible (first | refine PurI.puL ?_ | refine PurE.puE ?_)) <;> (first | assumption | (simp only [go_sem] <;> assumption) | (simp only [go_sem, *]; done) | (simp [go_sem]; done))
       | with_reducible apply PurI.cons
       | (with_reducible refine Pur.pu _ ?_) <;> (first | assumption | (simp only [go_sem] <;> assumption) | (simp only [go_sem, *]; done) | (simp [go_sem]; done))
       | ((with_reducible apply Pur.refR) <;> (first | rfl | decide | (simp only [go_sem]; omega) | (simp only [go_sem]) | skip))
       | ((with_reducible apply Pur.osR) <;> (first | rfl | exact fun h => h | omega | (simp; omega) | (simp; done) | (simp only [go_sem]) | skip))
       | with_reducible (first | apply Pur.fnI | apply Pur.aggI | apply PurE.cons)
       | (with_reducible refine PurI.eqL ?_ ?_); (focus rfl); (focus (first | assumption | (simp only [go_sem] <;> assumption) | (simp only [go_sem, *]; done) | (simp [go_sem]; done)))
       | simp (maxSteps := 1000000) -implicitDefEqProofs (disch := omega) only [go_sem])
   cases b
   · repeat' (first
       | (with_reducible apply Req_intro); focus (first | omega | assumption | (simp; done))
       | with_reducible (first | apply Req_intro | refine nilT ?_ fun hn => ?_ | apply wk_draw Try_mixed | refine drawEnd (by kernel_rfl) ?_)
       | (with_reducible (first | apply condA_if | apply stepDG_ifN | apply stepDG_if | apply stepG_ifN | apply stepG_if)) <;> intro hb <;> (have hif := hb) <;> (try simp only [bo] at hif) <;> (try simp -implicitDefEqProofs (disch := omega) only [go_sem, hb]) <;> clear hb
       | simp (maxSteps := 1000000) -implicitDefEqProofs (disch := omega) only [go_sem])
     all_goals first | (exfalso; omega) | skip
     refine retI fun h => ?_
     cases h
   · repeat' (first
       | (with_reducible apply Req_intro); focus (first | omega | assumption | (simp; done))
       | with_reducible (first | apply Req_intro | refine nilT ?_ fun hn => ?_ | apply wk_draw Try_mixed | refine drawEnd (by kernel_rfl) ?_)
       | (with_reducible (first | apply condA_if | apply stepDG_ifN | apply stepDG_if | apply stepG_ifN | apply stepG_if)) <;> intro hb <;> (have hif := hb) <;> (try simp only [bo] at hif) <;> (try simp -implicitDefEqProofs (disch := omega) only [go_sem, hb]) <;> clear hb
       | simp (maxSteps := 1000000) -implicitDefEqProofs (disch := omega) only [go_sem])
     all_goals first | (exfalso; omega) | skip
     refine nxt_w (x + 1) (weak_do []) ?_
     try dsimp only
     omega
 · obtain rfl : x = ls.length := by omega
   repeat' (first
     | (with_reducible apply Req_intro); focus (first | omega | assumption | (simp; done))
     | with_reducible (first | apply Req_intro | refine nilT ?_ fun hn => ?_ | apply wk_draw Try_mixed | refine drawEnd (by kernel_rfl) ?_)
     | (with_reducible (first | apply condA_if | apply stepDG_ifN | apply stepDG_if | apply stepG_ifN | apply stepG_if)) <;> intro hb <;> (have hif := hb) <;> (try simp only [bo] at hif) <;> (try simp -implicitDefEqProofs (disch := omega) only [go_sem, hb]) <;> clear hb
     | simp (maxSteps := 1000000) -implicitDefEqProofs (disch := omega) only [go_sem])
   all_goals first | (exfalso; omega) | skip
   refine retIN fun _ => ?_
   simp
theorem Values_spec (l : List Int) (e : Bool) : Ct Try.prog 64 [.sl 1 (l.map encI) e] (.fn (.func 93) [] [.rp [.sl 1 (l.map encI) e]]) := by
 refine fn_enter Try.func64 rfl (by decide) Try.results64 Try.ntmps64 ?_ rfl (by simp (maxSteps := 1000000) -implicitDefEqProofs (disch := omega) only [go_sem]; rfl) fun base => ?_
 · first | assumption | (simp only [go_sem] <;> assumption) | (simp only [go_sem, *]; done) | (simp [go_sem]; done)
 repeat' (first
   | (with_reducible apply Req_intro); focus (first | omega | assumption | (simp; done))
   | with_reducible (first | apply Req_intro | refine nilT ?_ fun hn => ?_ | apply wk_draw Try_mixed | refine drawEnd (by kernel_rfl) ?_)
   | (with_reducible (first | apply condA_if | apply stepDG_ifN | apply stepDG_if | apply stepG_ifN | apply stepG_if)) <;> intro hb <;> (have hif := hb) <;> (try simp only [bo] at hif) <;> (try simp -implicitDefEqProofs (disch := omega) only [go_sem, hb]) <;> clear hb
   | simp (maxSteps := 1000000) -implicitDefEqProofs (disch := omega) only [go_sem])
 exact retf [0] [2] [.fn (.func 93) [] [.rp [.sl 1 (l.map encI) e]]]
end Go.Aw
end
section
set_option maxRecDepth 20000
set_option maxHeartbeats 4000000
namespace Go.Aw
open Go.RowKit Go.Proofs
structure Pl where
 ready : Int
 due : Int
 stop : Int
 brought : Int
 fetched : Int
 deriving DecidableEq
instance : Inhabited Pl := ⟨⟨0, 0, 0, 0, 0⟩⟩
def encP (p : Pl) : List V := [int p.ready, int p.due, int p.stop, int p.brought, int p.fetched]
@[go_sem] theorem encP_eq (p : Pl) : encP p = [int p.ready, int p.due, int p.stop, int p.brought, int p.fetched] := rfl
structure Task where
 m : List (List (Int × Int))
 ps : List Pl
 holds : Int
 leaves : Int
 back : Int
def cellT (t : Task) : List V := [.sl 1 (t.m.map encB) false, .sl 5 (t.ps.map encP) false, int t.holds, int t.leaves, int t.back]
@[go_sem] theorem cellT_eq (t : Task) : cellT t = [.sl 1 (t.m.map encB) false, .sl 5 (t.ps.map encP) false, int t.holds, int t.leaves, int t.back] := rfl
def encT (t : Task) : V := .agg (cellT t)
@[go_sem] theorem encT_eq (t : Task) : encT t = .agg [.sl 1 (t.m.map encB) false, .sl 5 (t.ps.map encP) false, int t.holds, int t.leaves, int t.back] := rfl
def inR2 (a b n : Int) : Prop := a ≤ n ∧ n ≤ b
structure PlOk (p : Pl) : Prop where
 r : 0 ≤ p.ready ∧ p.ready ≤ 5000
 d : 0 ≤ p.due ∧ p.due ≤ 5000
 s : 0 ≤ p.stop ∧ p.stop ≤ 600
 b : 0 ≤ p.brought ∧ p.brought ≤ 100
 f : 0 ≤ p.fetched ∧ p.fetched ≤ 100
structure TaskOk (t : Task) : Prop where
 n : t.ps.length ≤ 7
 ml : t.m.length = t.ps.length + 1
 rl : ∀ r ∈ t.m, r.length = t.ps.length + 1
 so : ∀ r ∈ t.m, ∀ s ∈ r, 0 ≤ s.1 ∧ s.1 ≤ s.2 ∧ s.2 ≤ 600
 di : ∀ i, i < t.ps.length + 1 → (t.m.getD i default).getD i default = (0, 0)
 po : ∀ p ∈ t.ps, PlOk p
 h : 0 ≤ t.holds ∧ t.holds ≤ 1000
 l : 0 ≤ t.leaves ∧ t.leaves ≤ t.back
 b : t.back ≤ 5000
@[go_sem] theorem eqGuardSp : Try.prog.eqGuardType Try.prog.depth 33 = false := by kernel_rfl
@[go_sem] theorem eqCells_sp (x y z w : Int) : eqCells (Try.prog) 10000 33 [.lit (.int .i64 x), .lit (.int .i64 y)] [.lit (.int .i64 z), .lit (.int .i64 w)] = some ((x == z) && (y == w)) := by
 have h : eqCells (Try.prog) 10000 33 [.lit (.int .i64 x), .lit (.int .i64 y)] [.lit (.int .i64 z), .lit (.int .i64 w)] = some ((x == z) && ((y == w) && true)) := by kernel_rfl
 rw [h, Bool.and_true]
theorem IndexFunc_Row (l : List (List (Int × Int))) (e : Bool) (p : List (Int × Int) → Bool) (g : FuncId) (cap : List V) (hl : l.length ≤ 4611686018427387904) (hcap : PuL cap) (hg : ∀ x ∈ l, Ct Try.prog g (.sl 2 (x.map encS) false :: cap) (.lit (.bool (p x)))) :
   Ct Try.prog 138 [.sl 1 (l.map encB) e, .fn (.func g) [] cap] (.lit (.int .i64 (idxR l p))) := by
 refine fn_enter Try.func138 rfl (by decide) Try.results138 Try.ntmps138 ?_ rfl (by simp (maxSteps := 1000000) -implicitDefEqProofs (disch := omega) only [go_sem]; rfl) fun base => ?_
 · simp
 repeat' (first
   | (with_reducible apply Req_intro); focus (first | omega | assumption | (simp; done))
   | with_reducible (first | apply Req_intro | refine nilT ?_ fun hn => ?_ | apply wk_draw Try_mixed | refine drawEnd (by kernel_rfl) ?_)
   | (with_reducible (first | apply condA_if | apply stepDG_ifN | apply stepDG_if | apply stepG_ifN | apply stepG_if)) <;> intro hb <;> (have hif := hb) <;> (try simp only [bo] at hif) <;> (try simp -implicitDefEqProofs (disch := omega) only [go_sem, hb]) <;> clear hb
   | simp (maxSteps := 1000000) -implicitDefEqProofs (disch := omega) only [go_sem])
 refine loop_at (α := Nat) [4, 5, 8, 9, 10, 11, 12, 13, 14, 15, 16, 17, 18] (fun i => [(8, .lit (.int .i64 i))]) (fun i => i ≤ l.length ∧ ∀ x ∈ l.take i, p x = false) (fun i => l.length - i) 0 (fun x => by simp (maxSteps := 1000000) -implicitDefEqProofs (disch := omega) only [go_sem]; rfl) ?_ ?_ fun x hx => ?_
 · exact weak_do []
 · simp
 obtain ⟨hi, hp⟩ := hx
 repeat' (first
   | (with_reducible apply Req_intro); focus (first | omega | assumption | (simp; done))
   | with_reducible (first | apply Req_intro | refine nilT ?_ fun hn => ?_ | apply wk_draw Try_mixed | refine drawEnd (by kernel_rfl) ?_)
   | (with_reducible (first | apply condA_if | apply stepDG_ifN | apply stepDG_if | apply stepG_ifN | apply stepG_if)) <;> intro hb <;> (have hif := hb) <;> (try simp only [bo] at hif) <;> (try simp -implicitDefEqProofs (disch := omega) only [go_sem, hb]) <;> clear hb
   | simp (maxSteps := 1000000) -implicitDefEqProofs (disch := omega) only [go_sem])
 · have hif' : x < l.length := hif
   refine callp (hg (l.getD x default) (getD_mem hif')) ?_
   try simp (maxSteps := 1000000) -implicitDefEqProofs (disch := omega) only [go_sem]
   repeat' (first
     | (with_reducible apply Req_intro); focus (first | omega | assumption | (simp; done))
     | with_reducible (first | apply Req_intro | refine nilT ?_ fun hn => ?_ | apply wk_draw Try_mixed | refine drawEnd (by kernel_rfl) ?_)
     | (with_reducible (first | apply condA_if | apply stepDG_ifN | apply stepDG_if | apply stepG_ifN | apply stepG_if)) <;> intro hb <;> (have hif := hb) <;> (try simp only [bo] at hif) <;> (try simp -implicitDefEqProofs (disch := omega) only [go_sem, hb]) <;> clear hb
     | simp (maxSteps := 1000000) -implicitDefEqProofs (disch := omega) only [go_sem])
   · refine ret_do ?_
     rw [idxR_some hif' hp hif]; rfl
   · refine nxt_w (x + 1) (weak_do []) ?_
     try dsimp only
     exact idxR_step hif' hp hif
 · refine ret_do ?_
   rw [idxR_none hif hp]; rfl
theorem ContainsFunc_Row (l : List (List (Int × Int))) (e : Bool) (p : List (Int × Int) → Bool) (g : FuncId) (cap : List V) (hl : l.length ≤ 4611686018427387904) (hcap : PuL cap) (hg : ∀ x ∈ l, Ct Try.prog g (.sl 2 (x.map encS) false :: cap) (.lit (.bool (p x)))) :
   Ct Try.prog 119 [.sl 1 (l.map encB) e, .fn (.func g) [] cap] (.lit (.bool (l.any p))) := by
 refine fn_enter Try.func119 rfl (by decide) Try.results119 Try.ntmps119 ?_ rfl (by simp (maxSteps := 1000000) -implicitDefEqProofs (disch := omega) only [go_sem]; rfl) fun base => ?_
 · simp
 repeat' (first
   | (with_reducible apply Req_intro); focus (first | omega | assumption | (simp; done))
   | with_reducible (first | apply Req_intro | refine nilT ?_ fun hn => ?_ | apply wk_draw Try_mixed | refine drawEnd (by kernel_rfl) ?_)
   | (with_reducible (first | apply condA_if | apply stepDG_ifN | apply stepDG_if | apply stepG_ifN | apply stepG_if)) <;> intro hb <;> (have hif := hb) <;> (try simp only [bo] at hif) <;> (try simp -implicitDefEqProofs (disch := omega) only [go_sem, hb]) <;> clear hb
   | simp (maxSteps := 1000000) -implicitDefEqProofs (disch := omega) only [go_sem])
 refine callp (IndexFunc_Row l e p g cap hl hcap hg) ?_
 try simp (maxSteps := 1000000) -implicitDefEqProofs (disch := omega) only [go_sem]
 repeat' (first
   | (with_reducible apply Req_intro); focus (first | omega | assumption | (simp; done))
   | with_reducible (first | apply Req_intro | refine nilT ?_ fun hn => ?_ | apply wk_draw Try_mixed | refine drawEnd (by kernel_rfl) ?_)
   | (with_reducible (first | apply condA_if | apply stepDG_ifN | apply stepDG_if | apply stepG_ifN | apply stepG_if)) <;> intro hb <;> (have hif := hb) <;> (try simp only [bo] at hif) <;> (try simp -implicitDefEqProofs (disch := omega) only [go_sem, hb]) <;> clear hb
   | simp (maxSteps := 1000000) -implicitDefEqProofs (disch := omega) only [go_sem])
 refine ret_do ?_
 rw [← idxR_any]; rfl
theorem IndexFunc_Pl (l : List (Pl)) (e : Bool) (p : Pl → Bool) (g : FuncId) (cap : List V) (hl : l.length ≤ 4611686018427387904) (hcap : PuL cap) (hg : ∀ x ∈ l, Ct Try.prog g (.agg (encP x) :: cap) (.lit (.bool (p x)))) :
   Ct Try.prog 139 [.sl 5 (l.map encP) e, .fn (.func g) [] cap] (.lit (.int .i64 (idxR l p))) := by
 refine fn_enter Try.func139 rfl (by decide) Try.results139 Try.ntmps139 ?_ rfl (by simp (maxSteps := 1000000) -implicitDefEqProofs (disch := omega) only [go_sem]; rfl) fun base => ?_
 · simp
 repeat' (first
   | (with_reducible apply Req_intro); focus (first | omega | assumption | (simp; done))
   | with_reducible (first | apply Req_intro | refine nilT ?_ fun hn => ?_ | apply wk_draw Try_mixed | refine drawEnd (by kernel_rfl) ?_)
   | (with_reducible (first | apply condA_if | apply stepDG_ifN | apply stepDG_if | apply stepG_ifN | apply stepG_if)) <;> intro hb <;> (have hif := hb) <;> (try simp only [bo] at hif) <;> (try simp -implicitDefEqProofs (disch := omega) only [go_sem, hb]) <;> clear hb
   | simp (maxSteps := 1000000) -implicitDefEqProofs (disch := omega) only [go_sem])
 refine loop_at (α := Nat) [4, 5, 8, 9, 10, 11, 12, 13, 14, 15, 16, 17, 18] (fun i => [(8, .lit (.int .i64 i))]) (fun i => i ≤ l.length ∧ ∀ x ∈ l.take i, p x = false) (fun i => l.length - i) 0 (fun x => by simp (maxSteps := 1000000) -implicitDefEqProofs (disch := omega) only [go_sem]; rfl) ?_ ?_ fun x hx => ?_
 · exact weak_do []
 · simp
 obtain ⟨hi, hp⟩ := hx
 repeat' (first
   | (with_reducible apply Req_intro); focus (first | omega | assumption | (simp; done))
   | with_reducible (first | apply Req_intro | refine nilT ?_ fun hn => ?_ | apply wk_draw Try_mixed | refine drawEnd (by kernel_rfl) ?_)
   | (with_reducible (first | apply condA_if | apply stepDG_ifN | apply stepDG_if | apply stepG_ifN | apply stepG_if)) <;> intro hb <;> (have hif := hb) <;> (try simp only [bo] at hif) <;> (try simp -implicitDefEqProofs (disch := omega) only [go_sem, hb]) <;> clear hb
   | simp (maxSteps := 1000000) -implicitDefEqProofs (disch := omega) only [go_sem])
 · have hif' : x < l.length := hif
   refine callp (hg (l.getD x default) (getD_mem hif')) ?_
   try simp (maxSteps := 1000000) -implicitDefEqProofs (disch := omega) only [go_sem]
   repeat' (first
     | (with_reducible apply Req_intro); focus (first | omega | assumption | (simp; done))
     | with_reducible (first | apply Req_intro | refine nilT ?_ fun hn => ?_ | apply wk_draw Try_mixed | refine drawEnd (by kernel_rfl) ?_)
     | (with_reducible (first | apply condA_if | apply stepDG_ifN | apply stepDG_if | apply stepG_ifN | apply stepG_if)) <;> intro hb <;> (have hif := hb) <;> (try simp only [bo] at hif) <;> (try simp -implicitDefEqProofs (disch := omega) only [go_sem, hb]) <;> clear hb
     | simp (maxSteps := 1000000) -implicitDefEqProofs (disch := omega) only [go_sem])
   · refine ret_do ?_
     rw [idxR_some hif' hp hif]; rfl
   · refine nxt_w (x + 1) (weak_do []) ?_
     try dsimp only
     exact idxR_step hif' hp hif
 · refine ret_do ?_
   rw [idxR_none hif hp]; rfl
theorem ContainsFunc_Pl (l : List (Pl)) (e : Bool) (p : Pl → Bool) (g : FuncId) (cap : List V) (hl : l.length ≤ 4611686018427387904) (hcap : PuL cap) (hg : ∀ x ∈ l, Ct Try.prog g (.agg (encP x) :: cap) (.lit (.bool (p x)))) :
   Ct Try.prog 122 [.sl 5 (l.map encP) e, .fn (.func g) [] cap] (.lit (.bool (l.any p))) := by
 refine fn_enter Try.func122 rfl (by decide) Try.results122 Try.ntmps122 ?_ rfl (by simp (maxSteps := 1000000) -implicitDefEqProofs (disch := omega) only [go_sem]; rfl) fun base => ?_
 · simp
 repeat' (first
   | (with_reducible apply Req_intro); focus (first | omega | assumption | (simp; done))
   | with_reducible (first | apply Req_intro | refine nilT ?_ fun hn => ?_ | apply wk_draw Try_mixed | refine drawEnd (by kernel_rfl) ?_)
   | (with_reducible (first | apply condA_if | apply stepDG_ifN | apply stepDG_if | apply stepG_ifN | apply stepG_if)) <;> intro hb <;> (have hif := hb) <;> (try simp only [bo] at hif) <;> (try simp -implicitDefEqProofs (disch := omega) only [go_sem, hb]) <;> clear hb
   | simp (maxSteps := 1000000) -implicitDefEqProofs (disch := omega) only [go_sem])
 refine callp (IndexFunc_Pl l e p g cap hl hcap hg) ?_
 try simp (maxSteps := 1000000) -implicitDefEqProofs (disch := omega) only [go_sem]
 repeat' (first
   | (with_reducible apply Req_intro); focus (first | omega | assumption | (simp; done))
   | with_reducible (first | apply Req_intro | refine nilT ?_ fun hn => ?_ | apply wk_draw Try_mixed | refine drawEnd (by kernel_rfl) ?_)
   | (with_reducible (first | apply condA_if | apply stepDG_ifN | apply stepDG_if | apply stepG_ifN | apply stepG_if)) <;> intro hb <;> (have hif := hb) <;> (try simp only [bo] at hif) <;> (try simp -implicitDefEqProofs (disch := omega) only [go_sem, hb]) <;> clear hb
   | simp (maxSteps := 1000000) -implicitDefEqProofs (disch := omega) only [go_sem])
 refine ret_do ?_
 rw [← idxR_any]; rfl
theorem rwithin1_spec (n a b : Int) : Ct Try.prog 94 [.lit (.int .i64 n), .rp [.lit (.int .i64 a)], .rp [.lit (.int .i64 b)]] (.lit (.bool (decide (n < a) || decide (b < n)))) := by
 refine fn_enter Try.func94 rfl (by decide) Try.results94 Try.ntmps94 ?_ rfl (by simp (maxSteps := 1000000) -implicitDefEqProofs (disch := omega) only [go_sem]; rfl) fun base => ?_
 · simp
 repeat' (first
   | (with_reducible apply Req_intro); focus (first | omega | assumption | (simp; done))
   | with_reducible (first | apply Req_intro | refine nilT ?_ fun hn => ?_ | apply wk_draw Try_mixed | refine drawEnd (by kernel_rfl) ?_)
   | (with_reducible (first | apply condA_if | apply stepDG_ifN | apply stepDG_if | apply stepG_ifN | apply stepG_if)) <;> intro hb <;> (have hif := hb) <;> (try simp only [bo] at hif) <;> (try simp -implicitDefEqProofs (disch := omega) only [go_sem, hb]) <;> clear hb
   | simp (maxSteps := 1000000) -implicitDefEqProofs (disch := omega) only [go_sem])
 · refine ret_do ?_
   rfl
 · refine ret_do ?_
   rfl
theorem rwithin_spec (a b : Int) (l : List Int) (e : Bool) (hl : l.length ≤ 4611686018427387904) : Ct Try.prog 65 [.lit (.int .i64 a), .lit (.int .i64 b), .sl 1 (l.map encI) e] (.lit (.bool (l.all (inR' a b)))) := by
 refine fn_enter Try.func65 rfl (by decide) Try.results65 Try.ntmps65 ?_ rfl (by simp (maxSteps := 1000000) -implicitDefEqProofs (disch := omega) only [go_sem]; rfl) fun base => ?_
 · simp
 repeat' (first
   | (with_reducible apply Req_intro); focus (first | omega | assumption | (simp; done))
   | with_reducible (first | apply Req_intro | refine nilT ?_ fun hn => ?_ | apply wk_draw Try_mixed | refine drawEnd (by kernel_rfl) ?_)
   | (with_reducible (first | apply condA_if | apply stepDG_ifN | apply stepDG_if | apply stepG_ifN | apply stepG_if)) <;> intro hb <;> (have hif := hb) <;> (try simp only [bo] at hif) <;> (try simp -implicitDefEqProofs (disch := omega) only [go_sem, hb]) <;> clear hb
   | simp (maxSteps := 1000000) -implicitDefEqProofs (disch := omega) only [go_sem])
 refine callc (ContainsFunc_int l e (fun n => decide (n < a) || decide (b < n)) 94 [.rp [.lit (.int .i64 a)], .rp [.lit (.int .i64 b)]] hl (by first | assumption | (simp only [go_sem] <;> assumption) | (simp only [go_sem, *]; done) | (simp [go_sem]; done)) (fun n _ => rwithin1_spec n a b)) ?_
 try simp (maxSteps := 1000000) -implicitDefEqProofs (disch := omega) only [go_sem]
 repeat' (first
   | (with_reducible apply Req_intro); focus (first | omega | assumption | (simp; done))
   | with_reducible (first | apply Req_intro | refine nilT ?_ fun hn => ?_ | apply wk_draw Try_mixed | refine drawEnd (by kernel_rfl) ?_)
   | (with_reducible (first | apply condA_if | apply stepDG_ifN | apply stepDG_if | apply stepG_ifN | apply stepG_if)) <;> intro hb <;> (have hif := hb) <;> (try simp only [bo] at hif) <;> (try simp -implicitDefEqProofs (disch := omega) only [go_sem, hb]) <;> clear hb
   | simp (maxSteps := 1000000) -implicitDefEqProofs (disch := omega) only [go_sem])
 refine ret_do ?_
 rw [any_out]; rfl
theorem rwithin_ok (a b : Int) (l : List Int) (e : Bool) (hl : l.length ≤ 4611686018427387904) (h : ∀ x ∈ l, a ≤ x ∧ x ≤ b) : Ct Try.prog 65 [.lit (.int .i64 a), .lit (.int .i64 b), .sl 1 (l.map encI) e] (.lit (.bool true)) := by
 have := rwithin_spec a b l e hl
 rwa [show l.all (inR' a b) = true from by
   rw [List.all_eq_true]
   intro x hx
   have := h x hx
   simp [inR', this]] at this
theorem rCheck1_spec (h : List (Int × Int)) (e : Bool) (n : Int) (hn : (h.length : Int) = n) : Ct Try.prog 118 [.sl 2 (h.map encS) e, .rp [.lit (.int .i64 n)]] (.lit (.bool false)) := by
 refine fn_enter Try.func118 rfl (by decide) Try.results118 Try.ntmps118 ?_ rfl (by simp (maxSteps := 1000000) -implicitDefEqProofs (disch := omega) only [go_sem]; rfl) fun base => ?_
 · simp
 repeat' (first
   | (with_reducible apply Req_intro); focus (first | omega | assumption | (simp; done))
   | with_reducible (first | apply Req_intro | refine nilT ?_ fun hn => ?_ | apply wk_draw Try_mixed | refine drawEnd (by kernel_rfl) ?_)
   | (with_reducible (first | apply condA_if | apply stepDG_ifN | apply stepDG_if | apply stepG_ifN | apply stepG_if)) <;> intro hb <;> (have hif := hb) <;> (try simp only [bo] at hif) <;> (try simp -implicitDefEqProofs (disch := omega) only [go_sem, hb]) <;> clear hb
   | simp (maxSteps := 1000000) -implicitDefEqProofs (disch := omega) only [go_sem])
 refine ret_do ?_
 simp [retV, hn]
theorem rCheck2_spec (s : Int × Int) (h : 0 ≤ s.1 ∧ s.1 ≤ s.2 ∧ s.2 ≤ 600) : Ct Try.prog 120 [.agg (encS s)] (.lit (.bool false)) := by
 refine fn_enter Try.func120 rfl (by decide) Try.results120 Try.ntmps120 ?_ rfl (by simp (maxSteps := 1000000) -implicitDefEqProofs (disch := omega) only [go_sem]; rfl) fun base => ?_
 · simp
 repeat' (first
   | (with_reducible apply Req_intro); focus (first | omega | assumption | (simp; done))
   | with_reducible (first | apply Req_intro | refine nilT ?_ fun hn => ?_ | apply wk_draw Try_mixed | refine drawEnd (by kernel_rfl) ?_)
   | (with_reducible (first | apply condA_if | apply stepDG_ifN | apply stepDG_if | apply stepG_ifN | apply stepG_if)) <;> intro hb <;> (have hif := hb) <;> (try simp only [bo] at hif) <;> (try simp -implicitDefEqProofs (disch := omega) only [go_sem, hb]) <;> clear hb
   | simp (maxSteps := 1000000) -implicitDefEqProofs (disch := omega) only [go_sem])
 · omega
 · refine callc (rwithin_ok 0 600 [s.1, s.2] _ (by simp) (fun x hx => by simp only [List.mem_cons, List.not_mem_nil, or_false] at hx; omega)) ?_
   try simp (maxSteps := 1000000) -implicitDefEqProofs (disch := omega) only [go_sem]
   repeat' (first
     | (with_reducible apply Req_intro); focus (first | omega | assumption | (simp; done))
     | with_reducible (first | apply Req_intro | refine nilT ?_ fun hn => ?_ | apply wk_draw Try_mixed | refine drawEnd (by kernel_rfl) ?_)
     | (with_reducible (first | apply condA_if | apply stepDG_ifN | apply stepDG_if | apply stepG_ifN | apply stepG_if)) <;> intro hb <;> (have hif := hb) <;> (try simp only [bo] at hif) <;> (try simp -implicitDefEqProofs (disch := omega) only [go_sem, hb]) <;> clear hb
     | simp (maxSteps := 1000000) -implicitDefEqProofs (disch := omega) only [go_sem])
   refine ret_do ?_
   rfl
theorem rCheck3_spec (p : Pl) (h : PlOk p) : Ct Try.prog 121 [.agg (encP p)] (.lit (.bool false)) := by
 obtain ⟨h1, h2, h3, h4, h5⟩ := h
 refine fn_enter Try.func121 rfl (by decide) Try.results121 Try.ntmps121 ?_ rfl (by simp (maxSteps := 1000000) -implicitDefEqProofs (disch := omega) only [go_sem]; rfl) fun base => ?_
 · simp
 repeat' (first
   | (with_reducible apply Req_intro); focus (first | omega | assumption | (simp; done))
   | with_reducible (first | apply Req_intro | refine nilT ?_ fun hn => ?_ | apply wk_draw Try_mixed | refine drawEnd (by kernel_rfl) ?_)
   | (with_reducible (first | apply condA_if | apply stepDG_ifN | apply stepDG_if | apply stepG_ifN | apply stepG_if)) <;> intro hb <;> (have hif := hb) <;> (try simp only [bo] at hif) <;> (try simp -implicitDefEqProofs (disch := omega) only [go_sem, hb]) <;> clear hb
   | simp (maxSteps := 1000000) -implicitDefEqProofs (disch := omega) only [go_sem])
 refine callc (rwithin_ok 0 5000 [p.ready, p.due] _ (by simp) (fun x hx => by simp only [List.mem_cons, List.not_mem_nil, or_false] at hx; omega)) ?_
 try simp (maxSteps := 1000000) -implicitDefEqProofs (disch := omega) only [go_sem]
 repeat' (first
   | (with_reducible apply Req_intro); focus (first | omega | assumption | (simp; done))
   | with_reducible (first | apply Req_intro | refine nilT ?_ fun hn => ?_ | apply wk_draw Try_mixed | refine drawEnd (by kernel_rfl) ?_)
   | (with_reducible (first | apply condA_if | apply stepDG_ifN | apply stepDG_if | apply stepG_ifN | apply stepG_if)) <;> intro hb <;> (have hif := hb) <;> (try simp only [bo] at hif) <;> (try simp -implicitDefEqProofs (disch := omega) only [go_sem, hb]) <;> clear hb
   | simp (maxSteps := 1000000) -implicitDefEqProofs (disch := omega) only [go_sem])
 refine callc (rwithin_ok 0 600 [p.stop] _ (by simp) (fun x hx => by simp only [List.mem_cons, List.not_mem_nil, or_false] at hx; omega)) ?_
 try simp (maxSteps := 1000000) -implicitDefEqProofs (disch := omega) only [go_sem]
 repeat' (first
   | (with_reducible apply Req_intro); focus (first | omega | assumption | (simp; done))
   | with_reducible (first | apply Req_intro | refine nilT ?_ fun hn => ?_ | apply wk_draw Try_mixed | refine drawEnd (by kernel_rfl) ?_)
   | (with_reducible (first | apply condA_if | apply stepDG_ifN | apply stepDG_if | apply stepG_ifN | apply stepG_if)) <;> intro hb <;> (have hif := hb) <;> (try simp only [bo] at hif) <;> (try simp -implicitDefEqProofs (disch := omega) only [go_sem, hb]) <;> clear hb
   | simp (maxSteps := 1000000) -implicitDefEqProofs (disch := omega) only [go_sem])
 refine callc (rwithin_ok 0 100 [p.brought, p.fetched] _ (by simp) (fun x hx => by simp only [List.mem_cons, List.not_mem_nil, or_false] at hx; omega)) ?_
 try simp (maxSteps := 1000000) -implicitDefEqProofs (disch := omega) only [go_sem]
 repeat' (first
   | (with_reducible apply Req_intro); focus (first | omega | assumption | (simp; done))
   | with_reducible (first | apply Req_intro | refine nilT ?_ fun hn => ?_ | apply wk_draw Try_mixed | refine drawEnd (by kernel_rfl) ?_)
   | (with_reducible (first | apply condA_if | apply stepDG_ifN | apply stepDG_if | apply stepG_ifN | apply stepG_if)) <;> intro hb <;> (have hif := hb) <;> (try simp only [bo] at hif) <;> (try simp -implicitDefEqProofs (disch := omega) only [go_sem, hb]) <;> clear hb
   | simp (maxSteps := 1000000) -implicitDefEqProofs (disch := omega) only [go_sem])
 refine ret_do ?_
 rfl
theorem rCheck_spec (t : Task) (ht : TaskOk t) : Ct Try.prog 90 [encT t] (int 0) := by
 obtain ⟨hn, hml, hrl, hso, hdi, hpo, hh, hle, hb⟩ := ht
 refine fn_enter Try.func90 rfl (by decide) Try.results90 Try.ntmps90 ?_ rfl (by simp (maxSteps := 1000000) -implicitDefEqProofs (disch := omega) only [go_sem]; rfl) fun base => ?_
 · simp
 repeat' (first
   | (with_reducible apply Req_intro); focus (first | omega | assumption | (simp; done))
   | with_reducible (first | apply Req_intro | refine nilT ?_ fun hn => ?_ | apply wk_draw Try_mixed | refine drawEnd (by kernel_rfl) ?_)
   | (with_reducible (first | apply condA_if | apply stepDG_ifN | apply stepDG_if | apply stepG_ifN | apply stepG_if)) <;> intro hb <;> (have hif := hb) <;> (try simp only [bo] at hif) <;> (try simp -implicitDefEqProofs (disch := omega) only [go_sem, hb]) <;> clear hb
   | simp (maxSteps := 1000000) -implicitDefEqProofs (disch := omega) only [go_sem])
 all_goals first | (exfalso; omega) | skip
 refine callc (ContainsFunc_Row t.m _ (fun _ => false) 118 [.rp [.lit (.int .i64 ((t.ps.length : Int) + 1))]] (by omega) (by first | assumption | (simp only [go_sem] <;> assumption) | (simp only [go_sem, *]; done) | (simp [go_sem]; done)) (fun h hh => rCheck1_spec h _ _ (by rw [hrl h hh]; push_cast; rfl))) ?_
 try simp (maxSteps := 1000000) -implicitDefEqProofs (disch := omega) only [go_sem]
 repeat' (first
   | (with_reducible apply Req_intro); focus (first | omega | assumption | (simp; done))
   | with_reducible (first | apply Req_intro | refine nilT ?_ fun hn => ?_ | apply wk_draw Try_mixed | refine drawEnd (by kernel_rfl) ?_)
   | (with_reducible (first | apply condA_if | apply stepDG_ifN | apply stepDG_if | apply stepG_ifN | apply stepG_if)) <;> intro hb <;> (have hif := hb) <;> (try simp only [bo] at hif) <;> (try simp -implicitDefEqProofs (disch := omega) only [go_sem, hb]) <;> clear hb
   | simp (maxSteps := 1000000) -implicitDefEqProofs (disch := omega) only [go_sem])
 all_goals first | (exfalso; simp at hif; done) | skip
 refine loop_at (α := Nat) [2, 5, 6, 7, 30, 31, 32, 33, 34, 35, 36, 37, 38, 39, 40, 41, 42, 43, 44, 45, 46] (fun i => [(30, .lit (.int .i64 i))]) (fun i => i ≤ t.m.length) (fun i => t.m.length - i) 0 (fun x => by simp (maxSteps := 1000000) -implicitDefEqProofs (disch := omega) only [go_sem]; rfl) ?_ ?_ fun x hx => ?_
 · exact weak_do []
 · exact Nat.zero_le _
 by_cases hlt : x < t.m.length
 · have hmem := getD_mem hlt
   have hr := hrl _ hmem
   repeat' (first
     | (with_reducible apply Req_intro); focus (first | omega | assumption | (simp; done))
     | with_reducible (first | apply Req_intro | refine nilT ?_ fun hn => ?_ | apply wk_draw Try_mixed | refine drawEnd (by kernel_rfl) ?_)
     | (with_reducible (first | apply condA_if | apply stepDG_ifN | apply stepDG_if | apply stepG_ifN | apply stepG_if)) <;> intro hb <;> (have hif := hb) <;> (try simp only [bo] at hif) <;> (try simp -implicitDefEqProofs (disch := omega) only [go_sem, hb]) <;> clear hb
     | simp (maxSteps := 1000000) -implicitDefEqProofs (disch := omega) only [go_sem])
   all_goals first | (exfalso; omega) | skip
   refine callc (ContainsFunc_Span (t.m.getD x default) _ (fun _ => false) 120 [] (by omega) (by first | assumption | (simp only [go_sem] <;> assumption) | (simp only [go_sem, *]; done) | (simp [go_sem]; done)) (fun s hs => rCheck2_spec s (hso _ hmem s hs))) ?_
   try simp (maxSteps := 1000000) -implicitDefEqProofs (disch := omega) only [go_sem]
   repeat' (first
     | (with_reducible apply Req_intro); focus (first | omega | assumption | (simp; done))
     | with_reducible (first | apply Req_intro | refine nilT ?_ fun hn => ?_ | apply wk_draw Try_mixed | refine drawEnd (by kernel_rfl) ?_)
     | (with_reducible (first | apply condA_if | apply stepDG_ifN | apply stepDG_if | apply stepG_ifN | apply stepG_if)) <;> intro hb <;> (have hif := hb) <;> (try simp only [bo] at hif) <;> (try simp -implicitDefEqProofs (disch := omega) only [go_sem, hb, hdi x (by omega)]) <;> clear hb
     | simp (maxSteps := 1000000) -implicitDefEqProofs (disch := omega) only [go_sem, hdi x (by omega)])
   all_goals first | (exfalso; omega) | (exfalso; simp at hif; done) | skip
   refine nxt_w (x + 1) (weak_do []) ?_
   try dsimp only
   omega
 · repeat' (first
     | (with_reducible apply Req_intro); focus (first | omega | assumption | (simp; done))
     | with_reducible (first | apply Req_intro | refine nilT ?_ fun hn => ?_ | apply wk_draw Try_mixed | refine drawEnd (by kernel_rfl) ?_)
     | (with_reducible (first | apply condA_if | apply stepDG_ifN | apply stepDG_if | apply stepG_ifN | apply stepG_if)) <;> intro hb <;> (have hif := hb) <;> (try simp only [bo] at hif) <;> (try simp -implicitDefEqProofs (disch := omega) only [go_sem, hb]) <;> clear hb
     | simp (maxSteps := 1000000) -implicitDefEqProofs (disch := omega) only [go_sem])
   all_goals first | (exfalso; omega) | skip
   refine callc (ContainsFunc_Pl t.ps _ (fun _ => false) 121 [] (by omega) (by first | assumption | (simp only [go_sem] <;> assumption) | (simp only [go_sem, *]; done) | (simp [go_sem]; done)) (fun p hp => rCheck3_spec p (hpo p hp))) ?_
   try simp (maxSteps := 1000000) -implicitDefEqProofs (disch := omega) only [go_sem]
   repeat' (first
     | (with_reducible apply Req_intro); focus (first | omega | assumption | (simp; done))
     | with_reducible (first | apply Req_intro | refine nilT ?_ fun hn => ?_ | apply wk_draw Try_mixed | refine drawEnd (by kernel_rfl) ?_)
     | (with_reducible (first | apply condA_if | apply stepDG_ifN | apply stepDG_if | apply stepG_ifN | apply stepG_if)) <;> intro hb <;> (have hif := hb) <;> (try simp only [bo] at hif) <;> (try simp -implicitDefEqProofs (disch := omega) only [go_sem, hb]) <;> clear hb
     | simp (maxSteps := 1000000) -implicitDefEqProofs (disch := omega) only [go_sem])
   all_goals first | (exfalso; simp at hif; done) | skip
   refine callc (rwithin_ok 0 1000 [t.holds] _ (by simp) (fun x hx => by simp only [List.mem_cons, List.not_mem_nil, or_false] at hx; omega)) ?_
   try simp (maxSteps := 1000000) -implicitDefEqProofs (disch := omega) only [go_sem]
   repeat' (first
     | (with_reducible apply Req_intro); focus (first | omega | assumption | (simp; done))
     | with_reducible (first | apply Req_intro | refine nilT ?_ fun hn => ?_ | apply wk_draw Try_mixed | refine drawEnd (by kernel_rfl) ?_)
     | (with_reducible (first | apply condA_if | apply stepDG_ifN | apply stepDG_if | apply stepG_ifN | apply stepG_if)) <;> intro hb <;> (have hif := hb) <;> (try simp only [bo] at hif) <;> (try simp -implicitDefEqProofs (disch := omega) only [go_sem, hb]) <;> clear hb
     | simp (maxSteps := 1000000) -implicitDefEqProofs (disch := omega) only [go_sem])
   refine callc (rwithin_ok 0 5000 [t.leaves, t.back] _ (by simp) (fun x hx => by simp only [List.mem_cons, List.not_mem_nil, or_false] at hx; omega)) ?_
   try simp (maxSteps := 1000000) -implicitDefEqProofs (disch := omega) only [go_sem]
   repeat' (first
     | (with_reducible apply Req_intro); focus (first | omega | assumption | (simp; done))
     | with_reducible (first | apply Req_intro | refine nilT ?_ fun hn => ?_ | apply wk_draw Try_mixed | refine drawEnd (by kernel_rfl) ?_)
     | (with_reducible (first | apply condA_if | apply stepDG_ifN | apply stepDG_if | apply stepG_ifN | apply stepG_if)) <;> intro hb <;> (have hif := hb) <;> (try simp only [bo] at hif) <;> (try simp -implicitDefEqProofs (disch := omega) only [go_sem, hb]) <;> clear hb
     | simp (maxSteps := 1000000) -implicitDefEqProofs (disch := omega) only [go_sem])
   all_goals first | (exfalso; omega) | skip
   refine ret_do ?_
   rfl
end Go.Aw
end
section
set_option maxRecDepth 20000
set_option maxHeartbeats 4000000
namespace Go.Aw
open Go.RowKit Go.Proofs
def oneI (n : Int) : List V := [int n]
theorem AppendSeq_own (ls : List Int) (f : FuncId) (cap : List V) (hcap : PuL cap) (hl : ls.length ≤ 1000) (hit : It Try.prog f cap (ls.map fun x => [int x])) :
   OneNew Try.prog 123 [.lit (.slice none 0 0), .fn (.func f) [] cap] 192 1 ls.length ⟨1, ls.map encI, 3, .wr⟩ 384 := by
 refine ⟨[(0, some ⟨1, [[.os 192 1 ls.length false]], 31, .wr⟩), (192, some ⟨1, ls.map encI, 3, .wr⟩)], ?_, ?_⟩
 · refine callH_enter Try.func123 rfl Try.results123 Try.ntmps123 rfl (by simp (maxSteps := 1000000) -implicitDefEqProofs (disch := omega) only [go_sem]; rfl) fun base => ?_
   repeat' (first
     | (with_reducible apply Req_intro); focus (first | omega | assumption | (simp; done))
     | with_reducible (first | apply Req_intro | refine nilT ?_ fun hn => ?_ | apply wk_draw Try_mixed | refine drawEnd (by kernel_rfl) ?_)
     | (with_reducible (first | apply condA_if | apply stepDG_ifN | apply stepDG_if | apply stepG_ifN | apply stepG_if)) <;> intro hb <;> (have hif := hb) <;> (try simp only [bo] at hif) <;> (try simp -implicitDefEqProofs (disch := omega) only [go_sem, hb]) <;> clear hb
     | simp (maxSteps := 1000000) -implicitDefEqProofs (disch := omega) only [go_sem])
   refine range_rows (α := Nat) [] (fun i => [(0, some ⟨1, [[.os 192 1 i false]], 31, .wr⟩), (192, some ⟨1, (ls.take i).map encI, 3, .wr⟩)]) (fun _ => 0) (fun _ => false) (fun i y => y = i ∧ i ≤ ls.length) (fun _ _ => False) 0 256 (by first | (simp (maxSteps := 1000000) -implicitDefEqProofs (disch := omega) only [go_sem]; done) | (simp (maxSteps := 1000000) -implicitDefEqProofs (disch := omega) only [go_sem]; rfl)) (by first | (simp (maxSteps := 1000000) -implicitDefEqProofs (disch := omega) only [go_sem]; done) | (simp (maxSteps := 1000000) -implicitDefEqProofs (disch := omega) only [go_sem]; rfl)) hit ?_ ?_ ?_ ?_ ?_ ?_ ?_ ?_ ?_ ?_ ?_ ?_ ?_
   · exact hcap
   · intro y hy
     rw [List.mem_map] at hy
     obtain ⟨w, _, rfl⟩ := hy
     rfl
   · simp only [List.take_zero, List.map_nil]
     exact weak_do [(192, 1000000)]
   · rfl
   · rfl
   · exact ⟨rfl, Nat.zero_le _⟩
   · repeat' (first
       | with_reducible exact idsLt_nil
       | with_reducible refine idsLt_cons ?_ ?_
       | with_reducible exact IdLt.pu _ Pu_undef
       | with_reducible exact IdLt.pu _ (Pu_lit _)
       | ((with_reducible refine IdLt.ref _ _ _ _ ?_); decide)
       | ((with_reducible refine IdLt.os _ _ _ _ ?_); decide)
       | ((with_reducible refine IdLt.pu _ ?_); first | assumption | (simp only [go_sem] <;> assumption) | (simp only [go_sem, *]; done) | (simp [go_sem]; done))
       | (with_reducible refine idLt_fn ?_ ?_)
       | (with_reducible refine idLt_agg ?_))
   · decide
   · decide
   · rintro i x y ⟨hxi, hxl⟩ hy
     subst hxi
     rw [List.getElem?_map, Option.map_eq_some_iff] at hy
     obtain ⟨w, hw, rfl⟩ := hy
     have hi := (List.getElem?_eq_some_iff.1 hw).1
     have hlen : x = (List.take x ls).length := by rw [List.length_take]; omega
     repeat' (first
       | (with_reducible apply Req_intro); focus (first | omega | assumption | (simp; done))
       | with_reducible (first | apply Req_intro | refine nilT ?_ fun hn => ?_ | apply wk_draw Try_mixed | refine drawEnd (by kernel_rfl) ?_)
       | (with_reducible (first | apply condA_if | apply stepDG_ifN | apply stepDG_if | apply stepG_ifN | apply stepG_if)) <;> intro hb <;> (have hif := hb) <;> (try simp only [bo] at hif) <;> (try simp -implicitDefEqProofs (disch := omega) only [go_sem, hb]) <;> clear hb
       | simp (maxSteps := 1000000) -implicitDefEqProofs (disch := omega) only [go_sem])
     rw [show List.take x ls ++ [w] = List.take (x + 1) ls from by
       rw [take_succ_getD hi, getD_default hi, show ls[x] = w from (List.getElem?_eq_some_iff.1 hw).2]]
     refine rnd_next (x + 1) ⟨rfl, hi⟩ ?_
     exact forget_do [(192, 512)]
   · rintro x ⟨hx, _⟩
     subst hx
     simp only [List.length_map]
     repeat' (first
       | (with_reducible apply Req_intro); focus (first | omega | assumption | (simp; done))
       | with_reducible (first | apply Req_intro | refine nilT ?_ fun hn => ?_ | apply wk_draw Try_mixed | refine drawEnd (by kernel_rfl) ?_)
       | (with_reducible (first | apply condA_if | apply stepDG_ifN | apply stepDG_if | apply stepG_ifN | apply stepG_if)) <;> intro hb <;> (have hif := hb) <;> (try simp only [bo] at hif) <;> (try simp -implicitDefEqProofs (disch := omega) only [go_sem, hb]) <;> clear hb
       | simp (maxSteps := 1000000) -implicitDefEqProofs (disch := omega) only [go_sem])
     simp only [List.take_length]
     refine ret_do ?_
     exact ⟨rfl, rfl, rfl⟩
   · exact fun x h => h.elim
   · exact fun id x h => h.elim
 · rfl
theorem Collect_own (ls : List Int) (f : FuncId) (cap : List V) (hcap : PuL cap) (hl : ls.length ≤ 1000) (hit : It Try.prog f cap (ls.map fun x => [int x])) :
   OneNew Try.prog 91 [.fn (.func f) [] cap] 320 1 ls.length ⟨1, ls.map encI, 3, .wr⟩ 640 := by
 refine ⟨[(320, some ⟨1, ls.map encI, 3, .wr⟩)], ?_, ?_⟩
 · refine callH_enter Try.func91 rfl Try.results91 Try.ntmps91 rfl (by simp (maxSteps := 1000000) -implicitDefEqProofs (disch := omega) only [go_sem]; rfl) fun base => ?_
   repeat' (first
     | (with_reducible apply Req_intro); focus (first | omega | assumption | (simp; done))
     | with_reducible (first | apply Req_intro | refine nilT ?_ fun hn => ?_ | apply wk_draw Try_mixed | refine drawEnd (by kernel_rfl) ?_)
     | (with_reducible (first | apply condA_if | apply stepDG_ifN | apply stepDG_if | apply stepG_ifN | apply stepG_if)) <;> intro hb <;> (have hif := hb) <;> (try simp only [bo] at hif) <;> (try simp -implicitDefEqProofs (disch := omega) only [go_sem, hb]) <;> clear hb
     | simp (maxSteps := 1000000) -implicitDefEqProofs (disch := omega) only [go_sem])
   refine call_one (AppendSeq_own ls f cap hcap hl hit) ?_ ⟨_, Try.func123, by rfl, by decide⟩ (hpu := by simp [PuL]; exact hcap)
   try simp (maxSteps := 1000000) -implicitDefEqProofs (disch := omega) only [go_sem]
   repeat' (first
     | (with_reducible apply Req_intro); focus (first | omega | assumption | (simp; done))
     | with_reducible (first | apply Req_intro | refine nilT ?_ fun hn => ?_ | apply wk_draw Try_mixed | refine drawEnd (by kernel_rfl) ?_)
     | (with_reducible (first | apply condA_if | apply stepDG_ifN | apply stepDG_if | apply stepG_ifN | apply stepG_if)) <;> intro hb <;> (have hif := hb) <;> (try simp only [bo] at hif) <;> (try simp -implicitDefEqProofs (disch := omega) only [go_sem, hb]) <;> clear hb
     | simp (maxSteps := 1000000) -implicitDefEqProofs (disch := omega) only [go_sem])
   refine ret_do ?_
   exact ⟨rfl, rfl, rfl⟩
 · rfl
theorem Sorted_spec (l : List Int) (e : Bool) (hl : l.length ≤ 12) : Ct Try.prog 63 [.fn (.func 93) [] [.rp [.sl 1 (l.map encI) e]]] (.sl 1 ((isort l).map encI) false) := by
 have hlen := isort_len l
 refine fn_enter Try.func63 rfl (by decide) Try.results63 Try.ntmps63 ?_ rfl (by simp (maxSteps := 1000000) -implicitDefEqProofs (disch := omega) only [go_sem]; rfl) fun base => ?_
 · first | assumption | (simp only [go_sem] <;> assumption) | (simp only [go_sem, *]; done) | (simp [go_sem]; done)
 repeat' (first
   | (with_reducible apply Req_intro); focus (first | omega | assumption | (simp; done))
   | with_reducible (first | apply Req_intro | refine nilT ?_ fun hn => ?_ | apply wk_draw Try_mixed | refine drawEnd (by kernel_rfl) ?_)
   | (with_reducible (first | apply condA_if | apply stepDG_ifN | apply stepDG_if | apply stepG_ifN | apply stepG_if)) <;> intro hb <;> (have hif := hb) <;> (try simp only [bo] at hif) <;> (try simp -implicitDefEqProofs (disch := omega) only [go_sem, hb]) <;> clear hb
   | simp (maxSteps := 1000000) -implicitDefEqProofs (disch := omega) only [go_sem])
 refine call_one (Collect_own l 93 [.rp [.sl 1 (l.map encI) e]] (by first | assumption | (simp only [go_sem] <;> assumption) | (simp only [go_sem, *]; done) | (simp [go_sem]; done)) (by omega) (Values_it l e (by omega))) ?_ ⟨_, Try.func91, by rfl, by decide⟩
 try simp (maxSteps := 1000000) -implicitDefEqProofs (disch := omega) only [go_sem]
 repeat' (first
   | (with_reducible apply Req_intro); focus (first | omega | assumption | (simp; done))
   | with_reducible (first | apply Req_intro | refine nilT ?_ fun hn => ?_ | apply wk_draw Try_mixed | refine drawEnd (by kernel_rfl) ?_)
   | (with_reducible (first | apply condA_if | apply stepDG_ifN | apply stepDG_if | apply stepG_ifN | apply stepG_if)) <;> intro hb <;> (have hif := hb) <;> (try simp only [bo] at hif) <;> (try simp -implicitDefEqProofs (disch := omega) only [go_sem, hb]) <;> clear hb
   | simp (maxSteps := 1000000) -implicitDefEqProofs (disch := omega) only [go_sem])
 refine call_row 448 (Sort_spec l hl) ?_ ⟨_, Try.func92, by rfl, by decide⟩ ?_
 · try simp (maxSteps := 1000000) -implicitDefEqProofs (disch := omega) only [go_sem]
   repeat' (first
     | (with_reducible apply Req_intro); focus (first | omega | assumption | (simp; done))
     | with_reducible (first | apply Req_intro | refine nilT ?_ fun hn => ?_ | apply wk_draw Try_mixed | refine drawEnd (by kernel_rfl) ?_)
     | (with_reducible (first | apply condA_if | apply stepDG_ifN | apply stepDG_if | apply stepG_ifN | apply stepG_if)) <;> intro hb <;> (have hif := hb) <;> (try simp only [bo] at hif) <;> (try simp -implicitDefEqProofs (disch := omega) only [go_sem, hb]) <;> clear hb
     | simp (maxSteps := 1000000) -implicitDefEqProofs (disch := omega) only [go_sem])
   exact retf [448] [2] [.sl 1 ((isort l).map encI) false]
 · refine .cons _ _ _ _ (Ren.osN _ _ rfl rfl (by omega) (fun h => h)) .nil
end Go.Aw
end
section
set_option maxRecDepth 20000
set_option maxHeartbeats 4000000
namespace Go.Aw
open Go.RowKit Go.Proofs
theorem nodup_next {l : List Int} (h : l.Nodup) {x : Nat} (hx : x + 1 < l.length) : l.getD (x + 1) default ≠ l.getD x default := by
 rw [getD_default hx, getD_default (by omega)]
 intro e
 exact List.pairwise_iff_getElem.1 h x (x + 1) (by omega) hx (by omega) e.symm
theorem Compact_spec (l : List Int) (e : Bool) (hl : l.length ≤ 1000) (hnd : l.Nodup) : Ct Try.prog 66 [.sl 1 (l.map encI) e] (.sl 1 (l.map encI) e) := by
 refine fn_enter Try.func66 rfl (by decide) Try.results66 Try.ntmps66 ?_ rfl (by simp (maxSteps := 1000000) -implicitDefEqProofs (disch := omega) only [go_sem]; rfl) fun base => ?_
 · first | assumption | (simp only [go_sem] <;> assumption) | (simp only [go_sem, *]; done) | (simp [go_sem]; done)
 repeat' (first
   | (with_reducible apply Req_intro); focus (first | omega | assumption | (simp; done))
   | with_reducible (first | apply Req_intro | refine nilT ?_ fun hn => ?_ | apply wk_draw Try_mixed | refine drawEnd (by kernel_rfl) ?_)
   | (with_reducible (first | apply condA_if | apply stepDG_ifN | apply stepDG_if | apply stepG_ifN | apply stepG_if)) <;> intro hb <;> (have hif := hb) <;> (try simp only [bo] at hif) <;> (try simp -implicitDefEqProofs (disch := omega) only [go_sem, hb]) <;> clear hb
   | simp (maxSteps := 1000000) -implicitDefEqProofs (disch := omega) only [go_sem])
 · refine ret_do ?_
   rfl
 refine loop_at (α := Nat) [2, 3, 4, 5, 10, 11, 12, 13, 14, 15, 16, 17, 18, 19, 20, 21, 22, 23, 24, 25, 26, 27, 28, 29, 30, 31, 32, 33, 34, 35, 36, 37, 38, 39, 40, 41, 42, 43, 44, 45, 46, 47, 48, 49, 50, 51, 52, 53, 54, 55, 56, 57, 58, 59] (fun i => [(3, .lit (.int .i64 ((i : Int) + 1)))]) (fun i => i + 1 ≤ l.length) (fun i => l.length - i) 0 (fun x => by simp (maxSteps := 1000000) -implicitDefEqProofs (disch := omega) only [go_sem]; rfl) ?_ ?_ fun x hx => ?_
 · exact weak_do []
 · omega
 by_cases hlt : x + 1 < l.length
 · have hne := nodup_next hnd hlt
   have e1 : ((((x + 1 : Nat) : Int) - 1).toNat) = x := by omega
   have e2 : (((x + 1 : Nat) : Int)).toNat = x + 1 := by omega
   have e3 : ((x : Int) + 1).toNat = x + 1 := by omega
   have e4 : ((x : Int) + 1 - 1).toNat = x := by omega
   repeat' (first
     | (with_reducible apply Req_intro); focus (first | omega | assumption | (simp; done))
     | with_reducible (first | apply Req_intro | refine nilT ?_ fun hn => ?_ | apply wk_draw Try_mixed | refine drawEnd (by kernel_rfl) ?_)
     | (with_reducible (first | apply condA_if | apply stepDG_ifN | apply stepDG_if | apply stepG_ifN | apply stepG_if)) <;> intro hb <;> (have hif := hb) <;> (try simp only [bo] at hif) <;> (try simp -implicitDefEqProofs (disch := omega) only [go_sem, hb, e1, e2, e3, e4]) <;> clear hb
     | simp (maxSteps := 1000000) -implicitDefEqProofs (disch := omega) only [go_sem, e1, e2, e3, e4])
   all_goals first | (exfalso; omega) | exact absurd ‹_› hne | skip
   refine nxt_w (x + 1) (weak_do []) ?_
   try dsimp only
   omega
 · repeat' (first
     | (with_reducible apply Req_intro); focus (first | omega | assumption | (simp; done))
     | with_reducible (first | apply Req_intro | refine nilT ?_ fun hn => ?_ | apply wk_draw Try_mixed | refine drawEnd (by kernel_rfl) ?_)
     | (with_reducible (first | apply condA_if | apply stepDG_ifN | apply stepDG_if | apply stepG_ifN | apply stepG_if)) <;> intro hb <;> (have hif := hb) <;> (try simp only [bo] at hif) <;> (try simp -implicitDefEqProofs (disch := omega) only [go_sem, hb]) <;> clear hb
     | simp (maxSteps := 1000000) -implicitDefEqProofs (disch := omega) only [go_sem])
   all_goals first | (exfalso; omega) | skip
   refine ret_do ?_
   rfl
theorem ropen_spec (t : Task) (ht : TaskOk t) : Ct Try.prog 62 [encT t] (.tup [encT t, int 0]) := by
 refine ct_enterZ Try.func62 rfl (by decide) Try.results62 Try.ntmps62 ?_ rfl (by simp (maxSteps := 1000000) -implicitDefEqProofs (disch := omega) only [go_sem]; rfl) fun base => ?_
 · first | assumption | (simp only [go_sem] <;> assumption) | (simp only [go_sem, *]; done) | (simp [go_sem]; done)
 repeat' (first
   | (with_reducible apply Req_intro); focus (first | omega | assumption | (simp; done))
   | with_reducible (first | apply Req_intro | refine nilT ?_ fun hn => ?_ | apply wk_draw Try_mixed | refine drawEnd (by kernel_rfl) ?_)
   | (with_reducible (first | apply condA_if | apply stepDG_ifN | apply stepDG_if | apply stepG_ifN | apply stepG_if)) <;> intro hb <;> (have hif := hb) <;> (try simp only [bo] at hif) <;> (try simp -implicitDefEqProofs (disch := omega) only [go_sem, hb]) <;> clear hb
   | simp (maxSteps := 1000000) -implicitDefEqProofs (disch := omega) only [go_sem])
 refine calld (rCheck_spec t ht) ?_
 try simp (maxSteps := 1000000) -implicitDefEqProofs (disch := omega) only [go_sem]
 repeat' (first
   | (with_reducible apply Req_intro); focus (first | omega | assumption | (simp; done))
   | with_reducible (first | apply Req_intro | refine nilT ?_ fun hn => ?_ | apply wk_draw Try_mixed | refine drawEnd (by kernel_rfl) ?_)
   | (with_reducible (first | apply condA_if | apply stepDG_ifN | apply stepDG_if | apply stepG_ifN | apply stepG_if)) <;> intro hb <;> (have hif := hb) <;> (try simp only [bo] at hif) <;> (try simp -implicitDefEqProofs (disch := omega) only [go_sem, hb]) <;> clear hb
   | simp (maxSteps := 1000000) -implicitDefEqProofs (disch := omega) only [go_sem])
 exact retz []
theorem rnodup_le {α : Type} : ∀ {l m : List α}, l.Nodup → (∀ x ∈ l, x ∈ m) → l.length ≤ m.length
 | [], m, _, _ => Nat.zero_le _
 | a :: l, m, h, hs => by
   obtain ⟨p, q, rfl⟩ := List.append_of_mem (hs a (List.mem_cons_self ..))
   rw [List.nodup_cons] at h
   have := rnodup_le (l := l) (m := p ++ q) h.2 fun x hx => by
     have hx' := hs x (List.mem_cons_of_mem _ hx)
     rw [List.mem_append, List.mem_cons] at hx'
     rw [List.mem_append]
     rcases hx' with h' | h' | h'
     · exact .inl h'
     · subst h'; exact absurd hx h.1
     · exact .inr h'
   simp only [List.length_append, List.length_cons] at this ⊢
   omega
structure OrdOk (n : Nat) (l : List Int) : Prop where
 nd : l.Nodup
 rg : ∀ x ∈ l, 1 ≤ x ∧ x ≤ n
theorem OrdOk.len {n : Nat} {l : List Int} (h : OrdOk n l) : l.length ≤ n := by
 have hs : l ⊆ (List.range n).map fun (i : Nat) => ((i : Int) + 1) := fun x hx => by
   have := h.rg x hx
   exact List.mem_map.2 ⟨(x - 1).toNat, List.mem_range.2 (by omega), by omega⟩
 have := rnodup_le h.nd hs
 simpa using this
theorem openOrder_spec (t : Task) (ht : TaskOk t) (l : List Int) (e : Bool) (hl : OrdOk t.ps.length l) : Ct Try.prog 30 [encT t, .sl 1 (l.map encI) e] (.tup [encT t, int 0]) := by
 have hlen := hl.len
 have h7 := ht.n
 have hsl := isort_len l
 refine ct_enterZ Try.func30 rfl (by decide) Try.results30 Try.ntmps30 ?_ rfl (by simp (maxSteps := 1000000) -implicitDefEqProofs (disch := omega) only [go_sem]; rfl) fun base => ?_
 · first | assumption | (simp only [go_sem] <;> assumption) | (simp only [go_sem, *]; done) | (simp [go_sem]; done)
 repeat' (first
   | (with_reducible apply Req_intro); focus (first | omega | assumption | (simp; done))
   | with_reducible (first | apply Req_intro | refine nilT ?_ fun hn => ?_ | apply wk_draw Try_mixed | refine drawEnd (by kernel_rfl) ?_)
   | (with_reducible (first | apply condA_if | apply stepDG_ifN | apply stepDG_if | apply stepG_ifN | apply stepG_if)) <;> intro hb <;> (have hif := hb) <;> (try simp only [bo] at hif) <;> (try simp -implicitDefEqProofs (disch := omega) only [go_sem, hb]) <;> clear hb
   | simp (maxSteps := 1000000) -implicitDefEqProofs (disch := omega) only [go_sem])
 refine callp (ropen_spec t ht) ?_
 try simp (maxSteps := 1000000) -implicitDefEqProofs (disch := omega) only [go_sem]
 repeat' (first
   | (with_reducible apply Req_intro); focus (first | omega | assumption | (simp; done))
   | with_reducible (first | apply Req_intro | refine nilT ?_ fun hn => ?_ | apply wk_draw Try_mixed | refine drawEnd (by kernel_rfl) ?_)
   | (with_reducible (first | apply condA_if | apply stepDG_ifN | apply stepDG_if | apply stepG_ifN | apply stepG_if)) <;> intro hb <;> (have hif := hb) <;> (try simp only [bo] at hif) <;> (try simp -implicitDefEqProofs (disch := omega) only [go_sem, hb]) <;> clear hb
   | simp (maxSteps := 1000000) -implicitDefEqProofs (disch := omega) only [go_sem])
 all_goals first | (exfalso; simp at hif; done) | skip
 refine callp (Values_spec l e) ?_
 try simp (maxSteps := 1000000) -implicitDefEqProofs (disch := omega) only [go_sem]
 repeat' (first
   | (with_reducible apply Req_intro); focus (first | omega | assumption | (simp; done))
   | with_reducible (first | apply Req_intro | refine nilT ?_ fun hn => ?_ | apply wk_draw Try_mixed | refine drawEnd (by kernel_rfl) ?_)
   | (with_reducible (first | apply condA_if | apply stepDG_ifN | apply stepDG_if | apply stepG_ifN | apply stepG_if)) <;> intro hb <;> (have hif := hb) <;> (try simp only [bo] at hif) <;> (try simp -implicitDefEqProofs (disch := omega) only [go_sem, hb]) <;> clear hb
   | simp (maxSteps := 1000000) -implicitDefEqProofs (disch := omega) only [go_sem])
 refine callp (Sorted_spec l e (by omega)) ?_
 try simp (maxSteps := 1000000) -implicitDefEqProofs (disch := omega) only [go_sem]
 repeat' (first
   | (with_reducible apply Req_intro); focus (first | omega | assumption | (simp; done))
   | with_reducible (first | apply Req_intro | refine nilT ?_ fun hn => ?_ | apply wk_draw Try_mixed | refine drawEnd (by kernel_rfl) ?_)
   | (with_reducible (first | apply condA_if | apply stepDG_ifN | apply stepDG_if | apply stepG_ifN | apply stepG_if)) <;> intro hb <;> (have hif := hb) <;> (try simp only [bo] at hif) <;> (try simp -implicitDefEqProofs (disch := omega) only [go_sem, hb]) <;> clear hb
   | simp (maxSteps := 1000000) -implicitDefEqProofs (disch := omega) only [go_sem])
 refine callp (rwithin_ok 1 t.ps.length l e (by omega) hl.rg) ?_
 try simp (maxSteps := 1000000) -implicitDefEqProofs (disch := omega) only [go_sem]
 repeat' (first
   | (with_reducible apply Req_intro); focus (first | omega | assumption | (simp; done))
   | with_reducible (first | apply Req_intro | refine nilT ?_ fun hn => ?_ | apply wk_draw Try_mixed | refine drawEnd (by kernel_rfl) ?_)
   | (with_reducible (first | apply condA_if | apply stepDG_ifN | apply stepDG_if | apply stepG_ifN | apply stepG_if)) <;> intro hb <;> (have hif := hb) <;> (try simp only [bo] at hif) <;> (try simp -implicitDefEqProofs (disch := omega) only [go_sem, hb]) <;> clear hb
   | simp (maxSteps := 1000000) -implicitDefEqProofs (disch := omega) only [go_sem])
 refine callp (Compact_spec (isort l) false (by omega) (isort_nodup hl.nd)) ?_
 try simp (maxSteps := 1000000) -implicitDefEqProofs (disch := omega) only [go_sem]
 repeat' (first
   | (with_reducible apply Req_intro); focus (first | omega | assumption | (simp; done))
   | with_reducible (first | apply Req_intro | refine nilT ?_ fun hn => ?_ | apply wk_draw Try_mixed | refine drawEnd (by kernel_rfl) ?_)
   | (with_reducible (first | apply condA_if | apply stepDG_ifN | apply stepDG_if | apply stepG_ifN | apply stepG_if)) <;> intro hb <;> (have hif := hb) <;> (try simp only [bo] at hif) <;> (try simp -implicitDefEqProofs (disch := omega) only [go_sem, hb]) <;> clear hb
   | simp (maxSteps := 1000000) -implicitDefEqProofs (disch := omega) only [go_sem])
 all_goals first | (exfalso; omega) | skip
 exact retz []
end Go.Aw
end
section
set_option maxRecDepth 20000
set_option maxHeartbeats 4000000
namespace Go.Aw
open Go.RowKit Go.Proofs
def addSp (a b : Int × Int) : Int × Int := (a.1 + b.1, a.2 + b.2)
@[go_sem] theorem addSp_eq (a b : Int × Int) : addSp a b = (a.1 + b.1, a.2 + b.2) := rfl
theorem ralike_spec (n : Int) : Ct Try.prog 68 [int n] (.agg (encS (n, n))) := by
 refine ct_enterZ Try.func68 rfl (by decide) Try.results68 Try.ntmps68 ?_ rfl (by simp (maxSteps := 1000000) -implicitDefEqProofs (disch := omega) only [go_sem]; rfl) fun base => ?_
 · first | assumption | (simp only [go_sem] <;> assumption) | (simp only [go_sem, *]; done) | (simp [go_sem]; done)
 repeat' (first
   | (with_reducible apply Req_intro); focus (first | omega | assumption | (simp; done))
   | with_reducible (first | apply Req_intro | refine nilT ?_ fun hn => ?_ | apply wk_draw Try_mixed | refine drawEnd (by kernel_rfl) ?_)
   | (with_reducible (first | apply condA_if | apply stepDG_ifN | apply stepDG_if | apply stepG_ifN | apply stepG_if)) <;> intro hb <;> (have hif := hb) <;> (try simp only [bo] at hif) <;> (try simp -implicitDefEqProofs (disch := omega) only [go_sem, hb]) <;> clear hb
   | simp (maxSteps := 1000000) -implicitDefEqProofs (disch := omega) only [go_sem])
 exact retz []
theorem rplus_spec (a b : Int × Int) (h1 : -4611686018427387904 ≤ a.1 ∧ a.1 ≤ 4611686018427387903) (h2 : -4611686018427387904 ≤ a.2 ∧ a.2 ≤ 4611686018427387903) (h3 : -4611686018427387904 ≤ b.1 ∧ b.1 ≤ 4611686018427387903) (h4 : -4611686018427387904 ≤ b.2 ∧ b.2 ≤ 4611686018427387903) :
   Ct Try.prog 69 [.agg (encS a), .agg (encS b)] (.agg (encS (addSp a b))) := by
 refine ct_enterZ Try.func69 rfl (by decide) Try.results69 Try.ntmps69 ?_ rfl (by simp (maxSteps := 1000000) -implicitDefEqProofs (disch := omega) only [go_sem]; rfl) fun base => ?_
 · first | assumption | (simp only [go_sem] <;> assumption) | (simp only [go_sem, *]; done) | (simp [go_sem]; done)
 repeat' (first
   | (with_reducible apply Req_intro); focus (first | omega | assumption | (simp; done))
   | with_reducible (first | apply Req_intro | refine nilT ?_ fun hn => ?_ | apply wk_draw Try_mixed | refine drawEnd (by kernel_rfl) ?_)
   | (with_reducible (first | apply condA_if | apply stepDG_ifN | apply stepDG_if | apply stepG_ifN | apply stepG_if)) <;> intro hb <;> (have hif := hb) <;> (try simp only [bo] at hif) <;> (try simp -implicitDefEqProofs (disch := omega) only [go_sem, hb]) <;> clear hb
   | simp (maxSteps := 1000000) -implicitDefEqProofs (disch := omega) only [go_sem])
 exact retz []
theorem rlegs_spec (t : Task) (l : List Int) (e : Bool) : Ct Try.prog 31 [encT t, .sl 1 (l.map encI) e] (.fn (.func 67) [] [.rp (cellT t), .rp [.sl 1 (l.map encI) e]]) := by
 refine fn_enter Try.func31 rfl (by decide) Try.results31 Try.ntmps31 ?_ rfl (by simp (maxSteps := 1000000) -implicitDefEqProofs (disch := omega) only [go_sem]; rfl) fun base => ?_
 · first | assumption | (simp only [go_sem] <;> assumption) | (simp only [go_sem, *]; done) | (simp [go_sem]; done)
 repeat' (first
   | (with_reducible apply Req_intro); focus (first | omega | assumption | (simp; done))
   | with_reducible (first | apply Req_intro | refine nilT ?_ fun hn => ?_ | apply wk_draw Try_mixed | refine drawEnd (by kernel_rfl) ?_)
   | (with_reducible (first | apply condA_if | apply stepDG_ifN | apply stepDG_if | apply stepG_ifN | apply stepG_if)) <;> intro hb <;> (have hif := hb) <;> (try simp only [bo] at hif) <;> (try simp -implicitDefEqProofs (disch := omega) only [go_sem, hb]) <;> clear hb
   | simp (maxSteps := 1000000) -implicitDefEqProofs (disch := omega) only [go_sem])
 exact retf [0, 64] [4] [.fn (.func 67) [] [.rp (cellT t), .rp [.sl 1 (l.map encI) e]]]
structure Leg where
 number : Int
 frm : Int
 to : Int
 load : Int
 leaves : Int × Int
 comes : Int × Int
instance : Inhabited Leg := ⟨⟨0, 0, 0, 0, (0, 0), (0, 0)⟩⟩
def encLeg (g : Leg) : List V := [int g.number, int g.frm, int g.to, int g.load, int g.leaves.1, int g.leaves.2, int g.comes.1, int g.comes.2]
@[go_sem] theorem encLeg_eq (g : Leg) : encLeg g = [int g.number, int g.frm, int g.to, int g.load, int g.leaves.1, int g.leaves.2, int g.comes.1, int g.comes.2] := rfl
def yLeg (g : Leg) : List V := [.agg (encLeg g)]
@[go_sem] theorem yLeg_eq (g : Leg) : yLeg g = [.agg (encLeg g)] := rfl
def mAt (t : Task) (f p : Int) : Int × Int := (t.m.getD f.toNat default).getD p.toNat default
def pAt (t : Task) (p : Int) : Pl := t.ps.getD (p - 1).toNat default
def onward (t : Task) (p : Int) (comes : Int × Int) : Int × Int := addSp (max comes.1 (pAt t p).ready, max comes.2 (pAt t p).ready) ((pAt t p).stop, (pAt t p).stop)
def legsR (t : Task) : List Int → Int → Int → Int → Int × Int → List Leg
 | [], i, f, c, s => [⟨i, f, 0, c, s, addSp s (mAt t f 0)⟩]
 | p :: r, i, f, c, s => ⟨i, f, p, c, s, addSp s (mAt t f p)⟩ :: legsR t r (i + 1) p (c + ((pAt t p).fetched - (pAt t p).brought)) (onward t p (addSp s (mAt t f p)))
def sumBr (t : Task) (l : List Int) : Int := (l.map fun p => (pAt t p).brought).sum
def roads (t : Task) (l : List Int) : List Leg := legsR t l 0 0 (sumBr t l) (t.leaves, t.leaves)
structure LegOk (t : Task) : Prop where
 n : t.ps.length ≤ 7
 ml : t.m.length = t.ps.length + 1
 rl : ∀ r ∈ t.m, r.length = t.ps.length + 1
 so : ∀ r ∈ t.m, ∀ s ∈ r, 0 ≤ s.1 ∧ s.1 ≤ s.2 ∧ s.2 ≤ 600
 po : ∀ p ∈ t.ps, PlOk p
 l : 0 ≤ t.leaves ∧ t.leaves ≤ 10000
theorem TaskOk.leg {t : Task} (h : TaskOk t) : LegOk t := ⟨h.n, h.ml, h.rl, h.so, h.po, by have := h.l; have := h.b; omega⟩
theorem LegOk.pl {t : Task} (h : LegOk t) {p : Int} (hp : 1 ≤ p ∧ p ≤ t.ps.length) : PlOk (t.ps.getD (p - 1).toNat default) := h.po _ (getD_mem (by omega))
theorem sumBr_bd {t : Task} (h : LegOk t) {l : List Int} (hl : OrdOk t.ps.length l) : ∀ i, 0 ≤ sumBr t (l.take i) ∧ sumBr t (l.take i) ≤ 100 * i
 | 0 => by simp [sumBr]
 | i + 1 => by
   have ih := sumBr_bd h hl i
   by_cases hi : i < l.length
   · have hb : 0 ≤ (pAt t (l.getD i default)).brought ∧ (pAt t (l.getD i default)).brought ≤ 100 := (h.pl (hl.rg _ (getD_mem hi))).b
     rw [take_succ_getD hi]
     unfold sumBr at ih ⊢
     rw [List.map_append, List.sum_append]
     simp only [List.map_cons, List.map_nil, List.sum_cons, List.sum_nil]
     omega
   · rw [List.take_of_length_le (by omega)] at ih ⊢
     omega
theorem sumBr_step {t : Task} {o : List Int} {x : Nat} (h : x < o.length) : sumBr t (o.take (x + 1)) = sumBr t (o.take x) + (t.ps.getD (o.getD x default - 1).toNat default).brought := by
 rw [take_succ_getD h]
 unfold sumBr
 rw [List.map_append, List.sum_append]
 simp [pAt]
structure AtLeg (t : Task) (o : List Int) (i : Nat) (g : Leg) : Prop where
 hi : i ≤ o.length
 d : legsR t (o.drop i) i g.frm g.load g.leaves = (roads t o).drop i
 f : 0 ≤ g.frm ∧ g.frm ≤ t.ps.length
 lo : -100 * (i : Int) ≤ g.load ∧ g.load ≤ 100 * ((o.length : Int) + i)
 lv : 0 ≤ g.leaves.1 ∧ g.leaves.1 ≤ g.leaves.2 ∧ g.leaves.2 ≤ 10000 * ((i : Int) + 1)
theorem drop_at {o : List Int} {i : Nat} (h : i < o.length) : o.drop i = o.getD i default :: o.drop (i + 1) := by
 rw [getD_default h]; exact List.drop_eq_getElem_cons h
theorem roads_at {t : Task} {o : List Int} {i : Nat} {frm load : Int} {leaves : Int × Int} (hd : legsR t (o.drop i) i frm load leaves = (roads t o).drop i) (h : i < o.length) :
   (roads t o)[i]? = some ⟨i, frm, o.getD i default, load, leaves, addSp leaves (mAt t frm (o.getD i default))⟩ := by
 rw [drop_at h, legsR] at hd
 have := congrArg (fun l => l[0]?) hd
 simp only [List.getElem?_cons_zero, List.getElem?_drop, Nat.add_zero] at this
 exact this.symm
theorem roads_end {t : Task} {o : List Int} {frm load : Int} {leaves : Int × Int} (hd : legsR t (o.drop o.length) o.length frm load leaves = (roads t o).drop o.length) :
   (roads t o)[o.length]? = some ⟨o.length, frm, 0, load, leaves, addSp leaves (mAt t frm 0)⟩ := by
 rw [List.drop_length, legsR] at hd
 have := congrArg (fun l => l[0]?) hd
 simp only [List.getElem?_cons_zero, List.getElem?_drop, Nat.add_zero] at this
 exact this.symm
theorem roads_len {t : Task} {o : List Int} {frm load : Int} {leaves : Int × Int} (hd : legsR t (o.drop o.length) o.length frm load leaves = (roads t o).drop o.length) : (roads t o).length = o.length + 1 := by
 have h1 := roads_end hd
 have h2 := (List.getElem?_eq_some_iff.1 h1).1
 rw [List.drop_length, legsR] at hd
 have := congrArg List.length hd
 rw [List.length_drop] at this
 simp at this
 omega
structure AddOk (a b : Int × Int) (i : Nat) : Prop where
 lv : 0 ≤ a.1 ∧ a.1 ≤ a.2 ∧ a.2 ≤ 10000 * ((i : Int) + 1)
 so : 0 ≤ b.1 ∧ b.1 ≤ b.2 ∧ b.2 ≤ 600
theorem AddOk.mx {a b : Int × Int} {i n k : Nat} {r : Int} (h : AddOk a b i) (hr : 0 ≤ r ∧ r ≤ 5000) (hn : n ≤ k) (hk : k ≤ 7) (hi : i ≤ n) :
   (-4611686018427387904 ≤ max (addSp a b).1 r ∧ max (addSp a b).1 r ≤ 4611686018427387903) ∧ -4611686018427387904 ≤ max (addSp a b).2 r ∧ max (addSp a b).2 r ≤ 4611686018427387903 := by
 obtain ⟨h1, h2⟩ := h
 simp only [addSp]
 omega
theorem AtLeg.next {t : Task} {o : List Int} {i : Nat} {number frm to load : Int} {leaves comes : Int × Int} (h : AtLeg t o i ⟨number, frm, to, load, leaves, comes⟩) (hlt : i < o.length) (hp : 1 ≤ o.getD i default ∧ o.getD i default ≤ t.ps.length)
   (hpo : PlOk (t.ps.getD (o.getD i default - 1).toNat default)) (hso : 0 ≤ (mAt t frm (o.getD i default)).1 ∧ (mAt t frm (o.getD i default)).1 ≤ (mAt t frm (o.getD i default)).2 ∧ (mAt t frm (o.getD i default)).2 ≤ 600) :
   AtLeg t o (i + 1) ⟨i, o.getD i default, o.getD i default, load + ((pAt t (o.getD i default)).fetched - (pAt t (o.getD i default)).brought), onward t (o.getD i default) (addSp leaves (mAt t frm (o.getD i default))), addSp leaves (mAt t frm (o.getD i default))⟩ := by
 obtain ⟨hi, hd, hf, hlo, hlv⟩ := h
 simp only at hi hd hf hlo hlv
 have hb : 0 ≤ (pAt t (o.getD i default)).brought ∧ (pAt t (o.getD i default)).brought ≤ 100 := hpo.b
 have hf' : 0 ≤ (pAt t (o.getD i default)).fetched ∧ (pAt t (o.getD i default)).fetched ≤ 100 := hpo.f
 have hr' : 0 ≤ (pAt t (o.getD i default)).ready ∧ (pAt t (o.getD i default)).ready ≤ 5000 := hpo.r
 have hs' : 0 ≤ (pAt t (o.getD i default)).stop ∧ (pAt t (o.getD i default)).stop ≤ 600 := hpo.s
 refine ⟨hlt, ?_, by simp only; omega, by simp only; push_cast; omega, ?_⟩
 · rw [drop_at hlt, legsR] at hd
   have h2 := congrArg (List.drop 1) hd
   rw [List.drop_succ_cons, List.drop_zero, List.drop_drop] at h2
   rw [← h2]
   push_cast
   rfl
 · simp only [onward, addSp]
   push_cast
   omega
theorem legs_it (t : Task) (ht : LegOk t) (o : List Int) (e : Bool) (hl : OrdOk t.ps.length o) : It Try.prog 67 [.rp (cellT t), .rp [.sl 1 (o.map encI) e]] ((roads t o).map yLeg) := by
 have hlen := hl.len
 have h7 := ht.n
 have hle := ht.l
 refine it_enter Try.func67 rfl (by decide) Try.results67 Try.ntmps67 ?_ rfl (fun l => by simp (maxSteps := 1000000) -implicitDefEqProofs (disch := omega) only [go_sem]; rfl) fun base l => ?_
 · first | assumption | (simp only [go_sem] <;> assumption) | (simp only [go_sem, *]; done) | (simp [go_sem]; done)
 repeat' (first
   | (with_reducible apply Req_intro); focus (first | omega | assumption | (simp; done))
   | with_reducible (first | apply Req_intro | refine nilT ?_ fun hn => ?_ | apply wk_draw Try_mixed | refine drawEnd (by kernel_rfl) ?_)
   | (with_reducible (first | apply condA_if | apply stepDG_ifN | apply stepDG_if | apply stepG_ifN | apply stepG_if)) <;> intro hb <;> (have hif := hb) <;> (try simp only [bo] at hif) <;> (try simp -implicitDefEqProofs (disch := omega) only [go_sem, hb]) <;> clear hb
   | simp (maxSteps := 1000000) -implicitDefEqProofs (disch := omega) only [go_sem])
 refine callp (ralike_spec t.leaves) ?_
 try simp (maxSteps := 1000000) -implicitDefEqProofs (disch := omega) only [go_sem]
 repeat' (first
   | (with_reducible apply Req_intro); focus (first | omega | assumption | (simp; done))
   | with_reducible (first | apply Req_intro | refine nilT ?_ fun hn => ?_ | apply wk_draw Try_mixed | refine drawEnd (by kernel_rfl) ?_)
   | (with_reducible (first | apply condA_if | apply stepDG_ifN | apply stepDG_if | apply stepG_ifN | apply stepG_if)) <;> intro hb <;> (have hif := hb) <;> (try simp only [bo] at hif) <;> (try simp -implicitDefEqProofs (disch := omega) only [go_sem, hb]) <;> clear hb
   | simp (maxSteps := 1000000) -implicitDefEqProofs (disch := omega) only [go_sem])
 refine loop_rows (α := Nat) [6, 16, 17, 18, 19, 20, 21, 22, 23, 24, 25, 26, 27, 28, 29, 30, 31, 32] (fun i => [(16, .lit (.int .i64 i))]) (fun i => [(320, some ⟨8, [encLeg ⟨0, 0, 0, sumBr t (o.take i), (t.leaves, t.leaves), (0, 0)⟩], 109, .wr⟩)]) (fun i => i ≤ o.length) (fun i => o.length - i) 0 (fun x => by simp (maxSteps := 1000000) -implicitDefEqProofs (disch := omega) only [go_sem]; rfl) ?_ ?_ fun x hx => ?_
 · exact weak_do []
 · omega
 by_cases hlt : x < o.length
 · have hp := hl.rg _ (getD_mem hlt)
   have hs := sumBr_bd ht hl x
   have hpo := ht.pl hp
   repeat' (first
     | (with_reducible apply Req_intro); focus (first | omega | assumption | (simp; done))
     | with_reducible (first | apply Req_intro | refine nilT ?_ fun hn => ?_ | apply wk_draw Try_mixed | refine drawEnd (by kernel_rfl) ?_)
     | (with_reducible (first | apply condA_if | apply stepDG_ifN | apply stepDG_if | apply stepG_ifN | apply stepG_if)) <;> intro hb <;> (have hif := hb) <;> (try simp only [bo] at hif) <;> (try simp -implicitDefEqProofs (disch := omega) only [go_sem, hb]) <;> clear hb
     | simp (maxSteps := 1000000) -implicitDefEqProofs (disch := omega) only [go_sem])
   all_goals first | (exfalso; omega) | (have := hpo.b; omega) | skip
   with_reducible refine nxt_w (x + 1) ?_ ?_
   · (try dsimp only)
     rw [sumBr_step hlt]
     exact weak_do3 []
   try dsimp only
   omega
 obtain rfl : x = o.length := by omega
 rw [List.take_length]
 repeat' (first
   | (with_reducible apply Req_intro); focus (first | omega | assumption | (simp; done))
   | with_reducible (first | apply Req_intro | refine nilT ?_ fun hn => ?_ | apply wk_draw Try_mixed | refine drawEnd (by kernel_rfl) ?_)
   | (with_reducible (first | apply condA_if | apply stepDG_ifN | apply stepDG_if | apply stepG_ifN | apply stepG_if)) <;> intro hb <;> (have hif := hb) <;> (try simp only [bo] at hif) <;> (try simp -implicitDefEqProofs (disch := omega) only [go_sem, hb]) <;> clear hb
   | simp (maxSteps := 1000000) -implicitDefEqProofs (disch := omega) only [go_sem])
 all_goals first | (exfalso; omega) | omega | skip
 refine loop_gh (α := Nat × Leg) [7, 8, 36, 37, 38, 39, 40, 41, 42, 43, 44, 45, 46, 47, 48, 49, 50, 51, 52, 53, 54, 55, 56, 57, 58, 59, 60, 61, 62, 63, 64, 65, 66, 67, 68, 69, 70, 71, 72, 73, 74, 75, 76, 77, 78, 79, 80, 81, 82, 83, 84, 85, 86, 87, 88, 89, 90, 91, 92, 93, 94, 95, 96, 97, 98, 99, 100, 101, 102, 103, 104, 105, 106, 107, 108, 109, 110, 111, 112, 113] (fun z => [(36, .lit (.int .i64 z.1))]) (fun z => [(320, some ⟨8, [encLeg z.2], 109, .wr⟩)]) (fun z => z.1) (fun z => AtLeg t o z.1 z.2) (fun z => o.length + 1 - z.1) (0, ⟨0, 0, 0, sumBr t o, (t.leaves, t.leaves), (0, 0)⟩) (fun x => by simp (maxSteps := 1000000) -implicitDefEqProofs (disch := omega) only [go_sem]; rfl) ?_ ?_ ?_ fun x hx => ?_
 · rfl
 · exact weak_do []
 · have := sumBr_bd ht hl o.length
   rw [List.take_length] at this
   exact ⟨Nat.zero_le _, rfl, by simp, by simp; omega, by simp; omega⟩
 obtain ⟨i, number, frm, to, load, leaves, comes⟩ := x
 obtain ⟨hi, hd, hf, hlo, hlv⟩ := hx
 simp only at hi hd hf hlo hlv
 by_cases hlt : i < o.length
 · have hp := hl.rg _ (getD_mem hlt)
   have hpo := ht.pl hp
   have hml := ht.ml
   have hrow := ht.rl (t.m.getD frm.toNat default) (getD_mem (by omega))
   have hso := ht.so (t.m.getD frm.toNat default) (getD_mem (by omega)) ((t.m.getD frm.toNat default).getD (o.getD i default).toNat default) (getD_mem (by omega))
   repeat' (first
     | (with_reducible apply Req_intro); focus (first | omega | assumption | (simp; done))
     | with_reducible (first | apply Req_intro | refine nilT ?_ fun hn => ?_ | apply wk_draw Try_mixed | refine drawEnd (by kernel_rfl) ?_)
     | (with_reducible (first | apply condA_if | apply stepDG_ifN | apply stepDG_if | apply stepG_ifN | apply stepG_if)) <;> intro hb <;> (have hif := hb) <;> (try simp only [bo] at hif) <;> (try simp -implicitDefEqProofs (disch := omega) only [go_sem, hb]) <;> clear hb
     | simp (maxSteps := 1000000) -implicitDefEqProofs (disch := omega) only [go_sem])
   all_goals first | (exfalso; omega) | omega | skip
   refine calld (rplus_spec leaves ((t.m.getD frm.toNat default).getD (o.getD i default).toNat default) (by omega) (by omega) (by omega) (by omega)) ?_
   try simp (maxSteps := 1000000) -implicitDefEqProofs (disch := omega) only [go_sem]
   repeat' (first
     | (with_reducible apply Req_intro); focus (first | omega | assumption | (simp; done))
     | with_reducible (first | apply Req_intro | refine nilT ?_ fun hn => ?_ | apply wk_draw Try_mixed | refine drawEnd (by kernel_rfl) ?_)
     | (with_reducible (first | apply condA_if | apply stepDG_ifN | apply stepDG_if | apply stepG_ifN | apply stepG_if)) <;> intro hb <;> (have hif := hb) <;> (try simp only [bo] at hif) <;> (try simp -implicitDefEqProofs (disch := omega) only [go_sem, hb]) <;> clear hb
     | simp (maxSteps := 1000000) -implicitDefEqProofs (disch := omega) only [go_sem])
   all_goals first | (exfalso; omega) | omega | skip
   refine call_yield [] (by first | (simp (maxSteps := 1000000) -implicitDefEqProofs (disch := omega) only [go_sem]; done) | (simp (maxSteps := 1000000) -implicitDefEqProofs (disch := omega) only [go_sem]; rfl)) (rs := yLeg ⟨i, frm, o.getD i default, load, leaves, addSp leaves (mAt t frm (o.getD i default))⟩) ?_ ?_ fun b => ?_
   · rw [List.getElem?_map, roads_at hd hlt]; rfl
   · simp only [yLeg, encLeg, addSp, mAt]
     (try simp (maxSteps := 1000000) -implicitDefEqProofs (disch := omega) only [go_sem])
     repeat' (first
       | with_reducible (first | exact PurI.nil | exact Pur.nilsl _ _ | exact PurE.nil)
       | (with_reducible (first | refine PurI.puL ?_ | refine PurE.puE ?_)) <;> (first | assumption | (simp only [go_sem] <;> assumption) | (simp only [go_sem, *]; done) | (simp [go_sem]; done))
       | with_reducible apply PurI.cons
       | (with_reducible refine Pur.pu _ ?_) <;> (first | assumption | (simp only [go_sem] <;> assumption) | (simp only [go_sem, *]; done) | (simp [go_sem]; done))
       | ((with_reducible apply Pur.refR) <;> (first | rfl | decide | (simp only [go_sem]; omega) | (simp only [go_sem]) | skip))
       | ((with_reducible apply Pur.osR) <;> (first | rfl | exact fun h => h | omega | (simp; omega) | (simp; done) | (simp only [go_sem]) | skip))
       | with_reducible (first | apply Pur.fnI | apply Pur.aggI | apply PurE.cons)
       | (with_reducible refine PurI.eqL ?_ ?_); (focus rfl); (focus (first | assumption | (simp only [go_sem] <;> assumption) | (simp only [go_sem, *]; done) | (simp [go_sem]; done)))
       | simp (maxSteps := 1000000) -implicitDefEqProofs (disch := omega) only [go_sem])
   cases b
   · repeat' (first
       | (with_reducible apply Req_intro); focus (first | omega | assumption | (simp; done))
       | with_reducible (first | apply Req_intro | refine nilT ?_ fun hn => ?_ | apply wk_draw Try_mixed | refine drawEnd (by kernel_rfl) ?_)
       | (with_reducible (first | apply condA_if | apply stepDG_ifN | apply stepDG_if | apply stepG_ifN | apply stepG_if)) <;> intro hb <;> (have hif := hb) <;> (try simp only [bo] at hif) <;> (try simp -implicitDefEqProofs (disch := omega) only [go_sem, hb]) <;> clear hb
       | simp (maxSteps := 1000000) -implicitDefEqProofs (disch := omega) only [go_sem])
     all_goals first | (exfalso; omega) | skip
     refine retI fun h => ?_
     cases h
   · repeat' (first
       | (with_reducible apply Req_intro); focus (first | omega | assumption | (simp; done))
       | with_reducible (first | apply Req_intro | refine nilT ?_ fun hn => ?_ | apply wk_draw Try_mixed | refine drawEnd (by kernel_rfl) ?_)
       | (with_reducible (first | apply condA_if | apply stepDG_ifN | apply stepDG_if | apply stepG_ifN | apply stepG_if)) <;> intro hb <;> (have hif := hb) <;> (try simp only [bo] at hif) <;> (try simp -implicitDefEqProofs (disch := omega) only [go_sem, hb]) <;> clear hb
       | simp (maxSteps := 1000000) -implicitDefEqProofs (disch := omega) only [go_sem])
     all_goals first | (exfalso; omega) | (have := hpo.b; have := hpo.f; omega) | skip
     have hb := hpo.b
     have hf' := hpo.f
     have hr' := hpo.r
     have hs' := hpo.s
     refine calld (ralike_spec (t.ps.getD (o.getD i default - 1).toNat default).stop) ?_
     try simp (maxSteps := 1000000) -implicitDefEqProofs (disch := omega) only [go_sem]
     repeat' (first
       | (with_reducible apply Req_intro); focus (first | omega | assumption | (simp; done))
       | with_reducible (first | apply Req_intro | refine nilT ?_ fun hn => ?_ | apply wk_draw Try_mixed | refine drawEnd (by kernel_rfl) ?_)
       | (with_reducible (first | apply condA_if | apply stepDG_ifN | apply stepDG_if | apply stepG_ifN | apply stepG_if)) <;> intro hb <;> (have hif := hb) <;> (try simp only [bo] at hif) <;> (try simp -implicitDefEqProofs (disch := omega) only [go_sem, hb]) <;> clear hb
       | simp (maxSteps := 1000000) -implicitDefEqProofs (disch := omega) only [go_sem])
     all_goals first | (exfalso; omega) | omega | skip
     have hcm : AddOk leaves (mAt t frm (o.getD i default)) i := ⟨hlv, hso⟩
     have hmx := hcm.mx hr' hlen h7 hi
     refine calld (rplus_spec (max (addSp leaves (mAt t frm (o.getD i default))).1 (pAt t (o.getD i default)).ready, max (addSp leaves (mAt t frm (o.getD i default))).2 (pAt t (o.getD i default)).ready) ((pAt t (o.getD i default)).stop, (pAt t (o.getD i default)).stop) hmx.1 hmx.2 (by simp only [pAt]; omega) (by simp only [pAt]; omega)) ?_
     try simp (maxSteps := 1000000) -implicitDefEqProofs (disch := omega) only [go_sem]
     repeat' (first
       | (with_reducible apply Req_intro); focus (first | omega | assumption | (simp; done))
       | with_reducible (first | apply Req_intro | refine nilT ?_ fun hn => ?_ | apply wk_draw Try_mixed | refine drawEnd (by kernel_rfl) ?_)
       | (with_reducible (first | apply condA_if | apply stepDG_ifN | apply stepDG_if | apply stepG_ifN | apply stepG_if)) <;> intro hb <;> (have hif := hb) <;> (try simp only [bo] at hif) <;> (try simp -implicitDefEqProofs (disch := omega) only [go_sem, hb]) <;> clear hb
       | simp (maxSteps := 1000000) -implicitDefEqProofs (disch := omega) only [go_sem])
     all_goals first | (exfalso; omega) | omega | skip
     with_reducible refine nxt_w (i + 1, ⟨i, o.getD i default, o.getD i default, load + ((pAt t (o.getD i default)).fetched - (pAt t (o.getD i default)).brought), onward t (o.getD i default) (addSp leaves (mAt t frm (o.getD i default))), addSp leaves (mAt t frm (o.getD i default))⟩) ?_ ?_
     · (try dsimp only)
       simp only [encLeg, onward, addSp, mAt, pAt]
       exact weak_do3 []
     try dsimp only
     · exact AtLeg.next (number := number) (to := to) (comes := comes) ⟨hi, hd, hf, hlo, hlv⟩ hlt hp hpo hso
 · obtain rfl : i = o.length := by omega
   have hml := ht.ml
   have hrow := ht.rl (t.m.getD frm.toNat default) (getD_mem (by omega))
   have hso := ht.so (t.m.getD frm.toNat default) (getD_mem (by omega)) ((t.m.getD frm.toNat default).getD 0 default) (getD_mem (by omega))
   repeat' (first
     | (with_reducible apply Req_intro); focus (first | omega | assumption | (simp; done))
     | with_reducible (first | apply Req_intro | refine nilT ?_ fun hn => ?_ | apply wk_draw Try_mixed | refine drawEnd (by kernel_rfl) ?_)
     | (with_reducible (first | apply condA_if | apply stepDG_ifN | apply stepDG_if | apply stepG_ifN | apply stepG_if)) <;> intro hb <;> (have hif := hb) <;> (try simp only [bo] at hif) <;> (try simp -implicitDefEqProofs (disch := omega) only [go_sem, hb]) <;> clear hb
     | simp (maxSteps := 1000000) -implicitDefEqProofs (disch := omega) only [go_sem])
   all_goals first | (exfalso; omega) | omega | skip
   refine calld (rplus_spec leaves ((t.m.getD frm.toNat default).getD 0 default) (by omega) (by omega) (by omega) (by omega)) ?_
   try simp (maxSteps := 1000000) -implicitDefEqProofs (disch := omega) only [go_sem]
   repeat' (first
     | (with_reducible apply Req_intro); focus (first | omega | assumption | (simp; done))
     | with_reducible (first | apply Req_intro | refine nilT ?_ fun hn => ?_ | apply wk_draw Try_mixed | refine drawEnd (by kernel_rfl) ?_)
     | (with_reducible (first | apply condA_if | apply stepDG_ifN | apply stepDG_if | apply stepG_ifN | apply stepG_if)) <;> intro hb <;> (have hif := hb) <;> (try simp only [bo] at hif) <;> (try simp -implicitDefEqProofs (disch := omega) only [go_sem, hb]) <;> clear hb
     | simp (maxSteps := 1000000) -implicitDefEqProofs (disch := omega) only [go_sem])
   all_goals first | (exfalso; omega) | omega | skip
   refine call_yield [] (by first | (simp (maxSteps := 1000000) -implicitDefEqProofs (disch := omega) only [go_sem]; done) | (simp (maxSteps := 1000000) -implicitDefEqProofs (disch := omega) only [go_sem]; rfl)) (rs := yLeg ⟨o.length, frm, 0, load, leaves, addSp leaves (mAt t frm 0)⟩) ?_ ?_ fun b => ?_
   · rw [List.getElem?_map, roads_end hd]; rfl
   · simp only [yLeg, encLeg, addSp, mAt]
     (try simp (maxSteps := 1000000) -implicitDefEqProofs (disch := omega) only [go_sem])
     repeat' (first
       | with_reducible (first | exact PurI.nil | exact Pur.nilsl _ _ | exact PurE.nil)
       | (with_reducible (first | refine PurI.puL ?_ | refine PurE.puE ?_)) <;> (first | assumption | (simp only [go_sem] <;> assumption) | (simp only [go_sem, *]; done) | (simp [go_sem]; done))
       | with_reducible apply PurI.cons
       | (with_reducible refine Pur.pu _ ?_) <;> (first | assumption | (simp only [go_sem] <;> assumption) | (simp only [go_sem, *]; done) | (simp [go_sem]; done))
       | ((with_reducible apply Pur.refR) <;> (first | rfl | decide | (simp only [go_sem]; omega) | (simp only [go_sem]) | skip))
       | ((with_reducible apply Pur.osR) <;> (first | rfl | exact fun h => h | omega | (simp; omega) | (simp; done) | (simp only [go_sem]) | skip))
       | with_reducible (first | apply Pur.fnI | apply Pur.aggI | apply PurE.cons)
       | (with_reducible refine PurI.eqL ?_ ?_); (focus rfl); (focus (first | assumption | (simp only [go_sem] <;> assumption) | (simp only [go_sem, *]; done) | (simp [go_sem]; done)))
       | simp (maxSteps := 1000000) -implicitDefEqProofs (disch := omega) only [go_sem])
   cases b
   · repeat' (first
       | (with_reducible apply Req_intro); focus (first | omega | assumption | (simp; done))
       | with_reducible (first | apply Req_intro | refine nilT ?_ fun hn => ?_ | apply wk_draw Try_mixed | refine drawEnd (by kernel_rfl) ?_)
       | (with_reducible (first | apply condA_if | apply stepDG_ifN | apply stepDG_if | apply stepG_ifN | apply stepG_if)) <;> intro hb <;> (have hif := hb) <;> (try simp only [bo] at hif) <;> (try simp -implicitDefEqProofs (disch := omega) only [go_sem, hb]) <;> clear hb
       | simp (maxSteps := 1000000) -implicitDefEqProofs (disch := omega) only [go_sem])
     all_goals first | (exfalso; omega) | skip
     refine retI fun h => ?_
     cases h
   · repeat' (first
       | (with_reducible apply Req_intro); focus (first | omega | assumption | (simp; done))
       | with_reducible (first | apply Req_intro | refine nilT ?_ fun hn => ?_ | apply wk_draw Try_mixed | refine drawEnd (by kernel_rfl) ?_)
       | (with_reducible (first | apply condA_if | apply stepDG_ifN | apply stepDG_if | apply stepG_ifN | apply stepG_if)) <;> intro hb <;> (have hif := hb) <;> (try simp only [bo] at hif) <;> (try simp -implicitDefEqProofs (disch := omega) only [go_sem, hb]) <;> clear hb
       | simp (maxSteps := 1000000) -implicitDefEqProofs (disch := omega) only [go_sem])
     all_goals first | (exfalso; omega) | omega | skip
     refine retI fun _ => ?_
     rw [List.length_map, roads_len hd]
end Go.Aw
end
section
set_option maxRecDepth 20000
set_option maxHeartbeats 4000000
namespace Go.Aw
open Go.RowKit Go.Proofs
theorem legsR_len (t : Task) : ∀ (l : List Int) (i f c : Int) (s : Int × Int), (legsR t l i f c s).length = l.length + 1
 | [], i, f, c, s => rfl
 | p :: r, i, f, c, s => by rw [legsR, List.length_cons, legsR_len t r, List.length_cons]
theorem roads_length (t : Task) (l : List Int) : (roads t l).length = l.length + 1 := legsR_len t l _ _ _ _
def encN (g : Leg) : List V := encI g.load
theorem Load_spec (t : Task) (ht : TaskOk t) (o : List Int) (e : Bool) (hl : OrdOk t.ps.length o) (h0 : o ≠ []) : Ct Try.prog 9 [encT t, .sl 1 (o.map encI) e] (.tup [.sl 1 (((roads t o).map Leg.load).map encI) false, int 0]) := by
 have hlen := hl.len
 have h7 := ht.n
 have hrl := roads_length t o
 refine ct_enterT Try.func9 rfl (by decide) Try.results9 Try.ntmps9 ?_ rfl (by simp (maxSteps := 1000000) -implicitDefEqProofs (disch := omega) only [go_sem]; rfl) fun base => ?_
 · first | assumption | (simp only [go_sem] <;> assumption) | (simp only [go_sem, *]; done) | (simp [go_sem]; done)
 repeat' (first
   | (with_reducible apply Req_intro); focus (first | omega | assumption | (simp; done))
   | with_reducible (first | apply Req_intro | refine nilT ?_ fun hn => ?_ | apply wk_draw Try_mixed | refine drawEnd (by kernel_rfl) ?_)
   | (with_reducible (first | apply condA_if | apply stepDG_ifN | apply stepDG_if | apply stepG_ifN | apply stepG_if)) <;> intro hb <;> (have hif := hb) <;> (try simp only [bo] at hif) <;> (try simp -implicitDefEqProofs (disch := omega) only [go_sem, hb]) <;> clear hb
   | simp (maxSteps := 1000000) -implicitDefEqProofs (disch := omega) only [go_sem])
 refine callp (openOrder_spec t ht o e hl) ?_
 try simp (maxSteps := 1000000) -implicitDefEqProofs (disch := omega) only [go_sem]
 repeat' (first
   | (with_reducible apply Req_intro); focus (first | omega | assumption | (simp; done))
   | with_reducible (first | apply Req_intro | refine nilT ?_ fun hn => ?_ | apply wk_draw Try_mixed | refine drawEnd (by kernel_rfl) ?_)
   | (with_reducible (first | apply condA_if | apply stepDG_ifN | apply stepDG_if | apply stepG_ifN | apply stepG_if)) <;> intro hb <;> (have hif := hb) <;> (try simp only [bo] at hif) <;> (try simp -implicitDefEqProofs (disch := omega) only [go_sem, hb]) <;> clear hb
   | simp (maxSteps := 1000000) -implicitDefEqProofs (disch := omega) only [go_sem])
 all_goals first | (exfalso; exact h0 (List.eq_nil_of_length_eq_zero (by omega))) | skip
 refine callf [] (rlegs_spec t o e) ?_
 try simp (maxSteps := 1000000) -implicitDefEqProofs (disch := omega) only [go_sem]
 repeat' (first
   | (with_reducible apply Req_intro); focus (first | omega | assumption | (simp; done))
   | with_reducible (first | apply Req_intro | refine nilT ?_ fun hn => ?_ | apply wk_draw Try_mixed | refine drawEnd (by kernel_rfl) ?_)
   | (with_reducible (first | apply condA_if | apply stepDG_ifN | apply stepDG_if | apply stepG_ifN | apply stepG_if)) <;> intro hb <;> (have hif := hb) <;> (try simp only [bo] at hif) <;> (try simp -implicitDefEqProofs (disch := omega) only [go_sem, hb]) <;> clear hb
   | simp (maxSteps := 1000000) -implicitDefEqProofs (disch := omega) only [go_sem])
 refine range_rows (α := Nat) [] (fun i => [(64, some ⟨1, [[.os 1408 1 i false]], 31, .wr⟩), (1408, some ⟨1, (((roads t o).take i).map Leg.load).map encI, 3, .wr⟩)]) (fun _ => 0) (fun _ => false) (fun i y => y = i ∧ i ≤ (roads t o).length) (fun _ _ => False) 0 1472 (by first | (simp (maxSteps := 1000000) -implicitDefEqProofs (disch := omega) only [go_sem]; done) | (simp (maxSteps := 1000000) -implicitDefEqProofs (disch := omega) only [go_sem]; rfl)) (by first | (simp (maxSteps := 1000000) -implicitDefEqProofs (disch := omega) only [go_sem]; done) | (simp (maxSteps := 1000000) -implicitDefEqProofs (disch := omega) only [go_sem]; rfl)) (legs_it t ht.leg o e hl) ?_ ?_ ?_ ?_ ?_ ?_ ?_ ?_ ?_ ?_ ?_ ?_ ?_
 · first | assumption | (simp only [go_sem] <;> assumption) | (simp only [go_sem, *]; done) | (simp [go_sem]; done)
 · intro y hy
   rw [List.mem_map] at hy
   obtain ⟨w, _, rfl⟩ := hy
   rfl
 · simp only [List.take_zero, List.map_nil]
   exact weak_do [(1408, 1000000)]
 · rfl
 · rfl
 · exact ⟨rfl, Nat.zero_le _⟩
 · repeat' (first
     | with_reducible exact idsLt_nil
     | with_reducible refine idsLt_cons ?_ ?_
     | with_reducible exact IdLt.pu _ Pu_undef
     | with_reducible exact IdLt.pu _ (Pu_lit _)
     | ((with_reducible refine IdLt.ref _ _ _ _ ?_); decide)
     | ((with_reducible refine IdLt.os _ _ _ _ ?_); decide)
     | ((with_reducible refine IdLt.pu _ ?_); first | assumption | (simp only [go_sem] <;> assumption) | (simp only [go_sem, *]; done) | (simp [go_sem]; done))
     | (with_reducible refine idLt_fn ?_ ?_)
     | (with_reducible refine idLt_agg ?_))
 · decide
 · decide
 · rintro i x y ⟨hxi, hxl⟩ hy
   subst hxi
   rw [List.getElem?_map, Option.map_eq_some_iff] at hy
   obtain ⟨w, hw, rfl⟩ := hy
   have hi := (List.getElem?_eq_some_iff.1 hw).1
   have hlen : x = (List.take x (roads t o)).length := by rw [List.length_take]; omega
   repeat' (first
     | (with_reducible apply Req_intro); focus (first | omega | assumption | (simp; done))
     | with_reducible (first | apply Req_intro | refine nilT ?_ fun hn => ?_ | apply wk_draw Try_mixed | refine drawEnd (by kernel_rfl) ?_)
     | (with_reducible (first | apply condA_if | apply stepDG_ifN | apply stepDG_if | apply stepG_ifN | apply stepG_if)) <;> intro hb <;> (have hif := hb) <;> (try simp only [bo] at hif) <;> (try simp -implicitDefEqProofs (disch := omega) only [go_sem, hb]) <;> clear hb
     | simp (maxSteps := 1000000) -implicitDefEqProofs (disch := omega) only [go_sem])
   rw [show List.map Leg.load (List.take x (roads t o)) ++ [w.load] = List.map Leg.load (List.take (x + 1) (roads t o)) from by
     rw [take_succ_getD hi, getD_default hi, show (roads t o)[x] = w from (List.getElem?_eq_some_iff.1 hw).2, List.map_append]; rfl]
   refine rnd_next (x + 1) ⟨rfl, hi⟩ ?_
   exact forget_do [(1408, 1856)]
 · rintro x ⟨hx, _⟩
   subst hx
   simp only [List.length_map]
   repeat' (first
     | (with_reducible apply Req_intro); focus (first | omega | assumption | (simp; done))
     | with_reducible (first | apply Req_intro | refine nilT ?_ fun hn => ?_ | apply wk_draw Try_mixed | refine drawEnd (by kernel_rfl) ?_)
     | (with_reducible (first | apply condA_if | apply stepDG_ifN | apply stepDG_if | apply stepG_ifN | apply stepG_if)) <;> intro hb <;> (have hif := hb) <;> (try simp only [bo] at hif) <;> (try simp -implicitDefEqProofs (disch := omega) only [go_sem, hb]) <;> clear hb
     | simp (maxSteps := 1000000) -implicitDefEqProofs (disch := omega) only [go_sem])
   simp only [List.take_length]
   exact rett [1408]
 · exact fun x h => h.elim
 · exact fun id x h => h.elim
def encC (g : Leg) : List V := encS g.comes
theorem Times_spec (t : Task) (ht : TaskOk t) (o : List Int) (e : Bool) (hl : OrdOk t.ps.length o) : Ct Try.prog 35 [encT t, .sl 1 (o.map encI) e] (.tup [.sl 2 (((roads t o).map Leg.comes).map encS) false, int 0]) := by
 have hlen := hl.len
 have h7 := ht.n
 have hrl := roads_length t o
 refine ct_enterT Try.func35 rfl (by decide) Try.results35 Try.ntmps35 ?_ rfl (by simp (maxSteps := 1000000) -implicitDefEqProofs (disch := omega) only [go_sem]; rfl) fun base => ?_
 · first | assumption | (simp only [go_sem] <;> assumption) | (simp only [go_sem, *]; done) | (simp [go_sem]; done)
 repeat' (first
   | (with_reducible apply Req_intro); focus (first | omega | assumption | (simp; done))
   | with_reducible (first | apply Req_intro | refine nilT ?_ fun hn => ?_ | apply wk_draw Try_mixed | refine drawEnd (by kernel_rfl) ?_)
   | (with_reducible (first | apply condA_if | apply stepDG_ifN | apply stepDG_if | apply stepG_ifN | apply stepG_if)) <;> intro hb <;> (have hif := hb) <;> (try simp only [bo] at hif) <;> (try simp -implicitDefEqProofs (disch := omega) only [go_sem, hb]) <;> clear hb
   | simp (maxSteps := 1000000) -implicitDefEqProofs (disch := omega) only [go_sem])
 refine callp (openOrder_spec t ht o e hl) ?_
 try simp (maxSteps := 1000000) -implicitDefEqProofs (disch := omega) only [go_sem]
 repeat' (first
   | (with_reducible apply Req_intro); focus (first | omega | assumption | (simp; done))
   | with_reducible (first | apply Req_intro | refine nilT ?_ fun hn => ?_ | apply wk_draw Try_mixed | refine drawEnd (by kernel_rfl) ?_)
   | (with_reducible (first | apply condA_if | apply stepDG_ifN | apply stepDG_if | apply stepG_ifN | apply stepG_if)) <;> intro hb <;> (have hif := hb) <;> (try simp only [bo] at hif) <;> (try simp -implicitDefEqProofs (disch := omega) only [go_sem, hb]) <;> clear hb
   | simp (maxSteps := 1000000) -implicitDefEqProofs (disch := omega) only [go_sem])
 refine callf [] (rlegs_spec t o e) ?_
 try simp (maxSteps := 1000000) -implicitDefEqProofs (disch := omega) only [go_sem]
 repeat' (first
   | (with_reducible apply Req_intro); focus (first | omega | assumption | (simp; done))
   | with_reducible (first | apply Req_intro | refine nilT ?_ fun hn => ?_ | apply wk_draw Try_mixed | refine drawEnd (by kernel_rfl) ?_)
   | (with_reducible (first | apply condA_if | apply stepDG_ifN | apply stepDG_if | apply stepG_ifN | apply stepG_if)) <;> intro hb <;> (have hif := hb) <;> (try simp only [bo] at hif) <;> (try simp -implicitDefEqProofs (disch := omega) only [go_sem, hb]) <;> clear hb
   | simp (maxSteps := 1000000) -implicitDefEqProofs (disch := omega) only [go_sem])
 refine range_rows (α := Nat) [] (fun i => [(64, some ⟨1, [[.os 1088 2 i false]], 51, .wr⟩), (1088, some ⟨2, (((roads t o).take i).map Leg.comes).map encS, 33, .wr⟩)]) (fun _ => 0) (fun _ => false) (fun i y => y = i ∧ i ≤ (roads t o).length) (fun _ _ => False) 0 1152 (by first | (simp (maxSteps := 1000000) -implicitDefEqProofs (disch := omega) only [go_sem]; done) | (simp (maxSteps := 1000000) -implicitDefEqProofs (disch := omega) only [go_sem]; rfl)) (by first | (simp (maxSteps := 1000000) -implicitDefEqProofs (disch := omega) only [go_sem]; done) | (simp (maxSteps := 1000000) -implicitDefEqProofs (disch := omega) only [go_sem]; rfl)) (legs_it t ht.leg o e hl) ?_ ?_ ?_ ?_ ?_ ?_ ?_ ?_ ?_ ?_ ?_ ?_ ?_
 · first | assumption | (simp only [go_sem] <;> assumption) | (simp only [go_sem, *]; done) | (simp [go_sem]; done)
 · intro y hy
   rw [List.mem_map] at hy
   obtain ⟨w, _, rfl⟩ := hy
   rfl
 · simp only [List.take_zero, List.map_nil]
   exact weak_do [(1088, 1000000)]
 · rfl
 · rfl
 · exact ⟨rfl, Nat.zero_le _⟩
 · repeat' (first
     | with_reducible exact idsLt_nil
     | with_reducible refine idsLt_cons ?_ ?_
     | with_reducible exact IdLt.pu _ Pu_undef
     | with_reducible exact IdLt.pu _ (Pu_lit _)
     | ((with_reducible refine IdLt.ref _ _ _ _ ?_); decide)
     | ((with_reducible refine IdLt.os _ _ _ _ ?_); decide)
     | ((with_reducible refine IdLt.pu _ ?_); first | assumption | (simp only [go_sem] <;> assumption) | (simp only [go_sem, *]; done) | (simp [go_sem]; done))
     | (with_reducible refine idLt_fn ?_ ?_)
     | (with_reducible refine idLt_agg ?_))
 · decide
 · decide
 · rintro i x y ⟨hxi, hxl⟩ hy
   subst hxi
   rw [List.getElem?_map, Option.map_eq_some_iff] at hy
   obtain ⟨w, hw, rfl⟩ := hy
   have hi := (List.getElem?_eq_some_iff.1 hw).1
   have hlen : x = (List.take x (roads t o)).length := by rw [List.length_take]; omega
   repeat' (first
     | (with_reducible apply Req_intro); focus (first | omega | assumption | (simp; done))
     | with_reducible (first | apply Req_intro | refine nilT ?_ fun hn => ?_ | apply wk_draw Try_mixed | refine drawEnd (by kernel_rfl) ?_)
     | (with_reducible (first | apply condA_if | apply stepDG_ifN | apply stepDG_if | apply stepG_ifN | apply stepG_if)) <;> intro hb <;> (have hif := hb) <;> (try simp only [bo] at hif) <;> (try simp -implicitDefEqProofs (disch := omega) only [go_sem, hb]) <;> clear hb
     | simp (maxSteps := 1000000) -implicitDefEqProofs (disch := omega) only [go_sem])
   rw [show List.map encS (List.map Leg.comes (List.take x (roads t o))) ++ [[int w.comes.1, int w.comes.2]] = List.map encS (List.map Leg.comes (List.take (x + 1) (roads t o))) from by
     rw [take_succ_getD hi, getD_default hi, show (roads t o)[x] = w from (List.getElem?_eq_some_iff.1 hw).2, List.map_append, List.map_append]; rfl]
   refine rnd_next (x + 1) ⟨rfl, hi⟩ ?_
   exact forget_do [(1088, 1536)]
 · rintro x ⟨hx, _⟩
   subst hx
   simp only [List.length_map]
   repeat' (first
     | (with_reducible apply Req_intro); focus (first | omega | assumption | (simp; done))
     | with_reducible (first | apply Req_intro | refine nilT ?_ fun hn => ?_ | apply wk_draw Try_mixed | refine drawEnd (by kernel_rfl) ?_)
     | (with_reducible (first | apply condA_if | apply stepDG_ifN | apply stepDG_if | apply stepG_ifN | apply stepG_if)) <;> intro hb <;> (have hif := hb) <;> (try simp only [bo] at hif) <;> (try simp -implicitDefEqProofs (disch := omega) only [go_sem, hb]) <;> clear hb
     | simp (maxSteps := 1000000) -implicitDefEqProofs (disch := omega) only [go_sem])
   simp only [List.take_length]
   exact rett [1088]
 · exact fun x h => h.elim
 · exact fun id x h => h.elim
end Go.Aw
end
section
set_option maxRecDepth 20000
set_option maxHeartbeats 4000000
namespace Go.Aw
open Go.RowKit Go.Proofs
theorem oakSpan_spec (a b : Int) : Ct Try.prog 16 [int a, int b] (.agg (encS (a, b))) := by
 refine ct_enterZ Try.func16 rfl (by decide) Try.results16 Try.ntmps16 ?_ rfl (by simp (maxSteps := 1000000) -implicitDefEqProofs (disch := omega) only [go_sem]; rfl) fun base => ?_
 · first | assumption | (simp only [go_sem] <;> assumption) | (simp only [go_sem, *]; done) | (simp [go_sem]; done)
 repeat' (first
   | (with_reducible apply Req_intro); focus (first | omega | assumption | (simp; done))
   | with_reducible (first | apply Req_intro | refine nilT ?_ fun hn => ?_ | apply wk_draw Try_mixed | refine drawEnd (by kernel_rfl) ?_)
   | (with_reducible (first | apply condA_if | apply stepDG_ifN | apply stepDG_if | apply stepG_ifN | apply stepG_if)) <;> intro hb <;> (have hif := hb) <;> (try simp only [bo] at hif) <;> (try simp -implicitDefEqProofs (disch := omega) only [go_sem, hb]) <;> clear hb
   | simp (maxSteps := 1000000) -implicitDefEqProofs (disch := omega) only [go_sem])
 exact retz []
def boxRows0 (s : Int × Int) : List (Nat × Option Blk) := [(0, some ⟨1, [[.os 192 2 1 false]], 71, .wr⟩), (64, some ⟨2, [], 33, .wr⟩), (192, some ⟨2, [encS s], 33, .wr⟩)]
def billRows0 (n : Int) (s : Int × Int) : List (Nat × Option Blk) := [(0, some ⟨2, [[int n, .os 256 2 1 false]], 75, .wr⟩), (128, some ⟨2, [], 33, .wr⟩), (256, some ⟨2, [encS s], 33, .wr⟩)]
def oneTo (m k : Nat) : Nat := if k = 0 then m else k + 1000000
theorem oakInts_spec (a b : List Int) (ea eb : Bool) (ha : a.length ≤ 1000000) (hb : b.length ≤ 1000000) : Ct Try.prog 25 [.sl 1 (a.map encI) ea, .sl 1 (b.map encI) eb] (.lit (.bool (a == b))) := by
 refine fn_enter Try.func25 rfl (by decide) Try.results25 Try.ntmps25 ?_ rfl (by simp (maxSteps := 1000000) -implicitDefEqProofs (disch := omega) only [go_sem]; rfl) fun base => ?_
 · simp
 repeat' (first
   | (with_reducible apply Req_intro); focus (first | omega | assumption | (simp; done))
   | with_reducible (first | apply Req_intro | refine nilT ?_ fun hn => ?_ | apply wk_draw Try_mixed | refine drawEnd (by kernel_rfl) ?_)
   | (with_reducible (first | apply condA_if | apply stepDG_ifN | apply stepDG_if | apply stepG_ifN | apply stepG_if)) <;> intro hb <;> (have hif := hb) <;> (try simp only [bo] at hif) <;> (try simp -implicitDefEqProofs (disch := omega) only [go_sem, hb]) <;> clear hb
   | simp (maxSteps := 1000000) -implicitDefEqProofs (disch := omega) only [go_sem])
 · refine ret_do ?_
   have : (a == b) = false := by rw [beq_eq_false_iff_ne]; intro e; subst e; exact hif rfl
   rw [this]; rfl
 refine loop_at (α := Nat) [4, 5, 11, 12, 13, 14, 15, 16, 17, 18, 19, 20, 21, 22, 23, 24, 25] (fun i => [(5, .lit (.int .i64 i))]) (fun i => i ≤ a.length ∧ a.take i = b.take i) (fun i => a.length - i) 0 (fun x => by simp (maxSteps := 1000000) -implicitDefEqProofs (disch := omega) only [go_sem]; rfl) ?_ ?_ fun x hx => ?_
 · exact weak_do []
 · simp
 obtain ⟨hi, he⟩ := hx
 repeat' (first
   | (with_reducible apply Req_intro); focus (first | omega | assumption | (simp; done))
   | with_reducible (first | apply Req_intro | refine nilT ?_ fun hn => ?_ | apply wk_draw Try_mixed | refine drawEnd (by kernel_rfl) ?_)
   | (with_reducible (first | apply condA_if | apply stepDG_ifN | apply stepDG_if | apply stepG_ifN | apply stepG_if)) <;> intro hb <;> (have hif := hb) <;> (try simp only [bo] at hif) <;> (try simp -implicitDefEqProofs (disch := omega) only [go_sem, hb]) <;> clear hb
   | simp (maxSteps := 1000000) -implicitDefEqProofs (disch := omega) only [go_sem])
 · refine ret_do ?_
   have : (a == b) = false := by rw [beq_eq_false_iff_ne]; intro e; subst e; exact hif rfl
   rw [this]; rfl
 · refine nxt_w (x + 1) (weak_do []) ?_
   try dsimp only
   refine ⟨by omega, ?_⟩
   rw [take_succ_getD (by omega), take_succ_getD (by omega), he, hif]
 · refine ret_do ?_
   have : a = b := by
     rw [List.take_of_length_le (by omega), List.take_of_length_le (by omega)] at he; exact he
   subst this; simp; rfl
def rotR (l : List Int) (f : Nat) : List Int := (List.range l.length).map fun i => l.getD ((i + f) % l.length) default
theorem rotR_len (l : List Int) (f : Nat) : (rotR l f).length = l.length := by simp [rotR]
theorem range_map_succ {α : Type} (f : Nat → α) (n : Nat) : (List.range (n + 1)).map f = (List.range n).map f ++ [f n] := by rw [List.range_succ, List.map_append]; rfl
theorem oakOrder_spec (o : List Int) (e : Bool) (f : Nat) (ho : o.length ≤ 1000) (hf : f ≤ 255) : Ct Try.prog 13 [.sl 1 (o.map encI) e, int f] (.sl 1 ((rotR o f).map encI) false) := by
 refine fn_enter Try.func13 rfl (by decide) Try.results13 Try.ntmps13 ?_ rfl (by simp (maxSteps := 1000000) -implicitDefEqProofs (disch := omega) only [go_sem]; rfl) fun base => ?_
 · first | assumption | (simp only [go_sem] <;> assumption) | (simp only [go_sem, *]; done) | (simp [go_sem]; done)
 repeat' (first
   | (with_reducible apply Req_intro); focus (first | omega | assumption | (simp; done))
   | with_reducible (first | apply Req_intro | refine nilT ?_ fun hn => ?_ | apply wk_draw Try_mixed | refine drawEnd (by kernel_rfl) ?_)
   | (with_reducible (first | apply condA_if | apply stepDG_ifN | apply stepDG_if | apply stepG_ifN | apply stepG_if)) <;> intro hb <;> (have hif := hb) <;> (try simp only [bo] at hif) <;> (try simp -implicitDefEqProofs (disch := omega) only [go_sem, hb]) <;> clear hb
   | simp (maxSteps := 1000000) -implicitDefEqProofs (disch := omega) only [go_sem])
 refine loop_rows (α := Nat) (7 :: [5, 6, 8, 9, 10, 11, 12, 13, 14, 15, 16, 17, 18, 19, 20, 21, 22, 23, 24, 25]) (fun i => [(5, .os 128 1 i false), (6, .lit (.int .i64 i))]) (fun i => [(128, some ⟨1, ((List.range i).map fun j => o.getD ((j + f) % o.length) default).map encI, 3, .wr⟩)]) (fun i => i ≤ o.length) (fun i => o.length - i) 0 (fun x => by simp (maxSteps := 1000000) -implicitDefEqProofs (disch := omega) only [go_sem]; rfl) ?_ ?_ fun x hx => ?_
 · exact weak_do3 [(128, 64)]
 · exact Nat.zero_le _
 by_cases hlt : x < o.length
 · have hm : (x + f) % o.length < o.length := Nat.mod_lt _ (by omega)
   have e0 : ((x : Int) + (f : Int)) % (o.length : Int) = (((x + f) % o.length : Nat) : Int) := by push_cast; rfl
   have e1 : (List.range x).length = x := List.length_range
   repeat' (first
     | (with_reducible apply Req_intro); focus (first | omega | assumption | (simp; done))
     | with_reducible (first | apply Req_intro | refine nilT ?_ fun hn => ?_ | apply wk_draw Try_mixed | refine drawEnd (by kernel_rfl) ?_)
     | (with_reducible (first | apply condA_if | apply stepDG_ifN | apply stepDG_if | apply stepG_ifN | apply stepG_if)) <;> intro hb <;> (have hif := hb) <;> (try simp only [bo] at hif) <;> (try simp -implicitDefEqProofs (disch := omega) only [go_sem, hb, e0, e1]) <;> clear hb
     | simp (maxSteps := 1000000) -implicitDefEqProofs (disch := omega) only [go_sem, e0, e1])
   all_goals first | (exfalso; omega) | omega | skip
   rw [show (List.range x).map (fun j => o.getD ((j + f) % o.length) default) ++ [o.getD ((x + f) % o.length) default] = (List.range (x + 1)).map (fun j => o.getD ((j + f) % o.length) default) from (range_map_succ _ x).symm]
   with_reducible refine nxt_w (x + 1) ?_ ?_
   · (try dsimp only)
     skip
     exact weak_do3 [(128, 1216)]
   try dsimp only
   omega
 · obtain rfl : x = o.length := by omega
   have hrl := rotR_len o f
   rw [show (List.range o.length).map (fun j => o.getD ((j + f) % o.length) default) = rotR o f from rfl]
   repeat' (first
     | (with_reducible apply Req_intro); focus (first | omega | assumption | (simp; done))
     | with_reducible (first | apply Req_intro | refine nilT ?_ fun hn => ?_ | apply wk_draw Try_mixed | refine drawEnd (by kernel_rfl) ?_)
     | (with_reducible (first | apply condA_if | apply stepDG_ifN | apply stepDG_if | apply stepG_ifN | apply stepG_if)) <;> intro hb <;> (have hif := hb) <;> (try simp only [bo] at hif) <;> (try simp -implicitDefEqProofs (disch := omega) only [go_sem, hb]) <;> clear hb
     | simp (maxSteps := 1000000) -implicitDefEqProofs (disch := omega) only [go_sem])
   all_goals first | (exfalso; omega) | omega | skip
   exact retf [128] [4] [.sl 1 ((rotR o f).map encI) false]
def cntW (way : List Int) (n i : Nat) : List Int := (List.range n).map fun (c : Nat) => (((way.take i).count (c : Int) : Nat) : Int)
end Go.Aw
end
section
set_option maxRecDepth 20000
set_option maxHeartbeats 4000000
namespace Go.Aw
open Go.RowKit Go.Proofs
abbrev u8r (n : Int) : V := .lit (.int .u8 n)
def bytC (rb : List Int) : List V := rb.map fun n => u8r n
@[go_sem] theorem bytC_len (rb : List Int) : (bytC rb).length = rb.length := by simp [bytC]
@[go_sem] theorem bytC_pu (rb : List Int) : PuL (bytC rb) = True := by
 simp only [PuL, eq_iff_iff, iff_true, bytC]
 intro e he
 obtain ⟨c, _, rfl⟩ := List.mem_map.1 he
 exact Pu_lit _
def bytR (rb : List Int) (i : Nat) : List V := (bytC rb).drop (i + 1)
@[go_sem] theorem bytC_drop (rb : List Int) (i : Nat) (h : i < rb.length) : (bytC rb).drop i = u8r (rb.getD i 0) :: bytR rb i := by
 unfold bytC bytR
 rw [List.drop_eq_getElem_cons (by simpa using h)]
 simp [List.getD_eq_getElem?_getD, List.getElem?_eq_getElem h, bytC]
def at61 (rb : List Int) (i : Nat) : Int := rb.getD i 0
def lowR (rb : List Int) (i k : Nat) : Int := rb.getD (i * 7 + k) 0 % 100
def cellM (rb : List Int) (i k : Nat) : Int × Int := if i = k then (0, 0) else (lowR rb i k, lowR rb i k + rb.getD (k * 7 + i) 0 % 5)
def rowM (rb : List Int) (n i k : Nat) : List (Int × Int) := (List.range k).map (cellM rb i)
def plM (rb : List Int) (br fe : List Int) (i : Nat) : Pl := ⟨rb.getD (49 + i * 2) 0, 5000, rb.getD (49 + i * 2 + 1) 0 % 60, br.getD i default, fe.getD i default⟩
def mTo (rb : List Int) (n i : Nat) : List (List (Int × Int)) := (List.range i).map fun j => rowM rb n j n
def pTo (rb br fe : List Int) (i : Nat) : List Pl := (List.range i).map (plM rb br fe)
theorem mTo_len (rb : List Int) (n i : Nat) : (mTo rb n i).length = i := by simp [mTo]
theorem pTo_len (rb br fe : List Int) (i : Nat) : (pTo rb br fe i).length = i := by simp [pTo]
theorem mTo_succ (rb : List Int) (n i : Nat) : mTo rb n (i + 1) = mTo rb n i ++ [rowM rb n i n] := range_map_succ _ _
theorem pTo_succ (rb br fe : List Int) (i : Nat) : pTo rb br fe (i + 1) = pTo rb br fe i ++ [plM rb br fe i] := range_map_succ _ _
def taskR (rb br fe : List Int) (holds : Int) : Task := ⟨mTo rb (br.length + 1) (br.length + 1), pTo rb br fe br.length, holds, 0, 5000⟩
@[go_sem] theorem take_map_P (l : List Pl) (n : Nat) (h : l.length = n) : (l.map encP).take n = l.map encP := List.take_of_length_le (by simp; omega)
@[go_sem] theorem rowOk_five (a b c d e : V) : rowOk [[a, b, c, d, e]] = (a.cell = true ∧ b.cell = true ∧ c.cell = true ∧ d.cell = true ∧ e.cell = true) := by simp [rowOk]
structure Byt (rb : List Int) : Prop where
 n : rb.length = 61
 b : ∀ i, 0 ≤ rb.getD i 0 ∧ rb.getD i 0 ≤ 255
theorem rowM_succ (rb : List Int) (n i k : Nat) : rowM rb n i (k + 1) = rowM rb n i k ++ [cellM rb i k] := by rw [rowM, rowM, List.range_succ, List.map_append]; rfl
theorem task_spec (rb br fe : List Int) (eb ef : Bool) (holds : Int) (hr : Byt rb) (h6 : br.length ≤ 6) (hf : fe.length = br.length) :
   Ct Try.prog 8 [.agg (bytC rb), .sl 1 (br.map encI) eb, .sl 1 (fe.map encI) ef, int holds] (encT (taskR rb br fe holds)) := by
 obtain ⟨h61, hby⟩ := hr
 refine ct_enterZ Try.func8 rfl (by decide) Try.results8 Try.ntmps8 ?_ rfl (by simp (maxSteps := 1000000) -implicitDefEqProofs (disch := omega) only [go_sem]; rfl) fun base => ?_
 · first | assumption | (simp only [go_sem] <;> assumption) | (simp only [go_sem, *]; done) | (simp [go_sem]; done)
 repeat' (first
   | (with_reducible apply Req_intro); focus (first | omega | assumption | (simp; done))
   | with_reducible (first | apply Req_intro | refine nilT ?_ fun hn => ?_ | apply wk_draw Try_mixed | refine drawEnd (by kernel_rfl) ?_)
   | (with_reducible (first | apply condA_if | apply stepDG_ifN | apply stepDG_if | apply stepG_ifN | apply stepG_if)) <;> intro hb <;> (have hif := hb) <;> (try simp only [bo] at hif) <;> (try simp -implicitDefEqProofs (disch := omega) only [go_sem, hb]) <;> clear hb
   | simp (maxSteps := 1000000) -implicitDefEqProofs (disch := omega) only [go_sem])
 refine loop_rows (α := Nat) ([11, 12, 13, 14, 21, 22, 23, 24, 25, 26, 27, 28, 29, 30, 31, 32, 33, 34, 35, 36, 37, 38, 39, 40, 41, 42, 43, 44, 45, 46, 47, 48, 49, 50, 51, 52, 53, 54, 55, 56, 57, 58, 59, 60, 61, 62, 63, 64, 65, 66, 67]) (fun i => [(11, .lit (.int .i64 i))]) (fun i => [(0, some ⟨61, [bytC rb], 27, .wr⟩), (64, some ⟨5, [[nilV, nilV, int 0, int 0, int 0]], 40, .wr⟩), (448, some ⟨5, [[.os 65 1 i false, nilV, int holds, int 0, int 5000]], 40, .wr⟩), (65, some ⟨1, (mTo rb (br.length + 1) i).map encB, 51, .wr⟩)]) (fun i => i ≤ br.length + 1) (fun i => br.length + 1 - i) 0 (fun x => by simp (maxSteps := 1000000) -implicitDefEqProofs (disch := omega) only [go_sem]; rfl) ?_ ?_ fun x hx => ?_
 · simp only [mTo, List.range_zero, List.map_nil]
   exact weak_do3 [(65, 1000000)]
 · exact Nat.zero_le _
 revert x
 intro i hi
 by_cases hlt : i < br.length + 1
 · repeat' (first
     | (with_reducible apply Req_intro); focus (first | omega | assumption | (simp; done))
     | with_reducible (first | apply Req_intro | refine nilT ?_ fun hn => ?_ | apply wk_draw Try_mixed | refine drawEnd (by kernel_rfl) ?_)
     | (with_reducible (first | apply condA_if | apply stepDG_ifN | apply stepDG_if | apply stepG_ifN | apply stepG_if)) <;> intro hb <;> (have hif := hb) <;> (try simp only [bo] at hif) <;> (try simp -implicitDefEqProofs (disch := omega) only [go_sem, hb]) <;> clear hb
     | simp (maxSteps := 1000000) -implicitDefEqProofs (disch := omega) only [go_sem])
   all_goals first | (exfalso; omega) | omega | skip
   refine loop_rows (α := Nat) (26 :: [12, 13, 14, 27, 28, 29, 30, 31, 32, 33, 34, 35, 36, 37, 38, 39, 40, 41, 42, 43, 44, 45, 46, 47, 48, 49, 50, 51, 52, 53, 54, 55, 56, 57, 58, 59, 60, 61]) (fun k => [(12, .os 66 2 k false), (13, .lit (.int .i64 k))]) (fun k => [(0, some ⟨61, [bytC rb], 27, .wr⟩), (64, some ⟨5, [[nilV, nilV, int 0, int 0, int 0]], 40, .wr⟩), (448, some ⟨5, [[.os 65 1 i false, nilV, int holds, int 0, int 5000]], 40, .wr⟩), (65, some ⟨1, (mTo rb (br.length + 1) i).map encB, 51, .wr⟩), (66, some ⟨2, (rowM rb (br.length + 1) i k).map encS, 33, .wr⟩)]) (fun k => k ≤ br.length + 1) (fun k => br.length + 1 - k) 0 (fun x => by simp (maxSteps := 1000000) -implicitDefEqProofs (disch := omega) only [go_sem]; rfl) ?_ ?_ fun x hx => ?_
   · simp only [rowM, List.range_zero, List.map_nil]
     exact weak_do3 [(66, 896)]
   · exact Nat.zero_le _
   have hrm : (rowM rb (br.length + 1) i x).length = x := by simp [rowM]
   have hrx : (mTo rb (br.length + 1) i).length = i := mTo_len ..
   by_cases hlt2 : x < br.length + 1
   · have hb1 := hby (i * 7 + x)
     have hb2 := hby (x * 7 + i)
     repeat' (first
       | (with_reducible apply Req_intro); focus (first | omega | assumption | (simp; done))
       | with_reducible (first | apply Req_intro | refine nilT ?_ fun hn => ?_ | apply wk_draw Try_mixed | refine drawEnd (by kernel_rfl) ?_)
       | (with_reducible (first | apply condA_if | apply stepDG_ifN | apply stepDG_if | apply stepG_ifN | apply stepG_if)) <;> intro hb <;> (have hif := hb) <;> (try simp only [bo] at hif) <;> (try simp -implicitDefEqProofs (disch := omega) only [go_sem, hb, Nat.mul_one]) <;> clear hb
       | simp (maxSteps := 1000000) -implicitDefEqProofs (disch := omega) only [go_sem, Nat.mul_one])
     all_goals first | (exfalso; omega) | omega | skip
     · subst hif
       rw [show List.map encS (rowM rb (br.length + 1) i i) ++ [[V.lit (Value.int IntKind.i64 0), V.lit (Value.int IntKind.i64 0)]] = List.map encS (rowM rb (br.length + 1) i (i + 1)) from by rw [rowM_succ, List.map_append, cellM, if_pos rfl]; rfl]
       with_reducible refine nxt_w (i + 1) ?_ ?_
       · (try dsimp only)
         skip
         exact weak_do3 [(66, 2240)]
       try dsimp only
       omega
     · refine callp (oakSpan_spec _ _) ?_
       try simp (maxSteps := 1000000) -implicitDefEqProofs (disch := omega) only [go_sem]
       repeat' (first
         | (with_reducible apply Req_intro); focus (first | omega | assumption | (simp; done))
         | with_reducible (first | apply Req_intro | refine nilT ?_ fun hn => ?_ | apply wk_draw Try_mixed | refine drawEnd (by kernel_rfl) ?_)
         | (with_reducible (first | apply condA_if | apply stepDG_ifN | apply stepDG_if | apply stepG_ifN | apply stepG_if)) <;> intro hb <;> (have hif := hb) <;> (try simp only [bo] at hif) <;> (try simp -implicitDefEqProofs (disch := omega) only [go_sem, hb]) <;> clear hb
         | simp (maxSteps := 1000000) -implicitDefEqProofs (disch := omega) only [go_sem])
       all_goals first | (exfalso; omega) | omega | skip
       rw [show List.map encS (rowM rb (br.length + 1) i x) ++ [[V.lit (Value.int IntKind.i64 (rb.getD (i * 7 + x) 0 % 100)), V.lit (Value.int IntKind.i64 (rb.getD (i * 7 + x) 0 % 100 + rb.getD (x * 7 + i) 0 % 5))]] = List.map encS (rowM rb (br.length + 1) i (x + 1)) from by rw [rowM_succ, List.map_append, cellM, if_neg hif]; rfl]
       with_reducible refine nxt_w (x + 1) ?_ ?_
       · (try dsimp only)
         skip
         exact weak_do3 [(66, 2944)]
       try dsimp only
       omega
   · obtain rfl : x = br.length + 1 := by omega
     repeat' (first
       | (with_reducible apply Req_intro); focus (first | omega | assumption | (simp; done))
       | with_reducible (first | apply Req_intro | refine nilT ?_ fun hn => ?_ | apply wk_draw Try_mixed | refine drawEnd (by kernel_rfl) ?_)
       | (with_reducible (first | apply condA_if | apply stepDG_ifN | apply stepDG_if | apply stepG_ifN | apply stepG_if)) <;> intro hb <;> (have hif := hb) <;> (try simp only [bo] at hif) <;> (try simp -implicitDefEqProofs (disch := omega) only [go_sem, hb, List.length_range]) <;> clear hb
       | simp (maxSteps := 1000000) -implicitDefEqProofs (disch := omega) only [go_sem, List.length_range])
     all_goals first | (exfalso; omega) | omega | skip
     refine nxt_snapRow [66] 1536 (es' := (mTo rb (br.length + 1) (i + 1)).map encB) (by first | (simp only [go_sem]; done) | (simp only [go_sem]; rfl)) (by rfl) ?_ (by first | assumption | (simp only [go_sem] <;> assumption) | (simp only [go_sem, *]; done) | (simp [go_sem]; done)) (by first | (simp only [go_sem]; done) | (simp only [go_sem]; rfl)) ?_
     · rw [show (mTo rb (br.length + 1) (i + 1)).map encB = (mTo rb (br.length + 1) i).map encB ++ [encB (rowM rb (br.length + 1) i (br.length + 1))] from by rw [mTo_succ, List.map_append]; simp only [List.map_cons, List.map_nil]]
       refine PurE.snocR (by first | assumption | (simp only [go_sem] <;> assumption) | (simp only [go_sem, *]; done) | (simp [go_sem]; done)) ?_
       rw [show encB (rowM rb (br.length + 1) i (br.length + 1)) = [.sl 2 ((rowM rb (br.length + 1) i (br.length + 1)).map encS) false] from rfl]
       (try simp (maxSteps := 1000000) -implicitDefEqProofs (disch := omega) only [go_sem])
       repeat' (first
         | with_reducible (first | exact PurI.nil | exact Pur.nilsl _ _ | exact PurE.nil)
         | (with_reducible (first | refine PurI.puL ?_ | refine PurE.puE ?_)) <;> (first | assumption | (simp only [go_sem] <;> assumption) | (simp only [go_sem, *]; done) | (simp [go_sem]; done))
         | with_reducible apply PurI.cons
         | (with_reducible refine Pur.pu _ ?_) <;> (first | assumption | (simp only [go_sem] <;> assumption) | (simp only [go_sem, *]; done) | (simp [go_sem]; done))
         | ((with_reducible apply Pur.refR) <;> (first | rfl | decide | (simp only [go_sem]; omega) | (simp only [go_sem]) | skip))
         | ((with_reducible apply Pur.osR) <;> (first | rfl | exact fun h => h | omega | (simp; omega) | (simp; done) | (simp only [go_sem]) | skip))
         | with_reducible (first | apply Pur.fnI | apply Pur.aggI | apply PurE.cons)
         | (with_reducible refine PurI.eqL ?_ ?_); (focus rfl); (focus (first | assumption | (simp only [go_sem] <;> assumption) | (simp only [go_sem, *]; done) | (simp [go_sem]; done)))
         | simp (maxSteps := 1000000) -implicitDefEqProofs (disch := omega) only [go_sem])
     with_reducible refine nxt_w (i + 1) ?_ ?_
     · (try dsimp only)
       skip
       exact weak_do3 [(65, 1536)]
     try dsimp only
     omega
 · obtain rfl : i = br.length + 1 := by omega
   repeat' (first
     | (with_reducible apply Req_intro); focus (first | omega | assumption | (simp; done))
     | with_reducible (first | apply Req_intro | refine nilT ?_ fun hn => ?_ | apply wk_draw Try_mixed | refine drawEnd (by kernel_rfl) ?_)
     | (with_reducible (first | apply condA_if | apply stepDG_ifN | apply stepDG_if | apply stepG_ifN | apply stepG_if)) <;> intro hb <;> (have hif := hb) <;> (try simp only [bo] at hif) <;> (try simp -implicitDefEqProofs (disch := omega) only [go_sem, hb]) <;> clear hb
     | simp (maxSteps := 1000000) -implicitDefEqProofs (disch := omega) only [go_sem])
   all_goals first | (exfalso; omega) | omega | skip
   refine loop_rows (α := Nat) ([15, 68, 69, 70, 71, 72, 73, 74, 75, 76, 77, 78, 79, 80, 81, 82, 83, 84, 85, 86, 87, 88, 89, 90, 91, 92, 93, 94, 95, 96, 97, 98, 99, 100]) (fun i => [(15, .lit (.int .i64 i))]) (fun i => [(0, some ⟨61, [bytC rb], 27, .wr⟩), (64, some ⟨5, [[nilV, nilV, int 0, int 0, int 0]], 40, .wr⟩), (448, some ⟨5, [[.os 65 1 (br.length + 1) false, .os 67 5 i false, int holds, int 0, int 5000]], 40, .wr⟩), (65, some ⟨1, (mTo rb (br.length + 1) (br.length + 1)).map encB, 51, .wr⟩), (67, some ⟨5, (pTo rb br fe i).map encP, 101, .wr⟩)]) (fun i => i ≤ br.length) (fun i => br.length - i) 0 (fun x => by simp (maxSteps := 1000000) -implicitDefEqProofs (disch := omega) only [go_sem]; rfl) ?_ ?_ fun x hx => ?_
   · simp only [pTo, List.range_zero, List.map_nil]
     exact weak_do3 [(67, 1000000)]
   · exact Nat.zero_le _
   have hrx : (pTo rb br fe x).length = x := pTo_len ..
   by_cases hlt : x < br.length
   · have hb1 := hby (49 + x * 2)
     have hb2 := hby (49 + x * 2 + 1)
     repeat' (first
       | (with_reducible apply Req_intro); focus (first | omega | assumption | (simp; done))
       | with_reducible (first | apply Req_intro | refine nilT ?_ fun hn => ?_ | apply wk_draw Try_mixed | refine drawEnd (by kernel_rfl) ?_)
       | (with_reducible (first | apply condA_if | apply stepDG_ifN | apply stepDG_if | apply stepG_ifN | apply stepG_if)) <;> intro hb <;> (have hif := hb) <;> (try simp only [bo] at hif) <;> (try simp -implicitDefEqProofs (disch := omega) only [go_sem, hb, List.length_range]) <;> clear hb
       | simp (maxSteps := 1000000) -implicitDefEqProofs (disch := omega) only [go_sem, List.length_range])
     all_goals first | (exfalso; omega) | omega | skip
     rw [show (pTo rb br fe x).map encP ++ [[V.lit (Value.int IntKind.i64 (rb.getD (49 + x * 2) 0)), V.lit (Value.int IntKind.i64 5000), V.lit (Value.int IntKind.i64 (rb.getD (49 + x * 2 + 1) 0 % 60)), V.lit (Value.int IntKind.i64 (br.getD x default)), V.lit (Value.int IntKind.i64 (fe.getD x default))]] = (pTo rb br fe (x + 1)).map encP from by rw [pTo_succ, List.map_append]; simp only [List.map_cons, List.map_nil, encP, plM]]
     with_reducible refine nxt_w (x + 1) ?_ ?_
     · (try dsimp only)
       skip
       exact weak_do3 [(67, 2816)]
     try dsimp only
     omega
   · obtain rfl : x = br.length := by omega
     repeat' (first
       | (with_reducible apply Req_intro); focus (first | omega | assumption | (simp; done))
       | with_reducible (first | apply Req_intro | refine nilT ?_ fun hn => ?_ | apply wk_draw Try_mixed | refine drawEnd (by kernel_rfl) ?_)
       | (with_reducible (first | apply condA_if | apply stepDG_ifN | apply stepDG_if | apply stepG_ifN | apply stepG_if)) <;> intro hb <;> (have hif := hb) <;> (try simp only [bo] at hif) <;> (try simp -implicitDefEqProofs (disch := omega) only [go_sem, hb]) <;> clear hb
       | simp (maxSteps := 1000000) -implicitDefEqProofs (disch := omega) only [go_sem])
     all_goals first | (exfalso; omega) | omega | skip
     have hm1 := mTo_len rb (br.length + 1) (br.length + 1)
     simp only [taskR]
     exact retz [65, 67]
end Go.Aw
end
section
set_option maxRecDepth 20000
set_option maxHeartbeats 4000000
namespace Go.Aw
open Go.RowKit Go.Proofs
theorem mTo_get {rb : List Int} {n i j : Nat} (h : j < i) : (mTo rb n i).getD j default = rowM rb n j n := by
 rw [getD_default (by rw [mTo_len]; exact h)]; simp [mTo]
theorem rowM_len (rb : List Int) (n i k : Nat) : (rowM rb n i k).length = k := by simp [rowM]
theorem rowM_get {rb : List Int} {n i k j : Nat} (h : j < k) : (rowM rb n i k).getD j default = cellM rb i j := by
 rw [getD_default (by rw [rowM_len]; exact h)]; simp [rowM]
theorem pTo_get {rb br fe : List Int} {i j : Nat} (h : j < i) : (pTo rb br fe i).getD j default = plM rb br fe j := by
 rw [getD_default (by rw [pTo_len]; exact h)]; simp [pTo]
theorem taskR_n (rb br fe : List Int) (holds : Int) : (taskR rb br fe holds).ps.length = br.length := pTo_len ..
theorem taskR_ok {rb br fe : List Int} {holds : Int} (hr : Byt rb) (h6 : br.length ≤ 6) (hf : fe.length = br.length) (hb : ∀ x ∈ br, 0 ≤ x ∧ x ≤ 100) (hfe : ∀ x ∈ fe, 0 ≤ x ∧ x ≤ 100) (hh : 0 ≤ holds ∧ holds ≤ 1000) : TaskOk (taskR rb br fe holds) := by
 refine ⟨by rw [taskR_n]; omega, ?_, ?_, ?_, ?_, ?_, hh, ⟨Int.le_refl _, by show (0 : Int) ≤ 5000; decide⟩, by show (5000 : Int) ≤ 5000; decide⟩
 · rw [taskR_n]; exact mTo_len ..
 · intro r h
   obtain ⟨j, _, rfl⟩ := List.mem_map.1 (show r ∈ (List.range (br.length + 1)).map fun j => rowM rb (br.length + 1) j (br.length + 1) from h)
   rw [taskR_n, rowM_len]
 · intro r h s hs
   obtain ⟨j, _, rfl⟩ := List.mem_map.1 (show r ∈ (List.range (br.length + 1)).map fun j => rowM rb (br.length + 1) j (br.length + 1) from h)
   obtain ⟨k, _, rfl⟩ := List.mem_map.1 (show s ∈ (List.range (br.length + 1)).map (cellM rb j) from hs)
   have h1 := hr.b (j * 7 + k)
   have h2 := hr.b (k * 7 + j)
   unfold cellM lowR
   split
   · simp
   · simp only; omega
 · intro i hi
   rw [taskR_n] at hi
   show ((mTo rb (br.length + 1) (br.length + 1)).getD i default).getD i default = (0, 0)
   rw [mTo_get hi, rowM_get hi, cellM, if_pos rfl]
 · intro p h
   obtain ⟨j, hj, rfl⟩ := List.mem_map.1 (show p ∈ (List.range br.length).map (plM rb br fe) from h)
   rw [List.mem_range] at hj
   have h1 := hr.b (49 + j * 2)
   have h2 := hr.b (49 + j * 2 + 1)
   have h3 := hb _ (getD_mem hj)
   have h4 := hfe _ (getD_mem (l := fe) (i := j) (by omega))
   exact ⟨by simp only [plM]; omega, by simp [plM], by simp only [plM]; omega, h3, h4⟩
def kT : Task := ⟨[[(0, 0), (10, 15)], [(10, 15), (0, 0)]], [⟨0, 60, 5, 3, 2⟩], 6, 0, 80⟩
theorem kT_ok : TaskOk kT := by
 refine ⟨by decide, by decide, by decide, by decide, ?_, ?_, by decide, by decide, by decide⟩
 · intro i hi
   have : i = 0 ∨ i = 1 := by simp [kT] at hi; omega
   rcases this with rfl | rfl <;> rfl
 · intro p hp
   simp only [kT, List.mem_singleton] at hp
   subst hp
   exact ⟨by decide, by decide, by decide, by decide, by decide⟩
theorem kT_ord : OrdOk kT.ps.length [1] := ⟨by decide, by decide⟩
theorem kT_times : (roads kT [1]).map Leg.comes = [(10, 15), (25, 35)] := by decide +kernel
theorem k_Times : Ct Try.prog 35 [encT kT, .sl 1 (([1] : List Int).map encI) true] (.tup [.sl 2 (([(10, 15), (25, 35)] : List (Int × Int)).map encS) false, int 0]) := by
 have := Times_spec kT kT_ok [1] true kT_ord
 rwa [kT_times] at this
theorem oakKnown10_spec : Ct Try.prog 12 [] (.lit (.bool true)) := by
 refine fn_enter Try.func12 rfl (by decide) Try.results12 Try.ntmps12 ?_ rfl (by simp (maxSteps := 1000000) -implicitDefEqProofs (disch := omega) only [go_sem]; rfl) fun base => ?_
 · first | assumption | (simp only [go_sem] <;> assumption) | (simp only [go_sem, *]; done) | (simp [go_sem]; done)
 repeat' (first
   | (with_reducible apply Req_intro); focus (first | omega | assumption | (simp; done))
   | with_reducible (first | apply Req_intro | refine nilT ?_ fun hn => ?_ | apply wk_draw Try_mixed | refine drawEnd (by kernel_rfl) ?_)
   | (with_reducible (first | apply condA_if | apply stepDG_ifN | apply stepDG_if | apply stepG_ifN | apply stepG_if)) <;> intro hb <;> (have hif := hb) <;> (try simp only [bo] at hif) <;> (try simp -implicitDefEqProofs (disch := omega) only [go_sem, hb]) <;> clear hb
   | simp (maxSteps := 1000000) -implicitDefEqProofs (disch := omega) only [go_sem])
 refine callp (oakSpan_spec 10 15) ?_
 try simp (maxSteps := 1000000) -implicitDefEqProofs (disch := omega) only [go_sem]
 repeat' (first
   | (with_reducible apply Req_intro); focus (first | omega | assumption | (simp; done))
   | with_reducible (first | apply Req_intro | refine nilT ?_ fun hn => ?_ | apply wk_draw Try_mixed | refine drawEnd (by kernel_rfl) ?_)
   | (with_reducible (first | apply condA_if | apply stepDG_ifN | apply stepDG_if | apply stepG_ifN | apply stepG_if)) <;> intro hb <;> (have hif := hb) <;> (try simp only [bo] at hif) <;> (try simp -implicitDefEqProofs (disch := omega) only [go_sem, hb]) <;> clear hb
   | simp (maxSteps := 1000000) -implicitDefEqProofs (disch := omega) only [go_sem])
 refine callp (oakSpan_spec 10 15) ?_
 try simp (maxSteps := 1000000) -implicitDefEqProofs (disch := omega) only [go_sem]
 repeat' (first
   | (with_reducible apply Req_intro); focus (first | omega | assumption | (simp; done))
   | with_reducible (first | apply Req_intro | refine nilT ?_ fun hn => ?_ | apply wk_draw Try_mixed | refine drawEnd (by kernel_rfl) ?_)
   | (with_reducible (first | apply condA_if | apply stepDG_ifN | apply stepDG_if | apply stepG_ifN | apply stepG_if)) <;> intro hb <;> (have hif := hb) <;> (try simp only [bo] at hif) <;> (try simp -implicitDefEqProofs (disch := omega) only [go_sem, hb]) <;> clear hb
   | simp (maxSteps := 1000000) -implicitDefEqProofs (disch := omega) only [go_sem])
 refine callf [192, 384, 448, 576, 896] k_Times ?_ (hp := ?_)
 rotate_left
 · simp only [encT, cellT, kT, encB, encS, encP, encI, List.map_cons, List.map_nil]
   (try simp (maxSteps := 1000000) -implicitDefEqProofs (disch := omega) only [go_sem])
   repeat' (first
     | with_reducible (first | exact PurI.nil | exact Pur.nilsl _ _ | exact PurE.nil)
     | (with_reducible (first | refine PurI.puL ?_ | refine PurE.puE ?_)) <;> (first | assumption | (simp only [go_sem] <;> assumption) | (simp only [go_sem, *]; done) | (simp [go_sem]; done))
     | with_reducible apply PurI.cons
     | (with_reducible refine Pur.pu _ ?_) <;> (first | assumption | (simp only [go_sem] <;> assumption) | (simp only [go_sem, *]; done) | (simp [go_sem]; done))
     | ((with_reducible apply Pur.refR) <;> (first | rfl | decide | (simp only [go_sem]; omega) | (simp only [go_sem]) | skip))
     | ((with_reducible apply Pur.osR) <;> (first | rfl | exact fun h => h | omega | (simp; omega) | (simp; done) | (simp only [go_sem]) | skip))
     | with_reducible (first | apply Pur.fnI | apply Pur.aggI | apply PurE.cons)
     | (with_reducible refine PurI.eqL ?_ ?_); (focus rfl); (focus (first | assumption | (simp only [go_sem] <;> assumption) | (simp only [go_sem, *]; done) | (simp [go_sem]; done)))
     | simp (maxSteps := 1000000) -implicitDefEqProofs (disch := omega) only [go_sem])
 try simp (maxSteps := 1000000) -implicitDefEqProofs (disch := omega) only [go_sem]
 repeat' (first
   | (with_reducible apply Req_intro); focus (first | omega | assumption | (simp; done))
   | with_reducible (first | apply Req_intro | refine nilT ?_ fun hn => ?_ | apply wk_draw Try_mixed | refine drawEnd (by kernel_rfl) ?_)
   | (with_reducible (first | apply condA_if | apply stepDG_ifN | apply stepDG_if | apply stepG_ifN | apply stepG_if)) <;> intro hb <;> (have hif := hb) <;> (try simp only [bo] at hif) <;> (try simp -implicitDefEqProofs (disch := omega) only [go_sem, hb]) <;> clear hb
   | simp (maxSteps := 1000000) -implicitDefEqProofs (disch := omega) only [go_sem])
 refine calld (oakSpan_spec 10 15) ?_
 try simp (maxSteps := 1000000) -implicitDefEqProofs (disch := omega) only [go_sem]
 repeat' (first
   | (with_reducible apply Req_intro); focus (first | omega | assumption | (simp; done))
   | with_reducible (first | apply Req_intro | refine nilT ?_ fun hn => ?_ | apply wk_draw Try_mixed | refine drawEnd (by kernel_rfl) ?_)
   | (with_reducible (first | apply condA_if | apply stepDG_ifN | apply stepDG_if | apply stepG_ifN | apply stepG_if)) <;> intro hb <;> (have hif := hb) <;> (try simp only [bo] at hif) <;> (try simp -implicitDefEqProofs (disch := omega) only [go_sem, hb]) <;> clear hb
   | simp (maxSteps := 1000000) -implicitDefEqProofs (disch := omega) only [go_sem])
 refine calld (oakSpan_spec 25 35) ?_
 try simp (maxSteps := 1000000) -implicitDefEqProofs (disch := omega) only [go_sem]
 repeat' (first
   | (with_reducible apply Req_intro); focus (first | omega | assumption | (simp; done))
   | with_reducible (first | apply Req_intro | refine nilT ?_ fun hn => ?_ | apply wk_draw Try_mixed | refine drawEnd (by kernel_rfl) ?_)
   | (with_reducible (first | apply condA_if | apply stepDG_ifN | apply stepDG_if | apply stepG_ifN | apply stepG_if)) <;> intro hb <;> (have hif := hb) <;> (try simp only [bo] at hif) <;> (try simp -implicitDefEqProofs (disch := omega) only [go_sem, hb]) <;> clear hb
   | simp (maxSteps := 1000000) -implicitDefEqProofs (disch := omega) only [go_sem])
 all_goals first | (exfalso; omega) | skip
 refine ret_do ?_
 rfl
end Go.Aw
end
section
namespace Go.Aw
open Go.RowKit
def sumK (d w : List Int) (c : Int) : Nat → Int
 | 0 => 0
 | i + 1 => if w.getD i default = c then sumK d w c i + d.getD i default else sumK d w c i
def sharpB (d : List Int) : List Box := d.map fun x => [(x, x)]
def billK (d w : List Int) (c : Int) : Bill := (cntTo w c d.length, [(sumK d w c d.length, sumK d w c d.length)])
def sharpC (d w : List Int) : List Bill := [billK d w 0, billK d w 1]
theorem k2 {c : Nat} (h : c < 2) : c = 0 ∨ c = 1 := by omega
section
variable {d w : List Int} (hd : ∀ x ∈ d, 0 ≤ x ∧ x ≤ 100) (h8 : d.length ≤ 8) (hl : w.length = d.length) (hw : InC 2 w)
include hd h8
include hl hw
omit hl hw
end
def cartL (w : List Int) (c : Int) : Nat → List Int
 | 0 => []
 | i + 1 => if w.getD i default = c then cartL w c i ++ [(i : Int) + 1] else cartL w c i
theorem rotR_perm (l : List Int) (f : Nat) : (rotR l f).Perm l := by
 rcases Nat.eq_zero_or_pos l.length with h0 | h0
 · obtain rfl := List.eq_nil_of_length_eq_zero h0
   exact .refl _
 have hk : f % l.length < l.length := Nat.mod_lt _ h0
 have e : rotR l f = l.drop (f % l.length) ++ l.take (f % l.length) := by
   refine List.ext_getElem (by rw [rotR_len, List.length_append, List.length_drop, List.length_take]; omega) fun i h1 h2 => ?_
   have hi : i < l.length := by rw [rotR_len] at h1; exact h1
   have e1 : (rotR l f)[i] = l.getD ((i + f) % l.length) default := by simp [rotR]
   rw [e1, getD_default (Nat.mod_lt _ h0), List.getElem_append]
   have e2 : (i + f) % l.length = (i + f % l.length) % l.length := by rw [Nat.add_mod, Nat.add_mod i (f % l.length), Nat.mod_mod]
   split
   · rename_i h3
     rw [List.length_drop] at h3
     rw [List.getElem_drop]
     congr 1
     rw [e2, Nat.mod_eq_of_lt (by omega)]; omega
   · rename_i h3
     rw [List.length_drop] at h3
     rw [List.getElem_take]
     congr 1
     rw [e2, List.length_drop, Nat.mod_eq_sub_mod (by omega), Nat.mod_eq_of_lt (by omega)]; omega
 rw [e]
 exact List.perm_append_comm.trans (by rw [List.take_append_drop])
theorem OrdOk.rot {n : Nat} {l : List Int} (h : OrdOk n l) (f : Nat) : OrdOk n (rotR l f) :=
 ⟨(rotR_perm l f).nodup_iff.2 h.nd, fun x hx => h.rg x ((rotR_perm l f).mem_iff.1 hx)⟩
theorem legsR_last (t : Task) : ∀ (l : List Int) (i f c : Int) (s : Int × Int), ((legsR t l i f c s).map Leg.load).getD l.length default = c + (l.map fun p => (pAt t p).fetched - (pAt t p).brought).sum
 | [], i, f, c, s => by simp [legsR]
 | p :: r, i, f, c, s => by
   rw [legsR, List.map_cons, List.length_cons, List.getD_cons_succ, legsR_last t r, List.map_cons, List.sum_cons]
   omega
theorem sum_perm {l m : List Int} (h : l.Perm m) : l.sum = m.sum := by
 induction h with
 | nil => rfl
 | cons x _ ih => rw [List.sum_cons, List.sum_cons, ih]
 | swap x y l => simp only [List.sum_cons]; omega
 | trans _ _ h1 h2 => rw [h1, h2]
theorem pAt_task {rb br fe : List Int} {holds : Int} {p : Int} (h : 1 ≤ p ∧ p ≤ br.length) : pAt (taskR rb br fe holds) p = plM rb br fe (p - 1).toNat := pTo_get (by omega)
end Go.Aw
end
section
set_option maxRecDepth 20000
set_option maxHeartbeats 4000000
namespace Go.Aw
open Go.RowKit Go.Proofs
def lossV (f h : Int) : V := .agg [int f, int h]
def breaksR (f h n : Int) : Int := n / f * h + min (n % f) h
end Go.Aw
end
section
set_option maxRecDepth 20000
set_option maxHeartbeats 4000000
namespace Go.Aw
open Go.RowKit Go.Proofs
def untilR (t : Task) (p : Int) : Int := if p = 0 then t.back else (pAt t p).due
def badL (t : Task) (g : Leg) : Bool := decide (t.holds < g.load) || decide (untilR t g.to < g.comes.2)
def timeAt (t : Task) (o : List Int) : Nat → Int
 | 0 => 0
 | i + 1 => ((roads t o).getD i default).comes.2
def goodO (t : Task) (o : List Int) : Bool := (roads t o).all fun g => !badL t g
def backR (t : Task) (o : List Int) : Int := if goodO t o then timeAt t o (roads t o).length else 0
end Go.Aw
end
section
set_option maxRecDepth 20000
set_option maxHeartbeats 4000000
namespace Go.Aw
open Go.RowKit Go.Proofs
end Go.Aw
end
section
set_option maxRecDepth 20000
set_option maxHeartbeats 4000000
namespace Go.Aw
open Go.RowKit Go.Proofs
def laterT (t : Task) (b : Int) : Task := { t with leaves := t.leaves + b }
def srch (ok : Int → Bool) : Nat → Int → Int → Int
 | 0, lo, _ => lo
 | k + 1, lo, hi => if lo < hi then (if ok ((lo + hi + 1) / 2) then srch ok k ((lo + hi + 1) / 2) hi else srch ok k lo ((lo + hi + 1) / 2 - 1)) else lo
theorem srch_end {ok : Int → Bool} {lo : Int} : ∀ k, srch ok k lo lo = lo
 | 0 => rfl
 | k + 1 => by rw [srch, if_neg (Int.lt_irrefl _)]
structure AtS (ok : Int → Bool) (R : Int) (z : Int × Int) : Prop where
 b : 0 ≤ z.1 ∧ z.1 ≤ z.2 ∧ z.2 ≤ 5000
 e : ∃ k : Nat, srch ok k z.1 z.2 = R ∧ z.2 - z.1 ≤ k
def lateR (t : Task) (o : List Int) : Int := srch (fun b => goodO (laterT t b) o) 5000 0 5000
theorem AtS.fin {ok : Int → Bool} {R lo hi : Int} (h : AtS ok R (lo, hi)) (hlt : ¬ lo < hi) : lo = R := by
 obtain ⟨hb, k, hk, hd⟩ := h
 simp only at hb hk hd
 obtain rfl : lo = hi := by omega
 rw [srch_end] at hk
 exact hk
end Go.Aw
end
section
namespace Go.Aw
open Go.RowKit
def brL (bx : List Int) (i : Nat) : List Int := (bx.take i).map fun x => x % 101
def feL (f h : Int) (bx : List Int) (i : Nat) : List Int := (bx.take i).map fun x => x % 101 - breaksR f h (x % 101)
def allN (i : Nat) : List Int := (List.range i).map fun (k : Nat) => (k : Int) + 1
def firstN (bx : List Int) (i : Nat) : Int := (brL bx i).sum
theorem allN_len (i : Nat) : (allN i).length = i := by simp [allN]
theorem allN_succ (i : Nat) : allN (i + 1) = allN i ++ [(i : Int) + 1] := range_map_succ _ _
theorem allN_ord (n : Nat) : OrdOk n (allN n) := by
 refine ⟨?_, fun x hx => ?_⟩
 · unfold allN
   rw [List.nodup_iff_pairwise_ne, List.pairwise_map]
   exact List.Pairwise.imp (fun h => by omega) (List.nodup_iff_pairwise_ne.1 List.nodup_range)
 · obtain ⟨k, hk, rfl⟩ := List.mem_map.1 hx
   have := List.mem_range.1 hk
   omega
end Go.Aw
end
