/-
  A part of the proof that a law returns true for every input that the given row speaks of: an own verified walk over the program (namespace Go.Aw), contracts of the functions that the law calls, and the law itself. Conditions: those of the given row, no other.
-/
import Derived.RangeFuncIn
import Derived.RangeFuncLeaves
import Derived.Below
import Derived.KernelRfl
import Derived.Laws.StructEq
import Derived.Laws.AppendOwn
import Derived.IntWalk
import Derived.MapKept
set_option linter.unusedVariables false
set_option linter.unusedSimpArgs false
section
namespace Go.Aw
def tab64 : List Value := [0, 1, 56, 2, 57, 49, 28, 3, 61, 58, 42, 50, 38, 29, 17, 4, 62, 47, 59, 36, 45, 43, 51, 22, 53, 39, 33, 30, 24, 18, 12, 5, 63, 55, 48, 27, 60, 41, 37, 16, 46, 35, 44, 21, 52, 32, 23, 11, 54, 26, 40, 15, 34, 20, 31, 10, 25, 14, 19, 9, 13, 8, 7, 6].map (Value.int .u8)
def globT (g : Nat) : Option (List Value) := if g = 1 then some tab64 else none
end Go.Aw
end
section
/-
 Abstract values and states over the model's worlds: what a Go value stands for (read-only slices as lists, own rows, boxes, closures), the relation between
 worlds and abstract heaps, and what a party's step may change. Own work of this claim's session.
-/
namespace Go.Aw
open Go.RowKit
inductive V where
 | undef
 | lit (v : Value)
 | agg (cs : List V)
 | sl (k : Nat) (es : List (List V)) (ex : Bool)
 | rp (cs : List V)
 | ref (id k i off : Nat)
 | os (id k n : Nat) (ex : Bool)
 | fn (f : Fn) (first cap : List V)
 | tup (vs : List V)
 | ifc (t : TypeId) (v : V)
 | mp (id : Nat)
 deriving Inhabited
def isLit : Value → Bool
 | .bool _ | .int _ _ | .string _ | .pointer none | .slice none 0 0 | .map none | .nilFunc | .nilIface => true
 | _ => false
def V.cells : V → List V
 | .agg cs => cs
 | v => [v]
def V.ok : V → Bool
 | .undef => false
 | _ => true
inductive Mode' where
 | wr | fz | old
 | mp (m : List (Int × Int))
 deriving DecidableEq, Repr, Inhabited
def Mode'.live : Mode' → Bool
 | .wr | .fz => true
 | _ => false
theorem Mode'.live_old {m : Mode'} (h : m.live = true) : m ≠ .old := fun e => by subst e; cases h
theorem Mode'.live_mp {m : Mode'} (h : m.live = true) : ∀ x, m ≠ .mp x := fun x e => by subst e; cases h
structure Blk where
 k : Nat
 es : List (List V)
 ty : TypeId
 mode : Mode'
 deriving Inhabited
abbrev Hp := Nat → Option Blk
inductive Rep (w : World) (ok : Nat → Nat → Prop) (s : Nat → Option Nat) : Value → V → Prop
 | undef (v : Value) : Rep w ok s v .undef
 | lit (v : Value) (h : isLit v = true) : Rep w ok s v (.lit v)
 | agg (vs : Array Value) (cs : List V) (hl : vs.size = cs.length) (hc : ∀ (i : Nat) (d : V) (v : Value), cs[i]? = some d → vs[i]? = some v → Rep w ok s v d) : Rep w ok s (.agg vs) (.agg cs)
 | sl (a : Option Addr) (n cap k : Nat) (es : List (List V)) (ex : Bool) (us : Nat → Nat → Value) (hn : n = es.length) (hcap : n ≤ cap) (hex : ex = true → cap = n)
     (hm : ∀ i j, i < n → j < k → ∃ b o, a = some ⟨b, o, none⟩ ∧ ok b (o + i * k + j) ∧ w.cell? ⟨b, o + i * k + j, none⟩ = some (us i j))
     (hk : ∀ e ∈ es, e.length = k) (hc : ∀ (i j : Nat) (e : List V) (d : V), es[i]? = some e → e[j]? = some d → Rep w ok s (us i j) d) : Rep w ok s (.slice a n cap) (.sl k es ex)
 | rp (b o : Nat) (cs : List V) (us : Nat → Value) (hm : ∀ j, j < cs.length → ok b (o + j) ∧ w.cell? ⟨b, o + j, none⟩ = some (us j))
     (hc : ∀ (j : Nat) (d : V), cs[j]? = some d → Rep w ok s (us j) d) : Rep w ok s (.pointer (some ⟨b, o, none⟩)) (.rp cs)
 | ref (id k i off B : Nat) (h : s id = some B) : Rep w ok s (.pointer (some ⟨B, i * k + off, none⟩)) (.ref id k i off)
 | os0 (id k : Nat) (ex : Bool) (a : Option Addr) : Rep w ok s (.slice a 0 0) (.os id k 0 ex)
 | os (id k n : Nat) (ex : Bool) (B cap : Nat) (ty sz : Nat) (h : s id = some B) (hn : n ≤ cap) (hex : ex = true → cap = n) (hsh : w.shape? B = some (ty, sz)) (hcap : cap * k ≤ sz) :
     Rep w ok s (.slice (some ⟨B, 0, none⟩) n cap) (.os id k n ex)
 | fn (f : Fn) (vs us : Array Value) (first cap : List V) (h1 : vs.size = first.length) (h2 : us.size = cap.length)
     (c1 : ∀ (i : Nat) (d : V) (v : Value), first[i]? = some d → vs[i]? = some v → Rep w ok s v d) (c2 : ∀ (i : Nat) (d : V) (v : Value), cap[i]? = some d → us[i]? = some v → Rep w ok s v d) : Rep w ok s (.func f vs us) (.fn f first cap)
 | tup (vs : Array Value) (cs : List V) (hl : vs.size = cs.length) (hc : ∀ (i : Nat) (d : V) (v : Value), cs[i]? = some d → vs[i]? = some v → Rep w ok s v d) : Rep w ok s (.tuple vs) (.tup cs)
 | ifc (t : TypeId) (v : Value) (d : V) (h : Rep w ok s v d) : Rep w ok s (.iface t v) (.ifc t d)
 | mp (id B : Nat) (h : s id = some B) : Rep w ok s (.map (some B)) (.mp id)
def isCtl : Obj → Bool
 | .loop _ | .deferred _ => true
 | _ => false
structure Evol (own : Nat → Prop) (ok : Nat → Nat → Prop) (w : World) (own' : Nat → Prop) (ok' : Nat → Nat → Prop) (w' : World) : Prop where
 os : w'.os = w.os
 tape : w'.tape = w.tape
 output : w'.output = w.output
 size : w.heap.size ≤ w'.heap.size
 unch : ∀ b, b < w.heap.size → ¬ own b → w'.heap[b]? = w.heap[b]?
 ownn : ∀ b, own' b → own b ∨ w.heap.size ≤ b
 okk : ∀ b o, ok b o → ok' b o
 okc : ∀ b o, ok b o → w'.cell? ⟨b, o, none⟩ = w.cell? ⟨b, o, none⟩
 okn : ∀ b o, ok' b o → ok b o ∨ own b ∨ w.heap.size ≤ b
 shape : ∀ b ty sz, w.shape? b = some (ty, sz) → w'.shape? b = some (ty, sz)
 ctl : ∀ (b : Nat) (o : Obj), w.heap[b]? = some o → isCtl o = true → w'.heap[b]? = some o
theorem Evol.refl (own : Nat → Prop) (ok : Nat → Nat → Prop) (w : World) : Evol own ok w own ok w :=
 ⟨rfl, rfl, rfl, Nat.le_refl _, fun _ _ _ => rfl, fun _ h => .inl h, fun _ _ h => h, fun _ _ _ => rfl, fun _ _ h => .inl h, fun _ _ _ h => h, fun _ _ h _ => h⟩
theorem Evol.trans {o1 o2 o3 : Nat → Prop} {k1 k2 k3 : Nat → Nat → Prop} {w1 w2 w3 : World}
   (h : Evol o1 k1 w1 o2 k2 w2) (g : Evol o2 k2 w2 o3 k3 w3) : Evol o1 k1 w1 o3 k3 w3 where
 os := g.os.trans h.os
 tape := g.tape.trans h.tape
 output := g.output.trans h.output
 size := Nat.le_trans h.size g.size
 unch b hb hn := by
   have h2 : ¬ o2 b := fun hh => by
     rcases h.ownn b hh with h' | h'
     · exact hn h'
     · omega
   exact (g.unch b (Nat.lt_of_lt_of_le hb h.size) h2).trans (h.unch b hb hn)
 ownn b hb := by
   rcases g.ownn b hb with h' | h'
   · exact h.ownn b h'
   · exact .inr (Nat.le_trans h.size h')
 okk b o hb := g.okk b o (h.okk b o hb)
 okc b o hb := (g.okc b o (h.okk b o hb)).trans (h.okc b o hb)
 okn b o hb := by
   rcases g.okn b o hb with h' | h' | h'
   · exact h.okn b o h'
   · rcases h.ownn b h' with h'' | h''
     · exact .inr (.inl h'')
     · exact .inr (.inr h'')
   · exact .inr (.inr (Nat.le_trans h.size h'))
 shape b ty sz hb := g.shape b ty sz (h.shape b ty sz hb)
 ctl b o hb hc := g.ctl b o (h.ctl b o hb hc) hc
theorem Rep.keep {w w' : World} {ok ok' : Nat → Nat → Prop} {s s' : Nat → Option Nat} {v : Value} {d : V} (h : Rep w ok s v d)
   (hok : ∀ b o, ok b o → ok' b o ∧ w'.cell? ⟨b, o, none⟩ = w.cell? ⟨b, o, none⟩) (hsh : ∀ b ty sz, w.shape? b = some (ty, sz) → w'.shape? b = some (ty, sz))
   (hs : ∀ id B, s id = some B → s' id = some B) : Rep w' ok' s' v d := by
 induction h with
 | undef v => exact .undef v
 | lit v h => exact .lit v h
 | agg vs cs hl _ ih => exact .agg vs cs hl ih
 | sl a n cap k es ex us hn hcap hex hm hk _ ih =>
   refine .sl a n cap k es ex us hn hcap hex (fun i j hi hj => ?_) hk ih
   obtain ⟨b, o, ha, h1, h2⟩ := hm i j hi hj
   exact ⟨b, o, ha, (hok _ _ h1).1, (hok _ _ h1).2.trans h2⟩
 | rp b o cs us hm _ ih => exact .rp b o cs us (fun j hj => ⟨(hok _ _ (hm j hj).1).1, (hok _ _ (hm j hj).1).2.trans (hm j hj).2⟩) ih
 | ref id k i off B h => exact .ref id k i off B (hs _ _ h)
 | os0 id k ex a => exact .os0 id k ex a
 | os id k n ex B cap ty sz h hn hex hshp hcap => exact .os id k n ex B cap ty sz (hs _ _ h) hn hex (hsh _ _ _ hshp) hcap
 | fn f vs us first cap h1 h2 _ _ ih1 ih2 => exact .fn f vs us first cap h1 h2 ih1 ih2
 | tup vs cs hl _ ih => exact .tup vs cs hl ih
 | ifc t v d _ ih => exact .ifc t v d ih
 | mp id B h => exact .mp id B (hs _ _ h)
theorem Rep.evol {own own' : Nat → Prop} {w w' : World} {ok ok' : Nat → Nat → Prop} {s s' : Nat → Option Nat} {v : Value} {d : V} (h : Rep w ok s v d)
   (he : Evol own ok w own' ok' w') (hs : ∀ id B, s id = some B → s' id = some B) : Rep w' ok' s' v d :=
 h.keep (fun b o hb => ⟨he.okk b o hb, he.okc b o hb⟩) he.shape hs
def entV (p : Int × Int) : Value × Value := (.int .i64 p.1, .int .i64 p.2)
def MapIs (es : Array MapEntry) (m : List (Int × Int)) : Prop := es.toList.map (fun e => (e.key, e.val)) = m.map entV
def Blk.live (b : Blk) : Prop := b.mode ≠ .old
structure BlkOk (w : World) (own : Nat → Prop) (ok : Nat → Nat → Prop) (s : Nat → Option Nat) (id : Nat) (b : Blk) : Prop where
 pos : 0 < b.k
 len : ∀ e ∈ b.es, e.length = b.k
 virt : s id = none → b.es = []
 own : ∀ B, s id = some B → b.mode ≠ .old → own B ∧ ∀ o, w.frozen? ⟨B, o, none⟩ = false
 shape : ∀ B, s id = some B → (∀ m, b.mode ≠ .mp m) → ∃ sz, w.shape? B = some (b.ty, sz) ∧ b.es.length * b.k ≤ sz
 cells : ∀ B, s id = some B → ∀ (i j : Nat) (e : List V) (d : V), b.es[i]? = some e → e[j]? = some d → ∃ u, w.cell? ⟨B, i * b.k + j, none⟩ = some u ∧ Rep w ok s u d
 fwr : ∀ B, s id = some B → b.mode = .wr → ∀ o, ¬ ok B o
 ffz : ∀ B, s id = some B → b.mode = .fz → ∀ o, ok B o ↔ o < b.es.length * b.k
 fold : ∀ B, s id = some B → b.mode = .old → ∀ o, o < b.es.length * b.k → ok B o
 mpe : ∀ m, b.mode = .mp m → b.es = []
 map : ∀ B, s id = some B → ∀ m, b.mode = .mp m → ∃ es clock, w.heap[B]? = some (.map es clock) ∧ MapIs es m
def GlobOk (w : World) (ok : Nat → Nat → Prop) : Prop := ∀ g vs, globT g = some vs → ∀ (j : Nat) (v : Value), vs[j]? = some v → ok g j ∧ w.cell? ⟨g, j, none⟩ = some v
theorem GlobOk.keep {w w' : World} {ok ok' : Nat → Nat → Prop} (h : GlobOk w ok) (hok : ∀ b o, ok b o → ok' b o ∧ w'.cell? ⟨b, o, none⟩ = w.cell? ⟨b, o, none⟩) : GlobOk w' ok' :=
 fun g vs hg j v hv => ⟨(hok g j (h g vs hg j v hv).1).1, (hok g j (h g vs hg j v hv).1).2.trans (h g vs hg j v hv).2⟩
theorem GlobOk.evol {own own' : Nat → Prop} {w w' : World} {ok ok' : Nat → Nat → Prop} (h : GlobOk w ok) (he : Evol own ok w own' ok' w') : GlobOk w' ok' :=
 h.keep fun b o hb => ⟨he.okk b o hb, he.okc b o hb⟩
structure RH (w : World) (own : Nat → Prop) (ok : Nat → Nat → Prop) (s : Nat → Option Nat) (h : Hp) : Prop where
 okw : ∀ b o, ok b o → ∃ u, w.cell? ⟨b, o, none⟩ = some u
 ownw : ∀ b, own b → b < w.heap.size
 sw : ∀ id B, s id = some B → B < w.heap.size
 blk : ∀ id b, h id = some b → BlkOk w own ok s id b
 exc : ∀ id1 id2 b1 b2 B, h id1 = some b1 → h id2 = some b2 → b1.mode ≠ .old → b2.mode ≠ .old → s id1 = some B → s id2 = some B → id1 = id2
 gl : GlobOk w ok
theorem RH.others {w w' : World} {own own2 own2' : Nat → Prop} {ok ok2 ok2' : Nat → Nat → Prop} {s : Nat → Option Nat} {h : Hp} (hr : RH w own ok s h)
   (he : Evol own2 ok2 w own2' ok2' w') (hd : ∀ b, own b → ¬ own2 b) (hx : ∀ b o, ok b o → own2 b → ok2 b o) : RH w' own ok s h := by
 have hcell : ∀ b o, ok b o → w'.cell? ⟨b, o, none⟩ = w.cell? ⟨b, o, none⟩ := fun b o hb => by
   by_cases h2 : own2 b
   · exact he.okc b o (hx b o hb h2)
   · obtain ⟨u, hu⟩ := hr.okw b o hb
     have hlt := World.block_lt_of_cell? w ⟨b, o, none⟩ hu
     exact World.cell?_of_block (w := w) (he.unch b hlt h2)
 have hkeep : ∀ {v d}, Rep w ok s v d → Rep w' ok s v d := fun hv => hv.keep (fun b o hb => ⟨hb, hcell b o hb⟩) he.shape (fun _ _ h => h)
 refine ⟨fun b o hb => ?_, fun b hb => Nat.lt_of_lt_of_le (hr.ownw b hb) he.size, fun id B hb => Nat.lt_of_lt_of_le (hr.sw id B hb) he.size, fun id b hb => ?_, hr.exc, hr.gl.keep fun b o hb => ⟨hb, hcell b o hb⟩⟩
 · obtain ⟨u, hu⟩ := hr.okw b o hb
   exact ⟨u, (hcell b o hb).trans hu⟩
 · have hbk := hr.blk id b hb
   refine ⟨hbk.pos, hbk.len, hbk.virt, fun B hB hm => ?_, fun B hB hnm => ?_, fun B hB i j e d hi hj => ?_, hbk.fwr, hbk.ffz, hbk.fold, hbk.mpe, fun B hB m hm => ?_⟩
   · have := hbk.own B hB hm
     exact ⟨this.1, fun o => (World.frozen?_of_block (w := w) (a := ⟨B, o, none⟩) (he.unch B (hr.sw id B hB) (hd B this.1))).trans (this.2 o)⟩
   · obtain ⟨sz, h1, h2⟩ := hbk.shape B hB hnm
     exact ⟨sz, he.shape B _ _ h1, h2⟩
   · obtain ⟨u, h1, h2⟩ := hbk.cells B hB i j e d hi hj
     refine ⟨u, ?_, hkeep h2⟩
     by_cases hm : b.mode = .old
     · have hi' := (List.getElem?_eq_some_iff.1 hi).1
       have hj' := (List.getElem?_eq_some_iff.1 hj).1
       have hl := hbk.len e (List.mem_of_getElem? hi)
       refine (hcell _ _ (hbk.fold B hB hm _ ?_)).trans h1
       have : (i + 1) * b.k ≤ b.es.length * b.k := Nat.mul_le_mul_right _ hi'
       rw [Nat.add_mul] at this
       omega
     · exact (World.cell?_of_block (w := w) (a := ⟨B, i * b.k + j, none⟩) (he.unch B (hr.sw id B hB) (hd B (hbk.own B hB hm).1))).trans h1
   · obtain ⟨es, ck, h1, h2⟩ := hbk.map B hB m hm
     exact ⟨es, ck, (he.unch B (hr.sw id B hB) (hd B (hbk.own B hB (by rw [hm]; intro h; cases h)).1)).trans h1, h2⟩
end Go.Aw
end
section
namespace Go.Aw
open Go.RowKit
def upd {α : Type} (f : Nat → Option α) (i : Nat) (v : Option α) : Nat → Option α := fun j => if j = i then v else f j
theorem shape_alloc_old (w : World) (o : Obj) (b : Nat) (h : b < w.heap.size) : (w.alloc o).shape? b = w.shape? b := by
 unfold World.shape?
 rw [Below.heap_alloc w o b h]
theorem shape_alloc_new (w : World) (cs : Array Value) (ty : TypeId) : (w.alloc (.cells cs ty)).shape? w.heap.size = some (ty, cs.size) := by
 simp only [World.shape?, World.alloc, Array.getElem?_push_size]
theorem cell_alloc_new (w : World) (cs : Array Value) (ty : TypeId) (o : Nat) : (w.alloc (.cells cs ty)).cell? ⟨w.heap.size, o, none⟩ = cs[o]? := World.cell?_alloc_new _ _ _ _
theorem frozen_alloc_new (w : World) (cs : Array Value) (ty : TypeId) (o : Nat) : (w.alloc (.cells cs ty)).frozen? ⟨w.heap.size, o, none⟩ = false := World.frozen?_alloc_new _ _ _ _
theorem shape_lt {w : World} {b : Nat} {x : TypeId × Nat} (h : w.shape? b = some x) : b < w.heap.size := by
 unfold World.shape? at h
 split at h
 · rename_i c e f hc
   exact (Array.getElem?_eq_some_iff.1 hc).1
 · cases h
section
variable {w : World} {own : Nat → Prop} {ok : Nat → Nat → Prop} {s : Nat → Option Nat} {h : Hp}
theorem RH.ok_lt (hr : RH w own ok s h) {b o : Nat} (hb : ok b o) : b < w.heap.size := by
 obtain ⟨u, hu⟩ := hr.okw b o hb
 exact World.block_lt_of_cell? w ⟨b, o, none⟩ hu
theorem Evol.same {w' : World} (hh : w'.heap = w.heap) (h1 : w'.os = w.os) (h2 : w'.tape = w.tape) (h3 : w'.output = w.output) : Evol own ok w own ok w' where
 os := h1
 tape := h2
 output := h3
 size := by rw [hh]; exact Nat.le_refl _
 unch b hb hn := by rw [hh]
 ownn b hb := .inl hb
 okk b o hb := hb
 okc b o hb := by unfold World.cell?; rw [hh]
 okn b o hb := .inl hb
 shape b ty sz hb := by unfold World.shape? at *; rw [hh]; exact hb
 ctl b o hb hc := by rw [hh]; exact hb
theorem RH.same {w' : World} (hr : RH w own ok s h) (hh : w'.heap = w.heap) : RH w' own ok s h := by
 have hc : ∀ a, w'.cell? a = w.cell? a := fun a => by unfold World.cell?; rw [hh]
 have hs : ∀ b, w'.shape? b = w.shape? b := fun b => by unfold World.shape?; rw [hh]
 have hf : ∀ a, w'.frozen? a = w.frozen? a := fun a => by unfold World.frozen?; rw [hh]
 have hk : ∀ {v d}, Rep w ok s v d → Rep w' ok s v d := fun hv => hv.keep (fun b o hb => ⟨hb, hc _⟩) (fun b ty sz hb => (hs b).trans hb) (fun _ _ h => h)
 refine ⟨fun b o hb => by rw [hc]; exact hr.okw b o hb, fun b hb => by rw [hh]; exact hr.ownw b hb, fun id B hb => by rw [hh]; exact hr.sw id B hb, fun id b hb => ?_, hr.exc, hr.gl.keep fun b o hb => ⟨hb, hc _⟩⟩
 have hbk := hr.blk id b hb
 refine ⟨hbk.pos, hbk.len, hbk.virt, fun B hB hm => ⟨(hbk.own B hB hm).1, fun o => by rw [hf]; exact (hbk.own B hB hm).2 o⟩, fun B hB hnm => by rw [hs]; exact hbk.shape B hB hnm, fun B hB i j e d hi hj => ?_, hbk.fwr, hbk.ffz, hbk.fold, hbk.mpe, fun B hB m hm => by rw [hh]; exact hbk.map B hB m hm⟩
 obtain ⟨u, h1, h2⟩ := hbk.cells B hB i j e d hi hj
 exact ⟨u, by rw [hc]; exact h1, hk h2⟩
theorem Evol.alloc (hr : RH w own ok s h) (id : Nat) (hs : s id = none) (o : Obj) :
   Evol own ok w (fun x => own x ∨ x = w.heap.size) ok (w.alloc o) where
 os := rfl
 tape := rfl
 output := rfl
 size := by simp
 unch b hb hn := Below.heap_alloc w o b hb
 ownn b hb := by
   rcases hb with hb | hb
   · exact .inl hb
   · exact .inr (by omega)
 okk b o hb := hb
 okc b o hb := World.cell?_alloc_lt _ _ _ (hr.ok_lt hb)
 okn b o hb := .inl hb
 shape b ty sz hb := (shape_alloc_old w o b (shape_lt hb)).trans hb
 ctl b o' hb hc := by rw [Below.heap_alloc w o b (Array.getElem?_eq_some_iff.1 hb).1]; exact hb
theorem sig_upd (id : Nat) (hs : s id = none) (B : Nat) : ∀ i C, s i = some C → upd s id (some B) i = some C := fun i C hi => by
 unfold upd
 split
 · rename_i e; subst e; rw [hs] at hi; cases hi
 · exact hi
theorem RH.alloc (hr : RH w own ok s h) (id : Nat) (hs : s id = none) (b : Blk) (hm : b.mode = .wr) (hp : 0 < b.k) (hl : ∀ e ∈ b.es, e.length = b.k) (cs : Array Value) (hsz : b.es.length * b.k ≤ cs.size)
   (hc : ∀ (i j : Nat) (e : List V) (d : V), b.es[i]? = some e → e[j]? = some d → ∃ u, cs[i * b.k + j]? = some u ∧ Rep w ok s u d) :
   RH (w.alloc (.cells cs b.ty)) (fun x => own x ∨ x = w.heap.size) ok (upd s id (some w.heap.size)) (upd h id (some b)) := by
 have he := Evol.alloc hr id hs (.cells cs b.ty)
 have hne : ∀ id' B, upd s id (some w.heap.size) id' = some B → id' ≠ id → s id' = some B := fun id' B hb hi => by
   unfold upd at hb; rw [if_neg hi] at hb; exact hb
 have hself : upd s id (some w.heap.size) id = some w.heap.size := by simp [upd]
 refine ⟨fun b' o hb => ?_, fun b' hb => ?_, fun id' B hb => ?_, fun id' b' hb => ?_, fun id1 id2 b1 b2 B h1 h2 m1 m2 e1 e2 => ?_, hr.gl.evol he⟩
 · obtain ⟨u, hu⟩ := hr.okw b' o hb
   exact ⟨u, (he.okc b' o hb).trans hu⟩
 · rcases hb with hb | hb
   · have := hr.ownw b' hb; simp; omega
   · simp; omega
 · by_cases e : id' = id
   · subst e; rw [hself] at hb; cases hb; simp
   · have := hr.sw id' B (hne id' B hb e); simp; omega
 · by_cases e : id' = id
   · subst e
     have : b' = b := by simpa [upd] using hb.symm
     subst this
     refine ⟨hp, hl, fun hv => (by rw [hself] at hv; cases hv), fun B hB hmm => ?_, fun B hB _ => ?_, fun B hB i j e d hi hj => ?_, fun B hB hmm o ho => ?_, fun B hB hmm => ?_, fun B hB hmm => ?_, fun m hmm => (by rw [hm] at hmm; cases hmm), fun B hB m hmm => (by rw [hm] at hmm; cases hmm)⟩
     · rw [hself] at hB; cases hB; exact ⟨.inr rfl, fun o => frozen_alloc_new w cs b'.ty o⟩
     · rw [hself] at hB; cases hB; exact ⟨cs.size, shape_alloc_new w cs b'.ty, hsz⟩
     · rw [hself] at hB; cases hB
       obtain ⟨u, h1, h2⟩ := hc i j e d hi hj
       exact ⟨u, (cell_alloc_new w cs b'.ty _).trans h1, h2.evol he (sig_upd _ hs _)⟩
     · rw [hself] at hB; cases hB; have := hr.ok_lt ho; omega
     · rw [hm] at hmm; cases hmm
     · rw [hm] at hmm; cases hmm
   · have hb' : h id' = some b' := by unfold upd at hb; rw [if_neg e] at hb; exact hb
     have hbk := hr.blk id' b' hb'
     refine ⟨hbk.pos, hbk.len, fun hv => hbk.virt (by unfold upd at hv; rw [if_neg e] at hv; exact hv), fun B hB hmm => ?_, fun B hB hnm => ?_, fun B hB i j e' d hi hj => ?_, fun B hB => hbk.fwr B (hne _ _ hB e), fun B hB => hbk.ffz B (hne _ _ hB e), fun B hB => hbk.fold B (hne _ _ hB e), hbk.mpe, fun B hB m hm => ?_⟩
     · have := hbk.own B (hne _ _ hB e) hmm
       exact ⟨.inl this.1, fun o => (World.frozen?_alloc_old _ _ _ (Nat.ne_of_lt (hr.ownw B this.1))).trans (this.2 o)⟩
     · obtain ⟨sz, h1, h2⟩ := hbk.shape B (hne _ _ hB e) hnm
       exact ⟨sz, he.shape _ _ _ h1, h2⟩
     · obtain ⟨u, h1, h2⟩ := hbk.cells B (hne _ _ hB e) i j e' d hi hj
       exact ⟨u, (World.cell?_alloc_lt _ _ _ (World.block_lt_of_cell? w _ h1)).trans h1, h2.evol he (sig_upd _ hs _)⟩
     · obtain ⟨es, ck, h1, h2⟩ := hbk.map B (hne _ _ hB e) m hm
       exact ⟨es, ck, (Below.heap_alloc w _ B (hr.sw _ _ (hne _ _ hB e))).trans h1, h2⟩
 · by_cases c1 : id1 = id
   · by_cases c2 : id2 = id
     · rw [c1, c2]
     · subst c1
       rw [hself] at e1; cases e1
       have := hr.sw id2 _ (hne _ _ e2 c2); omega
   · by_cases c2 : id2 = id
     · subst c2
       rw [hself] at e2; cases e2
       have := hr.sw id1 _ (hne _ _ e1 c1); omega
     · exact hr.exc id1 id2 b1 b2 B (by unfold upd at h1; rw [if_neg c1] at h1; exact h1) (by unfold upd at h2; rw [if_neg c2] at h2; exact h2) m1 m2 (hne _ _ e1 c1) (hne _ _ e2 c2)
theorem Evol.write (hr : RH w own ok s h) {B : Nat} (ho : own B) (w' : World) (h1 : w'.os = w.os) (h2 : w'.tape = w.tape) (h3 : w'.output = w.output) (hz : w'.heap.size = w.heap.size)
   (hun : ∀ c, c ≠ B → w'.heap[c]? = w.heap[c]?) (hsh : ∀ ty sz, w.shape? B = some (ty, sz) → w'.shape? B = some (ty, sz)) (hok : ∀ o, ok B o → w'.cell? ⟨B, o, none⟩ = w.cell? ⟨B, o, none⟩) (hcB : ∃ x, w.shape? B = some x) : Evol own ok w own ok w' where
 os := h1
 tape := h2
 output := h3
 size := by omega
 unch b hb hn := hun b (fun e => hn (e ▸ ho))
 ownn b hb := .inl hb
 okk b o hb := hb
 okc b o hb := by
   by_cases e : b = B
   · subst e; exact hok o hb
   · exact World.cell?_of_block (w := w) (a := ⟨b, o, none⟩) (hun b e)
 okn b o hb := .inl hb
 shape b ty sz hb := by
   by_cases e : b = B
   · subst e; exact hsh ty sz hb
   · unfold World.shape? at *; rw [hun b e]; exact hb
 ctl b o hb hc := by
   by_cases e : b = B
   · subst e
     obtain ⟨x, hx⟩ := hcB
     unfold World.shape? at hx
     rw [hb] at hx
     cases o <;> first | (simp [isCtl] at hc; done) | (simp at hx)
   · rw [hun b e]; exact hb
theorem RH.write (hr : RH w own ok s h) {id B : Nat} {b : Blk} (hb : h id = some b) (hm : b.mode = .wr) (hB : s id = some B) (w' : World) (h1 : w'.os = w.os) (h2 : w'.tape = w.tape) (h3 : w'.output = w.output) (hz : w'.heap.size = w.heap.size)
   (hun : ∀ c, c ≠ B → w'.heap[c]? = w.heap[c]?) (hsh : ∀ ty sz, w.shape? B = some (ty, sz) → w'.shape? B = some (ty, sz)) (hfz : ∀ o, w'.frozen? ⟨B, o, none⟩ = false)
   (es : List (List V)) (hl : ∀ e ∈ es, e.length = b.k) (hle : es.length = b.es.length)
   (hc : ∀ (i j : Nat) (e : List V) (d : V), es[i]? = some e → e[j]? = some d → ∃ u, w'.cell? ⟨B, i * b.k + j, none⟩ = some u ∧ Rep w ok s u d) :
   RH w' own ok s (upd h id (some { b with es := es })) ∧ Evol own ok w own ok w' := by
 have hbk := hr.blk id b hb
 have hown := hbk.own B hB (by rw [hm]; simp)
 have he := Evol.write hr hown.1 w' h1 h2 h3 hz hun hsh (fun o ho => absurd ho (hbk.fwr B hB hm o)) (by obtain ⟨sz, g, _⟩ := hbk.shape B hB (by rw [hm]; intro m h; cases h); exact ⟨_, g⟩)
 refine ⟨⟨fun b' o hb' => ?_, fun b' hb' => by rw [hz]; exact hr.ownw b' hb', fun id' B' hb' => by rw [hz]; exact hr.sw id' B' hb', fun id' b' hb' => ?_, fun id1 id2 b1 b2 B' g1 g2 m1 m2 e1 e2 => ?_, hr.gl.evol he⟩, he⟩
 · obtain ⟨u, hu⟩ := hr.okw b' o hb'
   exact ⟨u, (he.okc b' o hb').trans hu⟩
 · by_cases e : id' = id
   · subst e
     have : b' = { b with es := es } := by simpa [upd] using hb'.symm
     subst this
     refine ⟨hbk.pos, hl, fun hv => (by rw [hB] at hv; cases hv), fun B' hB' hmm => ?_, fun B' hB' _ => ?_, fun B' hB' i j e d hi hj => ?_, fun B' hB' _ => ?_, fun B' hB' hmm => ?_, fun B' hB' hmm => ?_, fun m hmm => (by change b.mode = _ at hmm; rw [hm] at hmm; cases hmm), fun B' hB' m hmm => (by change b.mode = _ at hmm; rw [hm] at hmm; cases hmm)⟩
     · rw [hB] at hB'; cases hB'; exact ⟨hown.1, hfz⟩
     · rw [hB] at hB'; cases hB'
       obtain ⟨sz, g1, g2⟩ := hbk.shape B hB (by rw [hm]; intro m h; cases h)
       exact ⟨sz, hsh _ _ g1, by show es.length * b.k ≤ sz; rw [hle]; exact g2⟩
     · rw [hB] at hB'; cases hB'
       obtain ⟨u, g1, g2⟩ := hc i j e d hi hj
       exact ⟨u, g1, g2.evol he (fun _ _ h => h)⟩
     · exact hbk.fwr B' hB' hm
     · change b.mode = _ at hmm; rw [hm] at hmm; cases hmm
     · change b.mode = _ at hmm; rw [hm] at hmm; cases hmm
   · have hb'' : h id' = some b' := by unfold upd at hb'; rw [if_neg e] at hb'; exact hb'
     have hbk' := hr.blk id' b' hb''
     refine ⟨hbk'.pos, hbk'.len, hbk'.virt, fun B' hB' hmm => ?_, fun B' hB' hnm => ?_, fun B' hB' i j e' d hi hj => ?_, hbk'.fwr, hbk'.ffz, hbk'.fold, hbk'.mpe, fun B' hB' m hmm => ?_⟩
     · have := hbk'.own B' hB' hmm
       have hne : B' ≠ B := fun e' => e (hr.exc id' id b' b B' hb'' hb hmm (by rw [hm]; simp) hB' (e' ▸ hB))
       exact ⟨this.1, fun o => (World.frozen?_of_block (w := w) (a := ⟨B', o, none⟩) (hun B' hne)).trans (this.2 o)⟩
     · obtain ⟨sz, g1, g2⟩ := hbk'.shape B' hB' hnm
       exact ⟨sz, he.shape _ _ _ g1, g2⟩
     · obtain ⟨u, g1, g2⟩ := hbk'.cells B' hB' i j e' d hi hj
       refine ⟨u, ?_, g2.evol he (fun _ _ h => h)⟩
       by_cases hmm : b'.mode = .old
       · have hi' := (List.getElem?_eq_some_iff.1 hi).1
         have hj' := (List.getElem?_eq_some_iff.1 hj).1
         have hl' := hbk'.len e' (List.mem_of_getElem? hi)
         have : (i + 1) * b'.k ≤ b'.es.length * b'.k := Nat.mul_le_mul_right _ hi'
         rw [Nat.add_mul] at this
         exact (he.okc _ _ (hbk'.fold B' hB' hmm _ (by omega))).trans g1
       · have hne : B' ≠ B := fun e'' => e (hr.exc id' id b' b B' hb'' hb hmm (by rw [hm]; simp) hB' (e'' ▸ hB))
         exact (World.cell?_of_block (w := w) (a := ⟨B', i * b'.k + j, none⟩) (hun B' hne)).trans g1
     · obtain ⟨es', ck, g1, g2⟩ := hbk'.map B' hB' m hmm
       have hne : B' ≠ B := fun e'' => e (hr.exc id' id b' b B' hb'' hb (by rw [hmm]; intro h; cases h) (by rw [hm]; simp) hB' (e'' ▸ hB))
       exact ⟨es', ck, (hun B' hne).trans g1, g2⟩
 · have g1' : ∃ b1', h id1 = some b1' ∧ b1'.mode = b1.mode := by
     by_cases e : id1 = id
     · subst e; have : b1 = { b with es := es } := by simpa [upd] using g1.symm
       exact ⟨b, hb, by rw [this]⟩
     · exact ⟨b1, by unfold upd at g1; rw [if_neg e] at g1; exact g1, rfl⟩
   have g2' : ∃ b2', h id2 = some b2' ∧ b2'.mode = b2.mode := by
     by_cases e : id2 = id
     · subst e; have : b2 = { b with es := es } := by simpa [upd] using g2.symm
       exact ⟨b, hb, by rw [this]⟩
     · exact ⟨b2, by unfold upd at g2; rw [if_neg e] at g2; exact g2, rfl⟩
   obtain ⟨b1', k1, n1⟩ := g1'
   obtain ⟨b2', k2, n2⟩ := g2'
   exact hr.exc id1 id2 b1' b2' B' k1 k2 (by rw [n1]; exact m1) (by rw [n2]; exact m2) e1 e2
end
end Go.Aw
end
section
namespace Go.Aw
open Go.RowKit
theorem shape_map {w : World} {B : Nat} {es : Array MapEntry} {ck : Nat} (h : w.heap[B]? = some (.map es ck)) : w.shape? B = none := by
 unfold World.shape?; rw [h]
theorem upd_self {α : Type} (f : Nat → Option α) (i : Nat) (v : Option α) : upd f i v i = v := by simp [upd]
theorem upd_ne {α : Type} (f : Nat → Option α) (i j : Nat) (v : Option α) (h : j ≠ i) : upd f i v j = f j := by simp [upd, h]
section
variable {w : World} {own : Nat → Prop} {ok : Nat → Nat → Prop} {s : Nat → Option Nat} {h : Hp}
theorem RH.sub (hr : RH w own ok s h) (h' : Hp) (hs : ∀ id b, h' id = some b → h id = some b) : RH w own ok s h' :=
 ⟨hr.okw, hr.ownw, hr.sw, fun id b hb => hr.blk id b (hs id b hb), fun id1 id2 b1 b2 B h1 h2 => hr.exc id1 id2 b1 b2 B (hs _ _ h1) (hs _ _ h2), hr.gl⟩
theorem addr_lt {i j k n : Nat} (hi : i < n) (hj : j < k) : i * k + j < n * k := by
 have : (i + 1) * k ≤ n * k := Nat.mul_le_mul_right _ hi
 rw [Nat.add_mul] at this
 omega
theorem BlkOk.ofs {id : Nat} {b : Blk} (hb : BlkOk w own ok s id b) {i j : Nat} {e : List V} {d : V} (hi : b.es[i]? = some e) (hj : e[j]? = some d) : i * b.k + j < b.es.length * b.k := by
 have hi' := (List.getElem?_eq_some_iff.1 hi).1
 have hj' := (List.getElem?_eq_some_iff.1 hj).1
 have hl := hb.len e (List.mem_of_getElem? hi)
 exact addr_lt hi' (by omega)
theorem RH.freeze (hr : RH w own ok s h) {id : Nat} {b : Blk} (hb : h id = some b) (hm : b.mode = .wr) :
   ∃ ok', RH w own ok' s (upd h id (some { b with mode := .fz })) ∧ Evol own ok w own ok' w := by
 have hbk := hr.blk id b hb
 refine ⟨fun c o => ok c o ∨ (s id = some c ∧ o < b.es.length * b.k), ?_, ?_⟩
 · have hk : ∀ {v d}, Rep w ok s v d → Rep w (fun c o => ok c o ∨ (s id = some c ∧ o < b.es.length * b.k)) s v d := fun hv => hv.keep (fun _ _ hb => ⟨.inl hb, rfl⟩) (fun _ _ _ h => h) (fun _ _ h => h)
   refine ⟨fun c o hc => ?_, hr.ownw, hr.sw, fun id' b' hb' => ?_, fun id1 id2 b1 b2 B g1 g2 m1 m2 e1 e2 => ?_, hr.gl.keep fun b o hb => ⟨.inl hb, rfl⟩⟩
   · rcases hc with hc | ⟨hc, ho⟩
     · exact hr.okw c o hc
     · have hpos := hbk.pos
       have hi : o / b.k < b.es.length := Nat.div_lt_of_lt_mul (by rw [Nat.mul_comm]; exact ho)
       have hj : o % b.k < (b.es[o / b.k]).length := by rw [hbk.len _ (List.getElem_mem hi)]; exact Nat.mod_lt _ hpos
       obtain ⟨u, hu, _⟩ := hbk.cells c hc (o / b.k) (o % b.k) _ _ (List.getElem?_eq_getElem hi) (List.getElem?_eq_getElem hj)
       exact ⟨u, by rw [Nat.mul_comm, Nat.div_add_mod] at hu; exact hu⟩
   · by_cases e : id' = id
     · subst e
       have : b' = { b with mode := .fz } := by rw [upd_self] at hb'; exact (Option.some.inj hb').symm
       subst this
       refine ⟨hbk.pos, hbk.len, hbk.virt, fun B hB _ => hbk.own B hB (by rw [hm]; simp), fun B hB _ => hbk.shape B hB (by rw [hm]; intro m h; cases h), fun B hB i j e d hi hj => ?_, fun B hB hmm => (by cases hmm), fun B hB _ o => ?_, fun B hB hmm => (by cases hmm), fun m hmm => (by cases hmm), fun B hB m hmm => (by cases hmm)⟩
       · obtain ⟨u, g1, g2⟩ := hbk.cells B hB i j e d hi hj
         exact ⟨u, g1, hk g2⟩
       · constructor
         · rintro (ho | ⟨_, ho⟩)
           · exact absurd ho (hbk.fwr B hB hm o)
           · exact ho
         · intro ho; exact .inr ⟨hB, ho⟩
     · rw [upd_ne _ _ _ _ e] at hb'
       have hbk' := hr.blk id' b' hb'
       have hne : ∀ B, s id' = some B → b'.mode ≠ .old → s id ≠ some B := fun B hB hmm hB' => e (hr.exc id' id b' b B hb' hb hmm (by rw [hm]; simp) hB hB')
       refine ⟨hbk'.pos, hbk'.len, hbk'.virt, hbk'.own, hbk'.shape, fun B hB i j e' d hi hj => ?_, fun B hB hmm o ho => ?_, fun B hB hmm o => ?_, fun B hB hmm o ho => .inl (hbk'.fold B hB hmm o ho), hbk'.mpe, hbk'.map⟩
       · obtain ⟨u, g1, g2⟩ := hbk'.cells B hB i j e' d hi hj
         exact ⟨u, g1, hk g2⟩
       · rcases ho with ho | ⟨ho, _⟩
         · exact hbk'.fwr B hB hmm o ho
         · exact hne B hB (by rw [hmm]; simp) ho
       · rw [← hbk'.ffz B hB hmm o]
         constructor
         · rintro (ho | ⟨ho, _⟩)
           · exact ho
           · exact absurd ho (hne B hB (by rw [hmm]; simp))
         · exact .inl
   · have k1 : ∃ b1', h id1 = some b1' ∧ b1'.mode ≠ .old := by
       by_cases e : id1 = id
       · subst e; exact ⟨b, hb, by rw [hm]; simp⟩
       · exact ⟨b1, by rw [upd_ne _ _ _ _ e] at g1; exact g1, m1⟩
     have k2 : ∃ b2', h id2 = some b2' ∧ b2'.mode ≠ .old := by
       by_cases e : id2 = id
       · subst e; exact ⟨b, hb, by rw [hm]; simp⟩
       · exact ⟨b2, by rw [upd_ne _ _ _ _ e] at g2; exact g2, m2⟩
     obtain ⟨b1', k1, n1⟩ := k1
     obtain ⟨b2', k2, n2⟩ := k2
     exact hr.exc id1 id2 b1' b2' B k1 k2 n1 n2 e1 e2
 · refine ⟨rfl, rfl, rfl, Nat.le_refl _, fun _ _ _ => rfl, fun _ h => .inl h, fun _ _ h => .inl h, fun _ _ _ => rfl, fun c o hc => ?_, fun _ _ _ h => h, fun _ _ h _ => h⟩
   rcases hc with hc | ⟨hc, _⟩
   · exact .inl hc
   · exact .inr (.inl (hbk.own c hc (by rw [hm]; simp)).1)
theorem RH.retire (hr : RH w own ok s h) {id : Nat} {b : Blk} (hb : h id = some b) (hm : b.mode = .fz) : RH w own ok s (upd h id (some { b with mode := .old })) := by
 have hbk := hr.blk id b hb
 refine ⟨hr.okw, hr.ownw, hr.sw, fun id' b' hb' => ?_, fun id1 id2 b1 b2 B g1 g2 m1 m2 e1 e2 => ?_, hr.gl⟩
 · by_cases e : id' = id
   · subst e
     have : b' = { b with mode := .old } := by rw [upd_self] at hb'; exact (Option.some.inj hb').symm
     subst this
     exact ⟨hbk.pos, hbk.len, hbk.virt, fun B hB hmm => absurd rfl hmm, fun B hB _ => hbk.shape B hB (by rw [hm]; intro m h; cases h), hbk.cells, fun B hB hmm => (by cases hmm), fun B hB hmm => (by cases hmm), fun B hB _ o ho => (hbk.ffz B hB hm o).2 ho, fun m hmm => (by cases hmm), fun B hB m hmm => (by cases hmm)⟩
   · rw [upd_ne _ _ _ _ e] at hb'; exact hr.blk id' b' hb'
 · have n1 : id1 ≠ id := fun e => by subst e; rw [upd_self] at g1; cases g1; exact m1 rfl
   have n2 : id2 ≠ id := fun e => by subst e; rw [upd_self] at g2; cases g2; exact m2 rfl
   rw [upd_ne _ _ _ _ n1] at g1
   rw [upd_ne _ _ _ _ n2] at g2
   exact hr.exc id1 id2 b1 b2 B g1 g2 m1 m2 e1 e2
def Blk.after (b : Blk) : Option Blk := match b.mode with | .wr => none | _ => some { b with mode := .old }
theorem RH.leave (hr : RH w own ok s h) {id : Nat} {b : Blk} (hb : h id = some b) (hm : b.mode ≠ .old) (hnm : ∀ m, b.mode ≠ .mp m) : RH w own ok s (upd h id b.after) := by
 cases he : b.mode with
 | wr =>
   have : b.after = none := by unfold Blk.after; rw [he]
   rw [this]
   exact hr.sub _ fun id' b' hb' => by
     by_cases e : id' = id
     · subst e; rw [upd_self] at hb'; cases hb'
     · rw [upd_ne _ _ _ _ e] at hb'; exact hb'
 | fz =>
   have : b.after = some { b with mode := .old } := by unfold Blk.after; rw [he]
   rw [this]
   exact hr.retire hb he
 | old => exact absurd he hm
 | mp m => exact absurd he (hnm m)
theorem RH.grow (hr : RH w own ok s h) {id B : Nat} {b : Blk} (hb : h id = some b) (hm : b.mode ≠ .old) (hnm : ∀ m, b.mode ≠ .mp m) (hB : s id = some B) (id' : Nat) (hs' : s id' = none) (w' : World) (h1 : w'.os = w.os) (h2 : w'.tape = w.tape) (h3 : w'.output = w.output) (hz : w'.heap.size = w.heap.size)
   (hun : ∀ c, c ≠ B → w'.heap[c]? = w.heap[c]?) (hsh : ∀ ty sz, w.shape? B = some (ty, sz) → w'.shape? B = some (ty, sz)) (hfz : ∀ o, w'.frozen? ⟨B, o, none⟩ = false)
   (hcl : ∀ o, o < b.es.length * b.k → w'.cell? ⟨B, o, none⟩ = w.cell? ⟨B, o, none⟩)
   (ys : List (List V)) (hl : ∀ e ∈ ys, e.length = b.k) (hle : ∀ ty sz, w.shape? B = some (ty, sz) → (b.es.length + ys.length) * b.k ≤ sz)
   (hc : ∀ (i j : Nat) (e : List V) (d : V), ys[i]? = some e → e[j]? = some d → ∃ u, w'.cell? ⟨B, (b.es.length + i) * b.k + j, none⟩ = some u ∧ Rep w ok s u d) :
   ∃ ok', RH w' own ok' (upd s id' (some B)) (upd (upd h id b.after) id' (some { b with es := b.es ++ ys })) ∧ Evol own ok w own ok' w' := by
 have hbk := hr.blk id b hb
 have hown := hbk.own B hB hm
 have hne : id' ≠ id := fun e => by rw [e, hB] at hs'; cases hs'
 have hokB : ∀ o, ok B o → o < b.es.length * b.k := fun o ho => by
   cases he : b.mode with
   | wr => exact absurd ho (hbk.fwr B hB he o)
   | fz => exact (hbk.ffz B hB he o).1 ho
   | old => exact absurd he hm
   | mp m => exact absurd he (hnm m)
 have he0 := Evol.write hr hown.1 w' h1 h2 h3 hz hun hsh (fun o ho => hcl o (hokB o ho)) (by obtain ⟨sz, g, _⟩ := hbk.shape B hB hnm; exact ⟨_, g⟩)
 have hsig : ∀ i C, s i = some C → upd s id' (some B) i = some C := fun i C hi => by
   have : i ≠ id' := fun e => by rw [e, hs'] at hi; cases hi
   rw [upd_ne _ _ _ _ this]; exact hi
 have hsig' : ∀ i C, i ≠ id' → upd s id' (some B) i = some C → s i = some C := fun i C hi hC => by rw [upd_ne _ _ _ _ hi] at hC; exact hC
 refine ⟨fun c o => ok c o ∨ (b.mode = .fz ∧ c = B ∧ o < (b.es.length + ys.length) * b.k), ?_, ?_⟩
 · have hk : ∀ {v d}, Rep w ok s v d → Rep w' (fun c o => ok c o ∨ (b.mode = .fz ∧ c = B ∧ o < (b.es.length + ys.length) * b.k)) (upd s id' (some B)) v d := fun hv =>
     hv.keep (fun c o hb => ⟨.inl hb, he0.okc c o hb⟩) he0.shape hsig
   have hall : ∀ (i j : Nat) (e : List V) (d : V), (b.es ++ ys)[i]? = some e → e[j]? = some d → ∃ u, w'.cell? ⟨B, i * b.k + j, none⟩ = some u ∧ Rep w ok s u d := fun i j e d hi hj => by
     by_cases hil : i < b.es.length
     · rw [List.getElem?_append_left hil] at hi
       obtain ⟨u, g1, g2⟩ := hbk.cells B hB i j e d hi hj
       exact ⟨u, (hcl _ (hbk.ofs hi hj)).trans g1, g2⟩
     · rw [List.getElem?_append_right (by omega)] at hi
       obtain ⟨u, g1, g2⟩ := hc (i - b.es.length) j e d hi hj
       rw [show b.es.length + (i - b.es.length) = i from by omega] at g1
       exact ⟨u, g1, g2⟩
   have hlall : ∀ e ∈ b.es ++ ys, e.length = b.k := fun e he => by
     rcases List.mem_append.1 he with he | he
     · exact hbk.len e he
     · exact hl e he
   refine ⟨fun c o hc' => ?_, fun c hc' => by rw [hz]; exact hr.ownw c hc', fun i C hC => ?_, fun i b' hb' => ?_, fun i1 i2 b1 b2 C g1 g2 m1 m2 e1 e2 => ?_, hr.gl.keep fun c o hb => ⟨.inl hb, he0.okc c o hb⟩⟩
   · rcases hc' with hc' | ⟨_, rfl, ho⟩
     · obtain ⟨u, hu⟩ := hr.okw c o hc'
       exact ⟨u, (he0.okc c o hc').trans hu⟩
     · have hpos := hbk.pos
       have hi : o / b.k < (b.es ++ ys).length := by rw [List.length_append]; exact Nat.div_lt_of_lt_mul (by rw [Nat.mul_comm]; exact ho)
       have hj : o % b.k < ((b.es ++ ys)[o / b.k]).length := by rw [hlall _ (List.getElem_mem hi)]; exact Nat.mod_lt _ hpos
       obtain ⟨u, hu, _⟩ := hall (o / b.k) (o % b.k) _ _ (List.getElem?_eq_getElem hi) (List.getElem?_eq_getElem hj)
       exact ⟨u, by rw [Nat.mul_comm, Nat.div_add_mod] at hu; exact hu⟩
   · rw [hz]
     by_cases e : i = id'
     · subst e; rw [upd_self] at hC; cases hC; exact hr.sw id B hB
     · exact hr.sw i C (hsig' i C e hC)
   · by_cases e : i = id'
     · subst e
       have : b' = { b with es := b.es ++ ys } := by rw [upd_self] at hb'; exact (Option.some.inj hb').symm
       subst this
       refine ⟨hbk.pos, hlall, fun hv => (by rw [upd_self] at hv; cases hv), fun C hC _ => ?_, fun C hC _ => ?_, fun C hC i j e d hi hj => ?_, fun C hC hmm o ho => ?_, fun C hC hmm o => ?_, fun C hC hmm => absurd hmm hm, fun m hmm => absurd hmm (hnm m), fun C hC m hmm => absurd hmm (hnm m)⟩
       · rw [upd_self] at hC; cases hC; exact ⟨hown.1, hfz⟩
       · rw [upd_self] at hC; cases hC
         obtain ⟨sz, g1, g2⟩ := hbk.shape B hB hnm
         exact ⟨sz, hsh _ _ g1, by show (b.es ++ ys).length * b.k ≤ sz; rw [List.length_append]; exact hle _ _ g1⟩
       · rw [upd_self] at hC; cases hC
         obtain ⟨u, g1, g2⟩ := hall i j e d hi hj
         exact ⟨u, g1, hk g2⟩
       · change b.mode = _ at hmm
         rw [upd_self] at hC; cases hC
         rcases ho with ho | ⟨ho, _⟩
         · exact hbk.fwr B hB hmm o ho
         · rw [hmm] at ho; cases ho
       · change b.mode = _ at hmm
         rw [upd_self] at hC; cases hC
         show _ ↔ o < (b.es ++ ys).length * b.k
         rw [List.length_append]
         constructor
         · rintro (ho | ⟨_, _, ho⟩)
           · have := hokB o ho
             have : b.es.length * b.k ≤ (b.es.length + ys.length) * b.k := Nat.mul_le_mul_right _ (by omega)
             omega
           · exact ho
         · intro ho; exact .inr ⟨hmm, rfl, ho⟩
     · rw [upd_ne _ _ _ _ e] at hb'
       have hr2 := hr.leave hb hm hnm
       have hbk' := hr2.blk i b' hb'
       have hneB : ∀ C, s i = some C → b'.mode ≠ .old → C ≠ B := fun C hC hmm hCB => by
         subst hCB
         by_cases ei : i = id
         · subst ei
           rw [upd_self] at hb'
           unfold Blk.after at hb'
           split at hb'
           · cases hb'
           · cases hb'; exact hmm rfl
         · rw [upd_ne _ _ _ _ ei] at hb'
           exact ei (hr.exc i id b' b C hb' hb hmm hm hC hB)
       refine ⟨hbk'.pos, hbk'.len, fun hv => hbk'.virt (by rw [upd_ne _ _ _ _ e] at hv; exact hv), fun C hC hmm => ?_, fun C hC hnm' => ?_, fun C hC i' j e' d hi hj => ?_, fun C hC hmm o ho => ?_, fun C hC hmm o => ?_, fun C hC hmm o ho => .inl (hbk'.fold C (hsig' i C e hC) hmm o ho), hbk'.mpe, fun C hC m hmm => ?_⟩
       · have := hbk'.own C (hsig' i C e hC) hmm
         exact ⟨this.1, fun o => (World.frozen?_of_block (w := w) (a := ⟨C, o, none⟩) (hun C (hneB C (hsig' i C e hC) hmm))).trans (this.2 o)⟩
       · obtain ⟨sz, g1, g2⟩ := hbk'.shape C (hsig' i C e hC) hnm'
         exact ⟨sz, he0.shape _ _ _ g1, g2⟩
       · obtain ⟨u, g1, g2⟩ := hbk'.cells C (hsig' i C e hC) i' j e' d hi hj
         refine ⟨u, ?_, hk g2⟩
         by_cases hmm : b'.mode = .old
         · exact (he0.okc _ _ (hbk'.fold C (hsig' i C e hC) hmm _ (hbk'.ofs hi hj))).trans g1
         · exact (World.cell?_of_block (w := w) (a := ⟨C, i' * b'.k + j, none⟩) (hun C (hneB C (hsig' i C e hC) hmm))).trans g1
       · rcases ho with ho | ⟨_, ho, _⟩
         · exact hbk'.fwr C (hsig' i C e hC) hmm o ho
         · exact hneB C (hsig' i C e hC) (by rw [hmm]; simp) ho
       · rw [← hbk'.ffz C (hsig' i C e hC) hmm o]
         constructor
         · rintro (ho | ⟨_, ho, _⟩)
           · exact ho
           · exact absurd ho (hneB C (hsig' i C e hC) (by rw [hmm]; simp))
         · exact .inl
       · obtain ⟨es', ck, g1, g2⟩ := hbk'.map C (hsig' i C e hC) m hmm
         exact ⟨es', ck, (hun C (hneB C (hsig' i C e hC) (by rw [hmm]; intro h; cases h))).trans g1, g2⟩
   · have k : ∀ i b', upd (upd h id b.after) id' (some { b with es := b.es ++ ys }) i = some b' → b'.mode ≠ .old → ∀ C, upd s id' (some B) i = some C → (i = id' ∧ C = B) ∨ (i ≠ id' ∧ i ≠ id ∧ h i = some b' ∧ s i = some C ∧ C ≠ B) := fun i b' hb' hmm C hC => by
       by_cases e : i = id'
       · subst e; rw [upd_self] at hC; exact .inl ⟨rfl, (Option.some.inj hC).symm⟩
       · rw [upd_ne _ _ _ _ e] at hb'
         by_cases ei : i = id
         · subst ei
           rw [upd_self] at hb'
           unfold Blk.after at hb'
           split at hb'
           · cases hb'
           · cases hb'; exact absurd rfl hmm
         · rw [upd_ne _ _ _ _ ei] at hb'
           have hC' := hsig' i C e hC
           refine .inr ⟨e, ei, hb', hC', fun hCB => ?_⟩
           subst hCB
           exact ei (hr.exc i id b' b C hb' hb hmm hm hC' hB)
     rcases k i1 b1 g1 m1 C e1 with ⟨a1, a2⟩ | ⟨a1, a2, a3, a4, a5⟩
     · rcases k i2 b2 g2 m2 C e2 with ⟨c1, c2⟩ | ⟨c1, c2, c3, c4, c5⟩
       · rw [a1, c1]
       · exact absurd a2 c5
     · rcases k i2 b2 g2 m2 C e2 with ⟨c1, c2⟩ | ⟨c1, c2, c3, c4, c5⟩
       · exact absurd c2 a5
       · exact hr.exc i1 i2 b1 b2 C a3 c3 m1 m2 a4 c4
 · refine ⟨h1, h2, h3, by omega, he0.unch, fun _ h => .inl h, fun _ _ h => .inl h, he0.okc, fun c o hc' => ?_, he0.shape, he0.ctl⟩
   rcases hc' with hc' | ⟨_, rfl, _⟩
   · exact .inl hc'
   · exact .inr (.inl hown.1)
theorem RH.snap (hr : RH w own ok s h) {id k n : Nat} {ex : Bool} {b : Blk} {v : Value} (hb : h id = some b) (hm : b.mode ≠ .wr) (hk : b.k = k) (hn : n ≤ b.es.length) (hv : Rep w ok s v (.os id k n ex)) : Rep w ok s v (.sl k (b.es.take n) ex) := by
 have hbk := hr.blk id b hb
 subst hk
 cases hv with
 | os0 _ _ _ a =>
   rw [List.take_zero]
   exact .sl a 0 0 b.k [] ex (fun _ _ => undef) rfl (Nat.le_refl _) (fun _ => rfl) (fun i j hi => absurd hi (by omega)) (fun e he => by cases he) (fun i j e d hi => by cases hi)
 | os _ _ _ _ B cap ty sz hB hn' hex hsh hcap =>
   have hokB : ∀ o, o < b.es.length * b.k → ok B o := fun o ho => by
     cases he : b.mode with
     | wr => exact absurd he hm
     | fz => exact (hbk.ffz B hB he o).2 ho
     | old => exact hbk.fold B hB he o ho
     | mp m =>
       obtain ⟨es', ck, g1, g2⟩ := hbk.map B hB m he
       rw [shape_map g1] at hsh; cases hsh
   refine .sl _ n cap b.k _ ex (fun i j => (w.cell? ⟨B, i * b.k + j, none⟩).getD undef) (by simp; omega) hn' hex (fun i j hi hj => ?_) (fun e he => hbk.len e (List.mem_of_mem_take he)) (fun i j e d hi hj => ?_)
   · have hi' : i < b.es.length := by omega
     refine ⟨B, 0, rfl, hokB _ (by rw [Nat.zero_add]; exact addr_lt hi' hj), ?_⟩
     have hjl : j < (b.es[i]).length := by rw [hbk.len _ (List.getElem_mem hi')]; exact hj
     obtain ⟨u, g1, _⟩ := hbk.cells B hB i j _ _ (List.getElem?_eq_getElem hi') (List.getElem?_eq_getElem hjl)
     rw [Nat.zero_add, g1]; rfl
   · have hi2 : b.es[i]? = some e := by
       rw [List.getElem?_take] at hi
       split at hi
       · exact hi
       · cases hi
     obtain ⟨u, g1, g2⟩ := hbk.cells B hB i j e d hi2 hj
     rw [g1]; exact g2
theorem RH.called (hr : RH w own ok s h) {w' : World} {own' : Nat → Prop} {ok' : Nat → Nat → Prop} (he : Evol (fun _ => False) ok w own' ok' w')
   (hw : ∀ b o, ok' b o → ∃ u, w'.cell? ⟨b, o, none⟩ = some u) : RH w' own ok' s h ∧ Evol own ok w own ok' w' := by
 have hun : ∀ b, b < w.heap.size → w'.heap[b]? = w.heap[b]? := fun b hb => he.unch b hb (fun h => h)
 have hold : ∀ b o, b < w.heap.size → ok' b o → ok b o := fun b o hb ho => by
   rcases he.okn b o ho with h' | h' | h'
   · exact h'
   · exact h'.elim
   · omega
 have hk : ∀ {v d}, Rep w ok s v d → Rep w' ok' s v d := fun hv => hv.keep (fun b o hb => ⟨he.okk b o hb, he.okc b o hb⟩) he.shape (fun _ _ h => h)
 refine ⟨⟨hw, fun b hb => Nat.lt_of_lt_of_le (hr.ownw b hb) he.size, fun id B hb => Nat.lt_of_lt_of_le (hr.sw id B hb) he.size, fun id b hb => ?_, hr.exc, hr.gl.evol he⟩,
   ⟨he.os, he.tape, he.output, he.size, fun b hb _ => hun b hb, fun _ h => .inl h, he.okk, he.okc, fun b o hb => ?_, he.shape, he.ctl⟩⟩
 · have hbk := hr.blk id b hb
   refine ⟨hbk.pos, hbk.len, hbk.virt, fun B hB hm => ⟨(hbk.own B hB hm).1, fun o => (World.frozen?_of_block (w := w) (a := ⟨B, o, none⟩) (hun B (hr.sw id B hB))).trans ((hbk.own B hB hm).2 o)⟩, fun B hB hnm => ?_, fun B hB i j e d hi hj => ?_,
     fun B hB hm o ho => hbk.fwr B hB hm o (hold B o (hr.sw id B hB) ho), fun B hB hm o => ⟨fun ho => (hbk.ffz B hB hm o).1 (hold B o (hr.sw id B hB) ho), fun ho => he.okk _ _ ((hbk.ffz B hB hm o).2 ho)⟩, fun B hB hm o ho => he.okk _ _ (hbk.fold B hB hm o ho), hbk.mpe, fun B hB m hm => (by obtain ⟨es', ck, g1, g2⟩ := hbk.map B hB m hm; exact ⟨es', ck, (hun B (hr.sw id B hB)).trans g1, g2⟩)⟩
   · obtain ⟨sz, g1, g2⟩ := hbk.shape B hB hnm
     exact ⟨sz, he.shape _ _ _ g1, g2⟩
   · obtain ⟨u, g1, g2⟩ := hbk.cells B hB i j e d hi hj
     exact ⟨u, (World.cell?_of_block (w := w) (a := ⟨B, i * b.k + j, none⟩) (hun B (hr.sw id B hB))).trans g1, hk g2⟩
 · rcases he.okn b o hb with h' | h' | h'
   · exact .inl h'
   · exact h'.elim
   · exact .inr (.inr h')
end
end Go.Aw
end
section
namespace Go.Aw
open Go.RowKit
structure TI where
 size : Nat
 zero : Value
 bytes : Nat
 desc : TypeDesc
 deriving Inhabited
def tinfo (P : Program) (t : TypeId) : Option TI :=
 match P.info? t, P.underlying t with
 | some i, some d => match i.zero with
   | some z => some ⟨i.size, z, i.bytes, d⟩
   | none => none
 | _, _ => none
def isAggD : TypeDesc → Bool
 | .struct _ | .array _ _ => true
 | _ => false
section
variable {P : Program} {t : TypeId} {i : TI} {w : World}
theorem tinfo_parts (h : tinfo P t = some i) : ∃ x : TypeInfo, P.info? t = some x ∧ x.zero = some i.zero ∧ x.size = i.size ∧ x.bytes = i.bytes ∧ P.underlying t = some i.desc := by
 unfold tinfo at h
 split at h
 · rename_i a b h1 h2
   split at h
   · rename_i z hz
     cases h
     exact ⟨a, h1, hz, rfl, rfl, h2⟩
   · cases h
 · cases h
theorem run_sizeOf' (h : tinfo P t = some i) : (sizeOf t).run P w = .ok i.size w := by
 obtain ⟨x, h1, h2, h3, h4, h5⟩ := tinfo_parts h
 simp [sizeOf, typeInfo, h1, h3]
theorem run_underlying' (h : tinfo P t = some i) : (underlying t).run P w = .ok i.desc w := by
 obtain ⟨x, h1, h2, h3, h4, h5⟩ := tinfo_parts h
 simp [underlying, h5]
theorem run_zeroValue' (h : tinfo P t = some i) : (zeroValue t).run P w = .ok i.zero w := by
 obtain ⟨x, h1, h2, h3, h4, h5⟩ := tinfo_parts h
 simp [zeroValue, typeInfo, h1, h2]
theorem run_typeInfo' (h : tinfo P t = some i) : ∃ x : TypeInfo, (∀ w : World, (typeInfo t).run P w = .ok x w) ∧ x.bytes = i.bytes ∧ x.size = i.size := by
 obtain ⟨x, h1, h2, h3, h4, h5⟩ := tinfo_parts h
 exact ⟨x, fun w => by simp [typeInfo, h1], h4, h3⟩
theorem run_isAgg' (h : tinfo P t = some i) : (isAgg t).run P w = .ok (isAggD i.desc) w := by
 simp only [isAgg, Sem.run_bind, run_underlying' h, Result.andThen_ok]
 cases i.desc <;> rfl
theorem add_off (b o n : Nat) : (⟨b, o, none⟩ : Addr).add n = ⟨b, o + n, none⟩ := by
 unfold Addr.add
 split
 · rename_i h; rw [h]; rfl
 · rfl
theorem run_loadCellsFrom (b o : Nat) (us : Nat → Value) : ∀ (n k : Nat) (acc : Array Value), (∀ j, j < n → w.cell? ⟨b, o + (k + j), none⟩ = some (us (k + j))) →
   (loadCellsFrom ⟨b, o, none⟩ k n acc).run P w = .ok (acc ++ ((List.range n).map fun j => us (k + j)).toArray) w := by
 intro n
 induction n with
 | zero => intro k acc h; simp [loadCellsFrom]
 | succ n ih =>
   intro k acc h
   have h0 := h 0 (by omega)
   rw [Nat.add_zero] at h0
   simp only [loadCellsFrom, Sem.run_bind, run_load, add_off, h0, Result.andThen_ok]
   rw [ih (k + 1) (acc.push (us k)) (fun j hj => by have := h (j + 1) (by omega); rw [show k + 1 + j = k + (j + 1) from by omega]; exact this)]
   congr 1
   rw [List.range_succ_eq_map, List.map_cons, List.map_map]
   apply Array.toList_inj.1
   simp only [Array.toList_append, Array.toList_push, List.append_assoc, List.cons_append, List.nil_append, Nat.add_zero]
   congr 2
   refine List.map_congr_left fun j _ => ?_
   simp only [Function.comp]
   rw [show k + 1 + j = k + (j + 1) from by omega]
theorem run_loadCells' (b o n : Nat) (us : Nat → Value) (h : ∀ j, j < n → w.cell? ⟨b, o + j, none⟩ = some (us j)) :
   (loadCells ⟨b, o, none⟩ n).run P w = .ok (((List.range n).map us).toArray) w := by
 unfold loadCells
 rw [run_loadCellsFrom b o us n 0 #[] (fun j hj => by rw [Nat.zero_add]; exact h j hj)]
 simp
theorem run_loadVar' (h : tinfo P t = some i) (b o : Nat) (us : Nat → Value) (hc : ∀ j, j < i.size → w.cell? ⟨b, o + j, none⟩ = some (us j)) (h1 : isAggD i.desc = false → 0 < i.size) :
   (loadVar t ⟨b, o, none⟩).run P w = .ok (if isAggD i.desc then .agg (((List.range i.size).map us).toArray) else us 0) w := by
 simp only [loadVar, Sem.run_bind, run_isAgg' h, Result.andThen_ok]
 by_cases ha : isAggD i.desc = true
 · simp only [ha, if_true, Sem.run_bind, run_sizeOf' h, Result.andThen_ok, run_loadCells' b o i.size us hc, Sem.run_pure]
 · have ha' : isAggD i.desc = false := by simpa using ha
   have h0 := hc 0 (h1 ha')
   rw [Nat.add_zero] at h0
   simp [ha', run_load, h0]
def setMany (w : World) (b o : Nat) : List Value → World
 | [] => w
 | v :: vs => setMany (w.setCell ⟨b, o, none⟩ v) b (o + 1) vs
theorem setMany_facts (b : Nat) : ∀ (vs : List Value) (o : Nat) (w : World), (∀ j, j < vs.length → ∃ u, w.cell? ⟨b, o + j, none⟩ = some u) →
   (setMany w b o vs).heap.size = w.heap.size ∧ (setMany w b o vs).os = w.os ∧ (setMany w b o vs).tape = w.tape ∧ (setMany w b o vs).output = w.output ∧
   (∀ c, c ≠ b → (setMany w b o vs).heap[c]? = w.heap[c]?) ∧ (∀ c, (setMany w b o vs).shape? c = w.shape? c) ∧ (∀ a, (setMany w b o vs).frozen? a = w.frozen? a) ∧
   (∀ j v, vs[j]? = some v → (setMany w b o vs).cell? ⟨b, o + j, none⟩ = some v) ∧ (∀ j, (j < o ∨ o + vs.length ≤ j) → (setMany w b o vs).cell? ⟨b, j, none⟩ = w.cell? ⟨b, j, none⟩) := by
 intro vs
 induction vs with
 | nil => intro o w h; refine ⟨rfl, rfl, rfl, rfl, fun _ _ => rfl, fun _ => rfl, fun _ => rfl, fun j v hv => (by cases hv), fun _ _ => rfl⟩
 | cons v vs ih =>
   intro o w h
   obtain ⟨u0, hu0⟩ := h 0 (by simp)
   rw [Nat.add_zero] at hu0
   have hshape : ∀ c, (w.setCell ⟨b, o, none⟩ v).shape? c = w.shape? c := fun c => by
     by_cases e : c = b
     · subst e
       unfold World.shape? World.setCell
       simp only [Array.getElem?_modify, if_true]
       cases hh : w.heap[c]? with
       | none => rfl
       | some x => cases x <;> simp
     · unfold World.shape?
       rw [Below.heap_setCell w ⟨b, o, none⟩ v c e]
   obtain ⟨g1, g2, g3, g4, g5, g6, g7, g8, g9⟩ := ih (o + 1) (w.setCell ⟨b, o, none⟩ v) (fun j hj => by
     obtain ⟨u, hu⟩ := h (j + 1) (by simp; omega)
     refine ⟨u, ?_⟩
     rw [World.cell?_setCell_other _ _ _ _ (by simp; omega), show o + 1 + j = o + (j + 1) from by omega]
     exact hu)
   refine ⟨g1.trans (by simp), g2, g3, g4, fun c hc => (g5 c hc).trans (Below.heap_setCell w _ v c hc), fun c => (g6 c).trans (hshape c), fun a => (g7 a).trans (World.frozen?_setCell _ _ _ _), fun j v' hv => ?_, fun j hj => ?_⟩
   · cases j with
     | zero =>
       simp at hv; subst hv
       rw [Nat.add_zero]
       refine (g9 o (.inl (by omega))).trans (World.cell?_setCell_same _ _ _ hu0)
     | succ j =>
       have := g8 j v' (by simpa using hv)
       rw [show o + 1 + j = o + (j + 1) from by omega] at this
       exact this
   · have hj' : j < o + 1 ∨ o + 1 + vs.length ≤ j := by rcases hj with hj | hj; exact .inl (by omega); exact .inr (by simp at hj; omega)
     refine (g9 j hj').trans (World.cell?_setCell_other _ _ _ _ ?_)
     rcases hj with hj | hj
     · simp; omega
     · simp at hj; simp; omega
theorem run_storeCells' (b o : Nat) : ∀ (vs : List Value) (k : Nat) (w : World), (∀ v ∈ vs, v.oneCell' = true) → (∀ j, j < vs.length → ∃ u, w.cell? ⟨b, o + k + j, none⟩ = some u) → (∀ j, w.frozen? ⟨b, j, none⟩ = false) →
   (storeCells ⟨b, o, none⟩ vs k).run P w = .ok () (setMany w b (o + k) vs) := by
 intro vs
 induction vs with
 | nil => intro k w _ _ _; simp [storeCells, setMany]
 | cons v vs ih =>
   intro k w h1 h2 h3
   obtain ⟨u0, hu0⟩ := h2 0 (by simp)
   rw [Nat.add_zero] at hu0
   simp only [storeCells, Sem.run_bind, run_store P w _ v .plain (h1 v (by simp)), add_off, hu0, h3, Bool.false_eq_true, if_false, Result.andThen_ok]
   rw [ih (k + 1) _ (fun v hv => h1 v (by simp [hv])) (fun j hj => ?_) (fun j => by rw [World.frozen?_setCell]; exact h3 j)]
   · rfl
   · obtain ⟨u, hu⟩ := h2 (j + 1) (by simp; omega)
     refine ⟨u, ?_⟩
     rw [World.cell?_setCell_other _ _ _ _ (by simp; omega), show o + (k + 1) + j = o + k + (j + 1) from by omega]
     exact hu
theorem run_storeVar' (h : tinfo P t = some i) (b o : Nat) (v : Value) (hs : v.cells.size = i.size) (h1 : ∀ x ∈ v.cells.toList, x.oneCell' = true) (h2 : ∀ j, j < i.size → ∃ u, w.cell? ⟨b, o + j, none⟩ = some u) (h3 : ∀ j, w.frozen? ⟨b, j, none⟩ = false) :
   (storeVar t ⟨b, o, none⟩ v).run P w = .ok () (setMany w b o v.cells.toList) := by
 simp only [storeVar, Sem.run_bind, run_sizeOf' h, Result.andThen_ok, hs, ne_eq, not_true_eq_false, if_false]
 have := run_storeCells' (P := P) b o v.cells.toList 0 w h1 (fun j hj => by rw [Nat.add_zero]; exact h2 j (by simpa [hs] using hj)) h3
 rw [Nat.add_zero] at this
 exact this
theorem run_newRow' (t : TypeId) (cs : Array Value) : (newRow t cs).run P w = .ok ⟨w.heap.size, 0, none⟩ (w.alloc (.cells cs t)) := by
 simp only [newRow, Sem.run_bind, run_newObj, Result.andThen_ok, Sem.run_pure]; rfl
end
end Go.Aw
end
section
namespace Go.Aw
open Go.RowKit
abbrev Wr := List (Nat × Option Blk)
def applyWr (h : Hp) : Wr → Hp
 | [] => h
 | (id, b) :: r => applyWr (upd h id b) r
structure Eff where
 c : Prop
 v : V
 wr : Wr
def Eff.val (v : V) : Eff := ⟨True, v, []⟩
def Does (P : Program) (w : World) (own : Nat → Prop) (ok : Nat → Nat → Prop) (s : Nat → Option Nat) (h : Hp) (nx : Nat) (x : Sem Next) (d : V) (wr : Wr) : Prop :=
 ∃ (r : Next) (w' : World) (own' : Nat → Prop) (ok' : Nat → Nat → Prop) (s' : Nat → Option Nat), x.run P w = .ok r w' ∧ ((∃ v, r = .value v ∧ Rep w' ok' s' v d) ∨ (r = .skip ∧ d = .undef)) ∧
   RH w' own' ok' s' (applyWr h wr) ∧ Evol own ok w own' ok' w' ∧ (∀ id, ¬(nx ≤ id ∧ id < nx + 64) → s' id = s id)
section
variable {P : Program} {w : World} {own : Nat → Prop} {ok : Nat → Nat → Prop} {s : Nat → Option Nat} {h : Hp} {nx : Nat}
theorem Does.pure (hr : RH w own ok s h) {x : Sem Next} {v : Value} {d : V} (hx : x.run P w = .ok (.value v) w) (hv : Rep w ok s v d) : Does P w own ok s h nx x d [] :=
 ⟨_, w, own, ok, s, hx, .inl ⟨v, rfl, hv⟩, hr, Evol.refl _ _ _, fun _ _ => rfl⟩
theorem run_value (x : Sem Value) (v : Value) (w' : World) (hx : x.run P w = .ok v w') : (do let y ← x; pure (Next.value y) : Sem Next).run P w = .ok (.value v) w' := by
 simp [hx]
def inR (k : IntKind) (n : Int) : Prop :=
 match k with
 | .i8 => -128 ≤ n ∧ n ≤ 127
 | .i16 => -32768 ≤ n ∧ n ≤ 32767
 | .i32 => -2147483648 ≤ n ∧ n ≤ 2147483647
 | .i64 => -9223372036854775808 ≤ n ∧ n ≤ 9223372036854775807
 | .u8 => 0 ≤ n ∧ n ≤ 255
 | .u16 => 0 ≤ n ∧ n ≤ 65535
 | .u32 => 0 ≤ n ∧ n ≤ 4294967295
 | .u64 => 0 ≤ n ∧ n ≤ 18446744073709551615
theorem wrap_inR {k : IntKind} {n : Int} (hn : inR k n) : k.wrap n = n := by
 cases k
 · exact IntWalk.i8_in n hn
 · exact IntWalk.i16_in n hn
 · exact IntWalk.i32_in n hn
 · exact IntWalk.i64_in n hn
 · exact IntWalk.u8_in n hn
 · exact IntWalk.u16_in n hn
 · exact IntWalk.u32_in n hn
 · exact IntWalk.u64_in n hn
def ibits (op : BinOp) (k : IntKind) (x y : Int) : Int :=
 let a := BitVec.ofInt k.bits x
 let b := BitVec.ofInt k.bits y
 match op with
 | .and => k.wrap (a &&& b).toNat
 | .or => k.wrap (a ||| b).toNat
 | .xor => k.wrap (a ^^^ b).toNat
 | _ => k.wrap (a &&& ~~~b).toNat
def ints (op : BinOp) (k : IntKind) (x y : Int) : Eff :=
 match op with
 | .add => ⟨inR k (x + y), .lit (.int k (x + y)), []⟩
 | .sub => ⟨inR k (x - y), .lit (.int k (x - y)), []⟩
 | .mul => if k = .u64 then .val (.lit (.int k (k.wrap (x * y)))) else ⟨inR k (x * y), .lit (.int k (x * y)), []⟩
 | .quo => ⟨0 ≤ x ∧ 1 ≤ y ∧ inR k (x / y), .lit (.int k (x / y)), []⟩
 | .rem => ⟨0 ≤ x ∧ 1 ≤ y, .lit (.int k (x % y)), []⟩
 | .and | .or | .xor | .andNot => .val (.lit (.int k (ibits op k x y)))
 | .shl => ⟨0 ≤ y ∧ inR k (x * 2 ^ (min y.toNat k.bits)), .lit (.int k (x * 2 ^ (min y.toNat k.bits))), []⟩
 | .shr => ⟨0 ≤ y, .lit (.int k (x.fdiv (2 ^ (min y.toNat k.bits)))), []⟩
 | .eql => .val (.lit (.bool (x == y)))
 | .neq => .val (.lit (.bool (x != y)))
 | .lss => .val (.lit (.bool (decide (x < y))))
 | .leq => .val (.lit (.bool (decide (x ≤ y))))
 | .gtr => .val (.lit (.bool (decide (x > y))))
 | .geq => .val (.lit (.bool (decide (x ≥ y))))
def isShift : BinOp → Bool
 | .shl | .shr => true
 | _ => false
theorem ints_run (op : BinOp) (T : TypeId) (k k' : IntKind) (x y : Int) (hk : isShift op = false → k = k') (hc : (ints op k x y).c) : ∃ v, (ints op k x y).v = .lit v ∧ isLit v = true ∧ (ints op k x y).wr = [] ∧ (binOp op T (.int k x) (.int k' y)).run P w = .ok v w := by
 have rest : ∀ (hs : isShift op = false), binOp op T (.int k x) (.int k' y) = binOp op T (.int k x) (.int k y) := fun hs => by rw [hk hs]
 cases op
 case add => rw [rest rfl]; exact ⟨_, rfl, rfl, rfl, by simp [binOp, Op.intArith, wrap_inR (show inR k (x + y) from hc)]⟩
 case sub => rw [rest rfl]; exact ⟨_, rfl, rfl, rfl, by simp [binOp, Op.intArith, wrap_inR (show inR k (x - y) from hc)]⟩
 case mul =>
   rw [rest rfl]
   by_cases h : k = .u64
   · subst h
     refine ⟨.int .u64 (IntKind.wrap .u64 (x * y)), rfl, rfl, rfl, ?_⟩
     simp [binOp, Op.intArith]
   · have e : ints .mul k x y = ⟨inR k (x * y), .lit (.int k (x * y)), []⟩ := by simp only [ints, if_neg h]
     rw [e] at hc ⊢
     exact ⟨_, rfl, rfl, rfl, by simp [binOp, Op.intArith, wrap_inR (show inR k (x * y) from hc)]⟩
 case quo =>
   rw [rest rfl]
   obtain ⟨h1, h2, h3⟩ := (show 0 ≤ x ∧ 1 ≤ y ∧ inR k (x / y) from hc)
   refine ⟨_, rfl, rfl, rfl, ?_⟩
   have : x.tdiv y = x / y := Int.tdiv_eq_ediv_of_nonneg h1
   simp [binOp, Op.intDiv, this, wrap_inR h3, show ¬ y = 0 by omega]
 case rem =>
   rw [rest rfl]
   obtain ⟨h1, h2⟩ := (show 0 ≤ x ∧ 1 ≤ y from hc)
   refine ⟨_, rfl, rfl, rfl, ?_⟩
   have : x.tmod y = x % y := Int.tmod_eq_emod_of_nonneg h1
   simp [binOp, Op.intDiv, this, show ¬ y = 0 by omega]
 case and => rw [rest rfl]; exact ⟨_, rfl, rfl, rfl, by simp [binOp, Op.intBits, ibits]⟩
 case or => rw [rest rfl]; exact ⟨_, rfl, rfl, rfl, by simp [binOp, Op.intBits, ibits]⟩
 case xor => rw [rest rfl]; exact ⟨_, rfl, rfl, rfl, by simp [binOp, Op.intBits, ibits]⟩
 case andNot => rw [rest rfl]; exact ⟨_, rfl, rfl, rfl, by simp [binOp, Op.intBits, ibits]⟩
 case shl =>
   obtain ⟨h1, h2⟩ := (show 0 ≤ y ∧ inR k (x * 2 ^ (min y.toNat k.bits)) from hc)
   exact ⟨_, rfl, rfl, rfl, by simp [binOp, Op.shift, show ¬ y < 0 by omega, wrap_inR h2]⟩
 case shr =>
   have h1 := (show 0 ≤ y from hc)
   exact ⟨_, rfl, rfl, rfl, by simp [binOp, Op.shift, show ¬ y < 0 by omega]⟩
 case eql => rw [rest rfl]; exact ⟨_, rfl, rfl, rfl, by simp [binOp, Op.intCmp]⟩
 case neq => rw [rest rfl]; exact ⟨_, rfl, rfl, rfl, by simp [binOp, Op.intCmp]⟩
 case lss => rw [rest rfl]; exact ⟨_, rfl, rfl, rfl, by simp [binOp, Op.intCmp]⟩
 case leq => rw [rest rfl]; exact ⟨_, rfl, rfl, rfl, by simp [binOp, Op.intCmp]⟩
 case gtr => rw [rest rfl]; exact ⟨_, rfl, rfl, rfl, by simp [binOp, Op.intCmp]⟩
 case geq => rw [rest rfl]; exact ⟨_, rfl, rfl, rfl, by simp [binOp, Op.intCmp]⟩
theorem eqGuard_lit (op : BinOp) (t : TypeId) (x y : Operand) (a b : Value) (ha : ∀ c, a ≠ .agg c) (ha' : a ≠ .nilIface) : (eqGuard op t x y a b).run P w = .ok () w := by
 cases op <;> first
   | (simp [eqGuard]; done)
   | (cases a <;> first | (exact absurd rfl (ha _)) | (exact absurd rfl ha') | simp [eqGuard])
def eqLit : Value → Value → Option Bool
 | .int k a, .int k' b => if k = k' then some (a == b) else none
 | .bool a, .bool b => some (a == b)
 | .string a, .string b => some (a == b)
 | _, _ => none
def litT (P : Program) (t : TypeId) : Value → Bool
 | .int _ _ => (match P.underlying t with | some (.int _) => true | _ => false)
 | .bool _ => (match P.underlying t with | some .bool => true | _ => false)
 | .string _ => (match P.underlying t with | some .string => true | _ => false)
 | _ => false
theorem equalIn_lit (d : Nat) (t : TypeId) (a b : Value) (r : Bool) (h : eqLit a b = some r) (ht : litT P t a = true) : (Op.equalIn (d + 1) t a b).run P w = .ok r w := by
 unfold eqLit at h
 split at h
 · rename_i k x k' y
   split at h
   · rename_i e; subst e
     simp at h; subst h
     simp only [litT] at ht
     split at ht
     · rename_i hu; exact run_equalIn_int w d t _ _ x y hu
     · cases ht
   · cases h
 · rename_i x y
   simp at h; subst h
   simp only [litT] at ht
   split at ht
   · rename_i hu; exact run_equalIn_bool' w d t x y hu
   · cases ht
 · rename_i x y
   simp at h; subst h
   simp only [litT] at ht
   split at ht
   · rename_i hu; rw [run_equalIn_string w d t x y hu, beq_toListBytes]
   · cases ht
 · cases h
def eqFld (P : Program) (rec : TypeId → List V → List V → Option Bool) (as bs : List V) (f : Field) (r : Option Bool) : Option Bool :=
 match r with
 | none => none
 | some r =>
   if f.name = "_" then none else
   match tinfo P f.type with
   | none => none
   | some i =>
     if isAggD i.desc then
       match rec f.type (List.take i.size (as.drop f.offset)) (List.take i.size (bs.drop f.offset)) with
       | some b => some (b && r)
       | none => none
     else match as.drop f.offset, bs.drop f.offset with
       | .lit a :: _, .lit b :: _ => if litT P f.type a then (match eqLit a b with | some q => some (q && r) | none => none) else none
       | _, _ => none
def eqCells (P : Program) : Nat → TypeId → List V → List V → Option Bool
 | 0, _, _, _ => none
 | 1, _, _, _ => none
 | d + 2, t, as, bs =>
   match P.underlying t with
   | some (.struct fs) => if P.stoodInHeld t then none else fs.toList.foldr (eqFld P (eqCells P (d + 1)) as bs) (some true)
   | _ => none
theorem run_part' {t : TypeId} {i : TI} (hi : tinfo P t = some i) (cs : Array Value) (o : Nat) (hn : isAggD i.desc = false → o < cs.size) :
   (part t cs o).run P w = .ok (if isAggD i.desc then .agg (cs.extract o (o + i.size)) else cs.getD o undef) w := by
 simp only [part, Sem.run_bind, run_isAgg' hi, Result.andThen_ok]
 by_cases ha : isAggD i.desc = true
 · simp [ha, run_sizeOf' hi]
 · have ha' : isAggD i.desc = false := by simpa using ha
   simp [ha', Array.getElem?_eq_getElem (hn ha'), Array.getD, hn ha']
theorem eqCells_run : ∀ (d : Nat) (t : TypeId) (xs ys : Array Value) (as bs : List V) (r : Bool), eqCells P d t as bs = some r → xs.size = as.length → ys.size = bs.length →
   (∀ (i : Nat) (d : V) (v : Value), as[i]? = some d → xs[i]? = some v → Rep w ok s v d) → (∀ (i : Nat) (d : V) (v : Value), bs[i]? = some d → ys[i]? = some v → Rep w ok s v d) →
   (Op.equalIn d t (.agg xs) (.agg ys)).run P w = .ok r w := by
 intro d
 induction d using Nat.strongRecOn with
 | _ d ih =>
 intro t xs ys as bs r h hx hy hcx hcy
 match d with
 | 0 => simp [eqCells] at h
 | 1 => simp [eqCells] at h
 | d + 2 =>
   unfold eqCells at h
   split at h
   · rename_i fs hu
     split at h
     · cases h
     · rename_i hst
       have hst' : P.stoodInHeld t = false := by simpa using hst
       have hf : P.fieldsOf t = fs := by unfold Program.fieldsOf; rw [hu]
       rw [run_equalIn_struct w (d + 1) t xs ys (by rw [hf]; exact hu) hst', hf]
       generalize fs.toList = l at h
       clear hu hf hst hst' fs
       induction l generalizing r with
       | nil => simp at h; subst h; simp [Op.eqFields]
       | cons f l ihl =>
         rw [List.foldr_cons] at h
         cases hr : List.foldr (eqFld P (eqCells P (d + 1)) as bs) (some true) l with
         | none => rw [hr] at h; simp [eqFld] at h
         | some r' =>
           rw [hr] at h
           have ihl' := ihl r' hr
           simp only [eqFld] at h
           split at h
           · cases h
           · rename_i hn
             split at h
             · cases h
             · rename_i i hi
               have key : ∀ q : Bool, r = (q && r') → (∃ a b : Value, (part f.type xs f.offset).run P w = .ok a w ∧ (part f.type ys f.offset).run P w = .ok b w ∧ (Op.equalIn (d + 1) f.type a b).run P w = .ok q w) →
                   (Op.eqFields (d + 1) xs ys (f :: l)).run P w = .ok r w := by
                 rintro q rfl ⟨a, b, h1, h2, h3⟩
                 simp only [Op.eqFields, ne_eq, hn, not_false_eq_true, if_true, Sem.run_bind, h1, h2, h3, Result.andThen_ok]
                 cases q
                 · simp
                 · simp [ihl']
               split at h
               · rename_i ha
                 split at h
                 · rename_i q hq
                   simp at h
                   refine key q h.symm ⟨_, _, run_part' hi xs f.offset (fun h' => by rw [ha] at h'; cases h'), run_part' hi ys f.offset (fun h' => by rw [ha] at h'; cases h'), ?_⟩
                   rw [ha]; simp only [if_true]
                   refine ih (d + 1) (by omega) f.type _ _ _ _ q hq ?_ ?_ ?_ ?_
                   · simp; omega
                   · simp; omega
                   · intro j e v he hv
                     rw [List.getElem?_take] at he
                     split at he
                     · rw [List.getElem?_drop] at he
                       refine hcx _ e v he ?_
                       rw [Array.getElem?_extract] at hv
                       split at hv
                       · exact hv
                       · cases hv
                     · cases he
                   · intro j e v he hv
                     rw [List.getElem?_take] at he
                     split at he
                     · rw [List.getElem?_drop] at he
                       refine hcy _ e v he ?_
                       rw [Array.getElem?_extract] at hv
                       split at hv
                       · exact hv
                       · cases hv
                     · cases he
                 · cases h
               · rename_i ha
                 have ha' : isAggD i.desc = false := by simpa using ha
                 split at h
                 · rename_i a la b lb e1 e2
                   split at h
                   · rename_i hl
                     split at h
                     · rename_i q hq
                       simp at h
                       have g1 : as[f.offset]? = some (.lit a) := by have := List.getElem?_drop (xs := as) (i := f.offset) (j := 0); rw [e1] at this; simpa using this.symm
                       have g2 : bs[f.offset]? = some (.lit b) := by have := List.getElem?_drop (xs := bs) (i := f.offset) (j := 0); rw [e2] at this; simpa using this.symm
                       have l1 : f.offset < xs.size := by rw [hx]; exact (List.getElem?_eq_some_iff.1 g1).1
                       have l2 : f.offset < ys.size := by rw [hy]; exact (List.getElem?_eq_some_iff.1 g2).1
                       obtain ⟨x1, hx1⟩ : ∃ x1, xs[f.offset]? = some x1 := ⟨_, Array.getElem?_eq_getElem l1⟩
                       obtain ⟨x2, hx2⟩ : ∃ x2, ys[f.offset]? = some x2 := ⟨_, Array.getElem?_eq_getElem l2⟩
                       have v1 := hcx _ _ _ g1 hx1
                       have v2 := hcy _ _ _ g2 hx2
                       refine key q h.symm ⟨_, _, run_part' hi xs f.offset (fun _ => l1), run_part' hi ys f.offset (fun _ => l2), ?_⟩
                       rw [ha']
                       simp only [Bool.false_eq_true, if_false, Array.getD_eq_getD_getElem?, hx1, hx2, Option.getD_some]
                       cases v1; cases v2
                       exact equalIn_lit d f.type a b q hq hl
                     · cases h
                   · cases h
                 · cases h
   · cases h
end
end Go.Aw
end
section
namespace Go.Aw
open Go.RowKit
def V.cell : V → Bool
 | .undef | .agg _ | .tup _ => false
 | _ => true
section
variable {P : Program} {w : World} {own : Nat → Prop} {ok : Nat → Nat → Prop} {s : Nat → Option Nat} {h : Hp} {nx : Nat}
theorem lit_one {v : Value} (h : isLit v = true) : v.oneCell' = true ∧ v.cells = #[v] := by
 cases v <;> first | exact ⟨rfl, rfl⟩ | (simp [isLit] at h)
theorem Rep.cells {v : Value} {d : V} (hv : Rep w ok s v d) (hd : d.ok = true) : v.cells.size = d.cells.length ∧ ∀ (j : Nat) (e : V) (x : Value), d.cells[j]? = some e → v.cells[j]? = some x → Rep w ok s x e := by
 have one : ∀ {v d}, Rep w ok s v d → v.cells = #[v] → d.cells = [d] → v.cells.size = d.cells.length ∧ ∀ (j : Nat) (e : V) (x : Value), d.cells[j]? = some e → v.cells[j]? = some x → Rep w ok s x e := fun {v d} hr h1 h2 => by
   rw [h1, h2]
   refine ⟨rfl, fun j e x he hx => ?_⟩
   cases j with
   | zero => simp at he hx; subst he; subst hx; exact hr
   | succ j => simp at he
 cases hv with
 | undef => cases hd
 | lit _ hl => exact one (.lit v hl) (lit_one hl).2 rfl
 | agg vs cs hl hc => exact ⟨hl, hc⟩
 | sl a n cap k es ex us h1 h2 h3 h4 h5 h6 => exact one (.sl a n cap k es ex us h1 h2 h3 h4 h5 h6) rfl rfl
 | rp b o cs us h1 h2 => exact one (.rp b o cs us h1 h2) rfl rfl
 | ref id k i off B h1 => exact one (.ref id k i off B h1) rfl rfl
 | os0 id k ex a => exact one (.os0 id k ex a) rfl rfl
 | os id k n ex B cap ty sz h1 h2 h3 h4 h5 => exact one (.os id k n ex B cap ty sz h1 h2 h3 h4 h5) rfl rfl
 | fn f vs us a b h1 h2 h3 h4 => exact one (.fn f vs us a b h1 h2 h3 h4) rfl rfl
 | tup vs cs h1 h2 => exact one (.tup vs cs h1 h2) rfl rfl
 | ifc t v d h1 => exact one (.ifc t v d h1) rfl rfl
 | mp id B h1 => exact one (.mp id B h1) rfl rfl
theorem Rep.oneCell {v : Value} {d : V} (hv : Rep w ok s v d) (hd : d.cell = true) : v.oneCell' = true := by
 cases hv <;> first | (rename_i hl; exact (lit_one hl).1) | rfl | (simp [V.cell] at hd; done)
def cellsAt (h : Hp) : V → Option (Prop × List V)
 | .ref id k i off => match h id with
   | some b => if b.k = k then some (i < b.es.length, (b.es.getD i []).drop off) else none
   | none => none
 | .rp cs => some (True, cs)
 | _ => none
theorem cellsAt_sound (hr : RH w own ok s h) {v : Value} {x : V} {C : Prop} {cs : List V} (hv : Rep w ok s v x) (hx : cellsAt h x = some (C, cs)) (hC : C) :
   ∃ (b o : Nat) (us : Nat → Value), v = .pointer (some ⟨b, o, none⟩) ∧ ∀ (j : Nat) (d : V), cs[j]? = some d → w.cell? ⟨b, o + j, none⟩ = some (us j) ∧ Rep w ok s (us j) d := by
 cases hv with
 | ref id k i off B hB =>
   simp only [cellsAt] at hx
   split at hx
   · rename_i b hb
     split at hx
     · rename_i hk; subst hk
       simp only [Option.some.injEq, Prod.mk.injEq] at hx
       obtain ⟨rfl, rfl⟩ := hx
       refine ⟨B, i * b.k + off, fun j => (w.cell? ⟨B, i * b.k + off + j, none⟩).getD undef, rfl, fun j d hj => ?_⟩
       rw [List.getElem?_drop] at hj
       have hi : b.es[i]? = some (b.es.getD i []) := by rw [List.getD_eq_getElem?_getD, List.getElem?_eq_getElem hC]; rfl
       obtain ⟨u, g1, g2⟩ := (hr.blk id b hb).cells B hB i (off + j) _ d hi hj
       rw [← Nat.add_assoc] at g1
       have e1 : (w.cell? ⟨B, i * b.k + off + j, none⟩).getD undef = u := by rw [g1]; rfl
       show _ = some ((w.cell? ⟨B, i * b.k + off + j, none⟩).getD undef) ∧ Rep w ok s ((w.cell? ⟨B, i * b.k + off + j, none⟩).getD undef) d
       rw [e1]
       exact ⟨g1, g2⟩
     · cases hx
   · cases hx
 | rp b o cs' us hm hc =>
   simp only [cellsAt, Option.some.injEq, Prod.mk.injEq] at hx
   obtain ⟨rfl, rfl⟩ := hx
   exact ⟨b, o, us, rfl, fun j d hj => ⟨(hm j (List.getElem?_eq_some_iff.1 hj).1).2, hc j d hj⟩⟩
 | _ => simp [cellsAt] at hx
def actLoad (P : Program) (t : TypeId) (x : V) (h : Hp) : Option Eff :=
 match tinfo P t, cellsAt h x with
 | some i, some (C, cs) => if isAggD i.desc then some ⟨C ∧ i.size ≤ cs.length, .agg (cs.take i.size), []⟩ else if i.size = 1 then some ⟨C ∧ 0 < cs.length, cs.headD .undef, []⟩ else none
 | _, _ => none
theorem actLoad_sound (hr : RH w own ok s h) {t : TypeId} {x : V} {v : Value} {e : Eff} (hv : Rep w ok s v x) (he : actLoad P t x h = some e) (hc : e.c) :
   ∃ u, (Instr.loadAt t v).run P w = .ok u w ∧ Rep w ok s u e.v ∧ e.wr = [] := by
 unfold actLoad at he
 split at he
 · rename_i i C cs hi hx
   split at he
   · rename_i ha
     cases he
     obtain ⟨hC, hl⟩ := hc
     obtain ⟨b, o, us, rfl, hus⟩ := cellsAt_sound hr hv hx hC
     have hcell : ∀ j, j < i.size → w.cell? ⟨b, o + j, none⟩ = some (us j) := fun j hj => (hus j _ (List.getElem?_eq_getElem (show j < cs.length by omega))).1
     have hrun := run_loadVar' (P := P) hi b o us hcell (fun h' => by rw [ha] at h'; cases h')
     rw [if_pos ha] at hrun
     refine ⟨.agg (((List.range i.size).map us).toArray), ?_, ?_, rfl⟩
     · simp only [Instr.loadAt, Instr.sureAddr, Sem.run_bind, Sem.run_pure, Result.andThen_ok]
       exact hrun
     · refine .agg _ _ (by simp; omega) (fun j d u hd hu => ?_)
       rw [List.getElem?_take] at hd
       split at hd
       · rename_i hj
         have : u = us j := by simpa [hj] using hu.symm
         subst this
         exact (hus j d hd).2
       · cases hd
   · rename_i ha
     have ha' : isAggD i.desc = false := by simpa using ha
     split at he
     · rename_i hs
       cases he
       obtain ⟨hC, hl⟩ := hc
       obtain ⟨b, o, us, rfl, hus⟩ := cellsAt_sound hr hv hx hC
       have h0 : cs[0]? = some (cs.headD .undef) := by cases cs <;> simp_all
       have hcell : ∀ j, j < i.size → w.cell? ⟨b, o + j, none⟩ = some (us j) := fun j hj => by
         obtain rfl : j = 0 := by omega
         exact (hus 0 _ h0).1
       have hrun := run_loadVar' (P := P) hi b o us hcell (fun _ => by omega)
       rw [ha'] at hrun
       refine ⟨us 0, ?_, (hus 0 _ h0).2, rfl⟩
       simp only [Instr.loadAt, Instr.sureAddr, Sem.run_bind, Sem.run_pure, Result.andThen_ok]
       exact hrun
     · cases he
 · cases he
def splice (e : List V) (off : Nat) (cs : List V) : List V := e.take off ++ cs ++ e.drop (off + cs.length)
theorem splice_length {e : List V} {off : Nat} {cs : List V} (h : off + cs.length ≤ e.length) : (splice e off cs).length = e.length := by
 unfold splice; simp; omega
theorem splice_get {e : List V} {off : Nat} {cs : List V} (h : off + cs.length ≤ e.length) (j : Nat) : (splice e off cs)[j]? = if off ≤ j ∧ j < off + cs.length then cs[j - off]? else e[j]? := by
 unfold splice
 by_cases h1 : j < off
 · rw [if_neg (by omega), List.getElem?_append_left (by simp; omega), List.getElem?_append_left (by simp; omega), List.getElem?_take, if_pos h1]
 · by_cases h2 : j < off + cs.length
   · rw [if_pos ⟨by omega, h2⟩, List.getElem?_append_left (by simp; omega), List.getElem?_append_right (by simp; omega)]
     congr 1; simp; omega
   · rw [if_neg (by omega), List.getElem?_append_right (by simp; omega), List.getElem?_drop]
     congr 1; simp; omega
def actStore (P : Program) (t : TypeId) (x v : V) (h : Hp) : Option Eff :=
 match tinfo P t, x with
 | some i, .ref id k n off => match h id with
   | some b => if b.k = k ∧ b.mode = .wr then
       some ⟨n < b.es.length ∧ v.ok = true ∧ v.cells.length = i.size ∧ off + i.size ≤ k ∧ (∀ c ∈ v.cells, c.cell = true), .undef, [(id, some { b with es := b.es.set n (splice (b.es.getD n []) off v.cells) })]⟩ else none
   | none => none
 | _, _ => none
theorem actStore_sound (hr : RH w own ok s h) {t : TypeId} {x y : V} {v u : Value} {e : Eff} (hv : Rep w ok s v x) (hu : Rep w ok s u y) (he : actStore P t x y h = some e) (hc : e.c) :
   ∃ w', (Instr.storeAt t v u).run P w = .ok () w' ∧ RH w' own ok s (applyWr h e.wr) ∧ Evol own ok w own ok w' ∧ e.v = .undef := by
 unfold actStore at he
 split at he
 · rename_i i id k n off hi
   split at he
   · rename_i b hb
     split at he
     · rename_i hk
       obtain ⟨rfl, hm⟩ := hk
       cases he
       obtain ⟨h1, h2, h3, h4, h5⟩ := hc
       cases hv with
       | ref _ _ _ _ B hB =>
         obtain ⟨g1, g2⟩ := hu.cells h2
         have hbk := hr.blk id b hb
         have hown := hbk.own B hB (by rw [hm]; simp)
         obtain ⟨sz, hsh, hsz⟩ := hbk.shape B hB (by rw [hm]; intro m h; cases h)
         have hn : b.es[n]? = some (b.es.getD n []) := by rw [List.getD_eq_getElem?_getD, List.getElem?_eq_getElem h1]; rfl
         have hlen : (b.es.getD n []).length = b.k := hbk.len _ (List.mem_of_getElem? hn)
         have hcs : ∀ j, j < i.size → ∃ u, w.cell? ⟨B, n * b.k + off + j, none⟩ = some u := fun j hj => by
           obtain ⟨u, hu, _⟩ := hbk.cells B hB n (off + j) _ _ hn (List.getElem?_eq_getElem (show off + j < _ by omega))
           exact ⟨u, by rw [Nat.add_assoc]; exact hu⟩
         have hsize : u.cells.size = i.size := by rw [g1, h3]
         have hone : ∀ x ∈ u.cells.toList, x.oneCell' = true := fun x hx => by
           obtain ⟨j, hj, rfl⟩ := List.getElem_of_mem hx
           have hj' : j < y.cells.length := by rw [← g1]; simpa using hj
           have := g2 j (y.cells[j]) (u.cells.toList[j]) (List.getElem?_eq_getElem hj') (by simp [Array.getElem?_eq_getElem (show j < u.cells.size by simpa using hj)])
           exact this.oneCell (h5 _ (List.getElem_mem hj'))
         have hf := setMany_facts B u.cells.toList (n * b.k + off) w (fun j hj => hcs j (by simpa [hsize] using hj))
         obtain ⟨f1, f2, f3, f4, f5, f6, f7, f8, f9⟩ := hf
         have hrun : (Instr.storeAt t (.pointer (some ⟨B, n * b.k + off, none⟩)) u).run P w = .ok () (setMany w B (n * b.k + off) u.cells.toList) := by
           simp only [Instr.storeAt, Instr.sureAddr, Sem.run_bind, Sem.run_pure, Result.andThen_ok]
           exact run_storeVar' hi B _ u hsize hone hcs (fun j => hown.2 j)
         have hulen : u.cells.toList.length = i.size := by simpa using hsize
         refine ⟨_, hrun, ?_⟩
         have key := hr.write hb hm hB _ f2 f3 f4 f1 f5 (fun ty sz' hs => (f6 B).trans hs) (fun o => (f7 _).trans (hown.2 o)) (b.es.set n (splice (b.es.getD n []) off y.cells))
           (fun e he => by
             rcases List.mem_or_eq_of_mem_set he with he | he
             · exact hbk.len e he
             · rw [he, splice_length (by omega)]; exact hlen) (by simp)
           (fun i' j e d hi' hj => by
             by_cases hin : i' = n
             · subst hin
               rw [List.getElem?_set_self h1] at hi'
               cases hi'
               rw [splice_get (by omega)] at hj
               split at hj
               · rename_i hrange
                 have hj' : j - off < u.cells.size := by omega
                 have hux : u.cells[j - off]? = some (u.cells[j - off]) := Array.getElem?_eq_getElem hj'
                 refine ⟨u.cells[j - off], ?_, g2 _ _ _ hj hux⟩
                 have := f8 (j - off) (u.cells[j - off]) (by simp [hux])
                 rw [show i' * b.k + off + (j - off) = i' * b.k + j from by omega] at this
                 exact this
               · rename_i hrange
                 obtain ⟨u', q1, q2⟩ := hbk.cells B hB i' j _ d hn hj
                 refine ⟨u', (f9 _ ?_).trans q1, q2⟩
                 rw [hulen]; omega
             · rw [List.getElem?_set_ne (fun h => hin h.symm)] at hi'
               obtain ⟨u', q1, q2⟩ := hbk.cells B hB i' j e d hi' hj
               refine ⟨u', (f9 _ ?_).trans q1, q2⟩
               have hj2 := (List.getElem?_eq_some_iff.1 hj).1
               have hl2 := hbk.len e (List.mem_of_getElem? hi')
               rw [hulen]
               rcases Nat.lt_or_gt_of_ne hin with hlt | hgt
               · left
                 have : (i' + 1) * b.k ≤ n * b.k := Nat.mul_le_mul_right _ hlt
                 rw [Nat.add_mul] at this; omega
               · right
                 have : (n + 1) * b.k ≤ i' * b.k := Nat.mul_le_mul_right _ hgt
                 rw [Nat.add_mul] at this; omega)
         exact ⟨key.1, key.2, rfl⟩
     · cases he
   · cases he
 · cases he
end
end Go.Aw
end
section
namespace Go.Aw
open Go.RowKit
section
variable {P : Program} {w : World} {own : Nat → Prop} {ok : Nat → Nat → Prop} {s : Nat → Option Nat} {h : Hp} {nx : Nat}
theorem Does.newRow (hr : RH w own ok s h) (hs : s nx = none) (b : Blk) (hm : b.mode = .wr) (hp : 0 < b.k) (hl : ∀ e ∈ b.es, e.length = b.k) (cs : Array Value) (hsz : b.es.length * b.k ≤ cs.size)
   (hc : ∀ (i j : Nat) (e : List V) (d : V), b.es[i]? = some e → e[j]? = some d → ∃ u, cs[i * b.k + j]? = some u ∧ Rep w ok s u d)
   {x : Sem Next} {v : Value} {d : V} (hx : x.run P w = .ok (.value v) (w.alloc (.cells cs b.ty)))
   (hv : Rep (w.alloc (.cells cs b.ty)) ok (upd s nx (some w.heap.size)) v d) : Does P w own ok s h nx x d [(nx, some b)] :=
 ⟨_, _, _, _, _, hx, .inl ⟨v, rfl, hv⟩, hr.alloc nx hs b hm hp hl cs hsz hc, Evol.alloc hr nx hs _, fun id hid => upd_ne _ _ _ _ (fun e => hid (by omega))⟩
def zcells (i : TI) : List V := i.zero.cells.toList.map .lit
def okZero (i : TI) : Bool := i.zero.cells.size == i.size && i.zero.cells.all isLit
def actAlloc (P : Program) (t : TypeId) (nx : Nat) : Option Eff :=
 match tinfo P t with
 | some i => if okZero i = true ∧ 0 < i.size then some ⟨True, .ref nx i.size 0 0, [(nx, some ⟨i.size, [zcells i], t, .wr⟩)]⟩ else none
 | none => none
theorem actAlloc_sound (hr : RH w own ok s h) (hs : s nx = none) {t : TypeId} {e : Eff} (he : actAlloc P t nx = some e) :
   Does P w own ok s h nx (do pure (.value (← Instr.alloc t true (.tuple #[]))) : Sem Next) e.v e.wr := by
 unfold actAlloc at he
 split at he
 · rename_i i hi
   split at he
   · rename_i hz
     obtain ⟨hz, hpos⟩ := hz
     cases he
     simp only [okZero, Bool.and_eq_true, beq_iff_eq] at hz
     obtain ⟨hz1, hz2⟩ := hz
     have hall : ∀ v ∈ i.zero.cells, isLit v = true := Array.all_eq_true_iff_forall_mem.1 hz2
     refine Does.newRow hr hs ⟨i.size, [zcells i], t, .wr⟩ rfl hpos (fun e he => ?_) i.zero.cells (by simp [hz1]) (fun i' j e d hi' hj => ?_) (v := .pointer (some ⟨w.heap.size, 0, none⟩)) ?_ ?_
     · simp at he; subst he; simp [zcells, hz1]
     · cases i' with
       | zero =>
         simp at hi'; subst hi'
         simp only [zcells, List.getElem?_map, Option.map_eq_some_iff] at hj
         obtain ⟨u, hu, rfl⟩ := hj
         have hu' : i.zero.cells[j]? = some u := by simpa using hu
         refine ⟨u, by simpa using hu', .lit u (hall u (Array.mem_of_getElem? hu'))⟩
       | succ n => simp at hi'
     · simp only [Instr.alloc, Sem.run_bind, run_zeroValue' hi, Result.andThen_ok, newVar, run_newRow', Sem.run_pure]
     · have := Rep.ref (w := w.alloc (.cells i.zero.cells t)) (ok := ok) (s := upd s nx (some w.heap.size)) nx i.size 0 0 w.heap.size (upd_self _ _ _)
       simpa using this
   · cases he
 · cases he
def actBox (P : Program) (t : TypeId) (x : V) (nx : Nat) : Option Eff :=
 match tinfo P t with
 | some i => some ⟨x.ok = true ∧ x.cells.length = i.size ∧ 0 < i.size, .ref nx i.size 0 0, [(nx, some ⟨i.size, [x.cells], t, .wr⟩)]⟩
 | none => none
theorem actBox_sound (hr : RH w own ok s h) (hs : s nx = none) {t : TypeId} {x : V} {v : Value} (hv : Rep w ok s v x) {e : Eff} (he : actBox P t x nx = some e) (hc : e.c) :
   Does P w own ok s h nx (do pure (.value (← Instr.box t v)) : Sem Next) e.v e.wr := by
 unfold actBox at he
 split at he
 · rename_i i hi
   cases he
   obtain ⟨h1, h2, h3⟩ := hc
   obtain ⟨g1, g2⟩ := hv.cells h1
   refine Does.newRow hr hs ⟨i.size, [x.cells], t, .wr⟩ rfl h3 (fun e he => ?_) v.cells (by simp [g1, h2]) (fun i' j e d hi' hj => ?_) (v := .pointer (some ⟨w.heap.size, 0, none⟩)) ?_ ?_
   · simp at he; subst he; exact h2
   · cases i' with
     | zero =>
       simp at hi'; subst hi'
       have hj' : j < v.cells.size := by rw [g1]; exact (List.getElem?_eq_some_iff.1 hj).1
       exact ⟨v.cells[j], by simp [Array.getElem?_eq_getElem hj'], g2 j d _ hj (Array.getElem?_eq_getElem hj')⟩
     | succ n => simp at hi'
   · simp only [Instr.box, Sem.run_bind, newVar, run_newRow', Result.andThen_ok, Sem.run_pure]
   · have := Rep.ref (w := w.alloc (.cells v.cells t)) (ok := ok) (s := upd s nx (some w.heap.size)) nx i.size 0 0 w.heap.size (upd_self _ _ _)
     simpa using this
 · cases he
def fillA (place : Nat → Option (Nat × Nat)) (cells : List V) : List (Nat × V) → Option (Prop × List V)
 | [] => some (True, cells)
 | (i, v) :: rest =>
   match place i with
   | none => none
   | some (off, size) => match fillA place (splice cells off v.cells) rest with
     | some (C, cs) => some ((v.ok = true ∧ v.cells.length = size ∧ off + size ≤ cells.length) ∧ C, cs)
     | none => none
theorem foldl_set_get (off : Nat) : ∀ (l : List Value) (k : Nat) (cs : Array Value) (j : Nat),
   ((l.zipIdx k).foldl (fun cs (p : Value × Nat) => cs.setIfInBounds (off + p.2) p.1) cs).size = cs.size ∧
   (off + k + l.length ≤ cs.size → ((l.zipIdx k).foldl (fun cs (p : Value × Nat) => cs.setIfInBounds (off + p.2) p.1) cs)[j]? = if off + k ≤ j ∧ j < off + k + l.length then l[j - (off + k)]? else cs[j]?) := by
 intro l
 induction l with
 | nil => intro k cs j; refine ⟨rfl, fun _ => ?_⟩; simp; intro h1 h2; omega
 | cons v l ih =>
   intro k cs j
   obtain ⟨g1, g2⟩ := ih (k + 1) (cs.setIfInBounds (off + k) v) j
   rw [List.zipIdx_cons, List.foldl_cons]
   refine ⟨by rw [g1]; simp, fun hle => ?_⟩
   rw [g2 (by simp at hle ⊢; omega)]
   simp only [List.length_cons] at hle ⊢
   by_cases h1 : off + (k + 1) ≤ j ∧ j < off + (k + 1) + l.length
   · rw [if_pos h1, if_pos ⟨by omega, by omega⟩]
     have : j - (off + k) = (j - (off + (k + 1))) + 1 := by omega
     rw [this]; rfl
   · rw [if_neg h1]
     by_cases h2 : j = off + k
     · subst h2
       rw [if_pos ⟨by omega, by omega⟩]
       simp [show off + k < cs.size by omega]
     · rw [if_neg (by omega)]
       rw [Array.getElem?_setIfInBounds_ne (by omega)]
theorem fill_sound {place : Nat → Option (Nat × Nat)} : ∀ (parts : List (Nat × V)) (vs : List (Nat × Value)) (cells : Array Value) (cs : List V) (C : Prop) (out : List V), fillA place cs parts = some (C, out) → C →
   vs.map (·.1) = parts.map (·.1) → (∀ (j : Nat) (p : Nat × V) (q : Nat × Value), parts[j]? = some p → vs[j]? = some q → Rep w ok s q.2 p.2) → cells.size = cs.length →
   (∀ (j : Nat) (d : V) (u : Value), cs[j]? = some d → cells[j]? = some u → Rep w ok s u d) →
   ∃ outv, Instr.fill place cells vs = some outv ∧ outv.size = out.length ∧ out.length = cs.length ∧ (∀ (j : Nat) (d : V) (u : Value), out[j]? = some d → outv[j]? = some u → Rep w ok s u d) := by
 intro parts
 induction parts with
 | nil =>
   intro vs cells cs C out hf hC hl hp hsz hcs
   cases vs with
   | nil => simp [fillA] at hf; obtain ⟨_, rfl⟩ := hf; exact ⟨cells, rfl, hsz, rfl, hcs⟩
   | cons _ _ => simp at hl
 | cons p parts ih =>
   intro vs cells cs C out hf hC hl hp hsz hcs
   cases vs with
   | nil => simp at hl
   | cons q vs =>
     obtain ⟨i, v⟩ := p
     obtain ⟨i', u⟩ := q
     simp only [List.map_cons, List.cons.injEq] at hl
     obtain ⟨rfl, hl⟩ := hl
     simp only [fillA] at hf
     split at hf
     · cases hf
     · rename_i off size hpl
       split at hf
       · rename_i C' cs' hf'
         simp only [Option.some.injEq, Prod.mk.injEq] at hf
         obtain ⟨rfl, rfl⟩ := hf
         obtain ⟨⟨h1, h2, h3⟩, hC'⟩ := hC
         have hv := hp 0 _ _ rfl rfl
         obtain ⟨g1, g2⟩ := hv.cells h1
         simp only at g1 g2
         have hsp : (splice cs off v.cells).length = cs.length := splice_length (by omega)
         have F := foldl_set_get off u.cells.toList 0 cells
         have hcs' : ∀ (j : Nat) (d : V) (x : Value), (splice cs off v.cells)[j]? = some d → ((u.cells.toList.zipIdx 0).foldl (fun cs (p : Value × Nat) => cs.setIfInBounds (off + p.2) p.1) cells)[j]? = some x → Rep w ok s x d := by
           intro j d x hd hx
           rw [(F j).2 (by simp [g1, h2, hsz]; omega)] at hx
           rw [splice_get (by omega)] at hd
           have hul : u.cells.toList.length = v.cells.length := by simpa using g1
           by_cases hr : off ≤ j ∧ j < off + v.cells.length
           · rw [if_pos hr] at hd
             rw [if_pos (by omega)] at hx
             refine g2 (j - off) d x hd ?_
             simpa using hx
           · rw [if_neg hr] at hd
             rw [if_neg (by omega)] at hx
             exact hcs j d x hd hx
         obtain ⟨outv, o1, o2, o3, o4⟩ := ih vs _ _ C' cs' hf' hC' hl (fun j p q hp' hq' => hp (j + 1) p q hp' hq') (by rw [(F 0).1, hsp]; exact hsz) hcs'
         refine ⟨outv, ?_, o2, by rw [o3, hsp], o4⟩
         have hxx : u.cells.zipIdx.foldl (fun cs (p : Value × Nat) => cs.setIfInBounds (off + p.2) p.1) cells = (u.cells.toList.zipIdx 0).foldl (fun cs (p : Value × Nat) => cs.setIfInBounds (off + p.2) p.1) cells := by
           rw [← Array.foldl_toList, Array.toList_zipIdx]
         rw [← hxx] at o1
         simp only [Instr.fill, hpl]
         rw [if_neg (by simp [g1, h2, hsz]; omega)]
         exact o1
       · cases hf
def placeF (P : Program) (fs : Array Field) (i : Nat) : Option (Nat × Nat) :=
 match fs[i]? with
 | some f => match tinfo P f.type with
   | some j => some (f.offset, j.size)
   | none => none
 | none => none
def allFields (P : Program) (fs : Array Field) : Bool := fs.all fun f => (tinfo P f.type).isSome
def actBuild (P : Program) (t : TypeId) (parts : List (Nat × V)) : Option Eff :=
 match tinfo P t with
 | some i =>
   if okZero i = true then
     match i.desc with
     | .struct fs => if allFields P fs = true then (match fillA (placeF P fs) (zcells i) parts with | some (C, cs) => some ⟨C, .agg cs, []⟩ | none => none) else none
     | .array _ e => match tinfo P e with
       | some j => match fillA (fun i => some (i * j.size, j.size)) (zcells i) parts with | some (C, cs) => some ⟨C, .agg cs, []⟩ | none => none
       | none => none
     | _ => none
   else none
 | none => none
theorem zcells_rep {i : TI} (hz : okZero i = true) : i.zero.cells.size = (zcells i).length ∧ ∀ (j : Nat) (d : V) (u : Value), (zcells i)[j]? = some d → i.zero.cells[j]? = some u → Rep w ok s u d := by
 simp only [okZero, Bool.and_eq_true, beq_iff_eq] at hz
 refine ⟨by simp [zcells], fun j d u hd hu => ?_⟩
 simp only [zcells, List.getElem?_map, Option.map_eq_some_iff] at hd
 obtain ⟨u', hu', rfl⟩ := hd
 have : u = u' := by rw [Array.getElem?_toList, hu] at hu'; exact Option.some.inj hu'
 subst this
 exact .lit u (Array.all_eq_true_iff_forall_mem.1 hz.2 u (Array.mem_of_getElem? hu))
theorem mapM_places (fs : List Field) (h : ∀ f ∈ fs, (tinfo P f.type).isSome = true) :
   (List.mapM (fun f : Field => (do pure (f.offset, ← sizeOf f.type) : Sem (Nat × Nat))) fs).run P w = .ok (fs.map fun f => (f.offset, ((tinfo P f.type).getD default).size)) w := by
 induction fs with
 | nil => rfl
 | cons f fs ih =>
   obtain ⟨i, hi⟩ := Option.isSome_iff_exists.1 (h f (by simp))
   have ih' := ih fun f hf => h f (by simp [hf])
   rw [List.mapM_cons]
   simp only [Sem.run_bind, run_sizeOf' hi, Result.andThen_ok, Sem.run_pure, ih', List.map_cons, hi, Option.getD_some]
theorem actBuild_sound {t : TypeId} {parts : List (Nat × V)} {vs : Array (Nat × Value)} {e : Eff} (he : actBuild P t parts = some e) (hc : e.c) (hl : vs.toList.map (·.1) = parts.map (·.1))
   (hp : ∀ (j : Nat) (p : Nat × V) (q : Nat × Value), parts[j]? = some p → vs[j]? = some q → Rep w ok s q.2 p.2) :
   ∃ v, (Instr.build t vs).run P w = .ok v w ∧ Rep w ok s v e.v ∧ e.wr = [] := by
 have hp' : ∀ (j : Nat) (p : Nat × V) (q : Nat × Value), parts[j]? = some p → vs.toList[j]? = some q → Rep w ok s q.2 p.2 := fun j p q h1 h2 => hp j p q h1 (by simpa using h2)
 unfold actBuild at he
 split at he
 · rename_i i hi
   split at he
   · rename_i hz
     obtain ⟨z1, z2⟩ := zcells_rep (w := w) (ok := ok) (s := s) hz
     split at he
     · rename_i fs hd
       split at he
       · rename_i hall
         have hall' : ∀ f ∈ fs, (tinfo P f.type).isSome = true := Array.all_eq_true_iff_forall_mem.1 hall
         split at he
         · rename_i C cs hf
           cases he
           obtain ⟨outv, o1, o2, o3, o4⟩ := fill_sound parts vs.toList i.zero.cells (zcells i) C cs hf hc hl hp' z1 z2
           refine ⟨.agg outv, ?_, .agg outv cs o2 o4, rfl⟩
           have hpl : (fun k => (fs.map fun f => (f.offset, ((tinfo P f.type).getD default).size))[k]?) = placeF P fs := by
             funext k
             simp only [placeF, Array.getElem?_map]
             cases hk : fs[k]? with
             | none => rfl
             | some f =>
               obtain ⟨j, hj⟩ := Option.isSome_iff_exists.1 (hall' f (Array.mem_of_getElem? hk))
               simp [hj]
           have hm : (fs.mapM (fun f : Field => (do pure (f.offset, ← sizeOf f.type) : Sem (Nat × Nat)))).run P w = .ok (fs.map fun f => (f.offset, ((tinfo P f.type).getD default).size)) w := by
             have := mapM_places (P := P) (w := w) fs.toList (fun f hf => hall' f (by simpa using hf))
             rw [← Array.toList_mapM, Sem.run_map] at this
             generalize (fs.mapM (fun f : Field => (do pure (f.offset, ← sizeOf f.type) : Sem (Nat × Nat)))).run P w = r at this
             cases r with
             | ok a w' =>
               simp only [Result.andThen_ok, Result.ok.injEq] at this
               obtain ⟨h1, rfl⟩ := this
               congr 1
               apply Array.toList_inj.1
               rw [h1]; simp
             | halt x w' => cases this
           simp only [Instr.build, Sem.run_bind, run_zeroValue' hi, run_underlying' hi, Result.andThen_ok, hd, hm, hpl, o1, Sem.run_pure]
         · cases he
       · cases he
     · rename_i n el hd
       split at he
       · rename_i j hj
         split at he
         · rename_i C cs hf
           cases he
           obtain ⟨outv, o1, o2, o3, o4⟩ := fill_sound parts vs.toList i.zero.cells (zcells i) C cs hf hc hl hp' z1 z2
           refine ⟨.agg outv, ?_, .agg outv cs o2 o4, rfl⟩
           simp only [Instr.build, Sem.run_bind, run_zeroValue' hi, run_underlying' hi, Result.andThen_ok, hd, run_sizeOf' hj, o1, Sem.run_pure]
         · cases he
       · cases he
     · cases he
   · cases he
 · cases he
end
end Go.Aw
end
section
namespace Go.Aw
open Go.RowKit
section
variable {P : Program} {w : World} {own : Nat → Prop} {ok : Nat → Nat → Prop} {s : Nat → Option Nat} {h : Hp} {nx : Nat}
def fillE (k : Nat) (es : List (List V)) : List (Nat × V) → Prop × List (List V)
 | [] => (True, es)
 | (i, v) :: rest => let r := fillE k (es.set i v.cells) rest; ((v.ok = true ∧ v.cells.length = k ∧ i < es.length) ∧ r.1, r.2)
theorem fillE_sound {k : Nat} (hk : 0 < k) : ∀ (parts : List (Nat × V)) (vs : List (Nat × Value)) (cells : Array Value) (es : List (List V)), (fillE k es parts).1 →
   vs.map (·.1) = parts.map (·.1) → (∀ (j : Nat) (p : Nat × V) (q : Nat × Value), parts[j]? = some p → vs[j]? = some q → Rep w ok s q.2 p.2) → cells.size = es.length * k → (∀ e ∈ es, e.length = k) →
   (∀ (i j : Nat) (e : List V) (d : V), es[i]? = some e → e[j]? = some d → ∃ u, cells[i * k + j]? = some u ∧ Rep w ok s u d) →
   ∃ outv, Instr.fill (fun i => some (i * k, k)) cells vs = some outv ∧ outv.size = es.length * k ∧ (fillE k es parts).2.length = es.length ∧ (∀ e ∈ (fillE k es parts).2, e.length = k) ∧
     (∀ (i j : Nat) (e : List V) (d : V), (fillE k es parts).2[i]? = some e → e[j]? = some d → ∃ u, outv[i * k + j]? = some u ∧ Rep w ok s u d) := by
 intro parts
 induction parts with
 | nil =>
   intro vs cells es hC hl hp hsz hlen hcs
   cases vs with
   | nil => exact ⟨cells, rfl, hsz, rfl, hlen, hcs⟩
   | cons _ _ => simp at hl
 | cons p parts ih =>
   intro vs cells es hC hl hp hsz hlen hcs
   cases vs with
   | nil => simp at hl
   | cons q vs =>
     obtain ⟨i, v⟩ := p
     obtain ⟨i', u⟩ := q
     simp only [List.map_cons, List.cons.injEq] at hl
     obtain ⟨rfl, hl⟩ := hl
     obtain ⟨⟨h1, h2, h3⟩, hC'⟩ := hC
     have hv := hp 0 _ _ rfl rfl
     obtain ⟨g1, g2⟩ := hv.cells h1
     simp only at g1 g2
     have F := foldl_set_get (i' * k) u.cells.toList 0 cells
     have hul : u.cells.toList.length = k := by simpa [h2] using g1
     have hle : i' * k + k ≤ es.length * k := by
       have : (i' + 1) * k ≤ es.length * k := Nat.mul_le_mul_right _ h3
       rw [Nat.add_mul] at this; omega
     obtain ⟨outv, o1, o2, o3, o4, o5⟩ := ih vs ((u.cells.toList.zipIdx 0).foldl (fun cs (p : Value × Nat) => cs.setIfInBounds (i' * k + p.2) p.1) cells) (es.set i' v.cells) hC' hl (fun j p q hp' hq' => hp (j + 1) p q hp' hq')
       (by rw [(F 0).1, List.length_set]; exact hsz) (fun e he => by
         rcases List.mem_or_eq_of_mem_set he with he | he
         · exact hlen e he
         · rw [he]; exact h2) (fun a j e d ha hj => by
         rw [(F _).2 (by rw [hul, hsz]; omega)]
         by_cases hai : a = i'
         · subst hai
           rw [List.getElem?_set_self h3] at ha
           cases ha
           have hj' := (List.getElem?_eq_some_iff.1 hj).1
           rw [if_pos (by omega)]
           have hx : j < u.cells.size := by rw [g1]; exact hj'
           refine ⟨u.cells[j], ?_, g2 j d _ hj (Array.getElem?_eq_getElem hx)⟩
           rw [show a * k + j - (a * k + 0) = j from by omega]
           simp [Array.getElem?_eq_getElem hx]
         · rw [List.getElem?_set_ne (fun h => hai h.symm)] at ha
           have hj' := (List.getElem?_eq_some_iff.1 hj).1
           have hl' := hlen e (List.mem_of_getElem? ha)
           rw [if_neg]
           · exact hcs a j e d ha hj
           · rw [hul]
             rcases Nat.lt_or_gt_of_ne hai with hlt | hgt
             · have : (a + 1) * k ≤ i' * k := Nat.mul_le_mul_right _ hlt
               rw [Nat.add_mul] at this; omega
             · have : (i' + 1) * k ≤ a * k := Nat.mul_le_mul_right _ hgt
               rw [Nat.add_mul] at this; omega)
     refine ⟨outv, ?_, by rw [o2, List.length_set], by show (fillE k (es.set i' v.cells) parts).2.length = _; rw [o3, List.length_set], o4, o5⟩
     have hxx : u.cells.zipIdx.foldl (fun cs (p : Value × Nat) => cs.setIfInBounds (i' * k + p.2) p.1) cells = (u.cells.toList.zipIdx 0).foldl (fun cs (p : Value × Nat) => cs.setIfInBounds (i' * k + p.2) p.1) cells := by
       rw [← Array.foldl_toList, Array.toList_zipIdx]
     rw [← hxx] at o1
     simp only [Instr.fill]
     have hus : u.cells.size = k := by simpa using hul
     rw [if_neg (by simp [hus, hsz]; omega)]
     exact o1
def zrow (i : TI) (n : Nat) : Array Value := (Array.range (n * i.size)).map (i.zero.cells[· % i.zero.cells.size]!)
theorem zrow_sound {i : TI} (hz : okZero i = true) (hp : 0 < i.size) (n : Nat) : (zrow i n).size = n * i.size ∧
   ∀ (a j : Nat) (e : List V) (d : V), (List.replicate n (zcells i))[a]? = some e → e[j]? = some d → ∃ u, (zrow i n)[a * i.size + j]? = some u ∧ Rep w ok s u d := by
 obtain ⟨z1, z2⟩ := zcells_rep (w := w) (ok := ok) (s := s) hz
 simp only [okZero, Bool.and_eq_true, beq_iff_eq] at hz
 refine ⟨by simp [zrow], fun a j e d ha hj => ?_⟩
 rw [List.getElem?_replicate] at ha
 split at ha
 · rename_i han
   cases ha
   have hj' : j < i.size := by have := (List.getElem?_eq_some_iff.1 hj).1; rw [← z1, hz.1] at this; exact this
   have hjz : j < i.zero.cells.size := by omega
   refine ⟨i.zero.cells[j], ?_, z2 j d _ hj (Array.getElem?_eq_getElem hjz)⟩
   have hlt : a * i.size + j < n * i.size := addr_lt han hj'
   simp only [zrow, Array.getElem?_map]
   rw [Array.getElem?_range, if_pos hlt]
   have hmod : (a * i.size + j) % i.zero.cells.size = j := by rw [hz.1, Nat.mul_comm, Nat.mul_add_mod]; exact Nat.mod_eq_of_lt hj'
   simp only [Option.map_some, hmod]
   simp [getElem!_pos, hjz]
 · cases ha
def actBuildSlice (P : Program) (t : TypeId) (len : Nat) (parts : List (Nat × V)) (nx : Nat) : Option Eff :=
 match tinfo P t with
 | some ti => match ti.desc with
   | .slice e => match tinfo P e with
     | some i => if okZero i = true ∧ 0 < i.size ∧ len * i.size ≤ 16777216 then
         some ⟨(fillE i.size (List.replicate len (zcells i)) parts).1, .os nx i.size len true, [(nx, some ⟨i.size, (fillE i.size (List.replicate len (zcells i)) parts).2, e, .wr⟩)]⟩ else none
     | none => none
   | _ => none
 | none => none
theorem actBuildSlice_sound (hr : RH w own ok s h) (hs : s nx = none) {t : TypeId} {len : Nat} {parts : List (Nat × V)} {vs : Array (Nat × Value)} {e : Eff} (he : actBuildSlice P t len parts nx = some e) (hc : e.c) (hl : vs.toList.map (·.1) = parts.map (·.1))
   (hp : ∀ (j : Nat) (p : Nat × V) (q : Nat × Value), parts[j]? = some p → vs[j]? = some q → Rep w ok s q.2 p.2) :
   Does P w own ok s h nx (do pure (.value (← Instr.buildSlice t len vs)) : Sem Next) e.v e.wr := by
 unfold actBuildSlice at he
 split at he
 · rename_i ti hti
   split at he
   · rename_i el hd
     split at he
     · rename_i i hi
       split at he
       · rename_i hz
         obtain ⟨hz, hpos, hbig⟩ := hz
         cases he
         obtain ⟨r1, r2⟩ := zrow_sound (w := w) (ok := ok) (s := s) hz hpos len
         have hz' := hz
         simp only [okZero, Bool.and_eq_true, beq_iff_eq] at hz'
         obtain ⟨outv, o1, o2, o3, o4, o5⟩ := fillE_sound (w := w) (ok := ok) (s := s) hpos parts vs.toList (zrow i len) (List.replicate len (zcells i)) hc hl
           (fun j p q h1 h2 => hp j p q h1 (by simpa using h2)) (by rw [r1, List.length_replicate]) (fun e he => by rw [(List.mem_replicate.1 he).2]; simp [zcells, hz'.1]) r2
         rw [List.length_replicate] at o2 o3
         refine Does.newRow hr hs ⟨i.size, _, el, .wr⟩ rfl hpos o4 outv (by rw [o2, o3]; exact Nat.le_refl _) o5 (v := .slice (some ⟨w.heap.size, 0, none⟩) len len) ?_ ?_
         · simp only [Instr.buildSlice, Sem.run_bind, run_underlying' hti, hd, Result.andThen_ok, run_sizeOf' hi]
           rw [if_neg (by simp; omega)]
           by_cases h0 : len * i.size = 0
           · have hrow : ((Array.range (len * i.size)).map (fun x => (#[] : Array Value)[x % (#[] : Array Value).size]!)) = zrow i len := by unfold zrow; simp [h0]
             simp only [if_pos h0, Sem.run_bind, Sem.run_pure, Result.andThen_ok, hrow, o1, run_newRow']
           · simp only [if_neg h0, Sem.run_bind, Sem.run_pure, Result.andThen_ok, run_zeroValue' hi]
             have hrow : ((Array.range (len * i.size)).map (fun x => i.zero.cells[x % i.zero.cells.size]!)) = zrow i len := rfl
             simp only [hrow, o1, Sem.run_bind, run_newRow', Result.andThen_ok, Sem.run_pure]
         · exact .os nx i.size len true w.heap.size len el outv.size (upd_self _ _ _) (Nat.le_refl _) (fun _ => rfl) (shape_alloc_new w outv el) (by rw [o2]; exact Nat.le_refl _)
       · cases he
     · cases he
   · cases he
 · cases he
def actMakeSlice (P : Program) (t : TypeId) (n c : V) (nx : Nat) : Option Eff :=
 match tinfo P t, n, c with
 | some ti, .lit (.int _ n), .lit (.int _ c) => match ti.desc with
   | .slice e => match tinfo P e with
     | some i => if okZero i = true ∧ 0 < i.size ∧ i.bytes ≤ 1024 then
         some ⟨0 ≤ n ∧ n = c ∧ n ≤ 1073741824, .os nx i.size n.toNat true, [(nx, some ⟨i.size, List.replicate n.toNat (zcells i), e, .wr⟩)]⟩ else none
     | none => none
   | _ => none
 | _, _, _ => none
theorem actMakeSlice_sound (hr : RH w own ok s h) (hs : s nx = none) {t : TypeId} {x y : V} {v u : Value} (hv : Rep w ok s v x) (hu : Rep w ok s u y) {e : Eff} (he : actMakeSlice P t x y nx = some e) (hc : e.c) :
   Does P w own ok s h nx (do pure (.value (← Instr.makeSlice t v u)) : Sem Next) e.v e.wr := by
 unfold actMakeSlice at he
 split at he
 · rename_i ti _ n _ c hti
   split at he
   · rename_i el hd
     split at he
     · rename_i i hi
       split at he
       · rename_i hz
         obtain ⟨hz, hpos, hb⟩ := hz
         cases he
         obtain ⟨h1, rfl, h3⟩ := hc
         cases hv; cases hu
         obtain ⟨r1, r2⟩ := zrow_sound (w := w) (ok := ok) (s := s) hz hpos n.toNat
         have hz' := hz
         simp only [okZero, Bool.and_eq_true, beq_iff_eq] at hz'
         refine Does.newRow hr hs ⟨i.size, List.replicate n.toNat (zcells i), el, .wr⟩ rfl hpos (fun e he => by rw [(List.mem_replicate.1 he).2]; simp [zcells, hz'.1]) (zrow i n.toNat) (by simp [r1]) r2 (v := .slice (some ⟨w.heap.size, 0, none⟩) n.toNat n.toNat) ?_ ?_
         · obtain ⟨x, hx, hxb, hxs⟩ := run_typeInfo' (P := P) hi
           have hwr : IntKind.i64.wrap n = n := IntWalk.i64_in n (by omega)
           have hbn : (i.bytes : Int) * n ≤ 1024 * 1073741824 := by
             have : (i.bytes : Int) ≤ 1024 := by omega
             exact Int.mul_le_mul this h3 h1 (by omega)
           have hlarge : (decide (n < 0) || decide ((i.bytes : Int) * n > 2 ^ 48)) = false := by
             rw [Bool.or_eq_false_iff]
             exact ⟨decide_eq_false (by omega), decide_eq_false (by omega)⟩
           simp only [Instr.makeSlice, Sem.run_bind, run_underlying' hti, hd, Result.andThen_ok, asInt, asIntOf, Sem.run_pure, hx, hxb, hwr, hlarge, Bool.false_eq_true, false_or]
           rw [if_neg (by rw [Bool.false_or, Bool.or_eq_true]; simp; omega)]
           simp only [Sem.run_bind, run_askRoom, Result.andThen_ok, run_sizeOf' hi]
           by_cases h0 : n.toNat * i.size = 0
           · have hrow : ((Array.range (n.toNat * i.size)).map (fun x => (#[] : Array Value)[x % (#[] : Array Value).size]!)) = zrow i n.toNat := by unfold zrow; simp [h0]
             simp only [if_pos h0, Sem.run_bind, Sem.run_pure, Result.andThen_ok, hrow, run_newRow']
           · simp only [if_neg h0, Sem.run_bind, Sem.run_pure, Result.andThen_ok, run_zeroValue' hi]
             have hrow : ((Array.range (n.toNat * i.size)).map (fun x => i.zero.cells[x % i.zero.cells.size]!)) = zrow i n.toNat := rfl
             simp only [hrow, Sem.run_bind, run_newRow', Result.andThen_ok, Sem.run_pure]
         · exact .os nx i.size n.toNat true w.heap.size n.toNat el (zrow i n.toNat).size (upd_self _ _ _) (Nat.le_refl _) (fun _ => rfl) (shape_alloc_new w _ el) (by rw [r1]; exact Nat.le_refl _)
       · cases he
     · cases he
   · cases he
 · cases he
def actFieldAddr (P : Program) (t : TypeId) (x : V) (f : Nat) : Option Eff :=
 match tinfo P t with
 | some ti => match ti.desc with
   | .struct fs => match fs[f]? with
     | some fd => match tinfo P fd.type with
       | some i => if i.size = 0 then none else
         match x with
         | .ref id k n off => some (.val (.ref id k n (off + fd.offset)))
         | .rp cs => some (.val (.rp (cs.drop fd.offset)))
         | _ => none
       | none => none
     | none => none
   | _ => none
 | none => none
theorem Rep.rp_drop {v : Value} {cs : List V} (hv : Rep w ok s v (.rp cs)) (n : Nat) : ∃ b o, v = .pointer (some ⟨b, o, none⟩) ∧ Rep w ok s (.pointer (some ⟨b, o + n, none⟩)) (.rp (cs.drop n)) := by
 cases hv with
 | rp b o _ us hm hc =>
   refine ⟨b, o, rfl, .rp b (o + n) _ (fun j => us (n + j)) (fun j hj => ?_) (fun j d hd => ?_)⟩
   · have := hm (n + j) (by simp at hj; omega)
     rw [← Nat.add_assoc] at this; exact this
   · rw [List.getElem?_drop] at hd; exact hc (n + j) d hd
theorem actFieldAddr_sound {t : TypeId} {x : V} {v : Value} {f : Nat} {e : Eff} (hv : Rep w ok s v x) (he : actFieldAddr P t x f = some e) :
   ∃ u, (Instr.fieldAt t v f).run P w = .ok u w ∧ Rep w ok s u e.v ∧ e.wr = [] := by
 unfold actFieldAddr at he
 split at he
 · rename_i ti hti
   split at he
   · rename_i fs hd
     split at he
     · rename_i fd hf
       split at he
       · rename_i i hi
         split at he
         · cases he
         · rename_i h0
           split at he
           · rename_i id k n off
             cases he
             cases hv with
             | ref _ _ _ _ B hB =>
               refine ⟨.pointer (some ⟨B, n * k + (off + fd.offset), none⟩), ?_, .ref id k n _ B hB, rfl⟩
               simp only [Instr.fieldAt, Sem.run_bind, run_underlying' hti, hd, Result.andThen_ok, hf, Instr.sureAddr, Sem.run_pure, fieldPlace, run_sizeOf' hi, if_neg h0, add_off, Nat.add_assoc]
           · rename_i cs
             cases he
             obtain ⟨b, o, rfl, hr⟩ := hv.rp_drop fd.offset
             refine ⟨_, ?_, hr, rfl⟩
             simp only [Instr.fieldAt, Sem.run_bind, run_underlying' hti, hd, Result.andThen_ok, hf, Instr.sureAddr, Sem.run_pure, fieldPlace, run_sizeOf' hi, if_neg h0, add_off]
           · cases he
       · cases he
     · cases he
   · cases he
 · cases he
def actIndexAddr (P : Program) (t : TypeId) (x ix : V) : Option Eff :=
 match tinfo P t, ix with
 | some ti, .lit (.int _ n) => match ti.desc, x with
   | .array len e, .ref id k i off => match tinfo P e with
     | some j => some ⟨0 ≤ n ∧ n < len, .ref id k i (off + n.toNat * j.size), []⟩
     | none => none
   | .array len e, .rp cs => match tinfo P e with
     | some j => some ⟨0 ≤ n ∧ n < len, .rp (cs.drop (n.toNat * j.size)), []⟩
     | none => none
   | .slice e, .sl k es _ => match tinfo P e with
     | some j => if j.size = k ∧ 0 < k then some ⟨0 ≤ n ∧ n < es.length, .rp (es.getD n.toNat []), []⟩ else none
     | none => none
   | .slice e, .os id k m _ => match tinfo P e with
     | some j => if j.size = k then some ⟨0 ≤ n ∧ n < m, .ref id k n.toNat 0, []⟩ else none
     | none => none
   | _, _ => none
 | _, _ => none
theorem Rep.sl_at {v : Value} {k : Nat} {es : List (List V)} {ex : Bool} (hv : Rep w ok s v (.sl k es ex)) {n : Nat} (hn : n < es.length) (hk : 0 < k) : ∃ b o cap, v = .slice (some ⟨b, o, none⟩) es.length cap ∧ Rep w ok s (.pointer (some ⟨b, o + n * k, none⟩)) (.rp (es.getD n [])) := by
 cases hv with
 | sl a m cap _ _ _ us hm hcap hex hmem hkk hc =>
   subst hm
   obtain ⟨b, o, rfl, _⟩ := hmem n 0 hn hk
   have he : es[n]? = some (es.getD n []) := by rw [List.getD_eq_getElem?_getD, List.getElem?_eq_getElem hn]; rfl
   refine ⟨b, o, cap, rfl, .rp b _ _ (fun j => us n j) (fun j hj => ?_) (fun j d hd => hc n j _ d he hd)⟩
   have hl := hkk _ (List.mem_of_getElem? he)
   obtain ⟨b', o', hbo, h1, h2⟩ := hmem n j hn (by omega)
   cases hbo
   exact ⟨h1, h2⟩
theorem actIndexAddr_sound {t : TypeId} {x y : V} {v u : Value} {e : Eff} (hv : Rep w ok s v x) (hu : Rep w ok s u y) (he : actIndexAddr P t x y = some e) (hc : e.c) :
   ∃ r, (Instr.indexAt t v u).run P w = .ok r w ∧ Rep w ok s r e.v ∧ e.wr = [] := by
 unfold actIndexAddr at he
 split at he
 · rename_i ti _ n hti
   cases hu
   split at he
   · rename_i len el id k i off hd
     split at he
     · rename_i j hj
       cases he
       obtain ⟨h1, h2⟩ := hc
       cases hv with
       | ref _ _ _ _ B hB =>
         refine ⟨.pointer (some ⟨B, i * k + (off + n.toNat * j.size), none⟩), ?_, .ref id k i _ B hB, rfl⟩
         simp only [Instr.indexAt, Sem.run_bind, asIntOf, Sem.run_pure, Result.andThen_ok, run_underlying' hti, hd, Instr.sureAddr, run_sizeOf' hj, add_off, h1, h2, and_self, if_true, Nat.add_assoc]
     · cases he
   · rename_i len el cs hd
     split at he
     · rename_i j hj
       cases he
       obtain ⟨h1, h2⟩ := hc
       obtain ⟨b, o, rfl, hr⟩ := hv.rp_drop (n.toNat * j.size)
       refine ⟨_, ?_, hr, rfl⟩
       simp only [Instr.indexAt, Sem.run_bind, asIntOf, Sem.run_pure, Result.andThen_ok, run_underlying' hti, hd, Instr.sureAddr, run_sizeOf' hj, add_off, h1, h2, and_self, if_true]
     · cases he
   · rename_i el k es ex hd
     split at he
     · rename_i j hj
       split at he
       · rename_i hk
         cases he
         obtain ⟨h1, h2⟩ := hc
         obtain ⟨b, o, cap, rfl, hr⟩ := hv.sl_at (n := n.toNat) (by omega) hk.2
         refine ⟨_, ?_, hr, rfl⟩
         simp only [Instr.indexAt, Sem.run_bind, asIntOf, Sem.run_pure, Result.andThen_ok, run_underlying' hti, hd, run_sizeOf' hj, add_off, h1, h2, and_self, if_true, hk.1]
       · cases he
     · cases he
   · rename_i el id k m ex hd
     split at he
     · rename_i j hj
       split at he
       · rename_i hk
         cases he
         obtain ⟨h1, h2⟩ := hc
         cases hv with
         | os0 _ _ _ a => omega
         | os _ _ _ _ B cap ty sz hB hn hex hsh hcap =>
           refine ⟨.pointer (some ⟨B, n.toNat * k + 0, none⟩), ?_, .ref id k n.toNat 0 B hB, rfl⟩
           simp only [Instr.indexAt, Sem.run_bind, asIntOf, Sem.run_pure, Result.andThen_ok, run_underlying' hti, hd, run_sizeOf' hj, add_off, h1, h2, and_self, if_true, hk, Nat.zero_add, Nat.add_zero]
       · cases he
     · cases he
   · cases he
 · cases he
end
end Go.Aw
end
section
namespace Go.Aw
open Go.RowKit
section
variable {P : Program} {w : World} {own : Nat → Prop} {ok : Nat → Nat → Prop} {s : Nat → Option Nat} {h : Hp} {nx : Nat}
def spread (h : Hp) (k : Nat) : V → Option (Prop × List (List V))
 | .sl k' es _ => if k' = k then some (True, es) else none
 | .os id k' n _ => match h id with
   | some b => if b.k = k ∧ k' = k then some (n ≤ b.es.length, b.es.take n) else none
   | none => none
 | .lit (.slice none 0 0) => some (True, [])
 | _ => none
theorem spread_sound (hr : RH w own ok s h) {k : Nat} (hk : 0 < k) {v : Value} {x : V} (hv : Rep w ok s v x) {C : Prop} {ys : List (List V)} (hx : spread h k x = some (C, ys)) (hC : C) :
   ∃ (a : Option Addr) (cap : Nat) (us : Nat → Value), v = .slice a ys.length cap ∧ ys.length ≤ cap ∧ (∀ q, q < ys.length * k → ∃ b o, a = some ⟨b, o, none⟩ ∧ w.cell? ⟨b, o + q, none⟩ = some (us q)) ∧
     (∀ (i j : Nat) (e : List V) (d : V), ys[i]? = some e → e[j]? = some d → Rep w ok s (us (i * k + j)) d) ∧ (∀ e ∈ ys, e.length = k) := by
 cases hv with
 | sl a n cap k' es ex us hn hcap hex hm hkk hc =>
   simp only [spread] at hx
   split at hx
   · rename_i hk'; subst hk'
     simp only [Option.some.injEq, Prod.mk.injEq] at hx
     obtain ⟨_, rfl⟩ := hx
     subst hn
     refine ⟨a, cap, fun q => us (q / k') (q % k'), rfl, hcap, fun q hq => ?_, fun i j e d hi hj => ?_, hkk⟩
     · have h1 : q / k' < es.length := Nat.div_lt_of_lt_mul (by rw [Nat.mul_comm]; exact hq)
       obtain ⟨b, o, ha, _, h2⟩ := hm (q / k') (q % k') h1 (Nat.mod_lt _ hk)
       refine ⟨b, o, ha, ?_⟩
       rw [show o + q = o + q / k' * k' + q % k' from by rw [Nat.add_assoc, Nat.mul_comm, Nat.div_add_mod]]
       exact h2
     · have hj' : j < k' := by have := (List.getElem?_eq_some_iff.1 hj).1; rw [hkk e (List.mem_of_getElem? hi)] at this; exact this
       show Rep w ok s (us ((i * k' + j) / k') ((i * k' + j) % k')) d
       have e1 : (i * k' + j) / k' = i := by rw [Nat.mul_comm, Nat.mul_add_div hk, Nat.div_eq_of_lt hj', Nat.add_zero]
       have e2 : (i * k' + j) % k' = j := by rw [Nat.mul_comm, Nat.mul_add_mod]; exact Nat.mod_eq_of_lt hj'
       rw [e1, e2]
       exact hc i j e d hi hj
   · cases hx
 | os0 id k' ex a =>
   simp only [spread] at hx
   split at hx
   · rename_i b hb
     split at hx
     · rename_i hk'
       simp only [Option.some.injEq, Prod.mk.injEq] at hx
       obtain ⟨_, rfl⟩ := hx
       rw [List.take_zero]
       exact ⟨a, 0, fun _ => undef, rfl, Nat.le_refl _, fun q hq => by simp at hq, fun i j e d hi => by simp at hi, fun e he => by cases he⟩
     · cases hx
   · cases hx
 | os id k' n ex B cap ty sz hB hn hex hsh hcap =>
   simp only [spread] at hx
   split at hx
   · rename_i b hb
     split at hx
     · rename_i hk'
       obtain ⟨hk1, hk2⟩ := hk'
       simp only [Option.some.injEq, Prod.mk.injEq] at hx
       obtain ⟨rfl, rfl⟩ := hx
       have hbk := hr.blk id b hb
       subst hk1
       have hlen : (b.es.take n).length = n := by simp; omega
       refine ⟨some ⟨B, 0, none⟩, cap, fun q => (w.cell? ⟨B, q, none⟩).getD undef, by rw [hlen], by omega, fun q hq => ?_, fun i j e d hi hj => ?_, fun e he => hbk.len e (List.mem_of_mem_take he)⟩
       · rw [hlen] at hq
         have h1 : q / b.k < b.es.length := Nat.lt_of_lt_of_le (Nat.div_lt_of_lt_mul (by rw [Nat.mul_comm]; exact hq)) hC
         have h2 : q % b.k < (b.es[q / b.k]).length := by rw [hbk.len _ (List.getElem_mem h1)]; exact Nat.mod_lt _ hk
         obtain ⟨u, hu, _⟩ := hbk.cells B hB (q / b.k) (q % b.k) _ _ (List.getElem?_eq_getElem h1) (List.getElem?_eq_getElem h2)
         rw [Nat.mul_comm, Nat.div_add_mod] at hu
         exact ⟨B, 0, rfl, by rw [Nat.zero_add]; show _ = some ((w.cell? ⟨B, q, none⟩).getD undef); rw [hu]; rfl⟩
       · have hi2 : b.es[i]? = some e := by
           rw [List.getElem?_take] at hi
           split at hi
           · exact hi
           · cases hi
         obtain ⟨u, g1, g2⟩ := hbk.cells B hB i j e d hi2 hj
         show Rep w ok s ((w.cell? ⟨B, i * b.k + j, none⟩).getD undef) d
         rw [g1]; exact g2
     · cases hx
   · cases hx
 | lit v hl =>
   unfold spread at hx
   split at hx
   · rename_i he; cases he
   · rename_i he; cases he
   · rename_i he; cases he
     simp only [Option.some.injEq, Prod.mk.injEq] at hx
     obtain ⟨_, rfl⟩ := hx
     exact ⟨none, 0, fun _ => undef, rfl, Nat.le_refl _, fun q hq => by simp at hq, fun i j e d hi => by simp at hi, fun e he => by cases he⟩
   · cases hx
 | _ => simp [spread] at hx
theorem run_firstCells' {k n : Nat} {a : Option Addr} {m cap : Nat} {us : Nat → Value} (hm : ∀ q, q < n * k → ∃ b o, a = some ⟨b, o, none⟩ ∧ w.cell? ⟨b, o + q, none⟩ = some (us q)) :
   (Builtin.firstCells k n (.slice a m cap)).run P w = .ok (((List.range (n * k)).map us).toArray) w := by
 by_cases h0 : n * k = 0
 · cases a with
   | none => simp [Builtin.firstCells, h0]
   | some x => simp [Builtin.firstCells, h0, loadCells, loadCellsFrom]
 · obtain ⟨b, o, rfl, _⟩ := hm 0 (by omega)
   simp only [Builtin.firstCells]
   refine run_loadCells' b o (n * k) us (fun j hj => ?_)
   obtain ⟨b', o', hbo, hc⟩ := hm j hj
   cases hbo
   exact hc
theorem RH.virtual (hr : RH w own ok s h) (hs : s nx = none) (k : Nat) (hk : 0 < k) (ty : TypeId) (m : Mode') : RH w own ok s (upd h nx (some ⟨k, [], ty, m⟩)) := by
 refine ⟨hr.okw, hr.ownw, hr.sw, fun id b hb => ?_, fun id1 id2 b1 b2 B g1 g2 m1 m2 e1 e2 => ?_, hr.gl⟩
 · by_cases e : id = nx
   · subst e
     have : b = ⟨k, [], ty, m⟩ := by rw [upd_self] at hb; exact (Option.some.inj hb).symm
     subst this
     have hno : ∀ B, s id = some B → False := fun B hB => by rw [hs] at hB; cases hB
     exact ⟨hk, fun e he => (by cases he), fun _ => rfl, fun B hB => (hno B hB).elim, fun B hB => (hno B hB).elim, fun B hB => (hno B hB).elim, fun B hB => (hno B hB).elim, fun B hB => (hno B hB).elim, fun B hB => (hno B hB).elim, fun _ _ => rfl, fun B hB => (hno B hB).elim⟩
   · rw [upd_ne _ _ _ _ e] at hb; exact hr.blk id b hb
 · have n1 : id1 ≠ nx := fun e => by rw [e, hs] at e1; cases e1
   have n2 : id2 ≠ nx := fun e => by rw [e, hs] at e2; cases e2
   rw [upd_ne _ _ _ _ n1] at g1
   rw [upd_ne _ _ _ _ n2] at g2
   exact hr.exc id1 id2 b1 b2 B g1 g2 m1 m2 e1 e2
theorem growBy_le (n : Nat) : ∀ (r c : Nat), c ≤ 2 * n + 512 → Builtin.growBy n r c ≤ 2 * n + 1024 := by
 intro r
 induction r with
 | zero => intro c hc; simp only [Builtin.growBy]; omega
 | succ r ih =>
   intro c hc
   simp only [Builtin.growBy]
   split
   · omega
   · exact ih _ (by omega)
theorem nextslicecap_le (need old : Nat) (h : old < need) : Builtin.nextslicecap need old ≤ 2 * need + 1024 := by
 unfold Builtin.nextslicecap
 split
 · omega
 · split
   · omega
   · exact growBy_le need 4 old (by omega)
def bigLen : Nat := 4294967296
theorem run_append_new {t t2 e : TypeId} {ti ti2 i : TI} (h1 : tinfo P t = some ti) (h1d : ti.desc = .slice e) (h2 : tinfo P t2 = some ti2) (h2d : ∀ k, ti2.desc ≠ .int k) (hi : tinfo P e = some i) (hb : i.bytes ≤ 1024)
   {ty : TypeId} {a a2 : Option Addr} {n cap m cap2 : Nat} {us us2 : Nat → Value} (hn : n ≤ cap) (hneed : cap < n + m) (hbig : n + m ≤ bigLen)
   (hm1 : ∀ q, q < n * i.size → ∃ b o, a = some ⟨b, o, none⟩ ∧ w.cell? ⟨b, o + q, none⟩ = some (us q)) (hm2 : ∀ q, q < m * i.size → ∃ b o, a2 = some ⟨b, o, none⟩ ∧ w.cell? ⟨b, o + q, none⟩ = some (us2 q)) :
   ∃ (w1 : World) (newCap : Nat) (rest : Array Value), w1.heap = w.heap ∧ w1.os = w.os ∧ w1.tape = w.tape ∧ w1.output = w.output ∧ n + m ≤ newCap ∧ rest.size = (newCap - (n + m)) * i.zero.cells.size ∧
     (Builtin.append_ #[t, t2] ty #[.slice a n cap, .slice a2 m cap2]).run P w =
       .ok (.slice (some ⟨w1.heap.size, 0, none⟩) (n + m) newCap) (w1.alloc (.cells (((List.range (n * i.size)).map us).toArray ++ ((List.range (m * i.size)).map us2).toArray ++ rest) e)) := by
 obtain ⟨x, hx, hxb, hxs⟩ := run_typeInfo' (P := P) hi
 have hz : (match ti2.desc with | .int k => true | _ => false) = false := by
   split
   · rename_i k hk; exact absurd hk (h2d k)
   · rfl
 have hc1 := nextslicecap_le (n + m) cap hneed
 have hc2 : Builtin.nextslicecap (n + m) cap * i.bytes ≤ (2 * bigLen + 1024) * 1024 := Nat.mul_le_mul (by unfold bigLen at *; omega) hb
 have hc3 : ¬ (Builtin.nextslicecap (n + m) cap * i.bytes > 2 ^ 48) := by unfold bigLen at hc2; omega
 have hmax : IntKind.i64.max = 9223372036854775807 := rfl
 refine ⟨{ w with drawn := w.drawn + 1 }, (Question.appendCap (n + m) cap e).cut (w.tape w.drawn (Question.appendCap (n + m) cap e)), Builtin.zeroCells i.zero.cells ((Question.appendCap (n + m) cap e).cut (w.tape w.drawn (Question.appendCap (n + m) cap e)) - (n + m)), rfl, rfl, rfl, rfl, ?_, ?_, ?_⟩
 · simp only [Question.cut]; omega
 · exact size_zeroCells _ _
 · have e1 : ∀ w' : World, w'.heap = w.heap → (Builtin.firstCells i.size n (.slice a n cap)).run P w' = .ok (((List.range (n * i.size)).map us).toArray) w' := fun w' hw' => by
     refine run_firstCells' (fun q hq => ?_)
     obtain ⟨b, o, ha, hc⟩ := hm1 q hq
     exact ⟨b, o, ha, by unfold World.cell? at *; rw [hw']; exact hc⟩
   have e2 : ∀ w' : World, w'.heap = w.heap → (Builtin.firstCells i.size m (.slice a2 m cap2)).run P w' = .ok (((List.range (m * i.size)).map us2).toArray) w' := fun w' hw' => by
     refine run_firstCells' (fun q hq => ?_)
     obtain ⟨b, o, ha, hc⟩ := hm2 q hq
     exact ⟨b, o, ha, by unfold World.cell? at *; rw [hw']; exact hc⟩
   have hforced : (Question.appendCap (n + m) cap e).forced = false := rfl
   simp only [Builtin.append_, List.getElem?_toArray, List.getElem?_cons_zero, List.getElem?_cons_succ, Sem.run_bind, run_underlying' h1, Result.andThen_ok, h1d, run_sizeOf' hi, run_underlying' h2, Sem.run_pure]
   have hz' : (match ti2.desc with | .int k => true | x => false) = false := hz
   simp only [hz', Bool.false_eq_true, if_false, Builtin.lenOf, Sem.run_pure, Result.andThen_ok]
   simp only [Sem.run_bind, Sem.run_pure, Result.andThen_ok]
   rw [if_neg (show ¬ n + m ≤ cap by omega)]
   simp only [Sem.run_bind, hx, Result.andThen_ok]
   rw [if_neg (show ¬ (((n + m : Nat) : Int) > IntKind.i64.max ∧ (False ∨ x.bytes = 0)) from fun hh => by rw [hmax] at hh; unfold bigLen at hbig; omega)]
   simp only [Sem.run_bind, hx, Result.andThen_ok, hxb]
   rw [if_neg hc3]
   simp only [Sem.run_bind, run_choose, hforced, Bool.false_eq_true, if_false, Result.andThen_ok, hx, hxb, run_askRoom, Bool.not_false, if_true]
   have g1 := e1 { heap := w.heap, tape := w.tape, drawn := w.drawn + 1, os := w.os, output := w.output } rfl
   have g2 := e2 { heap := w.heap, tape := w.tape, drawn := w.drawn + 1, os := w.os, output := w.output } rfl
   simp only [g1, g2, Result.andThen_ok, run_zeroValue' hi, run_newRow', Sem.run_pure]
theorem run_append_room' {t t2 e : TypeId} {ti ti2 i : TI} (h1 : tinfo P t = some ti) (h1d : ti.desc = .slice e) (h2 : tinfo P t2 = some ti2) (h2d : ∀ k, ti2.desc ≠ .int k) (hi : tinfo P e = some i)
   {ty : TypeId} {B n cap m cap2 : Nat} {a2 : Option Addr} {us2 : Nat → Value} (hneed : n + m ≤ cap)
   (hm2 : ∀ q, q < m * i.size → ∃ b o, a2 = some ⟨b, o, none⟩ ∧ w.cell? ⟨b, o + q, none⟩ = some (us2 q)) (hone : ∀ q, q < m * i.size → (us2 q).oneCell' = true)
   (hc : ∀ q, q < m * i.size → ∃ u, w.cell? ⟨B, n * i.size + q, none⟩ = some u) (hf : ∀ q, w.frozen? ⟨B, q, none⟩ = false) :
   (Builtin.append_ #[t, t2] ty #[.slice (some ⟨B, 0, none⟩) n cap, .slice a2 m cap2]).run P w = .ok (.slice (some ⟨B, 0, none⟩) (n + m) cap) (setMany w B (n * i.size) ((List.range (m * i.size)).map us2)) := by
 have hz : (match ti2.desc with | .int k => true | _ => false) = false := by
   split
   · rename_i k hk; exact absurd hk (h2d k)
   · rfl
 have e2 : (Builtin.firstCells i.size m (.slice a2 m cap2)).run P w = .ok (((List.range (m * i.size)).map us2).toArray) w := run_firstCells' hm2
 have e3 := run_storeCells' (P := P) B (n * i.size) ((List.range (m * i.size)).map us2) 0 w (fun v hv => by
   obtain ⟨q, hq, rfl⟩ := List.mem_map.1 hv
   exact hone q (List.mem_range.1 hq)) (fun j hj => by rw [Nat.add_zero]; exact hc j (by simpa using hj)) hf
 rw [Nat.add_zero] at e3
 simp only [Builtin.append_, List.getElem?_toArray, List.getElem?_cons_zero, List.getElem?_cons_succ, Sem.run_bind, run_underlying' h1, Result.andThen_ok, h1d, run_sizeOf' hi, run_underlying' h2, Sem.run_pure]
 have hz' : (match ti2.desc with | .int k => true | x => false) = false := hz
 simp only [hz', Bool.false_eq_true, if_false, Builtin.lenOf, Sem.run_pure, Result.andThen_ok]
 simp only [Sem.run_bind, Sem.run_pure, Result.andThen_ok]
 rw [if_pos hneed]
 simp only [Sem.run_bind, Bool.not_false, if_true, e2, Result.andThen_ok, add_off, Nat.zero_add, e3, Sem.run_pure]
end
end Go.Aw
end
section
namespace Go.Aw
open Go.RowKit
section
variable {P : Program} {w : World} {own : Nat → Prop} {ok : Nat → Nat → Prop} {s : Nat → Option Nat} {h : Hp} {nx : Nat}
theorem run_append_none {t t2 e : TypeId} {ti ti2 i : TI} (h1 : tinfo P t = some ti) (h1d : ti.desc = .slice e) (h2 : tinfo P t2 = some ti2) (h2d : ∀ k, ti2.desc ≠ .int k) (hi : tinfo P e = some i)
   {ty : TypeId} {a a2 : Option Addr} {n cap cap2 : Nat} (hn : n ≤ cap) :
   (Builtin.append_ #[t, t2] ty #[.slice a n cap, .slice a2 0 cap2]).run P w = .ok (.slice a n cap) w := by
 have hz : (match ti2.desc with | .int k => true | x => false) = false := by
   split
   · rename_i k hk; exact absurd hk (h2d k)
   · rfl
 have e2 : (Builtin.firstCells i.size 0 (.slice a2 0 cap2)).run P w = .ok #[] w := by
   cases a2 <;> simp [Builtin.firstCells, loadCells, loadCellsFrom]
 simp only [Builtin.append_, List.getElem?_toArray, List.getElem?_cons_zero, List.getElem?_cons_succ, Sem.run_bind, run_underlying' h1, Result.andThen_ok, h1d, run_sizeOf' hi, run_underlying' h2, Sem.run_pure]
 simp only [hz, Bool.false_eq_true, if_false, Builtin.lenOf, Sem.run_pure, Result.andThen_ok]
 simp only [Sem.run_bind, Sem.run_pure, Result.andThen_ok]
 rw [if_pos (show n + 0 ≤ cap by omega)]
 simp only [Sem.run_bind, Bool.not_false, if_true, e2, Result.andThen_ok]
 cases a with
 | none => simp
 | some a => simp [storeCells]
def rowOk (ys : List (List V)) : Prop := ∀ e ∈ ys, ∀ c ∈ e, c.cell = true
theorem append_new_does (hr : RH w own ok s h) (hs : s nx = none) {t t2 e : TypeId} {ti ti2 i : TI} (h1 : tinfo P t = some ti) (h1d : ti.desc = .slice e) (h2 : tinfo P t2 = some ti2) (h2d : ∀ k, ti2.desc ≠ .int k) (hi : tinfo P e = some i)
   (hz : okZero i = true) (hpos : 0 < i.size) (hb : i.bytes ≤ 1024) {ty : TypeId} {a a2 : Option Addr} {cap cap2 : Nat} {us us2 : Nat → Value} {es ys : List (List V)} (hn : es.length ≤ cap) (hneed : cap < es.length + ys.length) (hbig : es.length + ys.length ≤ bigLen)
   (hm1 : ∀ q, q < es.length * i.size → ∃ b o, a = some ⟨b, o, none⟩ ∧ w.cell? ⟨b, o + q, none⟩ = some (us q)) (hm2 : ∀ q, q < ys.length * i.size → ∃ b o, a2 = some ⟨b, o, none⟩ ∧ w.cell? ⟨b, o + q, none⟩ = some (us2 q))
   (hc1 : ∀ (x j : Nat) (e : List V) (d : V), es[x]? = some e → e[j]? = some d → Rep w ok s (us (x * i.size + j)) d) (hc2 : ∀ (x j : Nat) (e : List V) (d : V), ys[x]? = some e → e[j]? = some d → Rep w ok s (us2 (x * i.size + j)) d)
   (hl1 : ∀ e ∈ es, e.length = i.size) (hl2 : ∀ e ∈ ys, e.length = i.size) :
   ∃ (r : Value) (w' : World) (own' : Nat → Prop) (s' : Nat → Option Nat), (Builtin.append_ #[t, t2] ty #[.slice a es.length cap, .slice a2 ys.length cap2]).run P w = .ok r w' ∧ Rep w' ok s' r (.os nx i.size (es.length + ys.length) false) ∧
     RH w' own' ok s' (upd h nx (some ⟨i.size, es ++ ys, e, .wr⟩)) ∧ Evol own ok w own' ok w' ∧ s' = upd s nx (s' nx) := by
 obtain ⟨w1, newCap, rest, q1, q2, q3, q4, q5, q6, q7⟩ := run_append_new (P := P) (ty := ty) (cap2 := cap2) h1 h1d h2 h2d hi hb hn hneed hbig hm1 hm2
 have hr1 := hr.same q1
 have he1 : Evol own ok w own ok w1 := Evol.same q1 q2 q3 q4
 simp only [okZero, Bool.and_eq_true, beq_iff_eq] at hz
 have hl : ∀ x ∈ es ++ ys, x.length = i.size := fun x hx => by
   rcases List.mem_append.1 hx with hx | hx
   · exact hl1 x hx
   · exact hl2 x hx
 have hsz : (((List.range (es.length * i.size)).map us).toArray ++ ((List.range (ys.length * i.size)).map us2).toArray ++ rest).size = newCap * i.size := by
   simp only [Array.size_append, List.size_toArray, List.length_map, List.length_range, q6, hz.1]
   rw [← Nat.add_mul, ← Nat.add_mul]
   congr 1; omega
 have hcells : ∀ (x j : Nat) (e : List V) (d : V), (es ++ ys)[x]? = some e → e[j]? = some d →
     ∃ u, (((List.range (es.length * i.size)).map us).toArray ++ ((List.range (ys.length * i.size)).map us2).toArray ++ rest)[x * i.size + j]? = some u ∧ Rep w1 ok s u d := fun x j e d hx hj => by
   have hjl : j < i.size := by have := (List.getElem?_eq_some_iff.1 hj).1; rw [hl e (List.mem_of_getElem? hx)] at this; exact this
   have hk : ∀ {v d}, Rep w ok s v d → Rep w1 ok s v d := fun hv => hv.evol he1 (fun _ _ h => h)
   by_cases hxl : x < es.length
   · rw [List.getElem?_append_left hxl] at hx
     have hlt : x * i.size + j < es.length * i.size := addr_lt hxl hjl
     refine ⟨us (x * i.size + j), ?_, hk (hc1 x j e d hx hj)⟩
     rw [Array.getElem?_append_left (by simp; omega), Array.getElem?_append_left (by simpa using hlt)]
     simp [hlt]
   · have hxl' : x < es.length + ys.length := by have := (List.getElem?_eq_some_iff.1 hx).1; simpa using this
     rw [List.getElem?_append_right (by omega)] at hx
     have hlt : (x - es.length) * i.size + j < ys.length * i.size := addr_lt (by omega) hjl
     have hxe : x * i.size + j = es.length * i.size + ((x - es.length) * i.size + j) := by
       rw [← Nat.add_assoc, ← Nat.add_mul]; congr 2; omega
     refine ⟨us2 ((x - es.length) * i.size + j), ?_, hk (hc2 _ j e d hx hj)⟩
     rw [Array.getElem?_append_left (by simp; omega), Array.getElem?_append_right (by simp; omega), hxe]
     simp [hlt]
 refine ⟨_, _, _, _, q7, ?_, hr1.alloc nx hs ⟨i.size, es ++ ys, e, .wr⟩ rfl hpos hl _ (by rw [hsz]; exact Nat.mul_le_mul_right _ (by simp; omega)) hcells, he1.trans (Evol.alloc hr1 nx hs _), ?_⟩
 · exact .os nx i.size _ false w1.heap.size newCap e _ (upd_self _ _ _) q5 (fun h => by cases h) (shape_alloc_new w1 _ e) (by rw [hsz]; exact Nat.le_refl _)
 · funext x; by_cases hx : x = nx
   · subst hx; rw [upd_self, upd_self]
   · rw [upd_ne _ _ _ _ hx, upd_ne _ _ _ _ hx]
def actAppendM (P : Program) (e : TypeId) (x y : V) (nx : Nat) : Option Eff :=
 match tinfo P e, x, y with
 | some i, .lit (.slice none 0 0), .lit (.int .i64 n) => if okZero i = true ∧ 0 < i.size ∧ i.bytes ≤ 1024 then
     some ⟨0 < n ∧ n ≤ 1073741824, .os nx i.size n.toNat false, [(nx, some ⟨i.size, [], e, .wr⟩)]⟩ else none
 | _, _, _ => none
theorem run_append_make {t t2 e : TypeId} {ti ti2 i : TI} {k : IntKind} (h1 : tinfo P t = some ti) (h1d : ti.desc = .slice e) (h2 : tinfo P t2 = some ti2) (h2d : ti2.desc = .int k) (hi : tinfo P e = some i) (hb : i.bytes ≤ 1024) (hpos : 0 < i.size)
   {ty : TypeId} {m : Nat} (hm : 0 < m) (hbig : m ≤ bigLen) :
   ∃ (w1 : World) (newCap : Nat) (rest : Array Value), w1.heap = w.heap ∧ w1.os = w.os ∧ w1.tape = w.tape ∧ w1.output = w.output ∧ m ≤ newCap ∧ rest.size = (newCap - m) * i.zero.cells.size ∧
     (Builtin.append_ #[t, t2] ty #[.slice none 0 0, .int .i64 m]).run P w =
       .ok (.slice (some ⟨w1.heap.size, 0, none⟩) m newCap) (w1.alloc (.cells (#[] ++ Builtin.zeroCells i.zero.cells m ++ rest) e)) := by
 obtain ⟨x, hx, hxb, hxs⟩ := run_typeInfo' (P := P) hi
 have hc1 := nextslicecap_le m 0 hm
 have hc2 : Builtin.nextslicecap m 0 * i.bytes ≤ (2 * bigLen + 1024) * 1024 := Nat.mul_le_mul (by unfold bigLen at *; omega) hb
 have hc3 : ¬ (Builtin.nextslicecap m 0 * i.bytes > 2 ^ 48) := by unfold bigLen at hc2; omega
 have hmax : IntKind.i64.max = 9223372036854775807 := rfl
 have hw : IntKind.i64.wrap (m : Int) = (m : Int) := wrap_inR ⟨by show (-9223372036854775808 : Int) ≤ _; omega, by show _ ≤ (9223372036854775807 : Int); unfold bigLen at hbig; omega⟩
 have hc4 : m * i.bytes ≤ bigLen * 1024 := Nat.mul_le_mul hbig hb
 have hc5 : ¬ ((m : Int) * (i.bytes : Int) > 2 ^ 48) := by
   rw [← Int.natCast_mul]
   unfold bigLen at hc4; omega
 have hns : ¬ (m * i.size = 0) := by have := Nat.mul_pos hm hpos; omega
 have hmb : m ≤ 4294967296 := hbig
 generalize bigLen = bl at *
 refine ⟨{ w with drawn := w.drawn + 1 }, (Question.appendCap m 0 e).cut (w.tape w.drawn (Question.appendCap m 0 e)), Builtin.zeroCells i.zero.cells ((Question.appendCap m 0 e).cut (w.tape w.drawn (Question.appendCap m 0 e)) - m), rfl, rfl, rfl, rfl, ?_, ?_, ?_⟩
 · simp only [Question.cut]; omega
 · exact size_zeroCells _ _
 · have hforced : (Question.appendCap m 0 e).forced = false := rfl
   simp only [Builtin.append_, List.getElem?_toArray, List.getElem?_cons_zero, List.getElem?_cons_succ, Sem.run_bind, run_underlying' h1, Result.andThen_ok, h1d, run_sizeOf' hi, run_underlying' h2, Sem.run_pure]
   simp only [h2d, if_true, asInt, asIntOf, Sem.run_bind, Sem.run_pure, Result.andThen_ok, hw]
   rw [if_neg (show ¬ ((m : Int) < 0) by omega)]
   simp only [Sem.run_bind, hx, Result.andThen_ok, hxb]
   rw [if_neg hc5]
   simp only [Sem.run_bind, Sem.run_pure, Result.andThen_ok, Int.toNat_natCast, Nat.zero_add]
   rw [if_neg (show ¬ m ≤ 0 by omega)]
   simp only [Sem.run_bind, hx, Result.andThen_ok]
   rw [if_neg (show ¬ ((m : Int) > IntKind.i64.max ∧ (True ∨ x.bytes = 0)) from fun hh => by rw [hmax] at hh; omega)]
   simp only [Sem.run_bind, hx, Result.andThen_ok, hxb]
   rw [if_neg hc3]
   have e1 : ∀ w' : World, (Builtin.firstCells i.size 0 (.slice none 0 0)).run P w' = .ok #[] w' := fun w' => by simp only [Builtin.firstCells, Sem.run_pure]
   simp only [Sem.run_bind, run_choose, hforced, Bool.false_eq_true, if_false, Result.andThen_ok, hx, hxb, run_askRoom, Bool.not_true, e1]
   rw [if_neg hns]
   simp only [Sem.run_bind, run_zeroValue' hi, run_newRow', Sem.run_pure, Result.andThen_ok]
theorem actAppendM_sound (hr : RH w own ok s h) (hs : s nx = none) {t t2 e : TypeId} {ti ti2 : TI} {k : IntKind} (h1 : tinfo P t = some ti) (h1d : ti.desc = .slice e) (h2 : tinfo P t2 = some ti2) (h2d : ti2.desc = .int k) {ty : TypeId} {x y : V} {v u : Value}
   (hv : Rep w ok s v x) (hu : Rep w ok s u y) {f : Eff} (he : actAppendM P e x y nx = some f) (hc : f.c) :
   ∃ (r : Value) (w' : World) (own' : Nat → Prop) (ok' : Nat → Nat → Prop) (s' : Nat → Option Nat), (Builtin.append_ #[t, t2] ty #[v, u]).run P w = .ok r w' ∧ Rep w' ok' s' r f.v ∧ RH w' own' ok' s' (applyWr h f.wr) ∧ Evol own ok w own' ok' w' ∧ s' = upd s nx (s' nx) := by
 unfold actAppendM at he
 split at he
 case h_2 => cases he
 rename_i i n hi
 split at he
 case isFalse => cases he
 rename_i hz
 obtain ⟨hz, hpos, hby⟩ := hz
 cases he
 cases hv
 cases hu
 obtain ⟨hn0, hn1⟩ := hc
 obtain ⟨m, rfl⟩ := Int.eq_ofNat_of_zero_le (Int.le_of_lt hn0)
 have hm : 0 < m := by omega
 have hm1 : m ≤ bigLen := by unfold bigLen; omega
 obtain ⟨w1, newCap, rest, q1, q2, q3, q4, q5, q6, q7⟩ := run_append_make (w := w) (ty := ty) h1 h1d h2 h2d hi hby hpos hm hm1
 have hr1 := hr.same q1
 have he1 : Evol own ok w own ok w1 := Evol.same q1 q2 q3 q4
 simp only [okZero, Bool.and_eq_true, beq_iff_eq] at hz
 have hsz : (#[] ++ Builtin.zeroCells i.zero.cells m ++ rest).size = newCap * i.size := by
   simp only [Array.size_append, size_zeroCells, q6, hz.1, List.size_toArray, List.length_nil, Nat.zero_add]
   rw [← Nat.add_mul]
   congr 1; omega
 refine ⟨_, _, _, _, _, q7, ?_, hr1.alloc nx hs ⟨i.size, [], e, .wr⟩ rfl hpos (fun _ hh => by cases hh) _ (by simp) (fun x j e d hx _ => by cases hx), he1.trans (Evol.alloc hr1 nx hs _), ?_⟩
 · exact .os nx i.size _ false w1.heap.size newCap e _ (upd_self _ _ _) q5 (fun h => by cases h) (shape_alloc_new w1 _ e) (by rw [hsz]; exact Nat.le_refl _)
 · funext x; by_cases hx : x = nx
   · subst hx; rw [upd_self, upd_self]
   · rw [upd_ne _ _ _ _ hx, upd_ne _ _ _ _ hx]
def actAppend (P : Program) (tys : List TypeId) (x y : V) (h : Hp) (nx : Nat) : Option Eff :=
 match tys with
 | [t, t2] => match tinfo P t, tinfo P t2 with
   | some ti, some ti2 => match ti.desc, ti2.desc with
     | .slice e, .slice _ => match tinfo P e with
       | some i => if okZero i = true ∧ 0 < i.size ∧ i.bytes ≤ 1024 then
           match spread h i.size y with
           | some (C, ys) => match x with
             | .lit (.slice none 0 0) => some ⟨C ∧ ys.length ≤ bigLen, .os nx i.size ys.length false, [(nx, some ⟨i.size, ys, e, .wr⟩)]⟩
             | .sl k es true => if k = i.size then some ⟨C ∧ (es = [] ∨ ys ≠ []) ∧ es.length + ys.length ≤ bigLen, .os nx i.size (es.length + ys.length) false, [(nx, some ⟨i.size, es ++ ys, e, .wr⟩)]⟩ else none
             | .os id k n true => match h id with
               | some b => if b.k = k ∧ k = i.size then some ⟨C ∧ n ≤ b.es.length ∧ (n = 0 ∨ ys ≠ []) ∧ n + ys.length ≤ bigLen, .os nx i.size (n + ys.length) false, [(nx, some ⟨i.size, b.es.take n ++ ys, e, .wr⟩)]⟩ else none
               | none => none
             | .os id k n false => match h id with
               | some b => if b.k = k ∧ k = i.size ∧ b.ty = e ∧ b.mode.live = true then some ⟨C ∧ n = b.es.length ∧ n + ys.length ≤ bigLen ∧ rowOk ys, .os nx i.size (n + ys.length) false, [(id, b.after), (nx, some { b with es := b.es ++ ys })]⟩ else none
               | none => none
             | _ => none
           | none => none
         else none
       | none => none
     | .slice e, .int _ => actAppendM P e x y nx
     | _, _ => none
   | _, _ => none
 | _ => none
theorem actAppend_sound (hr : RH w own ok s h) (hs : s nx = none) (hh : h nx = none) {tys : Array TypeId} {ty : TypeId} {x y : V} {v u : Value} (hv : Rep w ok s v x) (hu : Rep w ok s u y) {e : Eff} (he : actAppend P tys.toList x y h nx = some e) (hc : e.c) :
   ∃ (r : Value) (w' : World) (own' : Nat → Prop) (ok' : Nat → Nat → Prop) (s' : Nat → Option Nat), (Builtin.append_ tys ty #[v, u]).run P w = .ok r w' ∧ Rep w' ok' s' r e.v ∧ RH w' own' ok' s' (applyWr h e.wr) ∧ Evol own ok w own' ok' w' ∧ s' = upd s nx (s' nx) := by
 unfold actAppend at he
 split at he
 case h_2 => cases he
 rename_i t t2 htys
 obtain rfl : tys = #[t, t2] := by apply Array.toList_inj.1; rw [htys]
 split at he
 case h_2 => cases he
 rename_i ti ti2 h1 h2
 split at he
 case h_3 => cases he
 case h_2 => rename_i h1d h2d; exact actAppendM_sound hr hs h1 h1d h2 h2d hv hu he hc
 rename_i el el2 h1d h2d'
 have h2d : ∀ k, ti2.desc ≠ .int k := fun k hk => by rw [h2d'] at hk; cases hk
 split at he
 case h_2 => cases he
 rename_i i hi
 split at he
 case isFalse => cases he
 rename_i hz
 obtain ⟨hz, hpos, hby⟩ := hz
 split at he
 case h_2 => cases he
 rename_i C ys hsp
 have self : ∀ {x : Option Nat}, s nx = none → s = upd s nx (s nx) := fun _ => by
   funext q; by_cases hq : q = nx
   · subst hq; rw [upd_self]
   · rw [upd_ne _ _ _ _ hq]
 -- nothing is appended to nothing
 have empty : ∀ (a : Option Addr) (hC : C), ys = [] → v = .slice a 0 0 → ∃ (r : Value) (w' : World) (own' : Nat → Prop) (ok' : Nat → Nat → Prop) (s' : Nat → Option Nat),
     (Builtin.append_ #[t, t2] ty #[v, u]).run P w = .ok r w' ∧ Rep w' ok' s' r (.os nx i.size 0 false) ∧ RH w' own' ok' s' (upd h nx (some ⟨i.size, [], el, .wr⟩)) ∧ Evol own ok w own' ok' w' ∧ s' = upd s nx (s' nx) := fun a hC hys hva => by
   obtain ⟨a2, cap2, us2, rfl, _, _, _, _⟩ := spread_sound hr hpos hu hsp hC
   subst hys; subst hva
   exact ⟨_, w, own, ok, s, run_append_none h1 h1d h2 h2d hi (Nat.le_refl _), .os0 nx _ false a, hr.virtual hs _ hpos _ _, Evol.refl _ _ _, self (x := none) hs⟩
 have fresh : ∀ (es : List (List V)) (a : Option Addr) (cap : Nat) (us : Nat → Value) (hC : C), v = .slice a es.length cap → es.length ≤ cap → cap < es.length + ys.length → es.length + ys.length ≤ bigLen →
     (∀ q, q < es.length * i.size → ∃ b o, a = some ⟨b, o, none⟩ ∧ w.cell? ⟨b, o + q, none⟩ = some (us q)) → (∀ (x j : Nat) (e : List V) (d : V), es[x]? = some e → e[j]? = some d → Rep w ok s (us (x * i.size + j)) d) → (∀ e ∈ es, e.length = i.size) →
     ∃ (r : Value) (w' : World) (own' : Nat → Prop) (ok' : Nat → Nat → Prop) (s' : Nat → Option Nat), (Builtin.append_ #[t, t2] ty #[v, u]).run P w = .ok r w' ∧ Rep w' ok' s' r (.os nx i.size (es.length + ys.length) false) ∧
       RH w' own' ok' s' (upd h nx (some ⟨i.size, es ++ ys, el, .wr⟩)) ∧ Evol own ok w own' ok' w' ∧ s' = upd s nx (s' nx) := fun es a cap us hC hva hn hneed hbig hm1 hc1 hl1 => by
   obtain ⟨a2, cap2, us2, rfl, g1, g2, g3, g4⟩ := spread_sound hr hpos hu hsp hC
   subst hva
   obtain ⟨r, w', own', s', k1, k2, k3, k4, k5⟩ := append_new_does hr hs h1 h1d h2 h2d hi hz hpos hby (ty := ty) (cap2 := cap2) hn hneed hbig hm1 g2 hc1 g3 hl1 g4
   exact ⟨r, w', own', ok, s', k1, k2, k3, k4, k5⟩
 split at he
 · -- nil
   cases he
   obtain ⟨hC, hbig⟩ := hc
   cases hv
   by_cases hys : ys = []
   · have := empty none hC hys rfl
     subst hys; exact this
   · have hlen : 0 < ys.length := List.length_pos_iff.2 hys
     have := fresh [] none 0 (fun _ => undef) hC rfl (Nat.le_refl _) (by simp; exact hlen) (by simpa using hbig) (fun q hq => by simp at hq) (fun x j e d hx => by cases hx) (fun e he => by cases he)
     simpa [applyWr] using this
 · -- a slice that is read, full
   rename_i k es
   split at he
   case isFalse => cases he
   rename_i hk
   cases he
   obtain ⟨hC, hor, hbig⟩ := hc
   obtain ⟨a, cap, us, hva, hcap, hm1, hc1, hl1⟩ := spread_sound hr hpos hv (show spread h i.size (.sl k es true) = some (True, es) by simp [spread, hk]) trivial
   have hcapeq : cap = es.length := by
     cases hv with
     | sl _ _ _ _ _ _ _ hn' _ hex => cases hva; rw [hn'] at hex; exact hex rfl
   subst hcapeq
   by_cases hys : ys = []
   · have hes : es = [] := by rcases hor with h | h; exact h; exact absurd hys h
     subst hes
     have := empty a hC hys hva
     subst hys; exact this
   · have hlen : 0 < ys.length := List.length_pos_iff.2 hys
     exact fresh es a _ us hC hva (Nat.le_refl _) (by omega) hbig hm1 hc1 hl1
 · -- an own row, full
   rename_i id k n
   split at he
   case h_2 => cases he
   rename_i b hb
   split at he
   case isFalse => cases he
   rename_i hk
   obtain ⟨hk1, hk2⟩ := hk
   cases he
   obtain ⟨hC, hnl, hor, hbig⟩ := hc
   have hlen : (b.es.take n).length = n := by simp; omega
   obtain ⟨a, cap, us, hva, hcap, hm1, hc1, hl1⟩ := spread_sound hr hpos hv (show spread h i.size (.os id k n true) = some (n ≤ b.es.length, b.es.take n) by simp [spread, hb, hk1, hk2]) hnl
   have hcapeq : cap = (b.es.take n).length := by
     cases hv with
     | os0 => injection hva with e1 e2 e3; omega
     | os _ _ _ _ B cap' ty' sz hB hn' hex => injection hva with e1 e2 e3; have := hex rfl; omega
   subst hcapeq
   by_cases hys : ys = []
   · have hn0 : n = 0 := by rcases hor with h | h; exact h; exact absurd hys h
     subst hn0
     have := empty a hC hys (by simpa using hva)
     subst hys; simpa [applyWr] using this
   · have hlen' : 0 < ys.length := List.length_pos_iff.2 hys
     have := fresh (b.es.take n) a _ us hC hva (Nat.le_refl _) (by omega) (by rw [hlen]; exact hbig) hm1 hc1 hl1
     rw [hlen] at this; exact this
 · -- an own row that may have room
   rename_i id k n
   split at he
   case h_2 => cases he
   rename_i b hb
   split at he
   case isFalse => cases he
   rename_i hk
   obtain ⟨hk1, hk2, hty, hlive⟩ := hk
   have hmode := Mode'.live_old hlive
   have hnmp := Mode'.live_mp hlive
   cases he
   obtain ⟨hC, hnl, hbig, hrow⟩ := hc
   have hbk := hr.blk id b hb
   have hne : nx ≠ id := fun e => by rw [e, hb] at hh; cases hh
   have hki : b.k = i.size := by rw [hk1, hk2]
   -- a new block, and the row's own mode
   have viaNew : ∀ (a : Option Addr) (cap : Nat) (us : Nat → Value), v = .slice a b.es.length cap → b.es.length ≤ cap → cap < b.es.length + ys.length →
       (∀ q, q < b.es.length * i.size → ∃ b o, a = some ⟨b, o, none⟩ ∧ w.cell? ⟨b, o + q, none⟩ = some (us q)) → (∀ (x j : Nat) (e : List V) (d : V), b.es[x]? = some e → e[j]? = some d → Rep w ok s (us (x * i.size + j)) d) →
       ∃ (r : Value) (w' : World) (own' : Nat → Prop) (ok' : Nat → Nat → Prop) (s' : Nat → Option Nat), (Builtin.append_ #[t, t2] ty #[v, u]).run P w = .ok r w' ∧ Rep w' ok' s' r (.os nx i.size (n + ys.length) false) ∧
         RH w' own' ok' s' (upd (upd h id b.after) nx (some { b with es := b.es ++ ys })) ∧ Evol own ok w own' ok' w' ∧ s' = upd s nx (s' nx) := fun a cap us hva hcap hneed hm1 hc1 => by
     obtain ⟨a2, cap2, us2, rfl, g1, g2, g3, g4⟩ := spread_sound hr hpos hu hsp hC
     subst hva
     have hr1 := hr.leave hb hmode hnmp
     obtain ⟨r, w', own', s', k1, k2, k3, k4, k5⟩ := append_new_does hr1 hs h1 h1d h2 h2d hi hz hpos hby (ty := ty) (cap2 := cap2) hcap hneed (by rw [← hnl]; exact hbig) hm1 g2 hc1 g3 (fun e he => by rw [← hki]; exact hbk.len e he) g4
     rw [← hnl] at k2
     cases hm : b.mode with
     | wr =>
       refine ⟨r, w', own', ok, s', k1, k2, ?_, k4, k5⟩
       show RH w' own' ok s' (upd (upd h id b.after) nx (some ⟨b.k, b.es ++ ys, b.ty, .wr⟩))
       rw [hki, hty]; exact k3
     | fz =>
       obtain ⟨ok', f1, f2⟩ := k3.freeze (upd_self _ _ _) rfl
       refine ⟨r, w', own', ok', s', k1, k2.keep (fun b o hb => ⟨f2.okk b o hb, rfl⟩) (fun _ _ _ h => h) (fun _ _ h => h), ?_, k4.trans f2, k5⟩
       show RH w' own' ok' s' (upd (upd h id b.after) nx (some ⟨b.k, b.es ++ ys, b.ty, .fz⟩))
       rw [hki, hty]
       have e2 : upd (upd (upd h id b.after) nx (some (⟨i.size, b.es ++ ys, el, .wr⟩ : Blk))) nx (some ⟨i.size, b.es ++ ys, el, .fz⟩) = upd (upd h id b.after) nx (some ⟨i.size, b.es ++ ys, el, .fz⟩) := by
         funext q; unfold upd; split <;> rfl
       rw [← e2]; exact f1
     | old => exact absurd hm hmode
     | mp m => exact absurd hm (hnmp m)
   cases hv with
   | os0 _ _ _ a =>
     have hes : b.es = [] := List.eq_nil_of_length_eq_zero hnl.symm
     by_cases hys : ys = []
     · obtain ⟨a2, cap2, us2, rfl, g1, g2, g3, g4⟩ := spread_sound hr hpos hu hsp hC
       subst hys
       refine ⟨_, w, own, ok, s, run_append_none h1 h1d h2 h2d hi (Nat.le_refl _), .os0 nx _ false a, ?_, Evol.refl _ _ _, self (x := none) hs⟩
       have := (hr.leave hb hmode hnmp).virtual hs b.k hbk.pos b.ty b.mode
       have e3 : ({ b with es := b.es ++ [] } : Blk) = ⟨b.k, [], b.ty, b.mode⟩ := by rw [hes]; rfl
       show RH w own ok s (upd (upd h id b.after) nx (some { b with es := b.es ++ [] }))
       rw [e3]; exact this
     · have hlen : 0 < ys.length := List.length_pos_iff.2 hys
       refine viaNew a 0 (fun _ => undef) (by rw [hes]; rfl) (by rw [hes]; exact Nat.le_refl _) (by omega) (fun q hq => by rw [hes] at hq; simp at hq) (fun x j e d hx => by rw [hes] at hx; cases hx)
   | os _ _ _ _ B cap ty' sz hB hn' hex hsh hcap =>
     have hown := hbk.own B hB hmode
     obtain ⟨sz', hsh', hszle⟩ := hbk.shape B hB hnmp
     have e1 : sz = sz' := by rw [hsh'] at hsh; cases hsh; rfl
     have hcap2 : cap * k ≤ sz' := by rw [← e1]; exact hcap
     by_cases hneed : n + ys.length ≤ cap
     · obtain ⟨a2, cap2, us2, rfl, g1, g2, g3, g4⟩ := spread_sound hr hpos hu hsp hC
       have hone : ∀ q, q < ys.length * i.size → (us2 q).oneCell' = true := fun q hq => by
         have hq1 : q / i.size < ys.length := Nat.div_lt_of_lt_mul (by rw [Nat.mul_comm]; exact hq)
         have hq2 : q % i.size < (ys[q / i.size]).length := by rw [g4 _ (List.getElem_mem hq1)]; exact Nat.mod_lt _ hpos
         have := g3 (q / i.size) (q % i.size) _ _ (List.getElem?_eq_getElem hq1) (List.getElem?_eq_getElem hq2)
         rw [Nat.mul_comm, Nat.div_add_mod] at this
         exact this.oneCell (hrow _ (List.getElem_mem hq1) _ (List.getElem_mem hq2))
       have hle : (n + ys.length) * i.size ≤ sz' := Nat.le_trans (Nat.mul_le_mul_right _ hneed) (by rw [hk2] at hcap2; exact hcap2)
       have hcellB : ∀ q, q < sz' → ∃ u, w.cell? ⟨B, q, none⟩ = some u := fun q hq => by
         have hsh2 := hsh'
         unfold World.shape? at hsh2
         split at hsh2
         · rename_i cs el' fz hcs
           simp only [Option.some.injEq, Prod.mk.injEq] at hsh2
           have hq' : q < cs.size := by omega
           exact ⟨cs[q], by unfold World.cell?; rw [hcs]; simp [Array.getElem?_eq_getElem hq']⟩
         · cases hsh2
       rw [Nat.add_mul] at hle
       have hrun := run_append_room' (P := P) (ty := ty) (cap2 := cap2) h1 h1d h2 h2d hi hneed g2 hone (fun q hq => hcellB _ (by omega)) (fun q => hown.2 q)
       obtain ⟨f1, f2, f3, f4, f5, f6, f7, f8, f9⟩ := setMany_facts B ((List.range (ys.length * i.size)).map us2) (n * i.size) w (fun j hj => hcellB _ (by simp at hj; omega))
       obtain ⟨ok', r1, r2⟩ := hr.grow hb hmode hnmp hB nx hs _ f2 f3 f4 f1 f5 (fun ty sz h => (f6 B).trans h) (fun o => (f7 _).trans (hown.2 o)) (fun o ho => f9 o (.inl (by rw [hki] at ho; rw [hnl]; exact ho))) ys (fun e he => by rw [hki]; exact g4 e he)
         (fun ty sz hq => by rw [hsh'] at hq; cases hq; rw [hki, ← hnl, Nat.add_mul]; exact hle) (fun x j e d hx hj => by
           have hx' := (List.getElem?_eq_some_iff.1 hx).1
           have hj' : j < i.size := by have := (List.getElem?_eq_some_iff.1 hj).1; rw [g4 e (List.mem_of_getElem? hx)] at this; exact this
           refine ⟨us2 (x * i.size + j), ?_, g3 x j e d hx hj⟩
           have hlt := addr_lt (k := i.size) hx' hj'
           have := f8 (x * i.size + j) (us2 (x * i.size + j)) (by simp [hlt])
           rw [hki, ← hnl, Nat.add_mul, Nat.add_assoc]; exact this)
       refine ⟨_, _, own, ok', _, hrun, ?_, r1, r2, ?_⟩
       · refine .os nx i.size _ false B cap b.ty sz' (upd_self _ _ _) (by omega) (fun h => by cases h) ((f6 B).trans hsh') (by rw [hk2] at hcap2; exact hcap2)
       · funext q; by_cases hq : q = nx
         · subst hq; rw [upd_self, upd_self]
         · rw [upd_ne _ _ _ _ hq, upd_ne _ _ _ _ hq]
     · refine viaNew _ cap (fun q => (w.cell? ⟨B, q, none⟩).getD undef) (by rw [← hnl]) (by omega) (by omega) (fun q hq => ?_) (fun x j e d hx hj => ?_)
       · have hq1 : q / b.k < b.es.length := Nat.div_lt_of_lt_mul (by rw [Nat.mul_comm, hki]; exact hq)
         have hq2 : q % b.k < (b.es[q / b.k]).length := by rw [hbk.len _ (List.getElem_mem hq1)]; exact Nat.mod_lt _ hbk.pos
         obtain ⟨u, hu, _⟩ := hbk.cells B hB _ _ _ _ (List.getElem?_eq_getElem hq1) (List.getElem?_eq_getElem hq2)
         rw [Nat.mul_comm, Nat.div_add_mod] at hu
         exact ⟨B, 0, rfl, by rw [Nat.zero_add]; show _ = some ((w.cell? ⟨B, q, none⟩).getD undef); rw [hu]; rfl⟩
       · obtain ⟨u, q1, q2⟩ := hbk.cells B hB x j e d hx hj
         show Rep w ok s ((w.cell? ⟨B, x * i.size + j, none⟩).getD undef) d
         rw [← hki, q1]; exact q2
 · cases he
end
end Go.Aw
end
section
namespace Go.Aw
open Go.RowKit
section
variable {P : Program} {w : World} {own : Nat → Prop} {ok : Nat → Nat → Prop} {s : Nat → Option Nat} {h : Hp} {nx : Nat}
def partA (P : Program) (t : TypeId) (cs : List V) (o : Nat) : Option Eff :=
 match tinfo P t with
 | some i => if isAggD i.desc then some ⟨o + i.size ≤ cs.length, .agg ((cs.drop o).take i.size), []⟩ else some ⟨o < cs.length, cs.getD o .undef, []⟩
 | none => none
theorem partA_sound {t : TypeId} {xs : Array Value} {cs : List V} {o : Nat} {e : Eff} (hv : Rep w ok s (.agg xs) (.agg cs)) (he : partA P t cs o = some e) (hc : e.c) :
   ∃ r, (part t xs o).run P w = .ok r w ∧ Rep w ok s r e.v ∧ e.wr = [] := by
 cases hv with
 | agg _ _ hl hcs =>
   unfold partA at he
   split at he
   · rename_i i hi
     split at he
     · rename_i ha
       cases he
       have hle : o + i.size ≤ cs.length := hc
       refine ⟨.agg (xs.extract o (o + i.size)), ?_, .agg _ _ ?_ (fun j d v hd hv => ?_), rfl⟩
       · rw [run_part' hi xs o (fun h' => by rw [ha] at h'; cases h'), if_pos ha]
       · simp; omega
       · rw [List.getElem?_take] at hd
         split at hd
         · rw [List.getElem?_drop] at hd
           rw [Array.getElem?_extract] at hv
           split at hv
           · exact hcs _ d v hd hv
           · cases hv
         · cases hd
     · rename_i ha
       have ha' : isAggD i.desc = false := by simpa using ha
       cases he
       have hlt : o < cs.length := hc
       have hx : xs[o]? = some (xs.getD o undef) := by rw [Array.getD_eq_getD_getElem?, Array.getElem?_eq_getElem (by omega)]; rfl
       have hd : cs[o]? = some (cs.getD o .undef) := by rw [List.getD_eq_getElem?_getD, List.getElem?_eq_getElem hlt]; rfl
       refine ⟨xs.getD o undef, ?_, hcs o _ _ hd hx, rfl⟩
       rw [run_part' hi xs o (fun _ => by omega), ha']; rfl
   · cases he
def actField (P : Program) (t : TypeId) (x : V) (f : Nat) : Option Eff :=
 match tinfo P t, x with
 | some ti, .agg cs => match ti.desc with
   | .struct fs => match fs[f]? with
     | some fd => partA P fd.type cs fd.offset
     | none => none
   | _ => none
 | _, _ => none
theorem actField_sound {t : TypeId} {x : V} {v : Value} {f : Nat} {e : Eff} (hv : Rep w ok s v x) (he : actField P t x f = some e) (hc : e.c) :
   ∃ r, (Instr.field t v f).run P w = .ok r w ∧ Rep w ok s r e.v ∧ e.wr = [] := by
 unfold actField at he
 split at he
 · rename_i ti cs hti
   split at he
   · rename_i fs hd
     split at he
     · rename_i fd hf
       cases hv with
       | agg vs _ hl hcs =>
         obtain ⟨r, h1, h2, h3⟩ := partA_sound (.agg vs cs hl hcs) he hc
         refine ⟨r, ?_, h2, h3⟩
         simp only [Instr.field, Sem.run_bind, run_underlying' hti, hd, Result.andThen_ok, hf, asAgg, Sem.run_pure, h1]
     · cases he
   · cases he
 · cases he
def actIndex (P : Program) (t : TypeId) (x ix : V) : Option Eff :=
 match tinfo P t, ix with
 | some ti, .lit (.int _ n) => match ti.desc, x with
   | .array len e, .agg cs => match tinfo P e with
     | some j => match partA P e cs (n.toNat * j.size) with
       | some r => some ⟨(0 ≤ n ∧ n < len) ∧ r.c, r.v, r.wr⟩
       | none => none
     | none => none
   | .string, .lit (.string b) => some ⟨0 ≤ n ∧ n < b.size, .lit (.int .u8 ((b[n.toNat]?).getD 0).toNat), []⟩
   | _, _ => none
 | _, _ => none
theorem actIndex_sound {t : TypeId} {x y : V} {v u : Value} {e : Eff} (hv : Rep w ok s v x) (hu : Rep w ok s u y) (he : actIndex P t x y = some e) (hc : e.c) :
   ∃ r, (Instr.index t v u).run P w = .ok r w ∧ Rep w ok s r e.v ∧ e.wr = [] := by
 unfold actIndex at he
 split at he
 · rename_i ti _ n hti
   cases hu
   split at he
   · rename_i len el cs hd
     split at he
     · rename_i j hj
       split at he
       · rename_i r hr
         cases he
         obtain ⟨⟨h1, h2⟩, h3⟩ := hc
         cases hv with
         | agg vs _ hl hcs =>
           obtain ⟨q, q1, q2, q3⟩ := partA_sound (.agg vs cs hl hcs) hr h3
           refine ⟨q, ?_, q2, q3⟩
           simp only [Instr.index, Sem.run_bind, asIntOf, Sem.run_pure, Result.andThen_ok, run_underlying' hti, hd, h1, h2, and_self, if_true, run_sizeOf' hj, q1]
       · cases he
     · cases he
   · rename_i b hd
     cases he
     obtain ⟨h1, h2⟩ := hc
     cases hv with
     | lit _ hl =>
       have hlt : n.toNat < b.size := by omega
       have hb : b[n.toNat]? = some (b[n.toNat]) := by simp [hlt]
       refine ⟨_, ?_, .lit _ rfl, rfl⟩
       simp only [Instr.index, Sem.run_bind, asIntOf, Sem.run_pure, Result.andThen_ok, run_underlying' hti, hd, h1, if_true, hb, Option.getD_some]
   · cases he
 · cases he
def actExtract (x : V) (i : Nat) : Option Eff :=
 match x with
 | .tup vs => some ⟨i < vs.length, vs.getD i .undef, []⟩
 | _ => none
theorem actExtract_sound {x : V} {v : Value} {i : Nat} {e : Eff} (hv : Rep w ok s v x) (he : actExtract x i = some e) (hc : e.c) :
   ∃ r, (Instr.extract v i).run P w = .ok r w ∧ Rep w ok s r e.v ∧ e.wr = [] := by
 cases hv with
 | tup vs cs hl hcs =>
   simp only [actExtract, Option.some.injEq] at he
   subst he
   have hlt : i < cs.length := hc
   have hd : cs[i]? = some (cs.getD i .undef) := by rw [List.getD_eq_getElem?_getD, List.getElem?_eq_getElem hlt]; rfl
   have hx : vs[i]? = some (vs[i]'(by omega)) := Array.getElem?_eq_getElem (by omega)
   exact ⟨_, by simp [Instr.extract, hx], hcs i _ _ hd hx, rfl⟩
 | _ => simp [actExtract] at he
def lenA (h : Hp) : V → Option V
 | .sl _ es _ => some (.lit (.int .i64 es.length))
 | .os _ _ n _ => some (.lit (.int .i64 n))
 | .lit (.slice none 0 0) => some (.lit (.int .i64 0))
 | _ => none
def actLen (P : Program) (t : TypeId) (x : V) (h : Hp) : Option Eff :=
 match tinfo P t with
 | some ti => match ti.desc with
   | .slice _ => (lenA h x).map .val
   | .string => (match x with | .lit (.string b) => some (.val (.lit (.int .i64 b.size))) | _ => none)
   | .array n _ => some (.val (.lit (.int .i64 n)))
   | _ => none
 | none => none
theorem actLen_sound {t : TypeId} {ty : TypeId} {x : V} {v : Value} {e : Eff} (hv : Rep w ok s v x) (he : actLen P t x h = some e) :
   ∃ r, (Builtin.len_ #[t] ty #[v]).run P w = .ok r w ∧ Rep w ok s r e.v ∧ e.wr = [] := by
 unfold actLen at he
 split at he
 · rename_i ti hti
   split at he
   · rename_i el hd
     have key : ∀ a n c, v = .slice a n c → (Builtin.len_ #[t] ty #[v]).run P w = .ok (.int .i64 n) w := fun a n c hv => by
       subst hv; simp [Builtin.len_, run_underlying' hti, hd, goInt]
     simp only [Option.map_eq_some_iff] at he
     obtain ⟨r, hr, rfl⟩ := he
     unfold lenA at hr
     split at hr
     · cases hr
       cases hv with
       | sl a n cap k es ex us hn => subst hn; exact ⟨_, key _ _ _ rfl, .lit _ rfl, rfl⟩
     · cases hr
       cases hv with
       | os0 => exact ⟨_, key _ _ _ rfl, .lit _ rfl, rfl⟩
       | os => exact ⟨_, key _ _ _ rfl, .lit _ rfl, rfl⟩
     · cases hr; cases hv; exact ⟨_, key _ _ _ rfl, .lit _ rfl, rfl⟩
     · cases hr
   · rename_i hd
     split at he
     · rename_i b
       cases he
       cases hv
       exact ⟨_, by simp [Builtin.len_, run_underlying' hti, hd, goInt], .lit _ rfl, rfl⟩
     · cases he
   · rename_i n el hd
     cases he
     exact ⟨_, by simp [Builtin.len_, run_underlying' hti, hd, goInt], .lit _ rfl, rfl⟩
   · cases he
 · cases he
def foldInts (f : Int → Int → Int) (k : IntKind) : Int → List V → Option Int
 | n, [] => some n
 | n, .lit (.int k' m) :: rest => if k' = k then foldInts f k (f n m) rest else none
 | _, _ => none
def actMinMax (f : Int → Int → Int) (xs : List V) : Option Eff :=
 match xs with
 | .lit (.int k n) :: rest => (foldInts f k n rest).map fun m => .val (.lit (.int k m))
 | _ => none
theorem foldInts_sound {f : Int → Int → Int} {g : Value → Value → Sem Value} (hg : ∀ k x y, (g (.int k x) (.int k y)) = pure (.int k (f x y))) (k : IntKind) : ∀ (xs : List V) (n : Int) (vs : List Value) (m : Int), foldInts f k n xs = some m →
   vs.length = xs.length → (∀ (i : Nat) (d : V) (v : Value), xs[i]? = some d → vs[i]? = some v → Rep w ok s v d) → (vs.foldlM g (.int k n)).run P w = .ok (.int k m) w := by
 intro xs
 induction xs with
 | nil =>
   intro n vs m hf hl _
   simp only [foldInts, Option.some.injEq] at hf
   subst hf
   rw [List.eq_nil_of_length_eq_zero hl]; rfl
 | cons x xs ih =>
   intro n vs m hf hl hr
   unfold foldInts at hf
   split at hf
   · rename_i h; cases h
   · rename_i k' q rest h
     cases h
     split at hf
     · rename_i hk; subst hk
       match vs, hl with
       | v :: vr, hl =>
         have h1 := hr 0 _ _ rfl rfl
         cases h1
         simp only [List.foldlM_cons, hg, Sem.run_bind, Sem.run_pure, Result.andThen_ok]
         exact ih _ vr m hf (by simpa using hl) (fun i d v hd hv => hr (i + 1) d v (by simpa using hd) (by simpa using hv))
     · cases hf
   · cases hf
theorem minmax_sound {f : Int → Int → Int} {g : Value → Value → Sem Value} (hg : ∀ k x y, (g (.int k x) (.int k y)) = pure (.int k (f x y))) {xs : List V} {vs : Array Value} {e : Eff} (he : actMinMax f xs = some e) (hl : vs.size = xs.length)
   (hr : ∀ (i : Nat) (d : V) (v : Value), xs[i]? = some d → vs[i]? = some v → Rep w ok s v d) : ∃ v0 rest r, vs.toList = v0 :: rest ∧ (rest.foldlM g v0).run P w = .ok r w ∧ Rep w ok s r e.v ∧ e.wr = [] := by
 unfold actMinMax at he
 split at he
 · rename_i k n rest
   simp only [Option.map_eq_some_iff] at he
   obtain ⟨m, hm, rfl⟩ := he
   cases hvs : vs.toList with
   | nil => have : vs.toList.length = 0 := by rw [hvs]; rfl
            simp at this; simp [this] at hl
   | cons v0 rs =>
     have h0 := hr 0 _ v0 rfl (by rw [← Array.getElem?_toList, hvs]; rfl)
     cases h0
     refine ⟨_, rs, .int k m, rfl, foldInts_sound hg k rest n rs m hm ?_ (fun i d v hd hv => hr (i + 1) d v (by simpa using hd) (by rw [← Array.getElem?_toList, hvs]; simpa using hv)), .lit _ rfl, rfl⟩
     have : vs.toList.length = rs.length + 1 := by rw [hvs]; rfl
     simp at this; simp [this] at hl; exact hl
 · cases he
theorem actMin_sound {xs : List V} {vs : Array Value} {tys : Array TypeId} {ty : TypeId} {e : Eff} (he : actMinMax min xs = some e) (hl : vs.size = xs.length) (hr : ∀ (i : Nat) (d : V) (v : Value), xs[i]? = some d → vs[i]? = some v → Rep w ok s v d) :
   ∃ r, (Builtin.min_ tys ty vs).run P w = .ok r w ∧ Rep w ok s r e.v ∧ e.wr = [] := by
 obtain ⟨v0, rest, r, e1, e2, e3, e4⟩ := minmax_sound (P := P) (g := Builtin.min2) (fun k x y => by simp only [Builtin.min2]; congr 2; omega) he hl hr
 exact ⟨r, by simp only [Builtin.min_, e1]; exact e2, e3, e4⟩
theorem actMax_sound {xs : List V} {vs : Array Value} {tys : Array TypeId} {ty : TypeId} {e : Eff} (he : actMinMax max xs = some e) (hl : vs.size = xs.length) (hr : ∀ (i : Nat) (d : V) (v : Value), xs[i]? = some d → vs[i]? = some v → Rep w ok s v d) :
   ∃ r, (Builtin.max_ tys ty vs).run P w = .ok r w ∧ Rep w ok s r e.v ∧ e.wr = [] := by
 obtain ⟨v0, rest, r, e1, e2, e3, e4⟩ := minmax_sound (P := P) (g := Builtin.max2) (fun k x y => by simp only [Builtin.max2]; congr 2; omega) he hl hr
 exact ⟨r, by simp only [Builtin.max_, e1]; exact e2, e3, e4⟩
def actConvert (P : Program) (src dst : TypeId) (x : V) : Option Eff :=
 match tinfo P src, tinfo P dst, x with
 | some _, some d, .lit (.int _ n) => match d.desc with
   | .int k => some ⟨inR k n, .lit (.int k n), []⟩
   | _ => none
 | _, _, _ => none
theorem actConvert_sound {src dst : TypeId} {x : V} {v : Value} {e : Eff} (hv : Rep w ok s v x) (he : actConvert P src dst x = some e) (hc : e.c) :
   ∃ r, (convert src dst v).run P w = .ok r w ∧ Rep w ok s r e.v ∧ e.wr = [] := by
 unfold actConvert at he
 split at he
 · rename_i si di _ n hs hd
   split at he
   · rename_i k hk
     cases he
     cases hv
     refine ⟨.int k n, ?_, .lit _ rfl, rfl⟩
     simp only [convert, Sem.run_bind, run_underlying' hs, run_underlying' hd, Result.andThen_ok, hk, Conv.intToInt, Sem.run_pure, wrap_inR (show inR k n from hc)]
   · cases he
 · cases he
def actUn (op : UnOp) (x : V) : Option Eff :=
 match op, x with
 | .not, .lit (.bool b) => some (.val (.lit (.bool (!b))))
 | .neg, .lit (.int k n) => some (if k = .u64 then .val (.lit (.int k (k.wrap (-n)))) else ⟨inR k (-n), .lit (.int k (-n)), []⟩)
 | .xor, .lit (.int k n) => some (.val (.lit (.int k (ibits .xor k (if k.signed then -1 else k.max) n))))
 | _, _ => none
theorem actUn_sound {op : UnOp} {x : V} {v : Value} {e : Eff} (hv : Rep w ok s v x) (he : actUn op x = some e) (hc : e.c) :
   ∃ r, (Op.unary op v).run P w = .ok r w ∧ Rep w ok s r e.v ∧ e.wr = [] := by
 unfold actUn at he
 split at he
 · cases he; cases hv; exact ⟨_, by simp [Op.unary], .lit _ rfl, rfl⟩
 · rename_i k n
   cases he; cases hv
   by_cases h : k = .u64
   · subst h
     exact ⟨_, by simp [Op.unary, Op.intArith], .lit _ rfl, rfl⟩
   · rw [if_neg h] at hc ⊢
     exact ⟨.int k (-n), by simp [Op.unary, Op.intArith, wrap_inR (show inR k (-n) from hc)], .lit _ rfl, rfl⟩
 · cases he; cases hv; exact ⟨_, by simp [Op.unary, Op.intBits, ibits], .lit _ rfl, rfl⟩
 · cases he
def nonNil : V → Option Prop
 | .sl k es _ => some (0 < k ∧ es ≠ [])
 | .os _ _ n _ => some (0 < n)
 | _ => none
def actBin (P : Program) (op : BinOp) (t : TypeId) (x y : V) : Option Eff :=
 match x, y with
 | .lit (.int k a), .lit (.int k' b) => if isShift op = true ∨ k = k' then some (ints op k a b) else none
 | .lit (.bool a), .lit (.bool b) => if litT P t (.bool a) then (match op with | .eql => some (.val (.lit (.bool (a == b)))) | .neq => some (.val (.lit (.bool (a != b)))) | _ => none) else none
 | .lit (.string a), .lit (.string b) => match op with
   | .eql => some (.val (.lit (.bool (a == b))))
   | .neq => some (.val (.lit (.bool (!(a == b)))))
   | .add => some ⟨a.size + b.size ≤ 4294967296, .lit (.string (a ++ b)), []⟩
   | _ => none
 | .agg as, .agg bs => if P.eqGuardType P.depth t = false then
     match eqCells P 10000 t as bs with
     | some r => match op with
       | .eql => some (.val (.lit (.bool r)))
       | .neq => some (.val (.lit (.bool (!r))))
       | _ => none
     | none => none
   else none
 | .lit (.slice none 0 0), .lit (.slice none 0 0) => match tinfo P t with
   | some ti => match ti.desc, op with
     | .slice _, .eql => some (.val (.lit (.bool true)))
     | .slice _, .neq => some (.val (.lit (.bool false)))
     | _, _ => none
   | none => none
 | x, .lit (.slice none 0 0) => match tinfo P t, nonNil x with
   | some ti, some C => match ti.desc, op with
     | .slice _, .eql => some ⟨C, .lit (.bool false), []⟩
     | .slice _, .neq => some ⟨C, .lit (.bool true), []⟩
     | _, _ => none
   | _, _ => none
 | _, _ => none
theorem equalIn_nils (d : Nat) {t el : TypeId} {ti : TI} (hti : tinfo P t = some ti) (hd : ti.desc = .slice el) : (Op.equalIn (d + 1) t (.slice none 0 0) (.slice none 0 0)).run P w = .ok true w := by
 simp [Op.equalIn, run_underlying' hti, hd]
theorem equalIn_some_nil (d : Nat) {t el : TypeId} {ti : TI} (hti : tinfo P t = some ti) (hd : ti.desc = .slice el) (a : Addr) (n c : Nat) : (Op.equalIn (d + 1) t (.slice (some a) n c) (.slice none 0 0)).run P w = .ok false w := by
 simp [Op.equalIn, run_underlying' hti, hd]
theorem bytes_beq (a b : ByteArray) : (a.toList == b.toList) = (a == b) := (beq_toListBytes a b).symm
theorem actBin_sound {op : BinOp} {t : TypeId} {ox oy : Operand} {x y : V} {v u : Value} {e : Eff} (hv : Rep w ok s v x) (hu : Rep w ok s u y) (he : actBin P op t x y = some e) (hc : e.c) :
   ∃ r, (do eqGuard op t ox oy v u; binOp op t v u : Sem Value).run P w = .ok r w ∧ Rep w ok s r e.v ∧ e.wr = [] := by
 unfold actBin at he
 split at he
 · -- numbers
   rename_i k a k' b
   split at he
   · rename_i hk
     cases he
     cases hv; cases hu
     obtain ⟨r, r1, r2, r3, r4⟩ := ints_run (P := P) (w := w) op t k k' a b (fun hs => by rcases hk with hk | hk; rw [hs] at hk; cases hk; exact hk) hc
     refine ⟨r, ?_, by rw [r1]; exact .lit r r2, r3⟩
     simp only [Sem.run_bind, eqGuard_lit op t ox oy (.int k a) (.int k' b) (fun c h => by cases h) (fun h => by cases h), Result.andThen_ok, r4]
   · cases he
 · -- bools
   rename_i a b
   split at he
   · rename_i ht
     cases hv; cases hu
     have hg := eqGuard_lit (P := P) (w := w) op t ox oy (.bool a) (.bool b) (fun c h => by cases h) (fun h => by cases h)
     have heq := equalIn_lit (P := P) (w := w) 9999 t (.bool a) (.bool b) (a == b) rfl ht
     split at he
     · cases he
       exact ⟨_, by simp only [Sem.run_bind, hg, Result.andThen_ok, binOp, Op.equal, Op.maxDepth, heq, Sem.run_pure], .lit _ rfl, rfl⟩
     · cases he
       exact ⟨.bool (a != b), by simp only [Sem.run_bind, hg, Result.andThen_ok, binOp, Op.equal, Op.maxDepth, heq, Sem.run_pure]; rfl, .lit _ rfl, rfl⟩
     · cases he
   · cases he
 · -- strings
   rename_i a b
   cases hv; cases hu
   have hg := eqGuard_lit (P := P) (w := w) op t ox oy (.string a) (.string b) (fun c h => by cases h) (fun h => by cases h)
   split at he
   · cases he
     exact ⟨.bool (a == b), by simp only [Sem.run_bind, hg, Result.andThen_ok, binOp, Op.stringOp, bytes_beq, Sem.run_pure], .lit _ rfl, rfl⟩
   · cases he
     exact ⟨.bool (!(a == b)), by simp only [Sem.run_bind, hg, Result.andThen_ok, binOp, Op.stringOp, bytes_beq, Sem.run_pure], .lit _ rfl, rfl⟩
   · cases he
     have hmax : IntKind.i64.max = 9223372036854775807 := rfl
     have hc' : a.size + b.size ≤ 4294967296 := hc
     refine ⟨.string (a ++ b), ?_, .lit _ rfl, rfl⟩
     simp only [Sem.run_bind, hg, Result.andThen_ok, binOp, Op.stringOp, hmax]
     rw [if_neg (by omega)]; rfl
   · cases he
 · -- structs
   rename_i as bs
   split at he
   · rename_i hgd
     split at he
     · rename_i r hr
       cases hv with
       | agg xs _ hl1 hc1 =>
         cases hu with
         | agg ys _ hl2 hc2 =>
           have heq := eqCells_run (P := P) (w := w) (ok := ok) (s := s) 10000 t xs ys as bs r hr hl1 hl2 hc1 hc2
           have hg := run_eqGuard_agg (P := P) w op t ox oy xs ys hgd
           split at he
           · cases he
             exact ⟨.bool r, by simp only [Sem.run_bind, hg, Result.andThen_ok, run_eql_struct, heq], .lit _ rfl, rfl⟩
           · cases he
             exact ⟨.bool (!r), by simp only [Sem.run_bind, hg, Result.andThen_ok, run_neq_struct, heq], .lit _ rfl, rfl⟩
           · cases he
     · cases he
   · cases he
 · -- nil and nil
   cases hv; cases hu
   have hg := eqGuard_lit (P := P) (w := w) op t ox oy (.slice none 0 0) (.slice none 0 0) (fun c h => by cases h) (fun h => by cases h)
   split at he
   · rename_i ti hti
     have heq : ∀ el, ti.desc = .slice el → (Op.equalIn 10000 t (.slice none 0 0) (.slice none 0 0)).run P w = .ok true w := fun el hd => equalIn_nils 9999 hti hd
     split at he
     · rename_i el hd
       cases he
       exact ⟨.bool true, by simp only [Sem.run_bind, hg, Result.andThen_ok, binOp, Op.equal, Op.maxDepth, heq _ hd, Sem.run_pure], .lit _ rfl, rfl⟩
     · rename_i el hd
       cases he
       exact ⟨.bool false, by simp only [Sem.run_bind, hg, Result.andThen_ok, binOp, Op.equal, Op.maxDepth, heq _ hd, Sem.run_pure]; rfl, .lit _ rfl, rfl⟩
     · cases he
   · cases he
 · -- something and nil
   cases hu
   split at he
   · rename_i ti C hti hn
     have key : C → ∃ a n c, v = .slice (some a) n c := fun hC => by
       match x, hn, hv with
       | .sl k0 es0 ex0, hn, hv =>
         cases hn
         cases hv with
         | sl a n cap _ _ _ us hn' hcap hex hm hk hcc =>
           obtain ⟨hk0, hne⟩ := hC
           have hpos : 0 < es0.length := List.length_pos_iff.2 hne
           obtain ⟨b, o, rfl, _⟩ := hm 0 0 (by omega) hk0
           exact ⟨_, _, _, rfl⟩
       | .os _ _ n0 _, hn, hv =>
         cases hn
         cases hv with
         | os0 => exact absurd hC (by simp)
         | os => exact ⟨_, _, _, rfl⟩
     have hgo : ∀ (hC : C), (eqGuard op t ox oy v (.slice none 0 0)).run P w = .ok () w := fun hC => by
       obtain ⟨a, n, c, rfl⟩ := key hC
       exact eqGuard_lit op t ox oy _ _ (fun c h => by cases h) (fun h => by cases h)
     have heq : ∀ el (hC : C), ti.desc = .slice el → (Op.equalIn 10000 t v (.slice none 0 0)).run P w = .ok false w := fun el hC hd => by
       obtain ⟨a, n, c, rfl⟩ := key hC
       exact equalIn_some_nil 9999 hti hd a n c
     split at he
     · rename_i el hd
       cases he
       refine ⟨.bool false, ?_, .lit _ rfl, rfl⟩
       have h1 := hgo hc
       have h2 := heq _ hc hd
       obtain ⟨a, n, c, rfl⟩ := key hc
       simp only [Sem.run_bind, h1, Result.andThen_ok, binOp, Op.equal, Op.maxDepth, h2, Sem.run_pure]
     · rename_i el hd
       cases he
       refine ⟨.bool true, ?_, .lit _ rfl, rfl⟩
       have h1 := hgo hc
       have h2 := heq _ hc hd
       obtain ⟨a, n, c, rfl⟩ := key hc
       simp only [Sem.run_bind, h1, Result.andThen_ok, binOp, Op.equal, Op.maxDepth, h2, Sem.run_pure]; rfl
     · cases he
   · cases he
 · cases he
end
end Go.Aw
end
section
namespace Go.Aw
open Go.RowKit
def mget : List (Int × Int) → Int → Option Int
 | [], _ => none
 | p :: r, k => if p.1 = k then some p.2 else mget r k
def mset : List (Int × Int) → Int → Int → List (Int × Int)
 | [], k, v => [(k, v)]
 | p :: r, k, v => if p.1 = k then (k, v) :: r else p :: mset r k v
def kv (e : MapEntry) : Value × Value := (e.key, e.val)
theorem find_spec (k : Int) : ∀ (l : List MapEntry) (m : List (Int × Int)) (i : Nat), l.map kv = m.map entV →
   (mget m k = none ∧ Instr.findNow (.int .i64) (.int .i64 k) l i = some none ∧ ∀ x, mset m k x = m ++ [(k, x)]) ∨
   ∃ (j : Nat) (v : Int) (e : MapEntry), mget m k = some v ∧ Instr.findNow (.int .i64) (.int .i64 k) l i = some (some (i + j, .int .i64 v)) ∧ l[j]? = some e ∧ e.key = .int .i64 k ∧
     ∀ x, (l.modify j fun e => { e with key := .int .i64 k, val := .int .i64 x }).map kv = (mset m k x).map entV
 | [], [], i, _ => .inl ⟨rfl, rfl, fun _ => rfl⟩
 | [], _ :: _, _, h => by cases h
 | _ :: _, [], _, h => by cases h
 | e :: l, p :: m, i, h => by
   simp only [List.map_cons, List.cons.injEq] at h
   obtain ⟨h1, h2⟩ := h
   have hk : e.key = .int .i64 p.1 := congrArg Prod.fst h1
   have hv : e.val = .int .i64 p.2 := congrArg Prod.snd h1
   by_cases hp : p.1 = k
   · refine .inr ⟨0, p.2, e, by simp [mget, hp], ?_, rfl, by rw [hk, hp], fun x => ?_⟩
     · simp [Instr.findNow, Instr.sameNow, hk, hp, hv]
     · simp only [List.modify_zero_cons, List.map_cons, mset, if_pos hp, h2]; rfl
   · have hs : Instr.sameNow (.int .i64) (.int .i64 k) e.key = some false := by
       rw [hk]; simp [Instr.sameNow]; omega
     rcases find_spec k l m (i + 1) h2 with ⟨g1, g2, g3⟩ | ⟨j, v, e', g1, g2, g3, g4, g5⟩
     · refine .inl ⟨by simp [mget, hp, g1], by simp [Instr.findNow, hs, g2], fun x => by simp [mset, hp, g3]⟩
     · refine .inr ⟨j + 1, v, e', by simp [mget, hp, g1], by simp [Instr.findNow, hs, g2]; omega, by simpa using g3, g4, fun x => ?_⟩
       simp only [List.modify_succ_cons, List.map_cons, mset, if_neg hp, g5, List.cons.injEq, and_true]
       exact h1
section
variable {P : Program} {w : World} {own : Nat → Prop} {ok : Nat → Nat → Prop} {s : Nat → Option Nat} {h : Hp} {nx : Nat}
theorem RH.allocMap (hr : RH w own ok s h) (id : Nat) (hs : s id = none) (ty : TypeId) :
   RH (w.alloc (.map #[] 0)) (fun x => own x ∨ x = w.heap.size) ok (upd s id (some w.heap.size)) (upd h id (some ⟨1, [], ty, .mp []⟩)) := by
 have he := Evol.alloc hr id hs (.map #[] 0)
 have hne : ∀ id' B, upd s id (some w.heap.size) id' = some B → id' ≠ id → s id' = some B := fun id' B hb hi => by
   unfold upd at hb; rw [if_neg hi] at hb; exact hb
 have hself : upd s id (some w.heap.size) id = some w.heap.size := by simp [upd]
 have hnew : (w.alloc (.map #[] 0)).heap[w.heap.size]? = some (.map #[] 0) := (MapKept.heap_alloc w _).1
 refine ⟨fun b' o hb => ?_, fun b' hb => ?_, fun id' B hb => ?_, fun id' b' hb => ?_, fun id1 id2 b1 b2 B h1 h2 m1 m2 e1 e2 => ?_, hr.gl.evol he⟩
 · obtain ⟨u, hu⟩ := hr.okw b' o hb
   exact ⟨u, (he.okc b' o hb).trans hu⟩
 · rcases hb with hb | hb
   · have := hr.ownw b' hb; simp; omega
   · simp; omega
 · by_cases e : id' = id
   · subst e; rw [hself] at hb; cases hb; simp
   · have := hr.sw id' B (hne id' B hb e); simp; omega
 · by_cases e : id' = id
   · subst e
     have : b' = ⟨1, [], ty, .mp []⟩ := by simpa [upd] using hb.symm
     subst this
     refine ⟨Nat.one_pos, fun e he => (by cases he), fun _ => rfl, fun B hB hmm => ?_, fun B hB hnm => absurd rfl (hnm []), fun B hB i j e d hi => (by cases hi), fun B hB hmm => (by cases hmm), fun B hB hmm => (by cases hmm), fun B hB hmm => (by cases hmm), fun _ _ => rfl, fun B hB m hm => ?_⟩
     · rw [hself] at hB; cases hB
       exact ⟨.inr rfl, fun o => by unfold World.frozen?; rw [hnew]⟩
     · rw [hself] at hB; cases hB
       cases hm
       exact ⟨#[], 0, hnew, rfl⟩
   · have hb' : h id' = some b' := by unfold upd at hb; rw [if_neg e] at hb; exact hb
     have hbk := hr.blk id' b' hb'
     refine ⟨hbk.pos, hbk.len, fun hv => hbk.virt (by unfold upd at hv; rw [if_neg e] at hv; exact hv), fun B hB hmm => ?_, fun B hB hnm => ?_, fun B hB i j e' d hi hj => ?_, fun B hB => hbk.fwr B (hne _ _ hB e), fun B hB => hbk.ffz B (hne _ _ hB e), fun B hB => hbk.fold B (hne _ _ hB e), hbk.mpe, fun B hB m hm => ?_⟩
     · have := hbk.own B (hne _ _ hB e) hmm
       exact ⟨.inl this.1, fun o => (World.frozen?_alloc_old _ _ _ (Nat.ne_of_lt (hr.ownw B this.1))).trans (this.2 o)⟩
     · obtain ⟨sz, h1, h2⟩ := hbk.shape B (hne _ _ hB e) hnm
       exact ⟨sz, he.shape _ _ _ h1, h2⟩
     · obtain ⟨u, h1, h2⟩ := hbk.cells B (hne _ _ hB e) i j e' d hi hj
       exact ⟨u, (World.cell?_alloc_lt _ _ _ (World.block_lt_of_cell? w _ h1)).trans h1, h2.evol he (sig_upd _ hs _)⟩
     · obtain ⟨es, ck, h1, h2⟩ := hbk.map B (hne _ _ hB e) m hm
       exact ⟨es, ck, (Below.heap_alloc w _ B (hr.sw _ _ (hne _ _ hB e))).trans h1, h2⟩
 · by_cases c1 : id1 = id
   · by_cases c2 : id2 = id
     · rw [c1, c2]
     · subst c1
       rw [hself] at e1; cases e1
       have := hr.sw id2 _ (hne _ _ e2 c2); omega
   · by_cases c2 : id2 = id
     · subst c2
       rw [hself] at e2; cases e2
       have := hr.sw id1 _ (hne _ _ e1 c1); omega
     · exact hr.exc id1 id2 b1 b2 B (by unfold upd at h1; rw [if_neg c1] at h1; exact h1) (by unfold upd at h2; rw [if_neg c2] at h2; exact h2) m1 m2 (hne _ _ e1 c1) (hne _ _ e2 c2)
theorem RH.setMap (hr : RH w own ok s h) {id B : Nat} {b : Blk} {m : List (Int × Int)} (hb : h id = some b) (hm : b.mode = .mp m) (hB : s id = some B) {es : Array MapEntry} {ck : Nat} (h0 : w.heap[B]? = some (.map es ck)) {es' : Array MapEntry} {ck' : Nat} {m' : List (Int × Int)} (hi : MapIs es' m') :
   RH { w with heap := w.heap.setIfInBounds B (.map es' ck') } own ok s (upd h id (some { b with mode := .mp m' })) ∧ Evol own ok w own ok { w with heap := w.heap.setIfInBounds B (.map es' ck') } := by
 have hbk := hr.blk id b hb
 have hown := hbk.own B hB (by rw [hm]; intro h; cases h)
 obtain ⟨hnew, hun⟩ := MapKept.heap_set (o' := .map es' ck') h0
 generalize hw' : { w with heap := w.heap.setIfInBounds B (.map es' ck') } = w'
 have hz : w'.heap.size = w.heap.size := by rw [← hw']; simp
 have hnew' : w'.heap[B]? = some (.map es' ck') := by rw [← hw']; exact hnew
 have hun' : ∀ c, c ≠ B → w'.heap[c]? = w.heap[c]? := fun c hc => by rw [← hw']; exact hun c hc
 have hokB : ∀ o, ¬ ok B o := fun o ho => by
   obtain ⟨u, hu⟩ := hr.okw B o ho
   simp [World.cell?, h0] at hu
 have he : Evol own ok w own ok w' := {
   os := by rw [← hw']
   tape := by rw [← hw']
   output := by rw [← hw']
   size := by omega
   unch := fun c hc hn => hun' c (fun e => hn (e ▸ hown.1))
   ownn := fun c hc => .inl hc
   okk := fun c o hc => hc
   okc := fun c o hc => by
     by_cases e : c = B
     · subst e; exact absurd hc (hokB o)
     · exact World.cell?_of_block (w := w) (a := ⟨c, o, none⟩) (hun' c e)
   okn := fun c o hc => .inl hc
   shape := fun c ty sz hc => by
     by_cases e : c = B
     · subst e; rw [shape_map h0] at hc; cases hc
     · unfold World.shape? at *; rw [hun' c e]; exact hc
   ctl := fun c o hc hct => by
     by_cases e : c = B
     · subst e; rw [h0] at hc; cases hc; cases hct
     · rw [hun' c e]; exact hc }
 refine ⟨⟨fun b' o hb' => ?_, fun b' hb' => by rw [hz]; exact hr.ownw b' hb', fun id' B' hb' => by rw [hz]; exact hr.sw id' B' hb', fun id' b' hb' => ?_, fun id1 id2 b1 b2 B' g1 g2 m1 m2 e1 e2 => ?_, hr.gl.evol he⟩, he⟩
 · obtain ⟨u, hu⟩ := hr.okw b' o hb'
   exact ⟨u, (he.okc b' o hb').trans hu⟩
 · by_cases e : id' = id
   · subst e
     have : b' = { b with mode := .mp m' } := by simpa [upd] using hb'.symm
     subst this
     have hes := hbk.mpe m hm
     refine ⟨hbk.pos, hbk.len, hbk.virt, fun B' hB' _ => ?_, fun B' hB' hnm => absurd rfl (hnm m'), fun B' hB' i j e d hi hj => ?_, fun B' hB' hmm => (by cases hmm), fun B' hB' hmm => (by cases hmm), fun B' hB' hmm => (by cases hmm), fun _ _ => hes, fun B' hB' m2 hmm => ?_⟩
     · rw [hB] at hB'; cases hB'
       exact ⟨hown.1, fun o => by unfold World.frozen?; rw [hnew']⟩
     · rw [show ({ b with mode := .mp m' } : Blk).es = b.es from rfl, hes] at hi; cases hi
     · rw [hB] at hB'; cases hB'
       cases hmm
       exact ⟨es', ck', hnew', hi⟩
   · have hb'' : h id' = some b' := by unfold upd at hb'; rw [if_neg e] at hb'; exact hb'
     have hbk' := hr.blk id' b' hb''
     have hneB : ∀ B', s id' = some B' → b'.mode ≠ .old → B' ≠ B := fun B' hB' hmm e' => e (hr.exc id' id b' b B' hb'' hb hmm (by rw [hm]; intro h; cases h) hB' (e' ▸ hB))
     refine ⟨hbk'.pos, hbk'.len, hbk'.virt, fun B' hB' hmm => ?_, fun B' hB' hnm => ?_, fun B' hB' i j e' d hi hj => ?_, hbk'.fwr, hbk'.ffz, hbk'.fold, hbk'.mpe, fun B' hB' m2 hmm => ?_⟩
     · have := hbk'.own B' hB' hmm
       exact ⟨this.1, fun o => (World.frozen?_of_block (w := w) (a := ⟨B', o, none⟩) (hun' B' (hneB B' hB' hmm))).trans (this.2 o)⟩
     · obtain ⟨sz, g1, g2⟩ := hbk'.shape B' hB' hnm
       exact ⟨sz, he.shape _ _ _ g1, g2⟩
     · obtain ⟨u, g1, g2⟩ := hbk'.cells B' hB' i j e' d hi hj
       refine ⟨u, ?_, g2.evol he (fun _ _ h => h)⟩
       by_cases e2 : B' = B
       · subst e2; simp [World.cell?, h0] at g1
       · exact (World.cell?_of_block (w := w) (a := ⟨B', i * b'.k + j, none⟩) (hun' B' e2)).trans g1
     · obtain ⟨es2, ck2, g1, g2⟩ := hbk'.map B' hB' m2 hmm
       exact ⟨es2, ck2, (hun' B' (hneB B' hB' (by rw [hmm]; intro h; cases h))).trans g1, g2⟩
 · have k : ∀ i b1, upd h id (some { b with mode := .mp m' }) i = some b1 → b1.mode ≠ .old → ∃ b2, h i = some b2 ∧ b2.mode ≠ .old := fun i b1 g hm1 => by
     by_cases e : i = id
     · subst e; exact ⟨b, hb, by rw [hm]; intro h; cases h⟩
     · exact ⟨b1, by unfold upd at g; rw [if_neg e] at g; exact g, hm1⟩
   obtain ⟨c1, k1, n1⟩ := k id1 b1 g1 m1
   obtain ⟨c2, k2, n2⟩ := k id2 b2 g2 m2
   exact hr.exc id1 id2 c1 c2 B' k1 k2 n1 n2 e1 e2
def isI64 (P : Program) (t : TypeId) : Bool := match tinfo P t with
 | some i => match i.desc, i.zero with
   | .int .i64, .int .i64 0 => true
   | _, _ => false
 | none => false
theorem isI64_spec {t : TypeId} (h : isI64 P t = true) : ∃ i, tinfo P t = some i ∧ i.desc = .int .i64 ∧ i.zero = .int .i64 0 := by
 unfold isI64 at h
 split at h
 · rename_i i hi
   split at h
   · exact ⟨i, hi, by assumption, by assumption⟩
   · cases h
 · cases h
def isMapII (P : Program) (t : TypeId) : Bool := match tinfo P t with
 | some i => match i.desc with
   | .map k e => isI64 P k && isI64 P e
   | _ => false
 | none => false
theorem isMapII_spec {t : TypeId} (h : isMapII P t = true) : ∃ i k e ik ie, tinfo P t = some i ∧ i.desc = .map k e ∧ tinfo P k = some ik ∧ ik.desc = .int .i64 ∧ tinfo P e = some ie ∧ ie.zero = .int .i64 0 := by
 unfold isMapII at h
 split at h
 · rename_i i hi
   split at h
   · rename_i k e hd
     rw [Bool.and_eq_true] at h
     obtain ⟨ik, g1, g2, _⟩ := isI64_spec h.1
     obtain ⟨ie, g3, _, g5⟩ := isI64_spec h.2
     exact ⟨i, k, e, ik, ie, hi, hd, g1, g2, g3, g5⟩
   · cases h
 · cases h
def actMakeMap (P : Program) (t : TypeId) (r : Option V) (nx : Nat) : Option Eff :=
 match r with
 | none => if isMapII P t = true then some ⟨True, .mp nx, [(nx, some ⟨1, [], t, .mp []⟩)]⟩ else none
 | some _ => none
def actLookup (P : Program) (t : TypeId) (x i : V) (cok : Bool) (h : Hp) : Option Eff :=
 match x, i with
 | .mp id, .lit (.int .i64 n) => match h id with
   | some b => match b.mode with
     | .mp m => if isMapII P t = true then some (.val (if cok = true then .tup [.lit (.int .i64 ((mget m n).getD 0)), .lit (.bool (mget m n).isSome)] else .lit (.int .i64 ((mget m n).getD 0)))) else none
     | _ => none
   | none => none
 | _, _ => none
def actLenM (P : Program) (t : TypeId) (x : V) (h : Hp) : Option Eff :=
 match x with
 | .mp id => match h id with
   | some b => match b.mode with
     | .mp m => if isMapII P t = true then some (.val (.lit (.int .i64 m.length))) else none
     | _ => none
   | none => none
 | _ => none
def actMapUpdate (P : Program) (t : TypeId) (x i v : V) (h : Hp) : Option Eff :=
 match x, i, v with
 | .mp id, .lit (.int .i64 n), .lit (.int .i64 y) => match h id with
   | some b => match b.mode with
     | .mp m => if isMapII P t = true then some ⟨True, .undef, [(id, some ⟨b.k, b.es, b.ty, .mp (mset m n y)⟩)]⟩ else none
     | _ => none
   | none => none
 | _, _, _ => none
theorem actMakeMap_sound (hr : RH w own ok s h) (hs : s nx = none) {t : TypeId} {r : Option V} {e : Eff} (he : actMakeMap P t r nx = some e) : r = none ∧ Does P w own ok s h nx (do pure (.value (← Instr.makeMap t none)) : Sem Next) e.v e.wr := by
 unfold actMakeMap at he
 split at he
 · split at he
   · cases he
     refine ⟨rfl, .value (.map (some w.heap.size)), _, _, _, _, ?_, .inl ⟨_, rfl, ?_⟩, hr.allocMap nx hs t, Evol.alloc hr nx hs _, fun id hid => upd_ne _ _ _ _ (fun e => hid (by omega))⟩
     · simp [Instr.makeMap, Result.andThen]
     · exact .mp nx _ (upd_self _ _ _)
   · cases he
 · cases he
theorem actLookup_sound (hr : RH w own ok s h) {t : TypeId} {x i : V} {v u : Value} {cok : Bool} {e : Eff} (hv : Rep w ok s v x) (hu : Rep w ok s u i) (he : actLookup P t x i cok h = some e) :
   ∃ r, (Instr.lookup t v u cok).run P w = .ok r w ∧ Rep w ok s r e.v ∧ e.wr = [] := by
 unfold actLookup at he
 split at he
 case h_2 => cases he
 rename_i id n
 split at he
 case h_2 => cases he
 rename_i b hb
 split at he
 case h_2 => cases he
 rename_i m hm
 split at he
 case isFalse => cases he
 rename_i hii
 cases he
 obtain ⟨ti, kt, et, ik, ie, g1, g2, g3, g4, g5, g6⟩ := isMapII_spec hii
 cases hu
 cases hv with
 | mp _ B hB =>
   obtain ⟨es, ck, h0, hmi⟩ := (hr.blk id b hb).map B hB m hm
   have hk : MapKept.IsKey (.int .i64) (.int .i64 n) := rfl
   have hku : P.underlying kt = some (.int .i64) := by obtain ⟨_, _, _, _, _, q⟩ := tinfo_parts g3; rw [q, g4]
   rcases find_spec n es.toList m 0 hmi with ⟨q1, q2, _⟩ | ⟨j, y, e', q1, q2, _⟩
   · have hrun : (Instr.lookup t (.map (some B)) (.int .i64 n) cok).run P w = .ok (if cok then .tuple #[.int .i64 0, .bool false] else .int .i64 0) w := by
       simp only [Instr.lookup, Sem.run_bind, run_underlying' g1, Result.andThen_ok, g2, MapKept.run_getObj_map h0, Sem.run_pure, MapKept.run_checkKey (n := 9999) hku hk, MapKept.run_findKey hku q2, run_zeroValue' g5, g6]
     refine ⟨_, hrun, ?_, rfl⟩
     simp only [Eff.val, q1, Option.getD_none, Option.isSome_none]
     cases cok
     · exact .lit _ rfl
     · refine .tup _ _ rfl fun i d v hd hv => ?_
       match i with
       | 0 => cases hd; cases hv; exact .lit _ rfl
       | 1 => cases hd; cases hv; exact .lit _ rfl
       | i + 2 => cases hd
   · have hrun : (Instr.lookup t (.map (some B)) (.int .i64 n) cok).run P w = .ok (if cok then .tuple #[.int .i64 y, .bool true] else .int .i64 y) w := by
       simp only [Instr.lookup, Sem.run_bind, run_underlying' g1, Result.andThen_ok, g2, MapKept.run_getObj_map h0, Sem.run_pure, MapKept.run_checkKey (n := 9999) hku hk, MapKept.run_findKey hku q2]
     refine ⟨_, hrun, ?_, rfl⟩
     simp only [Eff.val, q1, Option.getD_some, Option.isSome_some]
     cases cok
     · exact .lit _ rfl
     · refine .tup _ _ rfl fun i d v hd hv => ?_
       match i with
       | 0 => cases hd; cases hv; exact .lit _ rfl
       | 1 => cases hd; cases hv; exact .lit _ rfl
       | i + 2 => cases hd
theorem actLenM_sound (hr : RH w own ok s h) {t ty : TypeId} {x : V} {v : Value} {e : Eff} (hv : Rep w ok s v x) (he : actLenM P t x h = some e) :
   ∃ r, (Builtin.len_ #[t] ty #[v]).run P w = .ok r w ∧ Rep w ok s r e.v ∧ e.wr = [] := by
 unfold actLenM at he
 split at he
 case h_2 => cases he
 rename_i id
 split at he
 case h_2 => cases he
 rename_i b hb
 split at he
 case h_2 => cases he
 rename_i m hm
 split at he
 case isFalse => cases he
 rename_i hii
 cases he
 obtain ⟨ti, kt, et, ik, ie, g1, g2, g3, g4, g5, g6⟩ := isMapII_spec hii
 cases hv with
 | mp _ B hB =>
   obtain ⟨es, ck, h0, hmi⟩ := (hr.blk id b hb).map B hB m hm
   have hsz : es.size = m.length := by
     have := congrArg List.length hmi
     simpa using this
   refine ⟨.int .i64 es.size, ?_, by rw [hsz]; exact .lit _ rfl, rfl⟩
   simp only [Builtin.len_, Sem.run_bind, run_underlying' g1, Result.andThen_ok, g2, MapKept.run_getObj_map h0, Sem.run_pure]
   simp [goInt, run_underlying' g1, g2, MapKept.run_getObj_map h0, Result.andThen]
def actCap (P : Program) (t : TypeId) (x : V) : Option Eff :=
 match x with
 | .lit (.slice none 0 0) => match tinfo P t with
   | some ti => match ti.desc with
     | .slice _ => some (.val (.lit (.int .i64 0)))
     | _ => none
   | none => none
 | _ => none
theorem actCap_sound {t ty : TypeId} {x : V} {v : Value} {e : Eff} (hv : Rep w ok s v x) (he : actCap P t x = some e) :
   ∃ r, (Builtin.cap_ #[t] ty #[v]).run P w = .ok r w ∧ Rep w ok s r e.v ∧ e.wr = [] := by
 unfold actCap at he
 split at he
 · split at he
   · rename_i ti hti
     split at he
     · rename_i el hd
       cases he
       cases hv
       exact ⟨.int .i64 0, by simp [Builtin.cap_, run_underlying' hti, hd, goInt], .lit _ rfl, rfl⟩
     · cases he
   · cases he
 · cases he
def actLen2 (P : Program) (t : TypeId) (x : V) (h : Hp) : Option Eff :=
 match x with
 | .mp id => actLenM P t (.mp id) h
 | x => actLen P t x h
theorem actLen2_sound (hr : RH w own ok s h) {t ty : TypeId} {x : V} {v : Value} {e : Eff} (hv : Rep w ok s v x) (he : actLen2 P t x h = some e) :
   ∃ r, (Builtin.len_ #[t] ty #[v]).run P w = .ok r w ∧ Rep w ok s r e.v ∧ e.wr = [] := by
 unfold actLen2 at he
 split at he
 · exact actLenM_sound hr hv he
 · exact actLen_sound hv he
section
variable {h h' : Hp} (hs : ∀ i b, h i = some b → h' i = some b)
include hs
theorem actLookup_mono {t : TypeId} {x i : V} {c : Bool} {e : Eff} (he : actLookup P t x i c h = some e) : actLookup P t x i c h' = some e := by
 unfold actLookup at *
 split at he
 · split at he
   · rename_i b hb; simp only [hs _ _ hb]; exact he
   · cases he
 · cases he
theorem actMapUpdate_mono {t : TypeId} {x i v : V} {e : Eff} (he : actMapUpdate P t x i v h = some e) : actMapUpdate P t x i v h' = some e := by
 unfold actMapUpdate at *
 split at he
 · split at he
   · rename_i b hb; simp only [hs _ _ hb]; exact he
   · cases he
 · cases he
theorem actLen2_mono {t : TypeId} {x : V} {e : Eff} (he : actLen2 P t x h = some e) : actLen2 P t x h' = some e := by
 unfold actLen2 at *
 split at he
 · unfold actLenM at *
   simp only at he ⊢
   split at he
   · rename_i b hb; simp only [hs _ _ hb]; exact he
   · cases he
 · exact he
end
theorem actMapUpdate_sound (hr : RH w own ok s h) {t : TypeId} {x i y : V} {v u z : Value} {e : Eff} (hv : Rep w ok s v x) (hu : Rep w ok s u i) (hz : Rep w ok s z y) (he : actMapUpdate P t x i y h = some e) :
   ∃ w', (Instr.mapUpdate t v u z).run P w = .ok () w' ∧ RH w' own ok s (applyWr h e.wr) ∧ Evol own ok w own ok w' ∧ e.v = .undef := by
 unfold actMapUpdate at he
 split at he
 case h_2 => cases he
 rename_i id n yv
 split at he
 case h_2 => cases he
 rename_i b hb
 split at he
 case h_2 => cases he
 rename_i m hm
 split at he
 case isFalse => cases he
 rename_i hii
 cases he
 obtain ⟨ti, kt, et, ik, ie, g1, g2, g3, g4, g5, g6⟩ := isMapII_spec hii
 cases hu
 cases hz
 cases hv with
 | mp _ B hB =>
   obtain ⟨es, ck, h0, hmi⟩ := (hr.blk id b hb).map B hB m hm
   have hk : MapKept.IsKey (.int .i64) (.int .i64 n) := rfl
   have hku : P.underlying kt = some (.int .i64) := by obtain ⟨_, _, _, _, _, q⟩ := tinfo_parts g3; rw [q, g4]
   rcases find_spec n es.toList m 0 hmi with ⟨q1, q2, q3⟩ | ⟨j, y', e', q1, q2, q3, q4, q5⟩
   · have hrun : (Instr.mapUpdate t (.map (some B)) (.int .i64 n) (.int .i64 yv)).run P w = .ok () { w with heap := w.heap.setIfInBounds B (.map (es.push { key := .int .i64 n, val := .int .i64 yv, born := ck }) (ck + 1)) } := by
       simp only [Instr.mapUpdate, Sem.run_bind, run_underlying' g1, Result.andThen_ok, g2, MapKept.run_getObj_map h0, MapKept.run_checkKey (n := 9999) hku hk, MapKept.run_findKey hku q2, MapKept.run_setObj_map _ h0]
     have hmi' : MapIs (es.push { key := .int .i64 n, val := .int .i64 yv, born := ck }) (mset m n yv) := by
       unfold MapIs at *
       rw [q3, Array.toList_push, List.map_append, List.map_append, hmi]; rfl
     obtain ⟨r1, r2⟩ := hr.setMap hb hm hB h0 (ck' := ck + 1) hmi'
     exact ⟨_, hrun, r1, r2, rfl⟩
   · have hj : es[j]? = some e' := by simpa using q3
     have hrun : (Instr.mapUpdate t (.map (some B)) (.int .i64 n) (.int .i64 yv)).run P w = .ok () { w with heap := w.heap.setIfInBounds B (.map (es.modify j fun e => { e with key := .int .i64 n, val := .int .i64 yv }) ck) } := by
       simp only [Instr.mapUpdate, Sem.run_bind, run_underlying' g1, Result.andThen_ok, g2, MapKept.run_getObj_map h0, MapKept.run_checkKey (n := 9999) hku hk, MapKept.run_findKey hku q2, Nat.zero_add, hj, Option.map_some, Option.getD_some, q4, MapKept.run_keyThatStays hk, MapKept.run_setObj_map _ h0]
     have hmi' : MapIs (es.modify j fun e => { e with key := .int .i64 n, val := .int .i64 yv }) (mset m n yv) := by
       unfold MapIs at *
       rw [Array.toList_modify]; exact q5 yv
     obtain ⟨r1, r2⟩ := hr.setMap hb hm hB h0 (ck' := ck) hmi'
     exact ⟨_, hrun, r1, r2, rfl⟩
end
end Go.Aw
end
section
namespace Go.Aw
open Go.RowKit
section
variable {P : Program} {w : World} {own : Nat → Prop} {ok : Nat → Nat → Prop} {s : Nat → Option Nat} {h : Hp} {nx : Nat}
def optInt : Option V → Option (Option Int)
 | none => some none
 | some (.lit (.int _ n)) => some (some n)
 | some _ => none
def sliceEx (ex : Bool) (hi mx : Option Int) : Bool :=
 match mx with
 | some m => decide (hi = some m)
 | none => match hi with
   | none => ex
   | some _ => false
def sliceC (len : Nat) (lo hi mx : Option Int) : Prop :=
 0 ≤ lo.getD 0 ∧ lo.getD 0 ≤ hi.getD len ∧ hi.getD len ≤ len ∧ (∀ m, mx = some m → hi.isSome = true ∧ hi.getD len ≤ m ∧ m ≤ len)
def actSlice (P : Program) (t : TypeId) (x : V) (lo hi mx : Option V) : Option Eff :=
 match tinfo P t, optInt lo, optInt hi, optInt mx with
 | some ti, some lo, some hi, some mx => match ti.desc, x with
   | .string, .lit (.string b) => if mx.isSome then none else some ⟨sliceC b.size lo hi none, .lit (.string (b.extract (lo.getD 0).toNat (hi.getD b.size).toNat)), []⟩
   | .slice e, .sl k es ex => match tinfo P e with
     | some i => if i.size = k then some ⟨sliceC es.length lo hi mx, .sl k ((es.drop (lo.getD 0).toNat).take ((hi.getD es.length).toNat - (lo.getD 0).toNat)) (sliceEx ex hi mx), []⟩ else none
     | none => none
   | .slice e, .os id k n ex => match tinfo P e with
     | some i => if i.size = k then some ⟨sliceC n lo hi mx ∧ lo.getD 0 = 0, .os id k (hi.getD n).toNat (sliceEx ex hi mx), []⟩ else none
     | none => none
   | .slice e, .lit (.slice none 0 0) => match tinfo P e with
     | some _ => some ⟨sliceC 0 lo hi mx, .lit (.slice none 0 0), []⟩
     | none => none
   | _, _ => none
 | _, _, _, _ => none
theorem run_sliceBound {x : Int} {k : IntKind} {y : Nat} {c : BoundsCode} (h0 : 0 ≤ x) (h1 : x ≤ y) : (Instr.sliceBound (.int k x) y c).run P w = .ok x.toNat w := by
 simp only [Instr.sliceBound, asIntOf, Sem.run_bind, Sem.run_pure, Result.andThen_ok]
 rw [if_pos ⟨h0, h1⟩]; rfl
theorem optInt_rep {x : Option V} {n : Option Int} {v : Option Value} (hx : optInt x = some n) (hl : v.isSome = x.isSome) (hr : ∀ d u, x = some d → v = some u → Rep w ok s u d) : (n = none ∧ v = none) ∨ ∃ k m, n = some m ∧ v = some (.int k m) := by
 unfold optInt at hx
 split at hx
 · cases hx
   left
   cases v with
   | none => exact ⟨rfl, rfl⟩
   | some _ => cases hl
 · rename_i k m
   cases hx
   right
   cases v with
   | none => cases hl
   | some u =>
     have := hr _ _ rfl rfl
     cases this
     exact ⟨_, _, rfl, rfl⟩
 · cases hx
theorem sliceBounds_sound {isSlice : Bool} {len cap : Nat} {lo hi mx : Option Int} {a b c : Option Value} (ha : (lo = none ∧ a = none) ∨ ∃ k m, lo = some m ∧ a = some (.int k m)) (hb : (hi = none ∧ b = none) ∨ ∃ k m, hi = some m ∧ b = some (.int k m))
   (hc : (mx = none ∧ c = none) ∨ ∃ k m, mx = some m ∧ c = some (.int k m)) (hle : len ≤ cap) (hC : sliceC len lo hi mx) :
   (Instr.sliceBounds isSlice len cap a b c).run P w = .ok ((lo.getD 0).toNat, (hi.getD len).toNat, (mx.map Int.toNat).getD cap) w := by
 obtain ⟨h1, h2, h3, h4⟩ := hC
 rcases hc with ⟨rfl, rfl⟩ | ⟨kc, m, rfl, rfl⟩
 · rcases hb with ⟨rfl, rfl⟩ | ⟨kb, hh, rfl, rfl⟩
   · simp only [Option.getD_none] at *
     rcases ha with ⟨rfl, rfl⟩ | ⟨ka, l, rfl, rfl⟩
     · simp [Instr.sliceBounds]
     · simp only [Option.getD_some] at *
       simp only [Instr.sliceBounds, Sem.run_bind, Sem.run_pure, Result.andThen_ok, run_sliceBound h1 h2]
       simp
   · simp only [Option.getD_some, Option.getD_none] at *
     have e1 : (Instr.sliceBound (.int kb hh) cap (if isSlice then .sliceAcap else .sliceAlen)).run P w = .ok hh.toNat w := run_sliceBound (by omega) (by omega)
     rcases ha with ⟨rfl, rfl⟩ | ⟨ka, l, rfl, rfl⟩
     · simp only [Instr.sliceBounds, Sem.run_bind, Sem.run_pure, Result.andThen_ok, e1]; simp
     · simp only [Option.getD_some] at *
       have e2 : (Instr.sliceBound (.int ka l) hh.toNat .sliceB).run P w = .ok l.toNat w := run_sliceBound h1 (by omega)
       simp only [Instr.sliceBounds, Sem.run_bind, Sem.run_pure, Result.andThen_ok, e1, Option.isSome_none, Bool.false_eq_true, if_false, e2]; simp
 · obtain ⟨g1, g2, g3⟩ := h4 m rfl
   rcases hb with ⟨rfl, rfl⟩ | ⟨kb, hh, rfl, rfl⟩
   · cases g1
   · simp only [Option.getD_some, Option.getD_none] at *
     have e0 : (Instr.sliceBound (.int kc m) cap (if isSlice then .slice3Acap else .slice3Alen)).run P w = .ok m.toNat w := run_sliceBound (by omega) (by omega)
     have e1 : (Instr.sliceBound (.int kb hh) m.toNat .slice3B).run P w = .ok hh.toNat w := run_sliceBound (by omega) (by omega)
     rcases ha with ⟨rfl, rfl⟩ | ⟨ka, l, rfl, rfl⟩
     · simp only [Instr.sliceBounds, Sem.run_bind, Sem.run_pure, Result.andThen_ok, e0, e1]; simp
     · simp only [Option.getD_some] at *
       have e2 : (Instr.sliceBound (.int ka l) hh.toNat .slice3C).run P w = .ok l.toNat w := run_sliceBound h1 (by omega)
       simp only [Instr.sliceBounds, Sem.run_bind, Sem.run_pure, Result.andThen_ok, e0, e1, Option.isSome_some, if_true, e2]; simp
theorem actSlice_sound {t : TypeId} {x : V} {v : Value} {lo hi mx : Option V} {a b c : Option Value} {e : Eff} (hv : Rep w ok s v x) (he : actSlice P t x lo hi mx = some e) (hc : e.c)
   (ha : a.isSome = lo.isSome ∧ ∀ d u, lo = some d → a = some u → Rep w ok s u d) (hb : b.isSome = hi.isSome ∧ ∀ d u, hi = some d → b = some u → Rep w ok s u d) (hcc : c.isSome = mx.isSome ∧ ∀ d u, mx = some d → c = some u → Rep w ok s u d) :
   ∃ r, (Instr.sliceAt t v a b c).run P w = .ok r w ∧ Rep w ok s r e.v ∧ e.wr = [] := by
 unfold actSlice at he
 split at he
 case h_2 => cases he
 rename_i ti lo' hi' mx' hti hlo hhi hmx
 have A := optInt_rep hlo ha.1 ha.2
 have Bx := optInt_rep hhi hb.1 hb.2
 have Cx := optInt_rep hmx hcc.1 hcc.2
 split at he
 · -- a string
   rename_i bs hd
   split at he
   · cases he
   · rename_i hm
     cases he
     cases hv
     have hm' : mx' = none := by cases mx' <;> simp_all
     subst hm'
     have hcn : c = none := by rcases Cx with ⟨_, h⟩ | ⟨_, _, h, _⟩; exact h; cases h
     subst hcn
     have := sliceBounds_sound (P := P) (w := w) (isSlice := false) (cap := bs.size) A Bx (.inl ⟨rfl, rfl⟩) (Nat.le_refl _) hc
     refine ⟨_, ?_, .lit _ rfl, rfl⟩
     simp only [Instr.sliceAt, Instr.slice, Sem.run_bind, run_underlying' hti, Result.andThen_ok, hd, Option.isSome_none, Bool.false_eq_true, if_false, this, Sem.run_pure]
 · rename_i el k es ex hd
   split at he
   case h_2 => cases he
   rename_i i hi2
   split at he
   case isFalse => cases he
   rename_i hk
   cases he
   cases hv with
   | sl ad n cap _ _ _ us hn hcap hex hm hkk hcs =>
     subst hn
     have := sliceBounds_sound (P := P) (w := w) (isSlice := true) (cap := cap) A Bx Cx hcap hc
     obtain ⟨c1, c2, c3, c4⟩ := hc
     generalize hl0 : (lo'.getD 0).toNat = l0 at *
     generalize hh0 : (hi'.getD (es.length : Int)).toNat = h0 at *
     generalize hm0 : (mx'.map Int.toNat).getD cap = m0 at *
     have k1 : l0 ≤ h0 := by omega
     have k2 : h0 ≤ es.length := by omega
     have k3 : h0 ≤ m0 := by
       rw [← hm0]
       cases mx' with
       | none => simp; omega
       | some m => have := (c4 m rfl).2.1; simp; omega
     refine ⟨.slice (if m0 = l0 then ad else ad.map (·.add (l0 * k))) (h0 - l0) (m0 - l0), ?_, ?_, rfl⟩
     · simp only [Instr.sliceAt, Instr.slice, Sem.run_bind, run_underlying' hti, Result.andThen_ok, hd, this, run_sizeOf' hi2, hk, Sem.run_pure]
     · refine .sl _ _ _ k _ _ (fun i j => us (l0 + i) j) (by simp; omega) (by omega) (fun he => ?_) (fun i j hi hj => ?_) (fun e he => hkk e (List.mem_of_mem_drop (List.mem_of_mem_take he))) (fun i j e d hie hj => ?_)
       · unfold sliceEx at he
         split at he
         · rename_i m
           simp only [decide_eq_true_eq] at he
           subst he
           simp only [Option.getD_some, Option.map_some] at hh0 hm0
           omega
         · split at he
           · simp only [Option.map_none, Option.getD_none, Int.toNat_natCast] at hm0 hh0
             have := hex he
             omega
           · cases he
       · obtain ⟨b, o, rfl, g1, g2⟩ := hm (l0 + i) j (by omega) hj
         refine ⟨b, o + l0 * k, ?_, ?_, ?_⟩
         · rw [if_neg (by omega)]
           simp only [Option.map_some, add_off]
         · rw [Nat.add_mul] at g1; rw [show o + l0 * k + i * k + j = o + (l0 * k + i * k) + j from by omega]; exact g1
         · rw [Nat.add_mul] at g2; rw [show o + l0 * k + i * k + j = o + (l0 * k + i * k) + j from by omega]; exact g2
       · rw [List.getElem?_take] at hie
         split at hie
         · rw [List.getElem?_drop] at hie
           exact hcs (l0 + i) j e d hie hj
         · cases hie
 · rename_i el id k n ex hd
   split at he
   case h_2 => cases he
   rename_i i hi2
   split at he
   case isFalse => cases he
   rename_i hk
   cases he
   obtain ⟨hC, hz⟩ := hc
   have hl0 : (lo'.getD 0).toNat = 0 := by omega
   have hsmall : ∀ cap, n ≤ cap → (hi'.getD (n : Int)).toNat ≤ (mx'.map Int.toNat).getD cap ∧ (mx'.map Int.toNat).getD cap ≤ cap := fun cap hcap => by
     obtain ⟨c1, c2, c3, c4⟩ := hC
     cases mx' with
     | none => simp; omega
     | some m => have := c4 m rfl; simp; omega
   have hexx : ∀ cap, (ex = true → cap = n) → sliceEx ex hi' mx' = true → (mx'.map Int.toNat).getD cap = (hi'.getD (n : Int)).toNat := fun cap hex he => by
     unfold sliceEx at he
     split at he
     · rename_i m
       simp only [decide_eq_true_eq] at he
       subst he
       simp
     · split at he
       · simp only [Option.map_none, Option.getD_none, Int.toNat_natCast]; exact hex he
       · cases he
   cases hv with
   | os0 _ _ _ ad =>
     have := sliceBounds_sound (P := P) (w := w) (isSlice := true) (cap := 0) A Bx Cx (Nat.le_refl _) hC
     have hs := hsmall 0 (Nat.le_refl _)
     have e1 : (hi'.getD ((0 : Nat) : Int)).toNat = 0 := by omega
     refine ⟨.slice ad 0 0, ?_, ?_, rfl⟩
     · have e2 : (mx'.map Int.toNat).getD 0 = 0 := by omega
       simp only [Instr.sliceAt, Instr.slice, Sem.run_bind, run_underlying' hti, Result.andThen_ok, hd, this, run_sizeOf' hi2, hl0, e1, e2, if_true, Sem.run_pure]
     · show Rep w ok s (.slice ad 0 0) (.os id k (hi'.getD ((0 : Nat) : Int)).toNat _)
       rw [e1]; exact .os0 id k _ ad
   | os _ _ _ _ B cap ty sz hB hn hex hsh hcap =>
     have := sliceBounds_sound (P := P) (w := w) (isSlice := true) (cap := cap) A Bx Cx hn hC
     have hs := hsmall cap hn
     refine ⟨.slice (some ⟨B, 0, none⟩) (hi'.getD (n : Int)).toNat ((mx'.map Int.toNat).getD cap), ?_, ?_, rfl⟩
     · simp only [Instr.sliceAt, Instr.slice, Sem.run_bind, run_underlying' hti, Result.andThen_ok, hd, this, run_sizeOf' hi2, hl0, Nat.zero_mul, Nat.sub_zero, Sem.run_pure]
       congr 2
       split
       · rfl
       · simp [add_off]
     · exact .os id k _ _ B _ ty sz hB hs.1 (fun he => hexx cap hex he) hsh (Nat.le_trans (Nat.mul_le_mul_right _ hs.2) hcap)
 · rename_i el hd
   split at he
   case h_2 => cases he
   rename_i i hi2
   cases he
   cases hv
   have := sliceBounds_sound (P := P) (w := w) (isSlice := true) (cap := 0) A Bx Cx (Nat.le_refl 0) hc
   obtain ⟨c1, c2, c3, c4⟩ := hc
   have e0 : (lo'.getD 0).toNat = 0 := by omega
   have e1 : (hi'.getD ((0 : Nat) : Int)).toNat = 0 := by omega
   have e2 : (mx'.map Int.toNat).getD 0 = 0 := by
     cases mx' with
     | none => rfl
     | some m => have := c4 m rfl; simp at *; omega
   refine ⟨.slice none 0 0, ?_, .lit _ rfl, rfl⟩
   simp only [Instr.sliceAt, Instr.slice, Sem.run_bind, run_underlying' hti, Result.andThen_ok, hd, this, run_sizeOf' hi2, e0, e1, e2, if_true, Sem.run_pure]
 · cases he
def chunks (j : Nat) : Nat → List V → List (List V)
 | 0, _ => []
 | m + 1, l => l.take j :: chunks j m (l.drop j)
theorem chunks_len (j : Nat) : ∀ (m : Nat) (l : List V), (chunks j m l).length = m
 | 0, _ => rfl
 | m + 1, l => by rw [chunks, List.length_cons, chunks_len j m]
theorem chunks_get (j : Nat) : ∀ (m : Nat) (l : List V) (i : Nat) (e : List V), (chunks j m l)[i]? = some e → e = (l.drop (i * j)).take j
 | 0, _, i, e, h => by cases h
 | m + 1, l, 0, e, h => by simp only [chunks, List.getElem?_cons_zero, Option.some.injEq] at h; rw [← h]; simp
 | m + 1, l, i + 1, e, h => by
   simp only [chunks, List.getElem?_cons_succ] at h
   rw [chunks_get j m _ i e h, List.drop_drop, Nat.add_mul, Nat.one_mul, Nat.add_comm]
def actSliceArr (P : Program) (t : TypeId) (x : V) (lo hi mx : Option V) (h : Hp) : Option Eff :=
 match tinfo P t, x, lo, hi, mx with
 | some ti, .ref id k n off, none, none, none => match ti.desc with
   | .array len e => match tinfo P e, h id with
     | some i, some b => if b.k = k ∧ n = 0 ∧ off = 0 ∧ b.mode = .wr ∧ b.es.length = 1 ∧ k = len * i.size ∧ 0 < i.size then
         some ⟨True, .sl i.size (chunks i.size len (b.es.getD 0 [])) true, [(id, some { b with mode := .fz })]⟩ else none
     | _, _ => none
   | _ => none
 | _, _, _, _, _ => none
theorem actSliceArr_ref {P : Program} {t : TypeId} {x : V} {lo hi mx : Option V} {h : Hp} {e : Eff} (he : actSliceArr P t x lo hi mx h = some e) : ∃ ti id k n off len el, tinfo P t = some ti ∧ x = .ref id k n off ∧ lo = none ∧ hi = none ∧ mx = none ∧ ti.desc = .array len el := by
 unfold actSliceArr at he
 split at he
 · rename_i ti id k n off h1
   split at he
   · rename_i len el hd
     exact ⟨ti, id, k, n, off, len, el, h1, rfl, rfl, rfl, rfl, hd⟩
   · cases he
 · cases he
theorem actSliceArr_mono {P : Program} {t : TypeId} {x : V} {lo hi mx : Option V} {h h' : Hp} {e : Eff} (hs : ∀ i b, h i = some b → h' i = some b) (he : actSliceArr P t x lo hi mx h = some e) : actSliceArr P t x lo hi mx h' = some e := by
 obtain ⟨ti, id, k, n, off, len, el, h1, rfl, rfl, rfl, rfl, hd⟩ := actSliceArr_ref he
 simp only [actSliceArr, h1, hd] at he ⊢
 cases h6 : tinfo P el with
 | none => simp only [h6] at he; cases he
 | some i =>
   cases h7 : h id with
   | none => simp only [h6, h7] at he; cases he
   | some b =>
     simp only [h6, h7, hs _ _ h7] at he ⊢
     exact he
theorem actSlice_ref {P : Program} {t : TypeId} {id k n off : Nat} {lo hi mx : Option V} : actSlice P t (.ref id k n off) lo hi mx = none := by
 unfold actSlice
 split
 · split <;> first | rfl | simp_all
 · rfl
theorem actSliceArr_sound (hr : RH w own ok s h) {t : TypeId} {x : V} {v : Value} {lo hi mx : Option V} {a b c : Option Value} {e : Eff} (hv : Rep w ok s v x) (he : actSliceArr P t x lo hi mx h = some e)
   (ha : a.isSome = lo.isSome) (hb : b.isSome = hi.isSome) (hcc : c.isSome = mx.isSome) : ∃ r ok', (Instr.sliceAt t v a b c).run P w = .ok r w ∧ RH w own ok' s (applyWr h e.wr) ∧ Evol own ok w own ok' w ∧ Rep w ok' s r e.v := by
 unfold actSliceArr at he
 split at he
 case h_2 => cases he
 rename_i ti id k n off hti
 split at he
 case h_2 => cases he
 rename_i len el hd
 split at he
 case h_2 => cases he
 rename_i i bk hi2 hbk
 split at he
 case isFalse => cases he
 rename_i hcond
 obtain ⟨c1, rfl, rfl, c4, c5, c6, c7⟩ := hcond
 cases he
 obtain rfl : a = none := by cases a <;> simp_all
 obtain rfl : b = none := by cases b <;> simp_all
 obtain rfl : c = none := by cases c <;> simp_all
 cases hv with
 | ref _ _ _ _ B hB =>
   obtain ⟨ok', g1, g2⟩ := hr.freeze hbk c4
   have hb1 := g1.blk id { bk with mode := .fz } (by simp [upd])
   refine ⟨.slice (some ⟨B, 0, none⟩) len len, ok', ?_, g1, g2, ?_⟩
   · simp only [Instr.sliceAt, Sem.run_bind, run_underlying' hti, Result.andThen_ok, hd, Instr.sureAddr, Sem.run_pure, Instr.sliceBounds, run_sizeOf' hi2]
     simp
     intro _; rfl
   · have hlen : (bk.es.getD 0 []).length = bk.k := by
       have h0 : 0 < bk.es.length := by omega
       rw [List.getD_eq_getElem?_getD, List.getElem?_eq_getElem h0]
       exact (hr.blk id bk hbk).len _ (List.getElem_mem h0)
     have h0 : bk.es[0]? = some (bk.es.getD 0 []) := by
       have h0 : 0 < bk.es.length := by omega
       rw [List.getD_eq_getElem?_getD, List.getElem?_eq_getElem h0]; rfl
     have cell : ∀ m, m < bk.k → ∃ u, w.cell? ⟨B, m, none⟩ = some u ∧ ok' B m ∧ ∀ d, (bk.es.getD 0 [])[m]? = some d → Rep w ok' s u d := fun m hm => by
       obtain ⟨u, hu, hrep⟩ := hb1.cells B hB 0 m _ _ h0 (List.getElem?_eq_getElem (show m < (bk.es.getD 0 []).length by omega))
       rw [Nat.zero_mul, Nat.zero_add] at hu
       refine ⟨u, hu, (hb1.ffz B hB rfl m).2 (by simp only; rw [c5]; omega), fun d hd => ?_⟩
       rw [List.getElem?_eq_getElem (show m < (bk.es.getD 0 []).length by omega)] at hd
       cases hd; exact hrep
     have bound : ∀ i' j', i' < len → j' < i.size → i' * i.size + j' < bk.k := fun i' j' h1 h2 => by
       have : (i' + 1) * i.size ≤ len * i.size := Nat.mul_le_mul_right _ h1
       rw [Nat.add_mul] at this
       omega
     refine .sl (some ⟨B, 0, none⟩) len len i.size _ true (fun i' j' => (w.cell? ⟨B, i' * i.size + j', none⟩).getD undef) (chunks_len _ _ _).symm (Nat.le_refl _) (fun _ => rfl) (fun i' j' h1 h2 => ?_) (fun e he => ?_) (fun i' j' e d he hd => ?_)
     · obtain ⟨u, hu, hok, _⟩ := cell _ (bound i' j' h1 h2)
       refine ⟨B, 0, rfl, by rw [Nat.zero_add]; exact hok, ?_⟩
       rw [Nat.zero_add, hu]; rfl
     · obtain ⟨i', hi', rfl⟩ := List.getElem_of_mem he
       have := chunks_get _ _ _ i' _ (List.getElem?_eq_getElem hi')
       rw [this, List.length_take, List.length_drop, hlen]
       rw [chunks_len] at hi'
       have := bound i' (i.size - 1) hi' (by omega)
       omega
     · have hi' : i' < len := by have := (List.getElem?_eq_some_iff.1 he).1; rw [chunks_len] at this; exact this
       have hj' : j' < i.size := by
         have h1 := (List.getElem?_eq_some_iff.1 hd).1
         rw [chunks_get _ _ _ _ _ he, List.length_take] at h1
         omega
       obtain ⟨u, hu, _, hrep⟩ := cell _ (bound i' j' hi' hj')
       rw [hu]
       refine hrep d ?_
       rw [chunks_get _ _ _ _ _ he, List.getElem?_take, if_pos hj', List.getElem?_drop] at hd
       exact hd
def pickV (t : Bool) (a b : V) : V :=
 match a, b with
 | .lit (.bool x), .lit (.bool y) => .lit (.bool (if t then x else y))
 | .lit (.int k x), .lit (.int k' y) => if k = k' then .lit (.int k (if t then x else y)) else if t then a else b
 | a, b => if t then a else b
theorem pickV_eq (t : Bool) (a b : V) : pickV t a b = if t then a else b := by
 unfold pickV
 split
 · cases t <;> rfl
 · split
   · rename_i h; subst h; cases t <;> rfl
   · rfl
 · rfl
def aggCells : Value → Option (List V)
 | .agg cs => if cs.all isLit then some (cs.toList.map .lit) else none
 | _ => none
def ofVal (v : Value) : V := if isLit v then .lit v else match v with
 | .func f a b => if a.isEmpty && b.isEmpty then .fn f [] [] else .undef
 | .agg cs => if cs.all isLit then .agg (cs.toList.map .lit) else .undef
 | _ => .undef
theorem ofVal_rep (v : Value) : Rep w ok s v (ofVal v) := by
 unfold ofVal
 split
 · rename_i hl; exact .lit v hl
 · split
   · rename_i f a b _
     split
     · rename_i he
       simp only [Bool.and_eq_true, Array.isEmpty_iff] at he
       obtain ⟨rfl, rfl⟩ := he
       exact .fn f #[] #[] [] [] rfl rfl (fun i d v hd => by cases hd) (fun i d v hd => by cases hd)
     · exact .undef _
   · rename_i cs _
     split
     · rename_i he
       refine .agg cs _ (by simp) (fun i d v hd hv => ?_)
       simp only [List.getElem?_map, Option.map_eq_some_iff, Array.getElem?_toList] at hd
       obtain ⟨u, hu, rfl⟩ := hd
       rw [hu] at hv; cases hv
       exact .lit _ (Array.all_eq_true_iff_forall_mem.1 he _ (Array.mem_of_getElem? hu))
     · exact .undef _
   · exact .undef _
def act (P : Program) (ev : Operand → V) (o : Op) (h : Hp) (nx : Nat) : Option Eff :=
 match o with
 | .move x | .assign x => some (.val (ev x))
 | .pick c a b => match ev c with
   | .lit (.bool t) => some (.val (pickV t (ev a) (ev b)))
   | _ => none
 | .alloc t => actAlloc P t nx
 | .box t x => actBox P t (ev x) nx
 | .build t parts => actBuild P t (parts.toList.map fun p => (p.1, ev p.2))
 | .buildSlice t len parts => actBuildSlice P t len (parts.toList.map fun p => (p.1, ev p.2)) nx
 | .load t x => actLoad P t (ev x) h
 | .store t x v => actStore P t (ev x) (ev v) h
 | .nilCheck x => match ev x with
   | .ref id k i off => some (.val (.ref id k i off))
   | .rp cs => some (.val (.rp cs))
   | .fn (.func f) a b => some (.val (.fn (.func f) a b))
   | _ => none
 | .binOp op t x y _ => actBin P op t (ev x) (ev y)
 | .unOp op _ x => actUn op (ev x)
 | .convert a b x => actConvert P a b (ev x)
 | .makeFunc f a b => some (.val (.fn f (a.toList.map ev) (b.toList.map ev)))
 | .makeSlice t n c => actMakeSlice P t (ev n) (ev c) nx
 | .slice t x lo hi mx => match actSliceArr P t (ev x) (lo.map ev) (hi.map ev) (mx.map ev) h with
   | some e => some e
   | none => actSlice P t (ev x) (lo.map ev) (hi.map ev) (mx.map ev)
 | .fieldAddr t x f => actFieldAddr P t (ev x) f
 | .field t x f => actField P t (ev x) f
 | .indexAddr t x i => actIndexAddr P t (ev x) (ev i)
 | .index t x i => actIndex P t (ev x) (ev i)
 | .extract x i => actExtract (ev x) i
 | .makeMap t r => actMakeMap P t (r.map ev) nx
 | .lookup t x i cok => actLookup P t (ev x) (ev i) cok h
 | .mapUpdate t m k v => actMapUpdate P t (ev m) (ev k) (ev v) h
 | .call ⟨.builtin .len, args, tys⟩ => match args.toList, tys.toList with
   | [x], [t] => actLen2 P t (ev x) h
   | _, _ => none
 | .call ⟨.builtin .cap, args, tys⟩ => match args.toList, tys.toList with
   | [x], [t] => actCap P t (ev x)
   | _, _ => none
 | .call ⟨.builtin .append, args, tys⟩ => match args.toList with
   | [x, y] => actAppend P tys.toList (ev x) (ev y) h nx
   | _ => none
 | .call ⟨.builtin .min, args, _⟩ => actMinMax min (args.toList.map ev)
 | .call ⟨.builtin .max, args, _⟩ => actMinMax max (args.toList.map ev)
 | _ => none
theorem act_sound (hr : RH w own ok s h) (hs : s nx = none) (hh : h nx = none) {ρ : Operand → Value} {ev : Operand → V} (hev : ∀ x, Rep w ok s (ρ x) (ev x)) {o : Oper} {e : Eff} (he : act P ev o.op h nx = some e) (hc : e.c) :
   Does P w own ok s h nx (execOp ρ o) e.v e.wr := by
 -- what leaves the world alone
 have quiet : ∀ {x : Sem Value} {v : Value}, execOp ρ o = (do pure (.value (← x)) : Sem Next) → x.run P w = .ok v w → Rep w ok s v e.v → e.wr = [] → Does P w own ok s h nx (execOp ρ o) e.v e.wr := fun {x v} hx h1 h2 h3 => by
   rw [h3]
   exact Does.pure hr (by rw [hx]; exact run_value x v w h1) h2
 unfold act at he
 split at he
 · rename_i x hop
   cases he
   refine Does.pure hr (v := ρ x) ?_ (hev x)
   simp [execOp, hop]
 · rename_i x hop
   cases he
   refine Does.pure hr (v := ρ x) ?_ (hev x)
   simp [execOp, hop]
 · rename_i c a b hop
   split at he
   · rename_i t ht
     cases he
     have hct := hev c
     rw [ht] at hct
     generalize hρc : ρ c = vc at hct
     cases hct
     refine Does.pure hr (v := if t then ρ a else ρ b) ?_ ?_
     · simp only [execOp, hop, hρc, asBool, Sem.run_bind, Sem.run_pure, Result.andThen_ok]
     · show Rep w ok s _ (pickV t (ev a) (ev b))
       rw [pickV_eq]
       cases t
       · exact hev b
       · exact hev a
   · cases he
 · rename_i t hop
   have := actAlloc_sound hr hs he
   simp only [execOp, hop]; exact this
 · rename_i t x hop
   have := actBox_sound hr hs (hev x) he hc
   simp only [execOp, hop]; exact this
 · rename_i t parts hop
   obtain ⟨v, h1, h2, h3⟩ := actBuild_sound (P := P) (w := w) (ok := ok) (s := s) (vs := parts.map fun p => (p.1, ρ p.2)) he hc (by simp) (fun j p q hp hq => by
     simp only [List.getElem?_map, Array.getElem?_toList, Option.map_eq_some_iff] at hp
     simp only [Array.getElem?_map, Option.map_eq_some_iff] at hq
     obtain ⟨a, ha, rfl⟩ := hp
     obtain ⟨b, hb, rfl⟩ := hq
     rw [ha] at hb; cases hb
     exact hev _)
   exact quiet (by simp only [execOp, hop]) h1 h2 h3
 · rename_i t len parts hop
   have := actBuildSlice_sound hr hs (vs := parts.map fun p => (p.1, ρ p.2)) he hc (by simp) (fun j p q hp hq => by
     simp only [List.getElem?_map, Array.getElem?_toList, Option.map_eq_some_iff] at hp
     simp only [Array.getElem?_map, Option.map_eq_some_iff] at hq
     obtain ⟨a, ha, rfl⟩ := hp
     obtain ⟨b, hb, rfl⟩ := hq
     rw [ha] at hb; cases hb
     exact hev _)
   simp only [execOp, hop]; exact this
 · rename_i t x hop
   obtain ⟨v, h1, h2, h3⟩ := actLoad_sound (P := P) hr (hev x) he hc
   exact quiet (by simp only [execOp, hop]) h1 h2 h3
 · rename_i t x y hop
   obtain ⟨w', h1, h2, h3, h4⟩ := actStore_sound (P := P) hr (hev x) (hev y) he hc
   refine ⟨.skip, w', own, ok, s, ?_, .inr ⟨rfl, h4⟩, h2, h3, fun _ _ => rfl⟩
   simp only [execOp, hop, Sem.run_bind, h1, Result.andThen_ok, Sem.run_pure]
 · rename_i x hop
   have hx := hev x
   split at he
   · rename_i id k i off hx'
     cases he
     rw [hx'] at hx
     generalize hρ : ρ x = vx at hx
     cases hx with
     | ref _ _ _ _ B hB =>
       refine Does.pure hr (v := _) ?_ (.ref id k i off B hB)
       simp only [execOp, hop, hρ]; rfl
   · rename_i cs hx'
     cases he
     rw [hx'] at hx
     have hx2 := hx
     generalize hρ : ρ x = vx at hx
     cases hx with
     | rp b o _ us hm hcs =>
       refine Does.pure hr (v := _) ?_ (.rp b o cs us hm hcs)
       simp only [execOp, hop, hρ]; rfl
   · rename_i f a b hx'
     cases he
     rw [hx'] at hx
     generalize hρ : ρ x = vx at hx
     cases hx with
     | fn _ vs us _ _ h1 h2 c1 c2 =>
       refine Does.pure hr (v := _) ?_ (.fn (.func f) vs us a b h1 h2 c1 c2)
       simp only [execOp, hop, hρ]; rfl
   · cases he
 · rename_i op t x y yt hop
   obtain ⟨v, h1, h2, h3⟩ := actBin_sound (P := P) (ox := x) (oy := y) (hev x) (hev y) he hc
   exact quiet (by simp only [execOp, hop]) h1 h2 h3
 · rename_i op t x hop
   obtain ⟨v, h1, h2, h3⟩ := actUn_sound (P := P) (hev x) he hc
   exact quiet (by simp only [execOp, hop]) h1 h2 h3
 · rename_i a b x hop
   obtain ⟨v, h1, h2, h3⟩ := actConvert_sound (P := P) (hev x) he hc
   exact quiet (by simp only [execOp, hop]) h1 h2 h3
 · rename_i f a b hop
   cases he
   refine Does.pure hr (v := .func f (a.map ρ) (b.map ρ)) ?_ (.fn f _ _ _ _ (by simp) (by simp) (fun i d v hd hv => ?_) (fun i d v hd hv => ?_))
   · simp only [execOp, hop, Instr.makeFunc, Sem.run_bind, Sem.run_pure, Result.andThen_ok]
   · simp only [List.getElem?_map, Array.getElem?_toList, Option.map_eq_some_iff] at hd
     simp only [Array.getElem?_map, Option.map_eq_some_iff] at hv
     obtain ⟨p, hp, rfl⟩ := hd
     obtain ⟨q, hq, rfl⟩ := hv
     rw [hp] at hq; cases hq
     exact hev _
   · simp only [List.getElem?_map, Array.getElem?_toList, Option.map_eq_some_iff] at hd
     simp only [Array.getElem?_map, Option.map_eq_some_iff] at hv
     obtain ⟨p, hp, rfl⟩ := hd
     obtain ⟨q, hq, rfl⟩ := hv
     rw [hp] at hq; cases hq
     exact hev _
 · rename_i t n c hop
   have := actMakeSlice_sound hr hs (hev n) (hev c) he hc
   simp only [execOp, hop]; exact this
 · rename_i t x lo hi mx hop
   have H : ∀ z : Option Operand, (z.map ρ).isSome = (z.map ev).isSome ∧ ∀ d u, z.map ev = some d → z.map ρ = some u → Rep w ok s u d := fun z => by
     cases z with
     | none => exact ⟨rfl, fun d u h => by cases h⟩
     | some z => exact ⟨rfl, fun d u h1 h2 => by cases h1; cases h2; exact hev z⟩
   cases hA : actSliceArr P t (ev x) (lo.map ev) (hi.map ev) (mx.map ev) h with
   | some e0 =>
     rw [hA] at he
     cases he
     obtain ⟨r, ok', h1, h2, h3, h4⟩ := actSliceArr_sound (P := P) hr (hev x) hA (H lo).1 (H hi).1 (H mx).1
     exact ⟨.value r, w, own, ok', s, by simp only [execOp, hop]; exact run_value _ _ w h1, .inl ⟨r, rfl, h4⟩, h2, h3, fun _ _ => rfl⟩
   | none =>
     rw [hA] at he
     obtain ⟨v, h1, h2, h3⟩ := actSlice_sound (P := P) (hev x) he hc (H lo) (H hi) (H mx)
     exact quiet (by simp only [execOp, hop]) h1 h2 h3
 · rename_i t x f hop
   obtain ⟨v, h1, h2, h3⟩ := actFieldAddr_sound (P := P) (hev x) he
   exact quiet (by simp only [execOp, hop]) h1 h2 h3
 · rename_i t x f hop
   obtain ⟨v, h1, h2, h3⟩ := actField_sound (P := P) (hev x) he hc
   exact quiet (by simp only [execOp, hop]) h1 h2 h3
 · rename_i t x i hop
   obtain ⟨v, h1, h2, h3⟩ := actIndexAddr_sound (P := P) (hev x) (hev i) he hc
   exact quiet (by simp only [execOp, hop]) h1 h2 h3
 · rename_i t x i hop
   obtain ⟨v, h1, h2, h3⟩ := actIndex_sound (P := P) (hev x) (hev i) he hc
   exact quiet (by simp only [execOp, hop]) h1 h2 h3
 · rename_i x i hop
   obtain ⟨v, h1, h2, h3⟩ := actExtract_sound (P := P) (hev x) he hc
   exact quiet (by simp only [execOp, hop]) h1 h2 h3
 · rename_i t r hop
   obtain ⟨hn, hd⟩ := actMakeMap_sound (P := P) hr hs he
   cases r with
   | none => simpa only [execOp, hop, Option.map_none] using hd
   | some _ => cases hn
 · rename_i t x i cok hop
   obtain ⟨v, h1, h2, h3⟩ := actLookup_sound (P := P) hr (hev x) (hev i) he
   exact quiet (by simp only [execOp, hop]) h1 h2 h3
 · rename_i t m k v hop
   obtain ⟨w', h1, h2, h3, h4⟩ := actMapUpdate_sound (P := P) hr (hev m) (hev k) (hev v) he
   refine ⟨.skip, w', own, ok, s, ?_, .inr ⟨rfl, h4⟩, h2, h3, fun _ _ => rfl⟩
   simp only [execOp, hop, Sem.run_bind, h1, Result.andThen_ok, Sem.run_pure]
 · rename_i args tys hop
   split at he
   · rename_i x t hargs htys
     obtain ⟨v, h1, h2, h3⟩ := actLen2_sound (P := P) (ty := o.type) hr (hev x) he
     have ea : args = #[x] := by apply Array.toList_inj.1; rw [hargs]
     have et : tys = #[t] := by apply Array.toList_inj.1; rw [htys]
     subst ea; subst et
     rw [h3]
     refine Does.pure hr (v := v) ?_ h2
     simp only [execOp, hop, resolve, Sem.run_bind, Sem.run_pure, Result.andThen_ok, invoke, builtin, List.map_toArray, List.map_cons, List.map_nil, h1]
   · cases he
 · rename_i args tys hop
   split at he
   · rename_i x t hargs htys
     obtain ⟨v, h1, h2, h3⟩ := actCap_sound (P := P) (ty := o.type) (hev x) he
     have ea : args = #[x] := by apply Array.toList_inj.1; rw [hargs]
     have et : tys = #[t] := by apply Array.toList_inj.1; rw [htys]
     subst ea; subst et
     rw [h3]
     refine Does.pure hr (v := v) ?_ h2
     simp only [execOp, hop, resolve, Sem.run_bind, Sem.run_pure, Result.andThen_ok, invoke, builtin, List.map_toArray, List.map_cons, List.map_nil, h1]
   · cases he
 · rename_i args tys hop
   split at he
   · rename_i x y hargs
     obtain ⟨r, w', own', ok', s', h1, h2, h3, h4, h5⟩ := actAppend_sound (P := P) hr hs hh (ty := o.type) (hev x) (hev y) he hc
     have ea : args = #[x, y] := by apply Array.toList_inj.1; rw [hargs]
     subst ea
     refine ⟨.value r, w', own', ok', s', ?_, .inl ⟨r, rfl, h2⟩, h3, h4, fun id hid => ?_⟩
     · simp only [execOp, hop, resolve, Sem.run_bind, Sem.run_pure, Result.andThen_ok, invoke, builtin, List.map_toArray, List.map_cons, List.map_nil, h1]
     · rw [h5, upd_ne]; intro e; omega
   · cases he
 · rename_i args tys hop
   obtain ⟨v, h1, h2, h3⟩ := actMin_sound (P := P) (w := w) (ok := ok) (s := s) (vs := args.map ρ) (tys := tys) (ty := o.type) he (by simp) (fun i d v hd hv => by
     simp only [List.getElem?_map, Array.getElem?_toList, Option.map_eq_some_iff] at hd
     simp only [Array.getElem?_map, Option.map_eq_some_iff] at hv
     obtain ⟨p, hp, rfl⟩ := hd
     obtain ⟨q, hq, rfl⟩ := hv
     rw [hp] at hq; cases hq
     exact hev _)
   rw [h3]
   refine Does.pure hr (v := v) ?_ h2
   simp only [execOp, hop, resolve, Sem.run_bind, Sem.run_pure, Result.andThen_ok, invoke, builtin, h1]
 · rename_i args tys hop
   obtain ⟨v, h1, h2, h3⟩ := actMax_sound (P := P) (w := w) (ok := ok) (s := s) (vs := args.map ρ) (tys := tys) (ty := o.type) he (by simp) (fun i d v hd hv => by
     simp only [List.getElem?_map, Array.getElem?_toList, Option.map_eq_some_iff] at hd
     simp only [Array.getElem?_map, Option.map_eq_some_iff] at hv
     obtain ⟨p, hp, rfl⟩ := hd
     obtain ⟨q, hq, rfl⟩ := hv
     rw [hp] at hq; cases hq
     exact hev _)
   rw [h3]
   refine Does.pure hr (v := v) ?_ h2
   simp only [execOp, hop, resolve, Sem.run_bind, Sem.run_pure, Result.andThen_ok, invoke, builtin, h1]
 · cases he
end
end Go.Aw
end
section
namespace Go.Aw
open Go.RowKit
def FW (r : Option Nat) : Fence := { Fence.wide with round := r }
theorem FW_room (r : Option Nat) (k : Nat) : (FW r).room k := fun _ h => by simp [FW, Fence.wide] at h
inductive Pu : V → Prop
 | undef : Pu .undef
 | lit (v : Value) : Pu (.lit v)
 | agg (cs : List V) (h : ∀ c ∈ cs, Pu c) : Pu (.agg cs)
 | sl (k : Nat) (es : List (List V)) (ex : Bool) (h : ∀ e ∈ es, ∀ c ∈ e, Pu c) : Pu (.sl k es ex)
 | rp (cs : List V) (h : ∀ c ∈ cs, Pu c) : Pu (.rp cs)
 | fn (f : Fn) (a b : List V) (h1 : ∀ c ∈ a, Pu c) (h2 : ∀ c ∈ b, Pu c) : Pu (.fn f a b)
 | tup (cs : List V) (h : ∀ c ∈ cs, Pu c) : Pu (.tup cs)
 | ifc (t : TypeId) (v : V) (h : Pu v) : Pu (.ifc t v)
@[simp] theorem Pu_undef : Pu .undef := .undef
@[simp] theorem Pu_lit (v : Value) : Pu (.lit v) := .lit v
@[simp] theorem Pu_agg (cs : List V) : Pu (.agg cs) ↔ ∀ c ∈ cs, Pu c := ⟨fun h => by cases h; assumption, .agg cs⟩
@[simp] theorem Pu_sl (k : Nat) (es : List (List V)) (ex : Bool) : Pu (.sl k es ex) ↔ ∀ e ∈ es, ∀ c ∈ e, Pu c := ⟨fun h => by cases h; assumption, .sl k es ex⟩
@[simp] theorem Pu_rp (cs : List V) : Pu (.rp cs) ↔ ∀ c ∈ cs, Pu c := ⟨fun h => by cases h; assumption, .rp cs⟩
@[simp] theorem Pu_fn (f : Fn) (a b : List V) : Pu (.fn f a b) ↔ (∀ c ∈ a, Pu c) ∧ ∀ c ∈ b, Pu c := ⟨fun h => by cases h; exact ⟨by assumption, by assumption⟩, fun h => .fn f a b h.1 h.2⟩
@[simp] theorem Pu_tup (cs : List V) : Pu (.tup cs) ↔ ∀ c ∈ cs, Pu c := ⟨fun h => by cases h; assumption, .tup cs⟩
@[simp] theorem Pu_ifc (t : TypeId) (v : V) : Pu (.ifc t v) ↔ Pu v := ⟨fun h => by cases h; assumption, .ifc t v⟩
inductive Cl : V → Prop
 | undef : Cl .undef
 | lit (v : Value) : Cl (.lit v)
 | agg (cs : List V) (h : ∀ c ∈ cs, Cl c) : Cl (.agg cs)
 | tup (cs : List V) (h : ∀ c ∈ cs, Cl c) : Cl (.tup cs)
@[simp] theorem Cl_lit (v : Value) : Cl (.lit v) := .lit v
@[simp] theorem Cl_agg (cs : List V) : Cl (.agg cs) ↔ ∀ c ∈ cs, Cl c := ⟨fun h => by cases h; assumption, .agg cs⟩
@[simp] theorem Cl_tup (cs : List V) : Cl (.tup cs) ↔ ∀ c ∈ cs, Cl c := ⟨fun h => by cases h; assumption, .tup cs⟩
theorem Rep.pu {w : World} {ok : Nat → Nat → Prop} {s s' : Nat → Option Nat} {v : Value} {d : V} (h : Rep w ok s v d) (hp : Pu d) : Rep w ok s' v d := by
 induction h with
 | undef v => exact .undef v
 | lit v h => exact .lit v h
 | agg vs cs hl hc ih => exact .agg vs cs hl fun i d v hd hv => ih i d v hd hv ((Pu_agg cs).1 hp d (List.mem_of_getElem? hd))
 | sl a n cap k es ex us hn hcap hex hm hk hc ih => exact .sl a n cap k es ex us hn hcap hex hm hk fun i j e d he hd => ih i j e d he hd ((Pu_sl k es ex).1 hp e (List.mem_of_getElem? he) d (List.mem_of_getElem? hd))
 | rp b o cs us hm hc ih => exact .rp b o cs us hm fun j d hd => ih j d hd ((Pu_rp cs).1 hp d (List.mem_of_getElem? hd))
 | ref => cases hp
 | os0 => cases hp
 | os => cases hp
 | fn f vs us first cap h1 h2 c1 c2 ih1 ih2 =>
   have hp' := (Pu_fn f first cap).1 hp
   exact .fn f vs us first cap h1 h2 (fun i d v hd hv => ih1 i d v hd hv (hp'.1 d (List.mem_of_getElem? hd))) (fun i d v hd hv => ih2 i d v hd hv (hp'.2 d (List.mem_of_getElem? hd)))
 | tup vs cs hl hc ih => exact .tup vs cs hl fun i d v hd hv => ih i d v hd hv ((Pu_tup cs).1 hp d (List.mem_of_getElem? hd))
 | ifc t v d h ih => exact .ifc t v d (ih ((Pu_ifc t d).1 hp))
 | mp id B h => cases hp
theorem Rep.cl {w w' : World} {ok ok' : Nat → Nat → Prop} {s s' : Nat → Option Nat} {v : Value} {d : V} (h : Rep w ok s v d) (hp : Cl d) : Rep w' ok' s' v d := by
 induction h with
 | undef v => exact .undef v
 | lit v h => exact .lit v h
 | agg vs cs hl hc ih => exact .agg vs cs hl fun i d v hd hv => ih i d v hd hv ((Cl_agg cs).1 hp d (List.mem_of_getElem? hd))
 | tup vs cs hl hc ih => exact .tup vs cs hl fun i d v hd hv => ih i d v hd hv ((Cl_tup cs).1 hp d (List.mem_of_getElem? hd))
 | _ => cases hp
inductive Pur (fr : Bool) (h : Hp) : V → V → Prop
 | pu (d : V) (hp : Pu d) : Pur fr h d d
 | slw (k : Nat) (es : List (List V)) (ex : Bool) (hp : ∀ e ∈ es, ∀ c ∈ e, Pu c) : Pur fr h (.sl k es ex) (.sl k es false)
 | os (id k n : Nat) (ex ex' : Bool) (b : Blk) (es : List (List V)) (hex' : ex' = true → ex = true) (hb : h id = some b) (hk : b.k = k) (hm : fr = true → b.mode ≠ .wr) (hn : n ≤ b.es.length) (hl : es.length = n) (hle : ∀ (i : Nat) (e e' : List V), b.es[i]? = some e → es[i]? = some e' → e.length = e'.length)
     (hc : ∀ (i j : Nat) (e e' : List V) (d d' : V), b.es[i]? = some e → es[i]? = some e' → e[j]? = some d → e'[j]? = some d' → Pur fr h d d') : Pur fr h (.os id k n ex) (.sl k es ex')
 | ref (id k i off : Nat) (b : Blk) (cs : List V) (hb : h id = some b) (hk : b.k = k) (hm : fr = true → b.mode ≠ .wr) (hi : i < b.es.length) (hl : cs.length = ((b.es.getD i []).drop off).length)
     (hc : ∀ (j : Nat) (d d' : V), ((b.es.getD i []).drop off)[j]? = some d → cs[j]? = some d' → Pur fr h d d') : Pur fr h (.ref id k i off) (.rp cs)
 | nilsl (k : Nat) (ex : Bool) : Pur fr h (.lit (.slice none 0 0)) (.sl k [] ex)
 | agg (cs cs' : List V) (hl : cs.length = cs'.length) (hc : ∀ (j : Nat) (d d' : V), cs[j]? = some d → cs'[j]? = some d' → Pur fr h d d') : Pur fr h (.agg cs) (.agg cs')
 | fn (f : Fn) (a a' b b' : List V) (h1 : a.length = a'.length) (h2 : b.length = b'.length) (c1 : ∀ (j : Nat) (d d' : V), a[j]? = some d → a'[j]? = some d' → Pur fr h d d') (c2 : ∀ (j : Nat) (d d' : V), b[j]? = some d → b'[j]? = some d' → Pur fr h d d') : Pur fr h (.fn f a b) (.fn f a' b')
section
variable {w : World} {own : Nat → Prop} {ok : Nat → Nat → Prop} {s : Nat → Option Nat} {h : Hp}
def okT (ok : Nat → Nat → Prop) (s : Nat → Option Nat) (h : Hp) (fr : Bool) : Nat → Nat → Prop := fun b o => ok b o ∨ (fr = false ∧ ∃ id x, h id = some x ∧ s id = some b ∧ o < x.es.length * x.k)
theorem RH.cell_row (hr : RH w own ok s h) {id B o : Nat} {b : Blk} (hb : h id = some b) (hB : s id = some B) (ho : o < b.es.length * b.k) : ∃ u, w.cell? ⟨B, o, none⟩ = some u := by
 have hbk := hr.blk id b hb
 have h1 : o / b.k < b.es.length := Nat.div_lt_of_lt_mul (by rw [Nat.mul_comm]; exact ho)
 have h2 : o % b.k < (b.es[o / b.k]).length := by rw [hbk.len _ (List.getElem_mem h1)]; exact Nat.mod_lt _ hbk.pos
 obtain ⟨u, hu, _⟩ := hbk.cells B hB _ _ _ _ (List.getElem?_eq_getElem h1) (List.getElem?_eq_getElem h2)
 rw [Nat.mul_comm, Nat.div_add_mod] at hu
 exact ⟨u, hu⟩
theorem RH.ok_row (hr : RH w own ok s h) {id B o : Nat} {b : Blk} {fr : Bool} (hb : h id = some b) (hB : s id = some B) (hm : fr = true → b.mode ≠ .wr) (ho : o < b.es.length * b.k) : okT ok s h fr B o := by
 cases fr with
 | false => exact .inr ⟨rfl, id, b, hb, hB, ho⟩
 | true =>
   have hbk := hr.blk id b hb
   left
   cases he : b.mode with
   | wr => exact absurd he (hm rfl)
   | fz => exact (hbk.ffz B hB he o).2 ho
   | old => exact hbk.fold B hB he o ho
   | mp m => rw [hbk.mpe m he] at ho; simp at ho
theorem Pur.rep (hr : RH w own ok s h) {fr : Bool} {d d' : V} (hp : Pur fr h d d') : ∀ {v : Value}, Rep w ok s v d → Rep w (okT ok s h fr) (fun _ => none) v d' := by
 have up : ∀ {v d}, Rep w ok s v d → Rep w (okT ok s h fr) s v d := fun hv => hv.keep (fun b o hb => ⟨.inl hb, rfl⟩) (fun _ _ _ h => h) (fun _ _ h => h)
 induction hp with
 | pu d hp => intro v hv; exact (up hv).pu hp
 | nilsl k ex =>
   intro v hv
   cases hv
   exact .sl none 0 0 k [] ex (fun _ _ => undef) rfl (Nat.le_refl _) (fun _ => rfl) (fun i j hi _ => absurd hi (Nat.not_lt_zero i)) (fun e he => by cases he) (fun i j e d h => by cases h)
 | slw k es ex hp =>
   intro v hv
   have hv' := (up hv).pu (s' := fun _ => none) ((Pu_sl k es ex).2 hp)
   cases hv' with
   | sl a n cap _ _ _ us hn hcap hex hm hk hc => exact .sl a n cap k es false us hn hcap (fun h => by cases h) hm hk hc
 | os id k n ex ex' b es hex' hb hk hm hn hl hle hc ih =>
   intro v hv
   subst hk
   have hbk := hr.blk id b hb
   have hlen : ∀ e ∈ es, e.length = b.k := fun e he => by
     obtain ⟨i, hi, rfl⟩ := List.getElem_of_mem he
     have hi' : i < b.es.length := by omega
     rw [← hle i _ _ (List.getElem?_eq_getElem hi') (List.getElem?_eq_getElem hi)]
     exact hbk.len _ (List.getElem_mem hi')
   cases hv with
   | os0 _ _ _ a =>
     obtain rfl : es = [] := List.eq_nil_of_length_eq_zero hl
     exact .sl a 0 0 b.k [] ex' (fun _ _ => undef) rfl (Nat.le_refl _) (fun _ => rfl) (fun i j hi => absurd hi (by omega)) (fun e he => by cases he) (fun i j e d hi => by cases hi)
   | os _ _ _ _ B cap ty sz hB hn' hex hsh hcap =>
     refine .sl _ n cap b.k _ ex' (fun i j => (w.cell? ⟨B, i * b.k + j, none⟩).getD undef) hl.symm hn' (fun h => hex (hex' h)) (fun i j hi hj => ?_) hlen (fun i j e d hi hj => ?_)
     · have hi' : i < b.es.length := by omega
       have hlt := addr_lt (k := b.k) hi' hj
       obtain ⟨u, hu⟩ := hr.cell_row hb hB hlt
       exact ⟨B, 0, rfl, by rw [Nat.zero_add]; exact hr.ok_row hb hB hm hlt, by rw [Nat.zero_add, hu]; rfl⟩
     · have hi' : i < b.es.length := by have := (List.getElem?_eq_some_iff.1 hi).1; omega
       have hbi := List.getElem?_eq_getElem hi'
       have hj' : j < (b.es[i]).length := by rw [hle i _ _ hbi hi]; exact (List.getElem?_eq_some_iff.1 hj).1
       obtain ⟨u, g1, g2⟩ := hbk.cells B hB i j _ _ hbi (List.getElem?_eq_getElem hj')
       show Rep w _ _ ((w.cell? ⟨B, i * b.k + j, none⟩).getD undef) d
       rw [g1]
       exact ih i j _ e _ d hbi hi (List.getElem?_eq_getElem hj') hj g2
 | ref id k i off b cs hb hk hm hi hl hc ih =>
   intro v hv
   subst hk
   have hbk := hr.blk id b hb
   cases hv with
   | ref _ _ _ _ B hB =>
     have hbi : b.es[i]? = some (b.es.getD i []) := by rw [List.getD_eq_getElem?_getD, List.getElem?_eq_getElem hi]; rfl
     have hbl := hbk.len _ (List.mem_of_getElem? hbi)
     refine .rp B _ cs (fun j => (w.cell? ⟨B, i * b.k + off + j, none⟩).getD undef) (fun j hj => ?_) (fun j d hj => ?_)
     · rw [hl, List.length_drop, hbl] at hj
       have hlt : i * b.k + (off + j) < b.es.length * b.k := addr_lt hi (by omega)
       rw [← Nat.add_assoc] at hlt
       obtain ⟨u, hu⟩ := hr.cell_row hb hB hlt
       exact ⟨hr.ok_row hb hB hm hlt, by rw [hu]; rfl⟩
     · have hj2 := (List.getElem?_eq_some_iff.1 hj).1
       rw [hl] at hj2
       have hd := List.getElem?_eq_getElem hj2
       have hd' := hd
       rw [List.getElem?_drop] at hd'
       obtain ⟨u, g1, g2⟩ := hbk.cells B hB i (off + j) _ _ hbi hd'
       show Rep w _ _ ((w.cell? ⟨B, i * b.k + off + j, none⟩).getD undef) d
       rw [← Nat.add_assoc] at g1
       rw [g1]
       exact ih j _ d hd hj g2
 | agg cs cs' hl hc ih =>
   intro v hv
   cases hv with
   | agg vs _ hl' hcs =>
     refine .agg vs cs' (by omega) (fun i d v hd hv => ?_)
     have hi : i < cs.length := by have := (List.getElem?_eq_some_iff.1 hd).1; omega
     exact ih i _ d (List.getElem?_eq_getElem hi) hd (hcs i _ v (List.getElem?_eq_getElem hi) hv)
 | fn f a a' b b' h1 h2 c1 c2 ih1 ih2 =>
   intro v hv
   cases hv with
   | fn _ vs us _ _ g1 g2 k1 k2 =>
     refine .fn f vs us a' b' (by omega) (by omega) (fun i d v hd hv => ?_) (fun i d v hd hv => ?_)
     · have hi : i < a.length := by have := (List.getElem?_eq_some_iff.1 hd).1; omega
       exact ih1 i _ d (List.getElem?_eq_getElem hi) hd (k1 i _ v (List.getElem?_eq_getElem hi) hv)
     · have hi : i < b.length := by have := (List.getElem?_eq_some_iff.1 hd).1; omega
       exact ih2 i _ d (List.getElem?_eq_getElem hi) hd (k2 i _ v (List.getElem?_eq_getElem hi) hv)
end
theorem globT_lit {g : Nat} {vs : List Value} (h : globT g = some vs) : ∀ v ∈ vs, isLit v = true := by
 unfold globT at h
 split at h
 · cases h
   have : tab64.all isLit = true := by decide
   exact List.all_eq_true.1 this
 · cases h
def CallsTo (P : Program) (g : FuncId) (args : List V) (r : V) : Prop :=
 ∀ (w : World) (ok : Nat → Nat → Prop) (vals : Array Value), (∀ b o, ok b o → ∃ u, w.cell? ⟨b, o, none⟩ = some u) → GlobOk w ok → vals.size = args.length →
   (∀ (i : Nat) (d : V) (v : Value), args[i]? = some d → vals[i]? = some v → Rep w ok (fun _ => none) v d) →
   CallsIn (FW none) 0 P g vals w fun e w' => ∃ v own' ok', e = .returned v ∧ Evol (fun _ => False) ok w own' ok' w' ∧ (∀ b o, ok' b o → ∃ u, w'.cell? ⟨b, o, none⟩ = some u) ∧ Rep w' ok' (fun _ => none) v r
structure Base where
 n : Nat
 may : Nat → Prop
 up : ∀ b, n ≤ b → may b
structure Gh where
 n : Nat := 0
 stop : Bool := false
 base : Base := ⟨0, fun _ => True, fun _ _ => trivial⟩
 lim : Nat := 0
 yl : Nat := 0
 ys : List (List V) := []
 inr : Bool := false
structure St where
 tmps : List V
 h : Hp
 nx : Nat
 gh : Gh
def St.ev (st : St) : Operand → V
 | .tmp t => st.tmps.getD t .undef
 | .const v => ofVal v
 | .func f => .fn (.func f) [] []
 | .global g => match globT g with
   | some vs => .rp (vs.map .lit)
   | none => .undef
def St.put (st : St) (d : Option Tmp) (v : V) : St :=
 match d with
 | some d => { st with tmps := st.tmps.set d v }
 | none => st
abbrev Amb := Gh → (Nat → Prop) → (Nat → Nat → Prop) → (Nat → Prop) → (Nat → Nat → Prop) → (Nat → Option Nat) → World → Prop
structure EvolX (own : Nat → Prop) (ok : Nat → Nat → Prop) (w : World) (own' : Nat → Prop) (ok' : Nat → Nat → Prop) (w' : World) : Prop where
 os : w'.os = w.os
 tape : w'.tape = w.tape
 output : w'.output = w.output
 size : w.heap.size ≤ w'.heap.size
 unch : ∀ b, b < w.heap.size → ¬ own b → w'.heap[b]? = w.heap[b]?
 ownn : ∀ b, own' b → own b ∨ w.heap.size ≤ b
 okk : ∀ b o, ok b o → ok' b o
 okc : ∀ b o, ok b o → w'.cell? ⟨b, o, none⟩ = w.cell? ⟨b, o, none⟩
 okn : ∀ b o, ok' b o → ok b o ∨ own b ∨ w.heap.size ≤ b
 shape : ∀ b ty sz, w.shape? b = some (ty, sz) → w'.shape? b = some (ty, sz)
theorem Evol.x {own own' : Nat → Prop} {ok ok' : Nat → Nat → Prop} {w w' : World} (h : Evol own ok w own' ok' w') : EvolX own ok w own' ok' w' := ⟨h.os, h.tape, h.output, h.size, h.unch, h.ownn, h.okk, h.okc, h.okn, h.shape⟩
theorem EvolX.refl (own : Nat → Prop) (ok : Nat → Nat → Prop) (w : World) : EvolX own ok w own ok w := (Evol.refl own ok w).x
theorem EvolX.trans {o1 o2 o3 : Nat → Prop} {k1 k2 k3 : Nat → Nat → Prop} {w1 w2 w3 : World}
   (h : EvolX o1 k1 w1 o2 k2 w2) (g : EvolX o2 k2 w2 o3 k3 w3) : EvolX o1 k1 w1 o3 k3 w3 where
 os := g.os.trans h.os
 tape := g.tape.trans h.tape
 output := g.output.trans h.output
 size := Nat.le_trans h.size g.size
 unch b hb hn := by
   have h2 : ¬ o2 b := fun hh => by
     rcases h.ownn b hh with h' | h'
     · exact hn h'
     · omega
   exact (g.unch b (Nat.lt_of_lt_of_le hb h.size) h2).trans (h.unch b hb hn)
 ownn b hb := by
   rcases g.ownn b hb with h' | h'
   · exact h.ownn b h'
   · exact .inr (Nat.le_trans h.size h')
 okk b o hb := g.okk b o (h.okk b o hb)
 okc b o hb := (g.okc b o (h.okk b o hb)).trans (h.okc b o hb)
 okn b o hb := by
   rcases g.okn b o hb with h' | h' | h'
   · exact h.okn b o h'
   · rcases h.ownn b h' with h'' | h''
     · exact .inr (.inl h'')
     · exact .inr (.inr h'')
   · exact .inr (.inr (Nat.le_trans h.size h'))
 shape b ty sz hb := g.shape b ty sz (h.shape b ty sz hb)
theorem EvolX.others {own0 own o2 o2' : Nat → Prop} {ok0 ok k2 k2' : Nat → Nat → Prop} {w0 w w' : World} (h : EvolX own0 ok0 w0 own ok w) (hw : ∀ b o, ok0 b o → b < w0.heap.size) (he : EvolX o2 k2 w o2' k2' w') (hd : ∀ b, o2 b → own0 b ∨ w0.heap.size ≤ b)
   (hk : ∀ b o, ok b o → o2 b → k2 b o) : EvolX own0 ok0 w0 own ok w' where
 os := he.os.trans h.os
 tape := he.tape.trans h.tape
 output := he.output.trans h.output
 size := Nat.le_trans h.size he.size
 unch b hb hn := (he.unch b (Nat.lt_of_lt_of_le hb h.size) (fun h2 => (hd b h2).elim hn (fun h3 => absurd h3 (by omega)))).trans (h.unch b hb hn)
 ownn := h.ownn
 okk := h.okk
 okc b o hb := by
   refine Eq.trans ?_ (h.okc b o hb)
   by_cases h2 : o2 b
   · exact he.okc b o (hk b o (h.okk b o hb) h2)
   · exact World.cell?_of_block (w := w) (he.unch b (Nat.lt_of_lt_of_le (hw b o hb) h.size) h2)
 okn := h.okn
 shape b ty sz hb := he.shape b ty sz (h.shape b ty sz hb)
def Amb.Stable (A : Amb) : Prop := ∀ gh own ok X kX s w own' ok' s' w', A gh own ok X kX s w → Evol own ok w own' ok' w' → (∀ b, own b → ¬ X b) → (∀ b o, kX b o → own b → ok b o) → (∀ id, id < gh.lim → s' id = s id) → A gh own' ok' X kX s' w'
def CtlKept (n : Nat) (w w' : World) : Prop := ∀ (b : Nat) (o : Obj), b < n → w.heap[b]? = some o → isCtl o = true → w'.heap[b]? = some o
theorem CtlKept.mono {n m : Nat} {w w' : World} (h : CtlKept n w w') (hm : m ≤ n) : CtlKept m w w' := fun b o hb => h b o (Nat.lt_of_lt_of_le hb hm)
theorem Evol.kept' {own own' : Nat → Prop} {ok ok' : Nat → Nat → Prop} {w w' : World} (h : Evol own ok w own' ok' w') (n : Nat) : CtlKept n w w' := fun b o _ hb hc => h.ctl b o hb hc
def Amb.Stable2 (A : Amb) : Prop := ∀ gh own ok X kX s w o2 k2 o2' k2' w', A gh own ok X kX s w → EvolX o2 k2 w o2' k2' w' → (∀ b, o2 b → ¬ own b ∧ ¬ X b ∧ gh.base.may b) → (∀ b o, ok b o ∨ kX b o → o2 b → k2 b o) → CtlKept gh.base.n w w' → (∀ b o, ok b o ∨ kX b o → b < w.heap.size) → A gh own ok X kX s w'
def Amb.More (A : Amb) : Prop := ∀ gh own ok X kX s w (ok2 : Nat → Nat → Prop), A gh own ok X kX s w → (∀ b o, ok2 b o → gh.base.may b) → A gh own (fun b o => ok b o ∨ ok2 b o) X kX s w
structure Sep (own : Nat → Prop) (ok : Nat → Nat → Prop) (X : Nat → Prop) (kX : Nat → Nat → Prop) (w : World) : Prop where
 xw : ∀ b, X b → b < w.heap.size
 dis : ∀ b, own b → ¬ X b
 ko : ∀ b o, kX b o → own b → ok b o
 ok_ : ∀ b o, ok b o → X b → kX b o
 kw : ∀ b o, kX b o → ∃ u, w.cell? ⟨b, o, none⟩ = some u
theorem Sep.evol {own own' X : Nat → Prop} {ok ok' kX : Nat → Nat → Prop} {w w' : World} (h : Sep own ok X kX w) (he : Evol own ok w own' ok' w') : Sep own' ok' X kX w' := by
 have lt : ∀ {b o}, kX b o → b < w.heap.size := fun {b o} hb => by
   obtain ⟨u, hu⟩ := h.kw b o hb
   exact World.block_lt_of_cell? w ⟨b, o, none⟩ hu
 refine ⟨fun b hb => Nat.lt_of_lt_of_le (h.xw b hb) he.size, fun b hb hx => ?_, fun b o hk ho => ?_, fun b o hk hx => ?_, fun b o hk => ?_⟩
 · rcases he.ownn b hb with h1 | h1
   · exact h.dis b h1 hx
   · have := h.xw b hx; omega
 · rcases he.ownn b ho with h1 | h1
   · exact he.okk b o (h.ko b o hk h1)
   · have := lt hk; omega
 · rcases he.okn b o hk with h1 | h1 | h1
   · exact h.ok_ b o h1 hx
   · exact (h.dis b h1 hx).elim
   · have := h.xw b hx; omega
 · obtain ⟨u, hu⟩ := h.kw b o hk
   by_cases hb : own b
   · exact ⟨u, (he.okc b o (h.ko b o hk hb)).trans hu⟩
   · exact ⟨u, (World.cell?_of_block (w := w) (a := ⟨b, o, none⟩) (he.unch b (lt hk) hb)).trans hu⟩
def deferMark (r : Nat) : Deferred := { target := .collected r, args := #[] }
def Marks' (base : Nat) (a : Act) (w : World) : Prop := ∃ rs : List Nat, a.defers = rs.map deferMark ∧ rs.Nodup ∧ ∀ r ∈ rs, base ≤ r ∧ w.heap[r]? = some (.deferred (some []))
def Amb1 (A : Amb) (gh : Gh) (own : Nat → Prop) (ok : Nat → Nat → Prop) (s : Nat → Option Nat) (w : World) (ds : List Deferred) : Prop := ∃ X kX, A gh own ok X kX s w ∧ Sep own ok X kX w ∧ ∀ r, deferMark r ∈ ds → ¬ X r
structure R (A : Amb) (own : Nat → Prop) (ok : Nat → Nat → Prop) (s : Nat → Option Nat) (st : St) (w : World) (a : Act) : Prop where
 rh : RH w own ok s st.h
 sz : a.tmps.size = st.tmps.length
 tm : ∀ (t : Nat) (v : Value) (d : V), a.tmps[t]? = some v → st.tmps[t]? = some d → Rep w ok s v d
 fr : ∀ id, st.nx ≤ id → s id = none ∧ st.h id = none
 lm : st.gh.lim ≤ st.nx
 amb : Amb1 A st.gh own ok s w a.defers
 df : Marks' st.gh.base.n a w
abbrev Env := Nat → Bool → (Nat → Prop) → (Nat → Nat → Prop) → World → Prop
def RoundPost (cont : Bool → (Nat → Prop) → (Nat → Nat → Prop) → World → Prop) (ok : Nat → Nat → Prop) (X : Nat → Prop) (kX : Nat → Nat → Prop) (w : World) : Ending → World → Prop :=
 fun e w' => ∃ b X' kX', e = .returned (.bool b) ∧ cont b X' kX' w' ∧ EvolX X (fun b o => kX b o ∨ ok b o) w X' kX' w' ∧ (∀ b, X' b → b < w'.heap.size) ∧ ∀ b o, kX' b o → ∃ u, w'.cell? ⟨b, o, none⟩ = some u
structure EnvOk (P : Program) (E : Env) (l : Nat) (Ys : List (List V)) (base : Base) (okC : Nat → Nat → Prop) : Prop where
 stab : ∀ n b X kX w o2 k2 o2' k2' w', E n b X kX w → EvolX o2 k2 w o2' k2' w' → (∀ b, o2 b → ¬ X b ∧ base.may b) → (∀ b o, kX b o → o2 b → k2 b o) → CtlKept base.n w w' → E n b X kX w'
 yld : ∀ n X kX w (ok : Nat → Nat → Prop) (vals : Array Value) ys, E n false X kX w → Ys[n]? = some ys → (∀ b o, ok b o → ∃ u, w.cell? ⟨b, o, none⟩ = some u) → (∀ b o, ok b o → X b → kX b o) → (∀ b o, ok b o → okC b o ∨ base.may b) → vals.size = ys.length →
   (∀ (i : Nat) (d : V) (v : Value), ys[i]? = some d → vals[i]? = some v → Rep w ok (fun _ => none) v d) →
   ∃ g tmps assign body, (Instr.yield l vals).run P w = .ok (.round l g tmps assign body) w ∧ RoundIn (FW none) 0 P l g tmps assign body w (RoundPost (fun b X' kX' w' => E (n + 1) (!b) X' kX' w') ok X kX w)
def yieldV (l : Nat) : V := .fn (.yield l) [] []
def IterTo (P : Program) (f : FuncId) (args : Nat → List V) (h0 : Hp) (nx0 : Nat) (Ys : List (List V)) : Prop :=
 ∀ (E : Env) (l : Nat) (w : World) (X : Nat → Prop) (kX ok : Nat → Nat → Prop) (own0 : Nat → Prop) (s0 : Nat → Option Nat) (base : Base) (vals : Array Value), EnvOk P E l Ys base ok → base.n ≤ w.heap.size → (∀ b, own0 b → base.may b) → E 0 false X kX w → Sep own0 ok X kX w →
   RH w own0 ok s0 h0 → (∀ id, nx0 ≤ id → s0 id = none ∧ h0 id = none) → vals.size = (args l).length → (∀ (i : Nat) (d : V) (v : Value), (args l)[i]? = some d → vals[i]? = some v → Rep w ok s0 v d) →
   CallsIn (FW none) 0 P f vals w fun e w' => ∃ v n b X' kX', e = .returned v ∧ E n b X' kX' w' ∧ (b = false → n = Ys.length)
def Amb.Yields (P : Program) (A : Amb) : Prop := ∀ gh own ok X kX s w (vals : Array Value) ys, A gh own ok X kX s w → Sep own ok X kX w → (∀ b o, ok b o → ∃ u, w.cell? ⟨b, o, none⟩ = some u) → gh.stop = false → gh.ys[gh.n]? = some ys → vals.size = ys.length →
 (∀ (i : Nat) (d : V) (v : Value), ys[i]? = some d → vals[i]? = some v → Rep w ok (fun _ => none) v d) →
 ∃ g tmps assign body, (Instr.yield gh.yl vals).run P w = .ok (.round gh.yl g tmps assign body) w ∧
   RoundIn (FW none) 0 P gh.yl g tmps assign body w (RoundPost (fun b X' kX' w' => A { gh with n := gh.n + 1, stop := !b } own ok X' kX' s w') ok X kX w)
structure AmbOk (P : Program) (A : Amb) (rd : Option Nat) : Prop where
 st : A.Stable
 st2 : A.Stable2
 more : A.More
 yl : A.Yields P
 rd : ∀ gh own ok X kX s w, A gh own ok X kX s w → (gh.inr = false → rd = none) ∧ (gh.inr = true → ∃ (l : Nat) (r : Loop), rd = some l ∧ w.heap[l]? = some (.loop r))
 bs : ∀ gh own ok X kX s w, A gh own ok X kX s w → gh.base.n ≤ w.heap.size
 mo : ∀ gh own ok X kX s w, A gh own ok X kX s w → ∀ b, own b → gh.base.may b
 sub : ∀ gh own ok X kX s w (own' : Nat → Prop), A gh own ok X kX s w → (∀ b, own' b → own b) → A gh own' ok X kX s w
def hIn (ids : List Nat) (h : Hp) : Hp := fun j => (ids[j]?).bind h
def hOut (ids : List Nat) (h : Hp) : Hp := fun id => if id ∈ ids then none else h id
def Lent (ids : List Nat) (s : Nat → Option Nat) (h : Hp) (b : Nat) : Prop := ∃ id blk, id ∈ ids ∧ h id = some blk ∧ s id = some b
theorem RH.out {w : World} {own : Nat → Prop} {ok : Nat → Nat → Prop} {s : Nat → Option Nat} {h : Hp} (hr : RH w own ok s h) (ids : List Nat) (hm : ∀ id ∈ ids, ∀ b, h id = some b → b.mode ≠ .old) : RH w (fun b => own b ∧ ¬ Lent ids s h b) ok s (hOut ids h) := by
 refine ⟨hr.okw, fun b hb => hr.ownw b hb.1, hr.sw, fun id b hb => ?_, fun id1 id2 b1 b2 B h1 h2 => ?_, hr.gl⟩
 · simp only [hOut] at hb
   split at hb
   · cases hb
   rename_i hid
   have hbk := hr.blk id b hb
   refine ⟨hbk.pos, hbk.len, hbk.virt, fun B hB hmo => ⟨⟨(hbk.own B hB hmo).1, ?_⟩, (hbk.own B hB hmo).2⟩, hbk.shape, hbk.cells, hbk.fwr, hbk.ffz, hbk.fold, hbk.mpe, hbk.map⟩
   rintro ⟨id', blk, g1, g2, g3⟩
   exact hid (hr.exc id id' b blk B hb g2 hmo (hm id' g1 blk g2) hB g3 ▸ g1)
 · simp only [hOut] at h1 h2
   split at h1
   · cases h1
   split at h2
   · cases h2
   exact hr.exc id1 id2 b1 b2 B h1 h2
theorem RH.in_ {w : World} {own : Nat → Prop} {ok : Nat → Nat → Prop} {s : Nat → Option Nat} {h : Hp} (hr : RH w own ok s h) (ids : List Nat) (hnd : ids.Nodup) (hm : ∀ id ∈ ids, ∀ b, h id = some b → b.mode ≠ .old) (hpu : ∀ id ∈ ids, ∀ b, h id = some b → ∀ e ∈ b.es, ∀ d ∈ e, Pu d) : RH w (Lent ids s h) ok (fun j => (ids[j]?).bind s) (hIn ids h) := by
 have get : ∀ {β : Type} {f : Nat → Option β} {j : Nat} {b : β}, (ids[j]?).bind f = some b → ∃ id, ids[j]? = some id ∧ f id = some b := fun {β f j b} hb => by
   rw [Option.bind_eq_some_iff] at hb
   exact hb
 have key : ∀ {id b B}, id ∈ ids → h id = some b → s id = some B → Lent ids s h B := fun {id b B} h1 h2 h3 => ⟨id, b, h1, h2, h3⟩
 refine ⟨hr.okw, fun b ⟨id, blk, g1, g2, g3⟩ => hr.sw id b g3, fun j B hB => ?_, fun j b hb => ?_, fun j1 j2 b1 b2 B h1 h2 m1 m2 s1 s2 => ?_, hr.gl⟩
 · obtain ⟨id, _, g⟩ := get hB
   exact hr.sw id B g
 · obtain ⟨id, g1, g2⟩ := get hb
   have hbk := hr.blk id b g2
   have hmem := List.mem_of_getElem? g1
   have hs : ((ids[j]?).bind s) = s id := by rw [g1]; rfl
   refine ⟨hbk.pos, hbk.len, fun hv => hbk.virt (by rw [← hs]; exact hv), fun B hB hmo => ?_, fun B hB => hbk.shape B (by rw [← hs]; exact hB), fun B hB i j' e d hi hj => ?_, fun B hB => hbk.fwr B (by rw [← hs]; exact hB), fun B hB => hbk.ffz B (by rw [← hs]; exact hB), fun B hB => hbk.fold B (by rw [← hs]; exact hB), hbk.mpe, fun B hB => hbk.map B (by rw [← hs]; exact hB)⟩
   · have hB' : s id = some B := by rw [← hs]; exact hB
     exact ⟨key hmem g2 hB', (hbk.own B hB' hmo).2⟩
   · obtain ⟨u, h1, h2⟩ := hbk.cells B (by rw [← hs]; exact hB) i j' e d hi hj
     exact ⟨u, h1, h2.pu (hpu id hmem b g2 e (List.mem_of_getElem? hi) d (List.mem_of_getElem? hj))⟩
 · obtain ⟨i1, g1, k1⟩ := get h1
   obtain ⟨i2, g2, k2⟩ := get h2
   have e := hr.exc i1 i2 b1 b2 B k1 k2 m1 m2 (by simpa [g1] using s1) (by simpa [g2] using s2)
   subst e
   exact (List.getElem?_inj (List.getElem?_eq_some_iff.1 g1).1 hnd).1 (g1.trans g2.symm)
theorem R.amb_step {A : Amb} (hA : A.Stable) {gh : Gh} {own own' : Nat → Prop} {ok ok' : Nat → Nat → Prop} {s s' : Nat → Option Nat} {w w' : World} {ds : List Deferred} (h : Amb1 A gh own ok s w ds) (he : Evol own ok w own' ok' w') (hs : ∀ id, id < gh.lim → s' id = s id) :
   Amb1 A gh own' ok' s' w' ds := by
 obtain ⟨X, kX, h1, h2, h3⟩ := h
 exact ⟨X, kX, hA _ _ _ _ _ _ _ _ _ _ _ h1 he h2.dis h2.ko hs, h2.evol he, h3⟩
theorem RH.othersX {w w' : World} {own own2 own2' : Nat → Prop} {ok ok2 ok2' : Nat → Nat → Prop} {s : Nat → Option Nat} {h : Hp} (hr : RH w own ok s h)
   (he : EvolX own2 ok2 w own2' ok2' w') (hd : ∀ b, own b → ¬ own2 b) (hx : ∀ b o, ok b o → own2 b → ok2 b o) : RH w' own ok s h := by
 have hcell : ∀ b o, ok b o → w'.cell? ⟨b, o, none⟩ = w.cell? ⟨b, o, none⟩ := fun b o hb => by
   by_cases h2 : own2 b
   · exact he.okc b o (hx b o hb h2)
   · obtain ⟨u, hu⟩ := hr.okw b o hb
     have hlt := World.block_lt_of_cell? w ⟨b, o, none⟩ hu
     exact World.cell?_of_block (w := w) (he.unch b hlt h2)
 have hkeep : ∀ {v d}, Rep w ok s v d → Rep w' ok s v d := fun hv => hv.keep (fun b o hb => ⟨hb, hcell b o hb⟩) he.shape (fun _ _ h => h)
 refine ⟨fun b o hb => ?_, fun b hb => Nat.lt_of_lt_of_le (hr.ownw b hb) he.size, fun id B hb => Nat.lt_of_lt_of_le (hr.sw id B hb) he.size, fun id b hb => ?_, hr.exc, hr.gl.keep fun b o hb => ⟨hb, hcell b o hb⟩⟩
 · obtain ⟨u, hu⟩ := hr.okw b o hb
   exact ⟨u, (hcell b o hb).trans hu⟩
 · have hbk := hr.blk id b hb
   refine ⟨hbk.pos, hbk.len, hbk.virt, fun B hB hm => ?_, fun B hB hnm => ?_, fun B hB i j e d hi hj => ?_, hbk.fwr, hbk.ffz, hbk.fold, hbk.mpe, fun B hB m hm => ?_⟩
   · have := hbk.own B hB hm
     exact ⟨this.1, fun o => (World.frozen?_of_block (w := w) (a := ⟨B, o, none⟩) (he.unch B (hr.sw id B hB) (hd B this.1))).trans (this.2 o)⟩
   · obtain ⟨sz, h1, h2⟩ := hbk.shape B hB hnm
     exact ⟨sz, he.shape B _ _ h1, h2⟩
   · obtain ⟨u, h1, h2⟩ := hbk.cells B hB i j e d hi hj
     refine ⟨u, ?_, hkeep h2⟩
     by_cases hm : b.mode = .old
     · have hi' := (List.getElem?_eq_some_iff.1 hi).1
       have hj' := (List.getElem?_eq_some_iff.1 hj).1
       have hl := hbk.len e (List.mem_of_getElem? hi)
       refine (hcell _ _ (hbk.fold B hB hm _ ?_)).trans h1
       have : (i + 1) * b.k ≤ b.es.length * b.k := Nat.mul_le_mul_right _ hi'
       rw [Nat.add_mul] at this
       omega
     · exact (World.cell?_of_block (w := w) (a := ⟨B, i * b.k + j, none⟩) (he.unch B (hr.sw id B hB) (hd B (hbk.own B hB hm).1))).trans h1
   · obtain ⟨es, ck, h1, h2⟩ := hbk.map B hB m hm
     exact ⟨es, ck, (he.unch B (hr.sw id B hB) (hd B (hbk.own B hB (by rw [hm]; intro h; cases h)).1)).trans h1, h2⟩
theorem R.yielded {A : Amb} {own : Nat → Prop} {ok : Nat → Nat → Prop} {s : Nat → Option Nat} {st : St} {w w' : World} {a : Act} (hr : R A own ok s st w a) {X X' : Nat → Prop} {kX kX' : Nat → Nat → Prop} {gh : Gh} (hs : Sep own ok X kX w) (hm : ∀ r, deferMark r ∈ a.defers → ¬ X r)
   (he : EvolX X (fun b o => kX b o ∨ ok b o) w X' kX' w') (hx : ∀ b, X' b → b < w'.heap.size) (hk : ∀ b o, kX' b o → ∃ u, w'.cell? ⟨b, o, none⟩ = some u) (hl : gh.lim = st.gh.lim) (hb : gh.base = st.gh.base) (hA : A gh own ok X' kX' s w') : R A own ok s { st with gh := gh } w' a := by
 have hcell : ∀ b o, ok b o → w'.cell? ⟨b, o, none⟩ = w.cell? ⟨b, o, none⟩ := fun b o h => he.okc b o (.inr h)
 refine ⟨hr.rh.othersX he hs.dis (fun b o h _ => .inr h), hr.sz, fun t v d hv hd => (hr.tm t v d hv hd).keep (fun b o h => ⟨h, hcell b o h⟩) he.shape (fun _ _ h => h), hr.fr, by rw [hl]; exact hr.lm, ⟨X', kX', hA, ⟨hx, fun b h1 h2 => ?_, fun b o h1 h2 => ?_, fun b o h1 h2 => he.okk b o (.inr h1), hk⟩, fun r hr' h2 => ?_⟩, ?_⟩
 · rcases he.ownn b h2 with h | h
   · exact hs.dis b h1 h
   · have := hr.rh.ownw b h1; omega
 · rcases he.okn b o h1 with (h | h) | h | h
   · exact hs.ko b o h h2
   · exact h
   · exact (hs.dis b h2 h).elim
   · have := hr.rh.ownw b h2; omega
 · rcases he.ownn r h2 with h | h
   · exact hm r hr' h
   · obtain ⟨rs, d1, d2, d3⟩ := hr.df
     rw [d1] at hr'
     obtain ⟨r', hr1, hr2⟩ := List.mem_map.1 hr'
     have : r' = r := by simpa [deferMark] using hr2
     subst this
     have := (Array.getElem?_eq_some_iff.1 (d3 r' hr1).2).1
     omega
 · obtain ⟨rs, d1, d2, d3⟩ := hr.df
   refine ⟨rs, d1, d2, fun r hr' => ⟨by rw [hb]; exact (d3 r hr').1, ?_⟩⟩
   have h1 := (d3 r hr').2
   rw [he.unch r (Array.getElem?_eq_some_iff.1 h1).1 (hm r (by rw [d1]; exact List.mem_map_of_mem hr'))]
   exact h1
theorem R.ev {A : Amb} {own : Nat → Prop} {ok : Nat → Nat → Prop} {s : Nat → Option Nat} {st : St} {w : World} {a : Act} (h : R A own ok s st w a) (x : Operand) : Rep w ok s (a.eval x) (st.ev x) := by
 cases x with
 | tmp t =>
   simp only [Act.eval, St.ev]
   by_cases ht : t < st.tmps.length
   · have h1 : a.tmps[t]? = some (a.tmps.getD t undef) := by rw [Array.getD_eq_getD_getElem?, Array.getElem?_eq_getElem (show t < a.tmps.size from by rw [h.sz]; exact ht)]; rfl
     have h2 : st.tmps[t]? = some (st.tmps.getD t .undef) := by rw [List.getD_eq_getElem?_getD, List.getElem?_eq_getElem ht]; rfl
     exact h.tm t _ _ h1 h2
   · have : st.tmps.getD t .undef = .undef := by rw [List.getD_eq_getElem?_getD, List.getElem?_eq_none (Nat.le_of_not_lt ht)]; rfl
     rw [this]; exact .undef _
 | const v => exact ofVal_rep v
 | global g =>
   simp only [Act.eval, St.ev]
   split
   · rename_i vs hg
     refine .rp g 0 _ (fun j => vs.getD j undef) (fun j hj => ?_) (fun j d hd => ?_)
     · have hj : j < vs.length := by simpa using hj
       have := h.rh.gl g vs hg j vs[j] (List.getElem?_eq_getElem hj)
       rw [Nat.zero_add]
       refine ⟨this.1, this.2.trans ?_⟩
       simp [List.getD_eq_getElem?_getD, List.getElem?_eq_getElem hj]
     · rw [List.getElem?_map, Option.map_eq_some_iff] at hd
       obtain ⟨v, hv, rfl⟩ := hd
       have : vs.getD j undef = v := by simp [List.getD_eq_getElem?_getD, hv]
       rw [this]
       exact .lit _ (globT_lit hg v (List.mem_of_getElem? hv))
   · exact .undef _
 | func f => exact .fn (.func f) #[] #[] [] [] rfl rfl (fun i d v hd => by cases hd) (fun i d v hd => by cases hd)
theorem R.put {A : Amb} {own : Nat → Prop} {ok : Nat → Nat → Prop} {s : Nat → Option Nat} {st : St} {w : World} {a : Act} (h : R A own ok s st w a) (d : Option Tmp) {v : Value} {x : V} (hv : Rep w ok s v x) : R A own ok s (st.put d x) w (a.put d v) := by
 cases d with
 | none => exact h
 | some d =>
   refine ⟨h.rh, ?_, fun t u e hu he => ?_, h.fr, h.lm, h.amb, h.df⟩
   · simp [St.put, Act.put, h.sz]
   · simp only [Act.put] at hu
     simp only [St.put] at he
     by_cases e1 : d = t
     · subst e1
       by_cases hd : d < st.tmps.length
       · rw [List.getElem?_set_self hd] at he
         have : d < a.tmps.size := by rw [h.sz]; exact hd
         simp [this] at hu
         cases he
         subst hu
         exact hv
       · rw [List.getElem?_eq_none (by rw [List.length_set]; exact Nat.le_of_not_lt hd)] at he; cases he
     · rw [List.getElem?_set_ne e1] at he
       rw [Array.getElem?_setIfInBounds_ne e1] at hu
       exact h.tm t u e hu he
end Go.Aw
end
