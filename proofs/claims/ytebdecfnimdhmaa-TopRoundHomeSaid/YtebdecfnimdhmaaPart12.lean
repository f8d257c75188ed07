/-
  A part of the proof that a law returns true for every input that the given row speaks of: an own verified walk over the program (namespace Go.Aw), contracts of the functions that the law calls, and the law itself. Conditions: those of the given row, no other.
-/
import Derived.Test.YtebdecfnimdhmaaPart11
import Derived.ReadAgain
import Derived.ChangeSame
import Derived.Test.YtebdecfnimdhmaaRows
import Derived.SizedLaws
import Derived.JoinedOf
import Derived.RowKit
import Derived.RowKitTokens
import Derived.LaidLaws
import Derived.Stop.Joined
import Derived.OpenShut
import Derived.ChangeVars
import Derived.ProofKit
set_option linter.unusedVariables false
set_option linter.unusedSimpArgs false
section
namespace Go.Aw
open Go.RowKit Go.ChangeShapes Go.WideShapes
def RepL (w : World) (ok : Nat → Nat → Prop) (cs : List Value) (ds : List V) : Prop :=
 cs.length = ds.length ∧ ∀ (j : Nat) (d : V) (u : Value), ds[j]? = some d → cs[j]? = some u → Rep w ok (fun _ => none) u d
theorem exists_list {α : Type} {p : Nat → α → Prop} : ∀ n, (∀ i, i < n → ∃ a, p i a) → ∃ l : List α, l.length = n ∧ ∀ i a, l[i]? = some a → p i a
 | 0, _ => ⟨[], rfl, fun i a h => by cases h⟩
 | n + 1, h => by
   obtain ⟨l, hl, hp⟩ := exists_list n fun i hi => h i (by omega)
   obtain ⟨a, ha⟩ := h n (by omega)
   refine ⟨l ++ [a], by simp [hl], fun i b hb => ?_⟩
   rcases Nat.lt_or_ge i l.length with h1 | h1
   · rw [List.getElem?_append_left h1] at hb; exact hp i b hb
   · rw [List.getElem?_append_right h1] at hb
     have : i - l.length = 0 := by
       refine Classical.byContradiction fun hc => ?_
       rw [List.getElem?_eq_none (by simp; omega)] at hb; cases hb
     rw [this] at hb
     cases hb
     obtain rfl : i = n := by omega
     exact ha
theorem cells?_get {w : World} {base : Nat} {a : Addr} {n : Nat} {cs : List Value} (h : w.cells? base a n = some cs) : cs.length = n ∧ ∀ j, j < n → ∃ u, cs[j]? = some u ∧ w.cell? (a.add j) = some u := by
 unfold World.cells? at h
 split at h
 · have hl := mapM_some_length h
   rw [List.length_range] at hl
   refine ⟨hl, fun j hj => ?_⟩
   have := mapM_some_get h j j (by simp [hj])
   obtain ⟨u, hu⟩ : ∃ u, cs[j]? = some u := ⟨cs[j], List.getElem?_eq_getElem (by omega)⟩
   exact ⟨u, hu, by rw [this, hu]⟩
 · cases h
theorem add_at (b o n : Nat) : (⟨b, o, none⟩ : Addr).add n = ⟨b, o + n, none⟩ := by
 unfold Addr.add
 split
 · rename_i h; subst h; rfl
 · rfl
theorem add_add' (b o x j : Nat) : ((⟨b, o, none⟩ : Addr).add x).add j = ⟨b, o + x + j, none⟩ := by rw [add_at, add_at]
section
variable {H : Type} {enc : TypeId × Value → H} {P : Program} {w : World} {ok : Nat → Nat → Prop} {sp : Nat → Bool}
theorem mem_weightsAll {e : TypeId} : ∀ {es : List (DataW H)} {d : DataW H} {m : Nat}, d ∈ es → m ∈ d.weights P e → m ∈ DataW.weightsAll P e es
 | [], d, m, h, _ => by cases h
 | a :: r, d, m, h, hm => by
   simp only [DataW.weightsAll, List.mem_append]
   rcases List.mem_cons.1 h with rfl | h
   · exact .inl hm
   · exact .inr (mem_weightsAll h hm)
theorem slice_rep {α : Type} {en : α → List V} {k : Nat} {q : α → Prop} {t e : TypeId} (hk0 : 0 < k) (ht : P.underlying t = some (.slice e)) (hk : P.cellsOf e = k) (hb : 0 < P.bytesOf e)
   (hlen : ∀ a, (en a).length = k)
   (hel : ∀ n cs x, DataW.trod enc P w 0 sp true n e cs = some x → (∀ m ∈ x.1.weights P e, m ≤ reachBytes) → ∃ a, q a ∧ RepL w ok cs (en a))
   (hok : ∀ b o u, w.cell? ⟨b, o, none⟩ = some u → ok b o)
   {n : Nat} {cs : List Value} {x : DataW H × List MemPlace} (h : DataW.trod enc P w 0 sp true n t cs = some x) (hw : ∀ m ∈ x.1.weights P t, m ≤ reachBytes) :
   ∃ (v : Value) (l : List α), cs = [v] ∧ l.length ≤ reachBytes ∧ (∀ a ∈ l, q a) ∧ Rep w ok (fun _ => none) v (.sl k (l.map en) false) := by
 rcases DataW.trod_slice ht h with ⟨rfl, rfl⟩ | ⟨a, len, cap, elems, rest, m, rfl, rfl, rfl, hbase, hlc, hcm, hel1, hel2, hsp, hsp2⟩
 · exact ⟨_, [], rfl, Nat.zero_le _, fun a ha => (by cases ha), .sl none 0 0 k [] false (fun _ _ => undef) rfl (Nat.le_refl _) (fun h => by cases h) (fun i j hi => absurd hi (Nat.not_lt_zero _)) (fun e he => by cases he) (fun i j e d he => by cases he)⟩
 · rw [hk] at hel2
   have hwt : (elems.length + rest.length) * P.bytesOf e ≤ reachBytes ∧ ∀ d ∈ elems.map (·.1), ∀ m ∈ d.weights P e, m ≤ reachBytes := by
     simp only [DataW.weights, ht, List.length_map] at hw
     refine ⟨hw _ (List.mem_cons_self ..), fun d hd m hm => hw m ?_⟩
     exact List.mem_cons_of_mem _ (List.mem_append_left _ (mem_weightsAll hd hm))
   have key : ∀ i, i < len → ∃ p : α × List Value, w.cells? 0 (a.add (i * k)) k = some p.2 ∧ q p.1 ∧ RepL w ok p.2 (en p.1) := fun i hi => by
     have h1 := hel2 i hi
     obtain ⟨y, hy⟩ : ∃ y, elems[i]? = some y := ⟨elems[i], List.getElem?_eq_getElem (by omega)⟩
     rw [hy, Option.bind_eq_some_iff] at h1
     obtain ⟨cs, hc1, hc2⟩ := h1
     obtain ⟨b, hb1, hb2⟩ := hel _ _ _ hc2 (hwt.2 y.1 (List.mem_map_of_mem (List.mem_of_getElem? hy)))
     exact ⟨(b, cs), hc1, hb1, hb2⟩
   obtain ⟨l, hl, hp⟩ := exists_list len key
   have hspot : 0 < len → a.spot = none := fun h0 => by
     obtain ⟨p, hp1, _, _⟩ := key 0 h0
     obtain ⟨u, _, hu⟩ := (cells?_get hp1).2 0 hk0
     simp only [Nat.zero_mul, Addr.add, if_true] at hu
     unfold World.cell? at hu
     split at hu
     · split at hu
       · cases hu
       · rename_i hn; simpa using hn
     · cases hu
   refine ⟨_, l.map (·.1), rfl, ?_, ?_, ?_⟩
   · rw [List.length_map, hl, ← hel1]
     refine Nat.le_trans ?_ hwt.1
     exact Nat.le_trans (Nat.le_add_right _ _) (Nat.le_mul_of_pos_right _ hb)
   · intro b hb
     obtain ⟨p, hp1, rfl⟩ := List.mem_map.1 hb
     obtain ⟨i, hi⟩ := List.getElem?_of_mem hp1
     exact (hp i p hi).2.1
   · refine .sl (some a) len cap k _ false (fun i j => (w.cell? (a.add (i * k + j))).getD undef) (by simp [hl]) hlc (fun h => by cases h) (fun i j hi hj => ?_) (fun e he => ?_) (fun i j e d he hd => ?_)
     · obtain ⟨b, o, s⟩ := a
       obtain rfl : s = none := hspot (by omega)
       obtain ⟨p, hp1, _, _⟩ := key i hi
       obtain ⟨u, _, hu⟩ := (cells?_get hp1).2 j hj
       rw [add_add'] at hu
       have e1 : (⟨b, o, none⟩ : Addr).add (i * k + j) = ⟨b, o + i * k + j, none⟩ := by rw [add_at, Nat.add_assoc]
       exact ⟨b, o, rfl, hok _ _ _ hu, by rw [e1, hu]; rfl⟩
     · rw [List.map_map] at he
       obtain ⟨p, hp1, rfl⟩ := List.mem_map.1 he
       exact hlen _
     · rw [List.map_map, List.getElem?_map, Option.map_eq_some_iff] at he
       obtain ⟨p, hp1, rfl⟩ := he
       obtain ⟨h1, h2, h3⟩ := hp i p hp1
       have hi : i < len := by rw [← hl]; exact (List.getElem?_eq_some_iff.1 hp1).1
       have hj : j < k := by
         have := (List.getElem?_eq_some_iff.1 hd).1
         simp only [Function.comp] at this
         rwa [hlen] at this
       obtain ⟨u, hu1, hu2⟩ := (cells?_get h1).2 j hj
       have : w.cell? (a.add (i * k + j)) = some u := by
         obtain ⟨b, o, s⟩ := a
         obtain rfl : s = none := hspot (by omega)
         rw [add_add'] at hu2
         rw [← hu2, Nat.add_assoc, add_at]
       show Rep w ok _ ((w.cell? (a.add (i * k + j))).getD undef) d
       rw [this]
       exact h3.2 j d u hd hu1
theorem int_rep {k : IntKind} {t : TypeId} (ht : P.underlying t = some (.int k)) {n : Nat} {cs : List Value} {x : DataW H × List MemPlace} (h : DataW.trod enc P w 0 sp true n t cs = some x) : ∃ i, cs = [.int k i] ∧ k.min ≤ i ∧ i ≤ k.max := by
 obtain ⟨i, h1, _, h2⟩ := DataW.trod_int ht h
 simp only [Lit.wf, Bool.and_eq_true, decide_eq_true_eq] at h2
 exact ⟨i, h1, h2.1, h2.2⟩
end
theorem Evol.kept {ok ok' : Nat → Nat → Prop} {own' : Nat → Prop} {w w' : World} (he : Evol (fun _ => False) ok w own' ok' w') : w.keptBut w' (fun _ => False) := by
 refine ⟨he.os, he.output, fun i hi => ?_⟩
 rw [he.unch i hi (fun h => h)]
 cases w.heap[i]? with
 | none => rfl
 | some o => cases o <;> simp
theorem Evol.sameAt {ok ok' : Nat → Nat → Prop} {own' : Nat → Prop} {w w' : World} (he : Evol (fun _ => False) ok w own' ok' w') {p : MemPlace} (hp : p.block < w.heap.size) : w.sameAt w' p := by
 have h := he.unch p.block hp (fun h => h)
 cases p with
 | cell b off => exact World.cell?_of_block (w := w) (a := ⟨b, off, none⟩) h
 | map b => exact h
end Go.Aw
end
section
set_option maxRecDepth 100000
namespace Go.Aw
open Go.RowKit Go.ChangeShapes Go.WideShapes Go.Proofs
theorem own0 : ownKnob Try.prog.godebug = none := by kernel_rfl
theorem laidOut0 : laidOutB Try.prog = true := by kernel_rfl
theorem rowed0 : mapsRowed Try.prog = true := by kernel_rfl
theorem full0 : ∀ t e, t < Try.prog.types.size → Try.prog.underlying t = some (.slice e) → 0 < Try.prog.cellsOf e := slices_full_of _ (by kernel_rfl)
def okAll (w : World) (b o : Nat) : Prop := ∃ u, w.cell? ⟨b, o, none⟩ = some u
theorem glob_none (w : World) : GlobOk w (okAll w) := by
 intro g vs hg
 simp [globT] at hg
theorem all_kept {H : Type} {enc : TypeId × Value → H} {w w' : World} {own' : Nat → Prop} {ok ok' : Nat → Nat → Prop} (he : Evol (fun _ => False) ok w own' ok' w') :
   ∀ {ts : List TypeId} {vs : List Value} {ds : List (DataW H)} {ps : List MemPlace}, DataW.TrodAll enc Try.prog w 0 (fun _ => true) true ts vs ds ps → DataW.TrodAll enc Try.prog w' 0 (fun _ => true) true ts vs ds ps
 | [], [], [], _, h => h
 | _ :: _, _ :: _, _ :: _, _, ⟨p, q, ⟨n, h1⟩, h2, e⟩ => ⟨p, q, ⟨n, DataW.trod_carry _ _ _ _ h1 fun a ha => he.sameAt (DataW.trod_lt _ _ _ _ h1 a ha)⟩, all_kept he h2, e⟩
theorem lifted_of {f : FuncId} {fn : Func} {s : ChangeSpec} (hfn : Try.prog.funcs[f]? = some fn) (hvars : s.vars = []) (hni : Try.prog.inits.idxOf? f = none)
   (hspec : ∀ (H : Type) (ds : List (DataW H)), ds.length = fn.params.toList.length → s.fn H ds = { results := [.lit (.bool true)], args := ds })
   (hres : fn.resultTypes.toList = [4]) (hps : ∀ t ∈ fn.params.toList, t < Try.prog.types.size)
   (hread : ∀ {H : Type} {enc : TypeId × Value → H} (w : World) (base : Nat) (args : Array Value) (ds : List (DataW H)) (p : List MemPlace), (∀ (j : Nat) t v, fn.params[j]? = some t → args[j]? = some v → Value.okWide Try.prog w .any base t v) →
     DataW.TrodAll enc Try.prog w 0 (fun _ => true) true fn.params.toList args.toList ds p → (∀ m ∈ DataW.weightsEach Try.prog fn.params.toList ds, m ≤ reachBytes) →
     ∃ av : List V, args.size = av.length ∧ (∀ (i : Nat) (d : V) (v : Value), av[i]? = some d → args[i]? = some v → Rep w (okAll w) (fun _ => none) v d) ∧ CallsTo Try.prog f av (.lit (.bool true)))
   (os : Os) (started : os.Started) (H : Type) (enc : TypeId × Value → H)
   (hwit : ∃ (w : World) (tape : Tape) (i : Input), w.os = os ∧ (w.forCall tape i).Shaped Try.checked.prog ∧ i.vars = [] ∧ Input.okWide Try.checked.prog (w.forCall tape i) .any w.heap.size f i ∧
     s.pre6 enc Try.checked.prog fn [] false (w.forCall tape i).memory i.args ∧ ({} : Assume).holds Try.checked.prog (lone (Frame.enter Try.checked.prog f i.args .normal) [] (w.forCall tape i))) :
   ReturnsInHanded {} Try.checked os f .any (s.pre6 enc Try.checked.prog fn [] false) (s.post enc Try.checked.prog fn false true false false) := by
 refine returnsInHanded_of_change_sized (C := Try.checked) own0 started hni hfn hwit ?_
 intro W base args ds gs before hval hW _ hwts _
 have hW' := hW
 obtain ⟨p, q, hA, hV, hpq, hfz, hnd⟩ := hW
 rw [hvars] at hV
 obtain ⟨rfl, rfl⟩ : gs = [] ∧ q = [] := by
   cases gs with
   | nil => exact ⟨rfl, hV⟩
   | cons g r => exact absurd hV (by intro h; cases h)
 have hvt : s.plain.varTypes Try.checked.prog = [] := by unfold DataSpec.varTypes ChangeSpec.plain; rw [hvars]; rfl
 rw [hvt, List.append_nil, List.append_nil, List.all_eq_true] at hwts
 obtain ⟨av, hsz, hrep, hct⟩ := hread W base args ds p hval hA (fun m hm => by simpa using hwts m hm)
 refine ((hct W (okAll W) args (fun b o h => h) (glob_none W) hsz hrep).calls (FW_room _)).mono fun e W' ⟨v, own', ok', he, hev, _, hrv⟩ => ?_
 subst he
 refine ⟨v, rfl, ?_⟩
 have hv : v = .bool true := by cases hrv; rfl
 subst hv
 have hlen : ds.length = fn.params.toList.length := by
   have key : ∀ {ts : List TypeId} {vs : List Value} {ds : List (DataW H)} {ps : List MemPlace}, DataW.TrodAll enc Try.prog W 0 (fun _ => true) true ts vs ds ps → ds.length = ts.length := by
     intro ts
     induction ts with
     | nil => intro vs ds ps h; obtain ⟨_, rfl, _⟩ := trodAll_nil h; rfl
     | cons t ts ih =>
       intro vs ds ps h
       obtain ⟨v, vs', d, ds', p, q, _, rfl, _, _, h2⟩ := trodAll_cons h
       simp [ih h2]
   exact key hA
 have hfnd : s.fn H (ds ++ []) = { results := [.lit (.bool true)], args := ds } := by rw [List.append_nil]; exact hspec H ds hlen
 refine ⟨ds, [], before, [], p, [], hW', ?_, ?_, ?_, World.keptBut_mono (fun _ f => f.elim) hev.kept, fun h => by cases h⟩
 · rw [hfnd, hres]
   have : (Value.bool true).resultList fn.resultTypes.size = [.bool true] := by
     have : fn.resultTypes.size = 1 := by rw [← Array.length_toList, hres]; rfl
     rw [this]; rfl
   rw [this]
   exact trodAll_mk1 (shut_bool (P := Try.prog) (by kernel_rfl) true)
 · rw [hfnd]
   refine DataW.TrodAll.respare (P := Try.prog) (T := (· < Try.prog.types.size)) (kids_rows laidOut0 rowed0) full0 hps (all_kept hev hA) fun a ha => ?_
   exact decide_eq_true (DataW.TrodAll.lt hA a ha)
 · rw [hfnd, hvars]; rfl
end Go.Aw
end
section
set_option maxRecDepth 100000
namespace Go.Aw
open Go.RowKit Go.ChangeShapes Go.WideShapes Go.Proofs
section
variable {H : Type} {enc : TypeId × Value → H} {w : World}
def isBy (c : Value) : Prop := ∃ m, c = .int .u8 m ∧ 0 ≤ m ∧ m ≤ 255
def AllBy (enc : TypeId × Value → H) (w : World) (t : TypeId) : Prop := ∀ n cs x, DataW.trod enc Try.prog w 0 (fun _ => true) true n t cs = some x → cs.length = Try.prog.cellsOf t ∧ ∀ c ∈ cs, isBy c
theorem by_u8 : AllBy enc w 5 := fun n cs x h => by
 obtain ⟨i, rfl, h1, h2⟩ := int_rep Try.underlying5 h
 have h1 : (0 : Int) ≤ i := h1
 have h2 : i ≤ 255 := h2
 refine ⟨by kernel_rfl, fun c hc => ?_⟩
 rw [List.mem_singleton] at hc
 exact ⟨i, hc, h1, h2⟩
theorem by_arr {t e : TypeId} {k : Nat} (ht : Try.prog.underlying t = some (.array k e)) (hc : Try.prog.cellsOf t = k * Try.prog.cellsOf e) (he : AllBy enc w e) : AllBy enc w t := fun n cs x h => by
 obtain ⟨xs, m, rfl, rfl, hl, hlen, hf⟩ := DataW.trod_array ht h
 refine ⟨hl, fun c hm => ?_⟩
 obtain ⟨j, hj, rfl⟩ := List.getElem_of_mem hm
 rw [hc] at hl
 generalize Try.prog.cellsOf e = q at *
 have hq : 0 < q := by
   rcases Nat.eq_zero_or_pos q with h0 | h0
   · rw [h0] at hl; simp at hl; rw [hl] at hj; simp at hj
   · exact h0
 have hjk : j / q < k := by
   rw [Nat.div_lt_iff_lt_mul hq]; omega
 have h1 := hf (j / q) hjk
 obtain ⟨y, hy⟩ : ∃ y, xs[j / q]? = some y := ⟨xs[j / q], List.getElem?_eq_getElem (by omega)⟩
 rw [hy] at h1
 obtain ⟨h2, h3⟩ := he _ _ _ h1
 refine h3 _ ?_
 have h4 : (((cs.drop (j / q * q)).take q)[j % q]? ) = some cs[j] := by
   rw [List.getElem?_take_of_lt (Nat.mod_lt _ hq), List.getElem?_drop, show j / q * q + j % q = j from by rw [Nat.mul_comm]; exact Nat.div_add_mod j q]
   exact List.getElem?_eq_getElem hj
 exact List.mem_of_getElem? h4
theorem by_struct2 {t : TypeId} {f0 f1 : Field} (ht : Try.prog.underlying t = some (.struct #[f0, f1])) (h0 : f0.offset = 0) (h1 : f1.offset = Try.prog.cellsOf f0.type) (hc : Try.prog.cellsOf t = Try.prog.cellsOf f0.type + Try.prog.cellsOf f1.type) (k0 : AllBy enc w f0.type) (k1 : AllBy enc w f1.type) : AllBy enc w t := fun n cs x h => by
 obtain ⟨xs, m, rfl, rfl, hl, hlen, hf⟩ := DataW.trod_struct ht h
 refine ⟨hl, fun c hm => ?_⟩
 have g0 := hf 0 f0 rfl
 have g1 := hf 1 f1 rfl
 have hlen2 : xs.length = 2 := hlen
 obtain ⟨y0, hy0⟩ : ∃ y, xs[0]? = some y := ⟨xs[0], List.getElem?_eq_getElem (by omega)⟩
 obtain ⟨y1, hy1⟩ : ∃ y, xs[1]? = some y := ⟨xs[1], List.getElem?_eq_getElem (by omega)⟩
 rw [hy0, h0, List.drop_zero] at g0
 rw [hy1, h1] at g1
 obtain ⟨l0, b0⟩ := k0 _ _ _ g0
 obtain ⟨l1, b1⟩ := k1 _ _ _ g1
 rw [hc] at hl
 generalize Try.prog.cellsOf f0.type = q at *
 have hs : cs.take q ++ cs.drop q = cs := List.take_append_drop _ _
 rw [← hs, List.mem_append] at hm
 rcases hm with hm | hm
 · exact b0 c hm
 · refine b1 c ?_
   rw [List.take_of_length_le (by rw [List.length_drop]; omega)]
   exact hm
theorem by_72 : AllBy enc w 22 := by_arr Try.underlying22 (by kernel_rfl) by_u8
theorem by_77 : AllBy enc w 23 := by_arr Try.underlying23 (by kernel_rfl) by_72
theorem by_2 : AllBy enc w 24 := by_arr Try.underlying24 (by kernel_rfl) by_u8
theorem by_62 : AllBy enc w 25 := by_arr Try.underlying25 (by kernel_rfl) by_2
theorem by_oak : AllBy enc w 27 := by_struct2 Try.underlying27 rfl (by kernel_rfl) (by kernel_rfl) by_77 by_62
theorem by_list {cs : List Value} (h : ∀ c ∈ cs, isBy c) : ∃ l : List Int, cs = l.map (fun n => Value.int .u8 n) ∧ ∀ n ∈ l, 0 ≤ n ∧ n ≤ 255 := by
 induction cs with
 | nil => exact ⟨[], rfl, fun n hn => by cases hn⟩
 | cons c cs ih =>
   obtain ⟨m, rfl, h1⟩ := h c (List.mem_cons_self ..)
   obtain ⟨l, rfl, h2⟩ := ih fun c hc => h c (List.mem_cons_of_mem _ hc)
   exact ⟨m :: l, rfl, fun n hn => by
     rcases List.mem_cons.1 hn with rfl | hn
     · exact h1
     · exact h2 n hn⟩
theorem okWide_cells {P : Program} {r : Reach} {base : Nat} {t : TypeId} {v : Value} {fs : Array Field} (ht : P.underlying t = some (.struct fs)) (h : Value.okWide P w r base t v) : ∃ cs, v = .agg cs ∧ cs.size = P.cellsOf t := by
 simp only [Value.okWide, ht] at h
 obtain ⟨cs, h1, h2, _⟩ := h
 exact ⟨cs, h1, h2⟩
theorem rep_bytes {vs : Array Value} {l : List Int} (hv : vs.toList = l.map (fun n => Value.int .u8 n)) : Rep w (okAll w) (fun _ => none) (.agg vs) (.agg (l.map fun n => u8r n)) := by
 refine .agg vs _ (by rw [← Array.length_toList, hv]; simp) fun i d u hd hu => ?_
 rw [← Array.getElem?_toList, hv, List.getElem?_map, Option.map_eq_some_iff] at hu
 rw [List.getElem?_map, Option.map_eq_some_iff] at hd
 obtain ⟨a, ha, rfl⟩ := hu
 obtain ⟨b, hb, rfl⟩ := hd
 rw [ha] at hb
 cases hb
 exact .lit _ rfl
theorem oak_read {base : Nat} {v : Value} {d : DataW H} {p : List MemPlace} (hv : Value.okWide Try.prog w .any base 27 v) (h : DataW.Trod enc Try.prog w 0 (fun _ => true) true 27 v d p) :
   ∃ rb : List Int, Rep w (okAll w) (fun _ => none) v (.agg (bytC rb)) ∧ Byt rb := by
 obtain ⟨vs, rfl, hsz⟩ := okWide_cells Try.underlying27 hv
 obtain ⟨n, h⟩ := h
 obtain ⟨hl, hc⟩ := by_oak _ _ _ h
 obtain ⟨l, hl2, hb⟩ := by_list hc
 refine ⟨l, rep_bytes hl2, ⟨?_, fun i => ?_⟩⟩
 · have := congrArg List.length hl2
   rw [hl, List.length_map] at this
   rw [← this]
   exact (show Try.prog.cellsOf 27 = 61 by kernel_rfl)
 · rcases Nat.lt_or_ge i l.length with hi | hi
   · rw [List.getD_eq_getElem?_getD, List.getElem?_eq_getElem hi]
     exact hb _ (List.getElem_mem hi)
   · rw [List.getD_eq_getElem?_getD, List.getElem?_eq_none hi]
     exact ⟨Int.le_refl 0, by decide⟩
theorem by2_hel : ∀ n cs x, DataW.trod enc Try.prog w 0 (fun _ => true) true n 24 cs = some x → (∀ m ∈ x.1.weights Try.prog 24, m ≤ reachBytes) → ∃ a, BxOk a ∧ RepL w (okAll w) cs (encBy a) := fun n cs x h _ => by
 obtain ⟨hl, hc⟩ := by_2 _ _ _ h
 have hl2 : cs.length = 2 := hl.trans (by kernel_rfl)
 match cs, hl2 with
 | [c0, c1], _ =>
   obtain ⟨m0, rfl, h0⟩ := hc c0 (by simp)
   obtain ⟨m1, rfl, h1⟩ := hc c1 (by simp)
   refine ⟨(m0, m1), ⟨h0, h1⟩, rfl, fun j d u hd hu => ?_⟩
   match j with
   | 0 => cases hd; cases hu; exact .lit _ rfl
   | 1 => cases hd; cases hu; exact .lit _ rfl
   | j + 2 => cases hd
theorem okWide_one {P : Program} {r : Reach} {base : Nat} {t e : TypeId} {v : Value} (ht : P.underlying t = some (.slice e)) (h : Value.okWide P w r base t v) : v.cells = #[v] := by
 simp only [Value.okWide, ht, Cell.okWide, Cell.ok] at h
 cases v <;> first | rfl | exact absurd h id
theorem by2s_read {base : Nat} {v : Value} {d : DataW H} {p : List MemPlace} (hv : Value.okWide Try.prog w .any base 50 v) (h : DataW.Trod enc Try.prog w 0 (fun _ => true) true 50 v d p) (hw : ∀ m ∈ d.weights Try.prog 50, m ≤ reachBytes) :
   ∃ l : List (Int × Int), l.length ≤ 4611686018427387904 ∧ (∀ a ∈ l, BxOk a) ∧ Rep w (okAll w) (fun _ => none) v (.sl 2 (l.map encBy) false) := by
 obtain ⟨n, h⟩ := h
 obtain ⟨v', l, e, h1, h2, h3⟩ := slice_rep (k := 2) (en := encBy) (q := BxOk) (by decide) Try.underlying50 (by kernel_rfl) (of_decide_eq_true (by kernel_rfl)) (fun _ => rfl) by2_hel (fun b o u h => ⟨u, h⟩) h hw
 rw [okWide_one Try.underlying50 hv] at e
 cases e
 have hr : reachBytes ≤ 4611686018427387904 := by decide
 exact ⟨l, by omega, h2, h3⟩
theorem u8_readT {base : Nat} {v : Value} {d : DataW H} {p : List MemPlace} (hv : Value.okWide Try.prog w .any base 5 v) (h : DataW.Trod enc Try.prog w 0 (fun _ => true) true 5 v d p) : ∃ f : Nat, f ≤ 255 ∧ Rep w (okAll w) (fun _ => none) v (u8r f) := by
 obtain ⟨i, rfl, rfl, h1, h2⟩ := open_int Try.underlying5 hv h
 simp only [Lit.wf, Bool.and_eq_true, decide_eq_true_eq] at h2
 have h3 : (0 : Int) ≤ i := h2.1
 have h4 : i ≤ 255 := h2.2
 refine ⟨i.toNat, by omega, ?_⟩
 rw [show ((i.toNat : Nat) : Int) = i from by omega]
 exact .lit _ rfl
end
end Go.Aw
end
section
set_option maxRecDepth 100000
namespace Go.Proofs.Ytebdecfnimdhmaa
open Go Go.Aw Go.RowKit Go.ChangeShapes Go.WideShapes
theorem topRoundHome_wit (os : Os) (H : Type) (enc : TypeId × Value → H) : ∃ (w : World) (tape : Tape) (i : Input), w.os = os ∧ (w.forCall tape i).Shaped Try.checked.prog ∧ i.vars = [] ∧ Input.okWide Try.checked.prog (w.forCall tape i) .any w.heap.size 4 i ∧
     Rows.topRoundHomeSpec.pre6 enc Try.checked.prog Try.f4 [] false (w.forCall tape i).memory i.args ∧ ({} : Assume).holds Try.checked.prog (lone (Frame.enter Try.checked.prog 4 i.args .normal) [] (w.forCall tape i)) :=
 ChangeSpec.witness6 (enc := enc) (C := Try.checked) (os := os) false ⟨#[], #[.agg (Array.replicate 61 (.int .u8 0)), .slice none 0 0, .int .u8 0], []⟩ 8 (by kernel_rfl) (by kernel_rfl) (by kernel_rfl) (by kernel_rfl)
theorem topRoundHome_said : Rows.TopRoundHomeSaid :=
 OpenClaim.holds_of_wide 4 Try.f4 rfl rfl rfl rfl rfl rfl rfl ⟨rfl, rfl, rfl, rfl, rfl⟩ rfl rfl rfl rfl rfl (by kernel_rfl) Try.func4 (by kernel_rfl)
   (of_decide_eq_true (by kernel_rfl)) (by unfold Func.isWrapper; first | (rw [if_pos (by decide +kernel)]; kernel_rfl) | (rw [if_neg (by decide +kernel)]; exact ⟨rfl, rfl⟩))
   (fun os started H enc _ => lifted_of Try.func4 rfl (by kernel_rfl) (fun H ds hd => by
       match ds, hd with
       | [_, _, _], _ => rfl) (by kernel_rfl) (fun t ht => by
         have : Try.f4.params.toList.all (fun t => decide (t < Try.prog.types.size)) = true := by kernel_rfl
         simpa using List.all_eq_true.1 this t ht)
     (fun {H enc} w base args ds p hv hA hw => by
       rw [Try.params4] at hA hv hw
       obtain ⟨v0, vs0, d0, ds0, p0, q0, e0, rfl, _, g0, r0⟩ := trodAll_cons hA
       obtain ⟨v1, vs1, d1, ds1, p1, q1, rfl, rfl, _, g1, r1⟩ := trodAll_cons r0
       obtain ⟨v2, vs2, d2, ds2, p2, q2, rfl, rfl, _, g2, r2⟩ := trodAll_cons r1
       obtain ⟨rfl, rfl, _⟩ := trodAll_nil r2
       obtain rfl : args = #[v0, v1, v2] := by cases args; simp_all
       obtain ⟨rb, h0, hr⟩ := oak_read (hv 0 27 v0 rfl rfl) g0
       obtain ⟨bx, hl, hb, h1⟩ := by2s_read (hv 1 50 v1 rfl rfl) g1 (fun m hm => hw m (List.mem_append_right _ (List.mem_append_left _ hm)))
       obtain ⟨f, hf, h2⟩ := u8_readT (hv 2 5 v2 rfl rfl) g2
       refine ⟨[.agg (bytC rb), .sl 2 (bx.map encBy) false, u8r f], rfl, fun i d u hd hu => ?_, (TopRoundHome_spec rb bx false f hr hb hf hl).1⟩
       match i with
       | 0 => cases hd; cases hu; exact h0
       | 1 => cases hd; cases hu; exact h1
       | 2 => cases hd; cases hu; exact h2
       | i + 3 => cases hd) os started H enc (topRoundHome_wit os H enc))
#print axioms topRoundHome_said
end Go.Proofs.Ytebdecfnimdhmaa
end
