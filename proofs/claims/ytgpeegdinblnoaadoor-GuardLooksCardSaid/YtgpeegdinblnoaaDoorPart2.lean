/-
  A part of the proof that a law returns true for every input that the given row speaks of: an own verified walk over the program (namespace Go.Aw), contracts of the functions that the law calls, and the law itself. Conditions: those of the given row, no other.
-/
import Derived.Test.YtgpeegdinblnoaaDoorPart1
import Derived.OrdersIn
import Derived.RangeFuncRecord
import Derived.RangeFuncNested
set_option linter.unusedVariables false
set_option linter.unusedSimpArgs false
section
namespace Go.Aw
open Go.RowKit
def thenQ (K : St → Prop) (Q : Exit → St → Prop) : Exit → St → Prop
 | .normal, st => K st
 | e, st => Q e st
def blockQ (id : Nat) (Q : Exit → St → Prop) : Exit → St → Prop
 | .exit id', st => if id' = id then Q .normal st else Q (.exit id') st
 | e, st => Q e st
def Weak (st st' : St) : Prop := ∀ (A : Amb) (own : Nat → Prop) (ok : Nat → Nat → Prop) (s : Nat → Option Nat) (w : World) (a : Act), A.Stable → R A own ok s st w a → ∃ own' ok' s', R A own' ok' s' st' w a
inductive IdLt (L : Nat) : V → Prop
 | pu (v : V) (h : Pu v) : IdLt L v
 | ref (id k i off : Nat) (h : id < L) : IdLt L (.ref id k i off)
 | os (id k n : Nat) (ex : Bool) (h : id < L) : IdLt L (.os id k n ex)
 | mp (id : Nat) (h : id < L) : IdLt L (.mp id)
 | agg (cs : List V) (h : ∀ c ∈ cs, IdLt L c) : IdLt L (.agg cs)
 | tup (cs : List V) (h : ∀ c ∈ cs, IdLt L c) : IdLt L (.tup cs)
 | fn (f : Fn) (a b : List V) (h1 : ∀ c ∈ a, IdLt L c) (h2 : ∀ c ∈ b, IdLt L c) : IdLt L (.fn f a b)
def IdsLt (L : Nat) (tm : List V) : Prop := ∀ c ∈ tm, IdLt L c
theorem Rep.idLt {w : World} {ok : Nat → Nat → Prop} {s : Nat → Option Nat} {L : Nat} {d : V} (hl : IdLt L d) : ∀ {v : Value}, Rep w ok s v d → Rep w ok (fun id => if id < L then s id else none) v d := by
 induction hl with
 | pu d h => intro v hv; exact hv.pu h
 | ref id k i off h => intro v hv; cases hv with | ref _ _ _ _ B hB => exact .ref _ _ _ _ B (by rw [if_pos h]; exact hB)
 | os id k n ex h =>
   intro v hv
   cases hv with
   | os0 _ _ _ a => exact .os0 _ _ _ a
   | os _ _ _ _ B cap ty sz hB hn hex hsh hcap => exact .os _ _ _ _ B cap ty sz (by rw [if_pos h]; exact hB) hn hex hsh hcap
 | mp id h => intro v hv; cases hv with | mp _ B hB => exact .mp _ B (by rw [if_pos h]; exact hB)
 | agg cs h ih => intro v hv; cases hv with | agg vs _ hl' hcs => exact .agg vs cs hl' fun i d v hd hv => ih d (List.mem_of_getElem? hd) (hcs i d v hd hv)
 | tup cs h ih => intro v hv; cases hv with | tup vs _ hl' hcs => exact .tup vs cs hl' fun i d v hd hv => ih d (List.mem_of_getElem? hd) (hcs i d v hd hv)
 | fn f a b h1 h2 ih1 ih2 =>
   intro v hv
   cases hv with
   | fn _ vs us _ _ g1 g2 k1 k2 => exact .fn f vs us a b g1 g2 (fun i d v hd hv => ih1 d (List.mem_of_getElem? hd) (k1 i d v hd hv)) (fun i d v hd hv => ih2 d (List.mem_of_getElem? hd) (k2 i d v hd hv))
theorem Weak.refl (st : St) : Weak st st := fun _ own ok s _ _ _ h => ⟨own, ok, s, h⟩
theorem Weak.trans {a b c : St} (h : Weak a b) (g : Weak b c) : Weak a c := fun A own ok s w x hA hr => by
 obtain ⟨o1, k1, s1, h1⟩ := h A own ok s w x hA hr
 exact g A o1 k1 s1 w x hA h1
def isVCall : Op → Bool
 | .call ⟨.value _, _, _⟩ => true
 | _ => false
def guardOk (ops : Array Oper) (st : St) (o : Oper) : Option Bool :=
 match o.guard with
 | none => some true
 | some (j, want) => match (ops[j]?).bind (·.dst) with
   | some d => match st.tmps.getD d .undef with
     | .lit (.bool b) => some (b == want)
     | .tup [] => some false
     | _ => none
   | none => none
def ActA (e : Option Eff) (dst : Option Tmp) (K : St → Prop) (st : St) : Prop :=
 match e with
 | some e => e.c ∧ (e.wr.all fun p => decide (p.1 < st.nx + 64)) = true ∧ K (St.put { st with h := applyWr st.h e.wr } dst e.v)
 | none => False
def frz (ids : List Nat) (h : Hp) : Hp := fun i => if i ∈ ids then (h i).map fun b => if b.mode = .wr then { b with mode := .fz } else b else h i
def PurL (fr : Bool) (h : Hp) (as bs : List V) : Prop := as.length = bs.length ∧ ∀ (i : Nat) (d d' : V), as[i]? = some d → bs[i]? = some d' → Pur fr h d d'
def CallH (P : Program) (g : FuncId) (args : List V) (h : Hp) (nx : Nat) (Post : V → Hp → Nat → Prop) : Prop :=
 ∀ (w : World) (own : Nat → Prop) (ok : Nat → Nat → Prop) (s : Nat → Option Nat) (vals : Array Value), RH w own ok s h → (∀ id, nx ≤ id → s id = none ∧ h id = none) → vals.size = args.length →
   (∀ (i : Nat) (d : V) (v : Value), args[i]? = some d → vals[i]? = some v → Rep w ok s v d) →
   CallsIn (FW none) 0 P g vals w fun e w' => ∃ v r h' nx' own' ok' s', e = .returned v ∧ Post r h' nx' ∧ RH w' own' ok' s' h' ∧ Rep w' ok' s' v r ∧ Evol own ok w own' ok' w' ∧ nx ≤ nx' ∧ (∀ id, nx' ≤ id → s' id = none ∧ h' id = none) ∧ ∀ id, id < nx → s' id = s id
inductive CallA (P : Program) : V → List V → Option Tmp → (St → Prop) → St → Prop
 | closed (g : FuncId) (first cap args args' : List V) (dst : Option Tmp) (K : St → Prop) (st : St) (r : V) (hp : PurL false st.h (first ++ args ++ cap) args') (hc : CallsTo P g args' r) (hr : Cl r)
     (hb : ∃ fn, P.funcs[g]? = some fn ∧ fn.body.isSome = true ∧ fn.name ≠ "runtime.NumGoroutine") (hk : K (st.put dst r)) : CallA P (.fn (.func g) first cap) args dst K st
 | frozen (ids : List Nat) (g : FuncId) (first cap args args' : List V) (dst : Option Tmp) (K : St → Prop) (st : St) (r : V) (hp : PurL true (frz ids st.h) (first ++ args ++ cap) args') (hc : CallsTo P g args' r) (hr : Pu r)
     (hb : ∃ fn, P.funcs[g]? = some fn ∧ fn.body.isSome = true ∧ fn.name ≠ "runtime.NumGoroutine") (hk : K (St.put { st with h := frz ids st.h } dst r)) : CallA P (.fn (.func g) first cap) args dst K st
 | shared (g : FuncId) (first cap args : List V) (dst : Option Tmp) (K : St → Prop) (st : St) (Post : V → Hp → Nat → Prop) (hc : CallH P g (first ++ args ++ cap) st.h st.nx Post)
     (hb : ∃ fn, P.funcs[g]? = some fn ∧ fn.body.isSome = true ∧ fn.name ≠ "runtime.NumGoroutine") (hk : ∀ r h' nx', Post r h' nx' → K (St.put { st with h := h', nx := nx' } dst r)) : CallA P (.fn (.func g) first cap) args dst K st
 | yield (ids : List Nat) (l : Nat) (args ys : List V) (dst : Option Tmp) (K : St → Prop) (st : St) (hl : l = st.gh.yl) (hs : st.gh.stop = false) (hy : st.gh.ys[st.gh.n]? = some ys) (hp : PurL true (frz ids st.h) args ys)
     (hk : ∀ b : Bool, K (St.put { st with h := frz ids st.h, gh := { st.gh with n := st.gh.n + 1, stop := !b } } dst (.lit (.bool b)))) : CallA P (.fn (.yield l) [] []) args dst K st
def nilArg (op : BinOp) (x y : V) : Option Prop :=
 match op, x, y with
 | .eql, .sl k es _, .lit (.slice none 0 0) => if 0 < k then some (es = []) else none
 | .neq, .sl k es _, .lit (.slice none 0 0) => if 0 < k then some (es = []) else none
 | .eql, .os _ _ n _, .lit (.slice none 0 0) => some (n = 0)
 | .neq, .os _ _ n _, .lit (.slice none 0 0) => some (n = 0)
 | _, _, _ => none
def isSl (P : Program) (t : TypeId) : Bool := match tinfo P t with
 | some ti => match ti.desc with
   | .slice _ => true
   | _ => false
 | none => false
def nilOp (ev : Operand → V) : Op → Option (Prop × BinOp × TypeId)
 | .binOp op t x y _ => (nilArg op (ev x) (ev y)).map fun C => (C, op, t)
 | _ => none
def awpOp (P : Program) (o : Oper) (K : St → Prop) (st : St) : Prop :=
 match o.op with
 | .call ⟨.value f, args, _⟩ => CallA P (st.ev f) (args.toList.map st.ev) o.dst K st
 | op => match nilOp st.ev op with
   | some (C, bop, t) => isSl P t = true ∧ ∀ b : Bool, (b = true → C) → K (st.put o.dst (.lit (.bool (if bop = .neq then !b else b))))
   | none => ActA (act P st.ev op st.h st.nx) o.dst K st
theorem equalIn_none {P : Program} {w : World} (d : Nat) {t el : TypeId} {ti : TI} (hti : tinfo P t = some ti) (hd : ti.desc = .slice el) (n c : Nat) : (Op.equalIn (d + 1) t (.slice none n c) (.slice none 0 0)).run P w = .ok true w := by
 simp [Op.equalIn, run_underlying' hti, hd]
theorem nilArg_sound {P : Program} {w : World} {ok : Nat → Nat → Prop} {s : Nat → Option Nat} {op : BinOp} {t : TypeId} {ox oy : Operand} {x y : V} {v u : Value} {C : Prop} (hv : Rep w ok s v x) (hu : Rep w ok s u y) (hn : nilArg op x y = some C) (ht : isSl P t = true) :
   ∃ b : Bool, (b = true → C) ∧ (do eqGuard op t ox oy v u; binOp op t v u : Sem Value).run P w = .ok (.bool (if op = .neq then !b else b)) w := by
 unfold isSl at ht
 split at ht
 case h_2 => cases ht
 rename_i ti hti
 split at ht
 case h_2 => cases ht
 rename_i el hd
 have fin : ∀ (a : Option Addr) (n c : Nat), (op = .eql ∨ op = .neq) → (do eqGuard op t ox oy (.slice a n c) (.slice none 0 0); binOp op t (.slice a n c) (.slice none 0 0) : Sem Value).run P w = .ok (.bool (if op = .neq then !a.isNone else a.isNone)) w := by
   intro a n c hop
   have h1 : (eqGuard op t ox oy (.slice a n c) (.slice none 0 0)).run P w = .ok () w := eqGuard_lit op t ox oy _ _ (fun c h => by cases h) (fun h => by cases h)
   have h2 : (Op.equalIn 10000 t (.slice a n c) (.slice none 0 0)).run P w = .ok a.isNone w := by
     cases a with
     | none => exact equalIn_none 9999 hti hd n c
     | some a => exact equalIn_some_nil 9999 hti hd a n c
   rcases hop with rfl | rfl
   · simp only [Sem.run_bind, h1, Result.andThen_ok, binOp, Op.equal, Op.maxDepth, h2, Sem.run_pure]; simp
   · simp only [Sem.run_bind, h1, Result.andThen_ok, binOp, Op.equal, Op.maxDepth, h2, Sem.run_pure]; simp
 have sl : ∀ (k : Nat) (es : List (List V)) (ex : Bool), x = .sl k es ex → y = .lit (.slice none 0 0) → 0 < k → C = (es = []) → (op = .eql ∨ op = .neq) → ∃ b : Bool, (b = true → C) ∧ (do eqGuard op t ox oy v u; binOp op t v u : Sem Value).run P w = .ok (.bool (if op = .neq then !b else b)) w := by
   rintro k es ex rfl rfl hk rfl hop
   cases hu
   cases hv with
   | sl a n cap _ _ _ us hn' hcap hex hm hkk hcc =>
     refine ⟨a.isNone, fun ha => ?_, fin a n cap hop⟩
     rcases Nat.eq_zero_or_pos es.length with h0 | h0
     · exact List.eq_nil_of_length_eq_zero h0
     · obtain ⟨b, o, rfl, _⟩ := hm 0 0 (by omega) hk
       cases ha
 have os : ∀ (id k n : Nat) (ex : Bool), x = .os id k n ex → y = .lit (.slice none 0 0) → C = (n = 0) → (op = .eql ∨ op = .neq) → ∃ b : Bool, (b = true → C) ∧ (do eqGuard op t ox oy v u; binOp op t v u : Sem Value).run P w = .ok (.bool (if op = .neq then !b else b)) w := by
   rintro id k n ex rfl rfl rfl hop
   cases hu
   cases hv with
   | os0 _ _ _ a => exact ⟨a.isNone, fun _ => rfl, fin a 0 0 hop⟩
   | os _ _ _ _ B cap ty sz hB hn' hex hsh hcap => exact ⟨false, fun h => (by cases h), fin (some ⟨B, 0, none⟩) n cap hop⟩
 unfold nilArg at hn
 split at hn
 · split at hn
   · rename_i hk; cases hn; exact sl _ _ _ rfl rfl hk rfl (.inl rfl)
   · cases hn
 · split at hn
   · rename_i hk; cases hn; exact sl _ _ _ rfl rfl hk rfl (.inr rfl)
   · cases hn
 · cases hn; exact os _ _ _ _ rfl rfl rfl (.inl rfl)
 · cases hn; exact os _ _ _ _ rfl rfl rfl (.inr rfl)
 · cases hn
def awpOps (P : Program) (ops : Array Oper) : List Oper → (St → Prop) → St → Prop
 | [], K, st => K st
 | o :: rest, K, st =>
   match guardOk ops st o with
   | none => False
   | some g => if g = true then awpOp P o (fun st' => awpOps P ops rest K { st' with nx := st'.nx + 64 }) st else awpOps P ops rest K ({ st with nx := st.nx + 64 }.put o.dst (.tup []))
def LoopA (aw : (Exit → St → Prop) → St → Prop) (Q : Exit → St → Prop) (st : St) : Prop :=
 ∃ (α : Type) (S : α → St) (J : α → Prop) (m : α → Nat) (x0 : α), Weak st (S x0) ∧ J x0 ∧ ∀ x, J x → aw (thenQ (fun st' => ∃ y, J y ∧ m y < m x ∧ Weak st' (S y)) Q) (S x)
def CondA (c : V) (x y : Prop) : Prop :=
 match c with
 | .lit (.bool b) => if b = true then x else y
 | _ => False
def opnds : Op → List Operand
 | .move x | .assign x | .box _ x | .load _ x | .nilCheck x | .unOp _ _ x | .convert _ _ x | .fieldAddr _ x _ | .field _ x _ | .extract x _ => [x]
 | .pick c a b => [c, a, b]
 | .build _ parts | .buildSlice _ _ parts => parts.toList.map (·.2)
 | .store _ x v => [x, v]
 | .binOp _ _ x y _ => [x, y]
 | .makeFunc _ a b => a.toList ++ b.toList
 | .makeSlice _ n c => [n, c]
 | .slice _ x lo hi mx => x :: (lo.toList ++ hi.toList ++ mx.toList)
 | .indexAddr _ x i | .index _ x i | .lookup _ x i _ => [x, i]
 | .mapUpdate _ m k v => [m, k, v]
 | .makeMap _ r => r.toList
 | .call ⟨.value f, args, _⟩ => f :: args.toList
 | .call ⟨_, args, _⟩ => args.toList
 | _ => []
def restr (ids : List Nat) (h : Hp) : Hp := fun i => if i ∈ ids then h i else none
structure Ent where
 dst : Option Tmp
 v : V
 wr : Wr
 foot : List Nat
 deriving Inhabited
def putT (l : List V) (d : Option Tmp) (v : V) : List V :=
 match d with
 | some d => l.set d v
 | none => l
def readT (ops : Array Oper) (o : Oper) : List Nat :=
 (opnds o.op).filterMap (fun | .tmp t => some t | _ => none) ++
   (match o.guard with
    | some (j, _) => ((ops[j]?).bind (·.dst)).toList
    | none => [])
def FreshC (P : Program) (g : FuncId) (args' : List V) (r : V) (rows : Wr) (nx : Nat) : Prop :=
 ∀ (w : World) (own : Nat → Prop) (ok : Nat → Nat → Prop) (s : Nat → Option Nat) (h : Hp) (args : List V) (vals : Array Value), RH w own ok s h → (∀ id, nx ≤ id → id < nx + 64 → s id = none ∧ h id = none) → PurL true h args args' → vals.size = args.length →
   (∀ (i : Nat) (d : V) (v : Value), args[i]? = some d → vals[i]? = some v → Rep w ok s v d) →
   CallsIn (FW none) 0 P g vals w fun e w' => ∃ v own' ok' s', e = .returned v ∧ Rep w' ok' s' v r ∧ RH w' own' ok' s' (applyWr h rows) ∧ Evol own ok w own' ok' w' ∧ ∀ id, ¬(nx ≤ id ∧ id < nx + 64) → s' id = s id
def EntOk (P : Program) (ops : Array Oper) (o : Oper) (st : St) (e : Ent) : Prop :=
 e.dst = o.dst ∧
 ((guardOk ops st o = some false ∧ e.v = .tup [] ∧ e.wr = []) ∨
  (guardOk ops st o = some true ∧ isVCall o.op = false ∧ ∃ c, act P st.ev o.op (restr e.foot st.h) st.nx = some ⟨c, e.v, e.wr⟩ ∧ c) ∨
  (guardOk ops st o = some true ∧ e.wr = [] ∧ ∃ f args tys g first cap args', o.op = .call ⟨.value f, args, tys⟩ ∧ st.ev f = .fn (.func g) first cap ∧ (PurL false (restr e.foot st.h) (first ++ args.toList.map st.ev ++ cap) args' ∧ Cl e.v ∨ PurL true (restr e.foot st.h) (first ++ args.toList.map st.ev ++ cap) args' ∧ Pu e.v) ∧ CallsTo P g args' e.v ∧
     ∃ fn, P.funcs[g]? = some fn ∧ fn.body.isSome = true ∧ fn.name ≠ "runtime.NumGoroutine") ∨
  (guardOk ops st o = some true ∧ ∃ ids, (∀ id ∈ ids, ∃ b, restr e.foot st.h id = some b) ∧ e.wr = ids.map (fun id => (id, frz ids (restr e.foot st.h) id)) ∧ ∃ f args tys g first cap args', o.op = .call ⟨.value f, args, tys⟩ ∧ st.ev f = .fn (.func g) first cap ∧ (PurL true (frz ids (restr e.foot st.h)) (first ++ args.toList.map st.ev ++ cap) args' ∧ Pu e.v) ∧ CallsTo P g args' e.v ∧
     ∃ fn, P.funcs[g]? = some fn ∧ fn.body.isSome = true ∧ fn.name ≠ "runtime.NumGoroutine") ∨
  (guardOk ops st o = some true ∧ ∃ ids rows, (∀ id ∈ ids, ∃ b, restr e.foot st.h id = some b) ∧ e.wr = ids.map (fun id => (id, frz ids (restr e.foot st.h) id)) ++ rows ∧ ∃ f args tys g first cap args', o.op = .call ⟨.value f, args, tys⟩ ∧ st.ev f = .fn (.func g) first cap ∧ PurL true (frz ids (restr e.foot st.h)) (first ++ args.toList.map st.ev ++ cap) args' ∧ FreshC P g args' e.v rows st.nx ∧
     ∃ fn, P.funcs[g]? = some fn ∧ fn.body.isSome = true ∧ fn.name ≠ "runtime.NumGoroutine"))
def entConf (ops : Array Oper) (o1 : Oper) (e1 : Ent) (o2 : Oper) (e2 : Ent) : Bool :=
 (match e1.dst with | some t => (readT ops o2).contains t || e2.dst == some t | none => false) ||
 (match e2.dst with | some t => (readT ops o1).contains t | none => false) ||
 e1.wr.any (fun p => e2.foot.contains p.1 || e2.wr.any fun q => q.1 == p.1) || e2.wr.any fun p => e1.foot.contains p.1
def drawOk (ops : Array Oper) (es : List Ent) (nx0 : Nat) : Bool :=
 let B := Region.before ops
 es.length == ops.size &&
 (List.range es.length).all fun j =>
   match ops[j]?, es[j]? with
   | some o, some e =>
     (o.after.toList.all fun x => !Region.binds .any x || decide (x.on < j)) &&
     ((List.range es.length).all fun i => !(B.getD j 0).testBit i || o.after.toList.any fun x => Region.binds .any x && (x.on == i || (B.getD x.on 0).testBit i)) &&
     ((List.range j).all fun i => (B.getD j 0).testBit i || match ops[i]?, es[i]? with | some o', some e' => !entConf ops o' e' o e | _, _ => false) &&
     (e.wr.all fun p => decide (p.1 < nx0 + 64 * (j + 1)) && (decide (nx0 + 64 * j ≤ p.1) || decide (p.1 < nx0) || (B.getD j 0).testBit ((p.1 - nx0) / 64)))
   | _, _ => false
def appS (e : Ent) (st : St) : St := ⟨putT st.tmps e.dst e.v, applyWr st.h e.wr, st.nx + 64, st.gh⟩
def drawLast (ops : Array Oper) (es : List Ent) (nx0 : Nat) : Bool :=
 es.length + 1 == ops.size && drawOk ops (es ++ [⟨none, .undef, [], []⟩]) nx0 && (List.range es.length).all fun i => ((Region.before ops).getD es.length 0).testBit i
inductive Draws (P : Program) (ops : Array Oper) (nx0 : Nat) (K : St → Prop) : List Oper → List Ent → St → Prop
 | nil (es : List Ent) (st : St) (h : drawOk ops es nx0 = true) (hk : K st) : Draws P ops nx0 K [] es st
 | cons (o : Oper) (rest : List Oper) (es : List Ent) (st : St) (e : Ent) (he : EntOk P ops o st e) (hk : Draws P ops nx0 K rest (es ++ [e]) (appS e st)) : Draws P ops nx0 K (o :: rest) es st
 | last (o : Oper) (es : List Ent) (st : St) (h : drawLast ops es nx0 = true) (hg : guardOk ops st o = some true) (hk : awpOp P o (fun st' => K ⟨st'.tmps, st'.h, st'.nx + 64, st'.gh⟩) st) : Draws P ops nx0 K [o] es st
def setPs (ps : List Tmp) (ys tm : List V) : List V := (ps.zip ys).foldl (fun tm p => tm.set p.1 p.2) tm
def forget (st : St) (h : Hp) (nx : Nat) (gh : Gh) : St := ⟨List.replicate st.tmps.length .undef, h, nx, gh⟩
def LentR (lent : List Nat) (d d' : V) : Prop := (d = d' ∧ Pu d) ∨ ∃ j id k i off, lent[j]? = some id ∧ d = .ref id k i off ∧ d' = .ref j k i off
def RangeA (P : Program) (awA awB : (Exit → St → Prop) → St → Prop) (g : Operand) (ps : Array Tmp) (Q : Exit → St → Prop) (st : St) : Prop :=
 ∃ (f : FuncId) (cap cap' : List V) (Ys : List (List V)) (α : Type) (tm0 : List V) (L nx0 nxI : Nat) (H : α → Hp) (G : α → Gh) (J : Nat → α → Prop) (D : Code → α → Prop) (x0 : α) (lent : List Nat) (h1 : Hp),
   St.ev ⟨tm0, h1, nx0, st.gh⟩ g = .fn (.func f) [] cap ∧ (∃ fn, P.funcs[f]? = some fn ∧ fn.body.isSome = true ∧ fn.name ≠ "runtime.NumGoroutine") ∧ IterTo P f (fun l => [yieldV l] ++ cap') (hIn lent h1) nxI Ys ∧
   (cap.length = cap'.length ∧ ∀ (i : Nat) (d d' : V), cap[i]? = some d → cap'[i]? = some d' → LentR lent d d') ∧ (lent.Nodup ∧ lent.length ≤ nxI ∧ (∀ id ∈ lent, ∀ b, h1 id = some b → b.mode ≠ .old) ∧ ∀ id ∈ lent, ∀ b, h1 id = some b → ∀ e ∈ b.es, ∀ d ∈ e, Pu d) ∧ (∀ ys ∈ Ys, ys.length = ps.size) ∧
   Weak st ⟨tm0, h1, nx0, st.gh⟩ ∧ H x0 = hOut lent h1 ∧ G x0 = st.gh ∧ J 0 x0 ∧ (∀ x, G x = { st.gh with n := (G x).n, stop := (G x).stop }) ∧ IdsLt L tm0 ∧ st.gh.lim ≤ L ∧ L ≤ nx0 ∧
   (∀ (base' : Base) i x ys, J i x → Ys[i]? = some ys → awA (fun e st1 => e = .normal ∧ awB (fun e st' => match e with
       | .normal => ∃ y, J (i + 1) y ∧ Weak st' (forget st' (H y) nx0 { G y with lim := L, inr := true, base := base' })
       | .ret => ∃ y, D .ret y ∧ Weak st' (forget st' (H y) nx0 { G y with lim := L, inr := true, base := base' })
       | .exit id => ∃ y, D (.exit id) y ∧ Weak st' (forget st' (H y) nx0 { G y with lim := L, inr := true, base := base' })
       | _ => False) st1) ⟨setPs ps.toList ys tm0, H x, nx0, { G x with lim := L, inr := true, base := base' }⟩) ∧
   (∀ x, J Ys.length x → Q .normal ⟨tm0, H x, nx0, G x⟩) ∧ (∀ x, D .ret x → Q .ret ⟨tm0, H x, nx0, G x⟩) ∧ ∀ id x, D (.exit id) x → Q (.exit id) ⟨tm0, H x, nx0, G x⟩
def awp (P : Program) : Code → (Exit → St → Prop) → St → Prop
 | .skip, Q, st => Q .normal st
 | .label _, Q, st => Q .normal st
 | .seq a b, Q, st => awp P a (thenQ (awp P b Q) Q) st
 | .cond c a b, Q, st => CondA (st.ev c) (awp P a Q st) (awp P b Q st)
 | .block id c, Q, st => awp P c (blockQ id Q) st
 | .loop c, Q, st => LoopA (awp P c) Q st
 | .exit id, Q, st => Q (.exit id) st
 | .ret, Q, st => Q .ret st
 | .region _ ops false, Q, st => awpOps P ops ops.toList (Q .normal) st
 | .region _ ops true, Q, st => P.follows .mixedOrders = true ∧ Draws P ops st.nx (Q .normal) ops.toList [] st
 | .rangeFunc g ps a b, Q, st => RangeA P (awp P a) (awp P b) g ps Q st
 | _, _, _ => False
section
variable {P : Program} {A : Amb}
def PostA (A : Amb) (Q : Exit → St → Prop) : Exit → Act → World → Prop := fun e a w => ∃ st own ok s, Q e st ∧ R A own ok s st w a
theorem RH.frzAll {w : World} {own : Nat → Prop} {s : Nat → Option Nat} : ∀ (ids : List Nat) (ok : Nat → Nat → Prop) (h : Hp), RH w own ok s h → ∃ ok', RH w own ok' s (frz ids h) ∧ Evol own ok w own ok' w := by
 intro ids
 induction ids with
 | nil => intro ok h hr; exact ⟨ok, by have : frz [] h = h := by funext i; simp [frz]
                                       rw [this]; exact hr, Evol.refl _ _ _⟩
 | cons id ids ih =>
   intro ok h hr
   have step : ∃ ok1, RH w own ok1 s (frz [id] h) ∧ Evol own ok w own ok1 w := by
     cases hb : h id with
     | none =>
       refine ⟨ok, ?_, Evol.refl _ _ _⟩
       have : frz [id] h = h := by funext i; simp only [frz, List.mem_singleton]; split; rename_i e; subst e; rw [hb]; rfl; rfl
       rw [this]; exact hr
     | some b =>
       by_cases hm : b.mode = .wr
       · obtain ⟨ok', g1, g2⟩ := hr.freeze hb hm
         refine ⟨ok', ?_, g2⟩
         have : frz [id] h = upd h id (some { b with mode := .fz }) := by
           funext i; simp only [frz, List.mem_singleton, upd]; split
           · rename_i e; subst e; rw [hb]; simp [hm]
           · rfl
         rw [this]; exact g1
       · refine ⟨ok, ?_, Evol.refl _ _ _⟩
         have : frz [id] h = h := by funext i; simp only [frz, List.mem_singleton]; split; rename_i e; subst e; rw [hb]; simp [hm]; rfl
         rw [this]; exact hr
   obtain ⟨ok1, h1, e1⟩ := step
   obtain ⟨ok2, h2, e2⟩ := ih ok1 _ h1
   refine ⟨ok2, ?_, e1.trans e2⟩
   have : frz ids (frz [id] h) = frz (id :: ids) h := by
     funext i
     simp only [frz, List.mem_singleton, List.mem_cons]
     by_cases g1 : i ∈ ids
     · by_cases g2 : i = id
       · simp only [g1, g2, if_true, true_or]
         cases h id with
         | none => simp
         | some b => by_cases hm : b.mode = .wr <;> simp [hm]
       · simp [g1, g2]
     · by_cases g2 : i = id
       · subst g2; simp [g1]
       · simp [g1, g2]
   rw [← this]; exact h2
theorem frz_none {ids : List Nat} {h : Hp} {i : Nat} (hi : h i = none) : frz ids h i = none := by
 simp only [frz]; split <;> simp [hi]
theorem callFunc_run {g : FuncId} {fn : Func} (hg : P.funcs[g]? = some fn) (hb : fn.body.isSome = true) (hn : fn.name ≠ "runtime.NumGoroutine") (args : Array Value) (w : World) : (callFunc g args).run P w = .ok (.enter g args) w := by
 have hb' : fn.body.isNone = false := by cases h : fn.body <;> simp_all
 have hn' : (fn.name == "runtime.NumGoroutine") = false := by simpa using hn
 simp only [callFunc, Sem.run_bind, run_program, Result.andThen_ok, hg, hn', hb', Bool.false_eq_true, if_false, Sem.run_pure]
theorem Marks'.evol {own own' : Nat → Prop} {ok ok' : Nat → Nat → Prop} {w w' : World} {a : Act} {base : Nat} (h : Marks' base a w) (he : Evol own ok w own' ok' w') : Marks' base a w' := by
 obtain ⟨rs, h1, h2, h3⟩ := h
 exact ⟨rs, h1, h2, fun r hr => ⟨(h3 r hr).1, he.ctl r _ (h3 r hr).2 rfl⟩⟩
theorem applyWr_none : ∀ (wr : Wr) (h : Hp) (i n : Nat), (wr.all fun p => decide (p.1 < n)) = true → n ≤ i → h i = none → applyWr h wr i = none := by
 intro wr
 induction wr with
 | nil => intro h i n _ _ hi; exact hi
 | cons x r ih =>
   intro h i n ha hn hi
   simp only [List.all_cons, Bool.and_eq_true, decide_eq_true_eq] at ha
   obtain ⟨id, b⟩ := x
   refine ih _ i n ha.2 hn ?_
   simp only [upd]
   rw [if_neg (by have := ha.1; simp only at this; omega)]; exact hi
theorem St.put_nx (st : St) (d : Option Tmp) (v : V) (n : Nat) : { st.put d v with nx := n } = { st with nx := n }.put d v := by cases d <;> rfl
theorem St.put_nx' (st : St) (d : Option Tmp) (v : V) : (st.put d v).nx = st.nx := by cases d <;> rfl
section ops
variable {own : Nat → Prop} {ok : Nat → Nat → Prop} {s : Nat → Option Nat} {st : St} {w : World} {a : Act} {rd : Option Nat}
theorem R.step (hA : A.Stable) (hr : R A own ok s st w a) {own' : Nat → Prop} {ok' : Nat → Nat → Prop} {s' : Nat → Option Nat} {w' : World} {h' : Hp} {nx' : Nat} (hrh : RH w' own' ok' s' h') (he : Evol own ok w own' ok' w')
   (hs : ∀ id, id < st.nx → s' id = s id) (hnx : st.nx ≤ nx') (hf : ∀ id, nx' ≤ id → s' id = none ∧ h' id = none) : R A own' ok' s' { st with h := h', nx := nx' } w' a := by
 refine ⟨hrh, hr.sz, fun t v d hv hd => (hr.tm t v d hv hd).evol he (fun id B hB => ?_), hf, Nat.le_trans hr.lm hnx, R.amb_step hA hr.amb he (fun id hid => hs id (Nat.lt_of_lt_of_le hid hr.lm)), hr.df.evol he⟩
 by_cases hid : id < st.nx
 · rw [hs id hid]; exact hB
 · rw [(hr.fr id (by omega)).1] at hB; cases hB
theorem awpOp_sound (hA : A.Stable) (hY : A.Yields P) {o : Oper} {K : St → Prop} (h : awpOp P o K st) (hr : R A own ok s st w a) {next : Act → World → Prop} {Q : Exit → Act → World → Prop}
   (hn : ∀ (st' : St) (own : Nat → Prop) (ok : Nat → Nat → Prop) (s : Nat → Option Nat) (w : World) (a : Act), K st' → R A own ok s { st' with nx := st'.nx + 64 } w a → next a w) : o.wpIn (FW rd) 0 P a w next Q := by
 refine ⟨fun _ _ => trivial, ?_⟩
 have acts : ActA (act P st.ev o.op st.h st.nx) o.dst K st → (∀ c, o.op ≠ .defer c) → o.uponIn (FW rd) 0 P a next Q ((o.semAt (FW rd).round a.eval).run P w) := by
   intro ha hd
   unfold ActA at ha
   split at ha
   case h_2 => exact ha.elim
   rename_i e he
   obtain ⟨hc, hall, hk⟩ := ha
   obtain ⟨r, w', own', ok', s', hx, hv, hrh, hev, hs⟩ := act_sound (P := P) hr.rh (hr.fr _ (Nat.le_refl _)).1 (hr.fr _ (Nat.le_refl _)).2 (fun x => hr.ev x) he hc
   rw [Oper.semAt_eq _ _ _ hd, hx]
   have hst := hr.step hA (nx' := st.nx + 64) hrh hev (fun id hid => hs id (by omega)) (by omega) (fun id hid => ⟨by rw [hs id (by omega)]; exact (hr.fr id (by omega)).1, applyWr_none _ _ _ _ hall hid (hr.fr id (by omega)).2⟩)
   have fin : ∀ v, Rep w' ok' s' v e.v → next (a.put o.dst v) w' := fun v hv => by
     have := hst.put o.dst hv
     refine hn _ own' ok' s' w' _ hk ?_
     rw [St.put_nx, St.put_nx']; exact this
   rcases hv with ⟨v, rfl, hv⟩ | ⟨rfl, hv⟩
   · exact fin v hv
   · exact fin undef (by rw [hv]; exact .undef _)
 have calls : ∀ (f : Operand) (args : Array Operand) (tys : Array TypeId), o.op = .call ⟨.value f, args, tys⟩ → CallA P (st.ev f) (args.toList.map st.ev) o.dst K st → o.uponIn (FW rd) 0 P a next Q ((o.semAt (FW rd).round a.eval).run P w) := by
   intro f args tys ho hcall
   rw [Oper.semAt_eq _ _ _ (by rw [ho]; intro c hc; cases hc)]
   have hf := hr.ev f
   -- the callee's arguments
   have enter : ∀ (g : FuncId) (first cap : List V), st.ev f = .fn (.func g) first cap → (∃ fn, P.funcs[g]? = some fn ∧ fn.body.isSome = true ∧ fn.name ≠ "runtime.NumGoroutine") →
       ∃ vals : Array Value, (execOp a.eval o).run P w = .ok (.enter g vals) w ∧ vals.size = (first ++ args.toList.map st.ev ++ cap).length ∧
         ∀ (i : Nat) (d : V) (v : Value), (first ++ args.toList.map st.ev ++ cap)[i]? = some d → vals[i]? = some v → Rep w ok s v d := by
     intro g first cap hfe ⟨fn, h1, h2, h3⟩
     rw [hfe] at hf
     generalize hfv : a.eval f = fv at hf
     cases hf with
     | fn _ vs us _ _ e1 e2 c1 c2 =>
       refine ⟨vs ++ args.map a.eval ++ us, ?_, by simp [e1, e2], fun i d v hd hv => ?_⟩
       · unfold execOp
         rw [ho]
         simp only [resolve, hfv, Deferred.ofValue, invoke, Sem.run_bind, Sem.run_pure, Result.andThen_ok]
         rw [callFunc_run h1 h2 h3]
       · by_cases i1 : i < first.length
         · rw [List.append_assoc, List.getElem?_append_left i1] at hd
           rw [Array.append_assoc, Array.getElem?_append_left (by omega)] at hv
           exact c1 i d v hd hv
         · by_cases i2 : i < (first ++ args.toList.map st.ev).length
           · rw [List.getElem?_append_left i2, List.getElem?_append_right (by omega)] at hd
             have i3 : i < (vs ++ args.map a.eval).size := by simp [e1] at *; omega
             rw [Array.getElem?_append_left i3, Array.getElem?_append_right (by omega)] at hv
             rw [e1] at hv
             simp only [List.getElem?_map, Array.getElem?_toList, Option.map_eq_some_iff] at hd
             simp only [Array.getElem?_map, Option.map_eq_some_iff] at hv
             obtain ⟨x, hx, rfl⟩ := hd
             obtain ⟨y, hy, rfl⟩ := hv
             rw [hx] at hy; cases hy
             exact hr.ev x
           · rw [List.getElem?_append_right (by omega)] at hd
             have i3 : (vs ++ args.map a.eval).size ≤ i := by simp [e1] at *; omega
             rw [Array.getElem?_append_right i3] at hv
             have e3 : (vs ++ args.map a.eval).size = (first ++ args.toList.map st.ev).length := by simp [e1]
             rw [e3] at hv
             exact c2 _ d v hd hv
   -- a callee that reads
   have pure_ : ∀ (fr : Bool) (st1 : St) (ok1 : Nat → Nat → Prop) (g : FuncId) (vals : Array Value) (args0 args' : List V) (r : V), R A own ok1 s st1 w a → vals.size = args0.length → (∀ (i : Nat) (d : V) (v : Value), args0[i]? = some d → vals[i]? = some v → Rep w ok1 s v d) →
       PurL fr st1.h args0 args' → CallsTo P g args' r → (fr = false ∧ Cl r ∨ fr = true ∧ Pu r) → K (st1.put o.dst r) → o.uponIn (FW rd) 0 P a next Q (.ok (.enter g vals) w) := by
     intro fr st1 ok1 g vals args0 args' r hr1 hsz hargs hp hc hres hk
     rw [Oper.uponIn_enter]
     refine ⟨fun h => by simp [FW, Fence.wide] at h, ?_⟩
     have hcall := hc w (okT ok1 s st1.h fr) vals (fun b o' hb => by
       rcases hb with hb | ⟨_, id, x, hx, hB, ho⟩
       · exact hr1.rh.okw b o' hb
       · exact hr1.rh.cell_row hx hB ho) (hr1.rh.gl.keep fun b o hb => ⟨.inl hb, rfl⟩) (by rw [hsz]; exact hp.1) (fun i d v hd hv => by
         have hi : i < args0.length := by rw [hp.1]; exact (List.getElem?_eq_some_iff.1 hd).1
         exact (hp.2 i _ d (List.getElem?_eq_getElem hi) hd).rep hr1.rh (hargs i _ v (List.getElem?_eq_getElem hi) hv))
     refine CallsIn.mono (show CallsIn (FW rd) 0 P g vals w _ from hcall) ?_
     rintro e w' ⟨v, own', ok', rfl, hev, hokw, hrep⟩
     show next (a.put o.dst v) w'
     rcases hres with ⟨rfl, hcl⟩ | ⟨rfl, hpu⟩
     · -- nothing of the callee's is kept
       have hev1 : Evol (fun _ => False) ok1 w (fun _ => False) ok1 w' := ⟨hev.os, hev.tape, hev.output, hev.size, hev.unch, fun _ h => .inl h, fun _ _ h => h, fun b o' hb => hev.okc b o' (.inl hb), fun _ _ h => .inl h, hev.shape, hev.ctl⟩
       obtain ⟨g1, g2⟩ := hr1.rh.called hev1 (fun b o' hb => by obtain ⟨u, hu⟩ := hr1.rh.okw b o' hb; exact ⟨u, (hev1.okc b o' hb).trans hu⟩)
       have := (hr1.step hA (nx' := st1.nx + 64) g1 g2 (fun _ _ => rfl) (by omega) (fun id hid => hr1.fr id (by omega))).put o.dst (hrep.cl hcl (w' := w') (ok' := ok1) (s' := s))
       refine hn _ own ok1 s w' _ hk ?_
       rw [St.put_nx, St.put_nx']; exact this
     · have hev1 : Evol (fun _ => False) ok1 w own' ok' w' := ⟨hev.os, hev.tape, hev.output, hev.size, hev.unch, hev.ownn, fun b o' hb => hev.okk b o' (.inl hb), fun b o' hb => hev.okc b o' (.inl hb), fun b o' hb => by
         rcases hev.okn b o' hb with h' | h'
         · rcases h' with h' | ⟨h', _⟩
           · exact .inl h'
           · cases h'
         · exact .inr h', hev.shape, hev.ctl⟩
       obtain ⟨g1, g2⟩ := hr1.rh.called hev1 hokw
       have := (hr1.step hA (nx' := st1.nx + 64) g1 g2 (fun _ _ => rfl) (by omega) (fun id hid => hr1.fr id (by omega))).put o.dst (hrep.pu hpu (s' := s))
       refine hn _ own ok' s w' _ hk ?_
       rw [St.put_nx, St.put_nx']; exact this
   generalize hfv : st.ev f = fv at hcall
   generalize hal : args.toList.map st.ev = al at hcall
   generalize hdst : o.dst = dst at hcall
   cases hcall with
   | closed g first cap args0 args' _ _ _ r hp hc hcl hb hk =>
     subst hal hdst
     obtain ⟨vals, e1, e2, e3⟩ := enter g first cap hfv hb
     rw [e1]
     exact pure_ false st ok g vals _ args' r hr e2 e3 hp hc (.inl ⟨rfl, hcl⟩) hk
   | frozen ids g first cap args0 args' _ _ _ r hp hc hpu hb hk =>
     subst hal hdst
     obtain ⟨vals, e1, e2, e3⟩ := enter g first cap hfv hb
     rw [e1]
     obtain ⟨ok1, g1, g2⟩ := hr.rh.frzAll ids
     have hr1 := hr.step hA (nx' := st.nx) g1 g2 (fun _ _ => rfl) (by omega) (fun id hid => ⟨(hr.fr id hid).1, frz_none (hr.fr id hid).2⟩)
     exact pure_ true _ ok1 g vals _ args' r hr1 e2 (fun i d v hd hv => (e3 i d v hd hv).evol g2 (fun _ _ h => h)) hp hc (.inr ⟨rfl, hpu⟩) hk
   | shared g first cap args0 _ _ _ Post hc hb hk =>
     subst hal hdst
     obtain ⟨vals, e1, e2, e3⟩ := enter g first cap hfv hb
     rw [e1, Oper.uponIn_enter]
     refine ⟨fun h => by simp [FW, Fence.wide] at h, ?_⟩
     refine CallsIn.mono (show CallsIn (FW rd) 0 P g vals w _ from hc w own ok s vals hr.rh hr.fr e2 e3) ?_
     rintro e w' ⟨v, r, h', nx', own', ok', s', rfl, hp, g1, g2, g3, g4, g5, g6⟩
     show next (a.put o.dst v) w'
     have := (hr.step hA (nx' := nx' + 64) g1 g3 g6 (by omega) (fun id hid => g5 id (by omega))).put o.dst g2
     refine hn _ own' ok' s' w' _ (hk r h' nx' hp) ?_
     rw [St.put_nx, St.put_nx']; exact this
   | yield ids l args0 ys _ _ _ hl hst hy hp hk =>
     subst hal hdst
     rw [hfv] at hf
     generalize hfu : a.eval f = fu at hf
     cases hf with
     | fn _ vs us _ _ e1 e2 c1 c2 =>
       have hvs : vs = #[] := Array.eq_empty_of_size_eq_zero (by simpa using e1)
       have hus : us = #[] := Array.eq_empty_of_size_eq_zero (by simpa using e2)
       subst hvs hus
       have hrun : (execOp a.eval o).run P w = (Instr.yield l (args.map a.eval)).run P w := by
         unfold execOp
         rw [ho]
         simp only [resolve, hfu, Deferred.ofValue, invoke, Sem.run_bind, Sem.run_pure, Result.andThen_ok, Array.empty_append]
       obtain ⟨ok1, g1, g2⟩ := hr.rh.frzAll ids
       have hr1 := hr.step hA (nx' := st.nx) g1 g2 (fun _ _ => rfl) (Nat.le_refl _) (fun id hid => ⟨(hr.fr id hid).1, frz_none (hr.fr id hid).2⟩)
       obtain ⟨X, kX, ha, hsep, hmk⟩ := hr1.amb
       have hlen : (args.map a.eval).size = ys.length := by rw [← hp.1]; simp
       have hreps : ∀ (i : Nat) (d : V) (v : Value), ys[i]? = some d → (args.map a.eval)[i]? = some v → Rep w ok1 (fun _ => none) v d := fun i d v hd hv => by
         simp only [Array.getElem?_map, Option.map_eq_some_iff] at hv
         obtain ⟨x, hx, rfl⟩ := hv
         have h0 : (args.toList.map st.ev)[i]? = some (st.ev x) := by rw [List.getElem?_map, Array.getElem?_toList, hx]; rfl
         refine ((hp.2 i _ d h0 hd).rep g1 (hr1.ev x)).keep (fun b o' hb => ⟨?_, rfl⟩) (fun _ _ _ h => h) (fun _ _ h => h)
         rcases hb with hb | ⟨hb, _⟩
         · exact hb
         · cases hb
       obtain ⟨g, tmps, asg, body, hy1, hy2⟩ := hY _ _ _ _ _ _ _ (args.map a.eval) ys ha hsep g1.okw hst hy hlen hreps
       rw [hrun, hl, hy1, Oper.uponIn_round]
       refine ⟨fun h => by simp [FW, Fence.wide] at h, ?_⟩
       refine RoundIn.mono (show RoundIn (FW rd) 0 P _ g tmps asg body w _ from hy2) ?_
       rintro e w' ⟨b, X', kX', rfl, hA', hE, hx, hkx⟩
       show next (a.put o.dst (.bool b)) w'
       have hr2 := hr1.yielded (gh := { st.gh with n := st.gh.n + 1, stop := !b }) hsep hmk hE hx hkx rfl rfl hA'
       have hr3 : R A own ok1 s { { st with h := frz ids st.h, gh := { st.gh with n := st.gh.n + 1, stop := !b } } with nx := st.nx + 64 } w' a := ⟨hr2.rh, hr2.sz, hr2.tm, fun id hid => hr2.fr id (by simp only at hid ⊢; omega), Nat.le_trans hr2.lm (Nat.le_add_right _ _), hr2.amb, hr2.df⟩
       refine hn _ own ok1 s w' _ (hk b) ?_
       rw [St.put_nx, St.put_nx']
       exact hr3.put o.dst (.lit (.bool b) rfl)
 unfold awpOp at h
 split at h
 · rename_i f args tys ho
   exact calls f args tys ho h
 · rename_i op hne
   split at h
   · rename_i C bop t hnil
     obtain ⟨ht, hk⟩ := h
     unfold nilOp at hnil
     split at hnil
     case h_2 => cases hnil
     rename_i op' t' x y yt hop
     simp only [Option.map_eq_some_iff] at hnil
     obtain ⟨C', hC', he⟩ := hnil
     cases he
     obtain ⟨b, hb, hrun⟩ := nilArg_sound (ox := x) (oy := y) (hr.ev x) (hr.ev y) hC' ht
     have hx : (execOp a.eval o).run P w = .ok (.value (.bool (if bop = .neq then !b else b))) w := by
       have : execOp a.eval o = (do pure (.value (← (do eqGuard bop t x y (a.eval x) (a.eval y); binOp bop t (a.eval x) (a.eval y) : Sem Value))) : Sem Next) := by simp only [execOp, hop]
       rw [this]
       exact run_value _ _ w hrun
     rw [Oper.semAt_eq _ _ _ (by rw [hop]; intro c hc; cases hc), hx]
     have hst := hr.step hA (nx' := st.nx + 64) hr.rh (Evol.refl _ _ _) (fun _ _ => rfl) (by omega) (fun id hid => hr.fr id (by omega))
     have := hst.put o.dst (.lit (.bool (if bop = .neq then !b else b)) rfl)
     refine hn _ own ok s w _ (hk b hb) ?_
     rw [St.put_nx, St.put_nx']; exact this
   · refine acts h fun c hc => ?_
     rw [hc] at h
     simp [act, ActA] at h
end ops
end
end Go.Aw
end
section
namespace Go.Aw
open Go.RowKit
theorem act_ev {P : Program} {ev ev' : Operand → V} {o : Op} {h : Hp} {nx : Nat} (he : ∀ x ∈ opnds o, ev x = ev' x) : act P ev o h nx = act P ev' o h nx := by
 have mapE : ∀ (l : List Operand), (∀ x ∈ l, ev x = ev' x) → l.map ev = l.map ev' := fun l hl => List.map_congr_left hl
 have optE : ∀ (x : Option Operand), (∀ y ∈ x.toList, ev y = ev' y) → x.map ev = x.map ev' := fun x hx => by cases x <;> simp_all
 have prtE : ∀ (l : List (Nat × Operand)), (∀ x ∈ l.map (·.2), ev x = ev' x) → (l.map fun p => (p.1, ev p.2)) = l.map fun p => (p.1, ev' p.2) := fun l hl => List.map_congr_left fun p hp => by rw [hl p.2 (List.mem_map_of_mem hp)]
 cases o with
 | call c =>
   obtain ⟨cal, args, tys⟩ := c
   cases cal with
   | builtin b =>
     have hm := mapE args.toList (fun x hx => he x (by simpa [opnds] using hx))
     cases b <;> simp only [act, hm] <;> split <;> simp_all [opnds]
   | _ => rfl
 | pick c a b => simp only [act]; rw [he c (by simp [opnds]), he a (by simp [opnds]), he b (by simp [opnds])]
 | build t parts => simp only [act]; rw [prtE _ (fun x hx => he x (by simpa [opnds] using hx))]
 | buildSlice t n parts => simp only [act]; rw [prtE _ (fun x hx => he x (by simpa [opnds] using hx))]
 | makeFunc f a b => simp only [act]; rw [mapE a.toList (fun x hx => he x (by simp [opnds]; simp at hx; exact .inl hx)), mapE b.toList (fun x hx => he x (by simp [opnds]; simp at hx; exact .inr hx))]
 | slice t x lo hi mx =>
   simp only [act]
   rw [he x (by simp [opnds]), optE lo (fun y hy => he y (by simp [opnds] at hy ⊢; simp [hy])), optE hi (fun y hy => he y (by simp [opnds] at hy ⊢; simp [hy])), optE mx (fun y hy => he y (by simp [opnds] at hy ⊢; simp [hy]))]
 | makeMap t r => simp only [act]; rw [optE r (fun y hy => he y (by simpa [opnds] using hy))]
 | mapUpdate t m k v => simp only [act]; rw [he m (by simp [opnds]), he k (by simp [opnds]), he v (by simp [opnds])]
 | lookup t x i c => simp only [act]; rw [he x (by simp [opnds]), he i (by simp [opnds])]
 | move x | assign x | box _ x | load _ x | nilCheck x | unOp _ _ x | convert _ _ x | fieldAddr _ x _ | field _ x _ | extract x _ => simp only [act]; rw [he x (by simp [opnds])]
 | store _ x v | binOp _ _ x v _ | makeSlice _ x v | indexAddr _ x v | index _ x v => simp only [act]; rw [he x (by simp [opnds]), he v (by simp [opnds])]
 | _ => rfl
theorem restr_sub {ids : List Nat} {h : Hp} {i : Nat} {b : Blk} (hb : restr ids h i = some b) : h i = some b := by simp only [restr] at hb; split at hb; exact hb; cases hb
section
variable {P : Program} {h h' : Hp}
theorem cellsAt_mono (hs : ∀ i b, h i = some b → h' i = some b) {x : V} {r : Prop × List V} (he : cellsAt h x = some r) : cellsAt h' x = some r := by
 unfold cellsAt at he ⊢
 split at he
 · rename_i id k i off
   split at he
   · rename_i b hb; rw [hs _ _ hb]; exact he
   · cases he
 · exact he
 · cases he
theorem spread_mono (hs : ∀ i b, h i = some b → h' i = some b) {k : Nat} {x : V} {r : Prop × List (List V)} (he : spread h k x = some r) : spread h' k x = some r := by
 unfold spread at he ⊢
 split at he
 · exact he
 · rename_i id k' n ex
   split at he
   · rename_i b hb; rw [hs _ _ hb]; exact he
   · cases he
 · exact he
 · cases he
theorem act_mono (hs : ∀ i b, h i = some b → h' i = some b) {ev : Operand → V} {o : Op} {nx : Nat} {e : Eff} (he : act P ev o h nx = some e) : act P ev o h' nx = some e := by
 cases o with
 | lookup t x i c => exact actLookup_mono hs he
 | mapUpdate t m k v => exact actMapUpdate_mono hs he
 | load t x =>
   simp only [act, actLoad] at he ⊢
   split at he
   · rename_i i C cs h1 h2; rw [h1, cellsAt_mono hs h2]; exact he
   · cases he
 | slice t x lo hi mx =>
   simp only [act] at he ⊢
   cases hA : actSliceArr P t (ev x) (lo.map ev) (hi.map ev) (mx.map ev) h with
   | some e' => rw [hA] at he; rw [actSliceArr_mono hs hA]; exact he
   | none =>
     rw [hA] at he
     cases hB : actSliceArr P t (ev x) (lo.map ev) (hi.map ev) (mx.map ev) h' with
     | none => exact he
     | some e' =>
       obtain ⟨ti, id, k, n, off, len, el, h1, h2, _⟩ := actSliceArr_ref hB
       simp only [h2, actSlice_ref] at he
       cases he
 | store t x v =>
   simp only [act, actStore] at he ⊢
   split at he
   · rename_i i id k n off h1 h2
     split at he
     · rename_i b hb; simp only [h1, h2, hs _ _ hb]; exact he
     · cases he
   · cases he
 | call c =>
   obtain ⟨cal, args, tys⟩ := c
   cases cal with
   | builtin b =>
     cases b <;> try exact he
     case len =>
       simp only [act] at he ⊢
       split at he
       · exact actLen2_mono hs he
       · cases he
     case append =>
       simp only [act] at he ⊢
       split at he
       · rename_i x y ha
         simp only [actAppend] at he ⊢
         split at he
         case h_2 => cases he
         rename_i t t2 ht
         try rw [ht]
         try simp only at he ⊢
         split at he
         case h_2 => cases he
         rename_i ti ti2 h1 h2
         try rw [h1, h2]
         try simp only at he ⊢
         split at he
         case h_3 => cases he
         case h_2 => rename_i h3 h4; (try rw [h3, h4]); exact he
         rename_i e el h3 h4
         try rw [h3, h4]
         try simp only at he ⊢
         split at he
         case h_2 => cases he
         rename_i i h5
         try rw [h5]
         try simp only at he ⊢
         split at he
         case isFalse => cases he
         rename_i h6
         rw [if_pos h6]
         split at he
         case h_2 => cases he
         rename_i C ys h7
         rw [spread_mono hs h7]
         try simp only at he ⊢
         split at he
         · rename_i h8; try rw [h8]
           exact he
         · rename_i k es h8; try rw [h8]
           exact he
         · rename_i id k n h8
           try rw [h8]
           try simp only at he ⊢
           split at he
           · rename_i b hb; rw [hs _ _ hb]; exact he
           · cases he
         · rename_i id k n h8
           try rw [h8]
           try simp only at he ⊢
           split at he
           · rename_i b hb; rw [hs _ _ hb]; exact he
           · cases he
         · cases he
       · cases he
   | _ => exact he
 | _ => exact he
theorem Pur.mono (hs : ∀ i b, h i = some b → h' i = some b) {fr : Bool} {d d' : V} (hp : Pur fr h d d') : Pur fr h' d d' := by
 induction hp with
 | pu d hp => exact .pu d hp
 | slw k es ex hp => exact .slw k es ex hp
 | nilsl k ex => exact .nilsl k ex
 | os id k n ex ex' b es hex' hb hk hm hn hl hle hc ih => exact .os id k n ex ex' b es hex' (hs _ _ hb) hk hm hn hl hle ih
 | ref id k i off b cs hb hk hm hi hl hc ih => exact .ref id k i off b cs (hs _ _ hb) hk hm hi hl ih
 | agg cs cs' hl hc ih => exact .agg cs cs' hl ih
 | fn f a a' b b' h1 h2 c1 c2 ih1 ih2 => exact .fn f a a' b b' h1 h2 ih1 ih2
end
theorem asc_ext : ∀ {l1 l2 : List Nat}, l1.Pairwise (· < ·) → l2.Pairwise (· < ·) → (∀ x, x ∈ l1 ↔ x ∈ l2) → l1 = l2 := by
 intro l1
 induction l1 with
 | nil => intro l2 _ _ h; cases l2 with
   | nil => rfl
   | cons x r => have := (h x).2 (by simp); cases this
 | cons x r ih =>
   intro l2 h1 h2 h
   cases l2 with
   | nil => have := (h x).1 (by simp); cases this
   | cons y q =>
     rw [List.pairwise_cons] at h1 h2
     have hxy : x = y := by
       rcases List.mem_cons.1 ((h x).1 (by simp)) with e | e
       · exact e
       · rcases List.mem_cons.1 ((h y).2 (by simp)) with e' | e'
         · exact e'.symm
         · have a := h2.1 x e; have b := h1.1 y e'; omega
     subst hxy
     rw [ih h1.2 h2.2 fun z => ?_]
     constructor
     · intro hz
       rcases List.mem_cons.1 ((h z).1 (by simp [hz])) with e | e
       · subst e; have := h1.1 z hz; omega
       · exact e
     · intro hz
       rcases List.mem_cons.1 ((h z).2 (by simp [hz])) with e | e
       · subst e; have := h2.1 z hz; omega
       · exact e
def app (x : List V × Hp) (e : Ent) : List V × Hp := (putT x.1 e.dst e.v, applyWr x.2 e.wr)
theorem putT_get (l : List V) (d : Option Tmp) (v : V) (t : Nat) : (putT l d v)[t]? = if d = some t ∧ t < l.length then some v else l[t]? := by
 cases d with
 | none => simp [putT]
 | some d =>
   simp only [putT, Option.some.injEq]
   by_cases h : d = t
   · subst h
     by_cases hl : d < l.length
     · simp [hl]
     · simp [hl]
   · rw [List.getElem?_set_ne h]; simp [h]
theorem putT_len (l : List V) (d : Option Tmp) (v : V) : (putT l d v).length = l.length := by cases d <;> simp [putT]
theorem applyWr_at : ∀ (wr : Wr) (h h' : Hp) (i : Nat), (h i = h' i ∨ wr.any (·.1 == i) = true) → applyWr h wr i = applyWr h' wr i := by
 intro wr
 induction wr with
 | nil =>
   intro h h' i hh
   rcases hh with hh | hh
   · exact hh
   · cases hh
 | cons p r ih =>
   intro h h' i hh
   obtain ⟨k, b⟩ := p
   simp only [applyWr]
   refine ih _ _ i ?_
   simp only [upd]
   by_cases hk : i = k
   · left; simp [hk]
   · rcases hh with hh | hh
     · left; simp [hk, hh]
     · right
       simpa [Ne.symm hk] using hh
theorem applyWr_off : ∀ (wr : Wr) (h : Hp) (i : Nat), wr.any (·.1 == i) = false → applyWr h wr i = h i := by
 intro wr
 induction wr with
 | nil => intro h i _; rfl
 | cons p r ih =>
   intro h i hh
   obtain ⟨k, b⟩ := p
   simp only [List.any_cons, Bool.or_eq_false_iff, beq_eq_false_iff_ne] at hh
   simp only [applyWr]
   rw [ih _ i hh.2]
   simp only [upd]
   rw [if_neg (Ne.symm hh.1)]
section
variable (E : Nat → Ent) (x0 : List V × Hp)
def T (l : List Nat) : List V × Hp := l.foldl (fun x i => app x (E i)) x0
theorem T_snoc (l : List Nat) (i : Nat) : T E x0 (l ++ [i]) = app (T E x0 l) (E i) := by simp [T]
def wT (t : Nat) (i : Nat) : Bool := (E i).dst == some t
def wH (k : Nat) (i : Nat) : Bool := (E i).wr.any (·.1 == k)
theorem T_tmp (t : Nat) : ∀ (l : List Nat) (x y : List V × Hp), x.1[t]? = y.1[t]? → x.1.length = y.1.length → (T E x l).1[t]? = (T E y (l.filter (wT E t))).1[t]? := by
 intro l
 induction l with
 | nil => intro x y h _; exact h
 | cons i r ih =>
   intro x y h hl
   by_cases hw : wT E t i = true
   · rw [List.filter_cons_of_pos hw]
     refine ih _ _ ?_ ?_
     · simp only [app, putT_get, hl, h]
     · simp only [app, putT_len, hl]
   · rw [List.filter_cons_of_neg hw]
     refine ih _ _ ?_ ?_
     · have : ¬ (E i).dst = some t := by simpa [wT] using hw
       simp only [app, putT_get, this, false_and, if_false, h]
     · simp only [app, putT_len, hl]
theorem T_hp (k : Nat) : ∀ (l : List Nat) (x y : List V × Hp), x.2 k = y.2 k → (T E x l).2 k = (T E y (l.filter (wH E k))).2 k := by
 intro l
 induction l with
 | nil => intro x y h; exact h
 | cons i r ih =>
   intro x y h
   by_cases hw : wH E k i = true
   · rw [List.filter_cons_of_pos hw]
     exact ih _ _ (applyWr_at _ _ _ _ (.inl h))
   · rw [List.filter_cons_of_neg hw]
     refine ih _ _ ?_
     simp only [app]
     rw [applyWr_off _ _ _ (by simpa only [wH, Bool.not_eq_true] using hw)]; exact h
end
section
variable {ops : Array Oper} {es : List Ent} {nx0 : Nat}
structure Sched (ops : Array Oper) (es : List Ent) (nx0 : Nat) (pre : Nat → Nat → Bool) : Prop where
 len : es.length = ops.size
 down : ∀ j o, ops[j]? = some o → ∀ x ∈ o.after, Region.binds .any x = true → x.on < j
 step : ∀ j o i, ops[j]? = some o → i < es.length → pre j i = true → ∃ x ∈ o.after, Region.binds .any x = true ∧ (x.on = i ∨ pre x.on i = true)
 conf : ∀ i j o o' e e', i < j → ops[i]? = some o → es[i]? = some e → ops[j]? = some o' → es[j]? = some e' → pre j i = true ∨ entConf ops o e o' e' = false
 wr : ∀ j e p, es[j]? = some e → p ∈ e.wr → p.1 < nx0 + 64 * (j + 1) ∧ (nx0 + 64 * j ≤ p.1 ∨ p.1 < nx0 ∨ pre j ((p.1 - nx0) / 64) = true)
theorem drawOk_spec (h : drawOk ops es nx0 = true) : Sched ops es nx0 fun j i => ((Region.before ops).getD j 0).testBit i := by
 unfold drawOk at h
 simp only [Bool.and_eq_true, beq_iff_eq, List.all_eq_true, List.mem_range] at h
 obtain ⟨hl, h⟩ := h
 have at_ : ∀ j o e, ops[j]? = some o → es[j]? = some e → _ := fun j o e ho he => by
   have hj : j < es.length := (List.getElem?_eq_some_iff.1 he).1
   have := h j hj
   rw [ho, he] at this
   simp only [Bool.and_eq_true, List.all_eq_true, List.mem_range, Bool.or_eq_true, Bool.not_eq_true', decide_eq_true_eq, List.any_eq_true, beq_iff_eq] at this
   exact this
 have ex : ∀ j o, ops[j]? = some o → ∃ e, es[j]? = some e := fun j o ho => by
   have hj : j < ops.size := (Array.getElem?_eq_some_iff.1 ho).1
   exact ⟨_, List.getElem?_eq_getElem (by omega)⟩
 have ex' : ∀ j e, es[j]? = some e → ∃ o, ops[j]? = some o := fun j e he => by
   have hj : j < es.length := (List.getElem?_eq_some_iff.1 he).1
   exact ⟨_, Array.getElem?_eq_getElem (by omega)⟩
 refine ⟨hl, fun j o ho x hx hb => ?_, fun j o i ho hi hp => ?_, fun i j o o' e e' hij ho he ho' he' => ?_, fun j e p he hp => ?_⟩
 · obtain ⟨e, he⟩ := ex j o ho
   have := (at_ j o e ho he).1.1.1 x (by simpa using hx)
   rcases this with this | this
   · rw [hb] at this; cases this
   · exact this
 · obtain ⟨e, he⟩ := ex j o ho
   have := (at_ j o e ho he).1.1.2 i hi
   rcases this with this | ⟨x, hx, hb, hq⟩
   · rw [hp] at this; cases this
   · exact ⟨x, by simpa using hx, hb, hq⟩
 · have := (at_ j o' e' ho' he').1.2 i hij
   rw [ho, he] at this
   rcases this with this | this
   · exact .inl this
   · exact .inr (by simpa using this)
 · obtain ⟨o, ho⟩ := ex' j e he
   have := (at_ j o e ho he).2 p hp
   refine ⟨this.1, ?_⟩
   rcases this.2 with (h1 | h1) | h1
   · exact .inl h1
   · exact .inr (.inl h1)
   · exact .inr (.inr h1)
end
end Go.Aw
end
section
namespace Go.Aw
open Go.RowKit
section
variable {P : Program} {A : Amb} {ops : Array Oper} {gh : Gh}
def stAt (gh : Gh) (x : List V × Hp) (nx : Nat) : St := ⟨x.1, x.2, nx, gh⟩
theorem ev_congr {st st' : St} {l : List Operand} (h : ∀ t, Operand.tmp t ∈ l → st.tmps[t]? = st'.tmps[t]?) : ∀ x ∈ l, st.ev x = st'.ev x := by
 intro x hx
 cases x with
 | tmp t => simp only [St.ev, List.getD_eq_getElem?_getD, h t hx]
 | _ => rfl
theorem guard_congr {st st' : St} {o : Oper} (h : ∀ t, t ∈ readT ops o → st.tmps[t]? = st'.tmps[t]?) : guardOk ops st o = guardOk ops st' o := by
 unfold guardOk
 cases hg : o.guard with
 | none => rfl
 | some p =>
   obtain ⟨j, want⟩ := p
   simp only
   cases hd : (ops[j]?).bind (·.dst) with
   | none => rfl
   | some d =>
     have : d ∈ readT ops o := by simp [readT, hg, hd]
     simp only [List.getD_eq_getElem?_getD, h d this]
theorem applyWr_append : ∀ (a b : Wr) (h : Hp), applyWr h (a ++ b) = applyWr (applyWr h a) b
 | [], b, h => rfl
 | (i, x) :: a, b, h => applyWr_append a b (upd h i x)
theorem applyWr_map (F : Nat → Option Blk) (i : Nat) : ∀ (ids : List Nat) (h : Hp), applyWr h (ids.map fun id => (id, F id)) i = if i ∈ ids then F i else h i
 | [], h => by simp [applyWr]
 | a :: ids, h => by
   have ih := applyWr_map F i ids (upd h a (F a))
   rw [List.map_cons]
   show applyWr (upd h a (F a)) (ids.map fun id => (id, F id)) i = _
   rw [ih]
   by_cases h1 : i ∈ ids
   · rw [if_pos h1, if_pos (List.mem_cons_of_mem _ h1)]
   · rw [if_neg h1]
     by_cases h2 : i = a
     · subst h2; rw [if_pos (List.mem_cons_self ..)]; simp [upd]
     · rw [if_neg (fun h => (List.mem_cons.1 h).elim h2 h1)]
       simp [upd, h2]
theorem EntOk.congr {o : Oper} {st st' : St} {e : Ent} (h : EntOk P ops o st e) (ht : ∀ t, t ∈ readT ops o → st.tmps[t]? = st'.tmps[t]?) (hh : restr e.foot st.h = restr e.foot st'.h) (hn : st.nx = st'.nx) : EntOk P ops o st' e := by
 have hev : ∀ x ∈ opnds o.op, st.ev x = st'.ev x := ev_congr fun t hm => ht t (by
   simp only [readT, List.mem_append, List.mem_filterMap]
   exact .inl ⟨_, hm, rfl⟩)
 obtain ⟨h1, h2⟩ := h
 refine ⟨h1, ?_⟩
 rw [← guard_congr (st := st) (st' := st') ht]
 rcases h2 with ⟨g1, g2⟩ | ⟨g1, g2, c, g3, g4⟩ | ⟨g1, g2, f, args, tys, g, first, cap, args', g3, g4, g5, g6⟩ | ⟨g1, ids, q1, q2, f, args, tys, g, first, cap, args', g3, g4, g5, g6⟩ | ⟨g1, ids, rows, q1, q2, f, args, tys, g, first, cap, args', g3, g4, g5, g6, g7⟩
 · exact .inl ⟨g1, g2⟩
 · refine .inr (.inl ⟨g1, g2, c, ?_, g4⟩)
   rw [← act_ev hev, ← hh, ← hn]; exact g3
 · refine .inr (.inr (.inl ⟨g1, g2, f, args, tys, g, first, cap, args', g3, ?_, ?_, g6⟩))
   · rw [← hev f (by rw [g3]; simp [opnds])]; exact g4
   · rw [← hh, ← List.map_congr_left (fun x hx => hev x (by rw [g3]; simp [opnds]; right; simpa using hx))]; exact g5
 · refine .inr (.inr (.inr (.inl ⟨g1, ids, by rw [← hh]; exact q1, by rw [← hh]; exact q2, f, args, tys, g, first, cap, args', g3, ?_, ?_, g6⟩)))
   · rw [← hev f (by rw [g3]; simp [opnds])]; exact g4
   · rw [← hh, ← List.map_congr_left (fun x hx => hev x (by rw [g3]; simp [opnds]; right; simpa using hx))]; exact g5
 · refine .inr (.inr (.inr (.inr ⟨g1, ids, rows, by rw [← hh]; exact q1, by rw [← hh]; exact q2, f, args, tys, g, first, cap, args', g3, ?_, ?_, by rw [← hn]; exact g6, g7⟩)))
   · rw [← hev f (by rw [g3]; simp [opnds])]; exact g4
   · rw [← hh, ← List.map_congr_left (fun x hx => hev x (by rw [g3]; simp [opnds]; right; simpa using hx))]; exact g5
theorem draws_spec {nx0 : Nat} {K : St → Prop} : ∀ (l : List Oper) (done : List Ent) (st : St), Draws P ops nx0 K l done st → ∃ more : List Ent,
   (∀ i o e, l[i]? = some o → more[i]? = some e → EntOk P ops o ((more.take i).foldl (fun st e => appS e st) st) e) ∧
   ((more.length = l.length ∧ drawOk ops (done ++ more) nx0 = true ∧ K (more.foldl (fun st e => appS e st) st)) ∨
    ∃ o, more.length + 1 = l.length ∧ l[more.length]? = some o ∧ drawLast ops (done ++ more) nx0 = true ∧ guardOk ops (more.foldl (fun st e => appS e st) st) o = some true ∧ awpOp P o (fun st' => K ⟨st'.tmps, st'.h, st'.nx + 64, st'.gh⟩) (more.foldl (fun st e => appS e st) st)) := by
 intro l done st h
 induction h with
 | nil es st h hk => exact ⟨[], (fun i o e h => by cases h), .inl ⟨rfl, by simpa using h, hk⟩⟩
 | last o es st h hg hk => exact ⟨[], (fun i o e _ h => by cases h), .inr ⟨o, rfl, rfl, by simpa using h, hg, hk⟩⟩
 | cons o rest es st e he hk ih =>
   obtain ⟨more, h4, h1⟩ := ih
   refine ⟨e :: more, fun i o' e' ho he' => ?_, ?_⟩
   · cases i with
     | zero => simp at ho he'; subst ho he'; exact he
     | succ i => exact h4 i o' e' (by simpa using ho) (by simpa using he')
   · rcases h1 with ⟨h1, h2, h3⟩ | ⟨o', h1, h2, h3, h5, h6⟩
     · exact .inl ⟨by simp [h1], by simpa using h2, h3⟩
     · exact .inr ⟨o', by simp [← h1], by simpa using h2, by simpa using h3, h5, h6⟩
theorem fold_T (es : List Ent) (x0 : List V × Hp) (nx0 : Nat) : ∀ j, j ≤ es.length → (es.take j).foldl (fun st e => appS e st) (stAt gh x0 nx0) = stAt gh (T (fun i => es.getD i default) x0 (List.range j)) (nx0 + 64 * j) := by
 intro j
 induction j with
 | zero => intro _; simp [T, stAt]
 | succ j ih =>
   intro hj
   rw [List.take_add_one, List.foldl_append, ih (by omega), List.range_succ, T_snoc]
   rw [List.getElem?_eq_getElem (by omega)]
   simp only [Option.toList_some, List.foldl_cons, List.foldl_nil]
   have : es.getD j default = es[j] := by rw [List.getD_eq_getElem?_getD, List.getElem?_eq_getElem (by omega)]; rfl
   simp only [appS, stAt, app, this, Nat.mul_succ, Nat.add_assoc]
section
variable {own : Nat → Prop} {ok : Nat → Nat → Prop} {s : Nat → Option Nat} {st : St} {w : World} {a : Act}
theorem guard_sound (hr : R A own ok s st w a) {ops : Array Oper} {o : Oper} {g : Bool} (h : guardOk ops st o = some g) : Region.wanted o (yielded ops a.tmps) = g := by
 unfold guardOk at h
 unfold Region.wanted
 split at h
 · rename_i hg; cases h; rw [hg]
 · rename_i j want hg
   rw [hg]
   split at h
   case h_2 => cases h
   rename_i d hd
   split at h
   case h_3 => cases h
   case h_2 =>
     rename_i hb
     cases h
     have hlt : d < st.tmps.length := by
       by_cases hlt : d < st.tmps.length
       · exact hlt
       · rw [List.getD_eq_getElem?_getD, List.getElem?_eq_none (Nat.le_of_not_lt hlt)] at hb; cases hb
     have h2 : st.tmps[d]? = some (.tup []) := by rw [← hb, List.getD_eq_getElem?_getD, List.getElem?_eq_getElem hlt]; rfl
     have h1 : a.tmps[d]? = some (a.tmps.getD d undef) := by rw [Array.getD_eq_getD_getElem?, Array.getElem?_eq_getElem (show d < a.tmps.size from by rw [hr.sz]; exact hlt)]; rfl
     have := hr.tm d _ _ h1 h2
     generalize a.tmps.getD d undef = v at *
     cases this
     simp only [yielded, hd, Option.bind_some, h1]
     rfl
   rename_i b hb
   cases h
   have hlt : d < st.tmps.length := by
     by_cases hlt : d < st.tmps.length
     · exact hlt
     · rw [List.getD_eq_getElem?_getD, List.getElem?_eq_none (Nat.le_of_not_lt hlt)] at hb; cases hb
   have h2 : st.tmps[d]? = some (.lit (.bool b)) := by rw [← hb, List.getD_eq_getElem?_getD, List.getElem?_eq_getElem hlt]; rfl
   have h1 : a.tmps[d]? = some (a.tmps.getD d undef) := by rw [Array.getD_eq_getD_getElem?, Array.getElem?_eq_getElem (show d < a.tmps.size from by rw [hr.sz]; exact hlt)]; rfl
   have := hr.tm d _ _ h1 h2
   generalize a.tmps.getD d undef = v at *
   cases this
   simp only [yielded, hd, Option.bind_some, h1]
   cases b <;> cases want <;> rfl
end
theorem enter_sound {w : World} {ok : Nat → Nat → Prop} {s : Nat → Option Nat} {ρ : Operand → Value} {ev : Operand → V} (hev : ∀ x, Rep w ok s (ρ x) (ev x)) {o : Oper} {f : Operand} {args : Array Operand} {tys : Array TypeId} (ho : o.op = .call ⟨.value f, args, tys⟩) {g : FuncId} {first cap : List V}
   (hfe : ev f = .fn (.func g) first cap) {fn : Func} (h1 : P.funcs[g]? = some fn) (h2 : fn.body.isSome = true) (h3 : fn.name ≠ "runtime.NumGoroutine") :
   ∃ vals : Array Value, (execOp ρ o).run P w = .ok (.enter g vals) w ∧ vals.size = (first ++ args.toList.map ev ++ cap).length ∧
     ∀ (i : Nat) (d : V) (v : Value), (first ++ args.toList.map ev ++ cap)[i]? = some d → vals[i]? = some v → Rep w ok s v d := by
 have hf := hev f
 rw [hfe] at hf
 generalize hfv : ρ f = fv at hf
 cases hf with
 | fn _ vs us _ _ e1 e2 c1 c2 =>
   refine ⟨vs ++ args.map ρ ++ us, ?_, by simp [e1, e2], fun i d v hd hv => ?_⟩
   · unfold execOp
     rw [ho]
     simp only [resolve, hfv, Deferred.ofValue, invoke, Sem.run_bind, Sem.run_pure, Result.andThen_ok]
     rw [callFunc_run h1 h2 h3]
   · by_cases i1 : i < first.length
     · rw [List.append_assoc, List.getElem?_append_left i1] at hd
       rw [Array.append_assoc, Array.getElem?_append_left (by omega)] at hv
       exact c1 i d v hd hv
     · by_cases i2 : i < (first ++ args.toList.map ev).length
       · rw [List.getElem?_append_left i2, List.getElem?_append_right (by omega)] at hd
         have i3 : i < (vs ++ args.map ρ).size := by simp [e1] at *; omega
         rw [Array.getElem?_append_left i3, Array.getElem?_append_right (by omega)] at hv
         rw [e1] at hv
         simp only [List.getElem?_map, Array.getElem?_toList, Option.map_eq_some_iff] at hd
         simp only [Array.getElem?_map, Option.map_eq_some_iff] at hv
         obtain ⟨x, hx, rfl⟩ := hd
         obtain ⟨y, hy, rfl⟩ := hv
         rw [hx] at hy; cases hy
         exact hev x
       · rw [List.getElem?_append_right (by omega)] at hd
         have i3 : (vs ++ args.map ρ).size ≤ i := by simp [e1] at *; omega
         rw [Array.getElem?_append_right i3] at hv
         have e3 : (vs ++ args.map ρ).size = (first ++ args.toList.map ev).length := by simp [e1]
         rw [e3] at hv
         exact c2 _ d v hd hv
theorem pu_sound {w : World} {own : Nat → Prop} {ok : Nat → Nat → Prop} {s : Nat → Option Nat} {h : Hp} (hr : RH w own ok s h) {g : FuncId} {vals : Array Value} {args0 args' : List V} {r : V} (hsz : vals.size = args0.length)
   (hargs : ∀ (i : Nat) (d : V) (v : Value), args0[i]? = some d → vals[i]? = some v → Rep w ok s v d) (hp : PurL true h args0 args') (hc : CallsTo P g args' r) (hpu : Pu r) :
   CallsIn (FW none) 0 P g vals w fun e w' => ∃ v ok', e = .returned v ∧ Rep w' ok' s v r ∧ RH w' own ok' s h ∧ Evol own ok w own ok' w' := by
 have hcall := hc w (okT ok s h true) vals (fun b o' hb => by
   rcases hb with hb | ⟨hb, _⟩
   · exact hr.okw b o' hb
   · cases hb) (hr.gl.keep fun b o hb => ⟨.inl hb, rfl⟩) (by rw [hsz]; exact hp.1) (fun i d v hd hv => by
     have hi : i < args0.length := by rw [hp.1]; exact (List.getElem?_eq_some_iff.1 hd).1
     exact (hp.2 i _ d (List.getElem?_eq_getElem hi) hd).rep hr (hargs i _ v (List.getElem?_eq_getElem hi) hv))
 refine CallsIn.mono hcall ?_
 rintro e w' ⟨v, own', ok', rfl, hev, hokw, hrep⟩
 have hev1 : Evol (fun _ => False) ok w own' ok' w' := ⟨hev.os, hev.tape, hev.output, hev.size, hev.unch, hev.ownn, fun b o' hb => hev.okk b o' (.inl hb), fun b o' hb => hev.okc b o' (.inl hb), fun b o' hb => by
   rcases hev.okn b o' hb with h' | h'
   · rcases h' with h' | ⟨h', _⟩
     · exact .inl h'
     · cases h'
   · exact .inr h', hev.shape, hev.ctl⟩
 obtain ⟨g1, g2⟩ := hr.called hev1 hokw
 exact ⟨v, ok', rfl, hrep.pu hpu, g1, g2⟩
theorem closed_sound {w : World} {own : Nat → Prop} {ok : Nat → Nat → Prop} {s : Nat → Option Nat} {h : Hp} (hr : RH w own ok s h) {g : FuncId} {vals : Array Value} {args0 args' : List V} {r : V} (hsz : vals.size = args0.length)
   (hargs : ∀ (i : Nat) (d : V) (v : Value), args0[i]? = some d → vals[i]? = some v → Rep w ok s v d) (hp : PurL false h args0 args') (hc : CallsTo P g args' r) (hcl : Cl r) :
   CallsIn (FW none) 0 P g vals w fun e w' => ∃ v, e = .returned v ∧ Rep w' ok s v r ∧ RH w' own ok s h ∧ Evol own ok w own ok w' := by
 have hcall := hc w (okT ok s h false) vals (fun b o' hb => by
   rcases hb with hb | ⟨_, id, x, hx, hB, ho⟩
   · exact hr.okw b o' hb
   · exact hr.cell_row hx hB ho) (hr.gl.keep fun b o hb => ⟨.inl hb, rfl⟩) (by rw [hsz]; exact hp.1) (fun i d v hd hv => by
     have hi : i < args0.length := by rw [hp.1]; exact (List.getElem?_eq_some_iff.1 hd).1
     exact (hp.2 i _ d (List.getElem?_eq_getElem hi) hd).rep hr (hargs i _ v (List.getElem?_eq_getElem hi) hv))
 refine CallsIn.mono hcall ?_
 rintro e w' ⟨v, own', ok', rfl, hev, hokw, hrep⟩
 have hev1 : Evol (fun _ => False) ok w (fun _ => False) ok w' := ⟨hev.os, hev.tape, hev.output, hev.size, hev.unch, fun _ h => .inl h, fun _ _ h => h, fun b o' hb => hev.okc b o' (.inl hb), fun _ _ h => .inl h, hev.shape, hev.ctl⟩
 obtain ⟨g1, g2⟩ := hr.called hev1 (fun b o' hb => by obtain ⟨u, hu⟩ := hr.okw b o' hb; exact ⟨u, (hev1.okc b o' hb).trans hu⟩)
 exact ⟨v, rfl, hrep.cl hcl, g1, g2⟩
section
variable {E : Nat → Ent} {x0 : List V × Hp} {nx0 N : Nat} {pre : Nat → Nat → Bool}
structure RD (A : Amb) (gh : Gh) (E : Nat → Ent) (x0 : List V × Hp) (nx0 N : Nat) (own : Nat → Prop) (ok : Nat → Nat → Prop) (s : Nat → Option Nat) (l : List Nat) (w : World) (a : Act) : Prop where
 r : R A own ok s (stAt gh (T E x0 l) (nx0 + 64 * N)) w a
 rng : ∀ k, k < N → k ∉ l → ∀ id, nx0 + 64 * k ≤ id → id < nx0 + 64 * (k + 1) → s id = none ∧ (T E x0 l).2 id = none
 lm : gh.lim ≤ nx0
theorem RD.step (hA : A.Stable) {own : Nat → Prop} {ok : Nat → Nat → Prop} {s : Nat → Option Nat} {l : List Nat} {w : World} {a : Act} (hr : RD A gh E x0 nx0 N own ok s l w a) {j : Nat} (hj : j < N) (hjl : j ∉ l)
   {own' : Nat → Prop} {ok' : Nat → Nat → Prop} {s' : Nat → Option Nat} {w' : World} (hrh : RH w' own' ok' s' (applyWr (T E x0 l).2 (E j).wr)) (he : Evol own ok w own' ok' w') (hs : ∀ id, ¬(nx0 + 64 * j ≤ id ∧ id < nx0 + 64 * (j + 1)) → s' id = s id)
   (hw : ∀ p ∈ (E j).wr, p.1 < nx0 + 64 * (j + 1) ∧ (nx0 + 64 * j ≤ p.1 ∨ p.1 < nx0 ∨ (p.1 - nx0) / 64 ∈ l)) {v : Value} (hv : Rep w' ok' s' v (E j).v) : RD A gh E x0 nx0 N own' ok' s' (l ++ [j]) w' (a.put (E j).dst v) := by
 have hwr : ∀ k, k < N → k ∉ l → k ≠ j → ∀ id, nx0 + 64 * k ≤ id → id < nx0 + 64 * (k + 1) → (E j).wr.any (·.1 == id) = false := fun k hk hkl hkj id h1 h2 => by
   rw [Bool.eq_false_iff]
   intro hany
   rw [List.any_eq_true] at hany
   obtain ⟨p, hp, hpe⟩ := hany
   simp only [beq_iff_eq] at hpe
   subst hpe
   obtain ⟨g1, g2⟩ := hw p hp
   have hk' : (p.1 - nx0) / 64 = k := by omega
   rcases g2 with g2 | g2 | g2
   · omega
   · omega
   · rw [hk'] at g2; exact hkl g2
 have hsame : ∀ id B, s id = some B → s' id = some B := fun id B hB => by
   rw [hs id fun hh => ?_]; exact hB
   rw [(hr.rng j hj hjl id hh.1 hh.2).1] at hB; cases hB
 have e : T E x0 (l ++ [j]) = app (T E x0 l) (E j) := T_snoc _ _ _ _
 have r0 : R A own' ok' s' (stAt gh ((T E x0 l).1, applyWr (T E x0 l).2 (E j).wr) (nx0 + 64 * N)) w' a := by
   refine ⟨hrh, hr.r.sz, fun t v d hv hd => (hr.r.tm t v d hv hd).evol he hsame, fun id hid => ?_, hr.r.lm, ?_, hr.r.df.evol he⟩
   · have hid' : nx0 + 64 * N ≤ id := hid
     obtain ⟨k1, k2⟩ := hr.r.fr id hid
     refine ⟨by rw [hs id (by omega)]; exact k1, ?_⟩
     show applyWr (T E x0 l).2 (E j).wr id = none
     rw [applyWr_off]
     · exact k2
     · rw [Bool.eq_false_iff]
       intro hany
       rw [List.any_eq_true] at hany
       obtain ⟨p, hp, hpe⟩ := hany
       simp only [beq_iff_eq] at hpe
       have := (hw p hp).1
       omega
   · exact R.amb_step hA hr.r.amb he fun id hid => hs id (by have := hr.lm; simp only [stAt] at hid; omega)
 refine ⟨?_, fun k hk hkl id h1 h2 => ?_, hr.lm⟩
 · have := r0.put (E j).dst hv
   rw [e]
   refine cast ?_ this
   congr 1
   simp only [stAt, app, St.put, putT]
   cases (E j).dst <;> rfl
 · simp only [List.mem_append, List.mem_singleton, not_or] at hkl
   obtain ⟨k1, k2⟩ := hr.rng k hk hkl.1 id h1 h2
   refine ⟨by rw [hs id (by omega)]; exact k1, ?_⟩
   rw [e]
   show applyWr (T E x0 l).2 (E j).wr id = none
   rw [applyWr_off _ _ _ (hwr k hk hkl.1 hkl.2 id h1 h2)]
   exact k2
theorem RD.oper (hA : A.Stable) {own : Nat → Prop} {ok : Nat → Nat → Prop} {s : Nat → Option Nat} {l : List Nat} {w : World} {a : Act} (hr : RD A gh E x0 nx0 N own ok s l w a) {j : Nat} (hj : j < N) (hjl : j ∉ l) {o : Oper} (ho : ops[j]? = some o)
   (hw : ∀ p ∈ (E j).wr, p.1 < nx0 + 64 * (j + 1) ∧ (nx0 + 64 * j ≤ p.1 ∨ p.1 < nx0 ∨ (p.1 - nx0) / 64 ∈ l)) (he : EntOk P ops o (stAt gh (T E x0 l) (nx0 + 64 * j)) (E j)) {rd : Option Nat} {Q : Exit → Act → World → Prop} {K : Act → World → Prop}
   (hk : ∀ own ok s w a, RD A gh E x0 nx0 N own ok s (l ++ [j]) w a → K a w) : wpOpIn (FW rd) 0 P ops Q j K a w := by
 obtain ⟨hd, he⟩ := he
 have hg : ∀ {g : Bool}, guardOk ops (stAt gh (T E x0 l) (nx0 + 64 * j)) o = some g → Region.wanted o (yielded ops a.tmps) = g := fun h => guard_sound hr.r (show guardOk ops (stAt gh (T E x0 l) (nx0 + 64 * N)) o = _ from h)
 have hev : ∀ x, Rep w ok s (a.eval x) ((stAt gh (T E x0 l) (nx0 + 64 * j)).ev x) := fun x => hr.r.ev x
 have hjr := hr.rng j hj hjl
 unfold wpOpIn
 rw [ho]
 simp only
 rcases he with ⟨g1, g2, g3⟩ | ⟨g1, g2, c, g3, g4⟩ | ⟨g1, g2, f, args, tys, g, first, cap, args', g3, g4, g5, g6, fn, b1, b2, b3⟩ | ⟨g1, ids, q1, q2, f, args, tys, g, first, cap, args', g3, g4, g5, g6, fn, b1, b2, b3⟩ | ⟨g1, ids, rows, q1, q2, f, args, tys, g, first, cap, args', g3, g4, g5, g6, fn, b1, b2, b3⟩
 · rw [hg g1]
   simp only [Bool.false_eq_true, if_false]
   refine ⟨fun _ _ => trivial, ?_⟩
   rw [← hd]
   exact hk _ _ _ _ _ (hr.step hA hj hjl (by rw [g3]; exact hr.r.rh) (Evol.refl _ _ _) (fun _ _ => rfl) hw (by rw [g2]; exact .tup #[] [] rfl (fun i d v hd hv => by cases hd)))
 · rw [hg g1]
   simp only [if_true]
   refine ⟨fun _ _ => trivial, ?_⟩
   obtain ⟨r, w', own', ok', s', hx, hv, hrh, hevl, hs⟩ := act_sound (P := P) hr.r.rh (hjr _ (Nat.le_refl _) (by omega)).1 (hjr _ (Nat.le_refl _) (by omega)).2 hev (act_mono (fun i b hb => restr_sub hb) g3) g4
   have hnd : ∀ c, o.op ≠ .defer c := fun c hc => by rw [hc] at g3; simp [act] at g3
   rw [Oper.semAt_eq _ _ _ hnd, hx]
   have fin : ∀ v, Rep w' ok' s' v (E j).v → K (a.put o.dst v) w' := fun v hv => by
     rw [← hd]
     exact hk _ _ _ _ _ (hr.step hA hj hjl hrh hevl (fun id hid => hs id (by omega)) hw hv)
   rcases hv with ⟨v, rfl, hv⟩ | ⟨rfl, hv⟩
   · exact fin v hv
   · exact fin undef (by rw [show (E j).v = .undef from hv]; exact .undef _)
 · rw [hg g1]
   simp only [if_true]
   refine ⟨fun _ _ => trivial, ?_⟩
   rw [Oper.semAt_eq _ _ _ (by rw [g3]; intro c hc; cases hc)]
   obtain ⟨vals, e1, e2, e3⟩ := enter_sound (P := P) hev g3 g4 b1 b2 b3
   rw [e1, Oper.uponIn_enter]
   refine ⟨fun h => by simp [FW, Fence.wide] at h, ?_⟩
   rcases g5 with ⟨g5, g7⟩ | ⟨g5, g7⟩
   · refine CallsIn.mono (show CallsIn (FW rd) 0 P g vals w _ from closed_sound (P := P) hr.r.rh e2 e3 (show PurL false _ _ _ from ⟨g5.1, fun i d d' hd hd' => (g5.2 i d d' hd hd').mono (fun i b hb => restr_sub hb)⟩) g6 g7) ?_
     rintro e w' ⟨v, rfl, k1, k2, k3⟩
     show K (a.put o.dst v) w'
     rw [← hd]
     exact hk _ _ _ _ _ (hr.step hA hj hjl (by rw [g2]; exact k2) k3 (fun _ _ => rfl) hw k1)
   · refine CallsIn.mono (show CallsIn (FW rd) 0 P g vals w _ from pu_sound (P := P) hr.r.rh e2 e3 (show PurL true _ _ _ from ⟨g5.1, fun i d d' hd hd' => (g5.2 i d d' hd hd').mono (fun i b hb => restr_sub hb)⟩) g6 g7) ?_
     rintro e w' ⟨v, ok', rfl, k1, k2, k3⟩
     show K (a.put o.dst v) w'
     rw [← hd]
     exact hk _ _ _ _ _ (hr.step hA hj hjl (by rw [g2]; exact k2) k3 (fun _ _ => rfl) hw k1)
 · rw [hg g1]
   simp only [if_true]
   refine ⟨fun _ _ => trivial, ?_⟩
   rw [Oper.semAt_eq _ _ _ (by rw [g3]; intro c hc; cases hc)]
   obtain ⟨vals, e1, e2, e3⟩ := enter_sound (P := P) hev g3 g4 b1 b2 b3
   rw [e1, Oper.uponIn_enter]
   refine ⟨fun h => by simp [FW, Fence.wide] at h, ?_⟩
   obtain ⟨ok2, f1, f2⟩ := hr.r.rh.frzAll ids
   have hsub : ∀ (h : Hp) (i : Nat) (c : Blk), frz ids (restr (E j).foot h) i = some c → frz ids h i = some c := by
     intro h i c hc
     unfold frz at hc ⊢
     split at hc
     · rename_i hi
       rw [if_pos hi]
       rw [Option.map_eq_some_iff] at hc ⊢
       obtain ⟨c0, hc0, hc1⟩ := hc
       exact ⟨c0, restr_sub hc0, hc1⟩
     · rename_i hi
       rw [if_neg hi]; exact restr_sub hc
   have hwr : applyWr (T E x0 l).2 (E j).wr = frz ids (T E x0 l).2 := by
     rw [q2]
     funext i
     rw [applyWr_map]
     by_cases hi : i ∈ ids
     · obtain ⟨b, q1'⟩ := q1 i hi
       have q1' : restr (E j).foot (T E x0 l).2 i = some b := q1'
       have q1'' : (T E x0 l).2 i = some b := restr_sub q1'
       rw [if_pos hi]
       show frz ids (restr (E j).foot (T E x0 l).2) i = _
       simp only [frz, hi, if_true, q1', q1'']
     · rw [if_neg hi]
       simp only [frz, if_neg hi]
   refine CallsIn.mono (show CallsIn (FW rd) 0 P g vals w _ from pu_sound (P := P) f1 e2 (fun i d v hd hv => (e3 i d v hd hv).evol f2 (fun _ _ h => h)) (show PurL true _ _ _ from ⟨g5.1.1, fun i d d' hd hd' => (g5.1.2 i d d' hd hd').mono (fun i b hb => hsub _ i b hb)⟩) g6 g5.2) ?_
   rintro e w' ⟨v, ok', rfl, k1, k2, k3⟩
   show K (a.put o.dst v) w'
   rw [← hd]
   exact hk _ _ _ _ _ (hr.step hA hj hjl (by rw [hwr]; exact k2) (f2.trans k3) (fun _ _ => rfl) hw k1)
 · rw [hg g1]
   simp only [if_true]
   refine ⟨fun _ _ => trivial, ?_⟩
   rw [Oper.semAt_eq _ _ _ (by rw [g3]; intro c hc; cases hc)]
   obtain ⟨vals, e1, e2, e3⟩ := enter_sound (P := P) hev g3 g4 b1 b2 b3
   rw [e1, Oper.uponIn_enter]
   refine ⟨fun h => by simp [FW, Fence.wide] at h, ?_⟩
   obtain ⟨ok2, f1, f2⟩ := hr.r.rh.frzAll ids
   have hsub : ∀ (h : Hp) (i : Nat) (c : Blk), frz ids (restr (E j).foot h) i = some c → frz ids h i = some c := by
     intro h i c hc
     unfold frz at hc ⊢
     split at hc
     · rename_i hi
       rw [if_pos hi]
       rw [Option.map_eq_some_iff] at hc ⊢
       obtain ⟨c0, hc0, hc1⟩ := hc
       exact ⟨c0, restr_sub hc0, hc1⟩
     · rename_i hi
       rw [if_neg hi]; exact restr_sub hc
   have hwr : applyWr (T E x0 l).2 (E j).wr = applyWr (frz ids (T E x0 l).2) rows := by
     rw [q2, applyWr_append]
     congr 1
     funext i
     rw [applyWr_map]
     by_cases hi : i ∈ ids
     · obtain ⟨b, q1'⟩ := q1 i hi
       have q1' : restr (E j).foot (T E x0 l).2 i = some b := q1'
       have q1'' : (T E x0 l).2 i = some b := restr_sub q1'
       rw [if_pos hi]
       show frz ids (restr (E j).foot (T E x0 l).2) i = _
       simp only [frz, hi, if_true, q1', q1'']
     · rw [if_neg hi]
       simp only [frz, if_neg hi]
   refine CallsIn.mono (show CallsIn (FW rd) 0 P g vals w _ from g6 w own ok2 s _ _ vals f1 (fun i h1 h2 => ?_) (show PurL true _ _ _ from ⟨g5.1, fun i d d' hd hd' => (g5.2 i d d' hd hd').mono (fun i b hb => hsub _ i b hb)⟩) e2 (fun i d v hd hv => (e3 i d v hd hv).evol f2 (fun _ _ h => h))) ?_
   · obtain ⟨k1, k2⟩ := hjr i h1 (by have : i < nx0 + 64 * j + 64 := h2; omega)
     refine ⟨k1, ?_⟩
     show frz ids (T E x0 l).2 i = none
     simp only [frz, k2, Option.map_none, ite_self]
   rintro e w' ⟨v, own', ok', s', rfl, k1, k2, k3, k4⟩
   show K (a.put o.dst v) w'
   rw [← hd]
   exact hk _ _ _ _ _ (hr.step hA hj hjl (by rw [hwr]; exact k2) (f2.trans k3) (fun i hi => k4 i (by
     intro hh
     have h1 : nx0 + 64 * j ≤ i := hh.1
     have h2 : i < nx0 + 64 * j + 64 := hh.2
     exact hi ⟨h1, by omega⟩)) hw k1)
theorem filter_eq {l : List Nat} {m : Nat} {p : Nat → Bool} (hnd : l.Nodup) (hord : l.Pairwise fun a b => pre a b = false) (hconf : ∀ i k, i < k → p i = true → p k = true → pre k i = true) (hmem : ∀ i, p i = true → (i ∈ l ↔ i < m)) : l.filter p = (List.range m).filter p := by
 refine asc_ext ?_ (List.Pairwise.filter _ List.pairwise_lt_range) fun x => ?_
 · have h2 : l.Pairwise fun a b => pre a b = false ∧ a ≠ b := hord.and hnd
   refine List.Pairwise.imp_of_mem ?_ (h2.filter p)
   rintro a b ha hb ⟨h1, h2⟩
   rw [List.mem_filter] at ha hb
   rcases Nat.lt_or_ge a b with h | h
   · exact h
   · have := hconf b a (by omega) hb.2 ha.2
     rw [this] at h1; cases h1
 · simp only [List.mem_filter, List.mem_range]
   constructor
   · rintro ⟨h1, h2⟩; exact ⟨(hmem x h2).1 h1, h2⟩
   · rintro ⟨h1, h2⟩; exact ⟨(hmem x h2).2 h1, h2⟩
end
end
end Go.Aw
end
section
namespace Go.Aw
open Go.RowKit
section
variable {P : Program} {A : Amb} {ops : Array Oper} {gh : Gh}
section
variable {es : List Ent} {nx0 : Nat} {pre : Nat → Nat → Bool}
theorem E_some {i : Nat} {t : Nat} (h : wT (fun i => es.getD i default) t i = true) : ∃ e, es[i]? = some e ∧ e.dst = some t ∧ es.getD i default = e := by
 simp only [wT, List.getD_eq_getElem?_getD, beq_iff_eq] at h
 cases he : es[i]? with
 | none => rw [he] at h; exact absurd h (by simp [default, instInhabitedEnt.default])
 | some e => rw [he] at h; exact ⟨e, rfl, h, by simp [List.getD_eq_getElem?_getD, he]⟩
theorem E_wr {i : Nat} {k : Nat} (h : wH (fun i => es.getD i default) k i = true) : ∃ e, es[i]? = some e ∧ e.wr.any (·.1 == k) = true ∧ es.getD i default = e := by
 simp only [wH, List.getD_eq_getElem?_getD] at h
 cases he : es[i]? with
 | none => rw [he] at h; exact absurd h (by simp [default, instInhabitedEnt.default])
 | some e => rw [he] at h; exact ⟨e, rfl, h, by simp [List.getD_eq_getElem?_getD, he]⟩
theorem conf_dst {o1 o2 : Oper} {e1 e2 : Ent} {t : Nat} (h1 : e1.dst = some t) (h2 : e2.dst = some t) : entConf ops o1 e1 o2 e2 = true := by simp [entConf, h1, h2]
theorem conf_rd {o1 o2 : Oper} {e1 e2 : Ent} {t : Nat} (h1 : e1.dst = some t) (h2 : t ∈ readT ops o2) : entConf ops o1 e1 o2 e2 = true := by simp [entConf, h1, h2]
theorem conf_rd' {o1 o2 : Oper} {e1 e2 : Ent} {t : Nat} (h1 : e2.dst = some t) (h2 : t ∈ readT ops o1) : entConf ops o1 e1 o2 e2 = true := by simp [entConf, h1, h2]
theorem conf_wr {o1 o2 : Oper} {e1 e2 : Ent} {k : Nat} (h1 : e1.wr.any (·.1 == k) = true) (h2 : e2.wr.any (·.1 == k) = true) : entConf ops o1 e1 o2 e2 = true := by
 rw [List.any_eq_true] at h1
 obtain ⟨p, hp, he⟩ := h1
 simp only [beq_iff_eq] at he
 subst he
 have : (e1.wr.any fun p => e2.foot.contains p.1 || e2.wr.any fun q => q.1 == p.1) = true := by
   rw [List.any_eq_true]; exact ⟨p, hp, by rw [h2]; simp⟩
 simp only [entConf, this, Bool.or_true, Bool.true_or]
theorem conf_ft {o1 o2 : Oper} {e1 e2 : Ent} {k : Nat} (h1 : e1.wr.any (·.1 == k) = true) (h2 : k ∈ e2.foot) : entConf ops o1 e1 o2 e2 = true := by
 rw [List.any_eq_true] at h1
 obtain ⟨p, hp, he⟩ := h1
 simp only [beq_iff_eq] at he
 subst he
 have : (e1.wr.any fun p => e2.foot.contains p.1 || e2.wr.any fun q => q.1 == p.1) = true := by
   rw [List.any_eq_true]; exact ⟨p, hp, by simp [h2]⟩
 simp only [entConf, this, Bool.or_true, Bool.true_or]
theorem conf_ft' {o1 o2 : Oper} {e1 e2 : Ent} {k : Nat} (h1 : e2.wr.any (·.1 == k) = true) (h2 : k ∈ e1.foot) : entConf ops o1 e1 o2 e2 = true := by
 rw [List.any_eq_true] at h1
 obtain ⟨p, hp, he⟩ := h1
 simp only [beq_iff_eq] at he
 subst he
 have : (e2.wr.any fun p => e1.foot.contains p.1) = true := by
   rw [List.any_eq_true]; exact ⟨p, hp, by simp [h2]⟩
 simp only [entConf, this, Bool.or_true]
structure Inv (ops : Array Oper) (pre : Nat → Nat → Bool) (listed : Array Bool) (l : List Nat) : Prop where
 nd : l.Nodup
 lt : ∀ i ∈ l, i < ops.size
 mem : ∀ i, listed.getD i false = true ↔ i ∈ l
 sz : listed.size = ops.size
 ord : l.Pairwise fun a b => pre a b = false
 cl : ∀ i ∈ l, ∀ k, k < ops.size → pre i k = true → k ∈ l
theorem Inv.ready {listed : Array Bool} {l : List Nat} (hi : Inv ops pre listed l) {j : Nat} (hj : j ∈ Region.ready .any ops listed) : j < ops.size ∧ j ∉ l ∧ ∃ o, ops[j]? = some o ∧ ∀ x ∈ o.after, Region.binds .any x = true → x.on ∈ l := by
 obtain ⟨h0, o, ho, hall⟩ := mem_ready.1 hj
 have hlt : j < ops.size := (Array.getElem?_eq_some_iff.1 ho).1
 refine ⟨hlt, fun hl => ?_, o, ho, fun x hx hb => (hi.mem _).1 (hall x hx hb)⟩
 have := (hi.mem j).2 hl
 rw [Array.getD_eq_getD_getElem?, Array.getElem?_eq_getElem (by rw [hi.sz]; exact hlt)] at h0 this
 simp at h0 this
 rw [h0] at this; cases this
theorem Inv.pre_in (hs : Sched ops es nx0 pre) {listed : Array Bool} {l : List Nat} (hi : Inv ops pre listed l) {j : Nat} {o : Oper} (ho : ops[j]? = some o) (hall : ∀ x ∈ o.after, Region.binds .any x = true → x.on ∈ l) {k : Nat} (hk : k < ops.size) (hp : pre j k = true) : k ∈ l := by
 obtain ⟨x, hx, hb, hq⟩ := hs.step j o k ho (by rw [hs.len]; exact hk) hp
 have hin := hall x hx hb
 rcases hq with rfl | hq
 · exact hin
 · exact hi.cl _ hin k hk hq
theorem Inv.snoc (hs : Sched ops es nx0 pre) {listed : Array Bool} {l : List Nat} (hi : Inv ops pre listed l) {j : Nat} (hj : j < ops.size) (hjl : j ∉ l) {o : Oper} (ho : ops[j]? = some o) (hall : ∀ x ∈ o.after, Region.binds .any x = true → x.on ∈ l) : Inv ops pre (listed.setIfInBounds j true) (l ++ [j]) := by
 refine ⟨?_, fun i h => ?_, fun i => ?_, by simp [hi.sz], ?_, fun i h k hk hp => ?_⟩
 · rw [List.nodup_append]
   exact ⟨hi.nd, by simp, fun a ha b hb => by simp at hb; subst hb; intro e; subst e; exact hjl ha⟩
 · rcases List.mem_append.1 h with h | h
   · exact hi.lt i h
   · simp at h; subst h; exact hj
 · by_cases e : j = i
   · subst e
     simp [hi.sz, hj]
   · rw [getD_set_ne false e, hi.mem]; simp [Ne.symm e]
 · rw [List.pairwise_append]
   refine ⟨hi.ord, by simp, fun a ha b hb => ?_⟩
   simp at hb; subst hb
   cases hp : pre a b with
   | false => rfl
   | true => exact absurd (hi.cl a ha b hj hp) hjl
 · rcases List.mem_append.1 h with h | h
   · exact List.mem_append_left _ (hi.cl i h k hk hp)
   · simp at h; subst h
     exact List.mem_append_left _ (hi.pre_in hs ho hall hk hp)
theorem agree (hs : Sched ops es nx0 pre) {x0 : List V × Hp} {listed : Array Bool} {l : List Nat} (hi : Inv ops pre listed l) {j : Nat} (hj : j < ops.size) (hjl : j ∉ l) {o : Oper} (ho : ops[j]? = some o) (hall : ∀ x ∈ o.after, Region.binds .any x = true → x.on ∈ l) {e : Ent} (he : es[j]? = some e) :
   (∀ t ∈ readT ops o, (T (fun i => es.getD i default) x0 (List.range j)).1[t]? = (T (fun i => es.getD i default) x0 l).1[t]?) ∧ restr e.foot (T (fun i => es.getD i default) x0 (List.range j)).2 = restr e.foot (T (fun i => es.getD i default) x0 l).2 := by
 have opOf : ∀ {i : Nat} {e : Ent}, es[i]? = some e → ∃ o, ops[i]? = some o := fun {i e} he => by
   have := (List.getElem?_eq_some_iff.1 he).1
   rw [hs.len] at this
   exact ⟨_, Array.getElem?_eq_getElem this⟩
 constructor
 · intro t ht
   have hf := filter_eq (pre := pre) (m := j) (p := wT (fun i => es.getD i default) t) hi.nd hi.ord (fun i k hik h1 h2 => by
     obtain ⟨e1, g1, d1, _⟩ := E_some h1
     obtain ⟨e2, g2, d2, _⟩ := E_some h2
     obtain ⟨o1, p1⟩ := opOf g1
     obtain ⟨o2, p2⟩ := opOf g2
     rcases hs.conf i k o1 o2 e1 e2 hik p1 g1 p2 g2 with h | h
     · exact h
     · rw [conf_dst d1 d2] at h; cases h) (fun i h1 => by
     obtain ⟨e1, g1, d1, _⟩ := E_some h1
     obtain ⟨o1, p1⟩ := opOf g1
     constructor
     · intro hil
       rcases Nat.lt_or_ge i j with h | h
       · exact h
       · have hne : i ≠ j := fun e => by subst e; exact hjl hil
         rcases hs.conf j i o o1 e e1 (by omega) ho he p1 g1 with h | h
         · exact absurd (hi.cl i hil j hj h) hjl
         · rw [conf_rd' d1 ht] at h; cases h
     · intro hij
       rcases hs.conf i j o1 o e1 e hij p1 g1 ho he with h | h
       · exact hi.pre_in hs ho hall (by omega) h
       · rw [conf_rd d1 ht] at h; cases h)
   rw [T_tmp _ t (List.range j) x0 x0 rfl rfl, T_tmp _ t l x0 x0 rfl rfl, hf]
 · funext k
   simp only [restr]
   split
   · rename_i hk
     have hf := filter_eq (pre := pre) (m := j) (p := wH (fun i => es.getD i default) k) hi.nd hi.ord (fun i k hik h1 h2 => by
       obtain ⟨e1, g1, d1, _⟩ := E_wr h1
       obtain ⟨e2, g2, d2, _⟩ := E_wr h2
       obtain ⟨o1, p1⟩ := opOf g1
       obtain ⟨o2, p2⟩ := opOf g2
       rcases hs.conf i k o1 o2 e1 e2 hik p1 g1 p2 g2 with h | h
       · exact h
       · rw [conf_wr d1 d2] at h; cases h) (fun i h1 => by
       obtain ⟨e1, g1, d1, _⟩ := E_wr h1
       obtain ⟨o1, p1⟩ := opOf g1
       constructor
       · intro hil
         rcases Nat.lt_or_ge i j with h | h
         · exact h
         · have hne : i ≠ j := fun e => by subst e; exact hjl hil
           rcases hs.conf j i o o1 e e1 (by omega) ho he p1 g1 with h | h
           · exact absurd (hi.cl i hil j hj h) hjl
           · rw [conf_ft' d1 hk] at h; cases h
       · intro hij
         rcases hs.conf i j o1 o e1 e hij p1 g1 ho he with h | h
         · exact hi.pre_in hs ho hall (by omega) h
         · rw [conf_ft d1 hk] at h; cases h)
     rw [T_hp _ k (List.range j) x0 x0 rfl, T_hp _ k l x0 x0 rfl, hf]
   · rfl
theorem full (hs : Sched ops es nx0 pre) {x0 : List V × Hp} {listed : Array Bool} {l : List Nat} (hi : Inv ops pre listed l) (hall : ∀ i, i < ops.size → i ∈ l) : T (fun i => es.getD i default) x0 l = T (fun i => es.getD i default) x0 (List.range ops.size) := by
 have opOf : ∀ {i : Nat} {e : Ent}, es[i]? = some e → ∃ o, ops[i]? = some o := fun {i e} he => by
   have := (List.getElem?_eq_some_iff.1 he).1
   rw [hs.len] at this
   exact ⟨_, Array.getElem?_eq_getElem this⟩
 have hmem : ∀ i, i ∈ l ↔ i < ops.size := fun i => ⟨hi.lt i, hall i⟩
 refine Prod.ext (List.ext_getElem? fun t => ?_) (funext fun k => ?_)
 · have hf := filter_eq (pre := pre) (m := ops.size) (p := wT (fun i => es.getD i default) t) hi.nd hi.ord (fun i k hik h1 h2 => by
     obtain ⟨e1, g1, d1, _⟩ := E_some h1
     obtain ⟨e2, g2, d2, _⟩ := E_some h2
     obtain ⟨o1, p1⟩ := opOf g1
     obtain ⟨o2, p2⟩ := opOf g2
     rcases hs.conf i k o1 o2 e1 e2 hik p1 g1 p2 g2 with h | h
     · exact h
     · rw [conf_dst d1 d2] at h; cases h) (fun i _ => hmem i)
   rw [T_tmp _ t l x0 x0 rfl rfl, T_tmp _ t (List.range ops.size) x0 x0 rfl rfl, hf]
 · have hf := filter_eq (pre := pre) (m := ops.size) (p := wH (fun i => es.getD i default) k) hi.nd hi.ord (fun i k hik h1 h2 => by
     obtain ⟨e1, g1, d1, _⟩ := E_wr h1
     obtain ⟨e2, g2, d2, _⟩ := E_wr h2
     obtain ⟨o1, p1⟩ := opOf g1
     obtain ⟨o2, p2⟩ := opOf g2
     rcases hs.conf i k o1 o2 e1 e2 hik p1 g1 p2 g2 with h | h
     · exact h
     · rw [conf_wr d1 d2] at h; cases h) (fun i _ => hmem i)
   rw [T_hp _ k l x0 x0 rfl, T_hp _ k (List.range ops.size) x0 x0 rfl, hf]
end
theorem R.drawn (hA : A.Stable) {own : Nat → Prop} {ok : Nat → Nat → Prop} {s : Nat → Option Nat} {st : St} {w : World} {a : Act} (hr : R A own ok s st w a) (k : Nat) : R A own ok s st { w with drawn := k } a :=
 have he : Evol own ok w own ok { w with drawn := k } := Evol.same rfl rfl rfl rfl
 ⟨hr.rh.same rfl, hr.sz, fun t v d hv hd => (hr.tm t v d hv hd).evol he (fun _ _ h => h), hr.fr, hr.lm, R.amb_step hA hr.amb he (fun _ _ => rfl), hr.df.evol he⟩
theorem draws_soundA (hA : A.Stable) {own : Nat → Prop} {ok : Nat → Nat → Prop} {s : Nat → Option Nat} {st : St} {w : World} {a : Act} {rd : Option Nat} {id : Nat} {Q : Exit → St → Prop} (hm : P.follows .mixedOrders = true)
   {es : List Ent} (h1 : es.length = ops.toList.length) (h2 : drawOk ops es st.nx = true) (h3 : Q .normal (es.foldl (fun st e => appS e st) st))
   (h4 : ∀ i o e, ops.toList[i]? = some o → es[i]? = some e → EntOk P ops o ((es.take i).foldl (fun st e => appS e st) st) e) (hr : R A own ok s st w a) : (Code.region id ops true).wpIn (FW rd) 0 P (PostA A Q) a w := by
 have hs := drawOk_spec h2
 have hlen : es.length = ops.size := hs.len
 obtain ⟨tm, hp, nx0, gh⟩ := st
 let x0 : List V × Hp := (tm, hp)
 let E : Nat → Ent := fun i => es.getD i default
 have hst : ∀ j, j ≤ es.length → (es.take j).foldl (fun st e => appS e st) ⟨tm, hp, nx0, gh⟩ = stAt gh (T E x0 (List.range j)) (nx0 + 64 * j) := fun j hj => fold_T (gh := gh) es x0 nx0 j hj
 refine wpIn_region_any hm ?_
 have key : ∀ (fuel : Nat) (listed : Array Bool) (l : List Nat) (own : Nat → Prop) (ok : Nat → Nat → Prop) (s : Nat → Option Nat) (w : World) (a : Act), Inv ops (fun j i => ((Region.before ops).getD j 0).testBit i) listed l →
     ((List.range ops.size).filter fun i => !l.contains i).length ≤ fuel → RD A gh E x0 nx0 ops.size own ok s l w a → wpAnyIn (FW rd) 0 P .any ops (PostA A Q) fuel listed a w := by
   intro fuel
   induction fuel with
   | zero =>
     intro listed l own ok s w a hi hf hrd
     have hall : ∀ i, i < ops.size → i ∈ l := fun i hi' => by
       have : (List.range ops.size).filter (fun i => !l.contains i) = [] := List.eq_nil_of_length_eq_zero (by omega)
       rw [List.filter_eq_nil_iff] at this
       have := this i (by simp [hi'])
       simpa using this
     refine ⟨?_, ?_⟩
     · rw [List.eq_nil_iff_forall_not_mem]
       intro j hj
       obtain ⟨g1, g2, _⟩ := hi.ready hj
       exact g2 (hall j g1)
     · refine ⟨_, own, ok, s, h3, ?_⟩
       have := hrd.r
       rw [full hs hi hall] at this
       rw [show es = es.take es.length from (List.take_length).symm, hst _ (Nat.le_refl _), hlen]
       exact this
   | succ fuel ih =>
     intro listed l own ok s w a hi hf hrd
     refine ⟨fun hr0 => ?_, fun j hj => ?_⟩
     · have hall : ∀ i, i < ops.size → i ∈ l := fun i => by
         induction i using Nat.strongRecOn with
         | _ i ihi =>
           intro hi'
           by_cases hil : i ∈ l
           · exact hil
           · have ho := Array.getElem?_eq_getElem hi'
             have : i ∈ Region.ready .any ops listed := mem_ready.2 ⟨by
               have hn : ¬ listed.getD i false = true := fun h => hil ((hi.mem i).1 h)
               rw [Array.getD_eq_getD_getElem?, Array.getElem?_eq_getElem (by rw [hi.sz]; exact hi')] at hn ⊢
               simpa using hn, _, ho, fun x hx hb => (hi.mem _).2 (ihi x.on (hs.down i _ ho x hx hb) (by have := hs.down i _ ho x hx hb; omega))⟩
             rw [hr0] at this; cases this
       refine ⟨_, own, ok, s, h3, ?_⟩
       have := hrd.r
       rw [full hs hi hall] at this
       rw [show es = es.take es.length from (List.take_length).symm, hst _ (Nat.le_refl _), hlen]
       exact this
     · obtain ⟨hjn, hjl, o, ho, hall⟩ := hi.ready hj
       have hje : es[j]? = some es[j] := List.getElem?_eq_getElem (by omega)
       have hEj : E j = es[j] := by simp only [E, List.getD_eq_getElem?_getD, hje]; rfl
       obtain ⟨ag1, ag2⟩ := agree (x0 := x0) hs hi hjn hjl ho hall hje
       have hent := h4 j o es[j] (by rw [Array.getElem?_toList]; exact ho) hje
       rw [hst j (by omega)] at hent
       refine hrd.oper hA hjn hjl ho (fun p hp => ?_) (by rw [hEj]; exact hent.congr ag1 ag2 rfl) fun own ok s w a hrd' => ih _ _ own ok s w a (hi.snoc hs hjn hjl ho hall) ?_ hrd'
       · rw [hEj] at hp
         obtain ⟨k1, k2⟩ := hs.wr j _ p hje hp
         refine ⟨k1, ?_⟩
         rcases k2 with k2 | k2 | k2
         · exact .inl k2
         · exact .inr (.inl k2)
         · by_cases hh : nx0 + 64 * j ≤ p.1
           · exact .inl hh
           · by_cases hl : p.1 < nx0
             · exact .inr (.inl hl)
             · exact .inr (.inr (hi.pre_in hs ho hall (by omega) k2))
       · have hsub : ((List.range ops.size).filter fun i => !(l ++ [j]).contains i) = ((List.range ops.size).filter fun i => !l.contains i).filter fun i => i != j := by
           rw [List.filter_filter]
           congr 1
           funext i
           by_cases h1 : i = j <;> simp [h1]
         rw [hsub]
         have : (((List.range ops.size).filter fun i => !l.contains i).filter fun i => i != j).length < ((List.range ops.size).filter fun i => !l.contains i).length := by
           rw [List.length_filter_lt_length_iff_exists]
           exact ⟨j, by simp [hjn, hjl], by simp⟩
         omega
 refine key ops.size _ [] own ok s _ a ⟨List.nodup_nil, (fun i h => by cases h), (fun i => by simp [Array.getD_eq_getD_getElem?, Array.getElem?_replicate]; split <;> simp), by simp, List.Pairwise.nil, (fun i h => by cases h)⟩ (Nat.le_trans (List.length_filter_le _ _) (by simp)) ⟨?_, fun k hk _ id h1 h2 => hr.fr id (by simp only; omega), hr.lm⟩
 have := hr.drawn hA (w.drawn + 1)
 refine ⟨this.rh, this.sz, this.tm, fun id hid => this.fr id (by simp only [stAt] at hid ⊢; omega), Nat.le_trans this.lm (by simp only [stAt]; omega), this.amb, this.df⟩
theorem draws_soundB (hA : A.Stable) (hY : A.Yields P) {own : Nat → Prop} {ok : Nat → Nat → Prop} {s : Nat → Option Nat} {st : St} {w : World} {a : Act} {rd : Option Nat} {id : Nat} {Q : Exit → St → Prop} (hm : P.follows .mixedOrders = true)
   {es : List Ent} {ol : Oper} (h1 : es.length + 1 = ops.toList.length) (ho1 : ops.toList[es.length]? = some ol) (h2 : drawLast ops es st.nx = true) (hg : guardOk ops (es.foldl (fun st e => appS e st) st) ol = some true) (h3 : awpOp P ol (fun st' => Q .normal ⟨st'.tmps, st'.h, st'.nx + 64, st'.gh⟩) (es.foldl (fun st e => appS e st) st))
   (h4 : ∀ i o e, ops.toList[i]? = some o → es[i]? = some e → EntOk P ops o ((es.take i).foldl (fun st e => appS e st) st) e) (hr : R A own ok s st w a) : (Code.region id ops true).wpIn (FW rd) 0 P (PostA A Q) a w := by
 simp only [drawLast, Bool.and_eq_true, beq_iff_eq, List.all_eq_true, List.mem_range] at h2
 obtain ⟨⟨h20, h21⟩, h22⟩ := h2
 have hs := drawOk_spec h21
 have hlen : es.length + 1 = ops.size := h20
 obtain ⟨tm, hp, nx0, gh⟩ := st
 let x0 : List V × Hp := (tm, hp)
 let es' : List Ent := es ++ [⟨none, .undef, [], []⟩]
 let E : Nat → Ent := fun i => es'.getD i default
 have hel : es'.length = ops.size := by simp [es', hlen]
 have hst : ∀ j, j ≤ es.length → (es.take j).foldl (fun st e => appS e st) ⟨tm, hp, nx0, gh⟩ = stAt gh (T E x0 (List.range j)) (nx0 + 64 * j) := fun j hj => by
   have := fold_T (gh := gh) es' x0 nx0 j (by omega)
   rw [show es'.take j = es.take j from List.take_append_of_le_length hj] at this
   exact this
 have hE1 : E es.length = ⟨none, .undef, [], []⟩ := by simp [E, es', List.getD_eq_getElem?_getD]
 refine wpIn_region_any hm ?_
 have key : ∀ (fuel : Nat) (listed : Array Bool) (l : List Nat) (own : Nat → Prop) (ok : Nat → Nat → Prop) (s : Nat → Option Nat) (w : World) (a : Act), Inv ops (fun j i => ((Region.before ops).getD j 0).testBit i) listed l →
     ((List.range ops.size).filter fun i => !l.contains i).length ≤ fuel → RD A gh E x0 nx0 ops.size own ok s l w a → es.length ∉ l → wpAnyIn (FW rd) 0 P .any ops (PostA A Q) fuel listed a w := by
   intro fuel
   induction fuel with
   | zero =>
     intro listed l own ok s w a hi hf hrd hnl
     have hall : ∀ i, i < ops.size → i ∈ l := fun i hi' => by
       have : (List.range ops.size).filter (fun i => !l.contains i) = [] := List.eq_nil_of_length_eq_zero (by omega)
       rw [List.filter_eq_nil_iff] at this
       have := this i (by simp [hi'])
       simpa using this
     exact absurd (hall es.length (by omega)) hnl
   | succ fuel ih =>
     intro listed l own ok s w a hi hf hrd hnl
     refine ⟨fun hr0 => ?_, fun j hj => ?_⟩
     · have hall : ∀ i, i < ops.size → i ∈ l := fun i => by
         induction i using Nat.strongRecOn with
         | _ i ihi =>
           intro hi'
           by_cases hil : i ∈ l
           · exact hil
           · have ho := Array.getElem?_eq_getElem hi'
             have : i ∈ Region.ready .any ops listed := mem_ready.2 ⟨by
               have hn : ¬ listed.getD i false = true := fun h => hil ((hi.mem i).1 h)
               rw [Array.getD_eq_getD_getElem?, Array.getElem?_eq_getElem (by rw [hi.sz]; exact hi')] at hn ⊢
               simpa using hn, _, ho, fun x hx hb => (hi.mem _).2 (ihi x.on (hs.down i _ ho x hx hb) (by have := hs.down i _ ho x hx hb; omega))⟩
             rw [hr0] at this; cases this
       exact absurd (hall es.length (by omega)) hnl
     · obtain ⟨hjn, hjl, o, ho, hall⟩ := hi.ready hj
       by_cases hjlast : j = es.length
       · subst hjlast
         have hol : o = ol := by
           rw [Array.getElem?_toList, ho] at ho1
           exact Option.some.inj ho1
         subst hol
         have hin : ∀ k, k < es.length → k ∈ l := fun k hk => hi.pre_in hs ho hall (by omega) (h22 k hk)
         have hi' := hi.snoc hs hjn hjl ho hall
         have hall' : ∀ i, i < ops.size → i ∈ l ++ [es.length] := fun i hi2 => by
           by_cases e : i = es.length
           · subst e; simp
           · exact List.mem_append_left _ (hin i (by omega))
         have hTl : T E x0 l = T E x0 (List.range es.length) := by
           have h5 := full (x0 := x0) hs hi' hall'
           rw [← hlen, List.range_succ] at h5
           have h6 : T E x0 (l ++ [es.length]) = T E x0 (List.range es.length ++ [es.length]) := h5
           rw [T_snoc, T_snoc, hE1] at h6
           simpa [app, putT, applyWr, Prod.ext_iff] using h6
         have hready : Region.ready .any ops (listed.setIfInBounds es.length true) = [] := by
           rw [List.eq_nil_iff_forall_not_mem]
           intro k hk
           obtain ⟨g1, g2, _⟩ := hi'.ready hk
           exact g2 (hall' k g1)
         have hr0 := hrd.r
         rw [hTl] at hr0
         have hr1 : R A own ok s (stAt gh (T E x0 (List.range es.length)) (nx0 + 64 * es.length)) w a := by
           refine ⟨hr0.rh, hr0.sz, hr0.tm, fun id hid => ?_, Nat.le_trans hrd.lm (by simp only [stAt]; omega), hr0.amb, hr0.df⟩
           simp only [stAt] at hid ⊢
           by_cases h7 : id < nx0 + 64 * (es.length + 1)
           · have := hrd.rng es.length (by omega) hnl id hid h7
             rw [hTl] at this; exact this
           · have := hr0.fr id (by simp only [stAt]; omega)
             exact this
         have h3' := h3
         rw [show es = es.take es.length from (List.take_length).symm, hst _ (Nat.le_refl _)] at h3'
         unfold wpOpIn
         rw [ho]
         have hg' := hg
         rw [show es = es.take es.length from (List.take_length).symm, hst _ (Nat.le_refl _)] at hg'
         have hw : Region.wanted o (yielded ops a.tmps) = true := guard_sound hr1 hg'
         simp only [hw, if_true]
         refine awpOp_sound hA hY h3' hr1 fun st' own' ok' s' w' a' hk hr' => ?_
         have hpost : PostA A Q .normal a' w' := ⟨_, own', ok', s', hk, hr'⟩
         cases fuel with
         | zero => exact ⟨hready, hpost⟩
         | succ f => exact ⟨fun _ => hpost, fun k hk => by rw [hready] at hk; cases hk⟩
       have hje0 : es[j]? = some es[j] := List.getElem?_eq_getElem (by omega)
       have hje : es'[j]? = some es[j] := by
         rw [List.getElem?_append_left (by omega)]; exact hje0
       have hEj : E j = es[j] := by simp only [E, List.getD_eq_getElem?_getD, hje]; rfl
       obtain ⟨ag1, ag2⟩ := agree (x0 := x0) hs hi hjn hjl ho hall hje
       have hent := h4 j o es[j] (by rw [Array.getElem?_toList]; exact ho) hje0
       rw [hst j (by omega)] at hent
       refine hrd.oper hA hjn hjl ho (fun p hp => ?_) (by rw [hEj]; exact hent.congr ag1 ag2 rfl) fun own ok s w a hrd' => ih _ _ own ok s w a (hi.snoc hs hjn hjl ho hall) ?_ hrd' (by simp [hnl, Ne.symm hjlast])
       · rw [hEj] at hp
         obtain ⟨k1, k2⟩ := hs.wr j _ p hje hp
         refine ⟨k1, ?_⟩
         rcases k2 with k2 | k2 | k2
         · exact .inl k2
         · exact .inr (.inl k2)
         · by_cases hh : nx0 + 64 * j ≤ p.1
           · exact .inl hh
           · by_cases hl : p.1 < nx0
             · exact .inr (.inl hl)
             · exact .inr (.inr (hi.pre_in hs ho hall (by omega) k2))
       · have hsub : ((List.range ops.size).filter fun i => !(l ++ [j]).contains i) = ((List.range ops.size).filter fun i => !l.contains i).filter fun i => i != j := by
           rw [List.filter_filter]
           congr 1
           funext i
           by_cases h1 : i = j <;> simp [h1]
         rw [hsub]
         have : (((List.range ops.size).filter fun i => !l.contains i).filter fun i => i != j).length < ((List.range ops.size).filter fun i => !l.contains i).length := by
           rw [List.length_filter_lt_length_iff_exists]
           exact ⟨j, by simp [hjn, hjl], by simp⟩
         omega
 refine key ops.size _ [] own ok s _ a ⟨List.nodup_nil, (fun i h => by cases h), (fun i => by simp [Array.getD_eq_getD_getElem?, Array.getElem?_replicate]; split <;> simp), by simp, List.Pairwise.nil, (fun i h => by cases h)⟩ (Nat.le_trans (List.length_filter_le _ _) (by simp)) ⟨?_, fun k hk _ id h1 h2 => hr.fr id (by simp only; omega), hr.lm⟩ (by simp)
 have := hr.drawn hA (w.drawn + 1)
 refine ⟨this.rh, this.sz, this.tm, fun id hid => this.fr id (by simp only [stAt] at hid ⊢; omega), Nat.le_trans this.lm (by simp only [stAt]; omega), this.amb, this.df⟩
theorem draws_sound (hA : A.Stable) (hY : A.Yields P) {own : Nat → Prop} {ok : Nat → Nat → Prop} {s : Nat → Option Nat} {st : St} {w : World} {a : Act} {rd : Option Nat} {id : Nat} {Q : Exit → St → Prop} (hm : P.follows .mixedOrders = true)
   (h : Draws P ops st.nx (Q .normal) ops.toList [] st) (hr : R A own ok s st w a) : (Code.region id ops true).wpIn (FW rd) 0 P (PostA A Q) a w := by
 obtain ⟨es, h4, h1⟩ := draws_spec _ _ _ h
 rcases h1 with ⟨h1, h2, h3⟩ | ⟨o, h1, h2, h3, h5, h6⟩
 · exact draws_soundA hA hm h1 (by simpa using h2) h3 h4 hr
 · exact draws_soundB hA hY hm h1 h2 (by simpa using h3) h5 h6 h4 hr
end
end Go.Aw
end
section
namespace Go.Aw
open Go.RowKit
structure Wsame (w w' : World) : Prop where
 cell : ∀ b o, w'.cell? ⟨b, o, none⟩ = w.cell? ⟨b, o, none⟩
 shape : ∀ b, w'.shape? b = w.shape? b
 frozen : ∀ b o, w'.frozen? ⟨b, o, none⟩ = w.frozen? ⟨b, o, none⟩
 size : w.heap.size ≤ w'.heap.size
 map : ∀ (b : Nat) (es : Array MapEntry) (ck : Nat), w.heap[b]? = some (Obj.map es ck) → w'.heap[b]? = some (Obj.map es ck)
theorem CtlKept.put {w : World} {n l : Nat} {o' : Obj} (hl : n ≤ l) : CtlKept n w (w.putObj l o') := fun b o hb hw _ => by rw [World.putObj_heap_other (show b ≠ l by omega)]; exact hw
theorem Wsame.put {w : World} {r : Nat} {o o' : Obj} (h : w.heap[r]? = some o) (ho : isCtl o = true) (ho' : isCtl o' = true) : Wsame w (w.putObj r o') := by
 have hlt : r < w.heap.size := (Array.getElem?_eq_some_iff.1 h).1
 refine ⟨fun b i => ?_, fun b => ?_, fun b i => ?_, by simp, fun b es ck hb => ?_⟩
 case refine_4 =>
   by_cases e : b = r
   · subst e
     rw [h] at hb
     cases hb
     cases ho
   · exact (World.putObj_heap_other (w := w) (o := o') e).trans hb
 all_goals
   by_cases hb : b = r
   · subst hb
     have := World.putObj_heap_same (w := w) (o := o') hlt
     cases o <;> simp [isCtl] at ho <;> cases o' <;> simp [isCtl] at ho' <;> simp [World.cell?, World.shape?, World.frozen?, this, h]
   · have := World.putObj_heap_other (w := w) (o := o') hb
     simp [World.cell?, World.shape?, World.frozen?, this]
section
variable {w w' : World} {own : Nat → Prop} {ok : Nat → Nat → Prop} {s : Nat → Option Nat} {h : Hp}
theorem Rep.wsame {v : Value} {d : V} (hv : Rep w ok s v d) (hw : Wsame w w') : Rep w' ok s v d :=
 hv.keep (fun b o hb => ⟨hb, hw.cell b o⟩) (fun b ty sz hb => by rw [hw.shape]; exact hb) (fun _ _ h => h)
theorem RH.wsame (hr : RH w own ok s h) (hw : Wsame w w') : RH w' own ok s h := by
 refine ⟨fun b o hb => by rw [hw.cell]; exact hr.okw b o hb, fun b hb => Nat.lt_of_lt_of_le (hr.ownw b hb) hw.size, fun id B hB => Nat.lt_of_lt_of_le (hr.sw id B hB) hw.size, fun id b hb => ?_, hr.exc, hr.gl.keep fun b o hb => ⟨hb, hw.cell _ _⟩⟩
 have hbk := hr.blk id b hb
 exact ⟨hbk.pos, hbk.len, hbk.virt, fun B hB hm => ⟨(hbk.own B hB hm).1, fun o => by rw [hw.frozen]; exact (hbk.own B hB hm).2 o⟩, fun B hB hnm => by rw [hw.shape]; exact hbk.shape B hB hnm,
   fun B hB i j e d hi hj => by obtain ⟨u, g1, g2⟩ := hbk.cells B hB i j e d hi hj; exact ⟨u, by rw [hw.cell]; exact g1, g2.wsame hw⟩, hbk.fwr, hbk.ffz, hbk.fold, hbk.mpe, fun B hB m hm => (by obtain ⟨es, ck, g1, g2⟩ := hbk.map B hB m hm; exact ⟨es, ck, hw.map _ _ _ g1, g2⟩)⟩
theorem RH.more (hr : RH w own ok s h) (ok2 : Nat → Nat → Prop) (hw : ∀ b o, ok2 b o → ∃ u, w.cell? ⟨b, o, none⟩ = some u) (ho : ∀ b o, ok2 b o → own b → ok b o) : RH w own (fun b o => ok b o ∨ ok2 b o) s h := by
 have hk : ∀ {v d}, Rep w ok s v d → Rep w (fun b o => ok b o ∨ ok2 b o) s v d := fun hv => hv.keep (fun _ _ hb => ⟨.inl hb, rfl⟩) (fun _ _ _ h => h) (fun _ _ h => h)
 refine ⟨fun b o hb => hb.elim (hr.okw b o) (hw b o), hr.ownw, hr.sw, fun id b hb => ?_, hr.exc, hr.gl.keep fun b o hb => ⟨.inl hb, rfl⟩⟩
 have hbk := hr.blk id b hb
 refine ⟨hbk.pos, hbk.len, hbk.virt, hbk.own, hbk.shape, fun B hB i j e d hi hj => ?_, fun B hB hm o hh => ?_, fun B hB hm o => ⟨fun hh => ?_, fun hh => .inl ((hbk.ffz B hB hm o).2 hh)⟩, fun B hB hm o hh => .inl (hbk.fold B hB hm o hh), hbk.mpe, hbk.map⟩
 · obtain ⟨u, g1, g2⟩ := hbk.cells B hB i j e d hi hj
   exact ⟨u, g1, hk g2⟩
 · rcases hh with hh | hh
   · exact hbk.fwr B hB hm o hh
   · exact hbk.fwr B hB hm o (ho B o hh (hbk.own B hB (by rw [hm]; simp)).1)
 · rcases hh with hh | hh
   · exact (hbk.ffz B hB hm o).1 hh
   · exact (hbk.ffz B hB hm o).1 (ho B o hh (hbk.own B hB (by rw [hm]; simp)).1)
end
theorem EvolX.congr {o1 o1' o2 o2' : Nat → Prop} {k1 k1' k2 k2' : Nat → Nat → Prop} {w w' : World} (h : EvolX o1 k1 w o2 k2 w') (e1 : ∀ b, o1 b ↔ o1' b) (e2 : ∀ b o, k1 b o ↔ k1' b o) (e3 : ∀ b, o2 b ↔ o2' b) (e4 : ∀ b o, k2 b o ↔ k2' b o) : EvolX o1' k1' w o2' k2' w' :=
 ⟨h.os, h.tape, h.output, h.size, fun b hb hn => h.unch b hb (fun hh => hn ((e1 b).1 hh)), fun b hb => (h.ownn b ((e3 b).2 hb)).imp (e1 b).1 id, fun b o hb => (e4 b o).1 (h.okk b o ((e2 b o).2 hb)), fun b o hb => h.okc b o ((e2 b o).2 hb),
   fun b o hb => (h.okn b o ((e4 b o).2 hb)).imp (e2 b o).1 (Or.imp (e1 b).1 id), h.shape⟩
theorem EvolX.ctl {w : World} {l : Nat} {o o' : Obj} (h : w.heap[l]? = some o) (ho : isCtl o = true) (ho' : isCtl o' = true) (own : Nat → Prop) (ok : Nat → Nat → Prop) (hl : own l) : EvolX own ok w own ok (w.putObj l o') := by
 have hs := Wsame.put h ho ho'
 exact ⟨rfl, rfl, rfl, hs.size, fun b hb hn => World.putObj_heap_other (fun e => hn (e ▸ hl)), fun _ h => .inl h, fun _ _ h => h, fun b o _ => hs.cell b o, fun _ _ h => .inl h, fun b ty sz hb => by rw [hs.shape]; exact hb⟩
theorem Evol.lift {own own' X : Nat → Prop} {ok ok' kX : Nat → Nat → Prop} {w w' : World} (he : Evol own ok w own' ok' w') (hk : ∀ b o, kX b o → own b → ok b o) (hw : ∀ b o, kX b o → b < w.heap.size) (l : Nat) :
   EvolX (fun b => (own b ∨ X b) ∨ b = l) (fun b o => ok b o ∨ kX b o) w (fun b => (own' b ∨ X b) ∨ b = l) (fun b o => ok' b o ∨ kX b o) w' := by
 refine ⟨he.os, he.tape, he.output, he.size, fun b hb hn => he.unch b hb (fun h => hn (.inl (.inl h))), fun b hb => ?_, fun b o hb => hb.imp (he.okk b o) id, fun b o hb => ?_, fun b o hb => ?_, he.shape⟩
 · rcases hb with (hb | hb) | hb
   · exact (he.ownn b hb).imp (fun h => .inl (.inl h)) id
   · exact .inl (.inl (.inr hb))
   · exact .inl (.inr hb)
 · rcases hb with hb | hb
   · exact he.okc b o hb
   · by_cases h : own b
     · exact he.okc b o (hk b o hb h)
     · exact World.cell?_of_block (w := w) (he.unch b (hw b o hb) h)
 · rcases hb with hb | hb
   · rcases he.okn b o hb with h | h | h
     · exact .inl (.inl h)
     · exact .inr (.inl (.inl (.inl h)))
     · exact .inr (.inr h)
   · exact .inl (.inr hb)
theorem EvolX.lift {own X X' : Nat → Prop} {ok kX kX' : Nat → Nat → Prop} {w w' : World} (he : EvolX X (fun b o => kX b o ∨ ok b o) w X' kX' w') (l : Nat) :
   EvolX (fun b => (own b ∨ X b) ∨ b = l) (fun b o => ok b o ∨ kX b o) w (fun b => (own b ∨ X' b) ∨ b = l) (fun b o => ok b o ∨ kX' b o) w' := by
 refine ⟨he.os, he.tape, he.output, he.size, fun b hb hn => he.unch b hb (fun h => hn (.inl (.inr h))), fun b hb => ?_, fun b o hb => ?_, fun b o hb => he.okc b o hb.symm, fun b o hb => ?_, he.shape⟩
 · rcases hb with (hb | hb) | hb
   · exact .inl (.inl (.inl hb))
   · exact (he.ownn b hb).imp (fun h => .inl (.inr h)) id
   · exact .inl (.inr hb)
 · rcases hb with hb | hb
   · exact .inl hb
   · exact .inr (he.okk b o (.inl hb))
 · rcases hb with hb | hb
   · exact .inl (.inl hb)
   · rcases he.okn b o hb with (h | h) | h | h
     · exact .inl (.inr h)
     · exact .inl (.inl h)
     · exact .inr (.inl (.inl (.inr h)))
     · exact .inr (.inr h)
theorem setPs_spec {w : World} {ok : Nat → Nat → Prop} {s : Nat → Option Nat} : ∀ (ps : List Tmp) (ys : List V) (vals : List Value) (tm : List V) (tv : Array Value), vals.length = ys.length → (∀ (i : Nat) (d : V) (v : Value), ys[i]? = some d → vals[i]? = some v → Rep w ok s v d) →
   tv.size = tm.length → (∀ (t : Nat) (v : Value) (d : V), tv[t]? = some v → tm[t]? = some d → Rep w ok s v d) →
   ((ps.zip vals).foldl (fun tmps p => tmps.setIfInBounds p.1 p.2) tv).size = (setPs ps ys tm).length ∧ ∀ (t : Nat) (v : Value) (d : V), ((ps.zip vals).foldl (fun tmps p => tmps.setIfInBounds p.1 p.2) tv)[t]? = some v → (setPs ps ys tm)[t]? = some d → Rep w ok s v d := by
 intro ps
 induction ps with
 | nil => intro ys vals tm tv _ _ hsz ht; simp only [setPs, List.zip_nil_left, List.foldl_nil]; exact ⟨hsz, ht⟩
 | cons p ps ih =>
   intro ys vals tm tv hl hr hsz ht
   cases ys with
   | nil =>
     have : vals = [] := List.eq_nil_of_length_eq_zero (by simpa using hl)
     subst this
     simp only [setPs, List.zip_nil_right, List.foldl_nil]; exact ⟨hsz, ht⟩
   | cons y ys =>
     cases vals with
     | nil => simp at hl
     | cons v vals =>
       simp only [setPs, List.zip_cons_cons, List.foldl_cons]
       refine ih ys vals (tm.set p y) (tv.setIfInBounds p v) (by simpa using hl) (fun i d u hd hu => hr (i + 1) d u (by simpa using hd) (by simpa using hu)) (by simp [hsz]) fun t u d hu hd => ?_
       by_cases e : p = t
       · subst e
         by_cases hp : p < tm.length
         · rw [List.getElem?_set_self hp] at hd
           have : p < tv.size := by rw [hsz]; exact hp
           simp [this] at hu
           cases hd; subst hu
           exact hr 0 y v rfl rfl
         · rw [List.getElem?_eq_none (by rw [List.length_set]; exact Nat.le_of_not_lt hp)] at hd; cases hd
       · rw [List.getElem?_set_ne e] at hd
         rw [Array.getElem?_setIfInBounds_ne e] at hu
         exact ht t u d hu hd
end Go.Aw
end
section
namespace Go.Aw
open Go.RowKit
structure RdP where
 lim0 : Nat
 L : Nat
 l : Nat
 rec0 : Loop
 av : Array Value
 tm0 : List V
 s1 : Nat → Option Nat
 ds : List Deferred
 okC : Nat → Nat → Prop
 base0 : Base
 inr0 : Bool
def RdP.rec_ (p : RdP) (σ : LoopState) (c : Option Code) : Loop := { p.rec0 with state := σ, pending := c }
def RdP.sL (p : RdP) : Nat → Option Nat := fun id => if id < p.L then p.s1 id else none
def RdP.T0 (p : RdP) (w : World) (ok : Nat → Nat → Prop) : Prop := ∀ (t : Nat) (v : Value) (d : V), p.av[t]? = some v → p.tm0[t]? = some d → Rep w ok p.sL v d
structure RdIn (p : RdP) (A : Amb) (σ : LoopState) (pend : Option Code) (own_r : Nat → Prop) (ok_r : Nat → Nat → Prop) (X_r : Nat → Prop) (kX_r : Nat → Nat → Prop) (w_r : World)
   (gh : Gh) (own : Nat → Prop) (ok : Nat → Nat → Prop) (X : Nat → Prop) (kX : Nat → Nat → Prop) (s : Nat → Option Nat) (w : World) : Prop where
 inr : gh.inr = true
 lim : gh.lim = p.L
 lim0 : p.lim0 ≤ p.L
 bn : gh.base.n = w_r.heap.size
 bm : ∀ b, gh.base.may b ↔ own_r b ∨ w_r.heap.size ≤ b
 gb : p.base0.n ≤ p.l
 gm : ∀ b, own_r b → p.base0.may b
 lr : p.l < w_r.heap.size
 mr : ∀ r, deferMark r ∈ p.ds → r < w_r.heap.size
 okr : ∀ b o, ok_r b o ∨ kX_r b o → b < w_r.heap.size
 on : ∀ b, own b → own_r b ∨ w_r.heap.size ≤ b
 amb : A { gh with lim := p.lim0, inr := p.inr0, base := p.base0 } own ok X kX s w
 t0 : p.T0 w ok
 sl : ∀ id, id < p.L → s id = p.s1 id
 lp : w.heap[p.l]? = some (.loop (p.rec_ σ pend))
 lo : ¬ own p.l
 lx : ¬ X p.l
 mks : ∀ r, deferMark r ∈ p.ds → w.heap[r]? = some (.deferred (some [])) ∧ ¬ X r
 okc : ∀ b o, p.okC b o → ok b o
 kxw : ∀ b o, kX b o → b < w.heap.size
 ev : EvolX (fun b => (own_r b ∨ X_r b) ∨ b = p.l) (fun b o => ok_r b o ∨ kX_r b o) w_r (fun b => (own b ∨ X b) ∨ b = p.l) (fun b o => ok b o ∨ kX b o) w
section
variable {P : Program} {A : Amb} {p : RdP} {σ : LoopState} {pend : Option Code} {own_r : Nat → Prop} {ok_r : Nat → Nat → Prop} {X_r : Nat → Prop} {kX_r : Nat → Nat → Prop} {w_r : World} {rd0 : Option Nat}
theorem RdIn.may0 {gh : Gh} {own : Nat → Prop} {ok : Nat → Nat → Prop} {X : Nat → Prop} {kX : Nat → Nat → Prop} {s : Nat → Option Nat} {w : World} (h : RdIn p A σ pend own_r ok_r X_r kX_r w_r gh own ok X kX s w) {b : Nat} (hb : gh.base.may b) : p.base0.may b := by
 rcases (h.bm b).1 hb with h1 | h1
 · exact h.gm b h1
 · exact p.base0.up b (by have := h.gb; have := h.lr; omega)
theorem RdIn.ok (hok : AmbOk P A rd0) : AmbOk P (RdIn p A σ pend own_r ok_r X_r kX_r w_r) (some p.l) := by
 refine ⟨?_, ?_, ?_, ?_, ?_, ?_, ?_, ?_⟩
 · intro gh own ok X kX s w own' ok' s' w' h he hd hk hs
   have hlt : p.l < w.heap.size := (Array.getElem?_eq_some_iff.1 h.lp).1
   refine ⟨h.inr, h.lim, h.lim0, h.bn, h.bm, h.gb, h.gm, h.lr, h.mr, h.okr, fun b hb => ?_, hok.st _ _ _ _ _ _ _ _ _ _ _ h.amb he hd hk (fun id hid => hs id (by rw [h.lim]; exact Nat.lt_of_lt_of_le hid h.lim0)), fun t v d hv hd' => (h.t0 t v d hv hd').evol he (fun _ _ h => h), fun id hid => (hs id (by rw [h.lim]; exact hid)).trans (h.sl id hid),
     he.ctl _ _ h.lp rfl, fun hh => ?_, h.lx, fun r hr => ⟨he.ctl _ _ (h.mks r hr).1 rfl, (h.mks r hr).2⟩, fun b o hb => he.okk b o (h.okc b o hb), fun b o hb => Nat.lt_of_lt_of_le (h.kxw b o hb) he.size, h.ev.trans (he.lift hk h.kxw p.l)⟩
   · rcases he.ownn _ hb with h1 | h1
     · exact h.on b h1
     · exact .inr (Nat.le_trans h.ev.size h1)
   · rcases he.ownn _ hh with h1 | h1
     · exact h.lo h1
     · omega
 · intro gh own ok X kX s w o2 k2 o2' k2' w' h he hd hk hc hlt
   rw [h.bn] at hc
   have hcell : ∀ b o, (ok b o ∨ kX b o) → w'.cell? ⟨b, o, none⟩ = w.cell? ⟨b, o, none⟩ := fun b o hb => by
     by_cases h2 : o2 b
     · exact he.okc b o (hk b o hb h2)
     · exact World.cell?_of_block (w := w) (he.unch b (hlt b o hb) h2)
   refine ⟨h.inr, h.lim, h.lim0, h.bn, h.bm, h.gb, h.gm, h.lr, h.mr, h.okr, h.on, hok.st2 _ _ _ _ _ _ _ _ _ _ _ _ h.amb he (fun b hb => ⟨(hd b hb).1, (hd b hb).2.1, h.may0 (hd b hb).2.2⟩) hk (hc.mono (by have := h.gb; have := h.lr; simp only; omega)) hlt,
     fun t v d hv hd' => (h.t0 t v d hv hd').keep (fun b o hb => ⟨hb, hcell b o (.inl hb)⟩) he.shape (fun _ _ h => h), h.sl, hc _ _ h.lr h.lp rfl, h.lo, h.lx, fun r hr => ⟨hc _ _ (h.mr r hr) (h.mks r hr).1 rfl, (h.mks r hr).2⟩, h.okc, fun b o hb => Nat.lt_of_lt_of_le (h.kxw b o hb) he.size,
     h.ev.others h.okr he (fun b hb => ?_) (fun b o hb h2 => hk b o hb h2)⟩
   rcases (h.bm b).1 (hd b hb).2.2 with h1 | h1
   · exact .inl (.inl (.inl h1))
   · exact .inr h1
 · intro gh own ok X kX s w ok2 h hb
   refine ⟨h.inr, h.lim, h.lim0, h.bn, h.bm, h.gb, h.gm, h.lr, h.mr, h.okr, h.on, hok.more _ _ _ _ _ _ _ ok2 h.amb (fun b o h2 => h.may0 (hb b o h2)), fun t v d hv hd' => (h.t0 t v d hv hd').keep (fun b o hb => ⟨.inl hb, rfl⟩) (fun _ _ _ h => h) (fun _ _ h => h), h.sl, h.lp, h.lo, h.lx, h.mks, fun b o hb => .inl (h.okc b o hb), h.kxw,
     ⟨h.ev.os, h.ev.tape, h.ev.output, h.ev.size, h.ev.unch, h.ev.ownn, fun b o hb => (h.ev.okk b o hb).imp .inl id, h.ev.okc, fun b o hb => ?_, h.ev.shape⟩⟩
   rcases hb with (h1 | h1) | h1
   · exact h.ev.okn b o (.inl h1)
   · rcases (h.bm b).1 (hb b o h1) with h2 | h2
     · exact .inr (.inl (.inl (.inl h2)))
     · exact .inr (.inr h2)
   · exact h.ev.okn b o (.inr h1)
 · intro gh own ok X kX s w vals ys h hsep hokw hst hys hsz hrep
   obtain ⟨g, tmps, asg, body, h1, h2⟩ := hok.yl _ _ _ _ _ _ _ vals ys h.amb hsep hokw hst hys hsz hrep
   refine ⟨g, tmps, asg, body, h1, RoundIn.mono h2 ?_⟩
   rintro e w' ⟨b, X', kX', rfl, hA', hE, hx, hkx⟩
   have hlt : p.l < w.heap.size := (Array.getElem?_eq_some_iff.1 h.lp).1
   refine ⟨b, X', kX', rfl, ⟨h.inr, h.lim, h.lim0, h.bn, h.bm, h.gb, h.gm, h.lr, h.mr, h.okr, h.on, hA', fun t v d hv hd => (h.t0 t v d hv hd).keep (fun b o hb => ⟨hb, hE.okc b o (.inr hb)⟩) hE.shape (fun _ _ h => h), h.sl, ?_, h.lo, fun hh => ?_, fun r hr => ?_, h.okc, fun b o hb => ?_, h.ev.trans (hE.lift p.l)⟩, hE, hx, hkx⟩
   · rw [hE.unch _ hlt h.lx]; exact h.lp
   · rcases hE.ownn _ hh with h3 | h3
     · exact h.lx h3
     · omega
   · obtain ⟨m1, m2⟩ := h.mks r hr
     have hr' : r < w.heap.size := (Array.getElem?_eq_some_iff.1 m1).1
     refine ⟨by rw [hE.unch _ hr' m2]; exact m1, fun hh => ?_⟩
     rcases hE.ownn _ hh with h3 | h3
     · exact m2 h3
     · omega
   · obtain ⟨u, hu⟩ := hkx b o hb
     exact World.block_lt_of_cell? w' ⟨b, o, none⟩ hu
 · intro gh own ok X kX s w h
   exact ⟨fun hin => (by rw [h.inr] at hin; cases hin), fun _ => ⟨p.l, _, rfl, h.lp⟩⟩
 · intro gh own ok X kX s w h
   rw [h.bn]; exact h.ev.size
 · intro gh own ok X kX s w h b hb
   exact (h.bm b).2 (h.on b hb)
 · intro gh own ok X kX s w own' h hb
   exact ⟨h.inr, h.lim, h.lim0, h.bn, h.bm, h.gb, h.gm, h.lr, h.mr, h.okr, fun b h1 => h.on b (hb b h1), hok.sub _ _ _ _ _ _ _ _ h.amb hb, h.t0, h.sl, h.lp, fun h1 => h.lo (hb _ h1), h.lx, h.mks, h.okc, h.kxw,
     ⟨h.ev.os, h.ev.tape, h.ev.output, h.ev.size, h.ev.unch, fun b h1 => h.ev.ownn b (h1.imp (Or.imp (hb b) id) id), h.ev.okk, h.ev.okc, h.ev.okn, h.ev.shape⟩⟩
theorem amb_ctl (hok : AmbOk P A rd0) {gh : Gh} {own : Nat → Prop} {ok : Nat → Nat → Prop} {X : Nat → Prop} {kX : Nat → Nat → Prop} {s : Nat → Option Nat} {w : World} (h : A gh own ok X kX s w) {l : Nat} {r : Loop} {r' : Loop} (hl : w.heap[l]? = some (.loop r)) (hb : gh.base.n ≤ l)
   (ho : ¬ own l) (hx : ¬ X l) (hw : ∀ b o, ok b o → ∃ u, w.cell? ⟨b, o, none⟩ = some u) (hk : ∀ b o, kX b o → ∃ u, w.cell? ⟨b, o, none⟩ = some u) : A gh own ok X kX s (w.putObj l (.loop r')) := by
 refine hok.st2 gh own ok X kX s w (fun b => b = l) (fun _ _ => False) _ _ _ h (EvolX.ctl hl rfl rfl (fun b => b = l) (fun _ _ => False) rfl) (fun b hb' => by subst hb'; exact ⟨ho, hx, gh.base.up _ hb⟩) (fun b o hb' e => ?_) (CtlKept.put hb) (fun b o hb' => by obtain ⟨u, hu⟩ := hb'.elim (hw b o) (hk b o); exact World.block_lt_of_cell? w ⟨b, o, none⟩ hu)
 subst e
 have : ∃ u, w.cell? ⟨b, o, none⟩ = some u := hb'.elim (hw b o) (hk b o)
 obtain ⟨u, hu⟩ := this
 simp [World.cell?, hl] at hu
theorem Sep.wsame {own : Nat → Prop} {ok : Nat → Nat → Prop} {X : Nat → Prop} {kX : Nat → Nat → Prop} {w w' : World} (h : Sep own ok X kX w) (hw : Wsame w w') : Sep own ok X kX w' :=
 ⟨fun b hb => Nat.lt_of_lt_of_le (h.xw b hb) hw.size, h.dis, h.ko, h.ok_, fun b o hb => by rw [hw.cell]; exact h.kw b o hb⟩
theorem RdIn.turn (hok : AmbOk P A rd0) {σ' : LoopState} {pend' : Option Code} {gh : Gh} {own : Nat → Prop} {ok : Nat → Nat → Prop} {X : Nat → Prop} {kX : Nat → Nat → Prop} {s : Nat → Option Nat} {w : World} (h : RdIn p A σ pend own_r ok_r X_r kX_r w_r gh own ok X kX s w)
   (hw : ∀ b o, ok b o → ∃ u, w.cell? ⟨b, o, none⟩ = some u) (hk : ∀ b o, kX b o → ∃ u, w.cell? ⟨b, o, none⟩ = some u) : RdIn p A σ' pend' own_r ok_r X_r kX_r w_r gh own ok X kX s (w.putObj p.l (.loop (p.rec_ σ' pend'))) := by
 have hs := Wsame.put (o' := .loop (p.rec_ σ' pend')) h.lp rfl rfl
 have hlt : p.l < w.heap.size := (Array.getElem?_eq_some_iff.1 h.lp).1
 refine ⟨h.inr, h.lim, h.lim0, h.bn, h.bm, h.gb, h.gm, h.lr, h.mr, h.okr, h.on, amb_ctl hok h.amb h.lp h.gb h.lo h.lx hw hk, fun t v d hv hd => (h.t0 t v d hv hd).wsame hs, h.sl, World.putObj_heap_same hlt, h.lo, h.lx, fun r hr => ⟨?_, (h.mks r hr).2⟩, h.okc, fun b o hb => Nat.lt_of_lt_of_le (h.kxw b o hb) hs.size, h.ev.trans (EvolX.ctl h.lp rfl rfl _ _ (.inr rfl))⟩
 rw [World.putObj_heap_other (fun e => by subst e; have := (h.mks _ hr).1; rw [h.lp] at this; cases this)]
 exact (h.mks r hr).1
theorem R.turn (hok : AmbOk P A rd0) {σ' : LoopState} {pend' : Option Code} {own : Nat → Prop} {ok : Nat → Nat → Prop} {s : Nat → Option Nat} {st : St} {w : World} {a : Act} (hr : R (RdIn p A σ pend own_r ok_r X_r kX_r w_r) own ok s st w a) :
   R (RdIn p A σ' pend' own_r ok_r X_r kX_r w_r) own ok s st (w.putObj p.l (.loop (p.rec_ σ' pend'))) a := by
 obtain ⟨X, kX, h1, h2, h3⟩ := hr.amb
 have hs := Wsame.put (o' := .loop (p.rec_ σ' pend')) h1.lp rfl rfl
 obtain ⟨rs, d1, d2, d3⟩ := hr.df
 refine ⟨hr.rh.wsame hs, hr.sz, fun t v d hv hd => (hr.tm t v d hv hd).wsame hs, hr.fr, hr.lm, ⟨X, kX, h1.turn hok hr.rh.okw h2.kw, h2.wsame hs, h3⟩, ⟨rs, d1, d2, fun r h => ⟨(d3 r h).1, ?_⟩⟩⟩
 rw [World.putObj_heap_other (fun e => by subst e; have := (d3 _ h).2; rw [h1.lp] at this; cases this)]
 exact (d3 r h).2
end
end Go.Aw
end
section
namespace Go.Aw
open Go.RowKit
structure LpIn (p : RdP) (A : Amb) (h : Hp) (gh : Gh) (nx0 : Nat) (σ : LoopState) (pend : Option Code) (own : Nat → Prop) (ok : Nat → Nat → Prop) (X : Nat → Prop) (kX : Nat → Nat → Prop) (s : Nat → Option Nat) (w : World) : Prop where
 rh : RH w own ok s h
 fr : ∀ id, nx0 ≤ id → s id = none ∧ h id = none
 inr : gh.inr = p.inr0
 lim : gh.lim = p.lim0
 bas : gh.base = p.base0
 lim0 : p.lim0 ≤ p.L
 amb : A gh own ok X kX s w
 sep : Sep own ok X kX w
 t0 : p.T0 w ok
 sl : ∀ id, id < p.L → s id = p.s1 id
 lp : w.heap[p.l]? = some (.loop (p.rec_ σ pend))
 lo : ¬ own p.l
 lx : ¬ X p.l
 mks : ∀ r, deferMark r ∈ p.ds → w.heap[r]? = some (.deferred (some [])) ∧ ¬ X r
 okc : ∀ b o, p.okC b o → ok b o
section
variable {P : Program} {A : Amb} {p : RdP} {α : Type} {rd0 : Option Nat}
theorem LpIn.stab (hok : AmbOk P A rd0) {h : Hp} {gh : Gh} {nx0 : Nat} {σ : LoopState} {pend : Option Code} {own X o2 o2' : Nat → Prop} {ok kX k2 k2' : Nat → Nat → Prop} {s : Nat → Option Nat} {w w' : World} {base : Base} (hi : LpIn p A h gh nx0 σ pend own ok X kX s w)
   (he : EvolX o2 k2 w o2' k2' w') (hd : ∀ b, o2 b → ¬ own b ∧ ¬ X b ∧ base.may b) (hk : ∀ b o, ok b o ∨ kX b o → o2 b → k2 b o) (hc : CtlKept base.n w w') (hgm : ∀ b, base.may b → p.base0.may b) (hgb : p.base0.n ≤ base.n) (hl : p.l < base.n) (hm : ∀ r, deferMark r ∈ p.ds → r < base.n) : LpIn p A h gh nx0 σ pend own ok X kX s w' := by
 have hcell : ∀ b o, (∃ u, w.cell? ⟨b, o, none⟩ = some u) → (ok b o ∨ kX b o) → w'.cell? ⟨b, o, none⟩ = w.cell? ⟨b, o, none⟩ := fun b o ⟨u, hu⟩ h => by
   by_cases h2 : o2 b
   · exact he.okc b o (hk b o h h2)
   · exact World.cell?_of_block (w := w) (he.unch b (World.block_lt_of_cell? w ⟨b, o, none⟩ hu) h2)
 refine ⟨hi.rh.othersX he (fun b hb h2 => (hd b h2).1 hb) (fun b o hb h2 => hk b o (.inl hb) h2), hi.fr, hi.inr, hi.lim, hi.bas, hi.lim0, hok.st2 _ _ _ _ _ _ _ _ _ _ _ _ hi.amb he (fun b hb => ⟨(hd b hb).1, (hd b hb).2.1, by rw [hi.bas]; exact hgm b (hd b hb).2.2⟩) hk (hc.mono (by rw [hi.bas]; exact hgb)) (fun b o hb => by obtain ⟨u, hu⟩ := hb.elim (hi.rh.okw b o) (hi.sep.kw b o); exact World.block_lt_of_cell? w ⟨b, o, none⟩ hu),
   ⟨fun b hb => Nat.lt_of_lt_of_le (hi.sep.xw b hb) he.size, hi.sep.dis, hi.sep.ko, hi.sep.ok_, fun b o hb => by rw [hcell b o (hi.sep.kw b o hb) (.inr hb)]; exact hi.sep.kw b o hb⟩,
   fun t v d hv hd' => (hi.t0 t v d hv hd').keep (fun b o hb => ⟨hb, hcell b o (hi.rh.okw b o hb) (.inl hb)⟩) he.shape (fun _ _ h => h), hi.sl, hc _ _ hl hi.lp rfl, hi.lo, hi.lx, fun r hr => ⟨hc _ _ (hm r hr) (hi.mks r hr).1 rfl, (hi.mks r hr).2⟩, hi.okc⟩
def LpE (p : RdP) (A : Amb) (H : α → Hp) (G : α → Gh) (nx0 : Nat) (J : Nat → α → Prop) (D : Code → α → Prop) : Env := fun n b X kX w =>
 ∃ (own : Nat → Prop) (ok : Nat → Nat → Prop) (X0 : Nat → Prop) (kX0 : Nat → Nat → Prop) (s : Nat → Option Nat) (x : α) (pend : Option Code), (∀ c, X c ↔ (own c ∨ X0 c) ∨ c = p.l) ∧ (∀ c o, kX c o ↔ ok c o ∨ kX0 c o) ∧
   LpIn p A (H x) (G x) nx0 (if b = true then .done else .ready) pend own ok X0 kX0 s w ∧ (b = false → pend = none ∧ J n x) ∧ (b = true → ∃ c, pend = some c ∧ D c x ∧ (c = .ret ∨ ∃ id, c = .exit id))
variable {H : α → Hp} {G : α → Gh} {nx0 : Nat} {J : Nat → α → Prop} {D : Code → α → Prop}
theorem round_end (hok : AmbOk P A rd0) {own_r X_r own : Nat → Prop} {ok_r kX_r ok : Nat → Nat → Prop} {s : Nat → Option Nat} {w_r w : World} {a : Act} {h : Hp} {gh : Gh} {tm : List V} {σ σ' : LoopState} {pend pend' : Option Code} {base' : Base} (hin : gh.inr = p.inr0) (hlim : gh.lim = p.lim0) (hbas : gh.base = p.base0)
   (hr : R (RdIn p A σ pend own_r ok_r X_r kX_r w_r) own ok s ⟨tm, h, nx0, { gh with lim := p.L, inr := true, base := base' }⟩ w a) :
   ∃ X kX, LpIn p A h gh nx0 σ' pend' own ok X kX s (w.putObj p.l (.loop (p.rec_ σ' pend'))) ∧
     EvolX (fun b => (own_r b ∨ X_r b) ∨ b = p.l) (fun b o => ok_r b o ∨ kX_r b o) w_r (fun b => (own b ∨ X b) ∨ b = p.l) (fun b o => ok b o ∨ kX b o) (w.putObj p.l (.loop (p.rec_ σ' pend'))) ∧
     (∀ b, ((own b ∨ X b) ∨ b = p.l) → b < (w.putObj p.l (.loop (p.rec_ σ' pend'))).heap.size) ∧ ∀ b o, (ok b o ∨ kX b o) → ∃ u, (w.putObj p.l (.loop (p.rec_ σ' pend'))).cell? ⟨b, o, none⟩ = some u := by
 have h1 := hr.turn hok (σ' := σ') (pend' := pend')
 obtain ⟨X, kX, k1, k2, k3⟩ := h1.amb
 refine ⟨X, kX, ⟨h1.rh, h1.fr, hin, hlim, hbas, k1.lim0, ?_, k2, k1.t0, k1.sl, k1.lp, k1.lo, k1.lx, k1.mks, k1.okc⟩, k1.ev, fun b hb => ?_, fun b o hb => hb.elim (h1.rh.okw b o) (k2.kw b o)⟩
 · have := k1.amb
   rw [← hlim, ← hin, ← hbas] at this
   exact this
 · rcases hb with (hb | hb) | hb
   · exact h1.rh.ownw b hb
   · exact k2.xw b hb
   · subst hb; exact (Array.getElem?_eq_some_iff.1 k1.lp).1
theorem round_sound (hok : AmbOk P A rd0) {asg body : Code} {ps : Array Tmp}
   (iha : ∀ {A : Amb} {rd : Option Nat} {Q : Exit → St → Prop} {own : Nat → Prop} {ok : Nat → Nat → Prop} {s : Nat → Option Nat} {st : St} {w : World} {a : Act}, AmbOk P A rd → awp P asg Q st → R A own ok s st w a → asg.wpIn (FW rd) 0 P (PostA A Q) a w)
   (ihb : ∀ {A : Amb} {rd : Option Nat} {Q : Exit → St → Prop} {own : Nat → Prop} {ok : Nat → Nat → Prop} {s : Nat → Option Nat} {st : St} {w : World} {a : Act}, AmbOk P A rd → awp P body Q st → R A own ok s st w a → body.wpIn (FW rd) 0 P (PostA A Q) a w)
   {base : Base} (hgm : ∀ b, base.may b → p.base0.may b) (hgb : p.base0.n ≤ base.n) (hgl : p.base0.n ≤ p.l) (hLn : p.L ≤ nx0) (hids : p.av.size = p.tm0.length) (hps : p.rec0.params = ps) (htm : p.rec0.tmps = p.av) (hasg : p.rec0.assign = asg) (hbody : p.rec0.body = body)
   (hGinr : ∀ x, (G x).inr = p.inr0) (hGlim : ∀ x, (G x).lim = p.lim0) (hGbas : ∀ x, (G x).base = p.base0) {Ys : List (List V)} (hlen : ∀ ys ∈ Ys, ys.length = ps.size)
   (hround : ∀ (base' : Base) i x ys, J i x → Ys[i]? = some ys → awp P asg (fun e st1 => e = .normal ∧ awp P body (fun e st' => match e with
       | .normal => ∃ y, J (i + 1) y ∧ Weak st' (forget st' (H y) nx0 { G y with lim := p.L, inr := true, base := base' })
       | .ret => ∃ y, D .ret y ∧ Weak st' (forget st' (H y) nx0 { G y with lim := p.L, inr := true, base := base' })
       | .exit id => ∃ y, D (.exit id) y ∧ Weak st' (forget st' (H y) nx0 { G y with lim := p.L, inr := true, base := base' })
       | _ => False) st1) ⟨setPs ps.toList ys p.tm0, H x, nx0, { G x with lim := p.L, inr := true, base := base' }⟩)
   (hpl : p.l < base.n) (hm : ∀ r, deferMark r ∈ p.ds → r < base.n) : EnvOk P (LpE p A H G nx0 J D) p.l Ys base p.okC := by
 constructor
 · rintro n b X kX w o2 k2 o2' k2' w' ⟨own, ok, X0, kX0, s, x, pend, hX, hkX, hi, h1, h2⟩ he hd hk hc
   exact ⟨own, ok, X0, kX0, s, x, pend, hX, hkX, hi.stab hok he (fun b hb => ⟨fun h => (hd b hb).1 ((hX b).2 (.inl (.inl h))), fun h => (hd b hb).1 ((hX b).2 (.inl (.inr h))), (hd b hb).2⟩) (fun b o h => hk b o ((hkX b o).2 h)) hc hgm hgb hpl hm, h1, h2⟩
 · rintro n X kX w okI vals ys ⟨own, ok, X0, kX0, s, x, pend, hX, hkX, hi, h1, _⟩ hys hokw hokX hokb hsz hrep
   obtain ⟨rfl, hJ⟩ := h1 rfl
   simp only [Bool.false_eq_true, if_false] at hi
   have hpsz : vals.size = ps.size := by rw [hsz]; exact hlen ys (List.mem_of_getElem? hys)
   have hyl := run_yield (P := P) hi.lp (args := vals) (by show vals.size = p.rec0.params.size; rw [hps]; exact hpsz)
   simp only [RdP.rec_, hps, htm, hasg, hbody] at hyl
   refine ⟨_, _, _, _, hyl, roundIn_of_wpIn trivial ?_⟩
   -- the cells that the yielded values lie on
   let ok2 : Nat → Nat → Prop := fun b o => okI b o ∧ base.may b
   have hsub : ∀ b o, okI b o → ok b o ∨ ok2 b o := fun b o h => (hokb b o h).imp (hi.okc b o) fun hb => ⟨h, hb⟩
   have hoX : ∀ b o, okI b o → own b → ok b o := fun b o h ho => by
     rcases (hkX b o).1 (hokX b o h ((hX b).2 (.inl (.inl ho)))) with h | h
     · exact h
     · exact hi.sep.ko b o h ho
   have hrh : RH w own (fun b o => ok b o ∨ ok2 b o) s (H x) := hi.rh.more ok2 (fun b o h => hokw b o h.1) fun b o h => hoX b o h.1
   have hamb := hok.more _ _ _ _ _ _ _ ok2 hi.amb fun b o h => by rw [hi.bas]; exact hgm b h.2
   have hsep : Sep own (fun b o => ok b o ∨ ok2 b o) X0 kX0 w := ⟨hi.sep.xw, hi.sep.dis, fun b o h1 h2 => .inl (hi.sep.ko b o h1 h2), fun b o h1 h2 => by
     rcases h1 with h1 | h1
     · exact hi.sep.ok_ b o h1 h2
     · rcases (hkX b o).1 (hokX b o h1.1 ((hX b).2 (.inl (.inr h2)))) with h | h
       · exact hi.sep.ok_ b o h h2
       · exact h, hi.sep.kw⟩
   have hkw : ∀ b o, kX0 b o → b < w.heap.size := fun b o h => by obtain ⟨u, hu⟩ := hi.sep.kw b o h; exact World.block_lt_of_cell? w ⟨b, o, none⟩ hu
   have hplw : p.l < w.heap.size := (Array.getElem?_eq_some_iff.1 hi.lp).1
   let base' : Base := ⟨w.heap.size, fun b => own b ∨ w.heap.size ≤ b, fun b hb => .inr hb⟩
   have hin : RdIn p A .ready none own (fun b o => ok b o ∨ ok2 b o) X0 kX0 w { G x with lim := p.L, inr := true, base := base' } own (fun b o => ok b o ∨ ok2 b o) X0 kX0 s w :=
     ⟨rfl, rfl, hi.lim0, rfl, fun b => Iff.rfl, hgl, fun b hb => by have := hok.mo _ _ _ _ _ _ _ hi.amb b hb; rwa [hi.bas] at this, hplw, fun r hr => (Array.getElem?_eq_some_iff.1 (hi.mks r hr).1).1, fun b o hb => by
       rcases hb with hb | hb
       · obtain ⟨u, hu⟩ := hrh.okw b o hb
         exact World.block_lt_of_cell? w ⟨b, o, none⟩ hu
       · exact hkw b o hb, fun b hb => .inl hb, (by
       have : ({ ({ G x with lim := p.L, inr := true, base := base' } : Gh) with lim := p.lim0, inr := p.inr0, base := p.base0 } : Gh) = G x := by rw [← hGlim x, ← hGinr x, ← hGbas x]
       rw [this]; exact hamb), fun t v d hv hd => (hi.t0 t v d hv hd).keep (fun b o hb => ⟨.inl hb, rfl⟩) (fun _ _ _ h => h) (fun _ _ h => h), hi.sl, hi.lp, hi.lo, hi.lx, hi.mks, fun b o hb => .inl (hi.okc b o hb), hkw, EvolX.refl _ _ _⟩
   have hsp := setPs_spec (w := w) (ok := fun b o => ok b o ∨ ok2 b o) (s := s) ps.toList ys vals.toList p.tm0 p.av (by simpa using hsz) (fun i d v hd hv => ((hrep i d v hd (by simpa using hv)).keep (fun b o hb => ⟨hsub b o hb, rfl⟩) (fun _ _ _ h => h) (fun _ _ h => by cases h))) hids
     (fun t v d hv hd => (hi.t0 t v d hv hd).keep (fun b o hb => ⟨.inl hb, rfl⟩) (fun _ _ _ h => h) (fun id B hB => by
       simp only [RdP.sL] at hB
       split at hB
       · rename_i hid; rw [hi.sl id hid]; exact hB
       · cases hB))
   have hfold : (ps.zip vals).foldl (fun tmps p => tmps.setIfInBounds p.1 p.2) p.av = (ps.toList.zip vals.toList).foldl (fun tmps p => tmps.setIfInBounds p.1 p.2) p.av := by
     rw [← Array.foldl_toList, Array.toList_zip]
   have hR0 : R (RdIn p A .ready none own (fun b o => ok b o ∨ ok2 b o) X0 kX0 w) own (fun b o => ok b o ∨ ok2 b o) s ⟨setPs ps.toList ys p.tm0, H x, nx0, { G x with lim := p.L, inr := true, base := base' }⟩ w
       { tmps := (ps.toList.zip vals.toList).foldl (fun tmps p => tmps.setIfInBounds p.1 p.2) p.av, defers := [] } :=
     ⟨hrh, hsp.1, hsp.2, hi.fr, hLn, ⟨X0, kX0, hin, hsep, fun r h => by cases h⟩, ⟨[], rfl, List.nodup_nil, fun r h => by cases h⟩⟩
   refine (show asg.wpIn (FW (some p.l)) 0 P _ { tmps := (ps.zip vals).foldl (fun tmps p => tmps.setIfInBounds p.1 p.2) p.av, defers := [] } w from ?_)
   rw [hfold]
   refine wpIn_mono (iha (RdIn.ok hok) (hround base' n x ys hJ hys) hR0) ?_
   rintro e a1 w1 ⟨st1, own1, ok1, s1, ⟨rfl, hb⟩, hR1⟩
   obtain ⟨X1, kX1, hin1, hsep1, _⟩ := hR1.amb
   refine ⟨_, run_beginRound hin1.lp rfl, ?_⟩
   refine (show body.wpIn (FW (some p.l)) 0 P _ a1 (w1.putObj p.l (.loop (p.rec_ .busy none))) from ?_)
   refine wpIn_mono (ihb (RdIn.ok hok) hb (hR1.turn hok (σ' := .busy) (pend' := none))) ?_
   rintro e a2 w3 ⟨st', own2, okk2, s2, hq, hR2⟩
   -- the round's end
   have fin : ∀ (jump : Option Code) (y : α), (jump = none ∧ J (n + 1) y ∨ ∃ c, jump = some c ∧ D c y ∧ (c = .ret ∨ ∃ id, c = .exit id)) → Weak st' (forget st' (H y) nx0 { G y with lim := p.L, inr := true, base := base' }) →
       ∃ v w', (Instr.endRound p.l jump).run P w3 = .ok v w' ∧ RoundPost (fun b X' kX' w' => LpE p A H G nx0 J D (n + 1) (!b) X' kX' w') okI X kX w (.returned v) w' := by
     intro jump y hj hwk
     obtain ⟨own3, ok3, s3, hR3⟩ := hwk _ _ _ _ _ _ (RdIn.ok hok).st hR2
     obtain ⟨Xa, kXa, hina, _, _⟩ := hR3.amb
     have hrun := run_endRound (P := P) jump hina.lp
     have hrun : (Instr.endRound p.l jump).run P w3 = .ok (.bool jump.isNone) (w3.putObj p.l (.loop (p.rec_ (if jump.isNone then .ready else .done) jump))) := hrun
     obtain ⟨X3, kX3, g1, g2, g3, g4⟩ := round_end (nx0 := nx0) hok (hGinr y) (hGlim y) (hGbas y) (σ' := if jump.isNone then .ready else .done) (pend' := jump) hR3
     refine ⟨_, _, hrun, jump.isNone, fun b => (own3 b ∨ X3 b) ∨ b = p.l, fun b o => ok3 b o ∨ kX3 b o, rfl, ?_, ?_, g3, g4⟩
     · refine ⟨own3, ok3, X3, kX3, s3, y, jump, fun c => Iff.rfl, fun c o => Iff.rfl, ?_, fun hb => ?_, fun hb => ?_⟩
       · cases jump with
         | none => simpa using g1
         | some c => simpa using g1
       · rcases hj with ⟨rfl, hj⟩ | ⟨c, rfl, hj⟩
         · exact ⟨rfl, hj⟩
         · simp at hb
       · rcases hj with ⟨rfl, hj⟩ | ⟨c, rfl, hj⟩
         · simp at hb
         · exact ⟨c, rfl, hj⟩
     · refine g2.congr (fun b => (hX b).symm) (fun b o => ?_) (fun b => Iff.rfl) (fun b o => Iff.rfl)
       rw [hkX b o]
       constructor
       · rintro ((h | h) | h)
         · exact .inl (.inl h)
         · exact .inr h.1
         · exact .inl (.inr h)
       · rintro ((h | h) | h)
         · exact .inl (.inl h)
         · exact .inr h
         · exact .inl (hsub b o h)
   cases e with
   | normal => obtain ⟨y, hy, hwk⟩ := hq; exact fin none y (.inl ⟨rfl, hy⟩) hwk
   | ret => obtain ⟨y, hy, hwk⟩ := hq; exact fin (some .ret) y (.inr ⟨_, rfl, hy, .inl rfl⟩) hwk
   | exit id => obtain ⟨y, hy, hwk⟩ := hq; exact fin (some (.exit id)) y (.inr ⟨_, rfl, hy, .inr ⟨id, rfl⟩⟩) hwk
   | goto t => exact hq.elim
   | panic c => exact hq.elim
   | outgrown => exact hq.elim
end
end Go.Aw
end
section
namespace Go.Aw
open Go.RowKit
section
variable {P : Program}
theorem LpIn.done {A : Amb} {rd0 : Option Nat} (hok : AmbOk P A rd0) {p : RdP} {h : Hp} {gh : Gh} {nx0 : Nat} {σ σ' : LoopState} {pend pend' : Option Code} {own X : Nat → Prop} {ok kX : Nat → Nat → Prop} {s : Nat → Option Nat} {w : World} {a : Act} (hi : LpIn p A h gh nx0 σ pend own ok X kX s w) (hb : gh.base.n ≤ p.l) (hsz : a.tmps.size = p.tm0.length) (hav : p.av = a.tmps)
   (hlm : gh.lim ≤ nx0) (hdf : ∃ rs : List Nat, a.defers = rs.map deferMark ∧ rs.Nodup ∧ ∀ r ∈ rs, gh.base.n ≤ r) (hds : p.ds = a.defers) : R A own ok s ⟨p.tm0, h, nx0, gh⟩ (w.putObj p.l (.loop (p.rec_ σ' pend'))) a := by
 have hs := Wsame.put (o' := .loop (p.rec_ σ' pend')) hi.lp rfl rfl
 obtain ⟨rs, d1, d2, d3⟩ := hdf
 refine ⟨hi.rh.wsame hs, hsz, fun t v d hv hd => ?_, hi.fr, hlm, ⟨X, kX, amb_ctl hok hi.amb hi.lp hb hi.lo hi.lx hi.rh.okw hi.sep.kw, hi.sep.wsame hs, fun r hr => (hi.mks r (by rw [hds]; exact hr)).2⟩, ⟨rs, d1, d2, fun r hr => ⟨d3 r hr, ?_⟩⟩⟩
 · refine ((hi.t0 t v d (by rw [hav]; exact hv) hd).wsame hs).keep (fun b o hb => ⟨hb, rfl⟩) (fun _ _ _ h => h) (fun id B hB => ?_)
   simp only [RdP.sL] at hB
   split at hB
   · rename_i hid; rw [hi.sl id hid]; exact hB
   · cases hB
 · have hm : deferMark r ∈ p.ds := by rw [hds, d1]; exact List.mem_map_of_mem hr
   rw [World.putObj_heap_other (fun e => by subst e; have := (hi.mks _ hm).1; rw [hi.lp] at this; cases this)]
   exact (hi.mks r hm).1
theorem enter_any {A : Amb} {rd : Option Nat} (hok : AmbOk P A rd) {own1 X1 : Nat → Prop} {ok1 kX1 : Nat → Nat → Prop} {s1 : Nat → Option Nat} {st : St} {w : World} {a : Act} (hr1 : R A own1 ok1 s1 st w a) (hA1 : A st.gh own1 ok1 X1 kX1 s1 w) (hsep1 : Sep own1 ok1 X1 kX1 w) (hm1 : ∀ r, deferMark r ∈ a.defers → ¬ X1 r)
   (fid : FuncId) (ps : Array Tmp) (asg body : Code) : ∃ (l df : Nat) (mark : List Deferred) (w1 : World), (Instr.enterLoop fid a.tmps ps asg body rd).run P w = .ok (l, mark) w1 ∧ w1.heap[l]? = some (.loop { state := .ready, pending := none, fn := fid, tmps := a.tmps, params := ps, assign := asg, body := body, defers := df }) ∧ w.heap.size ≤ l ∧
     (∃ o1, Evol (fun _ => False) ok1 w o1 ok1 w1) ∧ (∀ r, deferMark r ∈ mark ++ a.defers → w1.heap[r]? = some (.deferred (some [])) ∧ ¬ X1 r) ∧ ∃ rs : List Nat, mark ++ a.defers = rs.map deferMark ∧ rs.Nodup ∧ ∀ r ∈ rs, st.gh.base.n ≤ r := by
 have hbs : st.gh.base.n ≤ w.heap.size := hok.bs _ _ _ _ _ _ _ hA1
 obtain ⟨hrd0, hrd1⟩ := hok.rd _ _ _ _ _ _ _ hA1
 obtain ⟨rs, d1, d2, d3⟩ := hr1.df
 have hr0 : RH w (fun _ => False) ok1 (fun _ => none) (fun _ => none) := ⟨hr1.rh.okw, fun b hb => hb.elim, (fun id B hB => by cases hB), (fun id b hb => by cases hb), (fun id1 id2 b1 b2 B h1 => by cases h1), hr1.rh.gl⟩
 cases hin : st.gh.inr with
 | false =>
   have hrd := hrd0 hin
   subst hrd
   let rec0 : Loop := { state := .ready, pending := none, fn := fid, tmps := a.tmps, params := ps, assign := asg, body := body, defers := w.heap.size }
   let wa := w.alloc (.deferred (some []))
   have hwa : wa.heap.size = w.heap.size + 1 := by simp [wa]
   have ea := Evol.alloc hr0 0 rfl (.deferred (some []))
   have hra : RH wa (fun x => False ∨ x = w.heap.size) ok1 (fun _ => none) (fun _ => none) := ⟨fun b o hb => by obtain ⟨u, hu⟩ := hr1.rh.okw b o hb; exact ⟨u, (ea.okc b o hb).trans hu⟩, fun b hb => by rcases hb with hb | hb; exact hb.elim; omega, (fun id B hB => by cases hB), (fun id b hb => by cases hb), (fun id1 id2 b1 b2 B h1 => by cases h1), hr1.rh.gl.evol ea⟩
   have eb := ea.trans (Evol.alloc hra 0 rfl (.loop rec0))
   refine ⟨w.heap.size + 1, w.heap.size, [deferMark w.heap.size], wa.alloc (.loop rec0), run_enterLoop_outer _ _ _ _ _, by rw [← hwa]; exact World.alloc_heap_new wa _, by omega, ⟨_, eb⟩, fun r hr' => ?_, w.heap.size :: rs, by simp [d1], List.nodup_cons.2 ⟨fun hm => ?_, d2⟩, fun r hr' => ?_⟩
   · rcases List.mem_cons.1 hr' with e | hm
     · have : r = w.heap.size := by simpa [deferMark] using e
       subst this
       refine ⟨?_, fun hx => ?_⟩
       · have h0 : wa.heap[w.heap.size]? = some (.deferred (some [])) := World.alloc_heap_new w _
         have := Below.heap_alloc wa (.loop rec0) w.heap.size (by omega)
         rw [this]; exact h0
       · have := hsep1.xw _ hx; omega
     · have hm' := hm
       rw [d1] at hm'
       obtain ⟨r', k1, k2⟩ := List.mem_map.1 hm'
       have : r' = r := by simpa [deferMark] using k2
       subst this
       exact ⟨eb.ctl r' _ (d3 r' k1).2 rfl, hm1 r' hm⟩
   · have := (Array.getElem?_eq_some_iff.1 (d3 _ hm).2).1; omega
   · rcases List.mem_cons.1 hr' with e | hm
     · subst e; exact hbs
     · exact (d3 r hm).1
 | true =>
   obtain ⟨l0, r0, rfl, hl0⟩ := hrd1 hin
   let rec0 : Loop := { state := .ready, pending := none, fn := fid, tmps := a.tmps, params := ps, assign := asg, body := body, defers := r0.defers }
   have ea := Evol.alloc hr0 0 rfl (.loop rec0)
   refine ⟨w.heap.size, r0.defers, [], w.alloc (.loop rec0), run_enterLoop_inner hl0 _ _ _ _ _, World.alloc_heap_new w _, Nat.le_refl _, ⟨_, ea⟩, fun r hr' => ?_, rs, by simpa using d1, d2, fun r hr' => (d3 r hr').1⟩
   have hm : deferMark r ∈ a.defers := by simpa using hr'
   have hm' := hm
   rw [d1] at hm'
   obtain ⟨r', k1, k2⟩ := List.mem_map.1 hm'
   have : r' = r := by simpa [deferMark] using k2
   subst this
   exact ⟨ea.ctl r' _ (d3 r' k1).2 rfl, hm1 r' hm⟩
theorem LentR.rep {lent : List Nat} {d d' : V} (h : LentR lent d d') {w : World} {ok : Nat → Nat → Prop} {s : Nat → Option Nat} {v : Value} (hv : Rep w ok s v d) : Rep w ok (fun j => (lent[j]?).bind s) v d' := by
 rcases h with ⟨rfl, hp⟩ | ⟨j, id, k, i, off, hj, rfl, rfl⟩
 · exact hv.pu hp
 · cases hv with
   | ref _ _ _ _ B hB => exact .ref _ _ _ _ B (by rw [hj]; exact hB)
theorem range_sound {A : Amb} {rd : Option Nat} (hok : AmbOk P A rd) {asg body : Code} {ps : Array Tmp} {g : Operand} {Q : Exit → St → Prop}
   (iha : ∀ {A : Amb} {rd : Option Nat} {Q : Exit → St → Prop} {own : Nat → Prop} {ok : Nat → Nat → Prop} {s : Nat → Option Nat} {st : St} {w : World} {a : Act}, AmbOk P A rd → awp P asg Q st → R A own ok s st w a → asg.wpIn (FW rd) 0 P (PostA A Q) a w)
   (ihb : ∀ {A : Amb} {rd : Option Nat} {Q : Exit → St → Prop} {own : Nat → Prop} {ok : Nat → Nat → Prop} {s : Nat → Option Nat} {st : St} {w : World} {a : Act}, AmbOk P A rd → awp P body Q st → R A own ok s st w a → body.wpIn (FW rd) 0 P (PostA A Q) a w)
   {own : Nat → Prop} {ok : Nat → Nat → Prop} {s : Nat → Option Nat} {st : St} {w : World} {a : Act} (h : RangeA P (awp P asg) (awp P body) g ps Q st) (hr : R A own ok s st w a) : (Code.rangeFunc g ps asg body).wpIn (FW rd) 0 P (PostA A Q) a w := by
 obtain ⟨f, cap, cap', Ys, α, tm0, L, nx0, nxI, H, G, J, D, x0, lent, h1, hev, ⟨fn, b1, b2, b3⟩, hit, ⟨hcl, hcr⟩, ⟨hnd, hll, hmo, hpu⟩, hlen, hwk, hH0, hG0, hJ0, hG, hids, hlL, hLn, hround, hend, hret, hexit⟩ := h
 obtain ⟨own1, ok1, s1, hr1⟩ := hwk A own ok s w a hok.st hr
 obtain ⟨X1, kX1, hA1, hsep1, hm1⟩ := hr1.amb
 have hbs : st.gh.base.n ≤ w.heap.size := hok.bs _ _ _ _ _ _ _ hA1
 refine wpIn_rangeFunc fun fid _ => ?_
 obtain ⟨l, df, mark, w1, hrun, hl1, hwl, ⟨o1, eb⟩, hmks, hdf⟩ := enter_any hok hr1 hA1 hsep1 hm1 fid ps asg body
 let rec0 : Loop := { state := .ready, pending := none, fn := fid, tmps := a.tmps, params := ps, assign := asg, body := body, defers := df }
 let p : RdP := { lim0 := st.gh.lim, L := L, l := l, rec0 := rec0, av := a.tmps, tm0 := tm0, s1 := s1, ds := mark ++ a.defers, okC := ok1, base0 := st.gh.base, inr0 := st.gh.inr }
 have hlw1 : l < w1.heap.size := (Array.getElem?_eq_some_iff.1 hl1).1
 -- the function's value
 have hgv := hr1.ev g
 rw [show St.ev ⟨tm0, h1, nx0, st.gh⟩ g = _ from hev] at hgv
 generalize hgv0 : a.eval g = gv at hgv
 cases hgv with
 | fn _ vs us _ _ e1 e2 c1 c2 =>
   have hvs : vs = #[] := Array.eq_empty_of_size_eq_zero (by simpa using e1)
   subst hvs
   let ownC : Nat → Prop := fun b => own1 b ∧ ¬ Lent lent s1 h1 b
   let base : Base := ⟨w1.heap.size, fun b => Lent lent s1 h1 b ∨ w1.heap.size ≤ b, fun b hb => .inr hb⟩
   have hLo : ∀ b, Lent lent s1 h1 b → own1 b := fun b ⟨id, blk, g1, g2, g3⟩ => ((hr1.rh.blk id blk g2).own b g3 (hmo id g1 blk g2)).1
   have hrhC : RH w ownC ok1 s1 (H x0) := by rw [hH0]; exact hr1.rh.out lent hmo
   have hrhI : RH w (Lent lent s1 h1) ok1 (fun j => (lent[j]?).bind s1) (hIn lent h1) := hr1.rh.in_ lent hnd hmo hpu
   have hAC : A st.gh ownC ok1 X1 kX1 s1 w := hok.sub _ _ _ _ _ _ _ _ hA1 fun b hb => hb.1
   have hcell1 : ∀ b o, (∃ u, w.cell? ⟨b, o, none⟩ = some u) → w1.cell? ⟨b, o, none⟩ = w.cell? ⟨b, o, none⟩ := fun b o ⟨u, hu⟩ => World.cell?_of_block (w := w) (eb.unch b (World.block_lt_of_cell? w ⟨b, o, none⟩ hu) (fun h => h))
   have hok1 : ∀ b o, ok1 b o → ∃ u, w1.cell? ⟨b, o, none⟩ = some u := fun b o hb => by obtain ⟨u, hu⟩ := hr1.rh.okw b o hb; exact ⟨u, (eb.okc b o hb).trans hu⟩
   have hkx1 : ∀ b o, kX1 b o → ∃ u, w1.cell? ⟨b, o, none⟩ = some u := fun b o hb => by rw [hcell1 b o (hsep1.kw b o hb)]; exact hsep1.kw b o hb
   have hrh1 := (hrhC.called eb hok1).1
   have hrhI1 := (hrhI.called eb hok1).1
   have hsep : Sep ownC ok1 X1 kX1 w1 := ⟨fun b hb => Nat.lt_of_lt_of_le (hsep1.xw b hb) eb.size, fun b hb => hsep1.dis b hb.1, fun b o h2 hb => hsep1.ko b o h2 hb.1, hsep1.ok_, hkx1⟩
   have hamb : A st.gh ownC ok1 X1 kX1 s1 w1 := hok.st2 _ _ _ _ _ _ _ _ _ _ _ _ hAC eb.x (fun b hb => hb.elim) (fun b o _ hb => hb.elim) (eb.kept' _) (fun b o hb => by obtain ⟨u, hu⟩ := hb.elim (hr1.rh.okw b o) (hsep1.kw b o); exact World.block_lt_of_cell? w ⟨b, o, none⟩ hu)
   have hkeepP : ∀ {v d}, Rep w ok1 s1 v d → Rep w1 ok1 s1 v d := fun hv => hv.evol eb (fun _ _ h => h)
   have hmlt : ∀ r, deferMark r ∈ p.ds → r < w1.heap.size := fun r hr' => (Array.getElem?_eq_some_iff.1 (hmks r hr').1).1
   have hi0 : LpIn p A (H x0) (G x0) nx0 .ready none ownC ok1 X1 kX1 s1 w1 := by
     refine ⟨hrh1, fun id hid => ⟨(hr1.fr id hid).1, by rw [hH0, hOut]; split; rfl; exact (hr1.fr id hid).2⟩, by rw [hG0], by rw [hG0], by rw [hG0], hlL, by rw [hG0]; exact hamb, hsep, fun t v d hv hd => ?_, fun _ _ => rfl, hl1, fun ho => ?_, fun hx => ?_, hmks, fun _ _ h => h⟩
     · exact (Rep.idLt (hids d (List.mem_of_getElem? hd)) (hr1.tm t v d hv hd)).evol eb (fun _ _ h => h)
     · have := hr1.rh.ownw _ ho.1
       have hpl : p.l = l := rfl
       omega
     · have := hsep1.xw _ hx
       have hpl : p.l = l := rfl
       omega
   have hgm : ∀ b, base.may b → p.base0.may b := fun b hb => by
     rcases hb with hb | hb
     · exact hok.mo _ _ _ _ _ _ _ hA1 b (hLo b hb)
     · exact st.gh.base.up b (by have := eb.size; omega)
   have hgb : p.base0.n ≤ base.n := by have := eb.size; show st.gh.base.n ≤ w1.heap.size; omega
   have hgl : p.base0.n ≤ p.l := by show st.gh.base.n ≤ l; omega
   have henv : EnvOk P (LpE p A H G nx0 J D) p.l Ys base p.okC := round_sound hok iha ihb hgm hgb hgl hLn hr1.sz rfl rfl rfl rfl (fun x => by rw [hG x]) (fun x => by rw [hG x]) (fun x => by rw [hG x]) hlen hround hlw1 hmlt
   let vals : Array Value := #[] ++ #[.func (.yield l) #[] #[]] ++ us
   have hreps : ∀ (i : Nat) (d : V) (v : Value), ([yieldV l] ++ cap')[i]? = some d → vals[i]? = some v → Rep w1 ok1 (fun j => (lent[j]?).bind s1) v d := by
     intro i d v hd hv
     cases i with
     | zero =>
       have hd' : d = yieldV l := by have : some (yieldV l) = some d := hd; exact (Option.some.inj this).symm
       have h0 : (#[Value.func (.yield l) #[] #[]] ++ us)[0]? = some (.func (.yield l) #[] #[]) := by rw [Array.getElem?_append_left (by simp)]; rfl
       have hv' : v = .func (.yield l) #[] #[] := by
         simp only [vals, Array.empty_append] at hv
         rw [h0] at hv
         exact (Option.some.inj hv).symm
       rw [hd', hv']
       exact .fn _ #[] #[] [] [] rfl rfl (fun i d v hd => by cases hd) (fun i d v hd => by cases hd)
     | succ i =>
       have hd' : cap'[i]? = some d := by simpa using hd
       have hv' : us[i]? = some v := by
         simp only [vals] at hv
         rw [Array.getElem?_append_right (by simp)] at hv
         simpa using hv
       have hi : i < cap.length := by rw [hcl]; exact (List.getElem?_eq_some_iff.1 hd').1
       exact (hcr i _ d (List.getElem?_eq_getElem hi) hd').rep (hkeepP (c2 i _ v (List.getElem?_eq_getElem hi) hv'))
   refine ⟨l, mark, w1, { target := .fn (.func f) us, args := #[] ++ #[.func (.yield l) #[] #[]] }, w1, f, vals, w1, hrun, ?_, fun _ _ => trivial, ?_, fun h => by simp [FW, Fence.wide] at h, ?_⟩
   · simp only [resolve, rangeCall, hgv0, Deferred.ofValue, Sem.run_pure]; simp [Act.eval]
   · show (callFunc f (#[] ++ #[.func (.yield l) #[] #[]] ++ us)).run P w1 = _
     exact callFunc_run b1 b2 b3 _ _
   have hsepI : Sep (Lent lent s1 h1) ok1 (fun c => (ownC c ∨ X1 c) ∨ c = p.l) (fun b o => ok1 b o ∨ kX1 b o) w1 := by
     refine ⟨fun b hb => ?_, fun b hb hx => ?_, fun b o hk hb => ?_, fun b o hk _ => .inl hk, fun b o hb => hb.elim (hok1 b o) (hkx1 b o)⟩
     · rcases hb with (hb | hb) | hb
       · have := hr1.rh.ownw b hb.1; have := eb.size; omega
       · have := hsep1.xw b hb; have := eb.size; omega
       · rw [hb]; exact hlw1
     · rcases hx with (hx | hx) | hx
       · exact hx.2 hb
       · exact hsep1.dis b (hLo b hb) hx
       · have := hr1.rh.ownw b (hLo b hb)
         have hpl : p.l = l := rfl
         omega
     · rcases hk with hk | hk
       · exact hk
       · exact hsep1.ko b o hk (hLo b hb)
   have hcall := hit (LpE p A H G nx0 J D) l w1 (fun c => (ownC c ∨ X1 c) ∨ c = p.l) (fun b o => ok1 b o ∨ kX1 b o) ok1 (Lent lent s1 h1) (fun j => (lent[j]?).bind s1) base vals henv (Nat.le_refl _) (fun b hb => .inl hb)
     ⟨ownC, ok1, X1, kX1, s1, x0, none, fun _ => Iff.rfl, fun _ _ => Iff.rfl, by simpa using hi0, fun _ => ⟨rfl, hJ0⟩, fun h => by cases h⟩ hsepI hrhI1
     (fun j hj => by
       have : lent[j]? = none := List.getElem?_eq_none (by omega)
       simp [hIn, this]) (by simp [vals, e2, hcl]; omega) hreps
   refine CallsIn.mono (show CallsIn (FW rd) 0 P f vals w1 _ from hcall) ?_
   rintro e w3 ⟨v, n, b, X', kX', rfl, ⟨own', ok', X0', kX0', s', x, pend, hX', hkX', hi, h1', h2⟩, hn⟩
   have hdf' : ∃ rs : List Nat, (mark ++ a.defers) = rs.map deferMark ∧ rs.Nodup ∧ ∀ r ∈ rs, (G x).base.n ≤ r := by rw [hG x]; exact hdf
   have hlim : (G x).lim ≤ nx0 := by rw [hG x]; exact Nat.le_trans hlL hLn
   have hGl : (G x).base.n ≤ p.l := by rw [hG x]; exact hgl
   show rangePost (FW rd) 0 P l (PostA A Q) { a with defers := mark ++ a.defers } (.returned v) w3
   cases b with
   | false =>
     obtain ⟨rfl, hJn⟩ := h1' rfl
     rw [hn rfl] at hJn
     simp only [Bool.false_eq_true, if_false] at hi
     refine ⟨none, _, run_endLoop (P := P) hi.lp (by simp [RdP.rec_]), ?_⟩
     exact ⟨_, own', ok', s', hend x hJn, hi.done hok (a := { a with defers := mark ++ a.defers }) (σ' := .exhausted) (pend' := none) hGl hr1.sz rfl hlim hdf' rfl⟩
   | true =>
     obtain ⟨c, rfl, hD, hc⟩ := h2 rfl
     simp only [if_true] at hi
     refine ⟨some c, _, run_endLoop (P := P) hi.lp (by simp [RdP.rec_]), ?_⟩
     have hR := hi.done hok (a := { a with defers := mark ++ a.defers }) (σ' := .exhausted) (pend' := some c) hGl hr1.sz rfl hlim hdf' rfl
     rcases hc with rfl | ⟨id, rfl⟩
     · exact wpIn_ret ⟨_, own', ok', s', hret x hD, hR⟩
     · exact wpIn_exit ⟨_, own', ok', s', hexit id x hD, hR⟩
end
end Go.Aw
end
section
namespace Go.Aw
open Go.RowKit
section
variable {P : Program} {A : Amb} {own : Nat → Prop} {ok : Nat → Nat → Prop} {s : Nat → Option Nat} {st : St} {w : World} {a : Act} {rd : Option Nat}
theorem awpOps_sound (hA : A.Stable) (hY : A.Yields P) {ops : Array Oper} {Q : Exit → St → Prop} : ∀ (l : List Oper) (k : Nat) {own : Nat → Prop} {ok : Nat → Nat → Prop} {s : Nat → Option Nat} {st : St} {w : World} {a : Act},
   (∀ i, i < l.length → ops[k + i]? = l[i]?) → awpOps P ops l (Q .normal) st → R A own ok s st w a → wpOpsIn (FW rd) 0 P ops (PostA A Q) (List.range' k l.length) a w := by
 intro l
 induction l with
 | nil => intro k own ok s st w a _ h hr; exact ⟨st, own, ok, s, h, hr⟩
 | cons o rest ih =>
   intro k own ok s st w a hops h hr
   rw [List.length_cons, List.range'_succ]
   have h0 : ops[k]? = some o := by have := hops 0 (by simp); simpa using this
   have hrest : ∀ i, i < rest.length → ops[k + 1 + i]? = rest[i]? := fun i hi => by
     have := hops (i + 1) (by simp; omega)
     rw [show k + 1 + i = k + (i + 1) from by omega, this]; simp
   simp only [wpOpsIn, h0]
   unfold awpOps at h
   split at h
   · exact h.elim
   · rename_i g hg
     rw [guard_sound hr hg]
     split at h
     · rename_i hgt
       subst hgt
       simp only [if_true]
       exact awpOp_sound hA hY h hr fun st' own ok s w a hk hr' => ih (k + 1) hrest hk hr'
     · rename_i hgf
       have : g = false := by cases g <;> simp_all
       subst this
       simp only [Bool.false_eq_true, if_false]
       refine ⟨fun _ _ => trivial, ih (own := own) (ok := ok) (s := s) (k + 1) hrest h ?_⟩
       exact R.put (st := { st with nx := st.nx + 64 }) ⟨hr.rh, hr.sz, hr.tm, fun id hid => hr.fr id (by simp only at hid; omega), Nat.le_trans hr.lm (Nat.le_add_right _ _), hr.amb, hr.df⟩ o.dst (.tup #[] [] rfl (fun i d v hd hv => by cases hd))
theorem awp_sound : ∀ (c : Code) {A : Amb} {rd : Option Nat} {Q : Exit → St → Prop} {own : Nat → Prop} {ok : Nat → Nat → Prop} {s : Nat → Option Nat} {st : St} {w : World} {a : Act}, AmbOk P A rd →
   awp P c Q st → R A own ok s st w a → c.wpIn (FW rd) 0 P (PostA A Q) a w := by
 have mono : ∀ {A : Amb} {e : Exit} {a : Act} {w : World} {K : St → Prop} {Q : Exit → St → Prop} {next : Act → World → Prop}, PostA A (thenQ K Q) e a w → (∀ st own ok s, K st → R A own ok s st w a → next a w) → Exit.then next (PostA A Q) e a w := by
   rintro A e a w K Q next ⟨st, own, ok, s, hq, hr⟩ hn
   cases e with
   | normal => exact hn st own ok s hq hr
   | _ => exact ⟨st, own, ok, s, hq, hr⟩
 intro c
 induction c with
 | skip => intro A rd Q own ok s st w a hok h hr; exact wpIn_skip ⟨st, own, ok, s, h, hr⟩
 | label l => intro A rd Q own ok s st w a hok h hr; exact wpIn_label ⟨st, own, ok, s, h, hr⟩
 | seq x y ihx ihy =>
   intro A rd Q own ok s st w a hok h hr
   exact wpIn_seq (wpIn_mono (ihx hok h hr) fun e a w hp => mono hp fun st own ok s hk hr' => ihy hok hk hr')
 | cond c x y ihx ihy =>
   intro A rd Q own ok s st w a hok h hr
   have hc := hr.ev c
   simp only [awp, CondA] at h
   split at h
   case h_2 => exact h.elim
   rename_i b hb
   rw [hb] at hc
   generalize hv : a.eval c = v at hc
   cases hc
   refine wpIn_cond_split hv (fun ht => ?_) (fun ht => ?_)
   · subst ht; simp only [if_true] at h; exact ihx hok h hr
   · subst ht; simp only [Bool.false_eq_true, if_false] at h; exact ihy hok h hr
 | block id c ih =>
   intro A rd Q own ok s st w a hok h hr
   refine wpIn_block (wpIn_mono (ih hok h hr) fun e a w hp => ?_)
   obtain ⟨st, own, ok, s, hq, hr⟩ := hp
   cases e with
   | exit id' =>
     simp only [Exit.inBlock]
     simp only [blockQ] at hq
     split
     · rename_i h; rw [if_pos h] at hq; exact ⟨st, own, ok, s, hq, hr⟩
     · rename_i h; rw [if_neg h] at hq; exact ⟨st, own, ok, s, hq, hr⟩
   | _ => exact ⟨st, own, ok, s, hq, hr⟩
 | loop c ih =>
   intro A rd Q own ok s st w a hok h hr
   have hA := hok.st
   obtain ⟨α, S, I, m, x0, hw0, hI0, hround⟩ := h
   let J : Act → World → Nat → Prop := fun a w k => ∃ x own ok s, I x ∧ m x = k ∧ R A own ok s (S x) w a
   have hex : ∀ a w, (∃ k, J a w k) → ∃ k, J a w k ∧ ∀ k', J a w k' → k ≤ k' := fun a w hk => by
     obtain ⟨k, hk⟩ := hk
     induction k using Nat.strongRecOn with
     | _ k ihk =>
       by_cases h : ∃ k', k' < k ∧ J a w k'
       · obtain ⟨k', h1, h2⟩ := h; exact ihk k' h1 h2
       · exact ⟨k, hk, fun k' hk' => by
           rcases Nat.lt_or_ge k' k with h1 | h1
           · exact (h ⟨k', h1, hk'⟩).elim
           · exact h1⟩
   let μ : Act → World → Nat := fun a w => open Classical in if h : ∃ k, J a w k then (hex a w h).choose else 0
   have hμ : ∀ a w (h : ∃ k, J a w k), J a w (μ a w) ∧ ∀ k', J a w k' → μ a w ≤ k' := fun a w h => by
     have := (hex a w h).choose_spec
     simp only [μ, dif_pos h]; exact this
   refine wpIn_loop (fun a w => ∃ k, J a w k) μ ?_ ?_
   · obtain ⟨own', ok', s', hr'⟩ := hw0 A own ok s w a hA hr
     exact ⟨_, x0, own', ok', s', hI0, rfl, hr'⟩
   · intro a w hk
     obtain ⟨⟨x1, own1, ok1, s1, hI1, hm1, hr1⟩, _⟩ := hμ a w hk
     refine wpIn_mono (ih hok (hround x1 hI1) hr1) fun e a' w' hp => mono hp fun st' own' ok' s' hk' hr' => ?_
     obtain ⟨x2, hI2, hlt, hwk⟩ := hk'
     obtain ⟨own2, ok2, s2, hr2⟩ := hwk A own' ok' s' w' a' hA hr'
     have hJ : J a' w' (m x2) := ⟨x2, own2, ok2, s2, hI2, rfl, hr2⟩
     refine ⟨⟨_, hJ⟩, ?_⟩
     have := (hμ a' w' ⟨_, hJ⟩).2 _ hJ
     omega
 | exit id => intro A rd Q own ok s st w a hok h hr; exact wpIn_exit ⟨st, own, ok, s, h, hr⟩
 | ret => intro A rd Q own ok s st w a hok h hr; exact wpIn_ret ⟨st, own, ok, s, h, hr⟩
 | region id ops draw =>
   intro A rd Q own ok s st w a hok h hr
   have hA := hok.st
   cases draw with
   | true => simp only [awp] at h; exact draws_sound hA hok.yl h.1 h.2 hr
   | false =>
     simp only [awp] at h
     refine wpIn_region ?_
     rw [List.range_eq_range', ← Array.length_toList]
     exact awpOps_sound hA hok.yl ops.toList 0 (fun i hi => by simp) h hr
 | rangeFunc g ps asg body iha ihb => intro A rd Q own ok s st w a hok h hr; simp only [awp] at h; exact range_sound hok (fun {A rd Q own ok s st w a} => iha) (fun {A rd Q own ok s st w a} => ihb) h hr
 | _ => intro A rd Q own ok s st w a hok h hr; simp only [awp] at h
end
end Go.Aw
end
section
namespace Go.Aw
open Go.RowKit
theorem Evol.putCtl {own own' : Nat → Prop} {ok ok' : Nat → Nat → Prop} {w w' : World} (he : Evol own ok w own' ok' w') {r : Nat} {o o' : Obj} (hr : w.heap.size ≤ r) (h : w'.heap[r]? = some o) (ho : isCtl o = true) (ho' : isCtl o' = true) :
   Evol own ok w own' ok' (w'.putObj r o') := by
 have hs := Wsame.put h ho ho'
 exact ⟨he.os, he.tape, he.output, Nat.le_trans he.size hs.size, fun b hb hn => by rw [World.putObj_heap_other (by omega)]; exact he.unch b hb hn, he.ownn, he.okk, fun b o hb => (hs.cell b o).trans (he.okc b o hb), he.okn,
   fun b ty sz hb => by rw [hs.shape]; exact he.shape b ty sz hb, fun b o hb hc => by
     have := (Array.getElem?_eq_some_iff.1 hb).1
     rw [World.putObj_heap_other (by omega)]; exact he.ctl b o hb hc⟩
def resV (P : Program) (st : St) : List ResultVar → Option (Prop × List V)
 | [] => some (True, [])
 | .tmp t :: r => match resV P st r with
   | some (c, vs) => some (c, st.ev (.tmp t) :: vs)
   | none => none
 | .cell a t :: r => match actLoad P t (st.ev (.tmp a)) st.h, resV P st r with
   | some e, some (c, vs) => some (e.c ∧ c, e.v :: vs)
   | _, _ => none
def retV : List V → V
 | [v] => v
 | vs => .tup vs
def RetA (P : Program) (fn : Func) (Post : V → Hp → Nat → Prop) : Exit → St → Prop
 | .normal, st | .ret, st => ∃ st', Weak st st' ∧ st'.nx = st.nx ∧ match resV P st' fn.results.toList with
   | some (c, vs) => c ∧ Post (retV vs) st'.h st'.nx
   | none => False
 | _, _ => False
section
variable {P : Program}
theorem run_mapM_list {α β : Type} (f : α → Sem β) (w : World) : ∀ (l : List α) (vs : List β), l.length = vs.length → (∀ (i : Nat) (a : α) (b : β), l[i]? = some a → vs[i]? = some b → (f a).run P w = .ok b w) → (l.mapM f).run P w = .ok vs w := by
 intro l
 induction l with
 | nil => intro vs hl _; cases vs with
   | nil => simp
   | cons _ _ => cases hl
 | cons x l ih =>
   intro vs hl h
   cases vs with
   | nil => cases hl
   | cons v vs =>
     have h0 := h 0 x v rfl rfl
     have := ih vs (by simpa using hl) fun i a b ha hb => h (i + 1) a b (by simpa using ha) (by simpa using hb)
     simp [List.mapM_cons, Sem.run_bind, h0, this]
theorem results_sound {A : Amb} {own : Nat → Prop} {ok : Nat → Nat → Prop} {s : Nat → Option Nat} {st : St} {w : World} {a : Act} (hr : R A own ok s st w a) {fn : Func} {c : Prop} {vs : List V} (h : resV P st fn.results.toList = some (c, vs)) (hc : c)
   {w' : World} (hw : Wsame w w') : ∃ v, (results fn a.tmps).run P w' = .ok v w' ∧ Rep w' ok s v (retV vs) := by
 have key : ∀ (l : List ResultVar) (c : Prop) (vs : List V), resV P st l = some (c, vs) → c → ∃ us : List Value, l.length = us.length ∧ us.length = vs.length ∧ (∀ (i : Nat) (d : V) (v : Value), vs[i]? = some d → us[i]? = some v → Rep w' ok s v d) ∧
     ∀ (i : Nat) (x : ResultVar) (b : Value), l[i]? = some x → us[i]? = some b → (match x with
       | ResultVar.tmp t => pure (a.tmps.getD t undef)
       | .cell x t => do loadVar t (← asAddr (a.tmps.getD x undef)) : Sem Value).run P w' = .ok b w' := by
   intro l
   induction l with
   | nil => intro c vs h _; simp only [resV] at h; cases h; exact ⟨[], rfl, rfl, (fun i d v hd => by cases hd), (fun i x b hx => by cases hx)⟩
   | cons x l ih =>
     intro c vs h hc
     cases x with
     | tmp t =>
       simp only [resV] at h
       split at h
       case h_2 => cases h
       rename_i c' vs' h'
       cases h
       obtain ⟨us, g1, g2, g3, g4⟩ := ih _ _ h' hc
       refine ⟨a.tmps.getD t undef :: us, by simp [g1], by simp [g2], fun i d v hd hv => ?_, fun i x b hx hb => ?_⟩
       · cases i with
         | zero => simp at hd hv; subst hd hv; simpa [Act.eval, St.ev] using (hr.ev (.tmp t)).wsame hw
         | succ i => exact g3 i d v (by simpa using hd) (by simpa using hv)
       · cases i with
         | zero => simp at hx hb; subst hx hb; simp
         | succ i => exact g4 i x b (by simpa using hx) (by simpa using hb)
     | cell x t =>
       simp only [resV] at h
       split at h
       case h_2 => cases h
       rename_i e c' vs' he h'
       cases h
       obtain ⟨us, g1, g2, g3, g4⟩ := ih _ _ h' hc.2
       obtain ⟨u, k1, k2, k3⟩ := actLoad_sound (P := P) (hr.rh.wsame hw) ((show Rep w ok s (a.tmps.getD x undef) (st.tmps.getD x .undef) from hr.ev (.tmp x)).wsame hw) he hc.1
       have k4 : (do loadVar t (← asAddr (a.tmps.getD x undef)) : Sem Value).run P w' = .ok u w' := by
         simp only [Instr.loadAt] at k1
         generalize a.tmps.getD x undef = y at k1
         cases y with
         | pointer p =>
           cases p with
           | some p => simpa [Instr.sureAddr, asAddr] using k1
           | none => simp [Instr.sureAddr] at k1
         | _ => simp [Instr.sureAddr] at k1
       refine ⟨u :: us, by simp [g1], by simp [g2], fun i d v hd hv => ?_, fun i y b hx hb => ?_⟩
       · cases i with
         | zero => simp at hd hv; subst hd hv; exact k2
         | succ i => exact g3 i d v (by simpa using hd) (by simpa using hv)
       · cases i with
         | zero => simp at hx hb; subst hx hb; exact k4
         | succ i => exact g4 i y b (by simpa using hx) (by simpa using hb)
 obtain ⟨us, g1, g2, g3, g4⟩ := key _ _ _ h hc
 have hm : (fn.results.mapM fun
     | .tmp t => pure (a.tmps.getD t undef)
     | .cell x t => do loadVar t (← asAddr (a.tmps.getD x undef)) : Sem (Array Value)).run P w' = .ok us.toArray w' := by
   rw [Array.mapM_eq_mapM_toList, map_eq_pure_bind, Sem.run_bind]
   rw [run_mapM_list _ w' _ us (by simpa using g1) (fun i x b hx hb => g4 i x b (by simpa using hx) hb)]
   simp
 have hfin : (results fn a.tmps).run P w' = .ok (if h : us.toArray.size = 1 then us.toArray[0] else .tuple us.toArray) w' := by
   unfold results
   rw [Sem.run_bind]
   refine Eq.trans (congrArg (fun r => Result.andThen r _) hm) ?_
   simp only [Result.andThen_ok, Sem.run_pure]
 rw [hfin]
 by_cases h1 : us.length = 1
 · obtain ⟨u, rfl⟩ := List.length_eq_one_iff.1 h1
   obtain ⟨d, rfl⟩ := List.length_eq_one_iff.1 (show vs.length = 1 by omega)
   exact ⟨u, by simp, g3 0 d u rfl rfl⟩
 · refine ⟨.tuple us.toArray, by simp [h1], ?_⟩
   have : retV vs = .tup vs := by
     match vs, g2 with
     | [], _ => rfl
     | [_], g2 => exact absurd g2 h1
     | _ :: _ :: _, _ => rfl
   rw [this]
   exact .tup _ _ (by simpa using g2) (fun i d v hd hv => g3 i d v hd (by simpa using hv))
theorem leavesM {F : Fence} {n : Nat} {fn : Func} {tmps : Array Value} {Rr : Ending → World → Prop} : ∀ (rs : List Nat) (w : World), rs.Nodup → (∀ r ∈ rs, w.heap[r]? = some (.deferred (some []))) →
   (∀ w', Wsame w w' → (∀ (I : World → Prop), I w → (∀ x r o, r ∈ rs → I x → x.heap[r]? = some (.deferred o) → I (x.putObj r (.deferred none))) → I w') → ∃ v, (results fn tmps).run P w' = .ok v w' ∧ Rr (.returned v) w') →
   LeavesInM F n P fn tmps Rr (rs.map deferMark) .returning w := by
 intro rs
 induction rs with
 | nil => intro w _ _ h; exact h w ⟨fun _ _ => rfl, fun _ => rfl, fun _ _ => rfl, Nat.le_refl _, fun _ _ _ h => h⟩ (fun I hI _ => hI)
 | cons r rs ih =>
   intro w hnd hd h
   have h0 := hd r (by simp)
   have hne : ∀ x ∈ rs, x ≠ r := fun x hx e => by subst e; exact (List.nodup_cons.1 hnd).1 hx
   refine ⟨by simp, .inl ⟨r, w.putObj r (.deferred none), rfl, run_takeDeferred h0, ?_⟩⟩
   refine ih _ (List.nodup_cons.1 hnd).2 (fun x hx => by rw [World.putObj_heap_other (hne x hx)]; exact hd x (by simp [hx])) fun w' hs hI => ?_
   have hs0 := Wsame.put (o' := .deferred none) h0 rfl rfl
   refine h w' ⟨fun b o => (hs.cell b o).trans (hs0.cell b o), fun b => (hs.shape b).trans (hs0.shape b), fun b o => (hs.frozen b o).trans (hs0.frozen b o), Nat.le_trans hs0.size hs.size, fun b es ck h => hs.map b es ck (hs0.map b es ck h)⟩ fun I hIw hst => ?_
   exact hI I (hst _ _ _ (by simp) hIw h0) (fun x r' o hr' => hst x r' o (by simp [hr']))
theorem callH_of_awp {g : FuncId} {fn : Func} {c : Code} {args : List V} {h : Hp} {nx : Nat} {Post : V → Hp → Nat → Prop} (hf : P.funcs[g]? = some fn) (hb : fn.body = some c) (hn : args.length ≤ fn.ntmps)
   (hw : ∀ base : Base, awp P c (RetA P fn Post) { tmps := args ++ List.replicate (fn.ntmps - args.length) .undef, h := h, nx := nx, gh := { base := base, lim := nx } }) : CallH P g args h nx Post := by
 intro w own ok s vals hrh hfr hsz hrep
 let B : Base := ⟨w.heap.size, fun b => own b ∨ w.heap.size ≤ b, fun b hb => .inr hb⟩
 let A : Amb := fun gh own' ok' X kX s' w' => (gh.base = B ∧ gh.ys = [] ∧ gh.inr = false) ∧ gh.lim = nx ∧ EvolX own ok w own' ok' w' ∧ (∀ id, id < nx → s' id = s id) ∧ ∀ (b : Nat) (o : Obj), w.heap[b]? = some o → isCtl o = true → w'.heap[b]? = some o
 have hA : A.Stable := fun gh own1 ok1 X kX s1 w1 own2 ok2 s2 w2 h1 he _ _ hs => ⟨h1.1, h1.2.1, h1.2.2.1.trans he.x, fun id hid => (hs id (by rw [h1.2.1]; exact hid)).trans (h1.2.2.2.1 id hid), fun b o hb hc => he.ctl b o (h1.2.2.2.2 b o hb hc) hc⟩
 have hA2 : A.Stable2 := fun gh own1 ok1 X kX s1 w1 o2 k2 o2' k2' w2 h1 he hd hk hc _ => ⟨h1.1, h1.2.1, h1.2.2.1.others (fun b o hb => hrh.ok_lt hb) he (fun b hb => by have := (hd b hb).2.2; rw [h1.1.1] at this; exact this) (fun b o hb hb2 => hk b o (.inl hb) hb2), h1.2.2.2.1, fun b o hb hbc => by
   have hlt := (Array.getElem?_eq_some_iff.1 hb).1
   exact hc b o (by rw [h1.1.1]; exact hlt) (h1.2.2.2.2 b o hb hbc) hbc⟩
 have hAm : A.More := fun gh own1 ok1 X kX s1 w1 ok2 h1 hb => ⟨h1.1, h1.2.1, ⟨h1.2.2.1.os, h1.2.2.1.tape, h1.2.2.1.output, h1.2.2.1.size, h1.2.2.1.unch, h1.2.2.1.ownn, fun b o h => .inl (h1.2.2.1.okk b o h), h1.2.2.1.okc, fun b o h => by
   rcases h with h | h
   · exact h1.2.2.1.okn b o h
   · have := hb b o h; rw [h1.1.1] at this; exact .inr this, h1.2.2.1.shape⟩, h1.2.2.2.1, h1.2.2.2.2⟩
 have hAy : A.Yields P := fun gh own1 ok1 X kX s1 w1 vals ys h1 _ _ _ hys => by rw [h1.1.2.1] at hys; cases hys
 have hokA : AmbOk P A none := ⟨hA, hA2, hAm, hAy, fun gh own1 ok1 X kX s1 w1 h1 => ⟨fun _ => rfl, fun h => by rw [h1.1.2.2] at h; cases h⟩, fun gh own1 ok1 X kX s1 w1 h1 => by rw [h1.1.1]; exact h1.2.2.1.size,
   fun gh own1 ok1 X kX s1 w1 h1 b hb => by rw [h1.1.1]; exact h1.2.2.1.ownn b hb,
   fun gh own1 ok1 X kX s1 w1 own2 h1 hb => ⟨h1.1, h1.2.1, ⟨h1.2.2.1.os, h1.2.2.1.tape, h1.2.2.1.output, h1.2.2.1.size, h1.2.2.1.unch, fun b h => h1.2.2.1.ownn b (hb b h), h1.2.2.1.okk, h1.2.2.1.okc, h1.2.2.1.okn, h1.2.2.1.shape⟩, h1.2.2.2.1, h1.2.2.2.2⟩⟩
 refine callsIn_of_wp_marks hf hb trivial ?_
 have hr : R A own ok s { tmps := args ++ List.replicate (fn.ntmps - args.length) .undef, h := h, nx := nx, gh := { base := B, lim := nx } } w { tmps := vals ++ Array.replicate (fn.ntmps - vals.size) undef, defers := [] } := by
   refine ⟨hrh, by simp [hsz], fun t v d hv hd => ?_, hfr, Nat.le_refl _, ⟨fun _ => False, fun _ _ => False, ⟨⟨rfl, rfl, rfl⟩, rfl, (Evol.refl _ _ _).x, fun _ _ => rfl, fun _ _ h _ => h⟩, ⟨fun _ h => h.elim, fun _ _ h => h, fun _ _ h => h.elim, fun _ _ _ h => h.elim, fun _ _ h => h.elim⟩, fun _ h => by cases h⟩, ⟨[], rfl, List.nodup_nil, fun r hr => by cases hr⟩⟩
   simp only at hv hd
   by_cases ht : t < args.length
   · rw [List.getElem?_append_left ht] at hd
     rw [Array.getElem?_append_left (by omega)] at hv
     exact hrep t d v hd hv
   · rw [List.getElem?_append_right (by omega)] at hd
     have := List.mem_of_getElem? hd
     rw [List.mem_replicate] at this
     rw [this.2]; exact .undef _
 let Rr : Ending → World → Prop := fun e w' => ∃ v r h' nx' own' ok' s', e = .returned v ∧ Post r h' nx' ∧ RH w' own' ok' s' h' ∧ Rep w' ok' s' v r ∧ Evol own ok w own' ok' w' ∧ nx ≤ nx' ∧ (∀ id, nx' ≤ id → s' id = none ∧ h' id = none) ∧ ∀ id, id < nx → s' id = s id
 show c.wpIn (FW none) 0 P (bodyPostM (FW none) 0 P fn Rr) _ _
 refine wpIn_mono (awp_sound (rd := none) c hokA (hw B) hr) ?_
 rintro e a' w' ⟨st, own', ok', s', hq, hr'⟩
 have fin : (∃ st', Weak st st' ∧ st'.nx = st.nx ∧ match resV P st' fn.results.toList with
     | some (c, vs) => c ∧ Post (retV vs) st'.h st'.nx
     | none => False) → LeavesInM (FW none) 0 P fn a'.tmps Rr a'.defers .returning w' := by
   rintro ⟨st', hwk, _, hq⟩
   obtain ⟨own', ok', s', hr'⟩ := hwk A own' ok' s' w' a' hA hr'
   split at hq
   case h_2 => exact hq.elim
   rename_i c vs hres
   obtain ⟨rs, h1, h2, h3⟩ := hr'.df
   obtain ⟨X, kX, ⟨⟨hb1, _, _⟩, hb2, hev, hs, hctl⟩, _, _⟩ := hr'.amb
   rw [h1]
   refine leavesM rs w' h2 (fun r hr => (h3 r hr).2) fun w'' hsame hI => ?_
   obtain ⟨v, k1, k2⟩ := results_sound hr' hres hq.1 hsame
   refine ⟨v, k1, v, _, st'.h, st'.nx, own', ok', s', rfl, hq.2, hr'.rh.wsame hsame, k2, ?_, by rw [← hb2]; exact hr'.lm, hr'.fr, hs⟩
   exact hI (fun x => Evol own ok w own' ok' x) ⟨hev.os, hev.tape, hev.output, hev.size, hev.unch, hev.ownn, hev.okk, hev.okc, hev.okn, hev.shape, hctl⟩ (fun x r o hr hx ho => hx.putCtl (by have := (h3 r hr).1; rw [hb1] at this; exact this) ho rfl rfl)
 cases e with
 | normal => exact fin hq
 | ret => exact fin hq
 | _ => exact hq.elim
theorem callsTo_of_callH {g : FuncId} {args : List V} {r : V} (hp : Pu r) (h : CallH P g args (fun _ => none) 0 fun r' _ _ => r' = r) : CallsTo P g args r := by
 intro w ok vals hok hgl hsz hrep
 have hrh : RH w (fun _ => False) ok (fun _ => none) (fun _ => none) := ⟨hok, fun b hb => hb.elim, (fun id B hB => by cases hB), (fun id b hb => by cases hb), (fun id1 id2 b1 b2 B h1 => by cases h1), hgl⟩
 refine CallsIn.mono (h w _ ok _ vals hrh (fun id _ => ⟨rfl, rfl⟩) hsz hrep) ?_
 rintro e w' ⟨v, r', h', nx', own', ok', s', rfl, rfl, g1, g2, g3, g4, g5, g6⟩
 exact ⟨v, own', ok', rfl, g3, g1.okw, g2.pu hp⟩
end
end Go.Aw
end
section
namespace Go.Aw
open Go.RowKit
def RetI (Ys : List (List V)) : Exit → St → Prop
 | .normal, st | .ret, st => st.gh.stop = false → st.gh.n = Ys.length
 | _, _ => False
theorem iterTo_of_awp {P : Program} {g : FuncId} {fn : Func} {c : Code} {args : Nat → List V} {h0 : Hp} {nx0 : Nat} {Ys : List (List V)} (hf : P.funcs[g]? = some fn) (hb : fn.body = some c) (hres : fn.results = #[]) (hn : ∀ l, (args l).length ≤ fn.ntmps)
   (hw : ∀ (base : Base) l, awp P c (RetI Ys) { tmps := args l ++ List.replicate (fn.ntmps - (args l).length) .undef, h := h0, nx := nx0, gh := { base := base, lim := 0, yl := l, ys := Ys } }) : IterTo P g args h0 nx0 Ys := by
 intro E l w X kX ok own0 s0 base vals henv hbn hbm hE hsep0 hrh hfr hsz hreps
 let B : Base := ⟨w.heap.size, fun b => own0 b ∨ w.heap.size ≤ b, fun b hb => .inr hb⟩
 have hBm : ∀ b, B.may b → base.may b := fun b hb => by
   rcases hb with hb | hb
   · exact hbm b hb
   · exact base.up b (Nat.le_trans hbn hb)
 let A : Amb := fun gh own ok' X kX s w' => (gh.base = B ∧ gh.yl = l ∧ gh.ys = Ys ∧ gh.inr = false) ∧ E gh.n gh.stop X kX w' ∧ (∀ b, own b → B.may b) ∧ w.heap.size ≤ w'.heap.size ∧ ∀ b o, ok' b o → ok b o ∨ B.may b
 have hA : AmbOk P A none := by
   refine ⟨?_, ?_, ?_, ?_, fun gh own1 ok1 X kX s1 w1 h1 => ⟨fun _ => rfl, fun h => by rw [h1.1.2.2.2] at h; cases h⟩, fun gh own1 ok1 X kX s1 w1 h1 => by rw [h1.1.1]; exact h1.2.2.2.1, fun gh own1 ok1 X kX s1 w1 h1 b hb => by rw [h1.1.1]; exact h1.2.2.1 b hb, fun gh own1 ok1 X kX s1 w1 own2 h1 hb => ⟨h1.1, h1.2.1, fun b h => h1.2.2.1 b (hb b h), h1.2.2.2⟩⟩
   · intro gh own1 ok1 X kX s1 w1 own2 ok2 s2 w2 ⟨h1, h2, h3, h4, h5⟩ he hd hk hs
     refine ⟨h1, henv.stab _ _ _ _ _ _ _ _ _ _ h2 he.x (fun b hb => ⟨hd b hb, hBm b (h3 b hb)⟩) hk (he.kept' _), fun b hb => ?_, Nat.le_trans h4 he.size, fun b o hb => ?_⟩
     · rcases he.ownn b hb with h | h
       · exact h3 b h
       · exact .inr (by omega)
     · rcases he.okn b o hb with h | h | h
       · exact h5 b o h
       · exact .inr (h3 b h)
       · exact .inr (.inr (by omega))
   · intro gh own1 ok1 X kX s1 w1 o2 k2 o2' k2' w2 ⟨h1, h2, h3, h4, h5⟩ he hd hk hc _
     exact ⟨h1, henv.stab _ _ _ _ _ _ _ _ _ _ h2 he (fun b hb => ⟨(hd b hb).2.1, hBm b (by have := (hd b hb).2.2; rw [h1.1] at this; exact this)⟩) (fun b o hb => hk b o (.inr hb)) (hc.mono (by rw [h1.1]; exact hbn)), h3, Nat.le_trans h4 he.size, h5⟩
   · intro gh own1 ok1 X kX s1 w1 ok2 ⟨h1, h2, h3, h4, h5⟩ hb2
     exact ⟨h1, h2, h3, h4, fun b o hb => hb.elim (h5 b o) fun h => .inr (by have := hb2 b o h; rw [h1.1] at this; exact this)⟩
   · intro gh own1 ok1 X kX s1 w1 vals ys ⟨⟨a1, a2, a3, a4⟩, h2, h3, h4, h5⟩ hsep hokw hst hys hsz' hrep
     rw [a3] at hys
     rw [hst] at h2
     obtain ⟨g', tmps, asg, body, k1, k2⟩ := henv.yld gh.n X kX w1 ok1 vals ys h2 hys hokw hsep.ok_ (fun b o hb => (h5 b o hb).imp id (hBm b)) hsz' hrep
     refine ⟨g', tmps, asg, body, by rw [a2]; exact k1, RoundIn.mono (show RoundIn (FW none) 0 P gh.yl g' tmps asg body w1 _ from by rw [a2]; exact k2) ?_⟩
     rintro e w' ⟨b, X', kX', rfl, k3, k4, k5, k6⟩
     exact ⟨b, X', kX', rfl, ⟨⟨a1, a2, a3, a4⟩, k3, h3, Nat.le_trans h4 k4.size, h5⟩, k4, k5, k6⟩
 refine callsIn_of_wp_marks hf hb trivial ?_
 let Rr : Ending → World → Prop := fun e w' => ∃ v n b X' kX', e = .returned v ∧ E n b X' kX' w' ∧ (b = false → n = Ys.length)
 show c.wpIn (FW none) 0 P (bodyPostM (FW none) 0 P fn Rr) _ _
 have hr : R A own0 ok s0 { tmps := args l ++ List.replicate (fn.ntmps - (args l).length) .undef, h := h0, nx := nx0, gh := { base := B, lim := 0, yl := l, ys := Ys } } w { tmps := vals ++ Array.replicate (fn.ntmps - vals.size) undef, defers := [] } := by
   refine ⟨hrh, by simp [hsz], fun t v d hv hd => ?_, hfr, Nat.zero_le _, ⟨X, kX, ⟨⟨rfl, rfl, rfl, rfl⟩, hE, fun b hb => .inl hb, Nat.le_refl _, fun b o hb => .inl hb⟩, hsep0, fun r h => by cases h⟩, ⟨[], rfl, List.nodup_nil, fun r h => by cases h⟩⟩
   simp only at hv hd
   by_cases ht : t < (args l).length
   · rw [List.getElem?_append_left ht] at hd
     rw [Array.getElem?_append_left (by omega)] at hv
     exact hreps t d v hd hv
   · rw [List.getElem?_append_right (by omega)] at hd
     have := List.mem_of_getElem? hd
     rw [List.mem_replicate] at this
     rw [this.2]; exact .undef _
 refine wpIn_mono (awp_sound (rd := none) c hA (hw B l) hr) ?_
 rintro e a' w' ⟨st, own', ok', s', hq, hr'⟩
 have fin : (st.gh.stop = false → st.gh.n = Ys.length) → LeavesInM (FW none) 0 P fn a'.tmps Rr a'.defers .returning w' := by
   intro hq
   obtain ⟨rs, h1, h2, h3⟩ := hr'.df
   obtain ⟨X', kX', ⟨⟨a1, a2, a3, a4⟩, k1, k2, k3, k4⟩, hsep, hm⟩ := hr'.amb
   have hds := h1
   rw [h1]
   have hbr : ∀ r ∈ rs, w.heap.size ≤ r := fun r hr => by have := (h3 r hr).1; rw [a1] at this; exact this
   refine leavesM rs w' h2 (fun r hr => (h3 r hr).2) fun w'' hsame hI => ?_
   obtain ⟨v, j1, j2⟩ := results_sound hr' (c := True) (vs := []) (by rw [hres]; rfl) trivial hsame
   refine ⟨v, j1, v, st.gh.n, st.gh.stop, X', kX', rfl, ?_, hq⟩
   refine (hI (fun x => E st.gh.n st.gh.stop X' kX' x ∧ ∀ b o, kX' b o → ∃ u, x.cell? ⟨b, o, none⟩ = some u) ⟨k1, hsep.kw⟩ (fun x r o hr hx ho => ?_)).1
   have hs := Wsame.put (o' := .deferred none) ho rfl rfl
   refine ⟨henv.stab _ _ _ _ _ (fun b => b = r) (fun _ _ => False) _ _ _ hx.1 (EvolX.ctl ho rfl rfl (fun b => b = r) (fun _ _ => False) rfl) (fun b hb => ?_) (fun b o' hb he => ?_) (CtlKept.put (Nat.le_trans hbn (hbr r hr))), fun b o' hb => by rw [hs.cell]; exact hx.2 b o' hb⟩
   · subst hb
     exact ⟨hm b (by rw [hds]; exact List.mem_map_of_mem hr), base.up b (Nat.le_trans hbn (hbr b hr))⟩
   · subst he
     obtain ⟨u, hu⟩ := hx.2 b o' hb
     simp [World.cell?, ho] at hu
 cases e with
 | normal => exact fin hq
 | ret => exact fin hq
 | _ => exact hq.elim
end Go.Aw
end
section
namespace Go.Aw
open Go.RowKit
def hget (i : Nat) : List (Nat × Option Blk) → Option (Option Blk)
 | [] => none
 | (j, b) :: r => if i = j then some b else hget i r
def hset (i : Nat) (b : Option Blk) : List (Nat × Option Blk) → List (Nat × Option Blk)
 | [] => [(i, b)]
 | (j, c) :: r => if i = j then (i, b) :: r else (j, c) :: hset i b r
def hpOf (B : Hp) (l : List (Nat × Option Blk)) : Hp := fun i => match hget i l with
 | some b => b
 | none => B i
theorem hget_hset (i j : Nat) (b : Option Blk) : ∀ l, hget i (hset j b l) = if i = j then some b else hget i l := by
 intro l
 induction l with
 | nil => simp [hset, hget]
 | cons x r ih =>
   obtain ⟨k, c⟩ := x
   simp only [hset]
   by_cases h : j = k
   · subst h; simp only [if_true, hget]; split <;> simp_all
   · simp only [if_neg h, hget, ih]
     by_cases h1 : i = k
     · subst h1; simp [Ne.symm h]
     · simp [h1]
theorem upd_hpOf (B : Hp) (l : List (Nat × Option Blk)) (i : Nat) (b : Option Blk) : upd (hpOf B l) i b = hpOf B (hset i b l) := by
 funext j
 simp only [upd, hpOf, hget_hset]
 split <;> rfl
theorem put_mk (l : List V) (h : Hp) (nx : Nat) (gh : Gh) (d : Option Tmp) (v : V) : St.put ⟨l, h, nx, gh⟩ d v = ⟨putT l d v, h, nx, gh⟩ := by cases d <;> rfl
def hsets : Wr → List (Nat × Option Blk) → List (Nat × Option Blk)
 | [], l => l
 | (i, b) :: r, l => hsets r (hset i b l)
theorem applyWr_hpOf (B : Hp) : ∀ (wr : Wr) (l : List (Nat × Option Blk)), applyWr (hpOf B l) wr = hpOf B (hsets wr l)
 | [], _ => rfl
 | (i, b) :: r, l => by rw [applyWr, upd_hpOf, applyWr_hpOf B r]; rfl
end Go.Aw
end
section
namespace Go.Aw
open Go.RowKit
inductive Ren (ρ : Nat → Nat) (m : Nat) : V → V → Prop
 | any (v : V) : Ren ρ m .undef v
 | lit (v : Value) : Ren ρ m (.lit v) (.lit v)
 | pu (v : V) (h : Pu v) : Ren ρ m v v
 | nil (id k : Nat) (ex : Bool) : Ren ρ m (.os id k 0 ex) (.lit (.slice none 0 0))
 | nilsl (k : Nat) (ex : Bool) : Ren ρ m (.sl k [] ex) (.lit (.slice none 0 0))
 | ref (id id' k i off : Nat) (h : ρ id = id') (hm : id < m) : Ren ρ m (.ref id k i off) (.ref id' k i off)
 | os (id id' k n : Nat) (ex ex' : Bool) (h : ρ id = id') (hm : id < m) (he : ex = true → ex' = true) : Ren ρ m (.os id k n ex) (.os id' k n ex')
 | agg (cs cs' : List V) (hl : cs.length = cs'.length) (hc : ∀ (j : Nat) (d d' : V), cs[j]? = some d → cs'[j]? = some d' → Ren ρ m d d') : Ren ρ m (.agg cs) (.agg cs')
 | tup (cs cs' : List V) (hl : cs.length = cs'.length) (hc : ∀ (j : Nat) (d d' : V), cs[j]? = some d → cs'[j]? = some d' → Ren ρ m d d') : Ren ρ m (.tup cs) (.tup cs')
 | mp (id id' : Nat) (h : ρ id = id') (hm : id < m) : Ren ρ m (.mp id) (.mp id')
 | fn (f : Fn) (a a' b b' : List V) (h1 : a.length = a'.length) (h2 : b.length = b'.length) (c1 : ∀ (j : Nat) (d d' : V), a[j]? = some d → a'[j]? = some d' → Ren ρ m d d') (c2 : ∀ (j : Nat) (d d' : V), b[j]? = some d → b'[j]? = some d' → Ren ρ m d d') : Ren ρ m (.fn f a b) (.fn f a' b')
inductive RenL (ρ : Nat → Nat) (m : Nat) : List V → List V → Prop
 | nil : RenL ρ m [] []
 | cons (d d' : V) (cs cs' : List V) (h : Ren ρ m d d') (hr : RenL ρ m cs cs') : RenL ρ m (d :: cs) (d' :: cs')
 | pu (cs : List V) (h : ∀ c ∈ cs, Pu c) : RenL ρ m cs cs
inductive RenE (ρ : Nat → Nat) (m : Nat) : List (List V) → List (List V) → Prop
 | nil : RenE ρ m [] []
 | cons (d d' : List V) (cs cs' : List (List V)) (h : RenL ρ m d d') (hr : RenE ρ m cs cs') : RenE ρ m (d :: cs) (d' :: cs')
 | pu (cs : List (List V)) (h : ∀ e ∈ cs, ∀ c ∈ e, Pu c) : RenE ρ m cs cs
section
variable {ρ : Nat → Nat} {m : Nat}
theorem RenL.spec {a b : List V} (h : RenL ρ m a b) : a.length = b.length ∧ ∀ (j : Nat) (d d' : V), a[j]? = some d → b[j]? = some d' → Ren ρ m d d' := by
 induction h with
 | nil => exact ⟨rfl, fun j d d' h => by cases h⟩
 | cons d d' cs cs' h hr ih =>
   refine ⟨by simp [ih.1], fun j x x' hx hx' => ?_⟩
   cases j with
   | zero => simp at hx hx'; subst hx hx'; exact h
   | succ j => exact ih.2 j x x' (by simpa using hx) (by simpa using hx')
 | pu cs h => exact ⟨rfl, fun j x x' hx hx' => by rw [hx] at hx'; cases hx'; exact .pu _ (h _ (List.mem_of_getElem? hx))⟩
theorem RenE.spec {a b : List (List V)} (h : RenE ρ m a b) : a.length = b.length ∧ ∀ (j : Nat) (d d' : List V), a[j]? = some d → b[j]? = some d' → RenL ρ m d d' := by
 induction h with
 | nil => exact ⟨rfl, fun j d d' h => by cases h⟩
 | cons d d' cs cs' h hr ih =>
   refine ⟨by simp [ih.1], fun j x x' hx hx' => ?_⟩
   cases j with
   | zero => simp at hx hx'; subst hx hx'; exact h
   | succ j => exact ih.2 j x x' (by simpa using hx) (by simpa using hx')
 | pu cs h => exact ⟨rfl, fun j x x' hx hx' => by rw [hx] at hx'; cases hx'; exact .pu _ (h _ (List.mem_of_getElem? hx))⟩
variable {w : World} {ok : Nat → Nat → Prop} {s s' : Nat → Option Nat}
theorem Rep.ren {d' d : V} (hp : Ren ρ m d' d) (hs : ∀ id B, id < m → s (ρ id) = some B → s' id = some B) : ∀ {v : Value}, Rep w ok s v d → Rep w ok s' v d' := by
 induction hp with
 | any d => intro v _; exact .undef v
 | lit u => intro v hv; cases hv; exact .lit _ (by assumption)
 | pu d h => intro v hv; exact hv.pu h
 | nil id k ex => intro v hv; cases hv; exact .os0 id k ex none
 | nilsl k ex => intro v hv; cases hv; exact .sl none 0 0 k [] ex (fun _ _ => Go.undef) rfl (Nat.le_refl _) (fun _ => rfl) (fun i j hi => absurd hi (by omega)) (fun e he => by cases he) (fun i j e d hi => by cases hi)
 | mp id id' h hm => intro v hv; subst h; cases hv with | mp _ B hB => exact .mp _ B (hs _ _ hm hB)
 | ref id id' k i off h hm => intro v hv; subst h; cases hv with | ref _ _ _ _ B hB => exact .ref _ _ _ _ B (hs _ _ hm hB)
 | os id id' k n ex ex' h hm he =>
   intro v hv; subst h
   cases hv with
   | os0 _ _ _ a => exact .os0 _ _ _ a
   | os _ _ _ _ B cap ty sz hB hn hex hsh hcap => exact .os _ _ _ _ B cap ty sz (hs _ _ hm hB) hn (fun h => hex (he h)) hsh hcap
 | agg cs cs' hl hc ih =>
   intro v hv
   cases hv with
   | agg vs _ hl' hcs =>
     refine .agg vs cs (by omega) fun i d v hd hv => ?_
     have hi : i < cs'.length := by have := (List.getElem?_eq_some_iff.1 hd).1; omega
     exact ih i d _ hd (List.getElem?_eq_getElem hi) (hcs i _ v (List.getElem?_eq_getElem hi) hv)
 | tup cs cs' hl hc ih =>
   intro v hv
   cases hv with
   | tup vs _ hl' hcs =>
     refine .tup vs cs (by omega) fun i d v hd hv => ?_
     have hi : i < cs'.length := by have := (List.getElem?_eq_some_iff.1 hd).1; omega
     exact ih i d _ hd (List.getElem?_eq_getElem hi) (hcs i _ v (List.getElem?_eq_getElem hi) hv)
 | fn f a a' b b' h1 h2 c1 c2 ih1 ih2 =>
   intro v hv
   cases hv with
   | fn _ vs us _ _ g1 g2 k1 k2 =>
     refine .fn f vs us a b (by omega) (by omega) (fun i d v hd hv => ?_) (fun i d v hd hv => ?_)
     · have hi : i < a'.length := by have := (List.getElem?_eq_some_iff.1 hd).1; omega
       exact ih1 i d _ hd (List.getElem?_eq_getElem hi) (k1 i _ v (List.getElem?_eq_getElem hi) hv)
     · have hi : i < b'.length := by have := (List.getElem?_eq_some_iff.1 hd).1; omega
       exact ih2 i d _ hd (List.getElem?_eq_getElem hi) (k2 i _ v (List.getElem?_eq_getElem hi) hv)
structure RenH (ρ : Nat → Nat) (m nx lim : Nat) (h' h : Hp) : Prop where
 low : ∀ id, id < lim → ρ id = id
 row : ∀ id b', h' id = some b' → id < m ∧ (nx ≤ ρ id ∧ 0 < b'.k ∧ b'.es = [] ∨ ∃ b, h (ρ id) = some b ∧ b'.k = b.k ∧ b'.ty = b.ty ∧ b'.mode = b.mode ∧ RenE ρ m b'.es b.es)
 inj : ∀ id1 id2 b1 b2, h' id1 = some b1 → h' id2 = some b2 → ρ id1 < nx → ρ id1 = ρ id2 → id1 = id2
theorem Weak.ren (ρ : Nat → Nat) {tm tm' : List V} {h h' : Hp} {nx nx' : Nat} {gh : Gh} (hl : gh.lim ≤ nx') (ht : RenL ρ nx' tm' tm) (hh : RenH ρ nx' nx gh.lim h' h) :
   Weak ⟨tm, h, nx, gh⟩ ⟨tm', h', nx', gh⟩ := by
 intro A own ok s w a hA hr
 let s' : Nat → Option Nat := fun id => if id < nx' then s (ρ id) else none
 have hs : ∀ id B, id < nx' → s (ρ id) = some B → s' id = some B := fun id B hid hB => by simp only [s', if_pos hid]; exact hB
 have hs2 : ∀ id B, s' id = some B → id < nx' ∧ s (ρ id) = some B := fun id B hB => by
   simp only [s'] at hB
   split at hB
   · exact ⟨by assumption, hB⟩
   · cases hB
 have hfr : ∀ id B, s id = some B → id < nx := fun id B hB => by
   rcases Nat.lt_or_ge id nx with h1 | h1
   · exact h1
   · rw [(hr.fr id h1).1] at hB; cases hB
 have hrr := hr.rh
 have hsz := hr.sz
 simp only at hsz hrr
 refine ⟨own, ok, s', ⟨⟨hrr.okw, hrr.ownw, fun id B hB => hrr.sw _ _ (hs2 id B hB).2, fun id b' hb' => ?_, fun id1 id2 b1 b2 B g1 g2 m1 m2 e1 e2 => ?_, hrr.gl⟩, by rw [hsz]; exact ht.spec.1.symm, fun t v d hv hd => ?_, fun id hid => ⟨?_, ?_⟩, hl, ?_, hr.df⟩⟩
 · obtain ⟨hid, hrow⟩ := hh.row id b' hb'
   rcases hrow with ⟨hv, hk, he⟩ | ⟨b, hb, hk, hty, hm, he⟩
   · have hno : ∀ B, s' id = some B → False := fun B hB => by have := hfr _ _ (hs2 id B hB).2; omega
     exact ⟨hk, fun e h => (by rw [he] at h; cases h), fun _ => he, fun B hB => (hno B hB).elim, fun B hB => (hno B hB).elim, fun B hB => (hno B hB).elim, fun B hB => (hno B hB).elim, fun B hB => (hno B hB).elim, fun B hB => (hno B hB).elim, fun _ _ => he, fun B hB => (hno B hB).elim⟩
   · have hbk := hrr.blk _ _ hb
     obtain ⟨el, ei⟩ := he.spec
     refine ⟨by rw [hk]; exact hbk.pos, fun e h => ?_, fun h => ?_, fun B hB hmm => hbk.own B (hs2 id B hB).2 (by rw [← hm]; exact hmm), fun B hB hnm => ?_, fun B hB i j e d hi hj => ?_, fun B hB hmm => hbk.fwr B (hs2 id B hB).2 (by rw [← hm]; exact hmm), fun B hB hmm o => ?_, fun B hB hmm o ho => ?_, fun m' hmm => (by have := hbk.mpe m' (by rw [← hm]; exact hmm); rw [this] at el; exact List.eq_nil_of_length_eq_zero (by simpa using el)), fun B hB m' hmm => hbk.map B (hs2 id B hB).2 m' (by rw [← hm]; exact hmm)⟩
     · obtain ⟨i, hi, rfl⟩ := List.getElem_of_mem h
       have hi' : i < b.es.length := by omega
       rw [hk, (ei i _ _ (List.getElem?_eq_getElem hi) (List.getElem?_eq_getElem hi')).spec.1]
       exact hbk.len _ (List.getElem_mem hi')
     · have : s (ρ id) = none := by simpa [s', hid] using h
       have := hbk.virt this
       rw [this] at el
       exact List.eq_nil_of_length_eq_zero (by simpa using el)
     · obtain ⟨sz, g1, g2⟩ := hbk.shape B (hs2 id B hB).2 (by rw [← hm]; exact hnm)
       exact ⟨sz, by rw [hty]; exact g1, by rw [hk, el]; exact g2⟩
     · have hi' : i < b.es.length := by have := (List.getElem?_eq_some_iff.1 hi).1; omega
       obtain ⟨jl, jr⟩ := (ei i _ _ hi (List.getElem?_eq_getElem hi')).spec
       have hj' : j < (b.es[i]).length := by have := (List.getElem?_eq_some_iff.1 hj).1; omega
       obtain ⟨u, g1, g2⟩ := hbk.cells B (hs2 id B hB).2 i j _ _ (List.getElem?_eq_getElem hi') (List.getElem?_eq_getElem hj')
       exact ⟨u, by rw [hk]; exact g1, g2.ren (jr j _ _ hj (List.getElem?_eq_getElem hj')) hs⟩
     · rw [hk, el]; exact hbk.ffz B (hs2 id B hB).2 (by rw [← hm]; exact hmm) o
     · rw [hk, el] at ho; exact hbk.fold B (hs2 id B hB).2 (by rw [← hm]; exact hmm) o ho
 · obtain ⟨l1, r1⟩ := hh.row id1 b1 g1
   obtain ⟨l2, r2⟩ := hh.row id2 b2 g2
   have k1 := hfr _ _ (hs2 _ _ e1).2
   have k2 := hfr _ _ (hs2 _ _ e2).2
   rcases r1 with ⟨r1, _⟩ | ⟨c1, q1, _, _, q1m, _⟩
   · omega
   rcases r2 with ⟨r2, _⟩ | ⟨c2, q2, _, _, q2m, _⟩
   · omega
   exact hh.inj id1 id2 b1 b2 g1 g2 k1 (hrr.exc _ _ c1 c2 B q1 q2 (by rw [← q1m]; exact m1) (by rw [← q2m]; exact m2) (hs2 _ _ e1).2 (hs2 _ _ e2).2)
 · have ht' : t < tm.length := by have := (Array.getElem?_eq_some_iff.1 hv).1; omega
   exact (hr.tm t v _ hv (List.getElem?_eq_getElem ht')).ren (ht.spec.2 t d _ hd (List.getElem?_eq_getElem ht')) hs
 · simp only at hid; simp only [s']; rw [if_neg (by omega)]
 · cases hb : h' id with
   | none => exact hb
   | some b => have := (hh.row id b hb).1; simp only at hid; omega
 · refine R.amb_step hA hr.amb (Evol.refl _ _ _) fun id hid => ?_
   simp only at hid
   simp only [s']
   rw [if_pos (by omega), hh.low id hid]
theorem Weak.snap (ids : List Nat) {tm tm' : List V} {h : Hp} {nx : Nat} {gh : Gh} (hl : tm'.length = tm.length) (ht : ∀ (t : Nat) (d d' : V), tm[t]? = some d → tm'[t]? = some d' → d' = d ∨ (Pur true (frz ids h) d d' ∧ Pu d')) :
   Weak ⟨tm, h, nx, gh⟩ ⟨tm', frz ids h, nx, gh⟩ := by
 intro A own ok s w a hA hr
 have hsz := hr.sz
 simp only at hsz
 obtain ⟨ok', g1, g2⟩ := hr.rh.frzAll ids
 refine ⟨own, ok', s, ⟨g1, by rw [hsz]; exact hl.symm, fun t v d hv hd => ?_, fun id hid => ⟨(hr.fr id hid).1, frz_none (hr.fr id hid).2⟩, hr.lm, R.amb_step hA hr.amb g2 (fun _ _ => rfl), hr.df⟩⟩
 have ht' : t < tm.length := by have := (Array.getElem?_eq_some_iff.1 hv).1; omega
 have h0 := (hr.tm t v _ hv (List.getElem?_eq_getElem ht')).evol g2 (fun _ _ h => h)
 rcases ht t _ d (List.getElem?_eq_getElem ht') hd with rfl | ⟨hp, hpu⟩
 · exact h0
 · refine ((hp.rep g1 h0).pu hpu (s' := s)).keep (fun b o hb => ⟨?_, rfl⟩) (fun _ _ _ h => h) (fun _ _ h => h)
   rcases hb with hb | ⟨hb, _⟩
   · exact hb
   · cases hb
end
end Go.Aw
end
section
namespace Go.Aw
open Go.RowKit
theorem Ren.int (ρ : Nat → Nat) (m : Nat) (k : IntKind) {a b : Int} (h : a = b) : Ren ρ m (.lit (.int k a)) (.lit (.int k b)) := h ▸ .lit _
theorem Ren.bool (ρ : Nat → Nat) (m : Nat) {a b : Bool} (h : a = b) : Ren ρ m (.lit (.bool a)) (.lit (.bool b)) := h ▸ .lit _
theorem Ren.sl (ρ : Nat → Nat) (m k : Nat) {a b : List (List V)} {e : Bool} (h : a = b) (hp : ∀ x ∈ a, ∀ c ∈ x, Pu c) : Ren ρ m (.sl k a e) (.sl k b e) := h ▸ .pu _ (by simpa using hp)
theorem Ren.aggL (ρ : Nat → Nat) (m : Nat) {a b : List V} (h : RenL ρ m a b) : Ren ρ m (.agg a) (.agg b) := .agg _ _ h.spec.1 h.spec.2
theorem Ren.fnL (ρ : Nat → Nat) (m : Nat) {f : Fn} {a b c d : List V} (h : RenL ρ m a b) (h2 : RenL ρ m c d) : Ren ρ m (.fn f a c) (.fn f b d) := .fn _ _ _ _ _ h.spec.1 h2.spec.1 h.spec.2 h2.spec.2
theorem Ren.osN (ρ : Nat → Nat) (m : Nat) {id id' k n n' : Nat} {ex ex' : Bool} (hn : n = n') (h : ρ id = id') (hm : id < m) (he : ex = true → ex' = true) : Ren ρ m (.os id k n ex) (.os id' k n' ex') := hn ▸ .os _ _ _ _ _ _ h hm he
inductive RowsRen (ρ : Nat → Nat) (m nx : Nat) (h : Hp) : List (Nat × Option Blk) → Prop
 | nil : RowsRen ρ m nx h []
 | row (id k : Nat) (es es' : List (List V)) (ty : TypeId) (md : Mode') (l : List (Nat × Option Blk)) (hid : id < m) (hb : h (ρ id) = some ⟨k, es', ty, md⟩) (he : RenE ρ m es es') (hr : RowsRen ρ m nx h l) : RowsRen ρ m nx h ((id, some ⟨k, es, ty, md⟩) :: l)
 | virt (id k : Nat) (ty : TypeId) (md : Mode') (l : List (Nat × Option Blk)) (hid : id < m) (hb : nx ≤ ρ id) (hk : 0 < k) (hr : RowsRen ρ m nx h l) : RowsRen ρ m nx h ((id, some ⟨k, [], ty, md⟩) :: l)
 | gone (id : Nat) (l : List (Nat × Option Blk)) (hr : RowsRen ρ m nx h l) : RowsRen ρ m nx h ((id, none) :: l)
theorem RowsRen.spec {ρ : Nat → Nat} {m nx : Nat} {h : Hp} {l : List (Nat × Option Blk)} (hr : RowsRen ρ m nx h l) : ∀ id b', hget id l = some (some b') → id < m ∧ (nx ≤ ρ id ∧ 0 < b'.k ∧ b'.es = [] ∨ ∃ b, h (ρ id) = some b ∧ b'.k = b.k ∧ b'.ty = b.ty ∧ b'.mode = b.mode ∧ RenE ρ m b'.es b.es) := by
 induction hr with
 | nil => intro id b' h; cases h
 | row id0 k es es' ty md l hid hb he hr ih =>
   intro id b' hg
   simp only [hget] at hg
   split at hg
   · rename_i e; subst e; cases hg; exact ⟨hid, .inr ⟨_, hb, rfl, rfl, rfl, he⟩⟩
   · exact ih id b' hg
 | virt id0 k ty md l hid hb hk hr ih =>
   intro id b' hg
   simp only [hget] at hg
   split at hg
   · rename_i e; subst e; cases hg; exact ⟨hid, .inl ⟨hb, hk, rfl⟩⟩
   · exact ih id b' hg
 | gone id0 l hr ih =>
   intro id b' hg
   simp only [hget] at hg
   split at hg
   · cases hg
   · exact ih id b' hg
def keysOf (l : List (Nat × Option Blk)) : List Nat := l.map (·.1)
def renInj (ρ : Nat → Nat) : List Nat → Bool
 | [] => true
 | i :: r => r.all (fun j => ρ i != ρ j || i == j) && renInj ρ r
theorem renInj_spec {ρ : Nat → Nat} : ∀ {l : List Nat}, renInj ρ l = true → ∀ i j, i ∈ l → j ∈ l → ρ i = ρ j → i = j := by
 intro l
 induction l with
 | nil => intro _ i j h; cases h
 | cons x r ih =>
   intro h i j hi hj he
   simp only [renInj, Bool.and_eq_true, List.all_eq_true, Bool.or_eq_true, bne_iff_ne, beq_iff_eq] at h
   rcases List.mem_cons.1 hi with e1 | hi'
   · rcases List.mem_cons.1 hj with e2 | hj'
     · rw [e1, e2]
     · subst e1
       rcases h.1 j hj' with h1 | h1
       · exact absurd he h1
       · exact h1
   · rcases List.mem_cons.1 hj with e2 | hj'
     · subst e2
       rcases h.1 i hi' with h1 | h1
       · exact absurd he.symm h1
       · exact h1.symm
     · exact ih h.2 i j hi' hj' he
theorem hget_key {i : Nat} {b : Option Blk} : ∀ {l : List (Nat × Option Blk)}, hget i l = some b → i ∈ keysOf l := by
 intro l
 induction l with
 | nil => intro h; cases h
 | cons x r ih =>
   obtain ⟨j, c⟩ := x
   intro h
   simp only [hget] at h
   split at h
   · rename_i e; subst e; simp [keysOf]
   · have := ih h; simp [keysOf] at this ⊢; exact .inr this
def renOf : List (Nat × Nat) → Nat → Nat
 | [], i => i
 | (a, b) :: r, i => if i = a then b else renOf r i
theorem renOf_low {lim : Nat} : ∀ {l : List (Nat × Nat)}, (l.all fun p => decide (lim ≤ p.1)) = true → ∀ i, i < lim → renOf l i = i := by
 intro l
 induction l with
 | nil => intro _ i _; rfl
 | cons x r ih =>
   obtain ⟨a, b⟩ := x
   intro h i hi
   simp only [List.all_cons, Bool.and_eq_true, decide_eq_true_eq] at h
   simp only [renOf]
   rw [if_neg (by omega)]
   exact ih h.2 i hi
theorem Weak.rows (ρl : List (Nat × Nat)) {tm tm' : List V} {h : Hp} {l' : List (Nat × Option Blk)} {nx nx' : Nat} {gh : Gh} (hl : gh.lim ≤ nx') (hlow : (ρl.all fun p => decide (gh.lim ≤ p.1)) = true) (ht : RenL (renOf ρl) nx' tm' tm)
   (hh : RowsRen (renOf ρl) nx' nx h l') (hi : renInj (renOf ρl) (keysOf l') = true) : Weak ⟨tm, h, nx, gh⟩ ⟨tm', hpOf (fun _ => none) l', nx', gh⟩ := by
 have key : ∀ id b', hpOf (fun _ => none) l' id = some b' → hget id l' = some (some b') := fun id b' hb => by
   simp only [hpOf] at hb
   split at hb
   · rename_i b hg; rw [hg, hb]
   · cases hb
 refine Weak.ren (renOf ρl) hl ht ⟨renOf_low hlow, fun id b' hb => hh.spec id b' (key id b' hb), fun id1 id2 b1 b2 h1 h2 _ he => ?_⟩
 exact renInj_spec hi _ _ (hget_key (key _ _ h1)) (hget_key (key _ _ h2)) he
def PuL (cs : List V) : Prop := ∀ c ∈ cs, Pu c
def PuE (es : List (List V)) : Prop := ∀ e ∈ es, PuL e
theorem PuL_nil : PuL [] ↔ True := by simp [PuL]
theorem PuL_cons (c : V) (cs : List V) : PuL (c :: cs) ↔ Pu c ∧ PuL cs := by simp [PuL]
theorem PuE_nil : PuE [] ↔ True := by simp [PuE]
theorem PuE_cons (e : List V) (es : List (List V)) : PuE (e :: es) ↔ PuL e ∧ PuE es := by simp [PuE]
theorem PuE_map {α : Type} (f : α → List V) (l : List α) : PuE (l.map f) ↔ ∀ x ∈ l, PuL (f x) := by simp [PuE]
theorem PuL_map {α : Type} (f : α → V) (l : List α) : PuL (l.map f) ↔ ∀ x ∈ l, Pu (f x) := by simp [PuL]
theorem PuE_append (a b : List (List V)) : PuE (a ++ b) ↔ PuE a ∧ PuE b := by simp [PuE, or_imp, forall_and]
theorem PuL_append (a b : List V) : PuL (a ++ b) ↔ PuL a ∧ PuL b := by simp [PuL, or_imp, forall_and]
theorem PuE.take {es : List (List V)} (h : PuE es) (n : Nat) : PuE (es.take n) := fun e he => h e (List.mem_of_mem_take he)
theorem PuE.drop {es : List (List V)} (h : PuE es) (n : Nat) : PuE (es.drop n) := fun e he => h e (List.mem_of_mem_drop he)
theorem Pu_lit_t (v : Value) : Pu (.lit v) ↔ True := by simp
theorem Pu_undef_t : Pu .undef ↔ True := by simp
theorem Pu_agg' (cs : List V) : Pu (.agg cs) ↔ PuL cs := Pu_agg cs
theorem Pu_sl' (k : Nat) (es : List (List V)) (ex : Bool) : Pu (.sl k es ex) ↔ PuE es := Pu_sl k es ex
theorem Pu_rp' (cs : List V) : Pu (.rp cs) ↔ PuL cs := Pu_rp cs
theorem Pu_fn' (f : Fn) (a b : List V) : Pu (.fn f a b) ↔ PuL a ∧ PuL b := Pu_fn f a b
theorem Pu_tup' (cs : List V) : Pu (.tup cs) ↔ PuL cs := Pu_tup cs
inductive PurI (fr : Bool) (h : Hp) : List V → List V → Prop
 | nil : PurI fr h [] []
 | cons (d d' : V) (l l' : List V) (hd : Pur fr h d d') (hl : PurI fr h l l') : PurI fr h (d :: l) (d' :: l')
 | pu (l : List V) (hp : ∀ c ∈ l, Pu c) : PurI fr h l l
inductive PurE (fr : Bool) (h : Hp) : List (List V) → List (List V) → Prop
 | nil : PurE fr h [] []
 | cons (d d' : List V) (l l' : List (List V)) (hd : PurI fr h d d') (hl : PurE fr h l l') : PurE fr h (d :: l) (d' :: l')
 | pu (l : List (List V)) (hp : ∀ e ∈ l, ∀ c ∈ e, Pu c) : PurE fr h l l
section
variable {fr : Bool} {h : Hp}
theorem PurI.spec {a b : List V} (hp : PurI fr h a b) : PurL fr h a b := by
 induction hp with
 | nil => exact ⟨rfl, fun i d d' h => by cases h⟩
 | cons d d' l l' hd hl ih =>
   refine ⟨by simp [ih.1], fun j x x' hx hx' => ?_⟩
   cases j with
   | zero => simp at hx hx'; subst hx hx'; exact hd
   | succ j => exact ih.2 j x x' (by simpa using hx) (by simpa using hx')
 | pu l hp => exact ⟨rfl, fun j x x' hx hx' => by rw [hx] at hx'; cases hx'; exact .pu _ (hp _ (List.mem_of_getElem? hx))⟩
theorem PurE.spec {a b : List (List V)} (hp : PurE fr h a b) : a.length = b.length ∧ ∀ (i : Nat) (e e' : List V), a[i]? = some e → b[i]? = some e' → PurL fr h e e' := by
 induction hp with
 | nil => exact ⟨rfl, fun i d d' h => by cases h⟩
 | cons d d' l l' hd hl ih =>
   refine ⟨by simp [ih.1], fun j x x' hx hx' => ?_⟩
   cases j with
   | zero => simp at hx hx'; subst hx hx'; exact hd.spec
   | succ j => exact ih.2 j x x' (by simpa using hx) (by simpa using hx')
 | pu l hp => exact ⟨rfl, fun j x x' hx hx' => by rw [hx] at hx'; cases hx'; exact ⟨rfl, fun i d d' h1 h2 => by rw [h1] at h2; cases h2; exact .pu _ (hp _ (List.mem_of_getElem? hx) _ (List.mem_of_getElem? h1))⟩⟩
theorem Pur.osR {id k n : Nat} {ex ex' : Bool} {es0 es : List (List V)} {ty : TypeId} {md : Mode'} (hb : h id = some ⟨k, es0, ty, md⟩) (hm : (!fr || md != .wr) = true) (hn : n ≤ es0.length) (hex' : ex' = true → ex = true) (he : PurE fr h (es0.take n) es) : Pur fr h (.os id k n ex) (.sl k es ex') := by
 obtain ⟨e1, e2⟩ := he.spec
 have el : es.length = n := by rw [← e1, List.length_take]; omega
 have at_ : ∀ (i : Nat) (e e' : List V), es0[i]? = some e → es[i]? = some e' → PurL fr h e e' := fun i e e' h1 h2 => e2 i e e' (by
   have := (List.getElem?_eq_some_iff.1 h2).1
   rw [List.getElem?_take, if_pos (by omega)]; exact h1) h2
 refine .os id k n ex ex' ⟨k, es0, ty, md⟩ es hex' hb rfl (fun h => by subst h; simpa using hm) hn el (fun i e e' h1 h2 => (at_ i e e' h1 h2).1) fun i j e e' d d' h1 h2 h3 h4 => (at_ i e e' h1 h2).2 j d d' h3 h4
theorem Pur.refR {id k i off : Nat} {es0 : List (List V)} {cs : List V} {ty : TypeId} {md : Mode'} (hb : h id = some ⟨k, es0, ty, md⟩) (hm : (!fr || md != .wr) = true) (hi : i < es0.length) (he : PurI fr h ((es0.getD i []).drop off) cs) : Pur fr h (.ref id k i off) (.rp cs) :=
 .ref id k i off ⟨k, es0, ty, md⟩ cs hb rfl (fun h => by subst h; simpa using hm) hi he.spec.1.symm fun j d d' h1 h2 => he.spec.2 j d d' h1 h2
theorem Pur.aggI {a b : List V} (he : PurI fr h a b) : Pur fr h (.agg a) (.agg b) := .agg _ _ he.spec.1 he.spec.2
theorem Pur.fnI {f : Fn} {a b c d : List V} (he : PurI fr h a b) (hf : PurI fr h c d) : Pur fr h (.fn f a c) (.fn f b d) := .fn _ _ _ _ _ he.spec.1 hf.spec.1 he.spec.2 hf.spec.2
end
section
variable {P : Program} {g : FuncId} {first cap args args' : List V} {dst : Option Tmp} {K : St → Prop} {tmps tmps' : List V} {h h' : Hp} {nx : Nat} {gh : Gh} {r : V}
theorem callA_closed (hc : CallsTo P g args' r) (hcl : Cl r) (hb : ∃ fn, P.funcs[g]? = some fn ∧ fn.body.isSome = true ∧ fn.name ≠ "runtime.NumGoroutine") (hp : PurI false h (first ++ args ++ cap) args') (ht : putT tmps dst r = tmps') (hk : K ⟨tmps', h, nx, gh⟩) :
   CallA P (.fn (.func g) first cap) args dst K ⟨tmps, h, nx, gh⟩ := .closed g first cap args args' dst K _ r hp.spec hc hcl hb (by rw [put_mk]; subst ht; exact hk)
theorem callA_frozen (ids : List Nat) (hc : CallsTo P g args' r) (hpu : Pu r) (hb : ∃ fn, P.funcs[g]? = some fn ∧ fn.body.isSome = true ∧ fn.name ≠ "runtime.NumGoroutine") (hh : frz ids h = h') (hp : PurI true h' (first ++ args ++ cap) args') (ht : putT tmps dst r = tmps') (hk : K ⟨tmps', h', nx, gh⟩) :
   CallA P (.fn (.func g) first cap) args dst K ⟨tmps, h, nx, gh⟩ := .frozen ids g first cap args args' dst K _ r (by rw [hh]; exact hp.spec) hc hpu hb (by rw [put_mk]; subst ht hh; exact hk)
theorem callA_shared (Post : V → Hp → Nat → Prop) (hc : CallH P g (first ++ args ++ cap) h nx Post) (hb : ∃ fn, P.funcs[g]? = some fn ∧ fn.body.isSome = true ∧ fn.name ≠ "runtime.NumGoroutine") (hk : ∀ r h' nx', Post r h' nx' → K ⟨putT tmps dst r, h', nx', gh⟩) :
   CallA P (.fn (.func g) first cap) args dst K ⟨tmps, h, nx, gh⟩ := .shared g first cap args dst K _ Post hc hb fun r h' nx' hp => by rw [put_mk]; exact hk r h' nx' hp
end
def frzB (b : Blk) : Blk := match b.mode with
 | .wr => { b with mode := .fz }
 | _ => b
def frzL (ids : List Nat) : List (Nat × Option Blk) → List (Nat × Option Blk)
 | [] => []
 | (i, b) :: r => (i, if ids.contains i then b.map frzB else b) :: frzL ids r
theorem hget_frzL (ids : List Nat) (i : Nat) : ∀ l, hget i (frzL ids l) = (hget i l).map fun b => if ids.contains i then b.map frzB else b := by
 intro l
 induction l with
 | nil => rfl
 | cons x r ih =>
   obtain ⟨j, b⟩ := x
   simp only [frzL, hget]
   by_cases h : i = j
   · subst h; simp
   · simp [h, ih]
theorem frz_hpOf (ids : List Nat) (l : List (Nat × Option Blk)) : frz ids (hpOf (fun _ => none) l) = hpOf (fun _ => none) (frzL ids l) := by
 funext i
 simp only [frz, hpOf, hget_frzL]
 cases hget i l with
 | none => simp
 | some b =>
   simp only [Option.map_some]
   by_cases h : i ∈ ids
   · simp only [h, if_true, List.contains_iff_mem]
     cases b with
     | none => rfl
     | some b => simp only [Option.map_some]; congr 1; unfold frzB; cases b.mode <;> simp
   · simp [h]
theorem resV_tmp {P : Program} {st : St} {t : Tmp} {r : List ResultVar} {c : Prop} {vs : List V} {v : V} (h : resV P st r = some (c, vs)) (hv : st.ev (.tmp t) = v) : resV P st (.tmp t :: r) = some (c, v :: vs) := by simp [resV, h, hv]
theorem setPs_out : ∀ (ts : List Tmp) (ds : List V) (tm : List V) (t : Tmp), t ∉ ts → (setPs ts ds tm)[t]? = tm[t]? := by
 intro ts
 induction ts with
 | nil => intro ds tm t _; simp [setPs]
 | cons x ts ih =>
   intro ds tm t ht
   cases ds with
   | nil => simp [setPs]
   | cons d ds =>
     simp only [setPs, List.zip_cons_cons, List.foldl_cons]
     have := ih ds (tm.set x d) t (fun h => ht (by simp [h]))
     simp only [setPs] at this
     rw [this, List.getElem?_set_ne (fun e => ht (by simp [e]))]
theorem setPs_len (ts : List Tmp) (ds tm : List V) : (setPs ts ds tm).length = tm.length := by
 unfold setPs
 generalize ts.zip ds = l
 induction l generalizing tm with
 | nil => rfl
 | cons p l ih => rw [List.foldl_cons, ih]; simp
theorem setPs_in : ∀ (ts : List Tmp) (ds : List V) (tm : List V), ts.Nodup → ts.length = ds.length → (∀ t ∈ ts, t < tm.length) → ∀ (i : Nat) (t : Tmp) (d : V), ts[i]? = some t → ds[i]? = some d → (setPs ts ds tm)[t]? = some d := by
 intro ts
 induction ts with
 | nil => intro ds tm _ _ _ i t d h; cases h
 | cons x ts ih =>
   intro ds tm hnd hl hlt i t d ht hd
   cases ds with
   | nil => simp at hl
   | cons y ds =>
     rw [List.nodup_cons] at hnd
     simp only [setPs, List.zip_cons_cons, List.foldl_cons]
     cases i with
     | zero =>
       simp at ht hd
       subst ht hd
       have := setPs_out ts ds (tm.set x y) x hnd.1
       simp only [setPs] at this
       rw [this, List.getElem?_set_self (hlt x (by simp))]
     | succ i =>
       have := ih ds (tm.set x y) hnd.2 (by simpa using hl) (fun t h => by simpa using hlt t (by simp [h])) i t d (by simpa using ht) (by simpa using hd)
       simpa only [setPs] using this
theorem resV_tmps {P : Program} {st : St} : ∀ (ts : List Tmp) (ds : List V), ts.length = ds.length → (∀ (i : Nat) (t : Tmp) (d : V), ts[i]? = some t → ds[i]? = some d → st.ev (.tmp t) = d) → resV P st (ts.map .tmp) = some (True, ds) := by
 intro ts
 induction ts with
 | nil => intro ds hl _; cases ds with
   | nil => rfl
   | cons _ _ => cases hl
 | cons t ts ih =>
   intro ds hl h
   cases ds with
   | nil => cases hl
   | cons d ds =>
     simp only [List.map_cons]
     exact resV_tmp (ih ds (by simpa using hl) fun i t d ht hd => h (i + 1) t d (by simpa using ht) (by simpa using hd)) (h 0 t d rfl rfl)
theorem retA_snap {P : Program} {fn : Func} {Post : V → Hp → Nat → Prop} {tm : List V} {h h' : Hp} {nx : Nat} {gh : Gh} (ids : List Nat) {ts : List Tmp} {ds ds' : List V} (hr : fn.results.toList = ts.map .tmp) (hnd : decide ts.Nodup = true) (hlt : (ts.all fun t => decide (t < tm.length)) = true)
   (hv : ts.map (fun t => tm.getD t .undef) = ds) (hh : frz ids h = h') (hp : PurI true h' ds ds') (hpu : PuL ds') (hP : Post (retV ds') h' nx) : RetA P fn Post .ret ⟨tm, h, nx, gh⟩ := by
 subst hh hv
 have hnd := of_decide_eq_true hnd
 have hlt : ∀ t ∈ ts, t < tm.length := fun t ht => of_decide_eq_true (List.all_eq_true.1 hlt t ht)
 obtain ⟨hl, hpp⟩ := hp.spec
 have hl' : ts.length = ds'.length := by rw [← hl]; simp
 have hin := setPs_in ts ds' tm hnd hl' hlt
 refine ⟨⟨setPs ts ds' tm, frz ids h, nx, gh⟩, Weak.snap ids (setPs_len _ _ _) (fun t d d' hd hd' => ?_), rfl, ?_⟩
 · by_cases ht : t ∈ ts
   · right
     obtain ⟨i, hi, rfl⟩ := List.getElem_of_mem ht
     have h1 := hin i _ _ (List.getElem?_eq_getElem hi) (List.getElem?_eq_getElem (show i < ds'.length by omega))
     rw [h1] at hd'
     have e1 : ds'[i]'(by omega) = d' := by simpa using hd'
     have h2 : (ts.map fun t => tm.getD t .undef)[i]? = some d := by
       rw [List.getElem?_map, List.getElem?_eq_getElem hi]
       simp only [Option.map_some, List.getD_eq_getElem?_getD, hd]; rfl
     rw [← e1]
     exact ⟨hpp i d _ h2 (List.getElem?_eq_getElem (by omega)), hpu _ (List.getElem_mem _)⟩
   · left
     rw [setPs_out _ _ _ _ ht, hd] at hd'
     cases hd'; rfl
 · rw [hr, resV_tmps ts ds' hl' fun i t d ht hd => by
     have := hin i t d ht hd
     simp only [St.ev, List.getD_eq_getElem?_getD, this]; rfl]
   exact ⟨trivial, hP⟩
end Go.Aw
end
section
attribute [go_sem] Nat.reduceAdd Nat.reduceSub Nat.reduceMul Nat.reduceEqDiff Nat.reduceLT Nat.reduceLeDiff Nat.reduceBEq Nat.reduceBNe Nat.reduceMod Nat.reduceDiv
attribute [go_sem] Int.reduceAdd Int.reduceSub Int.reduceMul Int.reduceNeg Int.reduceLT Int.reduceLE Int.reduceEq Int.reduceGT Int.reduceGE Int.reduceBEq Int.reduceBNe Int.reduceToNat reduceIte reduceDIte reduceCtorEq
namespace Go.Aw
open Go.RowKit
theorem bo : (∀ (p : Prop) [Decidable p], (decide p = true) = p) ∧ (∀ (p : Prop) [Decidable p], (decide p = false) ↔ ¬ p) ∧ (∀ a b : Bool, ((a && b) = true) = (a = true ∧ b = true)) ∧ (∀ a b : Bool, ((a || b) = true) = (a = true ∨ b = true)) ∧
   (∀ b : Bool, ((!b) = true) = (b = false)) ∧ (∀ b : Bool, ((!b) = false) = (b = true)) ∧ (∀ x y : Bool, (x && y) = false ↔ (x = true → y = false)) ∧ (∀ x y : Bool, (x || y) = false ↔ (x = false ∧ y = false)) ∧
   (∀ (α : Type) [BEq α] [LawfulBEq α] (a b : α), ((a != b) = true) ↔ a ≠ b) ∧ (∀ (α : Type) [BEq α] [LawfulBEq α] (a b : α), ((a == b) = true) ↔ a = b) ∧ (∀ (α : Type) [BEq α] [LawfulBEq α] (a b : α), ((a != b) = false) ↔ a = b) ∧
   (∀ (α : Type) [BEq α] [LawfulBEq α] (a b : α), ((a == b) = false) ↔ a ≠ b) ∧ (∀ (α : Type) (a b : α), (a ≠ b) = ¬ (a = b)) ∧ (∀ m n : Nat, ((m : Int) = n) ↔ m = n) ∧ (∀ m n : Nat, ((m : Int) < n) ↔ m < n) ∧ (∀ m n : Nat, ((m : Int) ≤ n) ↔ m ≤ n) ∧
   (∀ a b : Int, (¬ a < b) ↔ b ≤ a) ∧ (∀ a b : Int, (¬ a ≤ b) ↔ b < a) ∧ (∀ (α : Type) [LT α] (a b : α), (a > b) ↔ b < a) ∧ (∀ (α : Type) [LE α] (a b : α), (a ≥ b) ↔ b ≤ a) ∧ (∀ (p : Prop) [Decidable p], (¬ ¬ p) ↔ p) :=
 ⟨fun p _ => by simp, fun p _ => by simp, fun a b => by simp, fun a b => by simp, fun b => by simp, fun b => by simp, fun x y => by simp, fun x y => by simp, fun α _ _ a b => by simp, fun α _ _ a b => by simp, fun α _ _ a b => by simp,
   fun α _ _ a b => by simp, fun α a b => rfl, fun m n => Int.natCast_inj, fun m n => Int.ofNat_lt, fun m n => Int.ofNat_le, fun a b => Int.not_lt, fun a b => Int.not_le, fun α _ a b => Iff.rfl, fun α _ a b => Iff.rfl, fun p _ => Decidable.not_not⟩
def Req (c K : Prop) : Prop := c ∧ K
theorem Req_intro {c K : Prop} (h : c) (k : K) : Req c K := ⟨h, k⟩
@[go_sem] theorem Req_true {K : Prop} : Req True K = K := by simp [Req]
def evT (tm : List V) : Operand → V
 | .tmp t => tm.getD t .undef
 | .const v => ofVal v
 | .func f => .fn (.func f) [] []
 | .global g => match globT g with
   | some vs => .rp (vs.map .lit)
   | none => .undef
theorem ev_mk (tm : List V) (h : Hp) (nx : Nat) (gh : Gh) (x : Operand) : St.ev ⟨tm, h, nx, gh⟩ x = evT tm x := by cases x <;> rfl
def getT : List V → Nat → V
 | [], _ => .undef
 | a :: _, 0 => a
 | _ :: l, n + 1 => getT l n
theorem getT_eq : ∀ (l : List V) (n : Nat), getT l n = l.getD n .undef
 | [], _ => by simp [getT]
 | a :: l, 0 => rfl
 | a :: l, n + 1 => by simp [getT, getT_eq l n]
@[go_sem ↓] theorem evT_tmp (tm : List V) (t : Nat) : evT tm (.tmp t) = getT tm t := (getT_eq tm t).symm
@[go_sem ↓] theorem evT_const (tm : List V) (v : Value) : evT tm (.const v) = ofVal v := rfl
@[go_sem ↓] theorem evT_func (tm : List V) (f : FuncId) : evT tm (.func f) = .fn (.func f) [] [] := rfl
@[go_sem ↓] theorem evT_global (tm : List V) (g : Nat) : evT tm (.global g) = match globT g with
   | some vs => .rp (vs.map .lit)
   | none => .undef := rfl
@[go_sem ↓] theorem getT_zero (a : V) (l : List V) : getT (a :: l) 0 = a := rfl
@[go_sem ↓] theorem getT_succ (a : V) (l : List V) (n : Nat) : getT (a :: l) (n + 1) = getT l n := rfl
def setT : List V → Nat → V → List V
 | [], _, _ => []
 | _ :: l, 0, v => v :: l
 | a :: l, n + 1, v => a :: setT l n v
theorem setT_eq : ∀ (l : List V) (n : Nat) (v : V), setT l n v = l.set n v
 | [], _, _ => by simp [setT]
 | a :: l, 0, v => rfl
 | a :: l, n + 1, v => by simp [setT, setT_eq l n v]
@[go_sem] theorem setT_zero (a v : V) (l : List V) : setT (a :: l) 0 v = v :: l := rfl
@[go_sem] theorem setT_succ (a v : V) (l : List V) (n : Nat) : setT (a :: l) (n + 1) v = a :: setT l n v := rfl
@[go_sem] theorem putT_none (l : List V) (v : V) : putT l none v = l := rfl
@[go_sem] theorem putT_some (l : List V) (d : Nat) (v : V) : putT l (some d) v = setT l d v := (setT_eq l d v).symm
def mapEv (tm : List V) : List Operand → List V
 | [] => []
 | x :: l => evT tm x :: mapEv tm l
theorem mapEv_eq (tm : List V) : ∀ l, mapEv tm l = l.map (evT tm)
 | [] => rfl
 | x :: l => by simp [mapEv, mapEv_eq tm l]
@[go_sem] theorem mapEv_nil (tm : List V) : mapEv tm [] = [] := rfl
@[go_sem] theorem mapEv_cons (tm : List V) (x : Operand) (l : List Operand) : mapEv tm (x :: l) = evT tm x :: mapEv tm l := rfl
def partsEv (tm : List V) : List (Nat × Operand) → List (Nat × V)
 | [] => []
 | (i, x) :: l => (i, evT tm x) :: partsEv tm l
theorem partsEv_eq (tm : List V) : ∀ l, partsEv tm l = l.map fun p => (p.1, evT tm p.2)
 | [] => rfl
 | (i, x) :: l => by simp [partsEv, partsEv_eq tm l]
@[go_sem] theorem partsEv_nil (tm : List V) : partsEv tm [] = [] := rfl
@[go_sem] theorem partsEv_cons (tm : List V) (i : Nat) (x : Operand) (l : List (Nat × Operand)) : partsEv tm ((i, x) :: l) = (i, evT tm x) :: partsEv tm l := rfl
def optEv (tm : List V) : Option Operand → Option V
 | none => none
 | some x => some (evT tm x)
@[go_sem] theorem optEv_none (tm : List V) : optEv tm none = none := rfl
@[go_sem] theorem optEv_some (tm : List V) (x : Operand) : optEv tm (some x) = some (evT tm x) := rfl
def wrOk (nx : Nat) : Wr → Prop
 | [] => True
 | (i, _) :: r => i < nx + 64 ∧ wrOk nx r
@[go_sem] theorem wrOk_nil (nx : Nat) : wrOk nx [] = True := rfl
@[go_sem] theorem wrOk_cons (nx i : Nat) (b : Option Blk) (r : Wr) : wrOk nx ((i, b) :: r) = (i < nx + 64 ∧ wrOk nx r) := rfl
theorem wrOk_eq (nx : Nat) : ∀ wr : Wr, wrOk nx wr = ((wr.all fun p => decide (p.1 < nx + 64)) = true)
 | [] => by simp [wrOk]
 | (i, b) :: r => by simp [wrOk, wrOk_eq nx r]
section
variable {P : Program} {ops : Array Oper} {rest : List Oper} {K : St → Prop} {dst : Option Tmp} {ty : TypeId} {pos : String} {after : Array Edge} {tm : List V} {h : Hp} {nx : Nat} {gh : Gh}
def stepA (P : Program) (ops : Array Oper) (rest : List Oper) (K : St → Prop) (dst : Option Tmp) (st : St) (e : Option Eff) : Prop :=
 match e with
 | some e => Req e.c (Req (wrOk st.nx e.wr) (awpOps P ops rest K ⟨putT st.tmps dst e.v, applyWr st.h e.wr, st.nx + 64, st.gh⟩))
 | none => False
@[go_sem] theorem stepA_some {c : Prop} {v : V} {wr : Wr} : stepA P ops rest K dst ⟨tm, h, nx, gh⟩ (some ⟨c, v, wr⟩) = Req c (Req (wrOk nx wr) (awpOps P ops rest K ⟨putT tm dst v, applyWr h wr, nx + 64, gh⟩)) := rfl
@[go_sem] theorem stepA_val {v : V} : stepA P ops rest K dst ⟨tm, h, nx, gh⟩ (some (.val v)) = awpOps P ops rest K ⟨putT tm dst v, h, nx + 64, gh⟩ := by
 show Req True (Req True _) = _
 simp [Req_true]; rfl
@[congr] theorem stepA_congr {st : St} {e e' : Option Eff} (he : e = e') : stepA P ops rest K dst st e = stepA P ops rest K dst st e' := by rw [he]
@[congr] theorem awpOps_congr {l : List Oper} {st st' : St} (hs : st = st') : awpOps P ops l K st = awpOps P ops l K st' := by rw [hs]
@[congr] theorem awp_congr {c : Code} {Q : Exit → St → Prop} {st st' : St} (hs : st = st') : awp P c Q st = awp P c Q st' := by rw [hs]
@[congr] theorem blockQ_congr {id : Nat} {Q : Exit → St → Prop} {e : Exit} {st st' : St} (hs : st = st') : blockQ id Q e st = blockQ id Q e st' := by rw [hs]
@[congr] theorem LoopA_congr {aw : (Exit → St → Prop) → St → Prop} {Q : Exit → St → Prop} {st st' : St} (hs : st = st') : LoopA aw Q st = LoopA aw Q st' := by rw [hs]
@[congr] theorem CondA_congr {c c' : V} {x y : Prop} (hc : c = c') : CondA c x y = CondA c' x y := by rw [hc]
@[congr] theorem CallA_congr {f f' : V} {as as' : List V} {st st' : St} (hf : f = f') (ha : as = as') (hs : st = st') : CallA P f as dst K st = CallA P f' as' dst K st' := by rw [hf, ha, hs]
@[congr] theorem RangeA_congr {a b : (Exit → St → Prop) → St → Prop} {g : Operand} {ps : Array Tmp} {Q : Exit → St → Prop} {st st' : St} (hs : st = st') : RangeA P a b g ps Q st = RangeA P a b g ps Q st' := by rw [hs]
theorem ops_act (op : Op) (hv : isVCall op = false) (hnl : nilOp (evT tm) op = none := by rfl) : awpOps P ops (⟨dst, op, ty, pos, after, none⟩ :: rest) K ⟨tm, h, nx, gh⟩ = stepA P ops rest K dst ⟨tm, h, nx, gh⟩ (act P (evT tm) op h nx) := by
 have e : St.ev ⟨tm, h, nx, gh⟩ = evT tm := funext fun x => ev_mk ..
 rw [awpOps]
 simp only [guardOk, if_true]
 unfold awpOp
 split
 · rename_i f args tys ho; simp only at ho; rw [ho] at hv; cases hv
 · rename_i ho
   simp only [e, hnl]
   cases act P (evT tm) op h nx with
   | none => simp [ActA, stepA]
   | some e =>
     simp only [ActA, stepA, Req, wrOk_eq]
     cases dst <;> rfl
section
variable {x y z : Operand} {t u : TypeId}
@[go_sem] theorem ops_move : awpOps P ops (⟨dst, .move x, ty, pos, after, none⟩ :: rest) K ⟨tm, h, nx, gh⟩ = awpOps P ops rest K ⟨putT tm dst (evT tm x), h, nx + 64, gh⟩ := (ops_act _ rfl).trans stepA_val
@[go_sem] theorem ops_assign : awpOps P ops (⟨dst, .assign x, ty, pos, after, none⟩ :: rest) K ⟨tm, h, nx, gh⟩ = awpOps P ops rest K ⟨putT tm dst (evT tm x), h, nx + 64, gh⟩ := (ops_act _ rfl).trans stepA_val
def actPick (c a b : V) : Option Eff := match c with
 | .lit (.bool t) => some (.val (pickV t a b))
 | _ => none
@[go_sem] theorem ops_pick : awpOps P ops (⟨dst, .pick x y z, ty, pos, after, none⟩ :: rest) K ⟨tm, h, nx, gh⟩ = stepA P ops rest K dst ⟨tm, h, nx, gh⟩ (actPick (evT tm x) (evT tm y) (evT tm z)) := ops_act _ rfl
@[go_sem] theorem ops_alloc : awpOps P ops (⟨dst, .alloc t, ty, pos, after, none⟩ :: rest) K ⟨tm, h, nx, gh⟩ = stepA P ops rest K dst ⟨tm, h, nx, gh⟩ (actAlloc P t nx) := ops_act _ rfl
@[go_sem] theorem ops_box : awpOps P ops (⟨dst, .box t x, ty, pos, after, none⟩ :: rest) K ⟨tm, h, nx, gh⟩ = stepA P ops rest K dst ⟨tm, h, nx, gh⟩ (actBox P t (evT tm x) nx) := ops_act _ rfl
@[go_sem] theorem ops_build {ps : List (Nat × Operand)} : awpOps P ops (⟨dst, .build t (List.toArray ps), ty, pos, after, none⟩ :: rest) K ⟨tm, h, nx, gh⟩ = stepA P ops rest K dst ⟨tm, h, nx, gh⟩ (actBuild P t (partsEv tm ps)) := by
 rw [ops_act _ rfl, partsEv_eq]; rfl
@[go_sem] theorem ops_buildSlice {n : Nat} {ps : List (Nat × Operand)} : awpOps P ops (⟨dst, .buildSlice t n (List.toArray ps), ty, pos, after, none⟩ :: rest) K ⟨tm, h, nx, gh⟩ = stepA P ops rest K dst ⟨tm, h, nx, gh⟩ (actBuildSlice P t n (partsEv tm ps) nx) := by
 rw [ops_act _ rfl, partsEv_eq]; rfl
@[go_sem] theorem ops_load : awpOps P ops (⟨dst, .load t x, ty, pos, after, none⟩ :: rest) K ⟨tm, h, nx, gh⟩ = stepA P ops rest K dst ⟨tm, h, nx, gh⟩ (actLoad P t (evT tm x) h) := ops_act _ rfl
@[go_sem] theorem ops_store : awpOps P ops (⟨dst, .store t x y, ty, pos, after, none⟩ :: rest) K ⟨tm, h, nx, gh⟩ = stepA P ops rest K dst ⟨tm, h, nx, gh⟩ (actStore P t (evT tm x) (evT tm y) h) := ops_act _ rfl
def actNil (v : V) : Option Eff := match v with
 | .ref id k i off => some (.val (.ref id k i off))
 | .rp cs => some (.val (.rp cs))
 | .fn (.func f) a b => some (.val (.fn (.func f) a b))
 | _ => none
def stepN (P : Program) (ops : Array Oper) (rest : List Oper) (K : St → Prop) (dst : Option Tmp) (st : St) (op : BinOp) (t : TypeId) (x y : V) : Prop :=
 match nilArg op x y with
 | some C => isSl P t = true ∧ ∀ b : Bool, (b = true → C) → awpOps P ops rest K ⟨putT st.tmps dst (.lit (.bool (if op = .neq then !b else b))), st.h, st.nx + 64, st.gh⟩
 | none => stepA P ops rest K dst st (actBin P op t x y)
@[congr] theorem stepN_congr {st st' : St} {op : BinOp} {a a' b b' : V} (hs : st = st') (ha : a = a') (hb : b = b') : stepN P ops rest K dst st op t a b = stepN P ops rest K dst st' op t a' b' := by rw [hs, ha, hb]
@[go_sem] theorem stepN_lit {st : St} {op : BinOp} {v : Value} {b : V} : stepN P ops rest K dst st op t (.lit v) b = stepA P ops rest K dst st (actBin P op t (.lit v) b) := by
 simp [stepN, nilArg]
def NilT (P : Program) (ops : Array Oper) (rest : List Oper) (K : St → Prop) (dst : Option Tmp) (st : St) (neg : Bool) (C : Prop) : Prop :=
 ∀ b : Bool, (b = true → C) → awpOps P ops rest K ⟨putT st.tmps dst (.lit (.bool (if neg then !b else b))), st.h, st.nx + 64, st.gh⟩
@[congr] theorem NilT_congr {st : St} {neg : Bool} {C C' : Prop} (hC : C = C') : NilT P ops rest K dst st neg C = NilT P ops rest K dst st neg C' := by rw [hC]
theorem nilT {C : Prop} {neg : Bool} (hf : awpOps P ops rest K ⟨putT tm dst (.lit (.bool neg)), h, nx + 64, gh⟩) (ht : C → awpOps P ops rest K ⟨putT tm dst (.lit (.bool (!neg))), h, nx + 64, gh⟩) : NilT P ops rest K dst ⟨tm, h, nx, gh⟩ neg C := fun b hb => by
 cases b with
 | false => cases neg <;> exact hf
 | true => cases neg <;> exact ht (hb rfl)
@[go_sem] theorem stepN_sl {st : St} {k : Nat} {es : List (List V)} {ex : Bool} : stepN P ops rest K dst st .eql t (.sl (k + 1) es ex) (.lit (.slice none 0 0)) = Req (isSl P t = true) (NilT P ops rest K dst st false (es = [])) := by
 simp [stepN, nilArg, Req, NilT]
@[go_sem] theorem isSl_eq (t : TypeId) : isSl P t = match tinfo P t with
 | some ti => match ti.desc with
   | .slice _ => true
   | _ => false
 | none => false := rfl
@[go_sem] theorem ops_binOp {op : BinOp} : awpOps P ops (⟨dst, .binOp op t x y u, ty, pos, after, none⟩ :: rest) K ⟨tm, h, nx, gh⟩ = stepN P ops rest K dst ⟨tm, h, nx, gh⟩ op t (evT tm x) (evT tm y) := by
 unfold stepN
 cases hn : nilArg op (evT tm x) (evT tm y) with
 | none => exact ops_act _ rfl (by simp [nilOp, hn])
 | some C =>
   have e : St.ev ⟨tm, h, nx, gh⟩ = evT tm := funext fun x => ev_mk ..
   rw [awpOps]
   simp only [guardOk, if_true]
   unfold awpOp
   simp only [e, nilOp, hn, Option.map_some]
   cases dst <;> rfl
@[go_sem] theorem ops_unOp {op : UnOp} : awpOps P ops (⟨dst, .unOp op t x, ty, pos, after, none⟩ :: rest) K ⟨tm, h, nx, gh⟩ = stepA P ops rest K dst ⟨tm, h, nx, gh⟩ (actUn op (evT tm x)) := ops_act _ rfl
@[go_sem] theorem ops_convert : awpOps P ops (⟨dst, .convert t u x, ty, pos, after, none⟩ :: rest) K ⟨tm, h, nx, gh⟩ = stepA P ops rest K dst ⟨tm, h, nx, gh⟩ (actConvert P t u (evT tm x)) := ops_act _ rfl
@[go_sem] theorem ops_makeFunc {f : Fn} {as bs : List Operand} : awpOps P ops (⟨dst, .makeFunc f (List.toArray as) (List.toArray bs), ty, pos, after, none⟩ :: rest) K ⟨tm, h, nx, gh⟩ = awpOps P ops rest K ⟨putT tm dst (.fn f (mapEv tm as) (mapEv tm bs)), h, nx + 64, gh⟩ := by
 rw [ops_act _ rfl, mapEv_eq, mapEv_eq]; exact stepA_val
@[go_sem] theorem ops_makeSlice : awpOps P ops (⟨dst, .makeSlice t x y, ty, pos, after, none⟩ :: rest) K ⟨tm, h, nx, gh⟩ = stepA P ops rest K dst ⟨tm, h, nx, gh⟩ (actMakeSlice P t (evT tm x) (evT tm y) nx) := ops_act _ rfl
def actSl (P : Program) (t : TypeId) (x : V) (lo hi mx : Option V) (h : Hp) : Option Eff := match actSliceArr P t x lo hi mx h with
 | some e => some e
 | none => actSlice P t x lo hi mx
@[go_sem] theorem actSl_sl (k : Nat) (es : List (List V)) (ex : Bool) (lo hi mx : Option V) : actSl P t (.sl k es ex) lo hi mx h = actSlice P t (.sl k es ex) lo hi mx := by
 unfold actSl
 cases hA : actSliceArr P t (.sl k es ex) lo hi mx h with
 | none => rfl
 | some e => obtain ⟨_, _, _, _, _, _, _, _, h2, _⟩ := actSliceArr_ref hA; cases h2
@[go_sem] theorem actSl_os (id k n : Nat) (ex : Bool) (lo hi mx : Option V) : actSl P t (.os id k n ex) lo hi mx h = actSlice P t (.os id k n ex) lo hi mx := by
 unfold actSl
 cases hA : actSliceArr P t (.os id k n ex) lo hi mx h with
 | none => rfl
 | some e => obtain ⟨_, _, _, _, _, _, _, _, h2, _⟩ := actSliceArr_ref hA; cases h2
@[go_sem] theorem actSl_lit (v : Value) (lo hi mx : Option V) : actSl P t (.lit v) lo hi mx h = actSlice P t (.lit v) lo hi mx := by
 unfold actSl
 cases hA : actSliceArr P t (.lit v) lo hi mx h with
 | none => rfl
 | some e => obtain ⟨_, _, _, _, _, _, _, _, h2, _⟩ := actSliceArr_ref hA; cases h2
@[go_sem] theorem ops_slice {lo hi mx : Option Operand} : awpOps P ops (⟨dst, .slice t x lo hi mx, ty, pos, after, none⟩ :: rest) K ⟨tm, h, nx, gh⟩ = stepA P ops rest K dst ⟨tm, h, nx, gh⟩ (actSl P t (evT tm x) (optEv tm lo) (optEv tm hi) (optEv tm mx) h) := by
 rw [ops_act _ rfl]; cases lo <;> cases hi <;> cases mx <;> rfl
@[go_sem] theorem ops_fieldAddr {f : Nat} : awpOps P ops (⟨dst, .fieldAddr t x f, ty, pos, after, none⟩ :: rest) K ⟨tm, h, nx, gh⟩ = stepA P ops rest K dst ⟨tm, h, nx, gh⟩ (actFieldAddr P t (evT tm x) f) := ops_act _ rfl
@[go_sem] theorem ops_indexAddr : awpOps P ops (⟨dst, .indexAddr t x y, ty, pos, after, none⟩ :: rest) K ⟨tm, h, nx, gh⟩ = stepA P ops rest K dst ⟨tm, h, nx, gh⟩ (actIndexAddr P t (evT tm x) (evT tm y)) := ops_act _ rfl
@[go_sem] theorem ops_index : awpOps P ops (⟨dst, .index t x y, ty, pos, after, none⟩ :: rest) K ⟨tm, h, nx, gh⟩ = stepA P ops rest K dst ⟨tm, h, nx, gh⟩ (actIndex P t (evT tm x) (evT tm y)) := ops_act _ rfl
@[go_sem] theorem ops_extract {i : Nat} : awpOps P ops (⟨dst, .extract x i, ty, pos, after, none⟩ :: rest) K ⟨tm, h, nx, gh⟩ = stepA P ops rest K dst ⟨tm, h, nx, gh⟩ (actExtract (evT tm x) i) := ops_act _ rfl
@[go_sem] theorem ops_cap : awpOps P ops (⟨dst, .call ⟨.builtin .cap, List.toArray [x], List.toArray [t]⟩, ty, pos, after, none⟩ :: rest) K ⟨tm, h, nx, gh⟩ = stepA P ops rest K dst ⟨tm, h, nx, gh⟩ (actCap P t (evT tm x)) := ops_act _ rfl
@[go_sem] theorem ops_len : awpOps P ops (⟨dst, .call ⟨.builtin .len, List.toArray [x], List.toArray [t]⟩, ty, pos, after, none⟩ :: rest) K ⟨tm, h, nx, gh⟩ = stepA P ops rest K dst ⟨tm, h, nx, gh⟩ (actLen2 P t (evT tm x) h) := ops_act _ rfl
@[go_sem] theorem ops_makeMap : awpOps P ops (⟨dst, .makeMap t none, ty, pos, after, none⟩ :: rest) K ⟨tm, h, nx, gh⟩ = stepA P ops rest K dst ⟨tm, h, nx, gh⟩ (actMakeMap P t none nx) := ops_act _ rfl
@[go_sem] theorem ops_lookup {c : Bool} : awpOps P ops (⟨dst, .lookup t x y c, ty, pos, after, none⟩ :: rest) K ⟨tm, h, nx, gh⟩ = stepA P ops rest K dst ⟨tm, h, nx, gh⟩ (actLookup P t (evT tm x) (evT tm y) c h) := ops_act _ rfl
@[go_sem] theorem ops_mapUpdate {z : Operand} : awpOps P ops (⟨dst, .mapUpdate t x y z, ty, pos, after, none⟩ :: rest) K ⟨tm, h, nx, gh⟩ = stepA P ops rest K dst ⟨tm, h, nx, gh⟩ (actMapUpdate P t (evT tm x) (evT tm y) (evT tm z) h) := ops_act _ rfl
@[go_sem] theorem actLen2_os (id k n : Nat) (ex : Bool) : actLen2 P t (.os id k n ex) h = actLen P t (.os id k n ex) h := rfl
@[go_sem] theorem actLen2_sl (k : Nat) (es : List (List V)) (ex : Bool) : actLen2 P t (.sl k es ex) h = actLen P t (.sl k es ex) h := rfl
@[go_sem] theorem actLen2_lit (v : Value) : actLen2 P t (.lit v) h = actLen P t (.lit v) h := rfl
@[go_sem] theorem actLen2_mp (id : Nat) : actLen2 P t (.mp id) h = actLenM P t (.mp id) h := rfl
@[go_sem] theorem ops_append {ts : List TypeId} : awpOps P ops (⟨dst, .call ⟨.builtin .append, List.toArray [x, y], List.toArray ts⟩, ty, pos, after, none⟩ :: rest) K ⟨tm, h, nx, gh⟩ = stepA P ops rest K dst ⟨tm, h, nx, gh⟩ (actAppend P ts (evT tm x) (evT tm y) h nx) := ops_act _ rfl
@[go_sem] theorem ops_min {xs : List Operand} {ts : Array TypeId} : awpOps P ops (⟨dst, .call ⟨.builtin .min, List.toArray xs, ts⟩, ty, pos, after, none⟩ :: rest) K ⟨tm, h, nx, gh⟩ = stepA P ops rest K dst ⟨tm, h, nx, gh⟩ (actMinMax min (mapEv tm xs)) := by
 rw [ops_act _ rfl, mapEv_eq]; rfl
@[go_sem] theorem ops_max {xs : List Operand} {ts : Array TypeId} : awpOps P ops (⟨dst, .call ⟨.builtin .max, List.toArray xs, ts⟩, ty, pos, after, none⟩ :: rest) K ⟨tm, h, nx, gh⟩ = stepA P ops rest K dst ⟨tm, h, nx, gh⟩ (actMinMax max (mapEv tm xs)) := by
 rw [ops_act _ rfl, mapEv_eq]; rfl
@[go_sem] theorem ops_call {f : Operand} {xs : List Operand} {ts : Array TypeId} : awpOps P ops (⟨dst, .call ⟨.value f, List.toArray xs, ts⟩, ty, pos, after, none⟩ :: rest) K ⟨tm, h, nx, gh⟩ =
   CallA P (evT tm f) (mapEv tm xs) dst (fun st' => awpOps P ops rest K ⟨st'.tmps, st'.h, st'.nx + 64, st'.gh⟩) ⟨tm, h, nx, gh⟩ := by
 have e : St.ev ⟨tm, h, nx, gh⟩ = evT tm := funext fun x => ev_mk ..
 rw [awpOps]
 simp only [guardOk, if_true, awpOp, e, mapEv_eq, List.toList_toArray]
end
@[go_sem] theorem ops_nil {st : St} : awpOps P ops [] K st = K st := rfl
def dstL : List Oper → Nat → Option Tmp
 | [], _ => none
 | o :: _, 0 => o.dst
 | _ :: l, n + 1 => dstL l n
theorem dstL_eq : ∀ (l : List Oper) (n : Nat), dstL l n = (l[n]?).bind (·.dst)
 | [], _ => by simp [dstL]
 | o :: l, 0 => rfl
 | o :: l, n + 1 => by simp [dstL, dstL_eq l n]
@[go_sem ↓] theorem dstL_zero (dst : Option Tmp) (op : Op) (ty : TypeId) (pos : String) (after : Array Edge) (g : Option (Nat × Bool)) (l : List Oper) : dstL (⟨dst, op, ty, pos, after, g⟩ :: l) 0 = dst := rfl
@[go_sem ↓] theorem dstL_succ (o : Oper) (l : List Oper) (n : Nat) : dstL (o :: l) (n + 1) = dstL l n := rfl
def gW (b : Bool) : Bool → Option Bool
 | true => some b
 | false => some (!b)
@[go_sem] theorem gW_true (b : Bool) : gW b true = some b := rfl
@[go_sem] theorem gW_false (b : Bool) : gW b false = some (!b) := rfl
theorem gW_eq (b w : Bool) : gW b w = some (b == w) := by cases b <;> cases w <;> rfl
def gV (tm : List V) (want : Bool) : Option Tmp → Option Bool
 | some d => match getT tm d with
   | .lit (.bool b) => gW b want
   | .tup [] => some false
   | _ => none
 | none => none
@[go_sem] theorem gV_some (tm : List V) (want : Bool) (d : Nat) : gV tm want (some d) = match getT tm d with
   | .lit (.bool b) => gW b want
   | .tup [] => some false
   | _ => none := rfl
def stepG (P : Program) (ops : Array Oper) (o : Oper) (rest : List Oper) (K : St → Prop) (st : St) (g : Option Bool) : Prop :=
 match g with
 | some true => awpOps P ops (o :: rest) K st
 | some false => awpOps P ops rest K ⟨putT st.tmps o.dst (.tup []), st.h, st.nx + 64, st.gh⟩
 | none => False
@[congr] theorem stepG_congr {o : Oper} {st : St} {g g' : Option Bool} (hg : g = g') : stepG P ops o rest K st g = stepG P ops o rest K st g' := by rw [hg]
@[go_sem] theorem stepG_true {o : Oper} {st : St} : stepG P ops o rest K st (some true) = awpOps P ops (o :: rest) K st := rfl
@[go_sem] theorem stepG_false {op : Op} {g : Option (Nat × Bool)} : stepG P ops ⟨dst, op, ty, pos, after, g⟩ rest K ⟨tm, h, nx, gh⟩ (some false) = awpOps P ops rest K ⟨putT tm dst (.tup []), h, nx + 64, gh⟩ := rfl
theorem stepG_if {o : Oper} {st : St} {b : Bool} (ht : b = true → stepG P ops o rest K st (some true)) (hf : b = false → stepG P ops o rest K st (some false)) : stepG P ops o rest K st (some b) := by
 cases b
 · exact hf rfl
 · exact ht rfl
theorem stepG_ifN {o : Oper} {st : St} {b : Bool} (hf : b = true → stepG P ops o rest K st (some false)) (ht : b = false → stepG P ops o rest K st (some true)) : stepG P ops o rest K st (some (!b)) := by
 cases b
 · exact ht rfl
 · exact hf rfl
@[go_sem] theorem ops_guard {l : List Oper} {op : Op} {j : Nat} {want : Bool} : awpOps P (List.toArray l) (⟨dst, op, ty, pos, after, some (j, want)⟩ :: rest) K ⟨tm, h, nx, gh⟩ = stepG P (List.toArray l) ⟨dst, op, ty, pos, after, none⟩ rest K ⟨tm, h, nx, gh⟩ (gV tm want (dstL l j)) := by
 rw [awpOps]
 have e : guardOk (List.toArray l) ⟨tm, h, nx, gh⟩ ⟨dst, op, ty, pos, after, some (j, want)⟩ = gV tm want (dstL l j) := by
   simp only [guardOk, gV, dstL_eq, List.getElem?_toArray, getT_eq, gW_eq]
   try (cases (l[j]?).bind (fun x => x.dst) <;> rfl)
 rw [e]
 cases gV tm want (dstL l j) with
 | none => rfl
 | some g =>
   cases g with
   | true =>
     rw [stepG_true, awpOps]
     simp only [guardOk, if_true]
     rfl
   | false =>
     simp only [Bool.false_eq_true, if_false]
     cases dst <;> rfl
end
section
variable {P : Program} {Q : Exit → St → Prop} {K : St → Prop} {st : St}
@[go_sem] theorem wk_seq {a b : Code} : awp P (.seq a b) Q st = awp P a (thenQ (awp P b Q) Q) st := rfl
@[go_sem] theorem wk_block {id : Nat} {c : Code} : awp P (.block id c) Q st = awp P c (blockQ id Q) st := rfl
@[go_sem] theorem wk_loop {c : Code} : awp P (.loop c) Q st = LoopA (awp P c) Q st := rfl
@[go_sem] theorem wk_cond {c : Operand} {a b : Code} {tm : List V} {h : Hp} {nx : Nat} {gh : Gh} : awp P (.cond c a b) Q ⟨tm, h, nx, gh⟩ = CondA (evT tm c) (awp P a Q ⟨tm, h, nx, gh⟩) (awp P b Q ⟨tm, h, nx, gh⟩) := by
 rw [awp, ev_mk]
@[go_sem] theorem wk_skip : awp P .skip Q st = Q .normal st := rfl
@[go_sem] theorem wk_exit {id : Nat} : awp P (.exit id) Q st = Q (.exit id) st := rfl
@[go_sem] theorem wk_ret : awp P .ret Q st = Q .ret st := rfl
@[go_sem] theorem wk_region {id : Nat} {l : List Oper} : awp P (.region id (List.toArray l) false) Q st = awpOps P (List.toArray l) l (Q .normal) st := rfl
@[go_sem] theorem wk_range {g : Operand} {ps : Array Tmp} {a b : Code} : awp P (.rangeFunc g ps a b) Q st = RangeA P (awp P a) (awp P b) g ps Q st := rfl
@[go_sem] theorem wk_thenN : thenQ K Q .normal st = K st := rfl
@[go_sem] theorem wk_thenR : thenQ K Q .ret st = Q .ret st := rfl
@[go_sem] theorem wk_thenE {id : Nat} : thenQ K Q (.exit id) st = Q (.exit id) st := rfl
@[go_sem] theorem wk_blockN {id : Nat} : blockQ id Q .normal st = Q .normal st := rfl
@[go_sem] theorem wk_blockR {id : Nat} : blockQ id Q .ret st = Q .ret st := rfl
@[go_sem] theorem wk_blockE {id id' : Nat} : blockQ id Q (.exit id') st = if id' = id then Q .normal st else Q (.exit id') st := rfl
@[go_sem] theorem condA_t {x y : Prop} : CondA (.lit (.bool true)) x y = x := by simp [CondA]
@[go_sem] theorem condA_f {x y : Prop} : CondA (.lit (.bool false)) x y = y := by simp [CondA]
theorem condA_if {b : Bool} {x y : Prop} (ht : b = true → x) (hf : b = false → y) : CondA (.lit (.bool b)) x y := by
 cases b
 · simpa [CondA] using hf rfl
 · simpa [CondA] using ht rfl
end
end Go.Aw
end
section
namespace Go.Aw
open Go.RowKit
attribute [go_sem] actSliceArr
attribute [go_sem] actCap actMakeMap actLookup actMapUpdate actLenM actBin actLoad actStore actLen actUn actConvert actIndexAddr actIndex actFieldAddr actField actExtract actAlloc actBox actBuild actBuildSlice actMakeSlice actSlice actAppend actAppendM actMinMax foldInts actPick actNil
 partA cellsAt spread lenA isShift Eff.val ints pickV isAggD zcells inR fillA fillE placeF optInt sliceEx nonNil litT eqLit retV ofVal applyWr_hpOf hsets hset hpOf hget
attribute [go_sem] Bool.false_eq_true Bool.true_eq_false eq_self if_true if_false or_true true_or or_false false_or and_true true_and and_false false_and not_true_eq_false not_false_eq_true Bool.and_true Bool.true_and Bool.and_false Bool.false_and Bool.or_true Bool.or_false Bool.true_or Bool.false_or Bool.not_true Bool.not_false
 List.length_map List.length_cons List.length_nil List.length_append Int.toNat_natCast List.headD_cons List.drop_zero List.take_zero List.getD_cons_zero List.getD_cons_succ List.map_cons List.map_nil List.drop_succ_cons List.take_succ_cons
 Option.map_some Option.map_none Option.isSome_some Option.isSome_none Option.getD_some Option.getD_none List.nil_append List.cons_append List.append_nil List.set_cons_zero List.set_cons_succ
attribute [go_sem] List.replicate_succ List.replicate_zero List.getElem?_toArray List.getElem?_cons_zero List.getElem?_cons_succ List.getElem?_nil List.size_toArray List.all_toArray List.all_cons List.all_nil Bool.and_self beq_self_eq_true List.toList_toArray Nat.zero_add Nat.add_zero ne_eq decide_true decide_false
@[go_sem] theorem allFields_eq (P : Program) (fs : List Field) : allFields P (List.toArray fs) = fs.all fun f => (tinfo P f.type).isSome := by simp [allFields]
@[go_sem] theorem splice_zero (e cs : List V) : splice e 0 cs = cs ++ e.drop cs.length := by simp [splice]
@[go_sem] theorem splice_succ (a : V) (e : List V) (n : Nat) (cs : List V) : splice (a :: e) (n + 1) cs = a :: splice e n cs := by
 simp only [splice, List.take_succ_cons, List.cons_append]
 rw [show n + 1 + cs.length = (n + cs.length) + 1 from by omega, List.drop_succ_cons]
@[go_sem] theorem cell_lit (v : Value) : (V.lit v).cell = true := rfl
@[go_sem] theorem cell_sl (k : Nat) (es : List (List V)) (ex : Bool) : (V.sl k es ex).cell = true := rfl
@[go_sem] theorem cell_os (id k n : Nat) (ex : Bool) : (V.os id k n ex).cell = true := rfl
@[go_sem] theorem cell_fn (f : Fn) (a b : List V) : (V.fn f a b).cell = true := rfl
attribute [go_sem] List.forall_mem_cons
@[go_sem] theorem forall_mem_nil' (p : V → Prop) : (∀ c ∈ ([] : List V), p c) = True := by simp
@[go_sem] theorem forall_mem_append' (a b : List V) (p : V → Prop) : (∀ c ∈ a ++ b, p c) = ((∀ c ∈ a, p c) ∧ ∀ c ∈ b, p c) := by simp [or_imp, forall_and]
@[go_sem] theorem vcells_lit (v : Value) : V.cells (.lit v) = [.lit v] := rfl
@[go_sem] theorem vok_lit (v : Value) : V.ok (.lit v) = true := rfl
@[go_sem] theorem vcells_sl (k : Nat) (es : List (List V)) (ex : Bool) : V.cells (.sl k es ex) = [.sl k es ex] := rfl
@[go_sem] theorem vok_sl (k : Nat) (es : List (List V)) (ex : Bool) : V.ok (.sl k es ex) = true := rfl
@[go_sem] theorem vcells_os (id k n : Nat) (ex : Bool) : V.cells (.os id k n ex) = [.os id k n ex] := rfl
@[go_sem] theorem vok_os (id k n : Nat) (ex : Bool) : V.ok (.os id k n ex) = true := rfl
@[go_sem] theorem vcells_fn (f : Fn) (a b : List V) : V.cells (.fn f a b) = [.fn f a b] := rfl
@[go_sem] theorem vok_fn (f : Fn) (a b : List V) : V.ok (.fn f a b) = true := rfl
@[go_sem] theorem vcells_agg (cs : List V) : V.cells (.agg cs) = cs := rfl
@[go_sem] theorem vok_agg (cs : List V) : V.ok (.agg cs) = true := rfl
@[go_sem] theorem bigLen_eq : bigLen = 4294967296 := rfl
@[go_sem] theorem sliceC_none (n : Nat) (lo hi : Option Int) : sliceC n lo hi none = (0 ≤ lo.getD 0 ∧ lo.getD 0 ≤ hi.getD n ∧ hi.getD n ≤ n) := by simp [sliceC]
@[go_sem] theorem sliceC_some (n : Nat) (lo : Option Int) (hi m : Int) : sliceC n lo (some hi) (some m) = (0 ≤ lo.getD 0 ∧ lo.getD 0 ≤ hi ∧ hi ≤ n ∧ hi ≤ m ∧ m ≤ n) := by simp [sliceC]
@[go_sem] theorem take_map_len {α β : Type} (f : α → β) (l : List α) : (l.map f).take l.length = l.map f := List.take_of_length_le (by simp)
attribute [go_sem] Nat.sub_zero Int.toNat_zero
@[go_sem] theorem applyWr_nil (h : Hp) : applyWr h [] = h := rfl
@[go_sem] theorem okZero_eq (i : TI) : okZero i = (i.zero.cells.toList.length == i.size && i.zero.cells.toList.all isLit) := by simp [okZero]
@[go_sem] theorem isLit_int (k : IntKind) (n : Int) : isLit (.int k n) = true := rfl
@[go_sem] theorem isLit_bool (b : Bool) : isLit (.bool b) = true := rfl
@[go_sem] theorem isLit_string (b : ByteArray) : isLit (.string b) = true := rfl
@[go_sem] theorem isLit_slice : isLit (.slice none 0 0) = true := rfl
@[go_sem] theorem isLit_nilFunc : isLit .nilFunc = true := rfl
@[go_sem] theorem after_wr (k : Nat) (es : List (List V)) (ty : TypeId) : (⟨k, es, ty, .wr⟩ : Blk).after = none := rfl
@[go_sem] theorem rowOk_nil : rowOk [] = True := by simp [rowOk]
@[go_sem] theorem rowOk_one (c : V) : rowOk [[c]] = (c.cell = true) := by simp [rowOk]
@[go_sem] theorem rowOk_two (c d : V) : rowOk [[c, d]] = (c.cell = true ∧ d.cell = true) := by simp [rowOk]
@[go_sem] theorem rowOk_map {α : Type} (f : α → List V) (l : List α) : rowOk (l.map f) = ∀ x ∈ l, ∀ c ∈ f x, c.cell = true := by simp [rowOk]
@[go_sem] theorem live_wr : Mode'.wr.live = true := rfl
@[go_sem] theorem live_old : Mode'.old.live = false := rfl
@[go_sem] theorem getD_map {α β : Type} [Inhabited α] (f : α → List β) (l : List α) (i : Nat) (h : i < l.length) : (l.map f).getD i [] = f (l.getD i default) := by
 rw [List.getD_eq_getElem?_getD, List.getD_eq_getElem?_getD, List.getElem?_map, List.getElem?_eq_getElem h]; rfl
def RetB (P : Program) (rs : List ResultVar) (Post : V → Hp → Nat → Prop) : Exit → St → Prop
 | .normal, st | .ret, st => ∃ st', Weak st st' ∧ st'.nx = st.nx ∧ match resV P st' rs with
   | some (c, vs) => c ∧ Post (retV vs) st'.h st'.nx
   | none => False
 | _, _ => False
theorem retB_eq {P : Program} {fn : Func} {rs : List ResultVar} (h : fn.results.toList = rs) (Post : V → Hp → Nat → Prop) : RetA P fn Post = RetB P rs Post := by
 subst h; funext e st; cases e <;> rfl
@[congr] theorem RetB_congr {P : Program} {rs : List ResultVar} {Post : V → Hp → Nat → Prop} {e : Exit} {st st' : St} (hs : st = st') : RetB P rs Post e st = RetB P rs Post e st' := by rw [hs]
def Ct (P : Program) (g : FuncId) (args : List V) (r : V) : Prop := CallsTo P g args r ∧ ∃ fn, P.funcs[g]? = some fn ∧ fn.body.isSome = true ∧ fn.name ≠ "runtime.NumGoroutine"
def initT : Nat → List V → List V
 | 0, _ => []
 | n + 1, [] => .undef :: initT n []
 | n + 1, a :: l => a :: initT n l
@[go_sem] theorem initT_zero (l : List V) : initT 0 l = [] := rfl
@[go_sem] theorem initT_nil (n : Nat) : initT (n + 1) [] = .undef :: initT n [] := rfl
@[go_sem] theorem initT_cons (n : Nat) (a : V) (l : List V) : initT (n + 1) (a :: l) = a :: initT n l := rfl
theorem initT_eq : ∀ (n : Nat) (l : List V), l.length ≤ n → initT n l = l ++ List.replicate (n - l.length) .undef
 | 0, l, h => by
   have : l = [] := List.eq_nil_of_length_eq_zero (by omega)
   subst this; rfl
 | n + 1, [], _ => by
   have := initT_eq n [] (by simp)
   rw [initT_nil, this]; rfl
 | n + 1, a :: l, h => by
   simp only [List.length_cons] at h
   rw [initT_cons, initT_eq n l (by omega)]
   simp
theorem fn_enter {P : Program} {g : FuncId} {fn : Func} {c : Code} {rs : List ResultVar} {n : Nat} {args tm : List V} {r : V} (hf : P.funcs[g]? = some fn) (hb : fn.body = some c) (hn : fn.name ≠ "runtime.NumGoroutine") (hr : fn.results = List.toArray rs) (hnt : fn.ntmps = n)
   (hp : Pu r) (ha : decide (args.length ≤ n) = true) (ht : initT n args = tm) (hw : ∀ base, awp P c (RetB P rs fun r' _ _ => r' = r) ⟨tm, hpOf (fun _ => none) [], 0, { base := base }⟩) : Ct P g args r := by
 subst hnt ht
 refine ⟨callsTo_of_callH hp ?_, fn, hf, by rw [hb]; rfl, hn⟩
 have ha := of_decide_eq_true ha
 refine callH_of_awp hf hb ha fun base => ?_
 rw [retB_eq (rs := rs) (by rw [hr]), ← initT_eq _ _ ha]
 exact hw base
@[go_sem] theorem resV_nil' (P : Program) (st : St) : resV P st [] = some (True, []) := rfl
@[go_sem] theorem resV_tmp' (P : Program) (tm : List V) (h : Hp) (nx : Nat) (gh : Gh) (t : Nat) (r : List ResultVar) : resV P ⟨tm, h, nx, gh⟩ (.tmp t :: r) = match resV P ⟨tm, h, nx, gh⟩ r with
   | some (c, vs) => some (c, evT tm (.tmp t) :: vs)
   | none => none := by
 rw [resV, ev_mk] <;> (cases resV P ⟨tm, h, nx, gh⟩ r <;> rfl)
@[go_sem] theorem resV_cell' (P : Program) (tm : List V) (h : Hp) (nx : Nat) (gh : Gh) (a : Nat) (t : TypeId) (r : List ResultVar) : resV P ⟨tm, h, nx, gh⟩ (.cell a t :: r) = match actLoad P t (evT tm (.tmp a)) h, resV P ⟨tm, h, nx, gh⟩ r with
   | some e, some (c, vs) => some (e.c ∧ c, e.v :: vs)
   | _, _ => none := by
 rw [resV, ev_mk] <;> (cases resV P ⟨tm, h, nx, gh⟩ r <;> cases actLoad P t (evT tm (.tmp a)) h <;> rfl)
theorem ret_at {P : Program} {rs : List ResultVar} {Post : V → Hp → Nat → Prop} {st : St} {c : Prop} {vs : List V} (h : resV P st rs = some (c, vs)) (hc : c) (hp : Post (retV vs) st.h st.nx) : RetB P rs Post .ret st := ⟨st, Weak.refl _, rfl, by rw [h]; exact ⟨hc, hp⟩⟩
def encI (n : Int) : List V := [.lit (.int .i64 n)]
@[go_sem] theorem encI_eq (n : Int) : encI n = [.lit (.int .i64 n)] := rfl
end Go.Aw
end
section
namespace Go.Aw
open Go.RowKit
def noRows : Hp := fun _ => none
def forgetT : List V → List Nat → List V
 | l, [] => l
 | l, i :: r => forgetT (setT l i .undef) r
@[go_sem] theorem forgetT_nil (l : List V) : forgetT l [] = l := rfl
@[go_sem] theorem forgetT_cons (l : List V) (i : Nat) (r : List Nat) : forgetT l (i :: r) = forgetT (setT l i .undef) r := rfl
def slotT : List V → List (Nat × V) → List V
 | l, [] => l
 | l, (i, v) :: r => slotT (setT l i v) r
@[go_sem] theorem slotT_nil (l : List V) : slotT l [] = l := rfl
@[go_sem] theorem slotT_cons (l : List V) (i : Nat) (v : V) (r : List (Nat × V)) : slotT l ((i, v) :: r) = slotT (setT l i v) r := rfl
section
variable {ρ : Nat → Nat} {m : Nat} {fr : Bool} {h : Hp}
theorem RenL.puL {cs : List V} (h : PuL cs) : RenL ρ m cs cs := .pu cs h
theorem RenL.eqL {a b : List V} (e : a = b) (h : PuL a) : RenL ρ m a b := e ▸ .pu a h
theorem RenE.puE {cs : List (List V)} (h : PuE cs) : RenE ρ m cs cs := .pu cs h
theorem RenE.eqE {a b : List (List V)} (e : a = b) (h : PuE a) : RenE ρ m a b := e ▸ .pu a h
theorem Ren.slE (ρ : Nat → Nat) (m k : Nat) {a b : List (List V)} {e : Bool} (h : a = b) (hp : PuE a) : Ren ρ m (.sl k a e) (.sl k b e) := Ren.sl ρ m k h hp
theorem PurI.puL {l : List V} (hp : PuL l) : PurI fr h l l := .pu l hp
theorem PurI.eqL {a b : List V} (e : a = b) (hp : PuL b) : PurI fr h a b := by subst e; exact .pu _ hp
theorem PurE.puE {l : List (List V)} (hp : PuE l) : PurE fr h l l := .pu l hp
end
def Nxt {α : Type} (J : α → Prop) (m : α → Nat) (S : α → St) (x : α) (st : St) : Prop := ∃ y, J y ∧ m y < m x ∧ Weak st (S y)
@[congr] theorem Nxt_congr {α : Type} {J : α → Prop} {m : α → Nat} {S : α → St} {x : α} {st st' : St} (hs : st = st') : Nxt J m S x st = Nxt J m S x st' := by rw [hs]
theorem loop_rows {P : Program} {c : Code} {Q : Exit → St → Prop} {tm : List V} {h : Hp} {nx : Nat} {gh : Gh} {α : Type} (ids : List Nat) (sl : α → List (Nat × V)) (rows : α → List (Nat × Option Blk)) (J : α → Prop) (m : α → Nat) (x0 : α) {tmS : α → List V}
   (ht : ∀ x, slotT (forgetT tm ids) (sl x) = tmS x) (h0 : Weak ⟨tm, h, nx, gh⟩ ⟨tmS x0, hpOf (fun _ => none) (rows x0), nx, gh⟩) (hJ : J x0)
   (hr : ∀ x, J x → awp P c (thenQ (Nxt J m (fun y => ⟨tmS y, hpOf (fun _ => none) (rows y), nx, gh⟩) x) Q) ⟨tmS x, hpOf (fun _ => none) (rows x), nx, gh⟩) : LoopA (awp P c) Q ⟨tm, h, nx, gh⟩ :=
 ⟨α, fun y => ⟨tmS y, hpOf (fun _ => none) (rows y), nx, gh⟩, J, m, x0, h0, hJ, hr⟩
theorem loop_at {P : Program} {c : Code} {Q : Exit → St → Prop} {tm : List V} {l : List (Nat × Option Blk)} {nx : Nat} {gh : Gh} {α : Type} (ids : List Nat) (sl : α → List (Nat × V)) (J : α → Prop) (m : α → Nat) (x0 : α) {tmS : α → List V}
   (ht : ∀ x, slotT (forgetT tm ids) (sl x) = tmS x) (h0 : Weak ⟨tm, hpOf (fun _ => none) l, nx, gh⟩ ⟨tmS x0, hpOf (fun _ => none) l, nx, gh⟩) (hJ : J x0)
   (hr : ∀ x, J x → awp P c (thenQ (Nxt J m (fun y => ⟨tmS y, hpOf (fun _ => none) l, nx, gh⟩) x) Q) ⟨tmS x, hpOf (fun _ => none) l, nx, gh⟩) : LoopA (awp P c) Q ⟨tm, hpOf (fun _ => none) l, nx, gh⟩ :=
 ⟨α, fun y => ⟨tmS y, hpOf (fun _ => none) l, nx, gh⟩, J, m, x0, h0, hJ, hr⟩
attribute [go_sem] PuL_nil PuL_cons PuE_nil PuE_cons PuE_map PuL_map PuE_append PuL_append Pu_lit_t Pu_undef_t Pu_agg' Pu_sl' Pu_rp' Pu_fn' Pu_tup' and_self implies_true
end Go.Aw
end
section
namespace Go.Aw
open Go.RowKit
def idOf : V → List Nat
 | .ref id _ _ _ => [id]
 | .os id _ _ _ => [id]
 | .mp id => [id]
 | _ => []
def idMp : V → List Nat
 | .mp id => [id]
 | _ => []
@[go_sem] theorem idMp_sl (k : Nat) (es : List (List V)) (ex : Bool) : idMp (.sl k es ex) = [] := rfl
@[go_sem] theorem idOf_ref (id k i off : Nat) : idOf (.ref id k i off) = [id] := rfl
@[go_sem] theorem idOf_os (id k n : Nat) (ex : Bool) : idOf (.os id k n ex) = [id] := rfl
@[go_sem] theorem idOf_sl (k : Nat) (es : List (List V)) (ex : Bool) : idOf (.sl k es ex) = [] := rfl
@[go_sem] theorem idOf_rp (cs : List V) : idOf (.rp cs) = [] := rfl
@[go_sem] theorem restr_cons (i : Nat) (r : List Nat) (h : Hp) (j : Nat) : restr (i :: r) h j = if j = i then h j else restr r h j := by
 simp only [restr, List.mem_cons]
 by_cases e : j = i
 · simp [e]
 · simp [e]
@[go_sem] theorem restr_nil (h : Hp) (j : Nat) : restr [] h j = none := by simp [restr]
def footOf (tm : List V) : Op → List Nat
 | .load _ x => idOf (evT tm x)
 | .store _ x _ => idOf (evT tm x)
 | .slice _ x _ _ _ => idOf (evT tm x)
 | .lookup _ x _ _ => idOf (evT tm x)
 | .mapUpdate _ x _ _ => idOf (evT tm x)
 | .call ⟨.builtin .len, args, _⟩ => match args.toList with
   | [x] => idMp (evT tm x)
   | _ => []
 | .call ⟨.builtin .append, args, _⟩ => match args.toList with
   | [x, y] => idOf (evT tm x) ++ idOf (evT tm y)
   | _ => []
 | _ => []
inductive CallD (P : Program) (vf : V) (vas : List V) (h : Hp) (nx : Nat) (K : V → List Nat → Wr → Prop) : Prop
 | mk (g : FuncId) (first cap args' : List V) (r : V) (foot : List Nat) (hv : vf = .fn (.func g) first cap) (hp : PurL false (restr foot h) (first ++ vas ++ cap) args' ∧ Cl r ∨ PurL true (restr foot h) (first ++ vas ++ cap) args' ∧ Pu r) (hc : CallsTo P g args' r)
     (hb : ∃ fn, P.funcs[g]? = some fn ∧ fn.body.isSome = true ∧ fn.name ≠ "runtime.NumGoroutine") (hk : K r foot [])
 | frozen (ids : List Nat) (g : FuncId) (first cap args' : List V) (r : V) (foot : List Nat) (hv : vf = .fn (.func g) first cap) (hf : ∀ id ∈ ids, ∃ b, restr foot h id = some b) (hp : PurL true (frz ids (restr foot h)) (first ++ vas ++ cap) args' ∧ Pu r) (hc : CallsTo P g args' r)
     (hb : ∃ fn, P.funcs[g]? = some fn ∧ fn.body.isSome = true ∧ fn.name ≠ "runtime.NumGoroutine") (hk : K r foot (ids.map fun id => (id, frz ids (restr foot h) id)))
 | fresh (ids : List Nat) (g : FuncId) (first cap args' : List V) (r : V) (foot : List Nat) (rows : Wr) (hv : vf = .fn (.func g) first cap) (hf : ∀ id ∈ ids, ∃ b, restr foot h id = some b) (hp : PurL true (frz ids (restr foot h)) (first ++ vas ++ cap) args') (hc : FreshC P g args' r rows nx)
     (hb : ∃ fn, P.funcs[g]? = some fn ∧ fn.body.isSome = true ∧ fn.name ≠ "runtime.NumGoroutine") (hk : K r foot (ids.map (fun id => (id, frz ids (restr foot h) id)) ++ rows))
def calleeOf : Op → Option (Operand × List Operand)
 | .call ⟨.value f, args, _⟩ => some (f, args.toList)
 | _ => none
def drawsF (P : Program) (ops : Array Oper) (nx0 : Nat) (K : St → Prop) : List Oper → List Ent → St → Prop
 | [], es, st => drawOk ops es.reverse nx0 = true ∧ K st
 | o :: rest, es, st =>
   match guardOk ops st o with
   | some false => drawsF P ops nx0 K rest (⟨o.dst, .tup [], [], []⟩ :: es) ⟨putT st.tmps o.dst (.tup []), st.h, st.nx + 64, st.gh⟩
   | some true => match calleeOf o.op with
     | some (f, args) => match rest with
       | o2 :: rest2 => CallD P (evT st.tmps f) (mapEv st.tmps args) st.h st.nx fun r foot wr => drawsF P ops nx0 K (o2 :: rest2) (⟨o.dst, r, wr, foot⟩ :: es) ⟨putT st.tmps o.dst r, applyWr st.h wr, st.nx + 64, st.gh⟩
       | [] => CallD P (evT st.tmps f) (mapEv st.tmps args) st.h st.nx (fun r foot wr => drawOk ops (⟨o.dst, r, wr, foot⟩ :: es).reverse nx0 = true ∧ K ⟨putT st.tmps o.dst r, applyWr st.h wr, st.nx + 64, st.gh⟩) ∨
           (drawLast ops es.reverse nx0 = true ∧ CallA P (evT st.tmps f) (mapEv st.tmps args) o.dst (fun st' => K ⟨st'.tmps, st'.h, st'.nx + 64, st'.gh⟩) st)
     | none => match act P (evT st.tmps) o.op (restr (footOf st.tmps o.op) st.h) st.nx with
       | some e => Req e.c (drawsF P ops nx0 K rest (⟨o.dst, e.v, e.wr, footOf st.tmps o.op⟩ :: es) ⟨putT st.tmps o.dst e.v, applyWr st.h e.wr, st.nx + 64, st.gh⟩)
       | none => False
   | none => False
theorem calleeOf_none {op : Op} (h : calleeOf op = none) : isVCall op = false := by
 unfold calleeOf at h
 split at h
 · cases h
 · rename_i hne
   unfold isVCall
   split
   · rename_i f args tys; exact absurd rfl (hne f args tys)
   · rfl
theorem drawsF_draws {P : Program} {ops : Array Oper} {nx0 : Nat} {K : St → Prop} : ∀ (l : List Oper) (es : List Ent) (st : St), drawsF P ops nx0 K l es st → Draws P ops nx0 K l es.reverse st := by
 intro l
 induction l with
 | nil => intro es st h; exact .nil _ _ h.1 h.2
 | cons o rest ih =>
   intro es st h
   have hev : st.ev = evT st.tmps := funext fun x => ev_mk ..
   have next : ∀ e : Ent, EntOk P ops o st e → drawsF P ops nx0 K rest (e :: es) ⟨putT st.tmps e.dst e.v, applyWr st.h e.wr, st.nx + 64, st.gh⟩ → Draws P ops nx0 K (o :: rest) es.reverse st := fun e he hk => by
     have := ih _ _ hk
     rw [List.reverse_cons] at this
     exact .cons o rest _ st e he this
   rw [drawsF] at h
   split at h
   · rename_i hg
     exact next ⟨o.dst, .tup [], [], []⟩ ⟨rfl, .inl ⟨hg, rfl, rfl⟩⟩ h
   · rename_i hg
     split at h
     · rename_i f args hc
       unfold calleeOf at hc
       split at hc
       case h_2 => cases hc
       rename_i f' args0 tys ho
       cases hc
       have call : ∀ (K' : V → List Nat → Wr → Prop), CallD P (evT st.tmps f) (mapEv st.tmps args0.toList) st.h st.nx K' → (∀ r foot wr, K' r foot wr → drawsF P ops nx0 K rest (⟨o.dst, r, wr, foot⟩ :: es) ⟨putT st.tmps o.dst r, applyWr st.h wr, st.nx + 64, st.gh⟩) → Draws P ops nx0 K (o :: rest) es.reverse st := by
         intro K' hcall hK
         rcases hcall with ⟨g, first, cap, args', r, foot, e1, e2, e3, e5, e6⟩ | ⟨ids, g, first, cap, args', r, foot, e1, e0, e2, e3, e5, e6⟩ | ⟨ids, g, first, cap, args', r, foot, rows, e1, e0, e2, e3, e5, e6⟩
         · rw [mapEv_eq] at e2
           exact next ⟨o.dst, r, [], foot⟩ ⟨rfl, .inr (.inr (.inl ⟨hg, rfl, f, args0, tys, g, first, cap, args', ho, by rw [hev]; exact e1, by rw [hev]; exact e2, e3, e5⟩))⟩ (hK r foot [] e6)
         · rw [mapEv_eq] at e2
           exact next ⟨o.dst, r, ids.map fun id => (id, frz ids (restr foot st.h) id), foot⟩ ⟨rfl, .inr (.inr (.inr (.inl ⟨hg, ids, e0, rfl, f, args0, tys, g, first, cap, args', ho, by rw [hev]; exact e1, by rw [hev]; exact e2, e3, e5⟩)))⟩ (hK r foot _ e6)
         · rw [mapEv_eq] at e2
           exact next ⟨o.dst, r, ids.map (fun id => (id, frz ids (restr foot st.h) id)) ++ rows, foot⟩ ⟨rfl, .inr (.inr (.inr (.inr ⟨hg, ids, rows, e0, rfl, f, args0, tys, g, first, cap, args', ho, by rw [hev]; exact e1, by rw [hev]; exact e2, e3, e5⟩)))⟩ (hK r foot _ e6)
       split at h
       · exact call _ h fun r foot wr h => h
       · rcases h with h | ⟨h2, h3⟩
         · exact call _ h fun r foot wr h => h
         · refine .last o _ st h2 hg ?_
           unfold awpOp
           rw [ho]
           simp only [hev, ← mapEv_eq]
           exact h3
     · rename_i hc
       split at h
       · rename_i e he
         exact next ⟨o.dst, e.v, e.wr, footOf st.tmps o.op⟩ ⟨rfl, .inr (.inl ⟨hg, calleeOf_none hc, e.c, by rw [hev]; exact he, h.1⟩)⟩ h.2
       · exact h.elim
   · exact h.elim
theorem wk_draw {P : Program} {Q : Exit → St → Prop} {id : Nat} {l : List Oper} {tm : List V} {h : Hp} {nx : Nat} {gh : Gh} (hm : P.follows .mixedOrders = true) (hd : drawsF P (List.toArray l) nx (Q .normal) l [] ⟨tm, h, nx, gh⟩) : awp P (.region id (List.toArray l) true) Q ⟨tm, h, nx, gh⟩ :=
 ⟨hm, drawsF_draws _ _ _ hd⟩
section
variable {P : Program} {ops : Array Oper} {nx0 : Nat} {rest : List Oper} {K : St → Prop} {dst : Option Tmp} {ty : TypeId} {pos : String} {after : Array Edge} {tm : List V} {h : Hp} {nx : Nat} {gh : Gh} {es : List Ent}
def stepD (P : Program) (ops : Array Oper) (nx0 : Nat) (K : St → Prop) (rest : List Oper) (dst : Option Tmp) (foot : List Nat) (es : List Ent) (st : St) (e : Option Eff) : Prop :=
 match e with
 | some e => Req e.c (drawsF P ops nx0 K rest (⟨dst, e.v, e.wr, foot⟩ :: es) ⟨putT st.tmps dst e.v, applyWr st.h e.wr, st.nx + 64, st.gh⟩)
 | none => False
@[congr] theorem stepD_congr {foot foot' : List Nat} {st : St} {e e' : Option Eff} (hf : foot = foot') (he : e = e') : stepD P ops nx0 K rest dst foot es st e = stepD P ops nx0 K rest dst foot' es st e' := by rw [hf, he]
@[congr] theorem drawsF_congr {l : List Oper} {st st' : St} (hs : st = st') : drawsF P ops nx0 K l es st = drawsF P ops nx0 K l es st' := by rw [hs]
@[go_sem] theorem stepD_some {foot : List Nat} {c : Prop} {v : V} {wr : Wr} : stepD P ops nx0 K rest dst foot es ⟨tm, h, nx, gh⟩ (some ⟨c, v, wr⟩) = Req c (drawsF P ops nx0 K rest (⟨dst, v, wr, foot⟩ :: es) ⟨putT tm dst v, applyWr h wr, nx + 64, gh⟩) := rfl
theorem stepD_val {foot : List Nat} {v : V} : stepD P ops nx0 K rest dst foot es ⟨tm, h, nx, gh⟩ (some (.val v)) = drawsF P ops nx0 K rest (⟨dst, v, [], foot⟩ :: es) ⟨putT tm dst v, h, nx + 64, gh⟩ := by
 show Req True _ = _
 simp [Req_true]; rfl
theorem dr_act (op : Op) (hv : calleeOf op = none) : drawsF P ops nx0 K (⟨dst, op, ty, pos, after, none⟩ :: rest) es ⟨tm, h, nx, gh⟩ = stepD P ops nx0 K rest dst (footOf tm op) es ⟨tm, h, nx, gh⟩ (act P (evT tm) op (restr (footOf tm op) h) nx) := by
 rw [drawsF]
 simp only [guardOk, hv]
 rfl
section
variable {x y z : Operand} {t u : TypeId}
@[go_sem] theorem dr_move : drawsF P ops nx0 K (⟨dst, .move x, ty, pos, after, none⟩ :: rest) es ⟨tm, h, nx, gh⟩ = drawsF P ops nx0 K rest (⟨dst, (evT tm x), [], []⟩ :: es) ⟨putT tm dst (evT tm x), h, nx + 64, gh⟩ := by
 rw [dr_act _ rfl]; exact stepD_val
@[go_sem] theorem dr_assign : drawsF P ops nx0 K (⟨dst, .assign x, ty, pos, after, none⟩ :: rest) es ⟨tm, h, nx, gh⟩ = drawsF P ops nx0 K rest (⟨dst, (evT tm x), [], []⟩ :: es) ⟨putT tm dst (evT tm x), h, nx + 64, gh⟩ := by
 rw [dr_act _ rfl]; exact stepD_val
@[go_sem] theorem dr_pick : drawsF P ops nx0 K (⟨dst, .pick x y z, ty, pos, after, none⟩ :: rest) es ⟨tm, h, nx, gh⟩ = stepD P ops nx0 K rest dst [] es ⟨tm, h, nx, gh⟩ (actPick (evT tm x) (evT tm y) (evT tm z)) := dr_act _ rfl
@[go_sem] theorem dr_alloc : drawsF P ops nx0 K (⟨dst, .alloc t, ty, pos, after, none⟩ :: rest) es ⟨tm, h, nx, gh⟩ = stepD P ops nx0 K rest dst [] es ⟨tm, h, nx, gh⟩ (actAlloc P t nx) := dr_act _ rfl
@[go_sem] theorem dr_build {ps : List (Nat × Operand)} : drawsF P ops nx0 K (⟨dst, .build t (List.toArray ps), ty, pos, after, none⟩ :: rest) es ⟨tm, h, nx, gh⟩ = stepD P ops nx0 K rest dst [] es ⟨tm, h, nx, gh⟩ (actBuild P t (partsEv tm ps)) := by
 rw [dr_act _ rfl, partsEv_eq]; rfl
@[go_sem] theorem dr_buildSlice {n : Nat} {ps : List (Nat × Operand)} : drawsF P ops nx0 K (⟨dst, .buildSlice t n (List.toArray ps), ty, pos, after, none⟩ :: rest) es ⟨tm, h, nx, gh⟩ = stepD P ops nx0 K rest dst [] es ⟨tm, h, nx, gh⟩ (actBuildSlice P t n (partsEv tm ps) nx) := by
 rw [dr_act _ rfl, partsEv_eq]; rfl
@[go_sem] theorem dr_load : drawsF P ops nx0 K (⟨dst, .load t x, ty, pos, after, none⟩ :: rest) es ⟨tm, h, nx, gh⟩ = stepD P ops nx0 K rest dst (idOf (evT tm x)) es ⟨tm, h, nx, gh⟩ (actLoad P t (evT tm x) (restr (idOf (evT tm x)) h)) := dr_act _ rfl
@[go_sem] theorem dr_store : drawsF P ops nx0 K (⟨dst, .store t x y, ty, pos, after, none⟩ :: rest) es ⟨tm, h, nx, gh⟩ = stepD P ops nx0 K rest dst (idOf (evT tm x)) es ⟨tm, h, nx, gh⟩ (actStore P t (evT tm x) (evT tm y) (restr (idOf (evT tm x)) h)) := dr_act _ rfl
@[go_sem] theorem dr_nilCheck : drawsF P ops nx0 K (⟨dst, .nilCheck x, ty, pos, after, none⟩ :: rest) es ⟨tm, h, nx, gh⟩ = stepD P ops nx0 K rest dst [] es ⟨tm, h, nx, gh⟩ (actNil (evT tm x)) := dr_act _ rfl
@[go_sem] theorem dr_binOp {op : BinOp} : drawsF P ops nx0 K (⟨dst, .binOp op t x y u, ty, pos, after, none⟩ :: rest) es ⟨tm, h, nx, gh⟩ = stepD P ops nx0 K rest dst [] es ⟨tm, h, nx, gh⟩ (actBin P op t (evT tm x) (evT tm y)) := dr_act _ rfl
@[go_sem] theorem dr_unOp {op : UnOp} : drawsF P ops nx0 K (⟨dst, .unOp op t x, ty, pos, after, none⟩ :: rest) es ⟨tm, h, nx, gh⟩ = stepD P ops nx0 K rest dst [] es ⟨tm, h, nx, gh⟩ (actUn op (evT tm x)) := dr_act _ rfl
@[go_sem] theorem dr_fieldAddr {f : Nat} : drawsF P ops nx0 K (⟨dst, .fieldAddr t x f, ty, pos, after, none⟩ :: rest) es ⟨tm, h, nx, gh⟩ = stepD P ops nx0 K rest dst [] es ⟨tm, h, nx, gh⟩ (actFieldAddr P t (evT tm x) f) := dr_act _ rfl
@[go_sem] theorem dr_indexAddr : drawsF P ops nx0 K (⟨dst, .indexAddr t x y, ty, pos, after, none⟩ :: rest) es ⟨tm, h, nx, gh⟩ = stepD P ops nx0 K rest dst [] es ⟨tm, h, nx, gh⟩ (actIndexAddr P t (evT tm x) (evT tm y)) := dr_act _ rfl
@[go_sem] theorem dr_len : drawsF P ops nx0 K (⟨dst, .call ⟨.builtin .len, List.toArray [x], List.toArray [t]⟩, ty, pos, after, none⟩ :: rest) es ⟨tm, h, nx, gh⟩ = stepD P ops nx0 K rest dst (idMp (evT tm x)) es ⟨tm, h, nx, gh⟩ (actLen2 P t (evT tm x) (restr (idMp (evT tm x)) h)) := dr_act _ rfl
@[go_sem] theorem dr_append {ts : List TypeId} : drawsF P ops nx0 K (⟨dst, .call ⟨.builtin .append, List.toArray [x, y], List.toArray ts⟩, ty, pos, after, none⟩ :: rest) es ⟨tm, h, nx, gh⟩ = stepD P ops nx0 K rest dst (idOf (evT tm x) ++ idOf (evT tm y)) es ⟨tm, h, nx, gh⟩ (actAppend P ts (evT tm x) (evT tm y) (restr (idOf (evT tm x) ++ idOf (evT tm y)) h) nx) := dr_act _ rfl
end
def DrawEnd (ops : Array Oper) (es : List Ent) (nx0 : Nat) (K : Prop) : Prop := drawOk ops es.reverse nx0 = true ∧ K
theorem drawEnd {es : List Ent} {K : Prop} (h : drawOk ops es.reverse nx0 = true) (k : K) : DrawEnd ops es nx0 K := ⟨h, k⟩
@[go_sem] theorem dr_nil {st : St} : drawsF P ops nx0 K [] es st = DrawEnd ops es nx0 (K st) := rfl
@[go_sem] theorem dr_call {f : Operand} {xs : List Operand} {ts : Array TypeId} {o2 : Oper} : drawsF P ops nx0 K (⟨dst, .call ⟨.value f, List.toArray xs, ts⟩, ty, pos, after, none⟩ :: o2 :: rest) es ⟨tm, h, nx, gh⟩ =
   CallD P (evT tm f) (mapEv tm xs) h nx fun r foot wr => drawsF P ops nx0 K (o2 :: rest) (⟨dst, r, wr, foot⟩ :: es) ⟨putT tm dst r, applyWr h wr, nx + 64, gh⟩ := by
 rw [drawsF]
 simp only [guardOk, calleeOf, List.toList_toArray]
def CallL (P : Program) (ops : Array Oper) (nx0 : Nat) (K : St → Prop) (es : List Ent) (vf : V) (vas : List V) (dst : Option Tmp) (st : St) : Prop :=
 CallD P vf vas st.h st.nx (fun r foot wr => drawOk ops (⟨dst, r, wr, foot⟩ :: es).reverse nx0 = true ∧ K ⟨putT st.tmps dst r, applyWr st.h wr, st.nx + 64, st.gh⟩) ∨
   (drawLast ops es.reverse nx0 = true ∧ CallA P vf vas dst (fun st' => K ⟨st'.tmps, st'.h, st'.nx + 64, st'.gh⟩) st)
@[congr] theorem CallL_congr {f f' : V} {as as' : List V} {st st' : St} (hf : f = f') (ha : as = as') (hs : st = st') : CallL P ops nx0 K es f as dst st = CallL P ops nx0 K es f' as' dst st' := by rw [hf, ha, hs]
theorem callL_last {vf : V} {vas : List V} {st : St} (h : drawLast ops es.reverse nx0 = true) (k : CallA P vf vas dst (fun st' => K ⟨st'.tmps, st'.h, st'.nx + 64, st'.gh⟩) st) : CallL P ops nx0 K es vf vas dst st := .inr ⟨h, k⟩
@[go_sem] theorem dr_callL {f : Operand} {xs : List Operand} {ts : Array TypeId} : drawsF P ops nx0 K [⟨dst, .call ⟨.value f, List.toArray xs, ts⟩, ty, pos, after, none⟩] es ⟨tm, h, nx, gh⟩ =
   CallL P ops nx0 K es (evT tm f) (mapEv tm xs) dst ⟨tm, h, nx, gh⟩ := by
 rw [drawsF]
 simp only [guardOk, calleeOf, List.toList_toArray, CallL]
@[congr] theorem CallD_congr {f f' : V} {as as' : List V} {h' : Hp} {K' : V → List Nat → Wr → Prop} (hf : f = f') (ha : as = as') (hh : h = h') : CallD P f as h nx K' = CallD P f' as' h' nx K' := by rw [hf, ha, hh]
def stepDG (P : Program) (ops : Array Oper) (nx0 : Nat) (K : St → Prop) (o : Oper) (rest : List Oper) (es : List Ent) (st : St) (g : Option Bool) : Prop :=
 match g with
 | some true => drawsF P ops nx0 K (o :: rest) es st
 | some false => drawsF P ops nx0 K rest (⟨o.dst, .tup [], [], []⟩ :: es) ⟨putT st.tmps o.dst (.tup []), st.h, st.nx + 64, st.gh⟩
 | none => False
@[congr] theorem stepDG_congr {o : Oper} {st : St} {g g' : Option Bool} (hg : g = g') : stepDG P ops nx0 K o rest es st g = stepDG P ops nx0 K o rest es st g' := by rw [hg]
@[go_sem] theorem stepDG_true {o : Oper} {st : St} : stepDG P ops nx0 K o rest es st (some true) = drawsF P ops nx0 K (o :: rest) es st := rfl
@[go_sem] theorem stepDG_false {op : Op} {g : Option (Nat × Bool)} : stepDG P ops nx0 K ⟨dst, op, ty, pos, after, g⟩ rest es ⟨tm, h, nx, gh⟩ (some false) = drawsF P ops nx0 K rest (⟨dst, .tup [], [], []⟩ :: es) ⟨putT tm dst (.tup []), h, nx + 64, gh⟩ := rfl
theorem stepDG_if {o : Oper} {st : St} {b : Bool} (ht : b = true → stepDG P ops nx0 K o rest es st (some true)) (hf : b = false → stepDG P ops nx0 K o rest es st (some false)) : stepDG P ops nx0 K o rest es st (some b) := by
 cases b
 · exact hf rfl
 · exact ht rfl
theorem stepDG_ifN {o : Oper} {st : St} {b : Bool} (hf : b = true → stepDG P ops nx0 K o rest es st (some false)) (ht : b = false → stepDG P ops nx0 K o rest es st (some true)) : stepDG P ops nx0 K o rest es st (some (!b)) := by
 cases b
 · exact ht rfl
 · exact hf rfl
@[go_sem] theorem dr_guard {l : List Oper} {op : Op} {j : Nat} {want : Bool} : drawsF P (List.toArray l) nx0 K (⟨dst, op, ty, pos, after, some (j, want)⟩ :: rest) es ⟨tm, h, nx, gh⟩ = stepDG P (List.toArray l) nx0 K ⟨dst, op, ty, pos, after, none⟩ rest es ⟨tm, h, nx, gh⟩ (gV tm want (dstL l j)) := by
 rw [drawsF]
 have e : guardOk (List.toArray l) ⟨tm, h, nx, gh⟩ ⟨dst, op, ty, pos, after, some (j, want)⟩ = gV tm want (dstL l j) := by
   simp only [guardOk, gV, dstL_eq, List.getElem?_toArray, getT_eq, gW_eq]
   try (cases (l[j]?).bind (fun x => x.dst) <;> rfl)
 rw [e]
 cases gV tm want (dstL l j) with
 | none => rfl
 | some g =>
   cases g with
   | true =>
     rw [stepDG_true, drawsF]
     simp only [guardOk]
   | false => rfl
end
end Go.Aw
end
section
namespace Go.Aw
open Go.RowKit
section
variable {P : Program} {g : FuncId} {first cap args as as' : List V} {dst : Option Tmp} {K : St → Prop} {tm : List V} {h h' : Hp} {nx : Nat} {gh : Gh} {r : V}
theorem frz_nil (h : Hp) : frz [] h = h := by funext i; simp [frz]
theorem call_pu (ha : first ++ args ++ cap = as) (hp : PuL as) (hc : Ct P g as r) (hr : Pu r) (hk : K ⟨putT tm dst r, h, nx, gh⟩) : CallA P (.fn (.func g) first cap) args dst K ⟨tm, h, nx, gh⟩ := by
 subst ha
 refine callA_frozen [] hc.1 hr hc.2 (frz_nil h) (.pu _ hp) rfl hk
theorem call_cl (ha : first ++ args ++ cap = as) (hp : PurI false h as as') (hc : Ct P g as' r) (hr : Cl r) (hk : K ⟨putT tm dst r, h, nx, gh⟩) : CallA P (.fn (.func g) first cap) args dst K ⟨tm, h, nx, gh⟩ := by
 subst ha
 exact callA_closed hc.1 hr hc.2 hp rfl hk
theorem call_fz (ids : List Nat) {l l' : List (Nat × Option Blk)} (hl : frzL ids l = l') (ha : first ++ args ++ cap = as) (hp : PurI true (hpOf (fun _ => none) l') as as') (hc : Ct P g as' r) (hr : Pu r) (hk : K ⟨putT tm dst r, hpOf (fun _ => none) l', nx, gh⟩) :
   CallA P (.fn (.func g) first cap) args dst K ⟨tm, hpOf (fun _ => none) l, nx, gh⟩ := by
 subst ha hl
 exact callA_frozen ids hc.1 hr hc.2 (frz_hpOf _ _) hp rfl hk
theorem call_d {K : V → List Nat → Wr → Prop} (foot : List Nat) (ha : first ++ args ++ cap = as) (hp : PurI false (restr foot h) as as') (hc : Ct P g as' r) (hr : Cl r) (hk : K r foot []) : CallD P (.fn (.func g) first cap) args h nx K := by
 subst ha
 exact .mk g first cap as' r foot rfl (.inl ⟨hp.spec, hr⟩) hc.1 hc.2 hk
theorem call_dp {K : V → List Nat → Wr → Prop} (ha : first ++ args ++ cap = as) (hp : PuL as) (hc : Ct P g as r) (hr : Pu r) (hk : K r [] []) : CallD P (.fn (.func g) first cap) args h nx K := by
 subst ha
 exact .mk g first cap _ r [] rfl (.inr ⟨(PurI.pu _ hp).spec, hr⟩) hc.1 hc.2 hk
theorem call_df {K : V → List Nat → Wr → Prop} (id : Nat) (foot : List Nat) {b : Blk} (ha : first ++ args ++ cap = as) (hf : restr foot h id = some b) (hp : PurI true (frz [id] (restr foot h)) as as') (hc : Ct P g as' r) (hr : Pu r) (hk : K r foot [(id, frz [id] (restr foot h) id)]) : CallD P (.fn (.func g) first cap) args h nx K := by
 subst ha
 exact .frozen [id] g first cap as' r foot rfl (fun i hi => ⟨b, by rw [List.mem_singleton.1 hi]; exact hf⟩) ⟨hp.spec, hr⟩ hc.1 hc.2 hk
end
def ClL (cs : List V) : Prop := ∀ c ∈ cs, Cl c
@[go_sem] theorem Cl_lit' (v : Value) : Cl (.lit v) = True := by simp
@[go_sem] theorem frzL_nil (ids : List Nat) : frzL ids [] = [] := rfl
@[go_sem] theorem frzL_cons (ids : List Nat) (i : Nat) (b : Option Blk) (r : List (Nat × Option Blk)) : frzL ids ((i, b) :: r) = (i, if ids.contains i then b.map frzB else b) :: frzL ids r := rfl
@[go_sem] theorem frzB_wr (k : Nat) (es : List (List V)) (ty : TypeId) : frzB ⟨k, es, ty, .wr⟩ = ⟨k, es, ty, .fz⟩ := rfl
@[go_sem] theorem contains_nil (i : Nat) : ([] : List Nat).contains i = false := rfl
@[go_sem] theorem contains_cons (a i : Nat) (l : List Nat) : (a :: l).contains i = (i == a || l.contains i) := List.contains_cons
theorem callsTo_of_callZ {P : Program} {g : FuncId} {args : List V} {r : V} (hp : Pu r) (h : CallH P g args (fun _ => none) 0 fun r' h' _ => ∃ ids, Pur true (frz ids h') r' r) : CallsTo P g args r := by
 intro w ok vals hok hgl hsz hrep
 have hrh : RH w (fun _ => False) ok (fun _ => none) (fun _ => none) := ⟨hok, fun b hb => hb.elim, (fun id B hB => by cases hB), (fun id b hb => by cases hb), (fun id1 id2 b1 b2 B h1 => by cases h1), hgl⟩
 refine CallsIn.mono (h w _ ok _ vals hrh (fun id _ => ⟨rfl, rfl⟩) hsz hrep) ?_
 rintro e w' ⟨v, r', h', nx', own', ok', s', rfl, ⟨ids, hpr⟩, g1, g2, g3, g4, g5, g6⟩
 obtain ⟨ok2, k1, k2⟩ := g1.frzAll ids
 have h1 := (hpr.rep k1 (g2.evol k2 (fun _ _ h => h))).pu hp (s' := fun _ => none)
 refine ⟨v, own', ok2, rfl, g3.trans k2, k1.okw, h1.keep (fun b o hb => ⟨?_, rfl⟩) (fun _ _ _ h => h) (fun _ _ h => h)⟩
 rcases hb with hb | ⟨hb, _⟩
 · exact hb
 · cases hb
theorem ct_enterZ {P : Program} {g : FuncId} {fn : Func} {c : Code} {rs : List ResultVar} {n : Nat} {args tm : List V} {r : V} (hf : P.funcs[g]? = some fn) (hb : fn.body = some c) (hn : fn.name ≠ "runtime.NumGoroutine") (hr : fn.results = List.toArray rs) (hnt : fn.ntmps = n)
   (hp : Pu r) (ha : decide (args.length ≤ n) = true) (ht : initT n args = tm) (hw : ∀ base, awp P c (RetB P rs fun r' h' _ => ∃ ids, Pur true (frz ids h') r' r) ⟨tm, hpOf (fun _ => none) [], 0, { base := base }⟩) : Ct P g args r := by
 subst hnt ht
 have ha := of_decide_eq_true ha
 refine ⟨callsTo_of_callZ hp ?_, fn, hf, by rw [hb]; rfl, hn⟩
 refine callH_of_awp hf hb ha fun base => ?_
 rw [retB_eq (rs := rs) (by rw [hr]), ← initT_eq _ _ ha]
 exact hw base
theorem ret_z {l l' : List (Nat × Option Blk)} {r r' : V} (ids : List Nat) (hl : frzL ids l = l') (hp : Pur true (hpOf (fun _ => none) l') r' r) : ∃ ids, Pur true (frz ids (hpOf (fun _ => none) l)) r' r := ⟨ids, by rw [frz_hpOf, hl]; exact hp⟩
theorem ret_fz {P : Program} {Post : V → Hp → Nat → Prop} {tm : List V} {l l' : List (Nat × Option Blk)} {nx : Nat} {gh : Gh} (ids : List Nat) {ts : List Tmp} {ds ds' : List V} (hnd : decide ts.Nodup = true) (hlt : (ts.all fun t => decide (t < tm.length)) = true)
   (hv : mapEv tm (ts.map .tmp) = ds) (hl : frzL ids l = l') (hp : PurI true (hpOf (fun _ => none) l') ds ds') (hpu : PuL ds') (hP : Post (retV ds') (hpOf (fun _ => none) l') nx) : RetB P (ts.map .tmp) Post .ret ⟨tm, hpOf (fun _ => none) l, nx, gh⟩ := by
 subst hl
 have hv' : ts.map (fun t => tm.getD t .undef) = ds := by rw [← hv, mapEv_eq, List.map_map]; rfl
 let fn : Func := { (default : Func) with results := List.toArray (ts.map .tmp) }
 have := retA_snap (P := P) (fn := fn) (Post := Post) (gh := gh) (nx := nx) ids (ts := ts) (ds := ds) rfl hnd hlt hv' (frz_hpOf ids l) hp hpu hP
 rw [retB_eq (fn := fn) (rs := ts.map .tmp) rfl] at this
 exact this
end Go.Aw
end
section
namespace Go.Aw
open Go.RowKit
def ItO (P : Program) (f : FuncId) (cap : List V) (rows : List (Nat × Option Blk)) (nx : Nat) (Ys : List (List V)) : Prop := IterTo P f (fun l => [yieldV l] ++ cap) (hpOf (fun _ => none) rows) nx Ys ∧ ∃ fn, P.funcs[f]? = some fn ∧ fn.body.isSome = true ∧ fn.name ≠ "runtime.NumGoroutine"
def It (P : Program) (f : FuncId) (cap : List V) (Ys : List (List V)) : Prop := ItO P f cap [] 0 Ys
theorem it_enterO {P : Program} {g : FuncId} {fn : Func} {c : Code} {n : Nat} {cap : List V} {rows : List (Nat × Option Blk)} {nx : Nat} {tm : Nat → List V} {Ys : List (List V)} (hf : P.funcs[g]? = some fn) (hb : fn.body = some c) (hn : fn.name ≠ "runtime.NumGoroutine") (hr : fn.results = #[]) (hnt : fn.ntmps = n)
   (ha : decide (cap.length + 1 ≤ n) = true) (ht : ∀ l, initT n (yieldV l :: cap) = tm l) (hw : ∀ (base : Base) l, awp P c (RetI Ys) ⟨tm l, hpOf (fun _ => none) rows, nx, ⟨0, false, base, 0, l, Ys, false⟩⟩) : ItO P g cap rows nx Ys := by
 subst hnt
 have ha := of_decide_eq_true ha
 refine ⟨iterTo_of_awp hf hb hr (fun l => by simpa using ha) fun base l => ?_, fn, hf, by rw [hb]; rfl, hn⟩
 have := hw base l
 rw [← ht, initT_eq _ _ (by simpa using ha)] at this
 exact this
@[congr] theorem RetI_congr {Ys : List (List V)} {e : Exit} {st st' : St} (hs : st = st') : RetI Ys e st = RetI Ys e st' := by rw [hs]
theorem retI {Ys : List (List V)} {tm : List V} {h : Hp} {nx : Nat} {n : Nat} {stop : Bool} {base : Base} {lim yl : Nat} {ys : List (List V)} {inr : Bool} (hs : stop = false → n = Ys.length) : RetI Ys .ret ⟨tm, h, nx, ⟨n, stop, base, lim, yl, ys, inr⟩⟩ := hs
theorem retIN {Ys : List (List V)} {tm : List V} {h : Hp} {nx : Nat} {n : Nat} {stop : Bool} {base : Base} {lim yl : Nat} {ys : List (List V)} {inr : Bool} (hs : stop = false → n = Ys.length) : RetI Ys .normal ⟨tm, h, nx, ⟨n, stop, base, lim, yl, ys, inr⟩⟩ := hs
theorem call_yield {P : Program} {args rs : List V} {dst : Option Tmp} {K : St → Prop} {tm : List V} {l l' : List (Nat × Option Blk)} {nx : Nat} {base : Base} {n lim yl : Nat} {ys : List (List V)} {inr : Bool} (ids : List Nat) (hl : frzL ids l = l') (hy : ys[n]? = some rs) (hp : PurI true (hpOf (fun _ => none) l') args rs)
   (hk : ∀ b : Bool, K ⟨putT tm dst (.lit (.bool b)), hpOf (fun _ => none) l', nx, ⟨n + 1, !b, base, lim, yl, ys, inr⟩⟩) : CallA P (yieldV yl) args dst K ⟨tm, hpOf (fun _ => none) l, nx, ⟨n, false, base, lim, yl, ys, inr⟩⟩ := by
 subst hl
 refine .yield ids yl args rs dst K _ rfl rfl hy (by rw [frz_hpOf]; exact hp.spec) fun b => ?_
 rw [frz_hpOf, put_mk]
 exact hk b
theorem yieldV_pu (l : Nat) : Pu (yieldV l) = True := by simp [yieldV]
attribute [go_sem] yieldV_pu
def RndQ {α : Type} (J : Nat → α → Prop) (D : Code → α → Prop) (H : α → Hp) (G : α → Gh) (L nx0 i : Nat) : Exit → St → Prop
 | .normal, st' => ∃ y, J (i + 1) y ∧ Weak st' (forget st' (H y) nx0 { G y with lim := L, inr := true })
 | .ret, st' => ∃ y, D .ret y ∧ Weak st' (forget st' (H y) nx0 { G y with lim := L, inr := true })
 | .exit id, st' => ∃ y, D (.exit id) y ∧ Weak st' (forget st' (H y) nx0 { G y with lim := L, inr := true })
 | _, _ => False
def AsgQ (awB : (Exit → St → Prop) → St → Prop) (R : Exit → St → Prop) : Exit → St → Prop := fun e st => e = .normal ∧ awB R st
@[go_sem] theorem asgQ {P : Program} {c : Code} {R : Exit → St → Prop} {st : St} : AsgQ (awp P c) R .normal st = awp P c R st := by simp [AsgQ]
@[congr] theorem RndQ_congr {α : Type} {J : Nat → α → Prop} {D : Code → α → Prop} {H : α → Hp} {G : α → Gh} {L nx0 i : Nat} {e : Exit} {st st' : St} (hs : st = st') : RndQ J D H G L nx0 i e st = RndQ J D H G L nx0 i e st' := by rw [hs]
theorem idsLt_nil {L : Nat} : IdsLt L [] := fun c h => by cases h
theorem idsLt_cons {L : Nat} {c : V} {cs : List V} (h : IdLt L c) (hr : IdsLt L cs) : IdsLt L (c :: cs) := fun d hd => by
 rcases List.mem_cons.1 hd with rfl | hd
 · exact h
 · exact hr d hd
theorem idLt_fn {L : Nat} {f : Fn} {a b : List V} (h : IdsLt L a) (g : IdsLt L b) : IdLt L (.fn f a b) := .fn f a b h g
theorem idLt_agg {L : Nat} {a : List V} (h : IdsLt L a) : IdLt L (.agg a) := .agg a h
theorem LentR.pu {cap : List V} (hcap : PuL cap) : ∀ (i : Nat) (d d' : V), cap[i]? = some d → cap[i]? = some d' → LentR [] d d' := fun i d d' h h' => by
 rw [h] at h'
 cases h'
 exact .inl ⟨rfl, hcap d (List.mem_of_getElem? h)⟩
theorem range_own {P : Program} {a b : Code} {g : Operand} {ps : List Tmp} {Q : Exit → St → Prop} {tm : List V} {h : Hp} {nx n : Nat} {base : Base} {lim yl : Nat} {ys : List (List V)} {stop inr : Bool} {α : Type}
   (ids : List Nat) (id : Nat) (blk : Blk) (rows : α → List (Nat × Option Blk)) (cnt : α → Nat) (stp : α → Bool) (J : Nat → α → Prop) (D : Code → α → Prop) (x0 : α) (nx0 : Nat) {f : FuncId} {k i off nxI : Nat} {cap : List V} {Ys : List (List V)} {tm0 : List V}
   (ht : forgetT tm ids = tm0) (hg : evT tm0 g = .fn (.func f) [] (.ref id k i off :: cap)) (hit : ItO P f (.ref 0 k i off :: cap) [(0, some blk)] nxI Ys) (hcap : PuL cap) (hm : blk.mode = .wr) (hpu : ∀ e ∈ blk.es, ∀ d ∈ e, Pu d) (hnI : 0 < nxI) (hps : ∀ y ∈ Ys, y.length = ps.length)
   (hw : Weak ⟨tm, h, nx, ⟨n, stop, base, lim, yl, ys, inr⟩⟩ ⟨tm0, hpOf (fun _ => none) ((id, some blk) :: rows x0), nx0, ⟨n, stop, base, lim, yl, ys, inr⟩⟩) (hno : hget id (rows x0) = none) (hc : cnt x0 = n) (hs : stp x0 = stop) (hJ : J 0 x0)
   (hid : IdsLt nx tm0) (hlim : lim ≤ nx) (hnx : nx ≤ nx0)
   (hr : ∀ (base' : Base) i x y, J i x → Ys[i]? = some y → awp P a (AsgQ (awp P b) (RndQ J D (fun x => hpOf (fun _ => none) (rows x)) (fun x => ⟨cnt x, stp x, base', lim, yl, ys, inr⟩) nx nx0 i)) ⟨setPs ps y tm0, hpOf (fun _ => none) (rows x), nx0, ⟨cnt x, stp x, base', nx, yl, ys, true⟩⟩)
   (hn : ∀ x, J Ys.length x → Q .normal ⟨tm0, hpOf (fun _ => none) (rows x), nx0, ⟨cnt x, stp x, base, lim, yl, ys, inr⟩⟩)
   (hret : ∀ x, D .ret x → Q .ret ⟨tm0, hpOf (fun _ => none) (rows x), nx0, ⟨cnt x, stp x, base, lim, yl, ys, inr⟩⟩)
   (hex : ∀ id x, D (.exit id) x → Q (.exit id) ⟨tm0, hpOf (fun _ => none) (rows x), nx0, ⟨cnt x, stp x, base, lim, yl, ys, inr⟩⟩) :
   RangeA P (awp P a) (awp P b) g (List.toArray ps) Q ⟨tm, h, nx, ⟨n, stop, base, lim, yl, ys, inr⟩⟩ := by
 subst ht hc hs
 have hg1 : hpOf (fun _ => none) ((id, some blk) :: rows x0) id = some blk := by simp [hpOf, hget]
 refine ⟨f, .ref id k i off :: cap, .ref 0 k i off :: cap, Ys, α, _, nx, nx0, nxI, fun x => hpOf (fun _ => none) (rows x), fun x => ⟨cnt x, stp x, base, lim, yl, ys, inr⟩, J, D, x0, [id], hpOf (fun _ => none) ((id, some blk) :: rows x0), by rw [ev_mk]; exact hg, hit.2, ?_, ⟨rfl, fun j d d' h1 h2 => ?_⟩,
   ⟨by simp, by simp; omega, fun id' h' b' hb => ?_, fun id' h' b' hb => ?_⟩, by simpa using hps, hw, ?_, rfl, hJ, fun _ => rfl, hid, hlim, hnx, fun base' i x y hj hy => ?_, hn, hret, hex⟩
 · have : hIn [id] (hpOf (fun _ => none) ((id, some blk) :: rows x0)) = hpOf (fun _ => none) [(0, some blk)] := by
     funext j
     cases j with
     | zero => simp [hIn, hg1]; simp [hpOf, hget]
     | succ j => simp [hIn, hpOf, hget]
   rw [this]; exact hit.1
 · cases j with
   | zero =>
     simp at h1 h2
     subst h1 h2
     exact .inr ⟨0, id, k, i, off, rfl, rfl, rfl⟩
   | succ j =>
     have h1 : cap[j]? = some d := by simpa using h1
     have h2 : cap[j]? = some d' := by simpa using h2
     rw [h1] at h2
     cases h2
     exact .inl ⟨rfl, hcap d (List.mem_of_getElem? h1)⟩
 · rw [List.mem_singleton] at h'
   subst h'
   rw [hg1] at hb
   cases hb
   rw [hm]; exact fun h => by cases h
 · rw [List.mem_singleton] at h'
   subst h'
   rw [hg1] at hb
   cases hb
   exact hpu
 · funext j
   simp only [hOut, List.mem_singleton]
   by_cases hj : j = id
   · subst hj; simp [hpOf, hno]
   · have hj' : ¬ id = j := fun e => hj e.symm
     simp [hpOf, hget, hj, hj']
 have := hr base' i x y hj hy
 simp only [List.toList_toArray]
 refine cast ?_ this
 congr 1
 funext e st1
 simp only [AsgQ]
 congr 2
 funext e st'
 cases e <;> rfl
theorem weak_forget (ρl : List (Nat × Nat)) {tm : List V} {h : Hp} {l' : List (Nat × Option Blk)} {nx nx' : Nat} {gh gh' : Gh} (hgh : gh = gh') (hl : gh.lim ≤ nx') (hlow : (ρl.all fun p => decide (gh.lim ≤ p.1)) = true) (hh : RowsRen (renOf ρl) nx' nx h l') (hi : renInj (renOf ρl) (keysOf l') = true) :
   Weak ⟨tm, h, nx, gh⟩ (forget ⟨tm, h, nx, gh⟩ (hpOf (fun _ => none) l') nx' gh') := by
 subst hgh
 refine Weak.rows ρl hl hlow ?_ hh hi
 have : ∀ l : List V, RenL (renOf ρl) nx' (List.replicate l.length .undef) l := by
   intro l
   induction l with
   | nil => exact .nil
   | cons x l ih => rw [List.length_cons, List.replicate_succ]; exact .cons _ _ _ _ (.any _) ih
 exact this tm
theorem rnd_next {α : Type} {J : Nat → α → Prop} {D : Code → α → Prop} {H : α → Hp} {G : α → Gh} {L nx0 i : Nat} {st : St} (y : α) (hJ : J (i + 1) y) (hw : Weak st (forget st (H y) nx0 { G y with lim := L, inr := true })) : RndQ J D H G L nx0 i .normal st := ⟨y, hJ, hw⟩
theorem rnd_ret {α : Type} {J : Nat → α → Prop} {D : Code → α → Prop} {H : α → Hp} {G : α → Gh} {L nx0 i : Nat} {st : St} (y : α) (hJ : D .ret y) (hw : Weak st (forget st (H y) nx0 { G y with lim := L, inr := true })) : RndQ J D H G L nx0 i .ret st := ⟨y, hJ, hw⟩
theorem rnd_exit {α : Type} {J : Nat → α → Prop} {D : Code → α → Prop} {H : α → Hp} {G : α → Gh} {L nx0 i id : Nat} {st : St} (y : α) (hJ : D (.exit id) y) (hw : Weak st (forget st (H y) nx0 { G y with lim := L, inr := true })) : RndQ J D H G L nx0 i (.exit id) st := ⟨y, hJ, hw⟩
theorem loop_gh {P : Program} {c : Code} {Q : Exit → St → Prop} {tm : List V} {h : Hp} {nx : Nat} {n : Nat} {stop : Bool} {base : Base} {lim yl : Nat} {ys : List (List V)} {inr : Bool} {α : Type} (ids : List Nat) (sl : α → List (Nat × V)) (rows : α → List (Nat × Option Blk)) (cnt : α → Nat) (J : α → Prop) (m : α → Nat) (x0 : α) {tmS : α → List V}
   (ht : ∀ x, slotT (forgetT tm ids) (sl x) = tmS x) (hc : cnt x0 = n) (h0 : Weak ⟨tm, h, nx, ⟨n, stop, base, lim, yl, ys, inr⟩⟩ ⟨tmS x0, hpOf (fun _ => none) (rows x0), nx, ⟨n, stop, base, lim, yl, ys, inr⟩⟩) (hJ : J x0)
   (hr : ∀ x, J x → awp P c (thenQ (Nxt J m (fun y => ⟨tmS y, hpOf (fun _ => none) (rows y), nx, ⟨cnt y, stop, base, lim, yl, ys, inr⟩⟩) x) Q) ⟨tmS x, hpOf (fun _ => none) (rows x), nx, ⟨cnt x, stop, base, lim, yl, ys, inr⟩⟩) : LoopA (awp P c) Q ⟨tm, h, nx, ⟨n, stop, base, lim, yl, ys, inr⟩⟩ := by
 subst hc
 exact ⟨α, fun y => ⟨tmS y, hpOf (fun _ => none) (rows y), nx, ⟨cnt y, stop, base, lim, yl, ys, inr⟩⟩, J, m, x0, h0, hJ, hr⟩
@[go_sem] theorem setPs_cons (t : Tmp) (ts : List Tmp) (y : V) (ys tm : List V) : setPs (t :: ts) (y :: ys) tm = setPs ts ys (setT tm t y) := by simp [setPs, setT_eq]
@[go_sem] theorem setPs_end (ts : List Tmp) (tm : List V) : setPs ts [] tm = tm := by simp [setPs]
end Go.Aw
end
