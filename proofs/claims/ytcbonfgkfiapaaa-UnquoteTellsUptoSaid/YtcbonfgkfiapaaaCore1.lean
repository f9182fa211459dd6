/- Abstract values: what a value of the machine stands for, told without addresses; when nothing of what a value reaches is written, it stands for the same. What the operations without effect give, told of abstract values: each is shown to be what the machine does. What the other operations without effect give, and one function that tells it for all of them. Cuts, conversions, structs and slices that are made; then one function that tells what an operation without effect gives, shown to be what the machine does. -/
import Derived.Below
import Derived.Orders
import Derived.WalkKit
import Derived.Laws.BytesArg
/-! Abstract values: what a value of the machine stands for, told without addresses; when nothing of what a value reaches is written, it stands for the same. -/
set_option linter.unusedVariables false
set_option linter.unusedSimpArgs false
namespace Go.Proofs.Ytcbonfgkfiapaaa.Pv
open Go Go.RowKit

inductive PV where
  | any
  | bool (b : Bool)
  | int (k : IntKind) (n : Int)
  | str (s : List UInt8)
  | nilp
  | ref (cells : List PV)
  | mp (b off : Nat)
  | sl0
  | slice (sz : Nat) (rows : List (List PV))
  | vec (b n cap : Nat)
  | fn (f : Fn) (first captured : List PV)
  | nilfn
  | iface (t : TypeId) (v : PV)
  | nilif
  | agg (cs : List PV)
  | tup (vs : List PV)
  | omap (b : Nat)
  | nils
  | vat (b off n cap : Nat)
  deriving Inhabited

mutual
def Rep (w : World) (im : Nat → Prop) : PV → Value → Prop
  | .any, _ => True
  | .bool b, v => v = .bool b
  | .int k n, v => v = .int k n
  | .str l, v => v = .string ⟨l.toArray⟩
  | .nilp, v => v = .pointer none
  | .ref cs, v => ∃ b off, v = .pointer (some ⟨b, off, none⟩) ∧ im b ∧ b < w.heap.size ∧ RepAt w im b off cs
  | .mp b off, v => v = .pointer (some ⟨b, off, none⟩)
  | .sl0, v => ∃ a, v = .slice a 0 0
  | .slice sz rows, v => ∃ a c, v = .slice a rows.length c ∧ rows.length ≤ c ∧ c ≤ maxLen ∧ (rows = [] ∨ ∃ b off, a = some ⟨b, off, none⟩ ∧ im b ∧ b < w.heap.size ∧ RepRows w im b off sz rows)
  | .vec b n cap, v => v = .slice (some ⟨b, 0, none⟩) n cap
  | .fn f first captured, v => ∃ fa ca : Array Value, v = .func f fa ca ∧ RepVals w im first fa.toList ∧ RepVals w im captured ca.toList
  | .nilfn, v => v = .nilFunc
  | .iface t x, v => ∃ u, v = .iface t u ∧ Rep w im x u
  | .nilif, v => v = .nilIface
  | .agg cs, v => ∃ arr : Array Value, v = .agg arr ∧ RepVals w im cs arr.toList
  | .tup cs, v => ∃ arr : Array Value, v = .tuple arr ∧ RepVals w im cs arr.toList
  | .omap b, v => v = .map (some b)
  | .nils, v => v = .slice none 0 0
  | .vat b off n cap, v => v = .slice (some ⟨b, off, none⟩) n cap
def RepAt (w : World) (im : Nat → Prop) (b : Nat) : Nat → List PV → Prop
  | _, [] => True
  | off, c :: cs => (∃ v, w.cell? ⟨b, off, none⟩ = some v ∧ Rep w im c v) ∧ RepAt w im b (off + 1) cs
def RepVals (w : World) (im : Nat → Prop) : List PV → List Value → Prop
  | [], vs => vs = []
  | c :: cs, vs => ∃ v r, vs = v :: r ∧ Rep w im c v ∧ RepVals w im cs r
def RepRows (w : World) (im : Nat → Prop) (b : Nat) : Nat → Nat → List (List PV) → Prop
  | _, _, [] => True
  | off, sz, r :: rs => r.length = sz ∧ RepAt w im b off r ∧ RepRows w im b (off + sz) sz rs
end

/-- What was there of an immutable kind is there as it was. -/
structure Keeps (w w' : World) (im im' : Nat → Prop) : Prop where
  size : w.heap.size ≤ w'.heap.size
  kept : ∀ b, b < w.heap.size → im b → im' b ∧ w'.heap[b]? = w.heap[b]?

theorem Keeps.refl (w : World) (im : Nat → Prop) : Keeps w w im im := ⟨Nat.le_refl _, fun _ _ h => ⟨h, rfl⟩⟩

theorem cell_of_heap {w w' : World} {b : Nat} (h : w'.heap[b]? = w.heap[b]?) (off : Nat) : w'.cell? ⟨b, off, none⟩ = w.cell? ⟨b, off, none⟩ := by
  simp only [World.cell?, h]

theorem lt_of_cell {w : World} {b off : Nat} {v : Value} (h : w.cell? ⟨b, off, none⟩ = some v) : b < w.heap.size := World.block_lt_of_cell? w ⟨b, off, none⟩ h

section
variable {w w' : World} {im im' : Nat → Prop}
mutual
theorem Rep.keep (k : Keeps w w' im im') : ∀ (p : PV) {v : Value}, Rep w im p v → Rep w' im' p v
  | .any, _, _ => by simp only [Rep]
  | .bool _, _, h => by simp only [Rep] at h ⊢; exact h
  | .int _ _, _, h => by simp only [Rep] at h ⊢; exact h
  | .str _, _, h => by simp only [Rep] at h ⊢; exact h
  | .nilp, _, h => by simp only [Rep] at h ⊢; exact h
  | .ref cs, _, h => by
    simp only [Rep] at h ⊢
    obtain ⟨b, off, e, hi, hl, hr⟩ := h
    exact ⟨b, off, e, (k.kept b hl hi).1, Nat.lt_of_lt_of_le hl k.size, RepAt.keep k b hi hl off cs hr⟩
  | .mp _ _, _, h => by simp only [Rep] at h ⊢; exact h
  | .sl0, _, h => by simp only [Rep] at h ⊢; exact h
  | .slice sz rows, _, h => by
    simp only [Rep] at h ⊢
    obtain ⟨a, c, e, h1, h2, h3⟩ := h
    refine ⟨a, c, e, h1, h2, ?_⟩
    rcases h3 with h3 | ⟨b, off, ea, hi, hl, hr⟩
    · exact Or.inl h3
    · exact Or.inr ⟨b, off, ea, (k.kept b hl hi).1, Nat.lt_of_lt_of_le hl k.size, RepRows.keep k b hi hl off sz rows hr⟩
  | .vec _ _ _, _, h => by simp only [Rep] at h ⊢; exact h
  | .fn f first captured, _, h => by
    simp only [Rep] at h ⊢
    obtain ⟨fa, ca, e, h1, h2⟩ := h
    exact ⟨fa, ca, e, RepVals.keep k first h1, RepVals.keep k captured h2⟩
  | .nilfn, _, h => by simp only [Rep] at h ⊢; exact h
  | .iface t x, _, h => by
    simp only [Rep] at h ⊢
    obtain ⟨u, e, h1⟩ := h
    exact ⟨u, e, Rep.keep k x h1⟩
  | .nilif, _, h => by simp only [Rep] at h ⊢; exact h
  | .agg cs, _, h => by
    simp only [Rep] at h ⊢
    obtain ⟨arr, e, h1⟩ := h
    exact ⟨arr, e, RepVals.keep k cs h1⟩
  | .tup cs, _, h => by
    simp only [Rep] at h ⊢
    obtain ⟨arr, e, h1⟩ := h
    exact ⟨arr, e, RepVals.keep k cs h1⟩
  | .omap _, _, h => by simp only [Rep] at h ⊢; exact h
  | .nils, _, h => by simp only [Rep] at h ⊢; exact h
  | .vat _ _ _ _, _, h => by simp only [Rep] at h ⊢; exact h
theorem RepAt.keep (k : Keeps w w' im im') (b : Nat) (hi : im b) (hl : b < w.heap.size) : ∀ (off : Nat) (cs : List PV), RepAt w im b off cs → RepAt w' im' b off cs
  | _, [], _ => by simp only [RepAt]
  | off, c :: cs, h => by
    simp only [RepAt] at h ⊢
    obtain ⟨⟨v, hv, hr⟩, h2⟩ := h
    exact ⟨⟨v, by rw [cell_of_heap (k.kept b hl hi).2]; exact hv, Rep.keep k c hr⟩, RepAt.keep k b hi hl (off + 1) cs h2⟩
theorem RepVals.keep (k : Keeps w w' im im') : ∀ (cs : List PV) {vs : List Value}, RepVals w im cs vs → RepVals w' im' cs vs
  | [], _, h => by simp only [RepVals] at h ⊢; exact h
  | c :: cs, _, h => by
    simp only [RepVals] at h ⊢
    obtain ⟨v, r, e, h1, h2⟩ := h
    exact ⟨v, r, e, Rep.keep k c h1, RepVals.keep k cs h2⟩
theorem RepRows.keep (k : Keeps w w' im im') (b : Nat) (hi : im b) (hl : b < w.heap.size) : ∀ (off sz : Nat) (rows : List (List PV)), RepRows w im b off sz rows → RepRows w' im' b off sz rows
  | _, _, [], _ => by simp only [RepRows]
  | off, sz, r :: rs, h => by
    simp only [RepRows] at h ⊢
    obtain ⟨h0, h1, h2⟩ := h
    exact ⟨h0, RepAt.keep k b hi hl off r h1, RepRows.keep k b hi hl (off + sz) sz rs h2⟩
end
end

/-- What the call itself may write: blocks of its own. -/
inductive MObj where
  | cells (cs : List PV) (ty : TypeId)
  | rows (sz : Nat) (rs : List (List PV)) (cap : Nat) (ty : TypeId)
  | iter (s : List UInt8) (pos : Nat)
  | omap (es : List (List UInt8 × List UInt8)) (clock : Nat)
  | raw (o : Obj)

abbrev Heap := Nat → Option MObj
def Heap.none : Heap := fun _ => Option.none
def Heap.set (S : Heap) (b : Nat) (o : MObj) : Heap := fun c => if c = b then some o else S c
def Heap.del (S : Heap) (b : Nat) : Heap := fun c => if c = b then Option.none else S c
theorem set_apply (S : Heap) (b : Nat) (o : MObj) (c : Nat) : S.set b o c = if c = b then some o else S c := rfl
theorem del_apply (S : Heap) (b c : Nat) : S.del b c = if c = b then Option.none else S c := rfl
def Heap.im (S : Heap) : Nat → Prop := fun b => S b = Option.none

/-- The entries of a map of texts, in the order in which they were born. -/
def mapEntry (e : MapEntry) (x : List UInt8 × List UInt8) : Prop := e.key = .string ⟨x.1.toArray⟩ ∧ e.val = .string ⟨x.2.toArray⟩
def mapEntries : List MapEntry → List (List UInt8 × List UInt8) → Prop
  | [], [] => True
  | e :: es, x :: xs => mapEntry e x ∧ mapEntries es xs
  | _, _ => False

def Holds (w : World) (im : Nat → Prop) (b : Nat) : MObj → Prop
  | .cells cs ty => ∃ arr : Array Value, w.heap[b]? = some (.cells arr ty (0, 0)) ∧ RepVals w im cs arr.toList
  | .rows sz rs cap ty => ∃ arr : Array Value, w.heap[b]? = some (.cells arr ty (0, 0)) ∧ arr.size = cap * sz ∧ rs.length ≤ cap ∧ cap ≤ maxLen ∧ RepRows w im b 0 sz rs
  | .iter s pos => w.heap[b]? = some (.stringIter ⟨s.toArray⟩ pos)
  | .omap es clock => ∃ ents : Array MapEntry, w.heap[b]? = some (.map ents clock) ∧ mapEntries ents.toList es ∧ (∀ e ∈ ents.toList, e.born < clock) ∧ (ents.toList.map (·.born)).Nodup
  | .raw o => w.heap[b]? = some o

/-- Behind a step: what is not the call's own is as it was; what has come is new. -/
structure Ext (w : World) (S : Heap) (w' : World) (S' : Heap) : Prop where
  os : w'.os = w.os
  tape : w'.tape = w.tape
  output : w'.output = w.output
  size : w.heap.size ≤ w'.heap.size
  kept : ∀ b, b < w.heap.size → S b = none → S' b = none ∧ w'.heap[b]? = w.heap[b]?

theorem Ext.refl (w : World) (S : Heap) : Ext w S w S := ⟨rfl, rfl, rfl, Nat.le_refl _, fun _ _ h => ⟨h, rfl⟩⟩
theorem Ext.trans {w w1 w2 : World} {S S1 S2 : Heap} (h : Ext w S w1 S1) (k : Ext w1 S1 w2 S2) : Ext w S w2 S2 :=
  ⟨k.os.trans h.os, k.tape.trans h.tape, k.output.trans h.output, Nat.le_trans h.size k.size, fun b hb hs => by
    obtain ⟨h1, h2⟩ := h.kept b hb hs
    obtain ⟨k1, k2⟩ := k.kept b (Nat.lt_of_lt_of_le hb h.size) h1
    exact ⟨k1, k2.trans h2⟩⟩
theorem Ext.keeps {w w' : World} {S S' : Heap} (h : Ext w S w' S') : Keeps w w' S.im S'.im := ⟨h.size, fun b hb hi => h.kept b hb hi⟩
theorem Ext.below {w w' : World} {S' : Heap} (h : Ext w Heap.none w' S') : Below w.heap.size w w' := ⟨h.os, h.tape, h.output, h.size, fun k hk => (h.kept k hk rfl).2⟩

theorem Holds.lt {w : World} {im : Nat → Prop} {b : Nat} {o : MObj} (h : Holds w im b o) : b < w.heap.size := by
  have key : ∀ x, w.heap[b]? = some x → b < w.heap.size := fun x hx => (Array.getElem?_eq_some_iff.1 hx).1
  cases o with
  | cells cs ty => obtain ⟨arr, h, _⟩ := h; exact key _ h
  | rows sz rs cap ty => obtain ⟨arr, h, _⟩ := h; exact key _ h
  | iter s pos => exact key _ h
  | omap es clock => obtain ⟨ents, h, _⟩ := h; exact key _ h
  | raw o => exact key _ h

theorem RepRows.cells_keep {w w' : World} {im im' : Nat → Prop} (k : Keeps w w' im im') {b : Nat} (hb : w'.heap[b]? = w.heap[b]?) : ∀ (off : Nat) (cs : List PV), RepAt w im b off cs → RepAt w' im' b off cs
  | _, [], _ => by simp only [RepAt]
  | off, c :: cs, h => by
    simp only [RepAt] at h ⊢
    obtain ⟨⟨v, hv, hr⟩, h2⟩ := h
    exact ⟨⟨v, by rw [cell_of_heap hb]; exact hv, Rep.keep k c hr⟩, RepRows.cells_keep k hb (off + 1) cs h2⟩
theorem RepRows.rows_keep {w w' : World} {im im' : Nat → Prop} (k : Keeps w w' im im') {b : Nat} (hb : w'.heap[b]? = w.heap[b]?) : ∀ (off sz : Nat) (rows : List (List PV)), RepRows w im b off sz rows → RepRows w' im' b off sz rows
  | _, _, [], _ => by simp only [RepRows]
  | off, sz, r :: rs, h => by
    simp only [RepRows] at h ⊢
    exact ⟨h.1, RepRows.cells_keep k hb off r h.2.1, RepRows.rows_keep k hb (off + sz) sz rs h.2.2⟩

/-- A block of the call's own that was not written holds what it held. -/
theorem Holds.keep {w w' : World} {im im' : Nat → Prop} (k : Keeps w w' im im') {b : Nat} (hb : w'.heap[b]? = w.heap[b]?) {o : MObj} (h : Holds w im b o) : Holds w' im' b o := by
  cases o with
  | cells cs ty => obtain ⟨arr, h1, h2⟩ := h; exact ⟨arr, hb.trans h1, RepVals.keep k cs h2⟩
  | rows sz rs cap ty => obtain ⟨arr, h1, h2, h3, h4, h5⟩ := h; exact ⟨arr, hb.trans h1, h2, h3, h4, RepRows.rows_keep k hb 0 sz rs h5⟩
  | iter s pos => exact hb.trans h
  | omap es clock => obtain ⟨ents, h1, h2⟩ := h; exact ⟨ents, hb.trans h1, h2⟩
  | raw o => exact hb.trans h

/-! The state of a frame -/
structure St (n : Nat) (w : World) (S : Heap) (a : Act) (σ : Nat → PV) : Prop where
  size : a.tmps.size = n
  defers : a.defers = []
  regs : ∀ t, Rep w S.im (σ t) (a.tmps.getD t undef)
  heap : ∀ b o, S b = some o → Holds w S.im b o

def upd (σ : Nat → PV) (d : Nat) (p : PV) (t : Nat) : PV := if t = d then p else σ t
def updO (σ : Nat → PV) (d : Option Tmp) (p : PV) : Nat → PV := match d with | some d => upd σ d p | none => σ

theorem getD_set (xs : Array Value) (d t : Nat) (v : Value) (h : d < xs.size) : (xs.setIfInBounds d v).getD t undef = if t = d then v else xs.getD t undef := by
  simp only [Array.getD_eq_getD_getElem?, Array.getElem?_setIfInBounds]
  by_cases e : t = d
  · subst e; simp [h]
  · simp [e, Ne.symm e]

theorem St.put {n : Nat} {w : World} {S : Heap} {a : Act} {σ : Nat → PV} (h : St n w S a σ) {d : Option Tmp} (hd : ∀ x, d = some x → x < n) {p : PV} {v : Value} (hv : Rep w S.im p v) :
    St n w S (a.put d v) (updO σ d p) := by
  cases d with
  | none => exact h
  | some d =>
    refine ⟨by simp [Act.put, h.size], by simp [Act.put, h.defers], fun t => ?_, h.heap⟩
    simp only [Act.put, updO, upd]
    rw [getD_set _ _ _ _ (by rw [h.size]; exact hd d rfl)]
    by_cases e : t = d
    · simp [e, hv]
    · rw [if_neg e, if_neg e]; exact h.regs t

/-- The world has gone on; the call's own blocks are told anew. -/
theorem St.ext {n : Nat} {w w' : World} {S S' : Heap} {a : Act} {σ : Nat → PV} (h : St n w S a σ) (k : Ext w S w' S') (hh : ∀ b o, S' b = some o → Holds w' S'.im b o) : St n w' S' a σ :=
  ⟨h.size, h.defers, fun t => Rep.keep k.keeps _ (h.regs t), hh⟩

end Go.Proofs.Ytcbonfgkfiapaaa.Pv

/-! What the operations without effect give, told of abstract values: each is shown to be what the machine does. -/
set_option linter.unusedVariables false
set_option linter.unusedSimpArgs false
namespace Go.Proofs.Ytcbonfgkfiapaaa.Pv
open Go Go.RowKit

/-! Constants and operands -/
def ofCell : Value → PV
  | .bool b => .bool b
  | .int k n => .int k n
  | .string s => .str s.data.toList
  | .pointer none => .nilp
  | .slice none 0 0 => .sl0
  | .func f a b => if a.toList = [] ∧ b.toList = [] then .fn f [] [] else .any
  | .nilFunc => .nilfn
  | .nilIface => .nilif
  | _ => .any
def ofVal : Value → PV
  | .agg cs => .agg (cs.toList.map ofCell)
  | .tuple cs => .tup (cs.toList.map ofCell)
  | v => ofCell v

theorem repVals_nil {w : World} {im : Nat → Prop} {vs : List Value} : RepVals w im [] vs ↔ vs = [] := by simp only [RepVals]
theorem repVals_cons {w : World} {im : Nat → Prop} {c : PV} {cs : List PV} {v : Value} {vs : List Value} : RepVals w im (c :: cs) (v :: vs) ↔ Rep w im c v ∧ RepVals w im cs vs := by
  simp only [RepVals]
  constructor
  · rintro ⟨v', r', e, h1, h2⟩; injection e with e1 e2; subst e1; subst e2; exact ⟨h1, h2⟩
  · rintro ⟨h1, h2⟩; exact ⟨v, vs, rfl, h1, h2⟩
theorem repVals_length {w : World} {im : Nat → Prop} : ∀ {cs : List PV} {vs : List Value}, RepVals w im cs vs → vs.length = cs.length
  | [], vs, h => by rw [repVals_nil] at h; simp [h]
  | c :: cs, [], h => by simp only [RepVals] at h; obtain ⟨v, r, e, _⟩ := h; simp at e
  | c :: cs, v :: vs, h => by rw [repVals_cons] at h; simp [repVals_length h.2]
theorem repVals_get {w : World} {im : Nat → Prop} : ∀ {cs : List PV} {vs : List Value} {i : Nat} {c : PV}, RepVals w im cs vs → cs[i]? = some c → ∃ v, vs[i]? = some v ∧ Rep w im c v
  | [], vs, i, c, h, e => by simp at e
  | c' :: cs, [], i, c, h, e => by simp only [RepVals] at h; obtain ⟨v, r, e, _⟩ := h; simp at e
  | c' :: cs, v :: vs, 0, c, h, e => by rw [repVals_cons] at h; simp at e; subst e; exact ⟨v, rfl, h.1⟩
  | c' :: cs, v :: vs, i + 1, c, h, e => by
    rw [repVals_cons] at h
    simp only [List.getElem?_cons_succ] at e ⊢
    exact repVals_get h.2 e
theorem repVals_drop {w : World} {im : Nat → Prop} : ∀ {cs : List PV} {vs : List Value} (i : Nat), RepVals w im cs vs → RepVals w im (cs.drop i) (vs.drop i)
  | cs, vs, 0, h => by simpa using h
  | [], vs, i + 1, h => by rw [repVals_nil] at h; subst h; simp [repVals_nil]
  | c :: cs, [], i + 1, h => by simp only [RepVals] at h; obtain ⟨v, r, e, _⟩ := h; simp at e
  | c :: cs, v :: vs, i + 1, h => by rw [repVals_cons] at h; simpa using repVals_drop i h.2
theorem repVals_take {w : World} {im : Nat → Prop} : ∀ {cs : List PV} {vs : List Value} (i : Nat), RepVals w im cs vs → RepVals w im (cs.take i) (vs.take i)
  | cs, vs, 0, h => by simp [repVals_nil]
  | [], vs, i + 1, h => by rw [repVals_nil] at h; subst h; simp [repVals_nil]
  | c :: cs, [], i + 1, h => by simp only [RepVals] at h; obtain ⟨v, r, e, _⟩ := h; simp at e
  | c :: cs, v :: vs, i + 1, h => by rw [repVals_cons] at h; simp only [List.take_succ_cons]; rw [repVals_cons]; exact ⟨h.1, repVals_take i h.2⟩
theorem repVals_append {w : World} {im : Nat → Prop} : ∀ {cs ds : List PV} {vs us : List Value}, RepVals w im cs vs → RepVals w im ds us → RepVals w im (cs ++ ds) (vs ++ us)
  | [], ds, vs, us, h, k => by rw [repVals_nil] at h; subst h; simpa using k
  | c :: cs, ds, [], us, h, k => by simp only [RepVals] at h; obtain ⟨v, r, e, _⟩ := h; simp at e
  | c :: cs, ds, v :: vs, us, h, k => by rw [repVals_cons] at h; simp only [List.cons_append]; rw [repVals_cons]; exact ⟨h.1, repVals_append h.2 k⟩
theorem repVals_map {w : World} {im : Nat → Prop} {α : Type} (f : α → PV) (g : α → Value) (h : ∀ x, Rep w im (f x) (g x)) : ∀ xs : List α, RepVals w im (xs.map f) (xs.map g)
  | [] => by simp [repVals_nil]
  | x :: xs => by simp only [List.map_cons]; rw [repVals_cons]; exact ⟨h x, repVals_map f g h xs⟩

theorem rep_ofCell (w : World) (im : Nat → Prop) (v : Value) : Rep w im (ofCell v) v := by
  cases v with
  | bool b => simp [ofCell, Rep]
  | int k n => simp [ofCell, Rep]
  | float k b => simp [ofCell, Rep]
  | complex k a b => simp [ofCell, Rep]
  | string s => simp [ofCell, Rep]
  | pointer a => cases a <;> simp [ofCell, Rep]
  | slice a n c =>
    cases a with
    | none =>
      cases n with
      | zero => cases c <;> simp [ofCell, Rep]
      | succ n => simp [ofCell, Rep]
    | some a => simp [ofCell, Rep]
  | map r => simp [ofCell, Rep]
  | chan r => simp [ofCell, Rep]
  | func f a b =>
    simp only [ofCell]
    split
    · rename_i h
      simp only [Rep]
      exact ⟨a, b, rfl, by rw [repVals_nil]; exact h.1, by rw [repVals_nil]; exact h.2⟩
    · simp [Rep]
  | nilFunc => simp [ofCell, Rep]
  | iface t v => simp [ofCell, Rep]
  | nilIface => simp [ofCell, Rep]
  | agg cs => simp [ofCell, Rep]
  | tuple vs => simp [ofCell, Rep]

theorem rep_ofVal (w : World) (im : Nat → Prop) (v : Value) : Rep w im (ofVal v) v := by
  have key : ∀ cs : Array Value, RepVals w im (cs.toList.map ofCell) cs.toList := fun cs => by
    have := repVals_map (w := w) (im := im) ofCell id (rep_ofCell w im) cs.toList
    simpa using this
  cases v with
  | agg cs => simp only [ofVal, Rep]; exact ⟨cs, rfl, key cs⟩
  | tuple cs => simp only [ofVal, Rep]; exact ⟨cs, rfl, key cs⟩
  | _ => simp only [ofVal]; exact rep_ofCell w im _

def ev (σ : Nat → PV) : Operand → PV
  | .tmp t => σ t
  | .const v => ofVal v
  | .global g => .mp g 0
  | .func f => .fn (.func f) [] []

theorem rep_ev {n : Nat} {w : World} {S : Heap} {a : Act} {σ : Nat → PV} (h : St n w S a σ) (x : Operand) : Rep w S.im (ev σ x) (a.eval x) := by
  cases x with
  | tmp t => exact h.regs t
  | const v => exact rep_ofVal w S.im v
  | global g => simp [ev, Act.eval, Rep]
  | func f => simp only [ev, Act.eval, Rep]; exact ⟨#[], #[], rfl, by simp [repVals_nil], by simp [repVals_nil]⟩

/-- The cells of a value. -/
def cellsOf : PV → Option (List PV)
  | .agg cs => some cs
  | .any => none
  | .tup _ => none
  | p => some [p]
theorem rep_cells {w : World} {im : Nat → Prop} {p : PV} {v : Value} {cs : List PV} (h : Rep w im p v) (hc : cellsOf p = some cs) : RepVals w im cs v.cells.toList := by
  have one : ∀ {p : PV} {v : Value}, v.cells = #[v] → Rep w im p v → RepVals w im [p] v.cells.toList := fun {p v} e h => by
    rw [e]; exact repVals_cons.2 ⟨h, repVals_nil.2 rfl⟩
  cases p <;> simp only [cellsOf, Option.some.injEq, reduceCtorEq] at hc <;> subst hc
  case agg cs => simp only [Rep] at h; obtain ⟨arr, rfl, h⟩ := h; exact h
  case ref cs => exact one (by simp only [Rep] at h; obtain ⟨_, _, rfl, _⟩ := h; rfl) h
  case sl0 => exact one (by simp only [Rep] at h; obtain ⟨_, rfl⟩ := h; rfl) h
  case slice sz rows => exact one (by simp only [Rep] at h; obtain ⟨_, _, rfl, _⟩ := h; rfl) h
  case fn f a b => exact one (by simp only [Rep] at h; obtain ⟨_, _, rfl, _⟩ := h; rfl) h
  case iface t x => exact one (by simp only [Rep] at h; obtain ⟨_, rfl, _⟩ := h; rfl) h
  all_goals exact one (by simp only [Rep] at h; subst h; rfl) h

/-- Cells in memory, from an address on: their values. -/
theorem repAt_vals {w : World} {im : Nat → Prop} {b : Nat} : ∀ {off : Nat} {cs : List PV}, RepAt w im b off cs → ∃ vs, RepVals w im cs vs ∧ ∀ j v, vs[j]? = some v → w.cell? ⟨b, off + j, none⟩ = some v
  | off, [], h => ⟨[], repVals_nil.2 rfl, fun j v e => by simp at e⟩
  | off, c :: cs, h => by
    simp only [RepAt] at h
    obtain ⟨⟨v, hv, hr⟩, h2⟩ := h
    obtain ⟨vs, h3, h4⟩ := repAt_vals h2
    refine ⟨v :: vs, repVals_cons.2 ⟨hr, h3⟩, fun j u e => ?_⟩
    cases j with
    | zero => simp at e; subst e; simpa using hv
    | succ j => simp at e; have := h4 j u e; rwa [show off + (j + 1) = off + 1 + j by omega]
theorem repAt_of_vals {w : World} {im : Nat → Prop} {b : Nat} : ∀ {off : Nat} {cs : List PV} {vs : List Value}, RepVals w im cs vs → (∀ j v, vs[j]? = some v → w.cell? ⟨b, off + j, none⟩ = some v) → RepAt w im b off cs
  | off, [], vs, h, k => by simp only [RepAt]
  | off, c :: cs, [], h, k => by simp only [RepVals] at h; obtain ⟨v, r, e, _⟩ := h; simp at e
  | off, c :: cs, v :: vs, h, k => by
    rw [repVals_cons] at h
    simp only [RepAt]
    refine ⟨⟨v, by simpa using k 0 v rfl, h.1⟩, repAt_of_vals h.2 fun j u e => ?_⟩
    have := k (j + 1) u (by simpa using e)
    rwa [show off + 1 + j = off + (j + 1) by omega]
theorem repAt_drop {w : World} {im : Nat → Prop} {b : Nat} : ∀ {off : Nat} {cs : List PV} (i : Nat), RepAt w im b off cs → RepAt w im b (off + i) (cs.drop i)
  | off, cs, 0, h => by simpa using h
  | off, [], i + 1, h => by simp only [List.drop_nil, RepAt]
  | off, c :: cs, i + 1, h => by
    simp only [RepAt] at h
    have := repAt_drop i h.2
    simpa [show off + 1 + i = off + (i + 1) by omega] using this
theorem repAt_take {w : World} {im : Nat → Prop} {b : Nat} : ∀ {off : Nat} {cs : List PV} (i : Nat), RepAt w im b off cs → RepAt w im b off (cs.take i)
  | off, cs, 0, h => by simp only [List.take_zero, RepAt]
  | off, [], i + 1, h => by simp only [List.take_nil, RepAt]
  | off, c :: cs, i + 1, h => by
    simp only [RepAt] at h
    simp only [List.take_succ_cons, RepAt]
    exact ⟨h.1, repAt_take i h.2⟩
theorem repRows_get {w : World} {im : Nat → Prop} {b : Nat} : ∀ {off sz : Nat} {rows : List (List PV)} {i : Nat} {r : List PV}, RepRows w im b off sz rows → rows[i]? = some r → r.length = sz ∧ RepAt w im b (off + i * sz) r
  | off, sz, [], i, r, h, e => by simp at e
  | off, sz, r' :: rs, 0, r, h, e => by simp only [RepRows] at h; simp at e; subst e; simpa using ⟨h.1, h.2.1⟩
  | off, sz, r' :: rs, i + 1, r, h, e => by
    simp only [RepRows] at h
    simp at e
    have := repRows_get h.2.2 e
    rwa [show off + (i + 1) * sz = off + sz + i * sz by rw [Nat.succ_mul]; omega]
theorem repRows_drop {w : World} {im : Nat → Prop} {b : Nat} : ∀ {off sz : Nat} {rows : List (List PV)} (i : Nat), RepRows w im b off sz rows → RepRows w im b (off + i * sz) sz (rows.drop i)
  | off, sz, rows, 0, h => by simpa using h
  | off, sz, [], i + 1, h => by simp only [List.drop_nil, RepRows]
  | off, sz, r :: rs, i + 1, h => by
    simp only [RepRows] at h
    have := repRows_drop i h.2.2
    simpa [show off + (i + 1) * sz = off + sz + i * sz by rw [Nat.succ_mul]; omega] using this
theorem repRows_take {w : World} {im : Nat → Prop} {b : Nat} : ∀ {off sz : Nat} {rows : List (List PV)} (i : Nat), RepRows w im b off sz rows → RepRows w im b off sz (rows.take i)
  | off, sz, rows, 0, h => by simp only [List.take_zero, RepRows]
  | off, sz, [], i + 1, h => by simp only [List.take_nil, RepRows]
  | off, sz, r :: rs, i + 1, h => by
    simp only [RepRows] at h
    simp only [List.take_succ_cons, RepRows]
    exact ⟨h.1, h.2.1, repRows_take i h.2.2⟩

/-! A new block -/
theorem alloc_ext {w : World} {S : Heap} (o : Obj) (hS : ∀ b x, S b = some x → Holds w S.im b x) : Ext w S (w.alloc o) S ∧ ∀ b x, S b = some x → Holds (w.alloc o) S.im b x := by
  have he : Ext w S (w.alloc o) S := ⟨rfl, rfl, rfl, by simp, fun b hb h => ⟨h, Below.heap_alloc _ _ _ hb⟩⟩
  exact ⟨he, fun b x hx => (hS b x hx).keep he.keeps (Below.heap_alloc _ _ _ (hS b x hx).lt)⟩
theorem alloc_block (w : World) (o : Obj) : (w.alloc o).heap[w.heap.size]? = some o := by
  show (w.heap.push o)[w.heap.size]? = some o
  simp
theorem cell_of_block {w : World} {b : Nat} {arr : Array Value} {ty : TypeId} {fr : Nat × Nat} (h : w.heap[b]? = some (.cells arr ty fr)) (j : Nat) : w.cell? ⟨b, j, none⟩ = arr[j]? := by
  simp [World.cell?, h]
theorem repAt_block {w : World} {im : Nat → Prop} {b : Nat} {arr : Array Value} {ty : TypeId} {fr : Nat × Nat} {cs : List PV} (h : w.heap[b]? = some (.cells arr ty fr)) (hv : RepVals w im cs arr.toList) : RepAt w im b 0 cs :=
  repAt_of_vals hv fun j v e => by rw [cell_of_block h]; simpa using e
theorem repAt_block_vals {w : World} {im : Nat → Prop} {b : Nat} {arr : Array Value} {ty : TypeId} {fr : Nat × Nat} : ∀ {off : Nat} {cs : List PV} (vs : List Value), w.heap[b]? = some (.cells arr ty fr) → RepVals w im cs vs → (∀ j v, vs[j]? = some v → arr[off + j]? = some v) → RepAt w im b off cs :=
  fun vs h hv hj => repAt_of_vals hv fun j v e => by rw [cell_of_block h]; exact hj j v e
theorem not_im_new {w : World} {S : Heap} (hS : ∀ b x, S b = some x → Holds w S.im b x) {b : Nat} (hb : w.heap.size ≤ b) : S.im b := by
  cases h : S b with
  | none => exact h
  | some x => have := (hS b x h).lt; omega

/-! What an operation gives: a value that stands for p, in a world that has at most grown. -/
def Gives (P : Program) (s : Sem Value) (w : World) (S : Heap) (p : PV) : Prop :=
  ∃ v w', s.run P w = .ok v w' ∧ Rep w' S.im p v ∧ Ext w S w' S ∧ ∀ b o, S b = some o → Holds w' S.im b o

theorem gives_same {P : Program} {s : Sem Value} {w : World} {S : Heap} {p : PV} {v : Value} (hS : ∀ b o, S b = some o → Holds w S.im b o) (h : s.run P w = .ok v w) (hr : Rep w S.im p v) : Gives P s w S p :=
  ⟨v, w, h, hr, Ext.refl w S, hS⟩

/-! Types -/
/-- Is it a struct or an array, and of how many cells? -/
def aggSize (P : Program) (t : TypeId) : Option (Option Nat) :=
  match P.underlying t with
  | some (.struct _) | some (.array _ _) => (P.info? t).map fun i => some i.size
  | some _ => some none
  | none => none
/-- A field's place and size. -/
def fieldOff (P : Program) (s : TypeId) (f : Nat) : Option (Nat × Nat × Option Nat) :=
  match P.underlying s with
  | some (.struct fs) => match fs[f]? with
    | some x => match P.info? x.type with
      | some i => if i.size = 0 then none else (aggSize P x.type).map fun g => (x.offset, i.size, g)
      | none => none
    | none => none
  | _ => none
def elemSize (P : Program) (t : TypeId) : Option Nat :=
  match P.underlying t with
  | some (.slice e) => (P.info? e).map fun i => i.size
  | _ => none
def isStr (P : Program) (t : TypeId) : Bool := match P.underlying t with | some .string => true | _ => false
def isSl (P : Program) (t : TypeId) : Bool := match P.underlying t with | some (.slice _) => true | _ => false
def isBool (P : Program) (t : TypeId) : Bool := match P.underlying t with | some .bool => true | _ => false
def isPtr (P : Program) (t : TypeId) : Bool := match P.underlying t with | some (.pointer _) => true | _ => false
def notIface (P : Program) (t : TypeId) : Bool := match P.underlying t with | some (.interface _) => false | some _ => true | none => false
def intOfType (P : Program) (t : TypeId) : Option IntKind := match P.underlying t with | some (.int k) => some k | _ => none

theorem run_typeInfo {P : Program} {t : TypeId} {i : TypeInfo} (h : P.info? t = some i) (w : World) : (typeInfo t).run P w = .ok i w := by
  simp [typeInfo, h]
theorem run_under {P : Program} {t : TypeId} {d : TypeDesc} (h : P.underlying t = some d) (w : World) : (underlying t).run P w = .ok d w := by
  simp [underlying, h]
theorem run_sizeOf' {P : Program} {t : TypeId} {i : TypeInfo} (h : P.info? t = some i) (w : World) : (sizeOf t).run P w = .ok i.size w := by
  simp [sizeOf, run_typeInfo h]

/-! Loads -/
def loadPV (P : Program) (t : TypeId) (cs : List PV) : Option PV :=
  match aggSize P t with
  | some none => cs.head?
  | some (some n) => if n ≤ cs.length then some (.agg (cs.take n)) else none
  | none => none

theorem run_loadVar {P : Program} {w : World} {S : Heap} {t : TypeId} {b off : Nat} {cs : List PV} {p : PV} (hr : RepAt w S.im b off cs) (hp : loadPV P t cs = some p) :
    ∃ v, (loadVar t ⟨b, off, none⟩).run P w = .ok v w ∧ Rep w S.im p v := by
  obtain ⟨vs, hv, hc⟩ := repAt_vals hr
  unfold loadPV at hp
  unfold aggSize at hp
  cases hu : P.underlying t with
  | none => rw [hu] at hp; simp at hp
  | some d =>
    rw [hu] at hp
    have single : ∀ q, cs.head? = some q → isAgg t = isAgg t → (isAgg t).run P w = .ok false w → q = p → ∃ v, (loadVar t ⟨b, off, none⟩).run P w = .ok v w ∧ Rep w S.im p v := by
      intro q hq _ hag e
      subst e
      cases cs with
      | nil => simp at hq
      | cons c cs =>
        simp at hq; subst hq
        obtain ⟨v, h0, h1⟩ := repVals_get hv (i := 0) (c := c) rfl
        have hcell := hc 0 v h0
        exact ⟨v, by simp [loadVar, hag] ; rw [show off = off + 0 from rfl, hcell], h1⟩
    have many : ∀ i, P.info? t = some i → i.size ≤ cs.length → (isAgg t).run P w = .ok true w → p = .agg (cs.take i.size) → ∃ v, (loadVar t ⟨b, off, none⟩).run P w = .ok v w ∧ Rep w S.im p v := by
      intro i hi hle hag e
      subst e
      have hlen := repVals_length hv
      have hl : (vs.take i.size).length = i.size := by simp; omega
      have hrun := run_loadCells_list (P := P) (w := w) ⟨b, off, none⟩ (vs.take i.size) (fun j v e => by
        have : vs[j]? = some v := by
          rw [List.getElem?_take] at e
          split at e
          · exact e
          · simp at e
        have h2 := hc j v this
        have : (⟨b, off, none⟩ : Addr).add j = ⟨b, off + j, none⟩ := by unfold Addr.add; split <;> simp_all
        rw [this]; exact h2)
      rw [hl] at hrun
      refine ⟨.agg (vs.take i.size).toArray, ?_, ?_⟩
      · simp [loadVar, hag, run_sizeOf' hi, hrun]
      · simp only [Rep]
        exact ⟨_, rfl, by simpa using repVals_take i.size hv⟩
    have hnag : ∀ (d' : TypeDesc), P.underlying t = some d' → (match d' with | .struct _ | .array _ _ => True | _ => False) → (isAgg t).run P w = .ok true w := by
      intro d' h1 h2
      cases d' <;> simp at h2 <;> simp [isAgg, run_under h1]
    cases d <;> simp only [Option.map_eq_map] at hp
    case struct fs =>
      cases hi : P.info? t with
      | none => rw [hi] at hp; simp at hp
      | some i =>
        rw [hi] at hp; simp only [Option.map_some] at hp
        split at hp
        · rename_i hle; exact many i hi hle (hnag _ hu trivial) (by simpa using hp.symm)
        · simp at hp
    case array n e =>
      cases hi : P.info? t with
      | none => rw [hi] at hp; simp at hp
      | some i =>
        rw [hi] at hp; simp only [Option.map_some] at hp
        split at hp
        · rename_i hle; exact many i hi hle (hnag _ hu trivial) (by simpa using hp.symm)
        · simp at hp
    all_goals exact single p hp rfl (by simp [isAgg, run_under hu]) rfl

/-! Tests and sums -/
def orI (k : IntKind) (a b : Int) : Int := k.wrap ((BitVec.ofInt k.bits a ||| BitVec.ofInt k.bits b).toNat : Nat)
def andI (k : IntKind) (a b : Int) : Int := k.wrap ((BitVec.ofInt k.bits a &&& BitVec.ofInt k.bits b).toNat : Nat)
def evalInt (op : BinOp) (k : IntKind) (a b : Int) : Option PV :=
  match op with
  | .add => some (.int k (k.wrap (a + b)))
  | .sub => some (.int k (k.wrap (a - b)))
  | .mul => some (.int k (k.wrap (a * b)))
  | .quo => if b = 0 then none else some (.int k (k.wrap (a.tdiv b)))
  | .rem => if b = 0 then none else some (.int k (a.tmod b))
  | .or => some (.int k (orI k a b))
  | .and => some (.int k (andI k a b))
  | .eql => some (.bool (decide (a = b)))
  | .neq => some (.bool (decide (¬ a = b)))
  | .lss => some (.bool (decide (a < b)))
  | .leq => some (.bool (decide (a ≤ b)))
  | .gtr => some (.bool (decide (b < a)))
  | .geq => some (.bool (decide (b ≤ a)))
  | _ => none
def evalStr (op : BinOp) (a b : List UInt8) : Option PV :=
  match op with
  | .add => if a.length + b.length ≤ 9223372036854775807 then some (.str (a ++ b)) else none
  | .eql => some (.bool (decide (a = b)))
  | .neq => some (.bool (decide (¬ a = b)))
  | .lss => some (.bool (Op.bytesLess a b))
  | .geq => some (.bool (!Op.bytesLess a b))
  | _ => none
def evalNil (op : BinOp) (r : Bool) : Option PV := match op with | .eql => some (.bool r) | .neq => some (.bool (!r)) | _ => none
def evalBin (P : Program) (op : BinOp) (t : TypeId) (x y : PV) : Option PV :=
  match x, y with
  | .int k a, .int k' b => if k = k' then evalInt op k a b else none
  | .str a, .str b => evalStr op a b
  | .bool a, .bool b => if isBool P t then (match op with | .eql => some (.bool (a == b)) | .neq => some (.bool (!(a == b))) | _ => none) else none
  | .nilp, .nilp => if isPtr P t then evalNil op true else none
  | .ref _, .nilp => if isPtr P t then evalNil op false else none
  | .mp _ _, .nilp => if isPtr P t then evalNil op false else none
  | _, _ => none

theorem run_int {P : Program} {w : World} {op : BinOp} {t : TypeId} {x y : Operand} {k : IntKind} {a b : Int} {p : PV} (h : evalInt op k a b = some p) :
    ∃ v, (do eqGuard op t x y (.int k a) (.int k b); binOp op t (.int k a) (.int k b) : Sem Value).run P w = .ok v w ∧ ∀ im, Rep w im p v := by
  have hg : (eqGuard op t x y (.int k a) (.int k b)).run P w = .ok () w := by
    unfold eqGuard; cases op <;> simp
  have fin : ∀ v, (binOp op t (.int k a) (.int k b)).run P w = .ok v w → (∀ im, Rep w im p v) → ∃ v, (do eqGuard op t x y (.int k a) (.int k b); binOp op t (.int k a) (.int k b) : Sem Value).run P w = .ok v w ∧ ∀ im, Rep w im p v :=
    fun v h1 h2 => ⟨v, by simp [hg, h1], h2⟩
  cases op <;> simp only [evalInt, Option.some.injEq, reduceCtorEq] at h
  case quo =>
    split at h
    · simp at h
    · rename_i hb
      simp at h; subst h
      exact fin _ (by simp [binOp, Op.intDiv, hb]; rfl) (by simp [Rep])
  case rem =>
    split at h
    · simp at h
    · rename_i hb
      simp at h; subst h
      exact fin _ (by simp [binOp, Op.intDiv, hb]; rfl) (by simp [Rep])
  case neq => subst h; exact fin (.bool (a != b)) (by simp [binOp, Op.intCmp]) (by intro im; simp only [Rep]; congr 1; rw [Bool.eq_iff_iff]; simp)
  all_goals (subst h; exact fin _ (by simp [binOp, Op.intArith, Op.intBits, Op.intCmp, orI, andI]; rfl) (by intro im; simp only [Rep]; first | done | rfl | simp))
end Go.Proofs.Ytcbonfgkfiapaaa.Pv

/-! What the other operations without effect give, and one function that tells it for all of them. -/
set_option linter.unusedVariables false
set_option linter.unusedSimpArgs false
namespace Go.Proofs.Ytcbonfgkfiapaaa.Pv
open Go Go.RowKit

theorem run_guard_other {P : Program} {w : World} {op : BinOp} {t : TypeId} {x y : Operand} {a b : Value} (h : ¬ (a = .nilIface ∧ b = .nilIface)) (h2 : ∀ xs ys, ¬ (a = .agg xs ∧ b = .agg ys)) : (eqGuard op t x y a b).run P w = .ok () w := by
  unfold eqGuard
  cases op <;> simp
  all_goals (cases a <;> cases b <;> first | rfl | exact absurd ⟨rfl, rfl⟩ h | exact absurd ⟨rfl, rfl⟩ (h2 _ _))

theorem run_str {P : Program} {w : World} {op : BinOp} {t : TypeId} {x y : Operand} {a b : List UInt8} {p : PV} (h : evalStr op a b = some p) :
    ∃ v, (do eqGuard op t x y (.string ⟨a.toArray⟩) (.string ⟨b.toArray⟩); binOp op t (.string ⟨a.toArray⟩) (.string ⟨b.toArray⟩) : Sem Value).run P w = .ok v w ∧ ∀ im, Rep w im p v := by
  have hg : (eqGuard op t x y (.string ⟨a.toArray⟩) (.string ⟨b.toArray⟩)).run P w = .ok () w := run_guard_other (by simp) (by simp)
  have fin : ∀ v, (binOp op t (.string ⟨a.toArray⟩) (.string ⟨b.toArray⟩)).run P w = .ok v w → (∀ im, Rep w im p v) → ∃ v, (do eqGuard op t x y (.string ⟨a.toArray⟩) (.string ⟨b.toArray⟩); binOp op t (.string ⟨a.toArray⟩) (.string ⟨b.toArray⟩) : Sem Value).run P w = .ok v w ∧ ∀ im, Rep w im p v :=
    fun v h1 h2 => ⟨v, by simp [hg, h1], h2⟩
  have hcat : (⟨a.toArray⟩ : ByteArray) ++ ⟨b.toArray⟩ = ⟨(a ++ b).toArray⟩ := by apply ByteArray.ext; simp
  cases op <;> simp only [evalStr, Option.some.injEq, reduceCtorEq] at h
  case add =>
    split at h
    · rename_i hle
      simp at h; subst h
      refine fin (.string ⟨(a ++ b).toArray⟩) ?_ (by simp [Rep])
      have hsz : ¬ ((((⟨a.toArray⟩ : ByteArray).size + (⟨b.toArray⟩ : ByteArray).size : Nat) : Int) > IntKind.i64.max) := by
        simp [ByteArray.size, IntKind.max, IntKind.signed, IntKind.bits]; omega
      simp only [binOp, Op.stringOp]
      rw [if_neg hsz, hcat]
      rfl
    · simp at h
  case eql => subst h; exact fin (.bool (a == b)) (by simp [binOp, Op.stringOp, ByteArray.toList_mk]) (by intro im; simp only [Rep]; congr 1; rw [Bool.eq_iff_iff]; simp)
  case neq => subst h; exact fin (.bool (!(a == b))) (by simp [binOp, Op.stringOp, ByteArray.toList_mk]) (by intro im; simp only [Rep]; congr 1; rw [Bool.eq_iff_iff]; simp)
  all_goals (subst h; exact fin _ (by simp [binOp, Op.stringOp, ByteArray.toList_mk]; rfl) (by simp [Rep]))

theorem run_bin {P : Program} {w : World} {im : Nat → Prop} {op : BinOp} {t : TypeId} {x y : Operand} {p q r : PV} {a b : Value} (h : evalBin P op t p q = some r) (ha : Rep w im p a) (hb : Rep w im q b) :
    ∃ v, (do eqGuard op t x y a b; binOp op t a b : Sem Value).run P w = .ok v w ∧ Rep w im r v := by
  have ptr : ∀ (u : Option Addr) (v : Value) (r' : Bool), isPtr P t = true → a = .pointer u → b = .pointer none → r' = u.isNone →
      evalNil op r' = some r → ∃ v, (do eqGuard op t x y a b; binOp op t a b : Sem Value).run P w = .ok v w ∧ Rep w im r v := by
    intro u v r' hp e1 e2 e3 e4
    subst e1; subst e2
    have hu : P.underlying t = some (.pointer (P.pointee t)) := by
      unfold isPtr at hp
      split at hp
      · rename_i e he
        rw [he]; simp [Program.pointee, he]
      · simp at hp
    cases op <;> simp only [evalNil, Option.some.injEq, reduceCtorEq] at e4
    · subst e4
      exact ⟨.bool u.isNone, by simp [run_guard_other, run_eql_pointer_nil w t u hu], by simp [Rep, e3]⟩
    · subst e4
      exact ⟨.bool (!u.isNone), by simp [run_guard_other, run_neq_pointer_nil w t u hu], by simp [Rep, e3]⟩
  cases p <;> cases q <;> first | (simp only [evalBin, reduceCtorEq] at h; done) | skip
  case int.int k a' k' b' =>
    simp only [evalBin] at h
    by_cases hk : k = k'
    · rw [if_pos hk] at h; subst hk
      simp only [Rep] at ha hb; subst ha; subst hb
      obtain ⟨v, h1, h2⟩ := run_int (P := P) (w := w) (op := op) (t := t) (x := x) (y := y) h
      exact ⟨v, h1, h2 im⟩
    · rw [if_neg hk] at h; simp at h
  case str.str a' b' =>
    simp only [evalBin] at h
    simp only [Rep] at ha hb; subst ha; subst hb
    obtain ⟨v, h1, h2⟩ := run_str (P := P) (w := w) (op := op) (t := t) (x := x) (y := y) h
    exact ⟨v, h1, h2 im⟩
  case bool.bool a' b' =>
    simp only [evalBin] at h
    simp only [Rep] at ha hb; subst ha; subst hb
    split at h
    · rename_i hb
      have hu : P.underlying t = some .bool := by
        unfold isBool at hb
        split at hb
        · assumption
        · simp at hb
      cases op <;> simp only [Option.some.injEq, reduceCtorEq] at h
      · subst h; exact ⟨_, by simp [run_guard_other, run_eql_bool w t a' b' hu]; rfl, by simp [Rep]⟩
      · subst h; exact ⟨_, by simp [run_guard_other, run_neq_bool w t a' b' hu]; rfl, by simp [Rep]⟩
    · simp at h
  case nilp.nilp =>
    simp only [evalBin] at h
    simp only [Rep] at ha hb
    split at h
    · rename_i hp; exact ptr none a true hp ha hb rfl h
    · simp at h
  case ref.nilp cs =>
    simp only [evalBin] at h
    simp only [Rep] at ha hb
    obtain ⟨b', off, e, _⟩ := ha
    split at h
    · rename_i hp; exact ptr (some _) a false hp e hb rfl h
    · simp at h
  case mp.nilp b' off =>
    simp only [evalBin] at h
    simp only [Rep] at ha hb
    split at h
    · rename_i hp; exact ptr (some _) a false hp ha hb rfl h
    · simp at h

/-! Fields, elements, cuts -/
def fieldAddrPV (P : Program) (s f : Nat) : PV → Option PV
  | .ref cs => match fieldOff P s f with
    | some (off, _, _) => if off ≤ cs.length then some (.ref (cs.drop off)) else none
    | none => none
  | .mp b o => match fieldOff P s f with
    | some (off, _, _) => some (.mp b (o + off))
    | none => none
  | _ => none

theorem add_addr (b o k : Nat) : (⟨b, o, none⟩ : Addr).add k = ⟨b, o + k, none⟩ := by unfold Addr.add; split <;> simp_all

theorem run_fieldAt {P : Program} {w : World} {im : Nat → Prop} {s f : Nat} {p r : PV} {v : Value} (h : fieldAddrPV P s f p = some r) (hp : Rep w im p v) : ∃ u, (Instr.fieldAt s v f).run P w = .ok u w ∧ Rep w im r u := by
  have key : ∀ off i g, fieldOff P s f = some (off, i, g) → ∀ b o, (Instr.fieldAt s (.pointer (some ⟨b, o, none⟩)) f).run P w = .ok (.pointer (some ⟨b, o + off, none⟩)) w := by
    intro off i g hf b o
    unfold fieldOff at hf
    split at hf
    · rename_i fs hu
      split at hf
      · rename_i x hx
        split at hf
        · rename_i inf hi
          split at hf
          · simp at hf
          · rename_i hz
            cases hg : aggSize P x.type with
            | none => rw [hg] at hf; simp at hf
            | some g' =>
              rw [hg] at hf; simp at hf
              obtain ⟨rfl, rfl, rfl⟩ := hf
              simp [Instr.fieldAt, run_under hu, hx, Instr.sureAddr, fieldPlace, run_sizeOf' hi, hz, add_addr]
        · simp at hf
      · simp at hf
    · simp at hf
  unfold fieldAddrPV at h
  split at h
  · rename_i cs
    split at h
    · rename_i off i g hf
      split at h
      · rename_i hle
        simp at h; subst h
        simp only [Rep] at hp
        obtain ⟨b, o, rfl, h1, h2, h3⟩ := hp
        exact ⟨_, key off i g hf b o, by simp only [Rep]; exact ⟨b, o + off, rfl, h1, h2, repAt_drop off h3⟩⟩
      · simp at h
    · simp at h
  · rename_i b o
    split at h
    · rename_i off i g hf
      simp at h; subst h
      simp only [Rep] at hp; subst hp
      exact ⟨_, key off i g hf b o, by simp [Rep]⟩
    · simp at h
  · simp at h

def fieldPV (P : Program) (s f : Nat) : PV → Option PV
  | .agg cs => match fieldOff P s f with
    | some (off, size, none) => cs[off]?
    | some (off, size, some _) => some (.agg ((cs.take (off + size)).drop off))
    | none => none
  | _ => none
theorem run_field {P : Program} {w : World} {im : Nat → Prop} {s f : Nat} {p r : PV} {v : Value} (h : fieldPV P s f p = some r) (hp : Rep w im p v) : ∃ u, (Instr.field s v f).run P w = .ok u w ∧ Rep w im r u := by
  cases p <;> simp only [fieldPV, reduceCtorEq] at h
  rename_i cs
  simp only [Rep] at hp
  obtain ⟨arr, rfl, hv⟩ := hp
  have key : ∀ off i g, fieldOff P s f = some (off, i, g) → ∃ (fs : Array Field) (x : Field) (inf : TypeInfo), P.underlying s = some (.struct fs) ∧ fs[f]? = some x ∧ P.info? x.type = some inf ∧ aggSize P x.type = some g ∧ x.offset = off ∧ inf.size = i := by
    intro off i g hf
    unfold fieldOff at hf
    split at hf
    · rename_i fs hu
      split at hf
      · rename_i x hx
        split at hf
        · rename_i inf hi
          split at hf
          · simp at hf
          · rename_i hz
            cases hg : aggSize P x.type with
            | none => rw [hg] at hf; simp at hf
            | some g' =>
              rw [hg] at hf; simp at hf
              obtain ⟨h1, h2, h3⟩ := hf
              exact ⟨fs, x, inf, hu, hx, hi, by rw [hg, h3], h1, h2⟩
        · simp at hf
      · simp at hf
    · simp at hf
  have agg_of : ∀ {t : TypeId} {g : Option Nat}, aggSize P t = some g → (isAgg t).run P w = .ok g.isSome w := by
    intro t g hg
    unfold aggSize at hg
    cases hu : P.underlying t with
    | none => rw [hu] at hg; simp at hg
    | some d =>
      rw [hu] at hg
      cases d <;> simp only [Option.map_eq_map] at hg
      case struct fs =>
        cases hi : P.info? t with
        | none => rw [hi] at hg; simp at hg
        | some i => rw [hi] at hg; simp at hg; subst hg; simp [isAgg, run_under hu]
      case array n e =>
        cases hi : P.info? t with
        | none => rw [hi] at hg; simp at hg
        | some i => rw [hi] at hg; simp at hg; subst hg; simp [isAgg, run_under hu]
      all_goals (simp at hg; subst hg; simp [isAgg, run_under hu])
  split at h
  · rename_i off size hf
    obtain ⟨fs, x, inf, h1, h2, h3, h4, h5, h6⟩ := key _ _ _ hf
    obtain ⟨u, hu, hr⟩ := repVals_get hv h
    refine ⟨u, ?_, hr⟩
    subst h5
    simp at hu
    simp [Instr.field, run_under h1, h2, asAgg, part, agg_of h4, hu]
  · rename_i off size g hf
    obtain ⟨fs, x, inf, h1, h2, h3, h4, h5, h6⟩ := key _ _ _ hf
    simp at h; subst h
    subst h5; subst h6
    refine ⟨.agg (arr.extract x.offset (x.offset + inf.size)), ?_, ?_⟩
    · simp [Instr.field, run_under h1, h2, asAgg, part, agg_of h4, run_sizeOf' h3]
    · simp only [Rep]
      refine ⟨_, rfl, ?_⟩
      have := repVals_drop x.offset (repVals_take (x.offset + inf.size) hv)
      have e : (arr.extract x.offset (x.offset + inf.size)).toList = (arr.toList.take (x.offset + inf.size)).drop x.offset := by
        simp [List.drop_take]
      rwa [e]
  · simp at h

def indexAddrPV (P : Program) (t : TypeId) : PV → PV → Option PV
  | .slice sz rows, .int k i => if elemSize P t = some sz ∧ 0 ≤ i then rows[i.toNat]?.map .ref else none
  | .vec b n cap, .int k i => match elemSize P t with
    | some sz => if 0 ≤ i ∧ i < n then some (.mp b (i.toNat * sz)) else none
    | none => none
  | _, _ => none
theorem elemSize_spec {P : Program} {t : TypeId} {sz : Nat} (h : elemSize P t = some sz) : ∃ e i, P.underlying t = some (.slice e) ∧ P.info? e = some i ∧ i.size = sz := by
  unfold elemSize at h
  split at h
  · rename_i e hu
    cases hi : P.info? e with
    | none => rw [hi] at h; simp at h
    | some i => rw [hi] at h; simp at h; exact ⟨e, i, hu, hi, h⟩
  · simp at h
theorem run_indexAt {P : Program} {w : World} {im : Nat → Prop} {t : TypeId} {p q r : PV} {v u : Value} (h : indexAddrPV P t p q = some r) (hp : Rep w im p v) (hq : Rep w im q u) : ∃ x, (Instr.indexAt t v u).run P w = .ok x w ∧ Rep w im r x := by
  unfold indexAddrPV at h
  split at h
  · rename_i sz rows k i
    split at h
    · rename_i hc
      obtain ⟨he, h0⟩ := hc
      obtain ⟨e, inf, hu, hi, hsz⟩ := elemSize_spec he
      simp only [Rep] at hp hq
      subst hq
      obtain ⟨a, c, rfl, h1, h2, h3⟩ := hp
      cases hx : rows[i.toNat]? with
      | none => rw [hx] at h; simp at h
      | some row =>
        rw [hx] at h; simp at h; subst h
        have hlt : i.toNat < rows.length := (List.getElem?_eq_some_iff.1 hx).1
        rcases h3 with h3 | ⟨b, off, rfl, hi1, hi2, hr⟩
        · subst h3; simp at hlt
        · obtain ⟨hl, hat⟩ := repRows_get hr hx
          have hlt' : i < (rows.length : Int) := by omega
          refine ⟨.pointer (some ⟨b, off + i.toNat * sz, none⟩), ?_, ?_⟩
          · simp [Instr.indexAt, asIntOf, run_under hu, h0, hlt', run_sizeOf' hi, hsz, add_addr]
          · simp only [Rep]; exact ⟨b, _, rfl, hi1, hi2, hat⟩
    · simp at h
  · rename_i b n cap k i
    split at h
    · rename_i sz he
      obtain ⟨e, inf, hu, hi, hsz⟩ := elemSize_spec he
      split at h
      · rename_i hc
        simp at h; subst h
        simp only [Rep] at hp hq
        subst hq; subst hp
        refine ⟨.pointer (some ⟨b, i.toNat * sz, none⟩), ?_, by simp [Rep]⟩
        simp [Instr.indexAt, asIntOf, run_under hu, hc.1, hc.2, run_sizeOf' hi, hsz, add_addr]
      · simp at h
    · simp at h
  · simp at h

def indexPV (P : Program) (t : TypeId) : PV → PV → Option PV
  | .str s, .int k i => if isStr P t = true ∧ 0 ≤ i then s[i.toNat]?.map fun c => .int .u8 (c.toNat : Int) else none
  | _, _ => none
theorem isStr_spec {P : Program} {t : TypeId} (h : isStr P t = true) : P.underlying t = some .string := by
  unfold isStr at h
  split at h
  · assumption
  · simp at h
theorem run_index' {P : Program} {w : World} {im : Nat → Prop} {t : TypeId} {p q r : PV} {v u : Value} (h : indexPV P t p q = some r) (hp : Rep w im p v) (hq : Rep w im q u) : ∃ x, (Instr.index t v u).run P w = .ok x w ∧ Rep w im r x := by
  unfold indexPV at h
  split at h
  · rename_i s k i
    split at h
    · rename_i hc
      have hu := isStr_spec hc.1
      simp only [Rep] at hp hq
      subst hp; subst hq
      cases hx : s[i.toNat]? with
      | none => rw [hx] at h; simp at h
      | some c =>
        rw [hx] at h; simp at h; subst h
        have hlt : i.toNat < s.length := (List.getElem?_eq_some_iff.1 hx).1
        refine ⟨.int .u8 (c.toNat : Int), ?_, by simp [Rep]⟩
        rw [run_index_string w t _ k i hu, dif_pos ⟨hc.2, by simp [ByteArray.size]; omega⟩]
        have e : (⟨s.toArray⟩ : ByteArray)[i.toNat]'(by simpa [ByteArray.size] using hlt) = c := by
          have := (List.getElem?_eq_some_iff.1 hx).2
          simpa [ByteArray.getElem_eq_getElem_data] using this
        rw [e]
    · simp at h
  · simp at h

/-- The two ends of a cut. -/
def bound (σ : Nat → PV) (d : Nat) : Option Operand → Option Nat
  | none => some d
  | some x => match ev σ x with
    | .int _ i => if 0 ≤ i then some i.toNat else none
    | _ => none
def slicePV (P : Program) (t : TypeId) (lo hi : Option Nat) : PV → Option PV
  | .str s => match isStr P t, lo, hi with
    | true, some l, some h => if l ≤ h ∧ h ≤ s.length then some (.str ((s.take h).drop l)) else none
    | _, _, _ => none
  | .slice sz rows => match lo, hi with
    | some l, some h => if elemSize P t = some sz ∧ l ≤ h ∧ h ≤ rows.length then some (.slice sz ((rows.take h).drop l)) else none
    | _, _ => none
  | _ => none
def lenPV (P : Program) (t : TypeId) : PV → Option PV
  | .str s => if isStr P t then some (.int .i64 (s.length : Int)) else none
  | .slice sz rows => if isSl P t then some (.int .i64 (rows.length : Int)) else none
  | .sl0 => if isSl P t then some (.int .i64 0) else none
  | .vec b n cap => if isSl P t then some (.int .i64 (n : Int)) else none
  | _ => none
theorem isSl_spec {P : Program} {t : TypeId} (h : isSl P t = true) : ∃ e, P.underlying t = some (.slice e) := by
  unfold isSl at h
  split at h
  · rename_i e he; exact ⟨e, he⟩
  · simp at h
theorem run_len {P : Program} {w : World} {im : Nat → Prop} {ts : Array TypeId} {t ty : TypeId} {p r : PV} {v : Value} (ht : ts[0]? = some t) (h : lenPV P t p = some r) (hp : Rep w im p v) : ∃ x, (Builtin.len_ ts ty #[v]).run P w = .ok x w ∧ Rep w im r x := by
  unfold lenPV at h
  split at h <;> try (simp at h; done)
  all_goals split at h <;> try (simp at h; done)
  all_goals (rename_i hc; simp at h; subst h; simp only [Rep] at hp)
  · have hu := isStr_spec hc
    subst hp
    exact ⟨_, by simp [Builtin.len_, ht, run_under hu]; rfl, by simp [Rep, goInt, ByteArray.size]⟩
  · obtain ⟨e, hu⟩ := isSl_spec hc
    obtain ⟨a, c, rfl, _⟩ := hp
    exact ⟨_, by simp [Builtin.len_, ht, run_under hu]; rfl, by simp [Rep, goInt]⟩
  · obtain ⟨e, hu⟩ := isSl_spec hc
    obtain ⟨a, rfl⟩ := hp
    exact ⟨_, by simp [Builtin.len_, ht, run_under hu]; rfl, by simp [Rep, goInt]⟩
  · obtain ⟨e, hu⟩ := isSl_spec hc
    subst hp
    exact ⟨_, by simp [Builtin.len_, ht, run_under hu]; rfl, by simp [Rep, goInt]⟩
end Go.Proofs.Ytcbonfgkfiapaaa.Pv

/-! Cuts, conversions, structs and slices that are made; then one function that tells what an operation without effect gives, shown to be what the machine does. -/
set_option linter.unusedVariables false
set_option linter.unusedSimpArgs false
namespace Go.Proofs.Ytcbonfgkfiapaaa.Pv
open Go Go.RowKit

theorem bound_spec {n : Nat} {w : World} {S : Heap} {a : Act} {σ : Nat → PV} (h : St n w S a σ) {d l : Nat} {x : Option Operand} (hb : bound σ d x = some l) :
    (x = none ∧ l = d) ∨ ∃ o k, x = some o ∧ a.eval o = .int k (l : Int) := by
  cases x with
  | none => simp [bound] at hb; exact Or.inl ⟨rfl, hb.symm⟩
  | some o =>
    right
    have hr := rep_ev h o
    unfold bound at hb
    simp only at hb
    generalize ev σ o = p at hb hr
    cases p <;> simp only [reduceCtorEq] at hb
    rename_i k i
    by_cases h0 : 0 ≤ i
    · rw [if_pos h0] at hb; simp at hb
      simp only [Rep] at hr
      exact ⟨o, k, rfl, by rw [hr, ← hb]; congr 1; omega⟩
    · rw [if_neg h0] at hb; simp at hb

theorem run_bounds {P : Program} {w : World} (isSlice : Bool) (len cap l h : Nat) (lo hi : Option Value) (hlo : (lo = none ∧ l = 0) ∨ ∃ k, lo = some (.int k (l : Int))) (hhi : (hi = none ∧ h = len) ∨ ∃ k, hi = some (.int k (h : Int)))
    (h1 : l ≤ h) (h2 : h ≤ cap) : (Instr.sliceBounds isSlice len cap lo hi none).run P w = .ok (l, h, cap) w := by
  rcases hlo with ⟨rfl, rfl⟩ | ⟨k, rfl⟩ <;> rcases hhi with ⟨rfl, rfl⟩ | ⟨k', rfl⟩
  · simp [Instr.sliceBounds]
  · have e2 := run_sliceBound (P := P) w k' (h : Int) cap (if isSlice = true then BoundsCode.sliceAcap else BoundsCode.sliceAlen) (by omega) (by omega)
    simp [Instr.sliceBounds, e2]
  · have e1 := run_sliceBound (P := P) w k (l : Int) h BoundsCode.sliceB (by omega) (by omega)
    simp [Instr.sliceBounds, e1]
  · have e2 := run_sliceBound (P := P) w k' (h : Int) cap (if isSlice = true then BoundsCode.sliceAcap else BoundsCode.sliceAlen) (by omega) (by omega)
    have e1 := run_sliceBound (P := P) w k (l : Int) h BoundsCode.sliceB (by omega) (by omega)
    simp [Instr.sliceBounds, e2, e1]

theorem bytes_extract (l : List UInt8) (a b : Nat) : (⟨l.toArray⟩ : ByteArray).extract a b = ⟨((l.take b).drop a).toArray⟩ := by
  apply ByteArray.ext
  simp [List.drop_take]

theorem run_sliceAt {P : Program} {w : World} {im : Nat → Prop} {t : TypeId} {l h d : Nat} {p r : PV} {v : Value} {lo hi : Option Value} (hp : Rep w im p v) (hr : slicePV P t (some l) (some h) p = some r)
    (hlo : (lo = none ∧ l = 0) ∨ ∃ k, lo = some (.int k (l : Int))) (hhi : (hi = none ∧ h = d) ∨ ∃ k, hi = some (.int k (h : Int))) (hd : lenPV P t p = some (.int .i64 (d : Int))) :
    ∃ u, (Instr.sliceAt t v lo hi none).run P w = .ok u w ∧ Rep w im r u := by
  cases p <;> simp only [slicePV, reduceCtorEq] at hr
  case str s =>
    cases ht : isStr P t with
    | false => rw [ht] at hr; simp at hr
    | true =>
      rw [ht] at hr
      have hu := isStr_spec ht
      simp only [lenPV, ht, if_true, Option.some.injEq, PV.int.injEq, true_and] at hd
      have hd' : s.length = d := by omega
      by_cases hc : l ≤ h ∧ h ≤ s.length
      · simp only [if_pos hc, Option.some.injEq] at hr; subst hr
        simp only [Rep] at hp; subst hp
        refine ⟨.string ⟨((s.take h).drop l).toArray⟩, ?_, by simp [Rep]⟩
        have e := run_bounds (P := P) (w := w) false s.length s.length l h lo hi hlo (by rw [hd']; exact hhi) hc.1 hc.2
        have hsz : (⟨s.toArray⟩ : ByteArray).size = s.length := by simp [ByteArray.size]
        simp [Instr.sliceAt, Instr.slice, run_under hu, hsz, e, bytes_extract]
      · simp only [if_neg hc, reduceCtorEq] at hr
  case slice sz rows =>
    by_cases hc : elemSize P t = some sz ∧ l ≤ h ∧ h ≤ rows.length
    · rw [if_pos hc] at hr
      simp only [Option.some.injEq] at hr; subst hr
      obtain ⟨he, h1, h2⟩ := hc
      obtain ⟨e, inf, hu, hi', hsz⟩ := elemSize_spec he
      have hsl : isSl P t = true := by unfold isSl; rw [hu]
      simp only [lenPV, hsl, if_true, Option.some.injEq, PV.int.injEq, true_and] at hd
      have hd' : rows.length = d := by omega
      simp only [Rep] at hp
      obtain ⟨a, c, rfl, hlc, hcm, hrows⟩ := hp
      have eb := run_bounds (P := P) (w := w) true rows.length c l h lo hi hlo (by rw [hd']; exact hhi) h1 (by omega)
      have hlen : ((rows.take h).drop l).length = h - l := by simp; omega
      refine ⟨.slice (if c = l then a else a.map (·.add (l * sz))) (h - l) (c - l), ?_, ?_⟩
      · simp [Instr.sliceAt, Instr.slice, run_under hu, eb, run_sizeOf' hi', hsz]
      · simp only [Rep]
        refine ⟨_, c - l, by rw [hlen], by rw [hlen]; omega, by omega, ?_⟩
        by_cases hz : (rows.take h).drop l = []
        · exact Or.inl hz
        · right
          have hpos : 0 < h - l := by
            rcases Nat.eq_zero_or_pos (h - l) with h0 | h0
            · rw [h0] at hlen; exact absurd (List.eq_nil_of_length_eq_zero hlen) hz
            · exact h0
          rcases hrows with hrows | ⟨b, off, rfl, hi1, hi2, hrr⟩
          · subst hrows; simp at hz
          · refine ⟨b, off + l * sz, ?_, hi1, hi2, ?_⟩
            · rw [if_neg (by omega)]; simp [add_addr]
            · exact repRows_drop l (repRows_take h hrr)
    · rw [if_neg hc] at hr; simp at hr

/-! Structs -/
def zeroCells (P : Program) (t : TypeId) : Option (List PV) :=
  match P.info? t with
  | some i => match i.zero with
    | some z => some (z.cells.toList.map ofCell)
    | none => none
  | none => none
/-- Parts laid over cells. -/
def splice (cs : List PV) (off : Nat) (ds : List PV) : List PV := cs.take off ++ ds ++ cs.drop (off + ds.length)
def fillPV (P : Program) (t : TypeId) (cs : List PV) : List (Nat × PV) → Option (List PV)
  | [] => some cs
  | (f, p) :: rest => match fieldOff P t f with
    | some (off, size, _) => match cellsOf p with
      | some ds => if ds.length = size ∧ off + size ≤ cs.length then fillPV P t (splice cs off ds) rest else none
      | none => none
    | none => none
def buildPV (P : Program) (t : TypeId) (parts : List (Nat × PV)) : Option PV :=
  match zeroCells P t with
  | some cs => match P.underlying t with
    | some (.struct _) => (fillPV P t cs parts).map .agg
    | _ => none
  | none => none

theorem foldl_set (ds : List Value) : ∀ (cs : Array Value) (off j0 : Nat), off + j0 + ds.length ≤ cs.size →
    (((ds.zipIdx j0).foldl (fun cs (x : Value × Nat) => cs.setIfInBounds (off + x.2) x.1) cs)).toList = cs.toList.take (off + j0) ++ ds ++ cs.toList.drop (off + j0 + ds.length) := by
  induction ds with
  | nil => intro cs off j0 h; simp
  | cons d ds ih =>
    intro cs off j0 h
    simp only [List.zipIdx_cons, List.foldl_cons]
    have h' : off + j0 + (ds.length + 1) ≤ cs.size := by simpa using h
    rw [ih _ off (j0 + 1) (by simp; omega)]
    have hlt : off + j0 < cs.toList.length := by simp; omega
    have e1 : (cs.setIfInBounds (off + j0) d).toList = cs.toList.set (off + j0) d := by simp
    rw [e1]
    apply List.ext_getElem?
    intro i
    simp only [List.length_cons]
    by_cases h1 : i < off + j0
    · have hl1 : i < (List.take (off + (j0 + 1)) (cs.toList.set (off + j0) d) ++ ds).length := by simp; omega
      have hl2 : i < (List.take (off + j0) cs.toList ++ d :: ds).length := by simp; omega
      rw [List.getElem?_append_left hl1, List.getElem?_append_left hl2, List.getElem?_append_left (by simp; omega), List.getElem?_append_left (by simp; omega)]
      rw [List.getElem?_take_of_lt (by omega), List.getElem?_take_of_lt (by omega), List.getElem?_set_ne (by omega)]
    · by_cases h2 : i = off + j0
      · subst h2
        have hl1 : off + j0 < (List.take (off + (j0 + 1)) (cs.toList.set (off + j0) d) ++ ds).length := by simp; omega
        have hl2 : off + j0 < (List.take (off + j0) cs.toList ++ d :: ds).length := by simp; omega
        rw [List.getElem?_append_left hl1, List.getElem?_append_left hl2, List.getElem?_append_left (by simp; omega)]
        rw [List.getElem?_take_of_lt (by omega), List.getElem?_set_self (by simpa using hlt)]
        rw [List.getElem?_append_right (by simp; omega)]
        have : off + j0 - (List.take (off + j0) cs.toList).length = 0 := by simp; omega
        rw [this]; rfl
      · by_cases h3 : i < off + j0 + (ds.length + 1)
        · have hl1 : i < (List.take (off + (j0 + 1)) (cs.toList.set (off + j0) d) ++ ds).length := by simp; omega
          have hl2 : i < (List.take (off + j0) cs.toList ++ d :: ds).length := by simp; omega
          rw [List.getElem?_append_left hl1, List.getElem?_append_left hl2, List.getElem?_append_right (by simp; omega), List.getElem?_append_right (by simp; omega)]
          have e2 : i - (List.take (off + j0) cs.toList).length = (i - (List.take (off + (j0 + 1)) (cs.toList.set (off + j0) d)).length) + 1 := by simp; omega
          rw [e2, List.getElem?_cons_succ]
        · have hl1 : (List.take (off + (j0 + 1)) (cs.toList.set (off + j0) d) ++ ds).length ≤ i := by simp; omega
          have hl2 : (List.take (off + j0) cs.toList ++ d :: ds).length ≤ i := by simp; omega
          rw [List.getElem?_append_right hl1, List.getElem?_append_right hl2, List.getElem?_drop, List.getElem?_drop]
          rw [List.getElem?_set_ne (by simp; omega)]
          congr 1
          simp; omega

theorem fieldOff_places {P : Program} {t : TypeId} {fs : Array Field} (hu : P.underlying t = some (.struct fs)) {f off size : Nat} {g : Option Nat} (hf : fieldOff P t f = some (off, size, g)) :
    ∃ x inf, fs[f]? = some x ∧ P.info? x.type = some inf ∧ x.offset = off ∧ inf.size = size := by
  unfold fieldOff at hf
  rw [hu] at hf
  simp only at hf
  cases hx : fs[f]? with
  | none => rw [hx] at hf; simp at hf
  | some x =>
    rw [hx] at hf; simp only at hf
    cases hi : P.info? x.type with
    | none => rw [hi] at hf; simp at hf
    | some inf =>
      rw [hi] at hf; simp only at hf
      split at hf
      · simp at hf
      · cases hg : aggSize P x.type with
        | none => rw [hg] at hf; simp at hf
        | some g' =>
          rw [hg] at hf; simp at hf
          exact ⟨x, inf, rfl, hi, hf.1, hf.2.1⟩

theorem run_fill {P : Program} {w : World} {im : Nat → Prop} {t : TypeId} {fs : Array Field} (hu : P.underlying t = some (.struct fs)) (places : Array (Nat × Nat))
    (hp : ∀ (f : Nat) (x : Field) (inf : TypeInfo), fs[f]? = some x → P.info? x.type = some inf → places[f]? = some (x.offset, inf.size)) :
    ∀ (parts : List (Nat × PV)) (vals : List (Nat × Value)) (cs : List PV) (arr : Array Value) (r : List PV), parts.length = vals.length →
      (∀ (i f : Nat) (p : PV), parts[i]? = some (f, p) → ∃ v, vals[i]? = some (f, v) ∧ Rep w im p v) → RepVals w im cs arr.toList → fillPV P t cs parts = some r →
      ∃ res, Instr.fill (places[·]?) arr vals = some res ∧ RepVals w im r res.toList
  | [], [], cs, arr, r, _, _, hv, h => by simp [fillPV] at h; subst h; exact ⟨arr, rfl, hv⟩
  | [], v :: vals, cs, arr, r, hl, _, _, _ => by simp at hl
  | (f, p) :: rest, [], cs, arr, r, hl, _, _, _ => by simp at hl
  | (f, p) :: rest, (f', v) :: vals, cs, arr, r, hl, hpv, hv, h => by
    obtain ⟨v', e1, hr⟩ := hpv 0 f p rfl
    simp at e1
    obtain ⟨rfl, e1⟩ := e1
    subst e1
    simp only [fillPV] at h
    cases hf : fieldOff P t f' with
    | none => rw [hf] at h; simp at h
    | some x =>
      obtain ⟨off, size, g⟩ := x
      rw [hf] at h; simp only at h
      cases hc : cellsOf p with
      | none => rw [hc] at h; simp at h
      | some ds =>
        rw [hc] at h; simp only at h
        by_cases hcond : ds.length = size ∧ off + size ≤ cs.length
        · rw [if_pos hcond] at h
          obtain ⟨h1, h2⟩ := hcond
          obtain ⟨x, inf, hx, hi, ho, hs⟩ := fieldOff_places hu hf
          have hpl := hp f' x inf hx hi
          have hcells := rep_cells hr hc
          have hlen := repVals_length hcells
          have hcs := repVals_length hv
          have hsz : v.cells.size = size := by have : v.cells.toList.length = ds.length := hlen; simpa [h1] using this
          have hle : off + v.cells.size ≤ arr.size := by have : arr.toList.length = cs.length := hcs; simp at this; omega
          have hfold := foldl_set v.cells.toList arr off 0 (by simpa using hle)
          simp only [Instr.fill]
          rw [hpl]
          simp only [ho, hs]
          rw [if_neg (by simp [hsz]; omega)]
          refine run_fill hu places hp rest vals (splice cs off ds) _ r (by simpa using hl) (fun i f p e => by simpa using hpv (i + 1) f p (by simpa using e)) ?_ h
          have hz : v.cells.zipIdx.foldl (fun cs (x : Value × Nat) => cs.setIfInBounds (off + x.2) x.1) arr = (v.cells.toList.zipIdx 0).foldl (fun cs (x : Value × Nat) => cs.setIfInBounds (off + x.2) x.1) arr := by
            rw [← Array.foldl_toList]; simp
          have e : (v.cells.zipIdx.foldl (fun cs (x : Value × Nat) => cs.setIfInBounds (off + x.2) x.1) arr).toList = arr.toList.take off ++ v.cells.toList ++ arr.toList.drop (off + v.cells.toList.length) := by
            rw [hz, hfold]; simp
          show RepVals w im (splice cs off ds) (v.cells.zipIdx.foldl (fun cs (x : Value × Nat) => cs.setIfInBounds (off + x.2) x.1) arr).toList
          rw [e, hlen]
          exact repVals_append (repVals_append (repVals_take off hv) hcells) (repVals_drop (off + ds.length) hv)
        · rw [if_neg hcond] at h; simp at h

theorem fields_places {P : Program} {w : World} {fs : Array Field} : ∀ (l : List Field) , (∀ x ∈ l, ∃ inf, P.info? x.type = some inf) →
    (l.mapM (m := Sem) fun f => do pure (f.offset, ← sizeOf f.type)).run P w = .ok (l.map fun f => (f.offset, P.cellsOf f.type)) w
  | [], _ => by simp
  | x :: l, h => by
    obtain ⟨inf, hi⟩ := h x (by simp)
    have ih := fields_places (P := P) (w := w) (fs := fs) l fun y hy => h y (by simp [hy])
    simp only [List.mapM_cons, Sem.run_bind, run_sizeOf' hi, Result.andThen_ok, Sem.run_pure, ih, List.map_cons]
    simp [Program.cellsOf, hi]

def structOk (P : Program) (t : TypeId) : Bool :=
  match P.underlying t with
  | some (.struct fs) => fs.toList.all fun f => (P.info? f.type).isSome
  | _ => false

theorem run_build {P : Program} {w : World} {im : Nat → Prop} {t : TypeId} {parts : List (Nat × PV)} {vals : Array (Nat × Value)} {r : PV} (hok : structOk P t = true) (hl : parts.length = vals.toList.length)
    (hpv : ∀ (i f : Nat) (p : PV), parts[i]? = some (f, p) → ∃ v, vals.toList[i]? = some (f, v) ∧ Rep w im p v) (h : buildPV P t parts = some r) :
    ∃ u, (Instr.build t vals).run P w = .ok u w ∧ Rep w im r u := by
  unfold buildPV at h
  cases hz : zeroCells P t with
  | none => rw [hz] at h; simp at h
  | some cs =>
    rw [hz] at h; simp only at h
    unfold structOk at hok
    cases hu : P.underlying t with
    | none => rw [hu] at h; simp at h
    | some d =>
      rw [hu] at h hok
      cases d <;> simp only [reduceCtorEq] at h
      rename_i fs
      simp only at hok
      cases hfl : fillPV P t cs parts with
      | none => rw [hfl] at h; simp at h
      | some res =>
        rw [hfl] at h; simp only [Option.map_some, Option.some.injEq] at h; subst h
        unfold zeroCells at hz
        cases hi : P.info? t with
        | none => rw [hi] at hz; simp at hz
        | some inf =>
          rw [hi] at hz; simp only at hz
          cases hzz : inf.zero with
          | none => rw [hzz] at hz; simp at hz
          | some z =>
            rw [hzz] at hz; simp only [Option.some.injEq] at hz
            have hv : RepVals w im cs z.cells.toList := by
              rw [← hz]
              have := repVals_map (w := w) (im := im) ofCell id (rep_ofCell w im) z.cells.toList
              simpa using this
            have hall : ∀ x ∈ fs.toList, ∃ inf, P.info? x.type = some inf := fun x hx => by
              have := List.all_eq_true.1 hok x hx
              exact Option.isSome_iff_exists.1 this
            have hpl := fields_places (P := P) (w := w) (fs := fs) fs.toList hall
            obtain ⟨out, h1, h2⟩ := run_fill (P := P) (w := w) (im := im) (t := t) hu (fs.toList.map fun f => (f.offset, P.cellsOf f.type)).toArray (fun f x inf' hx hi' => by
              have : fs.toList[f]? = some x := by simpa using hx
              simp [this, Program.cellsOf, hi', hx]) parts vals.toList cs z.cells res hl hpv hv hfl
            refine ⟨.agg out, ?_, by simp only [Rep]; exact ⟨out, rfl, h2⟩⟩
            have hm : (fs.mapM (m := Sem) fun f => do pure (f.offset, ← sizeOf f.type)).run P w = .ok (fs.toList.map fun f => (f.offset, P.cellsOf f.type)).toArray w := by
              rw [Array.mapM_eq_mapM_toList, Sem.run_map, hpl, Result.andThen_ok]
            have hfs : (fun x => (fs.toList.map fun f => (f.offset, P.cellsOf f.type)).toArray[x]?) = fun x : Nat => (fs.toList.map fun f => (f.offset, P.cellsOf f.type)).toArray[x]? := rfl
            simp only [Instr.build, Sem.run_bind, zeroValue, run_typeInfo hi, hzz, Result.andThen_ok, Sem.run_pure, run_under hu, hm, h1]

end Go.Proofs.Ytcbonfgkfiapaaa.Pv
