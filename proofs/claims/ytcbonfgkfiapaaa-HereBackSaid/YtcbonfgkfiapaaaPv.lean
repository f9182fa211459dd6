/- Abstract values: what a value of the machine stands for, told without addresses; when nothing of what a value reaches is written, it stands for the same. -/
import Derived.Below
import Derived.Orders
import Derived.WalkKit
set_option linter.unusedVariables false
set_option linter.unusedSimpArgs false
namespace Go.Proofs.Ytcbonfgkfiapaaa.Pv
open Go Go.RowKit

inductive PV where
  | any
  | bool (b : Bool)
  | int (k : IntKind) (n : Int)
  | str (s : List UInt8)
  | nilp
  | ref (cells : List PV)
  | mp (b off : Nat)
  | sl0
  | slice (sz : Nat) (rows : List (List PV))
  | vec (b n cap : Nat)
  | fn (f : Fn) (first captured : List PV)
  | nilfn
  | iface (t : TypeId) (v : PV)
  | nilif
  | agg (cs : List PV)
  | tup (vs : List PV)
  | omap (b : Nat)
  deriving Inhabited

mutual
def Rep (w : World) (im : Nat → Prop) : PV → Value → Prop
  | .any, _ => True
  | .bool b, v => v = .bool b
  | .int k n, v => v = .int k n
  | .str l, v => v = .string ⟨l.toArray⟩
  | .nilp, v => v = .pointer none
  | .ref cs, v => ∃ b off, v = .pointer (some ⟨b, off, none⟩) ∧ im b ∧ b < w.heap.size ∧ RepAt w im b off cs
  | .mp b off, v => v = .pointer (some ⟨b, off, none⟩)
  | .sl0, v => ∃ a, v = .slice a 0 0
  | .slice sz rows, v => ∃ a c, v = .slice a rows.length c ∧ rows.length ≤ c ∧ c ≤ maxLen ∧ (rows = [] ∨ ∃ b off, a = some ⟨b, off, none⟩ ∧ im b ∧ b < w.heap.size ∧ RepRows w im b off sz rows)
  | .vec b n cap, v => v = .slice (some ⟨b, 0, none⟩) n cap
  | .fn f first captured, v => ∃ fa ca : Array Value, v = .func f fa ca ∧ RepVals w im first fa.toList ∧ RepVals w im captured ca.toList
  | .nilfn, v => v = .nilFunc
  | .iface t x, v => ∃ u, v = .iface t u ∧ Rep w im x u
  | .nilif, v => v = .nilIface
  | .agg cs, v => ∃ arr : Array Value, v = .agg arr ∧ RepVals w im cs arr.toList
  | .tup cs, v => ∃ arr : Array Value, v = .tuple arr ∧ RepVals w im cs arr.toList
  | .omap b, v => v = .map (some b)
def RepAt (w : World) (im : Nat → Prop) (b : Nat) : Nat → List PV → Prop
  | _, [] => True
  | off, c :: cs => (∃ v, w.cell? ⟨b, off, none⟩ = some v ∧ Rep w im c v) ∧ RepAt w im b (off + 1) cs
def RepVals (w : World) (im : Nat → Prop) : List PV → List Value → Prop
  | [], vs => vs = []
  | c :: cs, vs => ∃ v r, vs = v :: r ∧ Rep w im c v ∧ RepVals w im cs r
def RepRows (w : World) (im : Nat → Prop) (b : Nat) : Nat → Nat → List (List PV) → Prop
  | _, _, [] => True
  | off, sz, r :: rs => r.length = sz ∧ RepAt w im b off r ∧ RepRows w im b (off + sz) sz rs
end

/-- What was there of an immutable kind is there as it was. -/
structure Keeps (w w' : World) (im im' : Nat → Prop) : Prop where
  size : w.heap.size ≤ w'.heap.size
  kept : ∀ b, b < w.heap.size → im b → im' b ∧ w'.heap[b]? = w.heap[b]?

theorem Keeps.refl (w : World) (im : Nat → Prop) : Keeps w w im im := ⟨Nat.le_refl _, fun _ _ h => ⟨h, rfl⟩⟩

theorem cell_of_heap {w w' : World} {b : Nat} (h : w'.heap[b]? = w.heap[b]?) (off : Nat) : w'.cell? ⟨b, off, none⟩ = w.cell? ⟨b, off, none⟩ := by
  simp only [World.cell?, h]

theorem lt_of_cell {w : World} {b off : Nat} {v : Value} (h : w.cell? ⟨b, off, none⟩ = some v) : b < w.heap.size := World.block_lt_of_cell? w ⟨b, off, none⟩ h

section
variable {w w' : World} {im im' : Nat → Prop}
mutual
theorem Rep.keep (k : Keeps w w' im im') : ∀ (p : PV) {v : Value}, Rep w im p v → Rep w' im' p v
  | .any, _, _ => by simp only [Rep]
  | .bool _, _, h => by simp only [Rep] at h ⊢; exact h
  | .int _ _, _, h => by simp only [Rep] at h ⊢; exact h
  | .str _, _, h => by simp only [Rep] at h ⊢; exact h
  | .nilp, _, h => by simp only [Rep] at h ⊢; exact h
  | .ref cs, _, h => by
    simp only [Rep] at h ⊢
    obtain ⟨b, off, e, hi, hl, hr⟩ := h
    exact ⟨b, off, e, (k.kept b hl hi).1, Nat.lt_of_lt_of_le hl k.size, RepAt.keep k b hi hl off cs hr⟩
  | .mp _ _, _, h => by simp only [Rep] at h ⊢; exact h
  | .sl0, _, h => by simp only [Rep] at h ⊢; exact h
  | .slice sz rows, _, h => by
    simp only [Rep] at h ⊢
    obtain ⟨a, c, e, h1, h2, h3⟩ := h
    refine ⟨a, c, e, h1, h2, ?_⟩
    rcases h3 with h3 | ⟨b, off, ea, hi, hl, hr⟩
    · exact Or.inl h3
    · exact Or.inr ⟨b, off, ea, (k.kept b hl hi).1, Nat.lt_of_lt_of_le hl k.size, RepRows.keep k b hi hl off sz rows hr⟩
  | .vec _ _ _, _, h => by simp only [Rep] at h ⊢; exact h
  | .fn f first captured, _, h => by
    simp only [Rep] at h ⊢
    obtain ⟨fa, ca, e, h1, h2⟩ := h
    exact ⟨fa, ca, e, RepVals.keep k first h1, RepVals.keep k captured h2⟩
  | .nilfn, _, h => by simp only [Rep] at h ⊢; exact h
  | .iface t x, _, h => by
    simp only [Rep] at h ⊢
    obtain ⟨u, e, h1⟩ := h
    exact ⟨u, e, Rep.keep k x h1⟩
  | .nilif, _, h => by simp only [Rep] at h ⊢; exact h
  | .agg cs, _, h => by
    simp only [Rep] at h ⊢
    obtain ⟨arr, e, h1⟩ := h
    exact ⟨arr, e, RepVals.keep k cs h1⟩
  | .tup cs, _, h => by
    simp only [Rep] at h ⊢
    obtain ⟨arr, e, h1⟩ := h
    exact ⟨arr, e, RepVals.keep k cs h1⟩
  | .omap _, _, h => by simp only [Rep] at h ⊢; exact h
theorem RepAt.keep (k : Keeps w w' im im') (b : Nat) (hi : im b) (hl : b < w.heap.size) : ∀ (off : Nat) (cs : List PV), RepAt w im b off cs → RepAt w' im' b off cs
  | _, [], _ => by simp only [RepAt]
  | off, c :: cs, h => by
    simp only [RepAt] at h ⊢
    obtain ⟨⟨v, hv, hr⟩, h2⟩ := h
    exact ⟨⟨v, by rw [cell_of_heap (k.kept b hl hi).2]; exact hv, Rep.keep k c hr⟩, RepAt.keep k b hi hl (off + 1) cs h2⟩
theorem RepVals.keep (k : Keeps w w' im im') : ∀ (cs : List PV) {vs : List Value}, RepVals w im cs vs → RepVals w' im' cs vs
  | [], _, h => by simp only [RepVals] at h ⊢; exact h
  | c :: cs, _, h => by
    simp only [RepVals] at h ⊢
    obtain ⟨v, r, e, h1, h2⟩ := h
    exact ⟨v, r, e, Rep.keep k c h1, RepVals.keep k cs h2⟩
theorem RepRows.keep (k : Keeps w w' im im') (b : Nat) (hi : im b) (hl : b < w.heap.size) : ∀ (off sz : Nat) (rows : List (List PV)), RepRows w im b off sz rows → RepRows w' im' b off sz rows
  | _, _, [], _ => by simp only [RepRows]
  | off, sz, r :: rs, h => by
    simp only [RepRows] at h ⊢
    obtain ⟨h0, h1, h2⟩ := h
    exact ⟨h0, RepAt.keep k b hi hl off r h1, RepRows.keep k b hi hl (off + sz) sz rs h2⟩
end
end

/-- What the call itself may write: blocks of its own. -/
inductive MObj where
  | cells (cs : List PV) (ty : TypeId)
  | rows (sz : Nat) (rs : List (List PV)) (cap : Nat) (ty : TypeId)
  | iter (s : List UInt8) (pos : Nat)
  | omap (es : List (List UInt8 × List UInt8)) (clock : Nat)

abbrev Heap := Nat → Option MObj
def Heap.none : Heap := fun _ => Option.none
def Heap.set (S : Heap) (b : Nat) (o : MObj) : Heap := fun c => if c = b then some o else S c
def Heap.del (S : Heap) (b : Nat) : Heap := fun c => if c = b then Option.none else S c
theorem set_apply (S : Heap) (b : Nat) (o : MObj) (c : Nat) : S.set b o c = if c = b then some o else S c := rfl
theorem del_apply (S : Heap) (b c : Nat) : S.del b c = if c = b then Option.none else S c := rfl
def Heap.im (S : Heap) : Nat → Prop := fun b => S b = Option.none

/-- The entries of a map of texts, in the order in which they were born. -/
def mapEntry (e : MapEntry) (x : List UInt8 × List UInt8) : Prop := e.key = .string ⟨x.1.toArray⟩ ∧ e.val = .string ⟨x.2.toArray⟩
def mapEntries : List MapEntry → List (List UInt8 × List UInt8) → Prop
  | [], [] => True
  | e :: es, x :: xs => mapEntry e x ∧ mapEntries es xs
  | _, _ => False

def Holds (w : World) (im : Nat → Prop) (b : Nat) : MObj → Prop
  | .cells cs ty => ∃ arr : Array Value, w.heap[b]? = some (.cells arr ty (0, 0)) ∧ RepVals w im cs arr.toList
  | .rows sz rs cap ty => ∃ arr : Array Value, w.heap[b]? = some (.cells arr ty (0, 0)) ∧ arr.size = cap * sz ∧ rs.length ≤ cap ∧ cap ≤ maxLen ∧ RepRows w im b 0 sz rs
  | .iter s pos => w.heap[b]? = some (.stringIter ⟨s.toArray⟩ pos)
  | .omap es clock => ∃ ents : Array MapEntry, w.heap[b]? = some (.map ents clock) ∧ mapEntries ents.toList es ∧ (∀ e ∈ ents.toList, e.born < clock) ∧ (ents.toList.map (·.born)).Nodup

/-- Behind a step: what is not the call's own is as it was; what has come is new. -/
structure Ext (w : World) (S : Heap) (w' : World) (S' : Heap) : Prop where
  os : w'.os = w.os
  tape : w'.tape = w.tape
  output : w'.output = w.output
  size : w.heap.size ≤ w'.heap.size
  kept : ∀ b, b < w.heap.size → S b = none → S' b = none ∧ w'.heap[b]? = w.heap[b]?

theorem Ext.refl (w : World) (S : Heap) : Ext w S w S := ⟨rfl, rfl, rfl, Nat.le_refl _, fun _ _ h => ⟨h, rfl⟩⟩
theorem Ext.trans {w w1 w2 : World} {S S1 S2 : Heap} (h : Ext w S w1 S1) (k : Ext w1 S1 w2 S2) : Ext w S w2 S2 :=
  ⟨k.os.trans h.os, k.tape.trans h.tape, k.output.trans h.output, Nat.le_trans h.size k.size, fun b hb hs => by
    obtain ⟨h1, h2⟩ := h.kept b hb hs
    obtain ⟨k1, k2⟩ := k.kept b (Nat.lt_of_lt_of_le hb h.size) h1
    exact ⟨k1, k2.trans h2⟩⟩
theorem Ext.keeps {w w' : World} {S S' : Heap} (h : Ext w S w' S') : Keeps w w' S.im S'.im := ⟨h.size, fun b hb hi => h.kept b hb hi⟩
theorem Ext.below {w w' : World} {S' : Heap} (h : Ext w Heap.none w' S') : Below w.heap.size w w' := ⟨h.os, h.tape, h.output, h.size, fun k hk => (h.kept k hk rfl).2⟩

theorem Holds.lt {w : World} {im : Nat → Prop} {b : Nat} {o : MObj} (h : Holds w im b o) : b < w.heap.size := by
  have key : ∀ x, w.heap[b]? = some x → b < w.heap.size := fun x hx => (Array.getElem?_eq_some_iff.1 hx).1
  cases o with
  | cells cs ty => obtain ⟨arr, h, _⟩ := h; exact key _ h
  | rows sz rs cap ty => obtain ⟨arr, h, _⟩ := h; exact key _ h
  | iter s pos => exact key _ h
  | omap es clock => obtain ⟨ents, h, _⟩ := h; exact key _ h

theorem RepRows.cells_keep {w w' : World} {im im' : Nat → Prop} (k : Keeps w w' im im') {b : Nat} (hb : w'.heap[b]? = w.heap[b]?) : ∀ (off : Nat) (cs : List PV), RepAt w im b off cs → RepAt w' im' b off cs
  | _, [], _ => by simp only [RepAt]
  | off, c :: cs, h => by
    simp only [RepAt] at h ⊢
    obtain ⟨⟨v, hv, hr⟩, h2⟩ := h
    exact ⟨⟨v, by rw [cell_of_heap hb]; exact hv, Rep.keep k c hr⟩, RepRows.cells_keep k hb (off + 1) cs h2⟩
theorem RepRows.rows_keep {w w' : World} {im im' : Nat → Prop} (k : Keeps w w' im im') {b : Nat} (hb : w'.heap[b]? = w.heap[b]?) : ∀ (off sz : Nat) (rows : List (List PV)), RepRows w im b off sz rows → RepRows w' im' b off sz rows
  | _, _, [], _ => by simp only [RepRows]
  | off, sz, r :: rs, h => by
    simp only [RepRows] at h ⊢
    exact ⟨h.1, RepRows.cells_keep k hb off r h.2.1, RepRows.rows_keep k hb (off + sz) sz rs h.2.2⟩

/-- A block of the call's own that was not written holds what it held. -/
theorem Holds.keep {w w' : World} {im im' : Nat → Prop} (k : Keeps w w' im im') {b : Nat} (hb : w'.heap[b]? = w.heap[b]?) {o : MObj} (h : Holds w im b o) : Holds w' im' b o := by
  cases o with
  | cells cs ty => obtain ⟨arr, h1, h2⟩ := h; exact ⟨arr, hb.trans h1, RepVals.keep k cs h2⟩
  | rows sz rs cap ty => obtain ⟨arr, h1, h2, h3, h4, h5⟩ := h; exact ⟨arr, hb.trans h1, h2, h3, h4, RepRows.rows_keep k hb 0 sz rs h5⟩
  | iter s pos => exact hb.trans h
  | omap es clock => obtain ⟨ents, h1, h2⟩ := h; exact ⟨ents, hb.trans h1, h2⟩

/-! The state of a frame -/
structure St (n : Nat) (w : World) (S : Heap) (a : Act) (σ : Nat → PV) : Prop where
  size : a.tmps.size = n
  defers : a.defers = []
  regs : ∀ t, Rep w S.im (σ t) (a.tmps.getD t undef)
  heap : ∀ b o, S b = some o → Holds w S.im b o

def upd (σ : Nat → PV) (d : Nat) (p : PV) (t : Nat) : PV := if t = d then p else σ t
def updO (σ : Nat → PV) (d : Option Tmp) (p : PV) : Nat → PV := match d with | some d => upd σ d p | none => σ

theorem getD_set (xs : Array Value) (d t : Nat) (v : Value) (h : d < xs.size) : (xs.setIfInBounds d v).getD t undef = if t = d then v else xs.getD t undef := by
  simp only [Array.getD_eq_getD_getElem?, Array.getElem?_setIfInBounds]
  by_cases e : t = d
  · subst e; simp [h]
  · simp [e, Ne.symm e]

theorem St.put {n : Nat} {w : World} {S : Heap} {a : Act} {σ : Nat → PV} (h : St n w S a σ) {d : Option Tmp} (hd : ∀ x, d = some x → x < n) {p : PV} {v : Value} (hv : Rep w S.im p v) :
    St n w S (a.put d v) (updO σ d p) := by
  cases d with
  | none => exact h
  | some d =>
    refine ⟨by simp [Act.put, h.size], by simp [Act.put, h.defers], fun t => ?_, h.heap⟩
    simp only [Act.put, updO, upd]
    rw [getD_set _ _ _ _ (by rw [h.size]; exact hd d rfl)]
    by_cases e : t = d
    · simp [e, hv]
    · rw [if_neg e, if_neg e]; exact h.regs t

/-- The world has gone on; the call's own blocks are told anew. -/
theorem St.ext {n : Nat} {w w' : World} {S S' : Heap} {a : Act} {σ : Nat → PV} (h : St n w S a σ) (k : Ext w S w' S') (hh : ∀ b o, S' b = some o → Holds w' S'.im b o) : St n w' S' a σ :=
  ⟨h.size, h.defers, fun t => Rep.keep k.keeps _ (h.regs t), hh⟩

end Go.Proofs.Ytcbonfgkfiapaaa.Pv
