/- What the operations without effect give, told of abstract values: each is shown to be what the machine does. -/
import Derived.Test.YtcbonfgkfiapaaaPv
set_option linter.unusedVariables false
set_option linter.unusedSimpArgs false
namespace Go.Proofs.Ytcbonfgkfiapaaa.Pv
open Go Go.RowKit

/-! Constants and operands -/
def ofCell : Value → PV
  | .bool b => .bool b
  | .int k n => .int k n
  | .string s => .str s.data.toList
  | .pointer none => .nilp
  | .slice none 0 0 => .sl0
  | .func f a b => if a.toList = [] ∧ b.toList = [] then .fn f [] [] else .any
  | .nilFunc => .nilfn
  | .nilIface => .nilif
  | _ => .any
def ofVal : Value → PV
  | .agg cs => .agg (cs.toList.map ofCell)
  | .tuple cs => .tup (cs.toList.map ofCell)
  | v => ofCell v

theorem repVals_nil {w : World} {im : Nat → Prop} {vs : List Value} : RepVals w im [] vs ↔ vs = [] := by simp only [RepVals]
theorem repVals_cons {w : World} {im : Nat → Prop} {c : PV} {cs : List PV} {v : Value} {vs : List Value} : RepVals w im (c :: cs) (v :: vs) ↔ Rep w im c v ∧ RepVals w im cs vs := by
  simp only [RepVals]
  constructor
  · rintro ⟨v', r', e, h1, h2⟩; injection e with e1 e2; subst e1; subst e2; exact ⟨h1, h2⟩
  · rintro ⟨h1, h2⟩; exact ⟨v, vs, rfl, h1, h2⟩
theorem repVals_length {w : World} {im : Nat → Prop} : ∀ {cs : List PV} {vs : List Value}, RepVals w im cs vs → vs.length = cs.length
  | [], vs, h => by rw [repVals_nil] at h; simp [h]
  | c :: cs, [], h => by simp only [RepVals] at h; obtain ⟨v, r, e, _⟩ := h; simp at e
  | c :: cs, v :: vs, h => by rw [repVals_cons] at h; simp [repVals_length h.2]
theorem repVals_get {w : World} {im : Nat → Prop} : ∀ {cs : List PV} {vs : List Value} {i : Nat} {c : PV}, RepVals w im cs vs → cs[i]? = some c → ∃ v, vs[i]? = some v ∧ Rep w im c v
  | [], vs, i, c, h, e => by simp at e
  | c' :: cs, [], i, c, h, e => by simp only [RepVals] at h; obtain ⟨v, r, e, _⟩ := h; simp at e
  | c' :: cs, v :: vs, 0, c, h, e => by rw [repVals_cons] at h; simp at e; subst e; exact ⟨v, rfl, h.1⟩
  | c' :: cs, v :: vs, i + 1, c, h, e => by
    rw [repVals_cons] at h
    simp only [List.getElem?_cons_succ] at e ⊢
    exact repVals_get h.2 e
theorem repVals_drop {w : World} {im : Nat → Prop} : ∀ {cs : List PV} {vs : List Value} (i : Nat), RepVals w im cs vs → RepVals w im (cs.drop i) (vs.drop i)
  | cs, vs, 0, h => by simpa using h
  | [], vs, i + 1, h => by rw [repVals_nil] at h; subst h; simp [repVals_nil]
  | c :: cs, [], i + 1, h => by simp only [RepVals] at h; obtain ⟨v, r, e, _⟩ := h; simp at e
  | c :: cs, v :: vs, i + 1, h => by rw [repVals_cons] at h; simpa using repVals_drop i h.2
theorem repVals_take {w : World} {im : Nat → Prop} : ∀ {cs : List PV} {vs : List Value} (i : Nat), RepVals w im cs vs → RepVals w im (cs.take i) (vs.take i)
  | cs, vs, 0, h => by simp [repVals_nil]
  | [], vs, i + 1, h => by rw [repVals_nil] at h; subst h; simp [repVals_nil]
  | c :: cs, [], i + 1, h => by simp only [RepVals] at h; obtain ⟨v, r, e, _⟩ := h; simp at e
  | c :: cs, v :: vs, i + 1, h => by rw [repVals_cons] at h; simp only [List.take_succ_cons]; rw [repVals_cons]; exact ⟨h.1, repVals_take i h.2⟩
theorem repVals_append {w : World} {im : Nat → Prop} : ∀ {cs ds : List PV} {vs us : List Value}, RepVals w im cs vs → RepVals w im ds us → RepVals w im (cs ++ ds) (vs ++ us)
  | [], ds, vs, us, h, k => by rw [repVals_nil] at h; subst h; simpa using k
  | c :: cs, ds, [], us, h, k => by simp only [RepVals] at h; obtain ⟨v, r, e, _⟩ := h; simp at e
  | c :: cs, ds, v :: vs, us, h, k => by rw [repVals_cons] at h; simp only [List.cons_append]; rw [repVals_cons]; exact ⟨h.1, repVals_append h.2 k⟩
theorem repVals_map {w : World} {im : Nat → Prop} {α : Type} (f : α → PV) (g : α → Value) (h : ∀ x, Rep w im (f x) (g x)) : ∀ xs : List α, RepVals w im (xs.map f) (xs.map g)
  | [] => by simp [repVals_nil]
  | x :: xs => by simp only [List.map_cons]; rw [repVals_cons]; exact ⟨h x, repVals_map f g h xs⟩

theorem rep_ofCell (w : World) (im : Nat → Prop) (v : Value) : Rep w im (ofCell v) v := by
  cases v with
  | bool b => simp [ofCell, Rep]
  | int k n => simp [ofCell, Rep]
  | float k b => simp [ofCell, Rep]
  | complex k a b => simp [ofCell, Rep]
  | string s => simp [ofCell, Rep]
  | pointer a => cases a <;> simp [ofCell, Rep]
  | slice a n c =>
    cases a with
    | none =>
      cases n with
      | zero => cases c <;> simp [ofCell, Rep]
      | succ n => simp [ofCell, Rep]
    | some a => simp [ofCell, Rep]
  | map r => simp [ofCell, Rep]
  | chan r => simp [ofCell, Rep]
  | func f a b =>
    simp only [ofCell]
    split
    · rename_i h
      simp only [Rep]
      exact ⟨a, b, rfl, by rw [repVals_nil]; exact h.1, by rw [repVals_nil]; exact h.2⟩
    · simp [Rep]
  | nilFunc => simp [ofCell, Rep]
  | iface t v => simp [ofCell, Rep]
  | nilIface => simp [ofCell, Rep]
  | agg cs => simp [ofCell, Rep]
  | tuple vs => simp [ofCell, Rep]

theorem rep_ofVal (w : World) (im : Nat → Prop) (v : Value) : Rep w im (ofVal v) v := by
  have key : ∀ cs : Array Value, RepVals w im (cs.toList.map ofCell) cs.toList := fun cs => by
    have := repVals_map (w := w) (im := im) ofCell id (rep_ofCell w im) cs.toList
    simpa using this
  cases v with
  | agg cs => simp only [ofVal, Rep]; exact ⟨cs, rfl, key cs⟩
  | tuple cs => simp only [ofVal, Rep]; exact ⟨cs, rfl, key cs⟩
  | _ => simp only [ofVal]; exact rep_ofCell w im _

def ev (σ : Nat → PV) : Operand → PV
  | .tmp t => σ t
  | .const v => ofVal v
  | .global g => .mp g 0
  | .func f => .fn (.func f) [] []

theorem rep_ev {n : Nat} {w : World} {S : Heap} {a : Act} {σ : Nat → PV} (h : St n w S a σ) (x : Operand) : Rep w S.im (ev σ x) (a.eval x) := by
  cases x with
  | tmp t => exact h.regs t
  | const v => exact rep_ofVal w S.im v
  | global g => simp [ev, Act.eval, Rep]
  | func f => simp only [ev, Act.eval, Rep]; exact ⟨#[], #[], rfl, by simp [repVals_nil], by simp [repVals_nil]⟩

/-- The cells of a value. -/
def cellsOf : PV → Option (List PV)
  | .agg cs => some cs
  | .any => none
  | .tup _ => none
  | p => some [p]
theorem rep_cells {w : World} {im : Nat → Prop} {p : PV} {v : Value} {cs : List PV} (h : Rep w im p v) (hc : cellsOf p = some cs) : RepVals w im cs v.cells.toList := by
  have one : ∀ {p : PV} {v : Value}, v.cells = #[v] → Rep w im p v → RepVals w im [p] v.cells.toList := fun {p v} e h => by
    rw [e]; exact repVals_cons.2 ⟨h, repVals_nil.2 rfl⟩
  cases p <;> simp only [cellsOf, Option.some.injEq, reduceCtorEq] at hc <;> subst hc
  case agg cs => simp only [Rep] at h; obtain ⟨arr, rfl, h⟩ := h; exact h
  case ref cs => exact one (by simp only [Rep] at h; obtain ⟨_, _, rfl, _⟩ := h; rfl) h
  case sl0 => exact one (by simp only [Rep] at h; obtain ⟨_, rfl⟩ := h; rfl) h
  case slice sz rows => exact one (by simp only [Rep] at h; obtain ⟨_, _, rfl, _⟩ := h; rfl) h
  case fn f a b => exact one (by simp only [Rep] at h; obtain ⟨_, _, rfl, _⟩ := h; rfl) h
  case iface t x => exact one (by simp only [Rep] at h; obtain ⟨_, rfl, _⟩ := h; rfl) h
  all_goals exact one (by simp only [Rep] at h; subst h; rfl) h

/-- Cells in memory, from an address on: their values. -/
theorem repAt_vals {w : World} {im : Nat → Prop} {b : Nat} : ∀ {off : Nat} {cs : List PV}, RepAt w im b off cs → ∃ vs, RepVals w im cs vs ∧ ∀ j v, vs[j]? = some v → w.cell? ⟨b, off + j, none⟩ = some v
  | off, [], h => ⟨[], repVals_nil.2 rfl, fun j v e => by simp at e⟩
  | off, c :: cs, h => by
    simp only [RepAt] at h
    obtain ⟨⟨v, hv, hr⟩, h2⟩ := h
    obtain ⟨vs, h3, h4⟩ := repAt_vals h2
    refine ⟨v :: vs, repVals_cons.2 ⟨hr, h3⟩, fun j u e => ?_⟩
    cases j with
    | zero => simp at e; subst e; simpa using hv
    | succ j => simp at e; have := h4 j u e; rwa [show off + (j + 1) = off + 1 + j by omega]
theorem repAt_of_vals {w : World} {im : Nat → Prop} {b : Nat} : ∀ {off : Nat} {cs : List PV} {vs : List Value}, RepVals w im cs vs → (∀ j v, vs[j]? = some v → w.cell? ⟨b, off + j, none⟩ = some v) → RepAt w im b off cs
  | off, [], vs, h, k => by simp only [RepAt]
  | off, c :: cs, [], h, k => by simp only [RepVals] at h; obtain ⟨v, r, e, _⟩ := h; simp at e
  | off, c :: cs, v :: vs, h, k => by
    rw [repVals_cons] at h
    simp only [RepAt]
    refine ⟨⟨v, by simpa using k 0 v rfl, h.1⟩, repAt_of_vals h.2 fun j u e => ?_⟩
    have := k (j + 1) u (by simpa using e)
    rwa [show off + 1 + j = off + (j + 1) by omega]
theorem repAt_drop {w : World} {im : Nat → Prop} {b : Nat} : ∀ {off : Nat} {cs : List PV} (i : Nat), RepAt w im b off cs → RepAt w im b (off + i) (cs.drop i)
  | off, cs, 0, h => by simpa using h
  | off, [], i + 1, h => by simp only [List.drop_nil, RepAt]
  | off, c :: cs, i + 1, h => by
    simp only [RepAt] at h
    have := repAt_drop i h.2
    simpa [show off + 1 + i = off + (i + 1) by omega] using this
theorem repAt_take {w : World} {im : Nat → Prop} {b : Nat} : ∀ {off : Nat} {cs : List PV} (i : Nat), RepAt w im b off cs → RepAt w im b off (cs.take i)
  | off, cs, 0, h => by simp only [List.take_zero, RepAt]
  | off, [], i + 1, h => by simp only [List.take_nil, RepAt]
  | off, c :: cs, i + 1, h => by
    simp only [RepAt] at h
    simp only [List.take_succ_cons, RepAt]
    exact ⟨h.1, repAt_take i h.2⟩
theorem repRows_get {w : World} {im : Nat → Prop} {b : Nat} : ∀ {off sz : Nat} {rows : List (List PV)} {i : Nat} {r : List PV}, RepRows w im b off sz rows → rows[i]? = some r → r.length = sz ∧ RepAt w im b (off + i * sz) r
  | off, sz, [], i, r, h, e => by simp at e
  | off, sz, r' :: rs, 0, r, h, e => by simp only [RepRows] at h; simp at e; subst e; simpa using ⟨h.1, h.2.1⟩
  | off, sz, r' :: rs, i + 1, r, h, e => by
    simp only [RepRows] at h
    simp at e
    have := repRows_get h.2.2 e
    rwa [show off + (i + 1) * sz = off + sz + i * sz by rw [Nat.succ_mul]; omega]
theorem repRows_drop {w : World} {im : Nat → Prop} {b : Nat} : ∀ {off sz : Nat} {rows : List (List PV)} (i : Nat), RepRows w im b off sz rows → RepRows w im b (off + i * sz) sz (rows.drop i)
  | off, sz, rows, 0, h => by simpa using h
  | off, sz, [], i + 1, h => by simp only [List.drop_nil, RepRows]
  | off, sz, r :: rs, i + 1, h => by
    simp only [RepRows] at h
    have := repRows_drop i h.2.2
    simpa [show off + (i + 1) * sz = off + sz + i * sz by rw [Nat.succ_mul]; omega] using this
theorem repRows_take {w : World} {im : Nat → Prop} {b : Nat} : ∀ {off sz : Nat} {rows : List (List PV)} (i : Nat), RepRows w im b off sz rows → RepRows w im b off sz (rows.take i)
  | off, sz, rows, 0, h => by simp only [List.take_zero, RepRows]
  | off, sz, [], i + 1, h => by simp only [List.take_nil, RepRows]
  | off, sz, r :: rs, i + 1, h => by
    simp only [RepRows] at h
    simp only [List.take_succ_cons, RepRows]
    exact ⟨h.1, h.2.1, repRows_take i h.2.2⟩

/-! A new block -/
theorem alloc_ext {w : World} {S : Heap} (o : Obj) (hS : ∀ b x, S b = some x → Holds w S.im b x) : Ext w S (w.alloc o) S ∧ ∀ b x, S b = some x → Holds (w.alloc o) S.im b x := by
  have he : Ext w S (w.alloc o) S := ⟨rfl, rfl, rfl, by simp, fun b hb h => ⟨h, Below.heap_alloc _ _ _ hb⟩⟩
  exact ⟨he, fun b x hx => (hS b x hx).keep he.keeps (Below.heap_alloc _ _ _ (hS b x hx).lt)⟩
theorem alloc_block (w : World) (o : Obj) : (w.alloc o).heap[w.heap.size]? = some o := by
  show (w.heap.push o)[w.heap.size]? = some o
  simp
theorem cell_of_block {w : World} {b : Nat} {arr : Array Value} {ty : TypeId} {fr : Nat × Nat} (h : w.heap[b]? = some (.cells arr ty fr)) (j : Nat) : w.cell? ⟨b, j, none⟩ = arr[j]? := by
  simp [World.cell?, h]
theorem repAt_block {w : World} {im : Nat → Prop} {b : Nat} {arr : Array Value} {ty : TypeId} {fr : Nat × Nat} {cs : List PV} (h : w.heap[b]? = some (.cells arr ty fr)) (hv : RepVals w im cs arr.toList) : RepAt w im b 0 cs :=
  repAt_of_vals hv fun j v e => by rw [cell_of_block h]; simpa using e
theorem repAt_block_vals {w : World} {im : Nat → Prop} {b : Nat} {arr : Array Value} {ty : TypeId} {fr : Nat × Nat} : ∀ {off : Nat} {cs : List PV} (vs : List Value), w.heap[b]? = some (.cells arr ty fr) → RepVals w im cs vs → (∀ j v, vs[j]? = some v → arr[off + j]? = some v) → RepAt w im b off cs :=
  fun vs h hv hj => repAt_of_vals hv fun j v e => by rw [cell_of_block h]; exact hj j v e
theorem not_im_new {w : World} {S : Heap} (hS : ∀ b x, S b = some x → Holds w S.im b x) {b : Nat} (hb : w.heap.size ≤ b) : S.im b := by
  cases h : S b with
  | none => exact h
  | some x => have := (hS b x h).lt; omega

/-! What an operation gives: a value that stands for p, in a world that has at most grown. -/
def Gives (P : Program) (s : Sem Value) (w : World) (S : Heap) (p : PV) : Prop :=
  ∃ v w', s.run P w = .ok v w' ∧ Rep w' S.im p v ∧ Ext w S w' S ∧ ∀ b o, S b = some o → Holds w' S.im b o

theorem gives_same {P : Program} {s : Sem Value} {w : World} {S : Heap} {p : PV} {v : Value} (hS : ∀ b o, S b = some o → Holds w S.im b o) (h : s.run P w = .ok v w) (hr : Rep w S.im p v) : Gives P s w S p :=
  ⟨v, w, h, hr, Ext.refl w S, hS⟩

/-! Types -/
/-- Is it a struct or an array, and of how many cells? -/
def aggSize (P : Program) (t : TypeId) : Option (Option Nat) :=
  match P.underlying t with
  | some (.struct _) | some (.array _ _) => (P.info? t).map fun i => some i.size
  | some _ => some none
  | none => none
/-- A field's place and size. -/
def fieldOff (P : Program) (s : TypeId) (f : Nat) : Option (Nat × Nat × Option Nat) :=
  match P.underlying s with
  | some (.struct fs) => match fs[f]? with
    | some x => match P.info? x.type with
      | some i => if i.size = 0 then none else (aggSize P x.type).map fun g => (x.offset, i.size, g)
      | none => none
    | none => none
  | _ => none
def elemSize (P : Program) (t : TypeId) : Option Nat :=
  match P.underlying t with
  | some (.slice e) => (P.info? e).map fun i => i.size
  | _ => none
def isStr (P : Program) (t : TypeId) : Bool := match P.underlying t with | some .string => true | _ => false
def isSl (P : Program) (t : TypeId) : Bool := match P.underlying t with | some (.slice _) => true | _ => false
def isBool (P : Program) (t : TypeId) : Bool := match P.underlying t with | some .bool => true | _ => false
def isPtr (P : Program) (t : TypeId) : Bool := match P.underlying t with | some (.pointer _) => true | _ => false
def notIface (P : Program) (t : TypeId) : Bool := match P.underlying t with | some (.interface _) => false | some _ => true | none => false
def intOfType (P : Program) (t : TypeId) : Option IntKind := match P.underlying t with | some (.int k) => some k | _ => none

theorem run_typeInfo {P : Program} {t : TypeId} {i : TypeInfo} (h : P.info? t = some i) (w : World) : (typeInfo t).run P w = .ok i w := by
  simp [typeInfo, h]
theorem run_under {P : Program} {t : TypeId} {d : TypeDesc} (h : P.underlying t = some d) (w : World) : (underlying t).run P w = .ok d w := by
  simp [underlying, h]
theorem run_sizeOf' {P : Program} {t : TypeId} {i : TypeInfo} (h : P.info? t = some i) (w : World) : (sizeOf t).run P w = .ok i.size w := by
  simp [sizeOf, run_typeInfo h]

/-! Loads -/
def loadPV (P : Program) (t : TypeId) (cs : List PV) : Option PV :=
  match aggSize P t with
  | some none => cs.head?
  | some (some n) => if n ≤ cs.length then some (.agg (cs.take n)) else none
  | none => none

theorem run_loadVar {P : Program} {w : World} {S : Heap} {t : TypeId} {b off : Nat} {cs : List PV} {p : PV} (hr : RepAt w S.im b off cs) (hp : loadPV P t cs = some p) :
    ∃ v, (loadVar t ⟨b, off, none⟩).run P w = .ok v w ∧ Rep w S.im p v := by
  obtain ⟨vs, hv, hc⟩ := repAt_vals hr
  unfold loadPV at hp
  unfold aggSize at hp
  cases hu : P.underlying t with
  | none => rw [hu] at hp; simp at hp
  | some d =>
    rw [hu] at hp
    have single : ∀ q, cs.head? = some q → isAgg t = isAgg t → (isAgg t).run P w = .ok false w → q = p → ∃ v, (loadVar t ⟨b, off, none⟩).run P w = .ok v w ∧ Rep w S.im p v := by
      intro q hq _ hag e
      subst e
      cases cs with
      | nil => simp at hq
      | cons c cs =>
        simp at hq; subst hq
        obtain ⟨v, h0, h1⟩ := repVals_get hv (i := 0) (c := c) rfl
        have hcell := hc 0 v h0
        exact ⟨v, by simp [loadVar, hag] ; rw [show off = off + 0 from rfl, hcell], h1⟩
    have many : ∀ i, P.info? t = some i → i.size ≤ cs.length → (isAgg t).run P w = .ok true w → p = .agg (cs.take i.size) → ∃ v, (loadVar t ⟨b, off, none⟩).run P w = .ok v w ∧ Rep w S.im p v := by
      intro i hi hle hag e
      subst e
      have hlen := repVals_length hv
      have hl : (vs.take i.size).length = i.size := by simp; omega
      have hrun := run_loadCells_list (P := P) (w := w) ⟨b, off, none⟩ (vs.take i.size) (fun j v e => by
        have : vs[j]? = some v := by
          rw [List.getElem?_take] at e
          split at e
          · exact e
          · simp at e
        have h2 := hc j v this
        have : (⟨b, off, none⟩ : Addr).add j = ⟨b, off + j, none⟩ := by unfold Addr.add; split <;> simp_all
        rw [this]; exact h2)
      rw [hl] at hrun
      refine ⟨.agg (vs.take i.size).toArray, ?_, ?_⟩
      · simp [loadVar, hag, run_sizeOf' hi, hrun]
      · simp only [Rep]
        exact ⟨_, rfl, by simpa using repVals_take i.size hv⟩
    have hnag : ∀ (d' : TypeDesc), P.underlying t = some d' → (match d' with | .struct _ | .array _ _ => True | _ => False) → (isAgg t).run P w = .ok true w := by
      intro d' h1 h2
      cases d' <;> simp at h2 <;> simp [isAgg, run_under h1]
    cases d <;> simp only [Option.map_eq_map] at hp
    case struct fs =>
      cases hi : P.info? t with
      | none => rw [hi] at hp; simp at hp
      | some i =>
        rw [hi] at hp; simp only [Option.map_some] at hp
        split at hp
        · rename_i hle; exact many i hi hle (hnag _ hu trivial) (by simpa using hp.symm)
        · simp at hp
    case array n e =>
      cases hi : P.info? t with
      | none => rw [hi] at hp; simp at hp
      | some i =>
        rw [hi] at hp; simp only [Option.map_some] at hp
        split at hp
        · rename_i hle; exact many i hi hle (hnag _ hu trivial) (by simpa using hp.symm)
        · simp at hp
    all_goals exact single p hp rfl (by simp [isAgg, run_under hu]) rfl

/-! Tests and sums -/
def orI (k : IntKind) (a b : Int) : Int := k.wrap ((BitVec.ofInt k.bits a ||| BitVec.ofInt k.bits b).toNat : Nat)
def andI (k : IntKind) (a b : Int) : Int := k.wrap ((BitVec.ofInt k.bits a &&& BitVec.ofInt k.bits b).toNat : Nat)
def evalInt (op : BinOp) (k : IntKind) (a b : Int) : Option PV :=
  match op with
  | .add => some (.int k (k.wrap (a + b)))
  | .sub => some (.int k (k.wrap (a - b)))
  | .mul => some (.int k (k.wrap (a * b)))
  | .quo => if b = 0 then none else some (.int k (k.wrap (a.tdiv b)))
  | .rem => if b = 0 then none else some (.int k (a.tmod b))
  | .or => some (.int k (orI k a b))
  | .and => some (.int k (andI k a b))
  | .eql => some (.bool (decide (a = b)))
  | .neq => some (.bool (decide (¬ a = b)))
  | .lss => some (.bool (decide (a < b)))
  | .leq => some (.bool (decide (a ≤ b)))
  | .gtr => some (.bool (decide (b < a)))
  | .geq => some (.bool (decide (b ≤ a)))
  | _ => none
def evalStr (op : BinOp) (a b : List UInt8) : Option PV :=
  match op with
  | .add => if a.length + b.length ≤ 9223372036854775807 then some (.str (a ++ b)) else none
  | .eql => some (.bool (decide (a = b)))
  | .neq => some (.bool (decide (¬ a = b)))
  | .lss => some (.bool (Op.bytesLess a b))
  | .geq => some (.bool (!Op.bytesLess a b))
  | _ => none
def evalNil (op : BinOp) (r : Bool) : Option PV := match op with | .eql => some (.bool r) | .neq => some (.bool (!r)) | _ => none
def evalBin (P : Program) (op : BinOp) (t : TypeId) (x y : PV) : Option PV :=
  match x, y with
  | .int k a, .int k' b => if k = k' then evalInt op k a b else none
  | .str a, .str b => evalStr op a b
  | .bool a, .bool b => if isBool P t then (match op with | .eql => some (.bool (a == b)) | .neq => some (.bool (!(a == b))) | _ => none) else none
  | .nilp, .nilp => if isPtr P t then evalNil op true else none
  | .ref _, .nilp => if isPtr P t then evalNil op false else none
  | .mp _ _, .nilp => if isPtr P t then evalNil op false else none
  | _, _ => none

theorem run_int {P : Program} {w : World} {op : BinOp} {t : TypeId} {x y : Operand} {k : IntKind} {a b : Int} {p : PV} (h : evalInt op k a b = some p) :
    ∃ v, (do eqGuard op t x y (.int k a) (.int k b); binOp op t (.int k a) (.int k b) : Sem Value).run P w = .ok v w ∧ ∀ im, Rep w im p v := by
  have hg : (eqGuard op t x y (.int k a) (.int k b)).run P w = .ok () w := by
    unfold eqGuard; cases op <;> simp
  have fin : ∀ v, (binOp op t (.int k a) (.int k b)).run P w = .ok v w → (∀ im, Rep w im p v) → ∃ v, (do eqGuard op t x y (.int k a) (.int k b); binOp op t (.int k a) (.int k b) : Sem Value).run P w = .ok v w ∧ ∀ im, Rep w im p v :=
    fun v h1 h2 => ⟨v, by simp [hg, h1], h2⟩
  cases op <;> simp only [evalInt, Option.some.injEq, reduceCtorEq] at h
  case quo =>
    split at h
    · simp at h
    · rename_i hb
      simp at h; subst h
      exact fin _ (by simp [binOp, Op.intDiv, hb]; rfl) (by simp [Rep])
  case rem =>
    split at h
    · simp at h
    · rename_i hb
      simp at h; subst h
      exact fin _ (by simp [binOp, Op.intDiv, hb]; rfl) (by simp [Rep])
  case neq => subst h; exact fin (.bool (a != b)) (by simp [binOp, Op.intCmp]) (by intro im; simp only [Rep]; congr 1; rw [Bool.eq_iff_iff]; simp)
  all_goals (subst h; exact fin _ (by simp [binOp, Op.intArith, Op.intBits, Op.intCmp, orI, andI]; rfl) (by intro im; simp only [Rep]; first | done | rfl | simp))
end Go.Proofs.Ytcbonfgkfiapaaa.Pv
