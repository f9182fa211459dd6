/- Trees of parts, as values; how they are opened out of what an argument reads. What an argument that is a word reads as: a tree of parts. -/
import Derived.Test.YtcbonfgkfiapaaaTy
import Derived.Test.YtcbonfgkfiapaaaRows
import Derived.ChangeArms
/-! Trees of parts, as values; how they are opened out of what an argument reads. -/
set_option linter.unusedVariables false
set_option linter.unusedSimpArgs false
namespace Go.Proofs.Ytcbonfgkfiapaaa.Pv
open Go Go.RowKit

/-- A part: kind, text, operator, parts within it, commands within it (as rows). -/
inductive Pt where
  | mk (k : Int) (text op : List UInt8) (kids : List Pt) (cmds : List (List PV))
def Pt.k : Pt → Int | .mk k _ _ _ _ => k
def Pt.text : Pt → List UInt8 | .mk _ t _ _ _ => t
def Pt.op : Pt → List UInt8 | .mk _ _ o _ _ => o
def Pt.kids : Pt → List Pt | .mk _ _ _ ks _ => ks
def Pt.cmds : Pt → List (List PV) | .mk _ _ _ _ cs => cs
mutual
def Pt.row : Pt → List PV
  | .mk k t o ks cs => [.int .i64 k, .str t, .str o, .slice 5 (prows ks), .slice 10 cs]
def prows : List Pt → List (List PV)
  | [] => []
  | p :: ps => p.row :: prows ps
end
mutual
def Pt.bulk : Pt → Nat
  | .mk _ t o ks cs => 1 + t.length + o.length + cs.length + bulks ks
def bulks : List Pt → Nat
  | [] => 0
  | p :: ps => p.bulk + bulks ps
end
theorem row_eq (p : Pt) : p.row = [.int .i64 p.k, .str p.text, .str p.op, .slice 5 (prows p.kids), .slice 10 p.cmds] := by
  cases p; simp only [Pt.row, Pt.k, Pt.text, Pt.op, Pt.kids, Pt.cmds]
theorem bulk_eq (p : Pt) : p.bulk = 1 + p.text.length + p.op.length + p.cmds.length + bulks p.kids := by
  cases p; simp only [Pt.bulk, Pt.text, Pt.op, Pt.kids, Pt.cmds]
theorem prows_map (l : List Pt) : prows l = l.map Pt.row := by
  induction l with
  | nil => rfl
  | cons p l ih => simp only [prows, List.map_cons, ih]
theorem prows_len (l : List Pt) : (prows l).length = l.length := by rw [prows_map]; simp
theorem prows_get (l : List Pt) (i : Nat) : (prows l)[i]? = (l[i]?).map Pt.row := by rw [prows_map]; simp
theorem prows_app (l m : List Pt) : prows (l ++ m) = prows l ++ prows m := by simp [prows_map]
theorem bulks_app (l m : List Pt) : bulks (l ++ m) = bulks l + bulks m := by
  induction l with
  | nil => simp [bulks]
  | cons p l ih => simp only [List.cons_append, bulks, ih]; omega
theorem bulk_pos (p : Pt) : 1 ≤ p.bulk := by rw [bulk_eq]; omega
theorem bulks_len (l : List Pt) : l.length ≤ bulks l := by
  induction l with
  | nil => simp
  | cons p l ih => simp only [List.length_cons, bulks]; have := bulk_pos p; omega
theorem bulks_get {l : List Pt} {i : Nat} {p : Pt} (h : l[i]? = some p) : p.bulk ≤ bulks l := by
  induction l generalizing i with
  | nil => simp at h
  | cons q l ih =>
    simp only [bulks]
    cases i with
    | zero => simp at h; subst h; omega
    | succ i => have := ih (by simpa using h); omega
theorem bulks_kids (p : Pt) : bulks p.kids < p.bulk := by rw [bulk_eq]; omega
theorem row_len (p : Pt) : p.row.length = 5 := by rw [row_eq]; rfl

section
open Rows (uptoBulk uptoBulkAll uptoBulkEntries uptoBulkEntry)
variable {H : Type} {enc : TypeId × Value → H} {P : Program} {w : World} {sp : Nat → Bool} {hd : Bool}

theorem rows_open {α : Type} (row : α → List PV) (bulkA : α → Nat) {b sz : Nat} : ∀ (elems : List (DataW H × List MemPlace)) (off : Nat),
    (∀ (i : Nat) y, elems[i]? = some y → ∃ a, (row a).length = sz ∧ RepAt w Heap.none.im b (off + i * sz) (row a) ∧ bulkA a ≤ uptoBulk y.1) →
    ∃ l : List α, l.length = elems.length ∧ RepRows w Heap.none.im b off sz (l.map row) ∧ (l.map bulkA).sum ≤ uptoBulkAll (elems.map (·.1))
  | [], off, h => ⟨[], rfl, by simp only [List.map_nil, RepRows], by simp⟩
  | y :: elems, off, h => by
    obtain ⟨a, h1, h2, h3⟩ := h 0 y rfl
    obtain ⟨l, l1, l2, l3⟩ := rows_open row bulkA elems (off + sz) fun i y' hy => by
      obtain ⟨a', k1, k2, k3⟩ := h (i + 1) y' (by simpa using hy)
      exact ⟨a', k1, by rwa [show off + sz + i * sz = off + (i + 1) * sz by rw [Nat.add_mul]; omega], k3⟩
    refine ⟨a :: l, by simp [l1], ?_, ?_⟩
    · simp only [List.map_cons, RepRows]
      exact ⟨h1, by simpa using h2, l2⟩
    · simp only [List.map_cons, List.sum_cons, uptoBulkAll]; omega
theorem slice_open {α : Type} (row : α → List PV) (bulkA : α → Nat) {t e : TypeId} {sz n : Nat} {cs : List Value} {x : DataW H × List MemPlace} (hu : P.underlying t = some (.slice e)) (hsz : P.cellsOf e = sz) (hpos : 0 < sz)
    (he : ∀ cs y, DataW.trod enc P w 0 sp hd n e cs = some y → ∃ a, (row a).length = sz ∧ RepVals w Heap.none.im (row a) cs ∧ bulkA a ≤ uptoBulk y.1)
    (h : DataW.trod enc P w 0 sp hd (n + 1) t cs = some x) : ∃ (v : Value) (l : List α), cs = [v] ∧ Rep w Heap.none.im (.slice sz (l.map row)) v ∧ (l.map bulkA).sum + 1 ≤ uptoBulk x.1 := by
  rcases DataW.trod_slice hu h with ⟨rfl, rfl⟩ | ⟨a, len, cap, elems, rest, n', hn, rfl, rfl, hb, hlc, hcm, hel, hget, _, _⟩
  · refine ⟨_, [], rfl, ?_, ?_⟩
    · simp only [Rep, List.map_nil, List.length_nil]
      exact ⟨none, 0, rfl, Nat.le_refl _, by decide, Or.inl trivial⟩
    · simp [uptoBulk]
  · obtain rfl : n' = n := by omega
    obtain ⟨blk, off, spot⟩ := a
    have cells : ∀ (i : Nat) y, elems[i]? = some y → ∃ cs', cs'.length = sz ∧ (∀ j, j < sz → w.cell? ((Addr.add ⟨blk, off, spot⟩ (i * sz)).add j) = cs'[j]?) ∧ DataW.trod enc P w 0 sp hd n' e cs' = some y := by
      intro i y hy
      have hi : i < len := by rw [← hel]; exact (List.getElem?_eq_some_iff.1 hy).1
      have h1 := hget i hi
      rw [hy, Option.bind_eq_some_iff] at h1
      obtain ⟨cs', hc, hy'⟩ := h1
      obtain ⟨_, hcl, hcell⟩ := World.cells?_some hc
      rw [hsz] at hcl hcell
      exact ⟨cs', hcl, hcell, hy'⟩
    cases hE : elems with
    | nil =>
      subst hE
      simp only [List.length_nil] at hel
      subst hel
      refine ⟨_, [], rfl, ?_, by simp [uptoBulk]⟩
      simp only [Rep, List.map_nil, List.length_nil]
      exact ⟨_, cap, rfl, hlc, hcm, Or.inl trivial⟩
    | cons y0 elems' =>
      rw [← hE]
      have h00 : elems[0]? = some y0 := by rw [hE]; rfl
      have hb0 : spot = none ∧ blk < w.heap.size := by
        obtain ⟨cs', hcl, hcell, _⟩ := cells 0 y0 h00
        have h0 := hcell 0 hpos
        rw [List.getElem?_eq_getElem (by omega)] at h0
        have e0 : (Addr.add ⟨blk, off, spot⟩ (0 * sz)).add 0 = ⟨blk, off, spot⟩ := by simp [Addr.add]
        rw [e0] at h0
        exact ⟨by simpa using World.cell?_spot h0, by simpa using World.block_lt_of_cell? w _ h0⟩
      obtain ⟨hspot, hlt⟩ := hb0
      subst hspot
      obtain ⟨l, l1, l2, l3⟩ := rows_open row bulkA (w := w) (b := blk) (sz := sz) elems off fun i y hy => by
        obtain ⟨cs', hcl, hcell, hy'⟩ := cells i y hy
        obtain ⟨a, a1, a2, a3⟩ := he _ _ hy'
        refine ⟨a, a1, repAt_of_vals a2 fun j v hv => ?_, a3⟩
        have hj : j < sz := by rw [← hcl]; exact (List.getElem?_eq_some_iff.1 hv).1
        have := hcell j hj
        rw [hv, add_addr, add_addr] at this
        exact this
      refine ⟨_, l, rfl, ?_, ?_⟩
      · simp only [Rep, List.length_map]
        exact ⟨some ⟨blk, off, none⟩, cap, by rw [l1, hel], by rw [l1, hel]; exact hlc, hcm, Or.inr ⟨blk, off, rfl, rfl, hlt, l2⟩⟩
      · simp only [uptoBulk]; omega
end

end Go.Proofs.Ytcbonfgkfiapaaa.Pv

/-! What an argument that is a word reads as: a tree of parts. -/
set_option linter.unusedVariables false
set_option linter.unusedSimpArgs false
set_option maxRecDepth 100000
namespace Go.Proofs.Ytcbonfgkfiapaaa.Pv
open Go Go.RowKit

section
open Rows (uptoBulk uptoBulkAll uptoBulkEntries uptoBulkEntry)
variable {H : Type} {enc : TypeId × Value → H} {w : World} {sp : Nat → Bool} {hd : Bool}
theorem str_back (s : ByteArray) : (⟨s.data.toList.toArray⟩ : ByteArray) = s := by cases s; simp
theorem bulks_sum (l : List Pt) : bulks l = (l.map Pt.bulk).sum := by
  induction l with
  | nil => rfl
  | cons p l ih => simp only [bulks, List.map_cons, List.sum_cons, ih]
theorem ones_sum (l : List Unit) : (l.map fun _ => 1).sum = l.length := by
  induction l with
  | nil => rfl
  | cons p l ih => simp only [List.map_cons, List.sum_cons, List.length_cons, ih]; omega
theorem repVals_any {im : Nat → Prop} : ∀ (n : Nat) (cs : List Value), cs.length = n → RepVals w im (List.replicate n .any) cs
  | 0, cs, h => by have := List.eq_nil_of_length_eq_zero h; subst this; exact repVals_nil.2 rfl
  | n + 1, [], h => by simp at h
  | n + 1, c :: cs, h => by
    rw [List.replicate_succ, repVals_cons]
    exact ⟨by simp only [Rep], repVals_any n cs (by simpa using h)⟩
theorem node_any {n : Nat} {cs : List Value} {y : DataW H × List MemPlace} (h : DataW.trod enc Try.prog w 0 sp hd n 211 cs = some y) : ∃ a : Unit, (List.replicate 10 PV.any).length = 10 ∧ RepVals w Heap.none.im (List.replicate 10 .any) cs ∧ 1 ≤ uptoBulk y.1 := by
  obtain ⟨xs, m, rfl, rfl, hl, hxl, hf⟩ := DataW.trod_struct Try.underlying211 h
  have c : Try.prog.cellsOf 211 = 10 := by kernel_rfl
  exact ⟨(), by simp, repVals_any 10 cs (by rw [hl, c]), by simp [uptoBulk]⟩
theorem part_open : ∀ (n : Nat) (cs : List Value) (y : DataW H × List MemPlace), DataW.trod enc Try.prog w 0 sp hd n 41 cs = some y → ∃ p : Pt, p.row.length = 5 ∧ RepVals w Heap.none.im p.row cs ∧ p.bulk ≤ uptoBulk y.1 := by
  intro n
  induction n using Nat.strongRecOn with
  | _ n ih =>
    intro cs y h
    obtain ⟨xs, m, rfl, rfl, hl, hxl, hf⟩ := DataW.trod_struct Try.underlying41 h
    have c41 : Try.prog.cellsOf 41 = 5 := by kernel_rfl
    have c3 : Try.prog.cellsOf 3 = 1 := by kernel_rfl
    have c9 : Try.prog.cellsOf 9 = 1 := by kernel_rfl
    have c31 : Try.prog.cellsOf 31 = 1 := by kernel_rfl
    have c39 : Try.prog.cellsOf 39 = 1 := by kernel_rfl
    have c211 : Try.prog.cellsOf 211 = 10 := by kernel_rfl
    rw [c41] at hl
    have e0 : DataW.trod enc Try.prog w 0 sp hd m 3 ((cs.drop 0).take (Try.prog.cellsOf 3)) = xs[0]? := hf 0 _ rfl
    have e1 : DataW.trod enc Try.prog w 0 sp hd m 9 ((cs.drop 1).take (Try.prog.cellsOf 9)) = xs[1]? := hf 1 _ rfl
    have e2 : DataW.trod enc Try.prog w 0 sp hd m 9 ((cs.drop 2).take (Try.prog.cellsOf 9)) = xs[2]? := hf 2 _ rfl
    have e3 : DataW.trod enc Try.prog w 0 sp hd m 31 ((cs.drop 3).take (Try.prog.cellsOf 31)) = xs[3]? := hf 3 _ rfl
    have e4 : DataW.trod enc Try.prog w 0 sp hd m 39 ((cs.drop 4).take (Try.prog.cellsOf 39)) = xs[4]? := hf 4 _ rfl
    clear hf
    rw [c3] at e0
    rw [c9] at e1 e2
    rw [c31] at e3
    rw [c39] at e4
    match cs, hl with
    | [v0, v1, v2, v3, v4], _ =>
      match xs, hxl with
      | [x0, x1, x2, x3, x4], _ =>
        simp only [List.drop_zero, List.drop_succ_cons, List.take_succ_cons, List.take_zero, List.getElem?_cons_zero, List.getElem?_cons_succ] at e0 e1 e2 e3 e4
        obtain ⟨k, h0, rfl, _⟩ := DataW.trod_int Try.underlying3 e0
        obtain ⟨s, h1, rfl, _⟩ := DataW.trod_string Try.underlying9 e1
        obtain ⟨o, h2, rfl, _⟩ := DataW.trod_string Try.underlying9 e2
        cases m with
        | zero => simp [DataW.trod] at e3
        | succ m =>
          obtain ⟨v, l, h3, r3, b3⟩ := slice_open Pt.row Pt.bulk Try.underlying31 c41 (by decide) (fun cs y h => ih m (by omega) cs y h) e3
          obtain ⟨u, lc, h4, r4, b4⟩ := slice_open (fun _ : Unit => List.replicate 10 PV.any) (fun _ => 1) Try.underlying39 c211 (by decide) (fun cs y h => node_any h) e4
          simp only [List.cons.injEq, and_true] at h0 h1 h2 h3 h4
          subst h0 h1 h2 h3 h4
          refine ⟨.mk k s.data.toList o.data.toList l (lc.map fun _ => List.replicate 10 PV.any), row_len _, ?_, ?_⟩
          · simp only [Pt.row]
            refine repVals_cons.2 ⟨by simp [Rep], repVals_cons.2 ⟨by simp [Rep], repVals_cons.2 ⟨by simp [Rep], repVals_cons.2 ⟨?_, repVals_cons.2 ⟨r4, repVals_nil.2 rfl⟩⟩⟩⟩⟩
            rw [prows_map]; exact r3
          · simp only [Pt.bulk, List.map_cons, List.map_nil, uptoBulk, uptoBulkAll, List.length_map]
            rw [ones_sum] at b4
            rw [bulks_sum]
            omega
theorem open_word {W : World} {base : Nat} {v : Value} {d : DataW H} {ps : List MemPlace} (hv : Value.okWide Try.prog W .any base 33 v) (h : DataW.Trod enc Try.prog W 0 sp hd 33 v d ps) :
    ∃ l : List Pt, Rep W Heap.none.im (.agg [.slice 5 (prows l)]) v ∧ bulks l ≤ uptoBulk d := by
  unfold Value.okWide at hv
  rw [Try.underlying33] at hv
  obtain ⟨cs, rfl, _, _⟩ := hv
  obtain ⟨n, h⟩ := h
  obtain ⟨xs, m, rfl, hd', hl, hxl, hf⟩ := DataW.trod_struct Try.underlying33 h
  have c33 : Try.prog.cellsOf 33 = 1 := by kernel_rfl
  have c31 : Try.prog.cellsOf 31 = 1 := by kernel_rfl
  have c41 : Try.prog.cellsOf 41 = 5 := by kernel_rfl
  have e0 : DataW.trod enc Try.prog W 0 sp hd m 31 (((Value.agg cs).cells.toList.drop 0).take (Try.prog.cellsOf 31)) = xs[0]? := hf 0 _ rfl
  rw [c31] at e0
  rw [c33] at hl
  simp only [Value.cells] at e0 hl
  cases hcs : cs.toList with
  | nil => rw [hcs] at hl; simp at hl
  | cons c0 r =>
    rw [hcs] at hl e0
    have hr : r = [] := List.eq_nil_of_length_eq_zero (by simpa using hl)
    subst hr
    match xs, hxl with
    | [x0], _ =>
      simp only [List.drop_zero, List.take_succ_cons, List.take_zero, List.getElem?_cons_zero] at e0
      cases m with
      | zero => simp [DataW.trod] at e0
      | succ m =>
        obtain ⟨v, l, h3, r3, b3⟩ := slice_open Pt.row Pt.bulk Try.underlying31 c41 (by decide) (fun cs y h => part_open m cs y h) e0
        simp only [List.cons.injEq, and_true] at h3
        subst h3
        refine ⟨l, ?_, ?_⟩
        · simp only [Rep]
          refine ⟨cs, rfl, ?_⟩
          rw [hcs]
          refine repVals_cons.2 ⟨?_, repVals_nil.2 rfl⟩
          rw [prows_map]; exact r3
        · rw [bulks_sum]
          simp only [List.map_cons, List.map_nil, Prod.mk.injEq] at hd'
          rw [hd'.1]
          simp only [uptoBulk, uptoBulkAll]
          omega
end

end Go.Proofs.Ytcbonfgkfiapaaa.Pv
