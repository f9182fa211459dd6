/- Slices that are made, conversions; then one function that tells what an operation without effect gives, shown to be what the machine does. -/
import Derived.Test.YtcbonfgkfiapaaaOps3
set_option linter.unusedVariables false
set_option linter.unusedSimpArgs false
namespace Go.Proofs.Ytcbonfgkfiapaaa.Pv
open Go Go.RowKit

/-- The rows of a literal slice whose parts come in order. -/
def rowsOf (sz : Nat) : Nat → List (Nat × PV) → Option (List (List PV))
  | _, [] => some []
  | k, (i, p) :: rest => if i = k then (match cellsOf p with
      | some ds => if ds.length = sz then (rowsOf sz (k + 1) rest).map (ds :: ·) else none
      | none => none) else none
def elemZero (P : Program) (t : TypeId) : Bool :=
  match P.underlying t with
  | some (.slice e) => match P.info? e with
    | some i => match i.zero with
      | some z => i.size == z.cells.size && 0 < i.size
      | none => false
    | none => false
  | _ => false
def buildSlicePV (P : Program) (t : TypeId) (n : Nat) (parts : List (Nat × PV)) : Option PV :=
  match elemSize P t with
  | some sz => if elemZero P t = true ∧ n * sz ≤ 2 ^ 24 ∧ n = parts.length then (if n = 0 then some .sl0 else (rowsOf sz 0 parts).map (.slice sz)) else none
  | none => none

theorem repRows_of_flat {w : World} {im : Nat → Prop} {b sz : Nat} : ∀ {rows : List (List PV)} {off : Nat} {vs : List Value}, (∀ r ∈ rows, r.length = sz) → RepVals w im rows.flatten vs →
    (∀ j v, vs[j]? = some v → w.cell? ⟨b, off + j, none⟩ = some v) → RepRows w im b off sz rows
  | [], off, vs, _, _, _ => by simp only [RepRows]
  | r :: rs, off, vs, hl, hv, hc => by
    simp only [RepRows]
    have h1 := hl r (by simp)
    have hv' : RepVals w im (r ++ rs.flatten) vs := by simpa using hv
    have ha := repVals_take r.length hv'
    have hb := repVals_drop r.length hv'
    simp at ha hb
    refine ⟨h1, repAt_of_vals ha fun j v e => hc j v ?_, repRows_of_flat (fun r' h' => hl r' (by simp [h'])) hb fun j v e => ?_⟩
    · rw [List.getElem?_take] at e; split at e
      · exact e
      · simp at e
    · have := hc (r.length + j) v (by simpa using e)
      rwa [h1, ← Nat.add_assoc] at this

theorem rowsOf_length {sz : Nat} : ∀ {parts : List (Nat × PV)} {k : Nat} {rows : List (List PV)}, rowsOf sz k parts = some rows → rows.length = parts.length ∧ ∀ r ∈ rows, r.length = sz
  | [], k, rows, h => by simp [rowsOf] at h; subst h; simp
  | (i, p) :: rest, k, rows, h => by
    simp only [rowsOf] at h
    split at h
    · cases hc : cellsOf p with
      | none => rw [hc] at h; simp at h
      | some ds =>
        rw [hc] at h; simp only at h
        split at h
        · rename_i hl
          cases hr : rowsOf sz (k + 1) rest with
          | none => rw [hr] at h; simp at h
          | some rs =>
            rw [hr] at h; simp at h; subst h
            obtain ⟨h1, h2⟩ := rowsOf_length hr
            refine ⟨by simp [h1], fun r hm => ?_⟩
            simp at hm
            rcases hm with rfl | hm
            · exact hl
            · exact h2 r hm
        · simp at h
    · simp at h

theorem fill_rows {w : World} {im : Nat → Prop} {sz : Nat} : ∀ (parts : List (Nat × PV)) (vals : List (Nat × Value)) (k : Nat) (arr : Array Value) (rows : List (List PV)), parts.length = vals.length →
    (∀ (i f : Nat) (p : PV), parts[i]? = some (f, p) → ∃ v, vals[i]? = some (f, v) ∧ Rep w im p v) → rowsOf sz k parts = some rows → arr.size = (k + parts.length) * sz →
    ∃ res : Array Value, Instr.fill (fun i => some (i * sz, sz)) arr vals = some res ∧ ∃ vs, res.toList = arr.toList.take (k * sz) ++ vs ∧ RepVals w im rows.flatten vs
  | [], [], k, arr, rows, _, _, h, hs => by
    simp [rowsOf] at h; subst h
    refine ⟨arr, rfl, [], ?_, by simp [repVals_nil]⟩
    simp at hs
    rw [List.take_of_length_le (by simp [hs])]; simp
  | [], v :: vals, k, arr, rows, hl, _, _, _ => by simp at hl
  | (f, p) :: rest, [], k, arr, rows, hl, _, _, _ => by simp at hl
  | (f, p) :: rest, (f', v) :: vals, k, arr, rows, hl, hpv, h, hs => by
    obtain ⟨v', e1, hr⟩ := hpv 0 f p rfl
    simp at e1
    obtain ⟨rfl, e1⟩ := e1
    subst e1
    simp only [rowsOf] at h
    split at h
    case isFalse => simp at h
    rename_i hk
    subst hk
    cases hc : cellsOf p with
    | none => rw [hc] at h; simp at h
    | some ds =>
      rw [hc] at h; simp only at h
      split at h
      case isFalse => simp at h
      rename_i hlen
      cases hrr : rowsOf sz (f' + 1) rest with
      | none => rw [hrr] at h; simp at h
      | some rs =>
        rw [hrr] at h; simp at h; subst h
        have hcells := rep_cells hr hc
        have hll := repVals_length hcells
        have hsz : v.cells.size = sz := by have : v.cells.toList.length = ds.length := hll; simpa [hlen] using this
        have hs' : arr.size = (f' + 1 + rest.length) * sz := by rw [hs, List.length_cons]; congr 1; omega
        have hle : f' * sz + v.cells.size ≤ arr.size := by rw [hs', hsz, Nat.add_mul, Nat.add_mul]; omega
        have hfold := foldl_set v.cells.toList arr (f' * sz) 0 (by simpa using hle)
        simp only [Instr.fill]
        rw [if_neg (by simp [hsz]; omega)]
        have hz : v.cells.zipIdx.foldl (fun cs (x : Value × Nat) => cs.setIfInBounds (f' * sz + x.2) x.1) arr = (v.cells.toList.zipIdx 0).foldl (fun cs (x : Value × Nat) => cs.setIfInBounds (f' * sz + x.2) x.1) arr := by
          rw [← Array.foldl_toList]; simp
        have e : (v.cells.zipIdx.foldl (fun cs (x : Value × Nat) => cs.setIfInBounds (f' * sz + x.2) x.1) arr).toList = arr.toList.take (f' * sz) ++ v.cells.toList ++ arr.toList.drop (f' * sz + v.cells.toList.length) := by
          rw [hz, hfold]; simp
        obtain ⟨res, h1, vs, h2, h3⟩ := fill_rows rest vals (f' + 1) (v.cells.zipIdx.foldl (fun cs (x : Value × Nat) => cs.setIfInBounds (f' * sz + x.2) x.1) arr) rs (by simpa using hl)
          (fun i f p e => by simpa using hpv (i + 1) f p (by simpa using e)) hrr (by
            have : (v.cells.zipIdx.foldl (fun cs (x : Value × Nat) => cs.setIfInBounds (f' * sz + x.2) x.1) arr).toList.length = arr.size := by
              rw [e]; simp only [List.length_append, List.length_take, List.length_drop, Array.length_toList, hsz]; rw [hsz] at hle; omega
            have h0 : (v.cells.zipIdx.foldl (fun cs (x : Value × Nat) => cs.setIfInBounds (f' * sz + x.2) x.1) arr).size = arr.size := by simpa using this
            rw [h0, hs'])
        refine ⟨res, h1, v.cells.toList ++ vs, ?_, by simpa using repVals_append hcells h3⟩
        rw [h2, e, hll]
        have hl1 : (List.take (f' * sz) arr.toList ++ v.cells.toList).length = (f' + 1) * sz := by
          rw [List.length_append, hll, hlen, List.length_take, Array.length_toList, Nat.add_mul]
          rw [hsz] at hle
          omega
        rw [List.take_left' hl1]
        simp

theorem run_buildSlice {P : Program} {w : World} {S : Heap} {t : TypeId} {n : Nat} {parts : List (Nat × PV)} {vals : Array (Nat × Value)} {r : PV} (hS : ∀ b o, S b = some o → Holds w S.im b o) (hl : parts.length = vals.toList.length)
    (hpv : ∀ (i f : Nat) (p : PV), parts[i]? = some (f, p) → ∃ v, vals.toList[i]? = some (f, v) ∧ Rep w S.im p v) (h : buildSlicePV P t n parts = some r) :
    Gives P (Instr.buildSlice t n vals) w S r := by
  unfold buildSlicePV at h
  cases he : elemSize P t with
  | none => rw [he] at h; simp at h
  | some sz =>
    rw [he] at h; simp only at h
    split at h
    case isFalse => simp at h
    rename_i hc
    obtain ⟨hz, hlim, hn⟩ := hc
    obtain ⟨e, inf, hu, hi, hsz⟩ := elemSize_spec he
    unfold elemZero at hz
    rw [hu] at hz; simp only [hi] at hz
    cases hzz : inf.zero with
    | none => rw [hzz] at hz; simp at hz
    | some z =>
      rw [hzz] at hz
      simp at hz
      obtain ⟨hz1, hz2⟩ := hz
      have hrz : ∀ W, (zeroValue e).run P W = .ok z W := fun W => by simp [zeroValue, run_typeInfo hi, hzz]
      split at h
      · rename_i h0
        simp at h; subst h
        subst h0
        have hvn : vals.toList = [] := by
          have : parts = [] := List.eq_nil_of_length_eq_zero hn.symm
          subst this; simp at hl; exact List.eq_nil_of_length_eq_zero (by simpa using hl.symm)
        have hm0 : (Array.range (0 * inf.size)).map (fun x => (#[] : Array Value)[x % (#[] : Array Value).size]!) = #[] := by
          apply Array.eq_empty_of_size_eq_zero; simp
        obtain ⟨k1, k2⟩ := alloc_ext (w := w) (S := S) (.cells #[] e) hS
        refine ⟨.slice (some ⟨w.heap.size, 0, none⟩) 0 0, w.alloc (.cells #[] e), ?_, by simp only [Rep]; exact ⟨_, rfl⟩, k1, k2⟩
        simp only [Instr.buildSlice, Sem.run_bind, run_under hu, Result.andThen_ok, run_sizeOf' hi]
        rw [if_neg (by simp)]
        rw [if_pos (by simp)]
        simp only [Sem.run_bind, Sem.run_pure, Result.andThen_ok, hm0, hvn, Instr.fill]
        rfl
      · rename_i h0
        cases hr : rowsOf sz 0 parts with
        | none => rw [hr] at h; simp at h
        | some rows =>
          rw [hr] at h; simp at h; subst h
          obtain ⟨hrl, hrs⟩ := rowsOf_length hr
          have hne : ¬ n * sz = 0 := by
            have : 0 < sz := by rw [← hsz]; exact hz2
            exact Nat.mul_ne_zero h0 (by omega)
          obtain ⟨res, h1, vs, h2, h3⟩ := fill_rows (w := w) (im := S.im) (sz := sz) parts vals.toList 0 ((Array.range (n * sz)).map (fun x => z.cells[x % z.cells.size]!)) rows hl hpv hr (by simp [hn])
          simp at h2
          obtain ⟨k1, k2⟩ := alloc_ext (w := w) (S := S) (.cells res e) hS
          have hrun : (Instr.buildSlice t n vals).run P w = .ok (.slice (some ⟨w.heap.size, 0, none⟩) n n) (w.alloc (.cells res e)) := by
            simp only [Instr.buildSlice, Sem.run_bind, run_under hu, Result.andThen_ok, run_sizeOf' hi, hsz]
            rw [if_neg (by omega)]
            rw [if_neg hne]
            simp only [Sem.run_bind, hrz, Result.andThen_ok, Sem.run_pure, h1]
            rfl
          refine ⟨_, _, hrun, ?_, k1, k2⟩
          have hnl : rows.length = n := by rw [hrl, hn]
          simp only [Rep]
          have hcap : n ≤ maxLen := by
            have hz2' : 0 < sz := by rw [← hsz]; exact hz2
            have : n ≤ n * sz := Nat.le_mul_of_pos_right n hz2'
            unfold maxLen; omega
          refine ⟨_, n, by rw [hnl], by rw [hnl]; exact Nat.le_refl n, hcap, Or.inr ⟨w.heap.size, 0, rfl, not_im_new hS (Nat.le_refl _), by simp, ?_⟩⟩
          refine repRows_of_flat hrs (RepVals.keep k1.keeps _ h3) fun j v e => ?_
          rw [cell_of_block (alloc_block w _)]
          rw [← h2] at e
          simpa using e

/-! Conversions -/
def bytesOfRows : List (List PV) → Option (List UInt8)
  | [] => some []
  | [.int .u8 n] :: rs => if 0 ≤ n ∧ n < 256 then (bytesOfRows rs).map (UInt8.ofNat n.toNat :: ·) else none
  | _ => none
def bytesToStr (P : Program) (s d : TypeId) : Bool :=
  match P.underlying s, P.underlying d with
  | some (.slice e), some .string => match P.underlying e with
    | some (.int .u8) => true
    | _ => false
  | _, _ => false
def convPV (P : Program) (s d : TypeId) : PV → Option PV
  | .int k n => match P.underlying d with
    | some (.int k') => some (.int k' (k'.wrap n))
    | _ => none
  | .slice sz rows => if bytesToStr P s d = true ∧ sz = 1 then (bytesOfRows rows).map .str else none
  | .str l => match P.underlying d with
    | some .string => some (.str l)
    | _ => none
  | _ => none

theorem bytesOfRows_spec {w : World} {im : Nat → Prop} {b : Nat} : ∀ {rows : List (List PV)} {off : Nat} {l : List UInt8}, bytesOfRows rows = some l → RepRows w im b off 1 rows →
    ∃ xs : List Int, xs.length = rows.length ∧ (xs.map fun n => UInt8.ofNat n.toNat) = l ∧ ∀ i, i < rows.length → w.cell? ⟨b, off + i, none⟩ = some (.int .u8 (xs.getD i 0))
  | [], off, l, h, hr => by simp [bytesOfRows] at h; subst h; exact ⟨[], rfl, rfl, fun i hi => by simp at hi⟩
  | r :: rs, off, l, h, hr => by
    simp only [RepRows] at hr
    obtain ⟨hl, ha, hrr⟩ := hr
    match r, h, hl, ha with
    | [.int .u8 n], h, hl, ha =>
      simp only [bytesOfRows] at h
      split at h
      · cases hb : bytesOfRows rs with
        | none => rw [hb] at h; simp at h
        | some l' =>
          rw [hb] at h; simp at h; subst h
          obtain ⟨xs, h1, h2, h3⟩ := bytesOfRows_spec hb hrr
          refine ⟨n :: xs, by simp [h1], by simp [h2], fun i hi => ?_⟩
          cases i with
          | zero =>
            simp only [RepAt] at ha
            obtain ⟨⟨v, hv, hrv⟩, _⟩ := ha
            simp only [Rep] at hrv; subst hrv
            simpa using hv
          | succ i =>
            have := h3 i (by simpa using hi)
            rw [show off + (i + 1) = off + 1 + i by omega]
            simpa using this
      · simp at h
    | [.int .i8 n], h, _, _ => simp [bytesOfRows] at h
    | [.int .i16 n], h, _, _ => simp [bytesOfRows] at h
    | [.int .i32 n], h, _, _ => simp [bytesOfRows] at h
    | [.int .i64 n], h, _, _ => simp [bytesOfRows] at h
    | [.int .u16 n], h, _, _ => simp [bytesOfRows] at h
    | [.int .u32 n], h, _, _ => simp [bytesOfRows] at h
    | [.int .u64 n], h, _, _ => simp [bytesOfRows] at h
    | [.any], h, _, _ => simp [bytesOfRows] at h
    | [.bool _], h, _, _ => simp [bytesOfRows] at h
    | [.str _], h, _, _ => simp [bytesOfRows] at h
    | [.nilp], h, _, _ => simp [bytesOfRows] at h
    | [.ref _], h, _, _ => simp [bytesOfRows] at h
    | [.mp _ _], h, _, _ => simp [bytesOfRows] at h
    | [.sl0], h, _, _ => simp [bytesOfRows] at h
    | [.slice _ _], h, _, _ => simp [bytesOfRows] at h
    | [.vec _ _ _], h, _, _ => simp [bytesOfRows] at h
    | [.fn _ _ _], h, _, _ => simp [bytesOfRows] at h
    | [.nilfn], h, _, _ => simp [bytesOfRows] at h
    | [.iface _ _], h, _, _ => simp [bytesOfRows] at h
    | [.nilif], h, _, _ => simp [bytesOfRows] at h
    | [.agg _], h, _, _ => simp [bytesOfRows] at h
    | [.tup _], h, _, _ => simp [bytesOfRows] at h
    | [.omap _], h, _, _ => simp [bytesOfRows] at h
    | [], h, hl, _ => simp at hl
    | _ :: _ :: _, h, hl, _ => simp at hl

theorem run_convert' {P : Program} {w : World} {im : Nat → Prop} {s d : TypeId} {p r : PV} {v : Value} {dd : TypeDesc} (hs : P.underlying s = some dd) (h : convPV P s d p = some r) (hp : Rep w im p v) : ∃ u, (convert s d v).run P w = .ok u w ∧ Rep w im r u := by
  cases p <;> simp only [convPV, reduceCtorEq] at h
  case int k n =>
    split at h
    · rename_i k' hd
      simp at h; subst h
      simp only [Rep] at hp; subst hp
      refine ⟨.int k' (k'.wrap n), ?_, by simp [Rep]⟩
      simp only [convert, Sem.run_bind, run_under hs, run_under hd, Result.andThen_ok]
      cases dd <;> simp [Conv.intToInt]
    · simp at h
  case str l =>
    split at h
    · rename_i hd
      simp at h; subst h
      simp only [Rep] at hp; subst hp
      refine ⟨_, ?_, by simp [Rep]; rfl⟩
      simp only [convert, Sem.run_bind, run_under hs, run_under hd, Result.andThen_ok]
      cases dd <;> simp
    · simp at h
  case slice sz rows =>
    split at h
    case isFalse => simp at h
    rename_i hc
    obtain ⟨hb, rfl⟩ := hc
    unfold bytesToStr at hb
    split at hb
    case h_2 => simp at hb
    rename_i e hs' hd'
    split at hb
    case h_2 => simp at hb
    rename_i he
    cases hl : bytesOfRows rows with
    | none => rw [hl] at h; simp at h
    | some l =>
      rw [hl] at h; simp at h; subst h
      simp only [Rep] at hp
      obtain ⟨a, c, rfl, _, _, hrr⟩ := hp
      rcases hrr with hrr | ⟨b, off, rfl, _, _, hrr⟩
      · subst hrr
        simp [bytesOfRows] at hl; subst hl
        refine ⟨.string ⟨([] : List UInt8).toArray⟩, ?_, by simp [Rep]⟩
        rw [run_convert_bytes_string w s d e a _ c hs' he hd']
        cases a with
        | none => simp [Conv.bytesToString]; rfl
        | some a => simp [Conv.bytesToString, loadCells, loadCellsFrom]; rfl
      · obtain ⟨xs, h1, h2, h3⟩ := bytesOfRows_spec hl hrr
        refine ⟨_, run_convert_bytes_arg w s e hs' he b off rows.length c xs h1 h3 d hd', ?_⟩
        simp only [Rep]
        rw [← h2]; rfl

end Go.Proofs.Ytcbonfgkfiapaaa.Pv
