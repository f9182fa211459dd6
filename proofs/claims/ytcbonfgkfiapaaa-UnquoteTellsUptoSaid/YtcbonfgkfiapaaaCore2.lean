/- Slices that are made, conversions; then one function that tells what an operation without effect gives, shown to be what the machine does. One function that tells what an operation without effect gives, shown to be what the machine does. Rules for code over abstract states: sequences, tests, loops, calls; what is proved by them holds of the machine. Regions: told in the order of the text, also where the order is drawn. -/
import Derived.Test.YtcbonfgkfiapaaaCore1
/-! Slices that are made, conversions; then one function that tells what an operation without effect gives, shown to be what the machine does. -/
set_option linter.unusedVariables false
set_option linter.unusedSimpArgs false
namespace Go.Proofs.Ytcbonfgkfiapaaa.Pv
open Go Go.RowKit

/-- The rows of a literal slice whose parts come in order. -/
def rowsOf (sz : Nat) : Nat → List (Nat × PV) → Option (List (List PV))
  | _, [] => some []
  | k, (i, p) :: rest => if i = k then (match cellsOf p with
      | some ds => if ds.length = sz then (rowsOf sz (k + 1) rest).map (ds :: ·) else none
      | none => none) else none
def elemZero (P : Program) (t : TypeId) : Bool :=
  match P.underlying t with
  | some (.slice e) => match P.info? e with
    | some i => match i.zero with
      | some z => i.size == z.cells.size && 0 < i.size
      | none => false
    | none => false
  | _ => false
def buildSlicePV (P : Program) (t : TypeId) (n : Nat) (parts : List (Nat × PV)) : Option PV :=
  match elemSize P t with
  | some sz => if elemZero P t = true ∧ n * sz ≤ 2 ^ 24 ∧ n = parts.length then (if n = 0 then some .sl0 else (rowsOf sz 0 parts).map (.slice sz)) else none
  | none => none

theorem repRows_of_flat {w : World} {im : Nat → Prop} {b sz : Nat} : ∀ {rows : List (List PV)} {off : Nat} {vs : List Value}, (∀ r ∈ rows, r.length = sz) → RepVals w im rows.flatten vs →
    (∀ j v, vs[j]? = some v → w.cell? ⟨b, off + j, none⟩ = some v) → RepRows w im b off sz rows
  | [], off, vs, _, _, _ => by simp only [RepRows]
  | r :: rs, off, vs, hl, hv, hc => by
    simp only [RepRows]
    have h1 := hl r (by simp)
    have hv' : RepVals w im (r ++ rs.flatten) vs := by simpa using hv
    have ha := repVals_take r.length hv'
    have hb := repVals_drop r.length hv'
    simp at ha hb
    refine ⟨h1, repAt_of_vals ha fun j v e => hc j v ?_, repRows_of_flat (fun r' h' => hl r' (by simp [h'])) hb fun j v e => ?_⟩
    · rw [List.getElem?_take] at e; split at e
      · exact e
      · simp at e
    · have := hc (r.length + j) v (by simpa using e)
      rwa [h1, ← Nat.add_assoc] at this

theorem rowsOf_length {sz : Nat} : ∀ {parts : List (Nat × PV)} {k : Nat} {rows : List (List PV)}, rowsOf sz k parts = some rows → rows.length = parts.length ∧ ∀ r ∈ rows, r.length = sz
  | [], k, rows, h => by simp [rowsOf] at h; subst h; simp
  | (i, p) :: rest, k, rows, h => by
    simp only [rowsOf] at h
    split at h
    · cases hc : cellsOf p with
      | none => rw [hc] at h; simp at h
      | some ds =>
        rw [hc] at h; simp only at h
        split at h
        · rename_i hl
          cases hr : rowsOf sz (k + 1) rest with
          | none => rw [hr] at h; simp at h
          | some rs =>
            rw [hr] at h; simp at h; subst h
            obtain ⟨h1, h2⟩ := rowsOf_length hr
            refine ⟨by simp [h1], fun r hm => ?_⟩
            simp at hm
            rcases hm with rfl | hm
            · exact hl
            · exact h2 r hm
        · simp at h
    · simp at h

theorem fill_rows {w : World} {im : Nat → Prop} {sz : Nat} : ∀ (parts : List (Nat × PV)) (vals : List (Nat × Value)) (k : Nat) (arr : Array Value) (rows : List (List PV)), parts.length = vals.length →
    (∀ (i f : Nat) (p : PV), parts[i]? = some (f, p) → ∃ v, vals[i]? = some (f, v) ∧ Rep w im p v) → rowsOf sz k parts = some rows → arr.size = (k + parts.length) * sz →
    ∃ res : Array Value, Instr.fill (fun i => some (i * sz, sz)) arr vals = some res ∧ ∃ vs, res.toList = arr.toList.take (k * sz) ++ vs ∧ RepVals w im rows.flatten vs
  | [], [], k, arr, rows, _, _, h, hs => by
    simp [rowsOf] at h; subst h
    refine ⟨arr, rfl, [], ?_, by simp [repVals_nil]⟩
    simp at hs
    rw [List.take_of_length_le (by simp [hs])]; simp
  | [], v :: vals, k, arr, rows, hl, _, _, _ => by simp at hl
  | (f, p) :: rest, [], k, arr, rows, hl, _, _, _ => by simp at hl
  | (f, p) :: rest, (f', v) :: vals, k, arr, rows, hl, hpv, h, hs => by
    obtain ⟨v', e1, hr⟩ := hpv 0 f p rfl
    simp at e1
    obtain ⟨rfl, e1⟩ := e1
    subst e1
    simp only [rowsOf] at h
    split at h
    case isFalse => simp at h
    rename_i hk
    subst hk
    cases hc : cellsOf p with
    | none => rw [hc] at h; simp at h
    | some ds =>
      rw [hc] at h; simp only at h
      split at h
      case isFalse => simp at h
      rename_i hlen
      cases hrr : rowsOf sz (f' + 1) rest with
      | none => rw [hrr] at h; simp at h
      | some rs =>
        rw [hrr] at h; simp at h; subst h
        have hcells := rep_cells hr hc
        have hll := repVals_length hcells
        have hsz : v.cells.size = sz := by have : v.cells.toList.length = ds.length := hll; simpa [hlen] using this
        have hs' : arr.size = (f' + 1 + rest.length) * sz := by rw [hs, List.length_cons]; congr 1; omega
        have hle : f' * sz + v.cells.size ≤ arr.size := by rw [hs', hsz, Nat.add_mul, Nat.add_mul]; omega
        have hfold := foldl_set v.cells.toList arr (f' * sz) 0 (by simpa using hle)
        simp only [Instr.fill]
        rw [if_neg (by simp [hsz]; omega)]
        have hz : v.cells.zipIdx.foldl (fun cs (x : Value × Nat) => cs.setIfInBounds (f' * sz + x.2) x.1) arr = (v.cells.toList.zipIdx 0).foldl (fun cs (x : Value × Nat) => cs.setIfInBounds (f' * sz + x.2) x.1) arr := by
          rw [← Array.foldl_toList]; simp
        have e : (v.cells.zipIdx.foldl (fun cs (x : Value × Nat) => cs.setIfInBounds (f' * sz + x.2) x.1) arr).toList = arr.toList.take (f' * sz) ++ v.cells.toList ++ arr.toList.drop (f' * sz + v.cells.toList.length) := by
          rw [hz, hfold]; simp
        obtain ⟨res, h1, vs, h2, h3⟩ := fill_rows rest vals (f' + 1) (v.cells.zipIdx.foldl (fun cs (x : Value × Nat) => cs.setIfInBounds (f' * sz + x.2) x.1) arr) rs (by simpa using hl)
          (fun i f p e => by simpa using hpv (i + 1) f p (by simpa using e)) hrr (by
            have : (v.cells.zipIdx.foldl (fun cs (x : Value × Nat) => cs.setIfInBounds (f' * sz + x.2) x.1) arr).toList.length = arr.size := by
              rw [e]; simp only [List.length_append, List.length_take, List.length_drop, Array.length_toList, hsz]; rw [hsz] at hle; omega
            have h0 : (v.cells.zipIdx.foldl (fun cs (x : Value × Nat) => cs.setIfInBounds (f' * sz + x.2) x.1) arr).size = arr.size := by simpa using this
            rw [h0, hs'])
        refine ⟨res, h1, v.cells.toList ++ vs, ?_, by simpa using repVals_append hcells h3⟩
        rw [h2, e, hll]
        have hl1 : (List.take (f' * sz) arr.toList ++ v.cells.toList).length = (f' + 1) * sz := by
          rw [List.length_append, hll, hlen, List.length_take, Array.length_toList, Nat.add_mul]
          rw [hsz] at hle
          omega
        rw [List.take_left' hl1]
        simp

theorem run_buildSlice {P : Program} {w : World} {S : Heap} {t : TypeId} {n : Nat} {parts : List (Nat × PV)} {vals : Array (Nat × Value)} {r : PV} (hS : ∀ b o, S b = some o → Holds w S.im b o) (hl : parts.length = vals.toList.length)
    (hpv : ∀ (i f : Nat) (p : PV), parts[i]? = some (f, p) → ∃ v, vals.toList[i]? = some (f, v) ∧ Rep w S.im p v) (h : buildSlicePV P t n parts = some r) :
    Gives P (Instr.buildSlice t n vals) w S r := by
  unfold buildSlicePV at h
  cases he : elemSize P t with
  | none => rw [he] at h; simp at h
  | some sz =>
    rw [he] at h; simp only at h
    split at h
    case isFalse => simp at h
    rename_i hc
    obtain ⟨hz, hlim, hn⟩ := hc
    obtain ⟨e, inf, hu, hi, hsz⟩ := elemSize_spec he
    unfold elemZero at hz
    rw [hu] at hz; simp only [hi] at hz
    cases hzz : inf.zero with
    | none => rw [hzz] at hz; simp at hz
    | some z =>
      rw [hzz] at hz
      simp at hz
      obtain ⟨hz1, hz2⟩ := hz
      have hrz : ∀ W, (zeroValue e).run P W = .ok z W := fun W => by simp [zeroValue, run_typeInfo hi, hzz]
      split at h
      · rename_i h0
        simp at h; subst h
        subst h0
        have hvn : vals.toList = [] := by
          have : parts = [] := List.eq_nil_of_length_eq_zero hn.symm
          subst this; simp at hl; exact List.eq_nil_of_length_eq_zero (by simpa using hl.symm)
        have hm0 : (Array.range (0 * inf.size)).map (fun x => (#[] : Array Value)[x % (#[] : Array Value).size]!) = #[] := by
          apply Array.eq_empty_of_size_eq_zero; simp
        obtain ⟨k1, k2⟩ := alloc_ext (w := w) (S := S) (.cells #[] e) hS
        refine ⟨.slice (some ⟨w.heap.size, 0, none⟩) 0 0, w.alloc (.cells #[] e), ?_, by simp only [Rep]; exact ⟨_, rfl⟩, k1, k2⟩
        simp only [Instr.buildSlice, Sem.run_bind, run_under hu, Result.andThen_ok, run_sizeOf' hi]
        rw [if_neg (by simp)]
        rw [if_pos (by simp)]
        simp only [Sem.run_bind, Sem.run_pure, Result.andThen_ok, hm0, hvn, Instr.fill]
        rfl
      · rename_i h0
        cases hr : rowsOf sz 0 parts with
        | none => rw [hr] at h; simp at h
        | some rows =>
          rw [hr] at h; simp at h; subst h
          obtain ⟨hrl, hrs⟩ := rowsOf_length hr
          have hne : ¬ n * sz = 0 := by
            have : 0 < sz := by rw [← hsz]; exact hz2
            exact Nat.mul_ne_zero h0 (by omega)
          obtain ⟨res, h1, vs, h2, h3⟩ := fill_rows (w := w) (im := S.im) (sz := sz) parts vals.toList 0 ((Array.range (n * sz)).map (fun x => z.cells[x % z.cells.size]!)) rows hl hpv hr (by simp [hn])
          simp at h2
          obtain ⟨k1, k2⟩ := alloc_ext (w := w) (S := S) (.cells res e) hS
          have hrun : (Instr.buildSlice t n vals).run P w = .ok (.slice (some ⟨w.heap.size, 0, none⟩) n n) (w.alloc (.cells res e)) := by
            simp only [Instr.buildSlice, Sem.run_bind, run_under hu, Result.andThen_ok, run_sizeOf' hi, hsz]
            rw [if_neg (by omega)]
            rw [if_neg hne]
            simp only [Sem.run_bind, hrz, Result.andThen_ok, Sem.run_pure, h1]
            rfl
          refine ⟨_, _, hrun, ?_, k1, k2⟩
          have hnl : rows.length = n := by rw [hrl, hn]
          simp only [Rep]
          have hcap : n ≤ maxLen := by
            have hz2' : 0 < sz := by rw [← hsz]; exact hz2
            have : n ≤ n * sz := Nat.le_mul_of_pos_right n hz2'
            unfold maxLen; omega
          refine ⟨_, n, by rw [hnl], by rw [hnl]; exact Nat.le_refl n, hcap, Or.inr ⟨w.heap.size, 0, rfl, not_im_new hS (Nat.le_refl _), by simp, ?_⟩⟩
          refine repRows_of_flat hrs (RepVals.keep k1.keeps _ h3) fun j v e => ?_
          rw [cell_of_block (alloc_block w _)]
          rw [← h2] at e
          simpa using e

/-! Conversions -/
def bytesOfRows : List (List PV) → Option (List UInt8)
  | [] => some []
  | [.int .u8 n] :: rs => if 0 ≤ n ∧ n < 256 then (bytesOfRows rs).map (UInt8.ofNat n.toNat :: ·) else none
  | _ => none
def bytesToStr (P : Program) (s d : TypeId) : Bool :=
  match P.underlying s, P.underlying d with
  | some (.slice e), some .string => match P.underlying e with
    | some (.int .u8) => true
    | _ => false
  | _, _ => false
def convPV (P : Program) (s d : TypeId) : PV → Option PV
  | .int k n => match P.underlying d with
    | some (.int k') => some (.int k' (k'.wrap n))
    | _ => none
  | .slice sz rows => if bytesToStr P s d = true ∧ sz = 1 then (bytesOfRows rows).map .str else none
  | .str l => match P.underlying d with
    | some .string => some (.str l)
    | _ => none
  | _ => none

theorem bytesOfRows_spec {w : World} {im : Nat → Prop} {b : Nat} : ∀ {rows : List (List PV)} {off : Nat} {l : List UInt8}, bytesOfRows rows = some l → RepRows w im b off 1 rows →
    ∃ xs : List Int, xs.length = rows.length ∧ (xs.map fun n => UInt8.ofNat n.toNat) = l ∧ ∀ i, i < rows.length → w.cell? ⟨b, off + i, none⟩ = some (.int .u8 (xs.getD i 0))
  | [], off, l, h, hr => by simp [bytesOfRows] at h; subst h; exact ⟨[], rfl, rfl, fun i hi => by simp at hi⟩
  | r :: rs, off, l, h, hr => by
    simp only [RepRows] at hr
    obtain ⟨hl, ha, hrr⟩ := hr
    match r, h, hl, ha with
    | [.int .u8 n], h, hl, ha =>
      simp only [bytesOfRows] at h
      split at h
      · cases hb : bytesOfRows rs with
        | none => rw [hb] at h; simp at h
        | some l' =>
          rw [hb] at h; simp at h; subst h
          obtain ⟨xs, h1, h2, h3⟩ := bytesOfRows_spec hb hrr
          refine ⟨n :: xs, by simp [h1], by simp [h2], fun i hi => ?_⟩
          cases i with
          | zero =>
            simp only [RepAt] at ha
            obtain ⟨⟨v, hv, hrv⟩, _⟩ := ha
            simp only [Rep] at hrv; subst hrv
            simpa using hv
          | succ i =>
            have := h3 i (by simpa using hi)
            rw [show off + (i + 1) = off + 1 + i by omega]
            simpa using this
      · simp at h
    | [.int .i8 n], h, _, _ => simp [bytesOfRows] at h
    | [.int .i16 n], h, _, _ => simp [bytesOfRows] at h
    | [.int .i32 n], h, _, _ => simp [bytesOfRows] at h
    | [.int .i64 n], h, _, _ => simp [bytesOfRows] at h
    | [.int .u16 n], h, _, _ => simp [bytesOfRows] at h
    | [.int .u32 n], h, _, _ => simp [bytesOfRows] at h
    | [.int .u64 n], h, _, _ => simp [bytesOfRows] at h
    | [.any], h, _, _ => simp [bytesOfRows] at h
    | [.bool _], h, _, _ => simp [bytesOfRows] at h
    | [.str _], h, _, _ => simp [bytesOfRows] at h
    | [.nilp], h, _, _ => simp [bytesOfRows] at h
    | [.ref _], h, _, _ => simp [bytesOfRows] at h
    | [.mp _ _], h, _, _ => simp [bytesOfRows] at h
    | [.sl0], h, _, _ => simp [bytesOfRows] at h
    | [.slice _ _], h, _, _ => simp [bytesOfRows] at h
    | [.vec _ _ _], h, _, _ => simp [bytesOfRows] at h
    | [.fn _ _ _], h, _, _ => simp [bytesOfRows] at h
    | [.nilfn], h, _, _ => simp [bytesOfRows] at h
    | [.iface _ _], h, _, _ => simp [bytesOfRows] at h
    | [.nilif], h, _, _ => simp [bytesOfRows] at h
    | [.agg _], h, _, _ => simp [bytesOfRows] at h
    | [.tup _], h, _, _ => simp [bytesOfRows] at h
    | [.omap _], h, _, _ => simp [bytesOfRows] at h
    | [], h, hl, _ => simp at hl
    | _ :: _ :: _, h, hl, _ => simp at hl

theorem run_convert' {P : Program} {w : World} {im : Nat → Prop} {s d : TypeId} {p r : PV} {v : Value} {dd : TypeDesc} (hs : P.underlying s = some dd) (h : convPV P s d p = some r) (hp : Rep w im p v) : ∃ u, (convert s d v).run P w = .ok u w ∧ Rep w im r u := by
  cases p <;> simp only [convPV, reduceCtorEq] at h
  case int k n =>
    split at h
    · rename_i k' hd
      simp at h; subst h
      simp only [Rep] at hp; subst hp
      refine ⟨.int k' (k'.wrap n), ?_, by simp [Rep]⟩
      simp only [convert, Sem.run_bind, run_under hs, run_under hd, Result.andThen_ok]
      cases dd <;> simp [Conv.intToInt]
    · simp at h
  case str l =>
    split at h
    · rename_i hd
      simp at h; subst h
      simp only [Rep] at hp; subst hp
      refine ⟨_, ?_, by simp [Rep]; rfl⟩
      simp only [convert, Sem.run_bind, run_under hs, run_under hd, Result.andThen_ok]
      cases dd <;> simp
    · simp at h
  case slice sz rows =>
    split at h
    case isFalse => simp at h
    rename_i hc
    obtain ⟨hb, rfl⟩ := hc
    unfold bytesToStr at hb
    split at hb
    case h_2 => simp at hb
    rename_i e hs' hd'
    split at hb
    case h_2 => simp at hb
    rename_i he
    cases hl : bytesOfRows rows with
    | none => rw [hl] at h; simp at h
    | some l =>
      rw [hl] at h; simp at h; subst h
      simp only [Rep] at hp
      obtain ⟨a, c, rfl, _, _, hrr⟩ := hp
      rcases hrr with hrr | ⟨b, off, rfl, _, _, hrr⟩
      · subst hrr
        simp [bytesOfRows] at hl; subst hl
        refine ⟨.string ⟨([] : List UInt8).toArray⟩, ?_, by simp [Rep]⟩
        rw [run_convert_bytes_string w s d e a _ c hs' he hd']
        cases a with
        | none => simp [Conv.bytesToString]; rfl
        | some a => simp [Conv.bytesToString, loadCells, loadCellsFrom]; rfl
      · obtain ⟨xs, h1, h2, h3⟩ := bytesOfRows_spec hl hrr
        refine ⟨_, run_convert_bytes_arg w s e hs' he b off rows.length c xs h1 h3 d hd', ?_⟩
        simp only [Rep]
        rw [← h2]; rfl

end Go.Proofs.Ytcbonfgkfiapaaa.Pv

/-! One function that tells what an operation without effect gives, shown to be what the machine does. -/
set_option linter.unusedVariables false
set_option linter.unusedSimpArgs false
namespace Go.Proofs.Ytcbonfgkfiapaaa.Pv
open Go Go.RowKit

def partsPV (σ : Nat → PV) (ps : Array (Nat × Operand)) : List (Nat × PV) := ps.toList.map fun x => (x.1, ev σ x.2)

def evalNilCheck : PV → Option PV
  | .ref cs => some (.ref cs)
  | .mp b o => some (.mp b o)
  | .iface t v => some (.iface t v)
  | .fn (.func f) a b => some (.fn (.func f) a b)
  | _ => none
def evalUn : UnOp → PV → Option PV
  | .not, .bool b => some (.bool (!b))
  | .neg, .int k n => some (.int k (k.wrap (0 - n)))
  | _, _ => none
def evalMax : PV → PV → Option PV
  | .int k a, .int _ b => some (.int k (if b > a then b else a))
  | _, _ => none
def evalMin : PV → PV → Option PV
  | .int k a, .int _ b => some (.int k (if b < a then b else a))
  | _, _ => none
def evalPick : PV → PV → PV → Option PV
  | .bool t, a, b => some (if t then a else b)
  | _, _, _ => none
def evalLoad (P : Program) (t : TypeId) : PV → Option PV
  | .ref cs => loadPV P t cs
  | _ => none
def evalExtract (i : Nat) : PV → Option PV
  | .tup vs => vs[i]?
  | _ => none
def evalSlice (P : Program) (t : TypeId) (σ : Nat → PV) (lo hi : Option Operand) (p : PV) : Option PV :=
  match lenPV P t p with
  | some (.int _ d) => slicePV P t (bound σ 0 lo) (bound σ d.toNat hi) p
  | _ => none
def evalBuiltin (P : Program) (b : Builtin) (ts : Array TypeId) : List PV → Option PV
  | [p] => match b, ts[0]? with
    | .len, some t => lenPV P t p
    | _, _ => none
  | [p, q] => match b with
    | .max => evalMax p q
    | .min => evalMin p q
    | _ => none
  | _ => none

def evalOp (P : Program) (σ : Nat → PV) : Op → Option PV
  | .move x => some (ev σ x)
  | .assign x => some (ev σ x)
  | .pick c a b => evalPick (ev σ c) (ev σ a) (ev σ b)
  | .box _ x => (cellsOf (ev σ x)).map .ref
  | .build t ps => if structOk P t then buildPV P t (partsPV σ ps) else none
  | .buildSlice t n ps => buildSlicePV P t n (partsPV σ ps)
  | .load t x => evalLoad P t (ev σ x)
  | .nilCheck x => evalNilCheck (ev σ x)
  | .binOp op t x y _ => evalBin P op t (ev σ x) (ev σ y)
  | .unOp op _ x => evalUn op (ev σ x)
  | .convert s d x => if (P.underlying s).isSome then convPV P s d (ev σ x) else none
  | .makeInterface t x => if P.concrete t then some (.iface t (ev σ x)) else none
  | .makeFunc f a b => some (.fn f (a.toList.map (ev σ)) (b.toList.map (ev σ)))
  | .slice t x lo hi none => evalSlice P t σ lo hi (ev σ x)
  | .fieldAddr s x f => fieldAddrPV P s f (ev σ x)
  | .field t x f => fieldPV P t f (ev σ x)
  | .indexAddr t x i => indexAddrPV P t (ev σ x) (ev σ i)
  | .index t x i => indexPV P t (ev σ x) (ev σ i)
  | .extract x i => evalExtract i (ev σ x)
  | .call { callee := .builtin b, args := as, argTypes := ts } => evalBuiltin P b ts (as.toList.map (ev σ))
  | _ => none

def GivesN (P : Program) (s : Sem Next) (w : World) (S : Heap) (p : PV) : Prop :=
  ∃ v w', s.run P w = .ok (.value v) w' ∧ Rep w' S.im p v ∧ Ext w S w' S ∧ ∀ b o, S b = some o → Holds w' S.im b o

theorem givesN_of {P : Program} {s : Sem Value} {w : World} {S : Heap} {p : PV} (h : Gives P s w S p) : GivesN P (do pure (.value (← s))) w S p := by
  obtain ⟨v, w', h1, h2⟩ := h
  exact ⟨v, w', by simp [h1], h2⟩

theorem rep_map {n : Nat} {w : World} {S : Heap} {a : Act} {σ : Nat → PV} (h : St n w S a σ) (xs : Array Operand) : RepVals w S.im (xs.toList.map (ev σ)) (xs.map a.eval).toList := by
  have : ∀ l : List Operand, RepVals w S.im (l.map (ev σ)) (l.map a.eval) := fun l => by
    induction l with
    | nil => simp [repVals_nil]
    | cons x l ih => simp only [List.map_cons]; rw [repVals_cons]; exact ⟨rep_ev h x, ih⟩
  simpa using this xs.toList

theorem parts_rep {n : Nat} {w : World} {S : Heap} {a : Act} {σ : Nat → PV} (h : St n w S a σ) (ps : Array (Nat × Operand)) :
    (partsPV σ ps).length = (ps.map fun (x : Nat × Operand) => (x.1, a.eval x.2)).toList.length ∧ ∀ (i f : Nat) (p : PV), (partsPV σ ps)[i]? = some (f, p) → ∃ v, (ps.map fun (x : Nat × Operand) => (x.1, a.eval x.2)).toList[i]? = some (f, v) ∧ Rep w S.im p v := by
  constructor
  · simp [partsPV]
  · intro i f p e
    simp only [partsPV, List.getElem?_map, Option.map_eq_some_iff] at e
    obtain ⟨x, hx, e⟩ := e
    simp at e
    obtain ⟨rfl, rfl⟩ := e
    exact ⟨a.eval x.2, by simp at hx; simp [hx], rep_ev h x.2⟩

theorem evalOp_sound {P : Program} {n : Nat} {w : World} {S : Heap} {a : Act} {σ : Nat → PV} (h : St n w S a σ) {o : Oper} {p : PV} (he : evalOp P σ o.op = some p) : GivesN P (execOp a.eval o) w S p := by
  obtain ⟨dst, op, type, pos, after, guard⟩ := o
  have hS := h.heap
  have same : ∀ {s : Sem Value} {v : Value}, s.run P w = .ok v w → Rep w S.im p v → GivesN P (do pure (.value (← s))) w S p := fun h1 h2 => givesN_of (gives_same hS h1 h2)
  cases op <;> simp only [evalOp, Option.some.injEq, reduceCtorEq] at he
  case move x => subst he; exact ⟨a.eval x, w, by simp [execOp], rep_ev h x, Ext.refl w S, hS⟩
  case assign x => subst he; exact ⟨a.eval x, w, by simp [execOp], rep_ev h x, Ext.refl w S, hS⟩
  case pick c x y =>
    have hr := rep_ev h c
    generalize ev σ c = q at he hr
    cases q <;> simp only [evalPick, reduceCtorEq] at he
    rename_i t
    simp only [Rep] at hr
    simp at he
    subst he
    refine ⟨if t then a.eval x else a.eval y, w, by simp [execOp, hr, asBool], ?_, Ext.refl w S, hS⟩
    cases t
    · exact rep_ev h y
    · exact rep_ev h x
  case box t x =>
    cases hc : cellsOf (ev σ x) with
    | none => rw [hc] at he; simp at he
    | some cs =>
      rw [hc] at he; simp at he; subst he
      have hv := rep_cells (rep_ev h x) hc
      obtain ⟨k1, k2⟩ := alloc_ext (w := w) (S := S) (.cells (a.eval x).cells t) hS
      refine ⟨.pointer (some ⟨w.heap.size, 0, none⟩), w.alloc (.cells (a.eval x).cells t), ?_, ?_, k1, k2⟩
      · simp [execOp, Instr.box, newVar, newRow]
      · simp only [Rep]
        exact ⟨w.heap.size, 0, rfl, not_im_new hS (Nat.le_refl _), by simp, repAt_block (alloc_block w _) (RepVals.keep k1.keeps _ hv)⟩
  case build t ps =>
    split at he
    case isFalse => simp at he
    rename_i hok
    obtain ⟨h1, h2⟩ := parts_rep h ps
    obtain ⟨u, hu, hr⟩ := run_build (P := P) (w := w) (im := S.im) hok h1 h2 he
    exact same (s := Instr.build t (ps.map fun (x : Nat × Operand) => (x.1, a.eval x.2))) hu hr
  case buildSlice t k ps =>
    obtain ⟨h1, h2⟩ := parts_rep h ps
    exact givesN_of (run_buildSlice (P := P) (w := w) (S := S) hS h1 h2 he)
  case load t x =>
    have hr := rep_ev h x
    generalize ev σ x = q at he hr
    cases q <;> simp only [evalLoad, reduceCtorEq] at he
    simp only [Rep] at hr
    obtain ⟨b, off, e, _, _, hat⟩ := hr
    obtain ⟨v, h1, h2⟩ := run_loadVar (P := P) hat he
    exact same (s := Instr.loadAt t (a.eval x)) (by simp [Instr.loadAt, e, Instr.sureAddr, h1]) h2
  case nilCheck x =>
    have hr := rep_ev h x
    generalize ev σ x = q at he hr
    cases q <;> simp only [evalNilCheck, Option.some.injEq, reduceCtorEq] at he
    case ref cs =>
      subst he
      have hr' := hr
      simp only [Rep] at hr
      obtain ⟨b, off, e, _⟩ := hr
      exact ⟨a.eval x, w, by simp [execOp, e], hr', Ext.refl w S, hS⟩
    case mp b o =>
      subst he
      have hr' := hr
      simp only [Rep] at hr
      exact ⟨a.eval x, w, by simp [execOp, hr], hr', Ext.refl w S, hS⟩
    case iface t v =>
      subst he
      have hr' := hr
      simp only [Rep] at hr
      obtain ⟨u, e, _⟩ := hr
      exact ⟨a.eval x, w, by simp [execOp, e], hr', Ext.refl w S, hS⟩
    case fn f fs cs =>
      cases f <;> simp only [evalNilCheck, Option.some.injEq, reduceCtorEq] at he
      subst he
      have hr' := hr
      simp only [Rep] at hr
      obtain ⟨fa, ca, e, _⟩ := hr
      exact ⟨a.eval x, w, by simp [execOp, e], hr', Ext.refl w S, hS⟩
  case binOp op t x y yt =>
    obtain ⟨v, h1, h2⟩ := run_bin (P := P) (w := w) (im := S.im) (x := x) (y := y) he (rep_ev h x) (rep_ev h y)
    exact same (s := do eqGuard op t x y (a.eval x) (a.eval y); binOp op t (a.eval x) (a.eval y)) h1 h2
  case unOp op t x =>
    have hr := rep_ev h x
    generalize ev σ x = q at he hr
    cases op <;> cases q <;> simp only [evalUn, Option.some.injEq, reduceCtorEq] at he
    · subst he; simp only [Rep] at hr
      exact same (s := Op.unary .neg (a.eval x)) (by simp [hr, Op.unary, Op.intArith]; rfl) (by simp [Rep])
    · subst he; simp only [Rep] at hr
      exact same (s := Op.unary .not (a.eval x)) (by simp [hr, Op.unary]; rfl) (by simp [Rep])
  case convert s d x =>
    split at he
    case isFalse => simp at he
    rename_i hs
    obtain ⟨dd, hdd⟩ := Option.isSome_iff_exists.1 hs
    obtain ⟨v, h1, h2⟩ := run_convert' (P := P) (w := w) (im := S.im) hdd he (rep_ev h x)
    exact same (s := convert s d (a.eval x)) h1 h2
  case makeInterface t x =>
    split at he
    case isFalse => simp at he
    rename_i hc
    simp at he; subst he
    exact same (s := Instr.makeInterface t (a.eval x)) (run_makeInterface w t _ hc) (by simp only [Rep]; exact ⟨_, rfl, rep_ev h x⟩)
  case makeFunc f fs cs =>
    subst he
    exact same (s := Instr.makeFunc f (fs.map a.eval) (cs.map a.eval)) (by simp [Instr.makeFunc]; rfl) (by simp only [Rep]; exact ⟨_, _, rfl, rep_map h fs, rep_map h cs⟩)
  case slice t x lo hi mx =>
    cases mx with
    | some m => simp [evalOp] at he
    | none =>
      simp only [evalOp, evalSlice] at he
      split at he
      case h_2 => simp at he
      rename_i k d hd
      have hlen : ∃ dn : Nat, d = (dn : Int) ∧ k = .i64 := by
        generalize ev σ x = q at hd
        cases q <;> simp only [lenPV, reduceCtorEq] at hd
        all_goals (split at hd <;> simp at hd)
        all_goals (obtain ⟨rfl, rfl⟩ := hd; first | exact ⟨_, rfl, rfl⟩ | exact ⟨0, rfl, rfl⟩)
      obtain ⟨dn, rfl, rfl⟩ := hlen
      simp only [Int.toNat_natCast] at he
      cases hb1 : bound σ 0 lo with
      | none => rw [hb1] at he; generalize ev σ x = q at he; cases q <;> simp [slicePV] at he
      | some l =>
        cases hb2 : bound σ dn hi with
        | none => rw [hb1, hb2] at he; generalize ev σ x = q at he; cases q <;> simp [slicePV] at he
        | some r =>
          rw [hb1, hb2] at he
          have g1 : (lo.map a.eval = none ∧ l = 0) ∨ ∃ k, lo.map a.eval = some (.int k (l : Int)) := by
            rcases bound_spec h hb1 with ⟨e, e'⟩ | ⟨o, k, e, e'⟩
            · exact Or.inl ⟨by simp [e], e'⟩
            · exact Or.inr ⟨k, by simp [e, e']⟩
          have g2 : (hi.map a.eval = none ∧ r = dn) ∨ ∃ k, hi.map a.eval = some (.int k (r : Int)) := by
            rcases bound_spec h hb2 with ⟨e, e'⟩ | ⟨o, k, e, e'⟩
            · exact Or.inl ⟨by simp [e], e'⟩
            · exact Or.inr ⟨k, by simp [e, e']⟩
          obtain ⟨u, h1, h2⟩ := run_sliceAt (P := P) (w := w) (im := S.im) (rep_ev h x) he g1 g2 hd
          exact same (s := Instr.sliceAt t (a.eval x) (lo.map a.eval) (hi.map a.eval) none) h1 h2
  case fieldAddr s x f =>
    obtain ⟨u, h1, h2⟩ := run_fieldAt (P := P) (w := w) (im := S.im) he (rep_ev h x)
    exact same (s := Instr.fieldAt s (a.eval x) f) h1 h2
  case field s x f =>
    obtain ⟨u, h1, h2⟩ := run_field (P := P) (w := w) (im := S.im) he (rep_ev h x)
    exact same (s := Instr.field s (a.eval x) f) h1 h2
  case indexAddr t x i =>
    obtain ⟨u, h1, h2⟩ := run_indexAt (P := P) (w := w) (im := S.im) he (rep_ev h x) (rep_ev h i)
    exact same (s := Instr.indexAt t (a.eval x) (a.eval i)) h1 h2
  case index t x i =>
    obtain ⟨u, h1, h2⟩ := run_index' (P := P) (w := w) (im := S.im) he (rep_ev h x) (rep_ev h i)
    exact same (s := Instr.index t (a.eval x) (a.eval i)) h1 h2
  case extract x i =>
    have hr := rep_ev h x
    generalize ev σ x = q at he hr
    cases q <;> simp only [evalExtract, reduceCtorEq] at he
    simp only [Rep] at hr
    obtain ⟨arr, e, hv⟩ := hr
    obtain ⟨v, h1, h2⟩ := repVals_get hv he
    exact same (s := Instr.extract (a.eval x) i) (by simp at h1; simp [Instr.extract, e, h1]) h2
  case call c =>
    obtain ⟨callee, args, ts⟩ := c
    cases callee <;> simp only [evalOp, reduceCtorEq] at he
    rename_i b
    have hargs := rep_map h args
    generalize hq : args.toList.map (ev σ) = qs at he hargs
    match qs, he with
    | [], he => simp [evalBuiltin] at he
    | [q], he =>
      obtain ⟨v, hv⟩ : ∃ v, (args.map a.eval) = #[v] := by
        have := repVals_length hargs
        have hl : (args.map a.eval).size = 1 := by simpa using this
        exact ⟨(args.map a.eval)[0], by ext i hi1 hi2; simpa using hl; (have : i = 0 := by simp at hi2; exact hi2); subst this; simp⟩
      have hr : Rep w S.im q v := by
        rw [hv] at hargs
        exact (repVals_cons.1 hargs).1
      simp only [evalBuiltin] at he
      cases b <;> first | (simp only [reduceCtorEq] at he; done) | skip
      cases ht : ts[0]? with
      | none => rw [ht] at he; simp at he
      | some t =>
        rw [ht] at he
        obtain ⟨u, h1, h2⟩ := run_len (P := P) (w := w) (im := S.im) (ts := ts) (t := t) (ty := type) ht he hr
        refine ⟨u, w, ?_, h2, Ext.refl w S, hS⟩
        simp [execOp, resolve, invoke, builtin, hv, h1]
    | [q, q'], he =>
      obtain ⟨v, v', hv⟩ : ∃ v v', (args.map a.eval) = #[v, v'] := by
        have := repVals_length hargs
        have hl : (args.map a.eval).size = 2 := by simpa using this
        refine ⟨(args.map a.eval)[0], (args.map a.eval)[1], ?_⟩
        ext i hi1 hi2
        · simpa using hl
        · have : i = 0 ∨ i = 1 := by simp at hi2; omega
          rcases this with rfl | rfl <;> simp
      have hr : Rep w S.im q v ∧ Rep w S.im q' v' := by
        rw [hv] at hargs
        have := repVals_cons.1 hargs
        exact ⟨this.1, (repVals_cons.1 this.2).1⟩
      simp only [evalBuiltin] at he
      cases b <;> first | (simp only [reduceCtorEq] at he; done) | skip
      · cases q <;> cases q' <;> simp only [evalMax, Option.some.injEq, reduceCtorEq] at he
        subst he
        simp only [Rep] at hr
        obtain ⟨e1, e2⟩ := hr
        subst e1; subst e2
        refine ⟨_, w, ?_, by simp only [Rep]; rfl, Ext.refl w S, hS⟩
        simp [execOp, resolve, invoke, builtin, hv, run_max_int2]
      · cases q <;> cases q' <;> simp only [evalMin, Option.some.injEq, reduceCtorEq] at he
        subst he
        simp only [Rep] at hr
        obtain ⟨e1, e2⟩ := hr
        subst e1; subst e2
        refine ⟨_, w, ?_, by simp only [Rep]; rfl, Ext.refl w S, hS⟩
        simp [execOp, resolve, invoke, builtin, hv, run_min_int2]
    | _ :: _ :: _ :: _, he => simp [evalBuiltin] at he

end Go.Proofs.Ytcbonfgkfiapaaa.Pv

/-! Rules for code over abstract states: sequences, tests, loops, calls; what is proved by them holds of the machine. -/
set_option linter.unusedVariables false
set_option linter.unusedSimpArgs false
namespace Go.Proofs.Ytcbonfgkfiapaaa.Pv
open Go Go.RowKit

abbrev Regs := Nat → PV
abbrev Post := Exit → Regs → Heap → Prop

def lift (n : Nat) (w0 : World) (S0 : Heap) (Q : Post) : Exit → Act → World → Prop :=
  fun e a w => ∃ σ S, St n w S a σ ∧ Ext w0 S0 w S ∧ Q e σ S

/-- Running c out of any state that σ and S tell ends as Q says. -/
def AW (P : Program) (n : Nat) (c : Code) (σ : Regs) (S : Heap) (Q : Post) : Prop :=
  ∀ w0 S0 w a, St n w S a σ → Ext w0 S0 w S → Code.wp P c (lift n w0 S0 Q) a w

def thenA (next : Regs → Heap → Prop) (Q : Post) : Post
  | .normal, σ, S => next σ S
  | e, σ, S => Q e σ S
def inBlk (id : Nat) (Q : Post) : Post
  | .exit id', σ, S => if id' = id then Q .normal σ S else Q (.exit id') σ S
  | e, σ, S => Q e σ S

section
variable {P : Program} {n : Nat} {σ : Regs} {S : Heap} {Q : Post}

theorem AW.mono {c : Code} {Q' : Post} (h : AW P n c σ S Q) (hq : ∀ e σ S, Q e σ S → Q' e σ S) : AW P n c σ S Q' :=
  fun w0 S0 w a hs he => wp_mono (h w0 S0 w a hs he) fun e a' w' ⟨σ', S', h1, h2, h3⟩ => ⟨σ', S', h1, h2, hq _ _ _ h3⟩
theorem AW_skip (h : Q .normal σ S) : AW P n .skip σ S Q := fun w0 S0 w a hs he => wp_skip ⟨σ, S, hs, he, h⟩
theorem AW_exit {id : Nat} (h : Q (.exit id) σ S) : AW P n (.exit id) σ S Q := fun w0 S0 w a hs he => wp_exit ⟨σ, S, hs, he, h⟩
theorem AW_ret (h : Q .ret σ S) : AW P n .ret σ S Q := fun w0 S0 w a hs he => wp_ret ⟨σ, S, hs, he, h⟩
theorem AW_seq {x y : Code} (h : AW P n x σ S (thenA (fun σ' S' => AW P n y σ' S' Q) Q)) : AW P n (.seq x y) σ S Q := by
  intro w0 S0 w a hs he
  refine wp_seq (wp_mono (h w0 S0 w a hs he) ?_)
  rintro e a' w' ⟨σ', S', h1, h2, h3⟩
  cases e with
  | normal => exact h3 w0 S0 w' a' h1 h2
  | exit id => exact ⟨σ', S', h1, h2, h3⟩
  | goto l => exact ⟨σ', S', h1, h2, h3⟩
  | ret => exact ⟨σ', S', h1, h2, h3⟩
  | panic ch => exact ⟨σ', S', h1, h2, h3⟩
  | outgrown => exact ⟨σ', S', h1, h2, h3⟩
theorem AW_cond {c : Operand} {x y : Code} {t : Bool} (hc : ev σ c = .bool t) (ht : t = true → AW P n x σ S Q) (hf : t = false → AW P n y σ S Q) : AW P n (.cond c x y) σ S Q := by
  intro w0 S0 w a hs he
  have hr := rep_ev hs c
  rw [hc] at hr
  simp only [Rep] at hr
  refine wp_cond_split hr (fun e => ht e w0 S0 w a hs he) (fun e => hf e w0 S0 w a hs he)
theorem AW_true {c : Operand} {x y : Code} (hc : ev σ c = .bool true) (h : AW P n x σ S Q) : AW P n (.cond c x y) σ S Q := AW_cond hc (fun _ => h) (fun e => by cases e)
theorem AW_false {c : Operand} {x y : Code} (hc : ev σ c = .bool false) (h : AW P n y σ S Q) : AW P n (.cond c x y) σ S Q := AW_cond hc (fun e => by cases e) (fun _ => h)
theorem AW_block {id : Nat} {c : Code} (h : AW P n c σ S (inBlk id Q)) : AW P n (.block id c) σ S Q := by
  intro w0 S0 w a hs he
  refine wp_block (wp_mono (h w0 S0 w a hs he) ?_)
  rintro e a' w' ⟨σ', S', h1, h2, h3⟩
  cases e with
  | normal => exact ⟨σ', S', h1, h2, h3⟩
  | exit id' =>
    simp only [inBlk] at h3
    simp only [Exit.inBlock]
    by_cases hid : id' = id
    · rw [if_pos hid] at h3 ⊢; exact ⟨σ', S', h1, h2, h3⟩
    · rw [if_neg hid] at h3 ⊢; exact ⟨σ', S', h1, h2, h3⟩
  | goto l => exact ⟨σ', S', h1, h2, h3⟩
  | ret => exact ⟨σ', S', h1, h2, h3⟩
  | panic ch => exact ⟨σ', S', h1, h2, h3⟩
  | outgrown => exact ⟨σ', S', h1, h2, h3⟩
/-- A loop: I m tells the state at a round's head with m rounds, at most, to go. -/
theorem AW_loop {c : Code} (I : Nat → Regs → Heap → Prop) (m : Nat) (h0 : I m σ S) (round : ∀ m σ S, I m σ S → AW P n c σ S (thenA (fun σ' S' => ∃ m', m' < m ∧ I m' σ' S') Q)) : AW P n (.loop c) σ S Q := by
  intro w0 S0 w a hs he b k cs
  have key : ∀ m σ S a w, I m σ S → St n w S a σ → Ext w0 S0 w S → ∃ e a' w', lift n w0 S0 Q e a' w' ∧ Arrives P (lone (b.at a (.code c :: .inLoop c :: k)) cs w) b k cs e a' w' := by
    intro m
    induction m using Nat.strongRecOn with
    | _ m ih =>
      intro σ S a w hI hs he
      obtain ⟨e, a1, w1, ⟨σ1, S1, h1, h2, h3⟩, harr⟩ := round m σ S hI w0 S0 w a hs he b (.inLoop c :: k) cs
      cases e with
      | normal =>
        obtain ⟨m', hlt, hI'⟩ := h3
        obtain ⟨e2, a2, w2, hq2, harr2⟩ := ih m' hlt σ1 S1 a1 w1 hI' h1 h2
        exact ⟨e2, a2, w2, hq2, .of_steps (Steps.trans harr (.one step_inLoop)) harr2⟩
      | exit id => exact ⟨_, a1, w1, ⟨σ1, S1, h1, h2, h3⟩, .pass (x := .inLoop c) rfl (fun _ _ => .inl (by simp)) harr⟩
      | goto l => exact ⟨_, a1, w1, ⟨σ1, S1, h1, h2, h3⟩, .pass (x := .inLoop c) rfl (fun _ _ => .inl (by simp)) harr⟩
      | ret => exact ⟨_, a1, w1, ⟨σ1, S1, h1, h2, h3⟩, .pass (x := .inLoop c) rfl (fun _ _ => .inl (by simp)) harr⟩
      | panic ch => exact ⟨_, a1, w1, ⟨σ1, S1, h1, h2, h3⟩, .pass (x := .inLoop c) rfl (fun _ _ => .inl (by simp)) harr⟩
      | outgrown => exact ⟨_, a1, w1, ⟨σ1, S1, h1, h2, h3⟩, .pass (x := .inLoop c) rfl (fun _ _ => .inl (by simp)) harr⟩
  obtain ⟨e, a', w', hq, harr⟩ := key m σ S a w h0 hs he
  exact ⟨e, a', w', hq, .of_steps (.one step_loop) harr⟩

/-- The state may be told otherwise, if what it was told as says so. -/
def Weak (n : Nat) (σ : Regs) (S : Heap) (σ' : Regs) (S' : Heap) : Prop := ∀ w a, St n w S a σ → St n w S' a σ' ∧ Ext w S w S'
theorem AW_weak {c : Code} {σ' : Regs} {S' : Heap} (hw : Weak n σ S σ' S') (h : AW P n c σ' S' Q) : AW P n c σ S Q :=
  fun w0 S0 w a hs he => h w0 S0 w a (hw w a hs).1 (he.trans (hw w a hs).2)

/-! Regions -/
def AO (P : Program) (n : Nat) (ops : Array Oper) (l : List Nat) (σ : Regs) (S : Heap) (Q : Post) : Prop :=
  ∀ w0 S0 w a, St n w S a σ → Ext w0 S0 w S → wpOps P ops (lift n w0 S0 Q) l a w
def OpA (P : Program) (n : Nat) (o : Oper) (σ : Regs) (S : Heap) (K : Regs → Heap → Prop) : Prop :=
  ∀ w0 S0 w a, St n w S a σ → Ext w0 S0 w S → ∀ (next : Act → World → Prop) (Qx : Exit → Act → World → Prop),
    (∀ a' w' σ' S', St n w' S' a' σ' → Ext w0 S0 w' S' → K σ' S' → next a' w') → o.wp P a w next Qx

theorem AW_region {id : Nat} {ops : Array Oper} (h : AO P n ops (List.range ops.size) σ S Q) : AW P n (.region id ops false) σ S Q :=
  fun w0 S0 w a hs he => wp_region (h w0 S0 w a hs he)
theorem AO_nil {ops : Array Oper} (h : Q .normal σ S) : AO P n ops [] σ S Q := fun w0 S0 w a hs he => ⟨σ, S, hs, he, h⟩
theorem AO_op {ops : Array Oper} {i : Nat} {rest : List Nat} {o : Oper} (ho : ops[i]? = some o) (hg : o.guard = none) (h : OpA P n o σ S (fun σ' S' => AO P n ops rest σ' S' Q)) : AO P n ops (i :: rest) σ S Q := by
  intro w0 S0 w a hs he
  simp only [wpOps, ho]
  rw [if_pos (by simp [Region.wanted, hg])]
  exact Or.inl (h w0 S0 w a hs he _ _ fun a' w' σ' S' h1 h2 h3 => h3 w0 S0 w' a' h1 h2)
theorem rep_undef (w : World) (im : Nat → Prop) : Rep w im (.tup []) undef := by
  simp only [Rep]
  exact ⟨#[], rfl, by simp [RepVals]⟩
/-- What a guard says. -/
def gsaid (want : Bool) : PV → Option Bool
  | .bool b => some b
  | .tup [] => some (!want)
  | _ => none
theorem wanted_of {w : World} {a : Act} {ops : Array Oper} {o og : Oper} {g d : Nat} {want b : Bool} (hs : St n w S a σ) (hg : o.guard = some (g, want)) (hog : ops[g]? = some og) (hd : og.dst = some d) (hn : d < n) (hb : gsaid want (σ d) = some b) : Region.wanted o (yielded ops a.tmps) = (b == want) := by
  have hlt : d < a.tmps.size := by rw [hs.size]; exact hn
  have hr := hs.regs d
  rw [show a.tmps.getD d undef = a.tmps[d] by simp [Array.getD_eq_getD_getElem?, Array.getElem?_eq_getElem hlt]] at hr
  unfold Region.wanted yielded
  simp only [hg, hog, Option.bind_some, hd, Array.getElem?_eq_getElem hlt]
  unfold gsaid at hb
  split at hb
  · rename_i b' e
    simp at hb; subst hb
    rw [e] at hr; simp only [Rep] at hr
    rw [hr]; cases b' <;> cases want <;> rfl
  · rename_i e
    simp at hb; subst hb
    rw [e] at hr; simp only [Rep] at hr
    obtain ⟨arr, h1, h2⟩ := hr
    rw [h1]; cases b <;> rfl
  · simp at hb
theorem AO_guard {ops : Array Oper} {i : Nat} {rest : List Nat} {o og : Oper} {g d : Nat} {want b : Bool} (ho : ops[i]? = some o) (hg : o.guard = some (g, want)) (hog : ops[g]? = some og) (hd : og.dst = some d) (hn : d < n) (hb : gsaid want (σ d) = some b) (hdst : ∀ x, o.dst = some x → x < n)
    (hyes : b = want → OpA P n o σ S (fun σ' S' => AO P n ops rest σ' S' Q)) (hno : b ≠ want → AO P n ops rest (updO σ o.dst (.tup [])) S Q) : AO P n ops (i :: rest) σ S Q := by
  intro w0 S0 w a hs he
  simp only [wpOps, ho]
  have hy := wanted_of hs hg hog hd hn hb
  by_cases e : b = want
  · rw [if_pos (by rw [hy]; simp [e])]
    exact Or.inl (hyes e w0 S0 w a hs he _ _ fun a' w' σ' S' h1 h2 h3 => h3 w0 S0 w' a' h1 h2)
  · rw [if_neg (by rw [hy]; simp [e])]
    exact hno e w0 S0 w _ (hs.put hdst (rep_undef _ _)) he

/-! Operations -/
theorem OpA_pure {o : Oper} {K : Regs → Heap → Prop} {p : PV} (he : evalOp P σ o.op = some p) (hd : ∀ x, o.dst = some x → x < n) (hK : K (updO σ o.dst p) S) : OpA P n o σ S K := by
  intro w0 S0 w a hs hx next Qx hnext
  obtain ⟨v, w', h1, h2, h3, h4⟩ := evalOp_sound hs he
  simp only [Oper.wp, h1, Oper.upon]
  exact hnext _ w' _ S ((hs.ext h3 h4).put hd h2) (hx.trans h3) hK
theorem OpA.mono {o : Oper} {K K' : Regs → Heap → Prop} (h : OpA P n o σ S K) (hk : ∀ σ S, K σ S → K' σ S) : OpA P n o σ S K' :=
  fun w0 S0 w a hs he next Qx hn => h w0 S0 w a hs he next Qx fun a' w' σ' S' h1 h2 h3 => hn a' w' σ' S' h1 h2 (hk _ _ h3)

end

/-! Calls -/
/-- Called with arguments that ps tells, in a state that S tells, f returns what Po tells, and touches nothing that is not told by S. -/
def CallsA (P : Program) (f : FuncId) (ps : List PV) (S : Heap) (Po : PV → Heap → Prop) : Prop :=
  ∀ w (args : Array Value), RepVals w S.im ps args.toList → (∀ b o, S b = some o → Holds w S.im b o) →
    Calls P f args w fun e w' => ∃ v p S', e = .returned v ∧ Rep w' S'.im p v ∧ (∀ b o, S' b = some o → Holds w' S'.im b o) ∧ Ext w S w' S' ∧ Po p S'

theorem CallsA.mono {P : Program} {f : FuncId} {ps : List PV} {S : Heap} {Po Po' : PV → Heap → Prop} (h : CallsA P f ps S Po) (hp : ∀ p S, Po p S → Po' p S) : CallsA P f ps S Po' :=
  fun w args h1 h2 => (h w args h1 h2).mono fun e w' ⟨v, p, S', a, b, c, d, x⟩ => ⟨v, p, S', a, b, c, d, hp _ _ x⟩

def callable (P : Program) (g : FuncId) : Bool :=
  match P.funcs[g]? with
  | some fn => fn.name != "runtime.NumGoroutine" && fn.body.isSome
  | none => false
theorem run_callFunc {P : Program} {g : FuncId} (h : callable P g = true) (args : Array Value) (w : World) : (callFunc g args).run P w = .ok (.enter g args) w := by
  unfold callable at h
  cases hf : P.funcs[g]? with
  | none => rw [hf] at h; simp at h
  | some fn =>
    rw [hf] at h
    simp at h
    obtain ⟨h1, h2⟩ := h
    have h2' : fn.body.isNone = false := by cases hb : fn.body <;> simp_all
    simp only [callFunc, Sem.run_bind, run_program, Result.andThen_ok, hf]
    rw [if_neg (by simpa using h1), if_neg (by simp [h2'])]
    rfl

section
variable {P : Program} {n : Nat} {σ : Regs} {S : Heap} {Q : Post}
theorem OpA_enter {o : Oper} {K : Regs → Heap → Prop} {g : FuncId} {ps : List PV} (hd : ∀ x, o.dst = some x → x < n)
    (hrun : ∀ w a, St n w S a σ → ∃ vs : Array Value, (execOp a.eval o).run P w = .ok (.enter g vs) w ∧ RepVals w S.im ps vs.toList)
    (hc : CallsA P g ps S (fun p S' => K (updO σ o.dst p) S')) : OpA P n o σ S K := by
  intro w0 S0 w a hs hx next Qx hnext
  obtain ⟨vs, h1, h2⟩ := hrun w a hs
  simp only [Oper.wp, h1, Oper.upon]
  refine (hc w vs h2 hs.heap).mono ?_
  rintro e w' ⟨v, p, S', rfl, hr, hh, hext, hk⟩
  exact hnext _ w' _ S' ((hs.ext hext hh).put hd hr) (hx.trans hext) hk
/-- A call of a function value. -/
theorem OpA_call {o : Oper} {K : Regs → Heap → Prop} {x : Operand} {as : Array Operand} {ts : Array TypeId} {g : FuncId} {fs cs : List PV} (ho : o.op = .call { callee := .value x, args := as, argTypes := ts }) (hx : ev σ x = .fn (.func g) fs cs) (hg : callable P g = true)
    (hd : ∀ x, o.dst = some x → x < n) (hc : CallsA P g (fs ++ as.toList.map (ev σ) ++ cs) S (fun p S' => K (updO σ o.dst p) S')) : OpA P n o σ S K := by
  refine OpA_enter hd (fun w a hs => ?_) hc
  have hr := rep_ev hs x
  rw [hx] at hr
  simp only [Rep] at hr
  obtain ⟨fa, ca, e, h1, h2⟩ := hr
  refine ⟨fa ++ as.map a.eval ++ ca, ?_, ?_⟩
  · simp only [execOp, ho, resolve, Sem.run_bind, e, Deferred.ofValue, Sem.run_pure, Result.andThen_ok, invoke]
    exact run_callFunc hg _ w
  · have := repVals_append (repVals_append h1 (rep_map hs as)) h2
    simpa using this
/-- A call of a method of what an interface holds. -/
theorem OpA_invoke {o : Oper} {K : Regs → Heap → Prop} {x : Operand} {as : Array Operand} {ts : Array TypeId} {g : FuncId} {name : String} {t : TypeId} {p : PV} (ho : o.op = .call { callee := .invoke x name, args := as, argTypes := ts }) (hx : ev σ x = .iface t p) (hg : callable P g = true)
    (hm : ∀ v w, (method (P.types.size + Made.depth) t v name).run P w = .ok (g, v) w)
    (hd : ∀ x, o.dst = some x → x < n) (hc : CallsA P g (p :: as.toList.map (ev σ)) S (fun p S' => K (updO σ o.dst p) S')) : OpA P n o σ S K := by
  refine OpA_enter hd (fun w a hs => ?_) hc
  have hr := rep_ev hs x
  rw [hx] at hr
  simp only [Rep] at hr
  obtain ⟨u, e, h1⟩ := hr
  refine ⟨#[u] ++ as.map a.eval, ?_, ?_⟩
  · have e0 : (#[Value.iface t u] ++ as.map a.eval)[0]? = some (Value.iface t u) := by rw [Array.getElem?_append_left (by simp)]; rfl
    have e1 : (#[Value.iface t u] ++ as.map a.eval).extract 1 (#[Value.iface t u] ++ as.map a.eval).size = as.map a.eval := by
      apply Array.ext'
      simp
      exact List.take_of_length_le (by simp)
    simp only [execOp, ho, resolve, Sem.run_bind, e, Sem.run_pure, Result.andThen_ok, invoke]
    rw [e0]
    simp only [callMethod, Sem.run_bind, run_program, Result.andThen_ok, e1, hm]
    exact run_callFunc hg _ w
  · have := repVals_cons.2 ⟨h1, rep_map hs as⟩
    simpa using this
end

/-! A function's contract out of its body -/
def cellsAt : MObj → List PV
  | .cells cs _ => cs
  | .rows _ rs _ _ => rs.flatten
  | _ => []
theorem repAt_append {w : World} {im : Nat → Prop} {b : Nat} : ∀ {off : Nat} {cs ds : List PV}, RepAt w im b off cs → RepAt w im b (off + cs.length) ds → RepAt w im b off (cs ++ ds)
  | off, [], ds, _, k => by simpa using k
  | off, c :: cs, ds, h, k => by
    simp only [RepAt] at h
    simp only [List.cons_append, RepAt]
    exact ⟨h.1, repAt_append h.2 (by rwa [show off + 1 + cs.length = off + (c :: cs).length by simp; omega])⟩
theorem repAt_flatten {w : World} {im : Nat → Prop} {b : Nat} : ∀ {off sz : Nat} {rows : List (List PV)}, RepRows w im b off sz rows → RepAt w im b off rows.flatten
  | off, sz, [], h => by simp only [List.flatten_nil, RepAt]
  | off, sz, r :: rs, h => by
    simp only [RepRows] at h
    simp only [List.flatten_cons]
    exact repAt_append h.2.1 (by rw [h.1]; exact repAt_flatten h.2.2)
theorem holds_repAt {w : World} {im : Nat → Prop} {b : Nat} {o : MObj} (h : Holds w im b o) : RepAt w im b 0 (cellsAt o) := by
  cases o with
  | cells cs ty => obtain ⟨arr, h1, h2⟩ := h; exact repAt_block h1 h2
  | rows sz rs cap ty => obtain ⟨arr, h1, h2, h3, h4, h5⟩ := h; exact repAt_flatten h5
  | iter s pos => simp only [cellsAt, RepAt]
  | omap es clock => simp only [cellsAt, RepAt]
  | raw o => simp only [cellsAt, RepAt]
/-- What stands at a place. -/
def cellsOn (S : Heap) : PV → Option (List PV)
  | .ref cs => some cs
  | .mp b off => match S b with
    | some o => if off ≤ (cellsAt o).length then some ((cellsAt o).drop off) else none
    | none => none
  | _ => none
theorem cellsOn_spec {w : World} {S : Heap} (hS : ∀ b o, S b = some o → Holds w S.im b o) {p : PV} {cs : List PV} {v : Value} (h : cellsOn S p = some cs) (hr : Rep w S.im p v) : ∃ b off, v = .pointer (some ⟨b, off, none⟩) ∧ RepAt w S.im b off cs := by
  cases p <;> simp only [cellsOn, Option.some.injEq, reduceCtorEq] at h
  case ref ds => subst h; simp only [Rep] at hr; obtain ⟨b, off, e, _, _, h3⟩ := hr; exact ⟨b, off, e, h3⟩
  case mp b off =>
    simp only [Rep] at hr
    cases ho : S b with
    | none => rw [ho] at h; simp at h
    | some o =>
      rw [ho] at h; simp only at h
      split at h
      · simp at h; subst h
        exact ⟨b, off, hr, by simpa using repAt_drop off (holds_repAt (hS b o ho))⟩
      · simp at h
def loadS (P : Program) (S : Heap) (t : TypeId) (p : PV) : Option PV := (cellsOn S p).bind (loadPV P t)

def resOne (P : Program) (S : Heap) (σ : Regs) : ResultVar → Option PV
  | .tmp t => some (σ t)
  | .cell a t => loadS P S t (σ a)
def resAll (P : Program) (S : Heap) (σ : Regs) : List ResultVar → Option (List PV)
  | [] => some []
  | r :: rs => match resOne P S σ r, resAll P S σ rs with
    | some p, some ps => some (p :: ps)
    | _, _ => none
def resA (P : Program) (S : Heap) (σ : Regs) (rs : Array ResultVar) : Option PV :=
  match resAll P S σ rs.toList with
  | some [p] => some p
  | some ps => some (.tup ps)
  | none => none
def resSem (tmps : Array Value) : ResultVar → Sem Value
  | .tmp t => pure (tmps.getD t undef)
  | .cell a t => do loadVar t (← asAddr (tmps.getD a undef))
theorem results_eq (fn : Func) (tmps : Array Value) : results fn tmps = (do let vs ← fn.results.mapM (resSem tmps); pure (if h : vs.size = 1 then vs[0] else .tuple vs)) := by
  unfold results
  congr 1
theorem run_resOne {P : Program} {n : Nat} {w : World} {S : Heap} {a : Act} {σ : Regs} (h : St n w S a σ) (r : ResultVar) {p : PV} (e : resOne P S σ r = some p) : ∃ v, (resSem a.tmps r).run P w = .ok v w ∧ Rep w S.im p v := by
  cases r with
  | tmp t => simp [resOne] at e; subst e; exact ⟨_, rfl, h.regs t⟩
  | cell x t =>
    simp only [resOne, loadS] at e
    cases hc : cellsOn S (σ x) with
    | none => rw [hc] at e; simp at e
    | some cs =>
      rw [hc] at e; simp at e
      obtain ⟨b, off, e1, e2⟩ := cellsOn_spec h.heap hc (h.regs x)
      obtain ⟨v, l1, l2⟩ := run_loadVar (P := P) e2 e
      exact ⟨v, by simp only [resSem, Sem.run_bind, e1, asAddr, Sem.run_pure, Result.andThen_ok, l1], l2⟩
theorem run_resAll {P : Program} {n : Nat} {w : World} {S : Heap} {a : Act} {σ : Regs} (h : St n w S a σ) : ∀ (rs : List ResultVar) {ps : List PV}, resAll P S σ rs = some ps →
    ∃ vs : List Value, (rs.mapM (resSem a.tmps)).run P w = .ok vs w ∧ RepVals w S.im ps vs
  | [], ps, e => by simp [resAll] at e; subst e; exact ⟨[], by simp, by simp [repVals_nil]⟩
  | r :: rs, ps, e => by
    simp only [resAll] at e
    cases h1 : resOne P S σ r with
    | none => rw [h1] at e; simp at e
    | some p =>
      cases h2 : resAll P S σ rs with
      | none => rw [h1, h2] at e; simp at e
      | some qs =>
        rw [h1, h2] at e; simp at e; subst e
        obtain ⟨vs, k1, k2⟩ := run_resAll h rs h2
        obtain ⟨v, l1, l2⟩ := run_resOne h r h1
        exact ⟨v :: vs, by simp only [List.mapM_cons, Sem.run_bind, Sem.run_pure, Result.andThen_ok, k1, l1], repVals_cons.2 ⟨l2, k2⟩⟩
theorem run_results {P : Program} {n : Nat} {w : World} {S : Heap} {a : Act} {σ : Regs} (h : St n w S a σ) (fn : Func) {p : PV} (e : resA P S σ fn.results = some p) : ∃ v, (results fn a.tmps).run P w = .ok v w ∧ Rep w S.im p v := by
  unfold resA at e
  cases hr : resAll P S σ fn.results.toList with
  | none => rw [hr] at e; simp at e
  | some ps =>
    rw [hr] at e
    obtain ⟨vs, h1, h2⟩ := run_resAll h fn.results.toList hr
    have hrun : (results fn a.tmps).run P w = .ok (if h : vs.toArray.size = 1 then vs.toArray[0] else .tuple vs.toArray) w := by
      rw [results_eq, Array.mapM_eq_mapM_toList]
      simp only [Sem.run_bind, Sem.run_map, h1, Result.andThen_ok, Sem.run_pure]
    have hl := repVals_length h2
    refine ⟨_, hrun, ?_⟩
    match ps, vs, e, h2, hl with
    | [q], [v], e, h2, _ => simp at e; subst e; simpa using (repVals_cons.1 h2).1
    | [], [], e, h2, _ => simp at e; subst e; simp only [Rep]; exact ⟨#[], rfl, by simp [repVals_nil]⟩
    | q :: q' :: qs, v :: v' :: vs, e, h2, hl =>
      simp at e; subst e
      rw [dif_neg (by simp)]
      simp only [Rep]
      exact ⟨_, rfl, by simpa using h2⟩

def sig0 (ps : List PV) (t : Nat) : PV := ps[t]?.getD .any
def retPost (P : Program) (rs : Array ResultVar) (Po : PV → Heap → Prop) : Post
  | .normal, σ, S => ∃ p, resA P S σ rs = some p ∧ Po p S
  | .ret, σ, S => ∃ p, resA P S σ rs = some p ∧ Po p S
  | _, _, _ => False

theorem CallsA_of {P : Program} {f : FuncId} {fn : Func} {c : Code} {ps : List PV} {S : Heap} {Po : PV → Heap → Prop} (hf : P.funcs[f]? = some fn) (hb : fn.body = some c) (hn : ps.length ≤ fn.ntmps)
    (h : AW P fn.ntmps c (sig0 ps) S (retPost P fn.results Po)) : CallsA P f ps S Po := by
  intro w args hr hS
  have hl : args.size = ps.length := by simpa using repVals_length hr
  refine calls_of_wp hf hb ?_
  have hst : St fn.ntmps w S { tmps := args ++ Array.replicate (fn.ntmps - args.size) undef, defers := [] } (sig0 ps) := by
    refine ⟨by simp; omega, rfl, fun t => ?_, hS⟩
    unfold sig0
    cases ht : ps[t]? with
    | none => simp only [Option.getD_none, Rep]
    | some p =>
      obtain ⟨v, h1, h2⟩ := repVals_get hr ht
      simp only [Option.getD_some]
      have hlt : t < args.size := by rw [hl]; exact (List.getElem?_eq_some_iff.1 ht).1
      have : (args ++ Array.replicate (fn.ntmps - args.size) undef).getD t undef = v := by
        simp only [Array.getD_eq_getD_getElem?]
        rw [Array.getElem?_append_left hlt]
        simp at h1
        simp [h1]
      rw [this]; exact h2
  refine wp_mono (h w S w _ hst (Ext.refl w S)) ?_
  rintro e a' w' ⟨σ', S', h1, h2, h3⟩
  cases e with
  | normal =>
    obtain ⟨p, e1, e2⟩ := h3
    obtain ⟨v, r1, r2⟩ := run_results h1 fn e1
    exact ⟨h1.defers, v, r1, v, p, S', rfl, r2, h1.heap, h2, e2⟩
  | ret =>
    obtain ⟨p, e1, e2⟩ := h3
    obtain ⟨v, r1, r2⟩ := run_results h1 fn e1
    exact ⟨h1.defers, v, r1, v, p, S', rfl, r2, h1.heap, h2, e2⟩
  | exit id => exact h3.elim
  | goto l => exact h3.elim
  | panic ch => exact h3.elim
  | outgrown => exact h3.elim

end Go.Proofs.Ytcbonfgkfiapaaa.Pv

/-! Regions: told in the order of the text, also where the order is drawn. -/
set_option linter.unusedVariables false
set_option linter.unusedSimpArgs false
namespace Go.Proofs.Ytcbonfgkfiapaaa.Pv
open Go Go.RowKit

def okDst (n : Nat) : Option Tmp → Bool
  | some d => decide (d < n)
  | none => true
theorem okDst_spec {n : Nat} {d : Option Tmp} (h : okDst n d = true) : ∀ x, d = some x → x < n := by
  intro x hx; subst hx; simpa [okDst] using h
/-- What the operation under a guard's number gave. -/
def guardVal (n : Nat) (ds : List (Option Tmp)) (g : Nat) (want : Bool) (σ : Regs) : Option Bool :=
  match ds[g]? with
  | some (some d) => if d < n then gsaid want (σ d) else none
  | _ => none
def dstsOf (ops : Array Oper) : List (Option Tmp) := ops.toList.map (·.dst)

/-- The same, with loads out of the call's own blocks. mb: the variables that may be written. -/
def evalS (P : Program) (S : Heap) (mb : Tmp → Bool) (d : Option Tmp) (σ : Regs) : Op → Option PV
  | .load t x => loadS P S t (ev σ x)
  | .box t x => match d with
    | some d => if mb d = true then none else evalOp P σ (.box t x)
    | none => none
  | .buildSlice t n ps => match d with
    | some d => if mb d = true then none else evalOp P σ (.buildSlice t n ps)
    | none => none
  | o => evalOp P σ o
theorem loadS_sound {P : Program} {n : Nat} {w : World} {S : Heap} {a : Act} {σ : Regs} (h : St n w S a σ) {o : Oper} {t : TypeId} {x : Operand} {p : PV} (ho : o.op = .load t x) (he : loadS P S t (ev σ x) = some p) : GivesN P (execOp a.eval o) w S p := by
  unfold loadS at he
  cases hc : cellsOn S (ev σ x) with
  | none => rw [hc] at he; simp at he
  | some cs =>
    rw [hc] at he; simp at he
    obtain ⟨b, off, e1, e2⟩ := cellsOn_spec h.heap hc (rep_ev h x)
    obtain ⟨v, l1, l2⟩ := run_loadVar (P := P) e2 he
    exact ⟨v, w, by simp [execOp, ho, Instr.loadAt, e1, Instr.sureAddr, l1], l2, Ext.refl w S, h.heap⟩
theorem evalS_sound {P : Program} {n : Nat} {w : World} {S : Heap} {mb : Tmp → Bool} {a : Act} {σ : Regs} (h : St n w S a σ) {o : Oper} {p : PV} (he : evalS P S mb o.dst σ o.op = some p) : GivesN P (execOp a.eval o) w S p := by
  unfold evalS at he
  split at he
  · rename_i t x ho; exact loadS_sound h ho he
  · rename_i t x ho
    split at he
    · split at he
      · simp at he
      · rw [← ho] at he; exact evalOp_sound h he
    · simp at he
  · rename_i t k ps ho
    split at he
    · split at he
      · simp at he
      · rw [← ho] at he; exact evalOp_sound h he
    · simp at he
  · exact evalOp_sound h he
theorem OpA_pureS {P : Program} {n : Nat} {σ : Regs} {S : Heap} {mb : Tmp → Bool} {o : Oper} {K : Regs → Heap → Prop} {p : PV} (he : evalS P S mb o.dst σ o.op = some p) (hd : ∀ x, o.dst = some x → x < n) (hK : K (updO σ o.dst p) S) : OpA P n o σ S K := by
  intro w0 S0 w a hs hx next Qx hnext
  obtain ⟨v, w', h1, h2, h3, h4⟩ := evalS_sound hs he
  simp only [Oper.wp, h1, Oper.upon]
  exact hnext _ w' _ S ((hs.ext h3 h4).put hd h2) (hx.trans h3) hK

/-- Operations in the text's order. -/
def RunG (P : Program) (n : Nat) (mb : Tmp → Bool) (ds : List (Option Tmp)) : List Oper → Regs → Heap → (Regs → Heap → Prop) → Prop
  | [], σ, S, K => K σ S
  | o :: l, σ, S, K => match o.guard with
    | none => (match evalS P S mb o.dst σ o.op with
      | some p => okDst n o.dst = true ∧ RunG P n mb ds l (updO σ o.dst p) S K
      | none => OpA P n o σ S (fun σ' S' => RunG P n mb ds l σ' S' K))
    | some (g, want) => match guardVal n ds g want σ with
      | none => False
      | some b => okDst n o.dst = true ∧ (b = want → (match evalS P S mb o.dst σ o.op with
          | some p => RunG P n mb ds l (updO σ o.dst p) S K
          | none => OpA P n o σ S (fun σ' S' => RunG P n mb ds l σ' S' K))) ∧
        (b = (!want) → RunG P n mb ds l (updO σ o.dst (.tup [])) S K)

theorem guardVal_spec {n : Nat} {ops : Array Oper} {g : Nat} {want : Bool} {σ : Regs} {b : Bool} (h : guardVal n (dstsOf ops) g want σ = some b) : ∃ og d, ops[g]? = some og ∧ og.dst = some d ∧ d < n ∧ gsaid want (σ d) = some b := by
  unfold guardVal at h
  split at h
  · rename_i d hd
    split at h
    · rename_i hn
      simp only [dstsOf, List.getElem?_map, Option.map_eq_some_iff] at hd
      obtain ⟨og, ho, hod⟩ := hd
      exact ⟨og, d, by simpa using ho, hod, hn, h⟩
    · simp at h
  · simp at h

theorem AO_run {P : Program} {n : Nat} {mb : Tmp → Bool} {ops : Array Oper} {Q : Post} : ∀ (l : List Oper) (k : Nat) (σ : Regs) (S : Heap), ops.toList.drop k = l → RunG P n mb (dstsOf ops) l σ S (Q .normal) → AO P n ops (List.range' k l.length) σ S Q
  | [], k, σ, S, _, h => by simp only [List.length_nil, List.range'_zero]; exact AO_nil h
  | o :: l, k, σ, S, hl, h => by
    have ho : ops[k]? = some o := by
      have : ops.toList[k]? = some o := by
        have := congrArg (fun x => x[0]?) hl
        simpa using this
      simpa using this
    have hl' : ops.toList.drop (k + 1) = l := by
      have := congrArg (fun x => x.drop 1) hl
      simpa [Nat.add_comm] using this
    simp only [List.length_cons, List.range'_succ]
    simp only [RunG] at h
    split at h
    · rename_i hg
      split at h
      · rename_i p hp
        exact AO_op ho hg (OpA_pureS hp (okDst_spec h.1) (AO_run l (k + 1) _ S hl' h.2))
      · exact AO_op ho hg (h.mono fun σ' S' hk => AO_run l (k + 1) σ' S' hl' hk)
    · rename_i g want hg
      split at h
      · exact h.elim
      · rename_i b hb
        obtain ⟨og, d, h1, h2, h3, h4⟩ := guardVal_spec hb
        obtain ⟨hd, hy, hn⟩ := h
        refine AO_guard ho hg h1 h2 h3 h4 (okDst_spec hd) (fun e => ?_) (fun e => AO_run l (k + 1) _ S hl' (hn (by cases b <;> cases want <;> simp_all)))
        have hy' := hy e
        split at hy'
        · rename_i p hp
          exact OpA_pureS hp (okDst_spec hd) (AO_run l (k + 1) _ S hl' hy')
        · exact OpA.mono hy' fun σ' S' hk => AO_run l (k + 1) σ' S' hl' hk

theorem AW_reg {P : Program} {n : Nat} {mb : Tmp → Bool} {id : Nat} {ops : Array Oper} {σ : Regs} {S : Heap} {Q : Post} (h : RunG P n mb (dstsOf ops) ops.toList σ S (Q .normal)) : AW P n (.region id ops false) σ S Q := by
  refine AW_region ?_
  have := AO_run (P := P) (n := n) (mb := mb) (ops := ops) (Q := Q) ops.toList 0 σ S (by simp) h
  rw [List.range_eq_range']
  simpa using this

/-! Quiet operations: they give a value and leave the call's own blocks as they are; which one depends on what they look at alone. -/
def tmpsOf (o : Oper) : List Tmp := o.op.operands.toList.filterMap fun | .tmp t => some t | _ => none
def QV (P : Program) (o : Oper) (σ : Regs) (S : Heap) (p : PV) : Prop :=
  ∀ n σ' w a, (∀ t ∈ tmpsOf o, σ' t = σ t) → St n w S a σ' → ∀ (next : Act → World → Prop) (Qx : Exit → Act → World → Prop),
    (∀ v w', Rep w' S.im p v → Ext w S w' S → (∀ b x, S b = some x → Holds w' S.im b x) → next (a.put o.dst v) w') → o.wp P a w next Qx
def QC (P : Program) (o : Oper) (σ : Regs) (S : Heap) (K : PV → Prop) : Prop := ∃ p, QV P o σ S p ∧ K p

theorem ev_congr {σ σ' : Regs} {xs : List Operand} (h : ∀ t ∈ xs.filterMap (fun | .tmp t => some t | _ => none), σ' t = σ t) : ∀ x ∈ xs, ev σ' x = ev σ x := by
  intro x hx
  cases x with
  | tmp t => exact h t (List.mem_filterMap.2 ⟨.tmp t, hx, rfl⟩)
  | _ => rfl
theorem map_ev_congr {σ σ' : Regs} {xs ys : List Operand} (h : ∀ x ∈ ys, ev σ' x = ev σ x) (hs : ∀ x ∈ xs, x ∈ ys) : xs.map (ev σ') = xs.map (ev σ) :=
  List.map_congr_left fun x hx => h x (hs x hx)
theorem bound_congr {σ σ' : Regs} {d : Nat} {x : Option Operand} (h : ∀ o, x = some o → ev σ' o = ev σ o) : bound σ' d x = bound σ d x := by
  cases x with
  | none => rfl
  | some o => simp only [bound, h o rfl]
theorem evalOp_congr {P : Program} {σ σ' : Regs} {o : Op} (h : ∀ x ∈ o.operands.toList, ev σ' x = ev σ x) : evalOp P σ' o = evalOp P σ o := by
  cases o <;> simp only [evalOp]
  case move x => rw [h x (by simp [Op.operands])]
  case assign x => rw [h x (by simp [Op.operands])]
  case pick c a b => rw [h c (by simp [Op.operands]), h a (by simp [Op.operands]), h b (by simp [Op.operands])]
  case box t x => rw [h x (by simp [Op.operands])]
  case build t ps =>
    have : partsPV σ' ps = partsPV σ ps := by
      unfold partsPV
      refine List.map_congr_left fun x hx => ?_
      rw [h x.2 (by simp only [Op.operands]; simp; exact ⟨x.1, by simpa using hx⟩)]
    rw [this]
  case buildSlice t n ps =>
    have : partsPV σ' ps = partsPV σ ps := by
      unfold partsPV
      refine List.map_congr_left fun x hx => ?_
      rw [h x.2 (by simp only [Op.operands]; simp; exact ⟨x.1, by simpa using hx⟩)]
    rw [this]
  case load t x => rw [h x (by simp [Op.operands])]
  case nilCheck x => rw [h x (by simp [Op.operands])]
  case binOp op t x y yt => rw [h x (by simp [Op.operands]), h y (by simp [Op.operands])]
  case unOp op t x => rw [h x (by simp [Op.operands])]
  case convert s d x => rw [h x (by simp [Op.operands])]
  case makeInterface t x => rw [h x (by simp [Op.operands])]
  case makeFunc f fs cs =>
    rw [map_ev_congr h (xs := fs.toList) (fun x hx => by simp [Op.operands]; exact Or.inl (by simpa using hx)), map_ev_congr h (xs := cs.toList) (fun x hx => by simp [Op.operands]; exact Or.inr (by simpa using hx))]
  case slice t x lo hi mx =>
    cases mx with
    | some m => simp only [evalOp]
    | none =>
      simp only [evalOp, evalSlice]
      rw [h x (by simp [Op.operands])]
      have e1 := bound_congr (σ := σ) (σ' := σ') (d := 0) (x := lo) fun o e => h o (by subst e; simp [Op.operands])
      have e2 : ∀ d, bound σ' d hi = bound σ d hi := fun d => bound_congr fun o e => h o (by subst e; simp [Op.operands])
      rw [e1]; simp only [e2]
  case fieldAddr s x f => rw [h x (by simp [Op.operands])]
  case field s x f => rw [h x (by simp [Op.operands])]
  case indexAddr t x i => rw [h x (by simp [Op.operands]), h i (by simp [Op.operands])]
  case index t x i => rw [h x (by simp [Op.operands]), h i (by simp [Op.operands])]
  case extract x i => rw [h x (by simp [Op.operands])]
  case call c =>
    obtain ⟨callee, args, ts⟩ := c
    cases callee <;> simp only [evalOp]
    rw [map_ev_congr h (xs := args.toList) (fun x hx => by simp [Op.operands, Call.operands]; simpa using hx)]

theorem evalS_congr {P : Program} {S : Heap} {mb : Tmp → Bool} {d : Option Tmp} {σ σ' : Regs} {o : Op} (h : ∀ x ∈ o.operands.toList, ev σ' x = ev σ x) : evalS P S mb d σ' o = evalS P S mb d σ o := by
  unfold evalS
  split
  · rename_i t x; rw [h x (by simp [Op.operands])]
  · rename_i t x
    split
    · split
      · rfl
      · exact evalOp_congr h
    · rfl
  · rename_i t k ps
    split
    · split
      · rfl
      · exact evalOp_congr h
    · rfl
  · exact evalOp_congr h
def noMb (_ : Tmp) : Bool := false
theorem QV_pure {P : Program} {o : Oper} {σ : Regs} {S : Heap} {p : PV} (h : evalS P S noMb o.dst σ o.op = some p) : QV P o σ S p := by
  intro n σ' w a hag hs next Qx hn
  have e : evalS P S noMb o.dst σ' o.op = some p := by rw [← h]; exact evalS_congr (ev_congr hag)
  obtain ⟨v, w', h1, h2, h3, h4⟩ := evalS_sound hs e
  simp only [Oper.wp, h1, Oper.upon]
  exact hn v w' h2 h3 h4

/-- A call that gives p and leaves the call's own blocks. -/
def CallsQ (P : Program) (f : FuncId) (ps : List PV) (S : Heap) (p : PV) : Prop := CallsA P f ps S (fun q S' => q = p ∧ S' = S)

theorem QC_call {P : Program} {o : Oper} {σ : Regs} {S : Heap} {K : PV → Prop} {x : Operand} {as : Array Operand} {ts : Array TypeId} {g : FuncId} {fs cs : List PV} {p : PV} (ho : o.op = .call { callee := .value x, args := as, argTypes := ts }) (hx : ev σ x = .fn (.func g) fs cs) (hg : callable P g = true)
    (hc : CallsQ P g (fs ++ as.toList.map (ev σ) ++ cs) S p) (hK : K p) : QC P o σ S K := by
  refine ⟨p, ?_, hK⟩
  intro n σ' w a hag hs next Qx hn
  have hall : ∀ y ∈ o.op.operands.toList, ev σ' y = ev σ y := ev_congr hag
  have hx' : ev σ' x = .fn (.func g) fs cs := by rw [hall x (by simp [ho, Op.operands, Call.operands]), hx]
  have has : as.toList.map (ev σ') = as.toList.map (ev σ) := map_ev_congr hall fun y hy => by simp [ho, Op.operands, Call.operands]; exact Or.inr (by simpa using hy)
  have hr := rep_ev hs x
  rw [hx'] at hr
  simp only [Rep] at hr
  obtain ⟨fa, ca, e, h1, h2⟩ := hr
  have hrun : (execOp a.eval o).run P w = .ok (.enter g (fa ++ as.map a.eval ++ ca)) w := by
    simp only [execOp, ho, resolve, Sem.run_bind, e, Deferred.ofValue, Sem.run_pure, Result.andThen_ok, invoke]
    exact run_callFunc hg _ w
  simp only [Oper.wp, hrun, Oper.upon]
  have hvals : RepVals w S.im (fs ++ as.toList.map (ev σ) ++ cs) (fa ++ as.map a.eval ++ ca).toList := by
    have := repVals_append (repVals_append h1 (rep_map hs as)) h2
    rw [has] at this
    simpa using this
  refine (hc w _ hvals hs.heap).mono ?_
  rintro e' w' ⟨v, q, S', rfl, hrep, hh, hext, rfl, rfl⟩
  exact hn v w' hrep hext hh

/-- Operations in the text's order, each of them quiet. -/
def RunQ (P : Program) (n : Nat) (ds : List (Option Tmp)) : List Oper → Regs → Heap → (Regs → Prop) → Prop
  | [], σ, S, K => K σ
  | o :: l, σ, S, K => match o.guard with
    | none => (match evalS P S noMb o.dst σ o.op with
      | some p => okDst n o.dst = true ∧ RunQ P n ds l (updO σ o.dst p) S K
      | none => okDst n o.dst = true ∧ QC P o σ S (fun p => RunQ P n ds l (updO σ o.dst p) S K))
    | some (g, want) => match guardVal n ds g want σ with
      | none => False
      | some b => okDst n o.dst = true ∧ (b = want → (match evalS P S noMb o.dst σ o.op with
          | some p => RunQ P n ds l (updO σ o.dst p) S K
          | none => QC P o σ S (fun p => RunQ P n ds l (updO σ o.dst p) S K))) ∧
        (b = (!want) → RunQ P n ds l (updO σ o.dst (.tup [])) S K)

/-- simp does not look into what comes behind an operation. -/
@[congr] theorem OpA_keep (P : Program) (n : Nat) (o : Oper) {σ σ' : Regs} (S : Heap) (K : Regs → Heap → Prop) (h : σ = σ') : OpA P n o σ S K = OpA P n o σ' S K := by rw [h]
@[congr] theorem QC_keep (P : Program) (o : Oper) {σ σ' : Regs} (S : Heap) (K : PV → Prop) (h : σ = σ') : QC P o σ S K = QC P o σ' S K := by rw [h]

end Go.Proofs.Ytcbonfgkfiapaaa.Pv
