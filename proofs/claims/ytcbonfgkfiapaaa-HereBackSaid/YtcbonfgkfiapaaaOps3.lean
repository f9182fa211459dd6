/- Cuts, conversions, structs and slices that are made; then one function that tells what an operation without effect gives, shown to be what the machine does. -/
import Derived.Test.YtcbonfgkfiapaaaOps2
set_option linter.unusedVariables false
set_option linter.unusedSimpArgs false
namespace Go.Proofs.Ytcbonfgkfiapaaa.Pv
open Go Go.RowKit

theorem bound_spec {n : Nat} {w : World} {S : Heap} {a : Act} {σ : Nat → PV} (h : St n w S a σ) {d l : Nat} {x : Option Operand} (hb : bound σ d x = some l) :
    (x = none ∧ l = d) ∨ ∃ o k, x = some o ∧ a.eval o = .int k (l : Int) := by
  cases x with
  | none => simp [bound] at hb; exact Or.inl ⟨rfl, hb.symm⟩
  | some o =>
    right
    have hr := rep_ev h o
    unfold bound at hb
    simp only at hb
    generalize ev σ o = p at hb hr
    cases p <;> simp only [reduceCtorEq] at hb
    rename_i k i
    by_cases h0 : 0 ≤ i
    · rw [if_pos h0] at hb; simp at hb
      simp only [Rep] at hr
      exact ⟨o, k, rfl, by rw [hr, ← hb]; congr 1; omega⟩
    · rw [if_neg h0] at hb; simp at hb

theorem run_bounds {P : Program} {w : World} (isSlice : Bool) (len cap l h : Nat) (lo hi : Option Value) (hlo : (lo = none ∧ l = 0) ∨ ∃ k, lo = some (.int k (l : Int))) (hhi : (hi = none ∧ h = len) ∨ ∃ k, hi = some (.int k (h : Int)))
    (h1 : l ≤ h) (h2 : h ≤ cap) : (Instr.sliceBounds isSlice len cap lo hi none).run P w = .ok (l, h, cap) w := by
  rcases hlo with ⟨rfl, rfl⟩ | ⟨k, rfl⟩ <;> rcases hhi with ⟨rfl, rfl⟩ | ⟨k', rfl⟩
  · simp [Instr.sliceBounds]
  · have e2 := run_sliceBound (P := P) w k' (h : Int) cap (if isSlice = true then BoundsCode.sliceAcap else BoundsCode.sliceAlen) (by omega) (by omega)
    simp [Instr.sliceBounds, e2]
  · have e1 := run_sliceBound (P := P) w k (l : Int) h BoundsCode.sliceB (by omega) (by omega)
    simp [Instr.sliceBounds, e1]
  · have e2 := run_sliceBound (P := P) w k' (h : Int) cap (if isSlice = true then BoundsCode.sliceAcap else BoundsCode.sliceAlen) (by omega) (by omega)
    have e1 := run_sliceBound (P := P) w k (l : Int) h BoundsCode.sliceB (by omega) (by omega)
    simp [Instr.sliceBounds, e2, e1]

theorem bytes_extract (l : List UInt8) (a b : Nat) : (⟨l.toArray⟩ : ByteArray).extract a b = ⟨((l.take b).drop a).toArray⟩ := by
  apply ByteArray.ext
  simp [List.drop_take]

theorem run_sliceAt {P : Program} {w : World} {im : Nat → Prop} {t : TypeId} {l h d : Nat} {p r : PV} {v : Value} {lo hi : Option Value} (hp : Rep w im p v) (hr : slicePV P t (some l) (some h) p = some r)
    (hlo : (lo = none ∧ l = 0) ∨ ∃ k, lo = some (.int k (l : Int))) (hhi : (hi = none ∧ h = d) ∨ ∃ k, hi = some (.int k (h : Int))) (hd : lenPV P t p = some (.int .i64 (d : Int))) :
    ∃ u, (Instr.sliceAt t v lo hi none).run P w = .ok u w ∧ Rep w im r u := by
  cases p <;> simp only [slicePV, reduceCtorEq] at hr
  case str s =>
    cases ht : isStr P t with
    | false => rw [ht] at hr; simp at hr
    | true =>
      rw [ht] at hr
      have hu := isStr_spec ht
      simp only [lenPV, ht, if_true, Option.some.injEq, PV.int.injEq, true_and] at hd
      have hd' : s.length = d := by omega
      by_cases hc : l ≤ h ∧ h ≤ s.length
      · simp only [if_pos hc, Option.some.injEq] at hr; subst hr
        simp only [Rep] at hp; subst hp
        refine ⟨.string ⟨((s.take h).drop l).toArray⟩, ?_, by simp [Rep]⟩
        have e := run_bounds (P := P) (w := w) false s.length s.length l h lo hi hlo (by rw [hd']; exact hhi) hc.1 hc.2
        have hsz : (⟨s.toArray⟩ : ByteArray).size = s.length := by simp [ByteArray.size]
        simp [Instr.sliceAt, Instr.slice, run_under hu, hsz, e, bytes_extract]
      · simp only [if_neg hc, reduceCtorEq] at hr
  case slice sz rows =>
    by_cases hc : elemSize P t = some sz ∧ l ≤ h ∧ h ≤ rows.length
    · rw [if_pos hc] at hr
      simp only [Option.some.injEq] at hr; subst hr
      obtain ⟨he, h1, h2⟩ := hc
      obtain ⟨e, inf, hu, hi', hsz⟩ := elemSize_spec he
      have hsl : isSl P t = true := by unfold isSl; rw [hu]
      simp only [lenPV, hsl, if_true, Option.some.injEq, PV.int.injEq, true_and] at hd
      have hd' : rows.length = d := by omega
      simp only [Rep] at hp
      obtain ⟨a, c, rfl, hlc, hcm, hrows⟩ := hp
      have eb := run_bounds (P := P) (w := w) true rows.length c l h lo hi hlo (by rw [hd']; exact hhi) h1 (by omega)
      have hlen : ((rows.take h).drop l).length = h - l := by simp; omega
      refine ⟨.slice (if c = l then a else a.map (·.add (l * sz))) (h - l) (c - l), ?_, ?_⟩
      · simp [Instr.sliceAt, Instr.slice, run_under hu, eb, run_sizeOf' hi', hsz]
      · simp only [Rep]
        refine ⟨_, c - l, by rw [hlen], by rw [hlen]; omega, by omega, ?_⟩
        by_cases hz : (rows.take h).drop l = []
        · exact Or.inl hz
        · right
          have hpos : 0 < h - l := by
            rcases Nat.eq_zero_or_pos (h - l) with h0 | h0
            · rw [h0] at hlen; exact absurd (List.eq_nil_of_length_eq_zero hlen) hz
            · exact h0
          rcases hrows with hrows | ⟨b, off, rfl, hi1, hi2, hrr⟩
          · subst hrows; simp at hz
          · refine ⟨b, off + l * sz, ?_, hi1, hi2, ?_⟩
            · rw [if_neg (by omega)]; simp [add_addr]
            · exact repRows_drop l (repRows_take h hrr)
    · rw [if_neg hc] at hr; simp at hr

/-! Structs -/
def zeroCells (P : Program) (t : TypeId) : Option (List PV) :=
  match P.info? t with
  | some i => match i.zero with
    | some z => some (z.cells.toList.map ofCell)
    | none => none
  | none => none
/-- Parts laid over cells. -/
def splice (cs : List PV) (off : Nat) (ds : List PV) : List PV := cs.take off ++ ds ++ cs.drop (off + ds.length)
def fillPV (P : Program) (t : TypeId) (cs : List PV) : List (Nat × PV) → Option (List PV)
  | [] => some cs
  | (f, p) :: rest => match fieldOff P t f with
    | some (off, size, _) => match cellsOf p with
      | some ds => if ds.length = size ∧ off + size ≤ cs.length then fillPV P t (splice cs off ds) rest else none
      | none => none
    | none => none
def buildPV (P : Program) (t : TypeId) (parts : List (Nat × PV)) : Option PV :=
  match zeroCells P t with
  | some cs => match P.underlying t with
    | some (.struct _) => (fillPV P t cs parts).map .agg
    | _ => none
  | none => none

theorem foldl_set (ds : List Value) : ∀ (cs : Array Value) (off j0 : Nat), off + j0 + ds.length ≤ cs.size →
    (((ds.zipIdx j0).foldl (fun cs (x : Value × Nat) => cs.setIfInBounds (off + x.2) x.1) cs)).toList = cs.toList.take (off + j0) ++ ds ++ cs.toList.drop (off + j0 + ds.length) := by
  induction ds with
  | nil => intro cs off j0 h; simp
  | cons d ds ih =>
    intro cs off j0 h
    simp only [List.zipIdx_cons, List.foldl_cons]
    have h' : off + j0 + (ds.length + 1) ≤ cs.size := by simpa using h
    rw [ih _ off (j0 + 1) (by simp; omega)]
    have hlt : off + j0 < cs.toList.length := by simp; omega
    have e1 : (cs.setIfInBounds (off + j0) d).toList = cs.toList.set (off + j0) d := by simp
    rw [e1]
    apply List.ext_getElem?
    intro i
    simp only [List.length_cons]
    by_cases h1 : i < off + j0
    · have hl1 : i < (List.take (off + (j0 + 1)) (cs.toList.set (off + j0) d) ++ ds).length := by simp; omega
      have hl2 : i < (List.take (off + j0) cs.toList ++ d :: ds).length := by simp; omega
      rw [List.getElem?_append_left hl1, List.getElem?_append_left hl2, List.getElem?_append_left (by simp; omega), List.getElem?_append_left (by simp; omega)]
      rw [List.getElem?_take_of_lt (by omega), List.getElem?_take_of_lt (by omega), List.getElem?_set_ne (by omega)]
    · by_cases h2 : i = off + j0
      · subst h2
        have hl1 : off + j0 < (List.take (off + (j0 + 1)) (cs.toList.set (off + j0) d) ++ ds).length := by simp; omega
        have hl2 : off + j0 < (List.take (off + j0) cs.toList ++ d :: ds).length := by simp; omega
        rw [List.getElem?_append_left hl1, List.getElem?_append_left hl2, List.getElem?_append_left (by simp; omega)]
        rw [List.getElem?_take_of_lt (by omega), List.getElem?_set_self (by simpa using hlt)]
        rw [List.getElem?_append_right (by simp; omega)]
        have : off + j0 - (List.take (off + j0) cs.toList).length = 0 := by simp; omega
        rw [this]; rfl
      · by_cases h3 : i < off + j0 + (ds.length + 1)
        · have hl1 : i < (List.take (off + (j0 + 1)) (cs.toList.set (off + j0) d) ++ ds).length := by simp; omega
          have hl2 : i < (List.take (off + j0) cs.toList ++ d :: ds).length := by simp; omega
          rw [List.getElem?_append_left hl1, List.getElem?_append_left hl2, List.getElem?_append_right (by simp; omega), List.getElem?_append_right (by simp; omega)]
          have e2 : i - (List.take (off + j0) cs.toList).length = (i - (List.take (off + (j0 + 1)) (cs.toList.set (off + j0) d)).length) + 1 := by simp; omega
          rw [e2, List.getElem?_cons_succ]
        · have hl1 : (List.take (off + (j0 + 1)) (cs.toList.set (off + j0) d) ++ ds).length ≤ i := by simp; omega
          have hl2 : (List.take (off + j0) cs.toList ++ d :: ds).length ≤ i := by simp; omega
          rw [List.getElem?_append_right hl1, List.getElem?_append_right hl2, List.getElem?_drop, List.getElem?_drop]
          rw [List.getElem?_set_ne (by simp; omega)]
          congr 1
          simp; omega

theorem fieldOff_places {P : Program} {t : TypeId} {fs : Array Field} (hu : P.underlying t = some (.struct fs)) {f off size : Nat} {g : Option Nat} (hf : fieldOff P t f = some (off, size, g)) :
    ∃ x inf, fs[f]? = some x ∧ P.info? x.type = some inf ∧ x.offset = off ∧ inf.size = size := by
  unfold fieldOff at hf
  rw [hu] at hf
  simp only at hf
  cases hx : fs[f]? with
  | none => rw [hx] at hf; simp at hf
  | some x =>
    rw [hx] at hf; simp only at hf
    cases hi : P.info? x.type with
    | none => rw [hi] at hf; simp at hf
    | some inf =>
      rw [hi] at hf; simp only at hf
      split at hf
      · simp at hf
      · cases hg : aggSize P x.type with
        | none => rw [hg] at hf; simp at hf
        | some g' =>
          rw [hg] at hf; simp at hf
          exact ⟨x, inf, rfl, hi, hf.1, hf.2.1⟩

theorem run_fill {P : Program} {w : World} {im : Nat → Prop} {t : TypeId} {fs : Array Field} (hu : P.underlying t = some (.struct fs)) (places : Array (Nat × Nat))
    (hp : ∀ (f : Nat) (x : Field) (inf : TypeInfo), fs[f]? = some x → P.info? x.type = some inf → places[f]? = some (x.offset, inf.size)) :
    ∀ (parts : List (Nat × PV)) (vals : List (Nat × Value)) (cs : List PV) (arr : Array Value) (r : List PV), parts.length = vals.length →
      (∀ (i f : Nat) (p : PV), parts[i]? = some (f, p) → ∃ v, vals[i]? = some (f, v) ∧ Rep w im p v) → RepVals w im cs arr.toList → fillPV P t cs parts = some r →
      ∃ res, Instr.fill (places[·]?) arr vals = some res ∧ RepVals w im r res.toList
  | [], [], cs, arr, r, _, _, hv, h => by simp [fillPV] at h; subst h; exact ⟨arr, rfl, hv⟩
  | [], v :: vals, cs, arr, r, hl, _, _, _ => by simp at hl
  | (f, p) :: rest, [], cs, arr, r, hl, _, _, _ => by simp at hl
  | (f, p) :: rest, (f', v) :: vals, cs, arr, r, hl, hpv, hv, h => by
    obtain ⟨v', e1, hr⟩ := hpv 0 f p rfl
    simp at e1
    obtain ⟨rfl, e1⟩ := e1
    subst e1
    simp only [fillPV] at h
    cases hf : fieldOff P t f' with
    | none => rw [hf] at h; simp at h
    | some x =>
      obtain ⟨off, size, g⟩ := x
      rw [hf] at h; simp only at h
      cases hc : cellsOf p with
      | none => rw [hc] at h; simp at h
      | some ds =>
        rw [hc] at h; simp only at h
        by_cases hcond : ds.length = size ∧ off + size ≤ cs.length
        · rw [if_pos hcond] at h
          obtain ⟨h1, h2⟩ := hcond
          obtain ⟨x, inf, hx, hi, ho, hs⟩ := fieldOff_places hu hf
          have hpl := hp f' x inf hx hi
          have hcells := rep_cells hr hc
          have hlen := repVals_length hcells
          have hcs := repVals_length hv
          have hsz : v.cells.size = size := by have : v.cells.toList.length = ds.length := hlen; simpa [h1] using this
          have hle : off + v.cells.size ≤ arr.size := by have : arr.toList.length = cs.length := hcs; simp at this; omega
          have hfold := foldl_set v.cells.toList arr off 0 (by simpa using hle)
          simp only [Instr.fill]
          rw [hpl]
          simp only [ho, hs]
          rw [if_neg (by simp [hsz]; omega)]
          refine run_fill hu places hp rest vals (splice cs off ds) _ r (by simpa using hl) (fun i f p e => by simpa using hpv (i + 1) f p (by simpa using e)) ?_ h
          have hz : v.cells.zipIdx.foldl (fun cs (x : Value × Nat) => cs.setIfInBounds (off + x.2) x.1) arr = (v.cells.toList.zipIdx 0).foldl (fun cs (x : Value × Nat) => cs.setIfInBounds (off + x.2) x.1) arr := by
            rw [← Array.foldl_toList]; simp
          have e : (v.cells.zipIdx.foldl (fun cs (x : Value × Nat) => cs.setIfInBounds (off + x.2) x.1) arr).toList = arr.toList.take off ++ v.cells.toList ++ arr.toList.drop (off + v.cells.toList.length) := by
            rw [hz, hfold]; simp
          show RepVals w im (splice cs off ds) (v.cells.zipIdx.foldl (fun cs (x : Value × Nat) => cs.setIfInBounds (off + x.2) x.1) arr).toList
          rw [e, hlen]
          exact repVals_append (repVals_append (repVals_take off hv) hcells) (repVals_drop (off + ds.length) hv)
        · rw [if_neg hcond] at h; simp at h

theorem fields_places {P : Program} {w : World} {fs : Array Field} : ∀ (l : List Field) , (∀ x ∈ l, ∃ inf, P.info? x.type = some inf) →
    (l.mapM (m := Sem) fun f => do pure (f.offset, ← sizeOf f.type)).run P w = .ok (l.map fun f => (f.offset, P.cellsOf f.type)) w
  | [], _ => by simp
  | x :: l, h => by
    obtain ⟨inf, hi⟩ := h x (by simp)
    have ih := fields_places (P := P) (w := w) (fs := fs) l fun y hy => h y (by simp [hy])
    simp only [List.mapM_cons, Sem.run_bind, run_sizeOf' hi, Result.andThen_ok, Sem.run_pure, ih, List.map_cons]
    simp [Program.cellsOf, hi]

def structOk (P : Program) (t : TypeId) : Bool :=
  match P.underlying t with
  | some (.struct fs) => fs.toList.all fun f => (P.info? f.type).isSome
  | _ => false

theorem run_build {P : Program} {w : World} {im : Nat → Prop} {t : TypeId} {parts : List (Nat × PV)} {vals : Array (Nat × Value)} {r : PV} (hok : structOk P t = true) (hl : parts.length = vals.toList.length)
    (hpv : ∀ (i f : Nat) (p : PV), parts[i]? = some (f, p) → ∃ v, vals.toList[i]? = some (f, v) ∧ Rep w im p v) (h : buildPV P t parts = some r) :
    ∃ u, (Instr.build t vals).run P w = .ok u w ∧ Rep w im r u := by
  unfold buildPV at h
  cases hz : zeroCells P t with
  | none => rw [hz] at h; simp at h
  | some cs =>
    rw [hz] at h; simp only at h
    unfold structOk at hok
    cases hu : P.underlying t with
    | none => rw [hu] at h; simp at h
    | some d =>
      rw [hu] at h hok
      cases d <;> simp only [reduceCtorEq] at h
      rename_i fs
      simp only at hok
      cases hfl : fillPV P t cs parts with
      | none => rw [hfl] at h; simp at h
      | some res =>
        rw [hfl] at h; simp only [Option.map_some, Option.some.injEq] at h; subst h
        unfold zeroCells at hz
        cases hi : P.info? t with
        | none => rw [hi] at hz; simp at hz
        | some inf =>
          rw [hi] at hz; simp only at hz
          cases hzz : inf.zero with
          | none => rw [hzz] at hz; simp at hz
          | some z =>
            rw [hzz] at hz; simp only [Option.some.injEq] at hz
            have hv : RepVals w im cs z.cells.toList := by
              rw [← hz]
              have := repVals_map (w := w) (im := im) ofCell id (rep_ofCell w im) z.cells.toList
              simpa using this
            have hall : ∀ x ∈ fs.toList, ∃ inf, P.info? x.type = some inf := fun x hx => by
              have := List.all_eq_true.1 hok x hx
              exact Option.isSome_iff_exists.1 this
            have hpl := fields_places (P := P) (w := w) (fs := fs) fs.toList hall
            obtain ⟨out, h1, h2⟩ := run_fill (P := P) (w := w) (im := im) (t := t) hu (fs.toList.map fun f => (f.offset, P.cellsOf f.type)).toArray (fun f x inf' hx hi' => by
              have : fs.toList[f]? = some x := by simpa using hx
              simp [this, Program.cellsOf, hi', hx]) parts vals.toList cs z.cells res hl hpv hv hfl
            refine ⟨.agg out, ?_, by simp only [Rep]; exact ⟨out, rfl, h2⟩⟩
            have hm : (fs.mapM (m := Sem) fun f => do pure (f.offset, ← sizeOf f.type)).run P w = .ok (fs.toList.map fun f => (f.offset, P.cellsOf f.type)).toArray w := by
              rw [Array.mapM_eq_mapM_toList, Sem.run_map, hpl, Result.andThen_ok]
            have hfs : (fun x => (fs.toList.map fun f => (f.offset, P.cellsOf f.type)).toArray[x]?) = fun x : Nat => (fs.toList.map fun f => (f.offset, P.cellsOf f.type)).toArray[x]? := rfl
            simp only [Instr.build, Sem.run_bind, zeroValue, run_typeInfo hi, hzz, Result.andThen_ok, Sem.run_pure, run_under hu, hm, h1]

end Go.Proofs.Ytcbonfgkfiapaaa.Pv
