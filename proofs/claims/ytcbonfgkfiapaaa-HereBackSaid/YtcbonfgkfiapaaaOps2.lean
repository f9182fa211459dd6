/- What the other operations without effect give, and one function that tells it for all of them. -/
import Derived.Test.YtcbonfgkfiapaaaOps
import Derived.Laws.BytesArg
set_option linter.unusedVariables false
set_option linter.unusedSimpArgs false
namespace Go.Proofs.Ytcbonfgkfiapaaa.Pv
open Go Go.RowKit

theorem run_guard_other {P : Program} {w : World} {op : BinOp} {t : TypeId} {x y : Operand} {a b : Value} (h : ¬ (a = .nilIface ∧ b = .nilIface)) (h2 : ∀ xs ys, ¬ (a = .agg xs ∧ b = .agg ys)) : (eqGuard op t x y a b).run P w = .ok () w := by
  unfold eqGuard
  cases op <;> simp
  all_goals (cases a <;> cases b <;> first | rfl | exact absurd ⟨rfl, rfl⟩ h | exact absurd ⟨rfl, rfl⟩ (h2 _ _))

theorem run_str {P : Program} {w : World} {op : BinOp} {t : TypeId} {x y : Operand} {a b : List UInt8} {p : PV} (h : evalStr op a b = some p) :
    ∃ v, (do eqGuard op t x y (.string ⟨a.toArray⟩) (.string ⟨b.toArray⟩); binOp op t (.string ⟨a.toArray⟩) (.string ⟨b.toArray⟩) : Sem Value).run P w = .ok v w ∧ ∀ im, Rep w im p v := by
  have hg : (eqGuard op t x y (.string ⟨a.toArray⟩) (.string ⟨b.toArray⟩)).run P w = .ok () w := run_guard_other (by simp) (by simp)
  have fin : ∀ v, (binOp op t (.string ⟨a.toArray⟩) (.string ⟨b.toArray⟩)).run P w = .ok v w → (∀ im, Rep w im p v) → ∃ v, (do eqGuard op t x y (.string ⟨a.toArray⟩) (.string ⟨b.toArray⟩); binOp op t (.string ⟨a.toArray⟩) (.string ⟨b.toArray⟩) : Sem Value).run P w = .ok v w ∧ ∀ im, Rep w im p v :=
    fun v h1 h2 => ⟨v, by simp [hg, h1], h2⟩
  have hcat : (⟨a.toArray⟩ : ByteArray) ++ ⟨b.toArray⟩ = ⟨(a ++ b).toArray⟩ := by apply ByteArray.ext; simp
  cases op <;> simp only [evalStr, Option.some.injEq, reduceCtorEq] at h
  case add =>
    split at h
    · rename_i hle
      simp at h; subst h
      refine fin (.string ⟨(a ++ b).toArray⟩) ?_ (by simp [Rep])
      have hsz : ¬ ((((⟨a.toArray⟩ : ByteArray).size + (⟨b.toArray⟩ : ByteArray).size : Nat) : Int) > IntKind.i64.max) := by
        simp [ByteArray.size, IntKind.max, IntKind.signed, IntKind.bits]; omega
      simp only [binOp, Op.stringOp]
      rw [if_neg hsz, hcat]
      rfl
    · simp at h
  case eql => subst h; exact fin (.bool (a == b)) (by simp [binOp, Op.stringOp, ByteArray.toList_mk]) (by intro im; simp only [Rep]; congr 1; rw [Bool.eq_iff_iff]; simp)
  case neq => subst h; exact fin (.bool (!(a == b))) (by simp [binOp, Op.stringOp, ByteArray.toList_mk]) (by intro im; simp only [Rep]; congr 1; rw [Bool.eq_iff_iff]; simp)
  all_goals (subst h; exact fin _ (by simp [binOp, Op.stringOp, ByteArray.toList_mk]; rfl) (by simp [Rep]))

theorem run_bin {P : Program} {w : World} {im : Nat → Prop} {op : BinOp} {t : TypeId} {x y : Operand} {p q r : PV} {a b : Value} (h : evalBin P op t p q = some r) (ha : Rep w im p a) (hb : Rep w im q b) :
    ∃ v, (do eqGuard op t x y a b; binOp op t a b : Sem Value).run P w = .ok v w ∧ Rep w im r v := by
  have ptr : ∀ (u : Option Addr) (v : Value) (r' : Bool), isPtr P t = true → a = .pointer u → b = .pointer none → r' = u.isNone →
      evalNil op r' = some r → ∃ v, (do eqGuard op t x y a b; binOp op t a b : Sem Value).run P w = .ok v w ∧ Rep w im r v := by
    intro u v r' hp e1 e2 e3 e4
    subst e1; subst e2
    have hu : P.underlying t = some (.pointer (P.pointee t)) := by
      unfold isPtr at hp
      split at hp
      · rename_i e he
        rw [he]; simp [Program.pointee, he]
      · simp at hp
    cases op <;> simp only [evalNil, Option.some.injEq, reduceCtorEq] at e4
    · subst e4
      exact ⟨.bool u.isNone, by simp [run_guard_other, run_eql_pointer_nil w t u hu], by simp [Rep, e3]⟩
    · subst e4
      exact ⟨.bool (!u.isNone), by simp [run_guard_other, run_neq_pointer_nil w t u hu], by simp [Rep, e3]⟩
  cases p <;> cases q <;> first | (simp only [evalBin, reduceCtorEq] at h; done) | skip
  case int.int k a' k' b' =>
    simp only [evalBin] at h
    by_cases hk : k = k'
    · rw [if_pos hk] at h; subst hk
      simp only [Rep] at ha hb; subst ha; subst hb
      obtain ⟨v, h1, h2⟩ := run_int (P := P) (w := w) (op := op) (t := t) (x := x) (y := y) h
      exact ⟨v, h1, h2 im⟩
    · rw [if_neg hk] at h; simp at h
  case str.str a' b' =>
    simp only [evalBin] at h
    simp only [Rep] at ha hb; subst ha; subst hb
    obtain ⟨v, h1, h2⟩ := run_str (P := P) (w := w) (op := op) (t := t) (x := x) (y := y) h
    exact ⟨v, h1, h2 im⟩
  case bool.bool a' b' =>
    simp only [evalBin] at h
    simp only [Rep] at ha hb; subst ha; subst hb
    split at h
    · rename_i hb
      have hu : P.underlying t = some .bool := by
        unfold isBool at hb
        split at hb
        · assumption
        · simp at hb
      cases op <;> simp only [Option.some.injEq, reduceCtorEq] at h
      · subst h; exact ⟨_, by simp [run_guard_other, run_eql_bool w t a' b' hu]; rfl, by simp [Rep]⟩
      · subst h; exact ⟨_, by simp [run_guard_other, run_neq_bool w t a' b' hu]; rfl, by simp [Rep]⟩
    · simp at h
  case nilp.nilp =>
    simp only [evalBin] at h
    simp only [Rep] at ha hb
    split at h
    · rename_i hp; exact ptr none a true hp ha hb rfl h
    · simp at h
  case ref.nilp cs =>
    simp only [evalBin] at h
    simp only [Rep] at ha hb
    obtain ⟨b', off, e, _⟩ := ha
    split at h
    · rename_i hp; exact ptr (some _) a false hp e hb rfl h
    · simp at h
  case mp.nilp b' off =>
    simp only [evalBin] at h
    simp only [Rep] at ha hb
    split at h
    · rename_i hp; exact ptr (some _) a false hp ha hb rfl h
    · simp at h

/-! Fields, elements, cuts -/
def fieldAddrPV (P : Program) (s f : Nat) : PV → Option PV
  | .ref cs => match fieldOff P s f with
    | some (off, _, _) => if off ≤ cs.length then some (.ref (cs.drop off)) else none
    | none => none
  | .mp b o => match fieldOff P s f with
    | some (off, _, _) => some (.mp b (o + off))
    | none => none
  | _ => none

theorem add_addr (b o k : Nat) : (⟨b, o, none⟩ : Addr).add k = ⟨b, o + k, none⟩ := by unfold Addr.add; split <;> simp_all

theorem run_fieldAt {P : Program} {w : World} {im : Nat → Prop} {s f : Nat} {p r : PV} {v : Value} (h : fieldAddrPV P s f p = some r) (hp : Rep w im p v) : ∃ u, (Instr.fieldAt s v f).run P w = .ok u w ∧ Rep w im r u := by
  have key : ∀ off i g, fieldOff P s f = some (off, i, g) → ∀ b o, (Instr.fieldAt s (.pointer (some ⟨b, o, none⟩)) f).run P w = .ok (.pointer (some ⟨b, o + off, none⟩)) w := by
    intro off i g hf b o
    unfold fieldOff at hf
    split at hf
    · rename_i fs hu
      split at hf
      · rename_i x hx
        split at hf
        · rename_i inf hi
          split at hf
          · simp at hf
          · rename_i hz
            cases hg : aggSize P x.type with
            | none => rw [hg] at hf; simp at hf
            | some g' =>
              rw [hg] at hf; simp at hf
              obtain ⟨rfl, rfl, rfl⟩ := hf
              simp [Instr.fieldAt, run_under hu, hx, Instr.sureAddr, fieldPlace, run_sizeOf' hi, hz, add_addr]
        · simp at hf
      · simp at hf
    · simp at hf
  unfold fieldAddrPV at h
  split at h
  · rename_i cs
    split at h
    · rename_i off i g hf
      split at h
      · rename_i hle
        simp at h; subst h
        simp only [Rep] at hp
        obtain ⟨b, o, rfl, h1, h2, h3⟩ := hp
        exact ⟨_, key off i g hf b o, by simp only [Rep]; exact ⟨b, o + off, rfl, h1, h2, repAt_drop off h3⟩⟩
      · simp at h
    · simp at h
  · rename_i b o
    split at h
    · rename_i off i g hf
      simp at h; subst h
      simp only [Rep] at hp; subst hp
      exact ⟨_, key off i g hf b o, by simp [Rep]⟩
    · simp at h
  · simp at h

def fieldPV (P : Program) (s f : Nat) : PV → Option PV
  | .agg cs => match fieldOff P s f with
    | some (off, size, none) => cs[off]?
    | some (off, size, some _) => some (.agg ((cs.take (off + size)).drop off))
    | none => none
  | _ => none
theorem run_field {P : Program} {w : World} {im : Nat → Prop} {s f : Nat} {p r : PV} {v : Value} (h : fieldPV P s f p = some r) (hp : Rep w im p v) : ∃ u, (Instr.field s v f).run P w = .ok u w ∧ Rep w im r u := by
  cases p <;> simp only [fieldPV, reduceCtorEq] at h
  rename_i cs
  simp only [Rep] at hp
  obtain ⟨arr, rfl, hv⟩ := hp
  have key : ∀ off i g, fieldOff P s f = some (off, i, g) → ∃ (fs : Array Field) (x : Field) (inf : TypeInfo), P.underlying s = some (.struct fs) ∧ fs[f]? = some x ∧ P.info? x.type = some inf ∧ aggSize P x.type = some g ∧ x.offset = off ∧ inf.size = i := by
    intro off i g hf
    unfold fieldOff at hf
    split at hf
    · rename_i fs hu
      split at hf
      · rename_i x hx
        split at hf
        · rename_i inf hi
          split at hf
          · simp at hf
          · rename_i hz
            cases hg : aggSize P x.type with
            | none => rw [hg] at hf; simp at hf
            | some g' =>
              rw [hg] at hf; simp at hf
              obtain ⟨h1, h2, h3⟩ := hf
              exact ⟨fs, x, inf, hu, hx, hi, by rw [hg, h3], h1, h2⟩
        · simp at hf
      · simp at hf
    · simp at hf
  have agg_of : ∀ {t : TypeId} {g : Option Nat}, aggSize P t = some g → (isAgg t).run P w = .ok g.isSome w := by
    intro t g hg
    unfold aggSize at hg
    cases hu : P.underlying t with
    | none => rw [hu] at hg; simp at hg
    | some d =>
      rw [hu] at hg
      cases d <;> simp only [Option.map_eq_map] at hg
      case struct fs =>
        cases hi : P.info? t with
        | none => rw [hi] at hg; simp at hg
        | some i => rw [hi] at hg; simp at hg; subst hg; simp [isAgg, run_under hu]
      case array n e =>
        cases hi : P.info? t with
        | none => rw [hi] at hg; simp at hg
        | some i => rw [hi] at hg; simp at hg; subst hg; simp [isAgg, run_under hu]
      all_goals (simp at hg; subst hg; simp [isAgg, run_under hu])
  split at h
  · rename_i off size hf
    obtain ⟨fs, x, inf, h1, h2, h3, h4, h5, h6⟩ := key _ _ _ hf
    obtain ⟨u, hu, hr⟩ := repVals_get hv h
    refine ⟨u, ?_, hr⟩
    subst h5
    simp at hu
    simp [Instr.field, run_under h1, h2, asAgg, part, agg_of h4, hu]
  · rename_i off size g hf
    obtain ⟨fs, x, inf, h1, h2, h3, h4, h5, h6⟩ := key _ _ _ hf
    simp at h; subst h
    subst h5; subst h6
    refine ⟨.agg (arr.extract x.offset (x.offset + inf.size)), ?_, ?_⟩
    · simp [Instr.field, run_under h1, h2, asAgg, part, agg_of h4, run_sizeOf' h3]
    · simp only [Rep]
      refine ⟨_, rfl, ?_⟩
      have := repVals_drop x.offset (repVals_take (x.offset + inf.size) hv)
      have e : (arr.extract x.offset (x.offset + inf.size)).toList = (arr.toList.take (x.offset + inf.size)).drop x.offset := by
        simp [List.drop_take]
      rwa [e]
  · simp at h

def indexAddrPV (P : Program) (t : TypeId) : PV → PV → Option PV
  | .slice sz rows, .int k i => if elemSize P t = some sz ∧ 0 ≤ i then rows[i.toNat]?.map .ref else none
  | .vec b n cap, .int k i => match elemSize P t with
    | some sz => if 0 ≤ i ∧ i < n then some (.mp b (i.toNat * sz)) else none
    | none => none
  | _, _ => none
theorem elemSize_spec {P : Program} {t : TypeId} {sz : Nat} (h : elemSize P t = some sz) : ∃ e i, P.underlying t = some (.slice e) ∧ P.info? e = some i ∧ i.size = sz := by
  unfold elemSize at h
  split at h
  · rename_i e hu
    cases hi : P.info? e with
    | none => rw [hi] at h; simp at h
    | some i => rw [hi] at h; simp at h; exact ⟨e, i, hu, hi, h⟩
  · simp at h
theorem run_indexAt {P : Program} {w : World} {im : Nat → Prop} {t : TypeId} {p q r : PV} {v u : Value} (h : indexAddrPV P t p q = some r) (hp : Rep w im p v) (hq : Rep w im q u) : ∃ x, (Instr.indexAt t v u).run P w = .ok x w ∧ Rep w im r x := by
  unfold indexAddrPV at h
  split at h
  · rename_i sz rows k i
    split at h
    · rename_i hc
      obtain ⟨he, h0⟩ := hc
      obtain ⟨e, inf, hu, hi, hsz⟩ := elemSize_spec he
      simp only [Rep] at hp hq
      subst hq
      obtain ⟨a, c, rfl, h1, h2, h3⟩ := hp
      cases hx : rows[i.toNat]? with
      | none => rw [hx] at h; simp at h
      | some row =>
        rw [hx] at h; simp at h; subst h
        have hlt : i.toNat < rows.length := (List.getElem?_eq_some_iff.1 hx).1
        rcases h3 with h3 | ⟨b, off, rfl, hi1, hi2, hr⟩
        · subst h3; simp at hlt
        · obtain ⟨hl, hat⟩ := repRows_get hr hx
          have hlt' : i < (rows.length : Int) := by omega
          refine ⟨.pointer (some ⟨b, off + i.toNat * sz, none⟩), ?_, ?_⟩
          · simp [Instr.indexAt, asIntOf, run_under hu, h0, hlt', run_sizeOf' hi, hsz, add_addr]
          · simp only [Rep]; exact ⟨b, _, rfl, hi1, hi2, hat⟩
    · simp at h
  · rename_i b n cap k i
    split at h
    · rename_i sz he
      obtain ⟨e, inf, hu, hi, hsz⟩ := elemSize_spec he
      split at h
      · rename_i hc
        simp at h; subst h
        simp only [Rep] at hp hq
        subst hq; subst hp
        refine ⟨.pointer (some ⟨b, i.toNat * sz, none⟩), ?_, by simp [Rep]⟩
        simp [Instr.indexAt, asIntOf, run_under hu, hc.1, hc.2, run_sizeOf' hi, hsz, add_addr]
      · simp at h
    · simp at h
  · simp at h

def indexPV (P : Program) (t : TypeId) : PV → PV → Option PV
  | .str s, .int k i => if isStr P t = true ∧ 0 ≤ i then s[i.toNat]?.map fun c => .int .u8 (c.toNat : Int) else none
  | _, _ => none
theorem isStr_spec {P : Program} {t : TypeId} (h : isStr P t = true) : P.underlying t = some .string := by
  unfold isStr at h
  split at h
  · assumption
  · simp at h
theorem run_index' {P : Program} {w : World} {im : Nat → Prop} {t : TypeId} {p q r : PV} {v u : Value} (h : indexPV P t p q = some r) (hp : Rep w im p v) (hq : Rep w im q u) : ∃ x, (Instr.index t v u).run P w = .ok x w ∧ Rep w im r x := by
  unfold indexPV at h
  split at h
  · rename_i s k i
    split at h
    · rename_i hc
      have hu := isStr_spec hc.1
      simp only [Rep] at hp hq
      subst hp; subst hq
      cases hx : s[i.toNat]? with
      | none => rw [hx] at h; simp at h
      | some c =>
        rw [hx] at h; simp at h; subst h
        have hlt : i.toNat < s.length := (List.getElem?_eq_some_iff.1 hx).1
        refine ⟨.int .u8 (c.toNat : Int), ?_, by simp [Rep]⟩
        rw [run_index_string w t _ k i hu, dif_pos ⟨hc.2, by simp [ByteArray.size]; omega⟩]
        have e : (⟨s.toArray⟩ : ByteArray)[i.toNat]'(by simpa [ByteArray.size] using hlt) = c := by
          have := (List.getElem?_eq_some_iff.1 hx).2
          simpa [ByteArray.getElem_eq_getElem_data] using this
        rw [e]
    · simp at h
  · simp at h

/-- The two ends of a cut. -/
def bound (σ : Nat → PV) (d : Nat) : Option Operand → Option Nat
  | none => some d
  | some x => match ev σ x with
    | .int _ i => if 0 ≤ i then some i.toNat else none
    | _ => none
def slicePV (P : Program) (t : TypeId) (lo hi : Option Nat) : PV → Option PV
  | .str s => match isStr P t, lo, hi with
    | true, some l, some h => if l ≤ h ∧ h ≤ s.length then some (.str ((s.take h).drop l)) else none
    | _, _, _ => none
  | .slice sz rows => match lo, hi with
    | some l, some h => if elemSize P t = some sz ∧ l ≤ h ∧ h ≤ rows.length then some (.slice sz ((rows.take h).drop l)) else none
    | _, _ => none
  | _ => none
def lenPV (P : Program) (t : TypeId) : PV → Option PV
  | .str s => if isStr P t then some (.int .i64 (s.length : Int)) else none
  | .slice sz rows => if isSl P t then some (.int .i64 (rows.length : Int)) else none
  | .sl0 => if isSl P t then some (.int .i64 0) else none
  | .vec b n cap => if isSl P t then some (.int .i64 (n : Int)) else none
  | _ => none
theorem isSl_spec {P : Program} {t : TypeId} (h : isSl P t = true) : ∃ e, P.underlying t = some (.slice e) := by
  unfold isSl at h
  split at h
  · rename_i e he; exact ⟨e, he⟩
  · simp at h
theorem run_len {P : Program} {w : World} {im : Nat → Prop} {ts : Array TypeId} {t ty : TypeId} {p r : PV} {v : Value} (ht : ts[0]? = some t) (h : lenPV P t p = some r) (hp : Rep w im p v) : ∃ x, (Builtin.len_ ts ty #[v]).run P w = .ok x w ∧ Rep w im r x := by
  unfold lenPV at h
  split at h <;> try (simp at h; done)
  all_goals split at h <;> try (simp at h; done)
  all_goals (rename_i hc; simp at h; subst h; simp only [Rep] at hp)
  · have hu := isStr_spec hc
    subst hp
    exact ⟨_, by simp [Builtin.len_, ht, run_under hu]; rfl, by simp [Rep, goInt, ByteArray.size]⟩
  · obtain ⟨e, hu⟩ := isSl_spec hc
    obtain ⟨a, c, rfl, _⟩ := hp
    exact ⟨_, by simp [Builtin.len_, ht, run_under hu]; rfl, by simp [Rep, goInt]⟩
  · obtain ⟨e, hu⟩ := isSl_spec hc
    obtain ⟨a, rfl⟩ := hp
    exact ⟨_, by simp [Builtin.len_, ht, run_under hu]; rfl, by simp [Rep, goInt]⟩
  · obtain ⟨e, hu⟩ := isSl_spec hc
    subst hp
    exact ⟨_, by simp [Builtin.len_, ht, run_under hu]; rfl, by simp [Rep, goInt]⟩
end Go.Proofs.Ytcbonfgkfiapaaa.Pv
