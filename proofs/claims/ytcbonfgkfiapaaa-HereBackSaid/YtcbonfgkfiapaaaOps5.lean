/- One function that tells what an operation without effect gives, shown to be what the machine does. -/
import Derived.Test.YtcbonfgkfiapaaaOps4
set_option linter.unusedVariables false
set_option linter.unusedSimpArgs false
namespace Go.Proofs.Ytcbonfgkfiapaaa.Pv
open Go Go.RowKit

def partsPV (σ : Nat → PV) (ps : Array (Nat × Operand)) : List (Nat × PV) := ps.toList.map fun x => (x.1, ev σ x.2)

def evalNilCheck : PV → Option PV
  | .ref cs => some (.ref cs)
  | .mp b o => some (.mp b o)
  | .iface t v => some (.iface t v)
  | .fn (.func f) a b => some (.fn (.func f) a b)
  | _ => none
def evalUn : UnOp → PV → Option PV
  | .not, .bool b => some (.bool (!b))
  | .neg, .int k n => some (.int k (k.wrap (0 - n)))
  | _, _ => none
def evalMax : PV → PV → Option PV
  | .int k a, .int _ b => some (.int k (if b > a then b else a))
  | _, _ => none
def evalMin : PV → PV → Option PV
  | .int k a, .int _ b => some (.int k (if b < a then b else a))
  | _, _ => none
def evalPick : PV → PV → PV → Option PV
  | .bool t, a, b => some (if t then a else b)
  | _, _, _ => none
def evalLoad (P : Program) (t : TypeId) : PV → Option PV
  | .ref cs => loadPV P t cs
  | _ => none
def evalExtract (i : Nat) : PV → Option PV
  | .tup vs => vs[i]?
  | _ => none
def evalSlice (P : Program) (t : TypeId) (σ : Nat → PV) (lo hi : Option Operand) (p : PV) : Option PV :=
  match lenPV P t p with
  | some (.int _ d) => slicePV P t (bound σ 0 lo) (bound σ d.toNat hi) p
  | _ => none
def evalBuiltin (P : Program) (b : Builtin) (ts : Array TypeId) : List PV → Option PV
  | [p] => match b, ts[0]? with
    | .len, some t => lenPV P t p
    | _, _ => none
  | [p, q] => match b with
    | .max => evalMax p q
    | .min => evalMin p q
    | _ => none
  | _ => none

def evalOp (P : Program) (σ : Nat → PV) : Op → Option PV
  | .move x => some (ev σ x)
  | .assign x => some (ev σ x)
  | .pick c a b => evalPick (ev σ c) (ev σ a) (ev σ b)
  | .box _ x => (cellsOf (ev σ x)).map .ref
  | .build t ps => if structOk P t then buildPV P t (partsPV σ ps) else none
  | .buildSlice t n ps => buildSlicePV P t n (partsPV σ ps)
  | .load t x => evalLoad P t (ev σ x)
  | .nilCheck x => evalNilCheck (ev σ x)
  | .binOp op t x y _ => evalBin P op t (ev σ x) (ev σ y)
  | .unOp op _ x => evalUn op (ev σ x)
  | .convert s d x => if (P.underlying s).isSome then convPV P s d (ev σ x) else none
  | .makeInterface t x => if P.concrete t then some (.iface t (ev σ x)) else none
  | .makeFunc f a b => some (.fn f (a.toList.map (ev σ)) (b.toList.map (ev σ)))
  | .slice t x lo hi none => evalSlice P t σ lo hi (ev σ x)
  | .fieldAddr s x f => fieldAddrPV P s f (ev σ x)
  | .field t x f => fieldPV P t f (ev σ x)
  | .indexAddr t x i => indexAddrPV P t (ev σ x) (ev σ i)
  | .index t x i => indexPV P t (ev σ x) (ev σ i)
  | .extract x i => evalExtract i (ev σ x)
  | .call { callee := .builtin b, args := as, argTypes := ts } => evalBuiltin P b ts (as.toList.map (ev σ))
  | _ => none

def GivesN (P : Program) (s : Sem Next) (w : World) (S : Heap) (p : PV) : Prop :=
  ∃ v w', s.run P w = .ok (.value v) w' ∧ Rep w' S.im p v ∧ Ext w S w' S ∧ ∀ b o, S b = some o → Holds w' S.im b o

theorem givesN_of {P : Program} {s : Sem Value} {w : World} {S : Heap} {p : PV} (h : Gives P s w S p) : GivesN P (do pure (.value (← s))) w S p := by
  obtain ⟨v, w', h1, h2⟩ := h
  exact ⟨v, w', by simp [h1], h2⟩

theorem rep_map {n : Nat} {w : World} {S : Heap} {a : Act} {σ : Nat → PV} (h : St n w S a σ) (xs : Array Operand) : RepVals w S.im (xs.toList.map (ev σ)) (xs.map a.eval).toList := by
  have : ∀ l : List Operand, RepVals w S.im (l.map (ev σ)) (l.map a.eval) := fun l => by
    induction l with
    | nil => simp [repVals_nil]
    | cons x l ih => simp only [List.map_cons]; rw [repVals_cons]; exact ⟨rep_ev h x, ih⟩
  simpa using this xs.toList

theorem parts_rep {n : Nat} {w : World} {S : Heap} {a : Act} {σ : Nat → PV} (h : St n w S a σ) (ps : Array (Nat × Operand)) :
    (partsPV σ ps).length = (ps.map fun (x : Nat × Operand) => (x.1, a.eval x.2)).toList.length ∧ ∀ (i f : Nat) (p : PV), (partsPV σ ps)[i]? = some (f, p) → ∃ v, (ps.map fun (x : Nat × Operand) => (x.1, a.eval x.2)).toList[i]? = some (f, v) ∧ Rep w S.im p v := by
  constructor
  · simp [partsPV]
  · intro i f p e
    simp only [partsPV, List.getElem?_map, Option.map_eq_some_iff] at e
    obtain ⟨x, hx, e⟩ := e
    simp at e
    obtain ⟨rfl, rfl⟩ := e
    exact ⟨a.eval x.2, by simp at hx; simp [hx], rep_ev h x.2⟩

theorem evalOp_sound {P : Program} {n : Nat} {w : World} {S : Heap} {a : Act} {σ : Nat → PV} (h : St n w S a σ) {o : Oper} {p : PV} (he : evalOp P σ o.op = some p) : GivesN P (execOp a.eval o) w S p := by
  obtain ⟨dst, op, type, pos, after, guard⟩ := o
  have hS := h.heap
  have same : ∀ {s : Sem Value} {v : Value}, s.run P w = .ok v w → Rep w S.im p v → GivesN P (do pure (.value (← s))) w S p := fun h1 h2 => givesN_of (gives_same hS h1 h2)
  cases op <;> simp only [evalOp, Option.some.injEq, reduceCtorEq] at he
  case move x => subst he; exact ⟨a.eval x, w, by simp [execOp], rep_ev h x, Ext.refl w S, hS⟩
  case assign x => subst he; exact ⟨a.eval x, w, by simp [execOp], rep_ev h x, Ext.refl w S, hS⟩
  case pick c x y =>
    have hr := rep_ev h c
    generalize ev σ c = q at he hr
    cases q <;> simp only [evalPick, reduceCtorEq] at he
    rename_i t
    simp only [Rep] at hr
    simp at he
    subst he
    refine ⟨if t then a.eval x else a.eval y, w, by simp [execOp, hr, asBool], ?_, Ext.refl w S, hS⟩
    cases t
    · exact rep_ev h y
    · exact rep_ev h x
  case box t x =>
    cases hc : cellsOf (ev σ x) with
    | none => rw [hc] at he; simp at he
    | some cs =>
      rw [hc] at he; simp at he; subst he
      have hv := rep_cells (rep_ev h x) hc
      obtain ⟨k1, k2⟩ := alloc_ext (w := w) (S := S) (.cells (a.eval x).cells t) hS
      refine ⟨.pointer (some ⟨w.heap.size, 0, none⟩), w.alloc (.cells (a.eval x).cells t), ?_, ?_, k1, k2⟩
      · simp [execOp, Instr.box, newVar, newRow]
      · simp only [Rep]
        exact ⟨w.heap.size, 0, rfl, not_im_new hS (Nat.le_refl _), by simp, repAt_block (alloc_block w _) (RepVals.keep k1.keeps _ hv)⟩
  case build t ps =>
    split at he
    case isFalse => simp at he
    rename_i hok
    obtain ⟨h1, h2⟩ := parts_rep h ps
    obtain ⟨u, hu, hr⟩ := run_build (P := P) (w := w) (im := S.im) hok h1 h2 he
    exact same (s := Instr.build t (ps.map fun (x : Nat × Operand) => (x.1, a.eval x.2))) hu hr
  case buildSlice t k ps =>
    obtain ⟨h1, h2⟩ := parts_rep h ps
    exact givesN_of (run_buildSlice (P := P) (w := w) (S := S) hS h1 h2 he)
  case load t x =>
    have hr := rep_ev h x
    generalize ev σ x = q at he hr
    cases q <;> simp only [evalLoad, reduceCtorEq] at he
    simp only [Rep] at hr
    obtain ⟨b, off, e, _, _, hat⟩ := hr
    obtain ⟨v, h1, h2⟩ := run_loadVar (P := P) hat he
    exact same (s := Instr.loadAt t (a.eval x)) (by simp [Instr.loadAt, e, Instr.sureAddr, h1]) h2
  case nilCheck x =>
    have hr := rep_ev h x
    generalize ev σ x = q at he hr
    cases q <;> simp only [evalNilCheck, Option.some.injEq, reduceCtorEq] at he
    case ref cs =>
      subst he
      have hr' := hr
      simp only [Rep] at hr
      obtain ⟨b, off, e, _⟩ := hr
      exact ⟨a.eval x, w, by simp [execOp, e], hr', Ext.refl w S, hS⟩
    case mp b o =>
      subst he
      have hr' := hr
      simp only [Rep] at hr
      exact ⟨a.eval x, w, by simp [execOp, hr], hr', Ext.refl w S, hS⟩
    case iface t v =>
      subst he
      have hr' := hr
      simp only [Rep] at hr
      obtain ⟨u, e, _⟩ := hr
      exact ⟨a.eval x, w, by simp [execOp, e], hr', Ext.refl w S, hS⟩
    case fn f fs cs =>
      cases f <;> simp only [evalNilCheck, Option.some.injEq, reduceCtorEq] at he
      subst he
      have hr' := hr
      simp only [Rep] at hr
      obtain ⟨fa, ca, e, _⟩ := hr
      exact ⟨a.eval x, w, by simp [execOp, e], hr', Ext.refl w S, hS⟩
  case binOp op t x y yt =>
    obtain ⟨v, h1, h2⟩ := run_bin (P := P) (w := w) (im := S.im) (x := x) (y := y) he (rep_ev h x) (rep_ev h y)
    exact same (s := do eqGuard op t x y (a.eval x) (a.eval y); binOp op t (a.eval x) (a.eval y)) h1 h2
  case unOp op t x =>
    have hr := rep_ev h x
    generalize ev σ x = q at he hr
    cases op <;> cases q <;> simp only [evalUn, Option.some.injEq, reduceCtorEq] at he
    · subst he; simp only [Rep] at hr
      exact same (s := Op.unary .neg (a.eval x)) (by simp [hr, Op.unary, Op.intArith]; rfl) (by simp [Rep])
    · subst he; simp only [Rep] at hr
      exact same (s := Op.unary .not (a.eval x)) (by simp [hr, Op.unary]; rfl) (by simp [Rep])
  case convert s d x =>
    split at he
    case isFalse => simp at he
    rename_i hs
    obtain ⟨dd, hdd⟩ := Option.isSome_iff_exists.1 hs
    obtain ⟨v, h1, h2⟩ := run_convert' (P := P) (w := w) (im := S.im) hdd he (rep_ev h x)
    exact same (s := convert s d (a.eval x)) h1 h2
  case makeInterface t x =>
    split at he
    case isFalse => simp at he
    rename_i hc
    simp at he; subst he
    exact same (s := Instr.makeInterface t (a.eval x)) (run_makeInterface w t _ hc) (by simp only [Rep]; exact ⟨_, rfl, rep_ev h x⟩)
  case makeFunc f fs cs =>
    subst he
    exact same (s := Instr.makeFunc f (fs.map a.eval) (cs.map a.eval)) (by simp [Instr.makeFunc]; rfl) (by simp only [Rep]; exact ⟨_, _, rfl, rep_map h fs, rep_map h cs⟩)
  case slice t x lo hi mx =>
    cases mx with
    | some m => simp [evalOp] at he
    | none =>
      simp only [evalOp, evalSlice] at he
      split at he
      case h_2 => simp at he
      rename_i k d hd
      have hlen : ∃ dn : Nat, d = (dn : Int) ∧ k = .i64 := by
        generalize ev σ x = q at hd
        cases q <;> simp only [lenPV, reduceCtorEq] at hd
        all_goals (split at hd <;> simp at hd)
        all_goals (obtain ⟨rfl, rfl⟩ := hd; first | exact ⟨_, rfl, rfl⟩ | exact ⟨0, rfl, rfl⟩)
      obtain ⟨dn, rfl, rfl⟩ := hlen
      simp only [Int.toNat_natCast] at he
      cases hb1 : bound σ 0 lo with
      | none => rw [hb1] at he; generalize ev σ x = q at he; cases q <;> simp [slicePV] at he
      | some l =>
        cases hb2 : bound σ dn hi with
        | none => rw [hb1, hb2] at he; generalize ev σ x = q at he; cases q <;> simp [slicePV] at he
        | some r =>
          rw [hb1, hb2] at he
          have g1 : (lo.map a.eval = none ∧ l = 0) ∨ ∃ k, lo.map a.eval = some (.int k (l : Int)) := by
            rcases bound_spec h hb1 with ⟨e, e'⟩ | ⟨o, k, e, e'⟩
            · exact Or.inl ⟨by simp [e], e'⟩
            · exact Or.inr ⟨k, by simp [e, e']⟩
          have g2 : (hi.map a.eval = none ∧ r = dn) ∨ ∃ k, hi.map a.eval = some (.int k (r : Int)) := by
            rcases bound_spec h hb2 with ⟨e, e'⟩ | ⟨o, k, e, e'⟩
            · exact Or.inl ⟨by simp [e], e'⟩
            · exact Or.inr ⟨k, by simp [e, e']⟩
          obtain ⟨u, h1, h2⟩ := run_sliceAt (P := P) (w := w) (im := S.im) (rep_ev h x) he g1 g2 hd
          exact same (s := Instr.sliceAt t (a.eval x) (lo.map a.eval) (hi.map a.eval) none) h1 h2
  case fieldAddr s x f =>
    obtain ⟨u, h1, h2⟩ := run_fieldAt (P := P) (w := w) (im := S.im) he (rep_ev h x)
    exact same (s := Instr.fieldAt s (a.eval x) f) h1 h2
  case field s x f =>
    obtain ⟨u, h1, h2⟩ := run_field (P := P) (w := w) (im := S.im) he (rep_ev h x)
    exact same (s := Instr.field s (a.eval x) f) h1 h2
  case indexAddr t x i =>
    obtain ⟨u, h1, h2⟩ := run_indexAt (P := P) (w := w) (im := S.im) he (rep_ev h x) (rep_ev h i)
    exact same (s := Instr.indexAt t (a.eval x) (a.eval i)) h1 h2
  case index t x i =>
    obtain ⟨u, h1, h2⟩ := run_index' (P := P) (w := w) (im := S.im) he (rep_ev h x) (rep_ev h i)
    exact same (s := Instr.index t (a.eval x) (a.eval i)) h1 h2
  case extract x i =>
    have hr := rep_ev h x
    generalize ev σ x = q at he hr
    cases q <;> simp only [evalExtract, reduceCtorEq] at he
    simp only [Rep] at hr
    obtain ⟨arr, e, hv⟩ := hr
    obtain ⟨v, h1, h2⟩ := repVals_get hv he
    exact same (s := Instr.extract (a.eval x) i) (by simp at h1; simp [Instr.extract, e, h1]) h2
  case call c =>
    obtain ⟨callee, args, ts⟩ := c
    cases callee <;> simp only [evalOp, reduceCtorEq] at he
    rename_i b
    have hargs := rep_map h args
    generalize hq : args.toList.map (ev σ) = qs at he hargs
    match qs, he with
    | [], he => simp [evalBuiltin] at he
    | [q], he =>
      obtain ⟨v, hv⟩ : ∃ v, (args.map a.eval) = #[v] := by
        have := repVals_length hargs
        have hl : (args.map a.eval).size = 1 := by simpa using this
        exact ⟨(args.map a.eval)[0], by ext i hi1 hi2; simpa using hl; (have : i = 0 := by simp at hi2; exact hi2); subst this; simp⟩
      have hr : Rep w S.im q v := by
        rw [hv] at hargs
        exact (repVals_cons.1 hargs).1
      simp only [evalBuiltin] at he
      cases b <;> first | (simp only [reduceCtorEq] at he; done) | skip
      cases ht : ts[0]? with
      | none => rw [ht] at he; simp at he
      | some t =>
        rw [ht] at he
        obtain ⟨u, h1, h2⟩ := run_len (P := P) (w := w) (im := S.im) (ts := ts) (t := t) (ty := type) ht he hr
        refine ⟨u, w, ?_, h2, Ext.refl w S, hS⟩
        simp [execOp, resolve, invoke, builtin, hv, h1]
    | [q, q'], he =>
      obtain ⟨v, v', hv⟩ : ∃ v v', (args.map a.eval) = #[v, v'] := by
        have := repVals_length hargs
        have hl : (args.map a.eval).size = 2 := by simpa using this
        refine ⟨(args.map a.eval)[0], (args.map a.eval)[1], ?_⟩
        ext i hi1 hi2
        · simpa using hl
        · have : i = 0 ∨ i = 1 := by simp at hi2; omega
          rcases this with rfl | rfl <;> simp
      have hr : Rep w S.im q v ∧ Rep w S.im q' v' := by
        rw [hv] at hargs
        have := repVals_cons.1 hargs
        exact ⟨this.1, (repVals_cons.1 this.2).1⟩
      simp only [evalBuiltin] at he
      cases b <;> first | (simp only [reduceCtorEq] at he; done) | skip
      · cases q <;> cases q' <;> simp only [evalMax, Option.some.injEq, reduceCtorEq] at he
        subst he
        simp only [Rep] at hr
        obtain ⟨e1, e2⟩ := hr
        subst e1; subst e2
        refine ⟨_, w, ?_, by simp only [Rep]; rfl, Ext.refl w S, hS⟩
        simp [execOp, resolve, invoke, builtin, hv, run_max_int2]
      · cases q <;> cases q' <;> simp only [evalMin, Option.some.injEq, reduceCtorEq] at he
        subst he
        simp only [Rep] at hr
        obtain ⟨e1, e2⟩ := hr
        subst e1; subst e2
        refine ⟨_, w, ?_, by simp only [Rep]; rfl, Ext.refl w S, hS⟩
        simp [execOp, resolve, invoke, builtin, hv, run_min_int2]
    | _ :: _ :: _ :: _, he => simp [evalBuiltin] at he

end Go.Proofs.Ytcbonfgkfiapaaa.Pv
