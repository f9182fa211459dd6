/- Maps of texts: what they are told by, and what the operations on them do. -/
import Derived.Test.YtcbonfgkfiapaaaBldr
import Derived.Maps.OwnSet
import Derived.StringKeys
set_option linter.unusedVariables false
set_option linter.unusedSimpArgs false
namespace Go.Proofs.Ytcbonfgkfiapaaa.Pv
open Go Go.RowKit Go.Maps

abbrev Txt := List UInt8
abbrev TMap := List (Txt × Txt)
/-- Entries, in the order of their keys. -/
def insA (k v : Txt) : TMap → TMap
  | [] => [(k, v)]
  | y :: r => if bytesBefore k y.1 then (k, v) :: y :: r else y :: insA k v r
def delA (k : Txt) (l : TMap) : TMap := l.filter fun x => !(x.1 == k)
def setA (k v : Txt) (l : TMap) : TMap := insA k v (delA k l)
def getA (k : Txt) (l : TMap) : Option Txt := (l.find? fun x => x.1 == k).map (·.2)
def entA (x : Txt × Txt) : Lit × DataW Unit := (.string x.1, .lit (.string x.2))
def dOf (l : TMap) : DataW Unit := .map (l.map entA)
theorem insA_len (k v : Txt) : ∀ l, (insA k v l).length = l.length + 1
  | [] => rfl
  | y :: r => by unfold insA; split <;> simp [insA_len k v r]
theorem dOf_ins (k v : Txt) : ∀ l : TMap, DataW.insert (entA (k, v)) (l.map entA) = (insA k v l).map entA
  | [] => rfl
  | y :: r => by
    have e : Lit.before (entA (k, v)).1 (entA y).1 = bytesBefore k y.1 := rfl
    simp only [List.map_cons, DataW.insert, insA, e]
    split
    · rfl
    · rw [dOf_ins k v r]; rfl
theorem dOf_filter (k : Txt) : ∀ l : TMap, (l.map entA).filter (fun p => !p.1.sameKey (.string k)) = (delA k l).map entA
  | [] => rfl
  | y :: r => by
    have e : Lit.sameKey (entA y).1 (.string k) = (y.1 == k) := rfl
    have ih := dOf_filter k r
    unfold delA at ih ⊢
    simp only [List.map_cons, List.filter_cons, e]
    split
    · simp only [List.map_cons, ih]
    · exact ih
theorem dOf_put (k v : Txt) (l : TMap) : (dOf l).put (.string k) (.lit (.string v)) = dOf (setA k v l) := by
  unfold dOf DataW.put setA
  simp only [dOf_filter, ← dOf_ins]
  rfl
theorem dOf_del (k : Txt) (l : TMap) : (dOf l).del (.string k) = dOf (delA k l) := by
  unfold dOf DataW.del
  simp only [dOf_filter]
theorem dOf_at (k : Txt) : ∀ l : TMap, (dOf l).atKey (.string k) (.lit (.string [])) = .lit (.string ((getA k l).getD []))
  | [] => rfl
  | y :: r => by
    have e : Lit.sameKey (entA y).1 (.string k) = (y.1 == k) := rfl
    have ih := dOf_at k r
    unfold dOf DataW.atKey getA at ih ⊢
    simp only [List.map_cons, List.find?_cons, e]
    cases hb : y.1 == k with
    | true => rfl
    | false => exact ih
theorem dOf_has (k : Txt) : ∀ l : TMap, Maps.has (dOf l) (.string k) = (getA k l).isSome
  | [] => rfl
  | y :: r => by
    have e : Lit.sameKey (entA y).1 (.string k) = (y.1 == k) := rfl
    have ih := dOf_has k r
    unfold dOf Maps.has getA at ih ⊢
    simp only [List.map_cons, List.find?_cons, List.any_cons, e]
    cases hb : y.1 == k with
    | true => rfl
    | false => simpa using ih
theorem dOf_size (l : TMap) : Maps.size (dOf l) = l.length := by simp [dOf, Maps.size]

/-- A block that holds a map from texts to texts, with these entries. -/
def MapS (P : Program) (k e : TypeId) (n : Nat) (l : TMap) (o : MObj) : Prop :=
  ∃ es clock, o = .raw (.map es clock) ∧ WideElems.Fit P k (plainElem (H := Unit) P e) es clock ∧ es.size ≤ n ∧ dOf l = .map ((es.toList.map (WideElems.rg P k (plainElem P e))).foldr DataW.insert [])
theorem MapS.owns {P : Program} {k e : TypeId} {n : Nat} {l : TMap} {o : MObj} (h : MapS P k e n l o) {w : World} {im : Nat → Prop} {b : Nat} (hh : Holds w im b o) : w.ownsMap P k (plainElem P e) b n (dOf l) := by
  obtain ⟨es, clock, rfl, h1, h2, h3⟩ := h
  exact ⟨es, clock, hh, h1, h2, h3⟩
theorem MapS.of {P : Program} {k e : TypeId} {n : Nat} {l : TMap} {w : World} {b : Nat} (h : w.ownsMap P k (plainElem P e) b n (dOf l)) : ∃ o, w.heap[b]? = some o ∧ MapS P k e n l (.raw o) := by
  obtain ⟨es, clock, hb, h1, h2, h3⟩ := h
  exact ⟨_, hb, es, clock, rfl, h1, h2, h3⟩
theorem MapS.raw {P : Program} {k e : TypeId} {n : Nat} {l : TMap} {o : MObj} (h : MapS P k e n l o) : ∃ x, o = .raw x := by
  obtain ⟨es, clock, rfl, _⟩ := h
  exact ⟨_, rfl⟩
theorem MapS.mono {P : Program} {k e : TypeId} {n n' : Nat} {l : TMap} {o : MObj} (h : MapS P k e n l o) (hn : n ≤ n') : MapS P k e n' l o := by
  obtain ⟨es, clock, h0, h1, h2, h3⟩ := h
  exact ⟨es, clock, h0, h1, Nat.le_trans h2 hn, h3⟩
theorem MapS.none (P : Program) (k e : TypeId) : MapS P k e 0 [] (.raw (.map #[] 0)) := by
  refine ⟨#[], 0, rfl, ⟨by simp, Go.MapKept.stamped_empty 0, by simp⟩, Nat.le_refl _, rfl⟩

/-- What a map's type is like. -/
structure MapT (P : Program) (t k e : TypeId) : Prop where
  map : P.underlying t = some (.map k e)
  key : P.underlying k = some .string
  elem : P.underlying e = some .string
  zero : ∀ w, (zeroValue e).run P w = .ok (.string ⟨#[]⟩) w

section
variable {P : Program} {n : Nat} {mb : Tmp → Bool} {R : Post} {σ : Regs} {S : Heap}
theorem OpA_QV {o : Oper} {K : Regs → Heap → Prop} {p : PV} (h : QV P o σ S p) (hd : okDst n o.dst = true) (hK : K (updO σ o.dst p) S) : OpA P n o σ S K := by
  intro w0 S0 w a hs hx next Qx hnext
  refine h n σ w a (fun _ _ => rfl) hs next Qx fun v w' h1 h2 h3 => ?_
  exact hnext _ w' _ S ((hs.ext h2 h3).put (okDst_spec hd) h1) (hx.trans h2) hK
theorem OpW_QV {ds : List (Option Tmp)} {l : List Oper} {k : List It} {o : Oper} {p : PV} (h : QV P o σ S p) (hd : okDst n o.dst = true) (hK : W P n mb R (.ops ds l :: k) (updO σ o.dst p) S) : OpW P n mb R o ds l k σ S :=
  OpW_of (OpA_QV h hd hK)
theorem QV_run {o : Oper} {p : PV} (h : ∀ n σ' w a, (∀ t ∈ tmpsOf o, σ' t = σ t) → St n w S a σ' → ∃ v, (execOp a.eval o).run P w = .ok (.value v) w ∧ Rep w S.im p v) : QV P o σ S p := by
  intro n σ' w a hag hs next Qx hn
  obtain ⟨v, h1, h2⟩ := h n σ' w a hag hs
  simp only [Oper.wp, h1, Oper.upon]
  exact hn v w h2 (Ext.refl w S) hs.heap
theorem string_inv {e : TypeId} (he : P.underlying e = some .string) {v : Value} {d : DataW Unit} {ps : List MemPlace} (h : plainElem P e v = some (d, ps)) {s : Txt} (hd : d = .lit (.string s)) : v = .string ⟨s.toArray⟩ := by
  unfold plainElem at h
  rw [he] at h
  cases v <;> simp at h
  rename_i x
  obtain ⟨_, rfl, _⟩ := h
  simp only [DataW.lit.injEq, Lit.string.injEq] at hd
  subst hd
  cases x; simp
theorem key_str {k : TypeId} (hk : P.underlying k = some .string) {s : Txt} (hs : s.length ≤ maxLen) : keyOf P k (.string ⟨s.toArray⟩) = some (.string s) := by
  have := Go.WideMaps.keyOf_string_mk hk (s := ⟨s.toArray⟩) (by simpa [ByteArray.size] using hs)
  simpa using this
theorem elem_str {e : TypeId} (he : P.underlying e = some .string) {s : Txt} (hs : s.length ≤ maxLen) : plainElem (H := Unit) P e (.string ⟨s.toArray⟩) = some (.lit (.string s), []) := by
  have := plainElem_string (H := Unit) he (s := ⟨s.toArray⟩) (by simpa [ByteArray.size] using hs)
  simpa using this
theorem QV_lookupOk {o : Oper} {t kt e : TypeId} {m x : Operand} {b c : Nat} {l : TMap} {s : Txt} {ob : MObj} (ho : o.op = .lookup t m x true) (ht : MapT P t kt e) (hm : ev σ m = .omap b) (hb : S b = some ob) (hl : MapS P kt e c l ob) (hx : ev σ x = .str s) (hs : s.length ≤ maxLen) :
    QV P o σ S (.tup [.str ((getA s l).getD []), .bool (getA s l).isSome]) := by
  refine QV_run fun n σ' w a hag hst => ?_
  have hall : ∀ y ∈ o.op.operands.toList, ev σ' y = ev σ y := ev_congr hag
  have r1 := rep_ev hst m
  rw [hall m (by simp [ho, Op.operands]), hm] at r1
  have r2 := rep_ev hst x
  rw [hall x (by simp [ho, Op.operands]), hx] at r2
  simp only [Rep] at r1 r2
  have hown := hl.owns (hst.heap b _ hb)
  obtain ⟨v, ps, h1, h2⟩ := hown.look_ok (Maps.string_keyed ht.key) ht.map (ht.zero w) (plainElem_string ht.elem (s := ⟨#[]⟩) (by decide)) (key_str ht.key hs)
  have e1 := dOf_at s l
  have e2 := dOf_has s l
  rw [e1] at h2
  rw [e2] at h1
  have hv := string_inv ht.elem h2 rfl
  subst hv
  refine ⟨.tuple #[.string ⟨((getA s l).getD []).toArray⟩, .bool (getA s l).isSome], by simp only [execOp, ho, r1, r2, Sem.run_bind, h1, Result.andThen_ok, Sem.run_pure], ?_⟩
  simp only [Rep]
  exact ⟨_, rfl, repVals_cons.2 ⟨by simp [Rep], repVals_cons.2 ⟨by simp [Rep], repVals_nil.2 rfl⟩⟩⟩
theorem QV_lookup {o : Oper} {t kt e : TypeId} {m x : Operand} {b c : Nat} {l : TMap} {s : Txt} {ob : MObj} (ho : o.op = .lookup t m x false) (ht : MapT P t kt e) (hm : ev σ m = .omap b) (hb : S b = some ob) (hl : MapS P kt e c l ob) (hx : ev σ x = .str s) (hs : s.length ≤ maxLen) :
    QV P o σ S (.str ((getA s l).getD [])) := by
  refine QV_run fun n σ' w a hag hst => ?_
  have hall : ∀ y ∈ o.op.operands.toList, ev σ' y = ev σ y := ev_congr hag
  have r1 := rep_ev hst m
  rw [hall m (by simp [ho, Op.operands]), hm] at r1
  have r2 := rep_ev hst x
  rw [hall x (by simp [ho, Op.operands]), hx] at r2
  simp only [Rep] at r1 r2
  have hown := hl.owns (hst.heap b _ hb)
  obtain ⟨v, ps, h1, h2⟩ := hown.lookup (Maps.string_keyed ht.key) ht.map (ht.zero w) (plainElem_string ht.elem (s := ⟨#[]⟩) (by decide)) (key_str ht.key hs)
  have e1 := dOf_at s l
  rw [e1] at h2
  have hv := string_inv ht.elem h2 rfl
  subst hv
  refine ⟨.string ⟨((getA s l).getD []).toArray⟩, by simp only [execOp, ho, r1, r2, Sem.run_bind, h1, Result.andThen_ok, Sem.run_pure], ?_⟩
  simp only [Rep]
theorem QV_mapLen {o : Oper} {t kt e : TypeId} {m : Operand} {b c : Nat} {l : TMap} {ob : MObj} (ho : o.op = .call { callee := .builtin .len, args := #[m], argTypes := #[t] }) (ht : MapT P t kt e) (hm : ev σ m = .omap b) (hb : S b = some ob) (hl : MapS P kt e c l ob) :
    QV P o σ S (.int .i64 (l.length : Int)) := by
  refine QV_run fun n σ' w a hag hst => ?_
  have hall : ∀ y ∈ o.op.operands.toList, ev σ' y = ev σ y := ev_congr hag
  have r1 := rep_ev hst m
  rw [hall m (by simp [ho, Op.operands, Call.operands]), hm] at r1
  simp only [Rep] at r1
  have hown := hl.owns (hst.heap b _ hb)
  have h1 := hown.len ht.map o.type
  rw [dOf_size] at h1
  refine ⟨.int .i64 (l.length : Int), by simp only [execOp, ho, resolve, invoke, builtin, Sem.run_bind, Sem.run_pure, Result.andThen_ok, List.map_toArray, List.map_cons, List.map_nil, r1, h1], ?_⟩
  simp only [Rep]
theorem OpA_makeMap {o : Oper} {K : Regs → Heap → Prop} {t : TypeId} (ho : o.op = .makeMap t none) (hd : okDst n o.dst = true)
    (hK : ∀ b, S b = none → K (updO σ o.dst (.omap b)) (S.set b (.raw (.map #[] 0)))) : OpA P n o σ S K := by
  intro w0 S0 w a hs hx next Qx hnext
  have hrun : (execOp a.eval o).run P w = .ok (.value (.map (some w.heap.size))) (w.alloc (.map #[] 0)) := by
    simp only [execOp, ho, Instr.makeMap, Sem.run_bind, Option.map_none, Sem.run_pure, Result.andThen_ok]
    rfl
  obtain ⟨h1, h2, h3⟩ := new_block hs (.map #[] 0) (.raw (.map #[] 0)) (alloc_block w _)
  simp only [Oper.wp, hrun, Oper.upon]
  exact hnext _ _ _ _ (h2.put (okDst_spec hd) (by simp only [Rep])) (hx.trans h3) (hK _ h1)
theorem OpA_mapUpdate {o : Oper} {K : Regs → Heap → Prop} {t kt e : TypeId} {m x y : Operand} {b c : Nat} {l : TMap} {s v : Txt} {ob : MObj} (ho : o.op = .mapUpdate t m x y) (ht : MapT P t kt e) (hm : ev σ m = .omap b) (hb : S b = some ob) (hl : MapS P kt e c l ob)
    (hx : ev σ x = .str s) (hy : ev σ y = .str v) (hs : s.length ≤ maxLen) (hv : v.length ≤ maxLen) (hc : c < maxLen) (hd : okDst n o.dst = true) (hK : ∀ ob', MapS P kt e (c + 1) (setA s v l) ob' → K (updO σ o.dst .any) (S.set b ob')) : OpA P n o σ S K := by
  intro w0 S0 w a hst hext next Qx hnext
  have r1 := rep_ev hst m
  rw [hm] at r1
  have r2 := rep_ev hst x
  rw [hx] at r2
  have r3 := rep_ev hst y
  rw [hy] at r3
  simp only [Rep] at r1 r2 r3
  have hown := hl.owns (hst.heap b _ hb)
  obtain ⟨w', h1, h2, h3⟩ := hown.store (Maps.string_keyed ht.key) ht.map hc (key_str ht.key hs) (elem_str ht.elem hv)
  rw [dOf_put] at h2
  obtain ⟨ob', k1, k2⟩ := MapS.of h2
  obtain ⟨es, clock, es', clock', _, rfl⟩ := h3
  have hlt := (hst.heap b _ hb).lt
  have hself : (ChangeMaps.setBlock w b (.map es' clock')).heap[b]? = some (.map es' clock') := by simp [ChangeMaps.setBlock, hlt]
  rw [hself] at k1
  cases k1
  obtain ⟨g1, g2⟩ := set_block hst hb (.map es' clock') (.raw (.map es' clock')) (fun _ _ _ h => h)
  have hrun : (execOp a.eval o).run P w = .ok .skip (setBlk w b (.map es' clock')) := by
    simp only [execOp, ho, r1, r2, r3, Sem.run_bind, h1, Result.andThen_ok, Sem.run_pure]
    rfl
  simp only [Oper.wp, hrun, Oper.upon]
  exact hnext _ _ _ _ (g1.put (okDst_spec hd) (by simp only [Rep])) (hext.trans g2) (hK _ k2)
theorem OpA_mapDelete {o : Oper} {K : Regs → Heap → Prop} {t kt e : TypeId} {m x : Operand} {b c : Nat} {l : TMap} {s : Txt} {ob : MObj} (ho : o.op = .call { callee := .builtin .delete, args := #[m, x], argTypes := #[t, kt] }) (ht : MapT P t kt e) (hm : ev σ m = .omap b) (hb : S b = some ob) (hl : MapS P kt e c l ob)
    (hx : ev σ x = .str s) (hs : s.length ≤ maxLen) (hd : okDst n o.dst = true) (hK : ∀ ob', MapS P kt e c (delA s l) ob' → K (updO σ o.dst (.tup [])) (S.set b ob')) : OpA P n o σ S K := by
  intro w0 S0 w a hst hext next Qx hnext
  have r1 := rep_ev hst m
  rw [hm] at r1
  have r2 := rep_ev hst x
  rw [hx] at r2
  simp only [Rep] at r1 r2
  have hown := hl.owns (hst.heap b _ hb)
  obtain ⟨w', h1, h2, h3⟩ := hown.drop (Maps.string_keyed ht.key) ht.map (key_str ht.key hs) o.type
  rw [dOf_del] at h2
  obtain ⟨ob', k1, k2⟩ := MapS.of h2
  obtain ⟨es, clock, es', clock', _, rfl⟩ := h3
  have hlt := (hst.heap b _ hb).lt
  have hself : (ChangeMaps.setBlock w b (.map es' clock')).heap[b]? = some (.map es' clock') := by simp [ChangeMaps.setBlock, hlt]
  rw [hself] at k1
  cases k1
  obtain ⟨g1, g2⟩ := set_block hst hb (.map es' clock') (.raw (.map es' clock')) (fun _ _ _ h => h)
  have hrun : (execOp a.eval o).run P w = .ok (.value (.tuple #[])) (setBlk w b (.map es' clock')) := by
    simp only [execOp, ho, resolve, invoke, builtin, Sem.run_bind, Sem.run_pure, Result.andThen_ok, List.map_toArray, List.map_cons, List.map_nil, r1, r2, h1]
    rfl
  simp only [Oper.wp, hrun, Oper.upon]
  exact hnext _ _ _ _ (g1.put (okDst_spec hd) (by simp only [Rep]; exact ⟨_, rfl, repVals_nil.2 rfl⟩)) (hext.trans g2) (hK _ k2)
end
end Go.Proofs.Ytcbonfgkfiapaaa.Pv
