/- Operations on the call's own blocks: new ones, stores, iterators, appends. -/
import Derived.Test.YtcbonfgkfiapaaaDraw
import Derived.Maps.AppendAt
set_option linter.unusedVariables false
set_option linter.unusedSimpArgs false
namespace Go.Proofs.Ytcbonfgkfiapaaa.Pv
open Go Go.RowKit

theorem set_im {S : Heap} {b : Nat} {o : MObj} {c : Nat} (h : (S.set b o).im c) : S.im c := by
  unfold Heap.im Heap.set at h
  split at h
  · cases h
  · exact h
/-- A new block, told of. -/
theorem new_block {n : Nat} {w : World} {S : Heap} {a : Act} {σ : Regs} (h : St n w S a σ) (obj : Obj) (mo : MObj) (hm : Holds (w.alloc obj) (S.set w.heap.size mo).im w.heap.size mo) :
    S w.heap.size = none ∧ St n (w.alloc obj) (S.set w.heap.size mo) a σ ∧ Ext w S (w.alloc obj) (S.set w.heap.size mo) := by
  have hn : S w.heap.size = none := not_im_new h.heap (Nat.le_refl _)
  have he : Ext w S (w.alloc obj) (S.set w.heap.size mo) := ⟨rfl, rfl, rfl, by simp, fun b hb hs => ⟨by unfold Heap.set; rw [if_neg (by omega)]; exact hs, Below.heap_alloc _ _ _ hb⟩⟩
  refine ⟨hn, h.ext he fun b o hb => ?_, he⟩
  by_cases e : b = w.heap.size
  · subst e
    simp [Heap.set] at hb; subst hb; exact hm
  · simp only [Heap.set, if_neg e] at hb
    exact (h.heap b o hb).keep he.keeps (Below.heap_alloc _ _ _ (h.heap b o hb).lt)

section
variable {P : Program} {n : Nat} {σ : Regs} {S : Heap}
theorem OpA_alloc {o : Oper} {K : Regs → Heap → Prop} {t : TypeId} {cs : List PV} (ho : o.op = .alloc t) (hz : zeroCells P t = some cs) (hd : ∀ x, o.dst = some x → x < n)
    (hK : ∀ b, S b = none → K (updO σ o.dst (.mp b 0)) (S.set b (.cells cs t))) : OpA P n o σ S K := by
  intro w0 S0 w a hs hx next Qx hnext
  unfold zeroCells at hz
  cases hi : P.info? t with
  | none => rw [hi] at hz; simp at hz
  | some inf =>
    rw [hi] at hz; simp only at hz
    cases hzz : inf.zero with
    | none => rw [hzz] at hz; simp at hz
    | some z =>
      rw [hzz] at hz; simp only [Option.some.injEq] at hz
      have hrun : (execOp a.eval o).run P w = .ok (.value (.pointer (some ⟨w.heap.size, 0, none⟩))) (w.alloc (.cells z.cells t)) := by
        simp only [execOp, ho, Instr.alloc, Sem.run_bind, zeroValue, run_typeInfo hi, hzz, Result.andThen_ok, Sem.run_pure, newVar, newRow]
        rfl
      obtain ⟨h1, h2, h3⟩ := new_block hs (.cells z.cells t) (.cells cs t) ⟨z.cells, alloc_block w _, by
        rw [← hz]
        have := repVals_map (w := w.alloc (.cells z.cells t)) (im := (S.set w.heap.size (.cells (z.cells.toList.map ofCell) t)).im) ofCell id (rep_ofCell _ _) z.cells.toList
        simpa using this⟩
      simp only [Oper.wp, hrun, Oper.upon]
      exact hnext _ _ _ _ (h2.put hd (by simp only [Rep])) (hx.trans h3) (hK _ h1)
theorem OpA_boxM {o : Oper} {K : Regs → Heap → Prop} {t : TypeId} {x : Operand} {cs : List PV} (ho : o.op = .box t x) (hc : cellsOf (ev σ x) = some cs) (hd : ∀ x, o.dst = some x → x < n)
    (hK : ∀ b, S b = none → K (updO σ o.dst (.mp b 0)) (S.set b (.cells cs t))) : OpA P n o σ S K := by
  intro w0 S0 w a hs hx next Qx hnext
  have hv := rep_cells (rep_ev hs x) hc
  have hrun : (execOp a.eval o).run P w = .ok (.value (.pointer (some ⟨w.heap.size, 0, none⟩))) (w.alloc (.cells (a.eval x).cells t)) := by
    simp only [execOp, ho, Instr.box, Sem.run_bind, Result.andThen_ok, Sem.run_pure, newVar, newRow]
    rfl
  have he : Ext w S (w.alloc (.cells (a.eval x).cells t)) (S.set w.heap.size (.cells cs t)) := ⟨rfl, rfl, rfl, by simp, fun b hb hs => ⟨by unfold Heap.set; rw [if_neg (by omega)]; exact hs, Below.heap_alloc _ _ _ hb⟩⟩
  obtain ⟨h1, h2, h3⟩ := new_block hs (.cells (a.eval x).cells t) (.cells cs t) ⟨(a.eval x).cells, alloc_block w _, RepVals.keep he.keeps _ hv⟩
  simp only [Oper.wp, hrun, Oper.upon]
  exact hnext _ _ _ _ (h2.put hd (by simp only [Rep])) (hx.trans h3) (hK _ h1)

/-! Iterators over texts -/
theorem OpA_range {o : Oper} {K : Regs → Heap → Prop} {t : TypeId} {x : Operand} {l : List UInt8} (ho : o.op = .range t x) (ht : isStr P t = true) (hx : ev σ x = .str l) (hd : ∀ x, o.dst = some x → x < n)
    (hK : ∀ b, S b = none → K (updO σ o.dst (.mp b 0)) (S.set b (.iter l 0))) : OpA P n o σ S K := by
  intro w0 S0 w a hs hext next Qx hnext
  have hr := rep_ev hs x
  rw [hx] at hr; simp only [Rep] at hr
  have hrun : (execOp a.eval o).run P w = .ok (.value (.pointer (some ⟨w.heap.size, 0, none⟩))) (w.alloc (.stringIter ⟨l.toArray⟩ 0)) := by
    simp only [execOp, ho, Instr.range, Sem.run_bind, run_under (isStr_spec ht), hr, Result.andThen_ok, Sem.run_pure, run_newObj]
    rfl
  obtain ⟨h1, h2, h3⟩ := new_block hs (.stringIter ⟨l.toArray⟩ 0) (.iter l 0) (alloc_block w _)
  simp only [Oper.wp, hrun, Oper.upon]
  exact hnext _ _ _ _ (h2.put hd (by simp only [Rep])) (hext.trans h3) (hK _ h1)

/-- A block of the call's own is written. -/
def setBlk (w : World) (b : Nat) (o : Obj) : World := { w with heap := w.heap.setIfInBounds b o }
theorem set_block {n : Nat} {w : World} {S : Heap} {a : Act} {σ : Regs} (h : St n w S a σ) {b : Nat} {o0 : MObj} (hb : S b = some o0) (obj : Obj) (mo : MObj) (hm : ∀ w' im', Keeps w w' S.im im' → w'.heap[b]? = some obj → Holds w' im' b mo) :
    St n (setBlk w b obj) (S.set b mo) a σ ∧ Ext w S (setBlk w b obj) (S.set b mo) := by
  have hlt : b < w.heap.size := (h.heap b o0 hb).lt
  have hother : ∀ c, c ≠ b → (setBlk w b obj).heap[c]? = w.heap[c]? := fun c hc => by simp only [setBlk]; rw [Array.getElem?_setIfInBounds_ne (Ne.symm hc)]
  have hself : (setBlk w b obj).heap[b]? = some obj := by simp [setBlk, hlt]
  have he : Ext w S (setBlk w b obj) (S.set b mo) := ⟨rfl, rfl, rfl, by simp [setBlk], fun c hc hs => by
    have hne : c ≠ b := fun e => by subst e; rw [hb] at hs; cases hs
    exact ⟨by unfold Heap.set; rw [if_neg hne]; exact hs, hother c hne⟩⟩
  refine ⟨h.ext he fun c o hc => ?_, he⟩
  by_cases e : c = b
  · subst e
    simp [Heap.set] at hc; subst hc; exact hm _ _ he.keeps hself
  · simp only [Heap.set, if_neg e] at hc
    exact (h.heap c o hc).keep he.keeps (hother c e)

theorem OpA_next {o : Oper} {K : Regs → Heap → Prop} {x : Operand} {b : Nat} {l : List UInt8} {pos : Nat} (ho : o.op = .next x true) (hx : ev σ x = .mp b 0) (hb : S b = some (.iter l pos)) (hd : ∀ x, o.dst = some x → x < n)
    (hK : if pos < l.length then K (updO σ o.dst (.tup [.bool true, .int .i64 (pos : Int), .int .i32 (Utf8.decode ⟨l.toArray⟩ pos).1])) (S.set b (.iter l (pos + (Utf8.decode ⟨l.toArray⟩ pos).2))) else K (updO σ o.dst (.tup [.bool false])) S) : OpA P n o σ S K := by
  intro w0 S0 w a hs hext next Qx hnext
  have hr := rep_ev hs x
  rw [hx] at hr; simp only [Rep] at hr
  have hh : w.heap[b]? = some (.stringIter ⟨l.toArray⟩ pos) := hs.heap b _ hb
  have hget : (getObj b).run P w = .ok (.stringIter ⟨l.toArray⟩ pos) w := by simp [getObj, Sem.run, hh]
  have hsz : (⟨l.toArray⟩ : ByteArray).size = l.length := by simp [ByteArray.size]
  by_cases hlt : pos < l.length
  · rw [if_pos hlt] at hK
    have hrun : (execOp a.eval o).run P w = .ok (.value (.tuple #[.bool true, goInt pos, .int .i32 (Utf8.decode ⟨l.toArray⟩ pos).1])) (setBlk w b (.stringIter ⟨l.toArray⟩ (pos + (Utf8.decode ⟨l.toArray⟩ pos).2))) := by
      simp only [execOp, ho, Instr.next, Sem.run_bind, hr, hget, Result.andThen_ok, hsz]
      rw [if_pos hlt]
      simp only [Sem.run_bind, setObj, Sem.run, hh, Result.andThen_ok, Sem.run_pure]
      rfl
    obtain ⟨h1, h2⟩ := set_block hs hb (.stringIter ⟨l.toArray⟩ (pos + (Utf8.decode ⟨l.toArray⟩ pos).2)) (.iter l (pos + (Utf8.decode ⟨l.toArray⟩ pos).2)) (fun w' im' _ h => h)
    simp only [Oper.wp, hrun, Oper.upon]
    refine hnext _ _ _ _ (h1.put hd ?_) (hext.trans h2) hK
    simp only [Rep]
    exact ⟨_, rfl, repVals_cons.2 ⟨by simp [Rep], repVals_cons.2 ⟨by simp [Rep, goInt], repVals_cons.2 ⟨by simp [Rep], repVals_nil.2 rfl⟩⟩⟩⟩
  · rw [if_neg hlt] at hK
    have hrun : (execOp a.eval o).run P w = .ok (.value (.tuple #[.bool false])) w := by
      simp only [execOp, ho, Instr.next, Sem.run_bind, hr, hget, Result.andThen_ok, hsz]
      rw [if_neg hlt]
      simp
    simp only [Oper.wp, hrun, Oper.upon]
    refine hnext _ _ _ _ (hs.put hd ?_) hext hK
    simp only [Rep]
    exact ⟨_, rfl, repVals_cons.2 ⟨by simp [Rep], repVals_nil.2 rfl⟩⟩

/-! Stores -/
def PV.isOne : PV → Bool
  | .any => false
  | .agg _ => false
  | .tup _ => false
  | _ => true
theorem one_cell {w : World} {im : Nat → Prop} {p : PV} {v : Value} (h : Rep w im p v) (h1 : p.isOne = true) : v.oneCell' = true := by
  cases p <;> simp only [PV.isOne, reduceCtorEq] at h1 <;> simp only [Rep] at h
  case ref cs => obtain ⟨_, _, rfl, _⟩ := h; rfl
  case sl0 => obtain ⟨_, rfl⟩ := h; rfl
  case slice sz rows => obtain ⟨_, _, rfl, _⟩ := h; rfl
  case fn f a b => obtain ⟨_, _, rfl, _⟩ := h; rfl
  case iface t x => obtain ⟨_, rfl, _⟩ := h; rfl
  all_goals (subst h; rfl)
theorem one_cells {w : World} {im : Nat → Prop} : ∀ {cs : List PV} {vs : List Value}, RepVals w im cs vs → cs.all PV.isOne = true → ∀ v ∈ vs, v.oneCell' = true
  | [], vs, h, _, v, hv => by rw [repVals_nil] at h; subst h; simp at hv
  | c :: cs, [], h, _, v, hv => by simp at hv
  | c :: cs, u :: vs, h, h1, v, hv => by
    rw [repVals_cons] at h
    simp only [List.all_cons, Bool.and_eq_true] at h1
    simp at hv
    rcases hv with rfl | hv
    · exact one_cell h.1 h1.1
    · exact one_cells h.2 h1.2 v hv

theorem setCell_blk {w : World} {b : Nat} {arr : Array Value} {ty : TypeId} (hb : w.heap[b]? = some (.cells arr ty (0, 0))) (off : Nat) (v : Value) : w.setCell ⟨b, off, none⟩ v = setBlk w b (.cells (arr.setIfInBounds off v) ty (0, 0)) := by
  have hlt : b < w.heap.size := (Array.getElem?_eq_some_iff.1 hb).1
  unfold World.setCell setBlk
  congr 1
  apply Array.ext'
  apply List.ext_getElem?
  intro i
  simp only [Array.getElem?_toList, Array.getElem?_modify]
  by_cases e : i = b
  · subst e
    have hb' : w.heap[i] = .cells arr ty (0, 0) := by rw [Array.getElem?_eq_getElem hlt] at hb; exact Option.some.inj hb
    simp [hlt, hb']
  · rw [if_neg (Ne.symm e), Array.getElem?_setIfInBounds_ne (Ne.symm e)]
theorem run_storeCells {P : Program} {b : Nat} {ty : TypeId} : ∀ (vs : List Value) (w : World) (arr : Array Value) (off i : Nat), w.heap[b]? = some (.cells arr ty (0, 0)) → off + i + vs.length ≤ arr.size → (∀ v ∈ vs, v.oneCell' = true) →
    ∃ arr' : Array Value, (storeCells ⟨b, off, none⟩ vs i).run P w = .ok () (setBlk w b (.cells arr' ty (0, 0))) ∧ arr'.toList = arr.toList.take (off + i) ++ vs ++ arr.toList.drop (off + i + vs.length)
  | [], w, arr, off, i, hb, hl, h1 => by
    have hlt : b < w.heap.size := (Array.getElem?_eq_some_iff.1 hb).1
    refine ⟨arr, ?_, by simp⟩
    have : setBlk w b (.cells arr ty (0, 0)) = w := by
      unfold setBlk
      have : w.heap.setIfInBounds b (.cells arr ty (0, 0)) = w.heap := by
        apply Array.ext'
        apply List.ext_getElem?
        intro j
        simp only [Array.getElem?_toList]
        by_cases e : j = b
        · subst e
          have hb' : w.heap[j] = .cells arr ty (0, 0) := by rw [Array.getElem?_eq_getElem hlt] at hb; exact Option.some.inj hb
          simp [hlt, hb']
        · rw [Array.getElem?_setIfInBounds_ne (Ne.symm e)]
      rw [this]
    rw [this]
    simp [storeCells]
  | v :: vs, w, arr, off, i, hb, hl, h1 => by
    have hlt : b < w.heap.size := (Array.getElem?_eq_some_iff.1 hb).1
    have hl' : off + i < arr.size := by simp at hl; omega
    have hcell : w.cell? ⟨b, off + i, none⟩ = some arr[off + i] := by rw [cell_of_block hb]; exact Array.getElem?_eq_getElem hl'
    have hfr : w.frozen? ⟨b, off + i, none⟩ = false := by simp [World.frozen?, hb]
    have hst : (store ((⟨b, off, none⟩ : Addr).add i) v).run P w = .ok () (setBlk w b (.cells (arr.setIfInBounds (off + i) v) ty (0, 0))) := by
      rw [add_addr, run_store P w _ v .plain (h1 v (by simp)), hcell]
      simp only [hfr]
      rw [setCell_blk hb]
      rfl
    have hb' : (setBlk w b (.cells (arr.setIfInBounds (off + i) v) ty (0, 0))).heap[b]? = some (.cells (arr.setIfInBounds (off + i) v) ty (0, 0)) := by simp [setBlk, hlt]
    obtain ⟨arr', h2, h3⟩ := run_storeCells (P := P) vs _ _ off (i + 1) hb' (by simp at hl ⊢; omega) fun u hu => h1 u (by simp [hu])
    refine ⟨arr', ?_, ?_⟩
    · simp only [storeCells, Sem.run_bind, hst, Result.andThen_ok, h2]
      congr 1
      unfold setBlk
      simp
    · rw [h3]
      have e1 : (arr.setIfInBounds (off + i) v).toList = arr.toList.set (off + i) v := by simp
      rw [e1, List.drop_set_of_lt (by omega)]
      rw [show off + (i + 1) = off + i + 1 by omega, List.take_succ_eq_append_getElem (by simpa using hl')]
      rw [List.take_set_of_le (Nat.le_refl _)]
      simp only [List.append_assoc, List.singleton_append, List.length_cons, Array.getElem_toList]
      rw [show off + i + 1 + vs.length = off + i + (vs.length + 1) by omega]
      simp

theorem OpA_store {o : Oper} {K : Regs → Heap → Prop} {t : TypeId} {x y : Operand} {b off : Nat} {cs ds : List PV} {ty : TypeId} {inf : TypeInfo} (ho : o.op = .store t x y) (hx : ev σ x = .mp b off) (hb : S b = some (.cells cs ty)) (hc : cellsOf (ev σ y) = some ds)
    (h1 : ds.all PV.isOne = true) (hi : P.info? t = some inf) (hsz : inf.size = ds.length) (hle : off + ds.length ≤ cs.length) (hd : ∀ x, o.dst = some x → x < n)
    (hK : K (updO σ o.dst .any) (S.set b (.cells (splice cs off ds) ty))) : OpA P n o σ S K := by
  intro w0 S0 w a hs hext next Qx hnext
  have hr := rep_ev hs x
  rw [hx] at hr; simp only [Rep] at hr
  have hv := rep_cells (rep_ev hs y) hc
  have hvl := repVals_length hv
  obtain ⟨arr, hh, hrv⟩ := hs.heap b _ hb
  have hal := repVals_length hrv
  simp at hal
  obtain ⟨arr', h2, h3⟩ := run_storeCells (P := P) (a.eval y).cells.toList w arr off 0 hh (by rw [hvl, hal]; simpa using hle) (one_cells hv h1)
  have hrun : (execOp a.eval o).run P w = .ok .skip (setBlk w b (.cells arr' ty (0, 0))) := by
    have hs1 : (a.eval y).cells.size = ds.length := by simpa using hvl
    simp only [execOp, ho, Instr.storeAt, Sem.run_bind, hr, Instr.sureAddr, Sem.run_pure, Result.andThen_ok, storeVar, run_sizeOf' hi]
    rw [if_neg (by rw [hs1, hsz]; simp)]
    simp only [h2, Result.andThen_ok]
  obtain ⟨k1, k2⟩ := set_block hs hb (.cells arr' ty (0, 0)) (.cells (splice cs off ds) ty) (fun w' im' hk hb' => ⟨arr', hb', by
    rw [h3, hvl]
    exact repVals_append (repVals_append (repVals_take _ (RepVals.keep hk _ hrv)) (RepVals.keep hk _ hv)) (repVals_drop _ (RepVals.keep hk _ hrv))⟩)
  simp only [Oper.wp, hrun, Oper.upon]
  exact hnext _ _ _ _ (k1.put hd (by simp only [Rep])) (hext.trans k2) hK
end

end Go.Proofs.Ytcbonfgkfiapaaa.Pv
