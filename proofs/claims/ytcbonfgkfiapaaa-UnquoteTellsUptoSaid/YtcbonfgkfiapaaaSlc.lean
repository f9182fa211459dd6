/- Slices of the call's own: parts of them, copies onto them, what is made of zero values. -/
import Derived.Test.YtcbonfgkfiapaaaMapv
import Derived.Lib.AppendZerosOnto
import Derived.Lib.SliceRun
import Derived.Lib.Overlaps
import Derived.Test.YtcbonfgkfiapaaaAnyOrd
set_option linter.unusedVariables false
set_option linter.unusedSimpArgs false
namespace Go.Proofs.Ytcbonfgkfiapaaa.Pv
open Go Go.RowKit

theorem own_cells {S : Heap} {sz : Nat} {e : TypeId} {rows : List (List PV)} {p : PV} {b : Nat} {cs : List PV} {ty : TypeId} (h : Grows S sz e rows p) (hb : S b = some (.cells cs ty)) : ownB p ≠ some b := by
  intro e1
  rcases h with ⟨e2, _⟩ | ⟨b', cap, cap', e2, e3, _⟩
  · rw [e2] at e1; cases e1
  · rw [e2] at e1; simp only [ownB, Option.some.injEq] at e1; subst e1; rw [hb] at e3; cases e3
theorem grows_elems {S : Heap} {sz : Nat} {e : TypeId} {rows : List (List PV)} {p : PV} (h : Grows S sz e rows p) : elemsOf S sz p = some rows := by
  rcases h with ⟨rfl, rfl⟩ | ⟨b, cap, cap', rfl, h2, h3, h4⟩
  · rfl
  · simp only [elemsOf, h2, true_and]
    rw [if_pos (Nat.le_refl _), List.take_length]
theorem grows_keep {S S' : Heap} {sz : Nat} {e : TypeId} {rows : List (List PV)} {p q : PV} (h : Grows S sz e rows p) (g2 : ownB q = none ∨ ∃ b, ownB q = some b ∧ S b = none) (g3 : ∀ c y, S c = some y → ownB q ≠ some c → S' c = some y) : Grows S' sz e rows p := by
  rcases h with h | ⟨b, cap, cap', h1, h2, h3⟩
  · exact Or.inl h
  · refine Or.inr ⟨b, cap, cap', h1, g3 _ _ h2 fun e => ?_, h3⟩
    rcases g2 with g2 | ⟨b', g2, g4⟩
    · rw [g2] at e; cases e
    · rw [g2] at e; cases e; rw [h2] at g4; cases g4
section
variable {P : Program} {n : Nat} {mb : Tmp → Bool} {R : Post} {σ : Regs} {S : Heap}
theorem Heap.set_same {S : Heap} {b : Nat} {o : MObj} (h : S b = some o) : S.set b o = S := by
  funext z
  rw [set_apply]
  by_cases e : z = b
  · rw [if_pos e, e, h]
  · rw [if_neg e]
theorem run_vecSlice {w : World} {t : TypeId} {sz b c cap l h : Nat} {lo hi : Option Value} (he : elemSize P t = some sz) (hlo : (lo = none ∧ l = 0) ∨ ∃ k, lo = some (.int k (l : Int))) (hhi : (hi = none ∧ h = c) ∨ ∃ k, hi = some (.int k (h : Int)))
    (h1 : l ≤ h) (h2 : h ≤ cap) : (Instr.sliceAt t (.slice (some ⟨b, 0, none⟩) c cap) lo hi none).run P w = .ok (.slice (if cap = l then some ⟨b, 0, none⟩ else some ⟨b, l * sz, none⟩) (h - l) (cap - l)) w := by
  obtain ⟨e, inf, hu, hi', hsz⟩ := elemSize_spec he
  have eb := run_bounds (P := P) (w := w) true c cap l h lo hi hlo hhi h1 h2
  simp only [Instr.sliceAt, Instr.slice, Sem.run_bind, run_under hu, eb, run_sizeOf' hi', hsz, Result.andThen_ok]
  by_cases hc : cap = l
  · simp [hc]
  · simp [hc, Addr.add]
    omega
/-- A part of a slice of the call's own. -/
theorem QV_sliceV {o : Oper} {t : TypeId} {x : Operand} {lo hi : Option Operand} {sz b c cap l h : Nat} (ho : o.op = .slice t x lo hi none) (he : elemSize P t = some sz) (hx : ev σ x = .vec b c cap) (hlo : bound σ 0 lo = some l) (hhi : bound σ c hi = some h) (h1 : l ≤ h) (h2 : h ≤ cap) (h3 : l < cap) :
    QV P o σ S (.vat b (l * sz) (h - l) (cap - l)) := by
  refine QV_run fun n σ' w a hag hst => ?_
  have hall : ∀ y ∈ o.op.operands.toList, ev σ' y = ev σ y := ev_congr hag
  have r1 := rep_ev hst x
  rw [hall x (by simp [ho, Op.operands]), hx] at r1
  simp only [Rep] at r1
  have e1 : bound σ' 0 lo = some l := by rw [← hlo]; exact bound_congr fun y hy => hall y (by subst hy; simp [ho, Op.operands])
  have e2 : bound σ' c hi = some h := by rw [← hhi]; exact bound_congr fun y hy => hall y (by subst hy; simp [ho, Op.operands])
  have g1 : (lo.map a.eval = none ∧ l = 0) ∨ ∃ k, lo.map a.eval = some (.int k (l : Int)) := by
    rcases bound_spec hst e1 with ⟨e, e'⟩ | ⟨y, k, e, e'⟩
    · exact Or.inl ⟨by simp [e], e'⟩
    · exact Or.inr ⟨k, by simp [e, e']⟩
  have g2 : (hi.map a.eval = none ∧ h = c) ∨ ∃ k, hi.map a.eval = some (.int k (h : Int)) := by
    rcases bound_spec hst e2 with ⟨e, e'⟩ | ⟨y, k, e, e'⟩
    · exact Or.inl ⟨by simp [e], e'⟩
    · exact Or.inr ⟨k, by simp [e, e']⟩
  have hr := run_vecSlice (P := P) (w := w) (b := b) he g1 g2 h1 h2
  rw [if_neg (by omega)] at hr
  refine ⟨.slice (some ⟨b, l * sz, none⟩) (h - l) (cap - l), ?_, by simp only [Rep]⟩
  simp only [execOp, ho, r1, Sem.run_bind, Option.map_none, hr, Result.andThen_ok, Sem.run_pure]
theorem QV_sliceV0 {o : Oper} {t : TypeId} {x : Operand} {lo hi : Option Operand} {sz b c cap h : Nat} (ho : o.op = .slice t x lo hi none) (he : elemSize P t = some sz) (hx : ev σ x = .vec b c cap) (hlo : bound σ 0 lo = some 0) (hhi : bound σ c hi = some h) (h2 : h ≤ cap) :
    QV P o σ S (.vec b h cap) := by
  refine QV_run fun n σ' w a hag hst => ?_
  have hall : ∀ y ∈ o.op.operands.toList, ev σ' y = ev σ y := ev_congr hag
  have r1 := rep_ev hst x
  rw [hall x (by simp [ho, Op.operands]), hx] at r1
  simp only [Rep] at r1
  have e1 : bound σ' 0 lo = some 0 := by rw [← hlo]; exact bound_congr fun y hy => hall y (by subst hy; simp [ho, Op.operands])
  have e2 : bound σ' c hi = some h := by rw [← hhi]; exact bound_congr fun y hy => hall y (by subst hy; simp [ho, Op.operands])
  have g1 : (lo.map a.eval = none ∧ 0 = 0) ∨ ∃ k, lo.map a.eval = some (.int k ((0 : Nat) : Int)) := by
    rcases bound_spec hst e1 with ⟨e, e'⟩ | ⟨y, k, e, e'⟩
    · exact Or.inl ⟨by simp [e], e'⟩
    · exact Or.inr ⟨k, by simp [e, e']⟩
  have g2 : (hi.map a.eval = none ∧ h = c) ∨ ∃ k, hi.map a.eval = some (.int k (h : Int)) := by
    rcases bound_spec hst e2 with ⟨e, e'⟩ | ⟨y, k, e, e'⟩
    · exact Or.inl ⟨by simp [e], e'⟩
    · exact Or.inr ⟨k, by simp [e, e']⟩
  have hr := run_vecSlice (P := P) (w := w) (b := b) he g1 g2 (Nat.zero_le _) h2
  have hz : (if cap = 0 then some (⟨b, 0, none⟩ : Addr) else some ⟨b, 0 * sz, none⟩) = some ⟨b, 0, none⟩ := by split <;> simp
  rw [hz] at hr
  refine ⟨.slice (some ⟨b, 0, none⟩) h cap, ?_, by simp only [Rep]⟩
  simp only [execOp, ho, r1, Sem.run_bind, Option.map_none, hr, Result.andThen_ok, Sem.run_pure, Nat.sub_zero]
theorem QV_cap {o : Oper} {x : Operand} {t e : TypeId} {b c cap : Nat} (ho : o.op = .call { callee := .builtin .cap, args := #[x], argTypes := #[t] }) (ht : P.underlying t = some (.slice e)) (hx : ev σ x = .vec b c cap) : QV P o σ S (.int .i64 (cap : Int)) := by
  refine QV_run fun n σ' w a hag hst => ?_
  have hall : ∀ y ∈ o.op.operands.toList, ev σ' y = ev σ y := ev_congr hag
  have r1 := rep_ev hst x
  rw [hall x (by simp [ho, Op.operands, Call.operands]), hx] at r1
  simp only [Rep] at r1
  refine ⟨.int .i64 (cap : Int), ?_, by simp only [Rep]⟩
  simp only [execOp, ho, resolve, invoke, builtin, Sem.run_bind, Sem.run_pure, Result.andThen_ok, List.map_toArray, List.map_cons, List.map_nil, r1]
  simp [Builtin.cap_, run_under ht, goInt]
/-- Is a slice none at all? That is one of two. -/
theorem OpA_nilAny {o : Oper} {K : Regs → Heap → Prop} {t e : TypeId} {x : Operand} {u : TypeId} {sz : Nat} {rows : List (List PV)} (ho : o.op = .binOp .eql t x (.const (.slice none 0 0)) u) (ht : P.underlying t = some (.slice e)) (hx : ev σ x = .slice sz rows) (hd : okDst n o.dst = true)
    (hK : ∀ r : Bool, (rows ≠ [] → r = false) → K (updO σ o.dst (.bool r)) S) : OpA P n o σ S K := by
  intro w0 S0 w a hst hext next Qx hnext
  have r1 := rep_ev hst x
  rw [hx] at r1
  simp only [Rep] at r1
  obtain ⟨ad, c, r1, _, _, hr⟩ := r1
  have hrun : (execOp a.eval o).run P w = .ok (.value (.bool ad.isNone)) w := by
    have e0 : a.eval (.const (.slice none 0 0)) = .slice none 0 0 := rfl
    simp only [execOp, ho, r1, e0, Sem.run_bind, run_guard_other (a := .slice ad rows.length c) (b := .slice none 0 0) (by simp) (by simp), Lib.run_eql_slice_nil w t e ad rows.length c 0 0 ht, Result.andThen_ok, Sem.run_pure]
  simp only [Oper.wp, hrun, Oper.upon]
  refine hnext _ _ _ _ (hst.put (okDst_spec hd) (p := .bool ad.isNone) (by simp only [Rep])) hext (hK _ fun hne => ?_)
  rcases hr with hr | ⟨b, off, rfl, _⟩
  · exact absurd hr hne
  · rfl
/-- The rows behind a slice of the call's own, also of a part. -/
theorem run_copyRows {w : World} {a : Act} (hst : St n w S a σ) {t t' ty e : TypeId} {sz b k dn dc cap : Nat} {rs rows : List (List PV)} {bt : TypeId} {ya : Option Addr} {yc sn sc : Nat} {p : PV} (hf : elemSize P t = some sz) (hz : 0 < sz) (hb : S b = some (.rows sz rs cap bt)) (hr : Rep w S.im p (.slice ya rows.length yc)) (hx : elemsOf S sz p = some rows) (h1 : ∀ r ∈ rows, ∀ c ∈ r, c.isOne = true)
    (hmin : Nat.min sn dn = rows.length) (hk : k ≤ rs.length) (hc : k + rows.length ≤ cap) :
    ∃ w' , (Builtin.copy_ #[t, t'] ty #[.slice (some ⟨b, k * sz, none⟩) dn dc, .slice ya sn sc]).run P w = .ok (.int .i64 (rows.length : Int)) w' ∧ St n w' (S.set b (.rows sz (rs.take k ++ rows ++ rs.drop (k + rows.length)) cap bt)) a σ ∧ Ext w S w' (S.set b (.rows sz (rs.take k ++ rows ++ rs.drop (k + rows.length)) cap bt)) := by
  obtain ⟨el, inf, hu, hi, hsz⟩ := elemSize_spec hf
  obtain ⟨xa, xc, hxe, hxr⟩ := elems_spec hst.heap hr hx
  cases hxe
  obtain ⟨arr, b1, b2, b3, b4, b5⟩ := hst.heap b _ hb
  have hsl := rows_len b5
  by_cases hr0 : rows = []
  · subst hr0
    refine ⟨w, ?_, ?_, ?_⟩
    · simp only [List.length_nil] at hmin
      have hmin' : min sn dn = 0 := hmin
      simp [Builtin.copy_, run_under hu, Builtin.lenOf, Builtin.firstCells, run_sizeOf' hi, goInt, hmin']
      cases ya <;> simp [loadCells, loadCellsFrom, storeCells]
    · simp only [List.append_nil, List.length_nil, Nat.add_zero, List.take_append_drop]
      rw [Heap.set_same hb]
      exact hst
    · simp only [List.append_nil, List.length_nil, Nat.add_zero, List.take_append_drop]
      rw [Heap.set_same hb]
      exact Ext.refl w S
  rcases hxr with hxr | ⟨ad, vs, rfl, hv, hlen, hcell⟩
  · exact absurd hxr hr0
  have hvl : vs.length = rows.length * sz := by rw [repVals_length hv, flat_len hlen]
  have hone := app_cells hv fun c hc => by
    obtain ⟨r, h2, h3⟩ := List.mem_flatten.1 hc
    exact h1 r h2 c h3
  have hfit : k * sz + 0 + vs.length ≤ arr.size := by rw [hvl, b2, Nat.add_zero, ← Nat.add_mul]; exact Nat.mul_le_mul_right _ hc
  obtain ⟨arr', s1, s2⟩ := run_storeCells (P := P) vs w arr (k * sz) 0 b1 hfit hone
  obtain ⟨rvs, o1, o2⟩ := repAt_vals (repAt_flatten b5)
  have orl : rvs.length = rs.length * sz := by rw [repVals_length o1, flat_len hsl]
  -- the old cells that are known
  have hold : ∀ j, j < rs.length * sz → arr.toList[j]? = rvs[j]? := by
    intro j hj
    have hj' : j < rvs.length := by rw [orl]; exact hj
    have := o2 j rvs[j] (List.getElem?_eq_getElem hj')
    rw [Nat.zero_add, cell_of_block b1] at this
    rw [Array.getElem?_toList, this, List.getElem?_eq_getElem hj']
  have hksz : k * sz ≤ rs.length * sz := Nat.mul_le_mul_right _ hk
  have hpre : arr.toList.take (k * sz) = rvs.take (k * sz) := by
    apply List.ext_getElem?
    intro j
    by_cases hj : j < k * sz
    · rw [List.getElem?_take_of_lt hj, List.getElem?_take_of_lt hj, hold j (by omega)]
    · rw [List.getElem?_take_eq_none (by omega), List.getElem?_take_eq_none (by omega)]
  have hpost : ∃ rest, arr.toList.drop (k * sz + vs.length) = rvs.drop (k * sz + vs.length) ++ rest := by
    refine ⟨(arr.toList.drop (k * sz + vs.length)).drop (rvs.drop (k * sz + vs.length)).length, ?_⟩
    have : (arr.toList.drop (k * sz + vs.length)).take (rvs.drop (k * sz + vs.length)).length = rvs.drop (k * sz + vs.length) := by
      apply List.ext_getElem?
      intro j
      by_cases hj : j < (rvs.drop (k * sz + vs.length)).length
      · rw [List.getElem?_take_of_lt hj, List.getElem?_drop, List.getElem?_drop]
        rw [List.length_drop, orl] at hj
        exact hold _ (by omega)
      · rw [List.getElem?_take_eq_none (by omega), List.getElem?_eq_none (by omega)]
    conv => lhs; rw [← List.take_append_drop (rvs.drop (k * sz + vs.length)).length (arr.toList.drop (k * sz + vs.length)), this]
  obtain ⟨rest, hrest⟩ := hpost
  have hnew : arr'.toList = (rvs.take (k * sz) ++ vs ++ rvs.drop (k * sz + vs.length)) ++ rest := by
    rw [s2, Nat.add_zero, hpre, hrest]
    simp only [List.append_assoc]
  have hRV : RepVals w S.im (rs.take k ++ rows ++ rs.drop (k + rows.length)).flatten (rvs.take (k * sz) ++ vs ++ rvs.drop (k * sz + vs.length)) := by
    rw [List.flatten_append, List.flatten_append]
    have ft : (rs.take k).flatten = rs.flatten.take (k * sz) := by
      have e1 : rs.flatten = (rs.take k).flatten ++ (rs.drop k).flatten := by rw [← List.flatten_append, List.take_append_drop]
      have e2 : (rs.take k).flatten.length = k * sz := by rw [flat_len (sz := sz) fun r hr => hsl r (List.mem_of_mem_take hr), List.length_take, Nat.min_eq_left hk]
      rw [e1]
      exact (List.take_left' e2).symm
    have fd : ∀ m, (rs.drop m).flatten = rs.flatten.drop (m * sz) := by
      intro m
      by_cases hm : m ≤ rs.length
      · have e1 : rs.flatten = (rs.take m).flatten ++ (rs.drop m).flatten := by rw [← List.flatten_append, List.take_append_drop]
        have e2 : (rs.take m).flatten.length = m * sz := by rw [flat_len (sz := sz) fun r hr => hsl r (List.mem_of_mem_take hr), List.length_take, Nat.min_eq_left hm]
        rw [e1]
        exact (List.drop_left' e2).symm
      · rw [List.drop_of_length_le (by omega), List.drop_of_length_le]
        · rfl
        · rw [flat_len hsl]; exact Nat.mul_le_mul_right _ (by omega)
    rw [ft, fd, Nat.add_mul, ← hvl]
    exact repVals_append (repVals_append (repVals_take _ o1) hv) (repVals_drop _ o1)
  have hsz2 : arr'.size = cap * sz := by
    have e1 := congrArg List.length s2
    simp only [List.length_append, List.length_take, List.length_drop, Array.length_toList] at e1
    rw [← b2]
    omega
  have hlen2 : (rs.take k ++ rows ++ rs.drop (k + rows.length)).length ≤ cap := by
    simp only [List.length_append, List.length_take, List.length_drop]
    omega
  have hall : ∀ r ∈ rs.take k ++ rows ++ rs.drop (k + rows.length), r.length = sz := by
    intro r hr
    rcases List.mem_append.1 hr with hr | hr
    · rcases List.mem_append.1 hr with hr | hr
      · exact hsl r (List.mem_of_mem_take hr)
      · exact hlen r hr
    · exact hsl r (List.mem_of_mem_drop hr)
  obtain ⟨g1, g2⟩ := set_block hst hb (.cells arr' bt (0, 0)) (.rows sz (rs.take k ++ rows ++ rs.drop (k + rows.length)) cap bt)
    (fun w' im' hkp hb' => holds_rows hb' hsz2 hlen2 b4 hall (RepVals.keep hkp _ hRV) ⟨rest, hnew⟩)
  refine ⟨_, ?_, g1, g2⟩
  have hfc : (Builtin.firstCells inf.size rows.length (.slice (some ad) sn sc)).run P w = .ok vs.toArray w := by
    rw [hsz]; exact run_firstCells_some w sz rows.length ad sn sc vs hvl hcell
  have hlo : (Builtin.lenOf (.slice (some ad) sn sc)).run P w = .ok sn w := by simp [Builtin.lenOf]
  have hst2 : (storeCells ⟨b, k * sz, none⟩ vs).run P w = .ok () (setBlk w b (.cells arr' bt (0, 0))) := s1
  simp only [Builtin.copy_, List.getElem?_toArray, List.getElem?_cons_zero, List.getElem?_cons_succ, Sem.run_bind, run_under hu, hlo, run_sizeOf' hi, Result.andThen_ok, hmin, hfc, hst2, Sem.run_pure, goInt]
theorem OpA_copyV {o : Oper} {K : Regs → Heap → Prop} {t t' : TypeId} {d s : Operand} {sz b k dn dc cap : Nat} {rs rows : List (List PV)} {bt : TypeId} (ho : o.op = .call { callee := .builtin .copy, args := #[d, s], argTypes := #[t, t'] }) (hf : elemSize P t = some sz) (hz : 0 < sz)
    (hdv : ev σ d = .vat b (k * sz) dn dc ∨ (ev σ d = .vec b dn dc ∧ k = 0)) (hb : S b = some (.rows sz rs cap bt)) (hx : elemsOf S sz (ev σ s) = some rows) (h1 : ∀ r ∈ rows, ∀ c ∈ r, c.isOne = true)
    (hdn : rows.length ≤ dn) (hk : k ≤ rs.length) (hc : k + rows.length ≤ cap) (hd : okDst n o.dst = true)
    (hK : K (updO σ o.dst (.int .i64 (rows.length : Int))) (S.set b (.rows sz (rs.take k ++ rows ++ rs.drop (k + rows.length)) cap bt))) : OpA P n o σ S K := by
  intro w0 S0 w a hst hext next Qx hnext
  have r1 : a.eval d = .slice (some ⟨b, k * sz, none⟩) dn dc := by
    have r1 := rep_ev hst d
    rcases hdv with h | ⟨h, rfl⟩
    · rw [h] at r1; simp only [Rep] at r1; exact r1
    · rw [h] at r1; simp only [Rep] at r1; rw [r1, Nat.zero_mul]
  have r2 := rep_ev hst s
  obtain ⟨xa, xc, hxe, _⟩ := elems_spec hst.heap r2 hx
  rw [hxe] at r2
  obtain ⟨w', h2, h3, h4⟩ := run_copyRows (t := t) (t' := t') (ty := o.type) (e := 0) (dc := dc) (sn := rows.length) (sc := xc) hst hf hz hb r2 hx h1 (Nat.min_eq_left hdn) hk hc
  have hrun : (execOp a.eval o).run P w = .ok (.value (.int .i64 (rows.length : Int))) w' := by
    simp only [execOp, ho, resolve, invoke, builtin, Sem.run_bind, Sem.run_pure, Result.andThen_ok, List.map_toArray, List.map_cons, List.map_nil, r1, hxe, h2]
  simp only [Oper.wp, hrun, Oper.upon]
  exact hnext _ _ _ _ (h3.put (okDst_spec hd) (by simp only [Rep])) (hext.trans h4) hK
/-- Copied is as much as has room, from a slice of the call's own that may be longer. -/
theorem OpA_copyL {o : Oper} {K : Regs → Heap → Prop} {t t' : TypeId} {d s : Operand} {sz b k dn dc cap b2 sn sc cap2 : Nat} {rs rows : List (List PV)} {bt bt2 : TypeId} {rs2 : List (List PV)} (ho : o.op = .call { callee := .builtin .copy, args := #[d, s], argTypes := #[t, t'] }) (hf : elemSize P t = some sz) (hz : 0 < sz)
    (hdv : ev σ d = .vat b (k * sz) dn dc ∨ (ev σ d = .vec b dn dc ∧ k = 0)) (hb : S b = some (.rows sz rs cap bt)) (hsv : ev σ s = .vec b2 sn sc) (hb2 : S b2 = some (.rows sz rs2 cap2 bt2)) (hsn : dn ≤ sn) (hs2 : dn ≤ rs2.length) (hrows : rs2.take dn = rows) (h1 : ∀ r ∈ rows, ∀ c ∈ r, c.isOne = true)
    (hk : k ≤ rs.length) (hc : k + rows.length ≤ cap) (hd : okDst n o.dst = true)
    (hK : K (updO σ o.dst (.int .i64 (rows.length : Int))) (S.set b (.rows sz (rs.take k ++ rows ++ rs.drop (k + rows.length)) cap bt))) : OpA P n o σ S K := by
  intro w0 S0 w a hst hext next Qx hnext
  have hrl : rows.length = dn := by rw [← hrows, List.length_take]; omega
  have r1 : a.eval d = .slice (some ⟨b, k * sz, none⟩) dn dc := by
    have r1 := rep_ev hst d
    rcases hdv with h | ⟨h, rfl⟩
    · rw [h] at r1; simp only [Rep] at r1; exact r1
    · rw [h] at r1; simp only [Rep] at r1; rw [r1, Nat.zero_mul]
  have r2 := rep_ev hst s
  rw [hsv] at r2
  simp only [Rep] at r2
  have r3 : Rep w S.im (.vec b2 dn sc) (.slice (some ⟨b2, 0, none⟩) rows.length sc) := by rw [hrl]; simp only [Rep]
  have hx : elemsOf S sz (.vec b2 dn sc) = some rows := by
    simp only [elemsOf, hb2, true_and]
    rw [if_pos hs2, hrows]
  obtain ⟨w', h2, h3, h4⟩ := run_copyRows (t := t) (t' := t') (ty := o.type) (e := 0) (dc := dc) (sn := sn) (sc := sc) hst hf hz hb r3 hx h1 (by rw [hrl]; exact Nat.min_eq_right hsn) hk hc
  have hrun : (execOp a.eval o).run P w = .ok (.value (.int .i64 (rows.length : Int))) w' := by
    simp only [execOp, ho, resolve, invoke, builtin, Sem.run_bind, Sem.run_pure, Result.andThen_ok, List.map_toArray, List.map_cons, List.map_nil, r1, r2, h2]
  simp only [Oper.wp, hrun, Oper.upon]
  exact hnext _ _ _ _ (h3.put (okDst_spec hd) (by simp only [Rep])) (hext.trans h4) hK
theorem zero_rows {w : World} {im : Nat → Prop} {b sz : Nat} {zs : List PV} {z : Array Value} (hz : z.size = sz) (hv : RepVals w im zs z.toList) : ∀ (m off : Nat), (∀ j, j < m * sz → w.cell? ⟨b, off + j, none⟩ = some z[j % z.size]!) → RepRows w im b off sz (List.replicate m zs)
  | 0, off, _ => by simp only [List.replicate_zero, RepRows]
  | m + 1, off, h => by
    simp only [List.replicate_succ, RepRows]
    have hzl : zs.length = sz := by rw [← repVals_length hv, Array.length_toList, hz]
    have hm : (m + 1) * sz = m * sz + sz := by rw [Nat.add_mul]; omega
    refine ⟨hzl, repAt_of_vals hv fun j v hj => ?_, zero_rows hz hv m (off + sz) fun j hj => ?_⟩
    · have hjs : j < sz := by rw [← hz, ← Array.length_toList]; exact (List.getElem?_eq_some_iff.1 hj).1
      rw [h j (by omega), Nat.mod_eq_of_lt (by omega)]
      rw [Array.getElem?_toList] at hj
      rw [getElem!_def, hj]
    · have := h (sz + j) (by omega)
      rw [hz, Nat.add_mod_left] at this
      rw [Nat.add_assoc, this, hz]
theorem OpA_appendZ {o : Oper} {K : Regs → Heap → Prop} {t tn e : TypeId} {s x : Operand} {sz bytes b cap0 m : Nat} {kq kn : IntKind} {zs : List PV} {z : Value} (ho : o.op = .call { callee := .builtin .append, args := #[s, x], argTypes := #[t, tn] }) (hf : appFacts P t = some (sz, bytes, e)) (htn : P.underlying tn = some (.int kn))
    (hze : (P.info? e).bind (·.zero) = some z) (hzs : ∀ w im, RepVals w im zs z.cells.toList) (hs : ev σ s = .vec b 0 cap0) (hx : ev σ x = .int kq (m : Int)) (hm : cap0 < m) (hb : m * bytes ≤ 140737488355328) (h63 : m ≤ 4611686018427387904) (hd : okDst n o.dst = true)
    (hK : ∀ c cap, S c = none → m ≤ cap → K (updO σ o.dst (.vec c m cap)) (S.set c (.rows sz (List.replicate m zs) cap e))) : OpA P n o σ S K := by
  intro w0 S0 w a hst hext next Qx hnext
  obtain ⟨inf, z', ht, hi, hz', hzsz, hsz, hby, hpos⟩ := appFacts_spec hf
  rw [hi] at hze
  simp only [Option.bind_some] at hze
  rw [hz'] at hze
  cases hze
  have r1 := rep_ev hst s
  rw [hs] at r1
  have r2 := rep_ev hst x
  rw [hx] at r2
  simp only [Rep] at r1 r2
  have hml : (4611686018427387904 : Nat) ≤ maxLen := by decide
  have hold : (Builtin.firstCells inf.size 0 (.slice (some ⟨b, 0, none⟩) 0 cap0)).run P w.drew = .ok (([] : List Value).toArray) w.drew := run_firstCells_some w.drew inf.size 0 ⟨b, 0, none⟩ 0 cap0 [] (by simp) (fun j v hj => by simp at hj)
  have hr := Lib.run_append_grow_zeros (P := P) w t tn o.type e inf z kq kn ht htn hi hz' (some ⟨b, 0, none⟩) 0 cap0 [] hold m (by omega) (by omega) (by omega) (by omega) (by rw [hby]; omega) (by rw [hby, Nat.zero_add]; exact growslice_fits (by omega) (by omega))
  simp only [Nat.zero_add] at hr
  have hge := grownCap_ge w m cap0 e
  have hmax := grownCap_le_maxLen w m cap0 e (by omega)
  generalize hgc : grownCap w m cap0 e = gc at hr hge hmax
  have hst' : St n w.drew S a σ := drew_st hst
  have hext' : Ext w S w.drew S := drew_ext (Ext.refl w S)
  have harr : (([] : List Value).toArray ++ Builtin.zeroCells z.cells m ++ Builtin.zeroCells z.cells (gc - m)).size = gc * sz := by
    simp only [Array.size_append, size_zeroCells, hzsz]
    rw [show ([] : List Value).toArray.size = 0 from rfl, Nat.zero_add, ← Nat.add_mul]
    congr 1; omega
  obtain ⟨e1, e2, e3⟩ := new_block hst' (.cells (([] : List Value).toArray ++ Builtin.zeroCells z.cells m ++ Builtin.zeroCells z.cells (gc - m)) e) (.rows sz (List.replicate m zs) gc e)
    ⟨_, alloc_block w.drew _, harr, by rw [List.length_replicate]; exact hge, hmax, zero_rows hzsz (hzs _ _) m 0 fun j hj => by
      rw [Nat.zero_add, cell_of_block (alloc_block w.drew _)]
      have h1 : j < (Builtin.zeroCells z.cells m).size := by rw [size_zeroCells, hzsz]; exact hj
      have h2 : (([] : List Value).toArray ++ Builtin.zeroCells z.cells m ++ Builtin.zeroCells z.cells (gc - m))[j]? = (Builtin.zeroCells z.cells m)[j]? := by
        rw [Array.getElem?_append_left (by simpa using h1)]
        simp
      rw [h2]
      unfold Builtin.zeroCells at h1 ⊢
      simp only [Array.size_map, Array.size_range] at h1
      simp [h1]⟩
  have hrun : (execOp a.eval o).run P w = .ok (.value (.slice (some ⟨w.heap.size, 0, none⟩) m gc)) (w.drew.alloc (.cells (([] : List Value).toArray ++ Builtin.zeroCells z.cells m ++ Builtin.zeroCells z.cells (gc - m)) e)) := by
    simp only [execOp, ho, resolve, invoke, builtin, Sem.run_bind, Sem.run_pure, Result.andThen_ok, List.map_toArray, List.map_cons, List.map_nil, r1, r2, hr]
  simp only [Oper.wp, hrun, Oper.upon]
  exact hnext _ _ _ _ (e2.put (okDst_spec hd) (by simp only [Rep]; rfl)) (hext.trans (hext'.trans e3)) (hK _ gc e1 hge)
/-- Two slices of the call's own, in two blocks, do not overlap. -/
theorem OpW_overlaps {ds : List (Option Tmp)} {l : List Oper} {k : List It} {o : Oper} {f x y : Operand} {ts : Array TypeId} {g : FuncId} {fn : Func} {tS tR e : TypeId} {size b c n1 c1 off n2 c2 capb capc : Nat} {rb rc : List (List PV)} {szb szc : Nat} {tb tc : TypeId} (ho : o.op = .call { callee := .value f, args := #[x, y], argTypes := ts }) (hf : ev σ f = .fn (.func g) [] []) (hg : P.funcs[g]? = some fn) (hname : (fn.name == "runtime.NumGoroutine") = false)
    (hbo : fn.body.isNone = true) (hn : Extern.findNext fn = none) (he : Extern.find fn = some (Extern.SlicesOverlaps.overlaps #[tS, tS] #[tR])) (ht : P.underlying tS = some (.slice e)) (hsz : ∀ w, (Go.sizeOf e).run P w = .ok size w)
    (hx : ev σ x = .vec b n1 c1) (hy : ev σ y = .vat c off n2 c2) (hbc : b ≠ c) (hb : S b = some (.rows szb rb capb tb)) (hc : S c = some (.rows szc rc capc tc)) (hcap : capc * szc ≠ 0)
    (hdst : okDst n o.dst = true) (hk : W P n mb R (.ops ds l :: k) (updO σ o.dst (.bool false)) S) : OpW P n mb R o ds l k σ S := by
  refine OpW_run (p := .bool false) hdst (fun w a hst => ?_) hk
  have r1 := rep_ev hst x
  have r2 := rep_ev hst y
  rw [hx] at r1
  rw [hy] at r2
  simp only [Rep] at r1 r2
  have hfr := rep_ev hst f
  rw [hf] at hfr
  simp only [Rep] at hfr
  obtain ⟨fa, ca, e0, h1, h2⟩ := hfr
  have e1 : fa = #[] := by have := repVals_nil.1 h1; simpa using this
  have e2 : ca = #[] := by have := repVals_nil.1 h2; simpa using this
  subst e1 e2
  obtain ⟨arr, b1, b2, _⟩ := hst.heap b _ hb
  obtain ⟨arc, d1, d2, _⟩ := hst.heap c _ hc
  refine ⟨.bool false, ?_, by simp only [Rep]⟩
  have := run_callFunc_extern (P := P) hg hname hbo hn he #[Value.slice (some ⟨b, 0, none⟩) n1 c1, Value.slice (some ⟨c, off, none⟩) n2 c2] w
  rw [Lib.run_overlaps_apart w tS tR e ht size hsz ⟨b, 0, none⟩ ⟨c, off, none⟩ n1 c1 n2 c2 hbc tb tc arr.size arc.size (by simp [World.shape?, b1]) (by simp [World.shape?, d1]) (by rw [d2]; exact hcap) (by simp [World.frozen?, b1]) (by simp [World.frozen?, b1])] at this
  simp only [execOp, ho, resolve, Sem.run_bind, e0, Deferred.ofValue, Sem.run_pure, Result.andThen_ok, invoke]
  simpa [r1, r2] using this
/-- A literal slice in a block of the call's own. -/
theorem OpA_buildSliceM {o : Oper} {K : Regs → Heap → Prop} {t : TypeId} {k sz bytes : Nat} {ps : Array (Nat × Operand)} {e : TypeId} {rows : List (List PV)} (ho : o.op = .buildSlice t k ps) (hf : appFacts P t = some (sz, bytes, e)) (hr : buildSlicePV P t k (partsPV σ ps) = some (.slice sz rows)) (hne : rows ≠ []) (hlen : rows.length = k)
    (hd : okDst n o.dst = true) (hK : ∀ c, S c = none → K (updO σ o.dst (.vec c rows.length rows.length)) (S.set c (.rows sz rows rows.length e))) : OpA P n o σ S K := by
  intro w0 S0 w a hst hext next Qx hnext
  obtain ⟨hl, hpv⟩ := parts_rep hst ps
  obtain ⟨inf0, z0, ht0, hi0, hz0, hzs0, hsz0, hby0, hpos0⟩ := appFacts_spec hf
  unfold buildSlicePV at hr
  cases he : elemSize P t with
  | none => rw [he] at hr; simp at hr
  | some sz' =>
    rw [he] at hr; simp only at hr
    split at hr
    case isFalse => simp at hr
    rename_i hc
    obtain ⟨hz, hlim, hn⟩ := hc
    obtain ⟨e', inf, hu, hi, hsz⟩ := elemSize_spec he
    rw [ht0] at hu
    cases hu
    rw [hi0] at hi
    cases hi
    split at hr
    · simp at hr
    · rename_i h0
      cases hrr : rowsOf sz' 0 (partsPV σ ps) with
      | none => rw [hrr] at hr; simp at hr
      | some rows' =>
        rw [hrr] at hr
        simp only [Option.map_some, Option.some.injEq, PV.slice.injEq] at hr
        obtain ⟨rfl, rfl⟩ := hr
        obtain ⟨hrl, hrs⟩ := rowsOf_length hrr
        have hne0 : ¬ k * sz' = 0 := Nat.mul_ne_zero h0 (by omega)
        obtain ⟨res, h1, vs, h2, h3⟩ := fill_rows (w := w) (im := S.im) (sz := sz') (partsPV σ ps) (ps.map fun (x : Nat × Operand) => (x.1, a.eval x.2)).toList 0 ((Array.range (k * sz')).map (fun x => z0.cells[x % z0.cells.size]!)) rows' hl hpv hrr (by simp [hn])
        simp at h2
        have hrun : (execOp a.eval o).run P w = .ok (.value (.slice (some ⟨w.heap.size, 0, none⟩) k k)) (w.alloc (.cells res e)) := by
          have hb : (Instr.buildSlice t k (ps.map fun (x : Nat × Operand) => (x.1, a.eval x.2))).run P w = .ok (.slice (some ⟨w.heap.size, 0, none⟩) k k) (w.alloc (.cells res e)) := by
            have hrz : ∀ W, (zeroValue e).run P W = .ok z0 W := fun W => by simp [zeroValue, run_typeInfo hi0, hz0]
            simp only [Instr.buildSlice, Sem.run_bind, run_under ht0, Result.andThen_ok, run_sizeOf' hi0, hsz]
            rw [if_neg (by omega)]
            rw [if_neg hne0]
            simp only [Sem.run_bind, hrz, Result.andThen_ok, Sem.run_pure, h1]
            rfl
          simp only [execOp, ho, Sem.run_bind, hb, Result.andThen_ok, Sem.run_pure]
        have hvl : vs.length = rows'.length * sz' := by rw [repVals_length h3, flat_len hrs]
        have hk : k ≤ maxLen := by
          have h4 : (2 ^ 24 : Nat) ≤ maxLen := by decide
          have h5 : k ≤ k * sz' := Nat.le_mul_of_pos_right k (by omega)
          omega
        have hex : Ext w S (w.alloc (.cells res e)) S := (alloc_ext (w := w) (S := S) (.cells res e) hst.heap).1
        have hnew : Holds (w.alloc (.cells res e)) (S.set w.heap.size (.rows sz' rows' rows'.length e)).im w.heap.size (.rows sz' rows' rows'.length e) := by
          have hkp : Ext w S (w.alloc (.cells res e)) (S.set w.heap.size (.rows sz' rows' rows'.length e)) := ⟨rfl, rfl, rfl, by simp, fun b hb hs => ⟨by unfold Heap.set; rw [if_neg (by omega)]; exact hs, Below.heap_alloc _ _ _ hb⟩⟩
          refine holds_rows (vs := vs) (alloc_block w _) ?_ (Nat.le_refl _) (by rw [hlen]; exact hk) hrs (RepVals.keep hkp.keeps _ h3) ⟨[], by simpa using h2⟩
          rw [← Array.length_toList, h2, hvl]
        obtain ⟨e1, e2, e3⟩ := new_block hst (.cells res e) (.rows sz' rows' rows'.length e) hnew
        simp only [Oper.wp, hrun, Oper.upon]
        exact hnext _ _ _ _ (e2.put (okDst_spec hd) (by simp only [Rep, hlen])) (hext.trans e3) (hK _ e1)
end
/-- A result that is told by a weaker value. -/
theorem CallsQ_wk {P : Program} {f : FuncId} {ps : List PV} {S : Heap} {p : PV} (h : CallsA P f ps S (fun q S' => Wk q p ∧ S.le S')) : CallsQ P f ps S p := by
  refine CallsQ_less ?_
  intro w args hv hh
  refine (h w args hv hh).mono ?_
  rintro r w' ⟨v, q, S', rfl, h1, h2, h3, h4, h5⟩
  exact ⟨v, p, S', rfl, h4 _ _ _ h1, h2, h3, rfl, h5⟩
/-- In a drawn region: a copy between slices of the call's own. -/
theorem Eff_of {P : Program} {o : Oper} {σ : Regs} {S : Heap} {Po : PV → Heap → Prop} (h : ∀ (n : Nat) (σ' : Regs) (K : Regs → Heap → Prop), okDst n o.dst = true → (∀ y ∈ o.op.operands.toList, ev σ' y = ev σ y) → (∀ p S', Po p S' → K (updO σ' o.dst p) S') → OpA P n o σ' S K) : Eff P o σ S Po :=
  fun n σ' K h1 h2 h3 => h n σ' K h1 (ev_congr h2) h3
end Go.Proofs.Ytcbonfgkfiapaaa.Pv
