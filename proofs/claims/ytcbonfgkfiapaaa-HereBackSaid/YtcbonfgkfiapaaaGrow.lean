/- append: onto a slice of the call's own, or onto none. -/
import Derived.Test.YtcbonfgkfiapaaaDrop
set_option linter.unusedVariables false
set_option linter.unusedSimpArgs false
namespace Go.Proofs.Ytcbonfgkfiapaaa.Pv
open Go Go.RowKit

/-- What append asks of a slice's type: an element's cells, its bytes, its type. -/
def appFacts (P : Program) (t : TypeId) : Option (Nat × Nat × TypeId) :=
  match P.underlying t with
  | some (.slice e) => match P.info? e with
    | some inf => match inf.zero with
      | some z => if z.cells.size = inf.size ∧ 0 < inf.size then some (inf.size, inf.bytes, e) else none
      | none => none
    | none => none
  | _ => none
theorem appFacts_spec {P : Program} {t : TypeId} {sz bytes : Nat} {e : TypeId} (h : appFacts P t = some (sz, bytes, e)) : ∃ inf z, P.underlying t = some (.slice e) ∧ P.info? e = some inf ∧ inf.zero = some z ∧ z.cells.size = sz ∧ inf.size = sz ∧ inf.bytes = bytes ∧ 0 < sz := by
  unfold appFacts at h
  split at h
  · rename_i e' ht
    split at h
    · rename_i inf hi
      split at h
      · rename_i z hz
        split at h
        · rename_i hc
          simp only [Option.some.injEq, Prod.mk.injEq] at h
          obtain ⟨h1, h2, h3⟩ := h
          subst h3
          exact ⟨inf, z, ht, hi, hz, by rw [hc.1, h1], h1, h2, by rw [← h1]; exact hc.2⟩
        · simp at h
      · simp at h
    · simp at h
  · simp at h

/-- The rows of a slice. -/
def elemsOf (S : Heap) (sz : Nat) : PV → Option (List (List PV))
  | .sl0 => some []
  | .slice sz' rows => if sz' = sz then some rows else none
  | .vec b n _ => match S b with
    | some (.rows sz' rs _ _) => if sz' = sz ∧ n ≤ rs.length then some (rs.take n) else none
    | _ => none
  | _ => none
theorem rows_len {w : World} {im : Nat → Prop} {b : Nat} : ∀ {off sz : Nat} {rows : List (List PV)}, RepRows w im b off sz rows → ∀ r ∈ rows, r.length = sz
  | _, _, [], _, r, hr => by cases hr
  | off, sz, x :: rows, h, r, hr => by
    simp only [RepRows] at h
    rcases List.mem_cons.1 hr with rfl | hr
    · exact h.1
    · exact rows_len h.2.2 r hr
theorem flat_len {sz : Nat} : ∀ {rows : List (List PV)}, (∀ r ∈ rows, r.length = sz) → rows.flatten.length = rows.length * sz
  | [], _ => by simp
  | r :: rows, h => by
    rw [List.flatten_cons, List.length_append, flat_len (rows := rows) fun r hr => h r (List.mem_cons_of_mem _ hr), h r (List.mem_cons_self ..), List.length_cons, Nat.add_mul]
    omega
theorem elems_spec {w : World} {S : Heap} (hh : ∀ b o, S b = some o → Holds w S.im b o) {sz : Nat} {p : PV} {v : Value} (hr : Rep w S.im p v) {rows : List (List PV)} (he : elemsOf S sz p = some rows) :
    ∃ a c, v = .slice a rows.length c ∧ (rows = [] ∨ ∃ ad vs, a = some ad ∧ RepVals w S.im rows.flatten vs ∧ (∀ r ∈ rows, r.length = sz) ∧ ∀ (j : Nat) u, vs[j]? = some u → w.cell? (ad.add j) = some u) := by
  cases p <;> simp only [elemsOf, reduceCtorEq, Option.some.injEq] at he
  case sl0 =>
    subst he
    simp only [Rep] at hr
    obtain ⟨a, rfl⟩ := hr
    exact ⟨a, 0, rfl, Or.inl rfl⟩
  case slice sz' rows' =>
    split at he
    · rename_i e
      subst e
      simp only [Option.some.injEq] at he
      subst he
      simp only [Rep] at hr
      obtain ⟨a, c, rfl, h1, h2, h3⟩ := hr
      refine ⟨a, c, rfl, ?_⟩
      rcases h3 with h3 | ⟨b, off, rfl, h4, h5, h6⟩
      · exact Or.inl h3
      · obtain ⟨vs, k1, k2⟩ := repAt_vals (repAt_flatten h6)
        exact Or.inr ⟨⟨b, off, none⟩, vs, rfl, k1, rows_len h6, fun j u hj => by rw [add_addr]; exact k2 j u hj⟩
    · simp at he
  case vec b n cap =>
    split at he
    · rename_i sz' rs c0 ty hb
      split at he
      · rename_i e
        obtain ⟨rfl, hn⟩ := e
        simp only [Option.some.injEq] at he
        subst he
        simp only [Rep] at hr
        subst hr
        obtain ⟨arr, h1, h2, h3, h4, h5⟩ := hh b _ hb
        refine ⟨some ⟨b, 0, none⟩, cap, by rw [List.length_take, Nat.min_eq_left hn], Or.inr ?_⟩
        obtain ⟨vs, k1, k2⟩ := repAt_vals (repAt_flatten (repRows_take n h5))
        exact ⟨⟨b, 0, none⟩, vs, rfl, k1, rows_len (repRows_take n h5), fun j u hj => by rw [add_addr]; exact k2 j u hj⟩
      · simp at he
    · simp at he
theorem run_append_zero {P : Program} (w : World) {t ty e : TypeId} {i : TypeInfo} (ht : P.underlying t = some (.slice e)) (hi : P.info? e = some i) (s a : Option Addr) (n cap c : Nat) (h : n ≤ cap) :
    (Builtin.append_ #[t, t] ty #[.slice s n cap, .slice a 0 c]).run P w = .ok (.slice s n cap) w := by
  cases s <;> cases a <;> simp [Builtin.append_, run_underlying ht, sizeOf, typeInfo, hi, Builtin.lenOf, Builtin.firstCells, loadCells, loadCellsFrom, storeCells, h]

theorem app_cells {w : World} {im : Nat → Prop} : ∀ {cs : List PV} {vs : List Value}, RepVals w im cs vs → (∀ c ∈ cs, c.isOne = true) → ∀ v ∈ vs, v.oneCell' = true := by
  intro cs vs h h1
  exact one_cells h (List.all_eq_true.2 h1)
/-- A row that has just come: the old cells, the new ones, whatever behind them. -/
theorem holds_rows {w : World} {im : Nat → Prop} {g sz cap : Nat} {e : TypeId} {cur : Array Value} {rows : List (List PV)} {vs : List Value} (hh : w.heap[g]? = some (.cells cur e (0, 0))) (hsz : cur.size = cap * sz) (hn : rows.length ≤ cap) (hc : cap ≤ maxLen)
    (hl : ∀ r ∈ rows, r.length = sz) (hv : RepVals w im rows.flatten vs) (hp : ∃ rest, cur.toList = vs ++ rest) : Holds w im g (.rows sz rows cap e) := by
  refine ⟨cur, hh, hsz, hn, hc, repRows_of_flat hl hv fun j v hj => ?_⟩
  rw [cell_of_block hh, Nat.zero_add]
  obtain ⟨rest, hp⟩ := hp
  rw [← Array.getElem?_toList, hp, List.getElem?_append_left (List.getElem?_eq_some_iff.1 hj).1]
  exact hj

section
variable {P : Program} {n : Nat} {σ : Regs} {S : Heap}
theorem OpA_append {o : Oper} {K : Regs → Heap → Prop} {t e : TypeId} {s x : Operand} {sz bytes : Nat} {olds rows : List (List PV)} (ho : o.op = .call { callee := .builtin .append, args := #[s, x], argTypes := #[t, t] }) (hf : appFacts P t = some (sz, bytes, e)) (hd : ∀ x, o.dst = some x → x < n)
    (hx : elemsOf S sz (ev σ x) = some rows) (h1 : ∀ r ∈ rows, ∀ c ∈ r, c.isOne = true)
    (hs : (ev σ s = .sl0 ∧ olds = []) ∨ ∃ b k cap rs cap', ev σ s = .vec b k cap ∧ S b = some (.rows sz rs cap' e) ∧ k ≤ rs.length ∧ k ≤ cap ∧ cap ≤ cap' ∧ olds = rs.take k)
    (h63 : olds.length + rows.length ≤ maxLen) (hb : (olds.length + rows.length) * bytes ≤ 140737488355328)
    (k0 : rows = [] → K (updO σ o.dst (ev σ s)) S)
    (k1 : ∀ b k cap rs cap', ev σ s = .vec b k cap → S b = some (.rows sz rs cap' e) → k + rows.length ≤ cap → K (updO σ o.dst (.vec b (k + rows.length) cap)) (S.set b (.rows sz (rs.take k ++ rows) cap' e)))
    (k2 : ∀ b cap, S b = none → olds.length + rows.length ≤ cap → K (updO σ o.dst (.vec b (olds.length + rows.length) cap)) (S.set b (.rows sz (olds ++ rows) cap e))) : OpA P n o σ S K := by
  intro w0 S0 w a hst hext next Qx hnext
  obtain ⟨inf, z, ht, hi, hz, hzs, hsz, hby, hpos⟩ := appFacts_spec hf
  obtain ⟨xa, xc, hxv, hxr⟩ := elems_spec hst.heap (rep_ev hst x) hx
  have hsr := rep_ev hst s
  have hexec : ∀ v w', (Builtin.append_ #[t, t] o.type #[a.eval s, a.eval x]).run P w = .ok v w' → (execOp a.eval o).run P w = .ok (.value v) w' := by
    intro v w' hr
    simp only [execOp, ho, resolve, invoke, builtin, Sem.run_bind, Sem.run_pure, Result.andThen_ok, List.map_toArray, List.map_cons, List.map_nil, hr]
  have go : ∀ v w' p S', (Builtin.append_ #[t, t] o.type #[a.eval s, a.eval x]).run P w = .ok v w' → Rep w' S'.im p v → St n w' S' a σ → Ext w S w' S' → K (updO σ o.dst p) S' → o.wp P a w next Qx := by
    intro v w' p S' hr hrep hst' hext' hK
    simp only [Oper.wp, hexec v w' hr, Oper.upon]
    exact hnext _ _ _ _ (hst'.put hd hrep) (hext.trans hext') hK
  by_cases hr0 : rows = []
  · subst hr0
    have hsv : ∃ sa sn sc, a.eval s = .slice sa sn sc ∧ sn ≤ sc := by
      rcases hs with ⟨hs, _⟩ | ⟨b, k, cap, rs, cap', hs, _, _, hk, _, _⟩
      · rw [hs] at hsr; simp only [Rep] at hsr
        obtain ⟨sa, hsr⟩ := hsr
        exact ⟨sa, 0, 0, hsr, Nat.le_refl _⟩
      · rw [hs] at hsr; simp only [Rep] at hsr
        exact ⟨_, _, _, hsr, hk⟩
    obtain ⟨sa, sn, sc, e1, e2⟩ := hsv
    refine go _ w (ev σ s) S ?_ hsr hst (Ext.refl w S) (k0 rfl)
    rw [hxv, e1]
    exact run_append_zero w ht hi sa xa sn sc xc e2
  · rcases hxr with hxr | ⟨ad, vs, rfl, hv, hlen, hcell⟩
    · exact absurd hxr hr0
    have hm : 0 < rows.length := List.length_pos_iff.2 hr0
    have hvl : vs.length = rows.length * inf.size := by rw [repVals_length hv, flat_len hlen, hsz]
    have hone := app_cells hv fun c hc => by
      obtain ⟨r, h2, h3⟩ := List.mem_flatten.1 hc
      exact h1 r h2 c h3
    -- a new row
    have fresh : ∀ (ovs : List Value) (cap : Nat) (tl : Array Value), RepVals w S.im olds.flatten ovs → (∀ r ∈ olds, r.length = sz) → tl.size = (cap - (olds.length + rows.length)) * sz → olds.length + rows.length ≤ cap → cap ≤ maxLen →
        (Builtin.append_ #[t, t] o.type #[a.eval s, a.eval x]).run P w = .ok (.slice (some ⟨w.heap.size, 0, none⟩) (olds.length + rows.length) cap) (w.drew.alloc (.cells (ovs.toArray ++ vs.toArray ++ tl) e)) → o.wp P a w next Qx := by
      intro ovs cap tl ho1 ho2 htl hcap hmax hrun
      have hst' : St n w.drew S a σ := drew_st hst
      have hext' : Ext w S w.drew S := drew_ext (Ext.refl w S)
      have hall : ∀ r ∈ olds ++ rows, r.length = sz := fun r hr => (List.mem_append.1 hr).elim (ho2 r) (hlen r)
      have hk : Ext w S (w.drew.alloc (.cells (ovs.toArray ++ vs.toArray ++ tl) e)) (S.set w.heap.size (.rows sz (olds ++ rows) cap e)) := ⟨rfl, rfl, rfl, by show w.heap.size ≤ (w.heap.push _).size; simp, fun b hb hs => ⟨by unfold Heap.set; rw [if_neg (by omega)]; exact hs, Below.heap_alloc w.drew _ _ hb⟩⟩
      have hsum : (ovs.toArray ++ vs.toArray ++ tl).size = cap * sz := by
        simp only [Array.size_append, List.size_toArray, repVals_length ho1, flat_len ho2, hvl, htl, hsz, ← Nat.add_mul]
        congr 1; omega
      obtain ⟨e1, e2, e3⟩ := new_block hst' (.cells (ovs.toArray ++ vs.toArray ++ tl) e) (.rows sz (olds ++ rows) cap e)
        (holds_rows (vs := ovs ++ vs) (alloc_block w.drew _) hsum (by rw [List.length_append]; exact hcap) hmax hall (by rw [List.flatten_append]; exact repVals_append (RepVals.keep hk.keeps _ ho1) (RepVals.keep hk.keeps _ hv)) ⟨tl.toList, by simp⟩)
      exact go _ _ (.vec w.heap.size (olds.length + rows.length) cap) _ hrun (by simp only [Rep]) e2 (hext'.trans e3) (k2 _ cap e1 hcap)
    rcases hs with ⟨hs, rfl⟩ | ⟨b, k, cap, rs, cap', hs, hblk, hk, hkc, hcc, rfl⟩
    · rw [hs] at hsr; simp only [Rep] at hsr
      obtain ⟨sa, hsr⟩ := hsr
      simp only [List.length_nil, Nat.zero_add] at h63 hb fresh
      have hmax : grownCap w rows.length 0 e ≤ maxLen := grownCap_le_maxLen w rows.length 0 e h63
      have hge := grownCap_ge w rows.length 0 e
      have h63' : (rows.length : Int) ≤ 9223372036854775807 := by simp only [maxLen] at h63; omega
      cases sa with
      | none =>
        refine fresh [] _ (Builtin.zeroCells z.cells (grownCap w rows.length 0 e - rows.length)) (repVals_nil.2 rfl) (fun r hr => by cases hr) (by rw [size_zeroCells, hzs]) hge hmax ?_
        rw [hsr, hxv]
        have := run_append_nil (P := P) w t o.type e inf z ht hi hz ad rows.length xc vs hvl hcell hm h63' (by rw [hby]; omega)
        simpa using this
      | some ga =>
        refine fresh [] _ (Builtin.zeroCells z.cells (grownCap w rows.length 0 e - rows.length)) (repVals_nil.2 rfl) (fun r hr => by cases hr) (by rw [size_zeroCells, hzs]) hge hmax ?_
        rw [hsr, hxv]
        have := run_append_grow (P := P) w t o.type e inf z ht hi hz ga 0 0 [] (by simp) (fun j v hj => by simp at hj) ad rows.length xc vs hvl hcell (by omega) (by simpa using h63') (growslice_fits (by omega) (by rw [hby]; simpa using hb))
        simpa using this
    · rw [hs] at hsr; simp only [Rep] at hsr
      obtain ⟨arr, b1, b2, b3, b4, b5⟩ := hst.heap b _ hblk
      have hlt : (rs.take k).length = k := by rw [List.length_take, Nat.min_eq_left hk]
      rw [hlt] at h63 hb fresh
      obtain ⟨ovs, o1, o2⟩ := repAt_vals (repAt_flatten (repRows_take k b5))
      have o3 := rows_len (repRows_take k b5)
      have ovl : ovs.length = k * inf.size := by rw [repVals_length o1, flat_len o3, hlt, hsz]
      by_cases hroom : k + rows.length ≤ cap
      · have hfit : k * inf.size + vs.length ≤ arr.size := by rw [hvl, b2, ← Nat.add_mul, hsz]; exact Nat.mul_le_mul_right _ (by omega)
        have hrun := run_append_room (P := P) w t o.type e inf ht hi b k cap arr b1 ad rows.length xc vs hvl hcell hone hroom hfit
        have htake : arr.toList.take (k * inf.size) = ovs := by
          apply List.ext_getElem?
          intro j
          by_cases hj : j < k * inf.size
          · rw [List.getElem?_take_of_lt hj, Array.getElem?_toList]
            have hj' : j < ovs.length := by rw [ovl]; exact hj
            have := o2 j ovs[j] (List.getElem?_eq_getElem hj')
            rw [Nat.zero_add, cell_of_block b1] at this
            rw [this, List.getElem?_eq_getElem hj']
          · rw [List.getElem?_eq_none (by rw [List.length_take]; omega), List.getElem?_eq_none (by rw [ovl]; omega)]
        rw [htake] at hrun
        have hset : w.setRow b (ovs ++ vs ++ arr.toList.drop (k * inf.size + vs.length)).toArray = setBlk w b (.cells (ovs ++ vs ++ arr.toList.drop (k * inf.size + vs.length)).toArray e (0, 0)) := by
          have hbl : b < w.heap.size := (Array.getElem?_eq_some_iff.1 b1).1
          unfold World.setRow setBlk
          congr 1
          apply Array.ext'
          apply List.ext_getElem?
          intro i
          simp only [Array.getElem?_toList, Array.getElem?_modify]
          by_cases ee : i = b
          · subst ee
            have hb' : w.heap[i] = .cells arr e (0, 0) := by rw [Array.getElem?_eq_getElem hbl] at b1; exact Option.some.inj b1
            simp [hbl, hb']
          · rw [if_neg (Ne.symm ee), Array.getElem?_setIfInBounds_ne (Ne.symm ee)]
        rw [hset] at hrun
        have hall : ∀ r ∈ rs.take k ++ rows, r.length = sz := fun r hr => (List.mem_append.1 hr).elim (o3 r) (hlen r)
        obtain ⟨e1, e2⟩ := set_block hst hblk (.cells (ovs ++ vs ++ arr.toList.drop (k * inf.size + vs.length)).toArray e (0, 0)) (.rows sz (rs.take k ++ rows) cap' e)
          (fun w' im' hkp hb' => holds_rows (vs := ovs ++ vs) hb' (by simp only [List.size_toArray, List.length_append, List.length_drop, Array.length_toList, ovl]; rw [← b2]; omega) (by rw [List.length_append, hlt]; omega) b4 hall
            (by rw [List.flatten_append]; exact repVals_append (RepVals.keep hkp _ o1) (RepVals.keep hkp _ hv)) ⟨_, rfl⟩)
        refine go (.slice (some ⟨b, 0, none⟩) (k + rows.length) cap) _ (.vec b (k + rows.length) cap) _ ?_ (by simp only [Rep]) e1 e2 (k1 b k cap rs cap' hs hblk hroom)
        rw [hsr, hxv]; exact hrun
      · have hmax : grownCap w (k + rows.length) cap e ≤ maxLen := grownCap_le_maxLen w _ cap e h63
        have hge := grownCap_ge w (k + rows.length) cap e
        refine fresh ovs _ (Builtin.zeroCells z.cells (grownCap w (k + rows.length) cap e - (k + rows.length))) o1 o3 (by rw [size_zeroCells, hzs]) hge hmax ?_
        rw [hsr, hxv]
        exact run_append_grow (P := P) w t o.type e inf z ht hi hz ⟨b, 0, none⟩ k cap ovs ovl (fun j v hj => by rw [add_addr]; exact o2 j v hj) ad rows.length xc vs hvl hcell (by omega) (by simp only [maxLen] at h63; omega) (growslice_fits (by omega) (by rw [hby]; exact hb))
end

end Go.Proofs.Ytcbonfgkfiapaaa.Pv
