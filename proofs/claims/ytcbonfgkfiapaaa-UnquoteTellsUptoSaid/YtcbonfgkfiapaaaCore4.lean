/- Blocks of a call's own that nobody looks at any more are forgotten. append: onto a slice of the call's own, or onto none. Reading a slice of the call's own as if it were none's. Slices with all three bounds; stores told by a size. A region whose order is drawn, its first operation but a move that may be late. Code in which there are labels, through which the run goes without a jump. A slice that was made by a call and is handed out is not written any more: it is told by its rows. A variable of the call's own in which a slice grows. Calls with arguments told with less. -/
import Derived.Test.YtcbonfgkfiapaaaCore3
import Derived.Scope
/-! Blocks of a call's own that nobody looks at any more are forgotten. -/
set_option linter.unusedVariables false
namespace Go.Proofs.Ytcbonfgkfiapaaa.Pv
open Go Go.RowKit

def Heap.le (S S' : Heap) : Prop := ∀ b o, S b = some o → S' b = some o
theorem Heap.le_refl (S : Heap) : S.le S := fun _ _ h => h
theorem Heap.le_trans {S S1 S2 : Heap} (h : S.le S1) (k : S1.le S2) : S.le S2 := fun b o e => k b o (h b o e)
theorem Heap.le_set {S : Heap} {b : Nat} {o : MObj} (h : S b = Option.none) : S.le (S.set b o) := by
  intro b' o' e
  rw [set_apply]
  rw [if_neg]
  · exact e
  · rintro rfl; rw [h] at e; cases e
theorem Heap.set_set {S : Heap} {b : Nat} {o o' : MObj} : (S.set b o).set b o' = S.set b o' := by
  funext x
  simp only [set_apply]
  split <;> rfl
theorem keeps_le {w : World} {S S' : Heap} (h : S.le S') : Keeps w w S'.im S.im := by
  refine ⟨Nat.le_refl _, fun b hb hi => ⟨?_, rfl⟩⟩
  show S b = none
  cases hc : S b with
  | none => rfl
  | some o => have h1 := h b o hc; have h2 : S' b = none := hi; rw [h1] at h2; cases h2
theorem CallsA.less {P : Program} {f : FuncId} {ps : List PV} {S : Heap} {Po Po' : PV → Heap → Prop} (h : CallsA P f ps S Po) (hk : ∀ p S', Po p S' → ∃ S'', S''.le S' ∧ Po' p S'') : CallsA P f ps S Po' := by
  intro w args hv hh
  refine (h w args hv hh).mono ?_
  rintro e w' ⟨v, p, S', rfl, h1, h2, h3, h4⟩
  obtain ⟨S'', k1, k2⟩ := hk p S' h4
  refine ⟨v, p, S'', rfl, Rep.keep (keeps_le k1) p h1, fun b o hb => Holds.keep (keeps_le k1) rfl (h2 b o (k1 b o hb)), ⟨h3.os, h3.tape, h3.output, h3.size, fun b hb hS => ?_⟩, k2⟩
  obtain ⟨e1, e2⟩ := h3.kept b hb hS
  refine ⟨?_, e2⟩
  cases hc : S'' b with
  | none => rfl
  | some o => have := k1 b o hc; rw [e1] at this; cases this
/-- What a call answers, where it has made blocks of its own and left them. -/
theorem CallsQ_less {P : Program} {f : FuncId} {ps : List PV} {S : Heap} {p : PV} (h : CallsA P f ps S (fun q S' => q = p ∧ S.le S')) : CallsQ P f ps S p :=
  h.less fun q S' ⟨h1, h2⟩ => ⟨S, h2, h1, rfl⟩

end Go.Proofs.Ytcbonfgkfiapaaa.Pv

/-! append: onto a slice of the call's own, or onto none. -/
set_option linter.unusedVariables false
set_option linter.unusedSimpArgs false
namespace Go.Proofs.Ytcbonfgkfiapaaa.Pv
open Go Go.RowKit

/-- What append asks of a slice's type: an element's cells, its bytes, its type. -/
def appFacts (P : Program) (t : TypeId) : Option (Nat × Nat × TypeId) :=
  match P.underlying t with
  | some (.slice e) => match P.info? e with
    | some inf => match inf.zero with
      | some z => if z.cells.size = inf.size ∧ 0 < inf.size then some (inf.size, inf.bytes, e) else none
      | none => none
    | none => none
  | _ => none
theorem appFacts_spec {P : Program} {t : TypeId} {sz bytes : Nat} {e : TypeId} (h : appFacts P t = some (sz, bytes, e)) : ∃ inf z, P.underlying t = some (.slice e) ∧ P.info? e = some inf ∧ inf.zero = some z ∧ z.cells.size = sz ∧ inf.size = sz ∧ inf.bytes = bytes ∧ 0 < sz := by
  unfold appFacts at h
  split at h
  · rename_i e' ht
    split at h
    · rename_i inf hi
      split at h
      · rename_i z hz
        split at h
        · rename_i hc
          simp only [Option.some.injEq, Prod.mk.injEq] at h
          obtain ⟨h1, h2, h3⟩ := h
          subst h3
          exact ⟨inf, z, ht, hi, hz, by rw [hc.1, h1], h1, h2, by rw [← h1]; exact hc.2⟩
        · simp at h
      · simp at h
    · simp at h
  · simp at h

/-- The rows of a slice. -/
def elemsOf (S : Heap) (sz : Nat) : PV → Option (List (List PV))
  | .sl0 => some []
  | .slice sz' rows => if sz' = sz then some rows else none
  | .vec b n _ => match S b with
    | some (.rows sz' rs _ _) => if sz' = sz ∧ n ≤ rs.length then some (rs.take n) else none
    | _ => none
  | _ => none
theorem rows_len {w : World} {im : Nat → Prop} {b : Nat} : ∀ {off sz : Nat} {rows : List (List PV)}, RepRows w im b off sz rows → ∀ r ∈ rows, r.length = sz
  | _, _, [], _, r, hr => by cases hr
  | off, sz, x :: rows, h, r, hr => by
    simp only [RepRows] at h
    rcases List.mem_cons.1 hr with rfl | hr
    · exact h.1
    · exact rows_len h.2.2 r hr
theorem flat_len {sz : Nat} : ∀ {rows : List (List PV)}, (∀ r ∈ rows, r.length = sz) → rows.flatten.length = rows.length * sz
  | [], _ => by simp
  | r :: rows, h => by
    rw [List.flatten_cons, List.length_append, flat_len (rows := rows) fun r hr => h r (List.mem_cons_of_mem _ hr), h r (List.mem_cons_self ..), List.length_cons, Nat.add_mul]
    omega
theorem elems_spec {w : World} {S : Heap} (hh : ∀ b o, S b = some o → Holds w S.im b o) {sz : Nat} {p : PV} {v : Value} (hr : Rep w S.im p v) {rows : List (List PV)} (he : elemsOf S sz p = some rows) :
    ∃ a c, v = .slice a rows.length c ∧ (rows = [] ∨ ∃ ad vs, a = some ad ∧ RepVals w S.im rows.flatten vs ∧ (∀ r ∈ rows, r.length = sz) ∧ ∀ (j : Nat) u, vs[j]? = some u → w.cell? (ad.add j) = some u) := by
  cases p <;> simp only [elemsOf, reduceCtorEq, Option.some.injEq] at he
  case sl0 =>
    subst he
    simp only [Rep] at hr
    obtain ⟨a, rfl⟩ := hr
    exact ⟨a, 0, rfl, Or.inl rfl⟩
  case slice sz' rows' =>
    split at he
    · rename_i e
      subst e
      simp only [Option.some.injEq] at he
      subst he
      simp only [Rep] at hr
      obtain ⟨a, c, rfl, h1, h2, h3⟩ := hr
      refine ⟨a, c, rfl, ?_⟩
      rcases h3 with h3 | ⟨b, off, rfl, h4, h5, h6⟩
      · exact Or.inl h3
      · obtain ⟨vs, k1, k2⟩ := repAt_vals (repAt_flatten h6)
        exact Or.inr ⟨⟨b, off, none⟩, vs, rfl, k1, rows_len h6, fun j u hj => by rw [add_addr]; exact k2 j u hj⟩
    · simp at he
  case vec b n cap =>
    split at he
    · rename_i sz' rs c0 ty hb
      split at he
      · rename_i e
        obtain ⟨rfl, hn⟩ := e
        simp only [Option.some.injEq] at he
        subst he
        simp only [Rep] at hr
        subst hr
        obtain ⟨arr, h1, h2, h3, h4, h5⟩ := hh b _ hb
        refine ⟨some ⟨b, 0, none⟩, cap, by rw [List.length_take, Nat.min_eq_left hn], Or.inr ?_⟩
        obtain ⟨vs, k1, k2⟩ := repAt_vals (repAt_flatten (repRows_take n h5))
        exact ⟨⟨b, 0, none⟩, vs, rfl, k1, rows_len (repRows_take n h5), fun j u hj => by rw [add_addr]; exact k2 j u hj⟩
      · simp at he
    · simp at he
theorem run_append_zero {P : Program} (w : World) {t ty e : TypeId} {i : TypeInfo} (ht : P.underlying t = some (.slice e)) (hi : P.info? e = some i) (s a : Option Addr) (n cap c : Nat) (h : n ≤ cap) :
    (Builtin.append_ #[t, t] ty #[.slice s n cap, .slice a 0 c]).run P w = .ok (.slice s n cap) w := by
  cases s <;> cases a <;> simp [Builtin.append_, run_underlying ht, sizeOf, typeInfo, hi, Builtin.lenOf, Builtin.firstCells, loadCells, loadCellsFrom, storeCells, h]

theorem app_cells {w : World} {im : Nat → Prop} : ∀ {cs : List PV} {vs : List Value}, RepVals w im cs vs → (∀ c ∈ cs, c.isOne = true) → ∀ v ∈ vs, v.oneCell' = true := by
  intro cs vs h h1
  exact one_cells h (List.all_eq_true.2 h1)
/-- A row that has just come: the old cells, the new ones, whatever behind them. -/
theorem holds_rows {w : World} {im : Nat → Prop} {g sz cap : Nat} {e : TypeId} {cur : Array Value} {rows : List (List PV)} {vs : List Value} (hh : w.heap[g]? = some (.cells cur e (0, 0))) (hsz : cur.size = cap * sz) (hn : rows.length ≤ cap) (hc : cap ≤ maxLen)
    (hl : ∀ r ∈ rows, r.length = sz) (hv : RepVals w im rows.flatten vs) (hp : ∃ rest, cur.toList = vs ++ rest) : Holds w im g (.rows sz rows cap e) := by
  refine ⟨cur, hh, hsz, hn, hc, repRows_of_flat hl hv fun j v hj => ?_⟩
  rw [cell_of_block hh, Nat.zero_add]
  obtain ⟨rest, hp⟩ := hp
  rw [← Array.getElem?_toList, hp, List.getElem?_append_left (List.getElem?_eq_some_iff.1 hj).1]
  exact hj

section
variable {P : Program} {n : Nat} {σ : Regs} {S : Heap}
theorem OpA_append {o : Oper} {K : Regs → Heap → Prop} {t e : TypeId} {s x : Operand} {sz bytes : Nat} {olds rows : List (List PV)} (ho : o.op = .call { callee := .builtin .append, args := #[s, x], argTypes := #[t, t] }) (hf : appFacts P t = some (sz, bytes, e)) (hd : ∀ x, o.dst = some x → x < n)
    (hx : elemsOf S sz (ev σ x) = some rows) (h1 : ∀ r ∈ rows, ∀ c ∈ r, c.isOne = true)
    (hs : (ev σ s = .sl0 ∧ olds = []) ∨ ∃ b k cap rs cap', ev σ s = .vec b k cap ∧ S b = some (.rows sz rs cap' e) ∧ k ≤ rs.length ∧ k ≤ cap ∧ cap ≤ cap' ∧ olds = rs.take k)
    (h63 : olds.length + rows.length ≤ maxLen) (hb : (olds.length + rows.length) * bytes ≤ 140737488355328)
    (k0 : rows = [] → K (updO σ o.dst (ev σ s)) S)
    (k1 : ∀ b k cap rs cap', ev σ s = .vec b k cap → S b = some (.rows sz rs cap' e) → k + rows.length ≤ cap → K (updO σ o.dst (.vec b (k + rows.length) cap)) (S.set b (.rows sz (rs.take k ++ rows) cap' e)))
    (k2 : ∀ b cap, S b = none → olds.length + rows.length ≤ cap → K (updO σ o.dst (.vec b (olds.length + rows.length) cap)) (S.set b (.rows sz (olds ++ rows) cap e))) : OpA P n o σ S K := by
  intro w0 S0 w a hst hext next Qx hnext
  obtain ⟨inf, z, ht, hi, hz, hzs, hsz, hby, hpos⟩ := appFacts_spec hf
  obtain ⟨xa, xc, hxv, hxr⟩ := elems_spec hst.heap (rep_ev hst x) hx
  have hsr := rep_ev hst s
  have hexec : ∀ v w', (Builtin.append_ #[t, t] o.type #[a.eval s, a.eval x]).run P w = .ok v w' → (execOp a.eval o).run P w = .ok (.value v) w' := by
    intro v w' hr
    simp only [execOp, ho, resolve, invoke, builtin, Sem.run_bind, Sem.run_pure, Result.andThen_ok, List.map_toArray, List.map_cons, List.map_nil, hr]
  have go : ∀ v w' p S', (Builtin.append_ #[t, t] o.type #[a.eval s, a.eval x]).run P w = .ok v w' → Rep w' S'.im p v → St n w' S' a σ → Ext w S w' S' → K (updO σ o.dst p) S' → o.wp P a w next Qx := by
    intro v w' p S' hr hrep hst' hext' hK
    simp only [Oper.wp, hexec v w' hr, Oper.upon]
    exact hnext _ _ _ _ (hst'.put hd hrep) (hext.trans hext') hK
  by_cases hr0 : rows = []
  · subst hr0
    have hsv : ∃ sa sn sc, a.eval s = .slice sa sn sc ∧ sn ≤ sc := by
      rcases hs with ⟨hs, _⟩ | ⟨b, k, cap, rs, cap', hs, _, _, hk, _, _⟩
      · rw [hs] at hsr; simp only [Rep] at hsr
        obtain ⟨sa, hsr⟩ := hsr
        exact ⟨sa, 0, 0, hsr, Nat.le_refl _⟩
      · rw [hs] at hsr; simp only [Rep] at hsr
        exact ⟨_, _, _, hsr, hk⟩
    obtain ⟨sa, sn, sc, e1, e2⟩ := hsv
    refine go _ w (ev σ s) S ?_ hsr hst (Ext.refl w S) (k0 rfl)
    rw [hxv, e1]
    exact run_append_zero w ht hi sa xa sn sc xc e2
  · rcases hxr with hxr | ⟨ad, vs, rfl, hv, hlen, hcell⟩
    · exact absurd hxr hr0
    have hm : 0 < rows.length := List.length_pos_iff.2 hr0
    have hvl : vs.length = rows.length * inf.size := by rw [repVals_length hv, flat_len hlen, hsz]
    have hone := app_cells hv fun c hc => by
      obtain ⟨r, h2, h3⟩ := List.mem_flatten.1 hc
      exact h1 r h2 c h3
    -- a new row
    have fresh : ∀ (ovs : List Value) (cap : Nat) (tl : Array Value), RepVals w S.im olds.flatten ovs → (∀ r ∈ olds, r.length = sz) → tl.size = (cap - (olds.length + rows.length)) * sz → olds.length + rows.length ≤ cap → cap ≤ maxLen →
        (Builtin.append_ #[t, t] o.type #[a.eval s, a.eval x]).run P w = .ok (.slice (some ⟨w.heap.size, 0, none⟩) (olds.length + rows.length) cap) (w.drew.alloc (.cells (ovs.toArray ++ vs.toArray ++ tl) e)) → o.wp P a w next Qx := by
      intro ovs cap tl ho1 ho2 htl hcap hmax hrun
      have hst' : St n w.drew S a σ := drew_st hst
      have hext' : Ext w S w.drew S := drew_ext (Ext.refl w S)
      have hall : ∀ r ∈ olds ++ rows, r.length = sz := fun r hr => (List.mem_append.1 hr).elim (ho2 r) (hlen r)
      have hk : Ext w S (w.drew.alloc (.cells (ovs.toArray ++ vs.toArray ++ tl) e)) (S.set w.heap.size (.rows sz (olds ++ rows) cap e)) := ⟨rfl, rfl, rfl, by show w.heap.size ≤ (w.heap.push _).size; simp, fun b hb hs => ⟨by unfold Heap.set; rw [if_neg (by omega)]; exact hs, Below.heap_alloc w.drew _ _ hb⟩⟩
      have hsum : (ovs.toArray ++ vs.toArray ++ tl).size = cap * sz := by
        simp only [Array.size_append, List.size_toArray, repVals_length ho1, flat_len ho2, hvl, htl, hsz, ← Nat.add_mul]
        congr 1; omega
      obtain ⟨e1, e2, e3⟩ := new_block hst' (.cells (ovs.toArray ++ vs.toArray ++ tl) e) (.rows sz (olds ++ rows) cap e)
        (holds_rows (vs := ovs ++ vs) (alloc_block w.drew _) hsum (by rw [List.length_append]; exact hcap) hmax hall (by rw [List.flatten_append]; exact repVals_append (RepVals.keep hk.keeps _ ho1) (RepVals.keep hk.keeps _ hv)) ⟨tl.toList, by simp⟩)
      exact go _ _ (.vec w.heap.size (olds.length + rows.length) cap) _ hrun (by simp only [Rep]) e2 (hext'.trans e3) (k2 _ cap e1 hcap)
    rcases hs with ⟨hs, rfl⟩ | ⟨b, k, cap, rs, cap', hs, hblk, hk, hkc, hcc, rfl⟩
    · rw [hs] at hsr; simp only [Rep] at hsr
      obtain ⟨sa, hsr⟩ := hsr
      simp only [List.length_nil, Nat.zero_add] at h63 hb fresh
      have hmax : grownCap w rows.length 0 e ≤ maxLen := grownCap_le_maxLen w rows.length 0 e h63
      have hge := grownCap_ge w rows.length 0 e
      have h63' : (rows.length : Int) ≤ 9223372036854775807 := by simp only [maxLen] at h63; omega
      cases sa with
      | none =>
        refine fresh [] _ (Builtin.zeroCells z.cells (grownCap w rows.length 0 e - rows.length)) (repVals_nil.2 rfl) (fun r hr => by cases hr) (by rw [size_zeroCells, hzs]) hge hmax ?_
        rw [hsr, hxv]
        have := run_append_nil (P := P) w t o.type e inf z ht hi hz ad rows.length xc vs hvl hcell hm h63' (by rw [hby]; omega)
        simpa using this
      | some ga =>
        refine fresh [] _ (Builtin.zeroCells z.cells (grownCap w rows.length 0 e - rows.length)) (repVals_nil.2 rfl) (fun r hr => by cases hr) (by rw [size_zeroCells, hzs]) hge hmax ?_
        rw [hsr, hxv]
        have := run_append_grow (P := P) w t o.type e inf z ht hi hz ga 0 0 [] (by simp) (fun j v hj => by simp at hj) ad rows.length xc vs hvl hcell (by omega) (by simpa using h63') (growslice_fits (by omega) (by rw [hby]; simpa using hb))
        simpa using this
    · rw [hs] at hsr; simp only [Rep] at hsr
      obtain ⟨arr, b1, b2, b3, b4, b5⟩ := hst.heap b _ hblk
      have hlt : (rs.take k).length = k := by rw [List.length_take, Nat.min_eq_left hk]
      rw [hlt] at h63 hb fresh
      obtain ⟨ovs, o1, o2⟩ := repAt_vals (repAt_flatten (repRows_take k b5))
      have o3 := rows_len (repRows_take k b5)
      have ovl : ovs.length = k * inf.size := by rw [repVals_length o1, flat_len o3, hlt, hsz]
      by_cases hroom : k + rows.length ≤ cap
      · have hfit : k * inf.size + vs.length ≤ arr.size := by rw [hvl, b2, ← Nat.add_mul, hsz]; exact Nat.mul_le_mul_right _ (by omega)
        have hrun := run_append_room (P := P) w t o.type e inf ht hi b k cap arr b1 ad rows.length xc vs hvl hcell hone hroom hfit
        have htake : arr.toList.take (k * inf.size) = ovs := by
          apply List.ext_getElem?
          intro j
          by_cases hj : j < k * inf.size
          · rw [List.getElem?_take_of_lt hj, Array.getElem?_toList]
            have hj' : j < ovs.length := by rw [ovl]; exact hj
            have := o2 j ovs[j] (List.getElem?_eq_getElem hj')
            rw [Nat.zero_add, cell_of_block b1] at this
            rw [this, List.getElem?_eq_getElem hj']
          · rw [List.getElem?_eq_none (by rw [List.length_take]; omega), List.getElem?_eq_none (by rw [ovl]; omega)]
        rw [htake] at hrun
        have hset : w.setRow b (ovs ++ vs ++ arr.toList.drop (k * inf.size + vs.length)).toArray = setBlk w b (.cells (ovs ++ vs ++ arr.toList.drop (k * inf.size + vs.length)).toArray e (0, 0)) := by
          have hbl : b < w.heap.size := (Array.getElem?_eq_some_iff.1 b1).1
          unfold World.setRow setBlk
          congr 1
          apply Array.ext'
          apply List.ext_getElem?
          intro i
          simp only [Array.getElem?_toList, Array.getElem?_modify]
          by_cases ee : i = b
          · subst ee
            have hb' : w.heap[i] = .cells arr e (0, 0) := by rw [Array.getElem?_eq_getElem hbl] at b1; exact Option.some.inj b1
            simp [hbl, hb']
          · rw [if_neg (Ne.symm ee), Array.getElem?_setIfInBounds_ne (Ne.symm ee)]
        rw [hset] at hrun
        have hall : ∀ r ∈ rs.take k ++ rows, r.length = sz := fun r hr => (List.mem_append.1 hr).elim (o3 r) (hlen r)
        obtain ⟨e1, e2⟩ := set_block hst hblk (.cells (ovs ++ vs ++ arr.toList.drop (k * inf.size + vs.length)).toArray e (0, 0)) (.rows sz (rs.take k ++ rows) cap' e)
          (fun w' im' hkp hb' => holds_rows (vs := ovs ++ vs) hb' (by simp only [List.size_toArray, List.length_append, List.length_drop, Array.length_toList, ovl]; rw [← b2]; omega) (by rw [List.length_append, hlt]; omega) b4 hall
            (by rw [List.flatten_append]; exact repVals_append (RepVals.keep hkp _ o1) (RepVals.keep hkp _ hv)) ⟨_, rfl⟩)
        refine go (.slice (some ⟨b, 0, none⟩) (k + rows.length) cap) _ (.vec b (k + rows.length) cap) _ ?_ (by simp only [Rep]) e1 e2 (k1 b k cap rs cap' hs hblk hroom)
        rw [hsr, hxv]; exact hrun
      · have hmax : grownCap w (k + rows.length) cap e ≤ maxLen := grownCap_le_maxLen w _ cap e h63
        have hge := grownCap_ge w (k + rows.length) cap e
        refine fresh ovs _ (Builtin.zeroCells z.cells (grownCap w (k + rows.length) cap e - (k + rows.length))) o1 o3 (by rw [size_zeroCells, hzs]) hge hmax ?_
        rw [hsr, hxv]
        exact run_append_grow (P := P) w t o.type e inf z ht hi hz ⟨b, 0, none⟩ k cap ovs ovl (fun j v hj => by rw [add_addr]; exact o2 j v hj) ad rows.length xc vs hvl hcell (by omega) (by simp only [maxLen] at h63; omega) (growslice_fits (by omega) (by rw [hby]; exact hb))
end

end Go.Proofs.Ytcbonfgkfiapaaa.Pv

/-! Reading a slice of the call's own as if it were none's. -/
set_option linter.unusedVariables false
set_option linter.unusedSimpArgs false
namespace Go.Proofs.Ytcbonfgkfiapaaa.Pv
open Go Go.RowKit

def view (S : Heap) : PV → PV
  | .vec b n cap => match S b with
    | some (.rows sz rs cap' _) => if n ≤ rs.length ∧ n ≤ cap ∧ cap ≤ cap' then .slice sz (rs.take n) else .vec b n cap
    | _ => .vec b n cap
  | .sl0 => .slice 1 []
  | p => p
theorem keeps_none (w : World) (S : Heap) : Keeps w w S.im Heap.none.im := ⟨Nat.le_refl _, fun _ _ _ => ⟨rfl, rfl⟩⟩
theorem rep_view {w : World} {S : Heap} (hh : ∀ b o, S b = some o → Holds w S.im b o) {p : PV} {v : Value} (h : Rep w S.im p v) : Rep w Heap.none.im (view S p) v := by
  unfold view
  split
  · rename_i b n cap
    split
    · rename_i sz rs cap' ty hb
      split
      · rename_i hc
        obtain ⟨h1, h2, h3⟩ := hc
        obtain ⟨arr, a1, a2, a3, a4, a5⟩ := hh b _ hb
        simp only [Rep] at h ⊢
        subst h
        refine ⟨_, cap, by rw [List.length_take, Nat.min_eq_left h1], by rw [List.length_take]; omega, by omega, Or.inr ⟨b, 0, rfl, rfl, (hh b _ hb).lt, ?_⟩⟩
        exact RepRows.rows_keep (keeps_none w S) rfl 0 sz _ (repRows_take n a5)
      · simp only [Rep] at h ⊢; exact h
    · simp only [Rep] at h ⊢; exact h
  · simp only [Rep] at h ⊢
    obtain ⟨a, rfl⟩ := h
    exact ⟨a, 0, rfl, Nat.le_refl 0, Nat.zero_le _, Or.inl trivial⟩
  · exact Rep.keep (keeps_none w S) _ h
def PV.plain : PV → Bool
  | .bool _ => true
  | .int _ _ => true
  | .str _ => true
  | .nilp => true
  | .nilfn => true
  | .nilif => true
  | _ => false
theorem rep_plain {w w' : World} {im im' : Nat → Prop} {p : PV} {v : Value} (hp : p.plain = true) (h : Rep w im p v) : Rep w' im' p v := by
  cases p <;> simp only [PV.plain, reduceCtorEq] at hp <;> (simp only [Rep] at h ⊢; exact h)
def vreg (S : Heap) (σ : Regs) : Regs := fun t => view S (σ t)
theorem ev_vreg (S : Heap) (σ : Regs) (t : Tmp) : ev (vreg S σ) (.tmp t) = view S (σ t) := rfl
theorem ev_vconst (S : Heap) (σ : Regs) (v : Value) : ev (vreg S σ) (.const v) = ev σ (.const v) := rfl
theorem view_sound {P : Program} {n : Nat} {w : World} {S : Heap} {a : Act} {σ : Regs} (h : St n w S a σ) {o : Oper} {p : PV} (he : evalOp P (vreg S σ) o.op = some p) (hp : p.plain = true) : GivesN P (execOp a.eval o) w S p := by
  have h' : St n w Heap.none a (vreg S σ) := ⟨h.size, h.defers, fun t => rep_view h.heap (h.regs t), fun b o hb => by cases hb⟩
  obtain ⟨v, w', h1, h2, h3, h4⟩ := evalOp_sound h' he
  have hx : Ext w S w' S := ⟨h3.os, h3.tape, h3.output, h3.size, fun b hb hs => ⟨hs, (h3.kept b hb rfl).2⟩⟩
  exact ⟨v, w', h1, rep_plain hp h2, hx, fun b o hb => (h.heap b o hb).keep hx.keeps (h3.kept b (h.heap b o hb).lt rfl).2⟩

section
variable {P : Program} {n : Nat} {mb : Tmp → Bool} {R : Post} {σ : Regs} {S : Heap}
theorem OpA_view {o : Oper} {K : Regs → Heap → Prop} {p : PV} (he : evalOp P (vreg S σ) o.op = some p) (hp : p.plain = true) (hd : ∀ x, o.dst = some x → x < n) (hK : K (updO σ o.dst p) S) : OpA P n o σ S K := by
  intro w0 S0 w a hs hx next Qx hnext
  obtain ⟨v, w', h1, h2, h3, h4⟩ := view_sound hs he hp
  simp only [Oper.wp, h1, Oper.upon]
  exact hnext _ w' _ S ((hs.ext h3 h4).put hd h2) (hx.trans h3) hK
theorem OpW_view {o : Oper} {ds : List (Option Tmp)} {l : List Oper} {k : List It} {p : PV} (he : evalOp P (vreg S σ) o.op = some p) (hp : p.plain = true) (hd : okDst n o.dst = true) (hK : W P n mb R (.ops ds l :: k) (updO σ o.dst p) S) : OpW P n mb R o ds l k σ S :=
  OpW_of (OpA_view he hp (okDst_spec hd) hK)
theorem QC_view {o : Oper} {K : PV → Prop} {p : PV} (he : evalOp P (vreg S σ) o.op = some p) (hp : p.plain = true) (hK : K p) : QC P o σ S K := by
  refine ⟨p, ?_, hK⟩
  intro n σ' w a hag hs next Qx hn
  have e : evalOp P (vreg S σ') o.op = some p := by
    rw [← he]
    refine evalOp_congr fun x hx => ?_
    have := ev_congr hag x hx
    cases x with
    | tmp t => exact congrArg (view S) this
    | _ => exact this
  obtain ⟨v, w', h1, h2, h3, h4⟩ := view_sound hs e hp
  simp only [Oper.wp, h1, Oper.upon]
  exact hn v w' h2 h3 h4
theorem QCW_view {o : Oper} {ds : List (Option Tmp)} {q tail : List Oper} {k : List It} {p : PV} (he : evalOp P (vreg S σ) o.op = some p) (hp : p.plain = true) (hK : QW P n mb R ds q tail k (updO σ o.dst p) S) : QCW P n mb R o ds q tail k σ S := by
  unfold QCW
  exact QC_view he hp hK
theorem OpW_store {ds : List (Option Tmp)} {l : List Oper} {k : List It} {t : TypeId} {x y : Operand} {b off : Nat} {cs es : List PV} {ty : TypeId} {inf : TypeInfo} {o : Oper} (ho : o.op = .store t x y) (hx : ev σ x = .mp b off) (hb : S b = some (.cells cs ty)) (hc : cellsOf (ev σ y) = some es)
    (h1 : es.all PV.isOne = true) (hi : P.info? t = some inf) (hsz : inf.size = es.length) (hle : off + es.length ≤ cs.length) (hd : okDst n o.dst = true)
    (hK : W P n mb R (.ops ds l :: k) (updO σ o.dst .any) (S.set b (.cells (splice cs off es) ty))) : OpW P n mb R o ds l k σ S :=
  OpW_of (OpA_store ho hx hb hc h1 hi hsz hle (okDst_spec hd) hK)
theorem OpW_boxM {ds : List (Option Tmp)} {l : List Oper} {k : List It} {o : Oper} {t : TypeId} {x : Operand} {cs : List PV} (ho : o.op = .box t x) (hc : cellsOf (ev σ x) = some cs) (hd : okDst n o.dst = true)
    (hK : ∀ b, S b = none → W P n mb R (.ops ds l :: k) (updO σ o.dst (.mp b 0)) (S.set b (.cells cs t))) : OpW P n mb R o ds l k σ S :=
  OpW_of (OpA_boxM ho hc (okDst_spec hd) hK)

/-! A slice that grows -/
def Grows (S : Heap) (sz : Nat) (e : TypeId) (rows : List (List PV)) (p : PV) : Prop :=
  (p = .sl0 ∧ rows = []) ∨ ∃ b cap cap', p = .vec b rows.length cap ∧ S b = some (.rows sz rows cap' e) ∧ rows.length ≤ cap ∧ cap ≤ cap'
def ownB : PV → Option Nat
  | .vec b _ _ => some b
  | _ => none
/-- append: what is there behind it; where; what is as it was. -/
theorem OpW_append {ds : List (Option Tmp)} {l : List Oper} {k : List It} {o : Oper} {t e : TypeId} {s x : Operand} {sz bytes : Nat} {olds rows : List (List PV)} {ps : PV} (ho : o.op = .call { callee := .builtin .append, args := #[s, x], argTypes := #[t, t] }) (hf : appFacts P t = some (sz, bytes, e)) (hd : okDst n o.dst = true)
    (hx : elemsOf S sz (ev σ x) = some rows) (h1 : ∀ r ∈ rows, ∀ c ∈ r, c.isOne = true) (hs : ev σ s = ps) (hg : Grows S sz e olds ps) (h63 : olds.length + rows.length ≤ maxLen) (hb : (olds.length + rows.length) * bytes ≤ 140737488355328)
    (hK : ∀ p S', Grows S' sz e (olds ++ rows) p → (ownB p = ownB ps ∨ ∃ b, ownB p = some b ∧ S b = none) → (∀ c y, S c = some y → ownB p ≠ some c → S' c = some y) → W P n mb R (.ops ds l :: k) (updO σ o.dst p) S') : OpW P n mb R o ds l k σ S := by
  have hsv : (ev σ s = .sl0 ∧ olds = []) ∨ ∃ b k cap rs cap', ev σ s = .vec b k cap ∧ S b = some (.rows sz rs cap' e) ∧ k ≤ rs.length ∧ k ≤ cap ∧ cap ≤ cap' ∧ olds = rs.take k := by
    rcases hg with ⟨h2, h3⟩ | ⟨b, cap, cap', h2, h3, h4, h5⟩
    · exact Or.inl ⟨hs.trans h2, h3⟩
    · exact Or.inr ⟨b, olds.length, cap, olds, cap', hs.trans h2, h3, Nat.le_refl _, h4, h5, by simp⟩
  refine OpW_of (OpA_append ho hf (okDst_spec hd) hx h1 hsv h63 hb (fun hr => ?_) (fun b k cap rs cap' e1 e2 e3 => ?_) fun b cap e1 e2 => ?_)
  · subst hr
    rw [hs]
    exact hK ps S (by simpa using hg) (Or.inl rfl) fun c y hc _ => hc
  · rcases hg with ⟨h2, h3⟩ | ⟨b', cap1, cap2, h2, h3, h4, h5⟩
    · rw [hs, h2] at e1; cases e1
    · rw [hs, h2] at e1
      simp only [PV.vec.injEq] at e1
      obtain ⟨rfl, rfl, rfl⟩ := e1
      rw [h3] at e2
      simp only [Option.some.injEq, MObj.rows.injEq, true_and, and_true] at e2
      obtain ⟨rfl, rfl⟩ := e2
      simp only [List.take_length]
      refine hK _ _ (Or.inr ⟨b', cap1, cap2, by rw [List.length_append], by rw [set_apply, if_pos rfl], by rw [List.length_append]; exact e3, h5⟩) (Or.inl (by rw [h2]; rfl)) fun c y hc hne => ?_
      rw [set_apply, if_neg (fun h => hne (by rw [h]; rfl))]; exact hc
  · refine hK _ _ (Or.inr ⟨b, cap, cap, by rw [List.length_append], by rw [set_apply, if_pos rfl], by rw [List.length_append]; exact e2, Nat.le_refl _⟩) (Or.inr ⟨b, rfl, e1⟩) fun c y hc hne => ?_
    rw [set_apply, if_neg (fun h => hne (by rw [h]; rfl))]; exact hc
theorem grows_view {S : Heap} {e : TypeId} {rows : List (List PV)} {p : PV} (h : Grows S 1 e rows p) : view S p = .slice 1 rows := by
  rcases h with ⟨rfl, rfl⟩ | ⟨b, cap, cap', rfl, h2, h3, h4⟩
  · rfl
  · simp only [view, h2]
    rw [if_pos ⟨Nat.le_refl _, h3, h4⟩]
    simp
end

end Go.Proofs.Ytcbonfgkfiapaaa.Pv

/-! Slices with all three bounds; stores told by a size. -/
set_option linter.unusedVariables false
set_option linter.unusedSimpArgs false
namespace Go.Proofs.Ytcbonfgkfiapaaa.Pv
open Go Go.RowKit

theorem run_slice3 {P : Program} {w : World} {t e : TypeId} {inf : TypeInfo} (hu : P.underlying t = some (.slice e)) (hi : P.info? e = some inf) (a : Option Addr) (n cap h m : Nat) (k k' : IntKind) (h1 : h ≤ m) (h2 : m ≤ cap) :
    (Instr.sliceAt t (.slice a n cap) none (some (.int k (h : Int))) (some (.int k' (m : Int)))).run P w = .ok (.slice (if m = 0 then a else a.map (·.add 0)) h m) w := by
  have e1 := run_sliceBound (P := P) w k' (m : Int) cap BoundsCode.slice3Acap (by omega) (by omega)
  have e2 := run_sliceBound (P := P) w k (h : Int) m BoundsCode.slice3B (by omega) (by omega)
  have eb : (Instr.sliceBounds true n cap none (some (.int k (h : Int))) (some (.int k' (m : Int)))).run P w = .ok (0, h, m) w := by
    simp [Instr.sliceBounds, e1, e2]
  simp [Instr.sliceAt, Instr.slice, run_under hu, eb, run_sizeOf' hi]

section
variable {P : Program} {n : Nat} {mb : Tmp → Bool} {R : Post} {σ : Regs} {S : Heap}
theorem QV_slice3 {o : Oper} {t : TypeId} {x hi mx : Operand} {sz b c cap h m : Nat} {k k' : IntKind} (ho : o.op = .slice t x none (some hi) (some mx)) (he : elemSize P t = some sz) (hx : ev σ x = .vec b c cap) (hh : ev σ hi = .int k (h : Int)) (hm : ev σ mx = .int k' (m : Int)) (h1 : h ≤ m) (h2 : m ≤ cap) : QV P o σ S (.vec b h m) := by
  intro n σ' w a hag hs next Qx hn
  have hall : ∀ y ∈ o.op.operands.toList, ev σ' y = ev σ y := ev_congr hag
  obtain ⟨e, inf, hu, hi', hsz⟩ := elemSize_spec he
  have r1 := rep_ev hs x
  have r2 := rep_ev hs hi
  have r3 := rep_ev hs mx
  rw [hall x (by simp [ho, Op.operands]), hx] at r1
  rw [hall hi (by simp [ho, Op.operands]), hh] at r2
  rw [hall mx (by simp [ho, Op.operands]), hm] at r3
  simp only [Rep] at r1 r2 r3
  have hrun : (execOp a.eval o).run P w = .ok (.value (.slice (some ⟨b, 0, none⟩) h m)) w := by
    simp only [execOp, ho, Option.map_some, Option.map_none, Sem.run_bind, r1, r2, r3, run_slice3 hu hi' (some ⟨b, 0, none⟩) c cap h m k k' h1 h2, Result.andThen_ok, Sem.run_pure]
    congr 2
    split <;> simp [add_addr]
  simp only [Oper.wp, hrun, Oper.upon]
  exact hn _ _ (by simp only [Rep]) (Ext.refl w S) hs.heap
theorem QV_slice30 {o : Oper} {t : TypeId} {x hi mx : Operand} {sz : Nat} {k k' : IntKind} (ho : o.op = .slice t x none (some hi) (some mx)) (he : elemSize P t = some sz) (hx : ev σ x = .sl0) (hh : ev σ hi = .int k 0) (hm : ev σ mx = .int k' 0) : QV P o σ S .sl0 := by
  intro n σ' w a hag hs next Qx hn
  have hall : ∀ y ∈ o.op.operands.toList, ev σ' y = ev σ y := ev_congr hag
  obtain ⟨e, inf, hu, hi', hsz⟩ := elemSize_spec he
  have r1 := rep_ev hs x
  have r2 := rep_ev hs hi
  have r3 := rep_ev hs mx
  rw [hall x (by simp [ho, Op.operands]), hx] at r1
  rw [hall hi (by simp [ho, Op.operands]), hh] at r2
  rw [hall mx (by simp [ho, Op.operands]), hm] at r3
  simp only [Rep] at r1 r2 r3
  obtain ⟨aa, r1⟩ := r1
  have hrun : (execOp a.eval o).run P w = .ok (.value (.slice aa 0 0)) w := by
    have := run_slice3 (P := P) (w := w) hu hi' aa 0 0 0 0 k k' (Nat.le_refl _) (Nat.le_refl _)
    simp only [execOp, ho, Option.map_some, Option.map_none, Sem.run_bind, r1, r2, r3]
    have h0 : ((0 : Nat) : Int) = 0 := rfl
    rw [h0] at this
    simp only [this, Result.andThen_ok, Sem.run_pure, if_true]
  simp only [Oper.wp, hrun, Oper.upon]
  exact hn _ _ (by simp only [Rep]; exact ⟨_, rfl⟩) (Ext.refl w S) hs.heap
theorem QCW_of {o : Oper} {ds : List (Option Tmp)} {q tail : List Oper} {k : List It} {p : PV} (h : QV P o σ S p) (hK : QW P n mb R ds q tail k (updO σ o.dst p) S) : QCW P n mb R o ds q tail k σ S := by
  unfold QCW
  exact ⟨p, h, hK⟩
theorem OpW_put {ds : List (Option Tmp)} {l : List Oper} {k : List It} {t : TypeId} {x y : Operand} {b off : Nat} {cs es : List PV} {ty : TypeId} {o : Oper} (ho : o.op = .store t x y) (hx : ev σ x = .mp b off) (hb : S b = some (.cells cs ty)) (hc : cellsOf (ev σ y) = some es)
    (h1 : es.all PV.isOne = true) (hsz : (P.info? t).map (·.size) = some es.length) (hle : off + es.length ≤ cs.length) (hd : okDst n o.dst = true)
    (hK : W P n mb R (.ops ds l :: k) (updO σ o.dst .any) (S.set b (.cells (splice cs off es) ty))) : OpW P n mb R o ds l k σ S := by
  cases hi : P.info? t with
  | none => rw [hi] at hsz; cases hsz
  | some inf =>
    rw [hi] at hsz
    simp only [Option.map_some, Option.some.injEq] at hsz
    exact OpW_store ho hx hb hc h1 hi hsz hle hd hK
end

end Go.Proofs.Ytcbonfgkfiapaaa.Pv

/-! A region whose order is drawn, its first operation but a move that may be late. -/
set_option linter.unusedVariables false
set_option linter.unusedSimpArgs false
namespace Go.Proofs.Ytcbonfgkfiapaaa.Pv
open Go Go.RowKit

def drawOk1 (ops : Array Oper) (k0 : Nat) : Bool :=
  let m := (Region.before ops).toList
  let l := ops.toList
  k0 ≤ l.length && m.length == l.length &&
  l.zipIdx.all (fun (o, j) => m.getD j 0 == edgeMask m o && o.after.toList.all (fun e => decide (e.on < j))) &&
  l.zipIdx.all (fun (o, j) => l.zipIdx.all fun (u, i) => i == j || (match u.dst with
    | some d => !(namesOf ops o).contains d || (if i < j then (m.getD j 0).testBit i else (m.getD i 0).testBit j)
    | none => true)) &&
  (List.range l.length).all (fun j => decide (j < k0) || (List.range j).all fun i => i == 0 || (m.getD j 0).testBit i) && decide (0 < k0)

structure DrawOk1 (ops : Array Oper) (k0 : Nat) (m : List Nat) : Prop where
  le : k0 ≤ ops.size
  mask : ∀ (j : Nat) (o : Oper), ops[j]? = some o → m.getD j 0 = edgeMask m o
  edge : ∀ (j : Nat) (o : Oper) (e : Edge), ops[j]? = some o → e ∈ o.after → e.on < j
  names : ∀ (i j : Nat) (o : Oper) (d : Tmp), i ≠ j → ops[j]? = some o → dstAt ops i = some d → d ∈ namesOf ops o → (i < j → (m.getD j 0).testBit i = true) ∧ (j < i → (m.getD i 0).testBit j = true)
  forced : ∀ j i, k0 ≤ j → j < ops.size → i < j → 0 < i → (m.getD j 0).testBit i = true
  pos : 0 < k0
theorem drawOk_spec1 {ops : Array Oper} {k0 : Nat} (h : drawOk1 ops k0 = true) : DrawOk1 ops k0 (Region.before ops).toList := by
  simp only [drawOk1, Bool.and_eq_true, decide_eq_true_eq, beq_iff_eq] at h
  obtain ⟨⟨⟨⟨⟨h0, h1⟩, h2⟩, h3⟩, h4⟩, h5⟩ := h
  have mem : ∀ (j : Nat) (o : Oper), ops[j]? = some o → (o, j) ∈ ops.toList.zipIdx := fun j o ho => by
    rw [List.mem_zipIdx_iff_getElem?]; simpa using ho
  refine ⟨by simpa using h0, fun j o ho => ?_, fun j o e ho he => ?_, fun i j o d hij ho hd hn => ?_, fun j i hk hj hi hi0 => ?_, h5⟩
  · have := List.all_eq_true.1 h2 (o, j) (mem j o ho)
    simp at this
    simpa using this.1
  · have := List.all_eq_true.1 h2 (o, j) (mem j o ho)
    simp only [Bool.and_eq_true] at this
    exact of_decide_eq_true (List.all_eq_true.1 this.2 e (by simpa using he))
  · unfold dstAt at hd
    cases hu : ops[i]? with
    | none => rw [hu] at hd; simp at hd
    | some u =>
      rw [hu] at hd; simp at hd
      have := List.all_eq_true.1 (List.all_eq_true.1 h3 (o, j) (mem j o ho)) (u, i) (mem i u hu)
      simp only [hd, Bool.or_eq_true, beq_iff_eq, Bool.not_eq_true'] at this
      rcases this with this | this
      · exact absurd this hij
      · rcases this with this | this
        · rw [List.contains_eq_mem] at this; simp at this; exact absurd hn this
        · refine ⟨fun hlt => ?_, fun hlt => ?_⟩
          · rw [if_pos hlt] at this; exact this
          · rw [if_neg (by omega)] at this; exact this
  · have := List.all_eq_true.1 h4 j (by simp; exact hj)
    simp only [Bool.or_eq_true, decide_eq_true_eq] at this
    rcases this with this | this
    · omega
    · have := List.all_eq_true.1 this i (by simp; exact hi)
      simp only [Bool.or_eq_true, beq_iff_eq] at this
      rcases this with this | this
      · omega
      · exact this

theorem before_listed1 {ops : Array Oper} {k0 : Nat} {m : List Nat} (hd : DrawOk1 ops k0 m) {listed : Array Bool} (hc : Closed ops listed) : ∀ (j : Nat) (o : Oper) (i : Nat), ops[j]? = some o → (∀ e ∈ o.after, Region.binds .any e = true → listed.getD e.on false = true) → (m.getD j 0).testBit i = true → listed.getD i false = true := by
  intro j
  induction j using Nat.strongRecOn with
  | _ j ih =>
    intro o i ho he hb
    rw [hd.mask j o ho] at hb
    obtain ⟨e, h1, h2, h3⟩ := edgeMask_spec hb
    rcases h3 with rfl | h3
    · exact he e h1 h2
    · have hlt := hd.edge j o e ho h1
      have hl := he e h1 h2
      have hjs : j < ops.size := (Array.getElem?_eq_some_iff.1 ho).1
      have hoe : ops[e.on]? = some ops[e.on] := Array.getElem?_eq_getElem (by omega)
      exact ih e.on hlt ops[e.on] i hoe (fun e' he' hb' => hc e.on _ hoe hl e' he' hb') h3

/-- The last operations, one behind the other. -/
theorem any_tail1 {P : Program} {ops : Array Oper} {k0 : Nat} {m : List Nat} (hd : DrawOk1 ops k0 m) {Q : Exit → Act → World → Prop} : ∀ (cnt j fuel : Nat) (listed : Array Bool) (a : Act) (w : World), listed.size = ops.size → (∀ i, i < ops.size → listed.getD i false = decide (i < j)) → k0 ≤ j → ops.size = j + cnt → cnt ≤ fuel →
    wpOps P ops Q (List.range' j cnt) a w → wpAny P .any ops Q fuel listed a w
  | 0, j, fuel, listed, a, w, hs, hl, hk, hj, hf, h => by
    have hr : Region.ready .any ops listed = [] := by
      apply List.eq_nil_iff_forall_not_mem.2
      intro i hi
      obtain ⟨h1, o, ho, _⟩ := mem_ready.1 hi
      have hlt : i < ops.size := (Array.getElem?_eq_some_iff.1 ho).1
      rw [getD_true_false (by omega), hl i hlt] at h1
      simp at h1; omega
    exact wpAny_done hr h fuel
  | cnt + 1, j, fuel, listed, a, w, hs, hl, hk, hj, hf, h => by
    obtain ⟨fuel, rfl⟩ : ∃ f, fuel = f + 1 := ⟨fuel - 1, by omega⟩
    have hc : Closed ops listed := by
      intro i o ho hli e he hb
      have hlt : i < ops.size := (Array.getElem?_eq_some_iff.1 ho).1
      have h1 := hd.edge i o e ho he
      rw [hl i hlt] at hli
      rw [hl e.on (by omega)]
      simp at hli ⊢; omega
    have hjr : j ∈ Region.ready .any ops listed := by
      refine mem_ready.2 ⟨by rw [getD_true_false (by omega), hl j (by omega)]; simp, ops[j], Array.getElem?_eq_getElem (by omega), fun e he hb => ?_⟩
      have h1 := hd.edge j ops[j] e (Array.getElem?_eq_getElem (by omega)) he
      rw [hl e.on (by omega)]; simpa using h1
    refine ⟨fun h0 => (by rw [h0] at hjr; cases hjr), fun i hi => ?_⟩
    have hij : i = j := by
      obtain ⟨h1, o, ho, h2⟩ := mem_ready.1 hi
      have hlt : i < ops.size := (Array.getElem?_eq_some_iff.1 ho).1
      rw [getD_true_false (by omega), hl i hlt] at h1
      simp at h1
      rcases Nat.lt_or_ge j i with h3 | h3
      · have := before_listed1 hd hc i o j ho h2 (hd.forced i j (by omega) hlt h3 (by have := hd.pos; omega))
        rw [hl j (by omega)] at this
        simp at this
      · omega
    subst hij
    rw [List.range'_succ, wpOps_cons] at h
    refine wpOp_mono (fun a w h' => any_tail1 hd cnt (i + 1) fuel _ a w (by simpa using hs) (fun x hx => ?_) (by omega) (by omega) (by omega) h') h
    by_cases e : i = x
    · subst e; simp [hs, hx]
    · rw [getD_set_ne false e, hl x hx]
      by_cases h1 : x < i <;> simp [h1] <;> omega

theorem any_quiet1 {P : Program} {n : Nat} {ops : Array Oper} {k0 : Nat} {m : List Nat} (hd : DrawOk1 ops k0 m) {S : Heap} {σ0 : Regs} {res : Nat → PV} {Q : Post} {w0 : World} {S0 : Heap}
    (hq : ∀ i, i < k0 → QStep P n ops (sigAt ops res σ0 (fun j => decide (j < i))) S i (res i))
    (ht : AO P n ops (List.range' k0 (ops.size - k0)) (sigAt ops res σ0 (fun j => decide (j < k0))) S Q) :
    ∀ (fuel : Nat) (listed : Array Bool) (a : Act) (w : World), listed.getD 0 false = true → listed.size = ops.size → Closed ops listed → left listed ops.size ≤ fuel → (∀ j, k0 ≤ j → j < ops.size → listed.getD j false = false) →
      St n w S a (sigAt ops res σ0 (fun i => listed.getD i false)) → Ext w0 S0 w S → wpAny P .any ops (lift n w0 S0 Q) fuel listed a w := by
  have hfull : ∀ (listed : Array Bool), (∀ i, i < ops.size → listed.getD i false = decide (i < k0)) → sigAt ops res σ0 (fun i => listed.getD i false) = sigAt ops res σ0 (fun j => decide (j < k0)) := by
    intro listed h
    funext t
    simp only [sigAt]
    rw [lastW_congr fun i hi => by rw [h i hi]]
  intro fuel
  induction fuel with
  | zero =>
    intro listed a w hz0 hs hc hl hk hst hext
    have hz := left_zero (Nat.le_zero.1 hl)
    have hk0 : k0 = ops.size := by
      rcases Nat.lt_or_ge k0 ops.size with h | h
      · have := hk k0 (Nat.le_refl _) h; rw [hz k0 h] at this; cases this
      · have := hd.le; omega
    have hall : ∀ i, i < ops.size → listed.getD i false = decide (i < k0) := fun i hi => by rw [hz i hi]; simp; omega
    refine any_tail1 hd 0 k0 0 listed a w hs hall (Nat.le_refl _) (by omega) (Nat.le_refl _) ?_
    rw [hfull listed hall] at hst
    have := ht w0 S0 w a hst hext
    rwa [show ops.size - k0 = 0 by omega] at this
  | succ fuel ih =>
    intro listed a w hz0 hs hc hl hk hst hext
    by_cases hall : ∀ i, i < ops.size → listed.getD i false = decide (i < k0)
    · -- all of the quiet ones are done
      have hcnt : ops.size - k0 ≤ fuel + 1 := by
        have : ops.size - k0 ≤ left listed ops.size := by
          have aux : ∀ m, m ≤ ops.size → m - k0 ≤ left listed m := by
            intro m
            induction m with
            | zero => intro _; simp
            | succ m ihm =>
              intro hm
              simp only [left]
              have := ihm (by omega)
              by_cases h1 : k0 ≤ m
              · rw [hk m h1 (by omega)]; simp; omega
              · omega
          exact aux ops.size (Nat.le_refl _)
        omega
      refine any_tail1 hd (ops.size - k0) k0 (fuel + 1) listed a w hs hall (Nat.le_refl _) (by have := hd.le; omega) hcnt ?_
      rw [hfull listed hall] at hst
      exact ht w0 S0 w a hst hext
    · have hnf : ∃ i, i < k0 ∧ listed.getD i false = false := by
        apply Classical.byContradiction
        intro hno
        apply hall
        intro i hi
        by_cases h1 : i < k0
        · have : ¬ listed.getD i false = false := fun h => hno ⟨i, h1, h⟩
          simp at this; simp [this, h1]
        · rw [hk i (by omega) hi]; simp [h1]
      refine ⟨fun h0 => ?_, fun j hj => ?_⟩
      · -- something is ready
        exfalso
        obtain ⟨i, hi, hli⟩ := hnf
        have hpos : 0 < left listed ops.size := by
          rcases Nat.eq_zero_or_pos (left listed ops.size) with h | h
          · have := left_zero h i (by have := hd.le; omega); rw [hli] at this; cases this
          · exact h
        obtain ⟨x, hx, hlx, hbx⟩ := left_pos hpos
        have : x ∈ Region.ready .any ops listed := by
          refine mem_ready.2 ⟨by rw [getD_true_false (by omega)]; exact hlx, ops[x], Array.getElem?_eq_getElem hx, fun e he hb => ?_⟩
          exact hbx e.on (hd.edge x ops[x] e (Array.getElem?_eq_getElem hx) he)
        rw [h0] at this; cases this
      · obtain ⟨hjl, o, ho, hje⟩ := mem_ready.1 hj
        have hjs : j < ops.size := (Array.getElem?_eq_some_iff.1 ho).1
        have hjl' : listed.getD j false = false := by rw [← getD_true_false (by omega)]; exact hjl
        have hjk : j < k0 := by
          rcases Nat.lt_or_ge j k0 with h | h
          · exact h
          · obtain ⟨i, hi, hli⟩ := hnf
            have := before_listed1 hd hc j o i ho hje (hd.forced j i h hjs (by omega) (Nat.pos_of_ne_zero fun e => by subst e; rw [hli] at hz0; cases hz0))
            rw [hli] at this; cases this
        obtain ⟨o', ho', hok, hcase⟩ := hq j hjk
        rw [ho] at ho'; injection ho' with ho'; subst ho'
        -- what it looks at stands as in the text's order
        have hsame : ∀ t ∈ namesOf ops o, sigAt ops res σ0 (fun i => listed.getD i false) t = sigAt ops res σ0 (fun i => decide (i < j)) t := by
          intro t htn
          simp only [sigAt]
          have : lastW (fun i => listed.getD i false && dstAt ops i == some t) ops.size = lastW (fun i => decide (i < j) && dstAt ops i == some t) ops.size := by
            refine lastW_congr fun i hi => ?_
            by_cases hdi : dstAt ops i = some t
            · by_cases hij : i = j
              · subst hij; simp [hjl']
              · obtain ⟨n1, n2⟩ := hd.names i j o t hij ho hdi htn
                by_cases hlt : i < j
                · rw [before_listed1 hd hc j o i ho hje (n1 hlt)]; simp [hlt]
                · have hji : j < i := by omega
                  have : listed.getD i false = false := by
                    by_cases hli : listed.getD i false = true
                    · have hoi : ops[i]? = some ops[i] := Array.getElem?_eq_getElem hi
                      have := before_listed1 hd hc i ops[i] j hoi (fun e he hb => hc i _ hoi hli e he hb) (n2 hji)
                      rw [hjl'] at this; cases this
                    · simpa using hli
                  rw [this]; simp [hlt]
            · have hf : (dstAt ops i == some t) = false := beq_eq_false_iff_ne.2 hdi
              rw [hf, Bool.and_false, Bool.and_false]
          rw [this]
        have hdst : dstAt ops j = o.dst := by simp [dstAt, ho]
        have hins : sigAt ops res σ0 (fun i => (listed.setIfInBounds j true).getD i false) = updO (sigAt ops res σ0 (fun i => listed.getD i false)) o.dst (res j) := by
          rw [← hdst]
          refine sigAt_insert hjs (fun i hi => ?_) (fun i t h1 h2 h3 h4 h5 => ?_)
          · by_cases e : j = i
            · subst e; simp [hs, hjs]
            · rw [getD_set_ne false e]
              have : (i == j) = false := by simp; exact fun h => e h.symm
              rw [this, Bool.or_false]
          · have hn : t ∈ namesOf ops o := by unfold namesOf; rw [← hdst, h5]; simp
            have hb := (hd.names i j o t (by omega) ho h4 hn).2 h1
            have hoi : ops[i]? = some ops[i] := Array.getElem?_eq_getElem h2
            have := before_listed1 hd hc i ops[i] j hoi (fun e he hb => hc i _ hoi h3 e he hb) hb
            rw [hjl'] at this; cases this
        have hnext : ∀ (a' : Act) (w' : World), St n w' S a' (updO (sigAt ops res σ0 (fun i => listed.getD i false)) o.dst (res j)) → Ext w0 S0 w' S → wpAny P .any ops (lift n w0 S0 Q) fuel (listed.setIfInBounds j true) a' w' := by
          intro a' w' h1 h2
          refine ih (listed.setIfInBounds j true) a' w' (getD_set_true hz0) (by simpa using hs) ?_ ?_ ?_ (by rw [hins]; exact h1) h2
          · intro i oi hoi hli e he hb
            by_cases hij : j = i
            · subst hij; rw [ho] at hoi; injection hoi with hoi; subst hoi
              exact getD_set_true (hje e he hb)
            · rw [getD_set_ne false hij] at hli
              exact getD_set_true (hc i oi hoi hli e he hb)
          · have := (left_set hjl' (by omega) ops.size).2 hjs
            omega
          · intro i h1 h2
            rw [getD_set_ne false (by omega)]; exact hk i h1 h2
        have tn : ∀ t ∈ tmpsOf o, t ∈ namesOf ops o := fun t h => by unfold namesOf; simp [h]
        unfold wpOp
        simp only [ho]
        have exec : ∀ p, p = res j → QV P o (sigAt ops res σ0 (fun i => decide (i < j))) S p → o.wp P a w (wpAny P .any ops (lift n w0 S0 Q) fuel (listed.setIfInBounds j true)) (lift n w0 S0 Q) := by
          intro p hp hv
          subst hp
          refine hv n (sigAt ops res σ0 (fun i => listed.getD i false)) w a (fun t htm => hsame t (tn t htm)) hst _ _ fun v w' h1 h2 h3 => ?_
          exact hnext _ w' ((hst.ext h2 h3).put (okDst_spec hok) h1) (hext.trans h2)
        rcases hcase with ⟨hg, hv⟩ | ⟨g, want, b, hg, hb, hcase⟩
        · rw [if_pos (by simp [Region.wanted, hg])]
          exact Or.inl (exec _ rfl hv)
        · obtain ⟨og, d, g1, g2, g3, g4⟩ := guardVal_spec hb
          have hdn : d ∈ namesOf ops o := by unfold namesOf; simp [hg, dstAt, g1, g2]
          have hy : Region.wanted o (yielded ops a.tmps) = (b == want) := wanted_of hst hg g1 g2 g3 (by rw [hsame d hdn]; exact g4)
          rcases hcase with ⟨e, hv⟩ | ⟨e, hp⟩
          · rw [if_pos (by rw [hy]; simp [e])]
            exact Or.inl (exec _ rfl hv)
          · rw [if_neg (by rw [hy]; simp [e])]
            refine hnext _ w ?_ hext
            rw [hp]
            exact hst.put (okDst_spec hok) (rep_undef _ _)


/-- What is asked besides: the first operation is a move that nothing meddles with. -/
def moveFirst (ops : Array Oper) (x d : Tmp) : Bool :=
  Region.noSelect ops && Region.free .any ops (Array.replicate ops.size false) 0 && (Region.ready .any ops (Array.replicate ops.size false)).contains 0
theorem AW_draw1 {P : Program} {n : Nat} {mb : Tmp → Bool} {id : Nat} {ops : Array Oper} {σ : Regs} {S : Heap} {Q : Post} (hm : P.follows .mixedOrders = true) (k0 : Nat) {x d : Tmp} {o0 : Oper} (hok : drawOk1 ops k0 = true) (hmf : moveFirst ops x d = true)
    (h0 : ops[0]? = some o0) (hop : o0.op = .move (.tmp x)) (hg : o0.guard = none) (hpan : ∀ c σ S, ¬ Q (.panic c) σ S)
    (h : RunQ P n (dstsOf ops) (ops.toList.take k0) σ S (fun σ' => RunG P n mb (dstsOf ops) (ops.toList.drop k0) σ' S (Q .normal))) : AW P n (.region id ops true) σ S Q := by
  have hd := drawOk_spec1 hok
  obtain ⟨PS, σ', hl, hrun, htail⟩ := RunQ_run (ops.toList.take k0) (ops.toList.drop k0) 0 σ (by simp) h
  have hlen : PS.length = k0 := by rw [hl]; simp; exact Nat.min_eq_left hd.le
  have hz : sigAt ops (fun i => PS.getD i .any) σ (fun i => decide (i < 0)) = σ := by
    funext t
    simp only [sigAt]
    rw [lastW_none (fun i => by simp)]
  obtain ⟨hq, hend⟩ := QRun_at (σ0 := σ) (PS := PS) (by rw [hlen]; exact hd.le) PS.length 0 (by omega) (by rw [hz]; simpa using hrun)
  simp only [moveFirst, Bool.and_eq_true] at hmf
  obtain ⟨⟨f1, f2⟩, f3⟩ := hmf
  have hsz : 0 < ops.size := (Array.getElem?_eq_some_iff.1 h0).1
  have hstep := hq 0 (Nat.le_refl _) (by have := hd.pos; omega)
  intro w0 S0 w a hst hext
  refine wp_region_any hm ?_
  have hst1 := drew_st hst
  have hext1 := drew_ext hext
  have hrep : ∀ i, (Array.replicate ops.size false).getD i false = false := fun i => by
    simp only [Array.getD_eq_getD_getElem?, Array.getElem?_replicate]; split <;> rfl
  have hz2 : sigAt ops (fun i => PS.getD i .any) σ (fun i => (Array.replicate ops.size false).getD i false) = σ := by
    funext t
    simp only [sigAt]
    rw [lastW_none (fun i => by rw [hrep]; simp)]
  have hrun : ∀ w, (execOp a.eval o0).run P w = .ok (.value (a.eval (.tmp x))) w := fun w => by simp [execOp, hop]
  have hst2 : St n { w with drawn := w.drawn + 1 } S (a.put o0.dst (a.eval (.tmp x))) (updO σ o0.dst (PS.getD 0 .any)) := by
    obtain ⟨o, ho, hok', hcase⟩ := hstep
    rw [h0] at ho
    injection ho with ho
    subst ho
    rcases hcase with ⟨_, hv⟩ | ⟨g, want, b, hg', _⟩
    · rw [hz] at hv
      have hwp := hv n σ _ a (fun t _ => rfl) hst1 (fun a' w' => St n w' S a' (updO σ o0.dst (PS.getD 0 .any))) (fun _ _ _ => False) (fun v w' h1 h2 h3 => (hst1.ext h2 h3).put (okDst_spec hok') h1)
      unfold Oper.wp at hwp
      rw [hrun] at hwp
      exact hwp
    · rw [hg] at hg'; cases hg'
  have hnoe : ∀ e ∈ o0.after, Region.binds .any e = true → False := by
    have := List.contains_iff_mem.1 f3
    obtain ⟨_, o, ho, he⟩ := mem_ready.1 this
    rw [h0] at ho
    injection ho with ho
    subst ho
    intro e h1 h2
    have := he e h1 h2
    rw [hrep] at this; cases this
  obtain ⟨f, hf⟩ : ∃ f, ops.size = f + 1 := ⟨ops.size - 1, by omega⟩
  have hdst : dstAt ops 0 = o0.dst := by simp [dstAt, h0]
  have key : ∀ k, k = f + 1 → wpAny P .any ops (lift n w0 S0 Q) k (Array.replicate ops.size false) a { w with drawn := w.drawn + 1 } := by
    rintro _ rfl
    refine wpAny_take (v := a.eval (.tmp x)) h0 f1 f2 f3 (fun c a' w' hq' => ?_) (Or.inl ⟨by simp [Region.wanted, hg], hrun⟩) ?_
    · obtain ⟨σ1, S1, _, _, hq1⟩ := hq'
      exact absurd hq1 (hpan c σ1 S1)
    · refine any_quiet1 hd (res := fun i => PS.getD i .any) (σ0 := σ) (S := S) (fun i hi => hq i (Nat.zero_le _) (by omega)) ?_ f _ _ _ ?_ (by simp) ?_ ?_ ?_ ?_ hext1
      · rw [← hlen, ← hend, hlen]
        have := AO_run (P := P) (n := n) (mb := mb) (ops := ops) (Q := Q) (ops.toList.drop k0) k0 σ' S rfl htail
        simpa using this
      · simp [hsz]
      · intro j o ho hlj e he hb
        by_cases e0 : 0 = j
        · subst e0
          rw [h0] at ho
          injection ho with ho
          subst ho
          exact (hnoe e he hb).elim
        · rw [getD_set_ne false e0, hrep] at hlj; cases hlj
      · have h1 : ∀ m, left (Array.replicate ops.size false) m ≤ m := by
          intro m
          induction m with
          | zero => simp [left]
          | succ m ih => simp only [left]; split <;> omega
        have h2 := (left_set (listed := Array.replicate ops.size false) (j := 0) (hrep 0) (by simpa using hsz) ops.size).2 hsz
        have := h1 ops.size
        omega
      · intro j hj _
        have := hd.pos
        rw [getD_set_ne false (by omega), hrep]
      · have : sigAt ops (fun i => PS.getD i .any) σ (fun i => ((Array.replicate ops.size false).setIfInBounds 0 true).getD i false) = updO σ o0.dst (PS.getD 0 .any) := by
          conv => rhs; rw [← hz2, ← hdst]
          refine sigAt_insert hsz (fun i hi => ?_) (fun i t h1 h2 h3 h4 h5 => ?_)
          · by_cases e : 0 = i
            · subst e; simp [hsz]
            · rw [getD_set_ne false e]
              have : (i == 0) = false := by simp; exact fun h => e h.symm
              rw [this, Bool.or_false]
          · rw [hrep] at h3; cases h3
        rw [this]
        exact hst2
  exact key ops.size hf

def onlyNormal (Q : Regs → Heap → Prop) : Post
  | .normal => Q
  | _ => fun _ _ => False
theorem CodeW_quiet1 {P : Program} {n : Nat} {mb : Tmp → Bool} {R : Post} {k : List It} {σ : Regs} {S : Heap} {id : Nat} {ops : Array Oper} (hm : P.follows .mixedOrders = true) (k0 : Nat) {x d : Tmp} {o0 : Oper} (hok : drawOk1 ops k0 = true) (hmf : moveFirst ops x d = true)
    (h0 : ops[0]? = some o0) (hop : o0.op = .move (.tmp x)) (hg : o0.guard = none)
    (h : QW P n mb R (dstsOf ops) (ops.toList.take k0) (ops.toList.drop k0) k σ S) : CodeW P n mb R (.region id ops true) k σ S := by
  have mono : ∀ (l : List Oper) (σ : Regs) (K K' : Regs → Prop), (∀ σ, K σ → K' σ) → RunQ P n (dstsOf ops) l σ S K → RunQ P n (dstsOf ops) l σ S K' := by
    intro l
    induction l with
    | nil => intro σ K K' hk h; exact hk σ h
    | cons o l ih =>
      intro σ K K' hk h
      simp only [RunQ] at h ⊢
      split at h
      · split at h
        · exact ⟨h.1, ih _ K K' hk h.2⟩
        · obtain ⟨h1, p, h2, h3⟩ := h; exact ⟨h1, p, h2, ih _ K K' hk h3⟩
      · split at h
        · exact h.elim
        · obtain ⟨h1, h2, h3⟩ := h
          refine ⟨h1, fun e => ?_, fun e => ih _ K K' hk (h3 e)⟩
          have h2' := h2 e
          split at h2'
          · exact ih _ K K' hk h2'
          · obtain ⟨p, h4, h5⟩ := h2'; exact ⟨p, h4, ih _ K K' hk h5⟩
  have hW : RunQ P n (dstsOf ops) (ops.toList.take k0) σ S (fun σ' => RunG P n mb (dstsOf ops) (ops.toList.drop k0) σ' S (onlyNormal (kont P n mb R k .normal) .normal)) :=
    mono _ _ _ _ (fun σ' hw => W_sound (.ops (dstsOf ops) (ops.toList.drop k0) :: k) σ' S hw) h
  refine AW.mono (AW_draw1 (Q := onlyNormal (kont P n mb R k .normal)) hm k0 hok hmf h0 hop hg (fun c σ S h => h) hW) ?_
  intro e σ S h
  cases e <;> first | exact h | exact h.elim

end Go.Proofs.Ytcbonfgkfiapaaa.Pv

/-! Code in which there are labels, through which the run goes without a jump. -/
set_option linter.unusedVariables false
namespace Go.Proofs.Ytcbonfgkfiapaaa.Pv
open Go Go.RowKit

theorem kont_goto {P : Program} {n : Nat} {mb : Tmp → Bool} {R : Post} {l : Nat} {σ : Regs} {S : Heap} : ∀ (k : List It), kont P n mb R k (.goto l) σ S → R (.goto l) σ S
  | [], h => h
  | .code c :: k, h => kont_goto k h
  | .ops ds os :: k, h => kont_goto k h
  | .fin id :: k, h => kont_goto k h
theorem W_scope {P : Program} {n : Nat} {mb : Tmp → Bool} {R : Post} {c : Code} {k : List It} {σ : Regs} {S : Heap} (hR : ∀ l σ S, ¬ R (.goto l) σ S) (h : W P n mb R (.code c :: k) σ S) : W P n mb R (.code (.scope c) :: k) σ S := by
  have h1 : AW P n c σ S (kont P n mb R k) := W_sound (.code c :: k) σ S h
  have h2 : W P n mb R (.code (.scope c) :: k) σ S = CodeW P n mb R (.scope c) k σ S := by rw [W] <;> simp
  rw [h2]
  intro w0 S0 w a hs he
  refine wp_scope_straight (wp_mono (h1 w0 S0 w a hs he) ?_)
  rintro e a' w' ⟨σ', S', h3, h4, h5⟩
  cases e with
  | goto l => exact absurd (kont_goto k h5) (hR l σ' S')
  | _ => exact ⟨σ', S', h3, h4, h5⟩

end Go.Proofs.Ytcbonfgkfiapaaa.Pv

/-! A slice that was made by a call and is handed out is not written any more: it is told by its rows. -/
set_option linter.unusedVariables false
set_option linter.unusedSimpArgs false
namespace Go.Proofs.Ytcbonfgkfiapaaa.Pv
open Go Go.RowKit

/-- Told with less. -/
def PVw (p q : PV) : Prop := p = q ∨ (p = .sl0 ∧ ∃ sz, q = .slice sz [])
def rowW : List PV → List PV → Prop
  | [], [] => True
  | p :: ps, q :: qs => PVw p q ∧ rowW ps qs
  | _, _ => False
def rowsW : List (List PV) → List (List PV) → Prop
  | [], [] => True
  | r :: rs, s :: ss => rowW r s ∧ rowsW rs ss
  | _, _ => False
theorem rowW_refl : ∀ r : List PV, rowW r r
  | [] => trivial
  | p :: ps => ⟨Or.inl rfl, rowW_refl ps⟩
theorem rowsW_refl : ∀ r : List (List PV), rowsW r r
  | [] => trivial
  | p :: ps => ⟨rowW_refl p, rowsW_refl ps⟩
theorem rowW_len : ∀ {r s : List PV}, rowW r s → s.length = r.length
  | [], [], _ => rfl
  | [], _ :: _, h => h.elim
  | _ :: _, [], h => h.elim
  | p :: ps, q :: qs, h => by simp [rowW_len h.2]
theorem rowsW_len : ∀ {r s : List (List PV)}, rowsW r s → s.length = r.length
  | [], [], _ => rfl
  | [], _ :: _, h => h.elim
  | _ :: _, [], h => h.elim
  | p :: ps, q :: qs, h => by simp [rowsW_len h.2]
theorem rowsW_app : ∀ {a b c d : List (List PV)}, rowsW a b → rowsW c d → rowsW (a ++ c) (b ++ d)
  | [], [], c, d, _, k => k
  | [], _ :: _, _, _, h, _ => h.elim
  | _ :: _, [], _, _, h, _ => h.elim
  | p :: ps, q :: qs, c, d, h, k => ⟨h.1, rowsW_app h.2 k⟩
theorem rep_w {w : World} {im : Nat → Prop} {p q : PV} {v : Value} (h : PVw p q) (hr : Rep w im p v) : Rep w im q v := by
  rcases h with rfl | ⟨rfl, sz, rfl⟩
  · exact hr
  · simp only [Rep] at hr ⊢
    obtain ⟨a, rfl⟩ := hr
    exact ⟨a, 0, rfl, Nat.le_refl _, by decide, Or.inl trivial⟩
theorem repAt_w {w : World} {im : Nat → Prop} {b : Nat} : ∀ {off : Nat} {r s : List PV}, rowW r s → RepAt w im b off r → RepAt w im b off s
  | off, [], [], _, h => h
  | _, [], _ :: _, h, _ => h.elim
  | _, _ :: _, [], h, _ => h.elim
  | off, p :: ps, q :: qs, h, k => by
    simp only [RepAt] at k ⊢
    obtain ⟨⟨v, h1, h2⟩, h3⟩ := k
    exact ⟨⟨v, h1, rep_w h.1 h2⟩, repAt_w h.2 h3⟩
theorem repRows_w {w : World} {im : Nat → Prop} {b : Nat} : ∀ {off sz : Nat} {r s : List (List PV)}, rowsW r s → RepRows w im b off sz r → RepRows w im b off sz s
  | off, sz, [], [], _, h => h
  | _, _, [], _ :: _, h, _ => h.elim
  | _, _, _ :: _, [], h, _ => h.elim
  | off, sz, p :: ps, q :: qs, h, k => by
    simp only [RepRows] at k ⊢
    exact ⟨by rw [rowW_len h.1]; exact k.1, repAt_w h.1 k.2.1, repRows_w h.2 k.2.2⟩

theorem grows_freeze {w : World} {S S' : Heap} {sz : Nat} {e : TypeId} {rows rows' : List (List PV)} {q : PV} {v : Value} (hh : ∀ b o, S' b = some o → Holds w S'.im b o) (hle : S.le S') (hn : ∀ b, ownB q = some b → S b = none) (hg : Grows S' sz e rows q) (hw : rowsW rows rows') (hr : Rep w S'.im q v) : Rep w S.im (.slice sz rows') v := by
  rcases hg with ⟨rfl, rfl⟩ | ⟨b, cap, cap', rfl, hb, h1, h2⟩
  · cases rows' with
    | cons _ _ => exact hw.elim
    | nil => exact rep_w (Or.inr ⟨rfl, sz, rfl⟩) (by simp only [Rep] at hr ⊢; exact hr)
  · simp only [Rep] at hr
    subst hr
    obtain ⟨arr, b1, b2, b3, b4, b5⟩ := hh b _ hb
    have hlt := (hh b _ hb).lt
    simp only [Rep]
    have hl := rowsW_len hw
    refine ⟨_, cap, by rw [hl], by rw [hl]; exact h1, Nat.le_trans h2 b4, Or.inr ⟨b, 0, rfl, hn b rfl, hlt, ?_⟩⟩
    exact repRows_w hw (RepRows.rows_keep (keeps_le hle) rfl 0 sz rows b5)
theorem CallsQ_freeze {P : Program} {f : FuncId} {ps : List PV} {S : Heap} {sz : Nat} {e : TypeId} {rows' : List (List PV)}
    (h : CallsA P f ps S (fun q S' => S.le S' ∧ ∃ rows, Grows S' sz e rows q ∧ (∀ b, ownB q = some b → S b = none) ∧ rowsW rows rows')) : CallsQ P f ps S (.slice sz rows') := by
  intro w args hv hh
  refine (h w args hv hh).mono ?_
  rintro r w' ⟨v, p, S', rfl, h1, h2, h3, h4, rows, h5, h6, h7⟩
  refine ⟨v, _, S, rfl, grows_freeze h2 h4 h6 h5 h7 h1, fun b o hb => Holds.keep (keeps_le h4) rfl (h2 b o (h4 b o hb)), ⟨h3.os, h3.tape, h3.output, h3.size, fun b hb hS => ?_⟩, rfl, rfl⟩
  exact ⟨hS, (h3.kept b hb hS).2⟩
theorem Heap.le_own {B S : Heap} {b : Nat} {o : MObj} (h : B.le S) (hb : B b = Option.none) : B.le (S.set b o) := by
  intro c x hc
  have hne : c ≠ b := fun e => by subst e; rw [hb] at hc; cases hc
  rw [set_apply, if_neg hne]
  exact h c x hc
theorem Grows.le {S S' : Heap} {sz : Nat} {e : TypeId} {rows : List (List PV)} {p : PV} (h : Grows S sz e rows p) (hl : S.le S') : Grows S' sz e rows p := by
  rcases h with h | ⟨b, cap, cap', h1, h2, h3, h4⟩
  · exact Or.inl h
  · exact Or.inr ⟨b, cap, cap', h1, hl _ _ h2, h3, h4⟩

end Go.Proofs.Ytcbonfgkfiapaaa.Pv

/-! A variable of the call's own in which a slice grows. -/
set_option linter.unusedVariables false
namespace Go.Proofs.Ytcbonfgkfiapaaa.Pv
open Go Go.RowKit

theorem grows_one {S : Heap} {sz : Nat} {e : TypeId} {rows : List (List PV)} {p : PV} (h : Grows S sz e rows p) : cellsOf p = some [p] ∧ [p].all PV.isOne = true := by
  rcases h with ⟨rfl, _⟩ | ⟨b, cap, cap', rfl, _⟩ <;> exact ⟨rfl, rfl⟩
structure Holder (sz : Nat) (e ty : TypeId) (b3 : Nat) (rows : List (List PV)) (ps : PV) (B S : Heap) : Prop where
  le : B.le S
  n3 : B b3 = none
  cell : S b3 = some (.cells [ps] ty)
  grows : Grows S sz e rows ps
  apart : ownB ps ≠ some b3
  own : ∀ b, ownB ps = some b → B b = none
theorem Holder.push {sz : Nat} {e ty : TypeId} {b3 : Nat} {rows rows' : List (List PV)} {ps p : PV} {B S S' : Heap} (h : Holder sz e ty b3 rows ps B S) (g1 : Grows S' sz e rows' p) (g2 : ownB p = ownB ps ∨ ∃ b, ownB p = some b ∧ S b = none) (g3 : ∀ c y, S c = some y → ownB p ≠ some c → S' c = some y) :
    S' b3 = some (.cells [ps] ty) ∧ Holder sz e ty b3 rows' p B (S'.set b3 (.cells [p] ty)) := by
  have ap : ownB p ≠ some b3 := by
    rcases g2 with g2 | ⟨b, g2, g4⟩
    · rw [g2]; exact h.apart
    · intro e; rw [g2] at e; cases e; rw [h.cell] at g4; cases g4
  have hown : ∀ b, ownB p = some b → B b = none := by
    intro b hb
    rcases g2 with g2 | ⟨b', g2, g4⟩
    · rw [g2] at hb; exact h.own b hb
    · rw [g2] at hb; cases hb
      cases e : B b with
      | none => rfl
      | some o => have := h.le _ _ e; rw [g4] at this; cases this
  refine ⟨g3 _ _ h.cell ap, ?_, h.n3, by rw [set_apply, if_pos rfl], ?_, ap, hown⟩
  · intro c x hc
    have hne : c ≠ b3 := fun e => by subst e; rw [h.n3] at hc; cases hc
    rw [set_apply, if_neg hne]
    refine g3 _ _ (h.le _ _ hc) fun e => ?_
    rw [hown c e] at hc; cases hc
  · rcases g1 with g1 | ⟨b, cap, cap', k1, k2, k3, k4⟩
    · exact Or.inl g1
    · subst k1
      refine Or.inr ⟨b, cap, cap', rfl, ?_, k3, k4⟩
      rw [set_apply, if_neg (fun e => ap (by rw [← e]; rfl))]
      exact k2
theorem Holder.ext {sz : Nat} {e ty : TypeId} {b3 : Nat} {rows : List (List PV)} {ps : PV} {B S : Heap} {b : Nat} {o : MObj} (h : Holder sz e ty b3 rows ps B S) (hb : S b = none) : Holder sz e ty b3 rows ps (B.set b o) (S.set b o) := by
  have e3 : b3 ≠ b := fun e => by subst e; rw [h.cell] at hb; cases hb
  refine ⟨?_, by rw [set_apply, if_neg e3]; exact h.n3, by rw [set_apply, if_neg e3]; exact h.cell, h.grows.le (Heap.le_set hb), h.apart, ?_⟩
  · intro c x hc
    rw [set_apply] at hc ⊢
    split at hc
    · rename_i e; rw [if_pos e]; exact hc
    · rename_i e; rw [if_neg e]; exact h.le c x hc
  · intro c hc
    have e4 : c ≠ b := fun e => by
      subst e
      rcases h.grows with ⟨k, _⟩ | ⟨b', cap, cap', k1, k2, _⟩
      · subst k; cases hc
      · subst k1; cases hc; rw [hb] at k2; cases k2
    rw [set_apply, if_neg e4]
    exact h.own c hc
theorem Holder.forget {sz : Nat} {e ty : TypeId} {b3 : Nat} {rows : List (List PV)} {ps : PV} {B S : Heap} {b : Nat} {o : MObj} (h : Holder sz e ty b3 rows ps (B.set b o) S) (hb : B b = none) : Holder sz e ty b3 rows ps B S := by
  have n3 := h.n3
  have e3 : b3 ≠ b := fun e => by subst e; rw [set_apply, if_pos rfl] at n3; cases n3
  refine ⟨?_, by rwa [set_apply, if_neg e3] at n3, h.cell, h.grows, h.apart, ?_⟩
  · intro c x hc
    refine h.le c x ?_
    rw [set_apply, if_neg (fun e => by subst e; rw [hb] at hc; cases hc)]
    exact hc
  · intro c hc
    have := h.own c hc
    rw [set_apply] at this
    split at this
    · cases this
    · exact this
theorem Holder.new {sz : Nat} {e ty : TypeId} {b3 : Nat} {S : Heap} (hb : S b3 = none) : Holder sz e ty b3 [] .sl0 S (S.set b3 (.cells [.sl0] ty)) :=
  ⟨Heap.le_set hb, hb, (by rw [set_apply, if_pos rfl]), Or.inl ⟨rfl, rfl⟩, (fun h => by cases h), (fun b h => by cases h)⟩

/-- The same, where the slice stands in a register. -/
theorem grow_le {ps p : PV} {B S S' : Heap} (hle : B.le S) (hown : ∀ b, ownB ps = some b → B b = none) (g2 : ownB p = ownB ps ∨ ∃ b, ownB p = some b ∧ S b = none) (g3 : ∀ c y, S c = some y → ownB p ≠ some c → S' c = some y) :
    B.le S' ∧ ∀ b, ownB p = some b → B b = none := by
  have hown : ∀ b, ownB p = some b → B b = none := by
    intro b hb
    rcases g2 with g2 | ⟨b', g2, g4⟩
    · rw [g2] at hb; exact hown b hb
    · rw [g2] at hb; cases hb
      cases e : B b with
      | none => rfl
      | some o => have := hle _ _ e; rw [g4] at this; cases this
  refine ⟨fun c x hc => g3 _ _ (hle _ _ hc) fun e => ?_, hown⟩
  rw [hown c e] at hc; cases hc

end Go.Proofs.Ytcbonfgkfiapaaa.Pv

/-! Calls with arguments told with less. -/
set_option linter.unusedVariables false
namespace Go.Proofs.Ytcbonfgkfiapaaa.Pv
open Go Go.RowKit

def Wk (p q : PV) : Prop := ∀ w im v, Rep w im p v → Rep w im q v
def WkL (ps qs : List PV) : Prop := ∀ w im vs, RepVals w im ps vs → RepVals w im qs vs
def WkR (r s : List PV) : Prop := s.length = r.length ∧ ∀ w im b off, RepAt w im b off r → RepAt w im b off s
theorem Wk.refl (p : PV) : Wk p p := fun w im v h => h
theorem Wk.sl0 (sz : Nat) : Wk .sl0 (.slice sz []) := fun w im v h => rep_w (Or.inr ⟨rfl, sz, rfl⟩) h
theorem WkL.nil : WkL [] [] := fun w im vs h => h
theorem WkL.cons {p q : PV} {ps qs : List PV} (h : Wk p q) (k : WkL ps qs) : WkL (p :: ps) (q :: qs) := by
  intro w im vs hv
  cases vs with
  | nil => simp [RepVals] at hv
  | cons v vs => rw [repVals_cons] at hv ⊢; exact ⟨h _ _ _ hv.1, k _ _ _ hv.2⟩
theorem WkL.refl (ps : List PV) : WkL ps ps := fun w im vs h => h
theorem WkR.nil : WkR [] [] := ⟨rfl, fun w im b off h => h⟩
theorem WkR.cons {p q : PV} {ps qs : List PV} (h : Wk p q) (k : WkR ps qs) : WkR (p :: ps) (q :: qs) := by
  refine ⟨by simp [k.1], fun w im b off hv => ?_⟩
  simp only [RepAt] at hv ⊢
  obtain ⟨⟨v, h1, h2⟩, h3⟩ := hv
  exact ⟨⟨v, h1, h _ _ _ h2⟩, k.2 _ _ _ _ h3⟩
theorem WkR.refl (r : List PV) : WkR r r := ⟨rfl, fun w im b off h => h⟩
theorem Wk.agg {a b : List PV} (h : WkL a b) : Wk (.agg a) (.agg b) := by
  intro w im v hv
  simp only [Rep] at hv ⊢
  obtain ⟨arr, h1, h2⟩ := hv
  exact ⟨arr, h1, h _ _ _ h2⟩
inductive WkRows : List (List PV) → List (List PV) → Prop where
  | nil : WkRows [] []
  | cons {r s : List PV} {rs ss : List (List PV)} (h : WkR r s) (k : WkRows rs ss) : WkRows (r :: rs) (s :: ss)
theorem WkRows.len {r s : List (List PV)} (h : WkRows r s) : s.length = r.length := by
  induction h with
  | nil => rfl
  | cons _ _ ih => simp [ih]
theorem WkRows.rep {r s : List (List PV)} (h : WkRows r s) {w : World} {im : Nat → Prop} {b sz : Nat} : ∀ {off : Nat}, RepRows w im b off sz r → RepRows w im b off sz s := by
  induction h with
  | nil => intro off h; exact h
  | cons h k ih =>
    intro off hr
    simp only [RepRows] at hr ⊢
    exact ⟨by rw [h.1]; exact hr.1, h.2 _ _ _ _ hr.2.1, ih hr.2.2⟩
theorem Wk.slice {sz : Nat} {a b : List (List PV)} (h : WkRows a b) : Wk (.slice sz a) (.slice sz b) := by
  intro w im v hv
  simp only [Rep] at hv ⊢
  obtain ⟨x, c, h1, h2, h3, h4⟩ := hv
  refine ⟨x, c, by rw [h.len]; exact h1, by rw [h.len]; exact h2, h3, ?_⟩
  rcases h4 with h4 | ⟨blk, off, e1, e2, e3, e4⟩
  · subst h4; cases h; exact Or.inl rfl
  · exact Or.inr ⟨blk, off, e1, e2, e3, h.rep e4⟩

section
variable {P : Program} {n : Nat} {mb : Tmp → Bool} {R : Post} {k : List It} {σ : Regs} {S : Heap} {ds : List (Option Tmp)} {l q tail : List Oper}
theorem CallsA.weak {g : FuncId} {as ps : List PV} {Po : PV → Heap → Prop} (h : WkL as ps) (hc : CallsA P g ps S Po) : CallsA P g as S Po := fun w args hv hh => hc w args (h _ _ _ hv) hh
theorem OpW_callW {x : Operand} {as : Array Operand} {ts : Array TypeId} {g : FuncId} {fs cs ps : List PV} {d : Option Tmp} {ty : TypeId} {pos : String} {af : Array Edge} {gd : Option (Nat × Bool)} (hx : ev σ x = .fn (.func g) fs cs) (hps : WkL (fs ++ as.toList.map (ev σ) ++ cs) ps) (hg : callable P g = true)
    (hd : okDst n d = true) (hc : CallsA P g ps S (fun p S' => W P n mb R (.ops ds l :: k) (updO σ d p) S')) : OpW P n mb R { dst := d, op := .call { callee := .value x, args := as, argTypes := ts }, type := ty, pos := pos, after := af, guard := gd } ds l k σ S :=
  OpW_call hx rfl hg hd (hc.weak hps)
theorem QCW_callW {x : Operand} {as : Array Operand} {ts : Array TypeId} {g : FuncId} {fs cs ps : List PV} {p : PV} {d : Option Tmp} {ty : TypeId} {pos : String} {af : Array Edge} {gd : Option (Nat × Bool)} (hx : ev σ x = .fn (.func g) fs cs) (hps : WkL (fs ++ as.toList.map (ev σ) ++ cs) ps) (hg : callable P g = true)
    (hc : CallsQ P g ps S p) (hK : QW P n mb R ds q tail k (updO σ d p) S) : QCW P n mb R { dst := d, op := .call { callee := .value x, args := as, argTypes := ts }, type := ty, pos := pos, after := af, guard := gd } ds q tail k σ S :=
  QCW_call hx rfl hg (CallsA.weak hps hc) hK
end

end Go.Proofs.Ytcbonfgkfiapaaa.Pv
