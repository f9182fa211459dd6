/- A region whose order is drawn, in which new variables and appends stand among operations without effect: whatever the order, it is as in the text's. -/
import Derived.Test.YtcbonfgkfiapaaaCore4
set_option linter.unusedVariables false
set_option linter.unusedSimpArgs false
set_option linter.unnecessarySimpa false
namespace Go.Proofs.Ytcbonfgkfiapaaa.Pv
open Go Go.RowKit

def Fin' (S : Heap) : Prop := ∃ B, ∀ b, B ≤ b → S b = none
theorem Fin'.set {S : Heap} {b : Nat} {o : MObj} (h : Fin' S) : Fin' (S.set b o) := by
  obtain ⟨B, h⟩ := h
  exact ⟨max B (b + 1), fun c hc => by rw [set_apply, if_neg (by omega)]; exact h c (by omega)⟩
/-- What an append does: at most one block of the call's own is another one behind it. -/
structure AppRel (sz : Nat) (e : TypeId) (S : Heap) (ps : PV) (rows : List (List PV)) (p : PV) (S' : Heap) : Prop where
  grows : Grows S' sz e rows p
  own : ownB p = ownB ps ∨ ∃ b, ownB p = some b ∧ S b = none
  rest : ∀ c, ownB p ≠ some c → S' c = S c
theorem AppRel.fin {sz : Nat} {e : TypeId} {S S' : Heap} {ps p : PV} {rows : List (List PV)} (h : AppRel sz e S ps rows p S') (hf : Fin' S) : Fin' S' := by
  obtain ⟨B, hB⟩ := hf
  cases ho : ownB p with
  | none => exact ⟨B, fun b hb => by rw [h.rest b (by rw [ho]; simp)]; exact hB b hb⟩
  | some x => exact ⟨max B (x + 1), fun b hb => by rw [h.rest b (by rw [ho]; simp; omega)]; exact hB b (by omega)⟩

inductive OK where
  | pure
  | alloc (t : TypeId) (cs : List PV)
  | app (t : TypeId) (sz bytes : Nat) (e : TypeId) (s x : Operand)
  | put (t : TypeId) (x y : Operand)
  | call (x : Operand) (as : Array Operand) (ts : Array TypeId)
  | ld (t : TypeId) (x : Operand)
  | val (p : PV)
  | eff
/-- What an operation that changes blocks of the call's own does. -/
def Eff (P : Program) (o : Oper) (σ : Regs) (S : Heap) (Po : PV → Heap → Prop) : Prop :=
  ∀ (n : Nat) (σ' : Regs) (K : Regs → Heap → Prop), okDst n o.dst = true → (∀ t ∈ tmpsOf o, σ' t = σ t) → (∀ p S', Po p S' → K (updO σ' o.dst p) S') → OpA P n o σ' S K
def OK.kind : OK → Nat
  | .pure => 0
  | .alloc _ _ => 1
  | .app _ _ _ _ _ _ => 2
  | .put _ _ _ => 3
  | .call _ _ _ => 3
  | .ld _ _ => 1
  | .val _ => 0
  | .eff => 3
/-- What is left to show of an operation: k holds of what it gives and of the blocks behind it. -/
def RK (P : Program) (o : Oper) : OK → Regs → Heap → (PV → Heap → Prop) → Prop
  | .pure, σ, S, k => ∃ p, evalOp P σ o.op = some p ∧ k p S
  | .alloc t cs, σ, S, k => ∀ b, S b = none → k (.mp b 0) (S.set b (.cells cs t))
  | .app t sz bytes e s x, σ, S, k => ∃ rows olds, elemsOf Heap.none sz (ev σ x) = some rows ∧ (∀ r ∈ rows, ∀ c ∈ r, c.isOne = true) ∧ Grows S sz e olds (ev σ s) ∧ olds.length + rows.length ≤ maxLen ∧ (olds.length + rows.length) * bytes ≤ 140737488355328 ∧ ∀ p S', AppRel sz e S (ev σ s) (olds ++ rows) p S' → k p S'
  | .put t x y, σ, S, k => ∃ b off cs es ty, ev σ x = .mp b off ∧ S b = some (.cells cs ty) ∧ cellsOf (ev σ y) = some es ∧ es.all PV.isOne = true ∧ (P.info? t).map (·.size) = some es.length ∧ off + es.length ≤ cs.length ∧ k .any (S.set b (.cells (splice cs off es) ty))
  | .call x as ts, σ, S, k => ∃ (g : FuncId) (fs cs : List PV) (Po : PV → Heap → Prop), ev σ x = .fn (.func g) fs cs ∧ callable P g = true ∧ CallsA P g (fs ++ as.toList.map (ev σ) ++ cs) S Po ∧ (∃ p S', Po p S' ∧ (Fin' S → Fin' S')) ∧ ∀ p S', Po p S' → Fin' S' → k p S'
  | .ld t x, σ, S, k => ∃ (b off : Nat) (cs : List PV) (ty : TypeId) (p : PV), ev σ x = .mp b off ∧ S b = some (.cells cs ty) ∧ off ≤ cs.length ∧ loadPV P t (cs.drop off) = some p ∧ k p S
  | .val p, σ, S, k => (∀ S', QV P o σ S' p) ∧ k p S
  | .eff, σ, S, k => ∃ Po : PV → Heap → Prop, Eff P o σ S Po ∧ (Fin' S → ∃ p S', Po p S' ∧ Fin' S') ∧ ∀ p S', Po p S' → Fin' S' → k p S'
def okFor (P : Program) (o : Oper) : OK → Prop
  | .pure => True
  | .alloc t cs => o.op = .alloc t ∧ zeroCells P t = some cs
  | .app t sz bytes e s x => o.op = .call { callee := .builtin .append, args := #[s, x], argTypes := #[t, t] } ∧ appFacts P t = some (sz, bytes, e)
  | .put t x y => o.op = .store t x y
  | .call x as ts => o.op = .call { callee := .value x, args := as, argTypes := ts }
  | .ld t x => o.op = .load t x
  | .val _ => True
  | .eff => True
theorem RK.mono {P : Program} {o : Oper} {d : OK} {σ : Regs} {S : Heap} {k k' : PV → Heap → Prop} (h : RK P o d σ S k) (hk : ∀ p S', (Fin' S → Fin' S') → k p S' → k' p S') : RK P o d σ S k' := by
  cases d with
  | pure => obtain ⟨p, h1, h2⟩ := h; exact ⟨p, h1, hk _ _ id h2⟩
  | alloc t cs => exact fun b hb => hk _ _ (fun h => h.set) (h b hb)
  | app t sz bytes e s x => obtain ⟨rows, olds, h1, h2, h3, h4, h5, h6⟩ := h; exact ⟨rows, olds, h1, h2, h3, h4, h5, fun p S' hr => hk _ _ hr.fin (h6 p S' hr)⟩
  | put t x y => obtain ⟨b, off, cs, es, ty, h1, h2, h3, h4, h5, h6, h7⟩ := h; exact ⟨b, off, cs, es, ty, h1, h2, h3, h4, h5, h6, hk _ _ (fun h => h.set) h7⟩
  | call x as ts => obtain ⟨g, fs, cs, Po, h1, h2, h3, h4, h5⟩ := h; exact ⟨g, fs, cs, Po, h1, h2, h3, h4, fun p S' hp hf => hk _ _ (fun _ => hf) (h5 p S' hp hf)⟩
  | ld t x => obtain ⟨b, off, cs, ty, p, h1, h2, h3, h4, h5⟩ := h; exact ⟨b, off, cs, ty, p, h1, h2, h3, h4, hk _ _ id h5⟩
  | val p => exact ⟨h.1, hk _ _ id h.2⟩
  | eff => obtain ⟨Po, h1, h2, h3⟩ := h; exact ⟨Po, h1, h2, fun p S' hp hf => hk _ _ (fun _ => hf) (h3 p S' hp hf)⟩
theorem RK.congr {P : Program} {o : Oper} {d : OK} {σ σ' : Regs} {S : Heap} {k : PV → Heap → Prop} (hok : okFor P o d) (h : RK P o d σ S k) (hs : ∀ t ∈ tmpsOf o, σ' t = σ t) : RK P o d σ' S k := by
  have hall : ∀ y ∈ o.op.operands.toList, ev σ' y = ev σ y := ev_congr hs
  cases d with
  | pure => obtain ⟨p, h1, h2⟩ := h; exact ⟨p, by rw [← h1]; exact evalOp_congr hall, h2⟩
  | alloc t cs => exact h
  | app t sz bytes e s x =>
    have es : ev σ' s = ev σ s := hall s (by rw [hok.1]; simp [Op.operands, Call.operands])
    have ex : ev σ' x = ev σ x := hall x (by rw [hok.1]; simp [Op.operands, Call.operands])
    obtain ⟨rows, olds, h1, h2, h3, h4, h5, h6⟩ := h
    refine ⟨rows, olds, by rw [ex]; exact h1, h2, by rw [es]; exact h3, h4, h5, by rw [es]; exact h6⟩
  | put t x y =>
    have ex : ev σ' x = ev σ x := hall x (by rw [show o.op = .store t x y from hok]; simp [Op.operands])
    have ey : ev σ' y = ev σ y := hall y (by rw [show o.op = .store t x y from hok]; simp [Op.operands])
    obtain ⟨b, off, cs, es, ty, h1, h2, h3, h⟩ := h
    exact ⟨b, off, cs, es, ty, by rw [ex]; exact h1, h2, by rw [ey]; exact h3, h⟩
  | call x as ts =>
    have ex : ev σ' x = ev σ x := hall x (by rw [show o.op = _ from hok]; simp [Op.operands, Call.operands])
    have ea : as.toList.map (ev σ') = as.toList.map (ev σ) := map_ev_congr hall fun y hy => by rw [show o.op = _ from hok]; simp [Op.operands, Call.operands]; exact Or.inr (by simpa using hy)
    obtain ⟨g, fs, cs, Po, h1, h2, h3, h⟩ := h
    exact ⟨g, fs, cs, Po, by rw [ex]; exact h1, h2, by rw [ea]; exact h3, h⟩
  | ld t x =>
    have ex : ev σ' x = ev σ x := hall x (by rw [show o.op = .load t x from hok]; simp [Op.operands])
    obtain ⟨b, off, cs, ty, p, h1, h⟩ := h
    exact ⟨b, off, cs, ty, p, by rw [ex]; exact h1, h⟩
  | val p => exact ⟨fun S' n σ2 w a h2 => h.1 S' n σ2 w a fun t ht => (h2 t ht).trans (hs t ht), h.2⟩
  | eff => obtain ⟨Po, h1, h⟩ := h; exact ⟨Po, fun n σ2 K hd h2 => h1 n σ2 K hd fun t ht => (h2 t ht).trans (hs t ht), h⟩
theorem elems_none {S : Heap} {sz : Nat} {p : PV} {rows : List (List PV)} (h : elemsOf Heap.none sz p = some rows) : elemsOf S sz p = some rows := by
  cases p <;> simp only [elemsOf, Heap.none, reduceCtorEq] at h ⊢ <;> exact h
theorem RK.sound {P : Program} {n : Nat} {o : Oper} {d : OK} {σ : Regs} {S : Heap} {K : Regs → Heap → Prop} (hok : okFor P o d) (hd : okDst n o.dst = true) (h : RK P o d σ S (fun p S' => K (updO σ o.dst p) S')) : OpA P n o σ S K := by
  cases d with
  | pure => obtain ⟨p, h1, h2⟩ := h; exact OpA_pure h1 (okDst_spec hd) h2
  | alloc t cs => exact OpA_alloc hok.1 hok.2 (okDst_spec hd) h
  | app t sz bytes e s x =>
    obtain ⟨rows, olds, h1, h2, h3, h4, h5, h6⟩ := h
    have hsv : (ev σ s = .sl0 ∧ olds = []) ∨ ∃ b k cap rs cap', ev σ s = .vec b k cap ∧ S b = some (.rows sz rs cap' e) ∧ k ≤ rs.length ∧ k ≤ cap ∧ cap ≤ cap' ∧ olds = rs.take k := by
      rcases h3 with ⟨h2, h3⟩ | ⟨b, cap, cap', h2, h3, h4, h5⟩
      · exact Or.inl ⟨h2, h3⟩
      · exact Or.inr ⟨b, olds.length, cap, olds, cap', h2, h3, Nat.le_refl _, h4, h5, by simp⟩
    refine OpA_append hok.1 hok.2 (okDst_spec hd) (elems_none h1) h2 hsv h4 h5 (fun hr => ?_) (fun b k cap rs cap' e1 e2 e3 => ?_) fun b cap e1 e2 => ?_
    · subst hr
      exact h6 _ _ ⟨by simpa using h3, Or.inl rfl, fun c _ => rfl⟩
    · rcases h3 with ⟨h2, h3⟩ | ⟨b', cap1, cap2, h2, h3, h4, h5⟩
      · rw [h2] at e1; cases e1
      · rw [h2] at e1
        simp only [PV.vec.injEq] at e1
        obtain ⟨rfl, rfl, rfl⟩ := e1
        rw [h3] at e2
        simp only [Option.some.injEq, MObj.rows.injEq, true_and, and_true] at e2
        obtain ⟨rfl, rfl⟩ := e2
        simp only [List.take_length]
        refine h6 _ _ ⟨Or.inr ⟨b', cap1, cap2, by rw [List.length_append], by rw [set_apply, if_pos rfl], by rw [List.length_append]; exact e3, h5⟩, Or.inl (by rw [h2]; rfl), fun c hne => ?_⟩
        rw [set_apply, if_neg (fun h => hne (by rw [h]; rfl))]
    · refine h6 _ _ ⟨Or.inr ⟨b, cap, cap, by rw [List.length_append], by rw [set_apply, if_pos rfl], by rw [List.length_append]; exact e2, Nat.le_refl _⟩, Or.inr ⟨b, rfl, e1⟩, fun c hne => ?_⟩
      rw [set_apply, if_neg (fun h => hne (by rw [h]; rfl))]
  | put t x y =>
    obtain ⟨b, off, cs, es, ty, h1, h2, h3, h4, h5, h6, h7⟩ := h
    cases hi : P.info? t with
    | none => rw [hi] at h5; cases h5
    | some inf =>
      rw [hi] at h5
      simp only [Option.map_some, Option.some.injEq] at h5
      exact OpA_store hok h1 h2 h3 h4 hi h5 h6 (okDst_spec hd) h7
  | call x as ts =>
    obtain ⟨g, fs, cs, Po, h1, h2, h3, _, h5⟩ := h
    refine OpA_call hok h1 h2 (okDst_spec hd) ?_
    intro w args hv hh
    refine (h3 w args hv hh).mono ?_
    rintro e w' ⟨v, p, S', e1, e2, e3, e4, e5⟩
    refine ⟨v, p, S', e1, e2, e3, e4, h5 p S' e5 ⟨w'.heap.size, fun b hb => ?_⟩⟩
    cases hS : S' b with
    | none => rfl
    | some y => have := (e3 b y hS).lt; omega
  | ld t x =>
    obtain ⟨b, off, cs, ty, p, h1, h2, h3, h4, h5⟩ := h
    intro w0 S0 w a hst hext next Qx hnext
    have hl : loadS P S t (ev σ x) = some p := by
      have hc : cellsOn S (.mp b off) = some (cs.drop off) := by
        simp only [cellsOn, h2]
        exact if_pos h3
      unfold loadS
      rw [h1, hc]
      exact h4
    obtain ⟨v, w', g1, g2, g3, g4⟩ := loadS_sound hst hok hl
    simp only [Oper.wp, g1, Oper.upon]
    exact hnext _ w' _ S ((hst.ext g3 g4).put (okDst_spec hd) g2) (hext.trans g3) h5
  | val p =>
    intro w0 S0 w a hs hx next Qx hnext
    refine h.1 S n σ w a (fun _ _ => rfl) hs next Qx fun v w' h1 h2 h3 => ?_
    exact hnext _ w' _ S ((hs.ext h2 h3).put (okDst_spec hd) h1) (hx.trans h2) h.2
  | eff =>
    obtain ⟨Po, h1, _, h3⟩ := h
    intro w0 S0 w a hs hx next Qx hnext
    refine h1 n σ (fun σ1 S1 => ∃ p, σ1 = updO σ o.dst p ∧ Po p S1) hd (fun _ _ => rfl) (fun p S' hp => ⟨p, rfl, hp⟩) w0 S0 w a hs hx next Qx fun a' w' σ1 S1 k1 k2 k3 => ?_
    obtain ⟨p, rfl, hp⟩ := k3
    refine hnext a' w' _ S1 k1 k2 (h3 p S1 hp ⟨w'.heap.size, fun b hb => ?_⟩)
    cases hS : S1 b with
    | none => rfl
    | some y => have := (k1.heap b y hS).lt; omega
/-- Something comes of it. -/
theorem RK.some {P : Program} {o : Oper} {d : OK} {σ : Regs} {S : Heap} {k : PV → Heap → Prop} (hf : Fin' S) (h : RK P o d σ S k) : ∃ p S', k p S' := by
  obtain ⟨B, hB⟩ := hf
  cases d with
  | pure => obtain ⟨p, h1, h2⟩ := h; exact ⟨p, _, h2⟩
  | alloc t cs => exact ⟨_, _, h B (hB B (Nat.le_refl _))⟩
  | app t sz bytes e s x =>
    obtain ⟨rows, olds, h1, h2, h3, h4, h5, h6⟩ := h
    refine ⟨_, _, h6 (.vec B (olds ++ rows).length (olds ++ rows).length) (S.set B (.rows sz (olds ++ rows) (olds ++ rows).length e)) ⟨Or.inr ⟨B, _, _, rfl, by rw [set_apply, if_pos rfl], Nat.le_refl _, Nat.le_refl _⟩, Or.inr ⟨B, rfl, hB B (Nat.le_refl _)⟩, fun c hne => ?_⟩⟩
    rw [set_apply, if_neg (fun h => hne (by rw [h]; rfl))]
  | put t x y => obtain ⟨b, off, cs, es, ty, h1, h2, h3, h4, h5, h6, h7⟩ := h; exact ⟨_, _, h7⟩
  | call x as ts => obtain ⟨g, fs, cs, Po, h1, h2, h3, ⟨p, S', h4, h6⟩, h5⟩ := h; exact ⟨p, S', h5 p S' h4 (h6 ⟨B, hB⟩)⟩
  | ld t x => obtain ⟨b, off, cs, ty, p, h1, h2, h3, h4, h5⟩ := h; exact ⟨_, _, h5⟩
  | val p => exact ⟨_, _, h.2⟩
  | eff => obtain ⟨Po, h1, h2, h5⟩ := h; obtain ⟨p, S', h4, h6⟩ := h2 ⟨B, hB⟩; exact ⟨p, S', h5 p S' h4 h6⟩
/-- An append leaves a variable's block as it is. -/
theorem AppRel.cells {sz : Nat} {e : TypeId} {S S' : Heap} {ps p : PV} {olds rows : List (List PV)} (h : AppRel sz e S ps rows p S') (hg : Grows S sz e olds ps) {b : Nat} {cs : List PV} {ty : TypeId} (hb : S b = some (.cells cs ty)) : S' b = some (.cells cs ty) := by
  rw [h.rest b, hb]
  intro e1
  rcases h.own with h7 | ⟨b', h7, h8⟩
  · rw [h7] at e1
    rcases hg with ⟨e2, _⟩ | ⟨b', cap, cap', e2, e3, _⟩
    · rw [e2] at e1; cases e1
    · rw [e2] at e1; simp only [ownB, Option.some.injEq] at e1; subst e1; rw [hb] at e3; cases e3
  · rw [h7] at e1; simp only [Option.some.injEq] at e1; subst e1; rw [hb] at h8; cases h8
theorem AppRel.cells' {sz : Nat} {e : TypeId} {S S' : Heap} {ps p : PV} {rows : List (List PV)} (h : AppRel sz e S ps rows p S') {b : Nat} {cs : List PV} {ty : TypeId} (hb : S' b = some (.cells cs ty)) : S b = some (.cells cs ty) := by
  rw [← h.rest b, hb]
  intro e1
  rcases h.grows with ⟨e2, _⟩ | ⟨b', cap, cap', e2, e3, _⟩
  · rw [e2] at e1; cases e1
  · rw [e2] at e1; simp only [ownB, Option.some.injEq] at e1; subst e1; rw [hb] at e3; cases e3

/-- Two operations, the second one ahead of the first. -/
theorem set_comm {S : Heap} {b c : Nat} {x y : MObj} (h : b ≠ c) : (S.set b x).set c y = (S.set c y).set b x := by
  funext z
  simp only [set_apply]
  by_cases e1 : z = c
  · subst e1; rw [if_pos rfl, if_neg (fun e => h e.symm), if_pos rfl]
  · rw [if_neg e1, if_neg e1]
theorem RK.swap {P : Program} {oj oi : Oper} {j i : OK} {σ : Regs} {S : Heap} {k : PV → PV → Heap → Prop} (hf : Fin' S) (hn : j.kind * i.kind < 3) (h : RK P oj j σ S (fun q S' => RK P oi i σ S' (fun p S'' => k q p S''))) :
    RK P oi i σ S (fun p S' => RK P oj j σ S' (fun q S'' => k q p S'')) := by
  by_cases hj : ∃ q, j = .val q
  · obtain ⟨q, rfl⟩ := hj
    exact RK.mono (d := i) h.2 fun p S' _ hk => ⟨h.1, hk⟩
  have hjv : ∀ q, j = .val q → False := fun q e => hj ⟨q, e⟩
  clear hj
  cases i with
  | val p =>
    obtain ⟨q, S', h1, h2⟩ := h.some hf
    exact ⟨h1, h.mono fun q S' _ hk => hk.2⟩
  | eff =>
    cases j with
    | pure =>
      obtain ⟨q, h1, Po, h2, h3, h4⟩ := h
      exact ⟨Po, h2, h3, fun p S' hp hf' => ⟨q, h1, h4 p S' hp hf'⟩⟩
    | alloc _ _ => simp [OK.kind] at hn
    | app _ _ _ _ _ _ => simp [OK.kind] at hn
    | put _ _ _ => simp [OK.kind] at hn
    | call _ _ _ => simp [OK.kind] at hn
    | ld _ _ => simp [OK.kind] at hn
    | val q => exact (hjv q rfl).elim
    | eff => simp [OK.kind] at hn
  | pure =>
    obtain ⟨q, S', p, h1, h2⟩ := h.some hf
    refine ⟨p, h1, h.mono fun q S' _ hk => ?_⟩
    obtain ⟨p', h3, h4⟩ := hk
    rw [h1] at h3; cases h3
    exact h4
  | alloc t cs =>
    cases j with
    | pure => obtain ⟨q, h1, h2⟩ := h; exact fun b hb => ⟨q, h1, h2 b hb⟩
    | put _ _ _ => simp [OK.kind] at hn
    | call _ _ _ => simp [OK.kind] at hn
    | val q => exact (hjv q rfl).elim
    | eff => simp [OK.kind] at hn
    | ld t' x' =>
      obtain ⟨b0, off, cs0, ty, p, h1, h2, h3, h4, h5⟩ := h
      intro b hb
      have hne : b0 ≠ b := fun e => by subst e; rw [h2] at hb; cases hb
      exact ⟨b0, off, cs0, ty, p, h1, by rw [set_apply, if_neg hne]; exact h2, h3, h4, h5 b hb⟩
    | alloc t' cs' =>
      intro c hc b hb
      rw [set_apply] at hb
      have hne : b ≠ c := fun e => by rw [if_pos e] at hb; cases hb
      rw [if_neg hne] at hb
      have := h b hb c (by rw [set_apply, if_neg (Ne.symm hne)]; exact hc)
      rw [set_comm hne] at this
      exact this
    | app t' sz bytes e s x =>
      obtain ⟨rows, olds, h1, h2, h3, h4, h5, h6⟩ := h
      intro b hb
      refine ⟨rows, olds, h1, h2, h3.le (Heap.le_set hb), h4, h5, fun q S'' hr => ?_⟩
      have hqb : ownB q ≠ Option.some b := by
        rcases hr.own with h7 | ⟨b', h7, h8⟩
        · rw [h7]
          rcases h3 with ⟨e1, _⟩ | ⟨b', cap, cap', e1, e2, _⟩
          · rw [e1]; simp [ownB]
          · rw [e1]; simp only [ownB, ne_eq, Option.some.injEq]; intro e; subst e; rw [hb] at e2; cases e2
        · rw [h7]; simp only [ne_eq, Option.some.injEq]; intro e; subst e; rw [set_apply, if_pos rfl] at h8; cases h8
      have hSb : S'' b = Option.some (.cells cs t) := by rw [hr.rest b hqb, set_apply, if_pos rfl]
      have hS : (S''.del b).set b (.cells cs t) = S'' := by
        funext z
        simp only [set_apply, del_apply]
        by_cases e : z = b
        · rw [if_pos e, e, hSb]
        · rw [if_neg e, if_neg e]
      have hrel : AppRel sz e S (ev σ s) (olds ++ rows) q (S''.del b) := by
        refine ⟨?_, ?_, fun c hc => ?_⟩
        · rcases hr.grows with h | ⟨b', cap, cap', e1, e2, e3, e4⟩
          · exact Or.inl h
          · refine Or.inr ⟨b', cap, cap', e1, ?_, e3, e4⟩
            rw [del_apply, if_neg (fun e => hqb (by rw [e1, e]; rfl))]; exact e2
        · rcases hr.own with h7 | ⟨b', h7, h8⟩
          · exact Or.inl h7
          · refine Or.inr ⟨b', h7, ?_⟩
            rw [set_apply] at h8
            split at h8
            · cases h8
            · exact h8
        · rw [del_apply]
          split
          · rename_i e; rw [e, hb]
          · rename_i e; rw [hr.rest c hc, set_apply, if_neg e]
      have := h6 q _ hrel b (by rw [del_apply, if_pos rfl])
      rwa [hS] at this
  | app t sz bytes e s x =>
    cases j with
    | pure => obtain ⟨q, h1, h2⟩ := h; exact RK.mono (d := .app t sz bytes e s x) h2 fun p S' _ hk => ⟨q, h1, hk⟩
    | app _ _ _ _ _ _ => simp [OK.kind] at hn
    | put _ _ _ => simp [OK.kind] at hn
    | call _ _ _ => simp [OK.kind] at hn
    | val q => exact (hjv q rfl).elim
    | eff => simp [OK.kind] at hn
    | ld t' x' =>
      obtain ⟨b0, off, cs0, ty, p, h1, h2, h3, h4, rows, olds, k1, k2, k3, k4, k5, k6⟩ := h
      exact ⟨rows, olds, k1, k2, k3, k4, k5, fun q S' hr => ⟨b0, off, cs0, ty, p, h1, hr.cells k3 h2, h3, h4, k6 q S' hr⟩⟩
    | alloc t' cs' =>
      obtain ⟨B, hB⟩ := hf
      obtain ⟨rows, olds, h1, h2, h3, h4, h5, _⟩ := h B (hB B (Nat.le_refl _))
      have hg : ∀ b olds', S b = Option.none → Grows (S.set b (.cells cs' t')) sz e olds' (ev σ s) → Grows S sz e olds' (ev σ s) := by
        intro b olds' hb h
        rcases h with h | ⟨b', cap, cap', e1, e2, e3, e4⟩
        · exact Or.inl h
        · refine Or.inr ⟨b', cap, cap', e1, ?_, e3, e4⟩
          rw [set_apply] at e2
          split at e2
          · cases e2
          · exact e2
      have h3' := hg B olds (hB B (Nat.le_refl _)) h3
      refine ⟨rows, olds, h1, h2, h3', h4, h5, fun p S' hr b hb => ?_⟩
      have hpb : ownB p ≠ Option.some b := by
        intro e1
        rcases hr.grows with ⟨e2, _⟩ | ⟨b', cap, cap', e2, e3, _⟩
        · rw [e2] at e1; cases e1
        · rw [e2] at e1; simp only [ownB, Option.some.injEq] at e1; subst e1; rw [hb] at e3; cases e3
      have hSb : S b = Option.none := by rw [← hr.rest b hpb]; exact hb
      obtain ⟨rows', olds', k1, k2, k3, k4, k5, k6⟩ := h b hSb
      have er : rows' = rows := by rw [h1] at k1; cases k1; rfl
      have eo : olds' = olds := by
        have g1 := hg b olds' hSb k3
        rcases g1 with ⟨x1, x2⟩ | ⟨b1, c1, c1', x1, x2, _⟩
        · rcases h3' with ⟨y1, y2⟩ | ⟨b2, c2, c2', y1, y2, _⟩
          · rw [x2, y2]
          · rw [x1] at y1; cases y1
        · rcases h3' with ⟨y1, y2⟩ | ⟨b2, c2, c2', y1, y2, _⟩
          · rw [x1] at y1; cases y1
          · rw [x1] at y1
            simp only [PV.vec.injEq] at y1
            obtain ⟨rfl, _, _⟩ := y1
            rw [x2] at y2
            simp only [Option.some.injEq, MObj.rows.injEq, true_and, and_true] at y2
            exact y2.1
      subst er eo
      refine k6 p _ ⟨hr.grows.le (Heap.le_set hb), ?_, fun c hc => ?_⟩
      · rcases hr.own with h7 | ⟨b', h7, h8⟩
        · exact Or.inl h7
        · refine Or.inr ⟨b', h7, ?_⟩
          rw [set_apply, if_neg (fun e => hpb (by rw [h7, e]))]; exact h8
      · rw [set_apply, set_apply]
        split
        · rfl
        · exact hr.rest c hc
  | put t x y =>
    cases j with
    | pure =>
      obtain ⟨q, h1, b, off, cs, es, ty, h2, h3, h4, h5, h6, h7, h8⟩ := h
      exact ⟨b, off, cs, es, ty, h2, h3, h4, h5, h6, h7, q, h1, h8⟩
    | alloc _ _ => simp [OK.kind] at hn
    | app _ _ _ _ _ _ => simp [OK.kind] at hn
    | put _ _ _ => simp [OK.kind] at hn
    | call _ _ _ => simp [OK.kind] at hn
    | val q => exact (hjv q rfl).elim
    | eff => simp [OK.kind] at hn
    | ld _ _ => simp [OK.kind] at hn
  | call x as ts =>
    cases j with
    | pure =>
      obtain ⟨q, h1, g, fs, cs, Po, h2, h3, h4, h5, h6⟩ := h
      exact ⟨g, fs, cs, Po, h2, h3, h4, h5, fun p S' hp hf' => ⟨q, h1, h6 p S' hp hf'⟩⟩
    | alloc _ _ => simp [OK.kind] at hn
    | app _ _ _ _ _ _ => simp [OK.kind] at hn
    | put _ _ _ => simp [OK.kind] at hn
    | call _ _ _ => simp [OK.kind] at hn
    | val q => exact (hjv q rfl).elim
    | eff => simp [OK.kind] at hn
    | ld _ _ => simp [OK.kind] at hn
  | ld t x =>
    cases j with
    | pure =>
      obtain ⟨q, h1, b, off, cs, ty, p, h2, h3, h4, h5, h6⟩ := h
      exact ⟨b, off, cs, ty, p, h2, h3, h4, h5, q, h1, h6⟩
    | put _ _ _ => simp [OK.kind] at hn
    | call _ _ _ => simp [OK.kind] at hn
    | val q => exact (hjv q rfl).elim
    | eff => simp [OK.kind] at hn
    | ld t' x' =>
      obtain ⟨b', off', cs', ty', q, k1, k2, k3, k4, b, off, cs, ty, p, h2, h3, h4, h5, h6⟩ := h
      exact ⟨b, off, cs, ty, p, h2, h3, h4, h5, b', off', cs', ty', q, k1, k2, k3, k4, h6⟩
    | alloc t' cs' =>
      obtain ⟨B, hB⟩ := hf
      obtain ⟨b, off, cs, ty, p, h2, _⟩ := h B (hB B (Nat.le_refl _))
      have hB2 := hB (max B (b + 1)) (by omega)
      obtain ⟨b1, off1, cs1, ty1, p1, k2, k3, k4, k5, _⟩ := h _ hB2
      rw [h2] at k2
      simp only [PV.mp.injEq] at k2
      obtain ⟨rfl, rfl⟩ := k2
      rw [set_apply, if_neg (by omega)] at k3
      refine ⟨b, off, cs1, ty1, p1, h2, k3, k4, k5, fun b' hb' => ?_⟩
      obtain ⟨b2, off2, cs2, ty2, p2, j2, j3, j4, j5, j6⟩ := h b' hb'
      rw [h2] at j2
      simp only [PV.mp.injEq] at j2
      obtain ⟨rfl, rfl⟩ := j2
      have hne : b ≠ b' := fun e => by subst e; rw [k3] at hb'; cases hb'
      rw [set_apply, if_neg hne, k3] at j3
      simp only [Option.some.injEq, MObj.cells.injEq] at j3
      obtain ⟨rfl, rfl⟩ := j3
      rw [k5] at j5
      cases j5
      exact j6
    | app t' sz bytes e s x' =>
      obtain ⟨rows, olds, k1, k2, k3, k4, k5, k6⟩ := h
      obtain ⟨B, hB⟩ := hf
      have hr0 : AppRel sz e S (ev σ s) (olds ++ rows) (.vec B (olds ++ rows).length (olds ++ rows).length) (S.set B (.rows sz (olds ++ rows) (olds ++ rows).length e)) := by
        refine ⟨Or.inr ⟨B, _, _, rfl, by rw [set_apply, if_pos rfl], Nat.le_refl _, Nat.le_refl _⟩, Or.inr ⟨B, rfl, hB B (Nat.le_refl _)⟩, fun c hne => ?_⟩
        rw [set_apply, if_neg (fun h => hne (by rw [h]; rfl))]
      obtain ⟨b, off, cs, ty, p, h2, h3, h4, h5, _⟩ := k6 _ _ hr0
      have h3' := hr0.cells' h3
      refine ⟨b, off, cs, ty, p, h2, h3', h4, h5, rows, olds, k1, k2, k3, k4, k5, fun q S' hr => ?_⟩
      obtain ⟨b2, off2, cs2, ty2, p2, j2, j3, j4, j5, j6⟩ := k6 q S' hr
      rw [h2] at j2
      simp only [PV.mp.injEq] at j2
      obtain ⟨rfl, rfl⟩ := j2
      have j3' := hr.cells' j3
      rw [h3'] at j3'
      simp only [Option.some.injEq, MObj.cells.injEq] at j3'
      obtain ⟨rfl, rfl⟩ := j3'
      rw [h5] at j5
      cases j5
      exact j6

def RunR (P : Program) (ops : Array Oper) (D : Nat → OK) : List Nat → Regs → Heap → (Regs → Heap → Prop) → Prop
  | [], σ, S, K => K σ S
  | i :: L, σ, S, K => ∃ o, ops[i]? = some o ∧ RK P o (D i) σ S (fun p S' => RunR P ops D L (updO σ o.dst p) S' K)
structure Apart (P : Program) (ops : Array Oper) (D : Nat → OK) (j i : Nat) : Prop where
  okj : ∀ o, ops[j]? = some o → okFor P o (D j)
  oki : ∀ o, ops[i]? = some o → okFor P o (D i)
  dj : ∀ oj oi d, ops[j]? = some oj → ops[i]? = some oi → oj.dst = some d → d ∉ tmpsOf oi ∧ oi.dst ≠ some d
  di : ∀ oj oi d, ops[j]? = some oj → ops[i]? = some oi → oi.dst = some d → d ∉ tmpsOf oj
  kind : (D j).kind * (D i).kind < 3
theorem updO_ne {σ : Regs} {d : Option Tmp} {p : PV} {t : Tmp} (h : d ≠ some t) : updO σ d p t = σ t := by
  cases d with
  | none => rfl
  | some x =>
    simp only [updO, upd]
    rw [if_neg]
    intro e; exact h (by rw [e])
theorem updO_comm {σ : Regs} {d e : Option Tmp} {p q : PV} (h : ∀ x, d = some x → e ≠ some x) : updO (updO σ d p) e q = updO (updO σ e q) d p := by
  cases d with
  | none => rfl
  | some x =>
    cases e with
    | none => rfl
    | some y =>
      have hne : x ≠ y := fun e => h x rfl (by rw [e])
      funext t
      simp only [updO, upd]
      by_cases e1 : t = y
      · subst e1; rw [if_pos rfl, if_neg (fun e => hne e.symm), if_pos rfl]
      · rw [if_neg e1, if_neg e1]
theorem front {P : Program} {ops : Array Oper} {D : Nat → OK} {i : Nat} {post : List Nat} {K : Regs → Heap → Prop} : ∀ (pre : List Nat) (σ : Regs) (S : Heap), Fin' S → (∀ j ∈ pre, Apart P ops D j i) → RunR P ops D (pre ++ i :: post) σ S K →
    ∃ o, ops[i]? = some o ∧ RK P o (D i) σ S (fun p S' => RunR P ops D (pre ++ post) (updO σ o.dst p) S' K)
  | [], σ, S, hf, hp, h => h
  | j :: pre, σ, S, hf, hp, h => by
    obtain ⟨oj, hoj, h⟩ := h
    have ha := hp j (by simp)
    cases hoi : ops[i]? with
    | none =>
      obtain ⟨q, S', hq⟩ := (RK.mono (k' := fun q S' => Fin' S' ∧ RunR P ops D (pre ++ i :: post) (updO σ oj.dst q) S' K) h fun p S' hfs hk => ⟨hfs hf, hk⟩).some hf
      obtain ⟨o, ho, _⟩ := front pre _ S' hq.1 (fun j hj => hp j (by simp [hj])) hq.2
      rw [hoi] at ho; cases ho
    | some oi =>
      refine ⟨oi, rfl, ?_⟩
      have h1 : RK P oj (D j) σ S (fun q S' => RK P oi (D i) σ S' (fun p S'' => RunR P ops D (pre ++ post) (updO (updO σ oj.dst q) oi.dst p) S'' K)) := by
        refine h.mono fun q S' hfs hk => ?_
        obtain ⟨o, ho, h2⟩ := front pre _ S' (hfs hf) (fun j hj => hp j (by simp [hj])) hk
        rw [hoi] at ho; cases ho
        refine h2.congr (ha.oki _ hoi) fun t ht => ?_
        refine (updO_ne fun e => ?_).symm
        exact (ha.dj oj oi t hoj hoi e).1 ht
      refine (RK.swap hf ha.kind h1).mono fun p S' hfs hk => ?_
      refine ⟨oj, hoj, ?_⟩
      refine (RK.congr (ha.okj _ hoj) hk fun t ht => ?_).mono fun q S'' _ hk => ?_
      · exact updO_ne fun e => ha.di oj oi t hoj hoi e ht
      · rw [updO_comm (fun x hx => (ha.dj oj oi x hoj hoi hx).2)] at hk
        exact hk

def drawOkB (ops : Array Oper) (k0 : Nat) : Bool :=
  let m := (Region.before ops).toList
  let l := ops.toList
  k0 ≤ l.length && m.length == l.length &&
  l.zipIdx.all (fun (o, j) => m.getD j 0 == edgeMask m o && o.after.toList.all (fun e => !Region.binds .any e || decide (e.on < j))) &&
  l.zipIdx.all (fun (o, j) => l.zipIdx.all fun (u, i) => i == j || (match u.dst with
    | some d => !(namesOf ops o).contains d || (if i < j then (m.getD j 0).testBit i else (m.getD i 0).testBit j)
    | none => true)) &&
  (List.range l.length).all (fun j => decide (j < k0) || (List.range j).all fun i => (m.getD j 0).testBit i)

structure DrawOkB (ops : Array Oper) (k0 : Nat) (m : List Nat) : Prop where
  le : k0 ≤ ops.size
  mask : ∀ (j : Nat) (o : Oper), ops[j]? = some o → m.getD j 0 = edgeMask m o
  edge : ∀ (j : Nat) (o : Oper) (e : Edge), ops[j]? = some o → e ∈ o.after → Region.binds .any e = true → e.on < j
  names : ∀ (i j : Nat) (o : Oper) (d : Tmp), i ≠ j → ops[j]? = some o → dstAt ops i = some d → d ∈ namesOf ops o → (i < j → (m.getD j 0).testBit i = true) ∧ (j < i → (m.getD i 0).testBit j = true)
  forced : ∀ j i, k0 ≤ j → j < ops.size → i < j → (m.getD j 0).testBit i = true
theorem drawOk_specB {ops : Array Oper} {k0 : Nat} (h : drawOkB ops k0 = true) : DrawOkB ops k0 (Region.before ops).toList := by
  simp only [drawOkB, Bool.and_eq_true, decide_eq_true_eq, beq_iff_eq] at h
  obtain ⟨⟨⟨⟨h0, h1⟩, h2⟩, h3⟩, h4⟩ := h
  have mem : ∀ (j : Nat) (o : Oper), ops[j]? = some o → (o, j) ∈ ops.toList.zipIdx := fun j o ho => by
    rw [List.mem_zipIdx_iff_getElem?]; simpa using ho
  refine ⟨by simpa using h0, fun j o ho => ?_, fun j o e ho he hbe => ?_, fun i j o d hij ho hd hn => ?_, fun j i hk hj hi => ?_⟩
  · have := List.all_eq_true.1 h2 (o, j) (mem j o ho)
    simp at this
    simpa using this.1
  · have := List.all_eq_true.1 h2 (o, j) (mem j o ho)
    simp only [Bool.and_eq_true] at this
    have h := List.all_eq_true.1 this.2 e (by simpa using he)
    rw [hbe] at h
    simpa using h
  · unfold dstAt at hd
    cases hu : ops[i]? with
    | none => rw [hu] at hd; simp at hd
    | some u =>
      rw [hu] at hd; simp at hd
      have := List.all_eq_true.1 (List.all_eq_true.1 h3 (o, j) (mem j o ho)) (u, i) (mem i u hu)
      simp only [hd, Bool.or_eq_true, beq_iff_eq, Bool.not_eq_true'] at this
      rcases this with this | this
      · exact absurd this hij
      · rcases this with this | this
        · rw [List.contains_eq_mem] at this; simp at this; exact absurd hn this
        · refine ⟨fun hlt => ?_, fun hlt => ?_⟩
          · rw [if_pos hlt] at this; exact this
          · rw [if_neg (by omega)] at this; exact this
  · have := List.all_eq_true.1 h4 j (by simp; exact hj)
    simp only [Bool.or_eq_true, decide_eq_true_eq] at this
    rcases this with this | this
    · omega
    · exact List.all_eq_true.1 this i (by simp; exact hi)

theorem before_listedB {ops : Array Oper} {k0 : Nat} {m : List Nat} (hd : DrawOkB ops k0 m) {listed : Array Bool} (hc : Closed ops listed) : ∀ (j : Nat) (o : Oper) (i : Nat), ops[j]? = some o → (∀ e ∈ o.after, Region.binds .any e = true → listed.getD e.on false = true) → (m.getD j 0).testBit i = true → listed.getD i false = true := by
  intro j
  induction j using Nat.strongRecOn with
  | _ j ih =>
    intro o i ho he hb
    rw [hd.mask j o ho] at hb
    obtain ⟨e, h1, h2, h3⟩ := edgeMask_spec hb
    rcases h3 with rfl | h3
    · exact he e h1 h2
    · have hlt := hd.edge j o e ho h1 h2
      have hl := he e h1 h2
      have hjs : j < ops.size := (Array.getElem?_eq_some_iff.1 ho).1
      have hoe : ops[e.on]? = some ops[e.on] := Array.getElem?_eq_getElem (by omega)
      exact ih e.on hlt ops[e.on] i hoe (fun e' he' hb' => hc e.on _ hoe hl e' he' hb') h3

/-! How many are left -/
/-- The last operations, one behind the other. -/
theorem any_tailB {P : Program} {ops : Array Oper} {k0 : Nat} {m : List Nat} (hd : DrawOkB ops k0 m) {Q : Exit → Act → World → Prop} : ∀ (cnt j fuel : Nat) (listed : Array Bool) (a : Act) (w : World), listed.size = ops.size → (∀ i, i < ops.size → listed.getD i false = decide (i < j)) → k0 ≤ j → ops.size = j + cnt → cnt ≤ fuel →
    wpOps P ops Q (List.range' j cnt) a w → wpAny P .any ops Q fuel listed a w
  | 0, j, fuel, listed, a, w, hs, hl, hk, hj, hf, h => by
    have hr : Region.ready .any ops listed = [] := by
      apply List.eq_nil_iff_forall_not_mem.2
      intro i hi
      obtain ⟨h1, o, ho, _⟩ := mem_ready.1 hi
      have hlt : i < ops.size := (Array.getElem?_eq_some_iff.1 ho).1
      rw [getD_true_false (by omega), hl i hlt] at h1
      simp at h1; omega
    exact wpAny_done hr h fuel
  | cnt + 1, j, fuel, listed, a, w, hs, hl, hk, hj, hf, h => by
    obtain ⟨fuel, rfl⟩ : ∃ f, fuel = f + 1 := ⟨fuel - 1, by omega⟩
    have hc : Closed ops listed := by
      intro i o ho hli e he hb
      have hlt : i < ops.size := (Array.getElem?_eq_some_iff.1 ho).1
      have h1 := hd.edge i o e ho he hb
      rw [hl i hlt] at hli
      rw [hl e.on (by omega)]
      simp at hli ⊢; omega
    have hjr : j ∈ Region.ready .any ops listed := by
      refine mem_ready.2 ⟨by rw [getD_true_false (by omega), hl j (by omega)]; simp, ops[j], Array.getElem?_eq_getElem (by omega), fun e he hb => ?_⟩
      have h1 := hd.edge j ops[j] e (Array.getElem?_eq_getElem (by omega)) he hb
      rw [hl e.on (by omega)]; simpa using h1
    refine ⟨fun h0 => (by rw [h0] at hjr; cases hjr), fun i hi => ?_⟩
    have hij : i = j := by
      obtain ⟨h1, o, ho, h2⟩ := mem_ready.1 hi
      have hlt : i < ops.size := (Array.getElem?_eq_some_iff.1 ho).1
      rw [getD_true_false (by omega), hl i hlt] at h1
      simp at h1
      rcases Nat.lt_or_ge j i with h3 | h3
      · have := before_listedB hd hc i o j ho h2 (hd.forced i j (by omega) hlt h3)
        rw [hl j (by omega)] at this
        simp at this
      · omega
    subst hij
    rw [List.range'_succ, wpOps_cons] at h
    refine wpOp_mono (fun a w h' => any_tailB hd cnt (i + 1) fuel _ a w (by simpa using hs) (fun x hx => ?_) (by omega) (by omega) (by omega) h') h
    by_cases e : i = x
    · subst e; simp [hs, hx]
    · rw [getD_set_ne false e, hl x hx]
      by_cases h1 : x < i <;> simp [h1] <;> omega


/-- In whatever order. -/
theorem any_mixed {P : Program} {n : Nat} {ops : Array Oper} {D : Nat → OK} {k0 : Nat} {m : List Nat} (hd : DrawOkB ops k0 m)
    (hg : ∀ i o, i < k0 → ops[i]? = some o → o.guard = none ∧ okDst n o.dst = true ∧ okFor P o (D i))
    (hk2 : ∀ j i, j < i → i < k0 → (m.getD i 0).testBit j = false → (D j).kind * (D i).kind < 3)
    (hdd : ∀ j i oj oi d, j < i → i < k0 → ops[j]? = some oj → ops[i]? = some oi → oj.dst = some d → (m.getD i 0).testBit j = false → oi.dst ≠ some d)
    {Q : Post} {w0 : World} {S0 : Heap} :
    ∀ (fuel : Nat) (listed : Array Bool) (a : Act) (w : World) (σ : Regs) (S : Heap), listed.size = ops.size → Closed ops listed → left listed ops.size ≤ fuel → (∀ j, k0 ≤ j → j < ops.size → listed.getD j false = false) →
      St n w S a σ → Ext w0 S0 w S → RunR P ops D ((List.range k0).filter fun i => !listed.getD i false) σ S (fun σ S => AO P n ops (List.range' k0 (ops.size - k0)) σ S Q) → wpAny P .any ops (lift n w0 S0 Q) fuel listed a w := by
  have hempty : ∀ (listed : Array Bool), (∀ i, i < ops.size → listed.getD i false = decide (i < k0)) → ((List.range k0).filter fun i => !listed.getD i false) = [] := by
    intro listed h
    apply List.filter_eq_nil_iff.2
    intro i hi
    have hi' := List.mem_range.1 hi
    have := hd.le
    rw [h i (by omega)]; simp [hi']
  intro fuel
  induction fuel with
  | zero =>
    intro listed a w σ S hs hc hl hk hst hext hrun
    have hz := left_zero (Nat.le_zero.1 hl)
    have hk0 : k0 = ops.size := by
      rcases Nat.lt_or_ge k0 ops.size with h | h
      · have := hk k0 (Nat.le_refl _) h; rw [hz k0 h] at this; cases this
      · have := hd.le; omega
    have hall : ∀ i, i < ops.size → listed.getD i false = decide (i < k0) := fun i hi => by rw [hz i hi]; simp; omega
    rw [hempty listed hall] at hrun
    refine any_tailB hd 0 k0 0 listed a w hs hall (Nat.le_refl _) (by omega) (Nat.le_refl _) ?_
    have := hrun w0 S0 w a hst hext
    rwa [show ops.size - k0 = 0 by omega] at this
  | succ fuel ih =>
    intro listed a w σ S hs hc hl hk hst hext hrun
    by_cases hall : ∀ i, i < ops.size → listed.getD i false = decide (i < k0)
    · have hcnt : ops.size - k0 ≤ fuel + 1 := by
        have : ops.size - k0 ≤ left listed ops.size := by
          have aux : ∀ m, m ≤ ops.size → m - k0 ≤ left listed m := by
            intro m
            induction m with
            | zero => intro _; simp
            | succ m ihm =>
              intro hm
              simp only [left]
              have := ihm (by omega)
              by_cases h1 : k0 ≤ m
              · rw [hk m h1 (by omega)]; simp; omega
              · omega
          exact aux ops.size (Nat.le_refl _)
        omega
      rw [hempty listed hall] at hrun
      refine any_tailB hd (ops.size - k0) k0 (fuel + 1) listed a w hs hall (Nat.le_refl _) (by have := hd.le; omega) hcnt ?_
      exact hrun w0 S0 w a hst hext
    · have hnf : ∃ i, i < k0 ∧ listed.getD i false = false := by
        apply Classical.byContradiction
        intro hno
        apply hall
        intro i hi
        by_cases h1 : i < k0
        · have : ¬ listed.getD i false = false := fun h => hno ⟨i, h1, h⟩
          simp at this; simp [this, h1]
        · rw [hk i (by omega) hi]; simp [h1]
      refine ⟨fun h0 => ?_, fun j hj => ?_⟩
      · exfalso
        obtain ⟨i, hi, hli⟩ := hnf
        have hpos : 0 < left listed ops.size := by
          rcases Nat.eq_zero_or_pos (left listed ops.size) with h | h
          · have := left_zero h i (by have := hd.le; omega); rw [hli] at this; cases this
          · exact h
        obtain ⟨x, hx, hlx, hbx⟩ := left_pos hpos
        have : x ∈ Region.ready .any ops listed := by
          refine mem_ready.2 ⟨by rw [getD_true_false (by omega)]; exact hlx, ops[x], Array.getElem?_eq_getElem hx, fun e he hb => ?_⟩
          exact hbx e.on (hd.edge x ops[x] e (Array.getElem?_eq_getElem hx) he hb)
        rw [h0] at this; cases this
      · obtain ⟨hjl, o, ho, hje⟩ := mem_ready.1 hj
        have hjs : j < ops.size := (Array.getElem?_eq_some_iff.1 ho).1
        have hjl' : listed.getD j false = false := by rw [← getD_true_false (by omega)]; exact hjl
        have hjk : j < k0 := by
          rcases Nat.lt_or_ge j k0 with h | h
          · exact h
          · obtain ⟨i, hi, hli⟩ := hnf
            have := before_listedB hd hc j o i ho hje (hd.forced j i h hjs (by omega))
            rw [hli] at this; cases this
        have hsplit : List.range k0 = List.range j ++ j :: List.range' (j + 1) (k0 - (j + 1)) := by
          have : k0 = j + (k0 - j) := by omega
          conv => lhs; rw [this]
          rw [List.range_eq_range', ← List.range'_append, ← List.range_eq_range']
          have h1 : k0 - j = (k0 - (j + 1)) + 1 := by omega
          rw [h1, List.range'_succ]
          simp
        have hL : ∀ (l2 : Array Bool), l2.getD j false = false → ((List.range k0).filter fun i => !l2.getD i false) = ((List.range j).filter fun i => !l2.getD i false) ++ j :: ((List.range' (j + 1) (k0 - (j + 1))).filter fun i => !l2.getD i false) := by
          intro l2 h
          rw [hsplit, List.filter_append, List.filter_cons, h]; rfl
        have hL2 : ((List.range k0).filter fun i => !(listed.setIfInBounds j true).getD i false) = ((List.range j).filter fun i => !listed.getD i false) ++ ((List.range' (j + 1) (k0 - (j + 1))).filter fun i => !listed.getD i false) := by
          rw [hsplit, List.filter_append, List.filter_cons]
          have h1 : (listed.setIfInBounds j true).getD j false = true := by simp [hs, hjs]
          rw [h1]
          simp only [Bool.not_true, Bool.false_eq_true, if_false]
          congr 1
          · refine List.filter_congr fun i hi => ?_
            have := List.mem_range.1 hi
            rw [getD_set_ne false (by omega)]
          · refine List.filter_congr fun i hi => ?_
            have := (List.mem_range'_1.1 hi).1
            rw [getD_set_ne false (by omega)]
        rw [hL listed hjl'] at hrun
        have hfin : Fin' S := ⟨w.heap.size, fun b hb => not_im_new hst.heap hb⟩
        obtain ⟨o', ho', hrk⟩ := front _ σ S hfin (fun x hx => by
          obtain ⟨hx1, hx2⟩ := List.mem_filter.1 hx
          have hxj := List.mem_range.1 hx1
          have hxl : listed.getD x false = false := by simpa using hx2
          have hnb : (m.getD j 0).testBit x = false := by
            cases hb : (m.getD j 0).testBit x with
            | false => rfl
            | true => have := before_listedB hd hc j o x ho hje hb; rw [hxl] at this; cases this
          refine ⟨fun ox hox => (hg x ox (by omega) hox).2.2, fun oi hoi => (hg j oi hjk hoi).2.2, fun oj oi d h1 h2 h3 => ⟨fun h4 => ?_, ?_⟩, fun oj oi d h1 h2 h3 h4 => ?_, hk2 x j hxj hjk hnb⟩
          · have hdn := (hd.names x j oi d (by omega) h2 (by simp [dstAt, h1, h3]) (by unfold namesOf; simp [h4])).1 hxj
            rw [hdn] at hnb; cases hnb
          · exact hdd x j oj oi d hxj hjk h1 h2 h3 hnb
          · have hdn := (hd.names j x oj d (by omega) h1 (by simp [dstAt, h2, h3]) (by unfold namesOf; simp [h4])).2 hxj
            rw [hdn] at hnb; cases hnb) hrun
        rw [ho] at ho'; cases ho'
        obtain ⟨g1, g2, g3⟩ := hg j o hjk ho
        unfold wpOp
        simp only [ho]
        rw [if_pos (by simp [Region.wanted, g1])]
        refine Or.inl ?_
        have hop := RK.sound (K := fun σ' S' => RunR P ops D (((List.range j).filter fun i => !listed.getD i false) ++ ((List.range' (j + 1) (k0 - (j + 1))).filter fun i => !listed.getD i false)) σ' S' (fun σ S => AO P n ops (List.range' k0 (ops.size - k0)) σ S Q)) (n := n) g3 g2 hrk
        refine hop w0 S0 w a hst hext _ _ fun a' w' σ' S' h1 h2 h3 => ?_
        refine ih (listed.setIfInBounds j true) a' w' σ' S' (by simpa using hs) ?_ ?_ ?_ h1 h2 (by rw [hL2]; exact h3)
        · intro i oi hoi hli e he hb
          by_cases hij : j = i
          · subst hij; rw [ho] at hoi; injection hoi with hoi; subst hoi
            exact getD_set_true (hje e he hb)
          · rw [getD_set_ne false hij] at hli
            exact getD_set_true (hc i oi hoi hli e he hb)
        · have := (left_set hjl' (by omega) ops.size).2 hjs
          omega
        · intro i h1 h2
          rw [getD_set_ne false (by omega)]; exact hk i h1 h2

/-- The operations of a drawn region, told one behind the other. -/
def RunL (P : Program) : List (Oper × OK) → Regs → Heap → (Regs → Heap → Prop) → Prop
  | [], σ, S, K => K σ S
  | x :: L, σ, S, K => RK P x.1 x.2 σ S (fun p S' => RunL P L (updO σ x.1.dst p) S' K)
theorem RunL_R {P : Program} {ops : Array Oper} {D : List OK} {K K' : Regs → Heap → Prop} (hK : ∀ σ S, K σ S → K' σ S) : ∀ (c k : Nat) (σ : Regs) (S : Heap), k + c ≤ ops.size → k + c = D.length → RunL P (((ops.toList.zip D).drop k).take c) σ S K → RunR P ops (fun i => D.getD i .pure) (List.range' k c) σ S K'
  | 0, k, σ, S, h1, h2, h => by simp only [List.take_zero, RunL] at h; exact hK _ _ h
  | c + 1, k, σ, S, h1, h2, h => by
    have ho : ops[k]? = some ops[k] := Array.getElem?_eq_getElem (by omega)
    have hD : D[k]? = some (D.getD k .pure) := by rw [List.getD_eq_getElem?_getD, List.getElem?_eq_getElem (by omega)]; rfl
    have hz : (ops.toList.zip D)[k]? = some (ops[k], D.getD k .pure) := by
      rw [List.getElem?_zip_eq_some]
      exact ⟨by simpa using ho, hD⟩
    obtain ⟨hlt, hx⟩ := List.getElem?_eq_some_iff.1 hz
    rw [List.drop_eq_getElem_cons hlt, List.take_succ_cons, hx] at h
    simp only [RunL] at h
    rw [List.range'_succ]
    exact ⟨_, ho, h.mono fun p S' _ hk => RunL_R hK c (k + 1) _ S' (by omega) (by omega) hk⟩
/-- What of the operations can be decided once and for all. -/
def anyOk (n : Nat) (ops : Array Oper) (D : List OK) : Bool :=
  let m := (Region.before ops).toList
  let l := ops.toList
  (List.range D.length).all fun i => match l[i]? with
    | none => false
    | some o => o.guard.isNone && okDst n o.dst && (List.range i).all fun j => (m.getD i 0).testBit j || (decide ((D.getD j .pure).kind * (D.getD i .pure).kind < 3) && (match l[j]? with
      | some oj => match oj.dst with
        | some d => o.dst != some d
        | none => true
      | none => true))
def okAll (P : Program) : List Oper → List OK → Prop
  | o :: os, d :: ds => okFor P o d ∧ okAll P os ds
  | _, _ => True
theorem okAll_get {P : Program} : ∀ {os : List Oper} {ds : List OK} {i : Nat} {o : Oper}, okAll P os ds → os[i]? = some o → i < ds.length → okFor P o (ds.getD i .pure)
  | [], ds, i, o, _, h, _ => by simp at h
  | o :: os, [], i, x, _, _, h => by simp at h
  | o :: os, d :: ds, 0, x, h, hx, _ => by simp at hx; subst hx; exact h.1
  | o :: os, d :: ds, i + 1, x, h, hx, hl => by
    have := okAll_get h.2 (i := i) (o := x) (by simpa using hx) (by simpa using hl)
    simpa using this
theorem CodeW_any {P : Program} {n : Nat} {mb : Tmp → Bool} {R : Post} {k : List It} {σ : Regs} {S : Heap} {id : Nat} {ops : Array Oper} (hm : P.follows .mixedOrders = true) (D : List OK) (hok : drawOkB ops D.length = true) (hany : anyOk n ops D = true) (hf : okAll P ops.toList D)
    (h : RunL P (ops.toList.zip D) σ S (fun σ' S' => W P n mb R (.ops (dstsOf ops) (ops.toList.drop D.length) :: k) σ' S')) : CodeW P n mb R (.region id ops true) k σ S := by
  have hd := drawOk_specB hok
  have hle := hd.le
  simp only [anyOk, List.all_eq_true, List.mem_range] at hany
  have hone : ∀ i o, i < D.length → ops[i]? = some o → o.guard = none ∧ okDst n o.dst = true ∧ ∀ j, j < i → ((Region.before ops).toList.getD i 0).testBit j = false → (D.getD j .pure).kind * (D.getD i .pure).kind < 3 ∧ ∀ oj d, ops[j]? = some oj → oj.dst = some d → o.dst ≠ some d := by
    intro i o hi ho
    have h1 := hany i hi
    have ho' : ops.toList[i]? = some o := by simpa using ho
    rw [ho'] at h1
    simp only [Bool.and_eq_true, List.all_eq_true, List.mem_range, Bool.or_eq_true] at h1
    obtain ⟨⟨h2, h3⟩, h4⟩ := h1
    refine ⟨by simpa using h2, h3, fun j hj hb => ?_⟩
    rcases h4 j hj with h5 | h5
    · rw [hb] at h5; cases h5
    · obtain ⟨h6, h7⟩ := h5
      refine ⟨of_decide_eq_true h6, fun oj d hoj hdj => ?_⟩
      have hoj' : ops.toList[j]? = some oj := by simpa using hoj
      rw [hoj'] at h7
      simp only [hdj] at h7
      simpa using h7
  have hzip : ((ops.toList.zip D).drop 0).take D.length = ops.toList.zip D := by
    rw [List.drop_zero]
    exact List.take_of_length_le (by rw [List.length_zip]; exact Nat.min_le_right _ _)
  have hrun := RunL_R (P := P) (ops := ops) (D := D) (K := fun σ' S' => W P n mb R (.ops (dstsOf ops) (ops.toList.drop D.length) :: k) σ' S') (K' := fun σ' S' => AO P n ops (List.range' D.length (ops.size - D.length)) σ' S' (kont P n mb R k)) (fun σ' S' hw => by
    have := W_sound _ _ _ hw
    have h2 := AO_run (P := P) (n := n) (mb := mb) (ops := ops) (Q := kont P n mb R k) (ops.toList.drop D.length) D.length σ' S' rfl this
    simpa using h2) D.length 0 σ S (by omega) (by omega) (by rw [hzip]; exact h)
  intro w0 S0 w a hst hext
  refine wp_region_any hm ?_
  have hrep : ∀ i, (Array.replicate ops.size false).getD i false = false := fun i => by
    simp only [Array.getD_eq_getD_getElem?, Array.getElem?_replicate]; split <;> rfl
  refine any_mixed hd (D := fun i => D.getD i .pure) (n := n) (fun i o hi ho => ⟨(hone i o hi ho).1, (hone i o hi ho).2.1, okAll_get hf (by simpa using ho) hi⟩) (fun j i hj hi hb => ?_) (fun j i oj oi d hj hi hoj hoi hdj hb => ((hone i oi hi hoi).2.2 j hj hb).2 oj d hoj hdj) ops.size _ a _ σ S (by simp) ?_ ?_ (fun j _ _ => hrep j) (drew_st hst) (drew_ext hext) ?_
  · exact ((hone i ops[i] hi (Array.getElem?_eq_getElem (by omega))).2.2 j hj hb).1
  · intro j o ho hlj
    rw [hrep] at hlj; cases hlj
  · have : ∀ m, left (Array.replicate ops.size false) m ≤ m := by
      intro m
      induction m with
      | zero => simp [left]
      | succ m ih => simp only [left]; split <;> omega
    exact this _
  · have hfil : ((List.range D.length).filter fun i => !(Array.replicate ops.size false).getD i false) = List.range' 0 D.length := by
      rw [List.range_eq_range']
      exact List.filter_eq_self.2 fun i _ => by rw [hrep]; rfl
    rw [hfil]
    exact hrun

/-! for simp -/
def rdo (P : Program) (o : Oper) (L : List (Oper × OK)) (σ : Regs) (S : Heap) (K : Regs → Heap → Prop) : Option PV → Prop
  | some p => RunL P L (updO σ o.dst p) S K
  | none => False
section
variable {P : Program} {o : Oper} {L : List (Oper × OK)} {σ : Regs} {S : Heap} {K : Regs → Heap → Prop}
theorem RunL_nilE : RunL P [] σ S K = K σ S := rfl
theorem RunL_pureE : RunL P ((o, .pure) :: L) σ S K = rdo P o L σ S K (evalOp P σ o.op) := by
  simp only [RunL, RK]
  cases evalOp P σ o.op with
  | none => simp [rdo]
  | some p => simp [rdo]
theorem rdo_some {p : PV} : rdo P o L σ S K (some p) = RunL P L (updO σ o.dst p) S K := rfl
theorem RunL_alloc {t : TypeId} {cs : List PV} (h : ∀ b, S b = none → RunL P L (updO σ o.dst (.mp b 0)) (S.set b (.cells cs t)) K) : RunL P ((o, .alloc t cs) :: L) σ S K := h
theorem RunL_app {t e : TypeId} {sz bytes : Nat} {s x : Operand} {rows olds : List (List PV)} {ps : PV} (hx : elemsOf Heap.none sz (ev σ x) = some rows) (h1 : ∀ r ∈ rows, ∀ c ∈ r, c.isOne = true) (hs : ev σ s = ps) (hg : Grows S sz e olds ps) (h63 : olds.length + rows.length ≤ maxLen) (hb : (olds.length + rows.length) * bytes ≤ 140737488355328)
    (h : ∀ p S', AppRel sz e S ps (olds ++ rows) p S' → RunL P L (updO σ o.dst p) S' K) : RunL P ((o, .app t sz bytes e s x) :: L) σ S K := by
  subst hs
  exact ⟨rows, olds, hx, h1, hg, h63, hb, h⟩
theorem RunL_put {t : TypeId} {x y : Operand} {b off : Nat} {cs es : List PV} {ty : TypeId} (hx : ev σ x = .mp b off) (hb : S b = some (.cells cs ty)) (hc : cellsOf (ev σ y) = some es) (h1 : es.all PV.isOne = true) (hsz : (P.info? t).map (·.size) = some es.length) (hle : off + es.length ≤ cs.length)
    (h : RunL P L (updO σ o.dst .any) (S.set b (.cells (splice cs off es) ty)) K) : RunL P ((o, .put t x y) :: L) σ S K := ⟨b, off, cs, es, ty, hx, hb, hc, h1, hsz, hle, h⟩
theorem RunL_ld {t : TypeId} {x : Operand} {b off : Nat} {cs : List PV} {ty : TypeId} {p : PV} (hx : ev σ x = .mp b off) (hb : S b = some (.cells cs ty)) (hle : off ≤ cs.length) (hl : loadPV P t (cs.drop off) = some p) (h : RunL P L (updO σ o.dst p) S K) : RunL P ((o, .ld t x) :: L) σ S K := ⟨b, off, cs, ty, p, hx, hb, hle, hl, h⟩
theorem RunL_val {p : PV} (hv : ∀ S', QV P o σ S' p) (h : RunL P L (updO σ o.dst p) S K) : RunL P ((o, .val p) :: L) σ S K := ⟨hv, h⟩
theorem RunL_eff {Po : PV → Heap → Prop} (he : Eff P o σ S Po) (hin : Fin' S → ∃ p S', Po p S' ∧ Fin' S') (h : ∀ p S', Po p S' → RunL P L (updO σ o.dst p) S' K) : RunL P ((o, .eff) :: L) σ S K := ⟨Po, he, hin, fun p S' hp _ => h p S' hp⟩
theorem RunL_call {x : Operand} {as : Array Operand} {ts : Array TypeId} {g : FuncId} {fs cs ps : List PV} {Po : PV → Heap → Prop} (hx : ev σ x = .fn (.func g) fs cs) (hps : fs ++ as.toList.map (ev σ) ++ cs = ps) (hg : callable P g = true) (hc : CallsA P g ps S Po) (hin : ∃ p S', Po p S' ∧ (Fin' S → Fin' S'))
    (h : ∀ p S', Po p S' → RunL P L (updO σ o.dst p) S' K) : RunL P ((o, .call x as ts) :: L) σ S K := ⟨g, fs, cs, Po, hx, hg, by rw [hps]; exact hc, hin, fun p S' hp _ => h p S' hp⟩
end
@[congr] theorem RunL_keep (P : Program) (L : List (Oper × OK)) {σ σ' : Regs} (S : Heap) (K : Regs → Heap → Prop) (h : σ = σ') : RunL P L σ S K = RunL P L σ' S K := by rw [h]
@[congr] theorem rdo_keep (P : Program) (o : Oper) (L : List (Oper × OK)) (σ : Regs) (S : Heap) (K : Regs → Heap → Prop) {x y : Option PV} (h : x = y) : rdo P o L σ S K x = rdo P o L σ S K y := by rw [h]
attribute [go_sem] RunL_nilE RunL_pureE rdo_some
attribute [irreducible] rdo

/-! A slice that was made and is kept in a variable: from now on it is told by its rows. -/
theorem OpA_after {P : Program} {n : Nat} {o : Oper} {σ : Regs} {S : Heap} {K : Regs → Heap → Prop} (h : OpA P n o σ S (fun σ1 S1 => ∃ σ2 S2, Weak n σ1 S1 σ2 S2 ∧ K σ2 S2)) : OpA P n o σ S K := by
  intro w0 S0 w a hs he next Qx hn
  refine h w0 S0 w a hs he next Qx fun a' w' σ1 S1 h1 h2 ⟨σ2, S2, hw, hk⟩ => ?_
  obtain ⟨k1, k2⟩ := hw w' a' h1
  exact hn a' w' σ2 S2 k1 (h2.trans k2) hk
def frz (S : Heap) (c : Nat) (p q : PV) (ty : TypeId) : Heap := fun z => if z = c then some (.cells [q] ty) else if ownB p = some z then none else S z
theorem frz_at {S : Heap} {c : Nat} {p q : PV} {ty : TypeId} : frz S c p q ty c = some (.cells [q] ty) := by unfold frz; rw [if_pos rfl]
theorem frz_le {B S : Heap} {c : Nat} {p q : PV} {ty : TypeId} (h : B.le S) (hc : B c = none) (ho : ∀ b, ownB p = some b → B b = none) : B.le (frz S c p q ty) := by
  intro z x hz
  unfold frz
  rw [if_neg (fun e => by subst e; rw [hc] at hz; cases hz), if_neg (fun e => by rw [ho z e] at hz; cases hz)]
  exact h z x hz
theorem frz_weak {n : Nat} {σ : Regs} {S : Heap} {c sz : Nat} {e ty : TypeId} {p : PV} {rows : List (List PV)} (hg : Grows S sz e rows p) (hc : S c = some (.cells [p] ty)) (hne : ownB p ≠ some c) : Weak n σ S σ (frz S c p (.slice sz rows) ty) := by
  intro w a hst
  have him : ∀ b, S.im b → (frz S c p (.slice sz rows) ty).im b := by
    intro b hb
    show frz S c p (.slice sz rows) ty b = none
    unfold frz
    have hb' : S b = none := hb
    rw [if_neg (fun e => by subst e; rw [hc] at hb'; cases hb')]
    split
    · rfl
    · exact hb'
  have hK : Keeps w w S.im (frz S c p (.slice sz rows) ty).im := ⟨Nat.le_refl _, fun b _ hi => ⟨him b hi, rfl⟩⟩
  refine ⟨⟨hst.size, hst.defers, fun t => Rep.keep hK _ (hst.regs t), fun b o hb => ?_⟩, ⟨rfl, rfl, rfl, Nat.le_refl _, fun b _ hi => ⟨him b hi, rfl⟩⟩⟩
  unfold frz at hb
  split at hb
  · rename_i e
    subst e
    cases hb
    obtain ⟨arr, h1, h2⟩ := hst.heap _ _ hc
    refine ⟨arr, h1, ?_⟩
    cases hal : arr.toList with
    | nil => rw [hal] at h2; simp [RepVals] at h2
    | cons v r =>
      rw [hal, repVals_cons] at h2
      refine repVals_cons.2 ⟨?_, RepVals.keep hK _ h2.2⟩
      have hle : Heap.le (fun z => if ownB p = some z then none else S z) S := by
        intro z x hz
        simp only at hz
        split at hz
        · cases hz
        · exact hz
      have := grows_freeze (S := fun z => if ownB p = some z then none else S z) hst.heap hle (fun b hb => by simp only [hb, if_true]) hg (rowsW_refl rows) h2.1
      refine Rep.keep ⟨Nat.le_refl _, fun z _ hz => ⟨?_, rfl⟩⟩ _ this
      have hz' : (if ownB p = some z then none else S z) = none := hz
      show frz S _ p (.slice sz rows) ty z = none
      unfold frz
      rw [if_neg (fun e => by
        subst e
        rw [if_neg hne, hc] at hz'
        cases hz')]
      exact hz'
  · split at hb
    · cases hb
    · exact (hst.heap b o hb).keep hK rfl
theorem OpW_putF {P : Program} {n : Nat} {mb : Tmp → Bool} {R : Post} {k : List It} {σ : Regs} {S : Heap} {ds : List (Option Tmp)} {l : List Oper} {t : TypeId} {x y : Operand} {b sz : Nat} {p0 p : PV} {ty e : TypeId} {rows : List (List PV)} {o : Oper} (ho : o.op = .store t x y) (hx : ev σ x = .mp b 0) (hb : S b = some (.cells [p0] ty)) (hc : cellsOf (ev σ y) = some [p])
    (hsz : (P.info? t).map (·.size) = some 1) (hd : okDst n o.dst = true) (hg : Grows S sz e rows p) (hne : ownB p ≠ some b)
    (hK : W P n mb R (.ops ds l :: k) (updO σ o.dst .any) (frz (S.set b (.cells [p] ty)) b p (.slice sz rows) ty)) : OpW P n mb R o ds l k σ S := by
  cases hi : P.info? t with
  | none => rw [hi] at hsz; cases hsz
  | some inf =>
    rw [hi] at hsz
    simp only [Option.map_some, Option.some.injEq] at hsz
    have hg' : Grows (S.set b (.cells [p] ty)) sz e rows p := by
      rcases hg with h | ⟨b', cap, cap', h1, h2, h3, h4⟩
      · exact Or.inl h
      · refine Or.inr ⟨b', cap, cap', h1, ?_, h3, h4⟩
        rw [set_apply, if_neg (fun e => hne (by rw [h1, e]; rfl))]
        exact h2
    have hW : Weak n (updO σ o.dst .any) (S.set b (.cells [p] ty)) (updO σ o.dst .any) (frz (S.set b (.cells [p] ty)) b p (.slice sz rows) ty) := frz_weak hg' (by rw [set_apply, if_pos rfl]) hne
    exact OpW_of (OpA_after (OpA_store ho hx hb hc (grows_one hg).2 hi hsz (Nat.le_refl _) (okDst_spec hd) ⟨_, _, hW, hK⟩))

theorem AppRel.le {sz : Nat} {e : TypeId} {B S S' : Heap} {ps p : PV} {rows : List (List PV)} (h : AppRel sz e S ps rows p S') (hle : B.le S) (hown : ∀ b, ownB ps = some b → B b = none) : B.le S' ∧ ∀ b, ownB p = some b → B b = none :=
  grow_le hle hown h.own fun c y hc hne => by rw [h.rest c hne]; exact hc
theorem grows_own_ne {S : Heap} {sz c : Nat} {e : TypeId} {rows : List (List PV)} {p : PV} (h : Grows S sz e rows p) (hc : S c = none) : ownB p ≠ some c := by
  rcases h with ⟨rfl, _⟩ | ⟨b, cap, cap', rfl, h2, _⟩
  · simp [ownB]
  · simp only [ownB, ne_eq, Option.some.injEq]
    intro e; subst e; rw [hc] at h2; cases h2

end Go.Proofs.Ytcbonfgkfiapaaa.Pv
