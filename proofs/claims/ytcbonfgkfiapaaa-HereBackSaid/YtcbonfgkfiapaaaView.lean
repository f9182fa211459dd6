/- Reading a slice of the call's own as if it were none's. -/
import Derived.Test.YtcbonfgkfiapaaaGrow
set_option linter.unusedVariables false
set_option linter.unusedSimpArgs false
namespace Go.Proofs.Ytcbonfgkfiapaaa.Pv
open Go Go.RowKit

def view (S : Heap) : PV → PV
  | .vec b n cap => match S b with
    | some (.rows sz rs cap' _) => if n ≤ rs.length ∧ n ≤ cap ∧ cap ≤ cap' then .slice sz (rs.take n) else .vec b n cap
    | _ => .vec b n cap
  | .sl0 => .slice 1 []
  | p => p
theorem keeps_none (w : World) (S : Heap) : Keeps w w S.im Heap.none.im := ⟨Nat.le_refl _, fun _ _ _ => ⟨rfl, rfl⟩⟩
theorem rep_view {w : World} {S : Heap} (hh : ∀ b o, S b = some o → Holds w S.im b o) {p : PV} {v : Value} (h : Rep w S.im p v) : Rep w Heap.none.im (view S p) v := by
  unfold view
  split
  · rename_i b n cap
    split
    · rename_i sz rs cap' ty hb
      split
      · rename_i hc
        obtain ⟨h1, h2, h3⟩ := hc
        obtain ⟨arr, a1, a2, a3, a4, a5⟩ := hh b _ hb
        simp only [Rep] at h ⊢
        subst h
        refine ⟨_, cap, by rw [List.length_take, Nat.min_eq_left h1], by rw [List.length_take]; omega, by omega, Or.inr ⟨b, 0, rfl, rfl, (hh b _ hb).lt, ?_⟩⟩
        exact RepRows.rows_keep (keeps_none w S) rfl 0 sz _ (repRows_take n a5)
      · simp only [Rep] at h ⊢; exact h
    · simp only [Rep] at h ⊢; exact h
  · simp only [Rep] at h ⊢
    obtain ⟨a, rfl⟩ := h
    exact ⟨a, 0, rfl, Nat.le_refl 0, Nat.zero_le _, Or.inl trivial⟩
  · exact Rep.keep (keeps_none w S) _ h
def PV.plain : PV → Bool
  | .bool _ => true
  | .int _ _ => true
  | .str _ => true
  | .nilp => true
  | .nilfn => true
  | .nilif => true
  | _ => false
theorem rep_plain {w w' : World} {im im' : Nat → Prop} {p : PV} {v : Value} (hp : p.plain = true) (h : Rep w im p v) : Rep w' im' p v := by
  cases p <;> simp only [PV.plain, reduceCtorEq] at hp <;> (simp only [Rep] at h ⊢; exact h)
def vreg (S : Heap) (σ : Regs) : Regs := fun t => view S (σ t)
theorem ev_vreg (S : Heap) (σ : Regs) (t : Tmp) : ev (vreg S σ) (.tmp t) = view S (σ t) := rfl
theorem ev_vconst (S : Heap) (σ : Regs) (v : Value) : ev (vreg S σ) (.const v) = ev σ (.const v) := rfl
theorem view_sound {P : Program} {n : Nat} {w : World} {S : Heap} {a : Act} {σ : Regs} (h : St n w S a σ) {o : Oper} {p : PV} (he : evalOp P (vreg S σ) o.op = some p) (hp : p.plain = true) : GivesN P (execOp a.eval o) w S p := by
  have h' : St n w Heap.none a (vreg S σ) := ⟨h.size, h.defers, fun t => rep_view h.heap (h.regs t), fun b o hb => by cases hb⟩
  obtain ⟨v, w', h1, h2, h3, h4⟩ := evalOp_sound h' he
  have hx : Ext w S w' S := ⟨h3.os, h3.tape, h3.output, h3.size, fun b hb hs => ⟨hs, (h3.kept b hb rfl).2⟩⟩
  exact ⟨v, w', h1, rep_plain hp h2, hx, fun b o hb => (h.heap b o hb).keep hx.keeps (h3.kept b (h.heap b o hb).lt rfl).2⟩

section
variable {P : Program} {n : Nat} {mb : Tmp → Bool} {R : Post} {σ : Regs} {S : Heap}
theorem OpA_view {o : Oper} {K : Regs → Heap → Prop} {p : PV} (he : evalOp P (vreg S σ) o.op = some p) (hp : p.plain = true) (hd : ∀ x, o.dst = some x → x < n) (hK : K (updO σ o.dst p) S) : OpA P n o σ S K := by
  intro w0 S0 w a hs hx next Qx hnext
  obtain ⟨v, w', h1, h2, h3, h4⟩ := view_sound hs he hp
  simp only [Oper.wp, h1, Oper.upon]
  exact hnext _ w' _ S ((hs.ext h3 h4).put hd h2) (hx.trans h3) hK
theorem OpW_view {o : Oper} {ds : List (Option Tmp)} {l : List Oper} {k : List It} {p : PV} (he : evalOp P (vreg S σ) o.op = some p) (hp : p.plain = true) (hd : okDst n o.dst = true) (hK : W P n mb R (.ops ds l :: k) (updO σ o.dst p) S) : OpW P n mb R o ds l k σ S :=
  OpW_of (OpA_view he hp (okDst_spec hd) hK)
theorem QC_view {o : Oper} {K : PV → Prop} {p : PV} (he : evalOp P (vreg S σ) o.op = some p) (hp : p.plain = true) (hK : K p) : QC P o σ S K := by
  refine ⟨p, ?_, hK⟩
  intro n σ' w a hag hs next Qx hn
  have e : evalOp P (vreg S σ') o.op = some p := by
    rw [← he]
    refine evalOp_congr fun x hx => ?_
    have := ev_congr hag x hx
    cases x with
    | tmp t => exact congrArg (view S) this
    | _ => exact this
  obtain ⟨v, w', h1, h2, h3, h4⟩ := view_sound hs e hp
  simp only [Oper.wp, h1, Oper.upon]
  exact hn v w' h2 h3 h4
theorem QCW_view {o : Oper} {ds : List (Option Tmp)} {q tail : List Oper} {k : List It} {p : PV} (he : evalOp P (vreg S σ) o.op = some p) (hp : p.plain = true) (hK : QW P n mb R ds q tail k (updO σ o.dst p) S) : QCW P n mb R o ds q tail k σ S := by
  unfold QCW
  exact QC_view he hp hK
theorem OpW_store {ds : List (Option Tmp)} {l : List Oper} {k : List It} {t : TypeId} {x y : Operand} {b off : Nat} {cs es : List PV} {ty : TypeId} {inf : TypeInfo} {o : Oper} (ho : o.op = .store t x y) (hx : ev σ x = .mp b off) (hb : S b = some (.cells cs ty)) (hc : cellsOf (ev σ y) = some es)
    (h1 : es.all PV.isOne = true) (hi : P.info? t = some inf) (hsz : inf.size = es.length) (hle : off + es.length ≤ cs.length) (hd : okDst n o.dst = true)
    (hK : W P n mb R (.ops ds l :: k) (updO σ o.dst .any) (S.set b (.cells (splice cs off es) ty))) : OpW P n mb R o ds l k σ S :=
  OpW_of (OpA_store ho hx hb hc h1 hi hsz hle (okDst_spec hd) hK)
theorem OpW_boxM {ds : List (Option Tmp)} {l : List Oper} {k : List It} {o : Oper} {t : TypeId} {x : Operand} {cs : List PV} (ho : o.op = .box t x) (hc : cellsOf (ev σ x) = some cs) (hd : okDst n o.dst = true)
    (hK : ∀ b, S b = none → W P n mb R (.ops ds l :: k) (updO σ o.dst (.mp b 0)) (S.set b (.cells cs t))) : OpW P n mb R o ds l k σ S :=
  OpW_of (OpA_boxM ho hc (okDst_spec hd) hK)

/-! A slice that grows -/
def Grows (S : Heap) (sz : Nat) (e : TypeId) (rows : List (List PV)) (p : PV) : Prop :=
  (p = .sl0 ∧ rows = []) ∨ ∃ b cap cap', p = .vec b rows.length cap ∧ S b = some (.rows sz rows cap' e) ∧ rows.length ≤ cap ∧ cap ≤ cap'
def ownB : PV → Option Nat
  | .vec b _ _ => some b
  | _ => none
/-- append: what is there behind it; where; what is as it was. -/
theorem OpW_append {ds : List (Option Tmp)} {l : List Oper} {k : List It} {o : Oper} {t e : TypeId} {s x : Operand} {sz bytes : Nat} {olds rows : List (List PV)} {ps : PV} (ho : o.op = .call { callee := .builtin .append, args := #[s, x], argTypes := #[t, t] }) (hf : appFacts P t = some (sz, bytes, e)) (hd : okDst n o.dst = true)
    (hx : elemsOf S sz (ev σ x) = some rows) (h1 : ∀ r ∈ rows, ∀ c ∈ r, c.isOne = true) (hs : ev σ s = ps) (hg : Grows S sz e olds ps) (h63 : olds.length + rows.length ≤ maxLen) (hb : (olds.length + rows.length) * bytes ≤ 140737488355328)
    (hK : ∀ p S', Grows S' sz e (olds ++ rows) p → (ownB p = ownB ps ∨ ∃ b, ownB p = some b ∧ S b = none) → (∀ c y, S c = some y → ownB p ≠ some c → S' c = some y) → W P n mb R (.ops ds l :: k) (updO σ o.dst p) S') : OpW P n mb R o ds l k σ S := by
  have hsv : (ev σ s = .sl0 ∧ olds = []) ∨ ∃ b k cap rs cap', ev σ s = .vec b k cap ∧ S b = some (.rows sz rs cap' e) ∧ k ≤ rs.length ∧ k ≤ cap ∧ cap ≤ cap' ∧ olds = rs.take k := by
    rcases hg with ⟨h2, h3⟩ | ⟨b, cap, cap', h2, h3, h4, h5⟩
    · exact Or.inl ⟨hs.trans h2, h3⟩
    · exact Or.inr ⟨b, olds.length, cap, olds, cap', hs.trans h2, h3, Nat.le_refl _, h4, h5, by simp⟩
  refine OpW_of (OpA_append ho hf (okDst_spec hd) hx h1 hsv h63 hb (fun hr => ?_) (fun b k cap rs cap' e1 e2 e3 => ?_) fun b cap e1 e2 => ?_)
  · subst hr
    rw [hs]
    exact hK ps S (by simpa using hg) (Or.inl rfl) fun c y hc _ => hc
  · rcases hg with ⟨h2, h3⟩ | ⟨b', cap1, cap2, h2, h3, h4, h5⟩
    · rw [hs, h2] at e1; cases e1
    · rw [hs, h2] at e1
      simp only [PV.vec.injEq] at e1
      obtain ⟨rfl, rfl, rfl⟩ := e1
      rw [h3] at e2
      simp only [Option.some.injEq, MObj.rows.injEq, true_and, and_true] at e2
      obtain ⟨rfl, rfl⟩ := e2
      simp only [List.take_length]
      refine hK _ _ (Or.inr ⟨b', cap1, cap2, by rw [List.length_append], by rw [set_apply, if_pos rfl], by rw [List.length_append]; exact e3, h5⟩) (Or.inl (by rw [h2]; rfl)) fun c y hc hne => ?_
      rw [set_apply, if_neg (fun h => hne (by rw [h]; rfl))]; exact hc
  · refine hK _ _ (Or.inr ⟨b, cap, cap, by rw [List.length_append], by rw [set_apply, if_pos rfl], by rw [List.length_append]; exact e2, Nat.le_refl _⟩) (Or.inr ⟨b, rfl, e1⟩) fun c y hc hne => ?_
    rw [set_apply, if_neg (fun h => hne (by rw [h]; rfl))]; exact hc
theorem grows_view {S : Heap} {e : TypeId} {rows : List (List PV)} {p : PV} (h : Grows S 1 e rows p) : view S p = .slice 1 rows := by
  rcases h with ⟨rfl, rfl⟩ | ⟨b, cap, cap', rfl, h2, h3, h4⟩
  · rfl
  · simp only [view, h2]
    rw [if_pos ⟨Nat.le_refl _, h3, h4⟩]
    simp
end

end Go.Proofs.Ytcbonfgkfiapaaa.Pv
