/- A slice that was made: an append behind which it is told by its rows; a literal in a drawn region. -/
import Derived.Test.YtcbonfgkfiapaaaSlc
set_option linter.unusedVariables false
set_option linter.unusedSimpArgs false
namespace Go.Proofs.Ytcbonfgkfiapaaa.Pv
open Go Go.RowKit

def frzS (S : Heap) (p : PV) : Heap := fun z => if ownB p = some z then none else S z
theorem frzS_le (S : Heap) (p : PV) : (frzS S p).le S := by
  intro z x hz
  unfold frzS at hz
  split at hz
  · cases hz
  · exact hz
theorem frz_reg {n : Nat} {σ : Regs} {S : Heap} {sz : Nat} {e : TypeId} {p : PV} {rows : List (List PV)} (d : Option Tmp) (hg : Grows S sz e rows p) : Weak n (updO σ d p) S (updO σ d (.slice sz rows)) (frzS S p) := by
  intro w a hst
  have him : ∀ b, S.im b → (frzS S p).im b := by
    intro b hb
    show frzS S p b = none
    have hb' : S b = none := hb
    unfold frzS
    split
    · rfl
    · exact hb'
  have hK : Keeps w w S.im (frzS S p).im := ⟨Nat.le_refl _, fun b _ hi => ⟨him b hi, rfl⟩⟩
  refine ⟨⟨hst.size, hst.defers, fun t => ?_, fun b o hb => ?_⟩, ⟨rfl, rfl, rfl, Nat.le_refl _, fun b _ hi => ⟨him b hi, rfl⟩⟩⟩
  · have h1 := hst.regs t
    cases d with
    | none => exact Rep.keep hK _ h1
    | some d =>
      simp only [updO, upd] at h1 ⊢
      split
      · rename_i e
        rw [if_pos e] at h1
        exact grows_freeze hst.heap (frzS_le S p) (fun b hb => by unfold frzS; rw [if_pos hb]) hg (rowsW_refl rows) h1
      · rename_i e
        rw [if_neg e] at h1
        exact Rep.keep hK _ h1
  · unfold frzS at hb
    split at hb
    · cases hb
    · exact (hst.heap b o hb).keep hK rfl
theorem Eff_appF {P : Program} {o : Oper} {σ : Regs} {S : Heap} {t e : TypeId} {s x : Operand} {sz bytes : Nat} {olds rows : List (List PV)} {ps : PV} (ho : o.op = .call { callee := .builtin .append, args := #[s, x], argTypes := #[t, t] }) (hf : appFacts P t = some (sz, bytes, e))
    (hx : elemsOf Heap.none sz (ev σ x) = some rows) (h1 : ∀ r ∈ rows, ∀ c ∈ r, c.isOne = true) (hs : ev σ s = ps) (hg : Grows S sz e olds ps) (h63 : olds.length + rows.length ≤ maxLen) (hb : (olds.length + rows.length) * bytes ≤ 140737488355328) :
    Eff P o σ S (fun p S' => p = .slice sz (olds ++ rows) ∧ ∀ c y, S c = some y → ownB ps ≠ some c → S' c = some y) := by
  refine Eff_of fun n σ' K hd he hK => OpA_after ?_
  have es : ev σ' s = ev σ s := he s (by simp [ho, Op.operands, Call.operands])
  have ex : ev σ' x = ev σ x := he x (by simp [ho, Op.operands, Call.operands])
  refine RK.sound (d := .app t sz bytes e s x) (K := fun σ1 S1 => ∃ σ2 S2, Weak n σ1 S1 σ2 S2 ∧ K σ2 S2) ⟨ho, hf⟩ hd ⟨rows, olds, by rw [ex]; exact hx, h1, by rw [es, hs]; exact hg, h63, hb, fun p S' hr => ?_⟩
  refine ⟨updO σ' o.dst (.slice sz (olds ++ rows)), frzS S' p, frz_reg o.dst hr.grows, hK _ _ ⟨rfl, fun c y hc hne => ?_⟩⟩
  have hpc : ownB p ≠ some c := by
    intro e1
    rcases hr.own with h2 | ⟨b, h2, h3⟩
    · rw [h2, es, hs] at e1; exact hne e1
    · rw [h2] at e1; cases e1; rw [hc] at h3; cases h3
  unfold frzS
  rw [if_neg hpc, hr.rest c hpc, hc]
theorem OpW_eff {P : Program} {n : Nat} {mb : Tmp → Bool} {R : Post} {σ : Regs} {S : Heap} {ds : List (Option Tmp)} {l : List Oper} {k : List It} {o : Oper} {Po : PV → Heap → Prop} (he : Eff P o σ S Po) (hd : okDst n o.dst = true) (h : ∀ p S', Po p S' → W P n mb R (.ops ds l :: k) (updO σ o.dst p) S') : OpW P n mb R o ds l k σ S :=
  OpW_of (he n σ _ hd (fun _ _ => rfl) h)
theorem partsPV_congr {σ σ' : Regs} {ps : Array (Nat × Operand)} (h : ∀ x ∈ ps.toList, ev σ' x.2 = ev σ x.2) : partsPV σ' ps = partsPV σ ps := by
  unfold partsPV
  exact List.map_congr_left fun x hx => by rw [h x hx]
theorem Eff_lit {P : Program} {o : Oper} {σ : Regs} {S : Heap} {t e : TypeId} {k sz bytes : Nat} {ps : Array (Nat × Operand)} {rows : List (List PV)} (ho : o.op = .buildSlice t k ps) (hf : appFacts P t = some (sz, bytes, e)) (hr : buildSlicePV P t k (partsPV σ ps) = some (.slice sz rows)) (hne : rows ≠ []) (hlen : rows.length = k) :
    Eff P o σ S (fun p S' => ∃ c, S c = none ∧ p = .vec c rows.length rows.length ∧ S' = S.set c (.rows sz rows rows.length e)) := by
  refine Eff_of fun n σ' K hd he hK => ?_
  have hc : partsPV σ' ps = partsPV σ ps := partsPV_congr fun x hx => he x.2 (by
    simp only [ho, Op.operands]
    simpa using ⟨x.1, by simpa using hx⟩)
  exact OpA_buildSliceM ho hf (by rw [hc]; exact hr) hne hlen hd fun c hc => hK _ _ ⟨c, hc, rfl, rfl⟩
end Go.Proofs.Ytcbonfgkfiapaaa.Pv
