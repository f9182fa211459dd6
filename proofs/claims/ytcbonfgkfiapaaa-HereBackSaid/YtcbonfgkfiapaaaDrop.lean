/- Blocks of a call's own that nobody looks at any more are forgotten. -/
import Derived.Test.YtcbonfgkfiapaaaVc
set_option linter.unusedVariables false
namespace Go.Proofs.Ytcbonfgkfiapaaa.Pv
open Go Go.RowKit

def Heap.le (S S' : Heap) : Prop := ∀ b o, S b = some o → S' b = some o
theorem Heap.le_refl (S : Heap) : S.le S := fun _ _ h => h
theorem Heap.le_trans {S S1 S2 : Heap} (h : S.le S1) (k : S1.le S2) : S.le S2 := fun b o e => k b o (h b o e)
theorem Heap.le_set {S : Heap} {b : Nat} {o : MObj} (h : S b = Option.none) : S.le (S.set b o) := by
  intro b' o' e
  rw [set_apply]
  rw [if_neg]
  · exact e
  · rintro rfl; rw [h] at e; cases e
theorem Heap.set_set {S : Heap} {b : Nat} {o o' : MObj} : (S.set b o).set b o' = S.set b o' := by
  funext x
  simp only [set_apply]
  split <;> rfl
theorem keeps_le {w : World} {S S' : Heap} (h : S.le S') : Keeps w w S'.im S.im := by
  refine ⟨Nat.le_refl _, fun b hb hi => ⟨?_, rfl⟩⟩
  show S b = none
  cases hc : S b with
  | none => rfl
  | some o => have h1 := h b o hc; have h2 : S' b = none := hi; rw [h1] at h2; cases h2
theorem CallsA.less {P : Program} {f : FuncId} {ps : List PV} {S : Heap} {Po Po' : PV → Heap → Prop} (h : CallsA P f ps S Po) (hk : ∀ p S', Po p S' → ∃ S'', S''.le S' ∧ Po' p S'') : CallsA P f ps S Po' := by
  intro w args hv hh
  refine (h w args hv hh).mono ?_
  rintro e w' ⟨v, p, S', rfl, h1, h2, h3, h4⟩
  obtain ⟨S'', k1, k2⟩ := hk p S' h4
  refine ⟨v, p, S'', rfl, Rep.keep (keeps_le k1) p h1, fun b o hb => Holds.keep (keeps_le k1) rfl (h2 b o (k1 b o hb)), ⟨h3.os, h3.tape, h3.output, h3.size, fun b hb hS => ?_⟩, k2⟩
  obtain ⟨e1, e2⟩ := h3.kept b hb hS
  refine ⟨?_, e2⟩
  cases hc : S'' b with
  | none => rfl
  | some o => have := k1 b o hc; rw [e1] at this; cases this
/-- What a call answers, where it has made blocks of its own and left them. -/
theorem CallsQ_less {P : Program} {f : FuncId} {ps : List PV} {S : Heap} {p : PV} (h : CallsA P f ps S (fun q S' => q = p ∧ S.le S')) : CallsQ P f ps S p :=
  h.less fun q S' ⟨h1, h2⟩ => ⟨S, h2, h1, rfl⟩

end Go.Proofs.Ytcbonfgkfiapaaa.Pv
