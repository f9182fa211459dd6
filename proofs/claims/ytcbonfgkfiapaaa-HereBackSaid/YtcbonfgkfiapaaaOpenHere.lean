/- What an argument that is a here-document reads as. -/
import Derived.Test.YtcbonfgkfiapaaaTy
import Derived.ChangeArms
set_option linter.unusedVariables false
set_option linter.unusedSimpArgs false
set_option maxRecDepth 100000
namespace Go.Proofs.Ytcbonfgkfiapaaa.Pv
open Go Go.RowKit

theorem open_here {H : Type} {enc : TypeId × Value → H} {sp : Nat → Bool} {hd : Bool} {W : World} {base : Nat} {v : Value} {d : DataW H} {ps : List MemPlace} (hv : Value.okWide Try.prog W .any base 52 v) (h : DataW.Trod enc Try.prog W 0 sp hd 52 v d ps) :
    ∃ (e : List UInt8) (t : Bool), Rep W Heap.none.im (.agg [.str e, .bool t]) v ∧ d = .agg [.lit (.string e), .lit (.bool t)] := by
  unfold Value.okWide at hv
  rw [Try.underlying52] at hv
  obtain ⟨cs, rfl, _, _⟩ := hv
  obtain ⟨n, h⟩ := h
  obtain ⟨xs, m, rfl, hd', hl, hxl, hf⟩ := DataW.trod_struct Try.underlying52 h
  have c52 : Try.prog.cellsOf 52 = 2 := by kernel_rfl
  have c9 : Try.prog.cellsOf 9 = 1 := by kernel_rfl
  have c4 : Try.prog.cellsOf 4 = 1 := by kernel_rfl
  have e0 : DataW.trod enc Try.prog W 0 sp hd m 9 (((Value.agg cs).cells.toList.drop 0).take (Try.prog.cellsOf 9)) = xs[0]? := hf 0 _ rfl
  have e1 : DataW.trod enc Try.prog W 0 sp hd m 4 (((Value.agg cs).cells.toList.drop 1).take (Try.prog.cellsOf 4)) = xs[1]? := hf 1 _ rfl
  rw [c9] at e0
  rw [c4] at e1
  rw [c52] at hl
  simp only [Value.cells] at e0 e1 hl
  cases hcs : cs.toList with
  | nil => rw [hcs] at hl; simp at hl
  | cons c0 r =>
    cases r with
    | nil => rw [hcs] at hl; simp at hl
    | cons c1 r =>
      rw [hcs] at hl e0 e1
      have hr : r = [] := List.eq_nil_of_length_eq_zero (by simpa using hl)
      subst hr
      match xs, hxl with
      | [x0, x1], _ =>
        simp only [List.drop_zero, List.drop_succ_cons, List.take_succ_cons, List.take_zero, List.getElem?_cons_zero, List.getElem?_cons_succ] at e0 e1
        obtain ⟨s, h0, rfl, _⟩ := DataW.trod_string Try.underlying9 e0
        obtain ⟨t, h1, rfl⟩ := DataW.trod_bool Try.underlying4 e1
        simp only [List.cons.injEq, and_true] at h0 h1
        subst h0 h1
        simp only [List.map_cons, List.map_nil, Prod.mk.injEq] at hd'
        refine ⟨s.data.toList, t, ?_, hd'.1⟩
        simp only [Rep]
        refine ⟨cs, rfl, ?_⟩
        rw [hcs]
        exact repVals_cons.2 ⟨by simp [Rep], repVals_cons.2 ⟨by simp [Rep], repVals_nil.2 rfl⟩⟩

end Go.Proofs.Ytcbonfgkfiapaaa.Pv
