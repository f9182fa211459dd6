/- What an argument that is a list of calls (conchlaw36.Op) reads as. -/
import Derived.Test.YtcbonfgkfiapaaaTree
import Derived.Test.YtcbonfgkfiapaaaAli5
set_option linter.unusedVariables false
set_option linter.unusedSimpArgs false
set_option maxRecDepth 100000
namespace Go.Proofs.Ytcbonfgkfiapaaa.Pv
open Go Go.RowKit

theorem open_ops {H : Type} {enc : TypeId × Value → H} {sp : Nat → Bool} {hd : Bool} {W : World} {base : Nat} {v : Value} {d : DataW H} {ps : List MemPlace} (hv : Value.okWide Try.prog W .any base 66 v) (h : DataW.Trod enc Try.prog W 0 sp hd 66 v d ps) :
    ∃ l : List AOp, Rep W Heap.none.im (.slice 3 (orows l)) v := by
  obtain ⟨n, h⟩ := h
  have hc : v.cells.toList = [v] := by
    unfold Value.okWide at hv
    rw [Try.underlying66] at hv
    cases v <;> first | rfl | (exfalso; simp [Cell.okWide, Cell.ok, Try.underlying66] at hv)
  rw [hc] at h
  cases n with
  | zero => simp [DataW.trod] at h
  | succ n =>
    have c74 : Try.prog.cellsOf 74 = 3 := by kernel_rfl
    obtain ⟨u, l, h1, h2, _⟩ := slice_open (P := Try.prog) (w := W) orow (fun _ => 0) Try.underlying66 c74 (by decide) (fun cs y h => by
      obtain ⟨xs, m, rfl, rfl, hl, hxl, hf⟩ := DataW.trod_struct Try.underlying74 h
      have c3 : Try.prog.cellsOf 3 = 1 := by kernel_rfl
      have c9 : Try.prog.cellsOf 9 = 1 := by kernel_rfl
      rw [c74] at hl
      have e0 : DataW.trod enc Try.prog W 0 sp hd m 3 ((cs.drop 0).take (Try.prog.cellsOf 3)) = xs[0]? := hf 0 _ rfl
      have e1 : DataW.trod enc Try.prog W 0 sp hd m 9 ((cs.drop 1).take (Try.prog.cellsOf 9)) = xs[1]? := hf 1 _ rfl
      have e2 : DataW.trod enc Try.prog W 0 sp hd m 9 ((cs.drop 2).take (Try.prog.cellsOf 9)) = xs[2]? := hf 2 _ rfl
      rw [c3] at e0
      rw [c9] at e1 e2
      match cs, hl with
      | [v0, v1, v2], _ =>
        match xs, hxl with
        | [x0, x1, x2], _ =>
          simp only [List.drop_zero, List.drop_succ_cons, List.take_succ_cons, List.take_zero, List.getElem?_cons_zero, List.getElem?_cons_succ] at e0 e1 e2
          obtain ⟨k, h0, rfl, _⟩ := DataW.trod_int Try.underlying3 e0
          obtain ⟨s, h1, rfl, _⟩ := DataW.trod_string Try.underlying9 e1
          obtain ⟨o, h2, rfl, _⟩ := DataW.trod_string Try.underlying9 e2
          simp only [List.cons.injEq, and_true] at h0 h1 h2
          subst h0 h1 h2
          exact ⟨(k, s.data.toList, o.data.toList), rfl, repVals_cons.2 ⟨by simp [Rep], repVals_cons.2 ⟨by simp [Rep], repVals_cons.2 ⟨by simp [Rep], repVals_nil.2 rfl⟩⟩⟩, Nat.zero_le _⟩) h
    simp only [List.cons.injEq, and_true] at h1
    subst h1
    exact ⟨l, h2⟩
end Go.Proofs.Ytcbonfgkfiapaaa.Pv
