/- What the reference of package here computes. -/
import Derived.Test.YtcbonfgkfiapaaaHere4
import Derived.Test.YtcbonfgkfiapaaaChar3
set_option linter.unusedVariables false
set_option linter.unusedSimpArgs false
set_option maxRecDepth 100000
set_option maxHeartbeats 4000000
namespace Go.Proofs.Ytcbonfgkfiapaaa.Pv
open Go Go.RowKit

theorem u8_int {c d : UInt8} : ((c.toNat : Int) = (d.toNat : Int)) ↔ c = d := by
  rw [← UInt8.toNat_inj]; omega
theorem has_calls (s : List UInt8) (hs : s.length ≤ 4611686018427387904) (c : UInt8) (S : Heap) : CallsQ Try.prog 106 [.str s, .int .u8 (c.toNat : Int)] S (.bool (decide (c ∈ s))) := by
  refine CallsA_W (fun _ => false) Try.func106 rfl (Nat.le_of_ble_eq_true rfl) ?_
  simp only [Try.f106]
  (simp only [go_sem, reduceIte, ite_true, ite_false, Nat.reduceEqDiff, Nat.reduceLT, Nat.reduceLeDiff, Nat.reduceAdd, reduceCtorEq, decide_eq_true_eq, decide_eq_false_iff_not, Bool.false_eq_true, Bool.true_eq_false, true_and, and_true, forall_const, decide_true, decide_false, true_implies, implies_true, Bool.not_true, Bool.not_false, ← decide_not, Decidable.not_not, eq_self, Option.some.injEq, exists_eq_left', exists_eq_left, and_self, Int.toNat_natCast, Int.natCast_nonneg, List.getElem?_map, Option.isSome_some, not_false_eq_true, not_true_eq_false, List.getElem?_toArray, Int.reduceToNat, Int.reduceLE, Int.reduceLT, Int.toNat_zero, Int.reduceNeg, Int.reduceEq, Int.reduceNe, Nat.reduceBEq, Nat.reduceMul, Nat.reducePow, *])
  obtain ⟨q, hq⟩ : ∃ q : Int, (c.toNat : Int) = q := ⟨_, rfl⟩
  refine CodeW_loop (fun m σ' S' => ∃ i : Nat, i + m = s.length ∧ σ' 0 = .str s ∧ σ' 1 = .int .u8 q ∧ σ' 5 = .int .i64 i ∧ S' = S ∧ ∀ j d, j < i → s[j]? = some d → d ≠ c) s.length ?_ ?_
  · (simp only [go_sem, reduceIte, ite_true, ite_false, Nat.reduceEqDiff, Nat.reduceLT, Nat.reduceLeDiff, Nat.reduceAdd, reduceCtorEq, decide_eq_true_eq, decide_eq_false_iff_not, Bool.false_eq_true, Bool.true_eq_false, true_and, and_true, forall_const, decide_true, decide_false, true_implies, implies_true, Bool.not_true, Bool.not_false, ← decide_not, Decidable.not_not, eq_self, Option.some.injEq, exists_eq_left', exists_eq_left, and_self, Int.toNat_natCast, Int.natCast_nonneg, List.getElem?_map, Option.isSome_some, not_false_eq_true, not_true_eq_false, List.getElem?_toArray, Int.reduceToNat, Int.reduceLE, Int.reduceLT, Int.toNat_zero, Int.reduceNeg, Int.reduceEq, Int.reduceNe, Nat.reduceBEq, Nat.reduceMul, Nat.reducePow, *])
    exact ⟨0, by omega, rfl, fun j d h => by omega⟩
  · rintro m σ' S' ⟨i, h1, h2, h3, h4, rfl, h6⟩
    cases hc : s[i]? with
    | none =>
      have hl : s.length ≤ i := List.getElem?_eq_none_iff.1 hc
      have hlt : ¬ ((i : Int) < (s.length : Int)) := by omega
      have hno : c ∉ s := fun hm => by
        obtain ⟨j, hj⟩ := List.getElem?_of_mem hm
        exact h6 j c (by have := (List.getElem?_eq_some_iff.1 hj).1; omega) hj rfl
      rw [decide_eq_false hno]
      clear hq
      (simp only [go_sem, reduceIte, ite_true, ite_false, Nat.reduceEqDiff, Nat.reduceLT, Nat.reduceLeDiff, Nat.reduceAdd, reduceCtorEq, decide_eq_true_eq, decide_eq_false_iff_not, Bool.false_eq_true, Bool.true_eq_false, true_and, and_true, forall_const, decide_true, decide_false, true_implies, implies_true, Bool.not_true, Bool.not_false, ← decide_not, Decidable.not_not, eq_self, Option.some.injEq, exists_eq_left', exists_eq_left, and_self, Int.toNat_natCast, Int.natCast_nonneg, List.getElem?_map, Option.isSome_some, not_false_eq_true, not_true_eq_false, List.getElem?_toArray, Int.reduceToNat, Int.reduceLE, Int.reduceLT, Int.toNat_zero, Int.reduceNeg, Int.reduceEq, Int.reduceNe, Nat.reduceBEq, Nat.reduceMul, Nat.reducePow, *])
    | some b =>
      have hl := (List.getElem?_eq_some_iff.1 hc).1
      have hlt : (i : Int) < (s.length : Int) := by omega
      by_cases hb : b = c
      · have hm : c ∈ s := by subst hb; exact List.mem_of_getElem? hc
        have he : (b.toNat : Int) = q := by rw [hb, hq]
        rw [decide_eq_true hm]
        clear hq hb
        (simp only [go_sem, reduceIte, ite_true, ite_false, Nat.reduceEqDiff, Nat.reduceLT, Nat.reduceLeDiff, Nat.reduceAdd, reduceCtorEq, decide_eq_true_eq, decide_eq_false_iff_not, Bool.false_eq_true, Bool.true_eq_false, true_and, and_true, forall_const, decide_true, decide_false, true_implies, implies_true, Bool.not_true, Bool.not_false, ← decide_not, Decidable.not_not, eq_self, Option.some.injEq, exists_eq_left', exists_eq_left, and_self, Int.toNat_natCast, Int.natCast_nonneg, List.getElem?_map, Option.isSome_some, not_false_eq_true, not_true_eq_false, List.getElem?_toArray, Int.reduceToNat, Int.reduceLE, Int.reduceLT, Int.toNat_zero, Int.reduceNeg, Int.reduceEq, Int.reduceNe, Nat.reduceBEq, Nat.reduceMul, Nat.reducePow, *])
      · have he : ¬ (b.toNat : Int) = q := fun h => hb (u8_int.1 (h.trans hq.symm))
        generalize decide (c ∈ s) = R
        clear hq
        (simp only [go_sem, reduceIte, ite_true, ite_false, Nat.reduceEqDiff, Nat.reduceLT, Nat.reduceLeDiff, Nat.reduceAdd, reduceCtorEq, decide_eq_true_eq, decide_eq_false_iff_not, Bool.false_eq_true, Bool.true_eq_false, true_and, and_true, forall_const, decide_true, decide_false, true_implies, implies_true, Bool.not_true, Bool.not_false, ← decide_not, Decidable.not_not, eq_self, Option.some.injEq, exists_eq_left', exists_eq_left, and_self, Int.toNat_natCast, Int.natCast_nonneg, List.getElem?_map, Option.isSome_some, not_false_eq_true, not_true_eq_false, List.getElem?_toArray, Int.reduceToNat, Int.reduceLE, Int.reduceLT, Int.toNat_zero, Int.reduceNeg, Int.reduceEq, Int.reduceNe, Nat.reduceBEq, Nat.reduceMul, Nat.reducePow, *])
        refine ⟨m - 1, by omega, i + 1, by omega, step64 hl hs, fun j d hj hd => ?_⟩
        by_cases e : j = i
        · subst e; rw [hc] at hd; injection hd with hd; subst hd; exact hb
        · exact h6 j d (by omega) hd
def refRight (e : List UInt8) (t : Bool) : Bool := !decide ((0 : UInt8) ∈ e) && (!decide ((10 : UInt8) ∈ e) && (!t || decide (e.head? ≠ some 9)))
theorem refRight_calls (e : List UInt8) (t : Bool) (hs : e.length ≤ 4611686018427387904) (S : Heap) : CallsQ Try.prog 105 [.agg [.str e, .bool t]] S (.bool (refRight e t)) := by
  have c1 := fun S => has_calls e hs 0 S
  have c2 := fun S => has_calls e hs 10 S
  unfold refRight
  generalize decide ((0 : UInt8) ∈ e) = z0 at *
  generalize decide ((10 : UInt8) ∈ e) = z1 at *
  refine CallsA_W (fun _ => false) Try.func105 rfl (Nat.le_of_ble_eq_true rfl) ?_
  simp only [Try.f105]
  (simp only [go_sem, reduceIte, ite_true, ite_false, Nat.reduceEqDiff, Nat.reduceLT, Nat.reduceLeDiff, Nat.reduceAdd, reduceCtorEq, decide_eq_true_eq, decide_eq_false_iff_not, Bool.false_eq_true, Bool.true_eq_false, true_and, and_true, forall_const, decide_true, decide_false, true_implies, implies_true, Bool.not_true, Bool.not_false, ← decide_not, Decidable.not_not, eq_self, Option.some.injEq, exists_eq_left', exists_eq_left, and_self, Int.toNat_natCast, Int.natCast_nonneg, List.getElem?_map, Option.isSome_some, not_false_eq_true, not_true_eq_false, List.getElem?_toArray, Int.reduceToNat, Int.reduceLE, Int.reduceLT, Int.toNat_zero, Int.reduceNeg, Int.reduceEq, Int.reduceNe, Nat.reduceBEq, Nat.reduceMul, Nat.reducePow, *])
  (refine OpW_call rfl rfl call106 rfl ((c1 _).mono ?_); rintro p S' ⟨rfl, rfl⟩)
  cases z0 <;> (simp only [go_sem, reduceIte, ite_true, ite_false, Nat.reduceEqDiff, Nat.reduceLT, Nat.reduceLeDiff, Nat.reduceAdd, reduceCtorEq, decide_eq_true_eq, decide_eq_false_iff_not, Bool.false_eq_true, Bool.true_eq_false, true_and, and_true, forall_const, decide_true, decide_false, true_implies, implies_true, Bool.not_true, Bool.not_false, ← decide_not, Decidable.not_not, eq_self, Option.some.injEq, exists_eq_left', exists_eq_left, and_self, Int.toNat_natCast, Int.natCast_nonneg, List.getElem?_map, Option.isSome_some, not_false_eq_true, not_true_eq_false, List.getElem?_toArray, Int.reduceToNat, Int.reduceLE, Int.reduceLT, Int.toNat_zero, Int.reduceNeg, Int.reduceEq, Int.reduceNe, Nat.reduceBEq, Nat.reduceMul, Nat.reducePow, *])
  · (refine OpW_call rfl rfl call106 rfl ((c2 _).mono ?_); rintro p S' ⟨rfl, rfl⟩)
    cases z1 <;> (simp only [go_sem, reduceIte, ite_true, ite_false, Nat.reduceEqDiff, Nat.reduceLT, Nat.reduceLeDiff, Nat.reduceAdd, reduceCtorEq, decide_eq_true_eq, decide_eq_false_iff_not, Bool.false_eq_true, Bool.true_eq_false, true_and, and_true, forall_const, decide_true, decide_false, true_implies, implies_true, Bool.not_true, Bool.not_false, ← decide_not, Decidable.not_not, eq_self, Option.some.injEq, exists_eq_left', exists_eq_left, and_self, Int.toNat_natCast, Int.natCast_nonneg, List.getElem?_map, Option.isSome_some, not_false_eq_true, not_true_eq_false, List.getElem?_toArray, Int.reduceToNat, Int.reduceLE, Int.reduceLT, Int.toNat_zero, Int.reduceNeg, Int.reduceEq, Int.reduceNe, Nat.reduceBEq, Nat.reduceMul, Nat.reducePow, *])
    · cases t with
      | false => (simp only [go_sem, reduceIte, ite_true, ite_false, Nat.reduceEqDiff, Nat.reduceLT, Nat.reduceLeDiff, Nat.reduceAdd, reduceCtorEq, decide_eq_true_eq, decide_eq_false_iff_not, Bool.false_eq_true, Bool.true_eq_false, true_and, and_true, forall_const, decide_true, decide_false, true_implies, implies_true, Bool.not_true, Bool.not_false, ← decide_not, Decidable.not_not, eq_self, Option.some.injEq, exists_eq_left', exists_eq_left, and_self, Int.toNat_natCast, Int.natCast_nonneg, List.getElem?_map, Option.isSome_some, not_false_eq_true, not_true_eq_false, List.getElem?_toArray, Int.reduceToNat, Int.reduceLE, Int.reduceLT, Int.toNat_zero, Int.reduceNeg, Int.reduceEq, Int.reduceNe, Nat.reduceBEq, Nat.reduceMul, Nat.reducePow, *])
                 rfl
      | true =>
        (simp only [go_sem, reduceIte, ite_true, ite_false, Nat.reduceEqDiff, Nat.reduceLT, Nat.reduceLeDiff, Nat.reduceAdd, reduceCtorEq, decide_eq_true_eq, decide_eq_false_iff_not, Bool.false_eq_true, Bool.true_eq_false, true_and, and_true, forall_const, decide_true, decide_false, true_implies, implies_true, Bool.not_true, Bool.not_false, ← decide_not, Decidable.not_not, eq_self, Option.some.injEq, exists_eq_left', exists_eq_left, and_self, Int.toNat_natCast, Int.natCast_nonneg, List.getElem?_map, Option.isSome_some, not_false_eq_true, not_true_eq_false, List.getElem?_toArray, Int.reduceToNat, Int.reduceLE, Int.reduceLT, Int.toNat_zero, Int.reduceNeg, Int.reduceEq, Int.reduceNe, Nat.reduceBEq, Nat.reduceMul, Nat.reducePow, *])
        cases e with
        | nil => (simp only [go_sem, reduceIte, ite_true, ite_false, Nat.reduceEqDiff, Nat.reduceLT, Nat.reduceLeDiff, Nat.reduceAdd, reduceCtorEq, decide_eq_true_eq, decide_eq_false_iff_not, Bool.false_eq_true, Bool.true_eq_false, true_and, and_true, forall_const, decide_true, decide_false, true_implies, implies_true, Bool.not_true, Bool.not_false, ← decide_not, Decidable.not_not, eq_self, Option.some.injEq, exists_eq_left', exists_eq_left, and_self, Int.toNat_natCast, Int.natCast_nonneg, List.getElem?_map, Option.isSome_some, not_false_eq_true, not_true_eq_false, List.getElem?_toArray, Int.reduceToNat, Int.reduceLE, Int.reduceLT, Int.toNat_zero, Int.reduceNeg, Int.reduceEq, Int.reduceNe, Nat.reduceBEq, Nat.reduceMul, Nat.reducePow, *])
                 rfl
        | cons b e' =>
          (simp only [go_sem, reduceIte, ite_true, ite_false, Nat.reduceEqDiff, Nat.reduceLT, Nat.reduceLeDiff, Nat.reduceAdd, reduceCtorEq, decide_eq_true_eq, decide_eq_false_iff_not, Bool.false_eq_true, Bool.true_eq_false, true_and, and_true, forall_const, decide_true, decide_false, true_implies, implies_true, Bool.not_true, Bool.not_false, ← decide_not, Decidable.not_not, eq_self, Option.some.injEq, exists_eq_left', exists_eq_left, and_self, Int.toNat_natCast, Int.natCast_nonneg, List.getElem?_map, Option.isSome_some, not_false_eq_true, not_true_eq_false, List.getElem?_toArray, Int.reduceToNat, Int.reduceLE, Int.reduceLT, Int.toNat_zero, Int.reduceNeg, Int.reduceEq, Int.reduceNe, Nat.reduceBEq, Nat.reduceMul, Nat.reducePow, *])
          refine congrArg PV.bool ?_
          simp only [Bool.true_and, Bool.false_or]
          refine decide_eq_decide.2 (not_congr ?_)
          rw [Option.some.injEq]
          exact ⟨fun h => u8_int.1 (h.trans rfl), fun h => by rw [h]; rfl⟩
    · rfl
  · rfl
theorem show_calls (e : List UInt8) (t : Bool) (text : List UInt8) (h : e.length + text.length ≤ 4611686018427387904) (S : Heap) : CallsQ Try.prog 53 [.agg [.str e, .bool t], .str text] S (.str (text ++ e ++ [10])) := by
  have h1 : text.length + e.length ≤ 9223372036854775807 := by omega
  have h2 : (text ++ e).length ≤ 9223372036854775806 := by simp; omega
  refine CallsA_W (fun _ => false) Try.func53 rfl (Nat.le_of_ble_eq_true rfl) ?_
  simp only [Try.f53]
  (simp only [go_sem, reduceIte, ite_true, ite_false, Nat.reduceEqDiff, Nat.reduceLT, Nat.reduceLeDiff, Nat.reduceAdd, reduceCtorEq, decide_eq_true_eq, decide_eq_false_iff_not, Bool.false_eq_true, Bool.true_eq_false, true_and, and_true, forall_const, decide_true, decide_false, true_implies, implies_true, Bool.not_true, Bool.not_false, ← decide_not, Decidable.not_not, eq_self, Option.some.injEq, exists_eq_left', exists_eq_left, and_self, Int.toNat_natCast, Int.natCast_nonneg, List.getElem?_map, Option.isSome_some, not_false_eq_true, not_true_eq_false, List.getElem?_toArray, Int.reduceToNat, Int.reduceLE, Int.reduceLT, Int.toNat_zero, Int.reduceNeg, Int.reduceEq, Int.reduceNe, Nat.reduceBEq, Nat.reduceMul, Nat.reducePow, *])
theorem refShow_calls (e : List UInt8) (t : Bool) (text : List UInt8) (h : e.length + text.length ≤ 4611686018427387904) (S : Heap) : CallsQ Try.prog 54 [.agg [.str e, .bool t], .str text] S (.str (text ++ e ++ [10])) := by
  have h1 : text.length + e.length ≤ 9223372036854775807 := by omega
  have h2 : (text ++ e).length ≤ 9223372036854775806 := by simp; omega
  refine CallsA_W (fun _ => false) Try.func54 rfl (Nat.le_of_ble_eq_true rfl) ?_
  simp only [Try.f54]
  (simp only [go_sem, reduceIte, ite_true, ite_false, Nat.reduceEqDiff, Nat.reduceLT, Nat.reduceLeDiff, Nat.reduceAdd, reduceCtorEq, decide_eq_true_eq, decide_eq_false_iff_not, Bool.false_eq_true, Bool.true_eq_false, true_and, and_true, forall_const, decide_true, decide_false, true_implies, implies_true, Bool.not_true, Bool.not_false, ← decide_not, Decidable.not_not, eq_self, Option.some.injEq, exists_eq_left', exists_eq_left, and_self, Int.toNat_natCast, Int.natCast_nonneg, List.getElem?_map, Option.isSome_some, not_false_eq_true, not_true_eq_false, List.getElem?_toArray, Int.reduceToNat, Int.reduceLE, Int.reduceLT, Int.toNat_zero, Int.reduceNeg, Int.reduceEq, Int.reduceNe, Nat.reduceBEq, Nat.reduceMul, Nat.reducePow, *])
def cutTabs (t : Bool) (s : List UInt8) : List UInt8 := if t = true then s.dropWhile (· == 9) else s
theorem refCut_calls (e : List UInt8) (t : Bool) (s : List UInt8) (hs : s.length ≤ 4611686018427387904) (S : Heap) : CallsQ Try.prog 107 [.agg [.str e, .bool t], .str s] S (.str (cutTabs t s)) := by
  refine CallsA_W (fun _ => false) Try.func107 rfl (Nat.le_of_ble_eq_true rfl) ?_
  simp only [Try.f107]
  (simp only [go_sem, reduceIte, ite_true, ite_false, Nat.reduceEqDiff, Nat.reduceLT, Nat.reduceLeDiff, Nat.reduceAdd, reduceCtorEq, decide_eq_true_eq, decide_eq_false_iff_not, Bool.false_eq_true, Bool.true_eq_false, true_and, and_true, forall_const, decide_true, decide_false, true_implies, implies_true, Bool.not_true, Bool.not_false, ← decide_not, Decidable.not_not, eq_self, Option.some.injEq, exists_eq_left', exists_eq_left, and_self, Int.toNat_natCast, Int.natCast_nonneg, List.getElem?_map, Option.isSome_some, not_false_eq_true, not_true_eq_false, List.getElem?_toArray, Int.reduceToNat, Int.reduceLE, Int.reduceLT, Int.toNat_zero, Int.reduceNeg, Int.reduceEq, Int.reduceNe, Nat.reduceBEq, Nat.reduceMul, Nat.reducePow, *])
  obtain ⟨R, hR⟩ : ∃ R, cutTabs t s = R := ⟨_, rfl⟩
  rw [hR]
  refine CodeW_loop (fun m σ' S' => ∃ x : List UInt8, x.length = m ∧ σ' 1 = .str x ∧ σ' 2 = .ref [.str e, .bool t] ∧ S' = S ∧ cutTabs t x = R) s.length ?_ ?_
  · (simp only [go_sem, reduceIte, ite_true, ite_false, Nat.reduceEqDiff, Nat.reduceLT, Nat.reduceLeDiff, Nat.reduceAdd, reduceCtorEq, decide_eq_true_eq, decide_eq_false_iff_not, Bool.false_eq_true, Bool.true_eq_false, true_and, and_true, forall_const, decide_true, decide_false, true_implies, implies_true, Bool.not_true, Bool.not_false, ← decide_not, Decidable.not_not, eq_self, Option.some.injEq, exists_eq_left', exists_eq_left, and_self, Int.toNat_natCast, Int.natCast_nonneg, List.getElem?_map, Option.isSome_some, not_false_eq_true, not_true_eq_false, List.getElem?_toArray, Int.reduceToNat, Int.reduceLE, Int.reduceLT, Int.toNat_zero, Int.reduceNeg, Int.reduceEq, Int.reduceNe, Nat.reduceBEq, Nat.reduceMul, Nat.reducePow, *])
    exact ⟨s, rfl, rfl, hR⟩
  · rintro m σ' S' ⟨x, rfl, h1, h2, rfl, h3⟩
    clear hR
    cases t with
    | false =>
      obtain rfl : x = R := h3
      (simp only [go_sem, reduceIte, ite_true, ite_false, Nat.reduceEqDiff, Nat.reduceLT, Nat.reduceLeDiff, Nat.reduceAdd, reduceCtorEq, decide_eq_true_eq, decide_eq_false_iff_not, Bool.false_eq_true, Bool.true_eq_false, true_and, and_true, forall_const, decide_true, decide_false, true_implies, implies_true, Bool.not_true, Bool.not_false, ← decide_not, Decidable.not_not, eq_self, Option.some.injEq, exists_eq_left', exists_eq_left, and_self, Int.toNat_natCast, Int.natCast_nonneg, List.getElem?_map, Option.isSome_some, not_false_eq_true, not_true_eq_false, List.getElem?_toArray, Int.reduceToNat, Int.reduceLE, Int.reduceLT, Int.toNat_zero, Int.reduceNeg, Int.reduceEq, Int.reduceNe, Nat.reduceBEq, Nat.reduceMul, Nat.reducePow, *])
    | true =>
      cases x with
      | nil =>
        obtain rfl : [] = R := h3
        (simp only [go_sem, reduceIte, ite_true, ite_false, Nat.reduceEqDiff, Nat.reduceLT, Nat.reduceLeDiff, Nat.reduceAdd, reduceCtorEq, decide_eq_true_eq, decide_eq_false_iff_not, Bool.false_eq_true, Bool.true_eq_false, true_and, and_true, forall_const, decide_true, decide_false, true_implies, implies_true, Bool.not_true, Bool.not_false, ← decide_not, Decidable.not_not, eq_self, Option.some.injEq, exists_eq_left', exists_eq_left, and_self, Int.toNat_natCast, Int.natCast_nonneg, List.getElem?_map, Option.isSome_some, not_false_eq_true, not_true_eq_false, List.getElem?_toArray, Int.reduceToNat, Int.reduceLE, Int.reduceLT, Int.toNat_zero, Int.reduceNeg, Int.reduceEq, Int.reduceNe, Nat.reduceBEq, Nat.reduceMul, Nat.reducePow, *])
      | cons b x' =>
        by_cases hb : b = 9
        · have hi : (b.toNat : Int) = 9 := by rw [hb]; rfl
          have h4 : cutTabs true x' = R := by rw [← h3, hb]; simp [cutTabs]
          clear h3 hb
          have h5 : 1 ≤ x'.length + 1 := by omega
          have h6 : x'.length + 1 ≤ x'.length + 1 := Nat.le_refl _
          have h7 : List.take x'.length x' = x' := List.take_length
          have h8 : List.drop 1 (b :: x') = x' := rfl
          (simp only [go_sem, reduceIte, ite_true, ite_false, Nat.reduceEqDiff, Nat.reduceLT, Nat.reduceLeDiff, Nat.reduceAdd, reduceCtorEq, decide_eq_true_eq, decide_eq_false_iff_not, Bool.false_eq_true, Bool.true_eq_false, true_and, and_true, forall_const, decide_true, decide_false, true_implies, implies_true, Bool.not_true, Bool.not_false, ← decide_not, Decidable.not_not, eq_self, Option.some.injEq, exists_eq_left', exists_eq_left, and_self, Int.toNat_natCast, Int.natCast_nonneg, List.getElem?_map, Option.isSome_some, not_false_eq_true, not_true_eq_false, List.getElem?_toArray, Int.reduceToNat, Int.reduceLE, Int.reduceLT, Int.toNat_zero, Int.reduceNeg, Int.reduceEq, Int.reduceNe, Nat.reduceBEq, Nat.reduceMul, Nat.reducePow, *])
          exact ⟨x'.length, by omega, x', rfl, rfl, h4⟩
        · have hi : ¬ (b.toNat : Int) = 9 := fun h => hb (u8_int.1 (h.trans rfl))
          have h4 : b :: x' = R := by rw [← h3]; simp [cutTabs, hb]
          clear h3 hb
          subst h4
          (simp only [go_sem, reduceIte, ite_true, ite_false, Nat.reduceEqDiff, Nat.reduceLT, Nat.reduceLeDiff, Nat.reduceAdd, reduceCtorEq, decide_eq_true_eq, decide_eq_false_iff_not, Bool.false_eq_true, Bool.true_eq_false, true_and, and_true, forall_const, decide_true, decide_false, true_implies, implies_true, Bool.not_true, Bool.not_false, ← decide_not, Decidable.not_not, eq_self, Option.some.injEq, exists_eq_left', exists_eq_left, and_self, Int.toNat_natCast, Int.natCast_nonneg, List.getElem?_map, Option.isSome_some, not_false_eq_true, not_true_eq_false, List.getElem?_toArray, Int.reduceToNat, Int.reduceLE, Int.reduceLT, Int.toNat_zero, Int.reduceNeg, Int.reduceEq, Int.reduceNe, Nat.reduceBEq, Nat.reduceMul, Nat.reducePow, *])

end Go.Proofs.Ytcbonfgkfiapaaa.Pv
