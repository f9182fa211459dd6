/- The statements' own run of package here, and what holds of no reader. -/
import Derived.Test.YtcbonfgkfiapaaaHere3
set_option linter.unusedVariables false
set_option linter.unusedSimpArgs false
set_option maxRecDepth 100000
set_option maxHeartbeats 40000000
namespace Go.Proofs.Ytcbonfgkfiapaaa.Pv
open Go Go.RowKit

theorem rdr_new {S : Heap} {r : Nat} (h : S r = none) (e : List UInt8) (t : Bool) : IsRdr S (S.set r (rdr e t .sl0 .sl0 false 0)) r e t ⟨[], [], false, 0⟩ .sl0 .sl0 where
  cell := set_self
  lines := Or.inl ⟨rfl, rfl⟩
  line := Or.inl ⟨rfl, rfl⟩
  dl := fun h => by cases h
  dn := fun h => by cases h
  dln := fun b h => by cases h
  base := Heap.le_set h
  br := h
  bl := fun b h => by cases h
  bn := fun b h => by cases h
theorem ascii_one {c : UInt8} (h : c.toNat < 128) : ascii [c] := by
  intro j b hb
  have : b ∈ [c] := List.mem_of_getElem? hb
  simp at this
  rw [this]; exact h
theorem hereAwake_calls (S : Heap) : CallsQ Try.prog 50 [] S (.bool true) := by
  have hr1 : hereRight [69] false = true := by decide +kernel
  have hr2 : hereRight [10] false = false := by decide +kernel
  have hm : hereMay [69] false [97, 10] = true := by
    unfold hereMay
    rw [mayL, dif_neg (by simp), if_neg (by decide +kernel)]
    rw [show ([97, 10] : List UInt8).drop ((Lib.indexByte [97, 10] 10).toNat + 1) = [] by decide +kernel]
    rw [mayL, dif_pos rfl]
    decide +kernel
  have hf1 : feedS [69] false ⟨[], [], false, 0⟩ 97 = ⟨[], [97], true, 0⟩ := rfl
  have hf2 : feedS [69] false ⟨[], [97], true, 0⟩ 10 = ⟨[[97, 10]], [], false, 0⟩ := rfl
  have hf3 : feedS [69] false ⟨[[97, 10]], [], false, 0⟩ 69 = ⟨[[97, 10]], [69], true, 0⟩ := rfl
  have hf4 : feedS [69] false ⟨[[97, 10]], [69], true, 0⟩ 10 = ⟨[[97, 10]], [69], true, 1⟩ := rfl
  have ht : textOf ⟨[[97, 10]], [69], true, 1⟩ = ([97, 10], true) := by unfold textOf; rw [if_pos rfl]; exact congrArg (·, true) (by decide +kernel)
  refine CallsQ_less ?_
  refine CallsA_W (fun _ => false) Try.func50 rfl (Nat.le_of_ble_eq_true rfl) ?_
  simp only [Try.f50]
  have hu := Try.underlying52
  (simp only [go_sem, reduceIte, ite_true, ite_false, Nat.reduceEqDiff, Nat.reduceLT, Nat.reduceLeDiff, Nat.reduceAdd, reduceCtorEq, decide_eq_true_eq, decide_eq_false_iff_not, Bool.false_eq_true, Bool.true_eq_false, true_and, and_true, forall_const, decide_true, decide_false, true_implies, implies_true, Bool.not_true, Bool.not_false, ← decide_not, Decidable.not_not, eq_self, Option.some.injEq, exists_eq_left', exists_eq_left, and_self, Int.toNat_natCast, Int.natCast_nonneg, List.getElem?_map, Option.isSome_some, not_false_eq_true, not_true_eq_false, List.getElem?_toArray, Int.reduceToNat, Int.reduceLE, Int.reduceLT, Int.toNat_zero, Int.reduceNeg, Int.reduceEq, Int.reduceNe, Nat.reduceBEq, Nat.reduceMul, Nat.reducePow, *])
  refine OpW_call (ps := [.agg [.str [69], .bool false]]) rfl rfl call101 rfl ((hereNew_calls [69] false (by decide) (okEnd_ascii (by decide) (ascii_one (by decide))) S).mono ?_)
  rintro p S0 hp
  rw [if_pos hr1] at hp
  obtain ⟨r, hr, rfl, rfl⟩ := hp
  have R0 := rdr_new hr [69] false
  (simp only [go_sem, reduceIte, ite_true, ite_false, Nat.reduceEqDiff, Nat.reduceLT, Nat.reduceLeDiff, Nat.reduceAdd, reduceCtorEq, decide_eq_true_eq, decide_eq_false_iff_not, Bool.false_eq_true, Bool.true_eq_false, true_and, and_true, forall_const, decide_true, decide_false, true_implies, implies_true, Bool.not_true, Bool.not_false, ← decide_not, Decidable.not_not, eq_self, Option.some.injEq, exists_eq_left', exists_eq_left, and_self, Int.toNat_natCast, Int.natCast_nonneg, List.getElem?_map, Option.isSome_some, not_false_eq_true, not_true_eq_false, List.getElem?_toArray, Int.reduceToNat, Int.reduceLE, Int.reduceLT, Int.toNat_zero, Int.reduceNeg, Int.reduceEq, Int.reduceNe, Nat.reduceBEq, Nat.reduceMul, Nat.reducePow, *])
  generalize S.set r (rdr [69] false .sl0 .sl0 false 0) = S0 at *
  refine OpW_call (ps := [.mp r 0, .int .u8 ((97 : UInt8).toNat : Int)]) rfl rfl call58 rfl ((feed_calls S r [69] false _ _ _ 97 S0 R0 ⟨by decide, by decide⟩).mono ?_)
  rw [hf1]
  rintro p S1 ⟨rfl, pl1, pn1, R1⟩
  (simp only [go_sem, reduceIte, ite_true, ite_false, Nat.reduceEqDiff, Nat.reduceLT, Nat.reduceLeDiff, Nat.reduceAdd, reduceCtorEq, decide_eq_true_eq, decide_eq_false_iff_not, Bool.false_eq_true, Bool.true_eq_false, true_and, and_true, forall_const, decide_true, decide_false, true_implies, implies_true, Bool.not_true, Bool.not_false, ← decide_not, Decidable.not_not, eq_self, Option.some.injEq, exists_eq_left', exists_eq_left, and_self, Int.toNat_natCast, Int.natCast_nonneg, List.getElem?_map, Option.isSome_some, not_false_eq_true, not_true_eq_false, List.getElem?_toArray, Int.reduceToNat, Int.reduceLE, Int.reduceLT, Int.toNat_zero, Int.reduceNeg, Int.reduceEq, Int.reduceNe, Nat.reduceBEq, Nat.reduceMul, Nat.reducePow, *])
  refine OpW_call (ps := [.mp r 0, .int .u8 ((10 : UInt8).toNat : Int)]) rfl rfl call58 rfl ((feed_calls S r [69] false _ _ _ 10 S1 R1 ⟨by decide, by decide⟩).mono ?_)
  rw [hf2]
  rintro p S2 ⟨rfl, pl2, pn2, R2⟩
  (simp only [go_sem, reduceIte, ite_true, ite_false, Nat.reduceEqDiff, Nat.reduceLT, Nat.reduceLeDiff, Nat.reduceAdd, reduceCtorEq, decide_eq_true_eq, decide_eq_false_iff_not, Bool.false_eq_true, Bool.true_eq_false, true_and, and_true, forall_const, decide_true, decide_false, true_implies, implies_true, Bool.not_true, Bool.not_false, ← decide_not, Decidable.not_not, eq_self, Option.some.injEq, exists_eq_left', exists_eq_left, and_self, Int.toNat_natCast, Int.natCast_nonneg, List.getElem?_map, Option.isSome_some, not_false_eq_true, not_true_eq_false, List.getElem?_toArray, Int.reduceToNat, Int.reduceLE, Int.reduceLT, Int.toNat_zero, Int.reduceNeg, Int.reduceEq, Int.reduceNe, Nat.reduceBEq, Nat.reduceMul, Nat.reducePow, *])
  refine OpW_call (ps := [.mp r 0, .int .u8 ((69 : UInt8).toNat : Int)]) rfl rfl call58 rfl ((feed_calls S r [69] false _ _ _ 69 S2 R2 ⟨by decide, by decide⟩).mono ?_)
  rw [hf3]
  rintro p S3 ⟨rfl, pl3, pn3, R3⟩
  (simp only [go_sem, reduceIte, ite_true, ite_false, Nat.reduceEqDiff, Nat.reduceLT, Nat.reduceLeDiff, Nat.reduceAdd, reduceCtorEq, decide_eq_true_eq, decide_eq_false_iff_not, Bool.false_eq_true, Bool.true_eq_false, true_and, and_true, forall_const, decide_true, decide_false, true_implies, implies_true, Bool.not_true, Bool.not_false, ← decide_not, Decidable.not_not, eq_self, Option.some.injEq, exists_eq_left', exists_eq_left, and_self, Int.toNat_natCast, Int.natCast_nonneg, List.getElem?_map, Option.isSome_some, not_false_eq_true, not_true_eq_false, List.getElem?_toArray, Int.reduceToNat, Int.reduceLE, Int.reduceLT, Int.toNat_zero, Int.reduceNeg, Int.reduceEq, Int.reduceNe, Nat.reduceBEq, Nat.reduceMul, Nat.reducePow, *])
  refine OpW_call (ps := [.mp r 0, .int .u8 ((10 : UInt8).toNat : Int)]) rfl rfl call58 rfl ((feed_calls S r [69] false _ _ _ 10 S3 R3 ⟨by decide, by decide⟩).mono ?_)
  rw [hf4]
  rintro p S4 ⟨rfl, pl4, pn4, R4⟩
  (simp only [go_sem, reduceIte, ite_true, ite_false, Nat.reduceEqDiff, Nat.reduceLT, Nat.reduceLeDiff, Nat.reduceAdd, reduceCtorEq, decide_eq_true_eq, decide_eq_false_iff_not, Bool.false_eq_true, Bool.true_eq_false, true_and, and_true, forall_const, decide_true, decide_false, true_implies, implies_true, Bool.not_true, Bool.not_false, ← decide_not, Decidable.not_not, eq_self, Option.some.injEq, exists_eq_left', exists_eq_left, and_self, Int.toNat_natCast, Int.natCast_nonneg, List.getElem?_map, Option.isSome_some, not_false_eq_true, not_true_eq_false, List.getElem?_toArray, Int.reduceToNat, Int.reduceLE, Int.reduceLT, Int.toNat_zero, Int.reduceNeg, Int.reduceEq, Int.reduceNe, Nat.reduceBEq, Nat.reduceMul, Nat.reducePow, *])
  refine OpW_call (ps := [.mp r 0]) rfl rfl call57 rfl ((text_calls S r [69] false _ _ _ S4 R4 (by decide) (by decide +kernel)).mono ?_)
  rw [ht]
  rintro p S5 ⟨rfl, rfl⟩
  (simp only [go_sem, reduceIte, ite_true, ite_false, Nat.reduceEqDiff, Nat.reduceLT, Nat.reduceLeDiff, Nat.reduceAdd, reduceCtorEq, decide_eq_true_eq, decide_eq_false_iff_not, Bool.false_eq_true, Bool.true_eq_false, true_and, and_true, forall_const, decide_true, decide_false, true_implies, implies_true, Bool.not_true, Bool.not_false, ← decide_not, Decidable.not_not, eq_self, Option.some.injEq, exists_eq_left', exists_eq_left, and_self, Int.toNat_natCast, Int.natCast_nonneg, List.getElem?_map, Option.isSome_some, not_false_eq_true, not_true_eq_false, List.getElem?_toArray, Int.reduceToNat, Int.reduceLE, Int.reduceLT, Int.toNat_zero, Int.reduceNeg, Int.reduceEq, Int.reduceNe, Nat.reduceBEq, Nat.reduceMul, Nat.reducePow, *])
  refine OpW_call (ps := [.agg [.str [69], .bool false], .str [97, 10]]) rfl rfl call51 rfl ((may_calls [69] false [97, 10] (by decide) (okEnd_ascii (by decide) (ascii_one (by decide))) (by decide) _).mono ?_)
  rw [hm]
  rintro p S6 ⟨rfl, rfl⟩
  (simp only [go_sem, reduceIte, ite_true, ite_false, Nat.reduceEqDiff, Nat.reduceLT, Nat.reduceLeDiff, Nat.reduceAdd, reduceCtorEq, decide_eq_true_eq, decide_eq_false_iff_not, Bool.false_eq_true, Bool.true_eq_false, true_and, and_true, forall_const, decide_true, decide_false, true_implies, implies_true, Bool.not_true, Bool.not_false, ← decide_not, Decidable.not_not, eq_self, Option.some.injEq, exists_eq_left', exists_eq_left, and_self, Int.toNat_natCast, Int.natCast_nonneg, List.getElem?_map, Option.isSome_some, not_false_eq_true, not_true_eq_false, List.getElem?_toArray, Int.reduceToNat, Int.reduceLE, Int.reduceLT, Int.toNat_zero, Int.reduceNeg, Int.reduceEq, Int.reduceNe, Nat.reduceBEq, Nat.reduceMul, Nat.reducePow, *])
  refine OpW_call (ps := [.agg [.str [10], .bool false]]) rfl rfl call101 rfl ((hereNew_calls [10] false (by decide) (okEnd_ascii (by decide) (ascii_one (by decide))) _).mono ?_)
  rintro p S7 hp
  rw [if_neg (by rw [hr2]; simp)] at hp
  obtain ⟨rfl, rfl⟩ := hp
  (simp only [go_sem, reduceIte, ite_true, ite_false, Nat.reduceEqDiff, Nat.reduceLT, Nat.reduceLeDiff, Nat.reduceAdd, reduceCtorEq, decide_eq_true_eq, decide_eq_false_iff_not, Bool.false_eq_true, Bool.true_eq_false, true_and, and_true, forall_const, decide_true, decide_false, true_implies, implies_true, Bool.not_true, Bool.not_false, ← decide_not, Decidable.not_not, eq_self, Option.some.injEq, exists_eq_left', exists_eq_left, and_self, Int.toNat_natCast, Int.natCast_nonneg, List.getElem?_map, Option.isSome_some, not_false_eq_true, not_true_eq_false, List.getElem?_toArray, Int.reduceToNat, Int.reduceLE, Int.reduceLT, Int.toNat_zero, Int.reduceNeg, Int.reduceEq, Int.reduceNe, Nat.reduceBEq, Nat.reduceMul, Nat.reducePow, *])
  exact R4.base
theorem hereNone_calls (c : UInt8) (S : Heap) : CallsQ Try.prog 11 [.int .u8 (c.toNat : Int)] S (.bool true) := by
  refine CallsA_W (fun _ => false) Try.func11 rfl (Nat.le_of_ble_eq_true rfl) ?_
  simp only [Try.f11]
  (simp only [go_sem, reduceIte, ite_true, ite_false, Nat.reduceEqDiff, Nat.reduceLT, Nat.reduceLeDiff, Nat.reduceAdd, reduceCtorEq, decide_eq_true_eq, decide_eq_false_iff_not, Bool.false_eq_true, Bool.true_eq_false, true_and, and_true, forall_const, decide_true, decide_false, true_implies, implies_true, Bool.not_true, Bool.not_false, ← decide_not, Decidable.not_not, eq_self, Option.some.injEq, exists_eq_left', exists_eq_left, and_self, Int.toNat_natCast, Int.natCast_nonneg, List.getElem?_map, Option.isSome_some, not_false_eq_true, not_true_eq_false, List.getElem?_toArray, Int.reduceToNat, Int.reduceLE, Int.reduceLT, Int.toNat_zero, Int.reduceNeg, Int.reduceEq, Int.reduceNe, Nat.reduceBEq, Nat.reduceMul, Nat.reducePow, *])
  refine OpW_call rfl rfl call57 rfl ((text_nil _).mono ?_)
  rintro p S' ⟨rfl, rfl⟩
  (simp only [go_sem, reduceIte, ite_true, ite_false, Nat.reduceEqDiff, Nat.reduceLT, Nat.reduceLeDiff, Nat.reduceAdd, reduceCtorEq, decide_eq_true_eq, decide_eq_false_iff_not, Bool.false_eq_true, Bool.true_eq_false, true_and, and_true, forall_const, decide_true, decide_false, true_implies, implies_true, Bool.not_true, Bool.not_false, ← decide_not, Decidable.not_not, eq_self, Option.some.injEq, exists_eq_left', exists_eq_left, and_self, Int.toNat_natCast, Int.natCast_nonneg, List.getElem?_map, Option.isSome_some, not_false_eq_true, not_true_eq_false, List.getElem?_toArray, Int.reduceToNat, Int.reduceLE, Int.reduceLT, Int.toNat_zero, Int.reduceNeg, Int.reduceEq, Int.reduceNe, Nat.reduceBEq, Nat.reduceMul, Nat.reducePow, *])
  refine OpW_call rfl rfl call58 rfl ((feed_nil _ _).mono ?_)
  rintro p S' ⟨rfl, rfl⟩
  (simp only [go_sem, reduceIte, ite_true, ite_false, Nat.reduceEqDiff, Nat.reduceLT, Nat.reduceLeDiff, Nat.reduceAdd, reduceCtorEq, decide_eq_true_eq, decide_eq_false_iff_not, Bool.false_eq_true, Bool.true_eq_false, true_and, and_true, forall_const, decide_true, decide_false, true_implies, implies_true, Bool.not_true, Bool.not_false, ← decide_not, Decidable.not_not, eq_self, Option.some.injEq, exists_eq_left', exists_eq_left, and_self, Int.toNat_natCast, Int.natCast_nonneg, List.getElem?_map, Option.isSome_some, not_false_eq_true, not_true_eq_false, List.getElem?_toArray, Int.reduceToNat, Int.reduceLE, Int.reduceLT, Int.toNat_zero, Int.reduceNeg, Int.reduceEq, Int.reduceNe, Nat.reduceBEq, Nat.reduceMul, Nat.reducePow, *])
  refine OpW_call rfl rfl call59 rfl ((rest_nil _).mono ?_)
  rintro p S' ⟨rfl, rfl⟩
  (simp only [go_sem, reduceIte, ite_true, ite_false, Nat.reduceEqDiff, Nat.reduceLT, Nat.reduceLeDiff, Nat.reduceAdd, reduceCtorEq, decide_eq_true_eq, decide_eq_false_iff_not, Bool.false_eq_true, Bool.true_eq_false, true_and, and_true, forall_const, decide_true, decide_false, true_implies, implies_true, Bool.not_true, Bool.not_false, ← decide_not, Decidable.not_not, eq_self, Option.some.injEq, exists_eq_left', exists_eq_left, and_self, Int.toNat_natCast, Int.natCast_nonneg, List.getElem?_map, Option.isSome_some, not_false_eq_true, not_true_eq_false, List.getElem?_toArray, Int.reduceToNat, Int.reduceLE, Int.reduceLT, Int.toNat_zero, Int.reduceNeg, Int.reduceEq, Int.reduceNe, Nat.reduceBEq, Nat.reduceMul, Nat.reducePow, *])
  refine OpW_call rfl rfl call50 rfl ((hereAwake_calls _).mono ?_)
  rintro p S' ⟨rfl, rfl⟩
  (simp only [go_sem, reduceIte, ite_true, ite_false, Nat.reduceEqDiff, Nat.reduceLT, Nat.reduceLeDiff, Nat.reduceAdd, reduceCtorEq, decide_eq_true_eq, decide_eq_false_iff_not, Bool.false_eq_true, Bool.true_eq_false, true_and, and_true, forall_const, decide_true, decide_false, true_implies, implies_true, Bool.not_true, Bool.not_false, ← decide_not, Decidable.not_not, eq_self, Option.some.injEq, exists_eq_left', exists_eq_left, and_self, Int.toNat_natCast, Int.natCast_nonneg, List.getElem?_map, Option.isSome_some, not_false_eq_true, not_true_eq_false, List.getElem?_toArray, Int.reduceToNat, Int.reduceLE, Int.reduceLT, Int.toNat_zero, Int.reduceNeg, Int.reduceEq, Int.reduceNe, Nat.reduceBEq, Nat.reduceMul, Nat.reducePow, *])

end Go.Proofs.Ytcbonfgkfiapaaa.Pv
