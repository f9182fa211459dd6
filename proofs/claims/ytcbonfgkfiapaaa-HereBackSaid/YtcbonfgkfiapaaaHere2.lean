/- What a reader of package here does with a byte, and its text. -/
import Derived.Test.YtcbonfgkfiapaaaHere
set_option linter.unusedVariables false
set_option linter.unusedSimpArgs false
set_option maxRecDepth 100000
set_option maxHeartbeats 4000000
namespace Go.Proofs.Ytcbonfgkfiapaaa.Pv
open Go Go.RowKit

theorem feed_calls (B : Heap) (r : Nat) (e : List UInt8) (t : Bool) (s : RS) (pl pn : PV) (c : UInt8) (S : Heap) (h : IsRdr B S r e t s pl pn) (hsm : small s) :
    CallsA Try.prog 58 [.mp r 0, .int .u8 (c.toNat : Int)] S fun q S' => q = .int .i64 (feedS e t s c).sig ∧ ∃ pl' pn', IsRdr B S' r e t (feedS e t s c) pl' pn' := by
  have hc := h.cell
  unfold rCells at hc
  have hgn := h.line
  obtain ⟨hs1, hs2⟩ := hsm
  by_cases h0 : s.sig = 0
  · by_cases c0 : c = 0
    · have hf : feedS e t s c = { s with sig := 3 } := by unfold feedS; simp [h0, c0]
      rw [hf]
      have ci : (c.toNat : Int) = 0 := by rw [c0]; rfl
      clear c0 hf
      refine CallsA_W (fun _ => false) Try.func58 rfl (Nat.le_of_ble_eq_true rfl) ?_
      simp only [Try.f58]
      (simp only [go_sem, reduceIte, ite_true, ite_false, Nat.reduceEqDiff, Nat.reduceLT, Nat.reduceLeDiff, Nat.reduceAdd, reduceCtorEq, decide_eq_true_eq, decide_eq_false_iff_not, Bool.false_eq_true, Bool.true_eq_false, true_and, and_true, forall_const, decide_true, decide_false, true_implies, implies_true, Bool.not_true, Bool.not_false, ← decide_not, Decidable.not_not, eq_self, Option.some.injEq, exists_eq_left', exists_eq_left, and_self, Int.toNat_natCast, Int.natCast_nonneg, List.getElem?_map, Option.isSome_some, not_false_eq_true, not_true_eq_false, List.getElem?_toArray, Int.reduceToNat, Int.reduceLE, Int.reduceLT, Int.toNat_zero, Int.reduceNeg, Int.reduceEq, Int.reduceNe, Nat.reduceBEq, Nat.reduceMul, Nat.reducePow, *])
      refine OpW_put (es := [.int .i64 3]) rfl rfl hc rfl rfl sz3 (Nat.le_of_ble_eq_true rfl) rfl ?_
      (simp only [go_sem, reduceIte, ite_true, ite_false, Nat.reduceEqDiff, Nat.reduceLT, Nat.reduceLeDiff, Nat.reduceAdd, reduceCtorEq, decide_eq_true_eq, decide_eq_false_iff_not, Bool.false_eq_true, Bool.true_eq_false, true_and, and_true, forall_const, decide_true, decide_false, true_implies, implies_true, Bool.not_true, Bool.not_false, ← decide_not, Decidable.not_not, eq_self, Option.some.injEq, exists_eq_left', exists_eq_left, and_self, Int.toNat_natCast, Int.natCast_nonneg, List.getElem?_map, Option.isSome_some, not_false_eq_true, not_true_eq_false, List.getElem?_toArray, Int.reduceToNat, Int.reduceLE, Int.reduceLT, Int.toNat_zero, Int.reduceNeg, Int.reduceEq, Int.reduceNe, Nat.reduceBEq, Nat.reduceMul, Nat.reducePow, *])
      exact ⟨_, _, h.put { s with sig := 3 } rfl rfl⟩
    have ci : ¬ (c.toNat : Int) = 0 := fun e => c0 (by rw [← UInt8.toNat_inj]; have : (0 : UInt8).toNat = 0 := rfl; omega)
    by_cases c10 : c = 10
    · have ci2 : (c.toNat : Int) = 10 := by rw [c10]; rfl
      rw [show feedS e t s c = feedS e t s 10 by rw [c10]]
      clear c10 c0
      refine CallsA_W (fun _ => false) Try.func58 rfl (Nat.le_of_ble_eq_true rfl) ?_
      simp only [Try.f58]
      (simp only [go_sem, reduceIte, ite_true, ite_false, Nat.reduceEqDiff, Nat.reduceLT, Nat.reduceLeDiff, Nat.reduceAdd, reduceCtorEq, decide_eq_true_eq, decide_eq_false_iff_not, Bool.false_eq_true, Bool.true_eq_false, true_and, and_true, forall_const, decide_true, decide_false, true_implies, implies_true, Bool.not_true, Bool.not_false, ← decide_not, Decidable.not_not, eq_self, Option.some.injEq, exists_eq_left', exists_eq_left, and_self, Int.toNat_natCast, Int.natCast_nonneg, List.getElem?_map, Option.isSome_some, not_false_eq_true, not_true_eq_false, List.getElem?_toArray, Int.reduceToNat, Int.reduceLE, Int.reduceLT, Int.toNat_zero, Int.reduceNeg, Int.reduceEq, Int.reduceNe, Nat.reduceBEq, Nat.reduceMul, Nat.reducePow, *])
      refine OpW_call rfl rfl call110 rfl ((over_calls B r e t s pl pn S h ⟨hs1, hs2⟩ h0).mono ?_)
      rintro p S' ⟨rfl, k⟩
      (simp only [go_sem, reduceIte, ite_true, ite_false, Nat.reduceEqDiff, Nat.reduceLT, Nat.reduceLeDiff, Nat.reduceAdd, reduceCtorEq, decide_eq_true_eq, decide_eq_false_iff_not, Bool.false_eq_true, Bool.true_eq_false, true_and, and_true, forall_const, decide_true, decide_false, true_implies, implies_true, Bool.not_true, Bool.not_false, ← decide_not, Decidable.not_not, eq_self, Option.some.injEq, exists_eq_left', exists_eq_left, and_self, Int.toNat_natCast, Int.natCast_nonneg, List.getElem?_map, Option.isSome_some, not_false_eq_true, not_true_eq_false, List.getElem?_toArray, Int.reduceToNat, Int.reduceLE, Int.reduceLT, Int.toNat_zero, Int.reduceNeg, Int.reduceEq, Int.reduceNe, Nat.reduceBEq, Nat.reduceMul, Nat.reducePow, *])
    have ci2 : ¬ (c.toNat : Int) = 10 := fun e => c10 (by rw [← UInt8.toNat_inj]; have : (10 : UInt8).toNat = 10 := rfl; omega)
    by_cases c9 : c = 9 ∧ t = true ∧ s.line = []
    · obtain ⟨c9, rfl, hl⟩ := c9
      have hf : feedS e true s c = { s with sm := true } := by unfold feedS; simp [h0, c9, hl]
      rw [hf]
      have ci3 : (c.toNat : Int) = 9 := by rw [c9]; rfl
      clear hf c9 c10 c0
      refine CallsA_W (fun _ => false) Try.func58 rfl (Nat.le_of_ble_eq_true rfl) ?_
      simp only [Try.f58]
      have hsh : (pn = .sl0 ∨ ∃ b c, pn = .vec b 0 c) := by
        rcases hgn with ⟨h1, _⟩ | ⟨b, c', _, h1, _⟩
        · exact Or.inl h1
        · exact Or.inr ⟨b, c', by rw [h1, hl]; rfl⟩
      have k := h.put { s with sm := true } rfl rfl
      rw [hl, h0] at k
      have hz0 : ¬ ((0 : Int) < ((0 : Nat) : Int)) := by omega
      rcases hsh with rfl | ⟨bn, cn, rfl⟩
      all_goals (simp only [go_sem, reduceIte, ite_true, ite_false, Nat.reduceEqDiff, Nat.reduceLT, Nat.reduceLeDiff, Nat.reduceAdd, reduceCtorEq, decide_eq_true_eq, decide_eq_false_iff_not, Bool.false_eq_true, Bool.true_eq_false, true_and, and_true, forall_const, decide_true, decide_false, true_implies, implies_true, Bool.not_true, Bool.not_false, ← decide_not, Decidable.not_not, eq_self, Option.some.injEq, exists_eq_left', exists_eq_left, and_self, Int.toNat_natCast, Int.natCast_nonneg, List.getElem?_map, Option.isSome_some, not_false_eq_true, not_true_eq_false, List.getElem?_toArray, Int.reduceToNat, Int.reduceLE, Int.reduceLT, Int.toNat_zero, Int.reduceNeg, Int.reduceEq, Int.reduceNe, Nat.reduceBEq, Nat.reduceMul, Nat.reducePow, *])
      all_goals refine OpW_put (es := [.bool true]) rfl rfl hc rfl rfl sz4 (Nat.le_of_ble_eq_true rfl) rfl ?_
      all_goals (simp only [go_sem, reduceIte, ite_true, ite_false, Nat.reduceEqDiff, Nat.reduceLT, Nat.reduceLeDiff, Nat.reduceAdd, reduceCtorEq, decide_eq_true_eq, decide_eq_false_iff_not, Bool.false_eq_true, Bool.true_eq_false, true_and, and_true, forall_const, decide_true, decide_false, true_implies, implies_true, Bool.not_true, Bool.not_false, ← decide_not, Decidable.not_not, eq_self, Option.some.injEq, exists_eq_left', exists_eq_left, and_self, Int.toNat_natCast, Int.natCast_nonneg, List.getElem?_map, Option.isSome_some, not_false_eq_true, not_true_eq_false, List.getElem?_toArray, Int.reduceToNat, Int.reduceLE, Int.reduceLT, Int.toNat_zero, Int.reduceNeg, Int.reduceEq, Int.reduceNe, Nat.reduceBEq, Nat.reduceMul, Nat.reducePow, *])
      all_goals exact ⟨_, _, k⟩
    · have hf : feedS e t s c = { s with line := s.line ++ [c], sm := true } := by unfold feedS; simp [h0, c0, c10]; intro h1 h2 h3; exact absurd ⟨h1, h2, h3⟩ c9
      rw [hf]
      have k := h.put { s with sm := true } rfl rfl
      rw [h0] at k
      have hgn2 := k.line
      have hway : (¬ (c.toNat : Int) = 9) ∨ ((c.toNat : Int) = 9 ∧ t = false) ∨ ((c.toNat : Int) = 9 ∧ t = true ∧ s.line ≠ []) := by
        by_cases h1 : (c.toNat : Int) = 9
        · have h9 : c = 9 := by rw [← UInt8.toNat_inj]; have : (9 : UInt8).toNat = 9 := rfl; omega
          cases t with
          | false => exact Or.inr (Or.inl ⟨h1, rfl⟩)
          | true => exact Or.inr (Or.inr ⟨h1, rfl, fun h3 => c9 ⟨h9, rfl, h3⟩⟩)
        · exact Or.inl h1
      have hsh : pn = .sl0 ∧ s.line = [] ∨ ∃ b c, pn = .vec b s.line.length c := by
        rcases hgn with ⟨h1, h2⟩ | ⟨b, c', _, h1, _⟩
        · exact Or.inl ⟨h1, by simpa using h2⟩
        · exact Or.inr ⟨b, c', by rw [h1]; simp⟩
      have hrow : (s.line ++ [c]).map byteRow = s.line.map byteRow ++ [[.int .u8 (c.toNat : Int)]] := by simp [byteRow]
      have hll : (s.line.map byteRow).length = s.line.length := by simp
      clear hf c9 c10 c0
      refine CallsA_W (fun _ => false) Try.func58 rfl (Nat.le_of_ble_eq_true rfl) ?_
      simp only [Try.f58]
      rcases hsh with ⟨rfl, hl0⟩ | ⟨bn, cn, rfl⟩ <;> rcases hway with hw | ⟨hw, rfl⟩ | ⟨hw, rfl, hw3⟩
      case inl.inr.inr => exact absurd hl0 hw3
      case' inr.inr.inr => have hpos : (0 : Int) < (s.line.length : Int) := by have := List.length_pos_iff.2 hw3; omega
      all_goals (simp only [go_sem, reduceIte, ite_true, ite_false, Nat.reduceEqDiff, Nat.reduceLT, Nat.reduceLeDiff, Nat.reduceAdd, reduceCtorEq, decide_eq_true_eq, decide_eq_false_iff_not, Bool.false_eq_true, Bool.true_eq_false, true_and, and_true, forall_const, decide_true, decide_false, true_implies, implies_true, Bool.not_true, Bool.not_false, ← decide_not, Decidable.not_not, eq_self, Option.some.injEq, exists_eq_left', exists_eq_left, and_self, Int.toNat_natCast, Int.natCast_nonneg, List.getElem?_map, Option.isSome_some, not_false_eq_true, not_true_eq_false, List.getElem?_toArray, Int.reduceToNat, Int.reduceLE, Int.reduceLT, Int.toNat_zero, Int.reduceNeg, Int.reduceEq, Int.reduceNe, Nat.reduceBEq, Nat.reduceMul, Nat.reducePow, *])
      all_goals refine OpW_put (es := [.bool true]) rfl rfl hc rfl rfl sz4 (Nat.le_of_ble_eq_true rfl) rfl ?_
      all_goals (simp only [go_sem, reduceIte, ite_true, ite_false, Nat.reduceEqDiff, Nat.reduceLT, Nat.reduceLeDiff, Nat.reduceAdd, reduceCtorEq, decide_eq_true_eq, decide_eq_false_iff_not, Bool.false_eq_true, Bool.true_eq_false, true_and, and_true, forall_const, decide_true, decide_false, true_implies, implies_true, Bool.not_true, Bool.not_false, ← decide_not, Decidable.not_not, eq_self, Option.some.injEq, exists_eq_left', exists_eq_left, and_self, Int.toNat_natCast, Int.natCast_nonneg, List.getElem?_map, Option.isSome_some, not_false_eq_true, not_true_eq_false, List.getElem?_toArray, Int.reduceToNat, Int.reduceLE, Int.reduceLT, Int.toNat_zero, Int.reduceNeg, Int.reduceEq, Int.reduceNe, Nat.reduceBEq, Nat.reduceMul, Nat.reducePow, *])
      all_goals first
        | refine OpW_append (rows := [[.int .u8 (c.toNat : Int)]]) (olds := s.line.map byteRow) rfl app28 rfl rfl (fun r hr c' hc' => by simp at hr; subst hr; simp at hc'; subst hc'; rfl) rfl hgn2 (by rw [hll]; simp [maxLen]; omega) (by rw [hll]; simp; omega) ?_
        | refine OpW_append (rows := [[.int .u8 9]]) (olds := s.line.map byteRow) rfl app28 rfl rfl (fun r hr c' hc' => by simp at hr; subst hr; simp at hc'; subst hc'; rfl) rfl hgn2 (by rw [hll]; simp [maxLen]; omega) (by rw [hll]; simp; omega) ?_
      all_goals rintro p S' g1 g2 g3
      all_goals first | rw [← hrow] at g1 | rw [← hw, ← hrow] at g1
      all_goals obtain ⟨k1, k2⟩ := k.growLine { s with line := s.line ++ [c], sm := true } rfl g1 ⟨g2, g3⟩
      all_goals unfold rCells at k1
      all_goals rcases g1 with ⟨_, hbad⟩ | ⟨b', cp, cp', rfl, g5⟩
      all_goals first | (exfalso; simp at hbad; done) | skip
      all_goals generalize hN : (List.map byteRow (s.line ++ [c])).length = N at *
      all_goals (simp only [go_sem, reduceIte, ite_true, ite_false, Nat.reduceEqDiff, Nat.reduceLT, Nat.reduceLeDiff, Nat.reduceAdd, reduceCtorEq, decide_eq_true_eq, decide_eq_false_iff_not, Bool.false_eq_true, Bool.true_eq_false, true_and, and_true, forall_const, decide_true, decide_false, true_implies, implies_true, Bool.not_true, Bool.not_false, ← decide_not, Decidable.not_not, eq_self, Option.some.injEq, exists_eq_left', exists_eq_left, and_self, Int.toNat_natCast, Int.natCast_nonneg, List.getElem?_map, Option.isSome_some, not_false_eq_true, not_true_eq_false, List.getElem?_toArray, Int.reduceToNat, Int.reduceLE, Int.reduceLT, Int.toNat_zero, Int.reduceNeg, Int.reduceEq, Int.reduceNe, Nat.reduceBEq, Nat.reduceMul, Nat.reducePow, *])
      all_goals refine OpW_put (es := [.vec b' N cp]) rfl rfl k1 rfl rfl sz28 (Nat.le_of_ble_eq_true rfl) rfl ?_
      all_goals (simp only [go_sem, reduceIte, ite_true, ite_false, Nat.reduceEqDiff, Nat.reduceLT, Nat.reduceLeDiff, Nat.reduceAdd, reduceCtorEq, decide_eq_true_eq, decide_eq_false_iff_not, Bool.false_eq_true, Bool.true_eq_false, true_and, and_true, forall_const, decide_true, decide_false, true_implies, implies_true, Bool.not_true, Bool.not_false, ← decide_not, Decidable.not_not, eq_self, Option.some.injEq, exists_eq_left', exists_eq_left, and_self, Int.toNat_natCast, Int.natCast_nonneg, List.getElem?_map, Option.isSome_some, not_false_eq_true, not_true_eq_false, List.getElem?_toArray, Int.reduceToNat, Int.reduceLE, Int.reduceLT, Int.toNat_zero, Int.reduceNeg, Int.reduceEq, Int.reduceNe, Nat.reduceBEq, Nat.reduceMul, Nat.reducePow, *])
      all_goals first
        | exact ⟨_, _, k2⟩
        | (rw [h0] at k2; exact ⟨_, _, k2⟩)
        | (rw [hl0, List.nil_append] at k2; exact ⟨_, _, k2⟩)
        | (rw [h0, hl0, List.nil_append] at k2; exact ⟨_, _, k2⟩)
  · have hf : feedS e t s c = s := by unfold feedS; simp [h0]
    rw [hf]
    refine CallsA_W (fun _ => false) Try.func58 rfl (Nat.le_of_ble_eq_true rfl) ?_
    simp only [Try.f58]
    (simp only [go_sem, reduceIte, ite_true, ite_false, Nat.reduceEqDiff, Nat.reduceLT, Nat.reduceLeDiff, Nat.reduceAdd, reduceCtorEq, decide_eq_true_eq, decide_eq_false_iff_not, Bool.false_eq_true, Bool.true_eq_false, true_and, and_true, forall_const, decide_true, decide_false, true_implies, implies_true, Bool.not_true, Bool.not_false, ← decide_not, Decidable.not_not, eq_self, Option.some.injEq, exists_eq_left', exists_eq_left, and_self, Int.toNat_natCast, Int.natCast_nonneg, List.getElem?_map, Option.isSome_some, not_false_eq_true, not_true_eq_false, List.getElem?_toArray, Int.reduceToNat, Int.reduceLE, Int.reduceLT, Int.toNat_zero, Int.reduceNeg, Int.reduceEq, Int.reduceNe, Nat.reduceBEq, Nat.reduceMul, Nat.reducePow, *])
    exact ⟨_, _, h⟩

end Go.Proofs.Ytcbonfgkfiapaaa.Pv
