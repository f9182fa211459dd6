/- Where an assignment's sign stands. -/
import Derived.Test.YtcbonfgkfiapaaaChar4
set_option linter.unusedVariables false
set_option linter.unusedSimpArgs false
set_option maxRecDepth 100000
set_option maxHeartbeats 4000000
namespace Go.Proofs.Ytcbonfgkfiapaaa.Pv
open Go Go.RowKit

theorem idx_at : ∀ {s : List UInt8} {k : Nat} {c : UInt8}, s[k]? = some c → (∀ (j : Nat) (d : UInt8), j < k → s[j]? = some d → d ≠ c) → Lib.indexByte s c = (k : Int)
  | [], k, c, h, _ => by simp at h
  | b :: s, 0, c, h, _ => by simp at h; subst h; simp [Lib.indexByte]
  | b :: s, k + 1, c, h, hj => by
    have h' : s[k]? = some c := by simpa using h
    have ih := idx_at h' fun j d hj' hd => hj (j + 1) d (by omega) (by simpa using hd)
    have hb : ¬ b = c := hj 0 b (by omega) rfl
    unfold Lib.indexByte
    rw [if_neg (by simpa using hb), ih, if_neg (by simp)]
    rfl
theorem idx_no : ∀ {s : List UInt8} {c : UInt8}, (∀ (j : Nat) (d : UInt8), s[j]? = some d → d ≠ c) → Lib.indexByte s c = -1
  | [], c, _ => rfl
  | b :: s, c, h => by
    have ih := idx_no (s := s) (c := c) fun j d hd => h (j + 1) d (by simpa using hd)
    have hb : ¬ b = c := h 0 b rfl
    unfold Lib.indexByte
    rw [if_neg (by simpa using hb), ih]; rfl
theorem idx_cases (s : List UInt8) (c : UInt8) : Lib.indexByte s c = -1 ∨ ∃ k : Nat, Lib.indexByte s c = (k : Int) ∧ k < s.length ∧ s[k]? = some c := by
  induction s with
  | nil => left; rfl
  | cons b s ih =>
    unfold Lib.indexByte
    by_cases hb : b = c
    · right; exact ⟨0, by rw [if_pos (by simpa using hb)]; rfl, by simp, by simp [hb]⟩
    · rw [if_neg (by simpa using hb)]
      rcases ih with ih | ⟨k, h1, h2, h3⟩
      · left; rw [ih]; rfl
      · right; exact ⟨k + 1, by rw [h1, if_neg (by simp)]; rfl, by simp; omega, by simpa using h3⟩
def assignAt (s : List UInt8) : Int := if Lib.indexByte s 61 < 0 then -1 else if isName (s.take (Lib.indexByte s 61).toNat) then Lib.indexByte s 61 else -1
theorem assign_calls (s : List UInt8) (hs : s.length ≤ 4611686018427387904) (S : Heap) : CallsQ Try.prog 29 [.str s] S (.int .i64 (assignAt s)) := by
  refine CallsA_W (fun _ => false) Try.func29 rfl (Nat.le_of_ble_eq_true rfl) ?_
  simp only [Try.f29]
  (simp only [go_sem, reduceIte, ite_true, ite_false, Nat.reduceEqDiff, Nat.reduceLT, Nat.reduceLeDiff, Nat.reduceAdd, reduceCtorEq, decide_eq_true_eq, decide_eq_false_iff_not, Bool.false_eq_true, Bool.true_eq_false, true_and, and_true, forall_const, decide_true, decide_false, true_implies, implies_true, Bool.not_true, Bool.not_false, ← decide_not, Decidable.not_not, eq_self, Option.some.injEq, exists_eq_left', exists_eq_left, and_self, Int.toNat_natCast, Int.natCast_nonneg, List.getElem?_map, Option.isSome_some, not_false_eq_true, not_true_eq_false, List.getElem?_toArray, Int.reduceToNat, Int.reduceLE, Int.reduceLT, Int.toNat_zero, Int.reduceNeg, *])
  refine OpW_call rfl rfl call84 rfl ((indexByte_calls s 61 _).mono ?_)
  rintro p S' ⟨rfl, rfl⟩
  unfold assignAt
  rcases idx_cases s 61 with h | ⟨k, h, hk, h3⟩
  · rw [h]
    (simp only [go_sem, reduceIte, ite_true, ite_false, Nat.reduceEqDiff, Nat.reduceLT, Nat.reduceLeDiff, Nat.reduceAdd, reduceCtorEq, decide_eq_true_eq, decide_eq_false_iff_not, Bool.false_eq_true, Bool.true_eq_false, true_and, and_true, forall_const, decide_true, decide_false, true_implies, implies_true, Bool.not_true, Bool.not_false, ← decide_not, Decidable.not_not, eq_self, Option.some.injEq, exists_eq_left', exists_eq_left, and_self, Int.toNat_natCast, Int.natCast_nonneg, List.getElem?_map, Option.isSome_some, not_false_eq_true, not_true_eq_false, List.getElem?_toArray, Int.reduceToNat, Int.reduceLE, Int.reduceLT, Int.toNat_zero, Int.reduceNeg, *])
  · rw [h]
    have hn : ¬ ((k : Int) < 0) := by omega
    have hk' : k ≤ s.length := by omega
    have h0 := Nat.zero_le k
    (simp only [go_sem, reduceIte, ite_true, ite_false, Nat.reduceEqDiff, Nat.reduceLT, Nat.reduceLeDiff, Nat.reduceAdd, reduceCtorEq, decide_eq_true_eq, decide_eq_false_iff_not, Bool.false_eq_true, Bool.true_eq_false, true_and, and_true, forall_const, decide_true, decide_false, true_implies, implies_true, Bool.not_true, Bool.not_false, ← decide_not, Decidable.not_not, eq_self, Option.some.injEq, exists_eq_left', exists_eq_left, and_self, Int.toNat_natCast, Int.natCast_nonneg, List.getElem?_map, Option.isSome_some, not_false_eq_true, not_true_eq_false, List.getElem?_toArray, Int.reduceToNat, Int.reduceLE, Int.reduceLT, Int.toNat_zero, Int.reduceNeg, *])
    refine OpW_call rfl rfl call23 rfl ((name_calls (s.take k) (by rw [List.length_take]; omega) _).mono ?_)
    rintro p S' ⟨rfl, rfl⟩
    rcases Bool.eq_false_or_eq_true (isName (s.take k)) with hb | hb <;> (simp only [go_sem, reduceIte, ite_true, ite_false, Nat.reduceEqDiff, Nat.reduceLT, Nat.reduceLeDiff, Nat.reduceAdd, reduceCtorEq, decide_eq_true_eq, decide_eq_false_iff_not, Bool.false_eq_true, Bool.true_eq_false, true_and, and_true, forall_const, decide_true, decide_false, true_implies, implies_true, Bool.not_true, Bool.not_false, ← decide_not, Decidable.not_not, eq_self, Option.some.injEq, exists_eq_left', exists_eq_left, and_self, Int.toNat_natCast, Int.natCast_nonneg, List.getElem?_map, Option.isSome_some, not_false_eq_true, not_true_eq_false, List.getElem?_toArray, Int.reduceToNat, Int.reduceLE, Int.reduceLT, Int.toNat_zero, Int.reduceNeg, *])
theorem refAssign_calls (s : List UInt8) (hs : s.length ≤ 4611686018427387904) (S : Heap) : CallsQ Try.prog 30 [.str s] S (.int .i64 (assignAt s)) := by
  refine CallsA_W (fun _ => false) Try.func30 rfl (Nat.le_of_ble_eq_true rfl) ?_
  simp only [Try.f30]
  (simp only [go_sem, reduceIte, ite_true, ite_false, Nat.reduceEqDiff, Nat.reduceLT, Nat.reduceLeDiff, Nat.reduceAdd, reduceCtorEq, decide_eq_true_eq, decide_eq_false_iff_not, Bool.false_eq_true, Bool.true_eq_false, true_and, and_true, forall_const, decide_true, decide_false, true_implies, implies_true, Bool.not_true, Bool.not_false, ← decide_not, Decidable.not_not, eq_self, Option.some.injEq, exists_eq_left', exists_eq_left, and_self, Int.toNat_natCast, Int.natCast_nonneg, List.getElem?_map, Option.isSome_some, not_false_eq_true, not_true_eq_false, List.getElem?_toArray, Int.reduceToNat, Int.reduceLE, Int.reduceLT, Int.toNat_zero, Int.reduceNeg, *])
  refine CodeW_loop (fun m σ' S' => ∃ i : Nat, i + m = s.length ∧ σ' 0 = .str s ∧ σ' 3 = .int .i64 i ∧ S' = S ∧ ∀ j d, j < i → s[j]? = some d → d ≠ 61) s.length ?_ ?_
  · (simp only [go_sem, reduceIte, ite_true, ite_false, Nat.reduceEqDiff, Nat.reduceLT, Nat.reduceLeDiff, Nat.reduceAdd, reduceCtorEq, decide_eq_true_eq, decide_eq_false_iff_not, Bool.false_eq_true, Bool.true_eq_false, true_and, and_true, forall_const, decide_true, decide_false, true_implies, implies_true, Bool.not_true, Bool.not_false, ← decide_not, Decidable.not_not, eq_self, Option.some.injEq, exists_eq_left', exists_eq_left, and_self, Int.toNat_natCast, Int.natCast_nonneg, List.getElem?_map, Option.isSome_some, not_false_eq_true, not_true_eq_false, List.getElem?_toArray, Int.reduceToNat, Int.reduceLE, Int.reduceLT, Int.toNat_zero, Int.reduceNeg, *])
    exact ⟨0, by omega, rfl, fun j d h => by omega⟩
  · rintro m σ' S' ⟨i, h1, h2, h4, rfl, h6⟩
    cases hc : s[i]? with
    | none =>
      have hl : s.length ≤ i := List.getElem?_eq_none_iff.1 hc
      have hlt : ¬ ((i : Int) < (s.length : Int)) := by omega
      (simp only [go_sem, reduceIte, ite_true, ite_false, Nat.reduceEqDiff, Nat.reduceLT, Nat.reduceLeDiff, Nat.reduceAdd, reduceCtorEq, decide_eq_true_eq, decide_eq_false_iff_not, Bool.false_eq_true, Bool.true_eq_false, true_and, and_true, forall_const, decide_true, decide_false, true_implies, implies_true, Bool.not_true, Bool.not_false, ← decide_not, Decidable.not_not, eq_self, Option.some.injEq, exists_eq_left', exists_eq_left, and_self, Int.toNat_natCast, Int.natCast_nonneg, List.getElem?_map, Option.isSome_some, not_false_eq_true, not_true_eq_false, List.getElem?_toArray, Int.reduceToNat, Int.reduceLE, Int.reduceLT, Int.toNat_zero, Int.reduceNeg, *])
      unfold assignAt
      rw [idx_no fun j d hd => h6 j d (by have := (List.getElem?_eq_some_iff.1 hd).1; omega) hd]; rfl
    | some c =>
      have hl := (List.getElem?_eq_some_iff.1 hc).1
      have hlt : (i : Int) < (s.length : Int) := by omega
      (simp only [go_sem, reduceIte, ite_true, ite_false, Nat.reduceEqDiff, Nat.reduceLT, Nat.reduceLeDiff, Nat.reduceAdd, reduceCtorEq, decide_eq_true_eq, decide_eq_false_iff_not, Bool.false_eq_true, Bool.true_eq_false, true_and, and_true, forall_const, decide_true, decide_false, true_implies, implies_true, Bool.not_true, Bool.not_false, ← decide_not, Decidable.not_not, eq_self, Option.some.injEq, exists_eq_left', exists_eq_left, and_self, Int.toNat_natCast, Int.natCast_nonneg, List.getElem?_map, Option.isSome_some, not_false_eq_true, not_true_eq_false, List.getElem?_toArray, Int.reduceToNat, Int.reduceLE, Int.reduceLT, Int.toNat_zero, Int.reduceNeg, *])
      by_cases he : (c.toNat : Int) = 61
      · have hle : i ≤ s.length := by omega
        have h0 := Nat.zero_le i
        have hx : Lib.indexByte s 61 = (i : Int) := by
          have e : c = 61 := by rw [← UInt8.toNat_inj]; have : (61 : UInt8).toNat = 61 := rfl; omega
          subst e; exact idx_at hc h6
        (simp only [go_sem, reduceIte, ite_true, ite_false, Nat.reduceEqDiff, Nat.reduceLT, Nat.reduceLeDiff, Nat.reduceAdd, reduceCtorEq, decide_eq_true_eq, decide_eq_false_iff_not, Bool.false_eq_true, Bool.true_eq_false, true_and, and_true, forall_const, decide_true, decide_false, true_implies, implies_true, Bool.not_true, Bool.not_false, ← decide_not, Decidable.not_not, eq_self, Option.some.injEq, exists_eq_left', exists_eq_left, and_self, Int.toNat_natCast, Int.natCast_nonneg, List.getElem?_map, Option.isSome_some, not_false_eq_true, not_true_eq_false, List.getElem?_toArray, Int.reduceToNat, Int.reduceLE, Int.reduceLT, Int.toNat_zero, Int.reduceNeg, *])
        refine OpW_call rfl rfl call24 rfl ((refName_calls (s.take i) (by rw [List.length_take]; omega) _).mono ?_)
        rintro p S' ⟨rfl, rfl⟩
        unfold assignAt
        rw [hx, if_neg (by omega), Int.toNat_natCast]
        rcases Bool.eq_false_or_eq_true (isName (s.take i)) with hb | hb <;> (simp only [go_sem, reduceIte, ite_true, ite_false, Nat.reduceEqDiff, Nat.reduceLT, Nat.reduceLeDiff, Nat.reduceAdd, reduceCtorEq, decide_eq_true_eq, decide_eq_false_iff_not, Bool.false_eq_true, Bool.true_eq_false, true_and, and_true, forall_const, decide_true, decide_false, true_implies, implies_true, Bool.not_true, Bool.not_false, ← decide_not, Decidable.not_not, eq_self, Option.some.injEq, exists_eq_left', exists_eq_left, and_self, Int.toNat_natCast, Int.natCast_nonneg, List.getElem?_map, Option.isSome_some, not_false_eq_true, not_true_eq_false, List.getElem?_toArray, Int.reduceToNat, Int.reduceLE, Int.reduceLT, Int.toNat_zero, Int.reduceNeg, *])
      · (simp only [go_sem, reduceIte, ite_true, ite_false, Nat.reduceEqDiff, Nat.reduceLT, Nat.reduceLeDiff, Nat.reduceAdd, reduceCtorEq, decide_eq_true_eq, decide_eq_false_iff_not, Bool.false_eq_true, Bool.true_eq_false, true_and, and_true, forall_const, decide_true, decide_false, true_implies, implies_true, Bool.not_true, Bool.not_false, ← decide_not, Decidable.not_not, eq_self, Option.some.injEq, exists_eq_left', exists_eq_left, and_self, Int.toNat_natCast, Int.natCast_nonneg, List.getElem?_map, Option.isSome_some, not_false_eq_true, not_true_eq_false, List.getElem?_toArray, Int.reduceToNat, Int.reduceLE, Int.reduceLT, Int.toNat_zero, Int.reduceNeg, *])
        refine ⟨m - 1, by omega, i + 1, by omega, step64 hl hs, fun j d hj hd => ?_⟩
        by_cases e : j = i
        · subst e; rw [hc] at hd; injection hd with hd; subst hd
          rintro rfl; exact he rfl
        · exact h6 j d (by omega) hd

theorem awake_calls (S : Heap) : CallsQ Try.prog 18 [] S (.bool true) := by
  have a1 : cls 97 = 4 := by decide +kernel
  have a2 : isName [97, 49] = true := by decide +kernel
  have a3 : isDigits [49, 50] = true := by decide +kernel
  have a4 : isPlain [97, 61, 98] = true := by decide +kernel
  have a5 : isSpecial 64 = true := by decide +kernel
  have a6 : assignAt [97, 61, 98] = 1 := by decide +kernel
  refine CallsA_W (fun _ => false) Try.func18 rfl (Nat.le_of_ble_eq_true rfl) ?_
  simp only [Try.f18]
  (simp only [go_sem, reduceIte, ite_true, ite_false, Nat.reduceEqDiff, Nat.reduceLT, Nat.reduceLeDiff, Nat.reduceAdd, reduceCtorEq, decide_eq_true_eq, decide_eq_false_iff_not, Bool.false_eq_true, Bool.true_eq_false, true_and, and_true, forall_const, decide_true, decide_false, true_implies, implies_true, Bool.not_true, Bool.not_false, ← decide_not, Decidable.not_not, eq_self, Option.some.injEq, exists_eq_left', exists_eq_left, and_self, Int.toNat_natCast, Int.natCast_nonneg, List.getElem?_map, Option.isSome_some, not_false_eq_true, not_true_eq_false, List.getElem?_toArray, Int.reduceToNat, Int.reduceLE, Int.reduceLT, Int.toNat_zero, Int.reduceNeg, *])
  refine OpW_call rfl rfl call19 rfl ((class_calls 97 _).mono ?_)
  rintro p S' ⟨rfl, rfl⟩
  (simp only [go_sem, reduceIte, ite_true, ite_false, Nat.reduceEqDiff, Nat.reduceLT, Nat.reduceLeDiff, Nat.reduceAdd, reduceCtorEq, decide_eq_true_eq, decide_eq_false_iff_not, Bool.false_eq_true, Bool.true_eq_false, true_and, and_true, forall_const, decide_true, decide_false, true_implies, implies_true, Bool.not_true, Bool.not_false, ← decide_not, Decidable.not_not, eq_self, Option.some.injEq, exists_eq_left', exists_eq_left, and_self, Int.toNat_natCast, Int.natCast_nonneg, List.getElem?_map, Option.isSome_some, not_false_eq_true, not_true_eq_false, List.getElem?_toArray, Int.reduceToNat, Int.reduceLE, Int.reduceLT, Int.toNat_zero, Int.reduceNeg, *])
  refine OpW_call rfl rfl call23 rfl ((name_calls [97, 49] (by decide) _).mono ?_)
  rintro p S' ⟨rfl, rfl⟩
  (simp only [go_sem, reduceIte, ite_true, ite_false, Nat.reduceEqDiff, Nat.reduceLT, Nat.reduceLeDiff, Nat.reduceAdd, reduceCtorEq, decide_eq_true_eq, decide_eq_false_iff_not, Bool.false_eq_true, Bool.true_eq_false, true_and, and_true, forall_const, decide_true, decide_false, true_implies, implies_true, Bool.not_true, Bool.not_false, ← decide_not, Decidable.not_not, eq_self, Option.some.injEq, exists_eq_left', exists_eq_left, and_self, Int.toNat_natCast, Int.natCast_nonneg, List.getElem?_map, Option.isSome_some, not_false_eq_true, not_true_eq_false, List.getElem?_toArray, Int.reduceToNat, Int.reduceLE, Int.reduceLT, Int.toNat_zero, Int.reduceNeg, *])
  refine OpW_call rfl rfl call25 rfl ((digits_calls [49, 50] (by decide) _).mono ?_)
  rintro p S' ⟨rfl, rfl⟩
  (simp only [go_sem, reduceIte, ite_true, ite_false, Nat.reduceEqDiff, Nat.reduceLT, Nat.reduceLeDiff, Nat.reduceAdd, reduceCtorEq, decide_eq_true_eq, decide_eq_false_iff_not, Bool.false_eq_true, Bool.true_eq_false, true_and, and_true, forall_const, decide_true, decide_false, true_implies, implies_true, Bool.not_true, Bool.not_false, ← decide_not, Decidable.not_not, eq_self, Option.some.injEq, exists_eq_left', exists_eq_left, and_self, Int.toNat_natCast, Int.natCast_nonneg, List.getElem?_map, Option.isSome_some, not_false_eq_true, not_true_eq_false, List.getElem?_toArray, Int.reduceToNat, Int.reduceLE, Int.reduceLT, Int.toNat_zero, Int.reduceNeg, *])
  refine OpW_call rfl rfl call27 rfl ((plain_calls [97, 61, 98] (by decide) _).mono ?_)
  rintro p S' ⟨rfl, rfl⟩
  (simp only [go_sem, reduceIte, ite_true, ite_false, Nat.reduceEqDiff, Nat.reduceLT, Nat.reduceLeDiff, Nat.reduceAdd, reduceCtorEq, decide_eq_true_eq, decide_eq_false_iff_not, Bool.false_eq_true, Bool.true_eq_false, true_and, and_true, forall_const, decide_true, decide_false, true_implies, implies_true, Bool.not_true, Bool.not_false, ← decide_not, Decidable.not_not, eq_self, Option.some.injEq, exists_eq_left', exists_eq_left, and_self, Int.toNat_natCast, Int.natCast_nonneg, List.getElem?_map, Option.isSome_some, not_false_eq_true, not_true_eq_false, List.getElem?_toArray, Int.reduceToNat, Int.reduceLE, Int.reduceLT, Int.toNat_zero, Int.reduceNeg, *])
  refine OpW_call rfl rfl call21 rfl ((special_calls 64 _).mono ?_)
  rintro p S' ⟨rfl, rfl⟩
  (simp only [go_sem, reduceIte, ite_true, ite_false, Nat.reduceEqDiff, Nat.reduceLT, Nat.reduceLeDiff, Nat.reduceAdd, reduceCtorEq, decide_eq_true_eq, decide_eq_false_iff_not, Bool.false_eq_true, Bool.true_eq_false, true_and, and_true, forall_const, decide_true, decide_false, true_implies, implies_true, Bool.not_true, Bool.not_false, ← decide_not, Decidable.not_not, eq_self, Option.some.injEq, exists_eq_left', exists_eq_left, and_self, Int.toNat_natCast, Int.natCast_nonneg, List.getElem?_map, Option.isSome_some, not_false_eq_true, not_true_eq_false, List.getElem?_toArray, Int.reduceToNat, Int.reduceLE, Int.reduceLT, Int.toNat_zero, Int.reduceNeg, *])
  refine OpW_call rfl rfl call29 rfl ((assign_calls [97, 61, 98] (by decide) _).mono ?_)
  rintro p S' ⟨rfl, rfl⟩
  (simp only [go_sem, reduceIte, ite_true, ite_false, Nat.reduceEqDiff, Nat.reduceLT, Nat.reduceLeDiff, Nat.reduceAdd, reduceCtorEq, decide_eq_true_eq, decide_eq_false_iff_not, Bool.false_eq_true, Bool.true_eq_false, true_and, and_true, forall_const, decide_true, decide_false, true_implies, implies_true, Bool.not_true, Bool.not_false, ← decide_not, Decidable.not_not, eq_self, Option.some.injEq, exists_eq_left', exists_eq_left, and_self, Int.toNat_natCast, Int.natCast_nonneg, List.getElem?_map, Option.isSome_some, not_false_eq_true, not_true_eq_false, List.getElem?_toArray, Int.reduceToNat, Int.reduceLE, Int.reduceLT, Int.toNat_zero, Int.reduceNeg, *])

end Go.Proofs.Ytcbonfgkfiapaaa.Pv
