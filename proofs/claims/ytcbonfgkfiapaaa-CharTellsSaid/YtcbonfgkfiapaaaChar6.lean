/- What the laws of package char compute. -/
import Derived.Test.YtcbonfgkfiapaaaChar5
set_option linter.unusedVariables false
set_option linter.unusedSimpArgs false
set_option maxRecDepth 100000
set_option maxHeartbeats 40000000
namespace Go.Proofs.Ytcbonfgkfiapaaa.Pv
open Go Go.RowKit

attribute [go_sem] beq_self_eq_true Nat.zero_le

theorem charTells_calls (c : UInt8) (s : List UInt8) (S : Heap) : CallsQ Try.prog 3 [.int .u8 (c.toNat : Int), .str s] S (.bool true) := by
  refine CallsA_W (fun _ => false) Try.func3 rfl (Nat.le_of_ble_eq_true rfl) ?_
  simp only [Try.f3]
  (simp only [go_sem, reduceIte, ite_true, ite_false, Nat.reduceEqDiff, Nat.reduceLT, Nat.reduceLeDiff, Nat.reduceAdd, reduceCtorEq, decide_eq_true_eq, decide_eq_false_iff_not, Bool.false_eq_true, Bool.true_eq_false, true_and, and_true, forall_const, decide_true, decide_false, true_implies, implies_true, Bool.not_true, Bool.not_false, ← decide_not, Decidable.not_not, eq_self, Option.some.injEq, exists_eq_left', exists_eq_left, and_self, Int.toNat_natCast, Int.natCast_nonneg, List.getElem?_map, Option.isSome_some, not_false_eq_true, not_true_eq_false, List.getElem?_toArray, Int.reduceToNat, Int.reduceLE, Int.reduceLT, Int.toNat_zero, Int.reduceNeg, *])
  by_cases hl : (2000 : Int) < (s.length : Int)
  · (simp only [go_sem, reduceIte, ite_true, ite_false, Nat.reduceEqDiff, Nat.reduceLT, Nat.reduceLeDiff, Nat.reduceAdd, reduceCtorEq, decide_eq_true_eq, decide_eq_false_iff_not, Bool.false_eq_true, Bool.true_eq_false, true_and, and_true, forall_const, decide_true, decide_false, true_implies, implies_true, Bool.not_true, Bool.not_false, ← decide_not, Decidable.not_not, eq_self, Option.some.injEq, exists_eq_left', exists_eq_left, and_self, Int.toNat_natCast, Int.natCast_nonneg, List.getElem?_map, Option.isSome_some, not_false_eq_true, not_true_eq_false, List.getElem?_toArray, Int.reduceToNat, Int.reduceLE, Int.reduceLT, Int.toNat_zero, Int.reduceNeg, *])
    refine OpW_call rfl rfl call18 rfl ((awake_calls _).mono ?_)
    rintro p S' ⟨rfl, rfl⟩
    (simp only [go_sem, reduceIte, ite_true, ite_false, Nat.reduceEqDiff, Nat.reduceLT, Nat.reduceLeDiff, Nat.reduceAdd, reduceCtorEq, decide_eq_true_eq, decide_eq_false_iff_not, Bool.false_eq_true, Bool.true_eq_false, true_and, and_true, forall_const, decide_true, decide_false, true_implies, implies_true, Bool.not_true, Bool.not_false, ← decide_not, Decidable.not_not, eq_self, Option.some.injEq, exists_eq_left', exists_eq_left, and_self, Int.toNat_natCast, Int.natCast_nonneg, List.getElem?_map, Option.isSome_some, not_false_eq_true, not_true_eq_false, List.getElem?_toArray, Int.reduceToNat, Int.reduceLE, Int.reduceLT, Int.toNat_zero, Int.reduceNeg, *])
  · have hs : s.length ≤ 4611686018427387904 := by omega
    (simp only [go_sem, reduceIte, ite_true, ite_false, Nat.reduceEqDiff, Nat.reduceLT, Nat.reduceLeDiff, Nat.reduceAdd, reduceCtorEq, decide_eq_true_eq, decide_eq_false_iff_not, Bool.false_eq_true, Bool.true_eq_false, true_and, and_true, forall_const, decide_true, decide_false, true_implies, implies_true, Bool.not_true, Bool.not_false, ← decide_not, Decidable.not_not, eq_self, Option.some.injEq, exists_eq_left', exists_eq_left, and_self, Int.toNat_natCast, Int.natCast_nonneg, List.getElem?_map, Option.isSome_some, not_false_eq_true, not_true_eq_false, List.getElem?_toArray, Int.reduceToNat, Int.reduceLE, Int.reduceLT, Int.toNat_zero, Int.reduceNeg, *])
    refine OpW_call rfl rfl call19 rfl ((class_calls c _).mono ?_)
    rintro p S' ⟨rfl, rfl⟩
    (simp only [go_sem, reduceIte, ite_true, ite_false, Nat.reduceEqDiff, Nat.reduceLT, Nat.reduceLeDiff, Nat.reduceAdd, reduceCtorEq, decide_eq_true_eq, decide_eq_false_iff_not, Bool.false_eq_true, Bool.true_eq_false, true_and, and_true, forall_const, decide_true, decide_false, true_implies, implies_true, Bool.not_true, Bool.not_false, ← decide_not, Decidable.not_not, eq_self, Option.some.injEq, exists_eq_left', exists_eq_left, and_self, Int.toNat_natCast, Int.natCast_nonneg, List.getElem?_map, Option.isSome_some, not_false_eq_true, not_true_eq_false, List.getElem?_toArray, Int.reduceToNat, Int.reduceLE, Int.reduceLT, Int.toNat_zero, Int.reduceNeg, *])
    refine OpW_call rfl rfl call20 rfl ((refClass_calls c _).mono ?_)
    rintro p S' ⟨rfl, rfl⟩
    (simp only [go_sem, reduceIte, ite_true, ite_false, Nat.reduceEqDiff, Nat.reduceLT, Nat.reduceLeDiff, Nat.reduceAdd, reduceCtorEq, decide_eq_true_eq, decide_eq_false_iff_not, Bool.false_eq_true, Bool.true_eq_false, true_and, and_true, forall_const, decide_true, decide_false, true_implies, implies_true, Bool.not_true, Bool.not_false, ← decide_not, Decidable.not_not, eq_self, Option.some.injEq, exists_eq_left', exists_eq_left, and_self, Int.toNat_natCast, Int.natCast_nonneg, List.getElem?_map, Option.isSome_some, not_false_eq_true, not_true_eq_false, List.getElem?_toArray, Int.reduceToNat, Int.reduceLE, Int.reduceLT, Int.toNat_zero, Int.reduceNeg, *])
    refine OpW_call rfl rfl call21 rfl ((special_calls c _).mono ?_)
    rintro p S' ⟨rfl, rfl⟩
    (simp only [go_sem, reduceIte, ite_true, ite_false, Nat.reduceEqDiff, Nat.reduceLT, Nat.reduceLeDiff, Nat.reduceAdd, reduceCtorEq, decide_eq_true_eq, decide_eq_false_iff_not, Bool.false_eq_true, Bool.true_eq_false, true_and, and_true, forall_const, decide_true, decide_false, true_implies, implies_true, Bool.not_true, Bool.not_false, ← decide_not, Decidable.not_not, eq_self, Option.some.injEq, exists_eq_left', exists_eq_left, and_self, Int.toNat_natCast, Int.natCast_nonneg, List.getElem?_map, Option.isSome_some, not_false_eq_true, not_true_eq_false, List.getElem?_toArray, Int.reduceToNat, Int.reduceLE, Int.reduceLT, Int.toNat_zero, Int.reduceNeg, *])
    refine OpW_call rfl rfl call22 rfl ((refSpecial_calls c _).mono ?_)
    rintro p S' ⟨rfl, rfl⟩
    (simp only [go_sem, reduceIte, ite_true, ite_false, Nat.reduceEqDiff, Nat.reduceLT, Nat.reduceLeDiff, Nat.reduceAdd, reduceCtorEq, decide_eq_true_eq, decide_eq_false_iff_not, Bool.false_eq_true, Bool.true_eq_false, true_and, and_true, forall_const, decide_true, decide_false, true_implies, implies_true, Bool.not_true, Bool.not_false, ← decide_not, Decidable.not_not, eq_self, Option.some.injEq, exists_eq_left', exists_eq_left, and_self, Int.toNat_natCast, Int.natCast_nonneg, List.getElem?_map, Option.isSome_some, not_false_eq_true, not_true_eq_false, List.getElem?_toArray, Int.reduceToNat, Int.reduceLE, Int.reduceLT, Int.toNat_zero, Int.reduceNeg, *])
    refine OpW_call rfl rfl call23 rfl ((name_calls s hs _).mono ?_)
    rintro p S' ⟨rfl, rfl⟩
    (simp only [go_sem, reduceIte, ite_true, ite_false, Nat.reduceEqDiff, Nat.reduceLT, Nat.reduceLeDiff, Nat.reduceAdd, reduceCtorEq, decide_eq_true_eq, decide_eq_false_iff_not, Bool.false_eq_true, Bool.true_eq_false, true_and, and_true, forall_const, decide_true, decide_false, true_implies, implies_true, Bool.not_true, Bool.not_false, ← decide_not, Decidable.not_not, eq_self, Option.some.injEq, exists_eq_left', exists_eq_left, and_self, Int.toNat_natCast, Int.natCast_nonneg, List.getElem?_map, Option.isSome_some, not_false_eq_true, not_true_eq_false, List.getElem?_toArray, Int.reduceToNat, Int.reduceLE, Int.reduceLT, Int.toNat_zero, Int.reduceNeg, *])
    refine OpW_call rfl rfl call24 rfl ((refName_calls s hs _).mono ?_)
    rintro p S' ⟨rfl, rfl⟩
    (simp only [go_sem, reduceIte, ite_true, ite_false, Nat.reduceEqDiff, Nat.reduceLT, Nat.reduceLeDiff, Nat.reduceAdd, reduceCtorEq, decide_eq_true_eq, decide_eq_false_iff_not, Bool.false_eq_true, Bool.true_eq_false, true_and, and_true, forall_const, decide_true, decide_false, true_implies, implies_true, Bool.not_true, Bool.not_false, ← decide_not, Decidable.not_not, eq_self, Option.some.injEq, exists_eq_left', exists_eq_left, and_self, Int.toNat_natCast, Int.natCast_nonneg, List.getElem?_map, Option.isSome_some, not_false_eq_true, not_true_eq_false, List.getElem?_toArray, Int.reduceToNat, Int.reduceLE, Int.reduceLT, Int.toNat_zero, Int.reduceNeg, *])
    refine OpW_call rfl rfl call25 rfl ((digits_calls s hs _).mono ?_)
    rintro p S' ⟨rfl, rfl⟩
    (simp only [go_sem, reduceIte, ite_true, ite_false, Nat.reduceEqDiff, Nat.reduceLT, Nat.reduceLeDiff, Nat.reduceAdd, reduceCtorEq, decide_eq_true_eq, decide_eq_false_iff_not, Bool.false_eq_true, Bool.true_eq_false, true_and, and_true, forall_const, decide_true, decide_false, true_implies, implies_true, Bool.not_true, Bool.not_false, ← decide_not, Decidable.not_not, eq_self, Option.some.injEq, exists_eq_left', exists_eq_left, and_self, Int.toNat_natCast, Int.natCast_nonneg, List.getElem?_map, Option.isSome_some, not_false_eq_true, not_true_eq_false, List.getElem?_toArray, Int.reduceToNat, Int.reduceLE, Int.reduceLT, Int.toNat_zero, Int.reduceNeg, *])
    refine OpW_call rfl rfl call26 rfl ((refDigits_calls s hs _).mono ?_)
    rintro p S' ⟨rfl, rfl⟩
    (simp only [go_sem, reduceIte, ite_true, ite_false, Nat.reduceEqDiff, Nat.reduceLT, Nat.reduceLeDiff, Nat.reduceAdd, reduceCtorEq, decide_eq_true_eq, decide_eq_false_iff_not, Bool.false_eq_true, Bool.true_eq_false, true_and, and_true, forall_const, decide_true, decide_false, true_implies, implies_true, Bool.not_true, Bool.not_false, ← decide_not, Decidable.not_not, eq_self, Option.some.injEq, exists_eq_left', exists_eq_left, and_self, Int.toNat_natCast, Int.natCast_nonneg, List.getElem?_map, Option.isSome_some, not_false_eq_true, not_true_eq_false, List.getElem?_toArray, Int.reduceToNat, Int.reduceLE, Int.reduceLT, Int.toNat_zero, Int.reduceNeg, *])
    refine OpW_call rfl rfl call27 rfl ((plain_calls s hs _).mono ?_)
    rintro p S' ⟨rfl, rfl⟩
    (simp only [go_sem, reduceIte, ite_true, ite_false, Nat.reduceEqDiff, Nat.reduceLT, Nat.reduceLeDiff, Nat.reduceAdd, reduceCtorEq, decide_eq_true_eq, decide_eq_false_iff_not, Bool.false_eq_true, Bool.true_eq_false, true_and, and_true, forall_const, decide_true, decide_false, true_implies, implies_true, Bool.not_true, Bool.not_false, ← decide_not, Decidable.not_not, eq_self, Option.some.injEq, exists_eq_left', exists_eq_left, and_self, Int.toNat_natCast, Int.natCast_nonneg, List.getElem?_map, Option.isSome_some, not_false_eq_true, not_true_eq_false, List.getElem?_toArray, Int.reduceToNat, Int.reduceLE, Int.reduceLT, Int.toNat_zero, Int.reduceNeg, *])
    refine OpW_call rfl rfl call28 rfl ((refPlain_calls s hs _).mono ?_)
    rintro p S' ⟨rfl, rfl⟩
    (simp only [go_sem, reduceIte, ite_true, ite_false, Nat.reduceEqDiff, Nat.reduceLT, Nat.reduceLeDiff, Nat.reduceAdd, reduceCtorEq, decide_eq_true_eq, decide_eq_false_iff_not, Bool.false_eq_true, Bool.true_eq_false, true_and, and_true, forall_const, decide_true, decide_false, true_implies, implies_true, Bool.not_true, Bool.not_false, ← decide_not, Decidable.not_not, eq_self, Option.some.injEq, exists_eq_left', exists_eq_left, and_self, Int.toNat_natCast, Int.natCast_nonneg, List.getElem?_map, Option.isSome_some, not_false_eq_true, not_true_eq_false, List.getElem?_toArray, Int.reduceToNat, Int.reduceLE, Int.reduceLT, Int.toNat_zero, Int.reduceNeg, *])
    refine OpW_call rfl rfl call29 rfl ((assign_calls s hs _).mono ?_)
    rintro p S' ⟨rfl, rfl⟩
    (simp only [go_sem, reduceIte, ite_true, ite_false, Nat.reduceEqDiff, Nat.reduceLT, Nat.reduceLeDiff, Nat.reduceAdd, reduceCtorEq, decide_eq_true_eq, decide_eq_false_iff_not, Bool.false_eq_true, Bool.true_eq_false, true_and, and_true, forall_const, decide_true, decide_false, true_implies, implies_true, Bool.not_true, Bool.not_false, ← decide_not, Decidable.not_not, eq_self, Option.some.injEq, exists_eq_left', exists_eq_left, and_self, Int.toNat_natCast, Int.natCast_nonneg, List.getElem?_map, Option.isSome_some, not_false_eq_true, not_true_eq_false, List.getElem?_toArray, Int.reduceToNat, Int.reduceLE, Int.reduceLT, Int.toNat_zero, Int.reduceNeg, *])
    refine OpW_call rfl rfl call30 rfl ((refAssign_calls s hs _).mono ?_)
    rintro p S' ⟨rfl, rfl⟩
    (simp only [go_sem, reduceIte, ite_true, ite_false, Nat.reduceEqDiff, Nat.reduceLT, Nat.reduceLeDiff, Nat.reduceAdd, reduceCtorEq, decide_eq_true_eq, decide_eq_false_iff_not, Bool.false_eq_true, Bool.true_eq_false, true_and, and_true, forall_const, decide_true, decide_false, true_implies, implies_true, Bool.not_true, Bool.not_false, ← decide_not, Decidable.not_not, eq_self, Option.some.injEq, exists_eq_left', exists_eq_left, and_self, Int.toNat_natCast, Int.natCast_nonneg, List.getElem?_map, Option.isSome_some, not_false_eq_true, not_true_eq_false, List.getElem?_toArray, Int.reduceToNat, Int.reduceLE, Int.reduceLT, Int.toNat_zero, Int.reduceNeg, *])
    refine OpW_call rfl rfl call18 rfl ((awake_calls _).mono ?_)
    rintro p S' ⟨rfl, rfl⟩
    (simp only [go_sem, reduceIte, ite_true, ite_false, Nat.reduceEqDiff, Nat.reduceLT, Nat.reduceLeDiff, Nat.reduceAdd, reduceCtorEq, decide_eq_true_eq, decide_eq_false_iff_not, Bool.false_eq_true, Bool.true_eq_false, true_and, and_true, forall_const, decide_true, decide_false, true_implies, implies_true, Bool.not_true, Bool.not_false, ← decide_not, Decidable.not_not, eq_self, Option.some.injEq, exists_eq_left', exists_eq_left, and_self, Int.toNat_natCast, Int.natCast_nonneg, List.getElem?_map, Option.isSome_some, not_false_eq_true, not_true_eq_false, List.getElem?_toArray, Int.reduceToNat, Int.reduceLE, Int.reduceLT, Int.toNat_zero, Int.reduceNeg, *])

/-! What the laws say of it all -/
theorem allFrom_append {p : Nat → UInt8 → Bool} : ∀ {s t : List UInt8} {k : Nat}, allFrom p k (s ++ t) = (allFrom p k s && allFrom p (k + s.length) t)
  | [], t, k => by simp [allFrom]
  | c :: s, t, k => by
    simp only [List.cons_append, allFrom, allFrom_append (s := s), Bool.and_assoc, List.length_cons]
    rw [show k + 1 + s.length = k + (s.length + 1) by omega]
theorem allFrom_imp {p q : Nat → UInt8 → Bool} {j k : Nat} {s : List UInt8} (h : ∀ i c, p (j + i) c = true → q (k + i) c = true) (hs : allFrom p j s = true) : allFrom q k s = true := by
  rw [allFrom_iff] at hs ⊢
  exact fun i c hc => h i c (hs i c hc)
theorem nonEmpty_append {s : List UInt8} (t : List UInt8) (h : nonEmpty s = true) : nonEmpty (s ++ t) = true ∧ 0 < s.length := by
  cases s with
  | nil => cases h
  | cons c s => exact ⟨rfl, by simp⟩
theorem name_join {s t : List UInt8} (hs : isName s = true) (ht : isName t = true ∨ isDigits t = true) : isName (s ++ t) = true := by
  unfold isName isDigits at *
  simp only [Bool.and_eq_true] at *
  obtain ⟨h1, h2⟩ := nonEmpty_append t hs.2
  refine ⟨?_, h1⟩
  rw [allFrom_append, Bool.and_eq_true]
  refine ⟨hs.1, ?_⟩
  rcases ht with ht | ht
  · exact allFrom_imp (fun i c h => by unfold okName at *; simp at h ⊢; omega) ht.1
  · exact allFrom_imp (fun i c h => by unfold okName; unfold okDigit at h; simp at h ⊢; omega) ht.1
theorem plain_not {s t : List UInt8} {c : UInt8} (h3 : ¬ cls c = 3) (h4 : ¬ cls c = 4) (h8 : ¬ cls c = 8) : isPlain (s ++ [c] ++ t) = false := by
  unfold isPlain
  have : okPlain s.length c = false := by unfold okPlain; simp [*]
  rw [allFrom_append, allFrom_append]
  simp [allFrom, this]
theorem head_cls {s : List UInt8} {p : Nat → UInt8 → Bool} (h : allFrom p 0 s = true) (hp : ∀ c, p 0 c = true → cls c = 3 ∨ cls c = 4) : ¬ s.head? = some 35 := by
  intro e
  rw [head_idx] at e
  rw [allFrom_iff] at h
  have := hp 35 (h 0 35 e)
  have e8 : cls 35 = 8 := by decide +kernel
  omega
theorem plain_of {s : List UInt8} (h : isName s = true ∨ isDigits s = true) : isPlain s = true := by
  unfold isName isDigits isPlain at *
  simp only [Bool.and_eq_true, decide_eq_true_eq, ne_eq] at *
  rcases h with h | h
  · exact ⟨allFrom_imp (fun i c h => by unfold okName at h; unfold okPlain; simp at h ⊢; omega) h.1, h.2, head_cls h.1 fun c h => by unfold okName at h; simp at h; omega⟩
  · exact ⟨allFrom_imp (fun i c h => by unfold okDigit at h; unfold okPlain; simp at h ⊢; omega) h.1, h.2, head_cls h.1 fun c h => by unfold okDigit at h; simp at h; omega⟩
theorem plain_join {s t : List UInt8} (hs : isPlain s = true) (ht : isPlain t = true) : isPlain (s ++ t) = true := by
  unfold isPlain at *
  simp only [Bool.and_eq_true, decide_eq_true_eq, ne_eq] at *
  obtain ⟨h1, h2, h3⟩ := hs
  obtain ⟨k1, k2⟩ := nonEmpty_append t h2
  refine ⟨?_, k1, ?_⟩
  · rw [allFrom_append, Bool.and_eq_true]
    exact ⟨h1, allFrom_imp (fun i c h => by unfold okPlain at *; exact h) ht.1⟩
  · cases s with
    | nil => simp at k2
    | cons c s => exact h3
theorem no_eq {s : List UInt8} (h : isName s = true) {j : Nat} {d : UInt8} (hd : s[j]? = some d) : d ≠ 61 := by
  rintro rfl
  unfold isName at h
  rw [Bool.and_eq_true, allFrom_iff] at h
  have := h.1 j 61 hd
  have e8 : cls 61 = 8 := by decide +kernel
  unfold okName at this
  simp [e8] at this
/-- Behind a name, the sign is the first one. -/
theorem assign_name {s t : List UInt8} (h : isName s = true) : assignAt (s ++ [61] ++ t) = (s.length : Int) := by
  have hi : Lib.indexByte (s ++ [61] ++ t) 61 = (s.length : Int) := by
    refine idx_at (by simp) fun j d hj hd => no_eq h (j := j) ?_
    rw [List.append_assoc, List.getElem?_append_left hj] at hd
    exact hd
  unfold assignAt
  rw [hi, if_neg (by omega), Int.toNat_natCast]
  have : (s ++ [61] ++ t).take s.length = s := by simp
  rw [this, if_pos h]
/-- Else there is none, or it stands within the first text, behind a name. -/
theorem idx_append : ∀ {s t : List UInt8} {c : UInt8}, c ∈ s → Lib.indexByte (s ++ t) c = Lib.indexByte s c
  | [], t, c, h => by cases h
  | b :: s, t, c, h => by
    simp only [List.cons_append]
    unfold Lib.indexByte
    by_cases hb : b = c
    · rw [if_pos (by simpa using hb), if_pos (by simpa using hb)]
    · have hm : c ∈ s := by
        rcases List.mem_cons.1 h with e | e
        · exact absurd e.symm hb
        · exact e
      rw [idx_append hm]
theorem assign_else {s t : List UInt8} (h : isName s = false) : assignAt (s ++ [61] ++ t) = -1 ∨ ∃ k : Nat, assignAt (s ++ [61] ++ t) = (k : Int) ∧ k < s.length ∧ isName (s.take k) = true := by
  unfold assignAt
  by_cases hx : (61 : UInt8) ∈ s
  · rw [List.append_assoc, idx_append hx]
    rcases idx_cases s 61 with e | ⟨k, h1, h2, h3⟩
    · have := (idx_mem s 61).2 hx; omega
    · rw [h1, if_neg (by omega), Int.toNat_natCast]
      have ht : (s ++ ([61] ++ t)).take k = s.take k := by rw [List.take_append_of_le_length (by omega)]
      rw [ht]
      rcases Bool.eq_false_or_eq_true (isName (s.take k)) with hb | hb
      · right; exact ⟨k, by rw [if_pos hb], h2, hb⟩
      · left; rw [if_neg (by simp [hb])]
  · left
    have hi : Lib.indexByte (s ++ [61] ++ t) 61 = (s.length : Int) := by
      refine idx_at (by simp) fun j d hj hd => ?_
      rw [List.append_assoc, List.getElem?_append_left hj] at hd
      rintro rfl
      exact hx (List.mem_of_getElem? hd)
    rw [hi, if_neg (by omega), Int.toNat_natCast]
    have : (s ++ [61] ++ t).take s.length = s := by simp
    rw [this, if_neg (by simp [h])]

end Go.Proofs.Ytcbonfgkfiapaaa.Pv
