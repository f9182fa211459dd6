/- strings.IndexAny for the byte 0 and a line feed, at any text; Right, Show, Fed and May at any end. -/
import Derived.Test.YtcbonfgkfiapaaaHereX
import Derived.Test.YtcbonfgkfiapaaaHereQ
set_option linter.unusedVariables false
set_option linter.unusedSimpArgs false
set_option maxRecDepth 100000
set_option maxHeartbeats 40000000
namespace Go.Proofs.Ytcbonfgkfiapaaa.Pv
open Go Go.RowKit

theorem idx_ge (s cs : List UInt8) : -1 ≤ Lib.indexAny s cs := Lib.indexAny_ge cs s
def From (s : List UInt8) (i : Nat) : Prop := Lib.indexAny s [0, 10] = if Lib.indexAny (s.drop i) [0, 10] = -1 then -1 else Lib.indexAny (s.drop i) [0, 10] + (i : Int)
theorem from_zero (s : List UInt8) : From s 0 := by
  unfold From; simp only [List.drop_zero]
  split
  · assumption
  · simp
theorem from_succ {s : List UInt8} {i : Nat} {b : UInt8} (h : From s i) (hb : s[i]? = some b) (h0 : b ≠ 0) (h1 : b ≠ 10) : From s (i + 1) := by
  unfold From at h ⊢
  obtain ⟨hi, hx⟩ := List.getElem?_eq_some_iff.1 hb
  have hd : s.drop i = b :: s.drop (i + 1) := by rw [List.drop_eq_getElem_cons hi, hx]
  have hu : Lib.indexAny (s.drop i) [0, 10] = if Lib.indexAny (s.drop (i + 1)) [0, 10] = -1 then -1 else Lib.indexAny (s.drop (i + 1)) [0, 10] + 1 := by
    rw [hd]
    conv => lhs; unfold Lib.indexAny
    rw [if_neg (by simp [h0, h1])]
    simp only [beq_iff_eq]
  have hg := idx_ge (s.drop (i + 1)) [0, 10]
  rw [h, hu]
  by_cases e : Lib.indexAny (s.drop (i + 1)) [0, 10] = -1
  · rw [if_pos e, if_pos rfl, if_pos e]
  · rw [if_neg e, if_neg (by omega), if_neg e]; omega
theorem from_add {s : List UInt8} {i : Nat} : ∀ (n : Nat), From s i → (∀ k, k < n → ∃ b, s[i + k]? = some b ∧ 128 ≤ b.toNat) → From s (i + n)
  | 0, h, _ => h
  | n + 1, h, hb => by
    obtain ⟨b, h1, h2⟩ := hb n (by omega)
    refine from_succ (i := i + n) (from_add n h fun k hk => hb k (by omega)) h1 ?_ ?_
    · rintro rfl; revert h2; decide
    · rintro rfl; revert h2; decide
theorem asciiRune_calls (r : Nat) (h : r < 128) (S : Heap) : CallsQ Try.prog 157 [.str [0, 10], .int .i32 (r : Int)] S (.int .i64 (Lib.indexByte [0, 10] r.toUInt8)) := by
  refine CallsQ_below fun w args hv hh => ?_
  simp only [RepVals, Rep] at hv
  obtain ⟨v, r1, ha, rfl, v2, r2, rfl, rfl, rfl⟩ := hv
  rw [show args = #[.string ⟨([0, 10] : List UInt8).toArray⟩, .int .i32 (r : Int)] from Array.ext' (by simpa using ha)]
  refine (Try.strings_IndexRune_ascii ⟨([0, 10] : List UInt8).toArray⟩ r w (by omega) (by omega)).mono ?_
  rintro e w' ⟨rfl, rfl⟩
  exact ⟨_, rfl, by simp only [Rep, Int.toNat_natCast], Below.refl _ _⟩
theorem shouldSet_calls (n : Int) (S : Heap) : CallsQ Try.prog 158 [.int .i64 n] S (.bool (decide (8 < n))) := by
  refine CallsQ_below fun w args hv hh => ?_
  simp only [RepVals, Rep] at hv
  obtain ⟨v, r1, ha, rfl, rfl⟩ := hv
  rw [show args = #[.int .i64 n] from Array.ext' (by simpa using ha)]
  refine (Try.strings_shouldUseASCIISet n w).mono ?_
  rintro e w' ⟨rfl, rfl⟩
  exact ⟨_, rfl, by simp only [Rep], Below.refl _ _⟩
theorem idxAny_short (s : List UInt8) (h8 : s.length ≤ 8) (S : Heap) : CallsQ Try.prog 137 [.str s, .str [0, 10]] S (.int .i64 (Lib.indexAny s [0, 10])) := by
  have hsz : (⟨s.toArray⟩ : ByteArray).size = s.length := by simp [ByteArray.size]
  have n8 : ¬ (8 : Int) < (s.length : Int) := by omega
  have n21 : ¬ ((2 : Nat) : Int) = 1 := by omega
  obtain ⟨M, hM⟩ : ∃ M, Lib.indexAny s [0, 10] = M := ⟨_, rfl⟩
  rw [hM]
  refine CallsQ_less ?_
  refine CallsA_W (fun _ => false) Try.func137 rfl (Nat.le_of_ble_eq_true rfl) ?_
  simp only [Try.f137]
  (simp only [go_sem, reduceIte, ite_true, ite_false, Nat.reduceEqDiff, Nat.reduceLT, Nat.reduceLeDiff, Nat.reduceAdd, reduceCtorEq, decide_eq_true_eq, decide_eq_false_iff_not, Bool.false_eq_true, Bool.true_eq_false, true_and, and_true, forall_const, decide_true, decide_false, true_implies, implies_true, Bool.not_true, Bool.not_false, ← decide_not, Decidable.not_not, eq_self, Option.some.injEq, exists_eq_left', exists_eq_left, and_self, Int.toNat_natCast, Int.natCast_nonneg, List.getElem?_map, Option.isSome_some, not_false_eq_true, not_true_eq_false, List.getElem?_toArray, Int.reduceToNat, Int.reduceLE, Int.reduceLT, Int.toNat_zero, Int.reduceNeg, Int.reduceEq, Int.reduceNe, Nat.reduceBEq, Nat.reduceMul, Nat.reducePow, *])
  refine OpW_call (ps := [.int .i64 (s.length : Int)]) rfl rfl call158 rfl ((shouldSet_calls _ _).mono ?_)
  rintro p S' ⟨rfl, rfl⟩
  (simp only [go_sem, reduceIte, ite_true, ite_false, Nat.reduceEqDiff, Nat.reduceLT, Nat.reduceLeDiff, Nat.reduceAdd, reduceCtorEq, decide_eq_true_eq, decide_eq_false_iff_not, Bool.false_eq_true, Bool.true_eq_false, true_and, and_true, forall_const, decide_true, decide_false, true_implies, implies_true, Bool.not_true, Bool.not_false, ← decide_not, Decidable.not_not, eq_self, Option.some.injEq, exists_eq_left', exists_eq_left, and_self, Int.toNat_natCast, Int.natCast_nonneg, List.getElem?_map, Option.isSome_some, not_false_eq_true, not_true_eq_false, List.getElem?_toArray, Int.reduceToNat, Int.reduceLE, Int.reduceLT, Int.toNat_zero, Int.reduceNeg, Int.reduceEq, Int.reduceNe, Nat.reduceBEq, Nat.reduceMul, Nat.reducePow, *])
  refine OpW_of (OpA_range (l := s) rfl isStr9 (by (simp only [go_sem, reduceIte, ite_true, ite_false, Nat.reduceEqDiff, Nat.reduceLT, Nat.reduceLeDiff, Nat.reduceAdd, reduceCtorEq, decide_eq_true_eq, decide_eq_false_iff_not, Bool.false_eq_true, Bool.true_eq_false, true_and, and_true, forall_const, decide_true, decide_false, true_implies, implies_true, Bool.not_true, Bool.not_false, ← decide_not, Decidable.not_not, eq_self, Option.some.injEq, exists_eq_left', exists_eq_left, and_self, Int.toNat_natCast, Int.natCast_nonneg, List.getElem?_map, Option.isSome_some, not_false_eq_true, not_true_eq_false, List.getElem?_toArray, Int.reduceToNat, Int.reduceLE, Int.reduceLT, Int.toNat_zero, Int.reduceNeg, Int.reduceEq, Int.reduceNe, Nat.reduceBEq, Nat.reduceMul, Nat.reducePow, *])) (okDst_spec rfl) fun b hb => ?_)
  (simp only [go_sem, reduceIte, ite_true, ite_false, Nat.reduceEqDiff, Nat.reduceLT, Nat.reduceLeDiff, Nat.reduceAdd, reduceCtorEq, decide_eq_true_eq, decide_eq_false_iff_not, Bool.false_eq_true, Bool.true_eq_false, true_and, and_true, forall_const, decide_true, decide_false, true_implies, implies_true, Bool.not_true, Bool.not_false, ← decide_not, Decidable.not_not, eq_self, Option.some.injEq, exists_eq_left', exists_eq_left, and_self, Int.toNat_natCast, Int.natCast_nonneg, List.getElem?_map, Option.isSome_some, not_false_eq_true, not_true_eq_false, List.getElem?_toArray, Int.reduceToNat, Int.reduceLE, Int.reduceLT, Int.toNat_zero, Int.reduceNeg, Int.reduceEq, Int.reduceNe, Nat.reduceBEq, Nat.reduceMul, Nat.reducePow, *])
  refine CodeW_loop (fun m σ' S'' => ∃ i : Nat, i + m = s.length ∧ σ' 1 = .str [0, 10] ∧ σ' 45 = .mp b 0 ∧ S'' = S'.set b (.iter s i) ∧ From s i) s.length ?_ ?_
  · (simp only [go_sem, reduceIte, ite_true, ite_false, Nat.reduceEqDiff, Nat.reduceLT, Nat.reduceLeDiff, Nat.reduceAdd, reduceCtorEq, decide_eq_true_eq, decide_eq_false_iff_not, Bool.false_eq_true, Bool.true_eq_false, true_and, and_true, forall_const, decide_true, decide_false, true_implies, implies_true, Bool.not_true, Bool.not_false, ← decide_not, Decidable.not_not, eq_self, Option.some.injEq, exists_eq_left', exists_eq_left, and_self, Int.toNat_natCast, Int.natCast_nonneg, List.getElem?_map, Option.isSome_some, not_false_eq_true, not_true_eq_false, List.getElem?_toArray, Int.reduceToNat, Int.reduceLE, Int.reduceLT, Int.toNat_zero, Int.reduceNeg, Int.reduceEq, Int.reduceNe, Nat.reduceBEq, Nat.reduceMul, Nat.reducePow, *])
    exact ⟨0, by omega, rfl, from_zero s⟩
  · rintro m σ' S'' ⟨i, h1, h2, h3, rfl, h4⟩
    (simp only [go_sem, reduceIte, ite_true, ite_false, Nat.reduceEqDiff, Nat.reduceLT, Nat.reduceLeDiff, Nat.reduceAdd, reduceCtorEq, decide_eq_true_eq, decide_eq_false_iff_not, Bool.false_eq_true, Bool.true_eq_false, true_and, and_true, forall_const, decide_true, decide_false, true_implies, implies_true, Bool.not_true, Bool.not_false, ← decide_not, Decidable.not_not, eq_self, Option.some.injEq, exists_eq_left', exists_eq_left, and_self, Int.toNat_natCast, Int.natCast_nonneg, List.getElem?_map, Option.isSome_some, not_false_eq_true, not_true_eq_false, List.getElem?_toArray, Int.reduceToNat, Int.reduceLE, Int.reduceLT, Int.toNat_zero, Int.reduceNeg, Int.reduceEq, Int.reduceNe, Nat.reduceBEq, Nat.reduceMul, Nat.reducePow, *])
    refine OpW_of (OpA_next (l := s) (b := b) (pos := i) rfl (by (simp only [go_sem, reduceIte, ite_true, ite_false, Nat.reduceEqDiff, Nat.reduceLT, Nat.reduceLeDiff, Nat.reduceAdd, reduceCtorEq, decide_eq_true_eq, decide_eq_false_iff_not, Bool.false_eq_true, Bool.true_eq_false, true_and, and_true, forall_const, decide_true, decide_false, true_implies, implies_true, Bool.not_true, Bool.not_false, ← decide_not, Decidable.not_not, eq_self, Option.some.injEq, exists_eq_left', exists_eq_left, and_self, Int.toNat_natCast, Int.natCast_nonneg, List.getElem?_map, Option.isSome_some, not_false_eq_true, not_true_eq_false, List.getElem?_toArray, Int.reduceToNat, Int.reduceLE, Int.reduceLT, Int.toNat_zero, Int.reduceNeg, Int.reduceEq, Int.reduceNe, Nat.reduceBEq, Nat.reduceMul, Nat.reducePow, *])) (by (simp only [go_sem, reduceIte, ite_true, ite_false, Nat.reduceEqDiff, Nat.reduceLT, Nat.reduceLeDiff, Nat.reduceAdd, reduceCtorEq, decide_eq_true_eq, decide_eq_false_iff_not, Bool.false_eq_true, Bool.true_eq_false, true_and, and_true, forall_const, decide_true, decide_false, true_implies, implies_true, Bool.not_true, Bool.not_false, ← decide_not, Decidable.not_not, eq_self, Option.some.injEq, exists_eq_left', exists_eq_left, and_self, Int.toNat_natCast, Int.natCast_nonneg, List.getElem?_map, Option.isSome_some, not_false_eq_true, not_true_eq_false, List.getElem?_toArray, Int.reduceToNat, Int.reduceLE, Int.reduceLT, Int.toNat_zero, Int.reduceNeg, Int.reduceEq, Int.reduceNe, Nat.reduceBEq, Nat.reduceMul, Nat.reducePow, *])) (okDst_spec rfl) ?_)
    by_cases hi : i < s.length
    · rw [if_pos hi, Heap.set_set]
      obtain ⟨c, hc⟩ : ∃ c, s[i]? = some c := ⟨_, List.getElem?_eq_getElem hi⟩
      obtain ⟨_, hx⟩ := List.getElem?_eq_some_iff.1 hc
      have hd : s.drop i = c :: s.drop (i + 1) := by rw [List.drop_eq_getElem_cons hi, hx]
      have hgb : (⟨s.toArray⟩ : ByteArray)[i]'(by rw [hsz]; exact hi) = c := by rw [← hx]; rfl
      by_cases ha : c.toNat < 128
      · have hdec : Utf8.decode ⟨s.toArray⟩ i = (c.toNat, 1) := by
          have := decode_ascii ⟨s.toArray⟩ i (by rw [hsz]; exact hi) (by rw [hgb]; exact ha)
          rw [hgb] at this; exact this
        rw [hdec]
        simp only []
        have hu : c.toNat.toUInt8 = c := by simp
        have hcall := fun S => asciiRune_calls c.toNat ha S
        rw [hu] at hcall
        by_cases c0 : c = 0
        · subst c0
          have e1 : Lib.indexByte [0, 10] (0 : UInt8) = 0 := by decide
          have hMi : M = (i : Int) := by
            rw [← hM, h4, hd]
            have : Lib.indexAny (0 :: s.drop (i + 1)) [0, 10] = 0 := by simp [Lib.indexAny]
            rw [this]; simp
          rw [e1] at hcall
          subst hMi
          clear hM h4 hdec hgb hx hd hc ha
          (simp only [go_sem, reduceIte, ite_true, ite_false, Nat.reduceEqDiff, Nat.reduceLT, Nat.reduceLeDiff, Nat.reduceAdd, reduceCtorEq, decide_eq_true_eq, decide_eq_false_iff_not, Bool.false_eq_true, Bool.true_eq_false, true_and, and_true, forall_const, decide_true, decide_false, true_implies, implies_true, Bool.not_true, Bool.not_false, ← decide_not, Decidable.not_not, eq_self, Option.some.injEq, exists_eq_left', exists_eq_left, and_self, Int.toNat_natCast, Int.natCast_nonneg, List.getElem?_map, Option.isSome_some, not_false_eq_true, not_true_eq_false, List.getElem?_toArray, Int.reduceToNat, Int.reduceLE, Int.reduceLT, Int.toNat_zero, Int.reduceNeg, Int.reduceEq, Int.reduceNe, Nat.reduceBEq, Nat.reduceMul, Nat.reducePow, *])
          refine OpW_call (ps := [.str [0, 10], .int .i32 (((0 : UInt8).toNat : Nat) : Int)]) rfl rfl call157 rfl ((hcall _).mono ?_)
          rintro p S'' ⟨rfl, rfl⟩
          (simp only [go_sem, reduceIte, ite_true, ite_false, Nat.reduceEqDiff, Nat.reduceLT, Nat.reduceLeDiff, Nat.reduceAdd, reduceCtorEq, decide_eq_true_eq, decide_eq_false_iff_not, Bool.false_eq_true, Bool.true_eq_false, true_and, and_true, forall_const, decide_true, decide_false, true_implies, implies_true, Bool.not_true, Bool.not_false, ← decide_not, Decidable.not_not, eq_self, Option.some.injEq, exists_eq_left', exists_eq_left, and_self, Int.toNat_natCast, Int.natCast_nonneg, List.getElem?_map, Option.isSome_some, not_false_eq_true, not_true_eq_false, List.getElem?_toArray, Int.reduceToNat, Int.reduceLE, Int.reduceLT, Int.toNat_zero, Int.reduceNeg, Int.reduceEq, Int.reduceNe, Nat.reduceBEq, Nat.reduceMul, Nat.reducePow, *])
          exact Heap.le_set hb
        · by_cases c1 : c = 10
          · subst c1
            have e1 : Lib.indexByte [0, 10] (10 : UInt8) = 1 := by decide
            have hMi : M = (i : Int) := by
              rw [← hM, h4, hd]
              have : Lib.indexAny (10 :: s.drop (i + 1)) [0, 10] = 0 := by simp [Lib.indexAny]
              rw [this]; simp
            rw [e1] at hcall
            subst hMi
            clear hM h4 hdec hgb hx hd hc ha
            (simp only [go_sem, reduceIte, ite_true, ite_false, Nat.reduceEqDiff, Nat.reduceLT, Nat.reduceLeDiff, Nat.reduceAdd, reduceCtorEq, decide_eq_true_eq, decide_eq_false_iff_not, Bool.false_eq_true, Bool.true_eq_false, true_and, and_true, forall_const, decide_true, decide_false, true_implies, implies_true, Bool.not_true, Bool.not_false, ← decide_not, Decidable.not_not, eq_self, Option.some.injEq, exists_eq_left', exists_eq_left, and_self, Int.toNat_natCast, Int.natCast_nonneg, List.getElem?_map, Option.isSome_some, not_false_eq_true, not_true_eq_false, List.getElem?_toArray, Int.reduceToNat, Int.reduceLE, Int.reduceLT, Int.toNat_zero, Int.reduceNeg, Int.reduceEq, Int.reduceNe, Nat.reduceBEq, Nat.reduceMul, Nat.reducePow, *])
            refine OpW_call (ps := [.str [0, 10], .int .i32 (((10 : UInt8).toNat : Nat) : Int)]) rfl rfl call157 rfl ((hcall _).mono ?_)
            rintro p S'' ⟨rfl, rfl⟩
            (simp only [go_sem, reduceIte, ite_true, ite_false, Nat.reduceEqDiff, Nat.reduceLT, Nat.reduceLeDiff, Nat.reduceAdd, reduceCtorEq, decide_eq_true_eq, decide_eq_false_iff_not, Bool.false_eq_true, Bool.true_eq_false, true_and, and_true, forall_const, decide_true, decide_false, true_implies, implies_true, Bool.not_true, Bool.not_false, ← decide_not, Decidable.not_not, eq_self, Option.some.injEq, exists_eq_left', exists_eq_left, and_self, Int.toNat_natCast, Int.natCast_nonneg, List.getElem?_map, Option.isSome_some, not_false_eq_true, not_true_eq_false, List.getElem?_toArray, Int.reduceToNat, Int.reduceLE, Int.reduceLT, Int.toNat_zero, Int.reduceNeg, Int.reduceEq, Int.reduceNe, Nat.reduceBEq, Nat.reduceMul, Nat.reducePow, *])
            exact Heap.le_set hb
          · have e1 : Lib.indexByte [0, 10] c = -1 := by
              have d0 : ¬ (0 : UInt8) = c := fun h => c0 h.symm
              have d1 : ¬ (10 : UInt8) = c := fun h => c1 h.symm
              simp [Lib.indexByte, d0, d1]
            have h5 := from_succ h4 hc c0 c1
            rw [e1] at hcall
            clear hM h4 hdec hgb hx hd hc ha c0 c1 e1
            (simp only [go_sem, reduceIte, ite_true, ite_false, Nat.reduceEqDiff, Nat.reduceLT, Nat.reduceLeDiff, Nat.reduceAdd, reduceCtorEq, decide_eq_true_eq, decide_eq_false_iff_not, Bool.false_eq_true, Bool.true_eq_false, true_and, and_true, forall_const, decide_true, decide_false, true_implies, implies_true, Bool.not_true, Bool.not_false, ← decide_not, Decidable.not_not, eq_self, Option.some.injEq, exists_eq_left', exists_eq_left, and_self, Int.toNat_natCast, Int.natCast_nonneg, List.getElem?_map, Option.isSome_some, not_false_eq_true, not_true_eq_false, List.getElem?_toArray, Int.reduceToNat, Int.reduceLE, Int.reduceLT, Int.toNat_zero, Int.reduceNeg, Int.reduceEq, Int.reduceNe, Nat.reduceBEq, Nat.reduceMul, Nat.reducePow, *])
            refine OpW_call (ps := [.str [0, 10], .int .i32 ((c.toNat : Nat) : Int)]) rfl rfl call157 rfl ((hcall _).mono ?_)
            rintro p S'' ⟨rfl, rfl⟩
            (simp only [go_sem, reduceIte, ite_true, ite_false, Nat.reduceEqDiff, Nat.reduceLT, Nat.reduceLeDiff, Nat.reduceAdd, reduceCtorEq, decide_eq_true_eq, decide_eq_false_iff_not, Bool.false_eq_true, Bool.true_eq_false, true_and, and_true, forall_const, decide_true, decide_false, true_implies, implies_true, Bool.not_true, Bool.not_false, ← decide_not, Decidable.not_not, eq_self, Option.some.injEq, exists_eq_left', exists_eq_left, and_self, Int.toNat_natCast, Int.natCast_nonneg, List.getElem?_map, Option.isSome_some, not_false_eq_true, not_true_eq_false, List.getElem?_toArray, Int.reduceToNat, Int.reduceLE, Int.reduceLT, Int.toNat_zero, Int.reduceNeg, Int.reduceEq, Int.reduceNe, Nat.reduceBEq, Nat.reduceMul, Nat.reducePow, *])
            exact ⟨m - 1, by omega, i + 1, by omega, rfl, h5⟩
      · have hge : 128 ≤ c.toNat := by omega
        obtain ⟨k1, k2⟩ := decode_high ⟨s.toArray⟩ i (by rw [hsz]; exact hi) (by rw [hgb]; exact hge)
        have hsw := decode_swallow s i hi (by rw [hx]; exact hge)
        generalize Utf8.decode ⟨s.toArray⟩ i = dd at *
        obtain ⟨r, n⟩ := dd
        simp only [] at k1 k2 hsw ⊢
        have hall : ∀ k, k < n → ∃ b, s[i + k]? = some b ∧ 128 ≤ b.toNat := fun k hk => by
          cases k with
          | zero => exact ⟨c, hc, hge⟩
          | succ k => exact hsw (k + 1) (by omega) hk
        have hle : i + n ≤ s.length := by
          obtain ⟨b', hb', _⟩ := hall (n - 1) (by omega)
          have := (List.getElem?_eq_some_iff.1 hb').1
          omega
        have h5 := from_add n h4 hall
        have hcall := fun S => indexRune_calls (r : Int) (by omega) S
        clear hM h4 hgb hx hd hc ha hsw hall
        (simp only [go_sem, reduceIte, ite_true, ite_false, Nat.reduceEqDiff, Nat.reduceLT, Nat.reduceLeDiff, Nat.reduceAdd, reduceCtorEq, decide_eq_true_eq, decide_eq_false_iff_not, Bool.false_eq_true, Bool.true_eq_false, true_and, and_true, forall_const, decide_true, decide_false, true_implies, implies_true, Bool.not_true, Bool.not_false, ← decide_not, Decidable.not_not, eq_self, Option.some.injEq, exists_eq_left', exists_eq_left, and_self, Int.toNat_natCast, Int.natCast_nonneg, List.getElem?_map, Option.isSome_some, not_false_eq_true, not_true_eq_false, List.getElem?_toArray, Int.reduceToNat, Int.reduceLE, Int.reduceLT, Int.toNat_zero, Int.reduceNeg, Int.reduceEq, Int.reduceNe, Nat.reduceBEq, Nat.reduceMul, Nat.reducePow, *])
        refine OpW_call (ps := [.str [0, 10], .int .i32 (r : Int)]) rfl rfl call157 rfl ((hcall _).mono ?_)
        rintro p S'' ⟨rfl, rfl⟩
        (simp only [go_sem, reduceIte, ite_true, ite_false, Nat.reduceEqDiff, Nat.reduceLT, Nat.reduceLeDiff, Nat.reduceAdd, reduceCtorEq, decide_eq_true_eq, decide_eq_false_iff_not, Bool.false_eq_true, Bool.true_eq_false, true_and, and_true, forall_const, decide_true, decide_false, true_implies, implies_true, Bool.not_true, Bool.not_false, ← decide_not, Decidable.not_not, eq_self, Option.some.injEq, exists_eq_left', exists_eq_left, and_self, Int.toNat_natCast, Int.natCast_nonneg, List.getElem?_map, Option.isSome_some, not_false_eq_true, not_true_eq_false, List.getElem?_toArray, Int.reduceToNat, Int.reduceLE, Int.reduceLT, Int.toNat_zero, Int.reduceNeg, Int.reduceEq, Int.reduceNe, Nat.reduceBEq, Nat.reduceMul, Nat.reducePow, *])
        exact ⟨m - n, by omega, i + n, by omega, rfl, h5⟩
    · rw [if_neg hi]
      have hMi : M = -1 := by
        rw [← hM, h4, List.drop_eq_nil_of_le (by omega)]
        rfl
      subst hMi
      clear hM h4
      (simp only [go_sem, reduceIte, ite_true, ite_false, Nat.reduceEqDiff, Nat.reduceLT, Nat.reduceLeDiff, Nat.reduceAdd, reduceCtorEq, decide_eq_true_eq, decide_eq_false_iff_not, Bool.false_eq_true, Bool.true_eq_false, true_and, and_true, forall_const, decide_true, decide_false, true_implies, implies_true, Bool.not_true, Bool.not_false, ← decide_not, Decidable.not_not, eq_self, Option.some.injEq, exists_eq_left', exists_eq_left, and_self, Int.toNat_natCast, Int.natCast_nonneg, List.getElem?_map, Option.isSome_some, not_false_eq_true, not_true_eq_false, List.getElem?_toArray, Int.reduceToNat, Int.reduceLE, Int.reduceLT, Int.toNat_zero, Int.reduceNeg, Int.reduceEq, Int.reduceNe, Nat.reduceBEq, Nat.reduceMul, Nat.reducePow, *])
      exact Heap.le_set hb

theorem okEnd_all (e : List UInt8) (h1 : e.length < 4294967281) : okEnd e := by
  have hcall : ∀ S, CallsQ Try.prog 137 [.str e, .str [0, 10]] S (.int .i64 (Lib.indexAny e [0, 10])) := fun S => by
    by_cases h8 : e.length ≤ 8
    · exact idxAny_short e h8 S
    · refine CallsQ_below fun w args hv hh => ?_
      rw [args_str2 hv]
      have h116 : (Try.prog.info? 156).map (fun i => (i.zero, i.size)) = some (some (.agg (Array.replicate 256 (.bool false))), 256) := by kernel_rfl
      refine (Try.strings_IndexAny_long (zero_of_info h116).1 ⟨e.toArray⟩ ⟨([0, 10] : List UInt8).toArray⟩ w (by decide) (by simp [ByteArray.size]; omega) (by simpa [ByteArray.size] using h1) (by decide) (fun j b h => by
        have : b ∈ [(0 : UInt8), 10] := List.mem_of_getElem? h
        simp at this; rcases this with rfl | rfl <;> decide)).mono ?_
      rintro r w' ⟨rfl, rfl⟩
      exact ⟨_, rfl, by simp only [Rep], (((Below.refl _ _).alloc (Nat.le_refl _) _).alloc (by simp) _)⟩
  intro S
  refine CallsA_W (fun _ => false) Try.func108 rfl (Nat.le_of_ble_eq_true rfl) ?_
  simp only [Try.f108]
  (simp only [go_sem, reduceIte, ite_true, ite_false, Nat.reduceEqDiff, Nat.reduceLT, Nat.reduceLeDiff, Nat.reduceAdd, reduceCtorEq, decide_eq_true_eq, decide_eq_false_iff_not, Bool.false_eq_true, Bool.true_eq_false, true_and, and_true, forall_const, decide_true, decide_false, true_implies, implies_true, Bool.not_true, Bool.not_false, ← decide_not, Decidable.not_not, eq_self, Option.some.injEq, exists_eq_left', exists_eq_left, and_self, Int.toNat_natCast, Int.natCast_nonneg, List.getElem?_map, Option.isSome_some, not_false_eq_true, not_true_eq_false, List.getElem?_toArray, Int.reduceToNat, Int.reduceLE, Int.reduceLT, Int.toNat_zero, Int.reduceNeg, Int.reduceEq, Int.reduceNe, Nat.reduceBEq, Nat.reduceMul, Nat.reducePow, *])
  refine OpW_call rfl rfl call137 rfl ((hcall _).mono ?_)
  rintro p S' ⟨rfl, rfl⟩
  unfold Lib.containsAny
  (simp only [go_sem, reduceIte, ite_true, ite_false, Nat.reduceEqDiff, Nat.reduceLT, Nat.reduceLeDiff, Nat.reduceAdd, reduceCtorEq, decide_eq_true_eq, decide_eq_false_iff_not, Bool.false_eq_true, Bool.true_eq_false, true_and, and_true, forall_const, decide_true, decide_false, true_implies, implies_true, Bool.not_true, Bool.not_false, ← decide_not, Decidable.not_not, eq_self, Option.some.injEq, exists_eq_left', exists_eq_left, and_self, Int.toNat_natCast, Int.natCast_nonneg, List.getElem?_map, Option.isSome_some, not_false_eq_true, not_true_eq_false, List.getElem?_toArray, Int.reduceToNat, Int.reduceLE, Int.reduceLT, Int.toNat_zero, Int.reduceNeg, Int.reduceEq, Int.reduceNe, Nat.reduceBEq, Nat.reduceMul, Nat.reducePow, *])

end Go.Proofs.Ytcbonfgkfiapaaa.Pv
