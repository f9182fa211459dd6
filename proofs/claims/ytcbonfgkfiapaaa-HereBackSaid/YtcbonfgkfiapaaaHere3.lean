/- What a reader of package here says, and the statements' own run of it. -/
import Derived.Test.YtcbonfgkfiapaaaHere2
set_option linter.unusedVariables false
set_option linter.unusedSimpArgs false
set_option maxRecDepth 100000
set_option maxHeartbeats 4000000
namespace Go.Proofs.Ytcbonfgkfiapaaa.Pv
open Go Go.RowKit

theorem join_calls0 (lines : List (List UInt8)) (pl : PV) (S : Heap) (hg : Grows S 1 9 (lines.map strRow) pl) (h1 : lines.length ≤ 140737488355328) (h2 : (Lib.join lines []).length ≤ 140737488355328) : CallsQ Try.prog 109 [pl, .str []] S (.str (Lib.join lines [])) := by
  refine CallsQ_below fun w args hv hh => ?_
  simp only [RepVals, Rep] at hv
  obtain ⟨v, r, ha, hr, v2, r2, h3, rfl, rfl⟩ := hv
  subst h3
  have hargs : args = #[v, .string ⟨#[]⟩] := Array.ext' (by simpa using ha)
  rw [hargs]
  rcases hg with ⟨rfl, hn⟩ | ⟨b, cap, cap', rfl, hb, hc1, hc2⟩
  · have hl : lines = [] := by simpa using hn
    subst hl
    simp only [Rep] at hr
    obtain ⟨a, rfl⟩ := hr
    refine (Try.strings_Join_none a 0 ⟨#[]⟩ w).mono ?_
    rintro e w' ⟨rfl, rfl⟩
    exact ⟨_, rfl, by simp only [Rep]; rfl, Below.refl _ _⟩
  · simp only [Rep] at hr
    subst hr
    obtain ⟨arr, b1, b2, b3, b4, b5⟩ := hh b _ hb
    have hlt := (hh b _ hb).lt
    have hmap : (lines.map fun l => (⟨l.toArray⟩ : ByteArray)).map (·.data.toList) = lines := by rw [List.map_map]; exact (List.map_congr_left fun l _ => rfl).trans (List.map_id _)
    have := Try.strings_Join b 0 cap (lines.map fun l => (⟨l.toArray⟩ : ByteArray)) ⟨#[]⟩ w (fun j x hj => by
      rw [List.getElem?_map] at hj
      obtain ⟨l, hl, rfl⟩ := Option.map_eq_some_iff.1 hj
      obtain ⟨_, hat⟩ := repRows_get b5 (show (lines.map strRow)[j]? = some (strRow l) by rw [List.getElem?_map, hl]; rfl)
      simp only [strRow, RepAt, Rep] at hat
      obtain ⟨⟨v, hv1, hv2⟩, _⟩ := hat
      subst hv2
      simpa using hv1) hlt (by simpa using h1) (by simpa using hc1) (by rw [hmap]; exact h2)
    rw [hmap] at this
    simp only [List.length_map] at this ⊢
    refine this.mono ?_
    rintro e w' ⟨rfl, h⟩
    exact ⟨_, rfl, by simp only [Rep], h⟩
def textOf (s : RS) : List UInt8 × Bool := if s.sig = 1 then (Lib.join s.lines [], true) else ([], false)
theorem text_calls (B : Heap) (r : Nat) (e : List UInt8) (t : Bool) (s : RS) (pl pn : PV) (S : Heap) (h : IsRdr B S r e t s pl pn) (h1 : s.lines.length ≤ 140737488355328) (h2 : (Lib.join s.lines []).length ≤ 140737488355328) :
    CallsQ Try.prog 57 [.mp r 0] S (.tup [.str (textOf s).1, .bool (textOf s).2]) := by
  have hc := h.cell
  unfold rCells at hc
  unfold textOf
  refine CallsA_W (fun _ => false) Try.func57 rfl (Nat.le_of_ble_eq_true rfl) ?_
  simp only [Try.f57]
  by_cases hs : s.sig = 1
  · (simp only [go_sem, reduceIte, ite_true, ite_false, Nat.reduceEqDiff, Nat.reduceLT, Nat.reduceLeDiff, Nat.reduceAdd, reduceCtorEq, decide_eq_true_eq, decide_eq_false_iff_not, Bool.false_eq_true, Bool.true_eq_false, true_and, and_true, forall_const, decide_true, decide_false, true_implies, implies_true, Bool.not_true, Bool.not_false, ← decide_not, Decidable.not_not, eq_self, Option.some.injEq, exists_eq_left', exists_eq_left, and_self, Int.toNat_natCast, Int.natCast_nonneg, List.getElem?_map, Option.isSome_some, not_false_eq_true, not_true_eq_false, List.getElem?_toArray, Int.reduceToNat, Int.reduceLE, Int.reduceLT, Int.toNat_zero, Int.reduceNeg, Int.reduceEq, Int.reduceNe, Nat.reduceBEq, Nat.reduceMul, Nat.reducePow, *])
    refine OpW_call rfl rfl call109 rfl ((join_calls0 s.lines pl S h.lines h1 h2).mono ?_)
    rintro p S' ⟨rfl, rfl⟩
    (simp only [go_sem, reduceIte, ite_true, ite_false, Nat.reduceEqDiff, Nat.reduceLT, Nat.reduceLeDiff, Nat.reduceAdd, reduceCtorEq, decide_eq_true_eq, decide_eq_false_iff_not, Bool.false_eq_true, Bool.true_eq_false, true_and, and_true, forall_const, decide_true, decide_false, true_implies, implies_true, Bool.not_true, Bool.not_false, ← decide_not, Decidable.not_not, eq_self, Option.some.injEq, exists_eq_left', exists_eq_left, and_self, Int.toNat_natCast, Int.natCast_nonneg, List.getElem?_map, Option.isSome_some, not_false_eq_true, not_true_eq_false, List.getElem?_toArray, Int.reduceToNat, Int.reduceLE, Int.reduceLT, Int.toNat_zero, Int.reduceNeg, Int.reduceEq, Int.reduceNe, Nat.reduceBEq, Nat.reduceMul, Nat.reducePow, *])
  · (simp only [go_sem, reduceIte, ite_true, ite_false, Nat.reduceEqDiff, Nat.reduceLT, Nat.reduceLeDiff, Nat.reduceAdd, reduceCtorEq, decide_eq_true_eq, decide_eq_false_iff_not, Bool.false_eq_true, Bool.true_eq_false, true_and, and_true, forall_const, decide_true, decide_false, true_implies, implies_true, Bool.not_true, Bool.not_false, ← decide_not, Decidable.not_not, eq_self, Option.some.injEq, exists_eq_left', exists_eq_left, and_self, Int.toNat_natCast, Int.natCast_nonneg, List.getElem?_map, Option.isSome_some, not_false_eq_true, not_true_eq_false, List.getElem?_toArray, Int.reduceToNat, Int.reduceLE, Int.reduceLT, Int.toNat_zero, Int.reduceNeg, Int.reduceEq, Int.reduceNe, Nat.reduceBEq, Nat.reduceMul, Nat.reducePow, *])

/-! May -/
theorem index_calls (s : List UInt8) (c : UInt8) (S : Heap) : CallsQ Try.prog 156 [.str s, .str [c]] S (.int .i64 (Lib.indexByte s c)) := by
  refine CallsQ_below fun w args hv hh => ?_
  rw [args_str2 hv]
  refine (Try.stringslite_Index_one ⟨s.toArray⟩ c w).mono ?_
  rintro e w' ⟨rfl, rfl⟩
  exact ⟨_, rfl, by simp only [Rep], Below.refl _ _⟩

theorem idx_lt (s : List UInt8) (c : UInt8) : Lib.indexByte s c = -1 ∨ ∃ k : Nat, Lib.indexByte s c = (k : Int) ∧ k < s.length := by
  induction s with
  | nil => left; rfl
  | cons b s ih =>
    unfold Lib.indexByte
    by_cases hb : b = c
    · right; exact ⟨0, by rw [if_pos (by simpa using hb)]; rfl, by simp⟩
    · rw [if_neg (by simpa using hb)]
      rcases ih with ih | ⟨k, h1, h2⟩
      · left; rw [ih]; rfl
      · right; exact ⟨k + 1, by rw [h1, if_neg (by simp)]; rfl, by simp; omega⟩
def cutAt (s : List UInt8) (c : UInt8) : List UInt8 × List UInt8 × Bool :=
  if 0 ≤ Lib.indexByte s c then (s.take (Lib.indexByte s c).toNat, s.drop ((Lib.indexByte s c).toNat + 1), true) else (s, [], false)
theorem lcut_calls (s : List UInt8) (hs : s.length ≤ 4611686018427387904) (c : UInt8) (S : Heap) : CallsQ Try.prog 135 [.str s, .str [c]] S (.tup [.str (cutAt s c).1, .str (cutAt s c).2.1, .bool (cutAt s c).2.2]) := by
  refine CallsA_W (fun _ => false) Try.func135 rfl (Nat.le_of_ble_eq_true rfl) ?_
  simp only [Try.f135]
  (simp only [go_sem, reduceIte, ite_true, ite_false, Nat.reduceEqDiff, Nat.reduceLT, Nat.reduceLeDiff, Nat.reduceAdd, reduceCtorEq, decide_eq_true_eq, decide_eq_false_iff_not, Bool.false_eq_true, Bool.true_eq_false, true_and, and_true, forall_const, decide_true, decide_false, true_implies, implies_true, Bool.not_true, Bool.not_false, ← decide_not, Decidable.not_not, eq_self, Option.some.injEq, exists_eq_left', exists_eq_left, and_self, Int.toNat_natCast, Int.natCast_nonneg, List.getElem?_map, Option.isSome_some, not_false_eq_true, not_true_eq_false, List.getElem?_toArray, Int.reduceToNat, Int.reduceLE, Int.reduceLT, Int.toNat_zero, Int.reduceNeg, Int.reduceEq, Int.reduceNe, Nat.reduceBEq, Nat.reduceMul, Nat.reducePow, *])
  refine OpW_call rfl rfl call156 rfl ((index_calls s c _).mono ?_)
  rintro p S' ⟨rfl, rfl⟩
  unfold cutAt
  rcases idx_lt s c with h | ⟨k, h, hk⟩
  · rw [h]
    (simp only [go_sem, reduceIte, ite_true, ite_false, Nat.reduceEqDiff, Nat.reduceLT, Nat.reduceLeDiff, Nat.reduceAdd, reduceCtorEq, decide_eq_true_eq, decide_eq_false_iff_not, Bool.false_eq_true, Bool.true_eq_false, true_and, and_true, forall_const, decide_true, decide_false, true_implies, implies_true, Bool.not_true, Bool.not_false, ← decide_not, Decidable.not_not, eq_self, Option.some.injEq, exists_eq_left', exists_eq_left, and_self, Int.toNat_natCast, Int.natCast_nonneg, List.getElem?_map, Option.isSome_some, not_false_eq_true, not_true_eq_false, List.getElem?_toArray, Int.reduceToNat, Int.reduceLE, Int.reduceLT, Int.toNat_zero, Int.reduceNeg, Int.reduceEq, Int.reduceNe, Nat.reduceBEq, Nat.reduceMul, Nat.reducePow, *])
  · rw [h]
    have h0 : (0 : Int) ≤ (k : Int) := by omega
    have hk' : k ≤ s.length := by omega
    have hk1 : k + 1 ≤ s.length := by omega
    have hw : IntKind.i64.wrap ((k : Int) + ((1 : Nat) : Int)) = ((k + 1 : Nat) : Int) := by rw [IntKind.wrap_i64]; omega
    have hll : s.length ≤ s.length := Nat.le_refl _
    have htk : List.take s.length s = s := List.take_length
    (simp only [go_sem, reduceIte, ite_true, ite_false, Nat.reduceEqDiff, Nat.reduceLT, Nat.reduceLeDiff, Nat.reduceAdd, reduceCtorEq, decide_eq_true_eq, decide_eq_false_iff_not, Bool.false_eq_true, Bool.true_eq_false, true_and, and_true, forall_const, decide_true, decide_false, true_implies, implies_true, Bool.not_true, Bool.not_false, ← decide_not, Decidable.not_not, eq_self, Option.some.injEq, exists_eq_left', exists_eq_left, and_self, Int.toNat_natCast, Int.natCast_nonneg, List.getElem?_map, Option.isSome_some, not_false_eq_true, not_true_eq_false, List.getElem?_toArray, Int.reduceToNat, Int.reduceLE, Int.reduceLT, Int.toNat_zero, Int.reduceNeg, Int.reduceEq, Int.reduceNe, Nat.reduceBEq, Nat.reduceMul, Nat.reducePow, *])
    refine CodeW_quiet mixed 12 (by kernel_rfl) ?_
    (simp only [go_sem, reduceIte, ite_true, ite_false, Nat.reduceEqDiff, Nat.reduceLT, Nat.reduceLeDiff, Nat.reduceAdd, reduceCtorEq, decide_eq_true_eq, decide_eq_false_iff_not, Bool.false_eq_true, Bool.true_eq_false, true_and, and_true, forall_const, decide_true, decide_false, true_implies, implies_true, Bool.not_true, Bool.not_false, ← decide_not, Decidable.not_not, eq_self, Option.some.injEq, exists_eq_left', exists_eq_left, and_self, Int.toNat_natCast, Int.natCast_nonneg, List.getElem?_map, Option.isSome_some, not_false_eq_true, not_true_eq_false, List.getElem?_toArray, Int.reduceToNat, Int.reduceLE, Int.reduceLT, Int.toNat_zero, Int.reduceNeg, Int.reduceEq, Int.reduceNe, Nat.reduceBEq, Nat.reduceMul, Nat.reducePow, *])
theorem cut_calls (s : List UInt8) (hs : s.length ≤ 4611686018427387904) (c : UInt8) (S : Heap) : CallsQ Try.prog 103 [.str s, .str [c]] S (.tup [.str (cutAt s c).1, .str (cutAt s c).2.1, .bool (cutAt s c).2.2]) := by
  refine CallsA_W (fun _ => false) Try.func103 rfl (Nat.le_of_ble_eq_true rfl) ?_
  simp only [Try.f103]
  (simp only [go_sem, reduceIte, ite_true, ite_false, Nat.reduceEqDiff, Nat.reduceLT, Nat.reduceLeDiff, Nat.reduceAdd, reduceCtorEq, decide_eq_true_eq, decide_eq_false_iff_not, Bool.false_eq_true, Bool.true_eq_false, true_and, and_true, forall_const, decide_true, decide_false, true_implies, implies_true, Bool.not_true, Bool.not_false, ← decide_not, Decidable.not_not, eq_self, Option.some.injEq, exists_eq_left', exists_eq_left, and_self, Int.toNat_natCast, Int.natCast_nonneg, List.getElem?_map, Option.isSome_some, not_false_eq_true, not_true_eq_false, List.getElem?_toArray, Int.reduceToNat, Int.reduceLE, Int.reduceLT, Int.toNat_zero, Int.reduceNeg, Int.reduceEq, Int.reduceNe, Nat.reduceBEq, Nat.reduceMul, Nat.reducePow, *])
  refine OpW_call rfl rfl call135 rfl ((lcut_calls s hs c _).mono ?_)
  rintro p S' ⟨rfl, rfl⟩
  (simp only [go_sem, reduceIte, ite_true, ite_false, Nat.reduceEqDiff, Nat.reduceLT, Nat.reduceLeDiff, Nat.reduceAdd, reduceCtorEq, decide_eq_true_eq, decide_eq_false_iff_not, Bool.false_eq_true, Bool.true_eq_false, true_and, and_true, forall_const, decide_true, decide_false, true_implies, implies_true, Bool.not_true, Bool.not_false, ← decide_not, Decidable.not_not, eq_self, Option.some.injEq, exists_eq_left', exists_eq_left, and_self, Int.toNat_natCast, Int.natCast_nonneg, List.getElem?_map, Option.isSome_some, not_false_eq_true, not_true_eq_false, List.getElem?_toArray, Int.reduceToNat, Int.reduceLE, Int.reduceLT, Int.toNat_zero, Int.reduceNeg, Int.reduceEq, Int.reduceNe, Nat.reduceBEq, Nat.reduceMul, Nat.reducePow, *])
def mayL (e : List UInt8) (t : Bool) (text : List UInt8) : Bool :=
  if h : text = [] then true
  else if (cutAt text 10).2.2 = false ∨ (cutAt text 10).1 = e ∨ (t = true ∧ Lib.hasPrefix (cutAt text 10).1 [9] = true) then false
  else mayL e t (text.drop ((Lib.indexByte text 10).toNat + 1))
termination_by text.length
decreasing_by
  have := List.length_pos_iff.2 h
  rw [List.length_drop]; omega
theorem cut_rest {s : List UInt8} {c : UInt8} (h : (cutAt s c).2.2 = true) : (cutAt s c).2.1 = s.drop ((Lib.indexByte s c).toNat + 1) := by
  unfold cutAt at h ⊢
  split <;> rename_i h1
  · rfl
  · rw [if_neg h1] at h; cases h
def hereMay (e : List UInt8) (t : Bool) (text : List UInt8) : Bool := hereRight e t && !decide (0 ≤ Lib.indexByte text 0) && mayL e t text
theorem may_calls (e : List UInt8) (t : Bool) (text : List UInt8) (h1 : e.length < 4294967281) (ha : okEnd e) (hs : text.length ≤ 4611686018427387904) (S : Heap) : CallsQ Try.prog 51 [.agg [.str e, .bool t], .str text] S (.bool (hereMay e t text)) := by
  refine CallsA_W (fun _ => false) Try.func51 rfl (Nat.le_of_ble_eq_true rfl) ?_
  simp only [Try.f51]
  (simp only [go_sem, reduceIte, ite_true, ite_false, Nat.reduceEqDiff, Nat.reduceLT, Nat.reduceLeDiff, Nat.reduceAdd, reduceCtorEq, decide_eq_true_eq, decide_eq_false_iff_not, Bool.false_eq_true, Bool.true_eq_false, true_and, and_true, forall_const, decide_true, decide_false, true_implies, implies_true, Bool.not_true, Bool.not_false, ← decide_not, Decidable.not_not, eq_self, Option.some.injEq, exists_eq_left', exists_eq_left, and_self, Int.toNat_natCast, Int.natCast_nonneg, List.getElem?_map, Option.isSome_some, not_false_eq_true, not_true_eq_false, List.getElem?_toArray, Int.reduceToNat, Int.reduceLE, Int.reduceLT, Int.toNat_zero, Int.reduceNeg, Int.reduceEq, Int.reduceNe, Nat.reduceBEq, Nat.reduceMul, Nat.reducePow, *])
  refine OpW_call rfl rfl call55 rfl ((right_calls e t h1 ha _).mono ?_)
  rintro p S' ⟨rfl, rfl⟩
  unfold hereMay
  rcases Bool.eq_false_or_eq_true (hereRight e t) with hr | hr
  · (simp only [go_sem, reduceIte, ite_true, ite_false, Nat.reduceEqDiff, Nat.reduceLT, Nat.reduceLeDiff, Nat.reduceAdd, reduceCtorEq, decide_eq_true_eq, decide_eq_false_iff_not, Bool.false_eq_true, Bool.true_eq_false, true_and, and_true, forall_const, decide_true, decide_false, true_implies, implies_true, Bool.not_true, Bool.not_false, ← decide_not, Decidable.not_not, eq_self, Option.some.injEq, exists_eq_left', exists_eq_left, and_self, Int.toNat_natCast, Int.natCast_nonneg, List.getElem?_map, Option.isSome_some, not_false_eq_true, not_true_eq_false, List.getElem?_toArray, Int.reduceToNat, Int.reduceLE, Int.reduceLT, Int.toNat_zero, Int.reduceNeg, Int.reduceEq, Int.reduceNe, Nat.reduceBEq, Nat.reduceMul, Nat.reducePow, *])
    refine OpW_call rfl rfl call102 rfl ((contains_calls text 0 _).mono ?_)
    rintro p S' ⟨rfl, rfl⟩
    by_cases hz : 0 ≤ Lib.indexByte text 0
    · (simp only [go_sem, reduceIte, ite_true, ite_false, Nat.reduceEqDiff, Nat.reduceLT, Nat.reduceLeDiff, Nat.reduceAdd, reduceCtorEq, decide_eq_true_eq, decide_eq_false_iff_not, Bool.false_eq_true, Bool.true_eq_false, true_and, and_true, forall_const, decide_true, decide_false, true_implies, implies_true, Bool.not_true, Bool.not_false, ← decide_not, Decidable.not_not, eq_self, Option.some.injEq, exists_eq_left', exists_eq_left, and_self, Int.toNat_natCast, Int.natCast_nonneg, List.getElem?_map, Option.isSome_some, not_false_eq_true, not_true_eq_false, List.getElem?_toArray, Int.reduceToNat, Int.reduceLE, Int.reduceLT, Int.toNat_zero, Int.reduceNeg, Int.reduceEq, Int.reduceNe, Nat.reduceBEq, Nat.reduceMul, Nat.reducePow, *])
      rfl
    · obtain ⟨M, hM⟩ : ∃ M, mayL e t text = M := ⟨_, rfl⟩
      (simp only [go_sem, reduceIte, ite_true, ite_false, Nat.reduceEqDiff, Nat.reduceLT, Nat.reduceLeDiff, Nat.reduceAdd, reduceCtorEq, decide_eq_true_eq, decide_eq_false_iff_not, Bool.false_eq_true, Bool.true_eq_false, true_and, and_true, forall_const, decide_true, decide_false, true_implies, implies_true, Bool.not_true, Bool.not_false, ← decide_not, Decidable.not_not, eq_self, Option.some.injEq, exists_eq_left', exists_eq_left, and_self, Int.toNat_natCast, Int.natCast_nonneg, List.getElem?_map, Option.isSome_some, not_false_eq_true, not_true_eq_false, List.getElem?_toArray, Int.reduceToNat, Int.reduceLE, Int.reduceLT, Int.toNat_zero, Int.reduceNeg, Int.reduceEq, Int.reduceNe, Nat.reduceBEq, Nat.reduceMul, Nat.reducePow, *])
      refine CodeW_loop (fun m σ' S'' => ∃ x : List UInt8, x.length = m ∧ σ' 1 = .str x ∧ σ' 2 = .ref [.str e, .bool t] ∧ S'' = S' ∧ x.length ≤ text.length ∧ mayL e t x = M) text.length ?_ ?_
      · (simp only [go_sem, reduceIte, ite_true, ite_false, Nat.reduceEqDiff, Nat.reduceLT, Nat.reduceLeDiff, Nat.reduceAdd, reduceCtorEq, decide_eq_true_eq, decide_eq_false_iff_not, Bool.false_eq_true, Bool.true_eq_false, true_and, and_true, forall_const, decide_true, decide_false, true_implies, implies_true, Bool.not_true, Bool.not_false, ← decide_not, Decidable.not_not, eq_self, Option.some.injEq, exists_eq_left', exists_eq_left, and_self, Int.toNat_natCast, Int.natCast_nonneg, List.getElem?_map, Option.isSome_some, not_false_eq_true, not_true_eq_false, List.getElem?_toArray, Int.reduceToNat, Int.reduceLE, Int.reduceLT, Int.toNat_zero, Int.reduceNeg, Int.reduceEq, Int.reduceNe, Nat.reduceBEq, Nat.reduceMul, Nat.reducePow, *])
        exact ⟨text, rfl, rfl, Nat.le_refl _, hM⟩
      · rintro m σ' S'' ⟨x, rfl, h2, h3, rfl, h4, h5⟩
        clear hM
        have hxs : x.length ≤ 4611686018427387904 := by omega
        by_cases hx : x = []
        · obtain rfl : M = true := by rw [← h5, mayL, dif_pos hx]
          clear h5
          (simp only [go_sem, reduceIte, ite_true, ite_false, Nat.reduceEqDiff, Nat.reduceLT, Nat.reduceLeDiff, Nat.reduceAdd, reduceCtorEq, decide_eq_true_eq, decide_eq_false_iff_not, Bool.false_eq_true, Bool.true_eq_false, true_and, and_true, forall_const, decide_true, decide_false, true_implies, implies_true, Bool.not_true, Bool.not_false, ← decide_not, Decidable.not_not, eq_self, Option.some.injEq, exists_eq_left', exists_eq_left, and_self, Int.toNat_natCast, Int.natCast_nonneg, List.getElem?_map, Option.isSome_some, not_false_eq_true, not_true_eq_false, List.getElem?_toArray, Int.reduceToNat, Int.reduceLE, Int.reduceLT, Int.toNat_zero, Int.reduceNeg, Int.reduceEq, Int.reduceNe, Nat.reduceBEq, Nat.reduceMul, Nat.reducePow, *])
          rfl
        · have hstop : ((cutAt x 10).2.2 = false ∨ (cutAt x 10).1 = e ∨ (t = true ∧ Lib.hasPrefix (cutAt x 10).1 [9] = true)) → M = false := fun h => by rw [← h5, mayL, dif_neg hx, if_pos h]
          have hgo : ¬ ((cutAt x 10).2.2 = false ∨ (cutAt x 10).1 = e ∨ (t = true ∧ Lib.hasPrefix (cutAt x 10).1 [9] = true)) → mayL e t (cutAt x 10).2.1 = M ∧ (cutAt x 10).2.1.length < x.length := fun h => by
            have h1 : (cutAt x 10).2.2 = true := by
              cases h2 : (cutAt x 10).2.2 with
              | true => rfl
              | false => exact absurd (Or.inl h2) h
            refine ⟨?_, ?_⟩
            · rw [cut_rest h1, ← h5]
              conv => rhs; rw [mayL]
              rw [dif_neg hx, if_neg h]
            · rw [cut_rest h1, List.length_drop]
              have := List.length_pos_iff.2 hx
              omega
          have hc := fun S => cut_calls x hxs 10 S
          generalize cutAt x 10 = q at *
          clear h5
          (simp only [go_sem, reduceIte, ite_true, ite_false, Nat.reduceEqDiff, Nat.reduceLT, Nat.reduceLeDiff, Nat.reduceAdd, reduceCtorEq, decide_eq_true_eq, decide_eq_false_iff_not, Bool.false_eq_true, Bool.true_eq_false, true_and, and_true, forall_const, decide_true, decide_false, true_implies, implies_true, Bool.not_true, Bool.not_false, ← decide_not, Decidable.not_not, eq_self, Option.some.injEq, exists_eq_left', exists_eq_left, and_self, Int.toNat_natCast, Int.natCast_nonneg, List.getElem?_map, Option.isSome_some, not_false_eq_true, not_true_eq_false, List.getElem?_toArray, Int.reduceToNat, Int.reduceLE, Int.reduceLT, Int.toNat_zero, Int.reduceNeg, Int.reduceEq, Int.reduceNe, Nat.reduceBEq, Nat.reduceMul, Nat.reducePow, *])
          refine OpW_call rfl rfl call103 rfl ((hc _).mono ?_)
          rintro p S' ⟨rfl, rfl⟩
          rcases Bool.eq_false_or_eq_true q.2.2 with h22 | h22
          · by_cases hq1 : q.1 = e
            · obtain rfl : M = false := hstop (Or.inr (Or.inl hq1))
              clear hstop hgo
              (simp only [go_sem, reduceIte, ite_true, ite_false, Nat.reduceEqDiff, Nat.reduceLT, Nat.reduceLeDiff, Nat.reduceAdd, reduceCtorEq, decide_eq_true_eq, decide_eq_false_iff_not, Bool.false_eq_true, Bool.true_eq_false, true_and, and_true, forall_const, decide_true, decide_false, true_implies, implies_true, Bool.not_true, Bool.not_false, ← decide_not, Decidable.not_not, eq_self, Option.some.injEq, exists_eq_left', exists_eq_left, and_self, Int.toNat_natCast, Int.natCast_nonneg, List.getElem?_map, Option.isSome_some, not_false_eq_true, not_true_eq_false, List.getElem?_toArray, Int.reduceToNat, Int.reduceLE, Int.reduceLT, Int.toNat_zero, Int.reduceNeg, Int.reduceEq, Int.reduceNe, Nat.reduceBEq, Nat.reduceMul, Nat.reducePow, *])
              rfl
            · cases t with
              | false =>
                obtain ⟨k1, k2⟩ := hgo (fun h => h.elim (fun h => by rw [h22] at h; cases h) fun h => h.elim hq1 fun h => by cases h.1)
                clear hstop hgo
                (simp only [go_sem, reduceIte, ite_true, ite_false, Nat.reduceEqDiff, Nat.reduceLT, Nat.reduceLeDiff, Nat.reduceAdd, reduceCtorEq, decide_eq_true_eq, decide_eq_false_iff_not, Bool.false_eq_true, Bool.true_eq_false, true_and, and_true, forall_const, decide_true, decide_false, true_implies, implies_true, Bool.not_true, Bool.not_false, ← decide_not, Decidable.not_not, eq_self, Option.some.injEq, exists_eq_left', exists_eq_left, and_self, Int.toNat_natCast, Int.natCast_nonneg, List.getElem?_map, Option.isSome_some, not_false_eq_true, not_true_eq_false, List.getElem?_toArray, Int.reduceToNat, Int.reduceLE, Int.reduceLT, Int.toNat_zero, Int.reduceNeg, Int.reduceEq, Int.reduceNe, Nat.reduceBEq, Nat.reduceMul, Nat.reducePow, *])
                exact ⟨_, k2, q.2.1, rfl, rfl, by omega, k1⟩
              | true =>
                (simp only [go_sem, reduceIte, ite_true, ite_false, Nat.reduceEqDiff, Nat.reduceLT, Nat.reduceLeDiff, Nat.reduceAdd, reduceCtorEq, decide_eq_true_eq, decide_eq_false_iff_not, Bool.false_eq_true, Bool.true_eq_false, true_and, and_true, forall_const, decide_true, decide_false, true_implies, implies_true, Bool.not_true, Bool.not_false, ← decide_not, Decidable.not_not, eq_self, Option.some.injEq, exists_eq_left', exists_eq_left, and_self, Int.toNat_natCast, Int.natCast_nonneg, List.getElem?_map, Option.isSome_some, not_false_eq_true, not_true_eq_false, List.getElem?_toArray, Int.reduceToNat, Int.reduceLE, Int.reduceLT, Int.toNat_zero, Int.reduceNeg, Int.reduceEq, Int.reduceNe, Nat.reduceBEq, Nat.reduceMul, Nat.reducePow, *])
                refine OpW_call rfl rfl call104 rfl ((hasPrefix_calls q.1 [9] _).mono ?_)
                rintro p S' ⟨rfl, rfl⟩
                rcases Bool.eq_false_or_eq_true (Lib.hasPrefix q.1 [9]) with hp | hp
                · obtain rfl : M = false := hstop (Or.inr (Or.inr ⟨rfl, hp⟩))
                  clear hstop hgo
                  (simp only [go_sem, reduceIte, ite_true, ite_false, Nat.reduceEqDiff, Nat.reduceLT, Nat.reduceLeDiff, Nat.reduceAdd, reduceCtorEq, decide_eq_true_eq, decide_eq_false_iff_not, Bool.false_eq_true, Bool.true_eq_false, true_and, and_true, forall_const, decide_true, decide_false, true_implies, implies_true, Bool.not_true, Bool.not_false, ← decide_not, Decidable.not_not, eq_self, Option.some.injEq, exists_eq_left', exists_eq_left, and_self, Int.toNat_natCast, Int.natCast_nonneg, List.getElem?_map, Option.isSome_some, not_false_eq_true, not_true_eq_false, List.getElem?_toArray, Int.reduceToNat, Int.reduceLE, Int.reduceLT, Int.toNat_zero, Int.reduceNeg, Int.reduceEq, Int.reduceNe, Nat.reduceBEq, Nat.reduceMul, Nat.reducePow, *])
                  rfl
                · obtain ⟨k1, k2⟩ := hgo (fun h => h.elim (fun h => by rw [h22] at h; cases h) fun h => h.elim hq1 fun h => by rw [hp] at h; cases h.2)
                  clear hstop hgo
                  (simp only [go_sem, reduceIte, ite_true, ite_false, Nat.reduceEqDiff, Nat.reduceLT, Nat.reduceLeDiff, Nat.reduceAdd, reduceCtorEq, decide_eq_true_eq, decide_eq_false_iff_not, Bool.false_eq_true, Bool.true_eq_false, true_and, and_true, forall_const, decide_true, decide_false, true_implies, implies_true, Bool.not_true, Bool.not_false, ← decide_not, Decidable.not_not, eq_self, Option.some.injEq, exists_eq_left', exists_eq_left, and_self, Int.toNat_natCast, Int.natCast_nonneg, List.getElem?_map, Option.isSome_some, not_false_eq_true, not_true_eq_false, List.getElem?_toArray, Int.reduceToNat, Int.reduceLE, Int.reduceLT, Int.toNat_zero, Int.reduceNeg, Int.reduceEq, Int.reduceNe, Nat.reduceBEq, Nat.reduceMul, Nat.reducePow, *])
                  exact ⟨_, k2, q.2.1, rfl, rfl, by omega, k1⟩
          · obtain rfl : M = false := hstop (Or.inl h22)
            clear hstop hgo
            (simp only [go_sem, reduceIte, ite_true, ite_false, Nat.reduceEqDiff, Nat.reduceLT, Nat.reduceLeDiff, Nat.reduceAdd, reduceCtorEq, decide_eq_true_eq, decide_eq_false_iff_not, Bool.false_eq_true, Bool.true_eq_false, true_and, and_true, forall_const, decide_true, decide_false, true_implies, implies_true, Bool.not_true, Bool.not_false, ← decide_not, Decidable.not_not, eq_self, Option.some.injEq, exists_eq_left', exists_eq_left, and_self, Int.toNat_natCast, Int.natCast_nonneg, List.getElem?_map, Option.isSome_some, not_false_eq_true, not_true_eq_false, List.getElem?_toArray, Int.reduceToNat, Int.reduceLE, Int.reduceLT, Int.toNat_zero, Int.reduceNeg, Int.reduceEq, Int.reduceNe, Nat.reduceBEq, Nat.reduceMul, Nat.reducePow, *])
            rfl
  · (simp only [go_sem, reduceIte, ite_true, ite_false, Nat.reduceEqDiff, Nat.reduceLT, Nat.reduceLeDiff, Nat.reduceAdd, reduceCtorEq, decide_eq_true_eq, decide_eq_false_iff_not, Bool.false_eq_true, Bool.true_eq_false, true_and, and_true, forall_const, decide_true, decide_false, true_implies, implies_true, Bool.not_true, Bool.not_false, ← decide_not, Decidable.not_not, eq_self, Option.some.injEq, exists_eq_left', exists_eq_left, and_self, Int.toNat_natCast, Int.natCast_nonneg, List.getElem?_map, Option.isSome_some, not_false_eq_true, not_true_eq_false, List.getElem?_toArray, Int.reduceToNat, Int.reduceLE, Int.reduceLT, Int.toNat_zero, Int.reduceNeg, Int.reduceEq, Int.reduceNe, Nat.reduceBEq, Nat.reduceMul, Nat.reducePow, *])
    rfl

end Go.Proofs.Ytcbonfgkfiapaaa.Pv
