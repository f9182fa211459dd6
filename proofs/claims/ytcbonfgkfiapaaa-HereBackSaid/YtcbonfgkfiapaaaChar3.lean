/- What the other functions of package char compute: texts. -/
import Derived.Test.YtcbonfgkfiapaaaChar2
import Derived.Test.YtcbonfgkfiapaaaDrop
import Derived.Laws.RangeString
set_option linter.unusedVariables false
set_option linter.unusedSimpArgs false
set_option maxRecDepth 100000
set_option maxHeartbeats 4000000
namespace Go.Proofs.Ytcbonfgkfiapaaa.Pv
open Go Go.RowKit

/-! What is so of every byte, and its place -/
def allFrom (p : Nat → UInt8 → Bool) : Nat → List UInt8 → Bool
  | _, [] => true
  | i, c :: s => p i c && allFrom p (i + 1) s
theorem allFrom_iff {p : Nat → UInt8 → Bool} : ∀ {s : List UInt8} {k : Nat}, allFrom p k s = true ↔ ∀ j c, s[j]? = some c → p (k + j) c = true
  | [], k => by simp [allFrom]
  | c :: s, k => by
    simp only [allFrom, Bool.and_eq_true]
    rw [allFrom_iff (s := s)]
    constructor
    · rintro ⟨h1, h2⟩ j d hj
      cases j with
      | zero => simp at hj; subst hj; simpa using h1
      | succ j => simp at hj; have := h2 j d hj; rwa [show k + 1 + j = k + (j + 1) by omega] at this
    · intro h
      refine ⟨by simpa using h 0 c rfl, fun j d hj => ?_⟩
      have := h (j + 1) d (by simpa using hj)
      rwa [show k + (j + 1) = k + 1 + j by omega] at this
/-- So of each byte ahead of place i. -/
def upTo (p : Nat → UInt8 → Bool) (i : Nat) (s : List UInt8) : Prop := ∀ j c, j < i → s[j]? = some c → p j c = true
theorem upTo_zero {p : Nat → UInt8 → Bool} {s : List UInt8} : upTo p 0 s := fun j c h => by omega
theorem upTo_succ {p : Nat → UInt8 → Bool} {s : List UInt8} {i : Nat} {c : UInt8} (h : upTo p i s) (hc : s[i]? = some c) (hp : p i c = true) : upTo p (i + 1) s := by
  intro j d hj hd
  by_cases e : j = i
  · subst e; rw [hc] at hd; injection hd with hd; subst hd; exact hp
  · exact h j d (by omega) hd
theorem upTo_end {p : Nat → UInt8 → Bool} {s : List UInt8} {i : Nat} (h : upTo p i s) (hi : s.length ≤ i) : allFrom p 0 s = true := by
  rw [allFrom_iff]
  intro j c hj
  have := (List.getElem?_eq_some_iff.1 hj).1
  rw [Nat.zero_add]; exact h j c (by omega) hj
theorem all_not {p : Nat → UInt8 → Bool} {s : List UInt8} {i : Nat} {c : UInt8} (hc : s[i]? = some c) (hp : p i c = false) : allFrom p 0 s = false := by
  cases h : allFrom p 0 s with
  | false => rfl
  | true => rw [allFrom_iff] at h; have := h i c hc; rw [Nat.zero_add, hp] at this; cases this

def pAscii (_ : Nat) (c : UInt8) : Bool := decide ((c.toNat : Int) < 128)
def isAscii (s : List UInt8) : Bool := allFrom pAscii 0 s

theorem wrap_in {n : Int} (h : -9223372036854775808 ≤ n ∧ n ≤ 9223372036854775807) : IntKind.i64.wrap n = n := by rw [IntKind.wrap_i64]; omega
theorem step64 {i n : Nat} (h : i < n) (hn : n ≤ 4611686018427387904) : PV.int .i64 (IntKind.i64.wrap ((i : Int) + 1)) = PV.int .i64 ((i + 1 : Nat) : Int) := by
  rw [wrap_in (by omega)]; rfl
theorem ascii_calls (s : List UInt8) (hs : s.length ≤ 4611686018427387904) (S : Heap) : CallsQ Try.prog 85 [.str s] S (.bool (isAscii s)) := by
  refine CallsA_W (fun _ => false) Try.func85 rfl (Nat.le_of_ble_eq_true rfl) ?_
  simp only [Try.f85]
  (simp only [go_sem, reduceIte, ite_true, ite_false, Nat.reduceEqDiff, Nat.reduceLT, Nat.reduceLeDiff, Nat.reduceAdd, reduceCtorEq, decide_eq_true_eq, decide_eq_false_iff_not, Bool.false_eq_true, Bool.true_eq_false, true_and, and_true, forall_const, decide_true, decide_false, true_implies, implies_true, Bool.not_true, Bool.not_false, ← decide_not, Decidable.not_not, eq_self, Option.some.injEq, exists_eq_left', exists_eq_left, and_self, Int.toNat_natCast, Int.natCast_nonneg, List.getElem?_map, Option.isSome_some, not_false_eq_true, not_true_eq_false, List.getElem?_toArray, Int.reduceToNat, Int.reduceLE, Int.reduceLT, Int.toNat_zero, Int.reduceNeg, *])
  refine CodeW_loop (fun m σ' S' => ∃ i : Nat, i + m = s.length ∧ σ' 0 = .str s ∧ σ' 5 = .int .i64 s.length ∧ σ' 6 = .int .i64 i ∧ S' = S ∧ upTo pAscii i s) s.length ?_ ?_
  · (simp only [go_sem, reduceIte, ite_true, ite_false, Nat.reduceEqDiff, Nat.reduceLT, Nat.reduceLeDiff, Nat.reduceAdd, reduceCtorEq, decide_eq_true_eq, decide_eq_false_iff_not, Bool.false_eq_true, Bool.true_eq_false, true_and, and_true, forall_const, decide_true, decide_false, true_implies, implies_true, Bool.not_true, Bool.not_false, ← decide_not, Decidable.not_not, eq_self, Option.some.injEq, exists_eq_left', exists_eq_left, and_self, Int.toNat_natCast, Int.natCast_nonneg, List.getElem?_map, Option.isSome_some, not_false_eq_true, not_true_eq_false, List.getElem?_toArray, Int.reduceToNat, Int.reduceLE, Int.reduceLT, Int.toNat_zero, Int.reduceNeg, *])
    exact ⟨0, by omega, rfl, upTo_zero⟩
  · rintro m σ' S' ⟨i, h1, h2, h3, h4, rfl, h6⟩
    cases hc : s[i]? with
    | none =>
      have hl : s.length ≤ i := List.getElem?_eq_none_iff.1 hc
      have hlt : ¬ ((i : Int) < (s.length : Int)) := by omega
      (simp only [go_sem, reduceIte, ite_true, ite_false, Nat.reduceEqDiff, Nat.reduceLT, Nat.reduceLeDiff, Nat.reduceAdd, reduceCtorEq, decide_eq_true_eq, decide_eq_false_iff_not, Bool.false_eq_true, Bool.true_eq_false, true_and, and_true, forall_const, decide_true, decide_false, true_implies, implies_true, Bool.not_true, Bool.not_false, ← decide_not, Decidable.not_not, eq_self, Option.some.injEq, exists_eq_left', exists_eq_left, and_self, Int.toNat_natCast, Int.natCast_nonneg, List.getElem?_map, Option.isSome_some, not_false_eq_true, not_true_eq_false, List.getElem?_toArray, Int.reduceToNat, Int.reduceLE, Int.reduceLT, Int.toNat_zero, Int.reduceNeg, *])
      exact congrArg PV.bool (upTo_end h6 hl).symm
    | some c =>
      have hl := (List.getElem?_eq_some_iff.1 hc).1
      have hlt : (i : Int) < (s.length : Int) := by omega
      (simp only [go_sem, reduceIte, ite_true, ite_false, Nat.reduceEqDiff, Nat.reduceLT, Nat.reduceLeDiff, Nat.reduceAdd, reduceCtorEq, decide_eq_true_eq, decide_eq_false_iff_not, Bool.false_eq_true, Bool.true_eq_false, true_and, and_true, forall_const, decide_true, decide_false, true_implies, implies_true, Bool.not_true, Bool.not_false, ← decide_not, Decidable.not_not, eq_self, Option.some.injEq, exists_eq_left', exists_eq_left, and_self, Int.toNat_natCast, Int.natCast_nonneg, List.getElem?_map, Option.isSome_some, not_false_eq_true, not_true_eq_false, List.getElem?_toArray, Int.reduceToNat, Int.reduceLE, Int.reduceLT, Int.toNat_zero, Int.reduceNeg, *])
      (repeat' first | (refine split_d ?_ ?_ <;> intro _ <;> ((try simp only [go_sem, reduceIte, ite_true, ite_false, Nat.reduceEqDiff, Nat.reduceLT, Nat.reduceLeDiff, Nat.reduceAdd, reduceCtorEq, decide_eq_true_eq, decide_eq_false_iff_not, Bool.false_eq_true, Bool.true_eq_false, true_and, and_true, forall_const, decide_true, decide_false, true_implies, implies_true, Bool.not_true, Bool.not_false, ← decide_not, Decidable.not_not, eq_self, Option.some.injEq, exists_eq_left', exists_eq_left, and_self, Int.toNat_natCast, Int.natCast_nonneg, List.getElem?_map, Option.isSome_some, not_false_eq_true, not_true_eq_false, List.getElem?_toArray, Int.reduceToNat, Int.reduceLE, Int.reduceLT, Int.toNat_zero, Int.reduceNeg, *]))) | (refine split_gt rfl ?_ ?_ <;> intro _ <;> ((try simp only [go_sem, reduceIte, ite_true, ite_false, Nat.reduceEqDiff, Nat.reduceLT, Nat.reduceLeDiff, Nat.reduceAdd, reduceCtorEq, decide_eq_true_eq, decide_eq_false_iff_not, Bool.false_eq_true, Bool.true_eq_false, true_and, and_true, forall_const, decide_true, decide_false, true_implies, implies_true, Bool.not_true, Bool.not_false, ← decide_not, Decidable.not_not, eq_self, Option.some.injEq, exists_eq_left', exists_eq_left, and_self, Int.toNat_natCast, Int.natCast_nonneg, List.getElem?_map, Option.isSome_some, not_false_eq_true, not_true_eq_false, List.getElem?_toArray, Int.reduceToNat, Int.reduceLE, Int.reduceLT, Int.toNat_zero, Int.reduceNeg, *]))) | (refine split_gf rfl ?_ ?_ <;> intro _ <;> ((try simp only [go_sem, reduceIte, ite_true, ite_false, Nat.reduceEqDiff, Nat.reduceLT, Nat.reduceLeDiff, Nat.reduceAdd, reduceCtorEq, decide_eq_true_eq, decide_eq_false_iff_not, Bool.false_eq_true, Bool.true_eq_false, true_and, and_true, forall_const, decide_true, decide_false, true_implies, implies_true, Bool.not_true, Bool.not_false, ← decide_not, Decidable.not_not, eq_self, Option.some.injEq, exists_eq_left', exists_eq_left, and_self, Int.toNat_natCast, Int.natCast_nonneg, List.getElem?_map, Option.isSome_some, not_false_eq_true, not_true_eq_false, List.getElem?_toArray, Int.reduceToNat, Int.reduceLE, Int.reduceLT, Int.toNat_zero, Int.reduceNeg, *]))) | (refine split_b ?_ ?_ <;> intro _ <;> ((try simp only [go_sem, reduceIte, ite_true, ite_false, Nat.reduceEqDiff, Nat.reduceLT, Nat.reduceLeDiff, Nat.reduceAdd, reduceCtorEq, decide_eq_true_eq, decide_eq_false_iff_not, Bool.false_eq_true, Bool.true_eq_false, true_and, and_true, forall_const, decide_true, decide_false, true_implies, implies_true, Bool.not_true, Bool.not_false, ← decide_not, Decidable.not_not, eq_self, Option.some.injEq, exists_eq_left', exists_eq_left, and_self, Int.toNat_natCast, Int.natCast_nonneg, List.getElem?_map, Option.isSome_some, not_false_eq_true, not_true_eq_false, List.getElem?_toArray, Int.reduceToNat, Int.reduceLE, Int.reduceLT, Int.toNat_zero, Int.reduceNeg, *]))) | (refine split_gb rfl ?_ ?_ <;> intro _ <;> ((try simp only [go_sem, reduceIte, ite_true, ite_false, Nat.reduceEqDiff, Nat.reduceLT, Nat.reduceLeDiff, Nat.reduceAdd, reduceCtorEq, decide_eq_true_eq, decide_eq_false_iff_not, Bool.false_eq_true, Bool.true_eq_false, true_and, and_true, forall_const, decide_true, decide_false, true_implies, implies_true, Bool.not_true, Bool.not_false, ← decide_not, Decidable.not_not, eq_self, Option.some.injEq, exists_eq_left', exists_eq_left, and_self, Int.toNat_natCast, Int.natCast_nonneg, List.getElem?_map, Option.isSome_some, not_false_eq_true, not_true_eq_false, List.getElem?_toArray, Int.reduceToNat, Int.reduceLE, Int.reduceLT, Int.toNat_zero, Int.reduceNeg, *]))))
      · exact congrArg PV.bool (all_not (p := pAscii) hc (by unfold pAscii; exact decide_eq_false (by omega))).symm
      · exact ⟨m - 1, by omega, i + 1, by omega, step64 hl hs, upTo_succ h6 hc (by unfold pAscii; exact decide_eq_true (by omega))⟩

/-! each -/
def nonEmpty (s : List UInt8) : Bool := !s.isEmpty
theorem ne_empty (s : List UInt8) : decide (s ≠ []) = nonEmpty s := by cases s <;> rfl
theorem decode_one {s : List UInt8} (ha : isAscii s = true) {i : Nat} {c : UInt8} (hc : s[i]? = some c) : (Utf8.decode ⟨s.toArray⟩ i).2 = 1 := by
  obtain ⟨h1, h2⟩ := List.getElem?_eq_some_iff.1 hc
  have h3 : pAscii i c = true := by unfold isAscii at ha; rw [allFrom_iff] at ha; have := ha i c hc; rwa [Nat.zero_add] at this
  have hsz : i < (⟨s.toArray⟩ : ByteArray).size := by simpa [ByteArray.size] using h1
  have he : (⟨s.toArray⟩ : ByteArray)[i]'hsz = c := h2
  rw [decode_ascii _ _ hsz (by rw [he]; have := of_decide_eq_true h3; omega)]
theorem each_calls (g : FuncId) (so : Nat → UInt8 → Bool) (hg : callable Try.prog g = true) (hso : ∀ (i : Nat) (c : UInt8) (S : Heap), CallsQ Try.prog g [.int .i64 (i : Int), .int .u8 (c.toNat : Int)] S (.bool (so i c))) (s : List UInt8) (hs : s.length ≤ 4611686018427387904) (ha : isAscii s = true) (S : Heap) :
    CallsQ Try.prog 86 [.str s, .fn (.func g) [] []] S (.bool (allFrom so 0 s && nonEmpty s)) := by
  refine CallsQ_less ?_
  refine CallsA_W (fun _ => false) Try.func86 rfl (Nat.le_of_ble_eq_true rfl) ?_
  simp only [Try.f86]
  (simp only [go_sem, reduceIte, ite_true, ite_false, Nat.reduceEqDiff, Nat.reduceLT, Nat.reduceLeDiff, Nat.reduceAdd, reduceCtorEq, decide_eq_true_eq, decide_eq_false_iff_not, Bool.false_eq_true, Bool.true_eq_false, true_and, and_true, forall_const, decide_true, decide_false, true_implies, implies_true, Bool.not_true, Bool.not_false, ← decide_not, Decidable.not_not, eq_self, Option.some.injEq, exists_eq_left', exists_eq_left, and_self, Int.toNat_natCast, Int.natCast_nonneg, List.getElem?_map, Option.isSome_some, not_false_eq_true, not_true_eq_false, List.getElem?_toArray, Int.reduceToNat, Int.reduceLE, Int.reduceLT, Int.toNat_zero, Int.reduceNeg, *])
  refine OpW_of (OpA_range (l := s) rfl isStr9 (by (simp only [go_sem, reduceIte, ite_true, ite_false, Nat.reduceEqDiff, Nat.reduceLT, Nat.reduceLeDiff, Nat.reduceAdd, reduceCtorEq, decide_eq_true_eq, decide_eq_false_iff_not, Bool.false_eq_true, Bool.true_eq_false, true_and, and_true, forall_const, decide_true, decide_false, true_implies, implies_true, Bool.not_true, Bool.not_false, ← decide_not, Decidable.not_not, eq_self, Option.some.injEq, exists_eq_left', exists_eq_left, and_self, Int.toNat_natCast, Int.natCast_nonneg, List.getElem?_map, Option.isSome_some, not_false_eq_true, not_true_eq_false, List.getElem?_toArray, Int.reduceToNat, Int.reduceLE, Int.reduceLT, Int.toNat_zero, Int.reduceNeg, *])) (okDst_spec rfl) fun b hb => ?_)
  (simp only [go_sem, reduceIte, ite_true, ite_false, Nat.reduceEqDiff, Nat.reduceLT, Nat.reduceLeDiff, Nat.reduceAdd, reduceCtorEq, decide_eq_true_eq, decide_eq_false_iff_not, Bool.false_eq_true, Bool.true_eq_false, true_and, and_true, forall_const, decide_true, decide_false, true_implies, implies_true, Bool.not_true, Bool.not_false, ← decide_not, Decidable.not_not, eq_self, Option.some.injEq, exists_eq_left', exists_eq_left, and_self, Int.toNat_natCast, Int.natCast_nonneg, List.getElem?_map, Option.isSome_some, not_false_eq_true, not_true_eq_false, List.getElem?_toArray, Int.reduceToNat, Int.reduceLE, Int.reduceLT, Int.toNat_zero, Int.reduceNeg, *])
  refine CodeW_loop (fun m σ' S' => ∃ i : Nat, i + m = s.length ∧ σ' 0 = .str s ∧ σ' 1 = .fn (.func g) [] [] ∧ σ' 7 = .mp b 0 ∧ S' = S.set b (.iter s i) ∧ upTo so i s) s.length ?_ ?_
  · (simp only [go_sem, reduceIte, ite_true, ite_false, Nat.reduceEqDiff, Nat.reduceLT, Nat.reduceLeDiff, Nat.reduceAdd, reduceCtorEq, decide_eq_true_eq, decide_eq_false_iff_not, Bool.false_eq_true, Bool.true_eq_false, true_and, and_true, forall_const, decide_true, decide_false, true_implies, implies_true, Bool.not_true, Bool.not_false, ← decide_not, Decidable.not_not, eq_self, Option.some.injEq, exists_eq_left', exists_eq_left, and_self, Int.toNat_natCast, Int.natCast_nonneg, List.getElem?_map, Option.isSome_some, not_false_eq_true, not_true_eq_false, List.getElem?_toArray, Int.reduceToNat, Int.reduceLE, Int.reduceLT, Int.toNat_zero, Int.reduceNeg, *])
    exact ⟨0, by omega, rfl, upTo_zero⟩
  · rintro m σ' S' ⟨i, h1, h2, h3, h4, rfl, h6⟩
    (simp only [go_sem, reduceIte, ite_true, ite_false, Nat.reduceEqDiff, Nat.reduceLT, Nat.reduceLeDiff, Nat.reduceAdd, reduceCtorEq, decide_eq_true_eq, decide_eq_false_iff_not, Bool.false_eq_true, Bool.true_eq_false, true_and, and_true, forall_const, decide_true, decide_false, true_implies, implies_true, Bool.not_true, Bool.not_false, ← decide_not, Decidable.not_not, eq_self, Option.some.injEq, exists_eq_left', exists_eq_left, and_self, Int.toNat_natCast, Int.natCast_nonneg, List.getElem?_map, Option.isSome_some, not_false_eq_true, not_true_eq_false, List.getElem?_toArray, Int.reduceToNat, Int.reduceLE, Int.reduceLT, Int.toNat_zero, Int.reduceNeg, *])
    refine OpW_of (OpA_next (l := s) (b := b) (pos := i) rfl (by (simp only [go_sem, reduceIte, ite_true, ite_false, Nat.reduceEqDiff, Nat.reduceLT, Nat.reduceLeDiff, Nat.reduceAdd, reduceCtorEq, decide_eq_true_eq, decide_eq_false_iff_not, Bool.false_eq_true, Bool.true_eq_false, true_and, and_true, forall_const, decide_true, decide_false, true_implies, implies_true, Bool.not_true, Bool.not_false, ← decide_not, Decidable.not_not, eq_self, Option.some.injEq, exists_eq_left', exists_eq_left, and_self, Int.toNat_natCast, Int.natCast_nonneg, List.getElem?_map, Option.isSome_some, not_false_eq_true, not_true_eq_false, List.getElem?_toArray, Int.reduceToNat, Int.reduceLE, Int.reduceLT, Int.toNat_zero, Int.reduceNeg, *])) (by (simp only [go_sem, reduceIte, ite_true, ite_false, Nat.reduceEqDiff, Nat.reduceLT, Nat.reduceLeDiff, Nat.reduceAdd, reduceCtorEq, decide_eq_true_eq, decide_eq_false_iff_not, Bool.false_eq_true, Bool.true_eq_false, true_and, and_true, forall_const, decide_true, decide_false, true_implies, implies_true, Bool.not_true, Bool.not_false, ← decide_not, Decidable.not_not, eq_self, Option.some.injEq, exists_eq_left', exists_eq_left, and_self, Int.toNat_natCast, Int.natCast_nonneg, List.getElem?_map, Option.isSome_some, not_false_eq_true, not_true_eq_false, List.getElem?_toArray, Int.reduceToNat, Int.reduceLE, Int.reduceLT, Int.toNat_zero, Int.reduceNeg, *])) (okDst_spec rfl) ?_)
    cases hc : s[i]? with
    | none =>
      have hl : s.length ≤ i := List.getElem?_eq_none_iff.1 hc
      rw [if_neg (by omega)]
      (simp only [go_sem, reduceIte, ite_true, ite_false, Nat.reduceEqDiff, Nat.reduceLT, Nat.reduceLeDiff, Nat.reduceAdd, reduceCtorEq, decide_eq_true_eq, decide_eq_false_iff_not, Bool.false_eq_true, Bool.true_eq_false, true_and, and_true, forall_const, decide_true, decide_false, true_implies, implies_true, Bool.not_true, Bool.not_false, ← decide_not, Decidable.not_not, eq_self, Option.some.injEq, exists_eq_left', exists_eq_left, and_self, Int.toNat_natCast, Int.natCast_nonneg, List.getElem?_map, Option.isSome_some, not_false_eq_true, not_true_eq_false, List.getElem?_toArray, Int.reduceToNat, Int.reduceLE, Int.reduceLT, Int.toNat_zero, Int.reduceNeg, *])
      refine ⟨congrArg PV.bool ?_, Heap.le_set hb⟩
      rw [upTo_end h6 hl, Bool.true_and]; exact ne_empty s
    | some c =>
      have hl := (List.getElem?_eq_some_iff.1 hc).1
      rw [if_pos hl, decode_one ha hc, Heap.set_set]
      (simp only [go_sem, reduceIte, ite_true, ite_false, Nat.reduceEqDiff, Nat.reduceLT, Nat.reduceLeDiff, Nat.reduceAdd, reduceCtorEq, decide_eq_true_eq, decide_eq_false_iff_not, Bool.false_eq_true, Bool.true_eq_false, true_and, and_true, forall_const, decide_true, decide_false, true_implies, implies_true, Bool.not_true, Bool.not_false, ← decide_not, Decidable.not_not, eq_self, Option.some.injEq, exists_eq_left', exists_eq_left, and_self, Int.toNat_natCast, Int.natCast_nonneg, List.getElem?_map, Option.isSome_some, not_false_eq_true, not_true_eq_false, List.getElem?_toArray, Int.reduceToNat, Int.reduceLE, Int.reduceLT, Int.toNat_zero, Int.reduceNeg, *])
      refine OpW_call rfl rfl hg rfl ((hso i c _).mono ?_)
      rintro p S' ⟨rfl, rfl⟩
      cases he : so i c with
      | true =>
        (simp only [go_sem, reduceIte, ite_true, ite_false, Nat.reduceEqDiff, Nat.reduceLT, Nat.reduceLeDiff, Nat.reduceAdd, reduceCtorEq, decide_eq_true_eq, decide_eq_false_iff_not, Bool.false_eq_true, Bool.true_eq_false, true_and, and_true, forall_const, decide_true, decide_false, true_implies, implies_true, Bool.not_true, Bool.not_false, ← decide_not, Decidable.not_not, eq_self, Option.some.injEq, exists_eq_left', exists_eq_left, and_self, Int.toNat_natCast, Int.natCast_nonneg, List.getElem?_map, Option.isSome_some, not_false_eq_true, not_true_eq_false, List.getElem?_toArray, Int.reduceToNat, Int.reduceLE, Int.reduceLT, Int.toNat_zero, Int.reduceNeg, *])
        exact ⟨m - 1, by omega, i + 1, by omega, rfl, upTo_succ h6 hc he⟩
      | false =>
        (simp only [go_sem, reduceIte, ite_true, ite_false, Nat.reduceEqDiff, Nat.reduceLT, Nat.reduceLeDiff, Nat.reduceAdd, reduceCtorEq, decide_eq_true_eq, decide_eq_false_iff_not, Bool.false_eq_true, Bool.true_eq_false, true_and, and_true, forall_const, decide_true, decide_false, true_implies, implies_true, Bool.not_true, Bool.not_false, ← decide_not, Decidable.not_not, eq_self, Option.some.injEq, exists_eq_left', exists_eq_left, and_self, Int.toNat_natCast, Int.natCast_nonneg, List.getElem?_map, Option.isSome_some, not_false_eq_true, not_true_eq_false, List.getElem?_toArray, Int.reduceToNat, Int.reduceLE, Int.reduceLT, Int.toNat_zero, Int.reduceNeg, *])
        exact ⟨by rw [all_not hc he]; rfl, Heap.le_set hb⟩

/-! Name and Digits -/
def okName (i : Nat) (c : UInt8) : Bool := decide (cls c = 4) || (decide (cls c = 3) && decide (0 < i))
def okDigit (_ : Nat) (c : UInt8) : Bool := decide (cls c = 3)
def okPlain (_ : Nat) (c : UInt8) : Bool := decide (cls c = 3) || decide (cls c = 4) || decide (cls c = 8)
theorem name1_calls (i : Nat) (c : UInt8) (S : Heap) : CallsQ Try.prog 87 [.int .i64 (i : Int), .int .u8 (c.toNat : Int)] S (.bool (okName i c)) := by
  refine CallsA_W (fun _ => false) Try.func87 rfl (Nat.le_of_ble_eq_true rfl) ?_
  simp only [Try.f87]
  (simp only [go_sem, reduceIte, ite_true, ite_false, Nat.reduceEqDiff, Nat.reduceLT, Nat.reduceLeDiff, Nat.reduceAdd, reduceCtorEq, decide_eq_true_eq, decide_eq_false_iff_not, Bool.false_eq_true, Bool.true_eq_false, true_and, and_true, forall_const, decide_true, decide_false, true_implies, implies_true, Bool.not_true, Bool.not_false, ← decide_not, Decidable.not_not, eq_self, Option.some.injEq, exists_eq_left', exists_eq_left, and_self, Int.toNat_natCast, Int.natCast_nonneg, List.getElem?_map, Option.isSome_some, not_false_eq_true, not_true_eq_false, List.getElem?_toArray, Int.reduceToNat, Int.reduceLE, Int.reduceLT, Int.toNat_zero, Int.reduceNeg, *])
  refine OpW_call rfl rfl call19 rfl ((class_calls c _).mono ?_)
  rintro p S' ⟨rfl, rfl⟩
  (simp only [go_sem, reduceIte, ite_true, ite_false, Nat.reduceEqDiff, Nat.reduceLT, Nat.reduceLeDiff, Nat.reduceAdd, reduceCtorEq, decide_eq_true_eq, decide_eq_false_iff_not, Bool.false_eq_true, Bool.true_eq_false, true_and, and_true, forall_const, decide_true, decide_false, true_implies, implies_true, Bool.not_true, Bool.not_false, ← decide_not, Decidable.not_not, eq_self, Option.some.injEq, exists_eq_left', exists_eq_left, and_self, Int.toNat_natCast, Int.natCast_nonneg, List.getElem?_map, Option.isSome_some, not_false_eq_true, not_true_eq_false, List.getElem?_toArray, Int.reduceToNat, Int.reduceLE, Int.reduceLT, Int.toNat_zero, Int.reduceNeg, *])
  unfold okName
  generalize cls c = k
  (repeat' first | (refine split_d ?_ ?_ <;> intro _ <;> ((try simp only [go_sem, reduceIte, ite_true, ite_false, Nat.reduceEqDiff, Nat.reduceLT, Nat.reduceLeDiff, Nat.reduceAdd, reduceCtorEq, decide_eq_true_eq, decide_eq_false_iff_not, Bool.false_eq_true, Bool.true_eq_false, true_and, and_true, forall_const, decide_true, decide_false, true_implies, implies_true, Bool.not_true, Bool.not_false, ← decide_not, Decidable.not_not, eq_self, Option.some.injEq, exists_eq_left', exists_eq_left, and_self, Int.toNat_natCast, Int.natCast_nonneg, List.getElem?_map, Option.isSome_some, not_false_eq_true, not_true_eq_false, List.getElem?_toArray, Int.reduceToNat, Int.reduceLE, Int.reduceLT, Int.toNat_zero, Int.reduceNeg, *]))) | (refine split_gt rfl ?_ ?_ <;> intro _ <;> ((try simp only [go_sem, reduceIte, ite_true, ite_false, Nat.reduceEqDiff, Nat.reduceLT, Nat.reduceLeDiff, Nat.reduceAdd, reduceCtorEq, decide_eq_true_eq, decide_eq_false_iff_not, Bool.false_eq_true, Bool.true_eq_false, true_and, and_true, forall_const, decide_true, decide_false, true_implies, implies_true, Bool.not_true, Bool.not_false, ← decide_not, Decidable.not_not, eq_self, Option.some.injEq, exists_eq_left', exists_eq_left, and_self, Int.toNat_natCast, Int.natCast_nonneg, List.getElem?_map, Option.isSome_some, not_false_eq_true, not_true_eq_false, List.getElem?_toArray, Int.reduceToNat, Int.reduceLE, Int.reduceLT, Int.toNat_zero, Int.reduceNeg, *]))) | (refine split_gf rfl ?_ ?_ <;> intro _ <;> ((try simp only [go_sem, reduceIte, ite_true, ite_false, Nat.reduceEqDiff, Nat.reduceLT, Nat.reduceLeDiff, Nat.reduceAdd, reduceCtorEq, decide_eq_true_eq, decide_eq_false_iff_not, Bool.false_eq_true, Bool.true_eq_false, true_and, and_true, forall_const, decide_true, decide_false, true_implies, implies_true, Bool.not_true, Bool.not_false, ← decide_not, Decidable.not_not, eq_self, Option.some.injEq, exists_eq_left', exists_eq_left, and_self, Int.toNat_natCast, Int.natCast_nonneg, List.getElem?_map, Option.isSome_some, not_false_eq_true, not_true_eq_false, List.getElem?_toArray, Int.reduceToNat, Int.reduceLE, Int.reduceLT, Int.toNat_zero, Int.reduceNeg, *]))) | (refine split_b ?_ ?_ <;> intro _ <;> ((try simp only [go_sem, reduceIte, ite_true, ite_false, Nat.reduceEqDiff, Nat.reduceLT, Nat.reduceLeDiff, Nat.reduceAdd, reduceCtorEq, decide_eq_true_eq, decide_eq_false_iff_not, Bool.false_eq_true, Bool.true_eq_false, true_and, and_true, forall_const, decide_true, decide_false, true_implies, implies_true, Bool.not_true, Bool.not_false, ← decide_not, Decidable.not_not, eq_self, Option.some.injEq, exists_eq_left', exists_eq_left, and_self, Int.toNat_natCast, Int.natCast_nonneg, List.getElem?_map, Option.isSome_some, not_false_eq_true, not_true_eq_false, List.getElem?_toArray, Int.reduceToNat, Int.reduceLE, Int.reduceLT, Int.toNat_zero, Int.reduceNeg, *]))) | (refine split_gb rfl ?_ ?_ <;> intro _ <;> ((try simp only [go_sem, reduceIte, ite_true, ite_false, Nat.reduceEqDiff, Nat.reduceLT, Nat.reduceLeDiff, Nat.reduceAdd, reduceCtorEq, decide_eq_true_eq, decide_eq_false_iff_not, Bool.false_eq_true, Bool.true_eq_false, true_and, and_true, forall_const, decide_true, decide_false, true_implies, implies_true, Bool.not_true, Bool.not_false, ← decide_not, Decidable.not_not, eq_self, Option.some.injEq, exists_eq_left', exists_eq_left, and_self, Int.toNat_natCast, Int.natCast_nonneg, List.getElem?_map, Option.isSome_some, not_false_eq_true, not_true_eq_false, List.getElem?_toArray, Int.reduceToNat, Int.reduceLE, Int.reduceLT, Int.toNat_zero, Int.reduceNeg, *]))))
  all_goals simp_all
theorem digits1_calls (i : Nat) (c : UInt8) (S : Heap) : CallsQ Try.prog 88 [.int .i64 (i : Int), .int .u8 (c.toNat : Int)] S (.bool (okDigit i c)) := by
  refine CallsA_W (fun _ => false) Try.func88 rfl (Nat.le_of_ble_eq_true rfl) ?_
  simp only [Try.f88]
  (simp only [go_sem, reduceIte, ite_true, ite_false, Nat.reduceEqDiff, Nat.reduceLT, Nat.reduceLeDiff, Nat.reduceAdd, reduceCtorEq, decide_eq_true_eq, decide_eq_false_iff_not, Bool.false_eq_true, Bool.true_eq_false, true_and, and_true, forall_const, decide_true, decide_false, true_implies, implies_true, Bool.not_true, Bool.not_false, ← decide_not, Decidable.not_not, eq_self, Option.some.injEq, exists_eq_left', exists_eq_left, and_self, Int.toNat_natCast, Int.natCast_nonneg, List.getElem?_map, Option.isSome_some, not_false_eq_true, not_true_eq_false, List.getElem?_toArray, Int.reduceToNat, Int.reduceLE, Int.reduceLT, Int.toNat_zero, Int.reduceNeg, *])
  refine OpW_call rfl rfl call19 rfl ((class_calls c _).mono ?_)
  rintro p S' ⟨rfl, rfl⟩
  (simp only [go_sem, reduceIte, ite_true, ite_false, Nat.reduceEqDiff, Nat.reduceLT, Nat.reduceLeDiff, Nat.reduceAdd, reduceCtorEq, decide_eq_true_eq, decide_eq_false_iff_not, Bool.false_eq_true, Bool.true_eq_false, true_and, and_true, forall_const, decide_true, decide_false, true_implies, implies_true, Bool.not_true, Bool.not_false, ← decide_not, Decidable.not_not, eq_self, Option.some.injEq, exists_eq_left', exists_eq_left, and_self, Int.toNat_natCast, Int.natCast_nonneg, List.getElem?_map, Option.isSome_some, not_false_eq_true, not_true_eq_false, List.getElem?_toArray, Int.reduceToNat, Int.reduceLE, Int.reduceLT, Int.toNat_zero, Int.reduceNeg, *])
  rfl
def isName (s : List UInt8) : Bool := allFrom okName 0 s && nonEmpty s
def isDigits (s : List UInt8) : Bool := allFrom okDigit 0 s && nonEmpty s
def isPlain (s : List UInt8) : Bool := allFrom okPlain 0 s && (nonEmpty s && decide (s.head? ≠ some 35))
theorem cls_ascii {c : UInt8} (h : cls c = 4 ∨ cls c = 3) : pAscii 0 c = true := by
  unfold pAscii
  refine decide_eq_true ?_
  unfold cls at h
  generalize (c.toNat : Int) = c at *
  unfold clsI at h
  (repeat' split at h) <;> omega
theorem not_all {p : Nat → UInt8 → Bool} {s : List UInt8} (hp : ∀ i c, p i c = true → pAscii 0 c = true) (h : isAscii s = false) : allFrom p 0 s = false := by
  cases e : allFrom p 0 s with
  | false => rfl
  | true =>
    rw [allFrom_iff] at e
    have : isAscii s = true := by
      unfold isAscii
      rw [allFrom_iff]
      intro j c hj
      have := hp _ c (e j c hj)
      exact this
    rw [h] at this; cases this
theorem name_calls (s : List UInt8) (hs : s.length ≤ 4611686018427387904) (S : Heap) : CallsQ Try.prog 23 [.str s] S (.bool (isName s)) := by
  refine CallsA_W (fun _ => false) Try.func23 rfl (Nat.le_of_ble_eq_true rfl) ?_
  simp only [Try.f23]
  (simp only [go_sem, reduceIte, ite_true, ite_false, Nat.reduceEqDiff, Nat.reduceLT, Nat.reduceLeDiff, Nat.reduceAdd, reduceCtorEq, decide_eq_true_eq, decide_eq_false_iff_not, Bool.false_eq_true, Bool.true_eq_false, true_and, and_true, forall_const, decide_true, decide_false, true_implies, implies_true, Bool.not_true, Bool.not_false, ← decide_not, Decidable.not_not, eq_self, Option.some.injEq, exists_eq_left', exists_eq_left, and_self, Int.toNat_natCast, Int.natCast_nonneg, List.getElem?_map, Option.isSome_some, not_false_eq_true, not_true_eq_false, List.getElem?_toArray, Int.reduceToNat, Int.reduceLE, Int.reduceLT, Int.toNat_zero, Int.reduceNeg, *])
  refine OpW_call rfl rfl call85 rfl ((ascii_calls s hs _).mono ?_)
  rintro p S' ⟨rfl, rfl⟩
  cases ha : isAscii s with
  | false =>
    (simp only [go_sem, reduceIte, ite_true, ite_false, Nat.reduceEqDiff, Nat.reduceLT, Nat.reduceLeDiff, Nat.reduceAdd, reduceCtorEq, decide_eq_true_eq, decide_eq_false_iff_not, Bool.false_eq_true, Bool.true_eq_false, true_and, and_true, forall_const, decide_true, decide_false, true_implies, implies_true, Bool.not_true, Bool.not_false, ← decide_not, Decidable.not_not, eq_self, Option.some.injEq, exists_eq_left', exists_eq_left, and_self, Int.toNat_natCast, Int.natCast_nonneg, List.getElem?_map, Option.isSome_some, not_false_eq_true, not_true_eq_false, List.getElem?_toArray, Int.reduceToNat, Int.reduceLE, Int.reduceLT, Int.toNat_zero, Int.reduceNeg, *])
    unfold isName
    rw [not_all (fun i c h => cls_ascii (by unfold okName at h; simp at h; omega)) ha]; rfl
  | true =>
    (simp only [go_sem, reduceIte, ite_true, ite_false, Nat.reduceEqDiff, Nat.reduceLT, Nat.reduceLeDiff, Nat.reduceAdd, reduceCtorEq, decide_eq_true_eq, decide_eq_false_iff_not, Bool.false_eq_true, Bool.true_eq_false, true_and, and_true, forall_const, decide_true, decide_false, true_implies, implies_true, Bool.not_true, Bool.not_false, ← decide_not, Decidable.not_not, eq_self, Option.some.injEq, exists_eq_left', exists_eq_left, and_self, Int.toNat_natCast, Int.natCast_nonneg, List.getElem?_map, Option.isSome_some, not_false_eq_true, not_true_eq_false, List.getElem?_toArray, Int.reduceToNat, Int.reduceLE, Int.reduceLT, Int.toNat_zero, Int.reduceNeg, *])
    refine OpW_call rfl rfl call86 rfl ((each_calls 87 okName call87 name1_calls s hs ha _).mono ?_)
    rintro p S' ⟨rfl, rfl⟩
    (simp only [go_sem, reduceIte, ite_true, ite_false, Nat.reduceEqDiff, Nat.reduceLT, Nat.reduceLeDiff, Nat.reduceAdd, reduceCtorEq, decide_eq_true_eq, decide_eq_false_iff_not, Bool.false_eq_true, Bool.true_eq_false, true_and, and_true, forall_const, decide_true, decide_false, true_implies, implies_true, Bool.not_true, Bool.not_false, ← decide_not, Decidable.not_not, eq_self, Option.some.injEq, exists_eq_left', exists_eq_left, and_self, Int.toNat_natCast, Int.natCast_nonneg, List.getElem?_map, Option.isSome_some, not_false_eq_true, not_true_eq_false, List.getElem?_toArray, Int.reduceToNat, Int.reduceLE, Int.reduceLT, Int.toNat_zero, Int.reduceNeg, *])
    rfl
theorem digits_calls (s : List UInt8) (hs : s.length ≤ 4611686018427387904) (S : Heap) : CallsQ Try.prog 25 [.str s] S (.bool (isDigits s)) := by
  refine CallsA_W (fun _ => false) Try.func25 rfl (Nat.le_of_ble_eq_true rfl) ?_
  simp only [Try.f25]
  (simp only [go_sem, reduceIte, ite_true, ite_false, Nat.reduceEqDiff, Nat.reduceLT, Nat.reduceLeDiff, Nat.reduceAdd, reduceCtorEq, decide_eq_true_eq, decide_eq_false_iff_not, Bool.false_eq_true, Bool.true_eq_false, true_and, and_true, forall_const, decide_true, decide_false, true_implies, implies_true, Bool.not_true, Bool.not_false, ← decide_not, Decidable.not_not, eq_self, Option.some.injEq, exists_eq_left', exists_eq_left, and_self, Int.toNat_natCast, Int.natCast_nonneg, List.getElem?_map, Option.isSome_some, not_false_eq_true, not_true_eq_false, List.getElem?_toArray, Int.reduceToNat, Int.reduceLE, Int.reduceLT, Int.toNat_zero, Int.reduceNeg, *])
  refine OpW_call rfl rfl call85 rfl ((ascii_calls s hs _).mono ?_)
  rintro p S' ⟨rfl, rfl⟩
  cases ha : isAscii s with
  | false =>
    (simp only [go_sem, reduceIte, ite_true, ite_false, Nat.reduceEqDiff, Nat.reduceLT, Nat.reduceLeDiff, Nat.reduceAdd, reduceCtorEq, decide_eq_true_eq, decide_eq_false_iff_not, Bool.false_eq_true, Bool.true_eq_false, true_and, and_true, forall_const, decide_true, decide_false, true_implies, implies_true, Bool.not_true, Bool.not_false, ← decide_not, Decidable.not_not, eq_self, Option.some.injEq, exists_eq_left', exists_eq_left, and_self, Int.toNat_natCast, Int.natCast_nonneg, List.getElem?_map, Option.isSome_some, not_false_eq_true, not_true_eq_false, List.getElem?_toArray, Int.reduceToNat, Int.reduceLE, Int.reduceLT, Int.toNat_zero, Int.reduceNeg, *])
    unfold isDigits
    rw [not_all (fun i c h => cls_ascii (by unfold okDigit at h; simp at h; omega)) ha]; rfl
  | true =>
    (simp only [go_sem, reduceIte, ite_true, ite_false, Nat.reduceEqDiff, Nat.reduceLT, Nat.reduceLeDiff, Nat.reduceAdd, reduceCtorEq, decide_eq_true_eq, decide_eq_false_iff_not, Bool.false_eq_true, Bool.true_eq_false, true_and, and_true, forall_const, decide_true, decide_false, true_implies, implies_true, Bool.not_true, Bool.not_false, ← decide_not, Decidable.not_not, eq_self, Option.some.injEq, exists_eq_left', exists_eq_left, and_self, Int.toNat_natCast, Int.natCast_nonneg, List.getElem?_map, Option.isSome_some, not_false_eq_true, not_true_eq_false, List.getElem?_toArray, Int.reduceToNat, Int.reduceLE, Int.reduceLT, Int.toNat_zero, Int.reduceNeg, *])
    refine OpW_call rfl rfl call86 rfl ((each_calls 88 okDigit call88 digits1_calls s hs ha _).mono ?_)
    rintro p S' ⟨rfl, rfl⟩
    (simp only [go_sem, reduceIte, ite_true, ite_false, Nat.reduceEqDiff, Nat.reduceLT, Nat.reduceLeDiff, Nat.reduceAdd, reduceCtorEq, decide_eq_true_eq, decide_eq_false_iff_not, Bool.false_eq_true, Bool.true_eq_false, true_and, and_true, forall_const, decide_true, decide_false, true_implies, implies_true, Bool.not_true, Bool.not_false, ← decide_not, Decidable.not_not, eq_self, Option.some.injEq, exists_eq_left', exists_eq_left, and_self, Int.toNat_natCast, Int.natCast_nonneg, List.getElem?_map, Option.isSome_some, not_false_eq_true, not_true_eq_false, List.getElem?_toArray, Int.reduceToNat, Int.reduceLE, Int.reduceLT, Int.toNat_zero, Int.reduceNeg, *])
    rfl
theorem head_idx (s : List UInt8) : s.head? = s[0]? := by cases s <;> rfl
theorem plain_calls (s : List UInt8) (hs : s.length ≤ 4611686018427387904) (S : Heap) : CallsQ Try.prog 27 [.str s] S (.bool (isPlain s)) := by
  refine CallsA_W (fun _ => false) Try.func27 rfl (Nat.le_of_ble_eq_true rfl) ?_
  simp only [Try.f27]
  (simp only [go_sem, reduceIte, ite_true, ite_false, Nat.reduceEqDiff, Nat.reduceLT, Nat.reduceLeDiff, Nat.reduceAdd, reduceCtorEq, decide_eq_true_eq, decide_eq_false_iff_not, Bool.false_eq_true, Bool.true_eq_false, true_and, and_true, forall_const, decide_true, decide_false, true_implies, implies_true, Bool.not_true, Bool.not_false, ← decide_not, Decidable.not_not, eq_self, Option.some.injEq, exists_eq_left', exists_eq_left, and_self, Int.toNat_natCast, Int.natCast_nonneg, List.getElem?_map, Option.isSome_some, not_false_eq_true, not_true_eq_false, List.getElem?_toArray, Int.reduceToNat, Int.reduceLE, Int.reduceLT, Int.toNat_zero, Int.reduceNeg, *])
  refine CodeW_loop (fun m σ' S' => ∃ i : Nat, i + m = s.length ∧ σ' 0 = .str s ∧ σ' 5 = .int .i64 s.length ∧ σ' 6 = .int .i64 i ∧ S' = S ∧ upTo okPlain i s) s.length ?_ ?_
  · (simp only [go_sem, reduceIte, ite_true, ite_false, Nat.reduceEqDiff, Nat.reduceLT, Nat.reduceLeDiff, Nat.reduceAdd, reduceCtorEq, decide_eq_true_eq, decide_eq_false_iff_not, Bool.false_eq_true, Bool.true_eq_false, true_and, and_true, forall_const, decide_true, decide_false, true_implies, implies_true, Bool.not_true, Bool.not_false, ← decide_not, Decidable.not_not, eq_self, Option.some.injEq, exists_eq_left', exists_eq_left, and_self, Int.toNat_natCast, Int.natCast_nonneg, List.getElem?_map, Option.isSome_some, not_false_eq_true, not_true_eq_false, List.getElem?_toArray, Int.reduceToNat, Int.reduceLE, Int.reduceLT, Int.toNat_zero, Int.reduceNeg, *])
    exact ⟨0, by omega, rfl, upTo_zero⟩
  · rintro m σ' S' ⟨i, h1, h2, h3, h4, rfl, h6⟩
    cases hc : s[i]? with
    | none =>
      have hl : s.length ≤ i := List.getElem?_eq_none_iff.1 hc
      have hlt : ¬ ((i : Int) < (s.length : Int)) := by omega
      (simp only [go_sem, reduceIte, ite_true, ite_false, Nat.reduceEqDiff, Nat.reduceLT, Nat.reduceLeDiff, Nat.reduceAdd, reduceCtorEq, decide_eq_true_eq, decide_eq_false_iff_not, Bool.false_eq_true, Bool.true_eq_false, true_and, and_true, forall_const, decide_true, decide_false, true_implies, implies_true, Bool.not_true, Bool.not_false, ← decide_not, Decidable.not_not, eq_self, Option.some.injEq, exists_eq_left', exists_eq_left, and_self, Int.toNat_natCast, Int.natCast_nonneg, List.getElem?_map, Option.isSome_some, not_false_eq_true, not_true_eq_false, List.getElem?_toArray, Int.reduceToNat, Int.reduceLE, Int.reduceLT, Int.toNat_zero, Int.reduceNeg, *])
      have hall := upTo_end h6 hl
      cases s with
      | nil =>
        (simp only [go_sem, reduceIte, ite_true, ite_false, Nat.reduceEqDiff, Nat.reduceLT, Nat.reduceLeDiff, Nat.reduceAdd, reduceCtorEq, decide_eq_true_eq, decide_eq_false_iff_not, Bool.false_eq_true, Bool.true_eq_false, true_and, and_true, forall_const, decide_true, decide_false, true_implies, implies_true, Bool.not_true, Bool.not_false, ← decide_not, Decidable.not_not, eq_self, Option.some.injEq, exists_eq_left', exists_eq_left, and_self, Int.toNat_natCast, Int.natCast_nonneg, List.getElem?_map, Option.isSome_some, not_false_eq_true, not_true_eq_false, List.getElem?_toArray, Int.reduceToNat, Int.reduceLE, Int.reduceLT, Int.toNat_zero, Int.reduceNeg, *])
        rfl
      | cons c s' =>
        (simp only [go_sem, reduceIte, ite_true, ite_false, Nat.reduceEqDiff, Nat.reduceLT, Nat.reduceLeDiff, Nat.reduceAdd, reduceCtorEq, decide_eq_true_eq, decide_eq_false_iff_not, Bool.false_eq_true, Bool.true_eq_false, true_and, and_true, forall_const, decide_true, decide_false, true_implies, implies_true, Bool.not_true, Bool.not_false, ← decide_not, Decidable.not_not, eq_self, Option.some.injEq, exists_eq_left', exists_eq_left, and_self, Int.toNat_natCast, Int.natCast_nonneg, List.getElem?_map, Option.isSome_some, not_false_eq_true, not_true_eq_false, List.getElem?_toArray, Int.reduceToNat, Int.reduceLE, Int.reduceLT, Int.toNat_zero, Int.reduceNeg, *])
        unfold isPlain
        rw [hall]
        simp only [nonEmpty, List.isEmpty, Bool.not_false, Bool.true_and, List.head?_cons, ne_eq, Option.some.injEq]
        refine congrArg PV.bool (decide_eq_decide.2 ?_)
        rw [← UInt8.toNat_inj]
        exact not_congr (by rw [show (35 : UInt8).toNat = 35 from rfl]; omega)
    | some c =>
      have hl := (List.getElem?_eq_some_iff.1 hc).1
      have hlt : (i : Int) < (s.length : Int) := by omega
      (simp only [go_sem, reduceIte, ite_true, ite_false, Nat.reduceEqDiff, Nat.reduceLT, Nat.reduceLeDiff, Nat.reduceAdd, reduceCtorEq, decide_eq_true_eq, decide_eq_false_iff_not, Bool.false_eq_true, Bool.true_eq_false, true_and, and_true, forall_const, decide_true, decide_false, true_implies, implies_true, Bool.not_true, Bool.not_false, ← decide_not, Decidable.not_not, eq_self, Option.some.injEq, exists_eq_left', exists_eq_left, and_self, Int.toNat_natCast, Int.natCast_nonneg, List.getElem?_map, Option.isSome_some, not_false_eq_true, not_true_eq_false, List.getElem?_toArray, Int.reduceToNat, Int.reduceLE, Int.reduceLT, Int.toNat_zero, Int.reduceNeg, *])
      refine OpW_call rfl rfl call19 rfl ((class_calls c _).mono ?_)
      rintro p S' ⟨rfl, rfl⟩
      (simp only [go_sem, reduceIte, ite_true, ite_false, Nat.reduceEqDiff, Nat.reduceLT, Nat.reduceLeDiff, Nat.reduceAdd, reduceCtorEq, decide_eq_true_eq, decide_eq_false_iff_not, Bool.false_eq_true, Bool.true_eq_false, true_and, and_true, forall_const, decide_true, decide_false, true_implies, implies_true, Bool.not_true, Bool.not_false, ← decide_not, Decidable.not_not, eq_self, Option.some.injEq, exists_eq_left', exists_eq_left, and_self, Int.toNat_natCast, Int.natCast_nonneg, List.getElem?_map, Option.isSome_some, not_false_eq_true, not_true_eq_false, List.getElem?_toArray, Int.reduceToNat, Int.reduceLE, Int.reduceLT, Int.toNat_zero, Int.reduceNeg, *])
      (repeat' first | (refine split_d ?_ ?_ <;> intro _ <;> ((try simp only [go_sem, reduceIte, ite_true, ite_false, Nat.reduceEqDiff, Nat.reduceLT, Nat.reduceLeDiff, Nat.reduceAdd, reduceCtorEq, decide_eq_true_eq, decide_eq_false_iff_not, Bool.false_eq_true, Bool.true_eq_false, true_and, and_true, forall_const, decide_true, decide_false, true_implies, implies_true, Bool.not_true, Bool.not_false, ← decide_not, Decidable.not_not, eq_self, Option.some.injEq, exists_eq_left', exists_eq_left, and_self, Int.toNat_natCast, Int.natCast_nonneg, List.getElem?_map, Option.isSome_some, not_false_eq_true, not_true_eq_false, List.getElem?_toArray, Int.reduceToNat, Int.reduceLE, Int.reduceLT, Int.toNat_zero, Int.reduceNeg, *]))) | (refine split_gt rfl ?_ ?_ <;> intro _ <;> ((try simp only [go_sem, reduceIte, ite_true, ite_false, Nat.reduceEqDiff, Nat.reduceLT, Nat.reduceLeDiff, Nat.reduceAdd, reduceCtorEq, decide_eq_true_eq, decide_eq_false_iff_not, Bool.false_eq_true, Bool.true_eq_false, true_and, and_true, forall_const, decide_true, decide_false, true_implies, implies_true, Bool.not_true, Bool.not_false, ← decide_not, Decidable.not_not, eq_self, Option.some.injEq, exists_eq_left', exists_eq_left, and_self, Int.toNat_natCast, Int.natCast_nonneg, List.getElem?_map, Option.isSome_some, not_false_eq_true, not_true_eq_false, List.getElem?_toArray, Int.reduceToNat, Int.reduceLE, Int.reduceLT, Int.toNat_zero, Int.reduceNeg, *]))) | (refine split_gf rfl ?_ ?_ <;> intro _ <;> ((try simp only [go_sem, reduceIte, ite_true, ite_false, Nat.reduceEqDiff, Nat.reduceLT, Nat.reduceLeDiff, Nat.reduceAdd, reduceCtorEq, decide_eq_true_eq, decide_eq_false_iff_not, Bool.false_eq_true, Bool.true_eq_false, true_and, and_true, forall_const, decide_true, decide_false, true_implies, implies_true, Bool.not_true, Bool.not_false, ← decide_not, Decidable.not_not, eq_self, Option.some.injEq, exists_eq_left', exists_eq_left, and_self, Int.toNat_natCast, Int.natCast_nonneg, List.getElem?_map, Option.isSome_some, not_false_eq_true, not_true_eq_false, List.getElem?_toArray, Int.reduceToNat, Int.reduceLE, Int.reduceLT, Int.toNat_zero, Int.reduceNeg, *]))) | (refine split_b ?_ ?_ <;> intro _ <;> ((try simp only [go_sem, reduceIte, ite_true, ite_false, Nat.reduceEqDiff, Nat.reduceLT, Nat.reduceLeDiff, Nat.reduceAdd, reduceCtorEq, decide_eq_true_eq, decide_eq_false_iff_not, Bool.false_eq_true, Bool.true_eq_false, true_and, and_true, forall_const, decide_true, decide_false, true_implies, implies_true, Bool.not_true, Bool.not_false, ← decide_not, Decidable.not_not, eq_self, Option.some.injEq, exists_eq_left', exists_eq_left, and_self, Int.toNat_natCast, Int.natCast_nonneg, List.getElem?_map, Option.isSome_some, not_false_eq_true, not_true_eq_false, List.getElem?_toArray, Int.reduceToNat, Int.reduceLE, Int.reduceLT, Int.toNat_zero, Int.reduceNeg, *]))) | (refine split_gb rfl ?_ ?_ <;> intro _ <;> ((try simp only [go_sem, reduceIte, ite_true, ite_false, Nat.reduceEqDiff, Nat.reduceLT, Nat.reduceLeDiff, Nat.reduceAdd, reduceCtorEq, decide_eq_true_eq, decide_eq_false_iff_not, Bool.false_eq_true, Bool.true_eq_false, true_and, and_true, forall_const, decide_true, decide_false, true_implies, implies_true, Bool.not_true, Bool.not_false, ← decide_not, Decidable.not_not, eq_self, Option.some.injEq, exists_eq_left', exists_eq_left, and_self, Int.toNat_natCast, Int.natCast_nonneg, List.getElem?_map, Option.isSome_some, not_false_eq_true, not_true_eq_false, List.getElem?_toArray, Int.reduceToNat, Int.reduceLE, Int.reduceLT, Int.toNat_zero, Int.reduceNeg, *]))))
      · exact ⟨m - 1, by omega, i + 1, by omega, step64 hl hs, upTo_succ h6 hc (by unfold okPlain; simp [*])⟩
      · exact ⟨m - 1, by omega, i + 1, by omega, step64 hl hs, upTo_succ h6 hc (by unfold okPlain; simp [*])⟩
      · exact ⟨m - 1, by omega, i + 1, by omega, step64 hl hs, upTo_succ h6 hc (by unfold okPlain; simp [*])⟩
      · unfold isPlain
        rw [all_not hc (by unfold okPlain; simp [*])]; rfl

end Go.Proofs.Ytcbonfgkfiapaaa.Pv
