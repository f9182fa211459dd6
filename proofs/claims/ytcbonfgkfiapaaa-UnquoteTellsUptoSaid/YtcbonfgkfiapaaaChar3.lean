/- What the other functions of package char compute: texts. What the reference of package char computes: texts. Where an assignment's sign stands. What the laws of package char compute. -/
import Derived.Test.YtcbonfgkfiapaaaChar1
import Derived.Test.YtcbonfgkfiapaaaCore4
import Derived.Laws.RangeString
/-! What the other functions of package char compute: texts. -/
set_option linter.unusedVariables false
set_option linter.unusedSimpArgs false
set_option maxRecDepth 100000
set_option maxHeartbeats 4000000
namespace Go.Proofs.Ytcbonfgkfiapaaa.Pv
open Go Go.RowKit

/-! What is so of every byte, and its place -/
def allFrom (p : Nat → UInt8 → Bool) : Nat → List UInt8 → Bool
  | _, [] => true
  | i, c :: s => p i c && allFrom p (i + 1) s
theorem allFrom_iff {p : Nat → UInt8 → Bool} : ∀ {s : List UInt8} {k : Nat}, allFrom p k s = true ↔ ∀ j c, s[j]? = some c → p (k + j) c = true
  | [], k => by simp [allFrom]
  | c :: s, k => by
    simp only [allFrom, Bool.and_eq_true]
    rw [allFrom_iff (s := s)]
    constructor
    · rintro ⟨h1, h2⟩ j d hj
      cases j with
      | zero => simp at hj; subst hj; simpa using h1
      | succ j => simp at hj; have := h2 j d hj; rwa [show k + 1 + j = k + (j + 1) by omega] at this
    · intro h
      refine ⟨by simpa using h 0 c rfl, fun j d hj => ?_⟩
      have := h (j + 1) d (by simpa using hj)
      rwa [show k + (j + 1) = k + 1 + j by omega] at this
/-- So of each byte ahead of place i. -/
def upTo (p : Nat → UInt8 → Bool) (i : Nat) (s : List UInt8) : Prop := ∀ j c, j < i → s[j]? = some c → p j c = true
theorem upTo_zero {p : Nat → UInt8 → Bool} {s : List UInt8} : upTo p 0 s := fun j c h => by omega
theorem upTo_succ {p : Nat → UInt8 → Bool} {s : List UInt8} {i : Nat} {c : UInt8} (h : upTo p i s) (hc : s[i]? = some c) (hp : p i c = true) : upTo p (i + 1) s := by
  intro j d hj hd
  by_cases e : j = i
  · subst e; rw [hc] at hd; injection hd with hd; subst hd; exact hp
  · exact h j d (by omega) hd
theorem upTo_end {p : Nat → UInt8 → Bool} {s : List UInt8} {i : Nat} (h : upTo p i s) (hi : s.length ≤ i) : allFrom p 0 s = true := by
  rw [allFrom_iff]
  intro j c hj
  have := (List.getElem?_eq_some_iff.1 hj).1
  rw [Nat.zero_add]; exact h j c (by omega) hj
theorem all_not {p : Nat → UInt8 → Bool} {s : List UInt8} {i : Nat} {c : UInt8} (hc : s[i]? = some c) (hp : p i c = false) : allFrom p 0 s = false := by
  cases h : allFrom p 0 s with
  | false => rfl
  | true => rw [allFrom_iff] at h; have := h i c hc; rw [Nat.zero_add, hp] at this; cases this

def pAscii (_ : Nat) (c : UInt8) : Bool := decide ((c.toNat : Int) < 128)
def isAscii (s : List UInt8) : Bool := allFrom pAscii 0 s

theorem wrap_in {n : Int} (h : -9223372036854775808 ≤ n ∧ n ≤ 9223372036854775807) : IntKind.i64.wrap n = n := by rw [IntKind.wrap_i64]; omega
theorem step64 {i n : Nat} (h : i < n) (hn : n ≤ 4611686018427387904) : PV.int .i64 (IntKind.i64.wrap ((i : Int) + 1)) = PV.int .i64 ((i + 1 : Nat) : Int) := by
  rw [wrap_in (by omega)]; rfl
theorem ascii_calls (s : List UInt8) (hs : s.length ≤ 4611686018427387904) (S : Heap) : CallsQ Try.prog 85 [.str s] S (.bool (isAscii s)) := by
  refine CallsA_W (fun _ => false) Try.func85 rfl (Nat.le_of_ble_eq_true rfl) ?_
  simp only [Try.f85]
  (simp only [go_sem, reduceIte, Nat.reduceEqDiff, Nat.reduceLT, Nat.reduceLeDiff, Nat.reduceAdd, reduceCtorEq, Int.reduceToNat, Int.reduceLE, Int.reduceLT, Int.reduceNeg, *])
  refine CodeW_loop (fun m σ' S' => ∃ i : Nat, i + m = s.length ∧ σ' 0 = .str s ∧ σ' 5 = .int .i64 s.length ∧ σ' 6 = .int .i64 i ∧ S' = S ∧ upTo pAscii i s) s.length ?_ ?_
  · (simp only [go_sem, reduceIte, Nat.reduceEqDiff, Nat.reduceLT, Nat.reduceLeDiff, Nat.reduceAdd, reduceCtorEq, Int.reduceToNat, Int.reduceLE, Int.reduceLT, Int.reduceNeg, *])
    exact ⟨0, by omega, rfl, upTo_zero⟩
  · rintro m σ' S' ⟨i, h1, h2, h3, h4, rfl, h6⟩
    cases hc : s[i]? with
    | none =>
      have hl : s.length ≤ i := List.getElem?_eq_none_iff.1 hc
      have hlt : ¬ ((i : Int) < (s.length : Int)) := by omega
      (simp only [go_sem, reduceIte, Nat.reduceEqDiff, Nat.reduceLT, Nat.reduceLeDiff, Nat.reduceAdd, reduceCtorEq, Int.reduceToNat, Int.reduceLE, Int.reduceLT, Int.reduceNeg, *])
      exact congrArg PV.bool (upTo_end h6 hl).symm
    | some c =>
      have hl := (List.getElem?_eq_some_iff.1 hc).1
      have hlt : (i : Int) < (s.length : Int) := by omega
      (simp only [go_sem, reduceIte, Nat.reduceEqDiff, Nat.reduceLT, Nat.reduceLeDiff, Nat.reduceAdd, reduceCtorEq, Int.reduceToNat, Int.reduceLE, Int.reduceLT, Int.reduceNeg, *])
      (repeat' ((first | refine split_d ?_ ?_ | refine split_gt rfl ?_ ?_ | refine split_gf rfl ?_ ?_ | refine split_b ?_ ?_ | refine split_gb rfl ?_ ?_) <;> intro _ <;> ((try simp only [go_sem, reduceIte, Nat.reduceEqDiff, Nat.reduceLT, Nat.reduceLeDiff, Nat.reduceAdd, reduceCtorEq, Int.reduceToNat, Int.reduceLE, Int.reduceLT, Int.reduceNeg, *]))))
      · exact congrArg PV.bool (all_not (p := pAscii) hc (by unfold pAscii; exact decide_eq_false (by omega))).symm
      · exact ⟨m - 1, by omega, i + 1, by omega, step64 hl hs, upTo_succ h6 hc (by unfold pAscii; exact decide_eq_true (by omega))⟩

/-! each -/
def nonEmpty (s : List UInt8) : Bool := !s.isEmpty
theorem ne_empty (s : List UInt8) : decide (s ≠ []) = nonEmpty s := by cases s <;> rfl
theorem decode_one {s : List UInt8} (ha : isAscii s = true) {i : Nat} {c : UInt8} (hc : s[i]? = some c) : (Utf8.decode ⟨s.toArray⟩ i).2 = 1 := by
  obtain ⟨h1, h2⟩ := List.getElem?_eq_some_iff.1 hc
  have h3 : pAscii i c = true := by unfold isAscii at ha; rw [allFrom_iff] at ha; have := ha i c hc; rwa [Nat.zero_add] at this
  have hsz : i < (⟨s.toArray⟩ : ByteArray).size := by simpa [ByteArray.size] using h1
  have he : (⟨s.toArray⟩ : ByteArray)[i]'hsz = c := h2
  rw [decode_ascii _ _ hsz (by rw [he]; have := of_decide_eq_true h3; omega)]
theorem each_calls (g : FuncId) (so : Nat → UInt8 → Bool) (hg : callable Try.prog g = true) (hso : ∀ (i : Nat) (c : UInt8) (S : Heap), CallsQ Try.prog g [.int .i64 (i : Int), .int .u8 (c.toNat : Int)] S (.bool (so i c))) (s : List UInt8) (hs : s.length ≤ 4611686018427387904) (ha : isAscii s = true) (S : Heap) :
    CallsQ Try.prog 86 [.str s, .fn (.func g) [] []] S (.bool (allFrom so 0 s && nonEmpty s)) := by
  refine CallsQ_less ?_
  refine CallsA_W (fun _ => false) Try.func86 rfl (Nat.le_of_ble_eq_true rfl) ?_
  simp only [Try.f86]
  (simp only [go_sem, reduceIte, Nat.reduceEqDiff, Nat.reduceLT, Nat.reduceLeDiff, Nat.reduceAdd, reduceCtorEq, Int.reduceToNat, Int.reduceLE, Int.reduceLT, Int.reduceNeg, *])
  refine OpW_of (OpA_range (l := s) rfl isStr9 (by (simp only [go_sem, reduceIte, Nat.reduceEqDiff, Nat.reduceLT, Nat.reduceLeDiff, Nat.reduceAdd, reduceCtorEq, Int.reduceToNat, Int.reduceLE, Int.reduceLT, Int.reduceNeg, *])) (okDst_spec rfl) fun b hb => ?_)
  (simp only [go_sem, reduceIte, Nat.reduceEqDiff, Nat.reduceLT, Nat.reduceLeDiff, Nat.reduceAdd, reduceCtorEq, Int.reduceToNat, Int.reduceLE, Int.reduceLT, Int.reduceNeg, *])
  refine CodeW_loop (fun m σ' S' => ∃ i : Nat, i + m = s.length ∧ σ' 0 = .str s ∧ σ' 1 = .fn (.func g) [] [] ∧ σ' 7 = .mp b 0 ∧ S' = S.set b (.iter s i) ∧ upTo so i s) s.length ?_ ?_
  · (simp only [go_sem, reduceIte, Nat.reduceEqDiff, Nat.reduceLT, Nat.reduceLeDiff, Nat.reduceAdd, reduceCtorEq, Int.reduceToNat, Int.reduceLE, Int.reduceLT, Int.reduceNeg, *])
    exact ⟨0, by omega, rfl, upTo_zero⟩
  · rintro m σ' S' ⟨i, h1, h2, h3, h4, rfl, h6⟩
    (simp only [go_sem, reduceIte, Nat.reduceEqDiff, Nat.reduceLT, Nat.reduceLeDiff, Nat.reduceAdd, reduceCtorEq, Int.reduceToNat, Int.reduceLE, Int.reduceLT, Int.reduceNeg, *])
    refine OpW_of (OpA_next (l := s) (b := b) (pos := i) rfl (by (simp only [go_sem, reduceIte, Nat.reduceEqDiff, Nat.reduceLT, Nat.reduceLeDiff, Nat.reduceAdd, reduceCtorEq, Int.reduceToNat, Int.reduceLE, Int.reduceLT, Int.reduceNeg, *])) (by (simp only [go_sem, reduceIte, Nat.reduceEqDiff, Nat.reduceLT, Nat.reduceLeDiff, Nat.reduceAdd, reduceCtorEq, Int.reduceToNat, Int.reduceLE, Int.reduceLT, Int.reduceNeg, *])) (okDst_spec rfl) ?_)
    cases hc : s[i]? with
    | none =>
      have hl : s.length ≤ i := List.getElem?_eq_none_iff.1 hc
      rw [if_neg (by omega)]
      (simp only [go_sem, reduceIte, Nat.reduceEqDiff, Nat.reduceLT, Nat.reduceLeDiff, Nat.reduceAdd, reduceCtorEq, Int.reduceToNat, Int.reduceLE, Int.reduceLT, Int.reduceNeg, *])
      refine ⟨congrArg PV.bool ?_, Heap.le_set hb⟩
      rw [upTo_end h6 hl, Bool.true_and]; exact ne_empty s
    | some c =>
      have hl := (List.getElem?_eq_some_iff.1 hc).1
      rw [if_pos hl, decode_one ha hc, Heap.set_set]
      (simp only [go_sem, reduceIte, Nat.reduceEqDiff, Nat.reduceLT, Nat.reduceLeDiff, Nat.reduceAdd, reduceCtorEq, Int.reduceToNat, Int.reduceLE, Int.reduceLT, Int.reduceNeg, *])
      refine OpW_call rfl rfl hg rfl ((hso i c _).mono ?_)
      rintro p S' ⟨rfl, rfl⟩
      cases he : so i c with
      | true =>
        (simp only [go_sem, reduceIte, Nat.reduceEqDiff, Nat.reduceLT, Nat.reduceLeDiff, Nat.reduceAdd, reduceCtorEq, Int.reduceToNat, Int.reduceLE, Int.reduceLT, Int.reduceNeg, *])
        exact ⟨m - 1, by omega, i + 1, by omega, rfl, upTo_succ h6 hc he⟩
      | false =>
        (simp only [go_sem, reduceIte, Nat.reduceEqDiff, Nat.reduceLT, Nat.reduceLeDiff, Nat.reduceAdd, reduceCtorEq, Int.reduceToNat, Int.reduceLE, Int.reduceLT, Int.reduceNeg, *])
        exact ⟨by rw [all_not hc he]; rfl, Heap.le_set hb⟩

/-! Name and Digits -/
def okName (i : Nat) (c : UInt8) : Bool := decide (cls c = 4) || (decide (cls c = 3) && decide (0 < i))
def okDigit (_ : Nat) (c : UInt8) : Bool := decide (cls c = 3)
def okPlain (_ : Nat) (c : UInt8) : Bool := decide (cls c = 3) || decide (cls c = 4) || decide (cls c = 8)
theorem name1_calls (i : Nat) (c : UInt8) (S : Heap) : CallsQ Try.prog 87 [.int .i64 (i : Int), .int .u8 (c.toNat : Int)] S (.bool (okName i c)) := by
  refine CallsA_W (fun _ => false) Try.func87 rfl (Nat.le_of_ble_eq_true rfl) ?_
  simp only [Try.f87]
  (simp only [go_sem, reduceIte, Nat.reduceEqDiff, Nat.reduceLT, Nat.reduceLeDiff, Nat.reduceAdd, reduceCtorEq, Int.reduceToNat, Int.reduceLE, Int.reduceLT, Int.reduceNeg, *])
  refine OpW_call rfl rfl call19 rfl ((class_calls c _).mono ?_)
  rintro p S' ⟨rfl, rfl⟩
  (simp only [go_sem, reduceIte, Nat.reduceEqDiff, Nat.reduceLT, Nat.reduceLeDiff, Nat.reduceAdd, reduceCtorEq, Int.reduceToNat, Int.reduceLE, Int.reduceLT, Int.reduceNeg, *])
  unfold okName
  generalize cls c = k
  (repeat' ((first | refine split_d ?_ ?_ | refine split_gt rfl ?_ ?_ | refine split_gf rfl ?_ ?_ | refine split_b ?_ ?_ | refine split_gb rfl ?_ ?_) <;> intro _ <;> ((try simp only [go_sem, reduceIte, Nat.reduceEqDiff, Nat.reduceLT, Nat.reduceLeDiff, Nat.reduceAdd, reduceCtorEq, Int.reduceToNat, Int.reduceLE, Int.reduceLT, Int.reduceNeg, *]))))
  all_goals simp_all
theorem digits1_calls (i : Nat) (c : UInt8) (S : Heap) : CallsQ Try.prog 88 [.int .i64 (i : Int), .int .u8 (c.toNat : Int)] S (.bool (okDigit i c)) := by
  refine CallsA_W (fun _ => false) Try.func88 rfl (Nat.le_of_ble_eq_true rfl) ?_
  simp only [Try.f88]
  (simp only [go_sem, reduceIte, Nat.reduceEqDiff, Nat.reduceLT, Nat.reduceLeDiff, Nat.reduceAdd, reduceCtorEq, Int.reduceToNat, Int.reduceLE, Int.reduceLT, Int.reduceNeg, *])
  refine OpW_call rfl rfl call19 rfl ((class_calls c _).mono ?_)
  rintro p S' ⟨rfl, rfl⟩
  (simp only [go_sem, reduceIte, Nat.reduceEqDiff, Nat.reduceLT, Nat.reduceLeDiff, Nat.reduceAdd, reduceCtorEq, Int.reduceToNat, Int.reduceLE, Int.reduceLT, Int.reduceNeg, *])
  rfl
def isName (s : List UInt8) : Bool := allFrom okName 0 s && nonEmpty s
def isDigits (s : List UInt8) : Bool := allFrom okDigit 0 s && nonEmpty s
def isPlain (s : List UInt8) : Bool := allFrom okPlain 0 s && (nonEmpty s && decide (s.head? ≠ some 35))
theorem cls_ascii {c : UInt8} (h : cls c = 4 ∨ cls c = 3) : pAscii 0 c = true := by
  unfold pAscii
  refine decide_eq_true ?_
  unfold cls at h
  generalize (c.toNat : Int) = c at *
  unfold clsI at h
  (repeat' split at h) <;> omega
theorem not_all {p : Nat → UInt8 → Bool} {s : List UInt8} (hp : ∀ i c, p i c = true → pAscii 0 c = true) (h : isAscii s = false) : allFrom p 0 s = false := by
  cases e : allFrom p 0 s with
  | false => rfl
  | true =>
    rw [allFrom_iff] at e
    have : isAscii s = true := by
      unfold isAscii
      rw [allFrom_iff]
      intro j c hj
      have := hp _ c (e j c hj)
      exact this
    rw [h] at this; cases this
theorem name_calls (s : List UInt8) (hs : s.length ≤ 4611686018427387904) (S : Heap) : CallsQ Try.prog 23 [.str s] S (.bool (isName s)) := by
  refine CallsA_W (fun _ => false) Try.func23 rfl (Nat.le_of_ble_eq_true rfl) ?_
  simp only [Try.f23]
  (simp only [go_sem, reduceIte, Nat.reduceEqDiff, Nat.reduceLT, Nat.reduceLeDiff, Nat.reduceAdd, reduceCtorEq, Int.reduceToNat, Int.reduceLE, Int.reduceLT, Int.reduceNeg, *])
  refine OpW_call rfl rfl call85 rfl ((ascii_calls s hs _).mono ?_)
  rintro p S' ⟨rfl, rfl⟩
  cases ha : isAscii s with
  | false =>
    (simp only [go_sem, reduceIte, Nat.reduceEqDiff, Nat.reduceLT, Nat.reduceLeDiff, Nat.reduceAdd, reduceCtorEq, Int.reduceToNat, Int.reduceLE, Int.reduceLT, Int.reduceNeg, *])
    unfold isName
    rw [not_all (fun i c h => cls_ascii (by unfold okName at h; simp at h; omega)) ha]; rfl
  | true =>
    (simp only [go_sem, reduceIte, Nat.reduceEqDiff, Nat.reduceLT, Nat.reduceLeDiff, Nat.reduceAdd, reduceCtorEq, Int.reduceToNat, Int.reduceLE, Int.reduceLT, Int.reduceNeg, *])
    refine OpW_call rfl rfl call86 rfl ((each_calls 87 okName call87 name1_calls s hs ha _).mono ?_)
    rintro p S' ⟨rfl, rfl⟩
    (simp only [go_sem, reduceIte, Nat.reduceEqDiff, Nat.reduceLT, Nat.reduceLeDiff, Nat.reduceAdd, reduceCtorEq, Int.reduceToNat, Int.reduceLE, Int.reduceLT, Int.reduceNeg, *])
    rfl
theorem digits_calls (s : List UInt8) (hs : s.length ≤ 4611686018427387904) (S : Heap) : CallsQ Try.prog 25 [.str s] S (.bool (isDigits s)) := by
  refine CallsA_W (fun _ => false) Try.func25 rfl (Nat.le_of_ble_eq_true rfl) ?_
  simp only [Try.f25]
  (simp only [go_sem, reduceIte, Nat.reduceEqDiff, Nat.reduceLT, Nat.reduceLeDiff, Nat.reduceAdd, reduceCtorEq, Int.reduceToNat, Int.reduceLE, Int.reduceLT, Int.reduceNeg, *])
  refine OpW_call rfl rfl call85 rfl ((ascii_calls s hs _).mono ?_)
  rintro p S' ⟨rfl, rfl⟩
  cases ha : isAscii s with
  | false =>
    (simp only [go_sem, reduceIte, Nat.reduceEqDiff, Nat.reduceLT, Nat.reduceLeDiff, Nat.reduceAdd, reduceCtorEq, Int.reduceToNat, Int.reduceLE, Int.reduceLT, Int.reduceNeg, *])
    unfold isDigits
    rw [not_all (fun i c h => cls_ascii (by unfold okDigit at h; simp at h; omega)) ha]; rfl
  | true =>
    (simp only [go_sem, reduceIte, Nat.reduceEqDiff, Nat.reduceLT, Nat.reduceLeDiff, Nat.reduceAdd, reduceCtorEq, Int.reduceToNat, Int.reduceLE, Int.reduceLT, Int.reduceNeg, *])
    refine OpW_call rfl rfl call86 rfl ((each_calls 88 okDigit call88 digits1_calls s hs ha _).mono ?_)
    rintro p S' ⟨rfl, rfl⟩
    (simp only [go_sem, reduceIte, Nat.reduceEqDiff, Nat.reduceLT, Nat.reduceLeDiff, Nat.reduceAdd, reduceCtorEq, Int.reduceToNat, Int.reduceLE, Int.reduceLT, Int.reduceNeg, *])
    rfl
theorem head_idx (s : List UInt8) : s.head? = s[0]? := by cases s <;> rfl
theorem plain_calls (s : List UInt8) (hs : s.length ≤ 4611686018427387904) (S : Heap) : CallsQ Try.prog 27 [.str s] S (.bool (isPlain s)) := by
  refine CallsA_W (fun _ => false) Try.func27 rfl (Nat.le_of_ble_eq_true rfl) ?_
  simp only [Try.f27]
  (simp only [go_sem, reduceIte, Nat.reduceEqDiff, Nat.reduceLT, Nat.reduceLeDiff, Nat.reduceAdd, reduceCtorEq, Int.reduceToNat, Int.reduceLE, Int.reduceLT, Int.reduceNeg, *])
  refine CodeW_loop (fun m σ' S' => ∃ i : Nat, i + m = s.length ∧ σ' 0 = .str s ∧ σ' 5 = .int .i64 s.length ∧ σ' 6 = .int .i64 i ∧ S' = S ∧ upTo okPlain i s) s.length ?_ ?_
  · (simp only [go_sem, reduceIte, Nat.reduceEqDiff, Nat.reduceLT, Nat.reduceLeDiff, Nat.reduceAdd, reduceCtorEq, Int.reduceToNat, Int.reduceLE, Int.reduceLT, Int.reduceNeg, *])
    exact ⟨0, by omega, rfl, upTo_zero⟩
  · rintro m σ' S' ⟨i, h1, h2, h3, h4, rfl, h6⟩
    cases hc : s[i]? with
    | none =>
      have hl : s.length ≤ i := List.getElem?_eq_none_iff.1 hc
      have hlt : ¬ ((i : Int) < (s.length : Int)) := by omega
      (simp only [go_sem, reduceIte, Nat.reduceEqDiff, Nat.reduceLT, Nat.reduceLeDiff, Nat.reduceAdd, reduceCtorEq, Int.reduceToNat, Int.reduceLE, Int.reduceLT, Int.reduceNeg, *])
      have hall := upTo_end h6 hl
      cases s with
      | nil =>
        (simp only [go_sem, reduceIte, Nat.reduceEqDiff, Nat.reduceLT, Nat.reduceLeDiff, Nat.reduceAdd, reduceCtorEq, Int.reduceToNat, Int.reduceLE, Int.reduceLT, Int.reduceNeg, *])
        rfl
      | cons c s' =>
        (simp only [go_sem, reduceIte, Nat.reduceEqDiff, Nat.reduceLT, Nat.reduceLeDiff, Nat.reduceAdd, reduceCtorEq, Int.reduceToNat, Int.reduceLE, Int.reduceLT, Int.reduceNeg, *])
        unfold isPlain
        rw [hall]
        simp only [nonEmpty, List.isEmpty, Bool.not_false, Bool.true_and, List.head?_cons, ne_eq, Option.some.injEq]
        refine congrArg PV.bool (decide_eq_decide.2 ?_)
        rw [← UInt8.toNat_inj]
        exact not_congr (by rw [show (35 : UInt8).toNat = 35 from rfl]; omega)
    | some c =>
      have hl := (List.getElem?_eq_some_iff.1 hc).1
      have hlt : (i : Int) < (s.length : Int) := by omega
      (simp only [go_sem, reduceIte, Nat.reduceEqDiff, Nat.reduceLT, Nat.reduceLeDiff, Nat.reduceAdd, reduceCtorEq, Int.reduceToNat, Int.reduceLE, Int.reduceLT, Int.reduceNeg, *])
      refine OpW_call rfl rfl call19 rfl ((class_calls c _).mono ?_)
      rintro p S' ⟨rfl, rfl⟩
      (simp only [go_sem, reduceIte, Nat.reduceEqDiff, Nat.reduceLT, Nat.reduceLeDiff, Nat.reduceAdd, reduceCtorEq, Int.reduceToNat, Int.reduceLE, Int.reduceLT, Int.reduceNeg, *])
      (repeat' ((first | refine split_d ?_ ?_ | refine split_gt rfl ?_ ?_ | refine split_gf rfl ?_ ?_ | refine split_b ?_ ?_ | refine split_gb rfl ?_ ?_) <;> intro _ <;> ((try simp only [go_sem, reduceIte, Nat.reduceEqDiff, Nat.reduceLT, Nat.reduceLeDiff, Nat.reduceAdd, reduceCtorEq, Int.reduceToNat, Int.reduceLE, Int.reduceLT, Int.reduceNeg, *]))))
      · exact ⟨m - 1, by omega, i + 1, by omega, step64 hl hs, upTo_succ h6 hc (by unfold okPlain; simp [*])⟩
      · exact ⟨m - 1, by omega, i + 1, by omega, step64 hl hs, upTo_succ h6 hc (by unfold okPlain; simp [*])⟩
      · exact ⟨m - 1, by omega, i + 1, by omega, step64 hl hs, upTo_succ h6 hc (by unfold okPlain; simp [*])⟩
      · unfold isPlain
        rw [all_not hc (by unfold okPlain; simp [*])]; rfl

end Go.Proofs.Ytcbonfgkfiapaaa.Pv

/-! What the reference of package char computes: texts. -/
set_option linter.unusedVariables false
set_option linter.unusedSimpArgs false
set_option maxRecDepth 100000
set_option maxHeartbeats 4000000
namespace Go.Proofs.Ytcbonfgkfiapaaa.Pv
open Go Go.RowKit

theorem nonEmpty_len (s : List UInt8) : decide ((0 : Int) < (s.length : Int)) = nonEmpty s := by cases s <;> simp [nonEmpty]
theorem refName_calls (s : List UInt8) (hs : s.length ≤ 4611686018427387904) (S : Heap) : CallsQ Try.prog 24 [.str s] S (.bool (isName s)) := by
  refine CallsA_W (fun _ => false) Try.func24 rfl (Nat.le_of_ble_eq_true rfl) ?_
  simp only [Try.f24]
  (simp only [go_sem, reduceIte, Nat.reduceEqDiff, Nat.reduceLT, Nat.reduceLeDiff, Nat.reduceAdd, reduceCtorEq, Int.reduceToNat, Int.reduceLE, Int.reduceLT, Int.reduceNeg, *])
  refine CodeW_loop (fun m σ' S' => ∃ i : Nat, i + m = s.length ∧ σ' 0 = .str s ∧ σ' 3 = .int .i64 i ∧ S' = S ∧ upTo okName i s) s.length ?_ ?_
  · (simp only [go_sem, reduceIte, Nat.reduceEqDiff, Nat.reduceLT, Nat.reduceLeDiff, Nat.reduceAdd, reduceCtorEq, Int.reduceToNat, Int.reduceLE, Int.reduceLT, Int.reduceNeg, *])
    exact ⟨0, by omega, rfl, upTo_zero⟩
  · rintro m σ' S' ⟨i, h1, h2, h4, rfl, h6⟩
    cases hc : s[i]? with
    | none =>
      have hl : s.length ≤ i := List.getElem?_eq_none_iff.1 hc
      have hlt : ¬ ((i : Int) < (s.length : Int)) := by omega
      (simp only [go_sem, reduceIte, Nat.reduceEqDiff, Nat.reduceLT, Nat.reduceLeDiff, Nat.reduceAdd, reduceCtorEq, Int.reduceToNat, Int.reduceLE, Int.reduceLT, Int.reduceNeg, *])
      unfold isName
      rw [upTo_end h6 hl, ← nonEmpty_len]; rfl
    | some c =>
      have hl := (List.getElem?_eq_some_iff.1 hc).1
      have hlt : (i : Int) < (s.length : Int) := by omega
      (simp only [go_sem, reduceIte, Nat.reduceEqDiff, Nat.reduceLT, Nat.reduceLeDiff, Nat.reduceAdd, reduceCtorEq, Int.reduceToNat, Int.reduceLE, Int.reduceLT, Int.reduceNeg, *])
      refine OpW_call rfl rfl call20 rfl ((refClass_calls c _).mono ?_)
      rintro p S' ⟨rfl, rfl⟩
      (simp only [go_sem, reduceIte, Nat.reduceEqDiff, Nat.reduceLT, Nat.reduceLeDiff, Nat.reduceAdd, reduceCtorEq, Int.reduceToNat, Int.reduceLE, Int.reduceLT, Int.reduceNeg, *])
      (repeat' ((first | refine split_d ?_ ?_ | refine split_gt rfl ?_ ?_ | refine split_gf rfl ?_ ?_ | refine split_b ?_ ?_ | refine split_gb rfl ?_ ?_) <;> intro _ <;> ((try simp only [go_sem, reduceIte, Nat.reduceEqDiff, Nat.reduceLT, Nat.reduceLeDiff, Nat.reduceAdd, reduceCtorEq, Int.reduceToNat, Int.reduceLE, Int.reduceLT, Int.reduceNeg, *]))))
      all_goals first
        | exact ⟨m - 1, by omega, i + 1, by omega, step64 hl hs, upTo_succ h6 hc (by unfold okName; simp_all <;> omega)⟩
        | (unfold isName; rw [all_not hc (by unfold okName; simp_all <;> omega)]; rfl)
theorem refDigits_calls (s : List UInt8) (hs : s.length ≤ 4611686018427387904) (S : Heap) : CallsQ Try.prog 26 [.str s] S (.bool (isDigits s)) := by
  refine CallsA_W (fun _ => false) Try.func26 rfl (Nat.le_of_ble_eq_true rfl) ?_
  simp only [Try.f26]
  (simp only [go_sem, reduceIte, Nat.reduceEqDiff, Nat.reduceLT, Nat.reduceLeDiff, Nat.reduceAdd, reduceCtorEq, Int.reduceToNat, Int.reduceLE, Int.reduceLT, Int.reduceNeg, *])
  refine CodeW_loop (fun m σ' S' => ∃ i : Nat, i + m = s.length ∧ σ' 0 = .str s ∧ σ' 3 = .int .i64 i ∧ S' = S ∧ upTo okDigit i s) s.length ?_ ?_
  · (simp only [go_sem, reduceIte, Nat.reduceEqDiff, Nat.reduceLT, Nat.reduceLeDiff, Nat.reduceAdd, reduceCtorEq, Int.reduceToNat, Int.reduceLE, Int.reduceLT, Int.reduceNeg, *])
    exact ⟨0, by omega, rfl, upTo_zero⟩
  · rintro m σ' S' ⟨i, h1, h2, h4, rfl, h6⟩
    cases hc : s[i]? with
    | none =>
      have hl : s.length ≤ i := List.getElem?_eq_none_iff.1 hc
      have hlt : ¬ ((i : Int) < (s.length : Int)) := by omega
      (simp only [go_sem, reduceIte, Nat.reduceEqDiff, Nat.reduceLT, Nat.reduceLeDiff, Nat.reduceAdd, reduceCtorEq, Int.reduceToNat, Int.reduceLE, Int.reduceLT, Int.reduceNeg, *])
      unfold isDigits
      rw [upTo_end h6 hl, ← nonEmpty_len]; rfl
    | some c =>
      have hl := (List.getElem?_eq_some_iff.1 hc).1
      have hlt : (i : Int) < (s.length : Int) := by omega
      (simp only [go_sem, reduceIte, Nat.reduceEqDiff, Nat.reduceLT, Nat.reduceLeDiff, Nat.reduceAdd, reduceCtorEq, Int.reduceToNat, Int.reduceLE, Int.reduceLT, Int.reduceNeg, *])
      refine OpW_call rfl rfl call20 rfl ((refClass_calls c _).mono ?_)
      rintro p S' ⟨rfl, rfl⟩
      (simp only [go_sem, reduceIte, Nat.reduceEqDiff, Nat.reduceLT, Nat.reduceLeDiff, Nat.reduceAdd, reduceCtorEq, Int.reduceToNat, Int.reduceLE, Int.reduceLT, Int.reduceNeg, *])
      (repeat' ((first | refine split_d ?_ ?_ | refine split_gt rfl ?_ ?_ | refine split_gf rfl ?_ ?_ | refine split_b ?_ ?_ | refine split_gb rfl ?_ ?_) <;> intro _ <;> ((try simp only [go_sem, reduceIte, Nat.reduceEqDiff, Nat.reduceLT, Nat.reduceLeDiff, Nat.reduceAdd, reduceCtorEq, Int.reduceToNat, Int.reduceLE, Int.reduceLT, Int.reduceNeg, *]))))
      all_goals first
        | exact ⟨m - 1, by omega, i + 1, by omega, step64 hl hs, upTo_succ h6 hc (by unfold okDigit; simp_all)⟩
        | (unfold isDigits; rw [all_not hc (by unfold okDigit; simp_all)]; rfl)
theorem refPlain_calls (s : List UInt8) (hs : s.length ≤ 4611686018427387904) (S : Heap) : CallsQ Try.prog 28 [.str s] S (.bool (isPlain s)) := by
  refine CallsA_W (fun _ => false) Try.func28 rfl (Nat.le_of_ble_eq_true rfl) ?_
  simp only [Try.f28]
  (simp only [go_sem, reduceIte, Nat.reduceEqDiff, Nat.reduceLT, Nat.reduceLeDiff, Nat.reduceAdd, reduceCtorEq, Int.reduceToNat, Int.reduceLE, Int.reduceLT, Int.reduceNeg, *])
  refine CodeW_loop (fun m σ' S' => ∃ i : Nat, i + m = s.length ∧ σ' 0 = .str s ∧ σ' 3 = .int .i64 i ∧ S' = S ∧ upTo okPlain i s) s.length ?_ ?_
  · (simp only [go_sem, reduceIte, Nat.reduceEqDiff, Nat.reduceLT, Nat.reduceLeDiff, Nat.reduceAdd, reduceCtorEq, Int.reduceToNat, Int.reduceLE, Int.reduceLT, Int.reduceNeg, *])
    exact ⟨0, by omega, rfl, upTo_zero⟩
  · rintro m σ' S' ⟨i, h1, h2, h4, rfl, h6⟩
    cases hc : s[i]? with
    | none =>
      have hl : s.length ≤ i := List.getElem?_eq_none_iff.1 hc
      have hlt : ¬ ((i : Int) < (s.length : Int)) := by omega
      (simp only [go_sem, reduceIte, Nat.reduceEqDiff, Nat.reduceLT, Nat.reduceLeDiff, Nat.reduceAdd, reduceCtorEq, Int.reduceToNat, Int.reduceLE, Int.reduceLT, Int.reduceNeg, *])
      have hall := upTo_end h6 hl
      cases s with
      | nil =>
        (simp only [go_sem, reduceIte, Nat.reduceEqDiff, Nat.reduceLT, Nat.reduceLeDiff, Nat.reduceAdd, reduceCtorEq, Int.reduceToNat, Int.reduceLE, Int.reduceLT, Int.reduceNeg, *])
        (repeat' ((first | refine split_d ?_ ?_ | refine split_gt rfl ?_ ?_ | refine split_gf rfl ?_ ?_ | refine split_b ?_ ?_ | refine split_gb rfl ?_ ?_) <;> intro _ <;> (first | (exfalso; omega) | (try simp only [go_sem, reduceIte, Nat.reduceEqDiff, Nat.reduceLT, Nat.reduceLeDiff, Nat.reduceAdd, reduceCtorEq, Int.reduceToNat, Int.reduceLE, Int.reduceLT, Int.reduceNeg, *]))))
        all_goals first | rfl | (exfalso; omega)
      | cons c s' =>
        (simp only [go_sem, reduceIte, Nat.reduceEqDiff, Nat.reduceLT, Nat.reduceLeDiff, Nat.reduceAdd, reduceCtorEq, Int.reduceToNat, Int.reduceLE, Int.reduceLT, Int.reduceNeg, *])
        (repeat' ((first | refine split_d ?_ ?_ | refine split_gt rfl ?_ ?_ | refine split_gf rfl ?_ ?_ | refine split_b ?_ ?_ | refine split_gb rfl ?_ ?_) <;> intro _ <;> (first | (exfalso; omega) | (try simp only [go_sem, reduceIte, Nat.reduceEqDiff, Nat.reduceLT, Nat.reduceLeDiff, Nat.reduceAdd, reduceCtorEq, Int.reduceToNat, Int.reduceLE, Int.reduceLT, Int.reduceNeg, *]))))
        unfold isPlain
        rw [hall]
        simp only [nonEmpty, List.isEmpty, Bool.not_false, Bool.true_and, List.head?_cons, ne_eq, Option.some.injEq]
        refine congrArg PV.bool (decide_eq_decide.2 ?_)
        rw [← UInt8.toNat_inj]
        exact not_congr (by rw [show (35 : UInt8).toNat = 35 from rfl]; omega)
    | some c =>
      have hl := (List.getElem?_eq_some_iff.1 hc).1
      have hlt : (i : Int) < (s.length : Int) := by omega
      (simp only [go_sem, reduceIte, Nat.reduceEqDiff, Nat.reduceLT, Nat.reduceLeDiff, Nat.reduceAdd, reduceCtorEq, Int.reduceToNat, Int.reduceLE, Int.reduceLT, Int.reduceNeg, *])
      refine OpW_call rfl rfl call20 rfl ((refClass_calls c _).mono ?_)
      rintro p S' ⟨rfl, rfl⟩
      (simp only [go_sem, reduceIte, Nat.reduceEqDiff, Nat.reduceLT, Nat.reduceLeDiff, Nat.reduceAdd, reduceCtorEq, Int.reduceToNat, Int.reduceLE, Int.reduceLT, Int.reduceNeg, *])
      (repeat' ((first | refine split_d ?_ ?_ | refine split_gt rfl ?_ ?_ | refine split_gf rfl ?_ ?_ | refine split_b ?_ ?_ | refine split_gb rfl ?_ ?_) <;> intro _ <;> ((try simp only [go_sem, reduceIte, Nat.reduceEqDiff, Nat.reduceLT, Nat.reduceLeDiff, Nat.reduceAdd, reduceCtorEq, Int.reduceToNat, Int.reduceLE, Int.reduceLT, Int.reduceNeg, *]))))
      all_goals first
        | exact ⟨m - 1, by omega, i + 1, by omega, step64 hl hs, upTo_succ h6 hc (by unfold okPlain; simp_all)⟩
        | (unfold isPlain; rw [all_not hc (by unfold okPlain; simp_all)]; rfl)

end Go.Proofs.Ytcbonfgkfiapaaa.Pv

/-! Where an assignment's sign stands. -/
set_option linter.unusedVariables false
set_option linter.unusedSimpArgs false
set_option maxRecDepth 100000
set_option maxHeartbeats 4000000
namespace Go.Proofs.Ytcbonfgkfiapaaa.Pv
open Go Go.RowKit

theorem idx_at : ∀ {s : List UInt8} {k : Nat} {c : UInt8}, s[k]? = some c → (∀ (j : Nat) (d : UInt8), j < k → s[j]? = some d → d ≠ c) → Lib.indexByte s c = (k : Int)
  | [], k, c, h, _ => by simp at h
  | b :: s, 0, c, h, _ => by simp at h; subst h; simp [Lib.indexByte]
  | b :: s, k + 1, c, h, hj => by
    have h' : s[k]? = some c := by simpa using h
    have ih := idx_at h' fun j d hj' hd => hj (j + 1) d (by omega) (by simpa using hd)
    have hb : ¬ b = c := hj 0 b (by omega) rfl
    unfold Lib.indexByte
    rw [if_neg (by simpa using hb), ih, if_neg (by simp)]
    rfl
theorem idx_no : ∀ {s : List UInt8} {c : UInt8}, (∀ (j : Nat) (d : UInt8), s[j]? = some d → d ≠ c) → Lib.indexByte s c = -1
  | [], c, _ => rfl
  | b :: s, c, h => by
    have ih := idx_no (s := s) (c := c) fun j d hd => h (j + 1) d (by simpa using hd)
    have hb : ¬ b = c := h 0 b rfl
    unfold Lib.indexByte
    rw [if_neg (by simpa using hb), ih]; rfl
theorem idx_cases (s : List UInt8) (c : UInt8) : Lib.indexByte s c = -1 ∨ ∃ k : Nat, Lib.indexByte s c = (k : Int) ∧ k < s.length ∧ s[k]? = some c := by
  induction s with
  | nil => left; rfl
  | cons b s ih =>
    unfold Lib.indexByte
    by_cases hb : b = c
    · right; exact ⟨0, by rw [if_pos (by simpa using hb)]; rfl, by simp, by simp [hb]⟩
    · rw [if_neg (by simpa using hb)]
      rcases ih with ih | ⟨k, h1, h2, h3⟩
      · left; rw [ih]; rfl
      · right; exact ⟨k + 1, by rw [h1, if_neg (by simp)]; rfl, by simp; omega, by simpa using h3⟩
def assignAt (s : List UInt8) : Int := if Lib.indexByte s 61 < 0 then -1 else if isName (s.take (Lib.indexByte s 61).toNat) then Lib.indexByte s 61 else -1
theorem assign_calls (s : List UInt8) (hs : s.length ≤ 4611686018427387904) (S : Heap) : CallsQ Try.prog 29 [.str s] S (.int .i64 (assignAt s)) := by
  refine CallsA_W (fun _ => false) Try.func29 rfl (Nat.le_of_ble_eq_true rfl) ?_
  simp only [Try.f29]
  (simp only [go_sem, reduceIte, Nat.reduceEqDiff, Nat.reduceLT, Nat.reduceLeDiff, Nat.reduceAdd, reduceCtorEq, Int.reduceToNat, Int.reduceLE, Int.reduceLT, Int.reduceNeg, *])
  refine OpW_call rfl rfl call84 rfl ((indexByte_calls s 61 _).mono ?_)
  rintro p S' ⟨rfl, rfl⟩
  unfold assignAt
  rcases idx_cases s 61 with h | ⟨k, h, hk, h3⟩
  · rw [h]
    (simp only [go_sem, reduceIte, Nat.reduceEqDiff, Nat.reduceLT, Nat.reduceLeDiff, Nat.reduceAdd, reduceCtorEq, Int.reduceToNat, Int.reduceLE, Int.reduceLT, Int.reduceNeg, *])
  · rw [h]
    have hn : ¬ ((k : Int) < 0) := by omega
    have hk' : k ≤ s.length := by omega
    have h0 := Nat.zero_le k
    (simp only [go_sem, reduceIte, Nat.reduceEqDiff, Nat.reduceLT, Nat.reduceLeDiff, Nat.reduceAdd, reduceCtorEq, Int.reduceToNat, Int.reduceLE, Int.reduceLT, Int.reduceNeg, *])
    refine OpW_call rfl rfl call23 rfl ((name_calls (s.take k) (by rw [List.length_take]; omega) _).mono ?_)
    rintro p S' ⟨rfl, rfl⟩
    rcases Bool.eq_false_or_eq_true (isName (s.take k)) with hb | hb <;> (simp only [go_sem, reduceIte, Nat.reduceEqDiff, Nat.reduceLT, Nat.reduceLeDiff, Nat.reduceAdd, reduceCtorEq, Int.reduceToNat, Int.reduceLE, Int.reduceLT, Int.reduceNeg, *])
theorem refAssign_calls (s : List UInt8) (hs : s.length ≤ 4611686018427387904) (S : Heap) : CallsQ Try.prog 30 [.str s] S (.int .i64 (assignAt s)) := by
  refine CallsA_W (fun _ => false) Try.func30 rfl (Nat.le_of_ble_eq_true rfl) ?_
  simp only [Try.f30]
  (simp only [go_sem, reduceIte, Nat.reduceEqDiff, Nat.reduceLT, Nat.reduceLeDiff, Nat.reduceAdd, reduceCtorEq, Int.reduceToNat, Int.reduceLE, Int.reduceLT, Int.reduceNeg, *])
  refine CodeW_loop (fun m σ' S' => ∃ i : Nat, i + m = s.length ∧ σ' 0 = .str s ∧ σ' 3 = .int .i64 i ∧ S' = S ∧ ∀ j d, j < i → s[j]? = some d → d ≠ 61) s.length ?_ ?_
  · (simp only [go_sem, reduceIte, Nat.reduceEqDiff, Nat.reduceLT, Nat.reduceLeDiff, Nat.reduceAdd, reduceCtorEq, Int.reduceToNat, Int.reduceLE, Int.reduceLT, Int.reduceNeg, *])
    exact ⟨0, by omega, rfl, fun j d h => by omega⟩
  · rintro m σ' S' ⟨i, h1, h2, h4, rfl, h6⟩
    cases hc : s[i]? with
    | none =>
      have hl : s.length ≤ i := List.getElem?_eq_none_iff.1 hc
      have hlt : ¬ ((i : Int) < (s.length : Int)) := by omega
      (simp only [go_sem, reduceIte, Nat.reduceEqDiff, Nat.reduceLT, Nat.reduceLeDiff, Nat.reduceAdd, reduceCtorEq, Int.reduceToNat, Int.reduceLE, Int.reduceLT, Int.reduceNeg, *])
      unfold assignAt
      rw [idx_no fun j d hd => h6 j d (by have := (List.getElem?_eq_some_iff.1 hd).1; omega) hd]; rfl
    | some c =>
      have hl := (List.getElem?_eq_some_iff.1 hc).1
      have hlt : (i : Int) < (s.length : Int) := by omega
      (simp only [go_sem, reduceIte, Nat.reduceEqDiff, Nat.reduceLT, Nat.reduceLeDiff, Nat.reduceAdd, reduceCtorEq, Int.reduceToNat, Int.reduceLE, Int.reduceLT, Int.reduceNeg, *])
      by_cases he : (c.toNat : Int) = 61
      · have hle : i ≤ s.length := by omega
        have h0 := Nat.zero_le i
        have hx : Lib.indexByte s 61 = (i : Int) := by
          have e : c = 61 := by rw [← UInt8.toNat_inj]; have : (61 : UInt8).toNat = 61 := rfl; omega
          subst e; exact idx_at hc h6
        (simp only [go_sem, reduceIte, Nat.reduceEqDiff, Nat.reduceLT, Nat.reduceLeDiff, Nat.reduceAdd, reduceCtorEq, Int.reduceToNat, Int.reduceLE, Int.reduceLT, Int.reduceNeg, *])
        refine OpW_call rfl rfl call24 rfl ((refName_calls (s.take i) (by rw [List.length_take]; omega) _).mono ?_)
        rintro p S' ⟨rfl, rfl⟩
        unfold assignAt
        rw [hx, if_neg (by omega), Int.toNat_natCast]
        rcases Bool.eq_false_or_eq_true (isName (s.take i)) with hb | hb <;> (simp only [go_sem, reduceIte, Nat.reduceEqDiff, Nat.reduceLT, Nat.reduceLeDiff, Nat.reduceAdd, reduceCtorEq, Int.reduceToNat, Int.reduceLE, Int.reduceLT, Int.reduceNeg, *])
      · (simp only [go_sem, reduceIte, Nat.reduceEqDiff, Nat.reduceLT, Nat.reduceLeDiff, Nat.reduceAdd, reduceCtorEq, Int.reduceToNat, Int.reduceLE, Int.reduceLT, Int.reduceNeg, *])
        refine ⟨m - 1, by omega, i + 1, by omega, step64 hl hs, fun j d hj hd => ?_⟩
        by_cases e : j = i
        · subst e; rw [hc] at hd; injection hd with hd; subst hd
          rintro rfl; exact he rfl
        · exact h6 j d (by omega) hd

theorem awake_calls (S : Heap) : CallsQ Try.prog 18 [] S (.bool true) := by
  have a1 : cls 97 = 4 := by decide +kernel
  have a2 : isName [97, 49] = true := by decide +kernel
  have a3 : isDigits [49, 50] = true := by decide +kernel
  have a4 : isPlain [97, 61, 98] = true := by decide +kernel
  have a5 : isSpecial 64 = true := by decide +kernel
  have a6 : assignAt [97, 61, 98] = 1 := by decide +kernel
  refine CallsA_W (fun _ => false) Try.func18 rfl (Nat.le_of_ble_eq_true rfl) ?_
  simp only [Try.f18]
  (simp only [go_sem, reduceIte, Nat.reduceEqDiff, Nat.reduceLT, Nat.reduceLeDiff, Nat.reduceAdd, reduceCtorEq, Int.reduceToNat, Int.reduceLE, Int.reduceLT, Int.reduceNeg, *])
  refine OpW_call rfl rfl call19 rfl ((class_calls 97 _).mono ?_)
  rintro p S' ⟨rfl, rfl⟩
  (simp only [go_sem, reduceIte, Nat.reduceEqDiff, Nat.reduceLT, Nat.reduceLeDiff, Nat.reduceAdd, reduceCtorEq, Int.reduceToNat, Int.reduceLE, Int.reduceLT, Int.reduceNeg, *])
  refine OpW_call rfl rfl call23 rfl ((name_calls [97, 49] (by decide) _).mono ?_)
  rintro p S' ⟨rfl, rfl⟩
  (simp only [go_sem, reduceIte, Nat.reduceEqDiff, Nat.reduceLT, Nat.reduceLeDiff, Nat.reduceAdd, reduceCtorEq, Int.reduceToNat, Int.reduceLE, Int.reduceLT, Int.reduceNeg, *])
  refine OpW_call rfl rfl call25 rfl ((digits_calls [49, 50] (by decide) _).mono ?_)
  rintro p S' ⟨rfl, rfl⟩
  (simp only [go_sem, reduceIte, Nat.reduceEqDiff, Nat.reduceLT, Nat.reduceLeDiff, Nat.reduceAdd, reduceCtorEq, Int.reduceToNat, Int.reduceLE, Int.reduceLT, Int.reduceNeg, *])
  refine OpW_call rfl rfl call27 rfl ((plain_calls [97, 61, 98] (by decide) _).mono ?_)
  rintro p S' ⟨rfl, rfl⟩
  (simp only [go_sem, reduceIte, Nat.reduceEqDiff, Nat.reduceLT, Nat.reduceLeDiff, Nat.reduceAdd, reduceCtorEq, Int.reduceToNat, Int.reduceLE, Int.reduceLT, Int.reduceNeg, *])
  refine OpW_call rfl rfl call21 rfl ((special_calls 64 _).mono ?_)
  rintro p S' ⟨rfl, rfl⟩
  (simp only [go_sem, reduceIte, Nat.reduceEqDiff, Nat.reduceLT, Nat.reduceLeDiff, Nat.reduceAdd, reduceCtorEq, Int.reduceToNat, Int.reduceLE, Int.reduceLT, Int.reduceNeg, *])
  refine OpW_call rfl rfl call29 rfl ((assign_calls [97, 61, 98] (by decide) _).mono ?_)
  rintro p S' ⟨rfl, rfl⟩
  (simp only [go_sem, reduceIte, Nat.reduceEqDiff, Nat.reduceLT, Nat.reduceLeDiff, Nat.reduceAdd, reduceCtorEq, Int.reduceToNat, Int.reduceLE, Int.reduceLT, Int.reduceNeg, *])

end Go.Proofs.Ytcbonfgkfiapaaa.Pv

/-! What the laws of package char compute. -/
set_option linter.unusedVariables false
set_option linter.unusedSimpArgs false
set_option maxRecDepth 100000
set_option maxHeartbeats 40000000
namespace Go.Proofs.Ytcbonfgkfiapaaa.Pv
open Go Go.RowKit

attribute [go_sem] beq_self_eq_true Nat.zero_le

theorem charTells_calls (c : UInt8) (s : List UInt8) (S : Heap) : CallsQ Try.prog 3 [.int .u8 (c.toNat : Int), .str s] S (.bool true) := by
  refine CallsA_W (fun _ => false) Try.func3 rfl (Nat.le_of_ble_eq_true rfl) ?_
  simp only [Try.f3]
  (simp only [go_sem, reduceIte, Nat.reduceEqDiff, Nat.reduceLT, Nat.reduceLeDiff, Nat.reduceAdd, reduceCtorEq, Int.reduceToNat, Int.reduceLE, Int.reduceLT, Int.reduceNeg, *])
  by_cases hl : (2000 : Int) < (s.length : Int)
  · (simp only [go_sem, reduceIte, Nat.reduceEqDiff, Nat.reduceLT, Nat.reduceLeDiff, Nat.reduceAdd, reduceCtorEq, Int.reduceToNat, Int.reduceLE, Int.reduceLT, Int.reduceNeg, *])
    refine OpW_call rfl rfl call18 rfl ((awake_calls _).mono ?_)
    rintro p S' ⟨rfl, rfl⟩
    (simp only [go_sem, reduceIte, Nat.reduceEqDiff, Nat.reduceLT, Nat.reduceLeDiff, Nat.reduceAdd, reduceCtorEq, Int.reduceToNat, Int.reduceLE, Int.reduceLT, Int.reduceNeg, *])
  · have hs : s.length ≤ 4611686018427387904 := by omega
    (simp only [go_sem, reduceIte, Nat.reduceEqDiff, Nat.reduceLT, Nat.reduceLeDiff, Nat.reduceAdd, reduceCtorEq, Int.reduceToNat, Int.reduceLE, Int.reduceLT, Int.reduceNeg, *])
    refine OpW_call rfl rfl call19 rfl ((class_calls c _).mono ?_)
    rintro p S' ⟨rfl, rfl⟩
    (simp only [go_sem, reduceIte, Nat.reduceEqDiff, Nat.reduceLT, Nat.reduceLeDiff, Nat.reduceAdd, reduceCtorEq, Int.reduceToNat, Int.reduceLE, Int.reduceLT, Int.reduceNeg, *])
    refine OpW_call rfl rfl call20 rfl ((refClass_calls c _).mono ?_)
    rintro p S' ⟨rfl, rfl⟩
    (simp only [go_sem, reduceIte, Nat.reduceEqDiff, Nat.reduceLT, Nat.reduceLeDiff, Nat.reduceAdd, reduceCtorEq, Int.reduceToNat, Int.reduceLE, Int.reduceLT, Int.reduceNeg, *])
    refine OpW_call rfl rfl call21 rfl ((special_calls c _).mono ?_)
    rintro p S' ⟨rfl, rfl⟩
    (simp only [go_sem, reduceIte, Nat.reduceEqDiff, Nat.reduceLT, Nat.reduceLeDiff, Nat.reduceAdd, reduceCtorEq, Int.reduceToNat, Int.reduceLE, Int.reduceLT, Int.reduceNeg, *])
    refine OpW_call rfl rfl call22 rfl ((refSpecial_calls c _).mono ?_)
    rintro p S' ⟨rfl, rfl⟩
    (simp only [go_sem, reduceIte, Nat.reduceEqDiff, Nat.reduceLT, Nat.reduceLeDiff, Nat.reduceAdd, reduceCtorEq, Int.reduceToNat, Int.reduceLE, Int.reduceLT, Int.reduceNeg, *])
    refine OpW_call rfl rfl call23 rfl ((name_calls s hs _).mono ?_)
    rintro p S' ⟨rfl, rfl⟩
    (simp only [go_sem, reduceIte, Nat.reduceEqDiff, Nat.reduceLT, Nat.reduceLeDiff, Nat.reduceAdd, reduceCtorEq, Int.reduceToNat, Int.reduceLE, Int.reduceLT, Int.reduceNeg, *])
    refine OpW_call rfl rfl call24 rfl ((refName_calls s hs _).mono ?_)
    rintro p S' ⟨rfl, rfl⟩
    (simp only [go_sem, reduceIte, Nat.reduceEqDiff, Nat.reduceLT, Nat.reduceLeDiff, Nat.reduceAdd, reduceCtorEq, Int.reduceToNat, Int.reduceLE, Int.reduceLT, Int.reduceNeg, *])
    refine OpW_call rfl rfl call25 rfl ((digits_calls s hs _).mono ?_)
    rintro p S' ⟨rfl, rfl⟩
    (simp only [go_sem, reduceIte, Nat.reduceEqDiff, Nat.reduceLT, Nat.reduceLeDiff, Nat.reduceAdd, reduceCtorEq, Int.reduceToNat, Int.reduceLE, Int.reduceLT, Int.reduceNeg, *])
    refine OpW_call rfl rfl call26 rfl ((refDigits_calls s hs _).mono ?_)
    rintro p S' ⟨rfl, rfl⟩
    (simp only [go_sem, reduceIte, Nat.reduceEqDiff, Nat.reduceLT, Nat.reduceLeDiff, Nat.reduceAdd, reduceCtorEq, Int.reduceToNat, Int.reduceLE, Int.reduceLT, Int.reduceNeg, *])
    refine OpW_call rfl rfl call27 rfl ((plain_calls s hs _).mono ?_)
    rintro p S' ⟨rfl, rfl⟩
    (simp only [go_sem, reduceIte, Nat.reduceEqDiff, Nat.reduceLT, Nat.reduceLeDiff, Nat.reduceAdd, reduceCtorEq, Int.reduceToNat, Int.reduceLE, Int.reduceLT, Int.reduceNeg, *])
    refine OpW_call rfl rfl call28 rfl ((refPlain_calls s hs _).mono ?_)
    rintro p S' ⟨rfl, rfl⟩
    (simp only [go_sem, reduceIte, Nat.reduceEqDiff, Nat.reduceLT, Nat.reduceLeDiff, Nat.reduceAdd, reduceCtorEq, Int.reduceToNat, Int.reduceLE, Int.reduceLT, Int.reduceNeg, *])
    refine OpW_call rfl rfl call29 rfl ((assign_calls s hs _).mono ?_)
    rintro p S' ⟨rfl, rfl⟩
    (simp only [go_sem, reduceIte, Nat.reduceEqDiff, Nat.reduceLT, Nat.reduceLeDiff, Nat.reduceAdd, reduceCtorEq, Int.reduceToNat, Int.reduceLE, Int.reduceLT, Int.reduceNeg, *])
    refine OpW_call rfl rfl call30 rfl ((refAssign_calls s hs _).mono ?_)
    rintro p S' ⟨rfl, rfl⟩
    (simp only [go_sem, reduceIte, Nat.reduceEqDiff, Nat.reduceLT, Nat.reduceLeDiff, Nat.reduceAdd, reduceCtorEq, Int.reduceToNat, Int.reduceLE, Int.reduceLT, Int.reduceNeg, *])
    refine OpW_call rfl rfl call18 rfl ((awake_calls _).mono ?_)
    rintro p S' ⟨rfl, rfl⟩
    (simp only [go_sem, reduceIte, Nat.reduceEqDiff, Nat.reduceLT, Nat.reduceLeDiff, Nat.reduceAdd, reduceCtorEq, Int.reduceToNat, Int.reduceLE, Int.reduceLT, Int.reduceNeg, *])

/-! What the laws say of it all -/
theorem allFrom_append {p : Nat → UInt8 → Bool} : ∀ {s t : List UInt8} {k : Nat}, allFrom p k (s ++ t) = (allFrom p k s && allFrom p (k + s.length) t)
  | [], t, k => by simp [allFrom]
  | c :: s, t, k => by
    simp only [List.cons_append, allFrom, allFrom_append (s := s), Bool.and_assoc, List.length_cons]
    rw [show k + 1 + s.length = k + (s.length + 1) by omega]
theorem allFrom_imp {p q : Nat → UInt8 → Bool} {j k : Nat} {s : List UInt8} (h : ∀ i c, p (j + i) c = true → q (k + i) c = true) (hs : allFrom p j s = true) : allFrom q k s = true := by
  rw [allFrom_iff] at hs ⊢
  exact fun i c hc => h i c (hs i c hc)
theorem nonEmpty_append {s : List UInt8} (t : List UInt8) (h : nonEmpty s = true) : nonEmpty (s ++ t) = true ∧ 0 < s.length := by
  cases s with
  | nil => cases h
  | cons c s => exact ⟨rfl, by simp⟩
theorem name_join {s t : List UInt8} (hs : isName s = true) (ht : isName t = true ∨ isDigits t = true) : isName (s ++ t) = true := by
  unfold isName isDigits at *
  simp only [Bool.and_eq_true] at *
  obtain ⟨h1, h2⟩ := nonEmpty_append t hs.2
  refine ⟨?_, h1⟩
  rw [allFrom_append, Bool.and_eq_true]
  refine ⟨hs.1, ?_⟩
  rcases ht with ht | ht
  · exact allFrom_imp (fun i c h => by unfold okName at *; simp at h ⊢; omega) ht.1
  · exact allFrom_imp (fun i c h => by unfold okName; unfold okDigit at h; simp at h ⊢; omega) ht.1
theorem plain_not {s t : List UInt8} {c : UInt8} (h3 : ¬ cls c = 3) (h4 : ¬ cls c = 4) (h8 : ¬ cls c = 8) : isPlain (s ++ [c] ++ t) = false := by
  unfold isPlain
  have : okPlain s.length c = false := by unfold okPlain; simp [*]
  rw [allFrom_append, allFrom_append]
  simp [allFrom, this]
theorem head_cls {s : List UInt8} {p : Nat → UInt8 → Bool} (h : allFrom p 0 s = true) (hp : ∀ c, p 0 c = true → cls c = 3 ∨ cls c = 4) : ¬ s.head? = some 35 := by
  intro e
  rw [head_idx] at e
  rw [allFrom_iff] at h
  have := hp 35 (h 0 35 e)
  have e8 : cls 35 = 8 := by decide +kernel
  omega
theorem plain_of {s : List UInt8} (h : isName s = true ∨ isDigits s = true) : isPlain s = true := by
  unfold isName isDigits isPlain at *
  simp only [Bool.and_eq_true, decide_eq_true_eq, ne_eq] at *
  rcases h with h | h
  · exact ⟨allFrom_imp (fun i c h => by unfold okName at h; unfold okPlain; simp at h ⊢; omega) h.1, h.2, head_cls h.1 fun c h => by unfold okName at h; simp at h; omega⟩
  · exact ⟨allFrom_imp (fun i c h => by unfold okDigit at h; unfold okPlain; simp at h ⊢; omega) h.1, h.2, head_cls h.1 fun c h => by unfold okDigit at h; simp at h; omega⟩
theorem plain_join {s t : List UInt8} (hs : isPlain s = true) (ht : isPlain t = true) : isPlain (s ++ t) = true := by
  unfold isPlain at *
  simp only [Bool.and_eq_true, decide_eq_true_eq, ne_eq] at *
  obtain ⟨h1, h2, h3⟩ := hs
  obtain ⟨k1, k2⟩ := nonEmpty_append t h2
  refine ⟨?_, k1, ?_⟩
  · rw [allFrom_append, Bool.and_eq_true]
    exact ⟨h1, allFrom_imp (fun i c h => by unfold okPlain at *; exact h) ht.1⟩
  · cases s with
    | nil => simp at k2
    | cons c s => exact h3
theorem no_eq {s : List UInt8} (h : isName s = true) {j : Nat} {d : UInt8} (hd : s[j]? = some d) : d ≠ 61 := by
  rintro rfl
  unfold isName at h
  rw [Bool.and_eq_true, allFrom_iff] at h
  have := h.1 j 61 hd
  have e8 : cls 61 = 8 := by decide +kernel
  unfold okName at this
  simp [e8] at this
/-- Behind a name, the sign is the first one. -/
theorem assign_name {s t : List UInt8} (h : isName s = true) : assignAt (s ++ [61] ++ t) = (s.length : Int) := by
  have hi : Lib.indexByte (s ++ [61] ++ t) 61 = (s.length : Int) := by
    refine idx_at (by simp) fun j d hj hd => no_eq h (j := j) ?_
    rw [List.append_assoc, List.getElem?_append_left hj] at hd
    exact hd
  unfold assignAt
  rw [hi, if_neg (by omega), Int.toNat_natCast]
  have : (s ++ [61] ++ t).take s.length = s := by simp
  rw [this, if_pos h]
/-- Else there is none, or it stands within the first text, behind a name. -/
theorem idx_append : ∀ {s t : List UInt8} {c : UInt8}, c ∈ s → Lib.indexByte (s ++ t) c = Lib.indexByte s c
  | [], t, c, h => by cases h
  | b :: s, t, c, h => by
    simp only [List.cons_append]
    unfold Lib.indexByte
    by_cases hb : b = c
    · rw [if_pos (by simpa using hb), if_pos (by simpa using hb)]
    · have hm : c ∈ s := by
        rcases List.mem_cons.1 h with e | e
        · exact absurd e.symm hb
        · exact e
      rw [idx_append hm]
theorem assign_else {s t : List UInt8} (h : isName s = false) : assignAt (s ++ [61] ++ t) = -1 ∨ ∃ k : Nat, assignAt (s ++ [61] ++ t) = (k : Int) ∧ k < s.length ∧ isName (s.take k) = true := by
  unfold assignAt
  by_cases hx : (61 : UInt8) ∈ s
  · rw [List.append_assoc, idx_append hx]
    rcases idx_cases s 61 with e | ⟨k, h1, h2, h3⟩
    · have := (idx_mem s 61).2 hx; omega
    · rw [h1, if_neg (by omega), Int.toNat_natCast]
      have ht : (s ++ ([61] ++ t)).take k = s.take k := by rw [List.take_append_of_le_length (by omega)]
      rw [ht]
      rcases Bool.eq_false_or_eq_true (isName (s.take k)) with hb | hb
      · right; exact ⟨k, by rw [if_pos hb], h2, hb⟩
      · left; rw [if_neg (by simp [hb])]
  · left
    have hi : Lib.indexByte (s ++ [61] ++ t) 61 = (s.length : Int) := by
      refine idx_at (by simp) fun j d hj hd => ?_
      rw [List.append_assoc, List.getElem?_append_left hj] at hd
      rintro rfl
      exact hx (List.mem_of_getElem? hd)
    rw [hi, if_neg (by omega), Int.toNat_natCast]
    have : (s ++ [61] ++ t).take s.length = s := by simp
    rw [this, if_neg (by simp [h])]

end Go.Proofs.Ytcbonfgkfiapaaa.Pv
