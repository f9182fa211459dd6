/- What the functions of package char compute. What the reference's Class computes. What the other functions of package char compute: signs. -/
import Derived.Test.YtcbonfgkfiapaaaTy
import Derived.Lib.Bytealg
/-! What the functions of package char compute. -/
set_option linter.unusedVariables false
set_option linter.unusedSimpArgs false
namespace Go.Proofs.Ytcbonfgkfiapaaa.Pv
open Go Go.RowKit

def letterS (c : Int) : Int :=
  if 48 ≤ c ∧ c ≤ 57 then 3 else if c = 95 then 4
  else if 97 ≤ orI .u8 c 32 ∧ orI .u8 c 32 ≤ 122 then 4 else 8
theorem letter_calls (c : Int) (S : Heap) : CallsQ Try.prog 83 [.int .u8 c] S (.int .i64 (letterS c)) := by
  refine CallsA_W (fun _ => false) Try.func83 rfl (Nat.le_of_ble_eq_true rfl) ?_
  simp only [Try.f83]
  (simp only [go_sem, reduceIte, Nat.reduceEqDiff, Nat.reduceLT, Nat.reduceLeDiff, Nat.reduceAdd, reduceCtorEq, Int.reduceToNat, Int.reduceLE, Int.reduceLT, Int.reduceNeg, *])
  (repeat' ((first | refine split_d ?_ ?_ | refine split_gt rfl ?_ ?_ | refine split_gf rfl ?_ ?_ | refine split_b ?_ ?_ | refine split_gb rfl ?_ ?_) <;> intro _ <;> ((try simp only [go_sem, reduceIte, Nat.reduceEqDiff, Nat.reduceLT, Nat.reduceLeDiff, Nat.reduceAdd, reduceCtorEq, Int.reduceToNat, Int.reduceLE, Int.reduceLT, Int.reduceNeg, *]))))
  all_goals (refine congrArg (PV.int .i64) ?_; unfold letterS; (repeat' split) <;> omega)

/-- The class of a byte. -/
def clsI (c : Int) : Int :=
  if c = 0 then 0 else if c = 32 ∨ c = 9 then 1 else if c = 10 then 2 else if 48 ≤ c ∧ c ≤ 57 then 3
  else if (97 ≤ c ∧ c ≤ 122) ∨ (65 ≤ c ∧ c ≤ 90) ∨ c = 95 then 4
  else if c = 38 ∨ c = 124 ∨ c = 59 ∨ c = 60 ∨ c = 62 ∨ c = 40 ∨ c = 41 then 5
  else if c = 39 ∨ c = 34 ∨ c = 92 ∨ c = 96 then 6 else if c = 36 then 7 else 8
def cls (b : UInt8) : Int := clsI (b.toNat : Int)
theorem letter_cls (c : Int) (h0 : 0 ≤ c) (h1 : c < 256) (h : ¬ (c = 0 ∨ c = 32 ∨ c = 9 ∨ c = 10 ∨ c = 38 ∨ c = 124 ∨ c = 59 ∨ c = 60 ∨ c = 62 ∨ c = 40 ∨ c = 41 ∨ c = 39 ∨ c = 34 ∨ c = 92 ∨ c = 96 ∨ c = 36)) : letterS c = clsI c := by
  have key : ∀ n : Fin 256, (¬ ((n.val : Int) = 0 ∨ (n.val : Int) = 32 ∨ (n.val : Int) = 9 ∨ (n.val : Int) = 10 ∨ (n.val : Int) = 38 ∨ (n.val : Int) = 124 ∨ (n.val : Int) = 59 ∨ (n.val : Int) = 60 ∨ (n.val : Int) = 62 ∨ (n.val : Int) = 40 ∨ (n.val : Int) = 41 ∨ (n.val : Int) = 39 ∨ (n.val : Int) = 34 ∨ (n.val : Int) = 92 ∨ (n.val : Int) = 96 ∨ (n.val : Int) = 36)) → letterS (n.val : Int) = clsI (n.val : Int) := by decide +kernel
  have := key ⟨c.toNat, by omega⟩
  simp only [Int.toNat_of_nonneg h0] at this
  exact this h

set_option maxRecDepth 100000 in
set_option maxHeartbeats 4000000 in
theorem class_calls (c : UInt8) (S : Heap) : CallsQ Try.prog 19 [.int .u8 (c.toNat : Int)] S (.int .i64 (cls c)) := by
  have h0 : (0 : Int) ≤ (c.toNat : Int) := by omega
  have h1 : (c.toNat : Int) < 256 := by have := c.toNat_lt; omega
  unfold cls
  generalize (c.toNat : Int) = c at *
  refine CallsA_W (fun _ => false) Try.func19 rfl (Nat.le_of_ble_eq_true rfl) ?_
  simp only [Try.f19]
  (simp only [go_sem, reduceIte, Nat.reduceEqDiff, Nat.reduceLT, Nat.reduceLeDiff, Nat.reduceAdd, reduceCtorEq, Int.reduceToNat, Int.reduceLE, Int.reduceLT, Int.reduceNeg, *])
  (repeat' ((first | refine split_d ?_ ?_ | refine split_gt rfl ?_ ?_ | refine split_gf rfl ?_ ?_ | refine split_b ?_ ?_ | refine split_gb rfl ?_ ?_) <;> intro _ <;> ((try simp only [go_sem, reduceIte, Nat.reduceEqDiff, Nat.reduceLT, Nat.reduceLeDiff, Nat.reduceAdd, reduceCtorEq, Int.reduceToNat, Int.reduceLE, Int.reduceLT, Int.reduceNeg, *]))))
  all_goals try (refine congrArg (PV.int .i64) ?_; unfold clsI; (repeat' split) <;> omega)
  refine OpW_call rfl rfl call83 rfl ((letter_calls _ _).mono ?_)
  rintro p S' ⟨rfl, rfl⟩
  (simp only [go_sem, reduceIte, Nat.reduceEqDiff, Nat.reduceLT, Nat.reduceLeDiff, Nat.reduceAdd, reduceCtorEq, Int.reduceToNat, Int.reduceLE, Int.reduceLT, Int.reduceNeg, *])
  refine congrArg (PV.int .i64) ?_
  exact letter_cls _ h0 h1 (by omega)

end Go.Proofs.Ytcbonfgkfiapaaa.Pv

/-! What the reference's Class computes. -/
set_option linter.unusedVariables false
set_option linter.unusedSimpArgs false
namespace Go.Proofs.Ytcbonfgkfiapaaa.Pv
open Go Go.RowKit

set_option maxRecDepth 100000 in
set_option maxHeartbeats 40000000 in
theorem refClass_calls (c : UInt8) (S : Heap) : CallsQ Try.prog 20 [.int .u8 (c.toNat : Int)] S (.int .i64 (cls c)) := by
  have h0 : (0 : Int) ≤ (c.toNat : Int) := by omega
  have h1 : (c.toNat : Int) < 256 := by have := c.toNat_lt; omega
  unfold cls
  generalize (c.toNat : Int) = c at *
  refine CallsA_W (fun _ => false) Try.func20 rfl (Nat.le_of_ble_eq_true rfl) ?_
  simp only [Try.f20]
  (simp only [go_sem, reduceIte, Nat.reduceEqDiff, Nat.reduceLT, Nat.reduceLeDiff, Nat.reduceAdd, reduceCtorEq, Int.reduceToNat, Int.reduceLE, Int.reduceLT, Int.reduceNeg, *])
  (repeat' ((first | refine split_d ?_ ?_ | refine split_gt rfl ?_ ?_ | refine split_gf rfl ?_ ?_ | refine split_b ?_ ?_ | refine split_gb rfl ?_ ?_) <;> intro _ <;> (first | (exfalso; omega) | (try simp only [go_sem, reduceIte, Nat.reduceEqDiff, Nat.reduceLT, Nat.reduceLeDiff, Nat.reduceAdd, reduceCtorEq, Int.reduceToNat, Int.reduceLE, Int.reduceLT, Int.reduceNeg, *]))))
  all_goals (refine congrArg (PV.int .i64) ?_; unfold clsI; (repeat' split) <;> omega)

end Go.Proofs.Ytcbonfgkfiapaaa.Pv

/-! What the other functions of package char compute: signs. -/
set_option linter.unusedVariables false
set_option linter.unusedSimpArgs false
set_option maxRecDepth 100000
set_option maxHeartbeats 4000000
namespace Go.Proofs.Ytcbonfgkfiapaaa.Pv
open Go Go.RowKit

/-! strings.IndexByte -/
theorem indexByteString_run (w : World) (l : List UInt8) (c : UInt8) : (callFunc 148 #[.string ⟨l.toArray⟩, .int .u8 (c.toNat : Int)]).run Try.prog w = .ok (.value (.int .i64 (Lib.indexByte l c))) w := by
  have h1 : Extern.findNext Try.f148 = none := by kernel_rfl
  have h2 : Extern.find Try.f148 = some Extern.BytealgIndexByte.indexByte := by kernel_rfl
  have h3 := Lib.run_indexByteString (P := Try.prog) ⟨l.toArray⟩ (c.toNat : Int) w
  have h4 : ((c.toNat : Int).toNat.toUInt8) = c := by simp
  rw [h4] at h3
  simp only [callFunc, Sem.run_bind, run_program, Result.andThen_ok, Try.func148]
  rw [if_neg (by decide +kernel), if_pos (by decide +kernel)]
  simp only [Sem.run_bind, run_mark, Result.andThen_ok, h1, h2, h3, Sem.run_pure]
theorem slIndexByte_calls (l : List UInt8) (c : UInt8) (S : Heap) : CallsQ Try.prog 123 [.str l, .int .u8 (c.toNat : Int)] S (.int .i64 (Lib.indexByte l c)) := by
  refine CallsA_W (fun _ => false) Try.func123 rfl (Nat.le_of_ble_eq_true rfl) ?_
  simp only [Try.f123]
  (simp only [go_sem, reduceIte, Nat.reduceEqDiff, Nat.reduceLT, Nat.reduceLeDiff, Nat.reduceAdd, reduceCtorEq, Int.reduceToNat, Int.reduceLE, Int.reduceLT, Int.reduceNeg, *])
  refine OpW_run (p := .int .i64 (Lib.indexByte l c)) rfl (fun w a hs => ?_) ?_
  · have e5 := hs.regs 5
    have e6 := hs.regs 6
    simp only [go_sem, reduceIte, Nat.reduceEqDiff, Nat.reduceLT, Nat.reduceLeDiff, Nat.reduceAdd, reduceCtorEq, Int.reduceToNat, Int.reduceLE, Int.reduceLT, Int.reduceNeg, Rep] at e5 e6
    refine ⟨.int .i64 (Lib.indexByte l c), ?_, by simp only [Rep]⟩
    simp only [execOp, resolve, Sem.run_bind, Act.eval, Deferred.ofValue, Sem.run_pure, Result.andThen_ok, invoke]
    simp [Act.eval, e5, e6]
    exact indexByteString_run w l c
  · (simp only [go_sem, reduceIte, Nat.reduceEqDiff, Nat.reduceLT, Nat.reduceLeDiff, Nat.reduceAdd, reduceCtorEq, Int.reduceToNat, Int.reduceLE, Int.reduceLT, Int.reduceNeg, *])
theorem indexByte_calls (l : List UInt8) (c : UInt8) (S : Heap) : CallsQ Try.prog 84 [.str l, .int .u8 (c.toNat : Int)] S (.int .i64 (Lib.indexByte l c)) := by
  refine CallsA_W (fun _ => false) Try.func84 rfl (Nat.le_of_ble_eq_true rfl) ?_
  simp only [Try.f84]
  (simp only [go_sem, reduceIte, Nat.reduceEqDiff, Nat.reduceLT, Nat.reduceLeDiff, Nat.reduceAdd, reduceCtorEq, Int.reduceToNat, Int.reduceLE, Int.reduceLT, Int.reduceNeg, *])
  refine OpW_call rfl rfl call123 rfl ((slIndexByte_calls l c _).mono ?_)
  rintro p S' ⟨rfl, rfl⟩
  (simp only [go_sem, reduceIte, Nat.reduceEqDiff, Nat.reduceLT, Nat.reduceLeDiff, Nat.reduceAdd, reduceCtorEq, Int.reduceToNat, Int.reduceLE, Int.reduceLT, Int.reduceNeg, *])

/-! Special -/
def isSpecial (c : UInt8) : Bool := decide (0 ≤ Lib.indexByte [64, 42, 35, 63, 45, 36, 33] c)
theorem idx_mem : ∀ (l : List UInt8) (c : UInt8), (0 ≤ Lib.indexByte l c) ↔ c ∈ l
  | [], c => by simp [Lib.indexByte]
  | b :: l, c => by
    have ih := idx_mem l c
    have hge := Lib.indexByte_ge l c
    unfold Lib.indexByte
    by_cases e : b = c
    · simp [e]
    · have e' : (b == c) = false := by simpa using e
      rw [if_neg (by simp [e'])]
      have e'' : ¬ c = b := fun h => e h.symm
      simp only [List.mem_cons, e'', false_or]
      rw [← ih]
      split
      · rename_i h; have h := eq_of_beq h; omega
      · rename_i h; have h : ¬ Lib.indexByte l c = -1 := fun h' => h (by simp [h']); omega
theorem isSpecial_iff (c : UInt8) : isSpecial c = true ↔ ((c.toNat : Int) = 64 ∨ (c.toNat : Int) = 42 ∨ (c.toNat : Int) = 35 ∨ (c.toNat : Int) = 63 ∨ (c.toNat : Int) = 45 ∨ (c.toNat : Int) = 36 ∨ (c.toNat : Int) = 33) := by
  unfold isSpecial
  rw [decide_eq_true_eq, idx_mem]
  simp only [List.mem_cons, ← UInt8.toNat_inj, List.not_mem_nil, or_false]
  have e : ∀ k : UInt8, (c.toNat = k.toNat) ↔ ((c.toNat : Int) = (k.toNat : Int)) := fun k => by omega
  simp only [e]
  exact Iff.rfl
theorem special_calls (c : UInt8) (S : Heap) : CallsQ Try.prog 21 [.int .u8 (c.toNat : Int)] S (.bool (isSpecial c)) := by
  refine CallsA_W (fun _ => false) Try.func21 rfl (Nat.le_of_ble_eq_true rfl) ?_
  simp only [Try.f21]
  (simp only [go_sem, reduceIte, Nat.reduceEqDiff, Nat.reduceLT, Nat.reduceLeDiff, Nat.reduceAdd, reduceCtorEq, Int.reduceToNat, Int.reduceLE, Int.reduceLT, Int.reduceNeg, *])
  refine OpW_call rfl rfl call84 rfl ((indexByte_calls [64, 42, 35, 63, 45, 36, 33] c _).mono ?_)
  rintro p S' ⟨rfl, rfl⟩
  (simp only [go_sem, reduceIte, Nat.reduceEqDiff, Nat.reduceLT, Nat.reduceLeDiff, Nat.reduceAdd, reduceCtorEq, Int.reduceToNat, Int.reduceLE, Int.reduceLT, Int.reduceNeg, *])
  rfl
theorem refSpecial_calls (c : UInt8) (S : Heap) : CallsQ Try.prog 22 [.int .u8 (c.toNat : Int)] S (.bool (isSpecial c)) := by
  refine CallsA_W (fun _ => false) Try.func22 rfl (Nat.le_of_ble_eq_true rfl) ?_
  simp only [Try.f22]
  (simp only [go_sem, reduceIte, Nat.reduceEqDiff, Nat.reduceLT, Nat.reduceLeDiff, Nat.reduceAdd, reduceCtorEq, Int.reduceToNat, Int.reduceLE, Int.reduceLT, Int.reduceNeg, *])
  (repeat' ((first | refine split_d ?_ ?_ | refine split_gt rfl ?_ ?_ | refine split_gf rfl ?_ ?_ | refine split_b ?_ ?_ | refine split_gb rfl ?_ ?_) <;> intro _ <;> ((try simp only [go_sem, reduceIte, Nat.reduceEqDiff, Nat.reduceLT, Nat.reduceLeDiff, Nat.reduceAdd, reduceCtorEq, Int.reduceToNat, Int.reduceLE, Int.reduceLT, Int.reduceNeg, *]))))
  all_goals (refine congrArg PV.bool ?_; rw [Bool.eq_iff_iff, isSpecial_iff]; simp only [decide_eq_true_eq, true_iff]; omega)

end Go.Proofs.Ytcbonfgkfiapaaa.Pv
