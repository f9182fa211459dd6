/- What the functions of package alias compute. -/
import Derived.Test.YtcbonfgkfiapaaaMapv
import Derived.Test.YtcbonfgkfiapaaaChar3
import Derived.Test.YtcbonfgkfiapaaaHere1
set_option linter.unusedVariables false
set_option linter.unusedSimpArgs false
set_option maxRecDepth 100000
set_option maxHeartbeats 40000000
namespace Go.Proofs.Ytcbonfgkfiapaaa.Pv
open Go Go.RowKit

theorem aliT : MapT Try.prog 128 9 9 := ⟨Try.underlying128, Try.underlying9, Try.underlying9, fun w => Try.zeroValue9 w⟩
abbrev AMap (n : Nat) (l : TMap) (o : MObj) : Prop := MapS Try.prog 9 9 n l o
def hasZero (s : Txt) : Bool := decide (0 ≤ Lib.indexByte s 0)
/-- What Set answers. -/
def setCode (s v : Txt) (l : TMap) : Int :=
  if isPlain s = false then 10 else if (24 : Int) < (s.length : Int) ∨ (200 : Int) < (v.length : Int) then 5 else if hasZero v = true then 2 else if getA s l = none ∧ (40 : Int) ≤ (l.length : Int) then 14 else 0

theorem aliNew_calls (S : Heap) : CallsA Try.prog 70 [] S (fun q S' => ∃ b, S b = none ∧ q = .ref [.omap b] ∧ S' = S.set b (.raw (.map #[] 0))) := by
  have hu := Try.underlying130
  refine CallsA_W (fun _ => false) Try.func70 rfl (Nat.le_of_ble_eq_true rfl) ?_
  simp only [Try.f70]
  (simp only [go_sem, reduceIte, Nat.reduceEqDiff, Nat.reduceLT, Nat.reduceLeDiff, Nat.reduceAdd, reduceCtorEq, Int.reduceToNat, Int.reduceLE, Int.reduceLT, Int.reduceNeg, Int.reduceEq, Int.reduceNe, Nat.reduceBEq, Nat.reduceMul, Nat.reducePow, Int.cast_ofNat_Int, *])
  refine OpW_of (OpA_makeMap rfl rfl fun b hb => ?_)
  (simp only [go_sem, reduceIte, Nat.reduceEqDiff, Nat.reduceLT, Nat.reduceLeDiff, Nat.reduceAdd, reduceCtorEq, Int.reduceToNat, Int.reduceLE, Int.reduceLT, Int.reduceNeg, Int.reduceEq, Int.reduceNe, Nat.reduceBEq, Nat.reduceMul, Nat.reducePow, Int.cast_ofNat_Int, *])
  exact ⟨b, hb, rfl, rfl⟩
theorem aliGet_calls (b n : Nat) (l : TMap) (ob : MObj) (s : Txt) (hs : s.length ≤ maxLen) (S : Heap) (hb : S b = some ob) (hl : AMap n l ob) : CallsQ Try.prog 76 [.ref [.omap b], .str s] S (.tup [.str ((getA s l).getD []), .bool (getA s l).isSome]) := by
  refine CallsA_W (fun _ => false) Try.func76 rfl (Nat.le_of_ble_eq_true rfl) ?_
  simp only [Try.f76]
  (simp only [go_sem, reduceIte, Nat.reduceEqDiff, Nat.reduceLT, Nat.reduceLeDiff, Nat.reduceAdd, reduceCtorEq, Int.reduceToNat, Int.reduceLE, Int.reduceLT, Int.reduceNeg, Int.reduceEq, Int.reduceNe, Nat.reduceBEq, Nat.reduceMul, Nat.reducePow, Int.cast_ofNat_Int, *])
  refine OpW_QV (QV_lookupOk rfl aliT rfl hb hl rfl hs) rfl ?_
  (simp only [go_sem, reduceIte, Nat.reduceEqDiff, Nat.reduceLT, Nat.reduceLeDiff, Nat.reduceAdd, reduceCtorEq, Int.reduceToNat, Int.reduceLE, Int.reduceLT, Int.reduceNeg, Int.reduceEq, Int.reduceNe, Nat.reduceBEq, Nat.reduceMul, Nat.reducePow, Int.cast_ofNat_Int, *])
theorem aliGet_nil (s : Txt) (S : Heap) : CallsQ Try.prog 76 [.nilp, .str s] S (.tup [.str [], .bool false]) := by
  refine CallsA_W (fun _ => false) Try.func76 rfl (Nat.le_of_ble_eq_true rfl) ?_
  simp only [Try.f76]
  (simp only [go_sem, reduceIte, Nat.reduceEqDiff, Nat.reduceLT, Nat.reduceLeDiff, Nat.reduceAdd, reduceCtorEq, Int.reduceToNat, Int.reduceLE, Int.reduceLT, Int.reduceNeg, Int.reduceEq, Int.reduceNe, Nat.reduceBEq, Nat.reduceMul, Nat.reducePow, Int.cast_ofNat_Int, *])
theorem aliLen_calls (b n : Nat) (l : TMap) (ob : MObj) (S : Heap) (hb : S b = some ob) (hl : AMap n l ob) : CallsQ Try.prog 78 [.ref [.omap b]] S (.int .i64 (l.length : Int)) := by
  refine CallsA_W (fun _ => false) Try.func78 rfl (Nat.le_of_ble_eq_true rfl) ?_
  simp only [Try.f78]
  (simp only [go_sem, reduceIte, Nat.reduceEqDiff, Nat.reduceLT, Nat.reduceLeDiff, Nat.reduceAdd, reduceCtorEq, Int.reduceToNat, Int.reduceLE, Int.reduceLT, Int.reduceNeg, Int.reduceEq, Int.reduceNe, Nat.reduceBEq, Nat.reduceMul, Nat.reducePow, Int.cast_ofNat_Int, *])
  refine OpW_QV (QV_mapLen rfl aliT rfl hb hl) rfl ?_
  (simp only [go_sem, reduceIte, Nat.reduceEqDiff, Nat.reduceLT, Nat.reduceLeDiff, Nat.reduceAdd, reduceCtorEq, Int.reduceToNat, Int.reduceLE, Int.reduceLT, Int.reduceNeg, Int.reduceEq, Int.reduceNe, Nat.reduceBEq, Nat.reduceMul, Nat.reducePow, Int.cast_ofNat_Int, *])
theorem aliLen_nil (S : Heap) : CallsQ Try.prog 78 [.nilp] S (.int .i64 0) := by
  refine CallsA_W (fun _ => false) Try.func78 rfl (Nat.le_of_ble_eq_true rfl) ?_
  simp only [Try.f78]
  (simp only [go_sem, reduceIte, Nat.reduceEqDiff, Nat.reduceLT, Nat.reduceLeDiff, Nat.reduceAdd, reduceCtorEq, Int.reduceToNat, Int.reduceLE, Int.reduceLT, Int.reduceNeg, Int.reduceEq, Int.reduceNe, Nat.reduceBEq, Nat.reduceMul, Nat.reducePow, Int.cast_ofNat_Int, *])
theorem aliUnset_calls (b n : Nat) (l : TMap) (ob : MObj) (s : Txt) (hs : s.length ≤ maxLen) (S : Heap) (hb : S b = some ob) (hl : AMap n l ob) : CallsA Try.prog 74 [.ref [.omap b], .str s] S
    (fun q S' => q = .bool (getA s l).isSome ∧ ((getA s l = none ∧ S' = S) ∨ (getA s l ≠ none ∧ ∃ ob', AMap n (delA s l) ob' ∧ S' = S.set b ob'))) := by
  have hg := aliGet_calls b n l ob s hs S hb hl
  refine CallsA_W (fun _ => false) Try.func74 rfl (Nat.le_of_ble_eq_true rfl) ?_
  simp only [Try.f74]
  cases hx : getA s l with
  | none =>
    rw [hx] at hg
    simp only [Option.isSome_none, Option.getD_none] at hg
    (simp only [go_sem, reduceIte, Nat.reduceEqDiff, Nat.reduceLT, Nat.reduceLeDiff, Nat.reduceAdd, reduceCtorEq, Int.reduceToNat, Int.reduceLE, Int.reduceLT, Int.reduceNeg, Int.reduceEq, Int.reduceNe, Nat.reduceBEq, Nat.reduceMul, Nat.reducePow, Int.cast_ofNat_Int, *])
    (repeat' first | ((first | refine split_d ?_ ?_ | refine split_gt rfl ?_ ?_ | refine split_gf rfl ?_ ?_ | refine split_b ?_ ?_ | refine split_gb rfl ?_ ?_) <;> intro _ <;> ((try simp only [go_sem, reduceIte, Nat.reduceEqDiff, Nat.reduceLT, Nat.reduceLeDiff, Nat.reduceAdd, reduceCtorEq, Int.reduceToNat, Int.reduceLE, Int.reduceLT, Int.reduceNeg, Int.reduceEq, Int.reduceNe, Nat.reduceBEq, Nat.reduceMul, Nat.reducePow, Int.cast_ofNat_Int, *]))) | ((first | (refine OpW_call rfl rfl call76 rfl ((hg).mono ?_)) | fail) <;> (rintro p_ S_ ⟨rfl, rfl⟩; (try simp only [go_sem, reduceIte, Nat.reduceEqDiff, Nat.reduceLT, Nat.reduceLeDiff, Nat.reduceAdd, reduceCtorEq, Int.reduceToNat, Int.reduceLE, Int.reduceLT, Int.reduceNeg, Int.reduceEq, Int.reduceNe, Nat.reduceBEq, Nat.reduceMul, Nat.reducePow, Int.cast_ofNat_Int, *]))) | fail)
    all_goals simp
  | some v =>
    rw [hx] at hg
    simp only [Option.isSome_some, Option.getD_some] at hg
    (simp only [go_sem, reduceIte, Nat.reduceEqDiff, Nat.reduceLT, Nat.reduceLeDiff, Nat.reduceAdd, reduceCtorEq, Int.reduceToNat, Int.reduceLE, Int.reduceLT, Int.reduceNeg, Int.reduceEq, Int.reduceNe, Nat.reduceBEq, Nat.reduceMul, Nat.reducePow, Int.cast_ofNat_Int, *])
    (repeat' first | ((first | refine split_d ?_ ?_ | refine split_gt rfl ?_ ?_ | refine split_gf rfl ?_ ?_ | refine split_b ?_ ?_ | refine split_gb rfl ?_ ?_) <;> intro _ <;> ((try simp only [go_sem, reduceIte, Nat.reduceEqDiff, Nat.reduceLT, Nat.reduceLeDiff, Nat.reduceAdd, reduceCtorEq, Int.reduceToNat, Int.reduceLE, Int.reduceLT, Int.reduceNeg, Int.reduceEq, Int.reduceNe, Nat.reduceBEq, Nat.reduceMul, Nat.reducePow, Int.cast_ofNat_Int, *]))) | ((first | (refine OpW_call rfl rfl call76 rfl ((hg).mono ?_)) | fail) <;> (rintro p_ S_ ⟨rfl, rfl⟩; (try simp only [go_sem, reduceIte, Nat.reduceEqDiff, Nat.reduceLT, Nat.reduceLeDiff, Nat.reduceAdd, reduceCtorEq, Int.reduceToNat, Int.reduceLE, Int.reduceLT, Int.reduceNeg, Int.reduceEq, Int.reduceNe, Nat.reduceBEq, Nat.reduceMul, Nat.reducePow, Int.cast_ofNat_Int, *]))) | fail)
    refine OpW_of (OpA_mapDelete rfl aliT rfl hb hl rfl hs rfl fun ob' h' => ?_)
    (simp only [go_sem, reduceIte, Nat.reduceEqDiff, Nat.reduceLT, Nat.reduceLeDiff, Nat.reduceAdd, reduceCtorEq, Int.reduceToNat, Int.reduceLE, Int.reduceLT, Int.reduceNeg, Int.reduceEq, Int.reduceNe, Nat.reduceBEq, Nat.reduceMul, Nat.reducePow, Int.cast_ofNat_Int, *])
    exact Or.inr ⟨by simp, ob', h', rfl⟩
theorem aliUnset_nil (s : Txt) (S : Heap) : CallsQ Try.prog 74 [.nilp, .str s] S (.bool false) := by
  have hg := aliGet_nil s S
  refine CallsA_W (fun _ => false) Try.func74 rfl (Nat.le_of_ble_eq_true rfl) ?_
  simp only [Try.f74]
  (simp only [go_sem, reduceIte, Nat.reduceEqDiff, Nat.reduceLT, Nat.reduceLeDiff, Nat.reduceAdd, reduceCtorEq, Int.reduceToNat, Int.reduceLE, Int.reduceLT, Int.reduceNeg, Int.reduceEq, Int.reduceNe, Nat.reduceBEq, Nat.reduceMul, Nat.reducePow, Int.cast_ofNat_Int, *])
  (repeat' first | ((first | refine split_d ?_ ?_ | refine split_gt rfl ?_ ?_ | refine split_gf rfl ?_ ?_ | refine split_b ?_ ?_ | refine split_gb rfl ?_ ?_) <;> intro _ <;> ((try simp only [go_sem, reduceIte, Nat.reduceEqDiff, Nat.reduceLT, Nat.reduceLeDiff, Nat.reduceAdd, reduceCtorEq, Int.reduceToNat, Int.reduceLE, Int.reduceLT, Int.reduceNeg, Int.reduceEq, Int.reduceNe, Nat.reduceBEq, Nat.reduceMul, Nat.reducePow, Int.cast_ofNat_Int, *]))) | ((first | (refine OpW_call rfl rfl call76 rfl ((hg).mono ?_)) | fail) <;> (rintro p_ S_ ⟨rfl, rfl⟩; (try simp only [go_sem, reduceIte, Nat.reduceEqDiff, Nat.reduceLT, Nat.reduceLeDiff, Nat.reduceAdd, reduceCtorEq, Int.reduceToNat, Int.reduceLE, Int.reduceLT, Int.reduceNeg, Int.reduceEq, Int.reduceNe, Nat.reduceBEq, Nat.reduceMul, Nat.reducePow, Int.cast_ofNat_Int, *]))) | fail)
theorem aliSet_nil (s v : Txt) (S : Heap) : CallsQ Try.prog 72 [.nilp, .str s, .str v] S (.int .i64 13) := by
  refine CallsA_W (fun _ => false) Try.func72 rfl (Nat.le_of_ble_eq_true rfl) ?_
  simp only [Try.f72]
  (simp only [go_sem, reduceIte, Nat.reduceEqDiff, Nat.reduceLT, Nat.reduceLeDiff, Nat.reduceAdd, reduceCtorEq, Int.reduceToNat, Int.reduceLE, Int.reduceLT, Int.reduceNeg, Int.reduceEq, Int.reduceNe, Nat.reduceBEq, Nat.reduceMul, Nat.reducePow, Int.cast_ofNat_Int, *])
theorem aliSet_calls (b n : Nat) (l : TMap) (ob : MObj) (s v : Txt) (hs : s.length ≤ 4611686018427387904) (hn : n < maxLen) (S : Heap) (hb : S b = some ob) (hl : AMap n l ob) : CallsA Try.prog 72 [.ref [.omap b], .str s, .str v] S
    (fun q S' => q = .int .i64 (setCode s v l) ∧ ((setCode s v l ≠ 0 ∧ S' = S) ∨ (setCode s v l = 0 ∧ ∃ ob', AMap (n + 1) (setA s v l) ob' ∧ S' = S.set b ob'))) := by
  have hp := plain_calls s hs
  have hc := contains_calls v 0
  have hml : (4611686018427387904 : Nat) ≤ maxLen := by decide
  generalize hcode : setCode s v l = code
  unfold setCode at hcode
  refine CallsA_W (fun _ => false) Try.func72 rfl (Nat.le_of_ble_eq_true rfl) ?_
  simp only [Try.f72]
  by_cases c1 : isPlain s = false
  · rw [if_pos c1] at hcode
    subst hcode
    (simp only [go_sem, reduceIte, Nat.reduceEqDiff, Nat.reduceLT, Nat.reduceLeDiff, Nat.reduceAdd, reduceCtorEq, Int.reduceToNat, Int.reduceLE, Int.reduceLT, Int.reduceNeg, Int.reduceEq, Int.reduceNe, Nat.reduceBEq, Nat.reduceMul, Nat.reducePow, Int.cast_ofNat_Int, *])
    (repeat' first | ((first | refine split_d ?_ ?_ | refine split_gt rfl ?_ ?_ | refine split_gf rfl ?_ ?_ | refine split_b ?_ ?_ | refine split_gb rfl ?_ ?_) <;> intro _ <;> ((try simp only [go_sem, reduceIte, Nat.reduceEqDiff, Nat.reduceLT, Nat.reduceLeDiff, Nat.reduceAdd, reduceCtorEq, Int.reduceToNat, Int.reduceLE, Int.reduceLT, Int.reduceNeg, Int.reduceEq, Int.reduceNe, Nat.reduceBEq, Nat.reduceMul, Nat.reducePow, Int.cast_ofNat_Int, *]))) | ((first | (refine OpW_call rfl rfl call27 rfl ((hp _).mono ?_)) | fail) <;> (rintro p_ S_ ⟨rfl, rfl⟩; (try simp only [go_sem, reduceIte, Nat.reduceEqDiff, Nat.reduceLT, Nat.reduceLeDiff, Nat.reduceAdd, reduceCtorEq, Int.reduceToNat, Int.reduceLE, Int.reduceLT, Int.reduceNeg, Int.reduceEq, Int.reduceNe, Nat.reduceBEq, Nat.reduceMul, Nat.reducePow, Int.cast_ofNat_Int, *]))) | fail)
    all_goals exact Or.inl trivial
  rw [if_neg c1] at hcode
  have c1' : isPlain s = true := by simpa using c1
  by_cases c2 : (24 : Int) < (s.length : Int) ∨ (200 : Int) < (v.length : Int)
  · rw [if_pos c2] at hcode
    subst hcode
    by_cases c2a : (24 : Int) < (s.length : Int)
    · (simp only [go_sem, reduceIte, Nat.reduceEqDiff, Nat.reduceLT, Nat.reduceLeDiff, Nat.reduceAdd, reduceCtorEq, Int.reduceToNat, Int.reduceLE, Int.reduceLT, Int.reduceNeg, Int.reduceEq, Int.reduceNe, Nat.reduceBEq, Nat.reduceMul, Nat.reducePow, Int.cast_ofNat_Int, *])
      (repeat' first | ((first | refine split_d ?_ ?_ | refine split_gt rfl ?_ ?_ | refine split_gf rfl ?_ ?_ | refine split_b ?_ ?_ | refine split_gb rfl ?_ ?_) <;> intro _ <;> ((try simp only [go_sem, reduceIte, Nat.reduceEqDiff, Nat.reduceLT, Nat.reduceLeDiff, Nat.reduceAdd, reduceCtorEq, Int.reduceToNat, Int.reduceLE, Int.reduceLT, Int.reduceNeg, Int.reduceEq, Int.reduceNe, Nat.reduceBEq, Nat.reduceMul, Nat.reducePow, Int.cast_ofNat_Int, *]))) | ((first | (refine OpW_call rfl rfl call27 rfl ((hp _).mono ?_)) | fail) <;> (rintro p_ S_ ⟨rfl, rfl⟩; (try simp only [go_sem, reduceIte, Nat.reduceEqDiff, Nat.reduceLT, Nat.reduceLeDiff, Nat.reduceAdd, reduceCtorEq, Int.reduceToNat, Int.reduceLE, Int.reduceLT, Int.reduceNeg, Int.reduceEq, Int.reduceNe, Nat.reduceBEq, Nat.reduceMul, Nat.reducePow, Int.cast_ofNat_Int, *]))) | fail)
      all_goals exact Or.inl trivial
    · have c2b : (200 : Int) < (v.length : Int) := by omega
      (simp only [go_sem, reduceIte, Nat.reduceEqDiff, Nat.reduceLT, Nat.reduceLeDiff, Nat.reduceAdd, reduceCtorEq, Int.reduceToNat, Int.reduceLE, Int.reduceLT, Int.reduceNeg, Int.reduceEq, Int.reduceNe, Nat.reduceBEq, Nat.reduceMul, Nat.reducePow, Int.cast_ofNat_Int, *])
      (repeat' first | ((first | refine split_d ?_ ?_ | refine split_gt rfl ?_ ?_ | refine split_gf rfl ?_ ?_ | refine split_b ?_ ?_ | refine split_gb rfl ?_ ?_) <;> intro _ <;> ((try simp only [go_sem, reduceIte, Nat.reduceEqDiff, Nat.reduceLT, Nat.reduceLeDiff, Nat.reduceAdd, reduceCtorEq, Int.reduceToNat, Int.reduceLE, Int.reduceLT, Int.reduceNeg, Int.reduceEq, Int.reduceNe, Nat.reduceBEq, Nat.reduceMul, Nat.reducePow, Int.cast_ofNat_Int, *]))) | ((first | (refine OpW_call rfl rfl call27 rfl ((hp _).mono ?_)) | fail) <;> (rintro p_ S_ ⟨rfl, rfl⟩; (try simp only [go_sem, reduceIte, Nat.reduceEqDiff, Nat.reduceLT, Nat.reduceLeDiff, Nat.reduceAdd, reduceCtorEq, Int.reduceToNat, Int.reduceLE, Int.reduceLT, Int.reduceNeg, Int.reduceEq, Int.reduceNe, Nat.reduceBEq, Nat.reduceMul, Nat.reducePow, Int.cast_ofNat_Int, *]))) | fail)
      all_goals exact Or.inl trivial
  rw [if_neg c2] at hcode
  have c2a : ¬ (24 : Int) < (s.length : Int) := by omega
  have c2b : ¬ (200 : Int) < (v.length : Int) := by omega
  have hvm : v.length ≤ maxLen := by omega
  clear c2
  unfold hasZero at hcode
  by_cases c3 : 0 ≤ Lib.indexByte v 0
  · rw [if_pos (by simpa using c3)] at hcode
    subst hcode
    (simp only [go_sem, reduceIte, Nat.reduceEqDiff, Nat.reduceLT, Nat.reduceLeDiff, Nat.reduceAdd, reduceCtorEq, Int.reduceToNat, Int.reduceLE, Int.reduceLT, Int.reduceNeg, Int.reduceEq, Int.reduceNe, Nat.reduceBEq, Nat.reduceMul, Nat.reducePow, Int.cast_ofNat_Int, *])
    (repeat' first | ((first | refine split_d ?_ ?_ | refine split_gt rfl ?_ ?_ | refine split_gf rfl ?_ ?_ | refine split_b ?_ ?_ | refine split_gb rfl ?_ ?_) <;> intro _ <;> ((try simp only [go_sem, reduceIte, Nat.reduceEqDiff, Nat.reduceLT, Nat.reduceLeDiff, Nat.reduceAdd, reduceCtorEq, Int.reduceToNat, Int.reduceLE, Int.reduceLT, Int.reduceNeg, Int.reduceEq, Int.reduceNe, Nat.reduceBEq, Nat.reduceMul, Nat.reducePow, Int.cast_ofNat_Int, *]))) | ((first | (refine OpW_call rfl rfl call27 rfl ((hp _).mono ?_)) | (refine OpW_call rfl rfl call102 rfl ((hc _).mono ?_)) | fail) <;> (rintro p_ S_ ⟨rfl, rfl⟩; (try simp only [go_sem, reduceIte, Nat.reduceEqDiff, Nat.reduceLT, Nat.reduceLeDiff, Nat.reduceAdd, reduceCtorEq, Int.reduceToNat, Int.reduceLE, Int.reduceLT, Int.reduceNeg, Int.reduceEq, Int.reduceNe, Nat.reduceBEq, Nat.reduceMul, Nat.reducePow, Int.cast_ofNat_Int, *]))) | fail)
    all_goals exact Or.inl trivial
  rw [if_neg (by simpa using c3)] at hcode
  by_cases c4 : getA s l = none
  · have hi : (getA s l).isSome = false := by rw [c4]; rfl
    by_cases c5 : (40 : Int) ≤ (l.length : Int)
    · rw [if_pos ⟨c4, c5⟩] at hcode
      subst hcode
      clear c4
      (simp only [go_sem, reduceIte, Nat.reduceEqDiff, Nat.reduceLT, Nat.reduceLeDiff, Nat.reduceAdd, reduceCtorEq, Int.reduceToNat, Int.reduceLE, Int.reduceLT, Int.reduceNeg, Int.reduceEq, Int.reduceNe, Nat.reduceBEq, Nat.reduceMul, Nat.reducePow, Int.cast_ofNat_Int, *])
      (repeat' first | ((first | refine split_d ?_ ?_ | refine split_gt rfl ?_ ?_ | refine split_gf rfl ?_ ?_ | refine split_b ?_ ?_ | refine split_gb rfl ?_ ?_) <;> intro _ <;> ((try simp only [go_sem, reduceIte, Nat.reduceEqDiff, Nat.reduceLT, Nat.reduceLeDiff, Nat.reduceAdd, reduceCtorEq, Int.reduceToNat, Int.reduceLE, Int.reduceLT, Int.reduceNeg, Int.reduceEq, Int.reduceNe, Nat.reduceBEq, Nat.reduceMul, Nat.reducePow, Int.cast_ofNat_Int, *]))) | ((first | (refine OpW_call rfl rfl call27 rfl ((hp _).mono ?_)) | (refine OpW_call rfl rfl call102 rfl ((hc _).mono ?_)) | fail) <;> (rintro p_ S_ ⟨rfl, rfl⟩; (try simp only [go_sem, reduceIte, Nat.reduceEqDiff, Nat.reduceLT, Nat.reduceLeDiff, Nat.reduceAdd, reduceCtorEq, Int.reduceToNat, Int.reduceLE, Int.reduceLT, Int.reduceNeg, Int.reduceEq, Int.reduceNe, Nat.reduceBEq, Nat.reduceMul, Nat.reducePow, Int.cast_ofNat_Int, *]))) | fail)
      refine OpW_QV (QV_lookupOk rfl aliT rfl hb hl rfl (by omega)) rfl ?_
      (simp only [go_sem, reduceIte, Nat.reduceEqDiff, Nat.reduceLT, Nat.reduceLeDiff, Nat.reduceAdd, reduceCtorEq, Int.reduceToNat, Int.reduceLE, Int.reduceLT, Int.reduceNeg, Int.reduceEq, Int.reduceNe, Nat.reduceBEq, Nat.reduceMul, Nat.reducePow, Int.cast_ofNat_Int, *])
      refine OpW_QV (QV_mapLen rfl aliT rfl hb hl) rfl ?_
      (simp only [go_sem, reduceIte, Nat.reduceEqDiff, Nat.reduceLT, Nat.reduceLeDiff, Nat.reduceAdd, reduceCtorEq, Int.reduceToNat, Int.reduceLE, Int.reduceLT, Int.reduceNeg, Int.reduceEq, Int.reduceNe, Nat.reduceBEq, Nat.reduceMul, Nat.reducePow, Int.cast_ofNat_Int, *])
      exact Or.inl trivial
    · rw [if_neg (fun h => c5 h.2)] at hcode
      subst hcode
      clear c4
      (simp only [go_sem, reduceIte, Nat.reduceEqDiff, Nat.reduceLT, Nat.reduceLeDiff, Nat.reduceAdd, reduceCtorEq, Int.reduceToNat, Int.reduceLE, Int.reduceLT, Int.reduceNeg, Int.reduceEq, Int.reduceNe, Nat.reduceBEq, Nat.reduceMul, Nat.reducePow, Int.cast_ofNat_Int, *])
      (repeat' first | ((first | refine split_d ?_ ?_ | refine split_gt rfl ?_ ?_ | refine split_gf rfl ?_ ?_ | refine split_b ?_ ?_ | refine split_gb rfl ?_ ?_) <;> intro _ <;> ((try simp only [go_sem, reduceIte, Nat.reduceEqDiff, Nat.reduceLT, Nat.reduceLeDiff, Nat.reduceAdd, reduceCtorEq, Int.reduceToNat, Int.reduceLE, Int.reduceLT, Int.reduceNeg, Int.reduceEq, Int.reduceNe, Nat.reduceBEq, Nat.reduceMul, Nat.reducePow, Int.cast_ofNat_Int, *]))) | ((first | (refine OpW_call rfl rfl call27 rfl ((hp _).mono ?_)) | (refine OpW_call rfl rfl call102 rfl ((hc _).mono ?_)) | fail) <;> (rintro p_ S_ ⟨rfl, rfl⟩; (try simp only [go_sem, reduceIte, Nat.reduceEqDiff, Nat.reduceLT, Nat.reduceLeDiff, Nat.reduceAdd, reduceCtorEq, Int.reduceToNat, Int.reduceLE, Int.reduceLT, Int.reduceNeg, Int.reduceEq, Int.reduceNe, Nat.reduceBEq, Nat.reduceMul, Nat.reducePow, Int.cast_ofNat_Int, *]))) | fail)
      refine OpW_QV (QV_lookupOk rfl aliT rfl hb hl rfl (by omega)) rfl ?_
      (simp only [go_sem, reduceIte, Nat.reduceEqDiff, Nat.reduceLT, Nat.reduceLeDiff, Nat.reduceAdd, reduceCtorEq, Int.reduceToNat, Int.reduceLE, Int.reduceLT, Int.reduceNeg, Int.reduceEq, Int.reduceNe, Nat.reduceBEq, Nat.reduceMul, Nat.reducePow, Int.cast_ofNat_Int, *])
      refine OpW_QV (QV_mapLen rfl aliT rfl hb hl) rfl ?_
      (simp only [go_sem, reduceIte, Nat.reduceEqDiff, Nat.reduceLT, Nat.reduceLeDiff, Nat.reduceAdd, reduceCtorEq, Int.reduceToNat, Int.reduceLE, Int.reduceLT, Int.reduceNeg, Int.reduceEq, Int.reduceNe, Nat.reduceBEq, Nat.reduceMul, Nat.reducePow, Int.cast_ofNat_Int, *])
      refine OpW_of (OpA_mapUpdate rfl aliT rfl hb hl rfl rfl (by omega) hvm hn rfl fun ob' h' => ?_)
      (simp only [go_sem, reduceIte, Nat.reduceEqDiff, Nat.reduceLT, Nat.reduceLeDiff, Nat.reduceAdd, reduceCtorEq, Int.reduceToNat, Int.reduceLE, Int.reduceLT, Int.reduceNeg, Int.reduceEq, Int.reduceNe, Nat.reduceBEq, Nat.reduceMul, Nat.reducePow, Int.cast_ofNat_Int, *])
      exact Or.inr ⟨ob', h', rfl⟩
  · obtain ⟨x, hx⟩ := Option.ne_none_iff_exists'.1 c4
    rw [if_neg (fun h => c4 h.1)] at hcode
    subst hcode
    have hi : (getA s l).isSome = true := by rw [hx]; rfl
    clear c4 hx
    (simp only [go_sem, reduceIte, Nat.reduceEqDiff, Nat.reduceLT, Nat.reduceLeDiff, Nat.reduceAdd, reduceCtorEq, Int.reduceToNat, Int.reduceLE, Int.reduceLT, Int.reduceNeg, Int.reduceEq, Int.reduceNe, Nat.reduceBEq, Nat.reduceMul, Nat.reducePow, Int.cast_ofNat_Int, *])
    (repeat' first | ((first | refine split_d ?_ ?_ | refine split_gt rfl ?_ ?_ | refine split_gf rfl ?_ ?_ | refine split_b ?_ ?_ | refine split_gb rfl ?_ ?_) <;> intro _ <;> ((try simp only [go_sem, reduceIte, Nat.reduceEqDiff, Nat.reduceLT, Nat.reduceLeDiff, Nat.reduceAdd, reduceCtorEq, Int.reduceToNat, Int.reduceLE, Int.reduceLT, Int.reduceNeg, Int.reduceEq, Int.reduceNe, Nat.reduceBEq, Nat.reduceMul, Nat.reducePow, Int.cast_ofNat_Int, *]))) | ((first | (refine OpW_call rfl rfl call27 rfl ((hp _).mono ?_)) | (refine OpW_call rfl rfl call102 rfl ((hc _).mono ?_)) | fail) <;> (rintro p_ S_ ⟨rfl, rfl⟩; (try simp only [go_sem, reduceIte, Nat.reduceEqDiff, Nat.reduceLT, Nat.reduceLeDiff, Nat.reduceAdd, reduceCtorEq, Int.reduceToNat, Int.reduceLE, Int.reduceLT, Int.reduceNeg, Int.reduceEq, Int.reduceNe, Nat.reduceBEq, Nat.reduceMul, Nat.reducePow, Int.cast_ofNat_Int, *]))) | fail)
    refine OpW_QV (QV_lookupOk rfl aliT rfl hb hl rfl (by omega)) rfl ?_
    (simp only [go_sem, reduceIte, Nat.reduceEqDiff, Nat.reduceLT, Nat.reduceLeDiff, Nat.reduceAdd, reduceCtorEq, Int.reduceToNat, Int.reduceLE, Int.reduceLT, Int.reduceNeg, Int.reduceEq, Int.reduceNe, Nat.reduceBEq, Nat.reduceMul, Nat.reducePow, Int.cast_ofNat_Int, *])
    refine OpW_of (OpA_mapUpdate rfl aliT rfl hb hl rfl rfl (by omega) hvm hn rfl fun ob' h' => ?_)
    (simp only [go_sem, reduceIte, Nat.reduceEqDiff, Nat.reduceLT, Nat.reduceLeDiff, Nat.reduceAdd, reduceCtorEq, Int.reduceToNat, Int.reduceLE, Int.reduceLT, Int.reduceNeg, Int.reduceEq, Int.reduceNe, Nat.reduceBEq, Nat.reduceMul, Nat.reducePow, Int.cast_ofNat_Int, *])
    exact Or.inr ⟨ob', h', rfl⟩
theorem aliSuffix_calls (s p : List UInt8) (hs : s.length ≤ 9223372036854775807) (S : Heap) : CallsQ Try.prog 122 [.str s, .str p] S (.bool (Lib.hasSuffix s p)) := by
  refine CallsQ_below fun w args hv hh => ?_
  rw [args_str2 hv]
  refine (Try.strings_HasSuffix ⟨s.toArray⟩ ⟨p.toArray⟩ w (by simpa [ByteArray.size] using hs)).mono ?_
  rintro e w' ⟨rfl, rfl⟩
  exact ⟨_, rfl, by simp only [Rep], Below.refl _ _⟩
theorem aliBlank_calls (s : Txt) (hs : s.length ≤ 9223372036854775807) (S : Heap) : CallsQ Try.prog 82 [.str s] S (.bool (Lib.hasSuffix s [32] || Lib.hasSuffix s [9])) := by
  have h1 := aliSuffix_calls s [32] hs
  have h2 := aliSuffix_calls s [9] hs
  refine CallsA_W (fun _ => false) Try.func82 rfl (Nat.le_of_ble_eq_true rfl) ?_
  simp only [Try.f82]
  cases hx : Lib.hasSuffix s [32] with
  | true =>
    rw [hx] at h1
    (simp only [go_sem, reduceIte, Nat.reduceEqDiff, Nat.reduceLT, Nat.reduceLeDiff, Nat.reduceAdd, reduceCtorEq, Int.reduceToNat, Int.reduceLE, Int.reduceLT, Int.reduceNeg, Int.reduceEq, Int.reduceNe, Nat.reduceBEq, Nat.reduceMul, Nat.reducePow, Int.cast_ofNat_Int, *])
    (repeat' first | ((first | refine split_d ?_ ?_ | refine split_gt rfl ?_ ?_ | refine split_gf rfl ?_ ?_ | refine split_b ?_ ?_ | refine split_gb rfl ?_ ?_) <;> intro _ <;> ((try simp only [go_sem, reduceIte, Nat.reduceEqDiff, Nat.reduceLT, Nat.reduceLeDiff, Nat.reduceAdd, reduceCtorEq, Int.reduceToNat, Int.reduceLE, Int.reduceLT, Int.reduceNeg, Int.reduceEq, Int.reduceNe, Nat.reduceBEq, Nat.reduceMul, Nat.reducePow, Int.cast_ofNat_Int, *]))) | ((first | (refine OpW_call rfl rfl call122 rfl ((h1 _).mono ?_)) | (refine OpW_call rfl rfl call122 rfl ((h2 _).mono ?_)) | fail) <;> (rintro p_ S_ ⟨rfl, rfl⟩; (try simp only [go_sem, reduceIte, Nat.reduceEqDiff, Nat.reduceLT, Nat.reduceLeDiff, Nat.reduceAdd, reduceCtorEq, Int.reduceToNat, Int.reduceLE, Int.reduceLT, Int.reduceNeg, Int.reduceEq, Int.reduceNe, Nat.reduceBEq, Nat.reduceMul, Nat.reducePow, Int.cast_ofNat_Int, *]))) | fail)
    all_goals simp
  | false =>
    rw [hx] at h1
    (simp only [go_sem, reduceIte, Nat.reduceEqDiff, Nat.reduceLT, Nat.reduceLeDiff, Nat.reduceAdd, reduceCtorEq, Int.reduceToNat, Int.reduceLE, Int.reduceLT, Int.reduceNeg, Int.reduceEq, Int.reduceNe, Nat.reduceBEq, Nat.reduceMul, Nat.reducePow, Int.cast_ofNat_Int, *])
    (repeat' first | ((first | refine split_d ?_ ?_ | refine split_gt rfl ?_ ?_ | refine split_gf rfl ?_ ?_ | refine split_b ?_ ?_ | refine split_gb rfl ?_ ?_) <;> intro _ <;> ((try simp only [go_sem, reduceIte, Nat.reduceEqDiff, Nat.reduceLT, Nat.reduceLeDiff, Nat.reduceAdd, reduceCtorEq, Int.reduceToNat, Int.reduceLE, Int.reduceLT, Int.reduceNeg, Int.reduceEq, Int.reduceNe, Nat.reduceBEq, Nat.reduceMul, Nat.reducePow, Int.cast_ofNat_Int, *]))) | ((first | (refine OpW_call rfl rfl call122 rfl ((h1 _).mono ?_)) | (refine OpW_call rfl rfl call122 rfl ((h2 _).mono ?_)) | fail) <;> (rintro p_ S_ ⟨rfl, rfl⟩; (try simp only [go_sem, reduceIte, Nat.reduceEqDiff, Nat.reduceLT, Nat.reduceLeDiff, Nat.reduceAdd, reduceCtorEq, Int.reduceToNat, Int.reduceLE, Int.reduceLT, Int.reduceNeg, Int.reduceEq, Int.reduceNe, Nat.reduceBEq, Nat.reduceMul, Nat.reducePow, Int.cast_ofNat_Int, *]))) | fail)
    all_goals simp
end Go.Proofs.Ytcbonfgkfiapaaa.Pv
