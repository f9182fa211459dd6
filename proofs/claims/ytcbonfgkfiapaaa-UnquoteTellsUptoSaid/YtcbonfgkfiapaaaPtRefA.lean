/- What the reference of package part computes: signs and texts. What the reference of package part computes: texts, operators, parts. When parts are right at a place. -/
import Derived.Test.YtcbonfgkfiapaaaTree
import Derived.Test.YtcbonfgkfiapaaaChar3
/-! What the reference of package part computes: signs and texts. -/
set_option linter.unusedVariables false
set_option linter.unusedSimpArgs false
set_option maxRecDepth 100000
set_option maxHeartbeats 4000000
namespace Go.Proofs.Ytcbonfgkfiapaaa.Pv
open Go Go.RowKit

attribute [go_sem] prows_len prows_get row_eq
/-- A fact that simp does not look into. -/
structure Keep (p : Prop) : Prop where
  of : p
theorem wrap1 {i n : Nat} (h : i < n) (hn : n ≤ 4611686018427387904) : IntKind.i64.wrap ((i : Int) + 1) = ((i + 1 : Nat) : Int) := by
  rw [wrap_in (by omega)]; rfl

def dolOk (c : UInt8) : Bool := decide (¬ cls c = 4) && (decide (¬ cls c = 3) && (!isSpecial c && (decide (¬ (c.toNat : Int) = 123) && decide (¬ (c.toNat : Int) = 40))))
theorem dollar_calls (c : UInt8) (S : Heap) : CallsQ Try.prog 170 [.int .u8 (c.toNat : Int)] S (.bool (dolOk c)) := by
  refine CallsA_W (fun _ => false) Try.func170 rfl (Nat.le_of_ble_eq_true rfl) ?_
  simp only [Try.f170]
  (simp only [go_sem, reduceIte, Nat.reduceEqDiff, Nat.reduceLT, Nat.reduceLeDiff, Nat.reduceAdd, reduceCtorEq, Int.reduceToNat, Int.reduceLE, Int.reduceLT, Int.reduceNeg, Int.reduceEq, Int.reduceNe, Nat.reduceBEq, Nat.reduceMul, Nat.reducePow, *])
  (repeat' first | ((first | refine split_d ?_ ?_ | refine split_gt rfl ?_ ?_ | refine split_gf rfl ?_ ?_ | refine split_b ?_ ?_ | refine split_gb rfl ?_ ?_) <;> intro _ <;> ((try simp only [go_sem, reduceIte, Nat.reduceEqDiff, Nat.reduceLT, Nat.reduceLeDiff, Nat.reduceAdd, reduceCtorEq, Int.reduceToNat, Int.reduceLE, Int.reduceLT, Int.reduceNeg, Int.reduceEq, Int.reduceNe, Nat.reduceBEq, Nat.reduceMul, Nat.reducePow, *]))) | ((first | (refine OpW_call rfl rfl call20 rfl ((refClass_calls _ _).mono ?_)) | (refine OpW_call rfl rfl call22 rfl ((refSpecial_calls _ _).mono ?_)) | fail) <;> (rintro p_ S_ ⟨rfl, rfl⟩; (try simp only [go_sem, reduceIte, Nat.reduceEqDiff, Nat.reduceLT, Nat.reduceLeDiff, Nat.reduceAdd, reduceCtorEq, Int.reduceToNat, Int.reduceLE, Int.reduceLT, Int.reduceNeg, Int.reduceEq, Int.reduceNe, Nat.reduceBEq, Nat.reduceMul, Nat.reducePow, *]))) | fail)
  all_goals first | rfl | (unfold dolOk; simp [*])
def quotb (c : UInt8) : Bool := decide ((c.toNat : Int) = 36) || (decide ((c.toNat : Int) = 96) || (decide ((c.toNat : Int) = 34) || decide ((c.toNat : Int) = 92)))
theorem special24_calls (c : UInt8) (S : Heap) : CallsQ Try.prog 150 [.int .u8 (c.toNat : Int)] S (.bool (quotb c)) := by
  refine CallsA_W (fun _ => false) Try.func150 rfl (Nat.le_of_ble_eq_true rfl) ?_
  simp only [Try.f150]
  (simp only [go_sem, reduceIte, Nat.reduceEqDiff, Nat.reduceLT, Nat.reduceLeDiff, Nat.reduceAdd, reduceCtorEq, Int.reduceToNat, Int.reduceLE, Int.reduceLT, Int.reduceNeg, Int.reduceEq, Int.reduceNe, Nat.reduceBEq, Nat.reduceMul, Nat.reducePow, *])
  (repeat' first | ((first | refine split_d ?_ ?_ | refine split_gt rfl ?_ ?_ | refine split_gf rfl ?_ ?_ | refine split_b ?_ ?_ | refine split_gb rfl ?_ ?_) <;> intro _ <;> ((try simp only [go_sem, reduceIte, Nat.reduceEqDiff, Nat.reduceLT, Nat.reduceLeDiff, Nat.reduceAdd, reduceCtorEq, Int.reduceToNat, Int.reduceLE, Int.reduceLT, Int.reduceNeg, Int.reduceEq, Int.reduceNe, Nat.reduceBEq, Nat.reduceMul, Nat.reducePow, *]))) | fail)
  all_goals first | rfl | (unfold quotb; simp [*])

/-! literal -/
def nxBad : Option UInt8 → Bool
  | none => false
  | some d => !dolOk d
def nxQ : Option UInt8 → Bool
  | none => true
  | some d => quotb d || decide ((d.toNat : Int) = 10)
def okLit (pl : Int) (c : UInt8) (nx : Option UInt8) : Bool :=
  if cls c = 0 then false
  else if (c.toNat : Int) = 36 ∧ nxBad nx = true then false
  else if pl = 0 ∧ ¬ cls c = 3 ∧ ¬ cls c = 4 ∧ ¬ cls c = 8 ∧ ¬ cls c = 7 then false
  else if pl = 2 ∧ ((c.toNat : Int) = 125 ∨ cls c = 6) then false
  else if pl = 1 ∧ ((c.toNat : Int) = 34 ∨ (c.toNat : Int) = 96) then false
  else if pl = 1 ∧ (c.toNat : Int) = 92 ∧ nxQ nx = true then false
  else true
def litFrom (pl : Int) : List UInt8 → Bool
  | [] => true
  | c :: r => okLit pl c r.head? && litFrom pl r
def isLit (pl : Int) (s : List UInt8) : Bool := litFrom pl s && nonEmpty s
theorem drop_at {α : Type} {s : List α} {i : Nat} {c : α} (h : s[i]? = some c) : s.drop i = c :: s.drop (i + 1) := by
  obtain ⟨hi, hx⟩ := List.getElem?_eq_some_iff.1 h
  rw [List.drop_eq_getElem_cons hi, hx]
theorem drop_head {α : Type} (s : List α) (i : Nat) : (s.drop i).head? = s[i]? := by
  rw [List.head?_drop]
theorem lit_step {pl : Int} {s : List UInt8} {i : Nat} {c : UInt8} {M : Bool} (h : litFrom pl (s.drop i) = M) (hc : s[i]? = some c) : Keep ((okLit pl c s[i + 1]? = true → litFrom pl (s.drop (i + 1)) = M) ∧ (okLit pl c s[i + 1]? = false → false = M)) := by
  rw [drop_at hc] at h
  simp only [litFrom, drop_head] at h
  constructor
  constructor
  · intro h1; rw [h1] at h; simpa using h
  · intro h1; rw [h1] at h; simpa using h
theorem literal24_calls (s : List UInt8) (hs : s.length ≤ 4611686018427387904) (pl : Int) (hp : pl = 0 ∨ pl = 1 ∨ pl = 2) (S : Heap) : CallsQ Try.prog 149 [.str s, .int .i64 pl] S (.bool (isLit pl s)) := by
  obtain ⟨M, hM⟩ : ∃ M, litFrom pl s = M := ⟨_, rfl⟩
  have hr : isLit pl s = (M && nonEmpty s) := by unfold isLit; rw [hM]
  rw [hr]
  clear hr
  refine CallsA_W (fun _ => false) Try.func149 rfl (Nat.le_of_ble_eq_true rfl) ?_
  simp only [Try.f149]
  (simp only [go_sem, reduceIte, Nat.reduceEqDiff, Nat.reduceLT, Nat.reduceLeDiff, Nat.reduceAdd, reduceCtorEq, Int.reduceToNat, Int.reduceLE, Int.reduceLT, Int.reduceNeg, Int.reduceEq, Int.reduceNe, Nat.reduceBEq, Nat.reduceMul, Nat.reducePow, *])
  refine CodeW_loop (fun m σ' S' => ∃ i : Nat, i + m = s.length ∧ σ' 0 = .str s ∧ σ' 1 = .int .i64 pl ∧ σ' 5 = .int .i64 i ∧ S' = S ∧ litFrom pl (s.drop i) = M) s.length ?_ ?_
  · (simp only [go_sem, reduceIte, Nat.reduceEqDiff, Nat.reduceLT, Nat.reduceLeDiff, Nat.reduceAdd, reduceCtorEq, Int.reduceToNat, Int.reduceLE, Int.reduceLT, Int.reduceNeg, Int.reduceEq, Int.reduceNe, Nat.reduceBEq, Nat.reduceMul, Nat.reducePow, *])
    exact ⟨0, by omega, rfl, by simpa using hM⟩
  · rintro m σ' S' ⟨i, h1, h2, h3, h4, rfl, h6⟩
    clear hM
    cases hc : s[i]? with
    | none =>
      have hl : s.length ≤ i := List.getElem?_eq_none_iff.1 hc
      have hlt : ¬ ((i : Int) < (s.length : Int)) := by omega
      rw [List.drop_eq_nil_of_le hl] at h6
      obtain rfl : M = true := h6.symm
      clear h6
      (simp only [go_sem, reduceIte, Nat.reduceEqDiff, Nat.reduceLT, Nat.reduceLeDiff, Nat.reduceAdd, reduceCtorEq, Int.reduceToNat, Int.reduceLE, Int.reduceLT, Int.reduceNeg, Int.reduceEq, Int.reduceNe, Nat.reduceBEq, Nat.reduceMul, Nat.reducePow, *])
      rw [← ne_empty]; rfl
    | some c =>
      have hl := (List.getElem?_eq_some_iff.1 hc).1
      have hlt : (i : Int) < (s.length : Int) := by omega
      have hw := wrap1 hl hs
      have hk := lit_step h6 hc
      clear h6
      cases hn : s[i + 1]? with
      | none =>
        have hl1 : s.length ≤ i + 1 := List.getElem?_eq_none_iff.1 hn
        have hlt1 : ¬ ((i + 1 : Nat) : Int) < (s.length : Int) := by omega
        have hle1 : (s.length : Int) ≤ ((i + 1 : Nat) : Int) := by omega
        rw [hn] at hk
        rcases hp with rfl | rfl | rfl
        all_goals
          (simp only [go_sem, reduceIte, Nat.reduceEqDiff, Nat.reduceLT, Nat.reduceLeDiff, Nat.reduceAdd, reduceCtorEq, Int.reduceToNat, Int.reduceLE, Int.reduceLT, Int.reduceNeg, Int.reduceEq, Int.reduceNe, Nat.reduceBEq, Nat.reduceMul, Nat.reducePow, *])
          (repeat' first | ((first | refine split_d ?_ ?_ | refine split_gt rfl ?_ ?_ | refine split_gf rfl ?_ ?_ | refine split_b ?_ ?_ | refine split_gb rfl ?_ ?_) <;> intro _ <;> ((try simp only [go_sem, reduceIte, Nat.reduceEqDiff, Nat.reduceLT, Nat.reduceLeDiff, Nat.reduceAdd, reduceCtorEq, Int.reduceToNat, Int.reduceLE, Int.reduceLT, Int.reduceNeg, Int.reduceEq, Int.reduceNe, Nat.reduceBEq, Nat.reduceMul, Nat.reducePow, *]))) | ((first | (refine OpW_call rfl rfl call20 rfl ((refClass_calls _ _).mono ?_)) | (refine OpW_call rfl rfl call170 rfl ((dollar_calls _ _).mono ?_)) | (refine OpW_call rfl rfl call150 rfl ((special24_calls _ _).mono ?_)) | fail) <;> (rintro p_ S_ ⟨rfl, rfl⟩; (try simp only [go_sem, reduceIte, Nat.reduceEqDiff, Nat.reduceLT, Nat.reduceLeDiff, Nat.reduceAdd, reduceCtorEq, Int.reduceToNat, Int.reduceLE, Int.reduceLT, Int.reduceNeg, Int.reduceEq, Int.reduceNe, Nat.reduceBEq, Nat.reduceMul, Nat.reducePow, *]))) | fail)
          all_goals first
            | exact ⟨m - 1, by omega, i + 1, by omega, rfl, hk.of.1 (by simp [okLit, nxBad, nxQ, *])⟩
            | (rw [← hk.of.2 (by simp [okLit, nxBad, nxQ, *])]; rfl)
      | some d =>
        have hl1 := (List.getElem?_eq_some_iff.1 hn).1
        have hlt1 : ((i + 1 : Nat) : Int) < (s.length : Int) := by omega
        have hle1 : ¬ (s.length : Int) ≤ ((i + 1 : Nat) : Int) := by omega
        rw [hn] at hk
        rcases hp with rfl | rfl | rfl
        all_goals
          (simp only [go_sem, reduceIte, Nat.reduceEqDiff, Nat.reduceLT, Nat.reduceLeDiff, Nat.reduceAdd, reduceCtorEq, Int.reduceToNat, Int.reduceLE, Int.reduceLT, Int.reduceNeg, Int.reduceEq, Int.reduceNe, Nat.reduceBEq, Nat.reduceMul, Nat.reducePow, *])
          (repeat' first | ((first | refine split_d ?_ ?_ | refine split_gt rfl ?_ ?_ | refine split_gf rfl ?_ ?_ | refine split_b ?_ ?_ | refine split_gb rfl ?_ ?_) <;> intro _ <;> ((try simp only [go_sem, reduceIte, Nat.reduceEqDiff, Nat.reduceLT, Nat.reduceLeDiff, Nat.reduceAdd, reduceCtorEq, Int.reduceToNat, Int.reduceLE, Int.reduceLT, Int.reduceNeg, Int.reduceEq, Int.reduceNe, Nat.reduceBEq, Nat.reduceMul, Nat.reducePow, *]))) | ((first | (refine OpW_call rfl rfl call20 rfl ((refClass_calls _ _).mono ?_)) | (refine OpW_call rfl rfl call170 rfl ((dollar_calls _ _).mono ?_)) | (refine OpW_call rfl rfl call150 rfl ((special24_calls _ _).mono ?_)) | fail) <;> (rintro p_ S_ ⟨rfl, rfl⟩; (try simp only [go_sem, reduceIte, Nat.reduceEqDiff, Nat.reduceLT, Nat.reduceLeDiff, Nat.reduceAdd, reduceCtorEq, Int.reduceToNat, Int.reduceLE, Int.reduceLT, Int.reduceNeg, Int.reduceEq, Int.reduceNe, Nat.reduceBEq, Nat.reduceMul, Nat.reducePow, *]))) | fail)
          all_goals first
            | exact ⟨m - 1, by omega, i + 1, by omega, rfl, hk.of.1 (by simp [okLit, nxBad, nxQ, *])⟩
            | (rw [← hk.of.2 (by simp [okLit, nxBad, nxQ, *])]; rfl)

end Go.Proofs.Ytcbonfgkfiapaaa.Pv

/-! What the reference of package part computes: texts, operators, parts. -/
set_option linter.unusedVariables false
set_option linter.unusedSimpArgs false
set_option maxRecDepth 100000
set_option maxHeartbeats 4000000
namespace Go.Proofs.Ytcbonfgkfiapaaa.Pv
open Go Go.RowKit

/-! clear -/
def clearFrom (c : UInt8) : List UInt8 → Bool
  | [] => true
  | b :: r => decide (¬ b = 0) && decide (¬ b = c) && clearFrom c r
theorem u8_eq {c d : UInt8} : ((c.toNat : Int) = (d.toNat : Int)) ↔ c = d := by
  rw [← UInt8.toNat_inj]; omega
theorem u8_zero {c : UInt8} : ((c.toNat : Int) = 0) ↔ c = 0 := u8_eq (d := 0)
theorem clear_calls (s : List UInt8) (hs : s.length ≤ 4611686018427387904) (c : UInt8) (S : Heap) : CallsQ Try.prog 151 [.str s, .int .u8 (c.toNat : Int)] S (.bool (clearFrom c s)) := by
  obtain ⟨M, hM⟩ : ∃ M, clearFrom c s = M := ⟨_, rfl⟩
  rw [hM]
  refine CallsA_W (fun _ => false) Try.func151 rfl (Nat.le_of_ble_eq_true rfl) ?_
  simp only [Try.f151]
  (simp only [go_sem, reduceIte, Nat.reduceEqDiff, Nat.reduceLT, Nat.reduceLeDiff, Nat.reduceAdd, reduceCtorEq, Int.reduceToNat, Int.reduceLE, Int.reduceLT, Int.reduceNeg, Int.reduceEq, Int.reduceNe, Nat.reduceBEq, Nat.reduceMul, Nat.reducePow, *])
  refine CodeW_loop (fun m σ' S' => ∃ i : Nat, i + m = s.length ∧ σ' 0 = .str s ∧ σ' 1 = .int .u8 (c.toNat : Int) ∧ σ' 5 = .int .i64 i ∧ S' = S ∧ clearFrom c (s.drop i) = M) s.length ?_ ?_
  · (simp only [go_sem, reduceIte, Nat.reduceEqDiff, Nat.reduceLT, Nat.reduceLeDiff, Nat.reduceAdd, reduceCtorEq, Int.reduceToNat, Int.reduceLE, Int.reduceLT, Int.reduceNeg, Int.reduceEq, Int.reduceNe, Nat.reduceBEq, Nat.reduceMul, Nat.reducePow, *])
    exact ⟨0, by omega, rfl, by simpa using hM⟩
  · rintro m σ' S' ⟨i, h1, h2, h3, h4, rfl, h6⟩
    clear hM
    cases hc : s[i]? with
    | none =>
      have hl : s.length ≤ i := List.getElem?_eq_none_iff.1 hc
      have hlt : ¬ ((i : Int) < (s.length : Int)) := by omega
      rw [List.drop_eq_nil_of_le hl] at h6
      obtain rfl : M = true := h6.symm
      clear h6
      (simp only [go_sem, reduceIte, Nat.reduceEqDiff, Nat.reduceLT, Nat.reduceLeDiff, Nat.reduceAdd, reduceCtorEq, Int.reduceToNat, Int.reduceLE, Int.reduceLT, Int.reduceNeg, Int.reduceEq, Int.reduceNe, Nat.reduceBEq, Nat.reduceMul, Nat.reducePow, *])
    | some b =>
      have hl := (List.getElem?_eq_some_iff.1 hc).1
      have hlt : (i : Int) < (s.length : Int) := by omega
      have hw := wrap1 hl hs
      rw [drop_at hc] at h6
      simp only [clearFrom] at h6
      have hk : Keep ((((b.toNat : Int) = 0 ∨ (b.toNat : Int) = (c.toNat : Int)) → false = M) ∧ (¬ (b.toNat : Int) = 0 → ¬ (b.toNat : Int) = (c.toNat : Int) → clearFrom c (s.drop (i + 1)) = M)) := by
        simp only [u8_eq, u8_zero]
        constructor
        constructor
        · intro h; rw [← h6]; rcases h with h | h <;> simp [h]
        · intro h h'; rw [← h6]; simp [h, h']
      clear h6
      (simp only [go_sem, reduceIte, Nat.reduceEqDiff, Nat.reduceLT, Nat.reduceLeDiff, Nat.reduceAdd, reduceCtorEq, Int.reduceToNat, Int.reduceLE, Int.reduceLT, Int.reduceNeg, Int.reduceEq, Int.reduceNe, Nat.reduceBEq, Nat.reduceMul, Nat.reducePow, *])
      (repeat' first | ((first | refine split_d ?_ ?_ | refine split_gt rfl ?_ ?_ | refine split_gf rfl ?_ ?_ | refine split_b ?_ ?_ | refine split_gb rfl ?_ ?_) <;> intro _ <;> ((try simp only [go_sem, reduceIte, Nat.reduceEqDiff, Nat.reduceLT, Nat.reduceLeDiff, Nat.reduceAdd, reduceCtorEq, Int.reduceToNat, Int.reduceLE, Int.reduceLT, Int.reduceNeg, Int.reduceEq, Int.reduceNe, Nat.reduceBEq, Nat.reduceMul, Nat.reducePow, *]))) | fail)
      all_goals first
        | exact ⟨m - 1, by omega, i + 1, by omega, rfl, hk.of.2 (by assumption) (by assumption)⟩
        | rw [← hk.of.1 (by simp [*])]

/-! arith -/
def arithFrom : Int → List UInt8 → Bool
  | n, [] => decide (n = 0)
  | n, b :: r => if b = 0 then false else if b = 40 then (if n + 1 < 0 then false else arithFrom (n + 1) r) else if b = 41 then (if n - 1 < 0 then false else arithFrom (n - 1) r) else (if n < 0 then false else arithFrom n r)
theorem arith24_calls (s : List UInt8) (hs : s.length ≤ 4611686018427387904) (S : Heap) : CallsQ Try.prog 153 [.str s] S (.bool (arithFrom 0 s)) := by
  obtain ⟨M, hM⟩ : ∃ M, arithFrom 0 s = M := ⟨_, rfl⟩
  rw [hM]
  refine CallsA_W (fun _ => false) Try.func153 rfl (Nat.le_of_ble_eq_true rfl) ?_
  simp only [Try.f153]
  (simp only [go_sem, reduceIte, Nat.reduceEqDiff, Nat.reduceLT, Nat.reduceLeDiff, Nat.reduceAdd, reduceCtorEq, Int.reduceToNat, Int.reduceLE, Int.reduceLT, Int.reduceNeg, Int.reduceEq, Int.reduceNe, Nat.reduceBEq, Nat.reduceMul, Nat.reducePow, *])
  refine CodeW_loop (fun m σ' S' => ∃ (i : Nat) (n : Int), i + m = s.length ∧ σ' 0 = .str s ∧ σ' 3 = .int .i64 n ∧ σ' 4 = .int .i64 i ∧ S' = S ∧ arithFrom n (s.drop i) = M ∧ 0 ≤ n ∧ n ≤ i) s.length ?_ ?_
  · (simp only [go_sem, reduceIte, Nat.reduceEqDiff, Nat.reduceLT, Nat.reduceLeDiff, Nat.reduceAdd, reduceCtorEq, Int.reduceToNat, Int.reduceLE, Int.reduceLT, Int.reduceNeg, Int.reduceEq, Int.reduceNe, Nat.reduceBEq, Nat.reduceMul, Nat.reducePow, *])
    exact ⟨0, 0, by omega, rfl, rfl, by simpa using hM, by omega, by omega⟩
  · rintro m σ' S' ⟨i, n, h1, h2, h3, h4, rfl, h6, h7, h8⟩
    clear hM
    cases hc : s[i]? with
    | none =>
      have hl : s.length ≤ i := List.getElem?_eq_none_iff.1 hc
      have hlt : ¬ ((i : Int) < (s.length : Int)) := by omega
      rw [List.drop_eq_nil_of_le hl] at h6
      simp only [arithFrom] at h6
      subst h6
      (simp only [go_sem, reduceIte, Nat.reduceEqDiff, Nat.reduceLT, Nat.reduceLeDiff, Nat.reduceAdd, reduceCtorEq, Int.reduceToNat, Int.reduceLE, Int.reduceLT, Int.reduceNeg, Int.reduceEq, Int.reduceNe, Nat.reduceBEq, Nat.reduceMul, Nat.reducePow, *])
    | some b =>
      have hl := (List.getElem?_eq_some_iff.1 hc).1
      have hlt : (i : Int) < (s.length : Int) := by omega
      have hw := wrap1 hl hs
      have hwp : IntKind.i64.wrap (n + 1) = n + 1 := wrap_in (by omega)
      have hwm : IntKind.i64.wrap (n - 1) = n - 1 := wrap_in (by omega)
      have e40 : ((b.toNat : Int) = 40) ↔ b = 40 := u8_eq (d := 40)
      have e41 : ((b.toNat : Int) = 41) ↔ b = 41 := u8_eq (d := 41)
      rw [drop_at hc] at h6
      simp only [arithFrom, ← u8_zero, ← e40, ← e41] at h6
      clear e40 e41
      have hk := Keep.mk h6
      clear h6
      have n1 : ¬ n + 1 < 0 := by omega
      have n2 : ¬ n < 0 := by omega
      (simp only [go_sem, reduceIte, Nat.reduceEqDiff, Nat.reduceLT, Nat.reduceLeDiff, Nat.reduceAdd, reduceCtorEq, Int.reduceToNat, Int.reduceLE, Int.reduceLT, Int.reduceNeg, Int.reduceEq, Int.reduceNe, Nat.reduceBEq, Nat.reduceMul, Nat.reducePow, *])
      by_cases b0 : (b.toNat : Int) = 0
      · (simp only [go_sem, reduceIte, Nat.reduceEqDiff, Nat.reduceLT, Nat.reduceLeDiff, Nat.reduceAdd, reduceCtorEq, Int.reduceToNat, Int.reduceLE, Int.reduceLT, Int.reduceNeg, Int.reduceEq, Int.reduceNe, Nat.reduceBEq, Nat.reduceMul, Nat.reducePow, *])
        have h6 := hk.of
        rw [if_pos b0] at h6
        rw [← h6]
      · by_cases b1 : (b.toNat : Int) = 40
        · have b2 : ¬ (b.toNat : Int) = 41 := by omega
          (simp only [go_sem, reduceIte, Nat.reduceEqDiff, Nat.reduceLT, Nat.reduceLeDiff, Nat.reduceAdd, reduceCtorEq, Int.reduceToNat, Int.reduceLE, Int.reduceLT, Int.reduceNeg, Int.reduceEq, Int.reduceNe, Nat.reduceBEq, Nat.reduceMul, Nat.reducePow, *])
          have h6 := hk.of
          rw [if_neg b0, if_pos b1, if_neg n1] at h6
          exact ⟨m - 1, by omega, i + 1, n + 1, by omega, rfl, rfl, h6, by omega, by omega⟩
        · by_cases b2 : (b.toNat : Int) = 41
          · by_cases b3 : n - 1 < 0
            · (simp only [go_sem, reduceIte, Nat.reduceEqDiff, Nat.reduceLT, Nat.reduceLeDiff, Nat.reduceAdd, reduceCtorEq, Int.reduceToNat, Int.reduceLE, Int.reduceLT, Int.reduceNeg, Int.reduceEq, Int.reduceNe, Nat.reduceBEq, Nat.reduceMul, Nat.reducePow, *])
              have h6 := hk.of
              rw [if_neg b0, if_neg b1, if_pos b2, if_pos b3] at h6
              rw [← h6]
            · (simp only [go_sem, reduceIte, Nat.reduceEqDiff, Nat.reduceLT, Nat.reduceLeDiff, Nat.reduceAdd, reduceCtorEq, Int.reduceToNat, Int.reduceLE, Int.reduceLT, Int.reduceNeg, Int.reduceEq, Int.reduceNe, Nat.reduceBEq, Nat.reduceMul, Nat.reducePow, *])
              have h6 := hk.of
              rw [if_neg b0, if_neg b1, if_pos b2, if_neg b3] at h6
              exact ⟨m - 1, by omega, i + 1, n - 1, by omega, rfl, rfl, h6, by omega, by omega⟩
          · (simp only [go_sem, reduceIte, Nat.reduceEqDiff, Nat.reduceLT, Nat.reduceLeDiff, Nat.reduceAdd, reduceCtorEq, Int.reduceToNat, Int.reduceLE, Int.reduceLT, Int.reduceNeg, Int.reduceEq, Int.reduceNe, Nat.reduceBEq, Nat.reduceMul, Nat.reducePow, *])
            have h6 := hk.of
            rw [if_neg b0, if_neg b1, if_neg b2, if_neg n2] at h6
            exact ⟨m - 1, by omega, i + 1, n, by omega, rfl, rfl, h6, by omega, by omega⟩

/-! operators -/
def opsL : List (List UInt8) := [[58, 45], [45], [58, 61], [61], [58, 63], [63], [58, 43], [43], [37], [37, 37], [35], [35, 35]]
def isOp (s : List UInt8) : Bool := decide (s ∈ opsL)
theorem ops24_calls (S : Heap) : CallsQ Try.prog 194 [] S (.slice 1 (opsL.map fun s => [.str s])) := by
  refine CallsA_W (fun _ => false) Try.func194 rfl (Nat.le_of_ble_eq_true rfl) ?_
  simp only [Try.f194]
  (simp only [go_sem, reduceIte, Nat.reduceEqDiff, Nat.reduceLT, Nat.reduceLeDiff, Nat.reduceAdd, reduceCtorEq, Int.reduceToNat, Int.reduceLE, Int.reduceLT, Int.reduceNeg, Int.reduceEq, Int.reduceNe, Nat.reduceBEq, Nat.reduceMul, Nat.reducePow, *])
  rfl
def memFrom (s : List UInt8) : List (List UInt8) → Bool
  | [] => false
  | o :: r => decide (o = s) || memFrom s r
theorem memFrom_iff (s : List UInt8) : ∀ l, memFrom s l = decide (s ∈ l)
  | [] => by simp [memFrom]
  | o :: r => by
    simp only [memFrom, memFrom_iff s r, List.mem_cons]
    by_cases h : o = s
    · simp [h]
    · have : ¬ s = o := fun e => h e.symm
      simp [h, this]
theorem op24_calls (s : List UInt8) (S : Heap) : CallsQ Try.prog 171 [.str s] S (.bool (isOp s)) := by
  unfold isOp
  rw [← memFrom_iff]
  obtain ⟨M, hM⟩ : ∃ M, memFrom s opsL = M := ⟨_, rfl⟩
  have h12 : opsL.length = 12 := rfl
  obtain ⟨L, hL⟩ : ∃ L, opsL = L := ⟨_, rfl⟩
  have hops := fun S => ops24_calls S
  simp only [hL] at hops
  rw [hM]
  rw [hL] at hM h12
  clear hL
  refine CallsA_W (fun _ => false) Try.func171 rfl (Nat.le_of_ble_eq_true rfl) ?_
  simp only [Try.f171]
  (simp only [go_sem, reduceIte, Nat.reduceEqDiff, Nat.reduceLT, Nat.reduceLeDiff, Nat.reduceAdd, reduceCtorEq, Int.reduceToNat, Int.reduceLE, Int.reduceLT, Int.reduceNeg, Int.reduceEq, Int.reduceNe, Nat.reduceBEq, Nat.reduceMul, Nat.reducePow, *])
  (repeat' first | ((first | refine split_d ?_ ?_ | refine split_gt rfl ?_ ?_ | refine split_gf rfl ?_ ?_ | refine split_b ?_ ?_ | refine split_gb rfl ?_ ?_) <;> intro _ <;> ((try simp only [go_sem, reduceIte, Nat.reduceEqDiff, Nat.reduceLT, Nat.reduceLeDiff, Nat.reduceAdd, reduceCtorEq, Int.reduceToNat, Int.reduceLE, Int.reduceLT, Int.reduceNeg, Int.reduceEq, Int.reduceNe, Nat.reduceBEq, Nat.reduceMul, Nat.reducePow, *]))) | ((first | (refine OpW_call rfl rfl call194 rfl ((hops _).mono ?_)) | fail) <;> (rintro p_ S_ ⟨rfl, rfl⟩; (try simp only [go_sem, reduceIte, Nat.reduceEqDiff, Nat.reduceLT, Nat.reduceLeDiff, Nat.reduceAdd, reduceCtorEq, Int.reduceToNat, Int.reduceLE, Int.reduceLT, Int.reduceNeg, Int.reduceEq, Int.reduceNe, Nat.reduceBEq, Nat.reduceMul, Nat.reducePow, *]))) | fail)
  refine CodeW_loop (fun m σ' S' => ∃ i : Nat, i + m = L.length ∧ σ' 0 = .str s ∧ σ' 3 = .slice 1 (L.map fun s => [.str s]) ∧ σ' 4 = .int .i64 i ∧ S' = S_ ∧ memFrom s (L.drop i) = M) L.length ?_ ?_
  · (simp only [go_sem, reduceIte, Nat.reduceEqDiff, Nat.reduceLT, Nat.reduceLeDiff, Nat.reduceAdd, reduceCtorEq, Int.reduceToNat, Int.reduceLE, Int.reduceLT, Int.reduceNeg, Int.reduceEq, Int.reduceNe, Nat.reduceBEq, Nat.reduceMul, Nat.reducePow, *])
    rfl
  · rintro m σ' S' ⟨i, h1, h2, h3, h4, rfl, h6⟩
    clear hM
    have hlm : (L.map fun s => [PV.str s]).length = L.length := by simp
    cases hc : L[i]? with
    | none =>
      have hl : L.length ≤ i := List.getElem?_eq_none_iff.1 hc
      have hlt : ¬ ((i : Int) < (L.length : Int)) := by omega
      rw [List.drop_eq_nil_of_le hl] at h6
      obtain rfl : M = false := h6.symm
      clear h6 h12
      (simp only [go_sem, reduceIte, Nat.reduceEqDiff, Nat.reduceLT, Nat.reduceLeDiff, Nat.reduceAdd, reduceCtorEq, Int.reduceToNat, Int.reduceLE, Int.reduceLT, Int.reduceNeg, Int.reduceEq, Int.reduceNe, Nat.reduceBEq, Nat.reduceMul, Nat.reducePow, *])
    | some b =>
      have hl := (List.getElem?_eq_some_iff.1 hc).1
      have hlt : (i : Int) < (L.length : Int) := by omega
      have hw := wrap1 hl (by omega)
      rw [drop_at hc] at h6
      simp only [memFrom] at h6
      have hk := Keep.mk h6
      clear h6 h12
      by_cases hb : b = s
      · have hT : true = M := by rw [← hk.of]; simp [hb]
        clear hk
        subst hT
        (simp only [go_sem, reduceIte, Nat.reduceEqDiff, Nat.reduceLT, Nat.reduceLeDiff, Nat.reduceAdd, reduceCtorEq, Int.reduceToNat, Int.reduceLE, Int.reduceLT, Int.reduceNeg, Int.reduceEq, Int.reduceNe, Nat.reduceBEq, Nat.reduceMul, Nat.reducePow, *])
      · (simp only [go_sem, reduceIte, Nat.reduceEqDiff, Nat.reduceLT, Nat.reduceLeDiff, Nat.reduceAdd, reduceCtorEq, Int.reduceToNat, Int.reduceLE, Int.reduceLT, Int.reduceNeg, Int.reduceEq, Int.reduceNe, Nat.reduceBEq, Nat.reduceMul, Nat.reducePow, *])
        have h6 := hk.of
        simp [hb] at h6
        exact ⟨m - 1, by omega, i + 1, by omega, rfl, h6⟩

end Go.Proofs.Ytcbonfgkfiapaaa.Pv

/-! When parts are right at a place. -/
set_option linter.unusedVariables false
set_option linter.unusedSimpArgs false
namespace Go.Proofs.Ytcbonfgkfiapaaa.Pv
open Go Go.RowKit

def okNm (t : List UInt8) : Bool := isName t || (isDigits t || (match t with | [c] => isSpecial c | _ => false))
def firstOk (o : List UInt8) : List Pt → Bool
  | [] => true
  | q :: _ => decide (¬ q.k = 1) || decide (¬ q.text.head? = o.head?)
def paramOk (t o : List UInt8) (ks : List Pt) (allB : Bool) : Bool :=
  if okNm t = false then false
  else if o = [] ∨ o = [108, 101, 110] then decide (ks.length = 0)
  else if isOp o = false ∨ t = [35] ∨ allB = false then false
  else if (¬ o = [37] ∧ ¬ o = [35]) ∨ ks.length = 0 then true
  else firstOk o ks
def escOk (pl : Int) : List UInt8 → Bool
  | [c] => decide (¬ (c.toNat : Int) = 0) && (decide (¬ (c.toNat : Int) = 10) && (decide (¬ pl = 1) || quotb c))
  | _ => false
def oneOk (pl k : Int) (t o : List UInt8) (ks : List Pt) (cs : List (List PV)) (allD allB : Bool) : Bool :=
  if (¬ k = 5 ∧ ¬ o = []) ∨ (¬ k = 5 ∧ ¬ k = 4 ∧ (0 : Int) < (ks.length : Int)) ∨ (¬ k = 6 ∧ (0 : Int) < (cs.length : Int)) then false
  else if k = 1 then isLit pl t
  else if k = 2 then escOk pl t
  else if k = 3 then decide (¬ pl = 1) && clearFrom 39 t
  else if k = 4 then decide (¬ pl = 1) && (decide (t = []) && allD)
  else if k = 5 then paramOk t o ks allB
  else if k = 6 then decide (t = [])
  else if k = 7 then arithFrom 0 t
  else false
def meetOk : Option Pt → Pt → Bool
  | none, _ => true
  | some a, p => if ¬ a.k = 1 then true else if p.k = 1 then false else if a.text.getLast? = some 36 ∧ (p.k = 5 ∨ p.k = 6 ∨ p.k = 7) then false else true
mutual
def oneP (pl : Int) : Pt → Bool
  | .mk k t o ks cs => oneOk pl k t o ks cs (allP 1 none ks) (allP 2 none ks)
def allP (pl : Int) (prev : Option Pt) : List Pt → Bool
  | [] => true
  | p :: ps => oneP pl p && (meetOk prev p && allP pl (some p) ps)
end
def rightW (l : List Pt) : Bool := match l with
  | [] => false
  | p :: _ => allP 0 none l && (decide (¬ p.k = 1) || decide (¬ p.text.head? = some 35))
theorem oneP_eq (pl : Int) (p : Pt) : oneP pl p = oneOk pl p.k p.text p.op p.kids p.cmds (allP 1 none p.kids) (allP 2 none p.kids) := by
  cases p; simp only [oneP, Pt.k, Pt.text, Pt.op, Pt.kids, Pt.cmds]
/-- A literal that is right has a text. -/
theorem lit_text {pl : Int} {p : Pt} (h : oneP pl p = true) (hk : p.k = 1) : p.text ≠ [] := by
  rw [oneP_eq] at h
  unfold oneOk at h
  split at h
  · cases h
  · unfold isLit nonEmpty at h
    rintro e
    rw [e] at h
    simp at h

end Go.Proofs.Ytcbonfgkfiapaaa.Pv
