/- What package part computes: signs, texts, operators. What package part computes: texts, operators, one part. What package part computes: a parameter, one part. -/
import Derived.Test.YtcbonfgkfiapaaaPtRefB
import Derived.Test.YtcbonfgkfiapaaaAny39
import Derived.Test.YtcbonfgkfiapaaaHere5
/-! What package part computes: signs, texts, operators. -/
set_option linter.unusedVariables false
set_option linter.unusedSimpArgs false
set_option maxRecDepth 100000
set_option maxHeartbeats 40000000
namespace Go.Proofs.Ytcbonfgkfiapaaa.Pv
open Go Go.RowKit

theorem hasSuffix_calls (s p : List UInt8) (hs : s.length ≤ 9223372036854775807) (S : Heap) : CallsQ Try.prog 122 [.str s, .str p] S (.bool (Lib.hasSuffix s p)) := by
  refine CallsQ_below fun w args hv hh => ?_
  rw [args_str2 hv]
  refine (Try.strings_HasSuffix ⟨s.toArray⟩ ⟨p.toArray⟩ w (by simpa [ByteArray.size] using hs)).mono ?_
  rintro e w' ⟨rfl, rfl⟩
  exact ⟨_, rfl, by simp only [Rep], Below.refl _ _⟩
theorem trimPrefix_calls (s p : List UInt8) (S : Heap) : CallsQ Try.prog 196 [.str s, .str p] S (.str (Lib.trimPrefix s p)) := by
  refine CallsQ_below fun w args hv hh => ?_
  rw [args_str2 hv]
  refine (Try.strings_TrimPrefix ⟨s.toArray⟩ ⟨p.toArray⟩ w).mono ?_
  rintro e w' ⟨rfl, rfl⟩
  exact ⟨_, rfl, by simp only [Rep], Below.refl _ _⟩

theorem quotable_calls (c : UInt8) (S : Heap) : CallsQ Try.prog 164 [.int .u8 (c.toNat : Int)] S (.bool (quotb c)) := by
  have e : decide (0 ≤ Lib.indexByte [36, 96, 34, 92] c) = quotb c := by
    rw [Bool.eq_iff_iff, decide_eq_true_eq, idx_mem]
    have h : ∀ k : UInt8, (c = k) ↔ ((c.toNat : Int) = (k.toNat : Int)) := fun k => u8_eq.symm
    simp only [List.mem_cons, List.not_mem_nil, or_false, h, quotb, Bool.or_eq_true, decide_eq_true_eq]
    exact Iff.rfl
  rw [← e]
  refine CallsA_W (fun _ => false) Try.func164 rfl (Nat.le_of_ble_eq_true rfl) ?_
  simp only [Try.f164]
  (simp only [go_sem, reduceIte, Nat.reduceEqDiff, Nat.reduceLT, Nat.reduceLeDiff, Nat.reduceAdd, reduceCtorEq, Int.reduceToNat, Int.reduceLE, Int.reduceLT, Int.reduceNeg, Int.reduceEq, Int.reduceNe, Nat.reduceBEq, Nat.reduceMul, Nat.reducePow, Int.cast_ofNat_Int, *])
  (repeat' first | ((first | refine split_d ?_ ?_ | refine split_gt rfl ?_ ?_ | refine split_gf rfl ?_ ?_ | refine split_b ?_ ?_ | refine split_gb rfl ?_ ?_) <;> intro _ <;> ((try simp only [go_sem, reduceIte, Nat.reduceEqDiff, Nat.reduceLT, Nat.reduceLeDiff, Nat.reduceAdd, reduceCtorEq, Int.reduceToNat, Int.reduceLE, Int.reduceLT, Int.reduceNeg, Int.reduceEq, Int.reduceNe, Nat.reduceBEq, Nat.reduceMul, Nat.reducePow, Int.cast_ofNat_Int, *]))) | ((first | (refine OpW_call rfl rfl call84 rfl ((indexByte_calls [36, 96, 34, 92] c _).mono ?_)) | fail) <;> (rintro p_ S_ ⟨rfl, rfl⟩; (try simp only [go_sem, reduceIte, Nat.reduceEqDiff, Nat.reduceLT, Nat.reduceLeDiff, Nat.reduceAdd, reduceCtorEq, Int.reduceToNat, Int.reduceLE, Int.reduceLT, Int.reduceNeg, Int.reduceEq, Int.reduceNe, Nat.reduceBEq, Nat.reduceMul, Nat.reducePow, Int.cast_ofNat_Int, *]))) | fail)
theorem opens_calls (c : UInt8) (S : Heap) : CallsQ Try.prog 180 [.int .u8 (c.toNat : Int)] S (.bool (!dolOk c)) := by
  have hsp := special_calls c
  unfold dolOk
  generalize isSpecial c = B at *
  refine CallsA_W (fun _ => false) Try.func180 rfl (Nat.le_of_ble_eq_true rfl) ?_
  simp only [Try.f180]
  (simp only [go_sem, reduceIte, Nat.reduceEqDiff, Nat.reduceLT, Nat.reduceLeDiff, Nat.reduceAdd, reduceCtorEq, Int.reduceToNat, Int.reduceLE, Int.reduceLT, Int.reduceNeg, Int.reduceEq, Int.reduceNe, Nat.reduceBEq, Nat.reduceMul, Nat.reducePow, Int.cast_ofNat_Int, *])
  (repeat' first | ((first | refine split_d ?_ ?_ | refine split_gt rfl ?_ ?_ | refine split_gf rfl ?_ ?_ | refine split_b ?_ ?_ | refine split_gb rfl ?_ ?_) <;> intro _ <;> ((try simp only [go_sem, reduceIte, Nat.reduceEqDiff, Nat.reduceLT, Nat.reduceLeDiff, Nat.reduceAdd, reduceCtorEq, Int.reduceToNat, Int.reduceLE, Int.reduceLT, Int.reduceNeg, Int.reduceEq, Int.reduceNe, Nat.reduceBEq, Nat.reduceMul, Nat.reducePow, Int.cast_ofNat_Int, *]))) | ((first | (refine OpW_call rfl rfl call19 rfl ((class_calls _ _).mono ?_)) | (refine OpW_call rfl rfl call21 rfl ((hsp _).mono ?_)) | fail) <;> (rintro p_ S_ ⟨rfl, rfl⟩; (try simp only [go_sem, reduceIte, Nat.reduceEqDiff, Nat.reduceLT, Nat.reduceLeDiff, Nat.reduceAdd, reduceCtorEq, Int.reduceToNat, Int.reduceLE, Int.reduceLT, Int.reduceNeg, Int.reduceEq, Int.reduceNe, Nat.reduceBEq, Nat.reduceMul, Nat.reducePow, Int.cast_ofNat_Int, *]))) | fail)
  all_goals simp [*]
def holdsB (pl : Int) (c : UInt8) : Bool :=
  if pl = 0 then decide (cls c = 3) || (decide (cls c = 4) || (decide (cls c = 8) || decide (cls c = 7)))
  else if pl = 1 then decide (¬ (c.toNat : Int) = 34) && decide (¬ (c.toNat : Int) = 96)
  else decide (¬ (c.toNat : Int) = 125) && decide (¬ cls c = 6)
theorem holds_calls (pl : Int) (hp : pl = 0 ∨ pl = 1 ∨ pl = 2) (c : UInt8) (S : Heap) : CallsQ Try.prog 179 [.int .i64 pl, .int .u8 (c.toNat : Int)] S (.bool (holdsB pl c)) := by
  refine CallsA_W (fun _ => false) Try.func179 rfl (Nat.le_of_ble_eq_true rfl) ?_
  simp only [Try.f179]
  rcases hp with rfl | rfl | rfl
  all_goals
    (simp only [go_sem, reduceIte, Nat.reduceEqDiff, Nat.reduceLT, Nat.reduceLeDiff, Nat.reduceAdd, reduceCtorEq, Int.reduceToNat, Int.reduceLE, Int.reduceLT, Int.reduceNeg, Int.reduceEq, Int.reduceNe, Nat.reduceBEq, Nat.reduceMul, Nat.reducePow, Int.cast_ofNat_Int, *])
    (repeat' first | ((first | refine split_d ?_ ?_ | refine split_gt rfl ?_ ?_ | refine split_gf rfl ?_ ?_ | refine split_b ?_ ?_ | refine split_gb rfl ?_ ?_) <;> intro _ <;> ((try simp only [go_sem, reduceIte, Nat.reduceEqDiff, Nat.reduceLT, Nat.reduceLeDiff, Nat.reduceAdd, reduceCtorEq, Int.reduceToNat, Int.reduceLE, Int.reduceLT, Int.reduceNeg, Int.reduceEq, Int.reduceNe, Nat.reduceBEq, Nat.reduceMul, Nat.reducePow, Int.cast_ofNat_Int, *]))) | ((first | (refine OpW_call rfl rfl call19 rfl ((class_calls _ _).mono ?_)) | fail) <;> (rintro p_ S_ ⟨rfl, rfl⟩; (try simp only [go_sem, reduceIte, Nat.reduceEqDiff, Nat.reduceLT, Nat.reduceLeDiff, Nat.reduceAdd, reduceCtorEq, Int.reduceToNat, Int.reduceLE, Int.reduceLT, Int.reduceNeg, Int.reduceEq, Int.reduceNe, Nat.reduceBEq, Nat.reduceMul, Nat.reducePow, Int.cast_ofNat_Int, *]))) | fail)
    all_goals (unfold holdsB; simp [*])
theorem okLit_alt (pl : Int) (hp : pl = 0 ∨ pl = 1 ∨ pl = 2) (c : UInt8) (nx : Option UInt8) :
    okLit pl c nx = if (c.toNat : Int) = 0 then false else if holdsB pl c = false then false else if (c.toNat : Int) = 36 ∧ nxBad nx = true then false else if (c.toNat : Int) = 92 ∧ nxQ nx = true then false else true := by
  have h0 : cls c = 0 ↔ (c.toNat : Int) = 0 := by
    unfold cls clsI
    constructor
    · intro h
      apply Classical.byContradiction
      intro h'
      rw [if_neg h'] at h
      (repeat' split at h) <;> omega
    · intro h; rw [if_pos h]
  have h92 : (c.toNat : Int) = 92 → cls c = 6 := by
    intro h
    unfold cls clsI
    rw [h]; rfl
  unfold okLit holdsB
  simp only [h0]
  rcases hp with rfl | rfl | rfl
  all_goals
    by_cases a0 : (c.toNat : Int) = 0
    · simp [a0]
    · by_cases a92 : (c.toNat : Int) = 92
      · have a6 := h92 a92
        simp [a92, a6]
      · simp [a0, a92]
        try grind
theorem literal_calls (s : List UInt8) (hs : s.length ≤ 4611686018427387904) (pl : Int) (hp : pl = 0 ∨ pl = 1 ∨ pl = 2) (S : Heap) : CallsQ Try.prog 163 [.int .i64 pl, .str s] S (.bool (isLit pl s)) := by
  obtain ⟨M, hM⟩ : ∃ M, litFrom pl s = M := ⟨_, rfl⟩
  have hr : isLit pl s = (M && nonEmpty s) := by unfold isLit; rw [hM]
  rw [hr]
  clear hr
  refine CallsA_W (fun _ => false) Try.func163 rfl (Nat.le_of_ble_eq_true rfl) ?_
  simp only [Try.f163]
  (simp only [go_sem, reduceIte, Nat.reduceEqDiff, Nat.reduceLT, Nat.reduceLeDiff, Nat.reduceAdd, reduceCtorEq, Int.reduceToNat, Int.reduceLE, Int.reduceLT, Int.reduceNeg, Int.reduceEq, Int.reduceNe, Nat.reduceBEq, Nat.reduceMul, Nat.reducePow, Int.cast_ofNat_Int, *])
  refine CodeW_loop (fun m σ' S' => ∃ i : Nat, i + m = s.length ∧ σ' 0 = .int .i64 pl ∧ σ' 1 = .str s ∧ σ' 9 = .int .i64 s.length ∧ σ' 10 = .int .i64 i ∧ S' = S ∧ litFrom pl (s.drop i) = M) s.length ?_ ?_
  · (simp only [go_sem, reduceIte, Nat.reduceEqDiff, Nat.reduceLT, Nat.reduceLeDiff, Nat.reduceAdd, reduceCtorEq, Int.reduceToNat, Int.reduceLE, Int.reduceLT, Int.reduceNeg, Int.reduceEq, Int.reduceNe, Nat.reduceBEq, Nat.reduceMul, Nat.reducePow, Int.cast_ofNat_Int, *])
    exact ⟨0, by omega, rfl, by simpa using hM⟩
  · rintro m σ' S' ⟨i, h1, h2, h3, h4, h5, rfl, h6⟩
    clear hM
    cases hc : s[i]? with
    | none =>
      have hl : s.length ≤ i := List.getElem?_eq_none_iff.1 hc
      have hlt : ¬ ((i : Int) < (s.length : Int)) := by omega
      rw [List.drop_eq_nil_of_le hl] at h6
      obtain rfl : M = true := h6.symm
      clear h6
      (simp only [go_sem, reduceIte, Nat.reduceEqDiff, Nat.reduceLT, Nat.reduceLeDiff, Nat.reduceAdd, reduceCtorEq, Int.reduceToNat, Int.reduceLE, Int.reduceLT, Int.reduceNeg, Int.reduceEq, Int.reduceNe, Nat.reduceBEq, Nat.reduceMul, Nat.reducePow, Int.cast_ofNat_Int, *])
      rw [← ne_empty]; rfl
    | some c =>
      have hl := (List.getElem?_eq_some_iff.1 hc).1
      have hlt : (i : Int) < (s.length : Int) := by omega
      have hw := wrap1 hl hs
      have hw2 : IntKind.i64.wrap ((s.length : Int) - 1) = (s.length : Int) - 1 := wrap_in (by omega)
      have hk := lit_step h6 hc
      rw [okLit_alt pl hp] at hk
      have hhol := holds_calls pl hp c
      generalize holdsB pl c = B at *
      clear h6 hp
      cases hn : s[i + 1]? with
      | none =>
        have hl1 : s.length ≤ i + 1 := List.getElem?_eq_none_iff.1 hn
        have hlast : (i : Int) = (s.length : Int) - 1 := by omega
        rw [hn] at hk
        have hlast' : ((i : Int) = (s.length : Int) - 1) = True := eq_true hlast
        clear hlast hl1
        (simp only [go_sem, reduceIte, Nat.reduceEqDiff, Nat.reduceLT, Nat.reduceLeDiff, Nat.reduceAdd, reduceCtorEq, Int.reduceToNat, Int.reduceLE, Int.reduceLT, Int.reduceNeg, Int.reduceEq, Int.reduceNe, Nat.reduceBEq, Nat.reduceMul, Nat.reducePow, Int.cast_ofNat_Int, *])
        (repeat' first | ((first | refine split_d ?_ ?_ | refine split_gt rfl ?_ ?_ | refine split_gf rfl ?_ ?_ | refine split_b ?_ ?_ | refine split_gb rfl ?_ ?_) <;> intro _ <;> ((try simp only [go_sem, reduceIte, Nat.reduceEqDiff, Nat.reduceLT, Nat.reduceLeDiff, Nat.reduceAdd, reduceCtorEq, Int.reduceToNat, Int.reduceLE, Int.reduceLT, Int.reduceNeg, Int.reduceEq, Int.reduceNe, Nat.reduceBEq, Nat.reduceMul, Nat.reducePow, Int.cast_ofNat_Int, *]))) | ((first | (refine OpW_call rfl rfl call179 rfl ((hhol _).mono ?_)) | (refine OpW_call rfl rfl call180 rfl ((opens_calls _ _).mono ?_)) | (refine OpW_call rfl rfl call164 rfl ((quotable_calls _ _).mono ?_)) | fail) <;> (rintro p_ S_ ⟨rfl, rfl⟩; (try simp only [go_sem, reduceIte, Nat.reduceEqDiff, Nat.reduceLT, Nat.reduceLeDiff, Nat.reduceAdd, reduceCtorEq, Int.reduceToNat, Int.reduceLE, Int.reduceLT, Int.reduceNeg, Int.reduceEq, Int.reduceNe, Nat.reduceBEq, Nat.reduceMul, Nat.reducePow, Int.cast_ofNat_Int, *]))) | fail)
        all_goals first
          | exact ⟨m - 1, by omega, i + 1, by omega, rfl, hk.of.1 (by simp_all [nxBad, nxQ])⟩
          | (rw [← hk.of.2 (by simp_all [nxBad, nxQ])]; rfl)
      | some d =>
        have hl1 := (List.getElem?_eq_some_iff.1 hn).1
        have hlast' : ((i : Int) = (s.length : Int) - 1) = False := eq_false (by omega)
        rw [hn] at hk
        (simp only [go_sem, reduceIte, Nat.reduceEqDiff, Nat.reduceLT, Nat.reduceLeDiff, Nat.reduceAdd, reduceCtorEq, Int.reduceToNat, Int.reduceLE, Int.reduceLT, Int.reduceNeg, Int.reduceEq, Int.reduceNe, Nat.reduceBEq, Nat.reduceMul, Nat.reducePow, Int.cast_ofNat_Int, *])
        (repeat' first | ((first | refine split_d ?_ ?_ | refine split_gt rfl ?_ ?_ | refine split_gf rfl ?_ ?_ | refine split_b ?_ ?_ | refine split_gb rfl ?_ ?_) <;> intro _ <;> ((try simp only [go_sem, reduceIte, Nat.reduceEqDiff, Nat.reduceLT, Nat.reduceLeDiff, Nat.reduceAdd, reduceCtorEq, Int.reduceToNat, Int.reduceLE, Int.reduceLT, Int.reduceNeg, Int.reduceEq, Int.reduceNe, Nat.reduceBEq, Nat.reduceMul, Nat.reducePow, Int.cast_ofNat_Int, *]))) | ((first | (refine OpW_call rfl rfl call179 rfl ((hhol _).mono ?_)) | (refine OpW_call rfl rfl call180 rfl ((opens_calls _ _).mono ?_)) | (refine OpW_call rfl rfl call164 rfl ((quotable_calls _ _).mono ?_)) | fail) <;> (rintro p_ S_ ⟨rfl, rfl⟩; (try simp only [go_sem, reduceIte, Nat.reduceEqDiff, Nat.reduceLT, Nat.reduceLeDiff, Nat.reduceAdd, reduceCtorEq, Int.reduceToNat, Int.reduceLE, Int.reduceLT, Int.reduceNeg, Int.reduceEq, Int.reduceNe, Nat.reduceBEq, Nat.reduceMul, Nat.reducePow, Int.cast_ofNat_Int, *]))) | fail)
        all_goals first
          | exact ⟨m - 1, by omega, i + 1, by omega, rfl, hk.of.1 (by simp_all [nxBad, nxQ])⟩
          | (rw [← hk.of.2 (by simp_all [nxBad, nxQ])]; rfl)

end Go.Proofs.Ytcbonfgkfiapaaa.Pv

/-! What package part computes: texts, operators, one part. -/
set_option linter.unusedVariables false
set_option linter.unusedSimpArgs false
set_option maxRecDepth 100000
set_option maxHeartbeats 40000000
namespace Go.Proofs.Ytcbonfgkfiapaaa.Pv
open Go Go.RowKit

theorem arith_calls (s : List UInt8) (hs : s.length ≤ 4611686018427387904) (S : Heap) : CallsQ Try.prog 166 [.str s] S (.bool (arithFrom 0 s)) := by
  obtain ⟨M, hM⟩ : ∃ M, arithFrom 0 s = M := ⟨_, rfl⟩
  rw [hM]
  refine CallsA_W (fun _ => false) Try.func166 rfl (Nat.le_of_ble_eq_true rfl) ?_
  simp only [Try.f166]
  (simp only [go_sem, reduceIte, Nat.reduceEqDiff, Nat.reduceLT, Nat.reduceLeDiff, Nat.reduceAdd, reduceCtorEq, Int.reduceToNat, Int.reduceLE, Int.reduceLT, Int.reduceNeg, Int.reduceEq, Int.reduceNe, Nat.reduceBEq, Nat.reduceMul, Nat.reducePow, Int.cast_ofNat_Int, *])
  refine CodeW_loop (fun m σ' S' => ∃ (i : Nat) (n : Int), i + m = s.length ∧ σ' 0 = .str s ∧ σ' 3 = .int .i64 n ∧ σ' 6 = .int .i64 s.length ∧ σ' 7 = .int .i64 i ∧ S' = S ∧ arithFrom n (s.drop i) = M ∧ 0 ≤ n ∧ n ≤ i) s.length ?_ ?_
  · (simp only [go_sem, reduceIte, Nat.reduceEqDiff, Nat.reduceLT, Nat.reduceLeDiff, Nat.reduceAdd, reduceCtorEq, Int.reduceToNat, Int.reduceLE, Int.reduceLT, Int.reduceNeg, Int.reduceEq, Int.reduceNe, Nat.reduceBEq, Nat.reduceMul, Nat.reducePow, Int.cast_ofNat_Int, *])
    exact ⟨0, 0, by omega, rfl, rfl, by simpa using hM, by omega, by omega⟩
  · rintro m σ' S' ⟨i, n, h1, h2, h3, h4, h5, rfl, h6, h7, h8⟩
    clear hM
    cases hc : s[i]? with
    | none =>
      have hl : s.length ≤ i := List.getElem?_eq_none_iff.1 hc
      have hlt : ¬ ((i : Int) < (s.length : Int)) := by omega
      rw [List.drop_eq_nil_of_le hl] at h6
      simp only [arithFrom] at h6
      subst h6
      (simp only [go_sem, reduceIte, Nat.reduceEqDiff, Nat.reduceLT, Nat.reduceLeDiff, Nat.reduceAdd, reduceCtorEq, Int.reduceToNat, Int.reduceLE, Int.reduceLT, Int.reduceNeg, Int.reduceEq, Int.reduceNe, Nat.reduceBEq, Nat.reduceMul, Nat.reducePow, Int.cast_ofNat_Int, *])
    | some b =>
      have hl := (List.getElem?_eq_some_iff.1 hc).1
      have hlt : (i : Int) < (s.length : Int) := by omega
      have hw := wrap1 hl hs
      have hwp : IntKind.i64.wrap (n + 1) = n + 1 := wrap_in (by omega)
      have hwm : IntKind.i64.wrap (n - 1) = n - 1 := wrap_in (by omega)
      have e40 : ((b.toNat : Int) = 40) ↔ b = 40 := u8_eq (d := 40)
      have e41 : ((b.toNat : Int) = 41) ↔ b = 41 := u8_eq (d := 41)
      rw [drop_at hc] at h6
      simp only [arithFrom, ← u8_zero, ← e40, ← e41] at h6
      clear e40 e41
      have hk := Keep.mk h6
      clear h6
      have n1 : ¬ n + 1 < 0 := by omega
      have n2 : ¬ n < 0 := by omega
      by_cases b0 : (b.toNat : Int) = 0
      · have h6 := hk.of
        rw [if_pos b0] at h6
        clear hk
        subst h6
        (simp only [go_sem, reduceIte, Nat.reduceEqDiff, Nat.reduceLT, Nat.reduceLeDiff, Nat.reduceAdd, reduceCtorEq, Int.reduceToNat, Int.reduceLE, Int.reduceLT, Int.reduceNeg, Int.reduceEq, Int.reduceNe, Nat.reduceBEq, Nat.reduceMul, Nat.reducePow, Int.cast_ofNat_Int, *])
      · by_cases b1 : (b.toNat : Int) = 40
        · have b2 : ¬ (b.toNat : Int) = 41 := by omega
          (simp only [go_sem, reduceIte, Nat.reduceEqDiff, Nat.reduceLT, Nat.reduceLeDiff, Nat.reduceAdd, reduceCtorEq, Int.reduceToNat, Int.reduceLE, Int.reduceLT, Int.reduceNeg, Int.reduceEq, Int.reduceNe, Nat.reduceBEq, Nat.reduceMul, Nat.reducePow, Int.cast_ofNat_Int, *])
          have h6 := hk.of
          rw [if_neg b0, if_pos b1, if_neg n1] at h6
          exact ⟨m - 1, by omega, i + 1, n + 1, by omega, rfl, rfl, h6, by omega, by omega⟩
        · by_cases b2 : (b.toNat : Int) = 41
          · by_cases b3 : n - 1 < 0
            · have h6 := hk.of
              rw [if_neg b0, if_neg b1, if_pos b2, if_pos b3] at h6
              clear hk
              subst h6
              (simp only [go_sem, reduceIte, Nat.reduceEqDiff, Nat.reduceLT, Nat.reduceLeDiff, Nat.reduceAdd, reduceCtorEq, Int.reduceToNat, Int.reduceLE, Int.reduceLT, Int.reduceNeg, Int.reduceEq, Int.reduceNe, Nat.reduceBEq, Nat.reduceMul, Nat.reducePow, Int.cast_ofNat_Int, *])
            · (simp only [go_sem, reduceIte, Nat.reduceEqDiff, Nat.reduceLT, Nat.reduceLeDiff, Nat.reduceAdd, reduceCtorEq, Int.reduceToNat, Int.reduceLE, Int.reduceLT, Int.reduceNeg, Int.reduceEq, Int.reduceNe, Nat.reduceBEq, Nat.reduceMul, Nat.reducePow, Int.cast_ofNat_Int, *])
              have h6 := hk.of
              rw [if_neg b0, if_neg b1, if_pos b2, if_neg b3] at h6
              exact ⟨m - 1, by omega, i + 1, n - 1, by omega, rfl, rfl, h6, by omega, by omega⟩
          · (simp only [go_sem, reduceIte, Nat.reduceEqDiff, Nat.reduceLT, Nat.reduceLeDiff, Nat.reduceAdd, reduceCtorEq, Int.reduceToNat, Int.reduceLE, Int.reduceLT, Int.reduceNeg, Int.reduceEq, Int.reduceNe, Nat.reduceBEq, Nat.reduceMul, Nat.reducePow, Int.cast_ofNat_Int, *])
            have h6 := hk.of
            rw [if_neg b0, if_neg b1, if_neg b2, if_neg n2] at h6
            exact ⟨m - 1, by omega, i + 1, n, by omega, rfl, rfl, h6, by omega, by omega⟩
theorem named_calls (t : List UInt8) (ht : t.length ≤ 4611686018427387904) (S : Heap) : CallsQ Try.prog 181 [.str t] S (.bool (okNm t)) := by
  have hn := name_calls t ht
  have hd := digits_calls t ht
  unfold okNm
  generalize isName t = A at *
  generalize isDigits t = B at *
  refine CallsA_W (fun _ => false) Try.func181 rfl (Nat.le_of_ble_eq_true rfl) ?_
  simp only [Try.f181]
  cases A with
  | true =>
    (simp only [go_sem, reduceIte, Nat.reduceEqDiff, Nat.reduceLT, Nat.reduceLeDiff, Nat.reduceAdd, reduceCtorEq, Int.reduceToNat, Int.reduceLE, Int.reduceLT, Int.reduceNeg, Int.reduceEq, Int.reduceNe, Nat.reduceBEq, Nat.reduceMul, Nat.reducePow, Int.cast_ofNat_Int, *])
    (repeat' first | ((first | refine split_d ?_ ?_ | refine split_gt rfl ?_ ?_ | refine split_gf rfl ?_ ?_ | refine split_b ?_ ?_ | refine split_gb rfl ?_ ?_) <;> intro _ <;> ((try simp only [go_sem, reduceIte, Nat.reduceEqDiff, Nat.reduceLT, Nat.reduceLeDiff, Nat.reduceAdd, reduceCtorEq, Int.reduceToNat, Int.reduceLE, Int.reduceLT, Int.reduceNeg, Int.reduceEq, Int.reduceNe, Nat.reduceBEq, Nat.reduceMul, Nat.reducePow, Int.cast_ofNat_Int, *]))) | ((first | (refine OpW_call rfl rfl call23 rfl ((hn _).mono ?_)) | (refine OpW_call rfl rfl call25 rfl ((hd _).mono ?_)) | fail) <;> (rintro p_ S_ ⟨rfl, rfl⟩; (try simp only [go_sem, reduceIte, Nat.reduceEqDiff, Nat.reduceLT, Nat.reduceLeDiff, Nat.reduceAdd, reduceCtorEq, Int.reduceToNat, Int.reduceLE, Int.reduceLT, Int.reduceNeg, Int.reduceEq, Int.reduceNe, Nat.reduceBEq, Nat.reduceMul, Nat.reducePow, Int.cast_ofNat_Int, *]))) | fail)
    all_goals rfl
  | false =>
    cases B with
    | true =>
      (simp only [go_sem, reduceIte, Nat.reduceEqDiff, Nat.reduceLT, Nat.reduceLeDiff, Nat.reduceAdd, reduceCtorEq, Int.reduceToNat, Int.reduceLE, Int.reduceLT, Int.reduceNeg, Int.reduceEq, Int.reduceNe, Nat.reduceBEq, Nat.reduceMul, Nat.reducePow, Int.cast_ofNat_Int, *])
      (repeat' first | ((first | refine split_d ?_ ?_ | refine split_gt rfl ?_ ?_ | refine split_gf rfl ?_ ?_ | refine split_b ?_ ?_ | refine split_gb rfl ?_ ?_) <;> intro _ <;> ((try simp only [go_sem, reduceIte, Nat.reduceEqDiff, Nat.reduceLT, Nat.reduceLeDiff, Nat.reduceAdd, reduceCtorEq, Int.reduceToNat, Int.reduceLE, Int.reduceLT, Int.reduceNeg, Int.reduceEq, Int.reduceNe, Nat.reduceBEq, Nat.reduceMul, Nat.reducePow, Int.cast_ofNat_Int, *]))) | ((first | (refine OpW_call rfl rfl call23 rfl ((hn _).mono ?_)) | (refine OpW_call rfl rfl call25 rfl ((hd _).mono ?_)) | fail) <;> (rintro p_ S_ ⟨rfl, rfl⟩; (try simp only [go_sem, reduceIte, Nat.reduceEqDiff, Nat.reduceLT, Nat.reduceLeDiff, Nat.reduceAdd, reduceCtorEq, Int.reduceToNat, Int.reduceLE, Int.reduceLT, Int.reduceNeg, Int.reduceEq, Int.reduceNe, Nat.reduceBEq, Nat.reduceMul, Nat.reducePow, Int.cast_ofNat_Int, *]))) | fail)
      all_goals rfl
    | false =>
      rcases t with _ | ⟨c, _ | ⟨d, r⟩⟩
      · (simp only [go_sem, reduceIte, Nat.reduceEqDiff, Nat.reduceLT, Nat.reduceLeDiff, Nat.reduceAdd, reduceCtorEq, Int.reduceToNat, Int.reduceLE, Int.reduceLT, Int.reduceNeg, Int.reduceEq, Int.reduceNe, Nat.reduceBEq, Nat.reduceMul, Nat.reducePow, Int.cast_ofNat_Int, *])
        (repeat' first | ((first | refine split_d ?_ ?_ | refine split_gt rfl ?_ ?_ | refine split_gf rfl ?_ ?_ | refine split_b ?_ ?_ | refine split_gb rfl ?_ ?_) <;> intro _ <;> ((try simp only [go_sem, reduceIte, Nat.reduceEqDiff, Nat.reduceLT, Nat.reduceLeDiff, Nat.reduceAdd, reduceCtorEq, Int.reduceToNat, Int.reduceLE, Int.reduceLT, Int.reduceNeg, Int.reduceEq, Int.reduceNe, Nat.reduceBEq, Nat.reduceMul, Nat.reducePow, Int.cast_ofNat_Int, *]))) | ((first | (refine OpW_call rfl rfl call23 rfl ((hn _).mono ?_)) | (refine OpW_call rfl rfl call25 rfl ((hd _).mono ?_)) | fail) <;> (rintro p_ S_ ⟨rfl, rfl⟩; (try simp only [go_sem, reduceIte, Nat.reduceEqDiff, Nat.reduceLT, Nat.reduceLeDiff, Nat.reduceAdd, reduceCtorEq, Int.reduceToNat, Int.reduceLE, Int.reduceLT, Int.reduceNeg, Int.reduceEq, Int.reduceNe, Nat.reduceBEq, Nat.reduceMul, Nat.reducePow, Int.cast_ofNat_Int, *]))) | fail)
        all_goals rfl
      · have hsp := special_calls c
        (simp only [go_sem, reduceIte, Nat.reduceEqDiff, Nat.reduceLT, Nat.reduceLeDiff, Nat.reduceAdd, reduceCtorEq, Int.reduceToNat, Int.reduceLE, Int.reduceLT, Int.reduceNeg, Int.reduceEq, Int.reduceNe, Nat.reduceBEq, Nat.reduceMul, Nat.reducePow, Int.cast_ofNat_Int, *])
        (repeat' first | ((first | refine split_d ?_ ?_ | refine split_gt rfl ?_ ?_ | refine split_gf rfl ?_ ?_ | refine split_b ?_ ?_ | refine split_gb rfl ?_ ?_) <;> intro _ <;> ((try simp only [go_sem, reduceIte, Nat.reduceEqDiff, Nat.reduceLT, Nat.reduceLeDiff, Nat.reduceAdd, reduceCtorEq, Int.reduceToNat, Int.reduceLE, Int.reduceLT, Int.reduceNeg, Int.reduceEq, Int.reduceNe, Nat.reduceBEq, Nat.reduceMul, Nat.reducePow, Int.cast_ofNat_Int, *]))) | ((first | (refine OpW_call rfl rfl call23 rfl ((hn _).mono ?_)) | (refine OpW_call rfl rfl call25 rfl ((hd _).mono ?_)) | (refine OpW_call rfl rfl call21 rfl ((hsp _).mono ?_)) | fail) <;> (rintro p_ S_ ⟨rfl, rfl⟩; (try simp only [go_sem, reduceIte, Nat.reduceEqDiff, Nat.reduceLT, Nat.reduceLeDiff, Nat.reduceAdd, reduceCtorEq, Int.reduceToNat, Int.reduceLE, Int.reduceLT, Int.reduceNeg, Int.reduceEq, Int.reduceNe, Nat.reduceBEq, Nat.reduceMul, Nat.reducePow, Int.cast_ofNat_Int, *]))) | fail)
        all_goals rfl
      · have hl2 : ¬ ((r.length + 1 + 1 : Nat) : Int) = 1 := by omega
        (simp only [go_sem, reduceIte, Nat.reduceEqDiff, Nat.reduceLT, Nat.reduceLeDiff, Nat.reduceAdd, reduceCtorEq, Int.reduceToNat, Int.reduceLE, Int.reduceLT, Int.reduceNeg, Int.reduceEq, Int.reduceNe, Nat.reduceBEq, Nat.reduceMul, Nat.reducePow, Int.cast_ofNat_Int, *])
        (repeat' first | ((first | refine split_d ?_ ?_ | refine split_gt rfl ?_ ?_ | refine split_gf rfl ?_ ?_ | refine split_b ?_ ?_ | refine split_gb rfl ?_ ?_) <;> intro _ <;> ((try simp only [go_sem, reduceIte, Nat.reduceEqDiff, Nat.reduceLT, Nat.reduceLeDiff, Nat.reduceAdd, reduceCtorEq, Int.reduceToNat, Int.reduceLE, Int.reduceLT, Int.reduceNeg, Int.reduceEq, Int.reduceNe, Nat.reduceBEq, Nat.reduceMul, Nat.reducePow, Int.cast_ofNat_Int, *]))) | ((first | (refine OpW_call rfl rfl call23 rfl ((hn _).mono ?_)) | (refine OpW_call rfl rfl call25 rfl ((hd _).mono ?_)) | fail) <;> (rintro p_ S_ ⟨rfl, rfl⟩; (try simp only [go_sem, reduceIte, Nat.reduceEqDiff, Nat.reduceLT, Nat.reduceLeDiff, Nat.reduceAdd, reduceCtorEq, Int.reduceToNat, Int.reduceLE, Int.reduceLT, Int.reduceNeg, Int.reduceEq, Int.reduceNe, Nat.reduceBEq, Nat.reduceMul, Nat.reducePow, Int.cast_ofNat_Int, *]))) | fail)
        all_goals rfl
theorem op_alt (s : List UInt8) : isOp s = (decide (Lib.trimPrefix s [58] = [45]) || (decide (Lib.trimPrefix s [58] = [61]) || (decide (Lib.trimPrefix s [58] = [63]) || (decide (Lib.trimPrefix s [58] = [43]) || (decide (s = [37]) || (decide (s = [37, 37]) || (decide (s = [35]) || decide (s = [35, 35])))))))) := by
  rw [Bool.eq_iff_iff]
  unfold isOp opsL Lib.trimPrefix Lib.hasPrefix
  simp only [decide_eq_true_eq, Bool.or_eq_true, List.mem_cons, List.not_mem_nil, or_false]
  rcases s with _ | ⟨c, r⟩
  · simp
  · by_cases hc : c = 58
    · subst hc
      simp [List.isPrefixOf]
      try grind
    · have hc' : ¬ (58 : UInt8) = c := fun h => hc h.symm
      simp [List.isPrefixOf, hc, hc']
      try grind
theorem operator_calls (s : List UInt8) (S : Heap) : CallsQ Try.prog 182 [.str s] S (.bool (isOp s)) := by
  have ht := trimPrefix_calls s [58]
  rw [op_alt]
  generalize Lib.trimPrefix s [58] = r at *
  refine CallsA_W (fun _ => false) Try.func182 rfl (Nat.le_of_ble_eq_true rfl) ?_
  simp only [Try.f182]
  (simp only [go_sem, reduceIte, Nat.reduceEqDiff, Nat.reduceLT, Nat.reduceLeDiff, Nat.reduceAdd, reduceCtorEq, Int.reduceToNat, Int.reduceLE, Int.reduceLT, Int.reduceNeg, Int.reduceEq, Int.reduceNe, Nat.reduceBEq, Nat.reduceMul, Nat.reducePow, Int.cast_ofNat_Int, *])
  (repeat' first | ((first | refine split_d ?_ ?_ | refine split_gt rfl ?_ ?_ | refine split_gf rfl ?_ ?_ | refine split_b ?_ ?_ | refine split_gb rfl ?_ ?_) <;> intro _ <;> ((try simp only [go_sem, reduceIte, Nat.reduceEqDiff, Nat.reduceLT, Nat.reduceLeDiff, Nat.reduceAdd, reduceCtorEq, Int.reduceToNat, Int.reduceLE, Int.reduceLT, Int.reduceNeg, Int.reduceEq, Int.reduceNe, Nat.reduceBEq, Nat.reduceMul, Nat.reducePow, Int.cast_ofNat_Int, *]))) | ((first | (refine OpW_call rfl rfl call196 rfl ((ht _).mono ?_)) | fail) <;> (rintro p_ S_ ⟨rfl, rfl⟩; (try simp only [go_sem, reduceIte, Nat.reduceEqDiff, Nat.reduceLT, Nat.reduceLeDiff, Nat.reduceAdd, reduceCtorEq, Int.reduceToNat, Int.reduceLE, Int.reduceLT, Int.reduceNeg, Int.reduceEq, Int.reduceNe, Nat.reduceBEq, Nat.reduceMul, Nat.reducePow, Int.cast_ofNat_Int, *]))) | fail)
  all_goals simp [*]

/-! meet -/
theorem suffix_last (s : List UInt8) (c : UInt8) : Lib.hasSuffix s [c] = decide (s.getLast? = some c) := by
  unfold Lib.hasSuffix
  rw [Bool.eq_iff_iff, decide_eq_true_eq, List.isSuffixOf_iff_suffix]
  constructor
  · rintro ⟨t, rfl⟩; simp
  · intro h
    obtain ⟨t, rfl⟩ := List.getLast?_eq_some_iff.1 h
    exact ⟨t, rfl⟩
theorem meet_calls (a p : Pt) (ha : a.text.length ≤ 4611686018427387904) (S : Heap) : CallsQ Try.prog 142 [.agg [.int .i64 a.k, .str a.text, .str a.op, .slice 5 (prows a.kids), .slice 10 a.cmds], .agg [.int .i64 p.k, .str p.text, .str p.op, .slice 5 (prows p.kids), .slice 10 p.cmds]] S (.bool (meetOk (some a) p)) := by
  have hs := hasSuffix_calls a.text [36] (by omega)
  simp only [suffix_last] at hs
  unfold meetOk
  refine CallsA_W (fun _ => false) Try.func142 rfl (Nat.le_of_ble_eq_true rfl) ?_
  simp only [Try.f142]
  (simp only [go_sem, reduceIte, Nat.reduceEqDiff, Nat.reduceLT, Nat.reduceLeDiff, Nat.reduceAdd, reduceCtorEq, Int.reduceToNat, Int.reduceLE, Int.reduceLT, Int.reduceNeg, Int.reduceEq, Int.reduceNe, Nat.reduceBEq, Nat.reduceMul, Nat.reducePow, Int.cast_ofNat_Int, *])
  (repeat' first | ((first | refine split_d ?_ ?_ | refine split_gt rfl ?_ ?_ | refine split_gf rfl ?_ ?_ | refine split_b ?_ ?_ | refine split_gb rfl ?_ ?_) <;> intro _ <;> ((try simp only [go_sem, reduceIte, Nat.reduceEqDiff, Nat.reduceLT, Nat.reduceLeDiff, Nat.reduceAdd, reduceCtorEq, Int.reduceToNat, Int.reduceLE, Int.reduceLT, Int.reduceNeg, Int.reduceEq, Int.reduceNe, Nat.reduceBEq, Nat.reduceMul, Nat.reducePow, Int.cast_ofNat_Int, *]))) | ((first | (refine OpW_call rfl rfl call122 rfl ((hs _).mono ?_)) | fail) <;> (rintro p_ S_ ⟨rfl, rfl⟩; (try simp only [go_sem, reduceIte, Nat.reduceEqDiff, Nat.reduceLT, Nat.reduceLeDiff, Nat.reduceAdd, reduceCtorEq, Int.reduceToNat, Int.reduceLE, Int.reduceLT, Int.reduceNeg, Int.reduceEq, Int.reduceNe, Nat.reduceBEq, Nat.reduceMul, Nat.reducePow, Int.cast_ofNat_Int, *]))) | fail)
  all_goals simp [*]

end Go.Proofs.Ytcbonfgkfiapaaa.Pv

/-! What package part computes: a parameter, one part. -/
set_option linter.unusedVariables false
set_option linter.unusedSimpArgs false
set_option maxRecDepth 100000
set_option maxHeartbeats 40000000
namespace Go.Proofs.Ytcbonfgkfiapaaa.Pv
open Go Go.RowKit

def AllD (n : Nat) : Prop := ∀ (l : List Pt) (pl : Int), bulks l ≤ n → (pl = 0 ∨ pl = 1 ∨ pl = 2) → ∀ S, CallsQ Try.prog 114 [.int .i64 pl, .slice 5 (prows l)] S (.bool (allP pl none l))
theorem prefix_head (s : List UInt8) (c : UInt8) : Lib.hasPrefix s [c] = decide (s.head? = some c) := by
  cases s with
  | nil => rfl
  | cons b s =>
    unfold Lib.hasPrefix
    rw [Bool.eq_iff_iff]
    simp [List.isPrefixOf]
    exact eq_comm
theorem param_calls {n : Nat} (ih : AllD n) (k : Int) (t o : List UInt8) (ks : List Pt) (cs : List (List PV)) (hk : bulks ks ≤ n) (ht : t.length ≤ 4611686018427387904) (S : Heap) :
    CallsQ Try.prog 165 [.agg [.int .i64 k, .str t, .str o, .slice 5 (prows ks), .slice 10 cs]] S (.bool (paramOk t o ks (allP 2 none ks))) := by
  refine CallsA_W (fun _ => false) Try.func165 rfl (Nat.le_of_ble_eq_true rfl) ?_
  simp only [Try.f165]
  have hn := named_calls t ht
  have ha := ih ks 2 hk (Or.inr (Or.inr rfl))
  clear ih hk ht
  generalize allP 2 none ks = B at *
  generalize hN : okNm t = N at *
  cases N with
  | false =>
    (simp only [go_sem, reduceIte, Nat.reduceEqDiff, Nat.reduceLT, Nat.reduceLeDiff, Nat.reduceAdd, reduceCtorEq, Int.reduceToNat, Int.reduceLE, Int.reduceLT, Int.reduceNeg, Int.reduceEq, Int.reduceNe, Nat.reduceBEq, Nat.reduceMul, Nat.reducePow, Int.cast_ofNat_Int, *])
    (repeat' first | ((first | refine split_d ?_ ?_ | refine split_gt rfl ?_ ?_ | refine split_gf rfl ?_ ?_ | refine split_b ?_ ?_ | refine split_gb rfl ?_ ?_) <;> intro _ <;> ((try simp only [go_sem, reduceIte, Nat.reduceEqDiff, Nat.reduceLT, Nat.reduceLeDiff, Nat.reduceAdd, reduceCtorEq, Int.reduceToNat, Int.reduceLE, Int.reduceLT, Int.reduceNeg, Int.reduceEq, Int.reduceNe, Nat.reduceBEq, Nat.reduceMul, Nat.reducePow, Int.cast_ofNat_Int, *]))) | ((first | (refine OpW_call rfl rfl call181 rfl ((hn _).mono ?_)) | (refine OpW_call rfl rfl call182 rfl ((operator_calls _ _).mono ?_)) | (refine OpW_call rfl rfl call114 rfl ((ha _).mono ?_)) | fail) <;> (rintro p_ S_ ⟨rfl, rfl⟩; (try simp only [go_sem, reduceIte, Nat.reduceEqDiff, Nat.reduceLT, Nat.reduceLeDiff, Nat.reduceAdd, reduceCtorEq, Int.reduceToNat, Int.reduceLE, Int.reduceLT, Int.reduceNeg, Int.reduceEq, Int.reduceNe, Nat.reduceBEq, Nat.reduceMul, Nat.reducePow, Int.cast_ofNat_Int, *]))) | fail)
    all_goals first
      | (simp_all only [paramOk, reduceIte, Bool.true_eq_false, Bool.false_eq_true, Bool.not_eq_true', Bool.not_eq_false', Bool.not_true, Bool.not_false, or_true, true_or, or_false, false_or, not_true_eq_false, not_false_eq_true, and_true, true_and, and_false, false_and, Int.natCast_eq_zero, true_or, reduceCtorEq]; done)
      | (simp_all [paramOk]; done)
      | skip
  | true =>
    (simp only [go_sem, reduceIte, Nat.reduceEqDiff, Nat.reduceLT, Nat.reduceLeDiff, Nat.reduceAdd, reduceCtorEq, Int.reduceToNat, Int.reduceLE, Int.reduceLT, Int.reduceNeg, Int.reduceEq, Int.reduceNe, Nat.reduceBEq, Nat.reduceMul, Nat.reducePow, Int.cast_ofNat_Int, *])
    (repeat' first | ((first | refine split_d ?_ ?_ | refine split_gt rfl ?_ ?_ | refine split_gf rfl ?_ ?_ | refine split_b ?_ ?_ | refine split_gb rfl ?_ ?_) <;> intro _ <;> ((try simp only [go_sem, reduceIte, Nat.reduceEqDiff, Nat.reduceLT, Nat.reduceLeDiff, Nat.reduceAdd, reduceCtorEq, Int.reduceToNat, Int.reduceLE, Int.reduceLT, Int.reduceNeg, Int.reduceEq, Int.reduceNe, Nat.reduceBEq, Nat.reduceMul, Nat.reducePow, Int.cast_ofNat_Int, *]))) | ((first | (refine OpW_call rfl rfl call181 rfl ((hn _).mono ?_)) | (refine OpW_call rfl rfl call182 rfl ((operator_calls _ _).mono ?_)) | (refine OpW_call rfl rfl call114 rfl ((ha _).mono ?_)) | fail) <;> (rintro p_ S_ ⟨rfl, rfl⟩; (try simp only [go_sem, reduceIte, Nat.reduceEqDiff, Nat.reduceLT, Nat.reduceLeDiff, Nat.reduceAdd, reduceCtorEq, Int.reduceToNat, Int.reduceLE, Int.reduceLT, Int.reduceNeg, Int.reduceEq, Int.reduceNe, Nat.reduceBEq, Nat.reduceMul, Nat.reducePow, Int.cast_ofNat_Int, *]))) | fail)
    all_goals first
      | (simp_all only [paramOk, reduceIte, Bool.true_eq_false, Bool.false_eq_true, Bool.not_eq_true', Bool.not_eq_false', Bool.not_true, Bool.not_false, or_true, true_or, or_false, false_or, not_true_eq_false, not_false_eq_true, and_true, true_and, and_false, false_and, Int.natCast_eq_zero, true_or, reduceCtorEq]; done)
      | (simp_all [paramOk]; done)
      | skip
    all_goals
      rename_i hk0
      cases ks with
      | nil => exact absurd rfl hk0
      | cons q ks =>
        have hpf := hasPrefix_calls q.text
        by_cases hq : q.k = 1
        · have ho : o = [37] ∨ o = [35] := by
            apply Classical.byContradiction
            intro h
            simp_all
          rcases ho with rfl | rfl
          · have hp := hpf [37]
            simp only [prefix_head] at hp
            clear hpf
            refine CodeW_quiet mixed 17 (by kernel_rfl) ?_
            (simp only [go_sem, reduceIte, Nat.reduceEqDiff, Nat.reduceLT, Nat.reduceLeDiff, Nat.reduceAdd, reduceCtorEq, Int.reduceToNat, Int.reduceLE, Int.reduceLT, Int.reduceNeg, Int.reduceEq, Int.reduceNe, Nat.reduceBEq, Nat.reduceMul, Nat.reducePow, Int.cast_ofNat_Int, *])
            refine QCW_call rfl rfl call104 (hp _) ?_
            (simp only [go_sem, reduceIte, Nat.reduceEqDiff, Nat.reduceLT, Nat.reduceLeDiff, Nat.reduceAdd, reduceCtorEq, Int.reduceToNat, Int.reduceLE, Int.reduceLT, Int.reduceNeg, Int.reduceEq, Int.reduceNe, Nat.reduceBEq, Nat.reduceMul, Nat.reducePow, Int.cast_ofNat_Int, *])
            simp_all [paramOk, firstOk] <;> (by_cases hz : q.text.head? = some 37 <;> simp [hz])
          · have hp := hpf [35]
            simp only [prefix_head] at hp
            clear hpf
            refine CodeW_quiet mixed 17 (by kernel_rfl) ?_
            (simp only [go_sem, reduceIte, Nat.reduceEqDiff, Nat.reduceLT, Nat.reduceLeDiff, Nat.reduceAdd, reduceCtorEq, Int.reduceToNat, Int.reduceLE, Int.reduceLT, Int.reduceNeg, Int.reduceEq, Int.reduceNe, Nat.reduceBEq, Nat.reduceMul, Nat.reducePow, Int.cast_ofNat_Int, *])
            refine QCW_call rfl rfl call104 (hp _) ?_
            (simp only [go_sem, reduceIte, Nat.reduceEqDiff, Nat.reduceLT, Nat.reduceLeDiff, Nat.reduceAdd, reduceCtorEq, Int.reduceToNat, Int.reduceLE, Int.reduceLT, Int.reduceNeg, Int.reduceEq, Int.reduceNe, Nat.reduceBEq, Nat.reduceMul, Nat.reducePow, Int.cast_ofNat_Int, *])
            simp_all [paramOk, firstOk] <;> (by_cases hz : q.text.head? = some 35 <;> simp [hz])
        · clear hpf
          refine CodeW_quiet mixed 17 (by kernel_rfl) ?_
          (simp only [go_sem, reduceIte, Nat.reduceEqDiff, Nat.reduceLT, Nat.reduceLeDiff, Nat.reduceAdd, reduceCtorEq, Int.reduceToNat, Int.reduceLE, Int.reduceLT, Int.reduceNeg, Int.reduceEq, Int.reduceNe, Nat.reduceBEq, Nat.reduceMul, Nat.reducePow, Int.cast_ofNat_Int, *])
          simp_all [paramOk, firstOk]

/-! one -/
def plainOk (k : Int) (t o : List UInt8) (ks : List Pt) (cs : List (List PV)) : Bool :=
  if k = 5 then decide ((cs.length : Int) = 0)
  else if k = 4 then decide (t = []) && (decide (o = []) && decide ((cs.length : Int) = 0))
  else if k = 6 then decide (t = []) && (decide (o = []) && decide ((ks.length : Int) = 0))
  else decide (o = []) && (decide ((ks.length : Int) = 0) && decide ((cs.length : Int) = 0))
theorem plain24_calls (k : Int) (t o : List UInt8) (ks : List Pt) (cs : List (List PV)) (S : Heap) :
    CallsQ Try.prog 162 [.agg [.int .i64 k, .str t, .str o, .slice 5 (prows ks), .slice 10 cs]] S (.bool (plainOk k t o ks cs)) := by
  unfold plainOk
  refine CallsA_W (fun _ => false) Try.func162 rfl (Nat.le_of_ble_eq_true rfl) ?_
  simp only [Try.f162]
  (simp only [go_sem, reduceIte, Nat.reduceEqDiff, Nat.reduceLT, Nat.reduceLeDiff, Nat.reduceAdd, reduceCtorEq, Int.reduceToNat, Int.reduceLE, Int.reduceLT, Int.reduceNeg, Int.reduceEq, Int.reduceNe, Nat.reduceBEq, Nat.reduceMul, Nat.reducePow, Int.cast_ofNat_Int, *])
  (repeat' first | ((first | refine split_d ?_ ?_ | refine split_gt rfl ?_ ?_ | refine split_gf rfl ?_ ?_ | refine split_b ?_ ?_ | refine split_gb rfl ?_ ?_) <;> intro _ <;> ((try simp only [go_sem, reduceIte, Nat.reduceEqDiff, Nat.reduceLT, Nat.reduceLeDiff, Nat.reduceAdd, reduceCtorEq, Int.reduceToNat, Int.reduceLE, Int.reduceLT, Int.reduceNeg, Int.reduceEq, Int.reduceNe, Nat.reduceBEq, Nat.reduceMul, Nat.reducePow, Int.cast_ofNat_Int, *]))) | fail)
  all_goals simp [*]
def oneAlt (pl k : Int) (t o : List UInt8) (ks : List Pt) (cs : List (List PV)) (allD allB : Bool) : Bool :=
  if plainOk k t o ks cs = false then false
  else if k = 1 then isLit pl t
  else if k = 2 then escOk pl t
  else if k = 3 then decide (¬ pl = 1) && clearFrom 39 t
  else if k = 4 then decide (¬ pl = 1) && allD
  else if k = 5 then paramOk t o ks allB
  else if k = 6 then true
  else if k = 7 then arithFrom 0 t
  else false
theorem one_alt (pl k : Int) (t o : List UInt8) (ks : List Pt) (cs : List (List PV)) (allD allB : Bool) : oneOk pl k t o ks cs allD allB = oneAlt pl k t o ks cs allD allB := by
  unfold oneOk oneAlt plainOk
  have e1 : ((0 : Int) < (ks.length : Int)) ↔ ¬ (ks.length : Int) = 0 := by omega
  have e2 : ((0 : Int) < (cs.length : Int)) ↔ ¬ (cs.length : Int) = 0 := by omega
  simp only [e1, e2]
  by_cases hK : (ks.length : Int) = 0 <;> by_cases hC : (cs.length : Int) = 0 <;> by_cases hO : o = [] <;> by_cases hT : t = []
  all_goals
    by_cases k5 : k = 5
    · simp [hK, hC, hO, hT, k5]
    · by_cases k4 : k = 4
      · simp [hK, hC, hO, hT, k4]
      · by_cases k6 : k = 6
        · simp [hK, hC, hO, hT, k6]
        · simp [hK, hC, hO, hT, k4, k5, k6]
theorem clear_any (t : List UInt8) : Lib.containsAny t [0, 39] = !clearFrom 39 t := by
  have h : ∀ t : List UInt8, clearFrom 39 t = true ↔ ¬ ∃ b ∈ t, b ∈ [(0 : UInt8), 39] := by
    intro t
    induction t with
    | nil => simp [clearFrom]
    | cons b r ih =>
      simp only [clearFrom, Bool.and_eq_true, ih, decide_eq_true_eq]
      by_cases b0 : b = 0 <;> by_cases b1 : b = 39 <;> simp_all
  unfold Lib.containsAny
  rw [Bool.eq_iff_iff, decide_eq_true_eq, any_iff, Bool.not_eq_true']
  constructor
  · intro h1
    cases h2 : clearFrom 39 t with
    | false => rfl
    | true => exact absurd h1 ((h t).1 h2)
  · intro h1
    apply Classical.byContradiction
    intro h2
    rw [(h t).2 h2] at h1
    cases h1

theorem one_calls {n : Nat} (ih : AllD n) (pl k : Int) (hp : pl = 0 ∨ pl = 1 ∨ pl = 2) (t o : List UInt8) (ks : List Pt) (cs : List (List PV)) (hk : bulks ks ≤ n) (ht : t.length ≤ 1048576) (S : Heap) :
    CallsQ Try.prog 141 [.int .i64 pl, .agg [.int .i64 k, .str t, .str o, .slice 5 (prows ks), .slice 10 cs]] S (.bool (oneOk pl k t o ks cs (allP 1 none ks) (allP 2 none ks))) := by
  rw [one_alt]
  refine CallsA_W (fun _ => false) Try.func141 rfl (Nat.le_of_ble_eq_true rfl) ?_
  simp only [Try.f141]
  have hlit := literal_calls t (by omega) pl hp
  have har := arith_calls t (by omega)
  have hcl := any39_calls t (by omega)
  simp only [clear_any] at hcl
  have hal := ih ks 1 hk (Or.inr (Or.inl rfl))
  have hpa := fun k => param_calls ih k t o ks cs hk (by omega)
  have hpl := fun k => plain24_calls k t o ks cs
  clear ih hk ht
  generalize allP 1 none ks = B1 at *
  generalize allP 2 none ks = B2 at *
  generalize hP : plainOk k t o ks cs = P0
  cases P0 with
  | false =>
    have hpl' := hpl k
    rw [hP] at hpl'
    clear hpl
    (simp only [go_sem, reduceIte, Nat.reduceEqDiff, Nat.reduceLT, Nat.reduceLeDiff, Nat.reduceAdd, reduceCtorEq, Int.reduceToNat, Int.reduceLE, Int.reduceLT, Int.reduceNeg, Int.reduceEq, Int.reduceNe, Nat.reduceBEq, Nat.reduceMul, Nat.reducePow, Int.cast_ofNat_Int, *])
    (repeat' first | ((first | refine split_d ?_ ?_ | refine split_gt rfl ?_ ?_ | refine split_gf rfl ?_ ?_ | refine split_b ?_ ?_ | refine split_gb rfl ?_ ?_) <;> intro _ <;> ((try simp only [go_sem, reduceIte, Nat.reduceEqDiff, Nat.reduceLT, Nat.reduceLeDiff, Nat.reduceAdd, reduceCtorEq, Int.reduceToNat, Int.reduceLE, Int.reduceLT, Int.reduceNeg, Int.reduceEq, Int.reduceNe, Nat.reduceBEq, Nat.reduceMul, Nat.reducePow, Int.cast_ofNat_Int, *]))) | ((first | (refine OpW_call rfl rfl call162 rfl ((hpl' _).mono ?_)) | fail) <;> (rintro p_ S_ ⟨rfl, rfl⟩; (try simp only [go_sem, reduceIte, Nat.reduceEqDiff, Nat.reduceLT, Nat.reduceLeDiff, Nat.reduceAdd, reduceCtorEq, Int.reduceToNat, Int.reduceLE, Int.reduceLT, Int.reduceNeg, Int.reduceEq, Int.reduceNe, Nat.reduceBEq, Nat.reduceMul, Nat.reducePow, Int.cast_ofNat_Int, *]))) | fail)
    all_goals first
      | rfl
      | (unfold oneAlt; simp only [reduceIte, Int.reduceEq, Bool.true_eq_false, *]; first | done | (simp [*]; done))
      | (unfold oneAlt; simp [*]; done)
  | true =>
    have hpl' := hpl k
    rw [hP] at hpl'
    clear hpl
    by_cases k5 : k = 5
    · subst k5
      (simp only [go_sem, reduceIte, Nat.reduceEqDiff, Nat.reduceLT, Nat.reduceLeDiff, Nat.reduceAdd, reduceCtorEq, Int.reduceToNat, Int.reduceLE, Int.reduceLT, Int.reduceNeg, Int.reduceEq, Int.reduceNe, Nat.reduceBEq, Nat.reduceMul, Nat.reducePow, Int.cast_ofNat_Int, *])
      (repeat' first | ((first | refine split_d ?_ ?_ | refine split_gt rfl ?_ ?_ | refine split_gf rfl ?_ ?_ | refine split_b ?_ ?_ | refine split_gb rfl ?_ ?_) <;> intro _ <;> ((try simp only [go_sem, reduceIte, Nat.reduceEqDiff, Nat.reduceLT, Nat.reduceLeDiff, Nat.reduceAdd, reduceCtorEq, Int.reduceToNat, Int.reduceLE, Int.reduceLT, Int.reduceNeg, Int.reduceEq, Int.reduceNe, Nat.reduceBEq, Nat.reduceMul, Nat.reducePow, Int.cast_ofNat_Int, *]))) | ((first | (refine OpW_call rfl rfl call162 rfl ((hpl' _).mono ?_)) | (refine OpW_call rfl rfl call165 rfl ((hpa _ _).mono ?_)) | fail) <;> (rintro p_ S_ ⟨rfl, rfl⟩; (try simp only [go_sem, reduceIte, Nat.reduceEqDiff, Nat.reduceLT, Nat.reduceLeDiff, Nat.reduceAdd, reduceCtorEq, Int.reduceToNat, Int.reduceLE, Int.reduceLT, Int.reduceNeg, Int.reduceEq, Int.reduceNe, Nat.reduceBEq, Nat.reduceMul, Nat.reducePow, Int.cast_ofNat_Int, *]))) | fail)
      all_goals first
        | rfl
        | (unfold oneAlt; simp only [reduceIte, Int.reduceEq, Bool.true_eq_false, *]; first | done | (simp [*]; done))
        | (unfold oneAlt; simp [*]; done)
    by_cases k4 : k = 4
    · subst k4
      by_cases p1 : pl = 1
      · (simp only [go_sem, reduceIte, Nat.reduceEqDiff, Nat.reduceLT, Nat.reduceLeDiff, Nat.reduceAdd, reduceCtorEq, Int.reduceToNat, Int.reduceLE, Int.reduceLT, Int.reduceNeg, Int.reduceEq, Int.reduceNe, Nat.reduceBEq, Nat.reduceMul, Nat.reducePow, Int.cast_ofNat_Int, *])
        (repeat' first | ((first | refine split_d ?_ ?_ | refine split_gt rfl ?_ ?_ | refine split_gf rfl ?_ ?_ | refine split_b ?_ ?_ | refine split_gb rfl ?_ ?_) <;> intro _ <;> ((try simp only [go_sem, reduceIte, Nat.reduceEqDiff, Nat.reduceLT, Nat.reduceLeDiff, Nat.reduceAdd, reduceCtorEq, Int.reduceToNat, Int.reduceLE, Int.reduceLT, Int.reduceNeg, Int.reduceEq, Int.reduceNe, Nat.reduceBEq, Nat.reduceMul, Nat.reducePow, Int.cast_ofNat_Int, *]))) | ((first | (refine OpW_call rfl rfl call162 rfl ((hpl' _).mono ?_)) | fail) <;> (rintro p_ S_ ⟨rfl, rfl⟩; (try simp only [go_sem, reduceIte, Nat.reduceEqDiff, Nat.reduceLT, Nat.reduceLeDiff, Nat.reduceAdd, reduceCtorEq, Int.reduceToNat, Int.reduceLE, Int.reduceLT, Int.reduceNeg, Int.reduceEq, Int.reduceNe, Nat.reduceBEq, Nat.reduceMul, Nat.reducePow, Int.cast_ofNat_Int, *]))) | fail)
        all_goals first
          | rfl
          | (unfold oneAlt; simp only [reduceIte, Int.reduceEq, Bool.true_eq_false, *]; first | done | (simp [*]; done))
          | (unfold oneAlt; simp [*]; done)
      · (simp only [go_sem, reduceIte, Nat.reduceEqDiff, Nat.reduceLT, Nat.reduceLeDiff, Nat.reduceAdd, reduceCtorEq, Int.reduceToNat, Int.reduceLE, Int.reduceLT, Int.reduceNeg, Int.reduceEq, Int.reduceNe, Nat.reduceBEq, Nat.reduceMul, Nat.reducePow, Int.cast_ofNat_Int, *])
        (repeat' first | ((first | refine split_d ?_ ?_ | refine split_gt rfl ?_ ?_ | refine split_gf rfl ?_ ?_ | refine split_b ?_ ?_ | refine split_gb rfl ?_ ?_) <;> intro _ <;> ((try simp only [go_sem, reduceIte, Nat.reduceEqDiff, Nat.reduceLT, Nat.reduceLeDiff, Nat.reduceAdd, reduceCtorEq, Int.reduceToNat, Int.reduceLE, Int.reduceLT, Int.reduceNeg, Int.reduceEq, Int.reduceNe, Nat.reduceBEq, Nat.reduceMul, Nat.reducePow, Int.cast_ofNat_Int, *]))) | ((first | (refine OpW_call rfl rfl call162 rfl ((hpl' _).mono ?_)) | (refine OpW_call rfl rfl call114 rfl ((hal _).mono ?_)) | fail) <;> (rintro p_ S_ ⟨rfl, rfl⟩; (try simp only [go_sem, reduceIte, Nat.reduceEqDiff, Nat.reduceLT, Nat.reduceLeDiff, Nat.reduceAdd, reduceCtorEq, Int.reduceToNat, Int.reduceLE, Int.reduceLT, Int.reduceNeg, Int.reduceEq, Int.reduceNe, Nat.reduceBEq, Nat.reduceMul, Nat.reducePow, Int.cast_ofNat_Int, *]))) | fail)
        all_goals first
          | rfl
          | (unfold oneAlt; simp only [reduceIte, Int.reduceEq, Bool.true_eq_false, *]; first | done | (simp [*]; done))
          | (unfold oneAlt; simp [*]; done)
    by_cases k1 : k = 1
    · subst k1
      (simp only [go_sem, reduceIte, Nat.reduceEqDiff, Nat.reduceLT, Nat.reduceLeDiff, Nat.reduceAdd, reduceCtorEq, Int.reduceToNat, Int.reduceLE, Int.reduceLT, Int.reduceNeg, Int.reduceEq, Int.reduceNe, Nat.reduceBEq, Nat.reduceMul, Nat.reducePow, Int.cast_ofNat_Int, *])
      (repeat' first | ((first | refine split_d ?_ ?_ | refine split_gt rfl ?_ ?_ | refine split_gf rfl ?_ ?_ | refine split_b ?_ ?_ | refine split_gb rfl ?_ ?_) <;> intro _ <;> ((try simp only [go_sem, reduceIte, Nat.reduceEqDiff, Nat.reduceLT, Nat.reduceLeDiff, Nat.reduceAdd, reduceCtorEq, Int.reduceToNat, Int.reduceLE, Int.reduceLT, Int.reduceNeg, Int.reduceEq, Int.reduceNe, Nat.reduceBEq, Nat.reduceMul, Nat.reducePow, Int.cast_ofNat_Int, *]))) | ((first | (refine OpW_call rfl rfl call162 rfl ((hpl' _).mono ?_)) | (refine OpW_call rfl rfl call163 rfl ((hlit _).mono ?_)) | fail) <;> (rintro p_ S_ ⟨rfl, rfl⟩; (try simp only [go_sem, reduceIte, Nat.reduceEqDiff, Nat.reduceLT, Nat.reduceLeDiff, Nat.reduceAdd, reduceCtorEq, Int.reduceToNat, Int.reduceLE, Int.reduceLT, Int.reduceNeg, Int.reduceEq, Int.reduceNe, Nat.reduceBEq, Nat.reduceMul, Nat.reducePow, Int.cast_ofNat_Int, *]))) | fail)
      all_goals first
        | rfl
        | (unfold oneAlt; simp only [reduceIte, Int.reduceEq, Bool.true_eq_false, *]; first | done | (simp [*]; done))
        | (unfold oneAlt; simp [*]; done)
    by_cases k3 : k = 3
    · subst k3
      by_cases p1 : pl = 1
      · (simp only [go_sem, reduceIte, Nat.reduceEqDiff, Nat.reduceLT, Nat.reduceLeDiff, Nat.reduceAdd, reduceCtorEq, Int.reduceToNat, Int.reduceLE, Int.reduceLT, Int.reduceNeg, Int.reduceEq, Int.reduceNe, Nat.reduceBEq, Nat.reduceMul, Nat.reducePow, Int.cast_ofNat_Int, *])
        (repeat' first | ((first | refine split_d ?_ ?_ | refine split_gt rfl ?_ ?_ | refine split_gf rfl ?_ ?_ | refine split_b ?_ ?_ | refine split_gb rfl ?_ ?_) <;> intro _ <;> ((try simp only [go_sem, reduceIte, Nat.reduceEqDiff, Nat.reduceLT, Nat.reduceLeDiff, Nat.reduceAdd, reduceCtorEq, Int.reduceToNat, Int.reduceLE, Int.reduceLT, Int.reduceNeg, Int.reduceEq, Int.reduceNe, Nat.reduceBEq, Nat.reduceMul, Nat.reducePow, Int.cast_ofNat_Int, *]))) | ((first | (refine OpW_call rfl rfl call162 rfl ((hpl' _).mono ?_)) | fail) <;> (rintro p_ S_ ⟨rfl, rfl⟩; (try simp only [go_sem, reduceIte, Nat.reduceEqDiff, Nat.reduceLT, Nat.reduceLeDiff, Nat.reduceAdd, reduceCtorEq, Int.reduceToNat, Int.reduceLE, Int.reduceLT, Int.reduceNeg, Int.reduceEq, Int.reduceNe, Nat.reduceBEq, Nat.reduceMul, Nat.reducePow, Int.cast_ofNat_Int, *]))) | fail)
        all_goals first
          | rfl
          | (unfold oneAlt; simp only [reduceIte, Int.reduceEq, Bool.true_eq_false, *]; first | done | (simp [*]; done))
          | (unfold oneAlt; simp [*]; done)
      · (simp only [go_sem, reduceIte, Nat.reduceEqDiff, Nat.reduceLT, Nat.reduceLeDiff, Nat.reduceAdd, reduceCtorEq, Int.reduceToNat, Int.reduceLE, Int.reduceLT, Int.reduceNeg, Int.reduceEq, Int.reduceNe, Nat.reduceBEq, Nat.reduceMul, Nat.reducePow, Int.cast_ofNat_Int, *])
        (repeat' first | ((first | refine split_d ?_ ?_ | refine split_gt rfl ?_ ?_ | refine split_gf rfl ?_ ?_ | refine split_b ?_ ?_ | refine split_gb rfl ?_ ?_) <;> intro _ <;> ((try simp only [go_sem, reduceIte, Nat.reduceEqDiff, Nat.reduceLT, Nat.reduceLeDiff, Nat.reduceAdd, reduceCtorEq, Int.reduceToNat, Int.reduceLE, Int.reduceLT, Int.reduceNeg, Int.reduceEq, Int.reduceNe, Nat.reduceBEq, Nat.reduceMul, Nat.reducePow, Int.cast_ofNat_Int, *]))) | ((first | (refine OpW_call rfl rfl call162 rfl ((hpl' _).mono ?_)) | (refine OpW_call rfl rfl call108 rfl ((hcl _).mono ?_)) | fail) <;> (rintro p_ S_ ⟨rfl, rfl⟩; (try simp only [go_sem, reduceIte, Nat.reduceEqDiff, Nat.reduceLT, Nat.reduceLeDiff, Nat.reduceAdd, reduceCtorEq, Int.reduceToNat, Int.reduceLE, Int.reduceLT, Int.reduceNeg, Int.reduceEq, Int.reduceNe, Nat.reduceBEq, Nat.reduceMul, Nat.reducePow, Int.cast_ofNat_Int, *]))) | fail)
        all_goals first
          | rfl
          | (unfold oneAlt; simp only [reduceIte, Int.reduceEq, Bool.true_eq_false, *]; first | done | (simp [*]; done))
          | (unfold oneAlt; simp [*]; done)
    by_cases k6 : k = 6
    · subst k6
      (simp only [go_sem, reduceIte, Nat.reduceEqDiff, Nat.reduceLT, Nat.reduceLeDiff, Nat.reduceAdd, reduceCtorEq, Int.reduceToNat, Int.reduceLE, Int.reduceLT, Int.reduceNeg, Int.reduceEq, Int.reduceNe, Nat.reduceBEq, Nat.reduceMul, Nat.reducePow, Int.cast_ofNat_Int, *])
      (repeat' first | ((first | refine split_d ?_ ?_ | refine split_gt rfl ?_ ?_ | refine split_gf rfl ?_ ?_ | refine split_b ?_ ?_ | refine split_gb rfl ?_ ?_) <;> intro _ <;> ((try simp only [go_sem, reduceIte, Nat.reduceEqDiff, Nat.reduceLT, Nat.reduceLeDiff, Nat.reduceAdd, reduceCtorEq, Int.reduceToNat, Int.reduceLE, Int.reduceLT, Int.reduceNeg, Int.reduceEq, Int.reduceNe, Nat.reduceBEq, Nat.reduceMul, Nat.reducePow, Int.cast_ofNat_Int, *]))) | ((first | (refine OpW_call rfl rfl call162 rfl ((hpl' _).mono ?_)) | fail) <;> (rintro p_ S_ ⟨rfl, rfl⟩; (try simp only [go_sem, reduceIte, Nat.reduceEqDiff, Nat.reduceLT, Nat.reduceLeDiff, Nat.reduceAdd, reduceCtorEq, Int.reduceToNat, Int.reduceLE, Int.reduceLT, Int.reduceNeg, Int.reduceEq, Int.reduceNe, Nat.reduceBEq, Nat.reduceMul, Nat.reducePow, Int.cast_ofNat_Int, *]))) | fail)
      all_goals first
        | rfl
        | (unfold oneAlt; simp only [reduceIte, Int.reduceEq, Bool.true_eq_false, *]; first | done | (simp [*]; done))
        | (unfold oneAlt; simp [*]; done)
    by_cases k7 : k = 7
    · subst k7
      (simp only [go_sem, reduceIte, Nat.reduceEqDiff, Nat.reduceLT, Nat.reduceLeDiff, Nat.reduceAdd, reduceCtorEq, Int.reduceToNat, Int.reduceLE, Int.reduceLT, Int.reduceNeg, Int.reduceEq, Int.reduceNe, Nat.reduceBEq, Nat.reduceMul, Nat.reducePow, Int.cast_ofNat_Int, *])
      (repeat' first | ((first | refine split_d ?_ ?_ | refine split_gt rfl ?_ ?_ | refine split_gf rfl ?_ ?_ | refine split_b ?_ ?_ | refine split_gb rfl ?_ ?_) <;> intro _ <;> ((try simp only [go_sem, reduceIte, Nat.reduceEqDiff, Nat.reduceLT, Nat.reduceLeDiff, Nat.reduceAdd, reduceCtorEq, Int.reduceToNat, Int.reduceLE, Int.reduceLT, Int.reduceNeg, Int.reduceEq, Int.reduceNe, Nat.reduceBEq, Nat.reduceMul, Nat.reducePow, Int.cast_ofNat_Int, *]))) | ((first | (refine OpW_call rfl rfl call162 rfl ((hpl' _).mono ?_)) | (refine OpW_call rfl rfl call166 rfl ((har _).mono ?_)) | fail) <;> (rintro p_ S_ ⟨rfl, rfl⟩; (try simp only [go_sem, reduceIte, Nat.reduceEqDiff, Nat.reduceLT, Nat.reduceLeDiff, Nat.reduceAdd, reduceCtorEq, Int.reduceToNat, Int.reduceLE, Int.reduceLT, Int.reduceNeg, Int.reduceEq, Int.reduceNe, Nat.reduceBEq, Nat.reduceMul, Nat.reducePow, Int.cast_ofNat_Int, *]))) | fail)
      all_goals first
        | rfl
        | (unfold oneAlt; simp only [reduceIte, Int.reduceEq, Bool.true_eq_false, *]; first | done | (simp [*]; done))
        | (unfold oneAlt; simp [*]; done)
    by_cases k2 : k = 2
    · subst k2
      rcases t with _ | ⟨c, _ | ⟨d, r⟩⟩
      · have e : escOk pl [] = false := rfl
        (simp only [go_sem, reduceIte, Nat.reduceEqDiff, Nat.reduceLT, Nat.reduceLeDiff, Nat.reduceAdd, reduceCtorEq, Int.reduceToNat, Int.reduceLE, Int.reduceLT, Int.reduceNeg, Int.reduceEq, Int.reduceNe, Nat.reduceBEq, Nat.reduceMul, Nat.reducePow, Int.cast_ofNat_Int, *])
        (repeat' first | ((first | refine split_d ?_ ?_ | refine split_gt rfl ?_ ?_ | refine split_gf rfl ?_ ?_ | refine split_b ?_ ?_ | refine split_gb rfl ?_ ?_) <;> intro _ <;> ((try simp only [go_sem, reduceIte, Nat.reduceEqDiff, Nat.reduceLT, Nat.reduceLeDiff, Nat.reduceAdd, reduceCtorEq, Int.reduceToNat, Int.reduceLE, Int.reduceLT, Int.reduceNeg, Int.reduceEq, Int.reduceNe, Nat.reduceBEq, Nat.reduceMul, Nat.reducePow, Int.cast_ofNat_Int, *]))) | ((first | (refine OpW_call rfl rfl call162 rfl ((hpl' _).mono ?_)) | fail) <;> (rintro p_ S_ ⟨rfl, rfl⟩; (try simp only [go_sem, reduceIte, Nat.reduceEqDiff, Nat.reduceLT, Nat.reduceLeDiff, Nat.reduceAdd, reduceCtorEq, Int.reduceToNat, Int.reduceLE, Int.reduceLT, Int.reduceNeg, Int.reduceEq, Int.reduceNe, Nat.reduceBEq, Nat.reduceMul, Nat.reducePow, Int.cast_ofNat_Int, *]))) | fail)
        all_goals first
          | rfl
          | (unfold oneAlt; simp only [reduceIte, Int.reduceEq, Bool.true_eq_false, *]; first | done | (simp [*]; done))
          | (unfold oneAlt; simp [*]; done)
      · have e : escOk pl [c] = (decide (¬ (c.toNat : Int) = 0) && (decide (¬ (c.toNat : Int) = 10) && (decide (¬ pl = 1) || quotb c))) := rfl
        have e0 : ([c] = [(0 : UInt8)]) ↔ (c.toNat : Int) = 0 := by simp only [List.cons.injEq, and_true]; exact (u8_eq (d := 0)).symm
        have e10 : ([c] = [(10 : UInt8)]) ↔ (c.toNat : Int) = 10 := by simp; exact (u8_eq (d := 10)).symm
        by_cases c0 : (c.toNat : Int) = 0
        · have c0' := e0.2 c0
          have ee : escOk pl [c] = false := by rw [e]; simp [c0]
          clear e e0 e10 c0
          simp only [List.cons.injEq, and_true] at c0'
          subst c0'
          (simp only [go_sem, reduceIte, Nat.reduceEqDiff, Nat.reduceLT, Nat.reduceLeDiff, Nat.reduceAdd, reduceCtorEq, Int.reduceToNat, Int.reduceLE, Int.reduceLT, Int.reduceNeg, Int.reduceEq, Int.reduceNe, Nat.reduceBEq, Nat.reduceMul, Nat.reducePow, Int.cast_ofNat_Int, *])
          (repeat' first | ((first | refine split_d ?_ ?_ | refine split_gt rfl ?_ ?_ | refine split_gf rfl ?_ ?_ | refine split_b ?_ ?_ | refine split_gb rfl ?_ ?_) <;> intro _ <;> ((try simp only [go_sem, reduceIte, Nat.reduceEqDiff, Nat.reduceLT, Nat.reduceLeDiff, Nat.reduceAdd, reduceCtorEq, Int.reduceToNat, Int.reduceLE, Int.reduceLT, Int.reduceNeg, Int.reduceEq, Int.reduceNe, Nat.reduceBEq, Nat.reduceMul, Nat.reducePow, Int.cast_ofNat_Int, *]))) | ((first | (refine OpW_call rfl rfl call162 rfl ((hpl' _).mono ?_)) | fail) <;> (rintro p_ S_ ⟨rfl, rfl⟩; (try simp only [go_sem, reduceIte, Nat.reduceEqDiff, Nat.reduceLT, Nat.reduceLeDiff, Nat.reduceAdd, reduceCtorEq, Int.reduceToNat, Int.reduceLE, Int.reduceLT, Int.reduceNeg, Int.reduceEq, Int.reduceNe, Nat.reduceBEq, Nat.reduceMul, Nat.reducePow, Int.cast_ofNat_Int, *]))) | fail)
          all_goals first
            | rfl
            | (unfold oneAlt; simp only [reduceIte, Int.reduceEq, Bool.true_eq_false, *]; first | done | (simp [*]; done))
            | (unfold oneAlt; simp [*]; done)
        · by_cases c10 : (c.toNat : Int) = 10
          · have c10' := e10.2 c10
            have ee : escOk pl [c] = false := by rw [e]; simp [c10]
            clear e e0 e10 c10 c0
            simp only [List.cons.injEq, and_true] at c10'
            subst c10'
            (simp only [go_sem, reduceIte, Nat.reduceEqDiff, Nat.reduceLT, Nat.reduceLeDiff, Nat.reduceAdd, reduceCtorEq, Int.reduceToNat, Int.reduceLE, Int.reduceLT, Int.reduceNeg, Int.reduceEq, Int.reduceNe, Nat.reduceBEq, Nat.reduceMul, Nat.reducePow, Int.cast_ofNat_Int, *])
            (repeat' first | ((first | refine split_d ?_ ?_ | refine split_gt rfl ?_ ?_ | refine split_gf rfl ?_ ?_ | refine split_b ?_ ?_ | refine split_gb rfl ?_ ?_) <;> intro _ <;> ((try simp only [go_sem, reduceIte, Nat.reduceEqDiff, Nat.reduceLT, Nat.reduceLeDiff, Nat.reduceAdd, reduceCtorEq, Int.reduceToNat, Int.reduceLE, Int.reduceLT, Int.reduceNeg, Int.reduceEq, Int.reduceNe, Nat.reduceBEq, Nat.reduceMul, Nat.reducePow, Int.cast_ofNat_Int, *]))) | ((first | (refine OpW_call rfl rfl call162 rfl ((hpl' _).mono ?_)) | fail) <;> (rintro p_ S_ ⟨rfl, rfl⟩; (try simp only [go_sem, reduceIte, Nat.reduceEqDiff, Nat.reduceLT, Nat.reduceLeDiff, Nat.reduceAdd, reduceCtorEq, Int.reduceToNat, Int.reduceLE, Int.reduceLT, Int.reduceNeg, Int.reduceEq, Int.reduceNe, Nat.reduceBEq, Nat.reduceMul, Nat.reducePow, Int.cast_ofNat_Int, *]))) | fail)
            all_goals first
              | rfl
              | (unfold oneAlt; simp only [reduceIte, Int.reduceEq, Bool.true_eq_false, *]; first | done | (simp [*]; done))
              | (unfold oneAlt; simp [*]; done)
          · have f0 : ¬ [c] = [(0 : UInt8)] := fun h => c0 (e0.1 h)
            have f10 : ¬ [c] = [(10 : UInt8)] := fun h => c10 (e10.1 h)
            clear e0 e10
            by_cases p1 : pl = 1
            · subst p1
              (simp only [go_sem, reduceIte, Nat.reduceEqDiff, Nat.reduceLT, Nat.reduceLeDiff, Nat.reduceAdd, reduceCtorEq, Int.reduceToNat, Int.reduceLE, Int.reduceLT, Int.reduceNeg, Int.reduceEq, Int.reduceNe, Nat.reduceBEq, Nat.reduceMul, Nat.reducePow, Int.cast_ofNat_Int, *])
              (repeat' first | ((first | refine split_d ?_ ?_ | refine split_gt rfl ?_ ?_ | refine split_gf rfl ?_ ?_ | refine split_b ?_ ?_ | refine split_gb rfl ?_ ?_) <;> intro _ <;> ((try simp only [go_sem, reduceIte, Nat.reduceEqDiff, Nat.reduceLT, Nat.reduceLeDiff, Nat.reduceAdd, reduceCtorEq, Int.reduceToNat, Int.reduceLE, Int.reduceLT, Int.reduceNeg, Int.reduceEq, Int.reduceNe, Nat.reduceBEq, Nat.reduceMul, Nat.reducePow, Int.cast_ofNat_Int, *]))) | ((first | (refine OpW_call rfl rfl call162 rfl ((hpl' _).mono ?_)) | (refine OpW_call rfl rfl call164 rfl ((quotable_calls _ _).mono ?_)) | fail) <;> (rintro p_ S_ ⟨rfl, rfl⟩; (try simp only [go_sem, reduceIte, Nat.reduceEqDiff, Nat.reduceLT, Nat.reduceLeDiff, Nat.reduceAdd, reduceCtorEq, Int.reduceToNat, Int.reduceLE, Int.reduceLT, Int.reduceNeg, Int.reduceEq, Int.reduceNe, Nat.reduceBEq, Nat.reduceMul, Nat.reducePow, Int.cast_ofNat_Int, *]))) | fail)
              all_goals first
                | rfl
                | (unfold oneAlt; simp only [reduceIte, Int.reduceEq, Bool.true_eq_false, *]; first | done | (simp [*]; done))
                | (unfold oneAlt; simp [*]; done)
            · (simp only [go_sem, reduceIte, Nat.reduceEqDiff, Nat.reduceLT, Nat.reduceLeDiff, Nat.reduceAdd, reduceCtorEq, Int.reduceToNat, Int.reduceLE, Int.reduceLT, Int.reduceNeg, Int.reduceEq, Int.reduceNe, Nat.reduceBEq, Nat.reduceMul, Nat.reducePow, Int.cast_ofNat_Int, *])
              (repeat' first | ((first | refine split_d ?_ ?_ | refine split_gt rfl ?_ ?_ | refine split_gf rfl ?_ ?_ | refine split_b ?_ ?_ | refine split_gb rfl ?_ ?_) <;> intro _ <;> ((try simp only [go_sem, reduceIte, Nat.reduceEqDiff, Nat.reduceLT, Nat.reduceLeDiff, Nat.reduceAdd, reduceCtorEq, Int.reduceToNat, Int.reduceLE, Int.reduceLT, Int.reduceNeg, Int.reduceEq, Int.reduceNe, Nat.reduceBEq, Nat.reduceMul, Nat.reducePow, Int.cast_ofNat_Int, *]))) | ((first | (refine OpW_call rfl rfl call162 rfl ((hpl' _).mono ?_)) | (refine OpW_call rfl rfl call164 rfl ((quotable_calls _ _).mono ?_)) | fail) <;> (rintro p_ S_ ⟨rfl, rfl⟩; (try simp only [go_sem, reduceIte, Nat.reduceEqDiff, Nat.reduceLT, Nat.reduceLeDiff, Nat.reduceAdd, reduceCtorEq, Int.reduceToNat, Int.reduceLE, Int.reduceLT, Int.reduceNeg, Int.reduceEq, Int.reduceNe, Nat.reduceBEq, Nat.reduceMul, Nat.reducePow, Int.cast_ofNat_Int, *]))) | fail)
              all_goals first
                | rfl
                | (unfold oneAlt; simp only [reduceIte, Int.reduceEq, Bool.true_eq_false, *]; first | done | (simp [*]; done))
                | (unfold oneAlt; simp [*]; done)
      · have e : escOk pl (c :: d :: r) = false := rfl
        have hl2 : ¬ ((r.length + 1 + 1 : Nat) : Int) = 1 := by omega
        (simp only [go_sem, reduceIte, Nat.reduceEqDiff, Nat.reduceLT, Nat.reduceLeDiff, Nat.reduceAdd, reduceCtorEq, Int.reduceToNat, Int.reduceLE, Int.reduceLT, Int.reduceNeg, Int.reduceEq, Int.reduceNe, Nat.reduceBEq, Nat.reduceMul, Nat.reducePow, Int.cast_ofNat_Int, *])
        (repeat' first | ((first | refine split_d ?_ ?_ | refine split_gt rfl ?_ ?_ | refine split_gf rfl ?_ ?_ | refine split_b ?_ ?_ | refine split_gb rfl ?_ ?_) <;> intro _ <;> ((try simp only [go_sem, reduceIte, Nat.reduceEqDiff, Nat.reduceLT, Nat.reduceLeDiff, Nat.reduceAdd, reduceCtorEq, Int.reduceToNat, Int.reduceLE, Int.reduceLT, Int.reduceNeg, Int.reduceEq, Int.reduceNe, Nat.reduceBEq, Nat.reduceMul, Nat.reducePow, Int.cast_ofNat_Int, *]))) | ((first | (refine OpW_call rfl rfl call162 rfl ((hpl' _).mono ?_)) | fail) <;> (rintro p_ S_ ⟨rfl, rfl⟩; (try simp only [go_sem, reduceIte, Nat.reduceEqDiff, Nat.reduceLT, Nat.reduceLeDiff, Nat.reduceAdd, reduceCtorEq, Int.reduceToNat, Int.reduceLE, Int.reduceLT, Int.reduceNeg, Int.reduceEq, Int.reduceNe, Nat.reduceBEq, Nat.reduceMul, Nat.reducePow, Int.cast_ofNat_Int, *]))) | fail)
        all_goals first
          | rfl
          | (unfold oneAlt; simp only [reduceIte, Int.reduceEq, Bool.true_eq_false, *]; first | done | (simp [*]; done))
          | (unfold oneAlt; simp [*]; done)
    (simp only [go_sem, reduceIte, Nat.reduceEqDiff, Nat.reduceLT, Nat.reduceLeDiff, Nat.reduceAdd, reduceCtorEq, Int.reduceToNat, Int.reduceLE, Int.reduceLT, Int.reduceNeg, Int.reduceEq, Int.reduceNe, Nat.reduceBEq, Nat.reduceMul, Nat.reducePow, Int.cast_ofNat_Int, *])
    (repeat' first | ((first | refine split_d ?_ ?_ | refine split_gt rfl ?_ ?_ | refine split_gf rfl ?_ ?_ | refine split_b ?_ ?_ | refine split_gb rfl ?_ ?_) <;> intro _ <;> ((try simp only [go_sem, reduceIte, Nat.reduceEqDiff, Nat.reduceLT, Nat.reduceLeDiff, Nat.reduceAdd, reduceCtorEq, Int.reduceToNat, Int.reduceLE, Int.reduceLT, Int.reduceNeg, Int.reduceEq, Int.reduceNe, Nat.reduceBEq, Nat.reduceMul, Nat.reducePow, Int.cast_ofNat_Int, *]))) | ((first | (refine OpW_call rfl rfl call162 rfl ((hpl' _).mono ?_)) | fail) <;> (rintro p_ S_ ⟨rfl, rfl⟩; (try simp only [go_sem, reduceIte, Nat.reduceEqDiff, Nat.reduceLT, Nat.reduceLeDiff, Nat.reduceAdd, reduceCtorEq, Int.reduceToNat, Int.reduceLE, Int.reduceLT, Int.reduceNeg, Int.reduceEq, Int.reduceNe, Nat.reduceBEq, Nat.reduceMul, Nat.reducePow, Int.cast_ofNat_Int, *]))) | fail)
    all_goals first
      | rfl
      | (unfold oneAlt; simp only [reduceIte, Int.reduceEq, Bool.true_eq_false, *]; first | done | (simp [*]; done))
      | (unfold oneAlt; simp [*]; done)

end Go.Proofs.Ytcbonfgkfiapaaa.Pv
