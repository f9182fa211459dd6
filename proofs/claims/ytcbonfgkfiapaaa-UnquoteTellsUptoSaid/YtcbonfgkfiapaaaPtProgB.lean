/- What package part computes: parts, a word; how many, how deep. What package part computes: how deep, how many; commands. What package part computes: how many; commands. What package part and its reference compute: commands. What package part and its reference compute: commands by the reference; parts without commands. What package part computes: whether two are the same. -/
import Derived.Test.YtcbonfgkfiapaaaPtProgA
import Derived.Test.YtcbonfgkfiapaaaCore4
/-! What package part computes: parts, a word; how many, how deep. -/
set_option linter.unusedVariables false
set_option linter.unusedSimpArgs false
set_option maxRecDepth 100000
set_option maxHeartbeats 40000000
namespace Go.Proofs.Ytcbonfgkfiapaaa.Pv
open Go Go.RowKit

theorem all_calls (n : Nat) (hn : n ≤ 1048576) : AllD n := by
  induction n using Nat.strongRecOn with
  | _ n ih =>
    intro l pl hb hp S
    obtain ⟨M, hM⟩ : ∃ M, allP pl none l = M := ⟨_, rfl⟩
    rw [hM]
    have hll : l.length ≤ 1048576 := Nat.le_trans (bulks_len l) (by omega)
    have hone : ∀ (i : Nat) (p : Pt), l[i]? = some p → ∀ S, CallsQ Try.prog 141 [.int .i64 pl, .agg [.int .i64 p.k, .str p.text, .str p.op, .slice 5 (prows p.kids), .slice 10 p.cmds]] S (.bool (oneP pl p)) := by
      intro i p hp' S
      have h1 := bulks_get hp'
      have h2 := bulks_kids p
      have h3 := bulk_eq p
      rw [oneP_eq]
      exact one_calls (ih (bulks p.kids) (by omega) (by omega)) pl p.k hp p.text p.op p.kids p.cmds (Nat.le_refl _) (by omega) S
    refine CallsQ_less ?_
    refine CallsA_W (fun _ => false) Try.func114 rfl (Nat.le_of_ble_eq_true rfl) ?_
    simp only [Try.f114]
    (simp only [go_sem, reduceIte, Nat.reduceEqDiff, Nat.reduceLT, Nat.reduceLeDiff, Nat.reduceAdd, reduceCtorEq, Int.reduceToNat, Int.reduceLE, Int.reduceLT, Int.reduceNeg, Int.reduceEq, Int.reduceNe, Nat.reduceBEq, Nat.reduceMul, Nat.reducePow, Int.cast_ofNat_Int, *])
    refine CodeW_loop (fun m σ' S' => ∃ i : Nat, i + m = l.length ∧ σ' 0 = .int .i64 pl ∧ σ' 1 = .slice 5 (prows l) ∧ σ' 7 = .slice 5 (prows l) ∧ σ' 8 = .int .i64 l.length ∧ σ' 9 = .int .i64 i ∧ S.le S' ∧ allP pl (if i = 0 then none else l[i - 1]?) (l.drop i) = M) l.length ?_ ?_
    · (simp only [go_sem, reduceIte, Nat.reduceEqDiff, Nat.reduceLT, Nat.reduceLeDiff, Nat.reduceAdd, reduceCtorEq, Int.reduceToNat, Int.reduceLE, Int.reduceLT, Int.reduceNeg, Int.reduceEq, Int.reduceNe, Nat.reduceBEq, Nat.reduceMul, Nat.reducePow, Int.cast_ofNat_Int, *])
      exact ⟨0, by omega, rfl, Heap.le_refl S, by simpa using hM⟩
    · rintro m σ' S' ⟨i, h1, h2, h3, h4, h5, h5', hS, h6⟩
      clear hM
      cases hc : l[i]? with
      | none =>
        have hl : l.length ≤ i := List.getElem?_eq_none_iff.1 hc
        have hlt : ¬ ((i : Int) < (l.length : Int)) := by omega
        rw [List.drop_eq_nil_of_le hl] at h6
        simp only [allP] at h6
        subst h6
        clear hone
        (simp only [go_sem, reduceIte, Nat.reduceEqDiff, Nat.reduceLT, Nat.reduceLeDiff, Nat.reduceAdd, reduceCtorEq, Int.reduceToNat, Int.reduceLE, Int.reduceLT, Int.reduceNeg, Int.reduceEq, Int.reduceNe, Nat.reduceBEq, Nat.reduceMul, Nat.reducePow, Int.cast_ofNat_Int, *])
      | some p =>
        have hl := (List.getElem?_eq_some_iff.1 hc).1
        have hlt : (i : Int) < (l.length : Int) := by omega
        have hw := wrap1 hl (by omega)
        have hcall := hone i p hc
        rw [drop_at hc] at h6
        simp only [allP] at h6
        have hk := Keep.mk h6
        clear h6 hone
        (simp only [go_sem, reduceIte, Nat.reduceEqDiff, Nat.reduceLT, Nat.reduceLeDiff, Nat.reduceAdd, reduceCtorEq, Int.reduceToNat, Int.reduceLE, Int.reduceLT, Int.reduceNeg, Int.reduceEq, Int.reduceNe, Nat.reduceBEq, Nat.reduceMul, Nat.reducePow, Int.cast_ofNat_Int, *])
        refine OpW_of (OpA_alloc rfl zeroCells41 (okDst_spec rfl) fun b hb => ?_)
        (simp only [go_sem, reduceIte, Nat.reduceEqDiff, Nat.reduceLT, Nat.reduceLeDiff, Nat.reduceAdd, reduceCtorEq, Int.reduceToNat, Int.reduceLE, Int.reduceLT, Int.reduceNeg, Int.reduceEq, Int.reduceNe, Nat.reduceBEq, Nat.reduceMul, Nat.reducePow, Int.cast_ofNat_Int, *])
        refine OpW_put (es := [.int .i64 p.k, .str p.text, .str p.op, .slice 5 (prows p.kids), .slice 10 p.cmds]) rfl rfl set_self rfl rfl size41 (Nat.le_of_ble_eq_true rfl) rfl ?_
        rw [Heap.set_set]
        have hS2 : S.le (S'.set b (.cells [.int .i64 p.k, .str p.text, .str p.op, .slice 5 (prows p.kids), .slice 10 p.cmds] 41)) := Heap.le_trans hS (Heap.le_set hb)
        (simp only [go_sem, reduceIte, Nat.reduceEqDiff, Nat.reduceLT, Nat.reduceLeDiff, Nat.reduceAdd, reduceCtorEq, Int.reduceToNat, Int.reduceLE, Int.reduceLT, Int.reduceNeg, Int.reduceEq, Int.reduceNe, Nat.reduceBEq, Nat.reduceMul, Nat.reducePow, Int.cast_ofNat_Int, *])
        have hS3 := Keep.mk hS2
        clear hS2
        generalize hB : oneP pl p = B at *
        refine CodeW_quiet mixed 18 (by kernel_rfl) ?_
        cases B with
        | false =>
          (simp only [go_sem, reduceIte, Nat.reduceEqDiff, Nat.reduceLT, Nat.reduceLeDiff, Nat.reduceAdd, reduceCtorEq, Int.reduceToNat, Int.reduceLE, Int.reduceLT, Int.reduceNeg, Int.reduceEq, Int.reduceNe, Nat.reduceBEq, Nat.reduceMul, Nat.reducePow, Int.cast_ofNat_Int, *])
          refine QCW_call rfl rfl call141 (hcall _) ?_
          (simp only [go_sem, reduceIte, Nat.reduceEqDiff, Nat.reduceLT, Nat.reduceLeDiff, Nat.reduceAdd, reduceCtorEq, Int.reduceToNat, Int.reduceLE, Int.reduceLT, Int.reduceNeg, Int.reduceEq, Int.reduceNe, Nat.reduceBEq, Nat.reduceMul, Nat.reducePow, Int.cast_ofNat_Int, *])
          have h6 := hk.of
          simp at h6
          exact ⟨by rw [h6], hS3.of⟩
        | true =>
          cases i with
          | zero =>
            (simp only [go_sem, reduceIte, Nat.reduceEqDiff, Nat.reduceLT, Nat.reduceLeDiff, Nat.reduceAdd, reduceCtorEq, Int.reduceToNat, Int.reduceLE, Int.reduceLT, Int.reduceNeg, Int.reduceEq, Int.reduceNe, Nat.reduceBEq, Nat.reduceMul, Nat.reducePow, Int.cast_ofNat_Int, *])
            refine QCW_call rfl rfl call141 (hcall _) ?_
            (simp only [go_sem, reduceIte, Nat.reduceEqDiff, Nat.reduceLT, Nat.reduceLeDiff, Nat.reduceAdd, reduceCtorEq, Int.reduceToNat, Int.reduceLE, Int.reduceLT, Int.reduceNeg, Int.reduceEq, Int.reduceNe, Nat.reduceBEq, Nat.reduceMul, Nat.reducePow, Int.cast_ofNat_Int, *])
            refine ⟨m - 1, by omega, 1, by omega, ?_, hS3.of, ?_⟩
            · rfl
            · have h6 := hk.of
              simpa [meetOk, hc] using h6
          | succ j =>
            obtain ⟨a, hja⟩ : ∃ a, l[j]? = some a := ⟨_, List.getElem?_eq_getElem (by omega)⟩
            have hw2 : IntKind.i64.wrap (((j + 1 : Nat) : Int) - 1) = (j : Int) := by rw [wrap_in (by omega)]; omega
            have hj0 : (0 : Int) < ((j + 1 : Nat) : Int) := by omega
            have hab := bulks_get hja
            have hatl := bulk_eq a
            have hmt := meet_calls a p (by omega)
            generalize hQ : meetOk (some a) p = Q at *
            clear hab hatl
            cases Q with
            | false =>
              (simp only [go_sem, reduceIte, Nat.reduceEqDiff, Nat.reduceLT, Nat.reduceLeDiff, Nat.reduceAdd, reduceCtorEq, Int.reduceToNat, Int.reduceLE, Int.reduceLT, Int.reduceNeg, Int.reduceEq, Int.reduceNe, Nat.reduceBEq, Nat.reduceMul, Nat.reducePow, Int.cast_ofNat_Int, *])
              refine QCW_call rfl rfl call141 (hcall _) ?_
              (simp only [go_sem, reduceIte, Nat.reduceEqDiff, Nat.reduceLT, Nat.reduceLeDiff, Nat.reduceAdd, reduceCtorEq, Int.reduceToNat, Int.reduceLE, Int.reduceLT, Int.reduceNeg, Int.reduceEq, Int.reduceNe, Nat.reduceBEq, Nat.reduceMul, Nat.reducePow, Int.cast_ofNat_Int, *])
              refine QCW_call rfl rfl call142 (hmt _) ?_
              (simp only [go_sem, reduceIte, Nat.reduceEqDiff, Nat.reduceLT, Nat.reduceLeDiff, Nat.reduceAdd, reduceCtorEq, Int.reduceToNat, Int.reduceLE, Int.reduceLT, Int.reduceNeg, Int.reduceEq, Int.reduceNe, Nat.reduceBEq, Nat.reduceMul, Nat.reducePow, Int.cast_ofNat_Int, *])
              have h6 := hk.of
              simp [hja, hQ] at h6
              exact ⟨by rw [h6], hS3.of⟩
            | true =>
              (simp only [go_sem, reduceIte, Nat.reduceEqDiff, Nat.reduceLT, Nat.reduceLeDiff, Nat.reduceAdd, reduceCtorEq, Int.reduceToNat, Int.reduceLE, Int.reduceLT, Int.reduceNeg, Int.reduceEq, Int.reduceNe, Nat.reduceBEq, Nat.reduceMul, Nat.reducePow, Int.cast_ofNat_Int, *])
              refine QCW_call rfl rfl call141 (hcall _) ?_
              (simp only [go_sem, reduceIte, Nat.reduceEqDiff, Nat.reduceLT, Nat.reduceLeDiff, Nat.reduceAdd, reduceCtorEq, Int.reduceToNat, Int.reduceLE, Int.reduceLT, Int.reduceNeg, Int.reduceEq, Int.reduceNe, Nat.reduceBEq, Nat.reduceMul, Nat.reducePow, Int.cast_ofNat_Int, *])
              refine QCW_call rfl rfl call142 (hmt _) ?_
              (simp only [go_sem, reduceIte, Nat.reduceEqDiff, Nat.reduceLT, Nat.reduceLeDiff, Nat.reduceAdd, reduceCtorEq, Int.reduceToNat, Int.reduceLE, Int.reduceLT, Int.reduceNeg, Int.reduceEq, Int.reduceNe, Nat.reduceBEq, Nat.reduceMul, Nat.reducePow, Int.cast_ofNat_Int, *])
              refine ⟨m - 1, by omega, j + 1 + 1, by omega, rfl, hS3.of, ?_⟩
              have h6 := hk.of
              simpa [hja, hQ, hc] using h6
theorem right_pt_calls (l : List Pt) (hb : bulks l ≤ 1048576) (S : Heap) : CallsQ Try.prog 63 [.agg [.slice 5 (prows l)]] S (.bool (rightW l)) := by
  have hall := fun S => all_calls 1048576 (Nat.le_refl _) l 0 hb (Or.inl rfl) S
  refine CallsA_W (fun _ => false) Try.func63 rfl (Nat.le_of_ble_eq_true rfl) ?_
  simp only [Try.f63]
  rcases l with _ | ⟨p, r⟩
  · (simp only [go_sem, reduceIte, Nat.reduceEqDiff, Nat.reduceLT, Nat.reduceLeDiff, Nat.reduceAdd, reduceCtorEq, Int.reduceToNat, Int.reduceLE, Int.reduceLT, Int.reduceNeg, Int.reduceEq, Int.reduceNe, Nat.reduceBEq, Nat.reduceMul, Nat.reducePow, Int.cast_ofNat_Int, *])
    rfl
  · have hl1 : ¬ ((r.length + 1 : Nat) : Int) = 0 := by omega
    have hr : rightW (p :: r) = (allP 0 none (p :: r) && (decide (¬ p.k = 1) || decide (¬ p.text.head? = some 35))) := rfl
    have hf : Keep (allP 0 none (p :: r) = true → p.k = 1 → ∃ c, p.text.head? = some c ∧ p.text[0]? = some c) := by
      constructor
      intro h hq
      simp only [allP, Bool.and_eq_true] at h
      have := lit_text h.1 hq
      cases hx : p.text with
      | nil => exact absurd hx this
      | cons c s => exact ⟨c, rfl, rfl⟩
    rw [hr]
    clear hr
    generalize allP 0 none (p :: r) = B at *
    cases B with
    | false =>
      (simp only [go_sem, reduceIte, Nat.reduceEqDiff, Nat.reduceLT, Nat.reduceLeDiff, Nat.reduceAdd, reduceCtorEq, Int.reduceToNat, Int.reduceLE, Int.reduceLT, Int.reduceNeg, Int.reduceEq, Int.reduceNe, Nat.reduceBEq, Nat.reduceMul, Nat.reducePow, Int.cast_ofNat_Int, *])
      (repeat' first | ((first | refine split_d ?_ ?_ | refine split_gt rfl ?_ ?_ | refine split_gf rfl ?_ ?_ | refine split_b ?_ ?_ | refine split_gb rfl ?_ ?_) <;> intro _ <;> ((try simp only [go_sem, reduceIte, Nat.reduceEqDiff, Nat.reduceLT, Nat.reduceLeDiff, Nat.reduceAdd, reduceCtorEq, Int.reduceToNat, Int.reduceLE, Int.reduceLT, Int.reduceNeg, Int.reduceEq, Int.reduceNe, Nat.reduceBEq, Nat.reduceMul, Nat.reducePow, Int.cast_ofNat_Int, *]))) | ((first | (refine OpW_call rfl rfl call114 rfl ((hall _).mono ?_)) | fail) <;> (rintro p_ S_ ⟨rfl, rfl⟩; (try simp only [go_sem, reduceIte, Nat.reduceEqDiff, Nat.reduceLT, Nat.reduceLeDiff, Nat.reduceAdd, reduceCtorEq, Int.reduceToNat, Int.reduceLE, Int.reduceLT, Int.reduceNeg, Int.reduceEq, Int.reduceNe, Nat.reduceBEq, Nat.reduceMul, Nat.reducePow, Int.cast_ofNat_Int, *]))) | fail)
      all_goals rfl
    | true =>
      by_cases k1 : p.k = 1
      · obtain ⟨c, h1, h2⟩ := hf.of rfl k1
        have e35 : ((c.toNat : Int) = 35) ↔ c = 35 := u8_eq (d := 35)
        rw [h1]
        have e : decide (¬ some c = some (35 : UInt8)) = decide (¬ (c.toNat : Int) = 35) := by simp [e35]
        rw [e]
        clear e e35 hf h1
        (simp only [go_sem, reduceIte, Nat.reduceEqDiff, Nat.reduceLT, Nat.reduceLeDiff, Nat.reduceAdd, reduceCtorEq, Int.reduceToNat, Int.reduceLE, Int.reduceLT, Int.reduceNeg, Int.reduceEq, Int.reduceNe, Nat.reduceBEq, Nat.reduceMul, Nat.reducePow, Int.cast_ofNat_Int, *])
        (repeat' first | ((first | refine split_d ?_ ?_ | refine split_gt rfl ?_ ?_ | refine split_gf rfl ?_ ?_ | refine split_b ?_ ?_ | refine split_gb rfl ?_ ?_) <;> intro _ <;> ((try simp only [go_sem, reduceIte, Nat.reduceEqDiff, Nat.reduceLT, Nat.reduceLeDiff, Nat.reduceAdd, reduceCtorEq, Int.reduceToNat, Int.reduceLE, Int.reduceLT, Int.reduceNeg, Int.reduceEq, Int.reduceNe, Nat.reduceBEq, Nat.reduceMul, Nat.reducePow, Int.cast_ofNat_Int, *]))) | ((first | (refine OpW_call rfl rfl call114 rfl ((hall _).mono ?_)) | fail) <;> (rintro p_ S_ ⟨rfl, rfl⟩; (try simp only [go_sem, reduceIte, Nat.reduceEqDiff, Nat.reduceLT, Nat.reduceLeDiff, Nat.reduceAdd, reduceCtorEq, Int.reduceToNat, Int.reduceLE, Int.reduceLT, Int.reduceNeg, Int.reduceEq, Int.reduceNe, Nat.reduceBEq, Nat.reduceMul, Nat.reducePow, Int.cast_ofNat_Int, *]))) | fail)
        all_goals simp [*]
      · clear hf
        (simp only [go_sem, reduceIte, Nat.reduceEqDiff, Nat.reduceLT, Nat.reduceLeDiff, Nat.reduceAdd, reduceCtorEq, Int.reduceToNat, Int.reduceLE, Int.reduceLT, Int.reduceNeg, Int.reduceEq, Int.reduceNe, Nat.reduceBEq, Nat.reduceMul, Nat.reducePow, Int.cast_ofNat_Int, *])
        (repeat' first | ((first | refine split_d ?_ ?_ | refine split_gt rfl ?_ ?_ | refine split_gf rfl ?_ ?_ | refine split_b ?_ ?_ | refine split_gb rfl ?_ ?_) <;> intro _ <;> ((try simp only [go_sem, reduceIte, Nat.reduceEqDiff, Nat.reduceLT, Nat.reduceLeDiff, Nat.reduceAdd, reduceCtorEq, Int.reduceToNat, Int.reduceLE, Int.reduceLT, Int.reduceNeg, Int.reduceEq, Int.reduceNe, Nat.reduceBEq, Nat.reduceMul, Nat.reducePow, Int.cast_ofNat_Int, *]))) | ((first | (refine OpW_call rfl rfl call114 rfl ((hall _).mono ?_)) | fail) <;> (rintro p_ S_ ⟨rfl, rfl⟩; (try simp only [go_sem, reduceIte, Nat.reduceEqDiff, Nat.reduceLT, Nat.reduceLeDiff, Nat.reduceAdd, reduceCtorEq, Int.reduceToNat, Int.reduceLE, Int.reduceLT, Int.reduceNeg, Int.reduceEq, Int.reduceNe, Nat.reduceBEq, Nat.reduceMul, Nat.reducePow, Int.cast_ofNat_Int, *]))) | fail)
        all_goals simp [*]

end Go.Proofs.Ytcbonfgkfiapaaa.Pv

/-! What package part computes: how deep, how many; commands. -/
set_option linter.unusedVariables false
set_option linter.unusedSimpArgs false
set_option maxRecDepth 100000
set_option maxHeartbeats 40000000
namespace Go.Proofs.Ytcbonfgkfiapaaa.Pv
open Go Go.RowKit

theorem deep_calls : ∀ (n : Nat), n ≤ 1048576 → ∀ (l : List Pt), bulks l ≤ n → ∀ S, CallsQ Try.prog 66 [.agg [.slice 5 (prows l)]] S (.int .i64 (deeps l : Int)) := by
  intro n
  induction n using Nat.strongRecOn with
  | _ n ih =>
    intro hn l hb S
    have hll : l.length ≤ 1048576 := Nat.le_trans (bulks_len l) (by omega)
    have hcb := deeps_bulk l
    obtain ⟨T, hT⟩ : ∃ T, deeps l = T := ⟨_, rfl⟩
    rw [hT]
    have hk : ∀ (i : Nat) (p : Pt), l[i]? = some p → ∀ S, CallsQ Try.prog 66 [.agg [.slice 5 (prows p.kids)]] S (.int .i64 (deeps p.kids : Int)) := fun i p hp S => by
      have := kid_lt hp hb
      exact ih _ this (by omega) p.kids (Nat.le_refl _) S
    refine CallsQ_less ?_
    refine CallsA_W (fun _ => false) Try.func66 rfl (Nat.le_of_ble_eq_true rfl) ?_
    simp only [Try.f66]
    (simp only [go_sem, reduceIte, Nat.reduceEqDiff, Nat.reduceLT, Nat.reduceLeDiff, Nat.reduceAdd, reduceCtorEq, Int.reduceToNat, Int.reduceLE, Int.reduceLT, Int.reduceNeg, Int.reduceEq, Int.reduceNe, Nat.reduceBEq, Nat.reduceMul, Nat.reducePow, Int.cast_ofNat_Int, *])
    refine CodeW_loop (fun m σ' S' => ∃ i a : Nat, i + m = l.length ∧ σ' 7 = .slice 5 (prows l) ∧ σ' 8 = .int .i64 l.length ∧ σ' 3 = .int .i64 (a : Int) ∧ σ' 9 = .int .i64 i ∧ S.le S' ∧ max a (deeps (l.drop i)) = T) l.length ?_ ?_
    · (simp only [go_sem, reduceIte, Nat.reduceEqDiff, Nat.reduceLT, Nat.reduceLeDiff, Nat.reduceAdd, reduceCtorEq, Int.reduceToNat, Int.reduceLE, Int.reduceLT, Int.reduceNeg, Int.reduceEq, Int.reduceNe, Nat.reduceBEq, Nat.reduceMul, Nat.reducePow, Int.cast_ofNat_Int, *])
      exact ⟨0, 0, by omega, rfl, rfl, Heap.le_refl S, by simpa using hT⟩
    · rintro m σ' S' ⟨i, a, h1, h2, h3, h4, h5, hS, h6⟩
      cases hc : l[i]? with
      | none =>
        have hl : l.length ≤ i := List.getElem?_eq_none_iff.1 hc
        have hlt : ¬ ((i : Int) < (l.length : Int)) := by omega
        rw [List.drop_eq_nil_of_le hl] at h6
        simp only [deeps, Nat.max_zero] at h6
        subst h6
        clear hk hT
        (simp only [go_sem, reduceIte, Nat.reduceEqDiff, Nat.reduceLT, Nat.reduceLeDiff, Nat.reduceAdd, reduceCtorEq, Int.reduceToNat, Int.reduceLE, Int.reduceLT, Int.reduceNeg, Int.reduceEq, Int.reduceNe, Nat.reduceBEq, Nat.reduceMul, Nat.reducePow, Int.cast_ofNat_Int, *])
      | some p =>
        have hl := (List.getElem?_eq_some_iff.1 hc).1
        have hlt : (i : Int) < (l.length : Int) := by omega
        have hw := wrap1 hl (by omega)
        have hcall := hk i p hc
        have hkb := kid_lt hc hb
        have hkd := deeps_bulk p.kids
        rw [drop_at hc] at h6
        simp only [deeps, deep_eq] at h6
        have hw2 : IntKind.i64.wrap (1 + (deeps p.kids : Int)) = ((1 + deeps p.kids : Nat) : Int) := by rw [wrap_in (by omega)]; rfl
        have h6' := Keep.mk h6
        clear hk hT h6
        have hu := Try.underlying33
        (simp only [go_sem, reduceIte, Nat.reduceEqDiff, Nat.reduceLT, Nat.reduceLeDiff, Nat.reduceAdd, reduceCtorEq, Int.reduceToNat, Int.reduceLE, Int.reduceLT, Int.reduceNeg, Int.reduceEq, Int.reduceNe, Nat.reduceBEq, Nat.reduceMul, Nat.reducePow, Int.cast_ofNat_Int, *])
        refine OpW_of (OpA_alloc rfl zeroCells41 (okDst_spec rfl) fun b hb => ?_)
        (simp only [go_sem, reduceIte, Nat.reduceEqDiff, Nat.reduceLT, Nat.reduceLeDiff, Nat.reduceAdd, reduceCtorEq, Int.reduceToNat, Int.reduceLE, Int.reduceLT, Int.reduceNeg, Int.reduceEq, Int.reduceNe, Nat.reduceBEq, Nat.reduceMul, Nat.reducePow, Int.cast_ofNat_Int, *])
        refine OpW_put (es := [.int .i64 p.k, .str p.text, .str p.op, .slice 5 (prows p.kids), .slice 10 p.cmds]) rfl rfl set_self rfl rfl size41 (Nat.le_of_ble_eq_true rfl) rfl ?_
        rw [Heap.set_set]
        have hS3 := Keep.mk (Heap.le_trans hS (Heap.le_set (o := .cells [.int .i64 p.k, .str p.text, .str p.op, .slice 5 (prows p.kids), .slice 10 p.cmds] 41) hb))
        (simp only [go_sem, reduceIte, Nat.reduceEqDiff, Nat.reduceLT, Nat.reduceLeDiff, Nat.reduceAdd, reduceCtorEq, Int.reduceToNat, Int.reduceLE, Int.reduceLT, Int.reduceNeg, Int.reduceEq, Int.reduceNe, Nat.reduceBEq, Nat.reduceMul, Nat.reducePow, Int.cast_ofNat_Int, *])
        (repeat' first | ((first | refine split_d ?_ ?_ | refine split_gt rfl ?_ ?_ | refine split_gf rfl ?_ ?_ | refine split_b ?_ ?_ | refine split_gb rfl ?_ ?_) <;> intro _ <;> ((try simp only [go_sem, reduceIte, Nat.reduceEqDiff, Nat.reduceLT, Nat.reduceLeDiff, Nat.reduceAdd, reduceCtorEq, Int.reduceToNat, Int.reduceLE, Int.reduceLT, Int.reduceNeg, Int.reduceEq, Int.reduceNe, Nat.reduceBEq, Nat.reduceMul, Nat.reducePow, Int.cast_ofNat_Int, *]))) | ((first | (refine OpW_call rfl rfl call66 rfl ((hcall _).mono ?_)) | fail) <;> (rintro p_ S_ ⟨rfl, rfl⟩; (try simp only [go_sem, reduceIte, Nat.reduceEqDiff, Nat.reduceLT, Nat.reduceLeDiff, Nat.reduceAdd, reduceCtorEq, Int.reduceToNat, Int.reduceLE, Int.reduceLT, Int.reduceNeg, Int.reduceEq, Int.reduceNe, Nat.reduceBEq, Nat.reduceMul, Nat.reducePow, Int.cast_ofNat_Int, *]))) | fail)
        have h6 := h6'.of
        refine ⟨m - 1, by omega, i + 1, max a (1 + deeps p.kids), by omega, ?_, rfl, hS3.of, by omega⟩
        refine congrArg (PV.int IntKind.i64) ?_
        split <;> omega

/-! each -/
mutual
def Pt.pre : Pt → List Pt
  | .mk k t o ks cs => .mk k t o ks cs :: pres ks
def pres : List Pt → List Pt
  | [] => []
  | p :: ps => p.pre ++ pres ps
end
theorem pre_eq (p : Pt) : p.pre = p :: pres p.kids := by cases p; simp only [Pt.pre, Pt.kids]
theorem pres_app (a b : List Pt) : pres (a ++ b) = pres a ++ pres b := by
  induction a with
  | nil => simp [pres]
  | cons p a ih => simp only [List.cons_append, pres, ih, List.append_assoc]
mutual
theorem pre_len : ∀ p : Pt, p.pre.length = p.count
  | .mk _ _ _ ks _ => by simp only [Pt.pre, Pt.count, List.length_cons]; have := pres_len ks; omega
theorem pres_len : ∀ l : List Pt, (pres l).length = counts l
  | [] => by simp [pres, counts]
  | p :: ps => by simp only [pres, counts, List.length_append]; have := pre_len p; have := pres_len ps; omega
end
theorem counts_app (a b : List Pt) : counts (a ++ b) = counts a + counts b := by
  induction a with
  | nil => simp [counts]
  | cons p a ih => simp only [List.cons_append, counts, ih]; omega
theorem take_snoc {α : Type} {l : List α} {i : Nat} {p : α} (h : l[i]? = some p) : l.take (i + 1) = l.take i ++ [p] := by
  obtain ⟨hi, hx⟩ := List.getElem?_eq_some_iff.1 h
  rw [List.take_succ_eq_append_getElem hi, hx]
/-- What a function keeps that is handed parts: beside a base. -/
structure Keeper (J : Heap → List Pt → Heap → Prop) : Prop where
  ext : ∀ B acc S b o, J B acc S → S b = none → J (B.set b o) acc (S.set b o)
  forget : ∀ B acc S b o, J (B.set b o) acc S → B b = none → J B acc S
  le : ∀ B acc S, J B acc S → B.le S
theorem le_none {B S : Heap} {b : Nat} (h : B.le S) (hb : S b = none) : B b = none := by
  cases e : B b with
  | none => rfl
  | some o => rw [h b o e] at hb; cases hb
theorem le_set_both {B S : Heap} {b : Nat} {o : MObj} (h : B.le S) : (B.set b o).le (S.set b o) := by
  intro c x hc
  rw [set_apply] at hc ⊢
  split at hc
  · rename_i e; rw [if_pos e]; exact hc
  · rename_i e; rw [if_neg e]; exact h c x hc
theorem le_of_set {B S : Heap} {b : Nat} {o : MObj} (h : (B.set b o).le S) (hb : B b = none) : B.le S := by
  intro c x hc
  refine h c x ?_
  rw [set_apply, if_neg (fun e => by subst e; rw [hb] at hc; cases hc)]
  exact hc
theorem eachPt_calls {g : FuncId} {cap : List PV} (hg : callable Try.prog g = true) (J : Heap → List Pt → Heap → Prop) (hJ : Keeper J) (N : Nat)
    (hstep : ∀ B acc p S, J B acc S → acc.length < N → CallsA Try.prog g (.agg [.int .i64 p.k, .str p.text, .str p.op, .slice 5 (prows p.kids), .slice 10 p.cmds] :: cap) S (fun q S' => q = .tup [] ∧ J B (acc ++ [p]) S')) :
    ∀ (n : Nat), n ≤ 1048576 → ∀ (l : List Pt), bulks l ≤ n → ∀ B acc S, J B acc S → acc.length + counts l ≤ N → CallsA Try.prog 112 [.slice 5 (prows l), .fn (.func g) [] cap] S (fun q S' => q = .tup [] ∧ J B (acc ++ pres l) S') := by
  intro n
  induction n using Nat.strongRecOn with
  | _ n ih =>
    intro hn l hb B acc S hJ0 hN
    have hll : l.length ≤ 1048576 := Nat.le_trans (bulks_len l) (by omega)
    refine CallsA_W (fun _ => false) Try.func112 rfl (Nat.le_of_ble_eq_true rfl) ?_
    simp only [Try.f112]
    (simp only [go_sem, reduceIte, Nat.reduceEqDiff, Nat.reduceLT, Nat.reduceLeDiff, Nat.reduceAdd, reduceCtorEq, Int.reduceToNat, Int.reduceLE, Int.reduceLT, Int.reduceNeg, Int.reduceEq, Int.reduceNe, Nat.reduceBEq, Nat.reduceMul, Nat.reducePow, Int.cast_ofNat_Int, *])
    refine CodeW_loop (fun m σ' S' => ∃ i : Nat, i + m = l.length ∧ σ' 1 = .fn (.func g) [] cap ∧ σ' 6 = .slice 5 (prows l) ∧ σ' 7 = .int .i64 l.length ∧ σ' 8 = .int .i64 i ∧ J B (acc ++ pres (l.take i)) S') l.length ?_ ?_
    · (simp only [go_sem, reduceIte, Nat.reduceEqDiff, Nat.reduceLT, Nat.reduceLeDiff, Nat.reduceAdd, reduceCtorEq, Int.reduceToNat, Int.reduceLE, Int.reduceLT, Int.reduceNeg, Int.reduceEq, Int.reduceNe, Nat.reduceBEq, Nat.reduceMul, Nat.reducePow, Int.cast_ofNat_Int, *])
      exact ⟨0, by omega, rfl, by simpa [pres] using hJ0⟩
    · rintro m σ' S' ⟨i, h1, h2, h3, h4, h5, h6⟩
      cases hc : l[i]? with
      | none =>
        have hl : l.length ≤ i := List.getElem?_eq_none_iff.1 hc
        have hlt : ¬ ((i : Int) < (l.length : Int)) := by omega
        rw [List.take_of_length_le hl] at h6
        clear hstep ih hJ
        (simp only [go_sem, reduceIte, Nat.reduceEqDiff, Nat.reduceLT, Nat.reduceLeDiff, Nat.reduceAdd, reduceCtorEq, Int.reduceToNat, Int.reduceLE, Int.reduceLT, Int.reduceNeg, Int.reduceEq, Int.reduceNe, Nat.reduceBEq, Nat.reduceMul, Nat.reducePow, Int.cast_ofNat_Int, *])
        first | exact ⟨_, rfl, rfl⟩ | exact ⟨_, rfl⟩ | skip
      | some p =>
        have hl := (List.getElem?_eq_some_iff.1 hc).1
        have hlt : (i : Int) < (l.length : Int) := by omega
        have hw := wrap1 hl (by omega)
        have hsp : pres (l.take (i + 1)) = pres (l.take i) ++ [p] ++ pres p.kids := by rw [take_snoc hc, pres_app]; simp [pres, pre_eq]
        have hcn : counts (l.take i) + 1 + counts p.kids ≤ counts l := by
          have h := congrArg counts (List.take_append_drop i l)
          rw [drop_at hc, counts_app] at h
          simp only [counts, count_eq] at h
          omega
        have hlen := pres_len (l.take i)
        have hkb := kid_lt hc hb
        have s1 := fun B S (h : J B (acc ++ pres (l.take i)) S) => hstep B _ p S h (by rw [List.length_append, hlen]; omega)
        have s2 := fun B S (h : J B (acc ++ pres (l.take i) ++ [p]) S) => ih _ hkb (by omega) p.kids (Nat.le_refl _) B _ S h (by simp only [List.length_append, hlen, List.length_cons, List.length_nil]; omega)
        have hfin : acc ++ pres (l.take i) ++ [p] ++ pres p.kids = acc ++ pres (l.take (i + 1)) := by rw [hsp]; simp
        rw [hfin] at s2
        have hle := hJ.le _ _ _ h6
        clear hfin hsp hstep ih hlen hcn hJ0
        (simp only [go_sem, reduceIte, Nat.reduceEqDiff, Nat.reduceLT, Nat.reduceLeDiff, Nat.reduceAdd, reduceCtorEq, Int.reduceToNat, Int.reduceLE, Int.reduceLT, Int.reduceNeg, Int.reduceEq, Int.reduceNe, Nat.reduceBEq, Nat.reduceMul, Nat.reducePow, Int.cast_ofNat_Int, *])
        refine OpW_of (OpA_alloc rfl zeroCells41 (okDst_spec rfl) fun b hb => ?_)
        (simp only [go_sem, reduceIte, Nat.reduceEqDiff, Nat.reduceLT, Nat.reduceLeDiff, Nat.reduceAdd, reduceCtorEq, Int.reduceToNat, Int.reduceLE, Int.reduceLT, Int.reduceNeg, Int.reduceEq, Int.reduceNe, Nat.reduceBEq, Nat.reduceMul, Nat.reducePow, Int.cast_ofNat_Int, *])
        refine OpW_put (es := [.int .i64 p.k, .str p.text, .str p.op, .slice 5 (prows p.kids), .slice 10 p.cmds]) rfl rfl set_self rfl rfl size41 (Nat.le_of_ble_eq_true rfl) rfl ?_
        rw [Heap.set_set]
        have hBb := le_none hle hb
        have h7 := hJ.ext _ _ _ b (.cells [.int .i64 p.k, .str p.text, .str p.op, .slice 5 (prows p.kids), .slice 10 p.cmds] 41) h6 hb
        clear h6 hle
        (simp only [go_sem, reduceIte, Nat.reduceEqDiff, Nat.reduceLT, Nat.reduceLeDiff, Nat.reduceAdd, reduceCtorEq, Int.reduceToNat, Int.reduceLE, Int.reduceLT, Int.reduceNeg, Int.reduceEq, Int.reduceNe, Nat.reduceBEq, Nat.reduceMul, Nat.reducePow, Int.cast_ofNat_Int, *])
        refine OpW_call (ps := .agg [.int .i64 p.k, .str p.text, .str p.op, .slice 5 (prows p.kids), .slice 10 p.cmds] :: cap) rfl (by simp [ev, upd]) hg rfl ((s1 _ _ h7).mono ?_)
        rintro q S1 ⟨rfl, h8⟩
        have hb1 : S1 b = some (.cells [.int .i64 p.k, .str p.text, .str p.op, .slice 5 (prows p.kids), .slice 10 p.cmds] 41) := hJ.le _ _ _ h8 b _ set_self
        clear h7 s1
        (simp only [go_sem, reduceIte, Nat.reduceEqDiff, Nat.reduceLT, Nat.reduceLeDiff, Nat.reduceAdd, reduceCtorEq, Int.reduceToNat, Int.reduceLE, Int.reduceLT, Int.reduceNeg, Int.reduceEq, Int.reduceNe, Nat.reduceBEq, Nat.reduceMul, Nat.reducePow, Int.cast_ofNat_Int, *])
        refine OpW_call (ps := [.slice 5 (prows p.kids), .fn (.func g) [] cap]) rfl rfl call112 rfl ((s2 _ _ h8).mono ?_)
        rintro q S2 ⟨rfl, h9⟩
        have h10 := hJ.forget _ _ _ _ _ h9 hBb
        clear h8 h9 s2
        (simp only [go_sem, reduceIte, Nat.reduceEqDiff, Nat.reduceLT, Nat.reduceLeDiff, Nat.reduceAdd, reduceCtorEq, Int.reduceToNat, Int.reduceLE, Int.reduceLT, Int.reduceNeg, Int.reduceEq, Int.reduceNe, Nat.reduceBEq, Nat.reduceMul, Nat.reducePow, Int.cast_ofNat_Int, *])
        exact ⟨m - 1, by omega, i + 1, by omega, rfl, h10⟩

end Go.Proofs.Ytcbonfgkfiapaaa.Pv

/-! What package part computes: how many; commands. -/
set_option linter.unusedVariables false
set_option linter.unusedSimpArgs false
set_option maxRecDepth 100000
set_option maxHeartbeats 40000000
namespace Go.Proofs.Ytcbonfgkfiapaaa.Pv
open Go Go.RowKit

def sumCell (n : Nat) : MObj := .cells [.int .i64 (n : Int)] 125
def addCell : MObj := .cells [.fn (.func 115) [] []] 126
theorem add_calls (b n : Nat) (p : Pt) (hn : n ≤ 1048576) (S : Heap) (h : S b = some (sumCell n)) : CallsA Try.prog 115 [.mp b 0, .agg [.int .i64 p.k, .str p.text, .str p.op, .slice 5 (prows p.kids), .slice 10 p.cmds]] S (fun q S' => q = .tup [] ∧ S' = S.set b (sumCell (n + 1))) := by
  have hw : IntKind.i64.wrap ((n : Int) + 1) = ((n + 1 : Nat) : Int) := by rw [wrap_in (by omega)]; rfl
  unfold sumCell at *
  refine CallsA_W (fun _ => false) Try.func115 rfl (Nat.le_of_ble_eq_true rfl) ?_
  simp only [Try.f115]
  (simp only [go_sem, reduceIte, Nat.reduceEqDiff, Nat.reduceLT, Nat.reduceLeDiff, Nat.reduceAdd, reduceCtorEq, Int.reduceToNat, Int.reduceLE, Int.reduceLT, Int.reduceNeg, Int.reduceEq, Int.reduceNe, Nat.reduceBEq, Nat.reduceMul, Nat.reducePow, Int.cast_ofNat_Int, *])
  refine OpW_put (es := [.int .i64 ((n + 1 : Nat) : Int)]) rfl rfl h (by simp [ev, upd, cellsOf]) rfl size3 (Nat.le_of_ble_eq_true rfl) rfl ?_
  (simp only [go_sem, reduceIte, Nat.reduceEqDiff, Nat.reduceLT, Nat.reduceLeDiff, Nat.reduceAdd, reduceCtorEq, Int.reduceToNat, Int.reduceLE, Int.reduceLT, Int.reduceNeg, Int.reduceEq, Int.reduceNe, Nat.reduceBEq, Nat.reduceMul, Nat.reducePow, Int.cast_ofNat_Int, *])
  first | exact ⟨_, rfl, rfl, rfl⟩ | exact ⟨_, rfl, rfl⟩ | exact ⟨rfl, rfl⟩ | skip
theorem count1_calls (b4 b3 n : Nat) (p : Pt) (hn : n ≤ 1048576) (S : Heap) (h3 : S b3 = some (sumCell n)) (h4 : S b4 = some addCell) : CallsA Try.prog 116 [.agg [.int .i64 p.k, .str p.text, .str p.op, .slice 5 (prows p.kids), .slice 10 p.cmds], .mp b4 0, .mp b3 0] S (fun q S' => q = .tup [] ∧ S' = S.set b3 (sumCell (n + 1))) := by
  have hc := add_calls b3 n p hn S h3
  unfold addCell at h4
  refine CallsA_W (fun _ => false) Try.func116 rfl (Nat.le_of_ble_eq_true rfl) ?_
  simp only [Try.f116]
  (simp only [go_sem, reduceIte, Nat.reduceEqDiff, Nat.reduceLT, Nat.reduceLeDiff, Nat.reduceAdd, reduceCtorEq, Int.reduceToNat, Int.reduceLE, Int.reduceLT, Int.reduceNeg, Int.reduceEq, Int.reduceNe, Nat.reduceBEq, Nat.reduceMul, Nat.reducePow, Int.cast_ofNat_Int, *])
  refine OpW_call (ps := [.mp b3 0, .agg [.int .i64 p.k, .str p.text, .str p.op, .slice 5 (prows p.kids), .slice 10 p.cmds]]) rfl rfl call115 rfl (hc.mono ?_)
  rintro q S1 ⟨rfl, rfl⟩
  (simp only [go_sem, reduceIte, Nat.reduceEqDiff, Nat.reduceLT, Nat.reduceLeDiff, Nat.reduceAdd, reduceCtorEq, Int.reduceToNat, Int.reduceLE, Int.reduceLT, Int.reduceNeg, Int.reduceEq, Int.reduceNe, Nat.reduceBEq, Nat.reduceMul, Nat.reducePow, Int.cast_ofNat_Int, *])
  first | exact ⟨_, rfl, rfl, rfl⟩ | exact ⟨_, rfl, rfl⟩ | exact ⟨rfl, rfl⟩ | skip
structure CountJ (b3 b4 : Nat) (B : Heap) (acc : List Pt) (S : Heap) : Prop where
  le : B.le S
  n3 : B b3 = none
  n4 : B b4 = none
  ne : b3 ≠ b4
  c3 : S b3 = some (sumCell acc.length)
  c4 : S b4 = some addCell
theorem set_ne {S : Heap} {b c : Nat} {o : MObj} (h : c ≠ b) : (S.set b o) c = S c := by rw [set_apply, if_neg h]
theorem countJ (b3 b4 : Nat) : Keeper (CountJ b3 b4) where
  ext := fun B acc S b o h hb => by
    have e3 : b3 ≠ b := fun e => by subst e; rw [h.c3] at hb; cases hb
    have e4 : b4 ≠ b := fun e => by subst e; rw [h.c4] at hb; cases hb
    exact ⟨le_set_both h.le, by rw [set_ne e3]; exact h.n3, by rw [set_ne e4]; exact h.n4, h.ne, by rw [set_ne e3]; exact h.c3, by rw [set_ne e4]; exact h.c4⟩
  forget := fun B acc S b o h hb => by
    have e3 : b3 ≠ b := fun e => by subst e; have := h.n3; rw [set_self] at this; cases this
    have e4 : b4 ≠ b := fun e => by subst e; have := h.n4; rw [set_self] at this; cases this
    exact ⟨le_of_set h.le hb, by have := h.n3; rwa [set_ne e3] at this, by have := h.n4; rwa [set_ne e4] at this, h.ne, h.c3, h.c4⟩
  le := fun B acc S h => h.le
theorem count_calls (l : List Pt) (hb : bulks l ≤ 1048576) (S : Heap) : CallsQ Try.prog 64 [.agg [.slice 5 (prows l)]] S (.int .i64 (counts l : Int)) := by
  have hcb := counts_bulk l
  refine CallsQ_less ?_
  refine CallsA_W (fun _ => false) Try.func64 rfl (Nat.le_of_ble_eq_true rfl) ?_
  simp only [Try.f64]
  (simp only [go_sem, reduceIte, Nat.reduceEqDiff, Nat.reduceLT, Nat.reduceLeDiff, Nat.reduceAdd, reduceCtorEq, Int.reduceToNat, Int.reduceLE, Int.reduceLT, Int.reduceNeg, Int.reduceEq, Int.reduceNe, Nat.reduceBEq, Nat.reduceMul, Nat.reducePow, Int.cast_ofNat_Int, *])
  refine OpW_of (OpA_alloc rfl zeroCells125 (okDst_spec rfl) fun b3 hb3 => ?_)
  (simp only [go_sem, reduceIte, Nat.reduceEqDiff, Nat.reduceLT, Nat.reduceLeDiff, Nat.reduceAdd, reduceCtorEq, Int.reduceToNat, Int.reduceLE, Int.reduceLT, Int.reduceNeg, Int.reduceEq, Int.reduceNe, Nat.reduceBEq, Nat.reduceMul, Nat.reducePow, Int.cast_ofNat_Int, *])
  refine OpW_of (OpA_alloc rfl zeroCells126 (okDst_spec rfl) fun b4 hb4 => ?_)
  (simp only [go_sem, reduceIte, Nat.reduceEqDiff, Nat.reduceLT, Nat.reduceLeDiff, Nat.reduceAdd, reduceCtorEq, Int.reduceToNat, Int.reduceLE, Int.reduceLT, Int.reduceNeg, Int.reduceEq, Int.reduceNe, Nat.reduceBEq, Nat.reduceMul, Nat.reducePow, Int.cast_ofNat_Int, *])
  refine OpW_put (es := [.fn (.func 115) [] []]) rfl rfl set_self rfl rfl size126 (Nat.le_of_ble_eq_true rfl) rfl ?_
  rw [Heap.set_set]
  have hne : b3 ≠ b4 := fun e => by subst e; rw [set_self] at hb4; cases hb4
  have hb4' : S b4 = none := by rwa [set_ne (Ne.symm hne)] at hb4
  have hJ : CountJ b3 b4 S [] ((S.set b3 (sumCell 0)).set b4 addCell) := ⟨Heap.le_own (Heap.le_own (Heap.le_refl S) hb3) hb4', hb3, hb4', hne, by rw [set_ne hne]; exact set_self, set_self⟩
  have hcall := eachPt_calls (g := 116) (cap := [.mp b4 0, .mp b3 0]) call116 (CountJ b3 b4) (countJ b3 b4) (counts l) (fun B acc p S' h hl => (count1_calls b4 b3 acc.length p (by omega) S' h.c3 h.c4).mono fun q S1 hq => by
    obtain ⟨rfl, rfl⟩ := hq
    refine ⟨rfl, Heap.le_own h.le h.n3, h.n3, h.n4, h.ne, ?_, by rw [set_ne (Ne.symm h.ne)]; exact h.c4⟩
    rw [set_self, List.length_append]; rfl) 1048576 (Nat.le_refl _) l hb S [] _ hJ (by simp)
  clear hJ hb3 hb4 hb4' hne
  (simp only [go_sem, reduceIte, Nat.reduceEqDiff, Nat.reduceLT, Nat.reduceLeDiff, Nat.reduceAdd, reduceCtorEq, Int.reduceToNat, Int.reduceLE, Int.reduceLT, Int.reduceNeg, Int.reduceEq, Int.reduceNe, Nat.reduceBEq, Nat.reduceMul, Nat.reducePow, Int.cast_ofNat_Int, *])
  refine OpW_call (ps := [.slice 5 (prows l), .fn (.func 116) [] [.mp b4 0, .mp b3 0]]) rfl rfl call112 rfl (hcall.mono ?_)
  rintro q S1 ⟨rfl, h⟩
  have hc := h.c3
  simp only [List.nil_append, pres_len, sumCell] at hc
  have hle := h.le
  clear h hcall
  (simp only [go_sem, reduceIte, Nat.reduceEqDiff, Nat.reduceLT, Nat.reduceLeDiff, Nat.reduceAdd, reduceCtorEq, Int.reduceToNat, Int.reduceLE, Int.reduceLT, Int.reduceNeg, Int.reduceEq, Int.reduceNe, Nat.reduceBEq, Nat.reduceMul, Nat.reducePow, Int.cast_ofNat_Int, *])

end Go.Proofs.Ytcbonfgkfiapaaa.Pv

/-! What package part and its reference compute: commands. -/
set_option linter.unusedVariables false
set_option linter.unusedSimpArgs false
set_option maxRecDepth 100000
set_option maxHeartbeats 40000000
namespace Go.Proofs.Ytcbonfgkfiapaaa.Pv
open Go Go.RowKit

def cmdRow (p : Pt) : List PV := [.slice 10 p.cmds]
/-- The commands of parts, as rows. -/
def cmdRows (l : List Pt) : List (List PV) := (l.filter fun p => decide (p.k = 6)).map cmdRow
theorem cmdRows_app (a b : List Pt) : cmdRows (a ++ b) = cmdRows a ++ cmdRows b := by simp [cmdRows]
theorem cmdRows_len (l : List Pt) : (cmdRows l).length ≤ l.length := by unfold cmdRows; rw [List.length_map]; exact List.length_filter_le _ _
theorem appCmds : appFacts Try.prog 61 = some (1, 24, 39) := by kernel_rfl
def CmdsJ (b3 : Nat) (B : Heap) (acc : List Pt) (S : Heap) : Prop := ∃ ps, Holder 1 39 61 b3 (cmdRows acc) ps B S
theorem cmdsJ (b3 : Nat) : Keeper (CmdsJ b3) where
  ext := fun B acc S b o ⟨ps, h⟩ hb => ⟨ps, h.ext hb⟩
  forget := fun B acc S b o ⟨ps, h⟩ hb => ⟨ps, h.forget hb⟩
  le := fun B acc S ⟨ps, h⟩ => h.le
theorem cmds1_calls (b3 : Nat) (p : Pt) (B : Heap) (acc : List Pt) (S : Heap) (h : CmdsJ b3 B acc S) (hl : acc.length < 1048577) :
    CallsA Try.prog 113 [.agg [.int .i64 p.k, .str p.text, .str p.op, .slice 5 (prows p.kids), .slice 10 p.cmds], .mp b3 0] S (fun q S' => q = .tup [] ∧ CmdsJ b3 B (acc ++ [p]) S') := by
  obtain ⟨ps, h⟩ := h
  have hc := h.cell
  refine CallsA_W (fun _ => false) Try.func113 rfl (Nat.le_of_ble_eq_true rfl) ?_
  simp only [Try.f113]
  by_cases k6 : p.k = 6
  · have hcr : cmdRows (acc ++ [p]) = cmdRows acc ++ [[.slice 10 p.cmds]] := by rw [cmdRows_app]; simp [cmdRows, cmdRow, k6]
    have hlen := cmdRows_len acc
    (simp only [go_sem, reduceIte, Nat.reduceEqDiff, Nat.reduceLT, Nat.reduceLeDiff, Nat.reduceAdd, reduceCtorEq, Int.reduceToNat, Int.reduceLE, Int.reduceLT, Int.reduceNeg, Int.reduceEq, Int.reduceNe, Nat.reduceBEq, Nat.reduceMul, Nat.reducePow, Int.cast_ofNat_Int, *])
    refine OpW_append (rows := [[.slice 10 p.cmds]]) (olds := cmdRows acc) (ps := ps) rfl appCmds rfl rfl (fun r hr c' hc' => by simp at hr; subst hr; simp at hc'; subst hc'; rfl) (by simp [ev, upd]) h.grows (by simp [maxLen]; omega) (by simp; omega) ?_
    rintro p' S' g1 g2 g3
    rw [← hcr] at g1
    obtain ⟨k1, k2⟩ := h.push g1 g2 g3
    obtain ⟨o1, o2⟩ := grows_one g1
    clear hc h g1 g2 g3
    (simp only [go_sem, reduceIte, Nat.reduceEqDiff, Nat.reduceLT, Nat.reduceLeDiff, Nat.reduceAdd, reduceCtorEq, Int.reduceToNat, Int.reduceLE, Int.reduceLT, Int.reduceNeg, Int.reduceEq, Int.reduceNe, Nat.reduceBEq, Nat.reduceMul, Nat.reducePow, Int.cast_ofNat_Int, *])
    refine OpW_put (es := [p']) rfl rfl k1 (by simpa [ev, upd] using o1) o2 size61 (Nat.le_of_ble_eq_true rfl) rfl ?_
    clear k1 o1 o2
    have k2' : CmdsJ b3 B (acc ++ [p]) (S'.set b3 (.cells (splice [ps] 0 [p']) 61)) := ⟨p', by simpa [splice] using k2⟩
    (simp only [go_sem, reduceIte, Nat.reduceEqDiff, Nat.reduceLT, Nat.reduceLeDiff, Nat.reduceAdd, reduceCtorEq, Int.reduceToNat, Int.reduceLE, Int.reduceLT, Int.reduceNeg, Int.reduceEq, Int.reduceNe, Nat.reduceBEq, Nat.reduceMul, Nat.reducePow, Int.cast_ofNat_Int, *])
    first | exact ⟨_, rfl, rfl, k2'⟩ | exact ⟨_, rfl, k2'⟩ | exact k2' | skip
  · have hcr : cmdRows (acc ++ [p]) = cmdRows acc := by rw [cmdRows_app]; simp [cmdRows, cmdRow, k6]
    have h' : CmdsJ b3 B (acc ++ [p]) S := ⟨ps, by rw [hcr]; exact h⟩
    clear h hc
    (simp only [go_sem, reduceIte, Nat.reduceEqDiff, Nat.reduceLT, Nat.reduceLeDiff, Nat.reduceAdd, reduceCtorEq, Int.reduceToNat, Int.reduceLE, Int.reduceLT, Int.reduceNeg, Int.reduceEq, Int.reduceNe, Nat.reduceBEq, Nat.reduceMul, Nat.reducePow, Int.cast_ofNat_Int, *])
    first | exact ⟨_, rfl, rfl, h'⟩ | exact ⟨_, rfl, h'⟩ | exact h' | skip
theorem cmds_calls (l : List Pt) (hb : bulks l ≤ 1048576) (S : Heap) : CallsQ Try.prog 61 [.agg [.slice 5 (prows l)]] S (.slice 1 (cmdRows (pres l))) := by
  have hcb := counts_bulk l
  refine CallsQ_freeze (e := 39) ?_
  refine CallsA_W (fun _ => false) Try.func61 rfl (Nat.le_of_ble_eq_true rfl) ?_
  simp only [Try.f61]
  (simp only [go_sem, reduceIte, Nat.reduceEqDiff, Nat.reduceLT, Nat.reduceLeDiff, Nat.reduceAdd, reduceCtorEq, Int.reduceToNat, Int.reduceLE, Int.reduceLT, Int.reduceNeg, Int.reduceEq, Int.reduceNe, Nat.reduceBEq, Nat.reduceMul, Nat.reducePow, Int.cast_ofNat_Int, *])
  refine OpW_of (OpA_alloc rfl zeroCells61 (okDst_spec rfl) fun b3 hb3 => ?_)
  have hJ : CmdsJ b3 S [] (S.set b3 (.cells [.sl0] 61)) := ⟨.sl0, Holder.new hb3⟩
  have hcall := eachPt_calls (g := 113) (cap := [.mp b3 0]) call113 (CmdsJ b3) (cmdsJ b3) (counts l) (fun B acc p S' h hl => cmds1_calls b3 p B acc S' h (by omega)) 1048576 (Nat.le_refl _) l hb S [] _ hJ (by simp)
  clear hJ hb3
  (simp only [go_sem, reduceIte, Nat.reduceEqDiff, Nat.reduceLT, Nat.reduceLeDiff, Nat.reduceAdd, reduceCtorEq, Int.reduceToNat, Int.reduceLE, Int.reduceLT, Int.reduceNeg, Int.reduceEq, Int.reduceNe, Nat.reduceBEq, Nat.reduceMul, Nat.reducePow, Int.cast_ofNat_Int, *])
  refine OpW_call (ps := [.slice 5 (prows l), .fn (.func 113) [] [.mp b3 0]]) rfl rfl call112 rfl (hcall.mono ?_)
  rintro q S1 ⟨rfl, ps, h⟩
  have hc := h.cell
  have hle := h.le
  rw [List.nil_append] at h
  have hg := h.grows
  have ho := h.own
  clear h hcall
  have hK := Keep.mk (And.intro hg ho)
  clear hg ho
  (simp only [go_sem, reduceIte, Nat.reduceEqDiff, Nat.reduceLT, Nat.reduceLeDiff, Nat.reduceAdd, reduceCtorEq, Int.reduceToNat, Int.reduceLE, Int.reduceLT, Int.reduceNeg, Int.reduceEq, Int.reduceNe, Nat.reduceBEq, Nat.reduceMul, Nat.reducePow, Int.cast_ofNat_Int, *])
  exact ⟨_, hK.of.1, hK.of.2, rowsW_refl _⟩

end Go.Proofs.Ytcbonfgkfiapaaa.Pv

/-! What package part and its reference compute: commands by the reference; parts without commands. -/
set_option linter.unusedVariables false
set_option linter.unusedSimpArgs false
set_option maxRecDepth 100000
set_option maxHeartbeats 40000000
namespace Go.Proofs.Ytcbonfgkfiapaaa.Pv
open Go Go.RowKit

theorem pres_step {l : List Pt} {i : Nat} {p : Pt} (h : l[i]? = some p) : pres (l.take (i + 1)) = pres (l.take i) ++ [p] ++ pres p.kids := by rw [take_snoc h, pres_app]; simp [pres, pre_eq]
theorem counts_step {l : List Pt} {i : Nat} {p : Pt} (h : l[i]? = some p) : counts (l.take i) + 1 + counts p.kids ≤ counts l := by
  have h' := congrArg counts (List.take_append_drop i l)
  rw [drop_at h, counts_app] at h'
  simp only [counts, count_eq] at h'
  omega
theorem cmds24_calls : ∀ (n : Nat), n ≤ 1048576 → ∀ (l : List Pt), bulks l ≤ n → ∀ S, CallsQ Try.prog 62 [.slice 5 (prows l)] S (.slice 1 (cmdRows (pres l))) := by
  intro n
  induction n using Nat.strongRecOn with
  | _ n ih =>
    intro hn l hb S
    have hll : l.length ≤ 1048576 := Nat.le_trans (bulks_len l) (by omega)
    have hcb := counts_bulk l
    have hk : ∀ (i : Nat) (p : Pt), l[i]? = some p → ∀ S, CallsQ Try.prog 62 [.slice 5 (prows p.kids)] S (.slice 1 (cmdRows (pres p.kids))) := fun i p hp S => by
      have := kid_lt hp hb
      exact ih _ this (by omega) p.kids (Nat.le_refl _) S
    refine CallsQ_freeze (e := 39) ?_
    refine CallsA_W (fun _ => false) Try.func62 rfl (Nat.le_of_ble_eq_true rfl) ?_
    simp only [Try.f62]
    (simp only [go_sem, reduceIte, Nat.reduceEqDiff, Nat.reduceLT, Nat.reduceLeDiff, Nat.reduceAdd, reduceCtorEq, Int.reduceToNat, Int.reduceLE, Int.reduceLT, Int.reduceNeg, Int.reduceEq, Int.reduceNe, Nat.reduceBEq, Nat.reduceMul, Nat.reducePow, Int.cast_ofNat_Int, *])
    refine CodeW_loop (fun m σ' S' => ∃ (i : Nat) (ps : PV), i + m = l.length ∧ σ' 0 = .slice 5 (prows l) ∧ σ' 3 = ps ∧ σ' 4 = .int .i64 i ∧ S.le S' ∧ Grows S' 1 39 (cmdRows (pres (l.take i))) ps ∧ ∀ b, ownB ps = some b → S b = none) l.length ?_ ?_
    · (simp only [go_sem, reduceIte, Nat.reduceEqDiff, Nat.reduceLT, Nat.reduceLeDiff, Nat.reduceAdd, reduceCtorEq, Int.reduceToNat, Int.reduceLE, Int.reduceLT, Int.reduceNeg, Int.reduceEq, Int.reduceNe, Nat.reduceBEq, Nat.reduceMul, Nat.reducePow, Int.cast_ofNat_Int, *])
      exact ⟨0, .sl0, by omega, rfl, rfl, Heap.le_refl S, Or.inl ⟨rfl, rfl⟩, fun b h => by cases h⟩
    · rintro m σ' S' ⟨i, ps, h1, h2, h3, h4, h5, h6, h7⟩
      cases hc : l[i]? with
      | none =>
        have hl : l.length ≤ i := List.getElem?_eq_none_iff.1 hc
        have hlt : ¬ ((i : Int) < (l.length : Int)) := by omega
        rw [List.take_of_length_le hl] at h6
        have hK := Keep.mk (And.intro h6 h7)
        clear hk ih h6 h7
        (simp only [go_sem, reduceIte, Nat.reduceEqDiff, Nat.reduceLT, Nat.reduceLeDiff, Nat.reduceAdd, reduceCtorEq, Int.reduceToNat, Int.reduceLE, Int.reduceLT, Int.reduceNeg, Int.reduceEq, Int.reduceNe, Nat.reduceBEq, Nat.reduceMul, Nat.reducePow, Int.cast_ofNat_Int, *])
        exact ⟨_, hK.of.1, hK.of.2, rowsW_refl _⟩
      | some p =>
        have hl := (List.getElem?_eq_some_iff.1 hc).1
        have hlt : (i : Int) < (l.length : Int) := by omega
        have hw := wrap1 hl (by omega)
        have hcall := hk i p hc
        have hps := pres_step hc
        have hct := counts_step hc
        have hl1 := cmdRows_len (pres (l.take i))
        have hl2 := cmdRows_len (pres p.kids)
        rw [pres_len] at hl1 hl2
        have hT := Keep.mk (And.intro h5 (And.intro h6 h7))
        clear hk ih h6 h7 h5
        by_cases k6 : p.k = 6
        · have hcr : cmdRows (pres (l.take (i + 1))) = cmdRows (pres (l.take i)) ++ [[.slice 10 p.cmds]] ++ cmdRows (pres p.kids) := by rw [hps, cmdRows_app, cmdRows_app]; simp [cmdRows, cmdRow, k6]
          (simp only [go_sem, reduceIte, Nat.reduceEqDiff, Nat.reduceLT, Nat.reduceLeDiff, Nat.reduceAdd, reduceCtorEq, Int.reduceToNat, Int.reduceLE, Int.reduceLT, Int.reduceNeg, Int.reduceEq, Int.reduceNe, Nat.reduceBEq, Nat.reduceMul, Nat.reducePow, Int.cast_ofNat_Int, *])
          refine OpW_append (rows := [[.slice 10 p.cmds]]) (olds := cmdRows (pres (l.take i))) (ps := ps) rfl appCmds rfl rfl (fun r hr c' hc' => by simp at hr; subst hr; simp at hc'; subst hc'; rfl) (by simp [ev, upd, h3]) hT.of.2.1 (by simp [maxLen]; omega) (by first | omega | (simp; omega)) ?_
          rintro p1 S1 g1 g2 g3
          obtain ⟨k1, k2⟩ := grow_le hT.of.1 hT.of.2.2 g2 g3
          clear g2 g3 hT
          have hT := Keep.mk (And.intro g1 (And.intro k1 k2))
          clear g1 k1 k2
          (simp only [go_sem, reduceIte, Nat.reduceEqDiff, Nat.reduceLT, Nat.reduceLeDiff, Nat.reduceAdd, reduceCtorEq, Int.reduceToNat, Int.reduceLE, Int.reduceLT, Int.reduceNeg, Int.reduceEq, Int.reduceNe, Nat.reduceBEq, Nat.reduceMul, Nat.reducePow, Int.cast_ofNat_Int, *])
          (repeat' first | ((first | refine split_d ?_ ?_ | refine split_gt rfl ?_ ?_ | refine split_gf rfl ?_ ?_ | refine split_b ?_ ?_ | refine split_gb rfl ?_ ?_) <;> intro _ <;> ((try simp only [go_sem, reduceIte, Nat.reduceEqDiff, Nat.reduceLT, Nat.reduceLeDiff, Nat.reduceAdd, reduceCtorEq, Int.reduceToNat, Int.reduceLE, Int.reduceLT, Int.reduceNeg, Int.reduceEq, Int.reduceNe, Nat.reduceBEq, Nat.reduceMul, Nat.reducePow, Int.cast_ofNat_Int, *]))) | ((first | (refine OpW_call rfl rfl call62 rfl ((hcall _).mono ?_)) | fail) <;> (rintro p_ S_ ⟨rfl, rfl⟩; (try simp only [go_sem, reduceIte, Nat.reduceEqDiff, Nat.reduceLT, Nat.reduceLeDiff, Nat.reduceAdd, reduceCtorEq, Int.reduceToNat, Int.reduceLE, Int.reduceLT, Int.reduceNeg, Int.reduceEq, Int.reduceNe, Nat.reduceBEq, Nat.reduceMul, Nat.reducePow, Int.cast_ofNat_Int, *]))) | fail)
          refine OpW_append (rows := cmdRows (pres p.kids)) (olds := cmdRows (pres (l.take i)) ++ [[.slice 10 p.cmds]]) (ps := p1) rfl appCmds rfl rfl (fun r hr c' hc' => by
            simp only [cmdRows, List.mem_map] at hr
            obtain ⟨x, _, rfl⟩ := hr
            rw [cmdRow, List.mem_singleton] at hc'; subst hc'; rfl) rfl hT.of.1 (by simp [maxLen]; omega) (by first | omega | (simp; omega)) ?_
          rintro p2 S2 g1 g2 g3
          obtain ⟨k1, k2⟩ := grow_le hT.of.2.1 hT.of.2.2 g2 g3
          rw [← hcr] at g1
          clear g2 g3 hT
          have hT := Keep.mk (And.intro g1 (And.intro k1 k2))
          clear g1 k1 k2
          (simp only [go_sem, reduceIte, Nat.reduceEqDiff, Nat.reduceLT, Nat.reduceLeDiff, Nat.reduceAdd, reduceCtorEq, Int.reduceToNat, Int.reduceLE, Int.reduceLT, Int.reduceNeg, Int.reduceEq, Int.reduceNe, Nat.reduceBEq, Nat.reduceMul, Nat.reducePow, Int.cast_ofNat_Int, *])
          exact ⟨m - 1, by omega, i + 1, p2, by omega, rfl, rfl, hT.of.2.1, hT.of.1, hT.of.2.2⟩
        · have hcr : cmdRows (pres (l.take (i + 1))) = cmdRows (pres (l.take i)) ++ cmdRows (pres p.kids) := by rw [hps, cmdRows_app, cmdRows_app]; simp [cmdRows, cmdRow, k6]
          (simp only [go_sem, reduceIte, Nat.reduceEqDiff, Nat.reduceLT, Nat.reduceLeDiff, Nat.reduceAdd, reduceCtorEq, Int.reduceToNat, Int.reduceLE, Int.reduceLT, Int.reduceNeg, Int.reduceEq, Int.reduceNe, Nat.reduceBEq, Nat.reduceMul, Nat.reducePow, Int.cast_ofNat_Int, *])
          (repeat' first | ((first | refine split_d ?_ ?_ | refine split_gt rfl ?_ ?_ | refine split_gf rfl ?_ ?_ | refine split_b ?_ ?_ | refine split_gb rfl ?_ ?_) <;> intro _ <;> ((try simp only [go_sem, reduceIte, Nat.reduceEqDiff, Nat.reduceLT, Nat.reduceLeDiff, Nat.reduceAdd, reduceCtorEq, Int.reduceToNat, Int.reduceLE, Int.reduceLT, Int.reduceNeg, Int.reduceEq, Int.reduceNe, Nat.reduceBEq, Nat.reduceMul, Nat.reducePow, Int.cast_ofNat_Int, *]))) | ((first | (refine OpW_call rfl rfl call62 rfl ((hcall _).mono ?_)) | fail) <;> (rintro p_ S_ ⟨rfl, rfl⟩; (try simp only [go_sem, reduceIte, Nat.reduceEqDiff, Nat.reduceLT, Nat.reduceLeDiff, Nat.reduceAdd, reduceCtorEq, Int.reduceToNat, Int.reduceLE, Int.reduceLT, Int.reduceNeg, Int.reduceEq, Int.reduceNe, Nat.reduceBEq, Nat.reduceMul, Nat.reducePow, Int.cast_ofNat_Int, *]))) | fail)
          refine OpW_append (rows := cmdRows (pres p.kids)) (olds := cmdRows (pres (l.take i))) (ps := ps) rfl appCmds rfl rfl (fun r hr c' hc' => by
            simp only [cmdRows, List.mem_map] at hr
            obtain ⟨x, _, rfl⟩ := hr
            rw [cmdRow, List.mem_singleton] at hc'; subst hc'; rfl) (by simp [ev, upd, h3]) hT.of.2.1 (by simp [maxLen]; omega) (by first | omega | (simp; omega)) ?_
          rintro p2 S2 g1 g2 g3
          obtain ⟨k1, k2⟩ := grow_le hT.of.1 hT.of.2.2 g2 g3
          rw [← hcr] at g1
          clear g2 g3 hT
          have hT := Keep.mk (And.intro g1 (And.intro k1 k2))
          clear g1 k1 k2
          (simp only [go_sem, reduceIte, Nat.reduceEqDiff, Nat.reduceLT, Nat.reduceLeDiff, Nat.reduceAdd, reduceCtorEq, Int.reduceToNat, Int.reduceLE, Int.reduceLT, Int.reduceNeg, Int.reduceEq, Int.reduceNe, Nat.reduceBEq, Nat.reduceMul, Nat.reducePow, Int.cast_ofNat_Int, *])
          exact ⟨m - 1, by omega, i + 1, p2, by omega, rfl, rfl, hT.of.2.1, hT.of.1, hT.of.2.2⟩

/-! without commands -/
mutual
def Pt.bareT : Pt → Pt
  | .mk k t o ks _ => .mk k t o (bareTs ks) []
def bareTs : List Pt → List Pt
  | [] => []
  | p :: ps => p.bareT :: bareTs ps
end
theorem bareTs_map (l : List Pt) : bareTs l = l.map Pt.bareT := by
  induction l with
  | nil => rfl
  | cons p l ih => simp only [bareTs, List.map_cons, ih]
theorem bareT_row (p : Pt) : p.bareT.row = [.int .i64 p.k, .str p.text, .str p.op, .slice 5 (prows (bareTs p.kids)), .slice 10 []] := by
  cases p; simp only [Pt.bareT, Pt.row, Pt.k, Pt.text, Pt.op, Pt.kids]
def bareRaw (p : Pt) : List PV := [.int .i64 p.k, .str p.text, .str p.op, .slice 5 (prows (bareTs p.kids)), .sl0]
theorem bareRaw_w : ∀ l : List Pt, rowsW (l.map bareRaw) (prows (bareTs l))
  | [] => trivial
  | p :: ps => by
    simp only [List.map_cons, bareTs, prows, bareT_row]
    refine ⟨?_, bareRaw_w ps⟩
    exact ⟨Or.inl rfl, Or.inl rfl, Or.inl rfl, Or.inl rfl, Or.inr ⟨rfl, 10, rfl⟩, trivial⟩
theorem appParts : appFacts Try.prog 31 = some (5, 88, 41) := by kernel_rfl
theorem bare_calls : ∀ (n : Nat), n ≤ 1048576 → ∀ (l : List Pt), bulks l ≤ n → ∀ S, CallsQ Try.prog 117 [.slice 5 (prows l)] S (.slice 5 (prows (bareTs l))) := by
  intro n
  induction n using Nat.strongRecOn with
  | _ n ih =>
    intro hn l hbl S
    have hll : l.length ≤ 1048576 := Nat.le_trans (bulks_len l) (by omega)
    have hk : ∀ (i : Nat) (p : Pt), l[i]? = some p → ∀ S, CallsQ Try.prog 117 [.slice 5 (prows p.kids)] S (.slice 5 (prows (bareTs p.kids))) := fun i p hp S => by
      have := kid_lt hp hbl
      exact ih _ this (by omega) p.kids (Nat.le_refl _) S
    refine CallsQ_freeze (e := 41) ?_
    refine CallsA_W (fun _ => false) Try.func117 rfl (Nat.le_of_ble_eq_true rfl) ?_
    simp only [Try.f117]
    (simp only [go_sem, reduceIte, Nat.reduceEqDiff, Nat.reduceLT, Nat.reduceLeDiff, Nat.reduceAdd, reduceCtorEq, Int.reduceToNat, Int.reduceLE, Int.reduceLT, Int.reduceNeg, Int.reduceEq, Int.reduceNe, Nat.reduceBEq, Nat.reduceMul, Nat.reducePow, Int.cast_ofNat_Int, *])
    refine CodeW_loop (fun m σ' S' => ∃ (i : Nat) (ps : PV), i + m = l.length ∧ σ' 6 = .slice 5 (prows l) ∧ σ' 7 = .int .i64 l.length ∧ σ' 3 = ps ∧ σ' 8 = .int .i64 i ∧ S.le S' ∧ Grows S' 5 41 ((l.take i).map bareRaw) ps ∧ ∀ b, ownB ps = some b → S b = none) l.length ?_ ?_
    · (simp only [go_sem, reduceIte, Nat.reduceEqDiff, Nat.reduceLT, Nat.reduceLeDiff, Nat.reduceAdd, reduceCtorEq, Int.reduceToNat, Int.reduceLE, Int.reduceLT, Int.reduceNeg, Int.reduceEq, Int.reduceNe, Nat.reduceBEq, Nat.reduceMul, Nat.reducePow, Int.cast_ofNat_Int, *])
      exact ⟨0, .sl0, by omega, rfl, rfl, Heap.le_refl S, Or.inl ⟨rfl, rfl⟩, fun b h => by cases h⟩
    · rintro m σ' S' ⟨i, ps, h1, h2, h3, h4, h4', h5, h6, h7⟩
      cases hc : l[i]? with
      | none =>
        have hl : l.length ≤ i := List.getElem?_eq_none_iff.1 hc
        have hlt : ¬ ((i : Int) < (l.length : Int)) := by omega
        rw [List.take_of_length_le hl] at h6
        have hK := Keep.mk (And.intro h6 h7)
        clear hk ih h6 h7
        (simp only [go_sem, reduceIte, Nat.reduceEqDiff, Nat.reduceLT, Nat.reduceLeDiff, Nat.reduceAdd, reduceCtorEq, Int.reduceToNat, Int.reduceLE, Int.reduceLT, Int.reduceNeg, Int.reduceEq, Int.reduceNe, Nat.reduceBEq, Nat.reduceMul, Nat.reducePow, Int.cast_ofNat_Int, *])
        exact ⟨_, hK.of.1, hK.of.2, bareRaw_w l⟩
      | some p =>
        have hl := (List.getElem?_eq_some_iff.1 hc).1
        have hlt : (i : Int) < (l.length : Int) := by omega
        have hw := wrap1 hl (by omega)
        have hcall := hk i p hc
        have hcr : (l.take (i + 1)).map bareRaw = (l.take i).map bareRaw ++ [[.int .i64 p.k, .str p.text, .str p.op, .slice 5 (prows (bareTs p.kids)), .sl0]] := by rw [take_snoc hc, List.map_append]; rfl
        have hlen : ((l.take i).map bareRaw).length ≤ 1048576 := by simp; omega
        have hT := Keep.mk (And.intro h5 (And.intro h6 h7))
        clear hk ih h6 h7
        (simp only [go_sem, reduceIte, Nat.reduceEqDiff, Nat.reduceLT, Nat.reduceLeDiff, Nat.reduceAdd, reduceCtorEq, Int.reduceToNat, Int.reduceLE, Int.reduceLT, Int.reduceNeg, Int.reduceEq, Int.reduceNe, Nat.reduceBEq, Nat.reduceMul, Nat.reducePow, Int.cast_ofNat_Int, *])
        refine OpW_of (OpA_alloc rfl zeroCells41 (okDst_spec rfl) fun b hb => ?_)
        (simp only [go_sem, reduceIte, Nat.reduceEqDiff, Nat.reduceLT, Nat.reduceLeDiff, Nat.reduceAdd, reduceCtorEq, Int.reduceToNat, Int.reduceLE, Int.reduceLT, Int.reduceNeg, Int.reduceEq, Int.reduceNe, Nat.reduceBEq, Nat.reduceMul, Nat.reducePow, Int.cast_ofNat_Int, *])
        refine OpW_put (es := [.int .i64 p.k, .str p.text, .str p.op, .slice 5 (prows p.kids), .slice 10 p.cmds]) rfl rfl set_self rfl rfl size41 (Nat.le_of_ble_eq_true rfl) rfl ?_
        rw [Heap.set_set]
        have hT2 := Keep.mk (And.intro (Heap.le_set (o := .cells [.int .i64 p.k, .str p.text, .str p.op, .slice 5 (prows p.kids), .slice 10 p.cmds] 41) hb) hb)
        have hcell : (S'.set b (.cells [.int .i64 p.k, .str p.text, .str p.op, .slice 5 (prows p.kids), .slice 10 p.cmds] 41)) b = some (.cells [.int .i64 p.k, .str p.text, .str p.op, .slice 5 (prows p.kids), .slice 10 p.cmds] 41) := set_self
        (simp only [go_sem, reduceIte, Nat.reduceEqDiff, Nat.reduceLT, Nat.reduceLeDiff, Nat.reduceAdd, reduceCtorEq, Int.reduceToNat, Int.reduceLE, Int.reduceLT, Int.reduceNeg, Int.reduceEq, Int.reduceNe, Nat.reduceBEq, Nat.reduceMul, Nat.reducePow, Int.cast_ofNat_Int, *])
        (repeat' first | ((first | refine split_d ?_ ?_ | refine split_gt rfl ?_ ?_ | refine split_gf rfl ?_ ?_ | refine split_b ?_ ?_ | refine split_gb rfl ?_ ?_) <;> intro _ <;> ((try simp only [go_sem, reduceIte, Nat.reduceEqDiff, Nat.reduceLT, Nat.reduceLeDiff, Nat.reduceAdd, reduceCtorEq, Int.reduceToNat, Int.reduceLE, Int.reduceLT, Int.reduceNeg, Int.reduceEq, Int.reduceNe, Nat.reduceBEq, Nat.reduceMul, Nat.reducePow, Int.cast_ofNat_Int, *]))) | ((first | (refine OpW_call rfl rfl call117 rfl ((hcall _).mono ?_)) | fail) <;> (rintro p_ S_ ⟨rfl, rfl⟩; (try simp only [go_sem, reduceIte, Nat.reduceEqDiff, Nat.reduceLT, Nat.reduceLeDiff, Nat.reduceAdd, reduceCtorEq, Int.reduceToNat, Int.reduceLE, Int.reduceLT, Int.reduceNeg, Int.reduceEq, Int.reduceNe, Nat.reduceBEq, Nat.reduceMul, Nat.reducePow, Int.cast_ofNat_Int, *]))) | fail)
        refine OpW_put (es := [.slice 5 (prows (bareTs p.kids))]) rfl rfl set_self (by simp [ev, upd, cellsOf]) rfl size31 (Nat.le_of_ble_eq_true rfl) rfl ?_
        rw [Heap.set_set]
        (simp only [go_sem, reduceIte, Nat.reduceEqDiff, Nat.reduceLT, Nat.reduceLeDiff, Nat.reduceAdd, reduceCtorEq, Int.reduceToNat, Int.reduceLE, Int.reduceLT, Int.reduceNeg, Int.reduceEq, Int.reduceNe, Nat.reduceBEq, Nat.reduceMul, Nat.reducePow, Int.cast_ofNat_Int, *])
        refine OpW_put (es := [.sl0]) rfl rfl set_self rfl rfl size39 (Nat.le_of_ble_eq_true rfl) rfl ?_
        rw [Heap.set_set]
        (simp only [go_sem, reduceIte, Nat.reduceEqDiff, Nat.reduceLT, Nat.reduceLeDiff, Nat.reduceAdd, reduceCtorEq, Int.reduceToNat, Int.reduceLE, Int.reduceLT, Int.reduceNeg, Int.reduceEq, Int.reduceNe, Nat.reduceBEq, Nat.reduceMul, Nat.reducePow, Int.cast_ofNat_Int, *])
        refine OpW_append (rows := [[.int .i64 p.k, .str p.text, .str p.op, .slice 5 (prows (bareTs p.kids)), .sl0]]) (olds := (l.take i).map bareRaw) (ps := ps) rfl appParts rfl rfl (fun r hr c' hc' => by
            simp only [List.mem_singleton] at hr
            subst hr
            simp only [List.mem_cons, List.not_mem_nil, or_false] at hc'
            rcases hc' with rfl | rfl | rfl | rfl | rfl <;> rfl) (by simp [ev, upd, h3]) (hT.of.2.1.le (Heap.le_set hb)) (by simp only [maxLen, List.length_cons, List.length_nil]; omega) (by simp only [List.length_cons, List.length_nil]; omega) ?_
        rintro p1 S1 g1 g2 g3
        obtain ⟨k1, k2⟩ := grow_le (Heap.le_trans hT.of.1 (Heap.le_set hb)) hT.of.2.2 g2 g3
        rw [← hcr] at g1
        clear g2 g3 hT
        have hT := Keep.mk (And.intro g1 (And.intro k1 k2))
        clear g1 k1 k2
        (simp only [go_sem, reduceIte, Nat.reduceEqDiff, Nat.reduceLT, Nat.reduceLeDiff, Nat.reduceAdd, reduceCtorEq, Int.reduceToNat, Int.reduceLE, Int.reduceLT, Int.reduceNeg, Int.reduceEq, Int.reduceNe, Nat.reduceBEq, Nat.reduceMul, Nat.reducePow, Int.cast_ofNat_Int, *])
        exact ⟨m - 1, by omega, i + 1, p1, by omega, rfl, rfl, hT.of.2.1, hT.of.1, hT.of.2.2⟩
theorem bareW_calls (l : List Pt) (hb : bulks l ≤ 1048576) (S : Heap) : CallsQ Try.prog 68 [.agg [.slice 5 (prows l)]] S (.agg [.slice 5 (prows (bareTs l))]) := by
  have hcall := bare_calls 1048576 (Nat.le_refl _) l hb
  refine CallsQ_less ?_
  refine CallsA_W (fun _ => false) Try.func68 rfl (Nat.le_of_ble_eq_true rfl) ?_
  simp only [Try.f68]
  have hu := Try.underlying33
  (simp only [go_sem, reduceIte, Nat.reduceEqDiff, Nat.reduceLT, Nat.reduceLeDiff, Nat.reduceAdd, reduceCtorEq, Int.reduceToNat, Int.reduceLE, Int.reduceLT, Int.reduceNeg, Int.reduceEq, Int.reduceNe, Nat.reduceBEq, Nat.reduceMul, Nat.reducePow, Int.cast_ofNat_Int, *])
  refine OpW_of (OpA_alloc rfl zeroCells33 (okDst_spec rfl) fun b hb => ?_)
  (simp only [go_sem, reduceIte, Nat.reduceEqDiff, Nat.reduceLT, Nat.reduceLeDiff, Nat.reduceAdd, reduceCtorEq, Int.reduceToNat, Int.reduceLE, Int.reduceLT, Int.reduceNeg, Int.reduceEq, Int.reduceNe, Nat.reduceBEq, Nat.reduceMul, Nat.reducePow, Int.cast_ofNat_Int, *])
  (repeat' first | ((first | refine split_d ?_ ?_ | refine split_gt rfl ?_ ?_ | refine split_gf rfl ?_ ?_ | refine split_b ?_ ?_ | refine split_gb rfl ?_ ?_) <;> intro _ <;> ((try simp only [go_sem, reduceIte, Nat.reduceEqDiff, Nat.reduceLT, Nat.reduceLeDiff, Nat.reduceAdd, reduceCtorEq, Int.reduceToNat, Int.reduceLE, Int.reduceLT, Int.reduceNeg, Int.reduceEq, Int.reduceNe, Nat.reduceBEq, Nat.reduceMul, Nat.reducePow, Int.cast_ofNat_Int, *]))) | ((first | (refine OpW_call rfl rfl call117 rfl ((hcall _).mono ?_)) | fail) <;> (rintro p_ S_ ⟨rfl, rfl⟩; (try simp only [go_sem, reduceIte, Nat.reduceEqDiff, Nat.reduceLT, Nat.reduceLeDiff, Nat.reduceAdd, reduceCtorEq, Int.reduceToNat, Int.reduceLE, Int.reduceLT, Int.reduceNeg, Int.reduceEq, Int.reduceNe, Nat.reduceBEq, Nat.reduceMul, Nat.reducePow, Int.cast_ofNat_Int, *]))) | fail)
  refine OpW_put (es := [.slice 5 (prows (bareTs l))]) rfl rfl set_self rfl rfl size33 (Nat.le_of_ble_eq_true rfl) rfl ?_
  rw [Heap.set_set]
  (simp only [go_sem, reduceIte, Nat.reduceEqDiff, Nat.reduceLT, Nat.reduceLeDiff, Nat.reduceAdd, reduceCtorEq, Int.reduceToNat, Int.reduceLE, Int.reduceLT, Int.reduceNeg, Int.reduceEq, Int.reduceNe, Nat.reduceBEq, Nat.reduceMul, Nat.reducePow, Int.cast_ofNat_Int, *])
  exact Heap.le_set hb
theorem bare24_calls : ∀ (n : Nat), n ≤ 1048576 → ∀ (l : List Pt), bulks l ≤ n → ∀ S, CallsQ Try.prog 69 [.slice 5 (prows l)] S (.slice 5 (prows (bareTs l))) := by
  intro n
  induction n using Nat.strongRecOn with
  | _ n ih =>
    intro hn l hbl S
    have hll : l.length ≤ 1048576 := Nat.le_trans (bulks_len l) (by omega)
    have hk : ∀ (i : Nat) (p : Pt), l[i]? = some p → ∀ S, CallsQ Try.prog 69 [.slice 5 (prows p.kids)] S (.slice 5 (prows (bareTs p.kids))) := fun i p hp S => by
      have := kid_lt hp hbl
      exact ih _ this (by omega) p.kids (Nat.le_refl _) S
    refine CallsQ_freeze (e := 41) ?_
    refine CallsA_W (fun _ => false) Try.func69 rfl (Nat.le_of_ble_eq_true rfl) ?_
    simp only [Try.f69]
    (simp only [go_sem, reduceIte, Nat.reduceEqDiff, Nat.reduceLT, Nat.reduceLeDiff, Nat.reduceAdd, reduceCtorEq, Int.reduceToNat, Int.reduceLE, Int.reduceLT, Int.reduceNeg, Int.reduceEq, Int.reduceNe, Nat.reduceBEq, Nat.reduceMul, Nat.reducePow, Int.cast_ofNat_Int, *])
    refine CodeW_loop (fun m σ' S' => ∃ (i : Nat) (ps : PV), i + m = l.length ∧ σ' 0 = .slice 5 (prows l) ∧ σ' 3 = ps ∧ σ' 4 = .int .i64 i ∧ S.le S' ∧ Grows S' 5 41 ((l.take i).map bareRaw) ps ∧ ∀ b, ownB ps = some b → S b = none) l.length ?_ ?_
    · (simp only [go_sem, reduceIte, Nat.reduceEqDiff, Nat.reduceLT, Nat.reduceLeDiff, Nat.reduceAdd, reduceCtorEq, Int.reduceToNat, Int.reduceLE, Int.reduceLT, Int.reduceNeg, Int.reduceEq, Int.reduceNe, Nat.reduceBEq, Nat.reduceMul, Nat.reducePow, Int.cast_ofNat_Int, *])
      exact ⟨0, .sl0, by omega, rfl, rfl, Heap.le_refl S, Or.inl ⟨rfl, rfl⟩, fun b h => by cases h⟩
    · rintro m σ' S' ⟨i, ps, h1, h2, h3, h4, h5, h6, h7⟩
      cases hc : l[i]? with
      | none =>
        have hl : l.length ≤ i := List.getElem?_eq_none_iff.1 hc
        have hlt : ¬ ((i : Int) < (l.length : Int)) := by omega
        rw [List.take_of_length_le hl] at h6
        have hK := Keep.mk (And.intro h6 h7)
        clear hk ih h6 h7
        (simp only [go_sem, reduceIte, Nat.reduceEqDiff, Nat.reduceLT, Nat.reduceLeDiff, Nat.reduceAdd, reduceCtorEq, Int.reduceToNat, Int.reduceLE, Int.reduceLT, Int.reduceNeg, Int.reduceEq, Int.reduceNe, Nat.reduceBEq, Nat.reduceMul, Nat.reducePow, Int.cast_ofNat_Int, *])
        exact ⟨_, hK.of.1, hK.of.2, bareRaw_w l⟩
      | some p =>
        have hl := (List.getElem?_eq_some_iff.1 hc).1
        have hlt : (i : Int) < (l.length : Int) := by omega
        have hw := wrap1 hl (by omega)
        have hcall := hk i p hc
        have hcr : (l.take (i + 1)).map bareRaw = (l.take i).map bareRaw ++ [[.int .i64 p.k, .str p.text, .str p.op, .slice 5 (prows (bareTs p.kids)), .sl0]] := by rw [take_snoc hc, List.map_append]; rfl
        have hlen : ((l.take i).map bareRaw).length ≤ 1048576 := by simp; omega
        have hT := Keep.mk (And.intro h5 (And.intro h6 h7))
        have hu := Try.underlying41
        clear hk ih h6 h7 h5
        (simp only [go_sem, reduceIte, Nat.reduceEqDiff, Nat.reduceLT, Nat.reduceLeDiff, Nat.reduceAdd, reduceCtorEq, Int.reduceToNat, Int.reduceLE, Int.reduceLT, Int.reduceNeg, Int.reduceEq, Int.reduceNe, Nat.reduceBEq, Nat.reduceMul, Nat.reducePow, Int.cast_ofNat_Int, *])
        refine CodeW_quiet mixed 24 (by kernel_rfl) ?_
        (simp only [go_sem, reduceIte, Nat.reduceEqDiff, Nat.reduceLT, Nat.reduceLeDiff, Nat.reduceAdd, reduceCtorEq, Int.reduceToNat, Int.reduceLE, Int.reduceLT, Int.reduceNeg, Int.reduceEq, Int.reduceNe, Nat.reduceBEq, Nat.reduceMul, Nat.reducePow, Int.cast_ofNat_Int, *])
        refine QCW_call rfl rfl call69 (hcall _) ?_
        (simp only [go_sem, reduceIte, Nat.reduceEqDiff, Nat.reduceLT, Nat.reduceLeDiff, Nat.reduceAdd, reduceCtorEq, Int.reduceToNat, Int.reduceLE, Int.reduceLT, Int.reduceNeg, Int.reduceEq, Int.reduceNe, Nat.reduceBEq, Nat.reduceMul, Nat.reducePow, Int.cast_ofNat_Int, *])
        refine OpW_append (rows := [[.int .i64 p.k, .str p.text, .str p.op, .slice 5 (prows (bareTs p.kids)), .sl0]]) (olds := (l.take i).map bareRaw) (ps := ps) rfl appParts rfl rfl (fun r hr c' hc' => by
            simp only [List.mem_singleton] at hr
            subst hr
            simp only [List.mem_cons, List.not_mem_nil, or_false] at hc'
            rcases hc' with rfl | rfl | rfl | rfl | rfl <;> rfl) (by simp [ev, upd, h3]) hT.of.2.1 (by simp only [maxLen, List.length_cons, List.length_nil]; omega) (by simp only [List.length_cons, List.length_nil]; omega) ?_
        rintro p1 S1 g1 g2 g3
        obtain ⟨k1, k2⟩ := grow_le hT.of.1 hT.of.2.2 g2 g3
        rw [← hcr] at g1
        clear g2 g3 hT
        have hT := Keep.mk (And.intro g1 (And.intro k1 k2))
        clear g1 k1 k2
        (simp only [go_sem, reduceIte, Nat.reduceEqDiff, Nat.reduceLT, Nat.reduceLeDiff, Nat.reduceAdd, reduceCtorEq, Int.reduceToNat, Int.reduceLE, Int.reduceLT, Int.reduceNeg, Int.reduceEq, Int.reduceNe, Nat.reduceBEq, Nat.reduceMul, Nat.reducePow, Int.cast_ofNat_Int, *])
        exact ⟨m - 1, by omega, i + 1, p1, by omega, rfl, rfl, hT.of.2.1, hT.of.1, hT.of.2.2⟩

end Go.Proofs.Ytcbonfgkfiapaaa.Pv

/-! What package part computes: whether two are the same. -/
set_option linter.unusedVariables false
set_option linter.unusedSimpArgs false
set_option maxRecDepth 100000
set_option maxHeartbeats 40000000
namespace Go.Proofs.Ytcbonfgkfiapaaa.Pv
open Go Go.RowKit

def EqC (n : Nat) : Prop := ∀ (a b : List Pt), bulks a ≤ n → ∀ S, CallsQ Try.prog 139 [.slice 5 (prows a), .slice 5 (prows b), .fn (.func 140) [] []] S (.bool (sames a b))
theorem same1_calls {n : Nat} (ih : EqC n) (p q : Pt) (hb : bulks p.kids ≤ n) (S : Heap) : CallsQ Try.prog 140 [.agg [.int .i64 p.k, .str p.text, .str p.op, .slice 5 (prows p.kids), .slice 10 p.cmds], .agg [.int .i64 q.k, .str q.text, .str q.op, .slice 5 (prows q.kids), .slice 10 q.cmds]] S (.bool (p.same q)) := by
  have hk := ih p.kids q.kids hb
  rw [same_eq]
  generalize sames p.kids q.kids = B at *
  refine CallsA_W (fun _ => false) Try.func140 rfl (Nat.le_of_ble_eq_true rfl) ?_
  simp only [Try.f140]
  by_cases e1 : p.k = q.k
  · by_cases e2 : p.text = q.text
    · by_cases e3 : p.op = q.op
      · (simp only [go_sem, reduceIte, Nat.reduceEqDiff, Nat.reduceLT, Nat.reduceLeDiff, Nat.reduceAdd, reduceCtorEq, Int.reduceToNat, Int.reduceLE, Int.reduceLT, Int.reduceNeg, Int.reduceEq, Int.reduceNe, Nat.reduceBEq, Nat.reduceMul, Nat.reducePow, Int.cast_ofNat_Int, *])
        (repeat' first | ((first | refine split_d ?_ ?_ | refine split_gt rfl ?_ ?_ | refine split_gf rfl ?_ ?_ | refine split_b ?_ ?_ | refine split_gb rfl ?_ ?_) <;> intro _ <;> ((try simp only [go_sem, reduceIte, Nat.reduceEqDiff, Nat.reduceLT, Nat.reduceLeDiff, Nat.reduceAdd, reduceCtorEq, Int.reduceToNat, Int.reduceLE, Int.reduceLT, Int.reduceNeg, Int.reduceEq, Int.reduceNe, Nat.reduceBEq, Nat.reduceMul, Nat.reducePow, Int.cast_ofNat_Int, *]))) | ((first | (refine OpW_call rfl rfl call139 rfl ((hk _).mono ?_)) | fail) <;> (rintro p_ S_ ⟨rfl, rfl⟩; (try simp only [go_sem, reduceIte, Nat.reduceEqDiff, Nat.reduceLT, Nat.reduceLeDiff, Nat.reduceAdd, reduceCtorEq, Int.reduceToNat, Int.reduceLE, Int.reduceLT, Int.reduceNeg, Int.reduceEq, Int.reduceNe, Nat.reduceBEq, Nat.reduceMul, Nat.reducePow, Int.cast_ofNat_Int, *]))) | fail)
        all_goals simp [*]
      · (simp only [go_sem, reduceIte, Nat.reduceEqDiff, Nat.reduceLT, Nat.reduceLeDiff, Nat.reduceAdd, reduceCtorEq, Int.reduceToNat, Int.reduceLE, Int.reduceLT, Int.reduceNeg, Int.reduceEq, Int.reduceNe, Nat.reduceBEq, Nat.reduceMul, Nat.reducePow, Int.cast_ofNat_Int, *])
        (repeat' first | ((first | refine split_d ?_ ?_ | refine split_gt rfl ?_ ?_ | refine split_gf rfl ?_ ?_ | refine split_b ?_ ?_ | refine split_gb rfl ?_ ?_) <;> intro _ <;> ((try simp only [go_sem, reduceIte, Nat.reduceEqDiff, Nat.reduceLT, Nat.reduceLeDiff, Nat.reduceAdd, reduceCtorEq, Int.reduceToNat, Int.reduceLE, Int.reduceLT, Int.reduceNeg, Int.reduceEq, Int.reduceNe, Nat.reduceBEq, Nat.reduceMul, Nat.reducePow, Int.cast_ofNat_Int, *]))) | fail)
        all_goals simp [*]
    · (simp only [go_sem, reduceIte, Nat.reduceEqDiff, Nat.reduceLT, Nat.reduceLeDiff, Nat.reduceAdd, reduceCtorEq, Int.reduceToNat, Int.reduceLE, Int.reduceLT, Int.reduceNeg, Int.reduceEq, Int.reduceNe, Nat.reduceBEq, Nat.reduceMul, Nat.reducePow, Int.cast_ofNat_Int, *])
      (repeat' first | ((first | refine split_d ?_ ?_ | refine split_gt rfl ?_ ?_ | refine split_gf rfl ?_ ?_ | refine split_b ?_ ?_ | refine split_gb rfl ?_ ?_) <;> intro _ <;> ((try simp only [go_sem, reduceIte, Nat.reduceEqDiff, Nat.reduceLT, Nat.reduceLeDiff, Nat.reduceAdd, reduceCtorEq, Int.reduceToNat, Int.reduceLE, Int.reduceLT, Int.reduceNeg, Int.reduceEq, Int.reduceNe, Nat.reduceBEq, Nat.reduceMul, Nat.reducePow, Int.cast_ofNat_Int, *]))) | fail)
      all_goals simp [*]
  · (simp only [go_sem, reduceIte, Nat.reduceEqDiff, Nat.reduceLT, Nat.reduceLeDiff, Nat.reduceAdd, reduceCtorEq, Int.reduceToNat, Int.reduceLE, Int.reduceLT, Int.reduceNeg, Int.reduceEq, Int.reduceNe, Nat.reduceBEq, Nat.reduceMul, Nat.reducePow, Int.cast_ofNat_Int, *])
    (repeat' first | ((first | refine split_d ?_ ?_ | refine split_gt rfl ?_ ?_ | refine split_gf rfl ?_ ?_ | refine split_b ?_ ?_ | refine split_gb rfl ?_ ?_) <;> intro _ <;> ((try simp only [go_sem, reduceIte, Nat.reduceEqDiff, Nat.reduceLT, Nat.reduceLeDiff, Nat.reduceAdd, reduceCtorEq, Int.reduceToNat, Int.reduceLE, Int.reduceLT, Int.reduceNeg, Int.reduceEq, Int.reduceNe, Nat.reduceBEq, Nat.reduceMul, Nat.reducePow, Int.cast_ofNat_Int, *]))) | fail)
    all_goals simp [*]
theorem eqFunc_calls (n : Nat) (hn : n ≤ 1048576) : EqC n := by
  induction n using Nat.strongRecOn with
  | _ n ih =>
    intro a b hbl S
    have hll : a.length ≤ 1048576 := Nat.le_trans (bulks_len a) (by omega)
    have hk : ∀ (i : Nat) (p : Pt), a[i]? = some p → ∀ q : Pt, ∀ S, CallsQ Try.prog 140 [.agg [.int .i64 p.k, .str p.text, .str p.op, .slice 5 (prows p.kids), .slice 10 p.cmds], .agg [.int .i64 q.k, .str q.text, .str q.op, .slice 5 (prows q.kids), .slice 10 q.cmds]] S (.bool (p.same q)) := fun i p hp q S => by
      have := kid_lt hp hbl
      exact same1_calls (ih _ this (by omega)) p q (Nat.le_refl _) S
    by_cases hlen : (a.length : Int) = (b.length : Int)
    · obtain ⟨T, hT⟩ : ∃ T, sames a b = T := ⟨_, rfl⟩
      rw [hT]
      refine CallsQ_less ?_
      refine CallsA_W (fun _ => false) Try.func139 rfl (Nat.le_of_ble_eq_true rfl) ?_
      simp only [Try.f139]
      (simp only [go_sem, reduceIte, Nat.reduceEqDiff, Nat.reduceLT, Nat.reduceLeDiff, Nat.reduceAdd, reduceCtorEq, Int.reduceToNat, Int.reduceLE, Int.reduceLT, Int.reduceNeg, Int.reduceEq, Int.reduceNe, Nat.reduceBEq, Nat.reduceMul, Nat.reducePow, Int.cast_ofNat_Int, *])
      refine CodeW_loop (fun m σ' S' => ∃ i : Nat, i + m = a.length ∧ σ' 1 = .slice 5 (prows b) ∧ σ' 2 = .fn (.func 140) [] [] ∧ σ' 15 = .slice 5 (prows a) ∧ σ' 16 = .int .i64 (a.length : Int) ∧ σ' 17 = .int .i64 i ∧ S.le S' ∧ sames (a.drop i) (b.drop i) = T) a.length ?_ ?_
      · (simp only [go_sem, reduceIte, Nat.reduceEqDiff, Nat.reduceLT, Nat.reduceLeDiff, Nat.reduceAdd, reduceCtorEq, Int.reduceToNat, Int.reduceLE, Int.reduceLT, Int.reduceNeg, Int.reduceEq, Int.reduceNe, Nat.reduceBEq, Nat.reduceMul, Nat.reducePow, Int.cast_ofNat_Int, *])
        exact ⟨0, by omega, rfl, Heap.le_refl S, by simpa using hT⟩
      · rintro m σ' S' ⟨i, h1, h2, h3, h4, h5, h5', hS, h6⟩
        cases hc : a[i]? with
        | none =>
          have hl : a.length ≤ i := List.getElem?_eq_none_iff.1 hc
          have hlt : ¬ ((i : Int) < (a.length : Int)) := by omega
          have hlt2 : ¬ ((i : Int) < (b.length : Int)) := by omega
          rw [List.drop_eq_nil_of_le hl, List.drop_eq_nil_of_le (by omega)] at h6
          simp only [sames] at h6
          subst h6
          clear hk hT hlen
          (simp only [go_sem, reduceIte, Nat.reduceEqDiff, Nat.reduceLT, Nat.reduceLeDiff, Nat.reduceAdd, reduceCtorEq, Int.reduceToNat, Int.reduceLE, Int.reduceLT, Int.reduceNeg, Int.reduceEq, Int.reduceNe, Nat.reduceBEq, Nat.reduceMul, Nat.reducePow, Int.cast_ofNat_Int, *])
        | some p =>
          have hl := (List.getElem?_eq_some_iff.1 hc).1
          have hlt : (i : Int) < (a.length : Int) := by omega
          obtain ⟨q, hq⟩ : ∃ q, b[i]? = some q := ⟨_, List.getElem?_eq_getElem (by omega)⟩
          have hw := wrap1 hl (by omega)
          have hcall := hk i p hc q
          rw [drop_at hc, drop_at hq] at h6
          simp only [sames] at h6
          have h6' := Keep.mk h6
          clear hk hT h6 hlen
          generalize p.same q = B at *
          (simp only [go_sem, reduceIte, Nat.reduceEqDiff, Nat.reduceLT, Nat.reduceLeDiff, Nat.reduceAdd, reduceCtorEq, Int.reduceToNat, Int.reduceLE, Int.reduceLT, Int.reduceNeg, Int.reduceEq, Int.reduceNe, Nat.reduceBEq, Nat.reduceMul, Nat.reducePow, Int.cast_ofNat_Int, *])
          refine OpW_of (OpA_alloc rfl zeroCells41 (okDst_spec rfl) fun c1 hc1 => ?_)
          (simp only [go_sem, reduceIte, Nat.reduceEqDiff, Nat.reduceLT, Nat.reduceLeDiff, Nat.reduceAdd, reduceCtorEq, Int.reduceToNat, Int.reduceLE, Int.reduceLT, Int.reduceNeg, Int.reduceEq, Int.reduceNe, Nat.reduceBEq, Nat.reduceMul, Nat.reducePow, Int.cast_ofNat_Int, *])
          refine OpW_put (es := [.int .i64 p.k, .str p.text, .str p.op, .slice 5 (prows p.kids), .slice 10 p.cmds]) rfl rfl set_self rfl rfl size41 (Nat.le_of_ble_eq_true rfl) rfl ?_
          rw [Heap.set_set]
          (simp only [go_sem, reduceIte, Nat.reduceEqDiff, Nat.reduceLT, Nat.reduceLeDiff, Nat.reduceAdd, reduceCtorEq, Int.reduceToNat, Int.reduceLE, Int.reduceLT, Int.reduceNeg, Int.reduceEq, Int.reduceNe, Nat.reduceBEq, Nat.reduceMul, Nat.reducePow, Int.cast_ofNat_Int, *])
          refine OpW_of (OpA_alloc rfl zeroCells41 (okDst_spec rfl) fun c2 hc2 => ?_)
          (simp only [go_sem, reduceIte, Nat.reduceEqDiff, Nat.reduceLT, Nat.reduceLeDiff, Nat.reduceAdd, reduceCtorEq, Int.reduceToNat, Int.reduceLE, Int.reduceLT, Int.reduceNeg, Int.reduceEq, Int.reduceNe, Nat.reduceBEq, Nat.reduceMul, Nat.reducePow, Int.cast_ofNat_Int, *])
          refine OpW_put (es := [.int .i64 q.k, .str q.text, .str q.op, .slice 5 (prows q.kids), .slice 10 q.cmds]) rfl rfl set_self rfl rfl size41 (Nat.le_of_ble_eq_true rfl) rfl ?_
          rw [Heap.set_set]
          have hne : c1 ≠ c2 := fun e => by subst e; rw [set_apply, if_pos rfl] at hc2; cases hc2
          have hS2 := Keep.mk (Heap.le_trans (Heap.le_trans hS (Heap.le_set hc1)) (Heap.le_set (o := .cells [.int .i64 q.k, .str q.text, .str q.op, .slice 5 (prows q.kids), .slice 10 q.cmds] 41) hc2))
          (simp only [go_sem, reduceIte, Nat.reduceEqDiff, Nat.reduceLT, Nat.reduceLeDiff, Nat.reduceAdd, reduceCtorEq, Int.reduceToNat, Int.reduceLE, Int.reduceLT, Int.reduceNeg, Int.reduceEq, Int.reduceNe, Nat.reduceBEq, Nat.reduceMul, Nat.reducePow, Int.cast_ofNat_Int, *])
          refine OpW_call (ps := [.agg [.int .i64 p.k, .str p.text, .str p.op, .slice 5 (prows p.kids), .slice 10 p.cmds], .agg [.int .i64 q.k, .str q.text, .str q.op, .slice 5 (prows q.kids), .slice 10 q.cmds]]) rfl rfl call140 rfl ((hcall _).mono ?_)
          rintro r S3 ⟨rfl, rfl⟩
          cases B with
          | false =>
            (simp only [go_sem, reduceIte, Nat.reduceEqDiff, Nat.reduceLT, Nat.reduceLeDiff, Nat.reduceAdd, reduceCtorEq, Int.reduceToNat, Int.reduceLE, Int.reduceLT, Int.reduceNeg, Int.reduceEq, Int.reduceNe, Nat.reduceBEq, Nat.reduceMul, Nat.reducePow, Int.cast_ofNat_Int, *])
            have h6 := h6'.of
            simp at h6
            exact ⟨by rw [h6], hS2.of⟩
          | true =>
            (simp only [go_sem, reduceIte, Nat.reduceEqDiff, Nat.reduceLT, Nat.reduceLeDiff, Nat.reduceAdd, reduceCtorEq, Int.reduceToNat, Int.reduceLE, Int.reduceLT, Int.reduceNeg, Int.reduceEq, Int.reduceNe, Nat.reduceBEq, Nat.reduceMul, Nat.reducePow, Int.cast_ofNat_Int, *])
            have h6 := h6'.of
            exact ⟨m - 1, by omega, i + 1, by omega, rfl, hS2.of, by simpa using h6⟩
    · have hT : sames a b = false := by
        cases h : sames a b with
        | false => rfl
        | true => exact absurd (congrArg Int.ofNat (sames_len h)) hlen
      rw [hT]
      refine CallsA_W (fun _ => false) Try.func139 rfl (Nat.le_of_ble_eq_true rfl) ?_
      simp only [Try.f139]
      (simp only [go_sem, reduceIte, Nat.reduceEqDiff, Nat.reduceLT, Nat.reduceLeDiff, Nat.reduceAdd, reduceCtorEq, Int.reduceToNat, Int.reduceLE, Int.reduceLT, Int.reduceNeg, Int.reduceEq, Int.reduceNe, Nat.reduceBEq, Nat.reduceMul, Nat.reducePow, Int.cast_ofNat_Int, *])

theorem sameW_calls (a b : List Pt) (hb : bulks a ≤ 1048576) (S : Heap) : CallsQ Try.prog 111 [.agg [.slice 5 (prows a)], .agg [.slice 5 (prows b)]] S (.bool (sames a b)) := by
  have hcall := eqFunc_calls 1048576 (Nat.le_refl _) a b hb
  refine CallsA_W (fun _ => false) Try.func111 rfl (Nat.le_of_ble_eq_true rfl) ?_
  simp only [Try.f111]
  (simp only [go_sem, reduceIte, Nat.reduceEqDiff, Nat.reduceLT, Nat.reduceLeDiff, Nat.reduceAdd, reduceCtorEq, Int.reduceToNat, Int.reduceLE, Int.reduceLT, Int.reduceNeg, Int.reduceEq, Int.reduceNe, Nat.reduceBEq, Nat.reduceMul, Nat.reducePow, Int.cast_ofNat_Int, *])
  (repeat' first | ((first | refine split_d ?_ ?_ | refine split_gt rfl ?_ ?_ | refine split_gf rfl ?_ ?_ | refine split_b ?_ ?_ | refine split_gb rfl ?_ ?_) <;> intro _ <;> ((try simp only [go_sem, reduceIte, Nat.reduceEqDiff, Nat.reduceLT, Nat.reduceLeDiff, Nat.reduceAdd, reduceCtorEq, Int.reduceToNat, Int.reduceLE, Int.reduceLT, Int.reduceNeg, Int.reduceEq, Int.reduceNe, Nat.reduceBEq, Nat.reduceMul, Nat.reducePow, Int.cast_ofNat_Int, *]))) | ((first | (refine OpW_call rfl rfl call139 rfl ((hcall _).mono ?_)) | fail) <;> (rintro p_ S_ ⟨rfl, rfl⟩; (try simp only [go_sem, reduceIte, Nat.reduceEqDiff, Nat.reduceLT, Nat.reduceLeDiff, Nat.reduceAdd, reduceCtorEq, Int.reduceToNat, Int.reduceLE, Int.reduceLT, Int.reduceNeg, Int.reduceEq, Int.reduceNe, Nat.reduceBEq, Nat.reduceMul, Nat.reducePow, Int.cast_ofNat_Int, *]))) | fail)

end Go.Proofs.Ytcbonfgkfiapaaa.Pv
