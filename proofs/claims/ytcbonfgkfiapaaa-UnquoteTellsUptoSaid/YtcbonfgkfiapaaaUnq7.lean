/- What the reference of package unquote computes. -/
import Derived.Test.YtcbonfgkfiapaaaUnq6
import Derived.Test.YtcbonfgkfiapaaaUnq3
import Derived.Test.YtcbonfgkfiapaaaPtLaw
set_option linter.unusedVariables false
set_option linter.unusedSimpArgs false
set_option maxRecDepth 100000
set_option maxHeartbeats 40000000
namespace Go.Proofs.Ytcbonfgkfiapaaa.Pv
open Go Go.RowKit

def txV (o : Option (List UInt8)) : PV := .tup [.str (o.getD []), .bool o.isSome]
theorem reftext_calls (N : Nat) (hN : N ≤ 1048576) : ∀ l : List Pt, bulks l ≤ N → ∀ S, CallsQ Try.prog 95 [.slice 5 (prows l)] S (txV (txs l)) := by
  induction N using Nat.strongRecOn with
  | _ N ih =>
    intro l hb S0
    obtain ⟨T, hT⟩ : ∃ T, txs l = T := ⟨_, rfl⟩
    rw [hT]
    have hll : l.length ≤ 1048576 := Nat.le_trans (bulks_len l) (by omega)
    refine CallsA_W (fun _ => false) Try.func95 rfl (Nat.le_of_ble_eq_true rfl) ?_
    simp only [Try.f95]
    (simp only [go_sem, reduceIte, Nat.reduceEqDiff, Nat.reduceLT, Nat.reduceLeDiff, Nat.reduceAdd, reduceCtorEq, Int.reduceToNat, Int.reduceLE, Int.reduceLT, Int.reduceNeg, Int.reduceEq, Int.reduceNe, Nat.reduceBEq, Nat.reduceMul, Nat.reducePow, Int.cast_ofNat_Int, *])
    refine CodeW_loop (fun m σ' S' => ∃ (i : Nat) (acc : List UInt8), i + m = l.length ∧ σ' 0 = .slice 5 (prows l) ∧ σ' 4 = .str acc ∧ σ' 5 = .int .i64 i ∧ S' = S0 ∧ acc.length + bulks (l.drop i) ≤ bulks l ∧ (txs (l.drop i)).map (acc ++ ·) = T) l.length ?_ ?_
    · (simp only [go_sem, reduceIte, Nat.reduceEqDiff, Nat.reduceLT, Nat.reduceLeDiff, Nat.reduceAdd, reduceCtorEq, Int.reduceToNat, Int.reduceLE, Int.reduceLT, Int.reduceNeg, Int.reduceEq, Int.reduceNe, Nat.reduceBEq, Nat.reduceMul, Nat.reducePow, Int.cast_ofNat_Int, *])
      exact ⟨0, [], by omega, rfl, rfl, by simp, by simpa using hT⟩
    · rintro m σ' S' ⟨i, acc, h1, h2, h3, h4, rfl, h6, h7⟩
      clear hT
      cases hc : l[i]? with
      | none =>
        have hl : l.length ≤ i := List.getElem?_eq_none_iff.1 hc
        have hlt : ¬ ((i : Int) < (l.length : Int)) := by omega
        rw [List.drop_eq_nil_of_le hl] at h6 h7
        simp only [txs, Option.map_some, List.append_nil] at h7
        subst h7
        clear ih h6
        (simp only [go_sem, reduceIte, Nat.reduceEqDiff, Nat.reduceLT, Nat.reduceLeDiff, Nat.reduceAdd, reduceCtorEq, Int.reduceToNat, Int.reduceLE, Int.reduceLT, Int.reduceNeg, Int.reduceEq, Int.reduceNe, Nat.reduceBEq, Nat.reduceMul, Nat.reducePow, Int.cast_ofNat_Int, *])
        rfl
      | some p =>
        have hl := (List.getElem?_eq_some_iff.1 hc).1
        have hlt : (i : Int) < (l.length : Int) := by omega
        have hw := wrap1 hl (by omega)
        rw [drop_at hc] at h6 h7
        simp only [txs, bulks] at h6 h7
        have hq := Keep.mk h7
        have hpb := bulk_eq p
        have hpg := bulks_get hc
        clear h7
        by_cases k1 : p.k = 1
        · have ho : p.tx = some p.text := by rw [tx_eq, if_pos (Or.inl k1)]
          have hadd : acc.length + p.text.length ≤ 9223372036854775807 := by omega
          (simp only [go_sem, reduceIte, Nat.reduceEqDiff, Nat.reduceLT, Nat.reduceLeDiff, Nat.reduceAdd, reduceCtorEq, Int.reduceToNat, Int.reduceLE, Int.reduceLT, Int.reduceNeg, Int.reduceEq, Int.reduceNe, Nat.reduceBEq, Nat.reduceMul, Nat.reducePow, Int.cast_ofNat_Int, *])
          refine ⟨m - 1, by omega, i + 1, _, by omega, rfl, rfl, by simp; omega, ?_⟩
          rw [← hq.of, ho]
          simp only [Option.bind_some, Option.map_map]
          congr 1
          funext s
          simp [Function.comp]
        by_cases k2 : p.k = 2
        · have ho : p.tx = some p.text := by rw [tx_eq, if_pos (Or.inr (Or.inl k2))]
          have hadd : acc.length + p.text.length ≤ 9223372036854775807 := by omega
          (simp only [go_sem, reduceIte, Nat.reduceEqDiff, Nat.reduceLT, Nat.reduceLeDiff, Nat.reduceAdd, reduceCtorEq, Int.reduceToNat, Int.reduceLE, Int.reduceLT, Int.reduceNeg, Int.reduceEq, Int.reduceNe, Nat.reduceBEq, Nat.reduceMul, Nat.reducePow, Int.cast_ofNat_Int, *])
          refine ⟨m - 1, by omega, i + 1, _, by omega, rfl, rfl, by simp; omega, ?_⟩
          rw [← hq.of, ho]
          simp only [Option.bind_some, Option.map_map]
          congr 1
          funext s
          simp [Function.comp]
        by_cases k3 : p.k = 3
        · have ho : p.tx = some p.text := by rw [tx_eq, if_pos (Or.inr (Or.inr k3))]
          have hadd : acc.length + p.text.length ≤ 9223372036854775807 := by omega
          (simp only [go_sem, reduceIte, Nat.reduceEqDiff, Nat.reduceLT, Nat.reduceLeDiff, Nat.reduceAdd, reduceCtorEq, Int.reduceToNat, Int.reduceLE, Int.reduceLT, Int.reduceNeg, Int.reduceEq, Int.reduceNe, Nat.reduceBEq, Nat.reduceMul, Nat.reducePow, Int.cast_ofNat_Int, *])
          refine ⟨m - 1, by omega, i + 1, _, by omega, rfl, rfl, by simp; omega, ?_⟩
          rw [← hq.of, ho]
          simp only [Option.bind_some, Option.map_map]
          congr 1
          funext s
          simp [Function.comp]
        have hno : ¬ (p.k = 1 ∨ p.k = 2 ∨ p.k = 3) := by rintro (h | h | h) <;> contradiction
        by_cases k4 : p.k = 4
        · have ho : p.tx = txs p.kids := by rw [tx_eq, if_neg hno, if_pos k4]
          have hcall := ih (bulks p.kids) (by omega) (by omega) p.kids (Nat.le_refl _) S'
          cases ht : txs p.kids with
          | none =>
            have hT : T = none := by rw [← hq.of, ho, ht]; rfl
            subst hT
            rw [ht] at hcall
            have hv : txV none = .tup [.str [], .bool false] := rfl
            rw [hv] at hcall ⊢
            clear hno ht ho hq hv
            (simp only [go_sem, reduceIte, Nat.reduceEqDiff, Nat.reduceLT, Nat.reduceLeDiff, Nat.reduceAdd, reduceCtorEq, Int.reduceToNat, Int.reduceLE, Int.reduceLT, Int.reduceNeg, Int.reduceEq, Int.reduceNe, Nat.reduceBEq, Nat.reduceMul, Nat.reducePow, Int.cast_ofNat_Int, *])
            refine OpW_call rfl rfl call95 rfl (hcall.mono ?_)
            rintro q_ S4 ⟨rfl, rfl⟩
            (simp only [go_sem, reduceIte, Nat.reduceEqDiff, Nat.reduceLT, Nat.reduceLeDiff, Nat.reduceAdd, reduceCtorEq, Int.reduceToNat, Int.reduceLE, Int.reduceLT, Int.reduceNeg, Int.reduceEq, Int.reduceNe, Nat.reduceBEq, Nat.reduceMul, Nat.reducePow, Int.cast_ofNat_Int, *])
          | some t =>
            rw [ht] at hcall
            have hv : txV (some t) = .tup [.str t, .bool true] := rfl
            rw [hv] at hcall
            have htl := txs_len p.kids t ht
            have hadd : acc.length + t.length ≤ 9223372036854775807 := by omega
            have hq' := hq.of
            rw [ho, ht] at hq'
            have hq2 := Keep.mk hq'
            clear hno ht ho hq hv hq'
            (simp only [go_sem, reduceIte, Nat.reduceEqDiff, Nat.reduceLT, Nat.reduceLeDiff, Nat.reduceAdd, reduceCtorEq, Int.reduceToNat, Int.reduceLE, Int.reduceLT, Int.reduceNeg, Int.reduceEq, Int.reduceNe, Nat.reduceBEq, Nat.reduceMul, Nat.reducePow, Int.cast_ofNat_Int, *])
            refine OpW_call rfl rfl call95 rfl (hcall.mono ?_)
            rintro q_ S4 ⟨rfl, rfl⟩
            (simp only [go_sem, reduceIte, Nat.reduceEqDiff, Nat.reduceLT, Nat.reduceLeDiff, Nat.reduceAdd, reduceCtorEq, Int.reduceToNat, Int.reduceLE, Int.reduceLT, Int.reduceNeg, Int.reduceEq, Int.reduceNe, Nat.reduceBEq, Nat.reduceMul, Nat.reducePow, Int.cast_ofNat_Int, *])
            refine ⟨m - 1, by omega, i + 1, _, by omega, rfl, rfl, by simp; omega, ?_⟩
            rw [← hq2.of]
            simp only [Option.bind_some, Option.map_map]
            congr 1
            funext s
            simp [Function.comp]
        have ho : p.tx = none := by rw [tx_eq, if_neg hno, if_neg k4]
        have hT : T = none := by rw [← hq.of, ho]; rfl
        subst hT
        have hv : txV none = .tup [.str [], .bool false] := rfl
        rw [hv]
        clear hno ho hq hv ih
        (simp only [go_sem, reduceIte, Nat.reduceEqDiff, Nat.reduceLT, Nat.reduceLeDiff, Nat.reduceAdd, reduceCtorEq, Int.reduceToNat, Int.reduceLE, Int.reduceLT, Int.reduceNeg, Int.reduceEq, Int.reduceNe, Nat.reduceBEq, Nat.reduceMul, Nat.reducePow, Int.cast_ofNat_Int, *])
theorem refText_calls (l : List Pt) (hb : bulks l ≤ 1048576) (S : Heap) : CallsQ Try.prog 40 [.agg [.slice 5 (prows l)]] S (txV (txs l)) := by
  have h := reftext_calls 1048576 (Nat.le_refl _) l hb S
  unfold txV at h ⊢
  refine CallsA_W (fun _ => false) Try.func40 rfl (Nat.le_of_ble_eq_true rfl) ?_
  simp only [Try.f40]
  (simp only [go_sem, reduceIte, Nat.reduceEqDiff, Nat.reduceLT, Nat.reduceLeDiff, Nat.reduceAdd, reduceCtorEq, Int.reduceToNat, Int.reduceLE, Int.reduceLT, Int.reduceNeg, Int.reduceEq, Int.reduceNe, Nat.reduceBEq, Nat.reduceMul, Nat.reducePow, Int.cast_ofNat_Int, *])
  refine OpW_call rfl rfl call95 rfl (h.mono ?_)
  rintro q_ S4 ⟨rfl, rfl⟩
  (simp only [go_sem, reduceIte, Nat.reduceEqDiff, Nat.reduceLT, Nat.reduceLeDiff, Nat.reduceAdd, reduceCtorEq, Int.reduceToNat, Int.reduceLE, Int.reduceLT, Int.reduceNeg, Int.reduceEq, Int.reduceNe, Nat.reduceBEq, Nat.reduceMul, Nat.reducePow, Int.cast_ofNat_Int, *])
theorem refPlain27_calls (l : List Pt) (S : Heap) : CallsQ Try.prog 42 [.agg [.slice 5 (prows l)]] S (txV (plainOf l)) := by
  refine CallsA_W (fun _ => false) Try.func42 rfl (Nat.le_of_ble_eq_true rfl) ?_
  simp only [Try.f42]
  cases l with
  | nil =>
    (simp only [go_sem, reduceIte, Nat.reduceEqDiff, Nat.reduceLT, Nat.reduceLeDiff, Nat.reduceAdd, reduceCtorEq, Int.reduceToNat, Int.reduceLE, Int.reduceLT, Int.reduceNeg, Int.reduceEq, Int.reduceNe, Nat.reduceBEq, Nat.reduceMul, Nat.reducePow, Int.cast_ofNat_Int, *])
    rfl
  | cons p l =>
    cases l with
    | nil =>
      by_cases hk : p.k = 1
      · have hp : plainOf [p] = some p.text := if_pos hk
        rw [hp]
        clear hp
        (simp only [go_sem, reduceIte, Nat.reduceEqDiff, Nat.reduceLT, Nat.reduceLeDiff, Nat.reduceAdd, reduceCtorEq, Int.reduceToNat, Int.reduceLE, Int.reduceLT, Int.reduceNeg, Int.reduceEq, Int.reduceNe, Nat.reduceBEq, Nat.reduceMul, Nat.reducePow, Int.cast_ofNat_Int, *])
        rfl
      · have hp : plainOf [p] = none := if_neg hk
        rw [hp]
        clear hp
        (simp only [go_sem, reduceIte, Nat.reduceEqDiff, Nat.reduceLT, Nat.reduceLeDiff, Nat.reduceAdd, reduceCtorEq, Int.reduceToNat, Int.reduceLE, Int.reduceLT, Int.reduceNeg, Int.reduceEq, Int.reduceNe, Nat.reduceBEq, Nat.reduceMul, Nat.reducePow, Int.cast_ofNat_Int, *])
        rfl
    | cons q l =>
      have hne : ¬ ((l.length + 1 + 1 : Nat) : Int) = 1 := by omega
      have hp : plainOf (p :: q :: l) = none := rfl
      rw [hp]
      clear hp
      (simp only [go_sem, reduceIte, Nat.reduceEqDiff, Nat.reduceLT, Nat.reduceLeDiff, Nat.reduceAdd, reduceCtorEq, Int.reduceToNat, Int.reduceLE, Int.reduceLT, Int.reduceNeg, Int.reduceEq, Int.reduceNe, Nat.reduceBEq, Nat.reduceMul, Nat.reducePow, Int.cast_ofNat_Int, *])
      rfl
end Go.Proofs.Ytcbonfgkfiapaaa.Pv
