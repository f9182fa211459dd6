/- What unquote.Assign computes: a name, and what it is given. -/
import Derived.Test.YtcbonfgkfiapaaaUnq2
set_option linter.unusedVariables false
set_option linter.unusedSimpArgs false
set_option maxRecDepth 100000
set_option maxHeartbeats 40000000
namespace Go.Proofs.Ytcbonfgkfiapaaa.Pv
open Go Go.RowKit

theorem Wk.tup {a b : List PV} (h : WkL a b) : Wk (.tup a) (.tup b) := by
  intro w im v hr
  simp only [Rep] at hr ⊢
  obtain ⟨fs, e, h1⟩ := hr
  exact ⟨fs, e, h _ _ _ h1⟩
def litP (s : List UInt8) : List Pt := if s = [] then [] else [.mk 1 s [] [] []]
/-- A name, and what it is given. -/
def asgOf : List Pt → Option (List UInt8 × List Pt)
  | [] => none
  | p :: r => if p.k = 1 then (if assignAt p.text < 0 then none else some (p.text.take (assignAt p.text).toNat, litP (p.text.drop ((assignAt p.text).toNat + 1)) ++ r)) else none
def asgV : Option (List UInt8 × List Pt) → PV
  | some (n, v) => .tup [.str n, .agg [.slice 5 (prows v)], .bool true]
  | none => .tup [.str [], .agg [.slice 5 []], .bool false]
theorem assign_cases (s : List UInt8) : assignAt s = -1 ∨ ∃ k : Nat, assignAt s = (k : Int) ∧ k < s.length := by
  unfold assignAt
  rcases idx_cases s 61 with e | ⟨k, h1, h2, _⟩
  · left; rw [e]; rfl
  · rw [h1, if_neg (by omega)]
    split
    · exact Or.inr ⟨k, rfl, h2⟩
    · exact Or.inl rfl
theorem wkRows_refl : ∀ r : List (List PV), WkRows r r
  | [] => WkRows.nil
  | x :: r => WkRows.cons (WkR.refl x) (wkRows_refl r)
theorem wkNoAsg : Wk (.tup [.str [], .agg [.sl0], .bool false]) (asgV none) := Wk.tup (WkL.cons (Wk.refl _) (WkL.cons (Wk.agg (WkL.cons (Wk.sl0 _) WkL.nil)) (WkL.refl _)))
theorem uqAssign_calls (l : List Pt) (hb : bulks l ≤ 2097152) (S : Heap) : CallsQ Try.prog 37 [.agg [.slice 5 (prows l)]] S (asgV (asgOf l)) := by
  refine CallsQ_wk ?_
  have hu := Try.underlying33
  have hu2 := Try.underlying41
  refine CallsA_W (fun t => decide (t = 46)) Try.func37 rfl (Nat.le_of_ble_eq_true rfl) ?_
  simp only [Try.f37]
  (simp only [go_sem, reduceIte, Nat.reduceEqDiff, Nat.reduceLT, Nat.reduceLeDiff, Nat.reduceAdd, reduceCtorEq, Int.reduceToNat, Int.reduceLE, Int.reduceLT, Int.reduceNeg, Int.reduceEq, Int.reduceNe, Nat.reduceBEq, Nat.reduceMul, Nat.reducePow, Int.cast_ofNat_Int, *])
  refine OpW_of (OpA_alloc rfl zeroCells33 (okDst_spec rfl) fun b3 hb3 => ?_)
  cases l with
  | nil =>
    have ha : asgOf [] = none := rfl
    (simp only [go_sem, reduceIte, Nat.reduceEqDiff, Nat.reduceLT, Nat.reduceLeDiff, Nat.reduceAdd, reduceCtorEq, Int.reduceToNat, Int.reduceLE, Int.reduceLT, Int.reduceNeg, Int.reduceEq, Int.reduceNe, Nat.reduceBEq, Nat.reduceMul, Nat.reducePow, Int.cast_ofNat_Int, *])
    refine OpW_put (es := [.sl0]) rfl rfl set_self rfl rfl size33 (Nat.le_of_ble_eq_true rfl) rfl ?_
    rw [Heap.set_set]
    have hle := Heap.le_set (o := .cells (splice [.sl0] 0 [.sl0]) 33) hb3
    (simp only [go_sem, reduceIte, Nat.reduceEqDiff, Nat.reduceLT, Nat.reduceLeDiff, Nat.reduceAdd, reduceCtorEq, Int.reduceToNat, Int.reduceLE, Int.reduceLT, Int.reduceNeg, Int.reduceEq, Int.reduceNe, Nat.reduceBEq, Nat.reduceMul, Nat.reducePow, Int.cast_ofNat_Int, *])
    exact ⟨wkNoAsg, by first | exact Heap.le_set hb3 | exact hle⟩
  | cons p r =>
    have hlen0 : ¬ ((r.length + 1 : Nat) : Int) = 0 := by omega
    by_cases hk : p.k = 1
    · have hpb := bulk_eq p
      have htl : p.text.length ≤ 2097152 := by simp only [bulks] at hb; omega
      have hrl : r.length ≤ 2097152 := by have := bulks_len r; simp only [bulks] at hb; omega
      have hcall := assign_calls p.text (by omega)
      rcases assign_cases p.text with hK | ⟨k, hK, hkl⟩
      · have ha : asgOf (p :: r) = none := by simp [asgOf, hk, hK]
        rw [hK] at hcall
        clear hK
        (simp only [go_sem, reduceIte, Nat.reduceEqDiff, Nat.reduceLT, Nat.reduceLeDiff, Nat.reduceAdd, reduceCtorEq, Int.reduceToNat, Int.reduceLE, Int.reduceLT, Int.reduceNeg, Int.reduceEq, Int.reduceNe, Nat.reduceBEq, Nat.reduceMul, Nat.reducePow, Int.cast_ofNat_Int, *])
        refine OpW_call rfl rfl call29 rfl ((hcall _).mono ?_)
        rintro q_ S_ ⟨rfl, rfl⟩
        (simp only [go_sem, reduceIte, Nat.reduceEqDiff, Nat.reduceLT, Nat.reduceLeDiff, Nat.reduceAdd, reduceCtorEq, Int.reduceToNat, Int.reduceLE, Int.reduceLT, Int.reduceNeg, Int.reduceEq, Int.reduceNe, Nat.reduceBEq, Nat.reduceMul, Nat.reducePow, Int.cast_ofNat_Int, *])
        refine OpW_put (es := [.sl0]) rfl rfl set_self rfl rfl size33 (Nat.le_of_ble_eq_true rfl) rfl ?_
        rw [Heap.set_set]
        have hle := Heap.le_set (o := .cells (splice [.sl0] 0 [.sl0]) 33) hb3
        (simp only [go_sem, reduceIte, Nat.reduceEqDiff, Nat.reduceLT, Nat.reduceLeDiff, Nat.reduceAdd, reduceCtorEq, Int.reduceToNat, Int.reduceLE, Int.reduceLT, Int.reduceNeg, Int.reduceEq, Int.reduceNe, Nat.reduceBEq, Nat.reduceMul, Nat.reducePow, Int.cast_ofNat_Int, *])
        exact ⟨wkNoAsg, by first | exact Heap.le_set hb3 | exact hle⟩
      · have ha : asgOf (p :: r) = some (p.text.take k, litP (p.text.drop (k + 1)) ++ r) := by
          simp only [asgOf, if_pos hk, hK, Int.toNat_natCast]; rw [if_neg (by omega)]
        rw [ha]
        rw [hK] at hcall
        clear hK ha
        have hk0 : ¬ (k : Int) < 0 := by omega
        have hle1 := Nat.le_refl r.length
        have htk : List.drop 1 (List.take (r.length + 1) (prows (p :: r))) = prows r := by
          have : (prows r).take r.length = prows r := by rw [← prows_len r]; exact List.take_length
          simp [prows, this]
        (simp only [go_sem, reduceIte, Nat.reduceEqDiff, Nat.reduceLT, Nat.reduceLeDiff, Nat.reduceAdd, reduceCtorEq, Int.reduceToNat, Int.reduceLE, Int.reduceLT, Int.reduceNeg, Int.reduceEq, Int.reduceNe, Nat.reduceBEq, Nat.reduceMul, Nat.reducePow, Int.cast_ofNat_Int, *])
        refine OpW_call rfl rfl call29 rfl ((hcall _).mono ?_)
        rintro q_ S_ ⟨rfl, rfl⟩
        (simp only [go_sem, reduceIte, Nat.reduceEqDiff, Nat.reduceLT, Nat.reduceLeDiff, Nat.reduceAdd, reduceCtorEq, Int.reduceToNat, Int.reduceLE, Int.reduceLT, Int.reduceNeg, Int.reduceEq, Int.reduceNe, Nat.reduceBEq, Nat.reduceMul, Nat.reducePow, Int.cast_ofNat_Int, *])
        have hS0 : S.le (S.set b3 (.cells [.sl0] 33)) := Heap.le_set hb3
        have hb0 : (S.set b3 (.cells [.sl0] 33)) b3 = some (.cells [.sl0] 33) := set_self
        generalize S.set b3 (.cells [.sl0] 33) = S0 at *
        have hS0' := Keep.mk hS0
        have hb3' := Keep.mk hb3
        clear hS0 hb3
        refine OpW_call rfl rfl call92 rfl ((clonePart_calls r hrl _).mono ?_)
        rintro q S1 ⟨j1, j2, j3⟩
        have hwk : IntKind.i64.wrap ((k : Int) + 1) = ((k + 1 : Nat) : Int) := by rw [wrap_in (by omega)]; rfl
        have hle2 := Nat.le_refl p.text.length
        have htx : p.text.take p.text.length = p.text := List.take_length
        have hkl2 : k ≤ p.text.length := by omega
        have b1 := j1 _ _ hb0
        have j1' := Keep.mk j1
        have j2' := Keep.mk j2
        have j3' := Keep.mk j3
        clear j1 j2 j3 hcall hb
        by_cases hl : k + 1 < p.text.length
        · have hlt : ((k + 1 : Nat) : Int) < (p.text.length : Int) := by omega
          have hl1 : k + 1 ≤ p.text.length := by omega
          (simp only [go_sem, reduceIte, Nat.reduceEqDiff, Nat.reduceLT, Nat.reduceLeDiff, Nat.reduceAdd, reduceCtorEq, Int.reduceToNat, Int.reduceLE, Int.reduceLT, Int.reduceNeg, Int.reduceEq, Int.reduceNe, Nat.reduceBEq, Nat.reduceMul, Nat.reducePow, Int.cast_ofNat_Int, *])
          refine OpW_of (OpA_buildSliceM (rows := [[.int .i64 1, .str (p.text.drop (k + 1)), .str [], .sl0, .sl0]]) rfl appParts ?_ (by simp) rfl rfl fun c hc => ?_)
          · simp only [go_sem, reduceIte, Nat.reduceEqDiff, Nat.reduceLT, Nat.reduceLeDiff, Nat.reduceAdd, reduceCtorEq, Int.reduceToNat, Int.reduceLE, Int.reduceLT, Int.reduceNeg, Int.reduceEq, Int.reduceNe, Nat.reduceBEq, Nat.reduceMul, Nat.reducePow, Int.cast_ofNat_Int, *]
          have hins := insertPart_calls (prows r) [.int .i64 1, .str (p.text.drop (k + 1)), .str [], .sl0, .sl0] (by intro c hc; simp only [List.mem_cons, List.not_mem_nil, or_false] at hc; rcases hc with rfl | rfl | rfl | rfl | rfl <;> rfl) (oneRows r) (by rw [prows_len]; exact hrl) q c S0 _ (j2'.of.le (Heap.le_set hc)) j3'.of set_self (Heap.le_trans j1'.of (Heap.le_set hc)) (grows_own_ne j2'.of hc)
          (simp only [go_sem, reduceIte, Nat.reduceEqDiff, Nat.reduceLT, Nat.reduceLeDiff, Nat.reduceAdd, reduceCtorEq, Int.reduceToNat, Int.reduceLE, Int.reduceLT, Int.reduceNeg, Int.reduceEq, Int.reduceNe, Nat.reduceBEq, Nat.reduceMul, Nat.reducePow, Int.cast_ofNat_Int, *])
          refine OpW_call rfl rfl call93 rfl (hins.mono ?_)
          rintro q' S3 ⟨i1, i2, i3⟩
          have o2 := (grows_one i2).1
          have b4 := i1 _ _ hb0
          have i1' := Keep.mk (Heap.le_trans hS0'.of i1)
          have i2' := Keep.mk i2
          have i3' := Keep.mk (fun b hb => le_none hS0'.of (i3 b hb))
          unfold cellsOf at o2
          clear i1 i2 i3 hins hc b1 hb0
          (simp only [go_sem, reduceIte, Nat.reduceEqDiff, Nat.reduceLT, Nat.reduceLeDiff, Nat.reduceAdd, reduceCtorEq, Int.reduceToNat, Int.reduceLE, Int.reduceLT, Int.reduceNeg, Int.reduceEq, Int.reduceNe, Nat.reduceBEq, Nat.reduceMul, Nat.reducePow, Int.cast_ofNat_Int, *])
          refine OpW_putF (b := b3) (p0 := .sl0) (p := q') rfl rfl b4 rfl size33 rfl i2'.of (own_cells i2'.of b4) ?_
          generalize hF : frz (S3.set b3 (.cells [q'] 33)) b3 q' (.slice 5 ([.int .i64 1, .str (p.text.drop (k + 1)), .str [], .sl0, .sl0] :: prows r)) 33 = F
          have hFc : F b3 = some (.cells [.slice 5 ([.int .i64 1, .str (p.text.drop (k + 1)), .str [], .sl0, .sl0] :: prows r)] 33) := by rw [← hF]; exact frz_at
          have hFle : S.le F := by
            rw [← hF]
            exact frz_le (Heap.le_own i1'.of hb3'.of) hb3'.of i3'.of
          clear hF o2 i1' i2' i3' j1' j2' j3'
          (simp only [go_sem, reduceIte, Nat.reduceEqDiff, Nat.reduceLT, Nat.reduceLeDiff, Nat.reduceAdd, reduceCtorEq, Int.reduceToNat, Int.reduceLE, Int.reduceLT, Int.reduceNeg, Int.reduceEq, Int.reduceNe, Nat.reduceBEq, Nat.reduceMul, Nat.reducePow, Int.cast_ofNat_Int, *])
          show Wk _ _
          have hd : litP (p.text.drop (k + 1)) = [.mk 1 (p.text.drop (k + 1)) [] [] []] := if_neg (by intro e; have := congrArg List.length e; simp at this; omega)
          rw [hd]
          exact Wk.tup (WkL.cons (Wk.refl _) (WkL.cons (Wk.agg (WkL.cons (Wk.slice (WkRows.cons (WkR.cons (Wk.refl _) (WkR.cons (Wk.refl _) (WkR.cons (Wk.refl _) (WkR.cons (Wk.sl0 _) (WkR.cons (Wk.sl0 _) WkR.nil))))) (wkRows_refl _))) WkL.nil)) (WkL.refl _)))
        · have hlt : ¬ ((k + 1 : Nat) : Int) < (p.text.length : Int) := by omega
          have hd : p.text.drop (k + 1) = [] := List.drop_of_length_le (by omega)
          have o2 := (grows_one j2'.of).1
          unfold cellsOf at o2
          have i1' := Keep.mk (Heap.le_trans hS0'.of j1'.of)
          have i3' := Keep.mk (fun b hb => le_none hS0'.of (j3'.of b hb))
          (simp only [go_sem, reduceIte, Nat.reduceEqDiff, Nat.reduceLT, Nat.reduceLeDiff, Nat.reduceAdd, reduceCtorEq, Int.reduceToNat, Int.reduceLE, Int.reduceLT, Int.reduceNeg, Int.reduceEq, Int.reduceNe, Nat.reduceBEq, Nat.reduceMul, Nat.reducePow, Int.cast_ofNat_Int, *])
          refine OpW_putF (b := b3) (p0 := .sl0) (p := q) rfl rfl b1 rfl size33 rfl j2'.of (own_cells j2'.of b1) ?_
          generalize hF : frz (S1.set b3 (.cells [q] 33)) b3 q (.slice 5 (prows r)) 33 = F
          have hFc : F b3 = some (.cells [.slice 5 (prows r)] 33) := by rw [← hF]; exact frz_at
          have hFle : S.le F := by
            rw [← hF]
            exact frz_le (Heap.le_own i1'.of hb3'.of) hb3'.of i3'.of
          clear hF o2 i1' i3' j1' j2' j3'
          (simp only [go_sem, reduceIte, Nat.reduceEqDiff, Nat.reduceLT, Nat.reduceLeDiff, Nat.reduceAdd, reduceCtorEq, Int.reduceToNat, Int.reduceLE, Int.reduceLT, Int.reduceNeg, Int.reduceEq, Int.reduceNe, Nat.reduceBEq, Nat.reduceMul, Nat.reducePow, Int.cast_ofNat_Int, *])
          exact Wk.refl _
    · have ha : asgOf (p :: r) = none := if_neg hk
      (simp only [go_sem, reduceIte, Nat.reduceEqDiff, Nat.reduceLT, Nat.reduceLeDiff, Nat.reduceAdd, reduceCtorEq, Int.reduceToNat, Int.reduceLE, Int.reduceLT, Int.reduceNeg, Int.reduceEq, Int.reduceNe, Nat.reduceBEq, Nat.reduceMul, Nat.reducePow, Int.cast_ofNat_Int, *])
      refine OpW_put (es := [.sl0]) rfl rfl set_self rfl rfl size33 (Nat.le_of_ble_eq_true rfl) rfl ?_
      rw [Heap.set_set]
      have hle := Heap.le_set (o := .cells (splice [.sl0] 0 [.sl0]) 33) hb3
      (simp only [go_sem, reduceIte, Nat.reduceEqDiff, Nat.reduceLT, Nat.reduceLeDiff, Nat.reduceAdd, reduceCtorEq, Int.reduceToNat, Int.reduceLE, Int.reduceLT, Int.reduceNeg, Int.reduceEq, Int.reduceNe, Nat.reduceBEq, Nat.reduceMul, Nat.reducePow, Int.cast_ofNat_Int, *])
      exact ⟨wkNoAsg, by first | exact Heap.le_set hb3 | exact hle⟩
end Go.Proofs.Ytcbonfgkfiapaaa.Pv
