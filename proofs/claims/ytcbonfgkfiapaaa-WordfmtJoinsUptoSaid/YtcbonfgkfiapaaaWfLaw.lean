/- What the laws of package wordfmt compute. -/
import Derived.Test.YtcbonfgkfiapaaaWf
import Derived.Test.YtcbonfgkfiapaaaPtLaw
import Derived.Test.YtcbonfgkfiapaaaAnyOrd
import Derived.Test.YtcbonfgkfiapaaaPtJoin
set_option linter.unusedVariables false
set_option linter.unusedSimpArgs false
set_option maxRecDepth 100000
set_option maxHeartbeats 40000000
namespace Go.Proofs.Ytcbonfgkfiapaaa.Pv
open Go Go.RowKit

def W25 : List Pt := [.mk 1 [97] [] [] [], .mk 4 [] [] [.mk 5 [120] [58, 45] [.mk 6 [] [] [] []] []] []]
theorem prowsW25 : prows W25 = [[.int .i64 1, .str [97], .str [], .slice 5 [], .slice 10 []], [.int .i64 4, .str [], .str [], .slice 5 [[.int .i64 5, .str [120], .str [58, 45], .slice 5 [[.int .i64 6, .str [], .str [], .slice 5 [], .slice 10 []]], .slice 10 []]], .slice 10 []]] := by
  simp only [W25, prows, Pt.row]
theorem wkW25 : Wk (.agg [.slice 5 [[.int .i64 1, .str [97], .str [], .sl0, .sl0], [.int .i64 4, .str [], .str [], .slice 5 [[.int .i64 5, .str [120], .str [58, 45], .slice 5 [[.int .i64 6, .str [], .str [], .sl0, .sl0]], .sl0]], .sl0]]]) (.agg [.slice 5 (prows W25)]) := by
  rw [prowsW25]
  (repeat' first
    | exact Wk.refl _
    | exact Wk.sl0 _
    | exact WkL.nil
    | exact WkR.nil
    | exact WkRows.nil
    | refine Wk.agg ?_
    | refine WkL.cons ?_ ?_
    | refine Wk.slice ?_
    | refine WkRows.cons ?_ ?_
    | refine WkR.cons ?_ ?_)
theorem awake25_calls (S : Heap) : CallsQ Try.prog 32 [] S (.bool true) := by
  have r1 := wfShow_calls W25 (.slice 1 [[.str [98]]]) [[98]] (Or.inr rfl) (by decide) (by decide +kernel)
  have e1 : outs [[98]] W25 = [97, 34, 36, 123, 120, 58, 45, 36, 40, 32, 98, 41, 125, 34] := by decide +kernel
  have r2 := wfLength_calls W25 (by decide) (by decide +kernel)
  have e2 : (outs [] W25).length = 13 := by decide +kernel
  rw [e1] at r1
  rw [e2] at r2
  clear e1 e2
  have w2 : WkL [.agg [.slice 5 [[.int .i64 1, .str [97], .str [], .sl0, .sl0], [.int .i64 4, .str [], .str [], .slice 5 [[.int .i64 5, .str [120], .str [58, 45], .slice 5 [[.int .i64 6, .str [], .str [], .sl0, .sl0]], .sl0]], .sl0]]]] [.agg [.slice 5 (prows W25)]] := WkL.cons wkW25 WkL.nil
  refine CallsQ_less ?_
  refine CallsA_W (fun _ => false) Try.func32 rfl (Nat.le_of_ble_eq_true rfl) ?_
  simp only [Try.f32]
  have hu := Try.underlying33
  have hu2 := Try.underlying41
  (simp only [go_sem, reduceIte, Nat.reduceEqDiff, Nat.reduceLT, Nat.reduceLeDiff, Nat.reduceAdd, reduceCtorEq, Int.reduceToNat, Int.reduceLE, Int.reduceLT, Int.reduceNeg, Int.reduceEq, Int.reduceNe, Nat.reduceBEq, Nat.reduceMul, Nat.reducePow, Int.cast_ofNat_Int, *])
  refine OpW_of (OpA_alloc rfl zeroCells33 (okDst_spec rfl) fun b hb => ?_)
  (simp only [go_sem, reduceIte, Nat.reduceEqDiff, Nat.reduceLT, Nat.reduceLeDiff, Nat.reduceAdd, reduceCtorEq, Int.reduceToNat, Int.reduceLE, Int.reduceLT, Int.reduceNeg, Int.reduceEq, Int.reduceNe, Nat.reduceBEq, Nat.reduceMul, Nat.reducePow, Int.cast_ofNat_Int, *])
  refine OpW_put rfl rfl set_self rfl rfl size33 (Nat.le_of_ble_eq_true rfl) rfl ?_
  rw [Heap.set_set]
  (simp only [go_sem, reduceIte, Nat.reduceEqDiff, Nat.reduceLT, Nat.reduceLeDiff, Nat.reduceAdd, reduceCtorEq, Int.reduceToNat, Int.reduceLE, Int.reduceLT, Int.reduceNeg, Int.reduceEq, Int.reduceNe, Nat.reduceBEq, Nat.reduceMul, Nat.reducePow, Int.cast_ofNat_Int, *])
  refine OpW_callW rfl (WkL.cons wkW25 (WkL.refl _)) call33 rfl ((r1 _).mono ?_)
  rintro p_ S_ ⟨rfl, rfl⟩
  (simp only [go_sem, reduceIte, Nat.reduceEqDiff, Nat.reduceLT, Nat.reduceLeDiff, Nat.reduceAdd, reduceCtorEq, Int.reduceToNat, Int.reduceLE, Int.reduceLT, Int.reduceNeg, Int.reduceEq, Int.reduceNe, Nat.reduceBEq, Nat.reduceMul, Nat.reducePow, Int.cast_ofNat_Int, *])
  refine OpW_callW rfl w2 call34 rfl ((r2 _).mono ?_)
  rintro p_ S_ ⟨rfl, rfl⟩
  (simp only [go_sem, reduceIte, Nat.reduceEqDiff, Nat.reduceLT, Nat.reduceLeDiff, Nat.reduceAdd, reduceCtorEq, Int.reduceToNat, Int.reduceLE, Int.reduceLT, Int.reduceNeg, Int.reduceEq, Int.reduceNe, Nat.reduceBEq, Nat.reduceMul, Nat.reducePow, Int.cast_ofNat_Int, *])
  exact Heap.le_set hb

mutual
theorem out_len : ∀ p : Pt, (p.out []).length ≤ 6 * p.bulk
  | .mk k t o ks cs => by
    have h := outs_len ks
    simp only [Pt.out, Pt.bulk]
    (repeat' split) <;> simp <;> omega
theorem outs_len : ∀ l : List Pt, (outs [] l).length ≤ 6 * bulks l
  | [] => by simp [outs]
  | p :: ps => by
    have h1 := out_len p
    have h2 := outs_len ps
    simp only [outs, bulks, List.drop_nil, List.length_append]
    omega
end
theorem outs_app : ∀ a b : List Pt, outs [] (a ++ b) = outs [] a ++ outs [] b
  | [], b => rfl
  | p :: a, b => by simp only [List.cons_append, outs, List.drop_nil, outs_app a b, List.append_assoc]

theorem wordfmtJoins_calls (a b : List Pt) (hb : bulks a + bulks b ≤ 1048576) (S : Heap) : CallsQ Try.prog 6 [.agg [.slice 5 (prows a)], .agg [.slice 5 (prows b)]] S (.bool true) := by
  have m1 := much_calls 1048576 (Nat.le_refl _) a (by omega)
  have m2 := much_calls 1048576 (Nat.le_refl _) b (by omega)
  have hbl : bulks (a ++ b) ≤ 1048576 := by rw [bulks_app]; exact hb
  have l1 := outs_len a
  have l2 := outs_len b
  have e1 := outs_app a b
  have q1 := wfShow_calls (a ++ b) .sl0 [] (Or.inl ⟨rfl, rfl⟩) hbl (by rw [e1, List.length_append]; omega)
  have q2 := wfShow_calls a .sl0 [] (Or.inl ⟨rfl, rfl⟩) (by omega) (by omega)
  have q3 := wfShow_calls b .sl0 [] (Or.inl ⟨rfl, rfl⟩) (by omega) (by omega)
  have q4 := wfLength_calls (a ++ b) hbl (by rw [e1, List.length_append]; omega)
  have q5 := wfLength_calls a (by omega) (by omega)
  have q6 := wfLength_calls b (by omega) (by omega)
  rw [e1] at q1 q4
  have w1 : IntKind.i64.wrap (((outs [] a).length : Int) + ((outs [] b).length : Int)) = (((outs [] a ++ outs [] b).length : Nat) : Int) := by rw [wrap_in (by omega), List.length_append]; omega
  have hadd : (outs [] a).length + (outs [] b).length ≤ 9223372036854775807 := by omega
  have hlen := bulks_len a
  have hlen2 := bulks_len b
  have hone1 := isOne_rows a
  have hone2 := isOne_rows b
  have haw := awake25_calls
  have hu := Try.underlying33
  generalize hA : outs [] a = oa at *
  generalize hB : outs [] b = ob at *
  generalize muchGo a.length a = ma at *
  generalize muchGo b.length b = mb at *
  clear e1 hA hB
  refine CallsQ_less ?_
  refine CallsA_W (fun _ => false) Try.func6 rfl (Nat.le_of_ble_eq_true rfl) ?_
  simp only [Try.f6]
  by_cases c1 : (200 : Int) < (ma : Int)
  · (simp only [go_sem, reduceIte, Nat.reduceEqDiff, Nat.reduceLT, Nat.reduceLeDiff, Nat.reduceAdd, reduceCtorEq, Int.reduceToNat, Int.reduceLE, Int.reduceLT, Int.reduceNeg, Int.reduceEq, Int.reduceNe, Nat.reduceBEq, Nat.reduceMul, Nat.reducePow, Int.cast_ofNat_Int, *])
    (repeat' first | ((first | refine split_d ?_ ?_ | refine split_gt rfl ?_ ?_ | refine split_gf rfl ?_ ?_ | refine split_b ?_ ?_ | refine split_gb rfl ?_ ?_) <;> intro _ <;> ((try simp only [go_sem, reduceIte, Nat.reduceEqDiff, Nat.reduceLT, Nat.reduceLeDiff, Nat.reduceAdd, reduceCtorEq, Int.reduceToNat, Int.reduceLE, Int.reduceLT, Int.reduceNeg, Int.reduceEq, Int.reduceNe, Nat.reduceBEq, Nat.reduceMul, Nat.reducePow, Int.cast_ofNat_Int, *]))) | ((first | (refine OpW_call rfl rfl call31 rfl ((m1 _).mono ?_)) | (refine OpW_call rfl rfl call31 rfl ((m2 _).mono ?_)) | (refine OpW_call rfl rfl call32 rfl ((haw _).mono ?_))) <;> (rintro p_ S_ ⟨rfl, rfl⟩; (try simp only [go_sem, reduceIte, Nat.reduceEqDiff, Nat.reduceLT, Nat.reduceLeDiff, Nat.reduceAdd, reduceCtorEq, Int.reduceToNat, Int.reduceLE, Int.reduceLT, Int.reduceNeg, Int.reduceEq, Int.reduceNe, Nat.reduceBEq, Nat.reduceMul, Nat.reducePow, Int.cast_ofNat_Int, *]))))
    all_goals exact Heap.le_refl _
  by_cases c2 : (200 : Int) < (mb : Int)
  · (simp only [go_sem, reduceIte, Nat.reduceEqDiff, Nat.reduceLT, Nat.reduceLeDiff, Nat.reduceAdd, reduceCtorEq, Int.reduceToNat, Int.reduceLE, Int.reduceLT, Int.reduceNeg, Int.reduceEq, Int.reduceNe, Nat.reduceBEq, Nat.reduceMul, Nat.reducePow, Int.cast_ofNat_Int, *])
    (repeat' first | ((first | refine split_d ?_ ?_ | refine split_gt rfl ?_ ?_ | refine split_gf rfl ?_ ?_ | refine split_b ?_ ?_ | refine split_gb rfl ?_ ?_) <;> intro _ <;> ((try simp only [go_sem, reduceIte, Nat.reduceEqDiff, Nat.reduceLT, Nat.reduceLeDiff, Nat.reduceAdd, reduceCtorEq, Int.reduceToNat, Int.reduceLE, Int.reduceLT, Int.reduceNeg, Int.reduceEq, Int.reduceNe, Nat.reduceBEq, Nat.reduceMul, Nat.reducePow, Int.cast_ofNat_Int, *]))) | ((first | (refine OpW_call rfl rfl call31 rfl ((m1 _).mono ?_)) | (refine OpW_call rfl rfl call31 rfl ((m2 _).mono ?_)) | (refine OpW_call rfl rfl call32 rfl ((haw _).mono ?_))) <;> (rintro p_ S_ ⟨rfl, rfl⟩; (try simp only [go_sem, reduceIte, Nat.reduceEqDiff, Nat.reduceLT, Nat.reduceLeDiff, Nat.reduceAdd, reduceCtorEq, Int.reduceToNat, Int.reduceLE, Int.reduceLT, Int.reduceNeg, Int.reduceEq, Int.reduceNe, Nat.reduceBEq, Nat.reduceMul, Nat.reducePow, Int.cast_ofNat_Int, *]))))
    all_goals exact Heap.le_refl _
  (simp only [go_sem, reduceIte, Nat.reduceEqDiff, Nat.reduceLT, Nat.reduceLeDiff, Nat.reduceAdd, reduceCtorEq, Int.reduceToNat, Int.reduceLE, Int.reduceLT, Int.reduceNeg, Int.reduceEq, Int.reduceNe, Nat.reduceBEq, Nat.reduceMul, Nat.reducePow, Int.cast_ofNat_Int, *])
  (repeat' first | ((first | refine split_d ?_ ?_ | refine split_gt rfl ?_ ?_ | refine split_gf rfl ?_ ?_ | refine split_b ?_ ?_ | refine split_gb rfl ?_ ?_) <;> intro _ <;> ((try simp only [go_sem, reduceIte, Nat.reduceEqDiff, Nat.reduceLT, Nat.reduceLeDiff, Nat.reduceAdd, reduceCtorEq, Int.reduceToNat, Int.reduceLE, Int.reduceLT, Int.reduceNeg, Int.reduceEq, Int.reduceNe, Nat.reduceBEq, Nat.reduceMul, Nat.reducePow, Int.cast_ofNat_Int, *]))) | ((first | (refine OpW_call rfl rfl call31 rfl ((m1 _).mono ?_)) | (refine OpW_call rfl rfl call31 rfl ((m2 _).mono ?_))) <;> (rintro p_ S_ ⟨rfl, rfl⟩; (try simp only [go_sem, reduceIte, Nat.reduceEqDiff, Nat.reduceLT, Nat.reduceLeDiff, Nat.reduceAdd, reduceCtorEq, Int.reduceToNat, Int.reduceLE, Int.reduceLT, Int.reduceNeg, Int.reduceEq, Int.reduceNe, Nat.reduceBEq, Nat.reduceMul, Nat.reducePow, Int.cast_ofNat_Int, *]))))
  refine CodeW_any mixed [.pure, .pure, .pure, .app 31 5 88 41 (.tmp 17) (.tmp 19), .pure, .pure, .app 31 5 88 41 (.tmp 20) (.tmp 22), .pure, .alloc 33 [.sl0]] (by kernel_rfl) (by kernel_rfl) ⟨trivial, trivial, trivial, ⟨rfl, appParts⟩, trivial, trivial, ⟨rfl, appParts⟩, trivial, ⟨rfl, zeroCells33⟩, trivial⟩ ?_
  simp only [List.zip_cons_cons, List.zip_nil_right, List.zip_nil_left]
  (simp only [go_sem, reduceIte, Nat.reduceEqDiff, Nat.reduceLT, Nat.reduceLeDiff, Nat.reduceAdd, reduceCtorEq, Int.reduceToNat, Int.reduceLE, Int.reduceLT, Int.reduceNeg, Int.reduceEq, Int.reduceNe, Nat.reduceBEq, Nat.reduceMul, Nat.reducePow, Int.cast_ofNat_Int, *])
  refine RunL_app (rows := prows a) (olds := []) (ps := .sl0) rfl hone1 rfl (Or.inl ⟨rfl, rfl⟩) (by simp only [List.length_nil, prows_len, maxLen]; omega) (by simp only [List.length_nil, prows_len]; omega) ?_
  rintro p1 S1 k1
  obtain ⟨j1, j2⟩ := k1.le (Heap.le_refl _) (fun b h => by cases h)
  have k1' := Keep.mk k1
  clear k1
  (simp only [go_sem, reduceIte, Nat.reduceEqDiff, Nat.reduceLT, Nat.reduceLeDiff, Nat.reduceAdd, reduceCtorEq, Int.reduceToNat, Int.reduceLE, Int.reduceLT, Int.reduceNeg, Int.reduceEq, Int.reduceNe, Nat.reduceBEq, Nat.reduceMul, Nat.reducePow, Int.cast_ofNat_Int, *])
  refine RunL_app (rows := prows b) (olds := [] ++ prows a) (ps := p1) rfl hone2 rfl k1'.of.grows (by simp only [List.nil_append, prows_len, maxLen]; omega) (by simp only [List.nil_append, prows_len]; omega) ?_
  rintro p2 S2 k2
  obtain ⟨j3, j4⟩ := k2.le j1 j2
  have g2 := k2.grows
  have o2 := (grows_one g2).1
  unfold cellsOf at o2
  rw [List.nil_append, ← prows_app] at g2
  clear k1' k2 j1 j2
  have g2' := Keep.mk g2
  clear g2
  (simp only [go_sem, reduceIte, Nat.reduceEqDiff, Nat.reduceLT, Nat.reduceLeDiff, Nat.reduceAdd, reduceCtorEq, Int.reduceToNat, Int.reduceLE, Int.reduceLT, Int.reduceNeg, Int.reduceEq, Int.reduceNe, Nat.reduceBEq, Nat.reduceMul, Nat.reducePow, Int.cast_ofNat_Int, *])
  refine RunL_alloc fun c hc => ?_
  (simp only [go_sem, reduceIte, Nat.reduceEqDiff, Nat.reduceLT, Nat.reduceLeDiff, Nat.reduceAdd, reduceCtorEq, Int.reduceToNat, Int.reduceLE, Int.reduceLT, Int.reduceNeg, Int.reduceEq, Int.reduceNe, Nat.reduceBEq, Nat.reduceMul, Nat.reducePow, Int.cast_ofNat_Int, *])
  refine OpW_putF (b := c) (p0 := .sl0) (p := p2) (rows := prows (a ++ b)) rfl rfl set_self rfl size33 rfl (g2'.of.le (Heap.le_set hc)) (grows_own_ne g2'.of hc) ?_
  rw [Heap.set_set]
  generalize hF : frz (S2.set c (.cells [p2] 33)) c p2 (.slice 5 (prows (a ++ b))) 33 = F
  have hFc : F c = some (.cells [.slice 5 (prows (a ++ b))] 33) := by rw [← hF]; exact frz_at
  have hFle : Keep (S_.le F) := by
    constructor
    rw [← hF]
    exact frz_le (Heap.le_trans j3 (Heap.le_set hc)) (le_none j3 hc) j4
  clear hF g2' j3 j4 hc o2 hone1 hone2 m1 m2
  (simp only [go_sem, reduceIte, Nat.reduceEqDiff, Nat.reduceLT, Nat.reduceLeDiff, Nat.reduceAdd, reduceCtorEq, Int.reduceToNat, Int.reduceLE, Int.reduceLT, Int.reduceNeg, Int.reduceEq, Int.reduceNe, Nat.reduceBEq, Nat.reduceMul, Nat.reducePow, Int.cast_ofNat_Int, *])
  refine CodeW_quiet mixed 21 (by kernel_rfl) ?_
  (simp only [go_sem, reduceIte, Nat.reduceEqDiff, Nat.reduceLT, Nat.reduceLeDiff, Nat.reduceAdd, reduceCtorEq, Int.reduceToNat, Int.reduceLE, Int.reduceLT, Int.reduceNeg, Int.reduceEq, Int.reduceNe, Nat.reduceBEq, Nat.reduceMul, Nat.reducePow, Int.cast_ofNat_Int, *])
  refine QCW_call rfl rfl call33 (q1 _) ?_
  (simp only [go_sem, reduceIte, Nat.reduceEqDiff, Nat.reduceLT, Nat.reduceLeDiff, Nat.reduceAdd, reduceCtorEq, Int.reduceToNat, Int.reduceLE, Int.reduceLT, Int.reduceNeg, Int.reduceEq, Int.reduceNe, Nat.reduceBEq, Nat.reduceMul, Nat.reducePow, Int.cast_ofNat_Int, *])
  refine QCW_call rfl rfl call33 (q2 _) ?_
  (simp only [go_sem, reduceIte, Nat.reduceEqDiff, Nat.reduceLT, Nat.reduceLeDiff, Nat.reduceAdd, reduceCtorEq, Int.reduceToNat, Int.reduceLE, Int.reduceLT, Int.reduceNeg, Int.reduceEq, Int.reduceNe, Nat.reduceBEq, Nat.reduceMul, Nat.reducePow, Int.cast_ofNat_Int, *])
  refine QCW_call rfl rfl call33 (q3 _) ?_
  (simp only [go_sem, reduceIte, Nat.reduceEqDiff, Nat.reduceLT, Nat.reduceLeDiff, Nat.reduceAdd, reduceCtorEq, Int.reduceToNat, Int.reduceLE, Int.reduceLT, Int.reduceNeg, Int.reduceEq, Int.reduceNe, Nat.reduceBEq, Nat.reduceMul, Nat.reducePow, Int.cast_ofNat_Int, *])
  refine QCW_call rfl rfl call34 (q4 _) ?_
  (simp only [go_sem, reduceIte, Nat.reduceEqDiff, Nat.reduceLT, Nat.reduceLeDiff, Nat.reduceAdd, reduceCtorEq, Int.reduceToNat, Int.reduceLE, Int.reduceLT, Int.reduceNeg, Int.reduceEq, Int.reduceNe, Nat.reduceBEq, Nat.reduceMul, Nat.reducePow, Int.cast_ofNat_Int, *])
  refine QCW_call rfl rfl call34 (q5 _) ?_
  (simp only [go_sem, reduceIte, Nat.reduceEqDiff, Nat.reduceLT, Nat.reduceLeDiff, Nat.reduceAdd, reduceCtorEq, Int.reduceToNat, Int.reduceLE, Int.reduceLT, Int.reduceNeg, Int.reduceEq, Int.reduceNe, Nat.reduceBEq, Nat.reduceMul, Nat.reducePow, Int.cast_ofNat_Int, *])
  refine QCW_call rfl rfl call34 (q6 _) ?_
  (simp only [go_sem, reduceIte, Nat.reduceEqDiff, Nat.reduceLT, Nat.reduceLeDiff, Nat.reduceAdd, reduceCtorEq, Int.reduceToNat, Int.reduceLE, Int.reduceLT, Int.reduceNeg, Int.reduceEq, Int.reduceNe, Nat.reduceBEq, Nat.reduceMul, Nat.reducePow, Int.cast_ofNat_Int, *])
  refine QCW_call rfl rfl call32 (haw _) ?_
  (simp only [go_sem, reduceIte, Nat.reduceEqDiff, Nat.reduceLT, Nat.reduceLeDiff, Nat.reduceAdd, reduceCtorEq, Int.reduceToNat, Int.reduceLE, Int.reduceLT, Int.reduceNeg, Int.reduceEq, Int.reduceNe, Nat.reduceBEq, Nat.reduceMul, Nat.reducePow, Int.cast_ofNat_Int, *])
  exact hFle.of

end Go.Proofs.Ytcbonfgkfiapaaa.Pv
