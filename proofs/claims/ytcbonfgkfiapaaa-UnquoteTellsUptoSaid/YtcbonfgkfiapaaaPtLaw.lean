/- What the laws of package part compute. -/
import Derived.Test.YtcbonfgkfiapaaaPtProgB
import Derived.Test.YtcbonfgkfiapaaaCore4
set_option linter.unusedVariables false
set_option linter.unusedSimpArgs false
set_option maxRecDepth 100000
set_option maxHeartbeats 40000000
namespace Go.Proofs.Ytcbonfgkfiapaaa.Pv
open Go Go.RowKit

mutual
theorem bareT_bulk : ∀ p : Pt, p.bareT.bulk ≤ p.bulk
  | .mk _ _ _ ks _ => by simp only [Pt.bareT, Pt.bulk, List.length_nil]; have := bareTs_bulk ks; omega
theorem bareTs_bulk : ∀ l : List Pt, bulks (bareTs l) ≤ bulks l
  | [] => by simp [bareTs]
  | p :: ps => by simp only [bareTs, bulks]; have := bareT_bulk p; have := bareTs_bulk ps; omega
end
mutual
theorem same_refl : ∀ p : Pt, p.same p = true
  | .mk _ _ _ ks _ => by simp only [Pt.same, Pt.k, Pt.text, Pt.op, Pt.kids, decide_true, Bool.true_and]; exact sames_refl ks
theorem sames_refl : ∀ l : List Pt, sames l l = true
  | [] => rfl
  | p :: ps => by simp only [sames, same_refl p, sames_refl ps, Bool.and_self]
end
def W0 : List Pt := [.mk 1 [97, 36] [] [] [], .mk 4 [] [] [.mk 5 [120] [] [] []] []]
theorem wkW0 : WkL [.agg [.slice 5 [[.int .i64 1, .str [97, 36], .str [], .sl0, .sl0], [.int .i64 4, .str [], .str [], .slice 5 [[.int .i64 5, .str [120], .str [], .sl0, .sl0]], .sl0]]]] [.agg [.slice 5 (prows W0)]] := by
  have hp : prows W0 = [[.int .i64 1, .str [97, 36], .str [], .slice 5 [], .slice 10 []], [.int .i64 4, .str [], .str [], .slice 5 [[.int .i64 5, .str [120], .str [], .slice 5 [], .slice 10 []]], .slice 10 []]] := by
    simp only [W0, prows, Pt.row]
  rw [hp]
  (repeat' first
    | exact Wk.refl _
    | exact Wk.sl0 _
    | exact WkL.nil
    | exact WkR.nil
    | exact WkRows.nil
    | refine Wk.agg ?_
    | refine WkL.cons ?_ ?_
    | refine Wk.slice ?_
    | refine WkRows.cons ?_ ?_
    | refine WkR.cons ?_ ?_)
theorem wkW0' (x : PV) : WkL [x, .agg [.slice 5 [[.int .i64 1, .str [97, 36], .str [], .sl0, .sl0], [.int .i64 4, .str [], .str [], .slice 5 [[.int .i64 5, .str [120], .str [], .sl0, .sl0]], .sl0]]]] [x, .agg [.slice 5 (prows W0)]] := fun w im vs hv => by
  cases vs with
  | nil => simp [RepVals] at hv
  | cons v vs => rw [repVals_cons] at hv ⊢; exact ⟨hv.1, wkW0 _ _ _ hv.2⟩
theorem wkNil : WkL [.agg [.sl0]] [.agg [.slice 5 (prows [])]] := by
  simp only [prows]
  (repeat' first
    | exact Wk.refl _
    | exact Wk.sl0 _
    | exact WkL.nil
    | exact WkR.nil
    | exact WkRows.nil
    | refine Wk.agg ?_
    | refine WkL.cons ?_ ?_
    | refine Wk.slice ?_
    | refine WkRows.cons ?_ ?_
    | refine WkR.cons ?_ ?_)
theorem awake24_calls (S : Heap) : CallsQ Try.prog 60 [] S (.bool true) := by
  have r1 := right_pt_calls W0 (by decide)
  have e1 : rightW W0 = true := by decide +kernel
  have r2 := count_calls W0 (by decide)
  have e2 : counts W0 = 3 := by decide +kernel
  have r3 := deep_calls 1048576 (Nat.le_refl _) W0 (by decide)
  have e3 : deeps W0 = 2 := by decide +kernel
  have r4 := cmds_calls W0 (by decide)
  have e4 : cmdRows (pres W0) = [] := by rfl
  have r5 := bareW_calls W0 (by decide)
  have r6 := sameW_calls (bareTs W0) W0 (by decide)
  have e6 : sames (bareTs W0) W0 = true := by decide +kernel
  have r7 := right_pt_calls [] (by decide)
  have e7 : rightW [] = false := rfl
  rw [e1] at r1
  rw [e2] at r2
  rw [e3] at r3
  rw [e4] at r4
  rw [e6] at r6
  rw [e7] at r7
  clear e1 e2 e3 e4 e6 e7
  refine CallsQ_less ?_
  refine CallsA_W (fun _ => false) Try.func60 rfl (Nat.le_of_ble_eq_true rfl) ?_
  simp only [Try.f60]
  have hu := Try.underlying33
  have hu2 := Try.underlying41
  (simp only [go_sem, reduceIte, Nat.reduceEqDiff, Nat.reduceLT, Nat.reduceLeDiff, Nat.reduceAdd, reduceCtorEq, Int.reduceToNat, Int.reduceLE, Int.reduceLT, Int.reduceNeg, Int.reduceEq, Int.reduceNe, Nat.reduceBEq, Nat.reduceMul, Nat.reducePow, Int.cast_ofNat_Int, *])
  refine OpW_of (OpA_alloc rfl zeroCells33 (okDst_spec rfl) fun b hb => ?_)
  (simp only [go_sem, reduceIte, Nat.reduceEqDiff, Nat.reduceLT, Nat.reduceLeDiff, Nat.reduceAdd, reduceCtorEq, Int.reduceToNat, Int.reduceLE, Int.reduceLT, Int.reduceNeg, Int.reduceEq, Int.reduceNe, Nat.reduceBEq, Nat.reduceMul, Nat.reducePow, Int.cast_ofNat_Int, *])
  refine OpW_put rfl rfl set_self rfl rfl size33 (Nat.le_of_ble_eq_true rfl) rfl ?_
  rw [Heap.set_set]
  (simp only [go_sem, reduceIte, Nat.reduceEqDiff, Nat.reduceLT, Nat.reduceLeDiff, Nat.reduceAdd, reduceCtorEq, Int.reduceToNat, Int.reduceLE, Int.reduceLT, Int.reduceNeg, Int.reduceEq, Int.reduceNe, Nat.reduceBEq, Nat.reduceMul, Nat.reducePow, Int.cast_ofNat_Int, *])
  refine CodeW_quiet mixed 29 (by kernel_rfl) ?_
  (simp only [go_sem, reduceIte, Nat.reduceEqDiff, Nat.reduceLT, Nat.reduceLeDiff, Nat.reduceAdd, reduceCtorEq, Int.reduceToNat, Int.reduceLE, Int.reduceLT, Int.reduceNeg, Int.reduceEq, Int.reduceNe, Nat.reduceBEq, Nat.reduceMul, Nat.reducePow, Int.cast_ofNat_Int, *])
  refine QCW_callW rfl wkW0 call63 (r1 _) ?_
  (simp only [go_sem, reduceIte, Nat.reduceEqDiff, Nat.reduceLT, Nat.reduceLeDiff, Nat.reduceAdd, reduceCtorEq, Int.reduceToNat, Int.reduceLE, Int.reduceLT, Int.reduceNeg, Int.reduceEq, Int.reduceNe, Nat.reduceBEq, Nat.reduceMul, Nat.reducePow, Int.cast_ofNat_Int, *])
  refine QCW_callW rfl wkW0 call64 (r2 _) ?_
  (simp only [go_sem, reduceIte, Nat.reduceEqDiff, Nat.reduceLT, Nat.reduceLeDiff, Nat.reduceAdd, reduceCtorEq, Int.reduceToNat, Int.reduceLE, Int.reduceLT, Int.reduceNeg, Int.reduceEq, Int.reduceNe, Nat.reduceBEq, Nat.reduceMul, Nat.reducePow, Int.cast_ofNat_Int, *])
  refine QCW_callW rfl wkW0 call66 (r3 _) ?_
  (simp only [go_sem, reduceIte, Nat.reduceEqDiff, Nat.reduceLT, Nat.reduceLeDiff, Nat.reduceAdd, reduceCtorEq, Int.reduceToNat, Int.reduceLE, Int.reduceLT, Int.reduceNeg, Int.reduceEq, Int.reduceNe, Nat.reduceBEq, Nat.reduceMul, Nat.reducePow, Int.cast_ofNat_Int, *])
  refine QCW_callW rfl wkW0 call61 (r4 _) ?_
  (simp only [go_sem, reduceIte, Nat.reduceEqDiff, Nat.reduceLT, Nat.reduceLeDiff, Nat.reduceAdd, reduceCtorEq, Int.reduceToNat, Int.reduceLE, Int.reduceLT, Int.reduceNeg, Int.reduceEq, Int.reduceNe, Nat.reduceBEq, Nat.reduceMul, Nat.reducePow, Int.cast_ofNat_Int, *])
  refine QCW_callW rfl wkW0 call68 (r5 _) ?_
  (simp only [go_sem, reduceIte, Nat.reduceEqDiff, Nat.reduceLT, Nat.reduceLeDiff, Nat.reduceAdd, reduceCtorEq, Int.reduceToNat, Int.reduceLE, Int.reduceLT, Int.reduceNeg, Int.reduceEq, Int.reduceNe, Nat.reduceBEq, Nat.reduceMul, Nat.reducePow, Int.cast_ofNat_Int, *])
  refine QCW_callW rfl (wkW0' _) call111 (r6 _) ?_
  (simp only [go_sem, reduceIte, Nat.reduceEqDiff, Nat.reduceLT, Nat.reduceLeDiff, Nat.reduceAdd, reduceCtorEq, Int.reduceToNat, Int.reduceLE, Int.reduceLT, Int.reduceNeg, Int.reduceEq, Int.reduceNe, Nat.reduceBEq, Nat.reduceMul, Nat.reducePow, Int.cast_ofNat_Int, *])
  refine QCW_callW rfl wkNil call63 (r7 _) ?_
  (simp only [go_sem, reduceIte, Nat.reduceEqDiff, Nat.reduceLT, Nat.reduceLeDiff, Nat.reduceAdd, reduceCtorEq, Int.reduceToNat, Int.reduceLE, Int.reduceLT, Int.reduceNeg, Int.reduceEq, Int.reduceNe, Nat.reduceBEq, Nat.reduceMul, Nat.reducePow, Int.cast_ofNat_Int, *])
  exact Heap.le_set hb
theorem partTells_calls (l : List Pt) (hb : bulks l ≤ 1048576) (S : Heap) : CallsQ Try.prog 12 [.agg [.slice 5 (prows l)]] S (.bool true) := by
  have r1 := much_calls 1048576 (Nat.le_refl _) l hb
  have r2 := cmds_calls l hb
  have r3 := cmds24_calls 1048576 (Nat.le_refl _) l hb
  have r4 := right_pt_calls l hb
  have r5 := right24_calls l hb
  have r6 := count_calls l hb
  have r7 := count24_calls 1048576 (Nat.le_refl _) l hb
  have r8 := deep_calls 1048576 (Nat.le_refl _) l hb
  have r9 := deep24_calls 1048576 (Nat.le_refl _) l hb
  have r10 := bareW_calls l hb
  have r11 := bare24_calls 1048576 (Nat.le_refl _) l hb
  have hbb := bareTs_bulk l
  have r12 := same24_calls 1048576 (Nat.le_refl _) (bareTs l) (bareTs l) (by omega)
  rw [sames_refl] at r12
  have hR : ∀ (i : Nat), i < (cmdRows (pres l)).length → ∃ cs, (cmdRows (pres l))[i]? = some [.slice 10 cs] := by
    intro i hi
    have hx := List.getElem?_eq_getElem hi
    obtain ⟨x, _, hx2⟩ := List.mem_map.1 (List.mem_of_getElem? hx)
    exact ⟨x.cmds, by rw [hx, ← hx2]; rfl⟩
  have hRl : (cmdRows (pres l)).length ≤ 1048576 := by
    have := cmdRows_len (pres l)
    rw [pres_len] at this
    have := counts_bulk l
    omega
  generalize cmdRows (pres l) = R at *
  generalize rightW l = A at *
  generalize muchGo l.length l = M at *
  clear hbb hb
  refine CallsA_W (fun _ => false) Try.func12 rfl (Nat.le_of_ble_eq_true rfl) ?_
  simp only [Try.f12]
  by_cases hM : (300 : Int) < (M : Int)
  · (simp only [go_sem, reduceIte, Nat.reduceEqDiff, Nat.reduceLT, Nat.reduceLeDiff, Nat.reduceAdd, reduceCtorEq, Int.reduceToNat, Int.reduceLE, Int.reduceLT, Int.reduceNeg, Int.reduceEq, Int.reduceNe, Nat.reduceBEq, Nat.reduceMul, Nat.reducePow, Int.cast_ofNat_Int, *])
    (repeat' first | ((first | refine split_d ?_ ?_ | refine split_gt rfl ?_ ?_ | refine split_gf rfl ?_ ?_ | refine split_b ?_ ?_ | refine split_gb rfl ?_ ?_) <;> intro _ <;> ((try simp only [go_sem, reduceIte, Nat.reduceEqDiff, Nat.reduceLT, Nat.reduceLeDiff, Nat.reduceAdd, reduceCtorEq, Int.reduceToNat, Int.reduceLE, Int.reduceLT, Int.reduceNeg, Int.reduceEq, Int.reduceNe, Nat.reduceBEq, Nat.reduceMul, Nat.reducePow, Int.cast_ofNat_Int, *]))) | ((first | (refine OpW_call rfl rfl call31 rfl ((r1 _).mono ?_)) | (refine OpW_call rfl rfl call60 rfl ((awake24_calls _).mono ?_)) | fail) <;> (rintro p_ S_ ⟨rfl, rfl⟩; (try simp only [go_sem, reduceIte, Nat.reduceEqDiff, Nat.reduceLT, Nat.reduceLeDiff, Nat.reduceAdd, reduceCtorEq, Int.reduceToNat, Int.reduceLE, Int.reduceLT, Int.reduceNeg, Int.reduceEq, Int.reduceNe, Nat.reduceBEq, Nat.reduceMul, Nat.reducePow, Int.cast_ofNat_Int, *]))) | fail)
  · (simp only [go_sem, reduceIte, Nat.reduceEqDiff, Nat.reduceLT, Nat.reduceLeDiff, Nat.reduceAdd, reduceCtorEq, Int.reduceToNat, Int.reduceLE, Int.reduceLT, Int.reduceNeg, Int.reduceEq, Int.reduceNe, Nat.reduceBEq, Nat.reduceMul, Nat.reducePow, Int.cast_ofNat_Int, *])
    (repeat' first | ((first | refine split_d ?_ ?_ | refine split_gt rfl ?_ ?_ | refine split_gf rfl ?_ ?_ | refine split_b ?_ ?_ | refine split_gb rfl ?_ ?_) <;> intro _ <;> ((try simp only [go_sem, reduceIte, Nat.reduceEqDiff, Nat.reduceLT, Nat.reduceLeDiff, Nat.reduceAdd, reduceCtorEq, Int.reduceToNat, Int.reduceLE, Int.reduceLT, Int.reduceNeg, Int.reduceEq, Int.reduceNe, Nat.reduceBEq, Nat.reduceMul, Nat.reducePow, Int.cast_ofNat_Int, *]))) | ((first | (refine OpW_call rfl rfl call31 rfl ((r1 _).mono ?_)) | fail) <;> (rintro p_ S_ ⟨rfl, rfl⟩; (try simp only [go_sem, reduceIte, Nat.reduceEqDiff, Nat.reduceLT, Nat.reduceLeDiff, Nat.reduceAdd, reduceCtorEq, Int.reduceToNat, Int.reduceLE, Int.reduceLT, Int.reduceNeg, Int.reduceEq, Int.reduceNe, Nat.reduceBEq, Nat.reduceMul, Nat.reducePow, Int.cast_ofNat_Int, *]))) | fail)
    refine CodeW_quiet mixed 5 (by kernel_rfl) ?_
    (simp only [go_sem, reduceIte, Nat.reduceEqDiff, Nat.reduceLT, Nat.reduceLeDiff, Nat.reduceAdd, reduceCtorEq, Int.reduceToNat, Int.reduceLE, Int.reduceLT, Int.reduceNeg, Int.reduceEq, Int.reduceNe, Nat.reduceBEq, Nat.reduceMul, Nat.reducePow, Int.cast_ofNat_Int, *])
    refine QCW_call rfl rfl call61 (r2 _) ?_
    (simp only [go_sem, reduceIte, Nat.reduceEqDiff, Nat.reduceLT, Nat.reduceLeDiff, Nat.reduceAdd, reduceCtorEq, Int.reduceToNat, Int.reduceLE, Int.reduceLT, Int.reduceNeg, Int.reduceEq, Int.reduceNe, Nat.reduceBEq, Nat.reduceMul, Nat.reducePow, Int.cast_ofNat_Int, *])
    refine QCW_call rfl rfl call62 (r3 _) ?_
    (simp only [go_sem, reduceIte, Nat.reduceEqDiff, Nat.reduceLT, Nat.reduceLeDiff, Nat.reduceAdd, reduceCtorEq, Int.reduceToNat, Int.reduceLE, Int.reduceLT, Int.reduceNeg, Int.reduceEq, Int.reduceNe, Nat.reduceBEq, Nat.reduceMul, Nat.reducePow, Int.cast_ofNat_Int, *])
    refine CodeW_loop (fun m σ' S' => ∃ i : Nat, i + m = R.length ∧ σ' 1 = .ref [.slice 5 (prows l)] ∧ σ' 3 = .slice 1 R ∧ σ' 4 = .slice 1 R ∧ σ' 5 = .int .i64 i ∧ S' = S_) R.length ?_ ?_
    · (simp only [go_sem, reduceIte, Nat.reduceEqDiff, Nat.reduceLT, Nat.reduceLeDiff, Nat.reduceAdd, reduceCtorEq, Int.reduceToNat, Int.reduceLE, Int.reduceLT, Int.reduceNeg, Int.reduceEq, Int.reduceNe, Nat.reduceBEq, Nat.reduceMul, Nat.reducePow, Int.cast_ofNat_Int, *])
      exact ⟨0, by omega, rfl⟩
    · rintro m σ' S' ⟨i, h1, h2, h3, h4, h5, rfl⟩
      by_cases hi : i < R.length
      · obtain ⟨cs, hcs⟩ := hR i hi
        have hlt : (i : Int) < (R.length : Int) := by omega
        have hw := wrap1 hi (by omega)
        clear r1 r2 r3 r4 r5 r6 r7 r8 r9 r10 r11 r12 hR
        (simp only [go_sem, reduceIte, Nat.reduceEqDiff, Nat.reduceLT, Nat.reduceLeDiff, Nat.reduceAdd, reduceCtorEq, Int.reduceToNat, Int.reduceLE, Int.reduceLT, Int.reduceNeg, Int.reduceEq, Int.reduceNe, Nat.reduceBEq, Nat.reduceMul, Nat.reducePow, Int.cast_ofNat_Int, *])
        refine CodeW_quiet mixed 11 (by kernel_rfl) ?_
        (simp only [go_sem, reduceIte, Nat.reduceEqDiff, Nat.reduceLT, Nat.reduceLeDiff, Nat.reduceAdd, reduceCtorEq, Int.reduceToNat, Int.reduceLE, Int.reduceLT, Int.reduceNeg, Int.reduceEq, Int.reduceNe, Nat.reduceBEq, Nat.reduceMul, Nat.reducePow, Int.cast_ofNat_Int, *])
        exact ⟨m - 1, by omega, i + 1, by omega, rfl⟩
      · have hlt : ¬ (i : Int) < (R.length : Int) := by omega
        clear hR
        (simp only [go_sem, reduceIte, Nat.reduceEqDiff, Nat.reduceLT, Nat.reduceLeDiff, Nat.reduceAdd, reduceCtorEq, Int.reduceToNat, Int.reduceLE, Int.reduceLT, Int.reduceNeg, Int.reduceEq, Int.reduceNe, Nat.reduceBEq, Nat.reduceMul, Nat.reducePow, Int.cast_ofNat_Int, *])
        refine CodeW_quiet mixed 33 (by kernel_rfl) ?_
        (simp only [go_sem, reduceIte, Nat.reduceEqDiff, Nat.reduceLT, Nat.reduceLeDiff, Nat.reduceAdd, reduceCtorEq, Int.reduceToNat, Int.reduceLE, Int.reduceLT, Int.reduceNeg, Int.reduceEq, Int.reduceNe, Nat.reduceBEq, Nat.reduceMul, Nat.reducePow, Int.cast_ofNat_Int, *])
        refine QCW_call rfl rfl call63 (r4 _) ?_
        (simp only [go_sem, reduceIte, Nat.reduceEqDiff, Nat.reduceLT, Nat.reduceLeDiff, Nat.reduceAdd, reduceCtorEq, Int.reduceToNat, Int.reduceLE, Int.reduceLT, Int.reduceNeg, Int.reduceEq, Int.reduceNe, Nat.reduceBEq, Nat.reduceMul, Nat.reducePow, Int.cast_ofNat_Int, *])
        refine QCW_call rfl rfl call35 (r5 _) ?_
        (simp only [go_sem, reduceIte, Nat.reduceEqDiff, Nat.reduceLT, Nat.reduceLeDiff, Nat.reduceAdd, reduceCtorEq, Int.reduceToNat, Int.reduceLE, Int.reduceLT, Int.reduceNeg, Int.reduceEq, Int.reduceNe, Nat.reduceBEq, Nat.reduceMul, Nat.reducePow, Int.cast_ofNat_Int, *])
        refine QCW_call rfl rfl call64 (r6 _) ?_
        (simp only [go_sem, reduceIte, Nat.reduceEqDiff, Nat.reduceLT, Nat.reduceLeDiff, Nat.reduceAdd, reduceCtorEq, Int.reduceToNat, Int.reduceLE, Int.reduceLT, Int.reduceNeg, Int.reduceEq, Int.reduceNe, Nat.reduceBEq, Nat.reduceMul, Nat.reducePow, Int.cast_ofNat_Int, *])
        refine QCW_call rfl rfl call65 (r7 _) ?_
        (simp only [go_sem, reduceIte, Nat.reduceEqDiff, Nat.reduceLT, Nat.reduceLeDiff, Nat.reduceAdd, reduceCtorEq, Int.reduceToNat, Int.reduceLE, Int.reduceLT, Int.reduceNeg, Int.reduceEq, Int.reduceNe, Nat.reduceBEq, Nat.reduceMul, Nat.reducePow, Int.cast_ofNat_Int, *])
        refine QCW_call rfl rfl call66 (r8 _) ?_
        (simp only [go_sem, reduceIte, Nat.reduceEqDiff, Nat.reduceLT, Nat.reduceLeDiff, Nat.reduceAdd, reduceCtorEq, Int.reduceToNat, Int.reduceLE, Int.reduceLT, Int.reduceNeg, Int.reduceEq, Int.reduceNe, Nat.reduceBEq, Nat.reduceMul, Nat.reducePow, Int.cast_ofNat_Int, *])
        refine QCW_call rfl rfl call67 (r9 _) ?_
        (simp only [go_sem, reduceIte, Nat.reduceEqDiff, Nat.reduceLT, Nat.reduceLeDiff, Nat.reduceAdd, reduceCtorEq, Int.reduceToNat, Int.reduceLE, Int.reduceLT, Int.reduceNeg, Int.reduceEq, Int.reduceNe, Nat.reduceBEq, Nat.reduceMul, Nat.reducePow, Int.cast_ofNat_Int, *])
        refine QCW_call rfl rfl call68 (r10 _) ?_
        (simp only [go_sem, reduceIte, Nat.reduceEqDiff, Nat.reduceLT, Nat.reduceLeDiff, Nat.reduceAdd, reduceCtorEq, Int.reduceToNat, Int.reduceLE, Int.reduceLT, Int.reduceNeg, Int.reduceEq, Int.reduceNe, Nat.reduceBEq, Nat.reduceMul, Nat.reducePow, Int.cast_ofNat_Int, *])
        refine QCW_call rfl rfl call69 (r11 _) ?_
        (simp only [go_sem, reduceIte, Nat.reduceEqDiff, Nat.reduceLT, Nat.reduceLeDiff, Nat.reduceAdd, reduceCtorEq, Int.reduceToNat, Int.reduceLE, Int.reduceLT, Int.reduceNeg, Int.reduceEq, Int.reduceNe, Nat.reduceBEq, Nat.reduceMul, Nat.reducePow, Int.cast_ofNat_Int, *])
        refine QCW_call rfl rfl call38 (r12 _) ?_
        (simp only [go_sem, reduceIte, Nat.reduceEqDiff, Nat.reduceLT, Nat.reduceLeDiff, Nat.reduceAdd, reduceCtorEq, Int.reduceToNat, Int.reduceLE, Int.reduceLT, Int.reduceNeg, Int.reduceEq, Int.reduceNe, Nat.reduceBEq, Nat.reduceMul, Nat.reducePow, Int.cast_ofNat_Int, *])
        refine QCW_call rfl rfl call60 (awake24_calls _) ?_
        (simp only [go_sem, reduceIte, Nat.reduceEqDiff, Nat.reduceLT, Nat.reduceLeDiff, Nat.reduceAdd, reduceCtorEq, Int.reduceToNat, Int.reduceLE, Int.reduceLT, Int.reduceNeg, Int.reduceEq, Int.reduceNe, Nat.reduceBEq, Nat.reduceMul, Nat.reducePow, Int.cast_ofNat_Int, *])

end Go.Proofs.Ytcbonfgkfiapaaa.Pv
