/- What the law of package unquote on any word computes. -/
import Derived.Test.YtcbonfgkfiapaaaUnq4
import Derived.Test.YtcbonfgkfiapaaaUnq8
set_option linter.unusedVariables false
set_option linter.unusedSimpArgs false
set_option maxRecDepth 100000
set_option maxHeartbeats 40000000
namespace Go.Proofs.Ytcbonfgkfiapaaa.Pv
open Go Go.RowKit

theorem refNames27_calls (l : List Pt) (hb : bulks l ≤ 1048576) (S : Heap) : CallsQ Try.prog 48 [.agg [.slice 5 (prows l)]] S (.slice 1 (strs (nms l))) := by
  have h := refnames_calls 1048576 (Nat.le_refl _) l hb S
  refine CallsA_W (fun _ => false) Try.func48 rfl (Nat.le_of_ble_eq_true rfl) ?_
  simp only [Try.f48]
  (simp only [go_sem, reduceIte, Nat.reduceEqDiff, Nat.reduceLT, Nat.reduceLeDiff, Nat.reduceAdd, reduceCtorEq, Int.reduceToNat, Int.reduceLE, Int.reduceLT, Int.reduceNeg, Int.reduceEq, Int.reduceNe, Nat.reduceBEq, Nat.reduceMul, Nat.reducePow, Int.cast_ofNat_Int, *])
  refine OpW_call rfl rfl call99 rfl (h.mono ?_)
  rintro q_ S4 ⟨rfl, rfl⟩
  (simp only [go_sem, reduceIte, Nat.reduceEqDiff, Nat.reduceLT, Nat.reduceLeDiff, Nat.reduceAdd, reduceCtorEq, Int.reduceToNat, Int.reduceLE, Int.reduceLT, Int.reduceNeg, Int.reduceEq, Int.reduceNe, Nat.reduceBEq, Nat.reduceMul, Nat.reducePow, Int.cast_ofNat_Int, *])
theorem refAssign27_calls (l : List Pt) (hb : bulks l ≤ 2097152) (S : Heap) : CallsQ Try.prog 43 [.agg [.slice 5 (prows l)]] S (asgV (asgOf l)) := by
  refine CallsQ_wk ?_
  have hu := Try.underlying33
  have hu2 := Try.underlying41
  refine CallsA_W (fun _ => false) Try.func43 rfl (Nat.le_of_ble_eq_true rfl) ?_
  simp only [Try.f43]
  (simp only [go_sem, reduceIte, Nat.reduceEqDiff, Nat.reduceLT, Nat.reduceLeDiff, Nat.reduceAdd, reduceCtorEq, Int.reduceToNat, Int.reduceLE, Int.reduceLT, Int.reduceNeg, Int.reduceEq, Int.reduceNe, Nat.reduceBEq, Nat.reduceMul, Nat.reducePow, Int.cast_ofNat_Int, *])
  refine OpW_of (OpA_alloc rfl zeroCells33 (okDst_spec rfl) fun b3 hb3 => ?_)
  cases l with
  | nil =>
    have ha : asgOf [] = none := rfl
    (simp only [go_sem, reduceIte, Nat.reduceEqDiff, Nat.reduceLT, Nat.reduceLeDiff, Nat.reduceAdd, reduceCtorEq, Int.reduceToNat, Int.reduceLE, Int.reduceLT, Int.reduceNeg, Int.reduceEq, Int.reduceNe, Nat.reduceBEq, Nat.reduceMul, Nat.reducePow, Int.cast_ofNat_Int, *])
    refine OpW_put (es := [.sl0]) rfl rfl set_self rfl rfl size33 (Nat.le_of_ble_eq_true rfl) rfl ?_
    rw [Heap.set_set]
    have hle := Heap.le_set (o := .cells (splice [.sl0] 0 [.sl0]) 33) hb3
    (simp only [go_sem, reduceIte, Nat.reduceEqDiff, Nat.reduceLT, Nat.reduceLeDiff, Nat.reduceAdd, reduceCtorEq, Int.reduceToNat, Int.reduceLE, Int.reduceLT, Int.reduceNeg, Int.reduceEq, Int.reduceNe, Nat.reduceBEq, Nat.reduceMul, Nat.reducePow, Int.cast_ofNat_Int, *])
    exact ⟨wkNoAsg, by first | exact Heap.le_set hb3 | exact hle⟩
  | cons p r =>
    have hlen0 : ¬ ((r.length + 1 : Nat) : Int) = 0 := by omega
    by_cases hk : p.k = 1
    · have hpb := bulk_eq p
      have htl : p.text.length ≤ 2097152 := by simp only [bulks] at hb; omega
      have hrl : r.length ≤ 2097152 := by have := bulks_len r; simp only [bulks] at hb; omega
      have hcall := refAssign_calls p.text (by omega)
      rcases assign_cases p.text with hK | ⟨k, hK, hkl⟩
      · have ha : asgOf (p :: r) = none := by simp [asgOf, hk, hK]
        rw [hK] at hcall
        clear hK
        (simp only [go_sem, reduceIte, Nat.reduceEqDiff, Nat.reduceLT, Nat.reduceLeDiff, Nat.reduceAdd, reduceCtorEq, Int.reduceToNat, Int.reduceLE, Int.reduceLT, Int.reduceNeg, Int.reduceEq, Int.reduceNe, Nat.reduceBEq, Nat.reduceMul, Nat.reducePow, Int.cast_ofNat_Int, *])
        refine OpW_call rfl rfl call30 rfl ((hcall _).mono ?_)
        rintro q_ S_ ⟨rfl, rfl⟩
        (simp only [go_sem, reduceIte, Nat.reduceEqDiff, Nat.reduceLT, Nat.reduceLeDiff, Nat.reduceAdd, reduceCtorEq, Int.reduceToNat, Int.reduceLE, Int.reduceLT, Int.reduceNeg, Int.reduceEq, Int.reduceNe, Nat.reduceBEq, Nat.reduceMul, Nat.reducePow, Int.cast_ofNat_Int, *])
        refine OpW_put (es := [.sl0]) rfl rfl set_self rfl rfl size33 (Nat.le_of_ble_eq_true rfl) rfl ?_
        rw [Heap.set_set]
        have hle := Heap.le_set (o := .cells (splice [.sl0] 0 [.sl0]) 33) hb3
        (simp only [go_sem, reduceIte, Nat.reduceEqDiff, Nat.reduceLT, Nat.reduceLeDiff, Nat.reduceAdd, reduceCtorEq, Int.reduceToNat, Int.reduceLE, Int.reduceLT, Int.reduceNeg, Int.reduceEq, Int.reduceNe, Nat.reduceBEq, Nat.reduceMul, Nat.reducePow, Int.cast_ofNat_Int, *])
        exact ⟨wkNoAsg, by first | exact Heap.le_set hb3 | exact hle⟩
      · have ha : asgOf (p :: r) = some (p.text.take k, litP (p.text.drop (k + 1)) ++ r) := by
          simp only [asgOf, if_pos hk, hK, Int.toNat_natCast]; rw [if_neg (by omega)]
        rw [ha]
        rw [hK] at hcall
        clear hK ha
        have hk0 : ¬ (k : Int) < 0 := by omega
        have hle1 := Nat.le_refl r.length
        have htk : List.drop 1 (List.take (r.length + 1) (prows (p :: r))) = prows r := by
          have : (prows r).take r.length = prows r := by rw [← prows_len r]; exact List.take_length
          simp [prows, this]
        have hrp := prows_len r
        (simp only [go_sem, reduceIte, Nat.reduceEqDiff, Nat.reduceLT, Nat.reduceLeDiff, Nat.reduceAdd, reduceCtorEq, Int.reduceToNat, Int.reduceLE, Int.reduceLT, Int.reduceNeg, Int.reduceEq, Int.reduceNe, Nat.reduceBEq, Nat.reduceMul, Nat.reducePow, Int.cast_ofNat_Int, *])
        refine OpW_call rfl rfl call30 rfl ((hcall _).mono ?_)
        rintro q_ S_ ⟨rfl, rfl⟩
        have hS0 : S.le (S.set b3 (.cells [.sl0] 33)) := Heap.le_set hb3
        have hb0 : (S.set b3 (.cells [.sl0] 33)) b3 = some (.cells [.sl0] 33) := set_self
        generalize S.set b3 (.cells [.sl0] 33) = S0 at *
        have hS0' := Keep.mk hS0
        have hb3' := Keep.mk hb3
        have hwk : IntKind.i64.wrap ((k : Int) + 1) = ((k + 1 : Nat) : Int) := by rw [wrap_in (by omega)]; rfl
        have hle2 := Nat.le_refl p.text.length
        have htx : p.text.take p.text.length = p.text := List.take_length
        have hkl2 : k ≤ p.text.length := by omega
        clear hS0 hb3 hcall hb
        by_cases hl : k + 1 < p.text.length
        · have hlt : ((k + 1 : Nat) : Int) < (p.text.length : Int) := by omega
          have hl1 : k + 1 ≤ p.text.length := by omega
          (simp only [go_sem, reduceIte, Nat.reduceEqDiff, Nat.reduceLT, Nat.reduceLeDiff, Nat.reduceAdd, reduceCtorEq, Int.reduceToNat, Int.reduceLE, Int.reduceLT, Int.reduceNeg, Int.reduceEq, Int.reduceNe, Nat.reduceBEq, Nat.reduceMul, Nat.reducePow, Int.cast_ofNat_Int, *])
          refine OpW_append (rows := [litRow (p.text.drop (k + 1))]) (olds := []) (ps := .sl0) rfl appParts rfl rfl (litOne _) rfl (Or.inl ⟨rfl, rfl⟩) (Nat.le_of_ble_eq_true rfl) (Nat.le_of_ble_eq_true rfl) ?_
          rintro p1 S1 g1 g2 g3
          obtain ⟨j1, j2⟩ := grow_le hS0'.of (ps := .sl0) (fun c hc => by cases hc) g2 g3
          have b1 : S1 b3 = some (.cells [.sl0] 33) := by
            refine g3 _ _ hb0 fun e => ?_
            rcases g2 with g2 | ⟨b', g2, g4⟩
            · rw [g2] at e; cases e
            · rw [g2] at e; cases e; rw [hb0] at g4; cases g4
          have c1 := Keep.mk g1
          have c2 := Keep.mk j1
          have c3 := Keep.mk j2
          clear g1 g2 g3 j1 j2 hb0
          (simp only [go_sem, reduceIte, Nat.reduceEqDiff, Nat.reduceLT, Nat.reduceLeDiff, Nat.reduceAdd, reduceCtorEq, Int.reduceToNat, Int.reduceLE, Int.reduceLT, Int.reduceNeg, Int.reduceEq, Int.reduceNe, Nat.reduceBEq, Nat.reduceMul, Nat.reducePow, Int.cast_ofNat_Int, *])
          refine CodeW_any mixed [.pure, .pure, .pure, .pure, .pure, .pure, .pure, .eff, .pure, .pure] (by kernel_rfl) (by kernel_rfl) ⟨trivial, trivial, trivial, trivial, trivial, trivial, trivial, trivial, trivial, trivial, trivial⟩ ?_
          simp only [List.zip_cons_cons, List.zip_nil_right, List.zip_nil_left]
          (simp only [go_sem, reduceIte, Nat.reduceEqDiff, Nat.reduceLT, Nat.reduceLeDiff, Nat.reduceAdd, reduceCtorEq, Int.reduceToNat, Int.reduceLE, Int.reduceLT, Int.reduceNeg, Int.reduceEq, Int.reduceNe, Nat.reduceBEq, Nat.reduceMul, Nat.reducePow, Int.cast_ofNat_Int, *])
          refine RunL_eff (Eff_appF (rows := prows r) (olds := [litRow (p.text.drop (k + 1))]) (ps := p1) rfl appParts rfl (oneRows _) rfl c1.of (by simp only [List.length_cons, List.length_nil, hrp, maxLen]; omega) (by simp only [List.length_cons, List.length_nil, hrp]; omega)) (fun h => ⟨_, _, ⟨rfl, fun c y hc _ => hc⟩, h⟩) ?_
          rintro q_ S2 ⟨rfl, hS2⟩
          have b2 := hS2 _ _ b1 (own_cells c1.of b1)
          have hle : S.le S2 := fun z x hz => hS2 z x (c2.of z x hz) (fun e => by rw [c3.of z e] at hz; cases hz)
          clear hS2 b1 c1 c2 c3
          (simp only [go_sem, reduceIte, Nat.reduceEqDiff, Nat.reduceLT, Nat.reduceLeDiff, Nat.reduceAdd, reduceCtorEq, Int.reduceToNat, Int.reduceLE, Int.reduceLT, Int.reduceNeg, Int.reduceEq, Int.reduceNe, Nat.reduceBEq, Nat.reduceMul, Nat.reducePow, Int.cast_ofNat_Int, *])
          refine OpW_put (es := [.slice 5 ([litRow (p.text.drop (k + 1))] ++ prows r)]) rfl rfl b2 rfl rfl size33 (Nat.le_of_ble_eq_true rfl) rfl ?_
          simp only [splice, List.take_zero, List.nil_append, List.length_cons, List.length_nil, Nat.reduceAdd, List.drop_succ_cons, List.drop_nil, List.append_nil, List.drop_zero]
          have hF : S.le (S2.set b3 (.cells [.slice 5 ([litRow (p.text.drop (k + 1))] ++ prows r)] 33)) := Heap.le_own hle hb3'.of
          have hF2 : (S2.set b3 (.cells [.slice 5 ([litRow (p.text.drop (k + 1))] ++ prows r)] 33)) b3 = some (.cells [.slice 5 ([litRow (p.text.drop (k + 1))] ++ prows r)] 33) := set_self
          generalize S2.set b3 (.cells [.slice 5 ([litRow (p.text.drop (k + 1))] ++ prows r)] 33) = F at *
          clear b2 hle
          (simp only [go_sem, reduceIte, Nat.reduceEqDiff, Nat.reduceLT, Nat.reduceLeDiff, Nat.reduceAdd, reduceCtorEq, Int.reduceToNat, Int.reduceLE, Int.reduceLT, Int.reduceNeg, Int.reduceEq, Int.reduceNe, Nat.reduceBEq, Nat.reduceMul, Nat.reducePow, Int.cast_ofNat_Int, *])
          show Wk _ _
          have hd : litP (p.text.drop (k + 1)) = [.mk 1 (p.text.drop (k + 1)) [] [] []] := if_neg (by intro e; have := congrArg List.length e; simp at this; omega)
          rw [hd]
          exact Wk.tup (WkL.cons (Wk.refl _) (WkL.cons (Wk.agg (WkL.cons (Wk.slice (WkRows.cons (WkR.cons (Wk.refl _) (WkR.cons (Wk.refl _) (WkR.cons (Wk.refl _) (WkR.cons (Wk.sl0 _) (WkR.cons (Wk.sl0 _) WkR.nil))))) (wkRows_refl _))) WkL.nil)) (WkL.refl _)))
        · have hlt : ¬ ((k + 1 : Nat) : Int) < (p.text.length : Int) := by omega
          have hd : p.text.drop (k + 1) = [] := List.drop_of_length_le (by omega)
          (simp only [go_sem, reduceIte, Nat.reduceEqDiff, Nat.reduceLT, Nat.reduceLeDiff, Nat.reduceAdd, reduceCtorEq, Int.reduceToNat, Int.reduceLE, Int.reduceLT, Int.reduceNeg, Int.reduceEq, Int.reduceNe, Nat.reduceBEq, Nat.reduceMul, Nat.reducePow, Int.cast_ofNat_Int, *])
          refine CodeW_any mixed [.pure, .pure, .pure, .pure, .pure, .pure, .pure, .eff, .pure, .pure] (by kernel_rfl) (by kernel_rfl) ⟨trivial, trivial, trivial, trivial, trivial, trivial, trivial, trivial, trivial, trivial, trivial⟩ ?_
          simp only [List.zip_cons_cons, List.zip_nil_right, List.zip_nil_left]
          (simp only [go_sem, reduceIte, Nat.reduceEqDiff, Nat.reduceLT, Nat.reduceLeDiff, Nat.reduceAdd, reduceCtorEq, Int.reduceToNat, Int.reduceLE, Int.reduceLT, Int.reduceNeg, Int.reduceEq, Int.reduceNe, Nat.reduceBEq, Nat.reduceMul, Nat.reducePow, Int.cast_ofNat_Int, *])
          refine RunL_eff (Eff_appF (rows := prows r) (olds := []) (ps := .sl0) rfl appParts rfl (oneRows _) rfl (Or.inl ⟨rfl, rfl⟩) (by simp only [List.length_nil, hrp, maxLen]; omega) (by simp only [List.length_nil, hrp]; omega)) (fun h => ⟨_, _, ⟨rfl, fun c y hc _ => hc⟩, h⟩) ?_
          rintro q_ S2 ⟨rfl, hS2⟩
          have b2 := hS2 _ _ hb0 (fun e => by cases e)
          have hle : S.le S2 := fun z x hz => hS2 z x (hS0'.of z x hz) (fun e => by cases e)
          rw [List.nil_append]
          clear hS2 hb0
          (simp only [go_sem, reduceIte, Nat.reduceEqDiff, Nat.reduceLT, Nat.reduceLeDiff, Nat.reduceAdd, reduceCtorEq, Int.reduceToNat, Int.reduceLE, Int.reduceLT, Int.reduceNeg, Int.reduceEq, Int.reduceNe, Nat.reduceBEq, Nat.reduceMul, Nat.reducePow, Int.cast_ofNat_Int, *])
          refine OpW_put (es := [.slice 5 (prows r)]) rfl rfl b2 rfl rfl size33 (Nat.le_of_ble_eq_true rfl) rfl ?_
          simp only [splice, List.take_zero, List.nil_append, List.length_cons, List.length_nil, Nat.reduceAdd, List.drop_succ_cons, List.drop_nil, List.append_nil, List.drop_zero]
          have hF : S.le (S2.set b3 (.cells [.slice 5 (prows r)] 33)) := Heap.le_own hle hb3'.of
          have hF2 : (S2.set b3 (.cells [.slice 5 (prows r)] 33)) b3 = some (.cells [.slice 5 (prows r)] 33) := set_self
          generalize S2.set b3 (.cells [.slice 5 (prows r)] 33) = F at *
          clear b2 hle
          (simp only [go_sem, reduceIte, Nat.reduceEqDiff, Nat.reduceLT, Nat.reduceLeDiff, Nat.reduceAdd, reduceCtorEq, Int.reduceToNat, Int.reduceLE, Int.reduceLT, Int.reduceNeg, Int.reduceEq, Int.reduceNe, Nat.reduceBEq, Nat.reduceMul, Nat.reducePow, Int.cast_ofNat_Int, *])
          exact Wk.refl _
    · have ha : asgOf (p :: r) = none := if_neg hk
      (simp only [go_sem, reduceIte, Nat.reduceEqDiff, Nat.reduceLT, Nat.reduceLeDiff, Nat.reduceAdd, reduceCtorEq, Int.reduceToNat, Int.reduceLE, Int.reduceLT, Int.reduceNeg, Int.reduceEq, Int.reduceNe, Nat.reduceBEq, Nat.reduceMul, Nat.reducePow, Int.cast_ofNat_Int, *])
      refine OpW_put (es := [.sl0]) rfl rfl set_self rfl rfl size33 (Nat.le_of_ble_eq_true rfl) rfl ?_
      rw [Heap.set_set]
      have hle := Heap.le_set (o := .cells (splice [.sl0] 0 [.sl0]) 33) hb3
      (simp only [go_sem, reduceIte, Nat.reduceEqDiff, Nat.reduceLT, Nat.reduceLeDiff, Nat.reduceAdd, reduceCtorEq, Int.reduceToNat, Int.reduceLE, Int.reduceLT, Int.reduceNeg, Int.reduceEq, Int.reduceNe, Nat.reduceBEq, Nat.reduceMul, Nat.reducePow, Int.cast_ofNat_Int, *])
      exact ⟨wkNoAsg, by first | exact Heap.le_set hb3 | exact hle⟩
theorem asg_bulk {l : List Pt} {x : List UInt8 × List Pt} (hb : bulks l ≤ 1048576) (h : asgOf l = some x) : bulks x.2 ≤ 1048576 := by
  cases l with
  | nil => cases h
  | cons p r =>
    simp only [asgOf] at h
    split at h
    · split at h
      · cases h
      · cases h
        have hpb := bulk_eq p
        simp only [bulks] at hb
        rw [bulks_app]
        unfold litP
        split
        · simp only [bulks]; omega
        · simp only [bulks, Pt.bulk, List.length_nil, List.length_drop]; omega
    · cases h
theorem unquoteTells_calls (l : List Pt) (hb : bulks l ≤ 1048576) (S : Heap) : CallsQ Try.prog 8 [.agg [.slice 5 (prows l)]] S (.bool true) := by
  have m1 := much_calls 1048576 (Nat.le_refl _) l hb
  have haw := awake27_calls
  have a1 := uqText_calls l hb
  have a2 := refText_calls l hb
  have a3 := uqPlain_calls l
  have a4 := refPlain27_calls l
  have a5 := uqAssign_calls l (by omega)
  have a6 := refAssign27_calls l (by omega)
  have a7 := quoted_calls l (by have := bulks_len l; omega)
  have a8 := refQuoted_calls l (by have := bulks_len l; omega)
  have a9 := uqNames_calls l hb
  have a10 := refNames27_calls l hb
  have a11 := sameStrs_calls (nms l) (by have := nms_len l; omega)
  obtain ⟨n, v, ok, hv⟩ : ∃ n v ok, asgV (asgOf l) = .tup [.str n, .agg [.slice 5 (prows v)], .bool ok] ∧ bulks v ≤ 1048576 := by
    cases ha : asgOf l with
    | none => exact ⟨[], [], false, rfl, by simp [bulks]⟩
    | some x => exact ⟨x.1, x.2, true, rfl, asg_bulk hb ha⟩
  obtain ⟨hv, hvb⟩ := hv
  rw [hv] at a5 a6
  have a12 := same24_calls 1048576 (Nat.le_refl _) v v hvb
  rw [sames_refl] at a12
  unfold txV at a2 a4
  generalize (txs l).getD [] = t1 at *
  generalize (txs l).isSome = t2 at *
  generalize (plainOf l).getD [] = t3 at *
  generalize (plainOf l).isSome = t4 at *
  generalize (l.any fun p => isQ p.k) = t5 at *
  generalize strs (nms l) = t6 at *
  generalize muchGo l.length l = ml at *
  clear hv hvb
  refine CallsQ_less ?_
  refine CallsA_W (fun _ => false) Try.func8 rfl (Nat.le_of_ble_eq_true rfl) ?_
  simp only [Try.f8]
  have hu := Try.underlying33
  by_cases c1 : (300 : Int) < (ml : Int)
  · (simp only [go_sem, reduceIte, Nat.reduceEqDiff, Nat.reduceLT, Nat.reduceLeDiff, Nat.reduceAdd, reduceCtorEq, Int.reduceToNat, Int.reduceLE, Int.reduceLT, Int.reduceNeg, Int.reduceEq, Int.reduceNe, Nat.reduceBEq, Nat.reduceMul, Nat.reducePow, Int.cast_ofNat_Int, *])
    (repeat' first | ((first | refine split_d ?_ ?_ | refine split_gt rfl ?_ ?_ | refine split_gf rfl ?_ ?_ | refine split_b ?_ ?_ | refine split_gb rfl ?_ ?_) <;> intro _ <;> ((try simp only [go_sem, reduceIte, Nat.reduceEqDiff, Nat.reduceLT, Nat.reduceLeDiff, Nat.reduceAdd, reduceCtorEq, Int.reduceToNat, Int.reduceLE, Int.reduceLT, Int.reduceNeg, Int.reduceEq, Int.reduceNe, Nat.reduceBEq, Nat.reduceMul, Nat.reducePow, Int.cast_ofNat_Int, *]))) | ((first | (refine OpW_call rfl rfl call31 rfl ((m1 _).mono ?_)) | (refine OpW_call rfl rfl call36 rfl ((haw _).mono ?_)) | fail) <;> (rintro p_ S_ ⟨rfl, rfl⟩; (try simp only [go_sem, reduceIte, Nat.reduceEqDiff, Nat.reduceLT, Nat.reduceLeDiff, Nat.reduceAdd, reduceCtorEq, Int.reduceToNat, Int.reduceLE, Int.reduceLT, Int.reduceNeg, Int.reduceEq, Int.reduceNe, Nat.reduceBEq, Nat.reduceMul, Nat.reducePow, Int.cast_ofNat_Int, *]))) | fail)
    all_goals exact Heap.le_refl _
  (simp only [go_sem, reduceIte, Nat.reduceEqDiff, Nat.reduceLT, Nat.reduceLeDiff, Nat.reduceAdd, reduceCtorEq, Int.reduceToNat, Int.reduceLE, Int.reduceLT, Int.reduceNeg, Int.reduceEq, Int.reduceNe, Nat.reduceBEq, Nat.reduceMul, Nat.reducePow, Int.cast_ofNat_Int, *])
  (repeat' first | ((first | refine split_d ?_ ?_ | refine split_gt rfl ?_ ?_ | refine split_gf rfl ?_ ?_ | refine split_b ?_ ?_ | refine split_gb rfl ?_ ?_) <;> intro _ <;> ((try simp only [go_sem, reduceIte, Nat.reduceEqDiff, Nat.reduceLT, Nat.reduceLeDiff, Nat.reduceAdd, reduceCtorEq, Int.reduceToNat, Int.reduceLE, Int.reduceLT, Int.reduceNeg, Int.reduceEq, Int.reduceNe, Nat.reduceBEq, Nat.reduceMul, Nat.reducePow, Int.cast_ofNat_Int, *]))) | ((first | (refine OpW_call rfl rfl call31 rfl ((m1 _).mono ?_)) | (refine OpW_call rfl rfl call39 rfl ((a1 _).mono ?_)) | (refine OpW_call rfl rfl call40 rfl ((a2 _).mono ?_)) | (refine OpW_call rfl rfl call41 rfl ((a3 _).mono ?_)) | (refine OpW_call rfl rfl call42 rfl ((a4 _).mono ?_)) | (refine OpW_call rfl rfl call37 rfl ((a5 _).mono ?_)) | fail) <;> (rintro p_ S_ ⟨rfl, rfl⟩; (try simp only [go_sem, reduceIte, Nat.reduceEqDiff, Nat.reduceLT, Nat.reduceLeDiff, Nat.reduceAdd, reduceCtorEq, Int.reduceToNat, Int.reduceLE, Int.reduceLT, Int.reduceNeg, Int.reduceEq, Int.reduceNe, Nat.reduceBEq, Nat.reduceMul, Nat.reducePow, Int.cast_ofNat_Int, *]))) | fail)
  refine OpW_of (OpA_alloc rfl zeroCells33 (okDst_spec rfl) fun b hb => ?_)
  (simp only [go_sem, reduceIte, Nat.reduceEqDiff, Nat.reduceLT, Nat.reduceLeDiff, Nat.reduceAdd, reduceCtorEq, Int.reduceToNat, Int.reduceLE, Int.reduceLT, Int.reduceNeg, Int.reduceEq, Int.reduceNe, Nat.reduceBEq, Nat.reduceMul, Nat.reducePow, Int.cast_ofNat_Int, *])
  refine OpW_put rfl rfl set_self rfl rfl size33 (Nat.le_of_ble_eq_true rfl) rfl ?_
  rw [Heap.set_set]
  (simp only [go_sem, reduceIte, Nat.reduceEqDiff, Nat.reduceLT, Nat.reduceLeDiff, Nat.reduceAdd, reduceCtorEq, Int.reduceToNat, Int.reduceLE, Int.reduceLT, Int.reduceNeg, Int.reduceEq, Int.reduceNe, Nat.reduceBEq, Nat.reduceMul, Nat.reducePow, Int.cast_ofNat_Int, *])
  (repeat' first | ((first | refine split_d ?_ ?_ | refine split_gt rfl ?_ ?_ | refine split_gf rfl ?_ ?_ | refine split_b ?_ ?_ | refine split_gb rfl ?_ ?_) <;> intro _ <;> ((try simp only [go_sem, reduceIte, Nat.reduceEqDiff, Nat.reduceLT, Nat.reduceLeDiff, Nat.reduceAdd, reduceCtorEq, Int.reduceToNat, Int.reduceLE, Int.reduceLT, Int.reduceNeg, Int.reduceEq, Int.reduceNe, Nat.reduceBEq, Nat.reduceMul, Nat.reducePow, Int.cast_ofNat_Int, *]))) | ((first | (refine OpW_call rfl rfl call43 rfl ((a6 _).mono ?_)) | fail) <;> (rintro p_ S_ ⟨rfl, rfl⟩; (try simp only [go_sem, reduceIte, Nat.reduceEqDiff, Nat.reduceLT, Nat.reduceLeDiff, Nat.reduceAdd, reduceCtorEq, Int.reduceToNat, Int.reduceLE, Int.reduceLT, Int.reduceNeg, Int.reduceEq, Int.reduceNe, Nat.reduceBEq, Nat.reduceMul, Nat.reducePow, Int.cast_ofNat_Int, *]))) | fail)
  refine OpW_of (OpA_alloc rfl zeroCells33 (okDst_spec rfl) fun c hc => ?_)
  (simp only [go_sem, reduceIte, Nat.reduceEqDiff, Nat.reduceLT, Nat.reduceLeDiff, Nat.reduceAdd, reduceCtorEq, Int.reduceToNat, Int.reduceLE, Int.reduceLT, Int.reduceNeg, Int.reduceEq, Int.reduceNe, Nat.reduceBEq, Nat.reduceMul, Nat.reducePow, Int.cast_ofNat_Int, *])
  refine OpW_put rfl rfl set_self rfl rfl size33 (Nat.le_of_ble_eq_true rfl) rfl ?_
  rw [Heap.set_set]
  have hcb : c ≠ b := fun e => by subst e; rw [set_self] at hc; cases hc
  simp only [splice, List.take_zero, List.nil_append, List.length_cons, List.length_nil, Nat.reduceAdd, List.drop_succ_cons, List.drop_nil, List.append_nil, List.drop_zero] at hc ⊢
  have hle := Heap.le_own (o := .cells [.slice 5 (prows v)] 33) (Heap.le_set (o := .cells [.slice 5 (prows v)] 33) hb) (le_none (Heap.le_set hb) hc)
  generalize hG : Heap.set (Heap.set _ b _) c _ = G at *
  have g1 : G b = some (.cells [.slice 5 (prows v)] 33) := by rw [← hG, set_ne (Ne.symm hcb)]; exact set_self
  have g2 : G c = some (.cells [.slice 5 (prows v)] 33) := by rw [← hG]; exact set_self
  clear hG hc hb hcb a1 a2 a3 a4 a5 a6 m1
  (simp only [go_sem, reduceIte, Nat.reduceEqDiff, Nat.reduceLT, Nat.reduceLeDiff, Nat.reduceAdd, reduceCtorEq, Int.reduceToNat, Int.reduceLE, Int.reduceLT, Int.reduceNeg, Int.reduceEq, Int.reduceNe, Nat.reduceBEq, Nat.reduceMul, Nat.reducePow, Int.cast_ofNat_Int, *])
  (repeat' first | ((first | refine split_d ?_ ?_ | refine split_gt rfl ?_ ?_ | refine split_gf rfl ?_ ?_ | refine split_b ?_ ?_ | refine split_gb rfl ?_ ?_) <;> intro _ <;> ((try simp only [go_sem, reduceIte, Nat.reduceEqDiff, Nat.reduceLT, Nat.reduceLeDiff, Nat.reduceAdd, reduceCtorEq, Int.reduceToNat, Int.reduceLE, Int.reduceLT, Int.reduceNeg, Int.reduceEq, Int.reduceNe, Nat.reduceBEq, Nat.reduceMul, Nat.reducePow, Int.cast_ofNat_Int, *]))) | (refine CodeW_quiet mixed 52 (by kernel_rfl) ?_ <;> (try simp only [go_sem, reduceIte, Nat.reduceEqDiff, Nat.reduceLT, Nat.reduceLeDiff, Nat.reduceAdd, reduceCtorEq, Int.reduceToNat, Int.reduceLE, Int.reduceLT, Int.reduceNeg, Int.reduceEq, Int.reduceNe, Nat.reduceBEq, Nat.reduceMul, Nat.reducePow, Int.cast_ofNat_Int, *])) | (refine QCW_call rfl rfl call38 (a12 _) ?_ <;> (try simp only [go_sem, reduceIte, Nat.reduceEqDiff, Nat.reduceLT, Nat.reduceLeDiff, Nat.reduceAdd, reduceCtorEq, Int.reduceToNat, Int.reduceLE, Int.reduceLT, Int.reduceNeg, Int.reduceEq, Int.reduceNe, Nat.reduceBEq, Nat.reduceMul, Nat.reducePow, Int.cast_ofNat_Int, *])) | (refine QCW_call rfl rfl call44 (a7 _) ?_ <;> (try simp only [go_sem, reduceIte, Nat.reduceEqDiff, Nat.reduceLT, Nat.reduceLeDiff, Nat.reduceAdd, reduceCtorEq, Int.reduceToNat, Int.reduceLE, Int.reduceLT, Int.reduceNeg, Int.reduceEq, Int.reduceNe, Nat.reduceBEq, Nat.reduceMul, Nat.reducePow, Int.cast_ofNat_Int, *])) | (refine QCW_call rfl rfl call45 (a8 _) ?_ <;> (try simp only [go_sem, reduceIte, Nat.reduceEqDiff, Nat.reduceLT, Nat.reduceLeDiff, Nat.reduceAdd, reduceCtorEq, Int.reduceToNat, Int.reduceLE, Int.reduceLT, Int.reduceNeg, Int.reduceEq, Int.reduceNe, Nat.reduceBEq, Nat.reduceMul, Nat.reducePow, Int.cast_ofNat_Int, *])) | (refine QCW_call rfl rfl call47 (a9 _) ?_ <;> (try simp only [go_sem, reduceIte, Nat.reduceEqDiff, Nat.reduceLT, Nat.reduceLeDiff, Nat.reduceAdd, reduceCtorEq, Int.reduceToNat, Int.reduceLE, Int.reduceLT, Int.reduceNeg, Int.reduceEq, Int.reduceNe, Nat.reduceBEq, Nat.reduceMul, Nat.reducePow, Int.cast_ofNat_Int, *])) | (refine QCW_call rfl rfl call48 (a10 _) ?_ <;> (try simp only [go_sem, reduceIte, Nat.reduceEqDiff, Nat.reduceLT, Nat.reduceLeDiff, Nat.reduceAdd, reduceCtorEq, Int.reduceToNat, Int.reduceLE, Int.reduceLT, Int.reduceNeg, Int.reduceEq, Int.reduceNe, Nat.reduceBEq, Nat.reduceMul, Nat.reducePow, Int.cast_ofNat_Int, *])) | (refine QCW_call rfl rfl call46 (a11 _) ?_ <;> (try simp only [go_sem, reduceIte, Nat.reduceEqDiff, Nat.reduceLT, Nat.reduceLeDiff, Nat.reduceAdd, reduceCtorEq, Int.reduceToNat, Int.reduceLE, Int.reduceLT, Int.reduceNeg, Int.reduceEq, Int.reduceNe, Nat.reduceBEq, Nat.reduceMul, Nat.reducePow, Int.cast_ofNat_Int, *])) | (refine QCW_call rfl rfl call36 (haw _) ?_ <;> (try simp only [go_sem, reduceIte, Nat.reduceEqDiff, Nat.reduceLT, Nat.reduceLeDiff, Nat.reduceAdd, reduceCtorEq, Int.reduceToNat, Int.reduceLE, Int.reduceLT, Int.reduceNeg, Int.reduceEq, Int.reduceNe, Nat.reduceBEq, Nat.reduceMul, Nat.reducePow, Int.cast_ofNat_Int, *])) | fail)
end Go.Proofs.Ytcbonfgkfiapaaa.Pv
