/- What the law of package unquote on assignments computes. -/
import Derived.Test.YtcbonfgkfiapaaaUnq1
import Derived.Test.YtcbonfgkfiapaaaUnq3
import Derived.Test.YtcbonfgkfiapaaaFrz
import Derived.Test.YtcbonfgkfiapaaaPtLaw
set_option linter.unusedVariables false
set_option linter.unusedSimpArgs false
set_option maxRecDepth 100000
set_option maxHeartbeats 40000000
namespace Go.Proofs.Ytcbonfgkfiapaaa.Pv
open Go Go.RowKit

def W27 : List Pt := [.mk 1 [97, 61, 98] [] [] [], .mk 3 [99] [] [] []]
def V27 : List Pt := [.mk 1 [98] [] [] [], .mk 3 [99] [] [] []]
theorem wkW27 : WkL [.agg [.slice 5 [[.int .i64 1, .str [97, 61, 98], .str [], .sl0, .sl0], [.int .i64 3, .str [99], .str [], .sl0, .sl0]]]] [.agg [.slice 5 (prows W27)]] := by
  have hp : prows W27 = [[.int .i64 1, .str [97, 61, 98], .str [], .slice 5 [], .slice 10 []], [.int .i64 3, .str [99], .str [], .slice 5 [], .slice 10 []]] := by
    simp only [W27, prows, Pt.row]
  rw [hp]
  (repeat' first
    | exact Wk.refl _
    | exact Wk.sl0 _
    | exact WkL.nil
    | exact WkR.nil
    | exact WkRows.nil
    | refine Wk.agg ?_
    | refine WkL.cons ?_ ?_
    | refine Wk.slice ?_
    | refine WkRows.cons ?_ ?_
    | refine WkR.cons ?_ ?_)
theorem asg_lit {name t : List UInt8} (r : List Pt) (h : isName name = true) : asgOf (.mk 1 (name ++ [61] ++ t) [] [] [] :: r) = some (name, litP t ++ r) := by
  have h1 := assign_name (t := t) h
  have h2 : asgOf (.mk 1 (name ++ [61] ++ t) [] [] [] :: r) = (if assignAt (name ++ [61] ++ t) < 0 then none else some ((name ++ [61] ++ t).take (assignAt (name ++ [61] ++ t)).toNat, litP ((name ++ [61] ++ t).drop ((assignAt (name ++ [61] ++ t)).toNat + 1)) ++ r)) := rfl
  rw [h2, h1, if_neg (by omega), Int.toNat_natCast]
  have e1 : (name ++ [61] ++ t).take name.length = name := by simp
  have e2 : (name ++ [61] ++ t).drop (name.length + 1) = t := by
    rw [show name.length + 1 = (name ++ [61]).length by simp]
    exact List.drop_left
  rw [e1, e2]
theorem awake27_calls (S : Heap) : CallsQ Try.prog 36 [] S (.bool true) := by
  have r1 := uqText_calls W27 (by decide)
  have e1 : (txs W27).getD [] = [97, 61, 98, 99] := by decide +kernel
  have e2 : (txs W27).isSome = true := by decide +kernel
  have r2 := uqAssign_calls W27 (by decide)
  have e3 : asgOf W27 = some ([97], V27) := asg_lit (name := [97]) (t := [98]) [.mk 3 [99] [] [] []] (by decide +kernel)
  have r3 := quoted_calls W27 (by decide)
  have e4 : (W27.any fun p => isQ p.k) = true := by decide +kernel
  have e5 : prows V27 = [[.int .i64 1, .str [98], .str [], .slice 5 [], .slice 10 []], [.int .i64 3, .str [99], .str [], .slice 5 [], .slice 10 []]] := by
    simp only [V27, prows, Pt.row]
  rw [e1, e2] at r1
  rw [e3] at r2
  simp only [asgV, e5] at r2
  rw [e4] at r3
  clear e1 e2 e3 e4 e5
  refine CallsQ_less ?_
  refine CallsA_W (fun _ => false) Try.func36 rfl (Nat.le_of_ble_eq_true rfl) ?_
  simp only [Try.f36]
  have hu := Try.underlying33
  have hu2 := Try.underlying41
  (simp only [go_sem, reduceIte, Nat.reduceEqDiff, Nat.reduceLT, Nat.reduceLeDiff, Nat.reduceAdd, reduceCtorEq, Int.reduceToNat, Int.reduceLE, Int.reduceLT, Int.reduceNeg, Int.reduceEq, Int.reduceNe, Nat.reduceBEq, Nat.reduceMul, Nat.reducePow, Int.cast_ofNat_Int, *])
  refine OpW_of (OpA_alloc rfl zeroCells33 (okDst_spec rfl) fun b hb => ?_)
  (simp only [go_sem, reduceIte, Nat.reduceEqDiff, Nat.reduceLT, Nat.reduceLeDiff, Nat.reduceAdd, reduceCtorEq, Int.reduceToNat, Int.reduceLE, Int.reduceLT, Int.reduceNeg, Int.reduceEq, Int.reduceNe, Nat.reduceBEq, Nat.reduceMul, Nat.reducePow, Int.cast_ofNat_Int, *])
  refine OpW_put rfl rfl set_self rfl rfl size33 (Nat.le_of_ble_eq_true rfl) rfl ?_
  rw [Heap.set_set]
  (simp only [go_sem, reduceIte, Nat.reduceEqDiff, Nat.reduceLT, Nat.reduceLeDiff, Nat.reduceAdd, reduceCtorEq, Int.reduceToNat, Int.reduceLE, Int.reduceLT, Int.reduceNeg, Int.reduceEq, Int.reduceNe, Nat.reduceBEq, Nat.reduceMul, Nat.reducePow, Int.cast_ofNat_Int, *])
  refine OpW_callW rfl wkW27 call39 rfl ((r1 _).mono ?_)
  rintro p_ S_ ⟨rfl, rfl⟩
  (simp only [go_sem, reduceIte, Nat.reduceEqDiff, Nat.reduceLT, Nat.reduceLeDiff, Nat.reduceAdd, reduceCtorEq, Int.reduceToNat, Int.reduceLE, Int.reduceLT, Int.reduceNeg, Int.reduceEq, Int.reduceNe, Nat.reduceBEq, Nat.reduceMul, Nat.reducePow, Int.cast_ofNat_Int, *])
  refine OpW_callW rfl wkW27 call37 rfl ((r2 _).mono ?_)
  rintro p_ S_ ⟨rfl, rfl⟩
  (simp only [go_sem, reduceIte, Nat.reduceEqDiff, Nat.reduceLT, Nat.reduceLeDiff, Nat.reduceAdd, reduceCtorEq, Int.reduceToNat, Int.reduceLE, Int.reduceLT, Int.reduceNeg, Int.reduceEq, Int.reduceNe, Nat.reduceBEq, Nat.reduceMul, Nat.reducePow, Int.cast_ofNat_Int, *])
  refine OpW_of (OpA_alloc rfl zeroCells33 (okDst_spec rfl) fun c hc => ?_)
  (simp only [go_sem, reduceIte, Nat.reduceEqDiff, Nat.reduceLT, Nat.reduceLeDiff, Nat.reduceAdd, reduceCtorEq, Int.reduceToNat, Int.reduceLE, Int.reduceLT, Int.reduceNeg, Int.reduceEq, Int.reduceNe, Nat.reduceBEq, Nat.reduceMul, Nat.reducePow, Int.cast_ofNat_Int, *])
  refine OpW_put rfl rfl set_self rfl rfl size33 (Nat.le_of_ble_eq_true rfl) rfl ?_
  rw [Heap.set_set]
  have hcb : c ≠ b := fun e => by subst e; rw [set_self] at hc; cases hc
  have hle := Heap.le_own (o := .cells [.slice 5 [[.int .i64 1, .str [98], .str [], .slice 5 [], .slice 10 []], [.int .i64 3, .str [99], .str [], .slice 5 [], .slice 10 []]]] 33) (Heap.le_set (o := .cells [.slice 5 [[.int .i64 1, .str [97, 61, 98], .str [], .sl0, .sl0], [.int .i64 3, .str [99], .str [], .sl0, .sl0]]] 33) hb) (le_none (Heap.le_set hb) hc)
  simp only [splice, List.take_zero, List.nil_append, List.length_cons, List.length_nil, Nat.reduceAdd, List.drop_succ_cons, List.drop_nil, List.append_nil, List.drop_zero]
  generalize hG : Heap.set (Heap.set S b _) c _ = G at *
  have g1 : G b = some (.cells [.slice 5 [[.int .i64 1, .str [97, 61, 98], .str [], .sl0, .sl0], [.int .i64 3, .str [99], .str [], .sl0, .sl0]]] 33) := by rw [← hG, set_ne (Ne.symm hcb)]; exact set_self
  have g2 : G c = some (.cells [.slice 5 [[.int .i64 1, .str [98], .str [], .slice 5 [], .slice 10 []], [.int .i64 3, .str [99], .str [], .slice 5 [], .slice 10 []]]] 33) := by rw [← hG]; exact set_self
  clear hG hc hb hcb r1 r2
  (simp only [go_sem, reduceIte, Nat.reduceEqDiff, Nat.reduceLT, Nat.reduceLeDiff, Nat.reduceAdd, reduceCtorEq, Int.reduceToNat, Int.reduceLE, Int.reduceLT, Int.reduceNeg, Int.reduceEq, Int.reduceNe, Nat.reduceBEq, Nat.reduceMul, Nat.reducePow, Int.cast_ofNat_Int, *])
  refine OpW_callW rfl wkW27 call44 rfl ((r3 _).mono ?_)
  rintro p_ S_ ⟨rfl, rfl⟩
  (simp only [go_sem, reduceIte, Nat.reduceEqDiff, Nat.reduceLT, Nat.reduceLeDiff, Nat.reduceAdd, reduceCtorEq, Int.reduceToNat, Int.reduceLE, Int.reduceLT, Int.reduceNeg, Int.reduceEq, Int.reduceNe, Nat.reduceBEq, Nat.reduceMul, Nat.reducePow, Int.cast_ofNat_Int, *])
theorem lit_bare {pl : Int} {p : Pt} (h : oneP pl p = true) (hk : p.k = 1) : p.op = [] ∧ p.kids = [] := by
  rw [oneP_eq] at h
  unfold oneOk at h
  split at h
  · cases h
  · rename_i hn
    constructor
    · apply Classical.byContradiction
      intro ho
      exact hn (Or.inl ⟨by rw [hk]; decide, ho⟩)
    · apply Classical.byContradiction
      intro ho
      exact hn (Or.inr (Or.inl ⟨by rw [hk]; decide, by rw [hk]; decide, by have := List.length_pos_iff.2 ho; omega⟩))
theorem right_cons {l : List Pt} (h : rightW l = true) : ∃ p r, l = p :: r ∧ oneP 0 p = true := by
  cases l with
  | nil => cases h
  | cons p r =>
    simp only [rightW, Bool.and_eq_true, allP] at h
    exact ⟨p, r, rfl, h.1.1⟩
def litRow (s : List UInt8) : List PV := [.int .i64 1, .str s, .str [], .sl0, .sl0]
theorem wkLit (s : List UInt8) (l : List Pt) : WkL [.agg [.slice 5 (litRow s :: prows l)]] [.agg [.slice 5 (prows (.mk 1 s [] [] [] :: l))]] :=
  WkL.cons (Wk.agg (WkL.cons (Wk.slice (WkRows.cons (WkR.cons (Wk.refl _) (WkR.cons (Wk.refl _) (WkR.cons (Wk.refl _) (WkR.cons (Wk.sl0 _) (WkR.cons (Wk.sl0 _) WkR.nil))))) (wkRows_refl _))) WkL.nil)) WkL.nil
theorem litOne (s : List UInt8) : ∀ r ∈ [litRow s], ∀ c ∈ r, c.isOne = true := by
  intro r hr c hc
  simp only [List.mem_singleton] at hr
  subst hr
  simp only [litRow, List.mem_cons, List.not_mem_nil, or_false] at hc
  rcases hc with rfl | rfl | rfl | rfl | rfl <;> rfl
theorem unquoteAssigns_calls (name : List UInt8) (l : List Pt) (hb : name.length + bulks l ≤ 1048576) (S : Heap) : CallsQ Try.prog 7 [.str name, .agg [.slice 5 (prows l)]] S (.bool true) := by
  have m1 := much_calls 1048576 (Nat.le_refl _) l (by omega)
  have n1 := refName_calls name (by omega)
  have r1 := right24_calls l (by omega)
  have haw := awake27_calls
  generalize hm : muchGo l.length l = ml at *
  refine CallsQ_less ?_
  refine CallsA_W (fun t => decide (t = 32)) Try.func7 rfl (Nat.le_of_ble_eq_true rfl) ?_
  simp only [Try.f7]
  by_cases c1 : (300 : Int) < (ml : Int)
  · (simp only [go_sem, reduceIte, Nat.reduceEqDiff, Nat.reduceLT, Nat.reduceLeDiff, Nat.reduceAdd, reduceCtorEq, Int.reduceToNat, Int.reduceLE, Int.reduceLT, Int.reduceNeg, Int.reduceEq, Int.reduceNe, Nat.reduceBEq, Nat.reduceMul, Nat.reducePow, Int.cast_ofNat_Int, *])
    (repeat' first | ((first | refine split_d ?_ ?_ | refine split_gt rfl ?_ ?_ | refine split_gf rfl ?_ ?_ | refine split_b ?_ ?_ | refine split_gb rfl ?_ ?_) <;> intro _ <;> ((try simp only [go_sem, reduceIte, Nat.reduceEqDiff, Nat.reduceLT, Nat.reduceLeDiff, Nat.reduceAdd, reduceCtorEq, Int.reduceToNat, Int.reduceLE, Int.reduceLT, Int.reduceNeg, Int.reduceEq, Int.reduceNe, Nat.reduceBEq, Nat.reduceMul, Nat.reducePow, Int.cast_ofNat_Int, *]))) | ((first | (refine OpW_call rfl rfl call31 rfl ((m1 _).mono ?_)) | (refine OpW_call rfl rfl call36 rfl ((haw _).mono ?_)) | fail) <;> (rintro p_ S_ ⟨rfl, rfl⟩; (try simp only [go_sem, reduceIte, Nat.reduceEqDiff, Nat.reduceLT, Nat.reduceLeDiff, Nat.reduceAdd, reduceCtorEq, Int.reduceToNat, Int.reduceLE, Int.reduceLT, Int.reduceNeg, Int.reduceEq, Int.reduceNe, Nat.reduceBEq, Nat.reduceMul, Nat.reducePow, Int.cast_ofNat_Int, *]))) | fail)
    all_goals exact Heap.le_refl _
  by_cases c2 : (200 : Int) < (name.length : Int)
  · (simp only [go_sem, reduceIte, Nat.reduceEqDiff, Nat.reduceLT, Nat.reduceLeDiff, Nat.reduceAdd, reduceCtorEq, Int.reduceToNat, Int.reduceLE, Int.reduceLT, Int.reduceNeg, Int.reduceEq, Int.reduceNe, Nat.reduceBEq, Nat.reduceMul, Nat.reducePow, Int.cast_ofNat_Int, *])
    (repeat' first | ((first | refine split_d ?_ ?_ | refine split_gt rfl ?_ ?_ | refine split_gf rfl ?_ ?_ | refine split_b ?_ ?_ | refine split_gb rfl ?_ ?_) <;> intro _ <;> ((try simp only [go_sem, reduceIte, Nat.reduceEqDiff, Nat.reduceLT, Nat.reduceLeDiff, Nat.reduceAdd, reduceCtorEq, Int.reduceToNat, Int.reduceLE, Int.reduceLT, Int.reduceNeg, Int.reduceEq, Int.reduceNe, Nat.reduceBEq, Nat.reduceMul, Nat.reducePow, Int.cast_ofNat_Int, *]))) | ((first | (refine OpW_call rfl rfl call31 rfl ((m1 _).mono ?_)) | (refine OpW_call rfl rfl call36 rfl ((haw _).mono ?_)) | fail) <;> (rintro p_ S_ ⟨rfl, rfl⟩; (try simp only [go_sem, reduceIte, Nat.reduceEqDiff, Nat.reduceLT, Nat.reduceLeDiff, Nat.reduceAdd, reduceCtorEq, Int.reduceToNat, Int.reduceLE, Int.reduceLT, Int.reduceNeg, Int.reduceEq, Int.reduceNe, Nat.reduceBEq, Nat.reduceMul, Nat.reducePow, Int.cast_ofNat_Int, *]))) | fail)
    all_goals exact Heap.le_refl _
  cases c3 : isName name with
  | false =>
    rw [c3] at n1
    (simp only [go_sem, reduceIte, Nat.reduceEqDiff, Nat.reduceLT, Nat.reduceLeDiff, Nat.reduceAdd, reduceCtorEq, Int.reduceToNat, Int.reduceLE, Int.reduceLT, Int.reduceNeg, Int.reduceEq, Int.reduceNe, Nat.reduceBEq, Nat.reduceMul, Nat.reducePow, Int.cast_ofNat_Int, *])
    (repeat' first | ((first | refine split_d ?_ ?_ | refine split_gt rfl ?_ ?_ | refine split_gf rfl ?_ ?_ | refine split_b ?_ ?_ | refine split_gb rfl ?_ ?_) <;> intro _ <;> ((try simp only [go_sem, reduceIte, Nat.reduceEqDiff, Nat.reduceLT, Nat.reduceLeDiff, Nat.reduceAdd, reduceCtorEq, Int.reduceToNat, Int.reduceLE, Int.reduceLT, Int.reduceNeg, Int.reduceEq, Int.reduceNe, Nat.reduceBEq, Nat.reduceMul, Nat.reducePow, Int.cast_ofNat_Int, *]))) | ((first | (refine OpW_call rfl rfl call31 rfl ((m1 _).mono ?_)) | (refine OpW_call rfl rfl call24 rfl ((n1 _).mono ?_)) | (refine OpW_call rfl rfl call36 rfl ((haw _).mono ?_)) | fail) <;> (rintro p_ S_ ⟨rfl, rfl⟩; (try simp only [go_sem, reduceIte, Nat.reduceEqDiff, Nat.reduceLT, Nat.reduceLeDiff, Nat.reduceAdd, reduceCtorEq, Int.reduceToNat, Int.reduceLE, Int.reduceLT, Int.reduceNeg, Int.reduceEq, Int.reduceNe, Nat.reduceBEq, Nat.reduceMul, Nat.reducePow, Int.cast_ofNat_Int, *]))) | fail)
    all_goals exact Heap.le_refl _
  | true =>
    rw [c3] at n1
    cases c4 : rightW l with
    | false =>
      rw [c4] at r1
      (simp only [go_sem, reduceIte, Nat.reduceEqDiff, Nat.reduceLT, Nat.reduceLeDiff, Nat.reduceAdd, reduceCtorEq, Int.reduceToNat, Int.reduceLE, Int.reduceLT, Int.reduceNeg, Int.reduceEq, Int.reduceNe, Nat.reduceBEq, Nat.reduceMul, Nat.reducePow, Int.cast_ofNat_Int, *])
      (repeat' first | ((first | refine split_d ?_ ?_ | refine split_gt rfl ?_ ?_ | refine split_gf rfl ?_ ?_ | refine split_b ?_ ?_ | refine split_gb rfl ?_ ?_) <;> intro _ <;> ((try simp only [go_sem, reduceIte, Nat.reduceEqDiff, Nat.reduceLT, Nat.reduceLeDiff, Nat.reduceAdd, reduceCtorEq, Int.reduceToNat, Int.reduceLE, Int.reduceLT, Int.reduceNeg, Int.reduceEq, Int.reduceNe, Nat.reduceBEq, Nat.reduceMul, Nat.reducePow, Int.cast_ofNat_Int, *]))) | ((first | (refine OpW_call rfl rfl call31 rfl ((m1 _).mono ?_)) | (refine OpW_call rfl rfl call24 rfl ((n1 _).mono ?_)) | (refine OpW_call rfl rfl call35 rfl ((r1 _).mono ?_)) | (refine OpW_call rfl rfl call36 rfl ((haw _).mono ?_)) | fail) <;> (rintro p_ S_ ⟨rfl, rfl⟩; (try simp only [go_sem, reduceIte, Nat.reduceEqDiff, Nat.reduceLT, Nat.reduceLeDiff, Nat.reduceAdd, reduceCtorEq, Int.reduceToNat, Int.reduceLE, Int.reduceLT, Int.reduceNeg, Int.reduceEq, Int.reduceNe, Nat.reduceBEq, Nat.reduceMul, Nat.reducePow, Int.cast_ofNat_Int, *]))) | fail)
      all_goals exact Heap.le_refl _
    | true =>
      rw [c4] at r1
      obtain ⟨p, r, rfl, hp⟩ := right_cons c4
      have hbp := bulk_eq p
      have hll := bulks_len (p :: r)
      have hpos : 0 < (prows (p :: r)).length := by rw [prows_len]; simp
      have c3' := Keep.mk c3
      have hbl : bulks (p :: r) = p.bulk + bulks r := rfl
      clear c3 c4
      have ha1 : name.length + 1 ≤ 9223372036854775807 := by omega
      have o1 := litOne (name ++ [61])
      have hu := Try.underlying33
      have hu2 := Try.underlying41
      by_cases hk : p.k = 1
      · have ha2 : (name ++ [61]).length + p.text.length ≤ 9223372036854775807 := by simp only [bulks, List.length_append, List.length_cons, List.length_nil] at hb ⊢; omega
        obtain ⟨hpo, hpk⟩ := lit_bare hp hk
        have hpt := lit_text hp hk
        have o2 := litOne (name ++ [61] ++ p.text)
        have hasg := uqAssign_calls (.mk 1 (name ++ [61] ++ p.text) [] [] [] :: r) (by simp only [bulks, Pt.bulk, List.length_append, List.length_cons, List.length_nil] at hb ⊢; omega)
        have e1 : asgOf (.mk 1 (name ++ [61] ++ p.text) [] [] [] :: r) = some (name, .mk 1 p.text [] [] [] :: r) := by
          rw [asg_lit r c3'.of]
          unfold litP
          rw [if_neg hpt]; rfl
        rw [e1] at hasg
        simp only [asgV] at hasg
        have hs := same24_calls 1048576 (Nat.le_refl _) (.mk 1 p.text [] [] [] :: r) (p :: r) (by simp only [bulks, Pt.bulk, List.length_nil] at hb ⊢; omega)
        have e2 : sames (.mk 1 p.text [] [] [] :: r) (p :: r) = true := by
          simp only [sames, Pt.same, hk, hpo, hpk, decide_true, Bool.true_and, sames_refl]
        rw [e2] at hs
        have hwk := wkLit (name ++ [61] ++ p.text) r
        have hrl := bulks_len r
        have hln1 := Nat.le_refl r.length
        have htk : List.drop 1 (List.take (r.length + 1) (prows (p :: r))) = prows r := by
          have : (prows r).take r.length = prows r := by rw [← prows_len r]; exact List.take_length
          simp [prows, this]
        clear e1 e2 hpo hpk hpt hp
        (simp only [go_sem, reduceIte, Nat.reduceEqDiff, Nat.reduceLT, Nat.reduceLeDiff, Nat.reduceAdd, reduceCtorEq, Int.reduceToNat, Int.reduceLE, Int.reduceLT, Int.reduceNeg, Int.reduceEq, Int.reduceNe, Nat.reduceBEq, Nat.reduceMul, Nat.reducePow, Int.cast_ofNat_Int, *])
        (repeat' first | ((first | refine split_d ?_ ?_ | refine split_gt rfl ?_ ?_ | refine split_gf rfl ?_ ?_ | refine split_b ?_ ?_ | refine split_gb rfl ?_ ?_) <;> intro _ <;> ((try simp only [go_sem, reduceIte, Nat.reduceEqDiff, Nat.reduceLT, Nat.reduceLeDiff, Nat.reduceAdd, reduceCtorEq, Int.reduceToNat, Int.reduceLE, Int.reduceLT, Int.reduceNeg, Int.reduceEq, Int.reduceNe, Nat.reduceBEq, Nat.reduceMul, Nat.reducePow, Int.cast_ofNat_Int, *]))) | ((first | (refine OpW_call rfl rfl call31 rfl ((m1 _).mono ?_)) | (refine OpW_call rfl rfl call24 rfl ((n1 _).mono ?_)) | (refine OpW_call rfl rfl call35 rfl ((r1 _).mono ?_)) | fail) <;> (rintro p_ S_ ⟨rfl, rfl⟩; (try simp only [go_sem, reduceIte, Nat.reduceEqDiff, Nat.reduceLT, Nat.reduceLeDiff, Nat.reduceAdd, reduceCtorEq, Int.reduceToNat, Int.reduceLE, Int.reduceLT, Int.reduceNeg, Int.reduceEq, Int.reduceNe, Nat.reduceBEq, Nat.reduceMul, Nat.reducePow, Int.cast_ofNat_Int, *]))) | fail)
        refine OpW_of (OpA_buildSliceM (rows := [litRow (name ++ [61])]) rfl appParts ?_ (by simp) rfl rfl fun c hc => ?_)
        · simp only [go_sem, reduceIte, Nat.reduceEqDiff, Nat.reduceLT, Nat.reduceLeDiff, Nat.reduceAdd, reduceCtorEq, Int.reduceToNat, Int.reduceLE, Int.reduceLT, Int.reduceNeg, Int.reduceEq, Int.reduceNe, Nat.reduceBEq, Nat.reduceMul, Nat.reducePow, Int.cast_ofNat_Int, litRow, *]
        (simp only [go_sem, reduceIte, Nat.reduceEqDiff, Nat.reduceLT, Nat.reduceLeDiff, Nat.reduceAdd, reduceCtorEq, Int.reduceToNat, Int.reduceLE, Int.reduceLT, Int.reduceNeg, Int.reduceEq, Int.reduceNe, Nat.reduceBEq, Nat.reduceMul, Nat.reducePow, Int.cast_ofNat_Int, *])
        refine OpW_eff (Eff_appF (rows := prows (p :: r)) (olds := [litRow (name ++ [61])]) (ps := .vec c 1 1) rfl appParts rfl (oneRows _) rfl (Or.inr ⟨c, 1, 1, rfl, set_self, Nat.le_refl _, Nat.le_refl _⟩) (by simp only [List.length_cons, List.length_nil, prows_len, maxLen] at hll ⊢; omega) (by simp only [List.length_cons, List.length_nil, prows_len] at hll ⊢; omega)) rfl ?_
        rintro q_ S2 ⟨rfl, hS2⟩
        have hle : S_.le S2 := fun z x hz => hS2 z x (Heap.le_set hc z x hz) (fun e => by cases e; rw [hc] at hz; cases hz)
        clear hS2 hc m1 n1 r1 o1
        (simp only [go_sem, reduceIte, Nat.reduceEqDiff, Nat.reduceLT, Nat.reduceLeDiff, Nat.reduceAdd, reduceCtorEq, Int.reduceToNat, Int.reduceLE, Int.reduceLT, Int.reduceNeg, Int.reduceEq, Int.reduceNe, Nat.reduceBEq, Nat.reduceMul, Nat.reducePow, Int.cast_ofNat_Int, *])
        refine CodeW_any mixed [.pure, .pure, .pure, .pure, .pure, .pure, .pure, .pure, .pure, .eff, .pure, .pure, .pure, .eff] (by kernel_rfl) (by kernel_rfl) ⟨trivial, trivial, trivial, trivial, trivial, trivial, trivial, trivial, trivial, trivial, trivial, trivial, trivial, trivial, trivial⟩ ?_
        simp only [List.zip_cons_cons, List.zip_nil_right, List.zip_nil_left]
        (simp only [go_sem, reduceIte, Nat.reduceEqDiff, Nat.reduceLT, Nat.reduceLeDiff, Nat.reduceAdd, reduceCtorEq, Int.reduceToNat, Int.reduceLE, Int.reduceLT, Int.reduceNeg, Int.reduceEq, Int.reduceNe, Nat.reduceBEq, Nat.reduceMul, Nat.reducePow, Int.cast_ofNat_Int, *])
        refine RunL_eff (Eff_lit (k := 1) (rows := [litRow (name ++ [61] ++ p.text)]) rfl appParts ?_ (by simp) rfl) ?_ ?_
        · simp only [go_sem, reduceIte, Nat.reduceEqDiff, Nat.reduceLT, Nat.reduceLeDiff, Nat.reduceAdd, reduceCtorEq, Int.reduceToNat, Int.reduceLE, Int.reduceLT, Int.reduceNeg, Int.reduceEq, Int.reduceNe, Nat.reduceBEq, Nat.reduceMul, Nat.reducePow, Int.cast_ofNat_Int, litRow, *]
        · rintro ⟨B, hB⟩
          exact ⟨_, _, ⟨B, hB B (Nat.le_refl _), rfl, rfl⟩, Fin'.set ⟨B, hB⟩⟩
        rintro q_ S4 ⟨c, hc, rfl, rfl⟩
        (simp only [go_sem, reduceIte, Nat.reduceEqDiff, Nat.reduceLT, Nat.reduceLeDiff, Nat.reduceAdd, reduceCtorEq, Int.reduceToNat, Int.reduceLE, Int.reduceLT, Int.reduceNeg, Int.reduceEq, Int.reduceNe, Nat.reduceBEq, Nat.reduceMul, Nat.reducePow, Int.cast_ofNat_Int, *])
        refine RunL_eff (Eff_appF (rows := prows r) (olds := [litRow (name ++ [61] ++ p.text)]) (ps := .vec c 1 1) rfl appParts rfl (oneRows _) rfl (Or.inr ⟨c, 1, 1, rfl, set_self, Nat.le_refl _, Nat.le_refl _⟩) (by simp only [List.length_cons, List.length_nil, prows_len, maxLen] at hll ⊢; omega) (by simp only [List.length_cons, List.length_nil, prows_len] at hll ⊢; omega)) (fun h => ⟨_, _, ⟨rfl, fun c y hc _ => hc⟩, h⟩) ?_
        rintro q_ S5 ⟨rfl, hS5⟩
        have hle5 : S2.le S5 := fun z x hz => hS5 z x (Heap.le_set hc z x hz) (fun e => by cases e; rw [hc] at hz; cases hz)
        have hle := Heap.le_trans hle hle5
        clear hS5 hc hle5 o2
        simp only [List.cons_append, List.nil_append]
        (simp only [go_sem, reduceIte, Nat.reduceEqDiff, Nat.reduceLT, Nat.reduceLeDiff, Nat.reduceAdd, reduceCtorEq, Int.reduceToNat, Int.reduceLE, Int.reduceLT, Int.reduceNeg, Int.reduceEq, Int.reduceNe, Nat.reduceBEq, Nat.reduceMul, Nat.reducePow, Int.cast_ofNat_Int, *])
        refine OpW_callW rfl hwk call37 rfl ((hasg _).mono ?_)
        rintro p_ S3 ⟨rfl, rfl⟩
        (simp only [go_sem, reduceIte, Nat.reduceEqDiff, Nat.reduceLT, Nat.reduceLeDiff, Nat.reduceAdd, reduceCtorEq, Int.reduceToNat, Int.reduceLE, Int.reduceLT, Int.reduceNeg, Int.reduceEq, Int.reduceNe, Nat.reduceBEq, Nat.reduceMul, Nat.reducePow, Int.cast_ofNat_Int, *])
        refine OpW_of (OpA_alloc rfl zeroCells33 (okDst_spec rfl) fun d hd => ?_)
        (simp only [go_sem, reduceIte, Nat.reduceEqDiff, Nat.reduceLT, Nat.reduceLeDiff, Nat.reduceAdd, reduceCtorEq, Int.reduceToNat, Int.reduceLE, Int.reduceLT, Int.reduceNeg, Int.reduceEq, Int.reduceNe, Nat.reduceBEq, Nat.reduceMul, Nat.reducePow, Int.cast_ofNat_Int, *])
        refine OpW_put rfl rfl set_self rfl rfl size33 (Nat.le_of_ble_eq_true rfl) rfl ?_
        rw [Heap.set_set]
        simp only [splice, List.take_zero, List.nil_append, List.length_cons, List.length_nil, Nat.reduceAdd, List.drop_succ_cons, List.drop_nil, List.append_nil, List.drop_zero]
        generalize hG : Heap.set S3 d _ = G at *
        have g1 : G d = some (.cells [.slice 5 (prows (.mk 1 p.text [] [] [] :: r))] 33) := by rw [← hG]; exact set_self
        have hleG : S_.le G := by rw [← hG]; exact Heap.le_own hle (le_none hle hd)
        clear hG hd hle hasg hwk
        (simp only [go_sem, reduceIte, Nat.reduceEqDiff, Nat.reduceLT, Nat.reduceLeDiff, Nat.reduceAdd, reduceCtorEq, Int.reduceToNat, Int.reduceLE, Int.reduceLT, Int.reduceNeg, Int.reduceEq, Int.reduceNe, Nat.reduceBEq, Nat.reduceMul, Nat.reducePow, Int.cast_ofNat_Int, *])
        (repeat' first | ((first | refine split_d ?_ ?_ | refine split_gt rfl ?_ ?_ | refine split_gf rfl ?_ ?_ | refine split_b ?_ ?_ | refine split_gb rfl ?_ ?_) <;> intro _ <;> ((try simp only [go_sem, reduceIte, Nat.reduceEqDiff, Nat.reduceLT, Nat.reduceLeDiff, Nat.reduceAdd, reduceCtorEq, Int.reduceToNat, Int.reduceLE, Int.reduceLT, Int.reduceNeg, Int.reduceEq, Int.reduceNe, Nat.reduceBEq, Nat.reduceMul, Nat.reducePow, Int.cast_ofNat_Int, *]))) | ((first | (refine OpW_call rfl rfl call38 rfl ((hs _).mono ?_)) | (refine OpW_call rfl rfl call36 rfl ((haw _).mono ?_)) | fail) <;> (rintro p_ S_ ⟨rfl, rfl⟩; (try simp only [go_sem, reduceIte, Nat.reduceEqDiff, Nat.reduceLT, Nat.reduceLeDiff, Nat.reduceAdd, reduceCtorEq, Int.reduceToNat, Int.reduceLE, Int.reduceLT, Int.reduceNeg, Int.reduceEq, Int.reduceNe, Nat.reduceBEq, Nat.reduceMul, Nat.reducePow, Int.cast_ofNat_Int, *]))) | fail)
      · have hasg := uqAssign_calls (.mk 1 (name ++ [61]) [] [] [] :: p :: r) (by simp only [bulks, Pt.bulk, List.length_append, List.length_cons, List.length_nil] at hb ⊢; omega)
        have e1 : asgOf (.mk 1 (name ++ [61]) [] [] [] :: p :: r) = some (name, p :: r) := by
          have := asg_lit (t := []) (p :: r) c3'.of
          rw [List.append_nil] at this
          rw [this]; rfl
        rw [e1] at hasg
        simp only [asgV] at hasg
        have hs := same24_calls 1048576 (Nat.le_refl _) (p :: r) (p :: r) (by omega)
        rw [sames_refl] at hs
        have hwk := wkLit (name ++ [61]) (p :: r)
        clear e1
        (simp only [go_sem, reduceIte, Nat.reduceEqDiff, Nat.reduceLT, Nat.reduceLeDiff, Nat.reduceAdd, reduceCtorEq, Int.reduceToNat, Int.reduceLE, Int.reduceLT, Int.reduceNeg, Int.reduceEq, Int.reduceNe, Nat.reduceBEq, Nat.reduceMul, Nat.reducePow, Int.cast_ofNat_Int, *])
        (repeat' first | ((first | refine split_d ?_ ?_ | refine split_gt rfl ?_ ?_ | refine split_gf rfl ?_ ?_ | refine split_b ?_ ?_ | refine split_gb rfl ?_ ?_) <;> intro _ <;> ((try simp only [go_sem, reduceIte, Nat.reduceEqDiff, Nat.reduceLT, Nat.reduceLeDiff, Nat.reduceAdd, reduceCtorEq, Int.reduceToNat, Int.reduceLE, Int.reduceLT, Int.reduceNeg, Int.reduceEq, Int.reduceNe, Nat.reduceBEq, Nat.reduceMul, Nat.reducePow, Int.cast_ofNat_Int, *]))) | ((first | (refine OpW_call rfl rfl call31 rfl ((m1 _).mono ?_)) | (refine OpW_call rfl rfl call24 rfl ((n1 _).mono ?_)) | (refine OpW_call rfl rfl call35 rfl ((r1 _).mono ?_)) | fail) <;> (rintro p_ S_ ⟨rfl, rfl⟩; (try simp only [go_sem, reduceIte, Nat.reduceEqDiff, Nat.reduceLT, Nat.reduceLeDiff, Nat.reduceAdd, reduceCtorEq, Int.reduceToNat, Int.reduceLE, Int.reduceLT, Int.reduceNeg, Int.reduceEq, Int.reduceNe, Nat.reduceBEq, Nat.reduceMul, Nat.reducePow, Int.cast_ofNat_Int, *]))) | fail)
        refine OpW_of (OpA_buildSliceM (rows := [litRow (name ++ [61])]) rfl appParts ?_ (by simp) rfl rfl fun c hc => ?_)
        · simp only [go_sem, reduceIte, Nat.reduceEqDiff, Nat.reduceLT, Nat.reduceLeDiff, Nat.reduceAdd, reduceCtorEq, Int.reduceToNat, Int.reduceLE, Int.reduceLT, Int.reduceNeg, Int.reduceEq, Int.reduceNe, Nat.reduceBEq, Nat.reduceMul, Nat.reducePow, Int.cast_ofNat_Int, litRow, *]
        (simp only [go_sem, reduceIte, Nat.reduceEqDiff, Nat.reduceLT, Nat.reduceLeDiff, Nat.reduceAdd, reduceCtorEq, Int.reduceToNat, Int.reduceLE, Int.reduceLT, Int.reduceNeg, Int.reduceEq, Int.reduceNe, Nat.reduceBEq, Nat.reduceMul, Nat.reducePow, Int.cast_ofNat_Int, *])
        refine OpW_eff (Eff_appF (rows := prows (p :: r)) (olds := [litRow (name ++ [61])]) (ps := .vec c 1 1) rfl appParts rfl (oneRows _) rfl (Or.inr ⟨c, 1, 1, rfl, set_self, Nat.le_refl _, Nat.le_refl _⟩) (by simp only [List.length_cons, List.length_nil, prows_len, maxLen] at hll ⊢; omega) (by simp only [List.length_cons, List.length_nil, prows_len] at hll ⊢; omega)) rfl ?_
        rintro q_ S2 ⟨rfl, hS2⟩
        have hle : S_.le S2 := fun z x hz => hS2 z x (Heap.le_set hc z x hz) (fun e => by cases e; rw [hc] at hz; cases hz)
        clear hS2 hc m1 n1 r1 o1
        simp only [List.cons_append, List.nil_append]
        (simp only [go_sem, reduceIte, Nat.reduceEqDiff, Nat.reduceLT, Nat.reduceLeDiff, Nat.reduceAdd, reduceCtorEq, Int.reduceToNat, Int.reduceLE, Int.reduceLT, Int.reduceNeg, Int.reduceEq, Int.reduceNe, Nat.reduceBEq, Nat.reduceMul, Nat.reducePow, Int.cast_ofNat_Int, *])
        refine OpW_callW rfl hwk call37 rfl ((hasg _).mono ?_)
        rintro p_ S3 ⟨rfl, rfl⟩
        (simp only [go_sem, reduceIte, Nat.reduceEqDiff, Nat.reduceLT, Nat.reduceLeDiff, Nat.reduceAdd, reduceCtorEq, Int.reduceToNat, Int.reduceLE, Int.reduceLT, Int.reduceNeg, Int.reduceEq, Int.reduceNe, Nat.reduceBEq, Nat.reduceMul, Nat.reducePow, Int.cast_ofNat_Int, *])
        refine OpW_of (OpA_alloc rfl zeroCells33 (okDst_spec rfl) fun d hd => ?_)
        (simp only [go_sem, reduceIte, Nat.reduceEqDiff, Nat.reduceLT, Nat.reduceLeDiff, Nat.reduceAdd, reduceCtorEq, Int.reduceToNat, Int.reduceLE, Int.reduceLT, Int.reduceNeg, Int.reduceEq, Int.reduceNe, Nat.reduceBEq, Nat.reduceMul, Nat.reducePow, Int.cast_ofNat_Int, *])
        refine OpW_put rfl rfl set_self rfl rfl size33 (Nat.le_of_ble_eq_true rfl) rfl ?_
        rw [Heap.set_set]
        simp only [splice, List.take_zero, List.nil_append, List.length_cons, List.length_nil, Nat.reduceAdd, List.drop_succ_cons, List.drop_nil, List.append_nil, List.drop_zero]
        generalize hG : Heap.set S3 d _ = G at *
        have g1 : G d = some (.cells [.slice 5 (prows (p :: r))] 33) := by rw [← hG]; exact set_self
        have hleG : S_.le G := by rw [← hG]; exact Heap.le_own hle (le_none hle hd)
        clear hG hd hle hasg hwk
        (simp only [go_sem, reduceIte, Nat.reduceEqDiff, Nat.reduceLT, Nat.reduceLeDiff, Nat.reduceAdd, reduceCtorEq, Int.reduceToNat, Int.reduceLE, Int.reduceLT, Int.reduceNeg, Int.reduceEq, Int.reduceNe, Nat.reduceBEq, Nat.reduceMul, Nat.reducePow, Int.cast_ofNat_Int, *])
        (repeat' first | ((first | refine split_d ?_ ?_ | refine split_gt rfl ?_ ?_ | refine split_gf rfl ?_ ?_ | refine split_b ?_ ?_ | refine split_gb rfl ?_ ?_) <;> intro _ <;> ((try simp only [go_sem, reduceIte, Nat.reduceEqDiff, Nat.reduceLT, Nat.reduceLeDiff, Nat.reduceAdd, reduceCtorEq, Int.reduceToNat, Int.reduceLE, Int.reduceLT, Int.reduceNeg, Int.reduceEq, Int.reduceNe, Nat.reduceBEq, Nat.reduceMul, Nat.reducePow, Int.cast_ofNat_Int, *]))) | ((first | (refine OpW_call rfl rfl call38 rfl ((hs _).mono ?_)) | (refine OpW_call rfl rfl call36 rfl ((haw _).mono ?_)) | fail) <;> (rintro p_ S_ ⟨rfl, rfl⟩; (try simp only [go_sem, reduceIte, Nat.reduceEqDiff, Nat.reduceLT, Nat.reduceLeDiff, Nat.reduceAdd, reduceCtorEq, Int.reduceToNat, Int.reduceLE, Int.reduceLT, Int.reduceNeg, Int.reduceEq, Int.reduceNe, Nat.reduceBEq, Nat.reduceMul, Nat.reducePow, Int.cast_ofNat_Int, *]))) | fail)
end Go.Proofs.Ytcbonfgkfiapaaa.Pv
