/- What the law of package part on two words computes. -/
import Derived.Test.YtcbonfgkfiapaaaPtLaw
import Derived.Test.YtcbonfgkfiapaaaAnyOrd
set_option linter.unusedVariables false
set_option linter.unusedSimpArgs false
set_option maxRecDepth 100000
set_option maxHeartbeats 40000000
namespace Go.Proofs.Ytcbonfgkfiapaaa.Pv
open Go Go.RowKit

theorem allP_app (pl : Int) : ∀ (a : List Pt) (prev : Option Pt) (b : List Pt), allP pl prev (a ++ b) = (allP pl prev a && allP pl (if a = [] then prev else a.getLast?) b)
  | [], prev, b => by simp [allP]
  | p :: a, prev, b => by
    simp only [List.cons_append, allP, allP_app pl a (some p) b]
    have h : (if a = [] then some p else a.getLast?) = (if p :: a = [] then prev else (p :: a).getLast?) := by
      cases a with
      | nil => rfl
      | cons q a => simp [List.getLast?_cons_cons]
    rw [h]
    simp only [Bool.and_assoc]
/-- Two right words together are one, if the last part of the one and the first of the other may meet. -/
theorem right_app {a b : List Pt} {x y : Pt} (ha : rightW a = true) (hb : rightW b = true) (hx : a.getLast? = some x) (hy : b[0]? = some y) : rightW (a ++ b) = meetOk (some x) y := by
  cases a with
  | nil => cases hx
  | cons p a =>
    cases b with
    | nil => cases hy
    | cons q b =>
      simp at hy
      subst hy
      have h1 : rightW (p :: a) = (allP 0 none (p :: a) && (decide (¬ p.k = 1) || decide (¬ p.text.head? = some 35))) := rfl
      have h2 : rightW (q :: b) = (allP 0 none (q :: b) && (decide (¬ q.k = 1) || decide (¬ q.text.head? = some 35))) := rfl
      have h3 : rightW (p :: a ++ q :: b) = (allP 0 none (p :: a ++ q :: b) && (decide (¬ p.k = 1) || decide (¬ p.text.head? = some 35))) := rfl
      rw [h1, Bool.and_eq_true] at ha
      rw [h2, Bool.and_eq_true] at hb
      rw [h3, allP_app, ha.1, ha.2]
      rw [if_neg (by simp), hx]
      have hq := hb.1
      simp only [allP, Bool.and_eq_true] at hq ⊢
      simp [hq.1, hq.2.2]
theorem deeps_app (a b : List Pt) : deeps (a ++ b) = max (deeps a) (deeps b) := by
  induction a with
  | nil => simp [deeps]
  | cons p a ih => simp only [List.cons_append, deeps, ih]; omega
theorem last_lit {a : List Pt} {x : Pt} (ha : rightW a = true) (hx : a.getLast? = some x) (hk : x.k = 1) : ∃ c, x.text[x.text.length - 1]? = some c ∧ x.text.getLast? = some c ∧ x.text ≠ [] := by
  have h1 : ∀ (l : List Pt) (prev : Option Pt), allP 0 prev l = true → ∀ x ∈ l, oneP 0 x = true := by
    intro l
    induction l with
    | nil => intro prev h x hx; cases hx
    | cons p l ih =>
      intro prev h x hx
      simp only [allP, Bool.and_eq_true] at h
      rcases List.mem_cons.1 hx with rfl | hx
      · exact h.1
      · exact ih _ h.2.2 x hx
  have ha' : allP 0 none a = true := by
    cases a with
    | nil => cases hx
    | cons p a => simp only [rightW, Bool.and_eq_true] at ha; exact ha.1
  have h2 := lit_text (h1 a none ha' x (List.mem_of_getLast? hx)) hk
  have h3 := List.length_pos_iff.2 h2
  refine ⟨x.text[x.text.length - 1], List.getElem?_eq_getElem (by omega), ?_, h2⟩
  rw [List.getLast?_eq_getElem?]
  exact List.getElem?_eq_getElem (by omega)
theorem isOne_rows (l : List Pt) : ∀ r ∈ prows l, ∀ c ∈ r, c.isOne = true := by
  intro r hr c hc
  rw [prows_map, List.mem_map] at hr
  obtain ⟨p, _, rfl⟩ := hr
  rw [row_eq] at hc
  simp only [List.mem_cons, List.not_mem_nil, or_false] at hc
  rcases hc with rfl | rfl | rfl | rfl | rfl <;> rfl

theorem partJoins_calls (a b : List Pt) (hb : bulks a + bulks b ≤ 1048576) (S : Heap) : CallsQ Try.prog 13 [.agg [.slice 5 (prows a)], .agg [.slice 5 (prows b)]] S (.bool true) := by
  have m1 := much_calls 1048576 (Nat.le_refl _) a (by omega)
  have m2 := much_calls 1048576 (Nat.le_refl _) b (by omega)
  have r1 := right24_calls a (by omega)
  have r2 := right24_calls b (by omega)
  generalize muchGo a.length a = M1 at *
  generalize muchGo b.length b = M2 at *
  refine CallsQ_less ?_
  refine CallsA_W (fun _ => false) Try.func13 rfl (Nat.le_of_ble_eq_true rfl) ?_
  simp only [Try.f13]
  by_cases h1 : (200 : Int) < (M1 : Int)
  · (simp only [go_sem, reduceIte, Nat.reduceEqDiff, Nat.reduceLT, Nat.reduceLeDiff, Nat.reduceAdd, reduceCtorEq, Int.reduceToNat, Int.reduceLE, Int.reduceLT, Int.reduceNeg, Int.reduceEq, Int.reduceNe, Nat.reduceBEq, Nat.reduceMul, Nat.reducePow, Int.cast_ofNat_Int, *])
    (repeat' first | ((first | refine split_d ?_ ?_ | refine split_gt rfl ?_ ?_ | refine split_gf rfl ?_ ?_ | refine split_b ?_ ?_ | refine split_gb rfl ?_ ?_) <;> intro _ <;> ((try simp only [go_sem, reduceIte, Nat.reduceEqDiff, Nat.reduceLT, Nat.reduceLeDiff, Nat.reduceAdd, reduceCtorEq, Int.reduceToNat, Int.reduceLE, Int.reduceLT, Int.reduceNeg, Int.reduceEq, Int.reduceNe, Nat.reduceBEq, Nat.reduceMul, Nat.reducePow, Int.cast_ofNat_Int, *]))) | ((first | (refine OpW_call rfl rfl call31 rfl ((m1 _).mono ?_)) | (refine OpW_call rfl rfl call60 rfl ((awake24_calls _).mono ?_))) <;> (rintro p_ S_ ⟨rfl, rfl⟩; (try simp only [go_sem, reduceIte, Nat.reduceEqDiff, Nat.reduceLT, Nat.reduceLeDiff, Nat.reduceAdd, reduceCtorEq, Int.reduceToNat, Int.reduceLE, Int.reduceLT, Int.reduceNeg, Int.reduceEq, Int.reduceNe, Nat.reduceBEq, Nat.reduceMul, Nat.reducePow, Int.cast_ofNat_Int, *]))))
    all_goals exact Heap.le_refl _
  by_cases h2 : (200 : Int) < (M2 : Int)
  · (simp only [go_sem, reduceIte, Nat.reduceEqDiff, Nat.reduceLT, Nat.reduceLeDiff, Nat.reduceAdd, reduceCtorEq, Int.reduceToNat, Int.reduceLE, Int.reduceLT, Int.reduceNeg, Int.reduceEq, Int.reduceNe, Nat.reduceBEq, Nat.reduceMul, Nat.reducePow, Int.cast_ofNat_Int, *])
    (repeat' first | ((first | refine split_d ?_ ?_ | refine split_gt rfl ?_ ?_ | refine split_gf rfl ?_ ?_ | refine split_b ?_ ?_ | refine split_gb rfl ?_ ?_) <;> intro _ <;> ((try simp only [go_sem, reduceIte, Nat.reduceEqDiff, Nat.reduceLT, Nat.reduceLeDiff, Nat.reduceAdd, reduceCtorEq, Int.reduceToNat, Int.reduceLE, Int.reduceLT, Int.reduceNeg, Int.reduceEq, Int.reduceNe, Nat.reduceBEq, Nat.reduceMul, Nat.reducePow, Int.cast_ofNat_Int, *]))) | ((first | (refine OpW_call rfl rfl call31 rfl ((m1 _).mono ?_)) | (refine OpW_call rfl rfl call31 rfl ((m2 _).mono ?_)) | (refine OpW_call rfl rfl call60 rfl ((awake24_calls _).mono ?_))) <;> (rintro p_ S_ ⟨rfl, rfl⟩; (try simp only [go_sem, reduceIte, Nat.reduceEqDiff, Nat.reduceLT, Nat.reduceLeDiff, Nat.reduceAdd, reduceCtorEq, Int.reduceToNat, Int.reduceLE, Int.reduceLT, Int.reduceNeg, Int.reduceEq, Int.reduceNe, Nat.reduceBEq, Nat.reduceMul, Nat.reducePow, Int.cast_ofNat_Int, *]))))
    all_goals exact Heap.le_refl _
  generalize hA : rightW a = A at *
  cases A with
  | false =>
    (simp only [go_sem, reduceIte, Nat.reduceEqDiff, Nat.reduceLT, Nat.reduceLeDiff, Nat.reduceAdd, reduceCtorEq, Int.reduceToNat, Int.reduceLE, Int.reduceLT, Int.reduceNeg, Int.reduceEq, Int.reduceNe, Nat.reduceBEq, Nat.reduceMul, Nat.reducePow, Int.cast_ofNat_Int, *])
    (repeat' first | ((first | refine split_d ?_ ?_ | refine split_gt rfl ?_ ?_ | refine split_gf rfl ?_ ?_ | refine split_b ?_ ?_ | refine split_gb rfl ?_ ?_) <;> intro _ <;> ((try simp only [go_sem, reduceIte, Nat.reduceEqDiff, Nat.reduceLT, Nat.reduceLeDiff, Nat.reduceAdd, reduceCtorEq, Int.reduceToNat, Int.reduceLE, Int.reduceLT, Int.reduceNeg, Int.reduceEq, Int.reduceNe, Nat.reduceBEq, Nat.reduceMul, Nat.reducePow, Int.cast_ofNat_Int, *]))) | ((first | (refine OpW_call rfl rfl call31 rfl ((m1 _).mono ?_)) | (refine OpW_call rfl rfl call31 rfl ((m2 _).mono ?_)) | (refine OpW_call rfl rfl call35 rfl ((r1 _).mono ?_)) | (refine OpW_call rfl rfl call60 rfl ((awake24_calls _).mono ?_))) <;> (rintro p_ S_ ⟨rfl, rfl⟩; (try simp only [go_sem, reduceIte, Nat.reduceEqDiff, Nat.reduceLT, Nat.reduceLeDiff, Nat.reduceAdd, reduceCtorEq, Int.reduceToNat, Int.reduceLE, Int.reduceLT, Int.reduceNeg, Int.reduceEq, Int.reduceNe, Nat.reduceBEq, Nat.reduceMul, Nat.reducePow, Int.cast_ofNat_Int, *]))))
    all_goals exact Heap.le_refl _
  | true =>
    generalize hB : rightW b = B at *
    cases B with
    | false =>
      (simp only [go_sem, reduceIte, Nat.reduceEqDiff, Nat.reduceLT, Nat.reduceLeDiff, Nat.reduceAdd, reduceCtorEq, Int.reduceToNat, Int.reduceLE, Int.reduceLT, Int.reduceNeg, Int.reduceEq, Int.reduceNe, Nat.reduceBEq, Nat.reduceMul, Nat.reducePow, Int.cast_ofNat_Int, *])
      (repeat' first | ((first | refine split_d ?_ ?_ | refine split_gt rfl ?_ ?_ | refine split_gf rfl ?_ ?_ | refine split_b ?_ ?_ | refine split_gb rfl ?_ ?_) <;> intro _ <;> ((try simp only [go_sem, reduceIte, Nat.reduceEqDiff, Nat.reduceLT, Nat.reduceLeDiff, Nat.reduceAdd, reduceCtorEq, Int.reduceToNat, Int.reduceLE, Int.reduceLT, Int.reduceNeg, Int.reduceEq, Int.reduceNe, Nat.reduceBEq, Nat.reduceMul, Nat.reducePow, Int.cast_ofNat_Int, *]))) | ((first | (refine OpW_call rfl rfl call31 rfl ((m1 _).mono ?_)) | (refine OpW_call rfl rfl call31 rfl ((m2 _).mono ?_)) | (refine OpW_call rfl rfl call35 rfl ((r1 _).mono ?_)) | (refine OpW_call rfl rfl call35 rfl ((r2 _).mono ?_)) | (refine OpW_call rfl rfl call60 rfl ((awake24_calls _).mono ?_))) <;> (rintro p_ S_ ⟨rfl, rfl⟩; (try simp only [go_sem, reduceIte, Nat.reduceEqDiff, Nat.reduceLT, Nat.reduceLeDiff, Nat.reduceAdd, reduceCtorEq, Int.reduceToNat, Int.reduceLE, Int.reduceLT, Int.reduceNeg, Int.reduceEq, Int.reduceNe, Nat.reduceBEq, Nat.reduceMul, Nat.reducePow, Int.cast_ofNat_Int, *]))))
      all_goals exact Heap.le_refl _
    | true =>
      obtain ⟨x, hx⟩ : ∃ x, a.getLast? = some x := by
        cases a with
        | nil => cases hA
        | cons p a => exact ⟨_, List.getLast?_eq_some_getLast (by simp)⟩
      obtain ⟨y, hy⟩ : ∃ y, b[0]? = some y := by
        cases b with
        | nil => cases hB
        | cons q b => exact ⟨q, rfl⟩
      have hxl : a[a.length - 1]? = some x := by rw [← List.getLast?_eq_getElem?]; exact hx
      have hal : 0 < a.length := by
        cases a with
        | nil => cases hx
        | cons p a => simp
      have e1 := right_app hA hB hx hy
      have e2 := counts_app a b
      have e3 := deeps_app a b
      have hll := last_lit hA hx
      have hbl : bulks (a ++ b) ≤ 1048576 := by rw [bulks_app]; exact hb
      have q1 := right_pt_calls (a ++ b) hbl
      have q2 := count_calls (a ++ b) hbl
      have q3 := count_calls a (by omega)
      have q4 := count_calls b (by omega)
      have q5 := deep_calls 1048576 (Nat.le_refl _) (a ++ b) hbl
      have q6 := deep_calls 1048576 (Nat.le_refl _) a (by omega)
      have q7 := deep_calls 1048576 (Nat.le_refl _) b (by omega)
      have hca := counts_bulk a
      have hcb := counts_bulk b
      have w1 := add64 (counts a) (counts b) (by omega)
      rw [e1] at q1
      rw [e2] at q2
      rw [e3] at q5
      have hlen := bulks_len a
      have hlen2 := bulks_len b
      have hw : IntKind.i64.wrap ((a.length : Int) - 1) = ((a.length - 1 : Nat) : Int) := by rw [wrap_in (by omega)]; omega
      have hmx : (if (deeps a : Int) < (deeps b : Int) then (deeps b : Int) else (deeps a : Int)) = ((max (deeps a) (deeps b) : Nat) : Int) := by split <;> omega
      have hone1 := isOne_rows a
      have hone2 := isOne_rows b
      have hu := Try.underlying33
      clear e1 e2 e3
      (simp only [go_sem, reduceIte, Nat.reduceEqDiff, Nat.reduceLT, Nat.reduceLeDiff, Nat.reduceAdd, reduceCtorEq, Int.reduceToNat, Int.reduceLE, Int.reduceLT, Int.reduceNeg, Int.reduceEq, Int.reduceNe, Nat.reduceBEq, Nat.reduceMul, Nat.reducePow, Int.cast_ofNat_Int, *])
      (repeat' first | ((first | refine split_d ?_ ?_ | refine split_gt rfl ?_ ?_ | refine split_gf rfl ?_ ?_ | refine split_b ?_ ?_ | refine split_gb rfl ?_ ?_) <;> intro _ <;> ((try simp only [go_sem, reduceIte, Nat.reduceEqDiff, Nat.reduceLT, Nat.reduceLeDiff, Nat.reduceAdd, reduceCtorEq, Int.reduceToNat, Int.reduceLE, Int.reduceLT, Int.reduceNeg, Int.reduceEq, Int.reduceNe, Nat.reduceBEq, Nat.reduceMul, Nat.reducePow, Int.cast_ofNat_Int, *]))) | ((first | (refine OpW_call rfl rfl call31 rfl ((m1 _).mono ?_)) | (refine OpW_call rfl rfl call31 rfl ((m2 _).mono ?_)) | (refine OpW_call rfl rfl call35 rfl ((r1 _).mono ?_)) | (refine OpW_call rfl rfl call35 rfl ((r2 _).mono ?_))) <;> (rintro p_ S_ ⟨rfl, rfl⟩; (try simp only [go_sem, reduceIte, Nat.reduceEqDiff, Nat.reduceLT, Nat.reduceLeDiff, Nat.reduceAdd, reduceCtorEq, Int.reduceToNat, Int.reduceLE, Int.reduceLT, Int.reduceNeg, Int.reduceEq, Int.reduceNe, Nat.reduceBEq, Nat.reduceMul, Nat.reducePow, Int.cast_ofNat_Int, *]))))
      refine CodeW_any mixed [.pure, .pure, .pure, .app 31 5 88 41 (.tmp 30) (.tmp 32), .pure, .pure, .app 31 5 88 41 (.tmp 33) (.tmp 35), .pure, .alloc 33 [.sl0]] (by kernel_rfl) (by kernel_rfl) ⟨trivial, trivial, trivial, ⟨rfl, appParts⟩, trivial, trivial, ⟨rfl, appParts⟩, trivial, ⟨rfl, zeroCells33⟩, trivial⟩ ?_
      simp only [List.zip_cons_cons, List.zip_nil_right, List.zip_nil_left]
      (simp only [go_sem, reduceIte, Nat.reduceEqDiff, Nat.reduceLT, Nat.reduceLeDiff, Nat.reduceAdd, reduceCtorEq, Int.reduceToNat, Int.reduceLE, Int.reduceLT, Int.reduceNeg, Int.reduceEq, Int.reduceNe, Nat.reduceBEq, Nat.reduceMul, Nat.reducePow, Int.cast_ofNat_Int, *])
      refine RunL_app (rows := prows a) (olds := []) (ps := .sl0) rfl hone1 rfl (Or.inl ⟨rfl, rfl⟩) (by simp only [List.length_nil, prows_len, maxLen]; omega) (by simp only [List.length_nil, prows_len]; omega) ?_
      rintro p1 S1 k1
      obtain ⟨j1, j2⟩ := k1.le (Heap.le_refl _) (fun b h => by cases h)
      have k1' := Keep.mk k1
      clear k1
      (simp only [go_sem, reduceIte, Nat.reduceEqDiff, Nat.reduceLT, Nat.reduceLeDiff, Nat.reduceAdd, reduceCtorEq, Int.reduceToNat, Int.reduceLE, Int.reduceLT, Int.reduceNeg, Int.reduceEq, Int.reduceNe, Nat.reduceBEq, Nat.reduceMul, Nat.reducePow, Int.cast_ofNat_Int, *])
      refine RunL_app (rows := prows b) (olds := [] ++ prows a) (ps := p1) rfl hone2 rfl k1'.of.grows (by simp only [List.nil_append, prows_len, maxLen]; omega) (by simp only [List.nil_append, prows_len]; omega) ?_
      rintro p2 S2 k2
      obtain ⟨j3, j4⟩ := k2.le j1 j2
      have g2 := k2.grows
      have o2 := (grows_one g2).1
      unfold cellsOf at o2
      rw [List.nil_append, ← prows_app] at g2
      clear k1' k2 j1 j2
      have g2' := Keep.mk g2
      clear g2
      (simp only [go_sem, reduceIte, Nat.reduceEqDiff, Nat.reduceLT, Nat.reduceLeDiff, Nat.reduceAdd, reduceCtorEq, Int.reduceToNat, Int.reduceLE, Int.reduceLT, Int.reduceNeg, Int.reduceEq, Int.reduceNe, Nat.reduceBEq, Nat.reduceMul, Nat.reducePow, Int.cast_ofNat_Int, *])
      refine RunL_alloc fun c hc => ?_
      (simp only [go_sem, reduceIte, Nat.reduceEqDiff, Nat.reduceLT, Nat.reduceLeDiff, Nat.reduceAdd, reduceCtorEq, Int.reduceToNat, Int.reduceLE, Int.reduceLT, Int.reduceNeg, Int.reduceEq, Int.reduceNe, Nat.reduceBEq, Nat.reduceMul, Nat.reducePow, Int.cast_ofNat_Int, *])
      refine OpW_putF (b := c) (p0 := .sl0) (p := p2) (rows := prows (a ++ b)) rfl rfl set_self rfl size33 rfl (g2'.of.le (Heap.le_set hc)) (grows_own_ne g2'.of hc) ?_
      rw [Heap.set_set]
      generalize hF : frz (S2.set c (.cells [p2] 33)) c p2 (.slice 5 (prows (a ++ b))) 33 = F
      have hFc : F c = some (.cells [.slice 5 (prows (a ++ b))] 33) := by rw [← hF]; exact frz_at
      have hFle : Keep (S_.le F) := by
        constructor
        rw [← hF]
        exact frz_le (Heap.le_trans j3 (Heap.le_set hc)) (le_none j3 hc) j4
      clear hF g2' j3 j4 hc o2
      (simp only [go_sem, reduceIte, Nat.reduceEqDiff, Nat.reduceLT, Nat.reduceLeDiff, Nat.reduceAdd, reduceCtorEq, Int.reduceToNat, Int.reduceLE, Int.reduceLT, Int.reduceNeg, Int.reduceEq, Int.reduceNe, Nat.reduceBEq, Nat.reduceMul, Nat.reducePow, Int.cast_ofNat_Int, *])
      refine CodeW_any mixed [.pure, .pure, .pure, .pure, .pure, .pure, .pure, .pure, .pure, .pure, .pure, .pure, .alloc 41 [.int .i64 0, .str [], .str [], .sl0, .sl0], .alloc 41 [.int .i64 0, .str [], .str [], .sl0, .sl0], .put 41 (.tmp 6) (.tmp 45)] (by kernel_rfl) (by kernel_rfl) ⟨trivial, trivial, trivial, trivial, trivial, trivial, trivial, trivial, trivial, trivial, trivial, trivial, ⟨rfl, zeroCells41⟩, ⟨rfl, zeroCells41⟩, rfl, trivial⟩ ?_
      simp only [List.zip_cons_cons, List.zip_nil_right, List.zip_nil_left]
      (simp only [go_sem, reduceIte, Nat.reduceEqDiff, Nat.reduceLT, Nat.reduceLeDiff, Nat.reduceAdd, reduceCtorEq, Int.reduceToNat, Int.reduceLE, Int.reduceLT, Int.reduceNeg, Int.reduceEq, Int.reduceNe, Nat.reduceBEq, Nat.reduceMul, Nat.reducePow, Int.cast_ofNat_Int, *])
      refine RunL_alloc fun c1 hc1 => ?_
      (simp only [go_sem, reduceIte, Nat.reduceEqDiff, Nat.reduceLT, Nat.reduceLeDiff, Nat.reduceAdd, reduceCtorEq, Int.reduceToNat, Int.reduceLE, Int.reduceLT, Int.reduceNeg, Int.reduceEq, Int.reduceNe, Nat.reduceBEq, Nat.reduceMul, Nat.reducePow, Int.cast_ofNat_Int, *])
      refine RunL_alloc fun c2 hc2 => ?_
      have n12 : c1 ≠ c2 := fun e => by subst e; rw [set_self] at hc2; cases hc2
      have hc2' : F c2 = none := by rwa [set_ne (Ne.symm n12)] at hc2
      have n1 : c ≠ c1 := fun e => by subst e; rw [hFc] at hc1; cases hc1
      have n2 : c ≠ c2 := fun e => by subst e; rw [hFc] at hc2'; cases hc2'
      (simp only [go_sem, reduceIte, Nat.reduceEqDiff, Nat.reduceLT, Nat.reduceLeDiff, Nat.reduceAdd, reduceCtorEq, Int.reduceToNat, Int.reduceLE, Int.reduceLT, Int.reduceNeg, Int.reduceEq, Int.reduceNe, Nat.reduceBEq, Nat.reduceMul, Nat.reducePow, Int.cast_ofNat_Int, *])
      refine RunL_put (es := [.int .i64 x.k, .str x.text, .str x.op, .slice 5 (prows x.kids), .slice 10 x.cmds]) rfl (by rw [set_ne n12]; exact set_self) rfl rfl size41 (Nat.le_of_ble_eq_true rfl) ?_
      (simp only [go_sem, reduceIte, Nat.reduceEqDiff, Nat.reduceLT, Nat.reduceLeDiff, Nat.reduceAdd, reduceCtorEq, Int.reduceToNat, Int.reduceLE, Int.reduceLT, Int.reduceNeg, Int.reduceEq, Int.reduceNe, Nat.reduceBEq, Nat.reduceMul, Nat.reducePow, Int.cast_ofNat_Int, *])
      refine OpW_put (es := [.int .i64 y.k, .str y.text, .str y.op, .slice 5 (prows y.kids), .slice 10 y.cmds]) rfl rfl (by rw [set_ne (Ne.symm n12)]; exact set_self) rfl rfl size41 (Nat.le_of_ble_eq_true rfl) rfl ?_
      simp only [splice, List.take_zero, List.nil_append, List.length_cons, List.length_nil, Nat.reduceAdd, List.drop_succ_cons, List.drop_zero, List.append_nil]
      generalize hG : Heap.set _ c2 (.cells [.int .i64 y.k, .str y.text, .str y.op, .slice 5 (prows y.kids), .slice 10 y.cmds] 41) = G
      have hGc : G c = some (.cells [.slice 5 (prows (a ++ b))] 33) := by rw [← hG, set_ne n2, set_ne n1, set_ne n2, set_ne n1]; exact hFc
      have hG1 : G c1 = some (.cells [.int .i64 x.k, .str x.text, .str x.op, .slice 5 (prows x.kids), .slice 10 x.cmds] 41) := by rw [← hG, set_ne n12]; exact set_self
      have hG2 : G c2 = some (.cells [.int .i64 y.k, .str y.text, .str y.op, .slice 5 (prows y.kids), .slice 10 y.cmds] 41) := by rw [← hG]; exact set_self
      have hGle : Keep (S_.le G) := by
        constructor
        rw [← hG]
        exact Heap.le_own (Heap.le_own (Heap.le_own (Heap.le_own hFle.of (le_none hFle.of hc1)) (le_none hFle.of hc2')) (le_none hFle.of hc1)) (le_none hFle.of hc2')
      clear hG hFle hFc hc1 hc2 hc2' n1 n2 n12 hone1 hone2 m1 m2 r1 r2
      generalize hQ : meetOk (some x) y = Q at *
      have haw := awake24_calls
      by_cases k1 : x.k = 1
      · obtain ⟨ch, t1, t2, t3⟩ := hll k1
        have e36 : ((ch.toNat : Int) = 36) ↔ ch = 36 := u8_eq (d := 36)
        have hw3 : IntKind.i64.wrap ((x.text.length : Int) - 1) = ((x.text.length - 1 : Nat) : Int) := by
          have h0 := List.length_pos_iff.2 t3
          have h1 := bulks_get hxl
          have h2 := bulk_eq x
          rw [wrap_in (by omega)]; omega
        have hQ' : Keep (Q = if y.k = 1 then false else if (ch.toNat : Int) = 36 ∧ (y.k = 5 ∨ y.k = 6 ∨ y.k = 7) then false else true) := by
          constructor
          rw [← hQ]
          unfold meetOk
          simp only [k1, t2, e36, Option.some.injEq, not_true_eq_false, if_false]
        clear hQ e36 t2 t3 hll
        by_cases y1 : y.k = 1
        · rw [if_pos y1] at hQ'
          obtain rfl := hQ'.of
          (simp only [go_sem, reduceIte, Nat.reduceEqDiff, Nat.reduceLT, Nat.reduceLeDiff, Nat.reduceAdd, reduceCtorEq, Int.reduceToNat, Int.reduceLE, Int.reduceLT, Int.reduceNeg, Int.reduceEq, Int.reduceNe, Nat.reduceBEq, Nat.reduceMul, Nat.reducePow, Int.cast_ofNat_Int, *])
          refine CodeW_quiet mixed 28 (by kernel_rfl) ?_
          (simp only [go_sem, reduceIte, Nat.reduceEqDiff, Nat.reduceLT, Nat.reduceLeDiff, Nat.reduceAdd, reduceCtorEq, Int.reduceToNat, Int.reduceLE, Int.reduceLT, Int.reduceNeg, Int.reduceEq, Int.reduceNe, Nat.reduceBEq, Nat.reduceMul, Nat.reducePow, Int.cast_ofNat_Int, *])
          refine QCW_call rfl rfl call63 (q1 _) ?_
          (simp only [go_sem, reduceIte, Nat.reduceEqDiff, Nat.reduceLT, Nat.reduceLeDiff, Nat.reduceAdd, reduceCtorEq, Int.reduceToNat, Int.reduceLE, Int.reduceLT, Int.reduceNeg, Int.reduceEq, Int.reduceNe, Nat.reduceBEq, Nat.reduceMul, Nat.reducePow, Int.cast_ofNat_Int, *])
          refine QCW_call rfl rfl call64 (q2 _) ?_
          (simp only [go_sem, reduceIte, Nat.reduceEqDiff, Nat.reduceLT, Nat.reduceLeDiff, Nat.reduceAdd, reduceCtorEq, Int.reduceToNat, Int.reduceLE, Int.reduceLT, Int.reduceNeg, Int.reduceEq, Int.reduceNe, Nat.reduceBEq, Nat.reduceMul, Nat.reducePow, Int.cast_ofNat_Int, *])
          refine QCW_call rfl rfl call64 (q3 _) ?_
          (simp only [go_sem, reduceIte, Nat.reduceEqDiff, Nat.reduceLT, Nat.reduceLeDiff, Nat.reduceAdd, reduceCtorEq, Int.reduceToNat, Int.reduceLE, Int.reduceLT, Int.reduceNeg, Int.reduceEq, Int.reduceNe, Nat.reduceBEq, Nat.reduceMul, Nat.reducePow, Int.cast_ofNat_Int, *])
          refine QCW_call rfl rfl call64 (q4 _) ?_
          (simp only [go_sem, reduceIte, Nat.reduceEqDiff, Nat.reduceLT, Nat.reduceLeDiff, Nat.reduceAdd, reduceCtorEq, Int.reduceToNat, Int.reduceLE, Int.reduceLT, Int.reduceNeg, Int.reduceEq, Int.reduceNe, Nat.reduceBEq, Nat.reduceMul, Nat.reducePow, Int.cast_ofNat_Int, *])
          refine QCW_call rfl rfl call66 (q5 _) ?_
          (simp only [go_sem, reduceIte, Nat.reduceEqDiff, Nat.reduceLT, Nat.reduceLeDiff, Nat.reduceAdd, reduceCtorEq, Int.reduceToNat, Int.reduceLE, Int.reduceLT, Int.reduceNeg, Int.reduceEq, Int.reduceNe, Nat.reduceBEq, Nat.reduceMul, Nat.reducePow, Int.cast_ofNat_Int, *])
          refine QCW_call rfl rfl call66 (q6 _) ?_
          (simp only [go_sem, reduceIte, Nat.reduceEqDiff, Nat.reduceLT, Nat.reduceLeDiff, Nat.reduceAdd, reduceCtorEq, Int.reduceToNat, Int.reduceLE, Int.reduceLT, Int.reduceNeg, Int.reduceEq, Int.reduceNe, Nat.reduceBEq, Nat.reduceMul, Nat.reducePow, Int.cast_ofNat_Int, *])
          refine QCW_call rfl rfl call66 (q7 _) ?_
          (simp only [go_sem, reduceIte, Nat.reduceEqDiff, Nat.reduceLT, Nat.reduceLeDiff, Nat.reduceAdd, reduceCtorEq, Int.reduceToNat, Int.reduceLE, Int.reduceLT, Int.reduceNeg, Int.reduceEq, Int.reduceNe, Nat.reduceBEq, Nat.reduceMul, Nat.reducePow, Int.cast_ofNat_Int, *])
          refine QCW_call rfl rfl call60 (haw _) ?_
          (simp only [go_sem, reduceIte, Nat.reduceEqDiff, Nat.reduceLT, Nat.reduceLeDiff, Nat.reduceAdd, reduceCtorEq, Int.reduceToNat, Int.reduceLE, Int.reduceLT, Int.reduceNeg, Int.reduceEq, Int.reduceNe, Nat.reduceBEq, Nat.reduceMul, Nat.reducePow, Int.cast_ofNat_Int, *])
          exact hGle.of
        rw [if_neg y1] at hQ'
        by_cases c36 : (ch.toNat : Int) = 36
        · by_cases y5 : y.k = 5
          · obtain rfl : Q = false := by rw [hQ'.of, if_pos ⟨c36, Or.inl y5⟩]
            (simp only [go_sem, reduceIte, Nat.reduceEqDiff, Nat.reduceLT, Nat.reduceLeDiff, Nat.reduceAdd, reduceCtorEq, Int.reduceToNat, Int.reduceLE, Int.reduceLT, Int.reduceNeg, Int.reduceEq, Int.reduceNe, Nat.reduceBEq, Nat.reduceMul, Nat.reducePow, Int.cast_ofNat_Int, *])
            refine CodeW_quiet mixed 28 (by kernel_rfl) ?_
            (simp only [go_sem, reduceIte, Nat.reduceEqDiff, Nat.reduceLT, Nat.reduceLeDiff, Nat.reduceAdd, reduceCtorEq, Int.reduceToNat, Int.reduceLE, Int.reduceLT, Int.reduceNeg, Int.reduceEq, Int.reduceNe, Nat.reduceBEq, Nat.reduceMul, Nat.reducePow, Int.cast_ofNat_Int, *])
            refine QCW_call rfl rfl call63 (q1 _) ?_
            (simp only [go_sem, reduceIte, Nat.reduceEqDiff, Nat.reduceLT, Nat.reduceLeDiff, Nat.reduceAdd, reduceCtorEq, Int.reduceToNat, Int.reduceLE, Int.reduceLT, Int.reduceNeg, Int.reduceEq, Int.reduceNe, Nat.reduceBEq, Nat.reduceMul, Nat.reducePow, Int.cast_ofNat_Int, *])
            refine QCW_call rfl rfl call64 (q2 _) ?_
            (simp only [go_sem, reduceIte, Nat.reduceEqDiff, Nat.reduceLT, Nat.reduceLeDiff, Nat.reduceAdd, reduceCtorEq, Int.reduceToNat, Int.reduceLE, Int.reduceLT, Int.reduceNeg, Int.reduceEq, Int.reduceNe, Nat.reduceBEq, Nat.reduceMul, Nat.reducePow, Int.cast_ofNat_Int, *])
            refine QCW_call rfl rfl call64 (q3 _) ?_
            (simp only [go_sem, reduceIte, Nat.reduceEqDiff, Nat.reduceLT, Nat.reduceLeDiff, Nat.reduceAdd, reduceCtorEq, Int.reduceToNat, Int.reduceLE, Int.reduceLT, Int.reduceNeg, Int.reduceEq, Int.reduceNe, Nat.reduceBEq, Nat.reduceMul, Nat.reducePow, Int.cast_ofNat_Int, *])
            refine QCW_call rfl rfl call64 (q4 _) ?_
            (simp only [go_sem, reduceIte, Nat.reduceEqDiff, Nat.reduceLT, Nat.reduceLeDiff, Nat.reduceAdd, reduceCtorEq, Int.reduceToNat, Int.reduceLE, Int.reduceLT, Int.reduceNeg, Int.reduceEq, Int.reduceNe, Nat.reduceBEq, Nat.reduceMul, Nat.reducePow, Int.cast_ofNat_Int, *])
            refine QCW_call rfl rfl call66 (q5 _) ?_
            (simp only [go_sem, reduceIte, Nat.reduceEqDiff, Nat.reduceLT, Nat.reduceLeDiff, Nat.reduceAdd, reduceCtorEq, Int.reduceToNat, Int.reduceLE, Int.reduceLT, Int.reduceNeg, Int.reduceEq, Int.reduceNe, Nat.reduceBEq, Nat.reduceMul, Nat.reducePow, Int.cast_ofNat_Int, *])
            refine QCW_call rfl rfl call66 (q6 _) ?_
            (simp only [go_sem, reduceIte, Nat.reduceEqDiff, Nat.reduceLT, Nat.reduceLeDiff, Nat.reduceAdd, reduceCtorEq, Int.reduceToNat, Int.reduceLE, Int.reduceLT, Int.reduceNeg, Int.reduceEq, Int.reduceNe, Nat.reduceBEq, Nat.reduceMul, Nat.reducePow, Int.cast_ofNat_Int, *])
            refine QCW_call rfl rfl call66 (q7 _) ?_
            (simp only [go_sem, reduceIte, Nat.reduceEqDiff, Nat.reduceLT, Nat.reduceLeDiff, Nat.reduceAdd, reduceCtorEq, Int.reduceToNat, Int.reduceLE, Int.reduceLT, Int.reduceNeg, Int.reduceEq, Int.reduceNe, Nat.reduceBEq, Nat.reduceMul, Nat.reducePow, Int.cast_ofNat_Int, *])
            refine QCW_call rfl rfl call60 (haw _) ?_
            (simp only [go_sem, reduceIte, Nat.reduceEqDiff, Nat.reduceLT, Nat.reduceLeDiff, Nat.reduceAdd, reduceCtorEq, Int.reduceToNat, Int.reduceLE, Int.reduceLT, Int.reduceNeg, Int.reduceEq, Int.reduceNe, Nat.reduceBEq, Nat.reduceMul, Nat.reducePow, Int.cast_ofNat_Int, *])
            exact hGle.of
          by_cases y6 : y.k = 6
          · obtain rfl : Q = false := by rw [hQ'.of, if_pos ⟨c36, Or.inr (Or.inl y6)⟩]
            (simp only [go_sem, reduceIte, Nat.reduceEqDiff, Nat.reduceLT, Nat.reduceLeDiff, Nat.reduceAdd, reduceCtorEq, Int.reduceToNat, Int.reduceLE, Int.reduceLT, Int.reduceNeg, Int.reduceEq, Int.reduceNe, Nat.reduceBEq, Nat.reduceMul, Nat.reducePow, Int.cast_ofNat_Int, *])
            refine CodeW_quiet mixed 28 (by kernel_rfl) ?_
            (simp only [go_sem, reduceIte, Nat.reduceEqDiff, Nat.reduceLT, Nat.reduceLeDiff, Nat.reduceAdd, reduceCtorEq, Int.reduceToNat, Int.reduceLE, Int.reduceLT, Int.reduceNeg, Int.reduceEq, Int.reduceNe, Nat.reduceBEq, Nat.reduceMul, Nat.reducePow, Int.cast_ofNat_Int, *])
            refine QCW_call rfl rfl call63 (q1 _) ?_
            (simp only [go_sem, reduceIte, Nat.reduceEqDiff, Nat.reduceLT, Nat.reduceLeDiff, Nat.reduceAdd, reduceCtorEq, Int.reduceToNat, Int.reduceLE, Int.reduceLT, Int.reduceNeg, Int.reduceEq, Int.reduceNe, Nat.reduceBEq, Nat.reduceMul, Nat.reducePow, Int.cast_ofNat_Int, *])
            refine QCW_call rfl rfl call64 (q2 _) ?_
            (simp only [go_sem, reduceIte, Nat.reduceEqDiff, Nat.reduceLT, Nat.reduceLeDiff, Nat.reduceAdd, reduceCtorEq, Int.reduceToNat, Int.reduceLE, Int.reduceLT, Int.reduceNeg, Int.reduceEq, Int.reduceNe, Nat.reduceBEq, Nat.reduceMul, Nat.reducePow, Int.cast_ofNat_Int, *])
            refine QCW_call rfl rfl call64 (q3 _) ?_
            (simp only [go_sem, reduceIte, Nat.reduceEqDiff, Nat.reduceLT, Nat.reduceLeDiff, Nat.reduceAdd, reduceCtorEq, Int.reduceToNat, Int.reduceLE, Int.reduceLT, Int.reduceNeg, Int.reduceEq, Int.reduceNe, Nat.reduceBEq, Nat.reduceMul, Nat.reducePow, Int.cast_ofNat_Int, *])
            refine QCW_call rfl rfl call64 (q4 _) ?_
            (simp only [go_sem, reduceIte, Nat.reduceEqDiff, Nat.reduceLT, Nat.reduceLeDiff, Nat.reduceAdd, reduceCtorEq, Int.reduceToNat, Int.reduceLE, Int.reduceLT, Int.reduceNeg, Int.reduceEq, Int.reduceNe, Nat.reduceBEq, Nat.reduceMul, Nat.reducePow, Int.cast_ofNat_Int, *])
            refine QCW_call rfl rfl call66 (q5 _) ?_
            (simp only [go_sem, reduceIte, Nat.reduceEqDiff, Nat.reduceLT, Nat.reduceLeDiff, Nat.reduceAdd, reduceCtorEq, Int.reduceToNat, Int.reduceLE, Int.reduceLT, Int.reduceNeg, Int.reduceEq, Int.reduceNe, Nat.reduceBEq, Nat.reduceMul, Nat.reducePow, Int.cast_ofNat_Int, *])
            refine QCW_call rfl rfl call66 (q6 _) ?_
            (simp only [go_sem, reduceIte, Nat.reduceEqDiff, Nat.reduceLT, Nat.reduceLeDiff, Nat.reduceAdd, reduceCtorEq, Int.reduceToNat, Int.reduceLE, Int.reduceLT, Int.reduceNeg, Int.reduceEq, Int.reduceNe, Nat.reduceBEq, Nat.reduceMul, Nat.reducePow, Int.cast_ofNat_Int, *])
            refine QCW_call rfl rfl call66 (q7 _) ?_
            (simp only [go_sem, reduceIte, Nat.reduceEqDiff, Nat.reduceLT, Nat.reduceLeDiff, Nat.reduceAdd, reduceCtorEq, Int.reduceToNat, Int.reduceLE, Int.reduceLT, Int.reduceNeg, Int.reduceEq, Int.reduceNe, Nat.reduceBEq, Nat.reduceMul, Nat.reducePow, Int.cast_ofNat_Int, *])
            refine QCW_call rfl rfl call60 (haw _) ?_
            (simp only [go_sem, reduceIte, Nat.reduceEqDiff, Nat.reduceLT, Nat.reduceLeDiff, Nat.reduceAdd, reduceCtorEq, Int.reduceToNat, Int.reduceLE, Int.reduceLT, Int.reduceNeg, Int.reduceEq, Int.reduceNe, Nat.reduceBEq, Nat.reduceMul, Nat.reducePow, Int.cast_ofNat_Int, *])
            exact hGle.of
          by_cases y7 : y.k = 7
          · obtain rfl : Q = false := by rw [hQ'.of, if_pos ⟨c36, Or.inr (Or.inr y7)⟩]
            (simp only [go_sem, reduceIte, Nat.reduceEqDiff, Nat.reduceLT, Nat.reduceLeDiff, Nat.reduceAdd, reduceCtorEq, Int.reduceToNat, Int.reduceLE, Int.reduceLT, Int.reduceNeg, Int.reduceEq, Int.reduceNe, Nat.reduceBEq, Nat.reduceMul, Nat.reducePow, Int.cast_ofNat_Int, *])
            refine CodeW_quiet mixed 28 (by kernel_rfl) ?_
            (simp only [go_sem, reduceIte, Nat.reduceEqDiff, Nat.reduceLT, Nat.reduceLeDiff, Nat.reduceAdd, reduceCtorEq, Int.reduceToNat, Int.reduceLE, Int.reduceLT, Int.reduceNeg, Int.reduceEq, Int.reduceNe, Nat.reduceBEq, Nat.reduceMul, Nat.reducePow, Int.cast_ofNat_Int, *])
            refine QCW_call rfl rfl call63 (q1 _) ?_
            (simp only [go_sem, reduceIte, Nat.reduceEqDiff, Nat.reduceLT, Nat.reduceLeDiff, Nat.reduceAdd, reduceCtorEq, Int.reduceToNat, Int.reduceLE, Int.reduceLT, Int.reduceNeg, Int.reduceEq, Int.reduceNe, Nat.reduceBEq, Nat.reduceMul, Nat.reducePow, Int.cast_ofNat_Int, *])
            refine QCW_call rfl rfl call64 (q2 _) ?_
            (simp only [go_sem, reduceIte, Nat.reduceEqDiff, Nat.reduceLT, Nat.reduceLeDiff, Nat.reduceAdd, reduceCtorEq, Int.reduceToNat, Int.reduceLE, Int.reduceLT, Int.reduceNeg, Int.reduceEq, Int.reduceNe, Nat.reduceBEq, Nat.reduceMul, Nat.reducePow, Int.cast_ofNat_Int, *])
            refine QCW_call rfl rfl call64 (q3 _) ?_
            (simp only [go_sem, reduceIte, Nat.reduceEqDiff, Nat.reduceLT, Nat.reduceLeDiff, Nat.reduceAdd, reduceCtorEq, Int.reduceToNat, Int.reduceLE, Int.reduceLT, Int.reduceNeg, Int.reduceEq, Int.reduceNe, Nat.reduceBEq, Nat.reduceMul, Nat.reducePow, Int.cast_ofNat_Int, *])
            refine QCW_call rfl rfl call64 (q4 _) ?_
            (simp only [go_sem, reduceIte, Nat.reduceEqDiff, Nat.reduceLT, Nat.reduceLeDiff, Nat.reduceAdd, reduceCtorEq, Int.reduceToNat, Int.reduceLE, Int.reduceLT, Int.reduceNeg, Int.reduceEq, Int.reduceNe, Nat.reduceBEq, Nat.reduceMul, Nat.reducePow, Int.cast_ofNat_Int, *])
            refine QCW_call rfl rfl call66 (q5 _) ?_
            (simp only [go_sem, reduceIte, Nat.reduceEqDiff, Nat.reduceLT, Nat.reduceLeDiff, Nat.reduceAdd, reduceCtorEq, Int.reduceToNat, Int.reduceLE, Int.reduceLT, Int.reduceNeg, Int.reduceEq, Int.reduceNe, Nat.reduceBEq, Nat.reduceMul, Nat.reducePow, Int.cast_ofNat_Int, *])
            refine QCW_call rfl rfl call66 (q6 _) ?_
            (simp only [go_sem, reduceIte, Nat.reduceEqDiff, Nat.reduceLT, Nat.reduceLeDiff, Nat.reduceAdd, reduceCtorEq, Int.reduceToNat, Int.reduceLE, Int.reduceLT, Int.reduceNeg, Int.reduceEq, Int.reduceNe, Nat.reduceBEq, Nat.reduceMul, Nat.reducePow, Int.cast_ofNat_Int, *])
            refine QCW_call rfl rfl call66 (q7 _) ?_
            (simp only [go_sem, reduceIte, Nat.reduceEqDiff, Nat.reduceLT, Nat.reduceLeDiff, Nat.reduceAdd, reduceCtorEq, Int.reduceToNat, Int.reduceLE, Int.reduceLT, Int.reduceNeg, Int.reduceEq, Int.reduceNe, Nat.reduceBEq, Nat.reduceMul, Nat.reducePow, Int.cast_ofNat_Int, *])
            refine QCW_call rfl rfl call60 (haw _) ?_
            (simp only [go_sem, reduceIte, Nat.reduceEqDiff, Nat.reduceLT, Nat.reduceLeDiff, Nat.reduceAdd, reduceCtorEq, Int.reduceToNat, Int.reduceLE, Int.reduceLT, Int.reduceNeg, Int.reduceEq, Int.reduceNe, Nat.reduceBEq, Nat.reduceMul, Nat.reducePow, Int.cast_ofNat_Int, *])
            exact hGle.of
          obtain rfl : Q = true := by rw [hQ'.of, if_neg (fun h => by rcases h.2 with h | h | h <;> contradiction)]
          (simp only [go_sem, reduceIte, Nat.reduceEqDiff, Nat.reduceLT, Nat.reduceLeDiff, Nat.reduceAdd, reduceCtorEq, Int.reduceToNat, Int.reduceLE, Int.reduceLT, Int.reduceNeg, Int.reduceEq, Int.reduceNe, Nat.reduceBEq, Nat.reduceMul, Nat.reducePow, Int.cast_ofNat_Int, *])
          refine CodeW_quiet mixed 28 (by kernel_rfl) ?_
          (simp only [go_sem, reduceIte, Nat.reduceEqDiff, Nat.reduceLT, Nat.reduceLeDiff, Nat.reduceAdd, reduceCtorEq, Int.reduceToNat, Int.reduceLE, Int.reduceLT, Int.reduceNeg, Int.reduceEq, Int.reduceNe, Nat.reduceBEq, Nat.reduceMul, Nat.reducePow, Int.cast_ofNat_Int, *])
          refine QCW_call rfl rfl call63 (q1 _) ?_
          (simp only [go_sem, reduceIte, Nat.reduceEqDiff, Nat.reduceLT, Nat.reduceLeDiff, Nat.reduceAdd, reduceCtorEq, Int.reduceToNat, Int.reduceLE, Int.reduceLT, Int.reduceNeg, Int.reduceEq, Int.reduceNe, Nat.reduceBEq, Nat.reduceMul, Nat.reducePow, Int.cast_ofNat_Int, *])
          refine QCW_call rfl rfl call64 (q2 _) ?_
          (simp only [go_sem, reduceIte, Nat.reduceEqDiff, Nat.reduceLT, Nat.reduceLeDiff, Nat.reduceAdd, reduceCtorEq, Int.reduceToNat, Int.reduceLE, Int.reduceLT, Int.reduceNeg, Int.reduceEq, Int.reduceNe, Nat.reduceBEq, Nat.reduceMul, Nat.reducePow, Int.cast_ofNat_Int, *])
          refine QCW_call rfl rfl call64 (q3 _) ?_
          (simp only [go_sem, reduceIte, Nat.reduceEqDiff, Nat.reduceLT, Nat.reduceLeDiff, Nat.reduceAdd, reduceCtorEq, Int.reduceToNat, Int.reduceLE, Int.reduceLT, Int.reduceNeg, Int.reduceEq, Int.reduceNe, Nat.reduceBEq, Nat.reduceMul, Nat.reducePow, Int.cast_ofNat_Int, *])
          refine QCW_call rfl rfl call64 (q4 _) ?_
          (simp only [go_sem, reduceIte, Nat.reduceEqDiff, Nat.reduceLT, Nat.reduceLeDiff, Nat.reduceAdd, reduceCtorEq, Int.reduceToNat, Int.reduceLE, Int.reduceLT, Int.reduceNeg, Int.reduceEq, Int.reduceNe, Nat.reduceBEq, Nat.reduceMul, Nat.reducePow, Int.cast_ofNat_Int, *])
          refine QCW_call rfl rfl call66 (q5 _) ?_
          (simp only [go_sem, reduceIte, Nat.reduceEqDiff, Nat.reduceLT, Nat.reduceLeDiff, Nat.reduceAdd, reduceCtorEq, Int.reduceToNat, Int.reduceLE, Int.reduceLT, Int.reduceNeg, Int.reduceEq, Int.reduceNe, Nat.reduceBEq, Nat.reduceMul, Nat.reducePow, Int.cast_ofNat_Int, *])
          refine QCW_call rfl rfl call66 (q6 _) ?_
          (simp only [go_sem, reduceIte, Nat.reduceEqDiff, Nat.reduceLT, Nat.reduceLeDiff, Nat.reduceAdd, reduceCtorEq, Int.reduceToNat, Int.reduceLE, Int.reduceLT, Int.reduceNeg, Int.reduceEq, Int.reduceNe, Nat.reduceBEq, Nat.reduceMul, Nat.reducePow, Int.cast_ofNat_Int, *])
          refine QCW_call rfl rfl call66 (q7 _) ?_
          (simp only [go_sem, reduceIte, Nat.reduceEqDiff, Nat.reduceLT, Nat.reduceLeDiff, Nat.reduceAdd, reduceCtorEq, Int.reduceToNat, Int.reduceLE, Int.reduceLT, Int.reduceNeg, Int.reduceEq, Int.reduceNe, Nat.reduceBEq, Nat.reduceMul, Nat.reducePow, Int.cast_ofNat_Int, *])
          refine QCW_call rfl rfl call60 (haw _) ?_
          (simp only [go_sem, reduceIte, Nat.reduceEqDiff, Nat.reduceLT, Nat.reduceLeDiff, Nat.reduceAdd, reduceCtorEq, Int.reduceToNat, Int.reduceLE, Int.reduceLT, Int.reduceNeg, Int.reduceEq, Int.reduceNe, Nat.reduceBEq, Nat.reduceMul, Nat.reducePow, Int.cast_ofNat_Int, *])
          exact hGle.of
        obtain rfl : Q = true := by rw [hQ'.of, if_neg (fun h => c36 h.1)]
        (simp only [go_sem, reduceIte, Nat.reduceEqDiff, Nat.reduceLT, Nat.reduceLeDiff, Nat.reduceAdd, reduceCtorEq, Int.reduceToNat, Int.reduceLE, Int.reduceLT, Int.reduceNeg, Int.reduceEq, Int.reduceNe, Nat.reduceBEq, Nat.reduceMul, Nat.reducePow, Int.cast_ofNat_Int, *])
        refine CodeW_quiet mixed 28 (by kernel_rfl) ?_
        (simp only [go_sem, reduceIte, Nat.reduceEqDiff, Nat.reduceLT, Nat.reduceLeDiff, Nat.reduceAdd, reduceCtorEq, Int.reduceToNat, Int.reduceLE, Int.reduceLT, Int.reduceNeg, Int.reduceEq, Int.reduceNe, Nat.reduceBEq, Nat.reduceMul, Nat.reducePow, Int.cast_ofNat_Int, *])
        refine QCW_call rfl rfl call63 (q1 _) ?_
        (simp only [go_sem, reduceIte, Nat.reduceEqDiff, Nat.reduceLT, Nat.reduceLeDiff, Nat.reduceAdd, reduceCtorEq, Int.reduceToNat, Int.reduceLE, Int.reduceLT, Int.reduceNeg, Int.reduceEq, Int.reduceNe, Nat.reduceBEq, Nat.reduceMul, Nat.reducePow, Int.cast_ofNat_Int, *])
        refine QCW_call rfl rfl call64 (q2 _) ?_
        (simp only [go_sem, reduceIte, Nat.reduceEqDiff, Nat.reduceLT, Nat.reduceLeDiff, Nat.reduceAdd, reduceCtorEq, Int.reduceToNat, Int.reduceLE, Int.reduceLT, Int.reduceNeg, Int.reduceEq, Int.reduceNe, Nat.reduceBEq, Nat.reduceMul, Nat.reducePow, Int.cast_ofNat_Int, *])
        refine QCW_call rfl rfl call64 (q3 _) ?_
        (simp only [go_sem, reduceIte, Nat.reduceEqDiff, Nat.reduceLT, Nat.reduceLeDiff, Nat.reduceAdd, reduceCtorEq, Int.reduceToNat, Int.reduceLE, Int.reduceLT, Int.reduceNeg, Int.reduceEq, Int.reduceNe, Nat.reduceBEq, Nat.reduceMul, Nat.reducePow, Int.cast_ofNat_Int, *])
        refine QCW_call rfl rfl call64 (q4 _) ?_
        (simp only [go_sem, reduceIte, Nat.reduceEqDiff, Nat.reduceLT, Nat.reduceLeDiff, Nat.reduceAdd, reduceCtorEq, Int.reduceToNat, Int.reduceLE, Int.reduceLT, Int.reduceNeg, Int.reduceEq, Int.reduceNe, Nat.reduceBEq, Nat.reduceMul, Nat.reducePow, Int.cast_ofNat_Int, *])
        refine QCW_call rfl rfl call66 (q5 _) ?_
        (simp only [go_sem, reduceIte, Nat.reduceEqDiff, Nat.reduceLT, Nat.reduceLeDiff, Nat.reduceAdd, reduceCtorEq, Int.reduceToNat, Int.reduceLE, Int.reduceLT, Int.reduceNeg, Int.reduceEq, Int.reduceNe, Nat.reduceBEq, Nat.reduceMul, Nat.reducePow, Int.cast_ofNat_Int, *])
        refine QCW_call rfl rfl call66 (q6 _) ?_
        (simp only [go_sem, reduceIte, Nat.reduceEqDiff, Nat.reduceLT, Nat.reduceLeDiff, Nat.reduceAdd, reduceCtorEq, Int.reduceToNat, Int.reduceLE, Int.reduceLT, Int.reduceNeg, Int.reduceEq, Int.reduceNe, Nat.reduceBEq, Nat.reduceMul, Nat.reducePow, Int.cast_ofNat_Int, *])
        refine QCW_call rfl rfl call66 (q7 _) ?_
        (simp only [go_sem, reduceIte, Nat.reduceEqDiff, Nat.reduceLT, Nat.reduceLeDiff, Nat.reduceAdd, reduceCtorEq, Int.reduceToNat, Int.reduceLE, Int.reduceLT, Int.reduceNeg, Int.reduceEq, Int.reduceNe, Nat.reduceBEq, Nat.reduceMul, Nat.reducePow, Int.cast_ofNat_Int, *])
        refine QCW_call rfl rfl call60 (haw _) ?_
        (simp only [go_sem, reduceIte, Nat.reduceEqDiff, Nat.reduceLT, Nat.reduceLeDiff, Nat.reduceAdd, reduceCtorEq, Int.reduceToNat, Int.reduceLE, Int.reduceLT, Int.reduceNeg, Int.reduceEq, Int.reduceNe, Nat.reduceBEq, Nat.reduceMul, Nat.reducePow, Int.cast_ofNat_Int, *])
        exact hGle.of
      · have hQ' : Q = true := by rw [← hQ]; unfold meetOk; simp [k1]
        subst hQ'
        clear hQ hll
        (simp only [go_sem, reduceIte, Nat.reduceEqDiff, Nat.reduceLT, Nat.reduceLeDiff, Nat.reduceAdd, reduceCtorEq, Int.reduceToNat, Int.reduceLE, Int.reduceLT, Int.reduceNeg, Int.reduceEq, Int.reduceNe, Nat.reduceBEq, Nat.reduceMul, Nat.reducePow, Int.cast_ofNat_Int, *])
        refine CodeW_quiet mixed 28 (by kernel_rfl) ?_
        (simp only [go_sem, reduceIte, Nat.reduceEqDiff, Nat.reduceLT, Nat.reduceLeDiff, Nat.reduceAdd, reduceCtorEq, Int.reduceToNat, Int.reduceLE, Int.reduceLT, Int.reduceNeg, Int.reduceEq, Int.reduceNe, Nat.reduceBEq, Nat.reduceMul, Nat.reducePow, Int.cast_ofNat_Int, *])
        refine QCW_call rfl rfl call63 (q1 _) ?_
        (simp only [go_sem, reduceIte, Nat.reduceEqDiff, Nat.reduceLT, Nat.reduceLeDiff, Nat.reduceAdd, reduceCtorEq, Int.reduceToNat, Int.reduceLE, Int.reduceLT, Int.reduceNeg, Int.reduceEq, Int.reduceNe, Nat.reduceBEq, Nat.reduceMul, Nat.reducePow, Int.cast_ofNat_Int, *])
        refine QCW_call rfl rfl call64 (q2 _) ?_
        (simp only [go_sem, reduceIte, Nat.reduceEqDiff, Nat.reduceLT, Nat.reduceLeDiff, Nat.reduceAdd, reduceCtorEq, Int.reduceToNat, Int.reduceLE, Int.reduceLT, Int.reduceNeg, Int.reduceEq, Int.reduceNe, Nat.reduceBEq, Nat.reduceMul, Nat.reducePow, Int.cast_ofNat_Int, *])
        refine QCW_call rfl rfl call64 (q3 _) ?_
        (simp only [go_sem, reduceIte, Nat.reduceEqDiff, Nat.reduceLT, Nat.reduceLeDiff, Nat.reduceAdd, reduceCtorEq, Int.reduceToNat, Int.reduceLE, Int.reduceLT, Int.reduceNeg, Int.reduceEq, Int.reduceNe, Nat.reduceBEq, Nat.reduceMul, Nat.reducePow, Int.cast_ofNat_Int, *])
        refine QCW_call rfl rfl call64 (q4 _) ?_
        (simp only [go_sem, reduceIte, Nat.reduceEqDiff, Nat.reduceLT, Nat.reduceLeDiff, Nat.reduceAdd, reduceCtorEq, Int.reduceToNat, Int.reduceLE, Int.reduceLT, Int.reduceNeg, Int.reduceEq, Int.reduceNe, Nat.reduceBEq, Nat.reduceMul, Nat.reducePow, Int.cast_ofNat_Int, *])
        refine QCW_call rfl rfl call66 (q5 _) ?_
        (simp only [go_sem, reduceIte, Nat.reduceEqDiff, Nat.reduceLT, Nat.reduceLeDiff, Nat.reduceAdd, reduceCtorEq, Int.reduceToNat, Int.reduceLE, Int.reduceLT, Int.reduceNeg, Int.reduceEq, Int.reduceNe, Nat.reduceBEq, Nat.reduceMul, Nat.reducePow, Int.cast_ofNat_Int, *])
        refine QCW_call rfl rfl call66 (q6 _) ?_
        (simp only [go_sem, reduceIte, Nat.reduceEqDiff, Nat.reduceLT, Nat.reduceLeDiff, Nat.reduceAdd, reduceCtorEq, Int.reduceToNat, Int.reduceLE, Int.reduceLT, Int.reduceNeg, Int.reduceEq, Int.reduceNe, Nat.reduceBEq, Nat.reduceMul, Nat.reducePow, Int.cast_ofNat_Int, *])
        refine QCW_call rfl rfl call66 (q7 _) ?_
        (simp only [go_sem, reduceIte, Nat.reduceEqDiff, Nat.reduceLT, Nat.reduceLeDiff, Nat.reduceAdd, reduceCtorEq, Int.reduceToNat, Int.reduceLE, Int.reduceLT, Int.reduceNeg, Int.reduceEq, Int.reduceNe, Nat.reduceBEq, Nat.reduceMul, Nat.reducePow, Int.cast_ofNat_Int, *])
        refine QCW_call rfl rfl call60 (haw _) ?_
        (simp only [go_sem, reduceIte, Nat.reduceEqDiff, Nat.reduceLT, Nat.reduceLeDiff, Nat.reduceAdd, reduceCtorEq, Int.reduceToNat, Int.reduceLE, Int.reduceLT, Int.reduceNeg, Int.reduceEq, Int.reduceNe, Nat.reduceBEq, Nat.reduceMul, Nat.reducePow, Int.cast_ofNat_Int, *])
        exact hGle.of

end Go.Proofs.Ytcbonfgkfiapaaa.Pv
