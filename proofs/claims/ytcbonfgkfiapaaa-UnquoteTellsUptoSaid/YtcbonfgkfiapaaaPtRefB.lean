/- simp does not look into the code that is left, only into the state and what is decided. What the reference of package part computes: a parameter. What the reference of package part computes: a part, parts, a word. What the reference of package part computes: whether a word is right; how many parts, how deep; whether they are the same. And how much the laws count. -/
import Derived.Test.YtcbonfgkfiapaaaCore3
import Derived.Test.YtcbonfgkfiapaaaPtRefA
/-! simp does not look into the code that is left, only into the state and what is decided. -/
set_option linter.unusedVariables false
namespace Go.Proofs.Ytcbonfgkfiapaaa.Pv
open Go Go.RowKit

section
variable (P : Program) (n : Nat) (mb : Tmp → Bool) (R : Post)
@[congr] theorem W_keep (l : List It) {σ σ' : Regs} (S : Heap) (h : σ = σ') : W P n mb R l σ S = W P n mb R l σ' S := by rw [h]
@[congr] theorem OpW_keep (o : Oper) (ds : List (Option Tmp)) (l : List Oper) (k : List It) {σ σ' : Regs} (S : Heap) (h : σ = σ') : OpW P n mb R o ds l k σ S = OpW P n mb R o ds l k σ' S := by rw [h]
@[congr] theorem CodeW_keep (c : Code) (k : List It) {σ σ' : Regs} (S : Heap) (h : σ = σ') : CodeW P n mb R c k σ S = CodeW P n mb R c k σ' S := by rw [h]
@[congr] theorem opW_keep (o : Oper) (ds : List (Option Tmp)) (l : List Oper) (k : List It) (σ : Regs) (S : Heap) {x y : Option (Nat × Bool)} (h : x = y) : opW P n mb R o ds l k σ S x = opW P n mb R o ds l k σ S y := by rw [h]
@[congr] theorem doW_keep (o : Oper) (ds : List (Option Tmp)) (l : List Oper) (k : List It) (σ : Regs) (S : Heap) {x y : Option PV} (h : x = y) : doW P n mb R o ds l k σ S x = doW P n mb R o ds l k σ S y := by rw [h]
@[congr] theorem doG_keep (o : Oper) (ds : List (Option Tmp)) (l : List Oper) (k : List It) (σ : Regs) (S : Heap) {x y : Option PV} (h : x = y) : doG P n mb R o ds l k σ S x = doG P n mb R o ds l k σ S y := by rw [h]
@[congr] theorem guardW_keep (o : Oper) (want : Bool) (ds : List (Option Tmp)) (l : List Oper) (k : List It) (σ : Regs) (S : Heap) {x y : Option Bool} (h : x = y) : guardW P n mb R o want ds l k σ S x = guardW P n mb R o want ds l k σ S y := by rw [h]
@[congr] theorem condW_keep (a b : Code) (k : List It) (σ : Regs) (S : Heap) {x y : PV} (h : x = y) : condW P n mb R a b k σ S x = condW P n mb R a b k σ S y := by rw [h]
@[congr] theorem exitW_keep (id : Nat) (σ : Regs) (S : Heap) {x y : Option (List It)} (h : x = y) : exitW P n mb R id σ S x = exitW P n mb R id σ S y := by rw [h]
@[congr] theorem QW_keep (ds : List (Option Tmp)) (q tail : List Oper) (k : List It) {σ σ' : Regs} (S : Heap) (h : σ = σ') : QW P n mb R ds q tail k σ S = QW P n mb R ds q tail k σ' S := by rw [h]
@[congr] theorem QCW_keep (o : Oper) (ds : List (Option Tmp)) (q tail : List Oper) (k : List It) {σ σ' : Regs} (S : Heap) (h : σ = σ') : QCW P n mb R o ds q tail k σ S = QCW P n mb R o ds q tail k σ' S := by rw [h]
@[congr] theorem qop_keep (o : Oper) (ds : List (Option Tmp)) (q tail : List Oper) (k : List It) (σ : Regs) (S : Heap) {x y : Option (Nat × Bool)} (h : x = y) : qop P n mb R o ds q tail k σ S x = qop P n mb R o ds q tail k σ S y := by rw [h]
@[congr] theorem qdo_keep (o : Oper) (ds : List (Option Tmp)) (q tail : List Oper) (k : List It) (σ : Regs) (S : Heap) {x y : Option PV} (h : x = y) : qdo P n mb R o ds q tail k σ S x = qdo P n mb R o ds q tail k σ S y := by rw [h]
@[congr] theorem qguard_keep (o : Oper) (want : Bool) (ds : List (Option Tmp)) (q tail : List Oper) (k : List It) (σ : Regs) (S : Heap) {x y : Option Bool} (h : x = y) : qguard P n mb R o want ds q tail k σ S x = qguard P n mb R o want ds q tail k σ S y := by rw [h]
end

end Go.Proofs.Ytcbonfgkfiapaaa.Pv

/-! What the reference of package part computes: a parameter. -/
set_option linter.unusedVariables false
set_option linter.unusedSimpArgs false
set_option maxRecDepth 100000
set_option maxHeartbeats 40000000
namespace Go.Proofs.Ytcbonfgkfiapaaa.Pv
open Go Go.RowKit

def AllC (f : FuncId) (n : Nat) : Prop := ∀ (l : List Pt) (pl : Int), bulks l ≤ n → (pl = 0 ∨ pl = 1 ∨ pl = 2) → ∀ S, CallsQ Try.prog f [.slice 5 (prows l), .int .i64 pl] S (.bool (allP pl none l))
theorem param24_calls {n : Nat} (ih : AllC 91 n) (k : Int) (t o : List UInt8) (ks : List Pt) (cs : List (List PV)) (hk : bulks ks ≤ n) (ht : t.length ≤ 4611686018427387904) (S : Heap) :
    CallsQ Try.prog 152 [.agg [.int .i64 k, .str t, .str o, .slice 5 (prows ks), .slice 10 cs]] S (.bool (paramOk t o ks (allP 2 none ks))) := by
  refine CallsA_W (fun _ => false) Try.func152 rfl (Nat.le_of_ble_eq_true rfl) ?_
  simp only [Try.f152]
  have hn := refName_calls t ht
  have hd := refDigits_calls t ht
  have ha := ih ks 2 hk (Or.inr (Or.inr rfl))
  have hf : Keep (allP 2 none ks = true → ∀ q r, ks = q :: r → q.k = 1 → ∃ c, q.text.head? = some c ∧ q.text[0]? = some c) := by
    constructor
    rintro h q r rfl hq
    simp only [allP, Bool.and_eq_true] at h
    have := lit_text h.1 hq
    cases hx : q.text with
    | nil => exact absurd hx this
    | cons c s => exact ⟨c, rfl, rfl⟩
  clear ih hk ht
  generalize allP 2 none ks = B at *
  rcases Bool.eq_false_or_eq_true (isName t) with h1 | h1
  · have hN : okNm t = true := by simp [okNm, h1]
    (simp only [go_sem, reduceIte, Nat.reduceEqDiff, Nat.reduceLT, Nat.reduceLeDiff, Nat.reduceAdd, reduceCtorEq, Int.reduceToNat, Int.reduceLE, Int.reduceLT, Int.reduceNeg, Int.reduceEq, Int.reduceNe, Nat.reduceBEq, Nat.reduceMul, Nat.reducePow, Int.cast_ofNat_Int, *])
    (repeat' first | ((first | refine split_d ?_ ?_ | refine split_gt rfl ?_ ?_ | refine split_gf rfl ?_ ?_ | refine split_b ?_ ?_ | refine split_gb rfl ?_ ?_) <;> intro _ <;> ((try simp only [go_sem, reduceIte, Nat.reduceEqDiff, Nat.reduceLT, Nat.reduceLeDiff, Nat.reduceAdd, reduceCtorEq, Int.reduceToNat, Int.reduceLE, Int.reduceLT, Int.reduceNeg, Int.reduceEq, Int.reduceNe, Nat.reduceBEq, Nat.reduceMul, Nat.reducePow, Int.cast_ofNat_Int, *]))) | ((first | (refine OpW_call rfl rfl call24 rfl ((hn _).mono ?_)) | (refine OpW_call rfl rfl call26 rfl ((hd _).mono ?_)) | (refine OpW_call rfl rfl call22 rfl ((refSpecial_calls _ _).mono ?_)) | (refine OpW_call rfl rfl call171 rfl ((op24_calls _ _).mono ?_)) | (refine OpW_call rfl rfl call91 rfl ((ha _).mono ?_)) | fail) <;> (rintro p_ S_ ⟨rfl, rfl⟩; (try simp only [go_sem, reduceIte, Nat.reduceEqDiff, Nat.reduceLT, Nat.reduceLeDiff, Nat.reduceAdd, reduceCtorEq, Int.reduceToNat, Int.reduceLE, Int.reduceLT, Int.reduceNeg, Int.reduceEq, Int.reduceNe, Nat.reduceBEq, Nat.reduceMul, Nat.reducePow, Int.cast_ofNat_Int, *]))) | fail)
    all_goals first
      | (simp_all only [paramOk, reduceIte, Bool.true_eq_false, Bool.false_eq_true, Bool.not_eq_true', Bool.not_eq_false', Bool.not_true, Bool.not_false, or_true, true_or, or_false, false_or, not_true_eq_false, not_false_eq_true, and_true, true_and, and_false, false_and, Int.natCast_eq_zero, true_or, reduceCtorEq]; done)
      | (simp_all [paramOk]; done)
      | skip
    all_goals
      rename_i hk0
      cases ks with
      | nil => exact absurd rfl hk0
      | cons q ks =>
        by_cases hq : q.k = 1
        · have hB : B = true := by cases B <;> simp_all
          have ho : o = [37] ∨ o = [35] := by
            apply Classical.byContradiction
            intro h
            simp_all
          obtain ⟨c1, hc1, hc2⟩ := hf.of hB q ks rfl hq
          rcases ho with rfl | rfl
          · have e1 : firstOk [37] (q :: ks) = decide (¬ (c1.toNat : Int) = ((37 : UInt8).toNat : Int)) := by simp [firstOk, hq, hc1]; exact (u8_eq (d := 37)).symm
            refine CodeW_quiet mixed 18 (by kernel_rfl) ?_
            (simp only [go_sem, reduceIte, Nat.reduceEqDiff, Nat.reduceLT, Nat.reduceLeDiff, Nat.reduceAdd, reduceCtorEq, Int.reduceToNat, Int.reduceLE, Int.reduceLT, Int.reduceNeg, Int.reduceEq, Int.reduceNe, Nat.reduceBEq, Nat.reduceMul, Nat.reducePow, Int.cast_ofNat_Int, *])
            simp_all [paramOk]
          · have e1 : firstOk [35] (q :: ks) = decide (¬ (c1.toNat : Int) = ((35 : UInt8).toNat : Int)) := by simp [firstOk, hq, hc1]; exact (u8_eq (d := 35)).symm
            refine CodeW_quiet mixed 18 (by kernel_rfl) ?_
            (simp only [go_sem, reduceIte, Nat.reduceEqDiff, Nat.reduceLT, Nat.reduceLeDiff, Nat.reduceAdd, reduceCtorEq, Int.reduceToNat, Int.reduceLE, Int.reduceLT, Int.reduceNeg, Int.reduceEq, Int.reduceNe, Nat.reduceBEq, Nat.reduceMul, Nat.reducePow, Int.cast_ofNat_Int, *])
            simp_all [paramOk]
        · refine CodeW_quiet mixed 18 (by kernel_rfl) ?_
          (simp only [go_sem, reduceIte, Nat.reduceEqDiff, Nat.reduceLT, Nat.reduceLeDiff, Nat.reduceAdd, reduceCtorEq, Int.reduceToNat, Int.reduceLE, Int.reduceLT, Int.reduceNeg, Int.reduceEq, Int.reduceNe, Nat.reduceBEq, Nat.reduceMul, Nat.reducePow, Int.cast_ofNat_Int, *])
          simp_all [paramOk, firstOk]
  · rcases Bool.eq_false_or_eq_true (isDigits t) with h2 | h2
    · have hN : okNm t = true := by simp [okNm, h2]
      (simp only [go_sem, reduceIte, Nat.reduceEqDiff, Nat.reduceLT, Nat.reduceLeDiff, Nat.reduceAdd, reduceCtorEq, Int.reduceToNat, Int.reduceLE, Int.reduceLT, Int.reduceNeg, Int.reduceEq, Int.reduceNe, Nat.reduceBEq, Nat.reduceMul, Nat.reducePow, Int.cast_ofNat_Int, *])
      (repeat' first | ((first | refine split_d ?_ ?_ | refine split_gt rfl ?_ ?_ | refine split_gf rfl ?_ ?_ | refine split_b ?_ ?_ | refine split_gb rfl ?_ ?_) <;> intro _ <;> ((try simp only [go_sem, reduceIte, Nat.reduceEqDiff, Nat.reduceLT, Nat.reduceLeDiff, Nat.reduceAdd, reduceCtorEq, Int.reduceToNat, Int.reduceLE, Int.reduceLT, Int.reduceNeg, Int.reduceEq, Int.reduceNe, Nat.reduceBEq, Nat.reduceMul, Nat.reducePow, Int.cast_ofNat_Int, *]))) | ((first | (refine OpW_call rfl rfl call24 rfl ((hn _).mono ?_)) | (refine OpW_call rfl rfl call26 rfl ((hd _).mono ?_)) | (refine OpW_call rfl rfl call22 rfl ((refSpecial_calls _ _).mono ?_)) | (refine OpW_call rfl rfl call171 rfl ((op24_calls _ _).mono ?_)) | (refine OpW_call rfl rfl call91 rfl ((ha _).mono ?_)) | fail) <;> (rintro p_ S_ ⟨rfl, rfl⟩; (try simp only [go_sem, reduceIte, Nat.reduceEqDiff, Nat.reduceLT, Nat.reduceLeDiff, Nat.reduceAdd, reduceCtorEq, Int.reduceToNat, Int.reduceLE, Int.reduceLT, Int.reduceNeg, Int.reduceEq, Int.reduceNe, Nat.reduceBEq, Nat.reduceMul, Nat.reducePow, Int.cast_ofNat_Int, *]))) | fail)
      all_goals first
        | (simp_all only [paramOk, reduceIte, Bool.true_eq_false, Bool.false_eq_true, Bool.not_eq_true', Bool.not_eq_false', Bool.not_true, Bool.not_false, or_true, true_or, or_false, false_or, not_true_eq_false, not_false_eq_true, and_true, true_and, and_false, false_and, Int.natCast_eq_zero, true_or, reduceCtorEq]; done)
        | (simp_all [paramOk]; done)
        | skip
      all_goals
        rename_i hk0
        cases ks with
        | nil => exact absurd rfl hk0
        | cons q ks =>
          by_cases hq : q.k = 1
          · have hB : B = true := by cases B <;> simp_all
            have ho : o = [37] ∨ o = [35] := by
              apply Classical.byContradiction
              intro h
              simp_all
            obtain ⟨c1, hc1, hc2⟩ := hf.of hB q ks rfl hq
            rcases ho with rfl | rfl
            · have e1 : firstOk [37] (q :: ks) = decide (¬ (c1.toNat : Int) = ((37 : UInt8).toNat : Int)) := by simp [firstOk, hq, hc1]; exact (u8_eq (d := 37)).symm
              refine CodeW_quiet mixed 18 (by kernel_rfl) ?_
              (simp only [go_sem, reduceIte, Nat.reduceEqDiff, Nat.reduceLT, Nat.reduceLeDiff, Nat.reduceAdd, reduceCtorEq, Int.reduceToNat, Int.reduceLE, Int.reduceLT, Int.reduceNeg, Int.reduceEq, Int.reduceNe, Nat.reduceBEq, Nat.reduceMul, Nat.reducePow, Int.cast_ofNat_Int, *])
              simp_all [paramOk]
            · have e1 : firstOk [35] (q :: ks) = decide (¬ (c1.toNat : Int) = ((35 : UInt8).toNat : Int)) := by simp [firstOk, hq, hc1]; exact (u8_eq (d := 35)).symm
              refine CodeW_quiet mixed 18 (by kernel_rfl) ?_
              (simp only [go_sem, reduceIte, Nat.reduceEqDiff, Nat.reduceLT, Nat.reduceLeDiff, Nat.reduceAdd, reduceCtorEq, Int.reduceToNat, Int.reduceLE, Int.reduceLT, Int.reduceNeg, Int.reduceEq, Int.reduceNe, Nat.reduceBEq, Nat.reduceMul, Nat.reducePow, Int.cast_ofNat_Int, *])
              simp_all [paramOk]
          · refine CodeW_quiet mixed 18 (by kernel_rfl) ?_
            (simp only [go_sem, reduceIte, Nat.reduceEqDiff, Nat.reduceLT, Nat.reduceLeDiff, Nat.reduceAdd, reduceCtorEq, Int.reduceToNat, Int.reduceLE, Int.reduceLT, Int.reduceNeg, Int.reduceEq, Int.reduceNe, Nat.reduceBEq, Nat.reduceMul, Nat.reducePow, Int.cast_ofNat_Int, *])
            simp_all [paramOk, firstOk]
    · rcases t with _ | ⟨c, _ | ⟨d, r⟩⟩
      · have hN : okNm [] = false := by simp [okNm, h1, h2]
        (simp only [go_sem, reduceIte, Nat.reduceEqDiff, Nat.reduceLT, Nat.reduceLeDiff, Nat.reduceAdd, reduceCtorEq, Int.reduceToNat, Int.reduceLE, Int.reduceLT, Int.reduceNeg, Int.reduceEq, Int.reduceNe, Nat.reduceBEq, Nat.reduceMul, Nat.reducePow, Int.cast_ofNat_Int, *])
        (repeat' first | ((first | refine split_d ?_ ?_ | refine split_gt rfl ?_ ?_ | refine split_gf rfl ?_ ?_ | refine split_b ?_ ?_ | refine split_gb rfl ?_ ?_) <;> intro _ <;> ((try simp only [go_sem, reduceIte, Nat.reduceEqDiff, Nat.reduceLT, Nat.reduceLeDiff, Nat.reduceAdd, reduceCtorEq, Int.reduceToNat, Int.reduceLE, Int.reduceLT, Int.reduceNeg, Int.reduceEq, Int.reduceNe, Nat.reduceBEq, Nat.reduceMul, Nat.reducePow, Int.cast_ofNat_Int, *]))) | ((first | (refine OpW_call rfl rfl call24 rfl ((hn _).mono ?_)) | (refine OpW_call rfl rfl call26 rfl ((hd _).mono ?_)) | (refine OpW_call rfl rfl call22 rfl ((refSpecial_calls _ _).mono ?_)) | fail) <;> (rintro p_ S_ ⟨rfl, rfl⟩; (try simp only [go_sem, reduceIte, Nat.reduceEqDiff, Nat.reduceLT, Nat.reduceLeDiff, Nat.reduceAdd, reduceCtorEq, Int.reduceToNat, Int.reduceLE, Int.reduceLT, Int.reduceNeg, Int.reduceEq, Int.reduceNe, Nat.reduceBEq, Nat.reduceMul, Nat.reducePow, Int.cast_ofNat_Int, *]))) | fail)
        unfold paramOk; rw [if_pos hN]
      · rcases Bool.eq_false_or_eq_true (isSpecial c) with h3 | h3
        · have hN : okNm [c] = true := by simp [okNm, h3]
          (simp only [go_sem, reduceIte, Nat.reduceEqDiff, Nat.reduceLT, Nat.reduceLeDiff, Nat.reduceAdd, reduceCtorEq, Int.reduceToNat, Int.reduceLE, Int.reduceLT, Int.reduceNeg, Int.reduceEq, Int.reduceNe, Nat.reduceBEq, Nat.reduceMul, Nat.reducePow, Int.cast_ofNat_Int, *])
          (repeat' first | ((first | refine split_d ?_ ?_ | refine split_gt rfl ?_ ?_ | refine split_gf rfl ?_ ?_ | refine split_b ?_ ?_ | refine split_gb rfl ?_ ?_) <;> intro _ <;> ((try simp only [go_sem, reduceIte, Nat.reduceEqDiff, Nat.reduceLT, Nat.reduceLeDiff, Nat.reduceAdd, reduceCtorEq, Int.reduceToNat, Int.reduceLE, Int.reduceLT, Int.reduceNeg, Int.reduceEq, Int.reduceNe, Nat.reduceBEq, Nat.reduceMul, Nat.reducePow, Int.cast_ofNat_Int, *]))) | ((first | (refine OpW_call rfl rfl call24 rfl ((hn _).mono ?_)) | (refine OpW_call rfl rfl call26 rfl ((hd _).mono ?_)) | (refine OpW_call rfl rfl call22 rfl ((refSpecial_calls _ _).mono ?_)) | (refine OpW_call rfl rfl call171 rfl ((op24_calls _ _).mono ?_)) | (refine OpW_call rfl rfl call91 rfl ((ha _).mono ?_)) | fail) <;> (rintro p_ S_ ⟨rfl, rfl⟩; (try simp only [go_sem, reduceIte, Nat.reduceEqDiff, Nat.reduceLT, Nat.reduceLeDiff, Nat.reduceAdd, reduceCtorEq, Int.reduceToNat, Int.reduceLE, Int.reduceLT, Int.reduceNeg, Int.reduceEq, Int.reduceNe, Nat.reduceBEq, Nat.reduceMul, Nat.reducePow, Int.cast_ofNat_Int, *]))) | fail)
          all_goals first
            | (simp_all only [paramOk, reduceIte, Bool.true_eq_false, Bool.false_eq_true, Bool.not_eq_true', Bool.not_eq_false', Bool.not_true, Bool.not_false, or_true, true_or, or_false, false_or, not_true_eq_false, not_false_eq_true, and_true, true_and, and_false, false_and, Int.natCast_eq_zero, true_or, reduceCtorEq]; done)
            | (simp_all [paramOk]; done)
            | skip
          all_goals
            rename_i hk0
            cases ks with
            | nil => exact absurd rfl hk0
            | cons q ks =>
              by_cases hq : q.k = 1
              · have hB : B = true := by cases B <;> simp_all
                have ho : o = [37] ∨ o = [35] := by
                  apply Classical.byContradiction
                  intro h
                  simp_all
                obtain ⟨c1, hc1, hc2⟩ := hf.of hB q ks rfl hq
                rcases ho with rfl | rfl
                · have e1 : firstOk [37] (q :: ks) = decide (¬ (c1.toNat : Int) = ((37 : UInt8).toNat : Int)) := by simp [firstOk, hq, hc1]; exact (u8_eq (d := 37)).symm
                  refine CodeW_quiet mixed 18 (by kernel_rfl) ?_
                  (simp only [go_sem, reduceIte, Nat.reduceEqDiff, Nat.reduceLT, Nat.reduceLeDiff, Nat.reduceAdd, reduceCtorEq, Int.reduceToNat, Int.reduceLE, Int.reduceLT, Int.reduceNeg, Int.reduceEq, Int.reduceNe, Nat.reduceBEq, Nat.reduceMul, Nat.reducePow, Int.cast_ofNat_Int, *])
                  simp_all [paramOk]
                · have e1 : firstOk [35] (q :: ks) = decide (¬ (c1.toNat : Int) = ((35 : UInt8).toNat : Int)) := by simp [firstOk, hq, hc1]; exact (u8_eq (d := 35)).symm
                  refine CodeW_quiet mixed 18 (by kernel_rfl) ?_
                  (simp only [go_sem, reduceIte, Nat.reduceEqDiff, Nat.reduceLT, Nat.reduceLeDiff, Nat.reduceAdd, reduceCtorEq, Int.reduceToNat, Int.reduceLE, Int.reduceLT, Int.reduceNeg, Int.reduceEq, Int.reduceNe, Nat.reduceBEq, Nat.reduceMul, Nat.reducePow, Int.cast_ofNat_Int, *])
                  simp_all [paramOk]
              · refine CodeW_quiet mixed 18 (by kernel_rfl) ?_
                (simp only [go_sem, reduceIte, Nat.reduceEqDiff, Nat.reduceLT, Nat.reduceLeDiff, Nat.reduceAdd, reduceCtorEq, Int.reduceToNat, Int.reduceLE, Int.reduceLT, Int.reduceNeg, Int.reduceEq, Int.reduceNe, Nat.reduceBEq, Nat.reduceMul, Nat.reducePow, Int.cast_ofNat_Int, *])
                simp_all [paramOk, firstOk]
        · have hN : okNm [c] = false := by simp [okNm, h1, h2, h3]
          (simp only [go_sem, reduceIte, Nat.reduceEqDiff, Nat.reduceLT, Nat.reduceLeDiff, Nat.reduceAdd, reduceCtorEq, Int.reduceToNat, Int.reduceLE, Int.reduceLT, Int.reduceNeg, Int.reduceEq, Int.reduceNe, Nat.reduceBEq, Nat.reduceMul, Nat.reducePow, Int.cast_ofNat_Int, *])
          (repeat' first | ((first | refine split_d ?_ ?_ | refine split_gt rfl ?_ ?_ | refine split_gf rfl ?_ ?_ | refine split_b ?_ ?_ | refine split_gb rfl ?_ ?_) <;> intro _ <;> ((try simp only [go_sem, reduceIte, Nat.reduceEqDiff, Nat.reduceLT, Nat.reduceLeDiff, Nat.reduceAdd, reduceCtorEq, Int.reduceToNat, Int.reduceLE, Int.reduceLT, Int.reduceNeg, Int.reduceEq, Int.reduceNe, Nat.reduceBEq, Nat.reduceMul, Nat.reducePow, Int.cast_ofNat_Int, *]))) | ((first | (refine OpW_call rfl rfl call24 rfl ((hn _).mono ?_)) | (refine OpW_call rfl rfl call26 rfl ((hd _).mono ?_)) | (refine OpW_call rfl rfl call22 rfl ((refSpecial_calls _ _).mono ?_)) | fail) <;> (rintro p_ S_ ⟨rfl, rfl⟩; (try simp only [go_sem, reduceIte, Nat.reduceEqDiff, Nat.reduceLT, Nat.reduceLeDiff, Nat.reduceAdd, reduceCtorEq, Int.reduceToNat, Int.reduceLE, Int.reduceLT, Int.reduceNeg, Int.reduceEq, Int.reduceNe, Nat.reduceBEq, Nat.reduceMul, Nat.reducePow, Int.cast_ofNat_Int, *]))) | fail)
          unfold paramOk; rw [if_pos hN]
      · have hN : okNm (c :: d :: r) = false := by simp [okNm, h1, h2]
        have hl2 : ¬ ((r.length + 1 + 1 : Nat) : Int) = 1 := by omega
        (simp only [go_sem, reduceIte, Nat.reduceEqDiff, Nat.reduceLT, Nat.reduceLeDiff, Nat.reduceAdd, reduceCtorEq, Int.reduceToNat, Int.reduceLE, Int.reduceLT, Int.reduceNeg, Int.reduceEq, Int.reduceNe, Nat.reduceBEq, Nat.reduceMul, Nat.reducePow, Int.cast_ofNat_Int, *])
        (repeat' first | ((first | refine split_d ?_ ?_ | refine split_gt rfl ?_ ?_ | refine split_gf rfl ?_ ?_ | refine split_b ?_ ?_ | refine split_gb rfl ?_ ?_) <;> intro _ <;> ((try simp only [go_sem, reduceIte, Nat.reduceEqDiff, Nat.reduceLT, Nat.reduceLeDiff, Nat.reduceAdd, reduceCtorEq, Int.reduceToNat, Int.reduceLE, Int.reduceLT, Int.reduceNeg, Int.reduceEq, Int.reduceNe, Nat.reduceBEq, Nat.reduceMul, Nat.reducePow, Int.cast_ofNat_Int, *]))) | ((first | (refine OpW_call rfl rfl call24 rfl ((hn _).mono ?_)) | (refine OpW_call rfl rfl call26 rfl ((hd _).mono ?_)) | (refine OpW_call rfl rfl call22 rfl ((refSpecial_calls _ _).mono ?_)) | fail) <;> (rintro p_ S_ ⟨rfl, rfl⟩; (try simp only [go_sem, reduceIte, Nat.reduceEqDiff, Nat.reduceLT, Nat.reduceLeDiff, Nat.reduceAdd, reduceCtorEq, Int.reduceToNat, Int.reduceLE, Int.reduceLT, Int.reduceNeg, Int.reduceEq, Int.reduceNe, Nat.reduceBEq, Nat.reduceMul, Nat.reducePow, Int.cast_ofNat_Int, *]))) | fail)
        unfold paramOk; rw [if_pos hN]

end Go.Proofs.Ytcbonfgkfiapaaa.Pv

/-! What the reference of package part computes: a part, parts, a word. -/
set_option linter.unusedVariables false
set_option linter.unusedSimpArgs false
set_option maxRecDepth 100000
set_option maxHeartbeats 40000000
namespace Go.Proofs.Ytcbonfgkfiapaaa.Pv
open Go Go.RowKit

theorem one24_calls {n : Nat} (ih : AllC 91 n) (pl k : Int) (hp : pl = 0 ∨ pl = 1 ∨ pl = 2) (t o : List UInt8) (ks : List Pt) (cs : List (List PV)) (hk : bulks ks ≤ n) (ht : t.length ≤ 4611686018427387904) (S : Heap) :
    CallsQ Try.prog 126 [.agg [.int .i64 k, .str t, .str o, .slice 5 (prows ks), .slice 10 cs], .int .i64 pl] S (.bool (oneOk pl k t o ks cs (allP 1 none ks) (allP 2 none ks))) := by
  refine CallsA_W (fun _ => false) Try.func126 rfl (Nat.le_of_ble_eq_true rfl) ?_
  simp only [Try.f126]
  have hlit := literal24_calls t ht pl hp
  have har := arith24_calls t ht
  have hcl : ∀ S, CallsQ Try.prog 151 [.str t, .int .u8 39] S (.bool (clearFrom 39 t)) := fun S => clear_calls t ht 39 S
  have hal := ih ks 1 hk (Or.inr (Or.inl rfl))
  have hpa := fun k => param24_calls ih k t o ks cs hk ht
  clear ih hk ht
  generalize allP 1 none ks = B1 at *
  generalize allP 2 none ks = B2 at *
  by_cases k5 : k = 5
  · subst k5
    (simp only [go_sem, reduceIte, Nat.reduceEqDiff, Nat.reduceLT, Nat.reduceLeDiff, Nat.reduceAdd, reduceCtorEq, Int.reduceToNat, Int.reduceLE, Int.reduceLT, Int.reduceNeg, Int.reduceEq, Int.reduceNe, Nat.reduceBEq, Nat.reduceMul, Nat.reducePow, Int.cast_ofNat_Int, *])
    (repeat' first | ((first | refine split_d ?_ ?_ | refine split_gt rfl ?_ ?_ | refine split_gf rfl ?_ ?_ | refine split_b ?_ ?_ | refine split_gb rfl ?_ ?_) <;> intro _ <;> ((try simp only [go_sem, reduceIte, Nat.reduceEqDiff, Nat.reduceLT, Nat.reduceLeDiff, Nat.reduceAdd, reduceCtorEq, Int.reduceToNat, Int.reduceLE, Int.reduceLT, Int.reduceNeg, Int.reduceEq, Int.reduceNe, Nat.reduceBEq, Nat.reduceMul, Nat.reducePow, Int.cast_ofNat_Int, *]))) | ((first | (refine OpW_call rfl rfl call152 rfl ((hpa _ _).mono ?_)) | fail) <;> (rintro p_ S_ ⟨rfl, rfl⟩; (try simp only [go_sem, reduceIte, Nat.reduceEqDiff, Nat.reduceLT, Nat.reduceLeDiff, Nat.reduceAdd, reduceCtorEq, Int.reduceToNat, Int.reduceLE, Int.reduceLT, Int.reduceNeg, Int.reduceEq, Int.reduceNe, Nat.reduceBEq, Nat.reduceMul, Nat.reducePow, Int.cast_ofNat_Int, *]))) | fail)
    all_goals first
      | (unfold oneOk; simp only [reduceIte, Int.reduceEq, not_true_eq_false, not_false_eq_true, false_and, true_and, and_false, and_true, false_or, or_false, *]; first | done | (simp [*]; done))
      | (unfold oneOk; simp [*]; done)
  by_cases k4 : k = 4
  · subst k4
    by_cases p1 : pl = 1
    · (simp only [go_sem, reduceIte, Nat.reduceEqDiff, Nat.reduceLT, Nat.reduceLeDiff, Nat.reduceAdd, reduceCtorEq, Int.reduceToNat, Int.reduceLE, Int.reduceLT, Int.reduceNeg, Int.reduceEq, Int.reduceNe, Nat.reduceBEq, Nat.reduceMul, Nat.reducePow, Int.cast_ofNat_Int, *])
      (repeat' first | ((first | refine split_d ?_ ?_ | refine split_gt rfl ?_ ?_ | refine split_gf rfl ?_ ?_ | refine split_b ?_ ?_ | refine split_gb rfl ?_ ?_) <;> intro _ <;> ((try simp only [go_sem, reduceIte, Nat.reduceEqDiff, Nat.reduceLT, Nat.reduceLeDiff, Nat.reduceAdd, reduceCtorEq, Int.reduceToNat, Int.reduceLE, Int.reduceLT, Int.reduceNeg, Int.reduceEq, Int.reduceNe, Nat.reduceBEq, Nat.reduceMul, Nat.reducePow, Int.cast_ofNat_Int, *]))) | fail)
      all_goals first
        | (unfold oneOk; simp only [reduceIte, Int.reduceEq, not_true_eq_false, not_false_eq_true, false_and, true_and, and_false, and_true, false_or, or_false, *]; first | done | (simp [*]; done))
        | (unfold oneOk; simp [*]; done)
    · (simp only [go_sem, reduceIte, Nat.reduceEqDiff, Nat.reduceLT, Nat.reduceLeDiff, Nat.reduceAdd, reduceCtorEq, Int.reduceToNat, Int.reduceLE, Int.reduceLT, Int.reduceNeg, Int.reduceEq, Int.reduceNe, Nat.reduceBEq, Nat.reduceMul, Nat.reducePow, Int.cast_ofNat_Int, *])
      (repeat' first | ((first | refine split_d ?_ ?_ | refine split_gt rfl ?_ ?_ | refine split_gf rfl ?_ ?_ | refine split_b ?_ ?_ | refine split_gb rfl ?_ ?_) <;> intro _ <;> ((try simp only [go_sem, reduceIte, Nat.reduceEqDiff, Nat.reduceLT, Nat.reduceLeDiff, Nat.reduceAdd, reduceCtorEq, Int.reduceToNat, Int.reduceLE, Int.reduceLT, Int.reduceNeg, Int.reduceEq, Int.reduceNe, Nat.reduceBEq, Nat.reduceMul, Nat.reducePow, Int.cast_ofNat_Int, *]))) | ((first | (refine OpW_call rfl rfl call91 rfl ((hal _).mono ?_)) | fail) <;> (rintro p_ S_ ⟨rfl, rfl⟩; (try simp only [go_sem, reduceIte, Nat.reduceEqDiff, Nat.reduceLT, Nat.reduceLeDiff, Nat.reduceAdd, reduceCtorEq, Int.reduceToNat, Int.reduceLE, Int.reduceLT, Int.reduceNeg, Int.reduceEq, Int.reduceNe, Nat.reduceBEq, Nat.reduceMul, Nat.reducePow, Int.cast_ofNat_Int, *]))) | fail)
      all_goals first
        | (unfold oneOk; simp only [reduceIte, Int.reduceEq, not_true_eq_false, not_false_eq_true, false_and, true_and, and_false, and_true, false_or, or_false, *]; first | done | (simp [*]; done))
        | (unfold oneOk; simp [*]; done)
  by_cases k1 : k = 1
  · subst k1
    (simp only [go_sem, reduceIte, Nat.reduceEqDiff, Nat.reduceLT, Nat.reduceLeDiff, Nat.reduceAdd, reduceCtorEq, Int.reduceToNat, Int.reduceLE, Int.reduceLT, Int.reduceNeg, Int.reduceEq, Int.reduceNe, Nat.reduceBEq, Nat.reduceMul, Nat.reducePow, Int.cast_ofNat_Int, *])
    (repeat' first | ((first | refine split_d ?_ ?_ | refine split_gt rfl ?_ ?_ | refine split_gf rfl ?_ ?_ | refine split_b ?_ ?_ | refine split_gb rfl ?_ ?_) <;> intro _ <;> ((try simp only [go_sem, reduceIte, Nat.reduceEqDiff, Nat.reduceLT, Nat.reduceLeDiff, Nat.reduceAdd, reduceCtorEq, Int.reduceToNat, Int.reduceLE, Int.reduceLT, Int.reduceNeg, Int.reduceEq, Int.reduceNe, Nat.reduceBEq, Nat.reduceMul, Nat.reducePow, Int.cast_ofNat_Int, *]))) | ((first | (refine OpW_call rfl rfl call149 rfl ((hlit _).mono ?_)) | fail) <;> (rintro p_ S_ ⟨rfl, rfl⟩; (try simp only [go_sem, reduceIte, Nat.reduceEqDiff, Nat.reduceLT, Nat.reduceLeDiff, Nat.reduceAdd, reduceCtorEq, Int.reduceToNat, Int.reduceLE, Int.reduceLT, Int.reduceNeg, Int.reduceEq, Int.reduceNe, Nat.reduceBEq, Nat.reduceMul, Nat.reducePow, Int.cast_ofNat_Int, *]))) | fail)
    all_goals first
      | (unfold oneOk; simp only [reduceIte, Int.reduceEq, not_true_eq_false, not_false_eq_true, false_and, true_and, and_false, and_true, false_or, or_false, *]; first | done | (simp [*]; done))
      | (unfold oneOk; simp [*]; done)
  by_cases k3 : k = 3
  · subst k3
    by_cases p1 : pl = 1
    · (simp only [go_sem, reduceIte, Nat.reduceEqDiff, Nat.reduceLT, Nat.reduceLeDiff, Nat.reduceAdd, reduceCtorEq, Int.reduceToNat, Int.reduceLE, Int.reduceLT, Int.reduceNeg, Int.reduceEq, Int.reduceNe, Nat.reduceBEq, Nat.reduceMul, Nat.reducePow, Int.cast_ofNat_Int, *])
      (repeat' first | ((first | refine split_d ?_ ?_ | refine split_gt rfl ?_ ?_ | refine split_gf rfl ?_ ?_ | refine split_b ?_ ?_ | refine split_gb rfl ?_ ?_) <;> intro _ <;> ((try simp only [go_sem, reduceIte, Nat.reduceEqDiff, Nat.reduceLT, Nat.reduceLeDiff, Nat.reduceAdd, reduceCtorEq, Int.reduceToNat, Int.reduceLE, Int.reduceLT, Int.reduceNeg, Int.reduceEq, Int.reduceNe, Nat.reduceBEq, Nat.reduceMul, Nat.reducePow, Int.cast_ofNat_Int, *]))) | fail)
      all_goals first
        | (unfold oneOk; simp only [reduceIte, Int.reduceEq, not_true_eq_false, not_false_eq_true, false_and, true_and, and_false, and_true, false_or, or_false, *]; first | done | (simp [*]; done))
        | (unfold oneOk; simp [*]; done)
    · (simp only [go_sem, reduceIte, Nat.reduceEqDiff, Nat.reduceLT, Nat.reduceLeDiff, Nat.reduceAdd, reduceCtorEq, Int.reduceToNat, Int.reduceLE, Int.reduceLT, Int.reduceNeg, Int.reduceEq, Int.reduceNe, Nat.reduceBEq, Nat.reduceMul, Nat.reducePow, Int.cast_ofNat_Int, *])
      (repeat' first | ((first | refine split_d ?_ ?_ | refine split_gt rfl ?_ ?_ | refine split_gf rfl ?_ ?_ | refine split_b ?_ ?_ | refine split_gb rfl ?_ ?_) <;> intro _ <;> ((try simp only [go_sem, reduceIte, Nat.reduceEqDiff, Nat.reduceLT, Nat.reduceLeDiff, Nat.reduceAdd, reduceCtorEq, Int.reduceToNat, Int.reduceLE, Int.reduceLT, Int.reduceNeg, Int.reduceEq, Int.reduceNe, Nat.reduceBEq, Nat.reduceMul, Nat.reducePow, Int.cast_ofNat_Int, *]))) | ((first | (refine OpW_call rfl rfl call151 rfl ((hcl _).mono ?_)) | fail) <;> (rintro p_ S_ ⟨rfl, rfl⟩; (try simp only [go_sem, reduceIte, Nat.reduceEqDiff, Nat.reduceLT, Nat.reduceLeDiff, Nat.reduceAdd, reduceCtorEq, Int.reduceToNat, Int.reduceLE, Int.reduceLT, Int.reduceNeg, Int.reduceEq, Int.reduceNe, Nat.reduceBEq, Nat.reduceMul, Nat.reducePow, Int.cast_ofNat_Int, *]))) | fail)
      all_goals first
        | (unfold oneOk; simp only [reduceIte, Int.reduceEq, not_true_eq_false, not_false_eq_true, false_and, true_and, and_false, and_true, false_or, or_false, *]; first | done | (simp [*]; done))
        | (unfold oneOk; simp [*]; done)
  by_cases k6 : k = 6
  · subst k6
    (simp only [go_sem, reduceIte, Nat.reduceEqDiff, Nat.reduceLT, Nat.reduceLeDiff, Nat.reduceAdd, reduceCtorEq, Int.reduceToNat, Int.reduceLE, Int.reduceLT, Int.reduceNeg, Int.reduceEq, Int.reduceNe, Nat.reduceBEq, Nat.reduceMul, Nat.reducePow, Int.cast_ofNat_Int, *])
    (repeat' first | ((first | refine split_d ?_ ?_ | refine split_gt rfl ?_ ?_ | refine split_gf rfl ?_ ?_ | refine split_b ?_ ?_ | refine split_gb rfl ?_ ?_) <;> intro _ <;> ((try simp only [go_sem, reduceIte, Nat.reduceEqDiff, Nat.reduceLT, Nat.reduceLeDiff, Nat.reduceAdd, reduceCtorEq, Int.reduceToNat, Int.reduceLE, Int.reduceLT, Int.reduceNeg, Int.reduceEq, Int.reduceNe, Nat.reduceBEq, Nat.reduceMul, Nat.reducePow, Int.cast_ofNat_Int, *]))) | fail)
    all_goals first
      | (unfold oneOk; simp only [reduceIte, Int.reduceEq, not_true_eq_false, not_false_eq_true, false_and, true_and, and_false, and_true, false_or, or_false, *]; first | done | (simp [*]; done))
      | (unfold oneOk; simp [*]; done)
  by_cases k7 : k = 7
  · subst k7
    (simp only [go_sem, reduceIte, Nat.reduceEqDiff, Nat.reduceLT, Nat.reduceLeDiff, Nat.reduceAdd, reduceCtorEq, Int.reduceToNat, Int.reduceLE, Int.reduceLT, Int.reduceNeg, Int.reduceEq, Int.reduceNe, Nat.reduceBEq, Nat.reduceMul, Nat.reducePow, Int.cast_ofNat_Int, *])
    (repeat' first | ((first | refine split_d ?_ ?_ | refine split_gt rfl ?_ ?_ | refine split_gf rfl ?_ ?_ | refine split_b ?_ ?_ | refine split_gb rfl ?_ ?_) <;> intro _ <;> ((try simp only [go_sem, reduceIte, Nat.reduceEqDiff, Nat.reduceLT, Nat.reduceLeDiff, Nat.reduceAdd, reduceCtorEq, Int.reduceToNat, Int.reduceLE, Int.reduceLT, Int.reduceNeg, Int.reduceEq, Int.reduceNe, Nat.reduceBEq, Nat.reduceMul, Nat.reducePow, Int.cast_ofNat_Int, *]))) | ((first | (refine OpW_call rfl rfl call153 rfl ((har _).mono ?_)) | fail) <;> (rintro p_ S_ ⟨rfl, rfl⟩; (try simp only [go_sem, reduceIte, Nat.reduceEqDiff, Nat.reduceLT, Nat.reduceLeDiff, Nat.reduceAdd, reduceCtorEq, Int.reduceToNat, Int.reduceLE, Int.reduceLT, Int.reduceNeg, Int.reduceEq, Int.reduceNe, Nat.reduceBEq, Nat.reduceMul, Nat.reducePow, Int.cast_ofNat_Int, *]))) | fail)
    all_goals first
      | (unfold oneOk; simp only [reduceIte, Int.reduceEq, not_true_eq_false, not_false_eq_true, false_and, true_and, and_false, and_true, false_or, or_false, *]; first | done | (simp [*]; done))
      | (unfold oneOk; simp [*]; done)
  by_cases k2 : k = 2
  · subst k2
    rcases t with _ | ⟨c, _ | ⟨d, r⟩⟩
    · have e : escOk pl [] = false := rfl
      (simp only [go_sem, reduceIte, Nat.reduceEqDiff, Nat.reduceLT, Nat.reduceLeDiff, Nat.reduceAdd, reduceCtorEq, Int.reduceToNat, Int.reduceLE, Int.reduceLT, Int.reduceNeg, Int.reduceEq, Int.reduceNe, Nat.reduceBEq, Nat.reduceMul, Nat.reducePow, Int.cast_ofNat_Int, *])
      (repeat' first | ((first | refine split_d ?_ ?_ | refine split_gt rfl ?_ ?_ | refine split_gf rfl ?_ ?_ | refine split_b ?_ ?_ | refine split_gb rfl ?_ ?_) <;> intro _ <;> ((try simp only [go_sem, reduceIte, Nat.reduceEqDiff, Nat.reduceLT, Nat.reduceLeDiff, Nat.reduceAdd, reduceCtorEq, Int.reduceToNat, Int.reduceLE, Int.reduceLT, Int.reduceNeg, Int.reduceEq, Int.reduceNe, Nat.reduceBEq, Nat.reduceMul, Nat.reducePow, Int.cast_ofNat_Int, *]))) | fail)
      all_goals first
        | (unfold oneOk; simp only [reduceIte, Int.reduceEq, not_true_eq_false, not_false_eq_true, false_and, true_and, and_false, and_true, false_or, or_false, *]; first | done | (simp [*]; done))
        | (unfold oneOk; simp [*]; done)
    · have e : escOk pl [c] = (decide (¬ (c.toNat : Int) = 0) && (decide (¬ (c.toNat : Int) = 10) && (decide (¬ pl = 1) || quotb c))) := rfl
      by_cases p1 : pl = 1
      · subst p1
        (simp only [go_sem, reduceIte, Nat.reduceEqDiff, Nat.reduceLT, Nat.reduceLeDiff, Nat.reduceAdd, reduceCtorEq, Int.reduceToNat, Int.reduceLE, Int.reduceLT, Int.reduceNeg, Int.reduceEq, Int.reduceNe, Nat.reduceBEq, Nat.reduceMul, Nat.reducePow, Int.cast_ofNat_Int, *])
        (repeat' first | ((first | refine split_d ?_ ?_ | refine split_gt rfl ?_ ?_ | refine split_gf rfl ?_ ?_ | refine split_b ?_ ?_ | refine split_gb rfl ?_ ?_) <;> intro _ <;> ((try simp only [go_sem, reduceIte, Nat.reduceEqDiff, Nat.reduceLT, Nat.reduceLeDiff, Nat.reduceAdd, reduceCtorEq, Int.reduceToNat, Int.reduceLE, Int.reduceLT, Int.reduceNeg, Int.reduceEq, Int.reduceNe, Nat.reduceBEq, Nat.reduceMul, Nat.reducePow, Int.cast_ofNat_Int, *]))) | ((first | (refine OpW_call rfl rfl call150 rfl ((special24_calls _ _).mono ?_)) | fail) <;> (rintro p_ S_ ⟨rfl, rfl⟩; (try simp only [go_sem, reduceIte, Nat.reduceEqDiff, Nat.reduceLT, Nat.reduceLeDiff, Nat.reduceAdd, reduceCtorEq, Int.reduceToNat, Int.reduceLE, Int.reduceLT, Int.reduceNeg, Int.reduceEq, Int.reduceNe, Nat.reduceBEq, Nat.reduceMul, Nat.reducePow, Int.cast_ofNat_Int, *]))) | fail)
        all_goals first
          | (unfold oneOk; simp only [reduceIte, Int.reduceEq, not_true_eq_false, not_false_eq_true, false_and, true_and, and_false, and_true, false_or, or_false, *]; first | done | (simp [*]; done))
          | (unfold oneOk; simp [*]; done)
      · (simp only [go_sem, reduceIte, Nat.reduceEqDiff, Nat.reduceLT, Nat.reduceLeDiff, Nat.reduceAdd, reduceCtorEq, Int.reduceToNat, Int.reduceLE, Int.reduceLT, Int.reduceNeg, Int.reduceEq, Int.reduceNe, Nat.reduceBEq, Nat.reduceMul, Nat.reducePow, Int.cast_ofNat_Int, *])
        (repeat' first | ((first | refine split_d ?_ ?_ | refine split_gt rfl ?_ ?_ | refine split_gf rfl ?_ ?_ | refine split_b ?_ ?_ | refine split_gb rfl ?_ ?_) <;> intro _ <;> ((try simp only [go_sem, reduceIte, Nat.reduceEqDiff, Nat.reduceLT, Nat.reduceLeDiff, Nat.reduceAdd, reduceCtorEq, Int.reduceToNat, Int.reduceLE, Int.reduceLT, Int.reduceNeg, Int.reduceEq, Int.reduceNe, Nat.reduceBEq, Nat.reduceMul, Nat.reducePow, Int.cast_ofNat_Int, *]))) | ((first | (refine OpW_call rfl rfl call150 rfl ((special24_calls _ _).mono ?_)) | fail) <;> (rintro p_ S_ ⟨rfl, rfl⟩; (try simp only [go_sem, reduceIte, Nat.reduceEqDiff, Nat.reduceLT, Nat.reduceLeDiff, Nat.reduceAdd, reduceCtorEq, Int.reduceToNat, Int.reduceLE, Int.reduceLT, Int.reduceNeg, Int.reduceEq, Int.reduceNe, Nat.reduceBEq, Nat.reduceMul, Nat.reducePow, Int.cast_ofNat_Int, *]))) | fail)
        all_goals first
          | (unfold oneOk; simp only [reduceIte, Int.reduceEq, not_true_eq_false, not_false_eq_true, false_and, true_and, and_false, and_true, false_or, or_false, *]; first | done | (simp [*]; done))
          | (unfold oneOk; simp [*]; done)
    · have e : escOk pl (c :: d :: r) = false := rfl
      have hl2 : ¬ ((r.length + 1 + 1 : Nat) : Int) = 1 := by omega
      (simp only [go_sem, reduceIte, Nat.reduceEqDiff, Nat.reduceLT, Nat.reduceLeDiff, Nat.reduceAdd, reduceCtorEq, Int.reduceToNat, Int.reduceLE, Int.reduceLT, Int.reduceNeg, Int.reduceEq, Int.reduceNe, Nat.reduceBEq, Nat.reduceMul, Nat.reducePow, Int.cast_ofNat_Int, *])
      (repeat' first | ((first | refine split_d ?_ ?_ | refine split_gt rfl ?_ ?_ | refine split_gf rfl ?_ ?_ | refine split_b ?_ ?_ | refine split_gb rfl ?_ ?_) <;> intro _ <;> ((try simp only [go_sem, reduceIte, Nat.reduceEqDiff, Nat.reduceLT, Nat.reduceLeDiff, Nat.reduceAdd, reduceCtorEq, Int.reduceToNat, Int.reduceLE, Int.reduceLT, Int.reduceNeg, Int.reduceEq, Int.reduceNe, Nat.reduceBEq, Nat.reduceMul, Nat.reducePow, Int.cast_ofNat_Int, *]))) | fail)
      all_goals first
        | (unfold oneOk; simp only [reduceIte, Int.reduceEq, not_true_eq_false, not_false_eq_true, false_and, true_and, and_false, and_true, false_or, or_false, *]; first | done | (simp [*]; done))
        | (unfold oneOk; simp [*]; done)
  (simp only [go_sem, reduceIte, Nat.reduceEqDiff, Nat.reduceLT, Nat.reduceLeDiff, Nat.reduceAdd, reduceCtorEq, Int.reduceToNat, Int.reduceLE, Int.reduceLT, Int.reduceNeg, Int.reduceEq, Int.reduceNe, Nat.reduceBEq, Nat.reduceMul, Nat.reducePow, Int.cast_ofNat_Int, *])
  (repeat' first | ((first | refine split_d ?_ ?_ | refine split_gt rfl ?_ ?_ | refine split_gf rfl ?_ ?_ | refine split_b ?_ ?_ | refine split_gb rfl ?_ ?_) <;> intro _ <;> ((try simp only [go_sem, reduceIte, Nat.reduceEqDiff, Nat.reduceLT, Nat.reduceLeDiff, Nat.reduceAdd, reduceCtorEq, Int.reduceToNat, Int.reduceLE, Int.reduceLT, Int.reduceNeg, Int.reduceEq, Int.reduceNe, Nat.reduceBEq, Nat.reduceMul, Nat.reducePow, Int.cast_ofNat_Int, *]))) | fail)
  all_goals first
    | (unfold oneOk; simp only [reduceIte, Int.reduceEq, not_true_eq_false, not_false_eq_true, false_and, true_and, and_false, and_true, false_or, or_false, *]; first | done | (simp [*]; done))
    | (unfold oneOk; simp [*]; done)

theorem prows_at {l : List Pt} {i : Nat} {p : Pt} (h : l[i]? = some p) : (prows l)[i]? = some [.int .i64 p.k, .str p.text, .str p.op, .slice 5 (prows p.kids), .slice 10 p.cmds] := by rw [prows_get, h, Option.map_some, row_eq]
theorem all24_calls (n : Nat) (hn : n ≤ 1048576) : AllC 91 n := by
  induction n using Nat.strongRecOn with
  | _ n ih =>
    intro l pl hb hp S
    obtain ⟨M, hM⟩ : ∃ M, allP pl none l = M := ⟨_, rfl⟩
    rw [hM]
    have hll : l.length ≤ 1048576 := Nat.le_trans (bulks_len l) (by omega)
    have hone : ∀ (i : Nat) (p : Pt), l[i]? = some p → ∀ S, CallsQ Try.prog 126 [.agg [.int .i64 p.k, .str p.text, .str p.op, .slice 5 (prows p.kids), .slice 10 p.cmds], .int .i64 pl] S (.bool (oneP pl p)) := by
      intro i p hp' S
      have h1 := bulks_get hp'
      have h2 := bulks_kids p
      have h3 := bulk_eq p
      rw [oneP_eq]
      exact one24_calls (ih (bulks p.kids) (by omega) (by omega)) pl p.k hp p.text p.op p.kids p.cmds (Nat.le_refl _) (by omega) S
    refine CallsA_W (fun _ => false) Try.func91 rfl (Nat.le_of_ble_eq_true rfl) ?_
    simp only [Try.f91]
    (simp only [go_sem, reduceIte, Nat.reduceEqDiff, Nat.reduceLT, Nat.reduceLeDiff, Nat.reduceAdd, reduceCtorEq, Int.reduceToNat, Int.reduceLE, Int.reduceLT, Int.reduceNeg, Int.reduceEq, Int.reduceNe, Nat.reduceBEq, Nat.reduceMul, Nat.reducePow, Int.cast_ofNat_Int, *])
    refine CodeW_loop (fun m σ' S' => ∃ i : Nat, i + m = l.length ∧ σ' 0 = .slice 5 (prows l) ∧ σ' 1 = .int .i64 pl ∧ σ' 5 = .int .i64 i ∧ S' = S ∧ allP pl (if i = 0 then none else l[i - 1]?) (l.drop i) = M ∧ (∀ a, i ≠ 0 → l[i - 1]? = some a → oneP pl a = true)) l.length ?_ ?_
    · (simp only [go_sem, reduceIte, Nat.reduceEqDiff, Nat.reduceLT, Nat.reduceLeDiff, Nat.reduceAdd, reduceCtorEq, Int.reduceToNat, Int.reduceLE, Int.reduceLT, Int.reduceNeg, Int.reduceEq, Int.reduceNe, Nat.reduceBEq, Nat.reduceMul, Nat.reducePow, Int.cast_ofNat_Int, *])
      exact ⟨0, by omega, rfl, by simpa using hM, fun a h => absurd rfl h⟩
    · rintro m σ' S' ⟨i, h1, h2, h3, h4, rfl, h6, h7⟩
      clear hM
      cases hc : l[i]? with
      | none =>
        have hl : l.length ≤ i := List.getElem?_eq_none_iff.1 hc
        have hlt : ¬ ((i : Int) < (l.length : Int)) := by omega
        rw [List.drop_eq_nil_of_le hl] at h6
        simp only [allP] at h6
        subst h6
        clear hone h7
        (simp only [go_sem, reduceIte, Nat.reduceEqDiff, Nat.reduceLT, Nat.reduceLeDiff, Nat.reduceAdd, reduceCtorEq, Int.reduceToNat, Int.reduceLE, Int.reduceLT, Int.reduceNeg, Int.reduceEq, Int.reduceNe, Nat.reduceBEq, Nat.reduceMul, Nat.reducePow, Int.cast_ofNat_Int, *])
      | some p =>
        have hl := (List.getElem?_eq_some_iff.1 hc).1
        have hlt : (i : Int) < (l.length : Int) := by omega
        have hw := wrap1 hl (by omega)
        have hcall := hone i p hc
        rw [drop_at hc] at h6
        simp only [allP] at h6
        have hk := Keep.mk h6
        have hk7 := Keep.mk h7
        clear h6 h7 hone
        cases i with
        | zero =>
          have hlt0 : (0 : Int) < (l.length : Int) := by omega
          have hw0 : IntKind.i64.wrap (0 + 1) = 1 := by decide
          have hw1 : IntKind.i64.wrap 1 = 1 := by decide
          clear hlt hw
          (simp only [go_sem, reduceIte, Nat.reduceEqDiff, Nat.reduceLT, Nat.reduceLeDiff, Nat.reduceAdd, reduceCtorEq, Int.reduceToNat, Int.reduceLE, Int.reduceLT, Int.reduceNeg, Int.reduceEq, Int.reduceNe, Nat.reduceBEq, Nat.reduceMul, Nat.reducePow, Int.cast_ofNat_Int, *])
          (repeat' first | ((first | refine split_d ?_ ?_ | refine split_gt rfl ?_ ?_ | refine split_gf rfl ?_ ?_ | refine split_b ?_ ?_ | refine split_gb rfl ?_ ?_) <;> intro _ <;> ((try simp only [go_sem, reduceIte, Nat.reduceEqDiff, Nat.reduceLT, Nat.reduceLeDiff, Nat.reduceAdd, reduceCtorEq, Int.reduceToNat, Int.reduceLE, Int.reduceLT, Int.reduceNeg, Int.reduceEq, Int.reduceNe, Nat.reduceBEq, Nat.reduceMul, Nat.reducePow, Int.cast_ofNat_Int, *]))) | ((first | (refine OpW_call rfl rfl call126 rfl ((hcall _).mono ?_)) | fail) <;> (rintro p_ S_ ⟨rfl, rfl⟩; (try simp only [go_sem, reduceIte, Nat.reduceEqDiff, Nat.reduceLT, Nat.reduceLeDiff, Nat.reduceAdd, reduceCtorEq, Int.reduceToNat, Int.reduceLE, Int.reduceLT, Int.reduceNeg, Int.reduceEq, Int.reduceNe, Nat.reduceBEq, Nat.reduceMul, Nat.reducePow, Int.cast_ofNat_Int, *]))) | fail)
          · have h6 := hk.of
            simp_all
          · refine ⟨m - 1, by omega, 1, by omega, rfl, ?_, ?_⟩
            · have h6 := hk.of
              simp_all [meetOk]
            · intro a _ ha
              simp_all
        | succ j =>
          obtain ⟨a, hja⟩ : ∃ a, l[j]? = some a := ⟨_, List.getElem?_eq_getElem (by omega)⟩
          have hw2 : IntKind.i64.wrap (((j + 1 : Nat) : Int) - 1) = (j : Int) := by rw [wrap_in (by omega)]; omega
          have hj0 : ¬ ((j + 1 : Nat) : Int) = 0 := by omega
          have hoa := hk7.of a (by omega) (by simpa using hja)
          have hab := bulks_get hja
          have hatl := bulk_eq a
          clear hk7
          by_cases ka : a.k = 1
          · have htx := lit_text hoa ka
            obtain ⟨c, hlast⟩ : ∃ c, a.text[a.text.length - 1]? = some c := ⟨_, List.getElem?_eq_getElem (by have := List.length_pos_iff.2 htx; omega)⟩
            have hgl : a.text.getLast? = some c := by rw [List.getLast?_eq_getElem?]; exact hlast
            have hw3 : IntKind.i64.wrap ((a.text.length : Int) - 1) = ((a.text.length - 1 : Nat) : Int) := by
              have := List.length_pos_iff.2 htx
              rw [wrap_in (by omega)]; omega
            have hm : Keep (meetOk (some a) p = if p.k = 1 then false else if (c.toNat : Int) = 36 ∧ (p.k = 5 ∨ p.k = 6 ∨ p.k = 7) then false else true) := by
              constructor
              unfold meetOk
              have e36 : ((c.toNat : Int) = 36) ↔ c = 36 := u8_eq (d := 36)
              simp only [ka, hgl, e36, Option.some.injEq, not_true_eq_false, if_false]
            clear hatl hab htx hgl hoa
            (simp only [go_sem, reduceIte, Nat.reduceEqDiff, Nat.reduceLT, Nat.reduceLeDiff, Nat.reduceAdd, reduceCtorEq, Int.reduceToNat, Int.reduceLE, Int.reduceLT, Int.reduceNeg, Int.reduceEq, Int.reduceNe, Nat.reduceBEq, Nat.reduceMul, Nat.reducePow, Int.cast_ofNat_Int, *])
            (repeat' first | ((first | refine split_d ?_ ?_ | refine split_gt rfl ?_ ?_ | refine split_gf rfl ?_ ?_ | refine split_b ?_ ?_ | refine split_gb rfl ?_ ?_) <;> intro _ <;> ((try simp only [go_sem, reduceIte, Nat.reduceEqDiff, Nat.reduceLT, Nat.reduceLeDiff, Nat.reduceAdd, reduceCtorEq, Int.reduceToNat, Int.reduceLE, Int.reduceLT, Int.reduceNeg, Int.reduceEq, Int.reduceNe, Nat.reduceBEq, Nat.reduceMul, Nat.reducePow, Int.cast_ofNat_Int, *]))) | ((first | (refine OpW_call rfl rfl call126 rfl ((hcall _).mono ?_)) | fail) <;> (rintro p_ S_ ⟨rfl, rfl⟩; (try simp only [go_sem, reduceIte, Nat.reduceEqDiff, Nat.reduceLT, Nat.reduceLeDiff, Nat.reduceAdd, reduceCtorEq, Int.reduceToNat, Int.reduceLE, Int.reduceLT, Int.reduceNeg, Int.reduceEq, Int.reduceNe, Nat.reduceBEq, Nat.reduceMul, Nat.reducePow, Int.cast_ofNat_Int, *]))) | fail)
            all_goals
              have h6 := hk.of
              have hm' := hm.of
              clear hk hm hcall
              simp only [Nat.add_one_sub_one, Nat.succ_ne_zero, if_false, hja] at h6
              first
                | (rw [← h6]; simp_all; done)
                | (refine ⟨m - 1, by omega, j + 1 + 1, by omega, rfl, ?_, fun a' _ ha' => ?_⟩ <;> simp_all; done)
          · have hm : Keep (meetOk (some a) p = true) := by
              constructor
              unfold meetOk
              simp [ka]
            clear hatl hab hoa
            (simp only [go_sem, reduceIte, Nat.reduceEqDiff, Nat.reduceLT, Nat.reduceLeDiff, Nat.reduceAdd, reduceCtorEq, Int.reduceToNat, Int.reduceLE, Int.reduceLT, Int.reduceNeg, Int.reduceEq, Int.reduceNe, Nat.reduceBEq, Nat.reduceMul, Nat.reducePow, Int.cast_ofNat_Int, *])
            (repeat' first | ((first | refine split_d ?_ ?_ | refine split_gt rfl ?_ ?_ | refine split_gf rfl ?_ ?_ | refine split_b ?_ ?_ | refine split_gb rfl ?_ ?_) <;> intro _ <;> ((try simp only [go_sem, reduceIte, Nat.reduceEqDiff, Nat.reduceLT, Nat.reduceLeDiff, Nat.reduceAdd, reduceCtorEq, Int.reduceToNat, Int.reduceLE, Int.reduceLT, Int.reduceNeg, Int.reduceEq, Int.reduceNe, Nat.reduceBEq, Nat.reduceMul, Nat.reducePow, Int.cast_ofNat_Int, *]))) | ((first | (refine OpW_call rfl rfl call126 rfl ((hcall _).mono ?_)) | fail) <;> (rintro p_ S_ ⟨rfl, rfl⟩; (try simp only [go_sem, reduceIte, Nat.reduceEqDiff, Nat.reduceLT, Nat.reduceLeDiff, Nat.reduceAdd, reduceCtorEq, Int.reduceToNat, Int.reduceLE, Int.reduceLT, Int.reduceNeg, Int.reduceEq, Int.reduceNe, Nat.reduceBEq, Nat.reduceMul, Nat.reducePow, Int.cast_ofNat_Int, *]))) | fail)
            all_goals
              have h6 := hk.of
              have hm' := hm.of
              clear hk hm hcall
              simp only [Nat.add_one_sub_one, Nat.succ_ne_zero, if_false, hja] at h6
              first
                | (rw [← h6]; simp_all; done)
                | (refine ⟨m - 1, by omega, j + 1 + 1, by omega, rfl, ?_, fun a' _ ha' => ?_⟩ <;> simp_all; done)

end Go.Proofs.Ytcbonfgkfiapaaa.Pv

/-! What the reference of package part computes: whether a word is right; how many parts, how deep; whether they are the same. And how much the laws count. -/
set_option linter.unusedVariables false
set_option linter.unusedSimpArgs false
set_option maxRecDepth 100000
set_option maxHeartbeats 40000000
namespace Go.Proofs.Ytcbonfgkfiapaaa.Pv
open Go Go.RowKit

theorem right24_calls (l : List Pt) (hb : bulks l ≤ 1048576) (S : Heap) : CallsQ Try.prog 35 [.agg [.slice 5 (prows l)]] S (.bool (rightW l)) := by
  have hall := fun S => all24_calls 1048576 (Nat.le_refl _) l 0 hb (Or.inl rfl) S
  refine CallsA_W (fun _ => false) Try.func35 rfl (Nat.le_of_ble_eq_true rfl) ?_
  simp only [Try.f35]
  rcases l with _ | ⟨p, r⟩
  · (simp only [go_sem, reduceIte, Nat.reduceEqDiff, Nat.reduceLT, Nat.reduceLeDiff, Nat.reduceAdd, reduceCtorEq, Int.reduceToNat, Int.reduceLE, Int.reduceLT, Int.reduceNeg, Int.reduceEq, Int.reduceNe, Nat.reduceBEq, Nat.reduceMul, Nat.reducePow, Int.cast_ofNat_Int, *])
    rfl
  · have hl1 : ¬ ((r.length + 1 : Nat) : Int) = 0 := by omega
    have hr : rightW (p :: r) = (allP 0 none (p :: r) && (decide (¬ p.k = 1) || decide (¬ p.text.head? = some 35))) := rfl
    have hf : Keep (allP 0 none (p :: r) = true → p.k = 1 → ∃ c, p.text.head? = some c ∧ p.text[0]? = some c) := by
      constructor
      intro h hq
      simp only [allP, Bool.and_eq_true] at h
      have := lit_text h.1 hq
      cases hx : p.text with
      | nil => exact absurd hx this
      | cons c s => exact ⟨c, rfl, rfl⟩
    rw [hr]
    clear hr
    generalize allP 0 none (p :: r) = B at *
    cases B with
    | false =>
      (simp only [go_sem, reduceIte, Nat.reduceEqDiff, Nat.reduceLT, Nat.reduceLeDiff, Nat.reduceAdd, reduceCtorEq, Int.reduceToNat, Int.reduceLE, Int.reduceLT, Int.reduceNeg, Int.reduceEq, Int.reduceNe, Nat.reduceBEq, Nat.reduceMul, Nat.reducePow, Int.cast_ofNat_Int, *])
      (repeat' first | ((first | refine split_d ?_ ?_ | refine split_gt rfl ?_ ?_ | refine split_gf rfl ?_ ?_ | refine split_b ?_ ?_ | refine split_gb rfl ?_ ?_) <;> intro _ <;> ((try simp only [go_sem, reduceIte, Nat.reduceEqDiff, Nat.reduceLT, Nat.reduceLeDiff, Nat.reduceAdd, reduceCtorEq, Int.reduceToNat, Int.reduceLE, Int.reduceLT, Int.reduceNeg, Int.reduceEq, Int.reduceNe, Nat.reduceBEq, Nat.reduceMul, Nat.reducePow, Int.cast_ofNat_Int, *]))) | ((first | (refine OpW_call rfl rfl call91 rfl ((hall _).mono ?_)) | fail) <;> (rintro p_ S_ ⟨rfl, rfl⟩; (try simp only [go_sem, reduceIte, Nat.reduceEqDiff, Nat.reduceLT, Nat.reduceLeDiff, Nat.reduceAdd, reduceCtorEq, Int.reduceToNat, Int.reduceLE, Int.reduceLT, Int.reduceNeg, Int.reduceEq, Int.reduceNe, Nat.reduceBEq, Nat.reduceMul, Nat.reducePow, Int.cast_ofNat_Int, *]))) | fail)
      all_goals rfl
    | true =>
      by_cases k1 : p.k = 1
      · obtain ⟨c, h1, h2⟩ := hf.of rfl k1
        have e35 : ((c.toNat : Int) = 35) ↔ c = 35 := u8_eq (d := 35)
        rw [h1]
        have e : decide (¬ some c = some (35 : UInt8)) = decide (¬ (c.toNat : Int) = 35) := by simp [e35]
        rw [e]
        clear e e35 hf h1
        (simp only [go_sem, reduceIte, Nat.reduceEqDiff, Nat.reduceLT, Nat.reduceLeDiff, Nat.reduceAdd, reduceCtorEq, Int.reduceToNat, Int.reduceLE, Int.reduceLT, Int.reduceNeg, Int.reduceEq, Int.reduceNe, Nat.reduceBEq, Nat.reduceMul, Nat.reducePow, Int.cast_ofNat_Int, *])
        (repeat' first | ((first | refine split_d ?_ ?_ | refine split_gt rfl ?_ ?_ | refine split_gf rfl ?_ ?_ | refine split_b ?_ ?_ | refine split_gb rfl ?_ ?_) <;> intro _ <;> ((try simp only [go_sem, reduceIte, Nat.reduceEqDiff, Nat.reduceLT, Nat.reduceLeDiff, Nat.reduceAdd, reduceCtorEq, Int.reduceToNat, Int.reduceLE, Int.reduceLT, Int.reduceNeg, Int.reduceEq, Int.reduceNe, Nat.reduceBEq, Nat.reduceMul, Nat.reducePow, Int.cast_ofNat_Int, *]))) | ((first | (refine OpW_call rfl rfl call91 rfl ((hall _).mono ?_)) | fail) <;> (rintro p_ S_ ⟨rfl, rfl⟩; (try simp only [go_sem, reduceIte, Nat.reduceEqDiff, Nat.reduceLT, Nat.reduceLeDiff, Nat.reduceAdd, reduceCtorEq, Int.reduceToNat, Int.reduceLE, Int.reduceLT, Int.reduceNeg, Int.reduceEq, Int.reduceNe, Nat.reduceBEq, Nat.reduceMul, Nat.reducePow, Int.cast_ofNat_Int, *]))) | fail)
        all_goals simp [*]
      · clear hf
        (simp only [go_sem, reduceIte, Nat.reduceEqDiff, Nat.reduceLT, Nat.reduceLeDiff, Nat.reduceAdd, reduceCtorEq, Int.reduceToNat, Int.reduceLE, Int.reduceLT, Int.reduceNeg, Int.reduceEq, Int.reduceNe, Nat.reduceBEq, Nat.reduceMul, Nat.reducePow, Int.cast_ofNat_Int, *])
        (repeat' first | ((first | refine split_d ?_ ?_ | refine split_gt rfl ?_ ?_ | refine split_gf rfl ?_ ?_ | refine split_b ?_ ?_ | refine split_gb rfl ?_ ?_) <;> intro _ <;> ((try simp only [go_sem, reduceIte, Nat.reduceEqDiff, Nat.reduceLT, Nat.reduceLeDiff, Nat.reduceAdd, reduceCtorEq, Int.reduceToNat, Int.reduceLE, Int.reduceLT, Int.reduceNeg, Int.reduceEq, Int.reduceNe, Nat.reduceBEq, Nat.reduceMul, Nat.reducePow, Int.cast_ofNat_Int, *]))) | ((first | (refine OpW_call rfl rfl call91 rfl ((hall _).mono ?_)) | fail) <;> (rintro p_ S_ ⟨rfl, rfl⟩; (try simp only [go_sem, reduceIte, Nat.reduceEqDiff, Nat.reduceLT, Nat.reduceLeDiff, Nat.reduceAdd, reduceCtorEq, Int.reduceToNat, Int.reduceLE, Int.reduceLT, Int.reduceNeg, Int.reduceEq, Int.reduceNe, Nat.reduceBEq, Nat.reduceMul, Nat.reducePow, Int.cast_ofNat_Int, *]))) | fail)
        all_goals simp [*]

/-! Count -/
mutual
def Pt.count : Pt → Nat
  | .mk _ _ _ ks _ => 1 + counts ks
def counts : List Pt → Nat
  | [] => 0
  | p :: ps => p.count + counts ps
end
theorem count_eq (p : Pt) : p.count = 1 + counts p.kids := by cases p; simp only [Pt.count, Pt.kids]
def kidCounts : List Pt → Nat
  | [] => 0
  | p :: ps => counts p.kids + kidCounts ps
theorem counts_split (l : List Pt) : counts l = l.length + kidCounts l := by
  induction l with
  | nil => rfl
  | cons p l ih => simp only [counts, kidCounts, List.length_cons, count_eq, ih]; omega
mutual
theorem count_bulk : ∀ p : Pt, p.count ≤ p.bulk
  | .mk _ _ _ ks _ => by simp only [Pt.count, Pt.bulk]; have := counts_bulk ks; omega
theorem counts_bulk : ∀ l : List Pt, counts l ≤ bulks l
  | [] => by simp [counts]
  | p :: ps => by simp only [counts, bulks]; have := count_bulk p; have := counts_bulk ps; omega
end
theorem bulks_drop (l : List Pt) (i : Nat) : bulks (l.drop i) ≤ bulks l := by
  conv => rhs; rw [← List.take_append_drop i l]
  rw [bulks_app]; omega
theorem kid_lt {l : List Pt} {i : Nat} {p : Pt} {n : Nat} (h : l[i]? = some p) (hb : bulks l ≤ n) : bulks p.kids < n := by
  have h1 := bulks_get h
  have h2 := bulks_kids p
  omega
theorem count24_calls : ∀ (n : Nat), n ≤ 1048576 → ∀ (l : List Pt), bulks l ≤ n → ∀ S, CallsQ Try.prog 65 [.slice 5 (prows l)] S (.int .i64 (counts l : Int)) := by
  intro n
  induction n using Nat.strongRecOn with
  | _ n ih =>
    intro hn l hb S
    have hll : l.length ≤ 1048576 := Nat.le_trans (bulks_len l) (by omega)
    have hcb := counts_bulk l
    obtain ⟨T, hT⟩ : ∃ T, counts l = T := ⟨_, rfl⟩
    rw [hT]
    have hk : ∀ (i : Nat) (p : Pt), l[i]? = some p → ∀ S, CallsQ Try.prog 65 [.slice 5 (prows p.kids)] S (.int .i64 (counts p.kids : Int)) := fun i p hp S => by
      have := kid_lt hp hb
      exact ih _ this (by omega) p.kids (Nat.le_refl _) S
    refine CallsA_W (fun _ => false) Try.func65 rfl (Nat.le_of_ble_eq_true rfl) ?_
    simp only [Try.f65]
    (simp only [go_sem, reduceIte, Nat.reduceEqDiff, Nat.reduceLT, Nat.reduceLeDiff, Nat.reduceAdd, reduceCtorEq, Int.reduceToNat, Int.reduceLE, Int.reduceLT, Int.reduceNeg, Int.reduceEq, Int.reduceNe, Nat.reduceBEq, Nat.reduceMul, Nat.reducePow, Int.cast_ofNat_Int, *])
    refine CodeW_loop (fun m σ' S' => ∃ i a : Nat, i + m = l.length ∧ σ' 0 = .slice 5 (prows l) ∧ σ' 3 = .int .i64 (a : Int) ∧ σ' 4 = .int .i64 i ∧ S' = S ∧ a + kidCounts (l.drop i) = T) l.length ?_ ?_
    · (simp only [go_sem, reduceIte, Nat.reduceEqDiff, Nat.reduceLT, Nat.reduceLeDiff, Nat.reduceAdd, reduceCtorEq, Int.reduceToNat, Int.reduceLE, Int.reduceLT, Int.reduceNeg, Int.reduceEq, Int.reduceNe, Nat.reduceBEq, Nat.reduceMul, Nat.reducePow, Int.cast_ofNat_Int, *])
      exact ⟨0, l.length, by omega, rfl, rfl, by rw [← hT, counts_split]; simp⟩
    · rintro m σ' S' ⟨i, a, h1, h2, h3, h4, rfl, h6⟩
      cases hc : l[i]? with
      | none =>
        have hl : l.length ≤ i := List.getElem?_eq_none_iff.1 hc
        have hlt : ¬ ((i : Int) < (l.length : Int)) := by omega
        rw [List.drop_eq_nil_of_le hl] at h6
        simp only [kidCounts, Nat.add_zero] at h6
        subst h6
        clear hk hT
        (simp only [go_sem, reduceIte, Nat.reduceEqDiff, Nat.reduceLT, Nat.reduceLeDiff, Nat.reduceAdd, reduceCtorEq, Int.reduceToNat, Int.reduceLE, Int.reduceLT, Int.reduceNeg, Int.reduceEq, Int.reduceNe, Nat.reduceBEq, Nat.reduceMul, Nat.reducePow, Int.cast_ofNat_Int, *])
      | some p =>
        have hl := (List.getElem?_eq_some_iff.1 hc).1
        have hlt : (i : Int) < (l.length : Int) := by omega
        have hw := wrap1 hl (by omega)
        have hcall := hk i p hc
        rw [drop_at hc] at h6
        simp only [kidCounts] at h6
        have hw2 : IntKind.i64.wrap ((a : Int) + (counts p.kids : Int)) = ((a + counts p.kids : Nat) : Int) := by rw [wrap_in (by omega)]; rfl
        clear hk hT
        (simp only [go_sem, reduceIte, Nat.reduceEqDiff, Nat.reduceLT, Nat.reduceLeDiff, Nat.reduceAdd, reduceCtorEq, Int.reduceToNat, Int.reduceLE, Int.reduceLT, Int.reduceNeg, Int.reduceEq, Int.reduceNe, Nat.reduceBEq, Nat.reduceMul, Nat.reducePow, Int.cast_ofNat_Int, *])
        (repeat' first | ((first | refine split_d ?_ ?_ | refine split_gt rfl ?_ ?_ | refine split_gf rfl ?_ ?_ | refine split_b ?_ ?_ | refine split_gb rfl ?_ ?_) <;> intro _ <;> ((try simp only [go_sem, reduceIte, Nat.reduceEqDiff, Nat.reduceLT, Nat.reduceLeDiff, Nat.reduceAdd, reduceCtorEq, Int.reduceToNat, Int.reduceLE, Int.reduceLT, Int.reduceNeg, Int.reduceEq, Int.reduceNe, Nat.reduceBEq, Nat.reduceMul, Nat.reducePow, Int.cast_ofNat_Int, *]))) | ((first | (refine OpW_call rfl rfl call65 rfl ((hcall _).mono ?_)) | fail) <;> (rintro p_ S_ ⟨rfl, rfl⟩; (try simp only [go_sem, reduceIte, Nat.reduceEqDiff, Nat.reduceLT, Nat.reduceLeDiff, Nat.reduceAdd, reduceCtorEq, Int.reduceToNat, Int.reduceLE, Int.reduceLT, Int.reduceNeg, Int.reduceEq, Int.reduceNe, Nat.reduceBEq, Nat.reduceMul, Nat.reducePow, Int.cast_ofNat_Int, *]))) | fail)
        exact ⟨m - 1, by omega, i + 1, a + counts p.kids, by omega, rfl, rfl, by omega⟩

/-! Deep -/
mutual
def Pt.deep : Pt → Nat
  | .mk _ _ _ ks _ => 1 + deeps ks
def deeps : List Pt → Nat
  | [] => 0
  | p :: ps => max p.deep (deeps ps)
end
theorem deep_eq (p : Pt) : p.deep = 1 + deeps p.kids := by cases p; simp only [Pt.deep, Pt.kids]
mutual
theorem deep_bulk : ∀ p : Pt, p.deep ≤ p.bulk
  | .mk _ _ _ ks _ => by simp only [Pt.deep, Pt.bulk]; have := deeps_bulk ks; omega
theorem deeps_bulk : ∀ l : List Pt, deeps l ≤ bulks l
  | [] => by simp [deeps]
  | p :: ps => by simp only [deeps, bulks]; have := deep_bulk p; have := deeps_bulk ps; omega
end
theorem deep24_calls : ∀ (n : Nat), n ≤ 1048576 → ∀ (l : List Pt), bulks l ≤ n → ∀ S, CallsQ Try.prog 67 [.slice 5 (prows l)] S (.int .i64 (deeps l : Int)) := by
  intro n
  induction n using Nat.strongRecOn with
  | _ n ih =>
    intro hn l hb S
    have hll : l.length ≤ 1048576 := Nat.le_trans (bulks_len l) (by omega)
    have hcb := deeps_bulk l
    obtain ⟨T, hT⟩ : ∃ T, deeps l = T := ⟨_, rfl⟩
    rw [hT]
    have hk : ∀ (i : Nat) (p : Pt), l[i]? = some p → ∀ S, CallsQ Try.prog 67 [.slice 5 (prows p.kids)] S (.int .i64 (deeps p.kids : Int)) := fun i p hp S => by
      have := kid_lt hp hb
      exact ih _ this (by omega) p.kids (Nat.le_refl _) S
    refine CallsA_W (fun _ => false) Try.func67 rfl (Nat.le_of_ble_eq_true rfl) ?_
    simp only [Try.f67]
    (simp only [go_sem, reduceIte, Nat.reduceEqDiff, Nat.reduceLT, Nat.reduceLeDiff, Nat.reduceAdd, reduceCtorEq, Int.reduceToNat, Int.reduceLE, Int.reduceLT, Int.reduceNeg, Int.reduceEq, Int.reduceNe, Nat.reduceBEq, Nat.reduceMul, Nat.reducePow, Int.cast_ofNat_Int, *])
    refine CodeW_loop (fun m σ' S' => ∃ i a : Nat, i + m = l.length ∧ σ' 0 = .slice 5 (prows l) ∧ σ' 3 = .int .i64 (a : Int) ∧ σ' 4 = .int .i64 i ∧ S' = S ∧ max a (deeps (l.drop i)) = T) l.length ?_ ?_
    · (simp only [go_sem, reduceIte, Nat.reduceEqDiff, Nat.reduceLT, Nat.reduceLeDiff, Nat.reduceAdd, reduceCtorEq, Int.reduceToNat, Int.reduceLE, Int.reduceLT, Int.reduceNeg, Int.reduceEq, Int.reduceNe, Nat.reduceBEq, Nat.reduceMul, Nat.reducePow, Int.cast_ofNat_Int, *])
      exact ⟨0, 0, by omega, rfl, rfl, by simpa using hT⟩
    · rintro m σ' S' ⟨i, a, h1, h2, h3, h4, rfl, h6⟩
      cases hc : l[i]? with
      | none =>
        have hl : l.length ≤ i := List.getElem?_eq_none_iff.1 hc
        have hlt : ¬ ((i : Int) < (l.length : Int)) := by omega
        rw [List.drop_eq_nil_of_le hl] at h6
        simp only [deeps, Nat.max_zero] at h6
        subst h6
        clear hk hT
        (simp only [go_sem, reduceIte, Nat.reduceEqDiff, Nat.reduceLT, Nat.reduceLeDiff, Nat.reduceAdd, reduceCtorEq, Int.reduceToNat, Int.reduceLE, Int.reduceLT, Int.reduceNeg, Int.reduceEq, Int.reduceNe, Nat.reduceBEq, Nat.reduceMul, Nat.reducePow, Int.cast_ofNat_Int, *])
      | some p =>
        have hl := (List.getElem?_eq_some_iff.1 hc).1
        have hlt : (i : Int) < (l.length : Int) := by omega
        have hw := wrap1 hl (by omega)
        have hcall := hk i p hc
        have hkb := kid_lt hc hb
        have hkd := deeps_bulk p.kids
        rw [drop_at hc] at h6
        simp only [deeps, deep_eq] at h6
        have hw2 : IntKind.i64.wrap (1 + (deeps p.kids : Int)) = ((1 + deeps p.kids : Nat) : Int) := by rw [wrap_in (by omega)]; rfl
        have h6' := Keep.mk h6
        clear hk hT h6
        (simp only [go_sem, reduceIte, Nat.reduceEqDiff, Nat.reduceLT, Nat.reduceLeDiff, Nat.reduceAdd, reduceCtorEq, Int.reduceToNat, Int.reduceLE, Int.reduceLT, Int.reduceNeg, Int.reduceEq, Int.reduceNe, Nat.reduceBEq, Nat.reduceMul, Nat.reducePow, Int.cast_ofNat_Int, *])
        (repeat' first | ((first | refine split_d ?_ ?_ | refine split_gt rfl ?_ ?_ | refine split_gf rfl ?_ ?_ | refine split_b ?_ ?_ | refine split_gb rfl ?_ ?_) <;> intro _ <;> ((try simp only [go_sem, reduceIte, Nat.reduceEqDiff, Nat.reduceLT, Nat.reduceLeDiff, Nat.reduceAdd, reduceCtorEq, Int.reduceToNat, Int.reduceLE, Int.reduceLT, Int.reduceNeg, Int.reduceEq, Int.reduceNe, Nat.reduceBEq, Nat.reduceMul, Nat.reducePow, Int.cast_ofNat_Int, *]))) | ((first | (refine OpW_call rfl rfl call67 rfl ((hcall _).mono ?_)) | fail) <;> (rintro p_ S_ ⟨rfl, rfl⟩; (try simp only [go_sem, reduceIte, Nat.reduceEqDiff, Nat.reduceLT, Nat.reduceLeDiff, Nat.reduceAdd, reduceCtorEq, Int.reduceToNat, Int.reduceLE, Int.reduceLT, Int.reduceNeg, Int.reduceEq, Int.reduceNe, Nat.reduceBEq, Nat.reduceMul, Nat.reducePow, Int.cast_ofNat_Int, *]))) | fail)
        have h6 := h6'.of
        refine ⟨m - 1, by omega, i + 1, max a (1 + deeps p.kids), by omega, ?_, rfl, by omega⟩
        refine congrArg (PV.int IntKind.i64) ?_
        split <;> omega

/-! Same -/
mutual
def Pt.same : Pt → Pt → Bool
  | .mk k t o ks _, q => decide (k = q.k) && (decide (t = q.text) && (decide (o = q.op) && sames ks q.kids))
def sames : List Pt → List Pt → Bool
  | [], [] => true
  | [], _ :: _ => false
  | _ :: _, [] => false
  | p :: ps, q :: qs => p.same q && sames ps qs
end
theorem same_eq (p q : Pt) : p.same q = (decide (p.k = q.k) && (decide (p.text = q.text) && (decide (p.op = q.op) && sames p.kids q.kids))) := by
  cases p; cases q; simp only [Pt.same]; rfl
theorem sames_len : ∀ {a b : List Pt}, sames a b = true → a.length = b.length
  | [], [], _ => rfl
  | [], _ :: _, h => by simp [sames] at h
  | _ :: _, [], h => by simp [sames] at h
  | p :: ps, q :: qs, h => by
    simp only [sames, Bool.and_eq_true] at h
    simp [sames_len h.2]
theorem same24_calls : ∀ (n : Nat), n ≤ 1048576 → ∀ (a b : List Pt), bulks a ≤ n → ∀ S, CallsQ Try.prog 38 [.slice 5 (prows a), .slice 5 (prows b)] S (.bool (sames a b)) := by
  intro n
  induction n using Nat.strongRecOn with
  | _ n ih =>
    intro hn a b hb S
    have hll : a.length ≤ 1048576 := Nat.le_trans (bulks_len a) (by omega)
    have hk : ∀ (i : Nat) (p : Pt), a[i]? = some p → ∀ q : Pt, ∀ S, CallsQ Try.prog 38 [.slice 5 (prows p.kids), .slice 5 (prows q.kids)] S (.bool (sames p.kids q.kids)) := fun i p hp q S => by
      have := kid_lt hp hb
      exact ih _ this (by omega) p.kids q.kids (Nat.le_refl _) S
    by_cases hlen : (a.length : Int) = (b.length : Int)
    · obtain ⟨T, hT⟩ : ∃ T, sames a b = T := ⟨_, rfl⟩
      rw [hT]
      refine CallsA_W (fun _ => false) Try.func38 rfl (Nat.le_of_ble_eq_true rfl) ?_
      simp only [Try.f38]
      (simp only [go_sem, reduceIte, Nat.reduceEqDiff, Nat.reduceLT, Nat.reduceLeDiff, Nat.reduceAdd, reduceCtorEq, Int.reduceToNat, Int.reduceLE, Int.reduceLT, Int.reduceNeg, Int.reduceEq, Int.reduceNe, Nat.reduceBEq, Nat.reduceMul, Nat.reducePow, Int.cast_ofNat_Int, *])
      refine CodeW_loop (fun m σ' S' => ∃ i : Nat, i + m = a.length ∧ σ' 0 = .slice 5 (prows a) ∧ σ' 1 = .slice 5 (prows b) ∧ σ' 5 = .int .i64 i ∧ S' = S ∧ sames (a.drop i) (b.drop i) = T) a.length ?_ ?_
      · (simp only [go_sem, reduceIte, Nat.reduceEqDiff, Nat.reduceLT, Nat.reduceLeDiff, Nat.reduceAdd, reduceCtorEq, Int.reduceToNat, Int.reduceLE, Int.reduceLT, Int.reduceNeg, Int.reduceEq, Int.reduceNe, Nat.reduceBEq, Nat.reduceMul, Nat.reducePow, Int.cast_ofNat_Int, *])
        exact ⟨0, by omega, rfl, by simpa using hT⟩
      · rintro m σ' S' ⟨i, h1, h2, h3, h4, rfl, h6⟩
        cases hc : a[i]? with
        | none =>
          have hl : a.length ≤ i := List.getElem?_eq_none_iff.1 hc
          have hlt : ¬ ((i : Int) < (a.length : Int)) := by omega
          have hlt2 : ¬ ((i : Int) < (b.length : Int)) := by omega
          rw [List.drop_eq_nil_of_le hl, List.drop_eq_nil_of_le (by omega)] at h6
          simp only [sames] at h6
          subst h6
          clear hk hT hlen
          (simp only [go_sem, reduceIte, Nat.reduceEqDiff, Nat.reduceLT, Nat.reduceLeDiff, Nat.reduceAdd, reduceCtorEq, Int.reduceToNat, Int.reduceLE, Int.reduceLT, Int.reduceNeg, Int.reduceEq, Int.reduceNe, Nat.reduceBEq, Nat.reduceMul, Nat.reducePow, Int.cast_ofNat_Int, *])
        | some p =>
          have hl := (List.getElem?_eq_some_iff.1 hc).1
          have hlt : (i : Int) < (a.length : Int) := by omega
          have hlt2 : (i : Int) < (b.length : Int) := by omega
          obtain ⟨q, hq⟩ : ∃ q, b[i]? = some q := ⟨_, List.getElem?_eq_getElem (by omega)⟩
          have hw := wrap1 hl (by omega)
          have hcall := hk i p hc q
          rw [drop_at hc, drop_at hq] at h6
          simp only [sames, same_eq] at h6
          have h6' := Keep.mk h6
          clear hk hT h6 hlen
          (simp only [go_sem, reduceIte, Nat.reduceEqDiff, Nat.reduceLT, Nat.reduceLeDiff, Nat.reduceAdd, reduceCtorEq, Int.reduceToNat, Int.reduceLE, Int.reduceLT, Int.reduceNeg, Int.reduceEq, Int.reduceNe, Nat.reduceBEq, Nat.reduceMul, Nat.reducePow, Int.cast_ofNat_Int, *])
          refine CodeW_quiet mixed 51 (by kernel_rfl) ?_
          by_cases e1 : p.k = q.k
          · by_cases e2 : p.text = q.text
            · by_cases e3 : p.op = q.op
              · (simp only [go_sem, reduceIte, Nat.reduceEqDiff, Nat.reduceLT, Nat.reduceLeDiff, Nat.reduceAdd, reduceCtorEq, Int.reduceToNat, Int.reduceLE, Int.reduceLT, Int.reduceNeg, Int.reduceEq, Int.reduceNe, Nat.reduceBEq, Nat.reduceMul, Nat.reducePow, Int.cast_ofNat_Int, *])
                refine QCW_call rfl rfl call38 (hcall _) ?_
                generalize sames p.kids q.kids = B at *
                cases B with
                | false =>
                  (simp only [go_sem, reduceIte, Nat.reduceEqDiff, Nat.reduceLT, Nat.reduceLeDiff, Nat.reduceAdd, reduceCtorEq, Int.reduceToNat, Int.reduceLE, Int.reduceLT, Int.reduceNeg, Int.reduceEq, Int.reduceNe, Nat.reduceBEq, Nat.reduceMul, Nat.reducePow, Int.cast_ofNat_Int, *])
                  have h6 := h6'.of
                  simp at h6
                  rw [h6]
                | true =>
                  (simp only [go_sem, reduceIte, Nat.reduceEqDiff, Nat.reduceLT, Nat.reduceLeDiff, Nat.reduceAdd, reduceCtorEq, Int.reduceToNat, Int.reduceLE, Int.reduceLT, Int.reduceNeg, Int.reduceEq, Int.reduceNe, Nat.reduceBEq, Nat.reduceMul, Nat.reducePow, Int.cast_ofNat_Int, *])
                  refine ⟨m - 1, by omega, i + 1, by omega, rfl, ?_⟩
                  have h6 := h6'.of
                  simpa [e1, e2, e3] using h6
              · (simp only [go_sem, reduceIte, Nat.reduceEqDiff, Nat.reduceLT, Nat.reduceLeDiff, Nat.reduceAdd, reduceCtorEq, Int.reduceToNat, Int.reduceLE, Int.reduceLT, Int.reduceNeg, Int.reduceEq, Int.reduceNe, Nat.reduceBEq, Nat.reduceMul, Nat.reducePow, Int.cast_ofNat_Int, *])
                have h6 := h6'.of
                simp [e3] at h6
                rw [h6]
            · (simp only [go_sem, reduceIte, Nat.reduceEqDiff, Nat.reduceLT, Nat.reduceLeDiff, Nat.reduceAdd, reduceCtorEq, Int.reduceToNat, Int.reduceLE, Int.reduceLT, Int.reduceNeg, Int.reduceEq, Int.reduceNe, Nat.reduceBEq, Nat.reduceMul, Nat.reducePow, Int.cast_ofNat_Int, *])
              have h6 := h6'.of
              simp [e2] at h6
              rw [h6]
          · (simp only [go_sem, reduceIte, Nat.reduceEqDiff, Nat.reduceLT, Nat.reduceLeDiff, Nat.reduceAdd, reduceCtorEq, Int.reduceToNat, Int.reduceLE, Int.reduceLT, Int.reduceNeg, Int.reduceEq, Int.reduceNe, Nat.reduceBEq, Nat.reduceMul, Nat.reducePow, Int.cast_ofNat_Int, *])
            have h6 := h6'.of
            simp [e1] at h6
            rw [h6]
    · have hT : sames a b = false := by
        cases h : sames a b with
        | false => rfl
        | true => exact absurd (congrArg Int.ofNat (sames_len h)) hlen
      rw [hT]
      refine CallsA_W (fun _ => false) Try.func38 rfl (Nat.le_of_ble_eq_true rfl) ?_
      simp only [Try.f38]
      (simp only [go_sem, reduceIte, Nat.reduceEqDiff, Nat.reduceLT, Nat.reduceLeDiff, Nat.reduceAdd, reduceCtorEq, Int.reduceToNat, Int.reduceLE, Int.reduceLT, Int.reduceNeg, Int.reduceEq, Int.reduceNe, Nat.reduceBEq, Nat.reduceMul, Nat.reducePow, Int.cast_ofNat_Int, *])

/-! How much there is -/
mutual
def Pt.mAdd : Pt → Nat
  | .mk _ t o ks cs => t.length / 10 + o.length / 10 + cs.length + muchGo ks.length ks
def muchGo (n : Nat) : List Pt → Nat
  | [] => n
  | p :: ps => if n ≤ 1000 then muchGo (n + p.mAdd) ps else n
end
theorem mAdd_eq (p : Pt) : p.mAdd = p.text.length / 10 + p.op.length / 10 + p.cmds.length + muchGo p.kids.length p.kids := by cases p; simp only [Pt.mAdd, Pt.text, Pt.op, Pt.kids, Pt.cmds]
mutual
theorem mAdd_bulk : ∀ p : Pt, p.mAdd + 1 ≤ p.bulk
  | .mk _ t o ks cs => by
    simp only [Pt.mAdd, Pt.bulk]
    have h := muchGo_bulk ks ks.length
    have h1 := Nat.div_le_self t.length 10
    have h2 := Nat.div_le_self o.length 10
    omega
theorem muchGo_bulk : ∀ (l : List Pt) (n : Nat), muchGo n l + l.length ≤ n + bulks l
  | [], n => by simp [muchGo]
  | p :: ps, n => by
    simp only [muchGo, bulks, List.length_cons]
    have h1 := mAdd_bulk p
    split
    · have h2 := muchGo_bulk ps (n + p.mAdd); omega
    · have := bulks_len ps; have := bulk_pos p; omega
end
theorem div10 (n : Nat) (h : n ≤ 1048576) : IntKind.i64.wrap ((n : Int).tdiv 10) = ((n / 10 : Nat) : Int) := by
  have h1 : (n : Int).tdiv 10 = ((n / 10 : Nat) : Int) := rfl
  have := Nat.div_le_self n 10
  rw [h1, wrap_in (by omega)]
theorem add64 (a b : Nat) (h : a + b ≤ 4611686018427387904) : IntKind.i64.wrap ((a : Int) + (b : Int)) = ((a + b : Nat) : Int) := by rw [wrap_in (by omega)]; rfl
theorem much_calls : ∀ (n : Nat), n ≤ 1048576 → ∀ (l : List Pt), bulks l ≤ n → ∀ S, CallsQ Try.prog 31 [.slice 5 (prows l)] S (.int .i64 (muchGo l.length l : Int)) := by
  intro n
  induction n using Nat.strongRecOn with
  | _ n ih =>
    intro hn l hb S
    have hll : l.length ≤ 1048576 := Nat.le_trans (bulks_len l) (by omega)
    have hmb := muchGo_bulk l l.length
    obtain ⟨T, hT⟩ : ∃ T, muchGo l.length l = T := ⟨_, rfl⟩
    rw [hT]
    have hk : ∀ (i : Nat) (p : Pt), l[i]? = some p → ∀ S, CallsQ Try.prog 31 [.slice 5 (prows p.kids)] S (.int .i64 (muchGo p.kids.length p.kids : Int)) := fun i p hp S => by
      have := kid_lt hp hb
      exact ih _ this (by omega) p.kids (Nat.le_refl _) S
    refine CallsA_W (fun _ => false) Try.func31 rfl (Nat.le_of_ble_eq_true rfl) ?_
    simp only [Try.f31]
    (simp only [go_sem, reduceIte, Nat.reduceEqDiff, Nat.reduceLT, Nat.reduceLeDiff, Nat.reduceAdd, reduceCtorEq, Int.reduceToNat, Int.reduceLE, Int.reduceLT, Int.reduceNeg, Int.reduceEq, Int.reduceNe, Nat.reduceBEq, Nat.reduceMul, Nat.reducePow, Int.cast_ofNat_Int, *])
    refine CodeW_loop (fun m σ' S' => ∃ i a : Nat, i + m = l.length ∧ σ' 0 = .slice 5 (prows l) ∧ σ' 3 = .int .i64 (a : Int) ∧ σ' 4 = .int .i64 i ∧ S' = S ∧ muchGo a (l.drop i) = T) l.length ?_ ?_
    · (simp only [go_sem, reduceIte, Nat.reduceEqDiff, Nat.reduceLT, Nat.reduceLeDiff, Nat.reduceAdd, reduceCtorEq, Int.reduceToNat, Int.reduceLE, Int.reduceLT, Int.reduceNeg, Int.reduceEq, Int.reduceNe, Nat.reduceBEq, Nat.reduceMul, Nat.reducePow, Int.cast_ofNat_Int, *])
      exact ⟨0, l.length, by omega, rfl, rfl, by simpa using hT⟩
    · rintro m σ' S' ⟨i, a, h1, h2, h3, h4, rfl, h6⟩
      cases hc : l[i]? with
      | none =>
        have hl : l.length ≤ i := List.getElem?_eq_none_iff.1 hc
        have hlt : ¬ ((i : Int) < (l.length : Int)) := by omega
        rw [List.drop_eq_nil_of_le hl] at h6
        simp only [muchGo] at h6
        subst h6
        clear hk hT
        (simp only [go_sem, reduceIte, Nat.reduceEqDiff, Nat.reduceLT, Nat.reduceLeDiff, Nat.reduceAdd, reduceCtorEq, Int.reduceToNat, Int.reduceLE, Int.reduceLT, Int.reduceNeg, Int.reduceEq, Int.reduceNe, Nat.reduceBEq, Nat.reduceMul, Nat.reducePow, Int.cast_ofNat_Int, *])
      | some p =>
        have hl := (List.getElem?_eq_some_iff.1 hc).1
        have hlt : (i : Int) < (l.length : Int) := by omega
        rw [drop_at hc] at h6
        simp only [muchGo] at h6
        by_cases ha : a ≤ 1000
        · rw [if_pos ha, mAdd_eq] at h6
          have ha' : (a : Int) ≤ 1000 := by omega
          have hw := wrap1 hl (by omega)
          have hcall := hk i p hc
          have hpb := bulks_get hc
          have hpe := bulk_eq p
          have hmk := muchGo_bulk p.kids p.kids.length
          have d1 := div10 p.text.length (by omega)
          have d2 := div10 p.op.length (by omega)
          have y1 := Nat.div_le_self p.text.length 10
          have y2 := Nat.div_le_self p.op.length 10
          generalize p.text.length / 10 = x1 at *
          generalize p.op.length / 10 = x2 at *
          generalize muchGo p.kids.length p.kids = x4 at *
          have w1 := add64 a x1 (by omega)
          have w2 := add64 (a + x1) x2 (by omega)
          have w3 := add64 (a + x1 + x2) p.cmds.length (by omega)
          have w4 := add64 (a + x1 + x2 + p.cmds.length) x4 (by omega)
          have h6' := Keep.mk h6
          clear hk hT h6
          (simp only [go_sem, reduceIte, Nat.reduceEqDiff, Nat.reduceLT, Nat.reduceLeDiff, Nat.reduceAdd, reduceCtorEq, Int.reduceToNat, Int.reduceLE, Int.reduceLT, Int.reduceNeg, Int.reduceEq, Int.reduceNe, Nat.reduceBEq, Nat.reduceMul, Nat.reducePow, Int.cast_ofNat_Int, *])
          refine CodeW_quiet mixed 31 (by kernel_rfl) ?_
          (simp only [go_sem, reduceIte, Nat.reduceEqDiff, Nat.reduceLT, Nat.reduceLeDiff, Nat.reduceAdd, reduceCtorEq, Int.reduceToNat, Int.reduceLE, Int.reduceLT, Int.reduceNeg, Int.reduceEq, Int.reduceNe, Nat.reduceBEq, Nat.reduceMul, Nat.reducePow, Int.cast_ofNat_Int, *])
          refine QCW_call rfl rfl call31 (hcall _) ?_
          (simp only [go_sem, reduceIte, Nat.reduceEqDiff, Nat.reduceLT, Nat.reduceLeDiff, Nat.reduceAdd, reduceCtorEq, Int.reduceToNat, Int.reduceLE, Int.reduceLT, Int.reduceNeg, Int.reduceEq, Int.reduceNe, Nat.reduceBEq, Nat.reduceMul, Nat.reducePow, Int.cast_ofNat_Int, *])
          refine ⟨m - 1, by omega, i + 1, a + x1 + x2 + p.cmds.length + x4, by omega, rfl, rfl, ?_⟩
          have h6 := h6'.of
          rw [← h6]
          congr 1
          omega
        · rw [if_neg ha] at h6
          have ha' : ¬ (a : Int) ≤ 1000 := by omega
          subst h6
          clear hk hT ha
          (simp only [go_sem, reduceIte, Nat.reduceEqDiff, Nat.reduceLT, Nat.reduceLeDiff, Nat.reduceAdd, reduceCtorEq, Int.reduceToNat, Int.reduceLE, Int.reduceLT, Int.reduceNeg, Int.reduceEq, Int.reduceNe, Nat.reduceBEq, Nat.reduceMul, Nat.reducePow, Int.cast_ofNat_Int, *])

end Go.Proofs.Ytcbonfgkfiapaaa.Pv
