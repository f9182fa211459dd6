/- What the writing functions of strings.Builder compute. -/
import Derived.Test.YtcbonfgkfiapaaaBldr
import Derived.Test.YtcbonfgkfiapaaaTy
set_option linter.unusedVariables false
set_option linter.unusedSimpArgs false
set_option maxRecDepth 100000
set_option maxHeartbeats 4000000
namespace Go.Proofs.Ytcbonfgkfiapaaa.Pv
open Go Go.RowKit

theorem sbPtr : Try.prog.underlying 87 = some (.pointer 89) := by kernel_rfl
theorem sbUns : Try.prog.underlying 163 = some .unsafePointer := by kernel_rfl
theorem sbBytes : Try.prog.underlying 28 = some (.slice 5) := by kernel_rfl
theorem sbStr : Try.prog.underlying 9 = some .string := by kernel_rfl
theorem sbSize : ∃ j, Try.prog.info? 89 = some j ∧ j.size ≠ 0 := ⟨_, rfl, by decide⟩
theorem sbByte : ByteT Try.prog 5 := ⟨⟨_, rfl, rfl, rfl, rfl⟩⟩
/-- A builder may lie at the head of such a block. -/
def sbAt (ty : TypeId) : Prop := liesAt Try.prog Try.prog.depth ty (2 / Try.prog.cellsOf ty) 0 89 1 = true
theorem copyCheck_calls (ty : TypeId) (hl : sbAt ty) (b : Nat) (addr buf : PV) (ha : addr = .nilp ∨ addr = .mp b 0) (hb : cellsOf buf = some [buf] ∧ buf.isOne = true) (S : Heap) (hS : S b = some (.cells [addr, buf] ty)) :
    CallsA Try.prog 155 [.mp b 0] S (fun q S' => q = .tup [] ∧ S' = S.set b (.cells [.mp b 0, buf] ty)) := by
  have u1 := sbPtr
  have u2 := sbUns
  obtain ⟨j, hj, hj0⟩ := sbSize
  refine CallsA_W (fun _ => false) Try.func155 rfl (Nat.le_of_ble_eq_true rfl) ?_
  simp only [Try.f155]
  rcases ha with rfl | rfl
  · (simp only [go_sem, reduceIte, Nat.reduceEqDiff, Nat.reduceLT, Nat.reduceLeDiff, Nat.reduceAdd, reduceCtorEq, Int.reduceToNat, Int.reduceLE, Int.reduceLT, Int.reduceNeg, Int.reduceEq, Int.reduceNe, Nat.reduceBEq, Nat.reduceMul, Nat.reducePow, Int.cast_ofNat_Int, *])
    refine OpW_toUnsafe rfl u1 u2 hj hj0 rfl hS (Nat.zero_lt_succ 1) rfl ?_
    (simp only [go_sem, reduceIte, Nat.reduceEqDiff, Nat.reduceLT, Nat.reduceLeDiff, Nat.reduceAdd, reduceCtorEq, Int.reduceToNat, Int.reduceLE, Int.reduceLT, Int.reduceNeg, Int.reduceEq, Int.reduceNe, Nat.reduceBEq, Nat.reduceMul, Nat.reducePow, Int.cast_ofNat_Int, *])
    refine OpW_same rfl rfl Try.func173 (by kernel_rfl) (by kernel_rfl) (by kernel_rfl) (by kernel_rfl) rfl rfl ?_
    (simp only [go_sem, reduceIte, Nat.reduceEqDiff, Nat.reduceLT, Nat.reduceLeDiff, Nat.reduceAdd, reduceCtorEq, Int.reduceToNat, Int.reduceLE, Int.reduceLT, Int.reduceNeg, Int.reduceEq, Int.reduceNe, Nat.reduceBEq, Nat.reduceMul, Nat.reducePow, Int.cast_ofNat_Int, *])
    refine OpW_fromUnsafe rfl u2 u1 hj rfl hS hl rfl ?_
    (simp only [go_sem, reduceIte, Nat.reduceEqDiff, Nat.reduceLT, Nat.reduceLeDiff, Nat.reduceAdd, reduceCtorEq, Int.reduceToNat, Int.reduceLE, Int.reduceLT, Int.reduceNeg, Int.reduceEq, Int.reduceNe, Nat.reduceBEq, Nat.reduceMul, Nat.reducePow, Int.cast_ofNat_Int, *])
    refine OpW_put (es := [.mp b 0]) rfl rfl hS rfl rfl (by kernel_rfl) (Nat.le_of_ble_eq_true rfl) rfl ?_
    (simp only [go_sem, reduceIte, Nat.reduceEqDiff, Nat.reduceLT, Nat.reduceLeDiff, Nat.reduceAdd, reduceCtorEq, Int.reduceToNat, Int.reduceLE, Int.reduceLT, Int.reduceNeg, Int.reduceEq, Int.reduceNe, Nat.reduceBEq, Nat.reduceMul, Nat.reducePow, Int.cast_ofNat_Int, *])
    done
  · (simp only [go_sem, reduceIte, Nat.reduceEqDiff, Nat.reduceLT, Nat.reduceLeDiff, Nat.reduceAdd, reduceCtorEq, Int.reduceToNat, Int.reduceLE, Int.reduceLT, Int.reduceNeg, Int.reduceEq, Int.reduceNe, Nat.reduceBEq, Nat.reduceMul, Nat.reducePow, Int.cast_ofNat_Int, *])
    refine OpW_samePtr rfl u1 hj rfl rfl rfl ?_
    (simp only [go_sem, reduceIte, Nat.reduceEqDiff, Nat.reduceLT, Nat.reduceLeDiff, Nat.reduceAdd, reduceCtorEq, Int.reduceToNat, Int.reduceLE, Int.reduceLT, Int.reduceNeg, Int.reduceEq, Int.reduceNe, Nat.reduceBEq, Nat.reduceMul, Nat.reducePow, Int.cast_ofNat_Int, *])
    funext z
    rw [set_apply]
    split
    · rename_i e; rw [e]; exact hS
    · rfl
theorem writeString_calls (ty : TypeId) (hl : sbAt ty) (b : Nat) (l m : List UInt8) (B : Heap) (hlen : l.length + m.length ≤ 140737488355328) (S : Heap) (h : Bldr 5 ty b l B S) :
    CallsA Try.prog 129 [.mp b 0, .str m] S (fun q S' => q = .tup [.int .i64 (m.length : Int), .nilif] ∧ Bldr 5 ty b (l ++ m) B S') := by
  obtain ⟨⟨addr, buf, h1, h2, h3, h4, h5⟩, h6, h7⟩ := h
  have hc := h3.cells
  refine CallsA_W (fun _ => false) Try.func129 rfl (Nat.le_of_ble_eq_true rfl) ?_
  simp only [Try.f129]
  (simp only [go_sem, reduceIte, Nat.reduceEqDiff, Nat.reduceLT, Nat.reduceLeDiff, Nat.reduceAdd, reduceCtorEq, Int.reduceToNat, Int.reduceLE, Int.reduceLT, Int.reduceNeg, Int.reduceEq, Int.reduceNe, Nat.reduceBEq, Nat.reduceMul, Nat.reducePow, Int.cast_ofNat_Int, *])
  refine OpW_call rfl rfl call155 rfl ((copyCheck_calls ty hl b addr buf h2 hc S h1).mono ?_)
  rintro p_ S_ ⟨rfl, rfl⟩
  have hs : S.set b (.cells [.mp b 0, buf] ty) b = some (.cells [.mp b 0, buf] ty) := by rw [set_apply, if_pos rfl]
  have h3' : Buf (S.set b (.cells [.mp b 0, buf] ty)) 5 l buf := by
    rcases h3 with h | ⟨g, cap, cap', rfl, g1, g2⟩
    · exact Or.inl h
    · refine Or.inr ⟨g, cap, cap', rfl, ?_, g2⟩
      rw [set_apply, if_neg]
      · exact g1
      · intro e; subst e; exact h4 rfl
  (simp only [go_sem, reduceIte, Nat.reduceEqDiff, Nat.reduceLT, Nat.reduceLeDiff, Nat.reduceAdd, reduceCtorEq, Int.reduceToNat, Int.reduceLE, Int.reduceLT, Int.reduceNeg, Int.reduceEq, Int.reduceNe, Nat.reduceBEq, Nat.reduceMul, Nat.reducePow, Int.cast_ofNat_Int, *])
  refine OpW_of (OpA_appendS (l := l) (m := m) (ps := buf) rfl sbBytes sbStr sbByte (okDst_spec rfl) rfl rfl h3' hlen ?_)
  intro p S2 r
  obtain ⟨w1, w2⟩ := Bldr.wrote h1 h3 h4 h5 h6 h7 r
  have hp := r.buf.cells
  (simp only [go_sem, reduceIte, Nat.reduceEqDiff, Nat.reduceLT, Nat.reduceLeDiff, Nat.reduceAdd, reduceCtorEq, Int.reduceToNat, Int.reduceLE, Int.reduceLT, Int.reduceNeg, Int.reduceEq, Int.reduceNe, Nat.reduceBEq, Nat.reduceMul, Nat.reducePow, Int.cast_ofNat_Int, *])
  refine OpW_put (es := [p]) rfl rfl w1 hp.1 (by simp [hp.2]) (by kernel_rfl) (Nat.le_of_ble_eq_true rfl) rfl ?_
  (simp only [go_sem, reduceIte, Nat.reduceEqDiff, Nat.reduceLT, Nat.reduceLeDiff, Nat.reduceAdd, reduceCtorEq, Int.reduceToNat, Int.reduceLE, Int.reduceLT, Int.reduceNeg, Int.reduceEq, Int.reduceNe, Nat.reduceBEq, Nat.reduceMul, Nat.reducePow, Int.cast_ofNat_Int, *])
theorem sbString_calls (ty : TypeId) (b : Nat) (l : List UInt8) (B : Heap) (S : Heap) (h : Bldr 5 ty b l B S) :
    CallsA Try.prog 90 [.mp b 0] S (fun q S' => q = .str l ∧ B.le S') := by
  obtain ⟨⟨addr, buf, h1, h2, h3, h4, h5⟩, h6, h7⟩ := h
  have hc := h3.cells
  have hle : ∀ S', (∀ c, ownB buf ≠ some c → S' c = S c) → B.le S' := fun S' hr z x hz => by
    rw [hr z (fun e => by rw [h5 z e] at hz; cases hz)]
    exact h6 z x hz
  refine CallsA_W (fun _ => false) Try.func90 rfl (Nat.le_of_ble_eq_true rfl) ?_
  simp only [Try.f90]
  have h3' := h3
  rcases h3 with ⟨rfl, rfl⟩ | ⟨g, cap, cap', rfl, g1, g2⟩
  · (simp only [go_sem, reduceIte, Nat.reduceEqDiff, Nat.reduceLT, Nat.reduceLeDiff, Nat.reduceAdd, reduceCtorEq, Int.reduceToNat, Int.reduceLE, Int.reduceLT, Int.reduceNeg, Int.reduceEq, Int.reduceNe, Nat.reduceBEq, Nat.reduceMul, Nat.reducePow, Int.cast_ofNat_Int, *])
    refine CodeW_quiet mixed 10 (by kernel_rfl) ?_
    (simp only [go_sem, reduceIte, Nat.reduceEqDiff, Nat.reduceLT, Nat.reduceLeDiff, Nat.reduceAdd, reduceCtorEq, Int.reduceToNat, Int.reduceLE, Int.reduceLT, Int.reduceNeg, Int.reduceEq, Int.reduceNe, Nat.reduceBEq, Nat.reduceMul, Nat.reducePow, Int.cast_ofNat_Int, *])
    refine QCW_of (QV_sliceData rfl rfl h3') ?_
    (simp only [go_sem, reduceIte, Nat.reduceEqDiff, Nat.reduceLT, Nat.reduceLeDiff, Nat.reduceAdd, reduceCtorEq, Int.reduceToNat, Int.reduceLE, Int.reduceLT, Int.reduceNeg, Int.reduceEq, Int.reduceNe, Nat.reduceBEq, Nat.reduceMul, Nat.reducePow, Int.cast_ofNat_Int, *])
    refine QCW_of (QV_bufLen (p := .nils) rfl sbBytes rfl h3') ?_
    (simp only [go_sem, reduceIte, Nat.reduceEqDiff, Nat.reduceLT, Nat.reduceLeDiff, Nat.reduceAdd, reduceCtorEq, Int.reduceToNat, Int.reduceLE, Int.reduceLT, Int.reduceNeg, Int.reduceEq, Int.reduceNe, Nat.reduceBEq, Nat.reduceMul, Nat.reducePow, Int.cast_ofNat_Int, *])
    refine OpW_of (OpA_unsafeString (p := .nils) (l := []) rfl (by kernel_rfl : Try.prog.underlying 137 = some (.pointer 5)) (by kernel_rfl) (okDst_spec rfl) rfl rfl h3' ?_)
    intro S2 hr
    have hle2 := hle S2 hr
    (simp only [go_sem, reduceIte, Nat.reduceEqDiff, Nat.reduceLT, Nat.reduceLeDiff, Nat.reduceAdd, reduceCtorEq, Int.reduceToNat, Int.reduceLE, Int.reduceLT, Int.reduceNeg, Int.reduceEq, Int.reduceNe, Nat.reduceBEq, Nat.reduceMul, Nat.reducePow, Int.cast_ofNat_Int, *])
  · (simp only [go_sem, reduceIte, Nat.reduceEqDiff, Nat.reduceLT, Nat.reduceLeDiff, Nat.reduceAdd, reduceCtorEq, Int.reduceToNat, Int.reduceLE, Int.reduceLT, Int.reduceNeg, Int.reduceEq, Int.reduceNe, Nat.reduceBEq, Nat.reduceMul, Nat.reducePow, Int.cast_ofNat_Int, *])
    refine CodeW_quiet mixed 10 (by kernel_rfl) ?_
    (simp only [go_sem, reduceIte, Nat.reduceEqDiff, Nat.reduceLT, Nat.reduceLeDiff, Nat.reduceAdd, reduceCtorEq, Int.reduceToNat, Int.reduceLE, Int.reduceLT, Int.reduceNeg, Int.reduceEq, Int.reduceNe, Nat.reduceBEq, Nat.reduceMul, Nat.reducePow, Int.cast_ofNat_Int, *])
    refine QCW_of (QV_sliceData rfl rfl h3') ?_
    (simp only [go_sem, reduceIte, Nat.reduceEqDiff, Nat.reduceLT, Nat.reduceLeDiff, Nat.reduceAdd, reduceCtorEq, Int.reduceToNat, Int.reduceLE, Int.reduceLT, Int.reduceNeg, Int.reduceEq, Int.reduceNe, Nat.reduceBEq, Nat.reduceMul, Nat.reducePow, Int.cast_ofNat_Int, *])
    refine OpW_of (OpA_unsafeString (p := .vec g l.length cap) (l := l) rfl (by kernel_rfl : Try.prog.underlying 137 = some (.pointer 5)) (by kernel_rfl) (okDst_spec rfl) rfl rfl h3' ?_)
    intro S2 hr
    have hle2 := hle S2 hr
    (simp only [go_sem, reduceIte, Nat.reduceEqDiff, Nat.reduceLT, Nat.reduceLeDiff, Nat.reduceAdd, reduceCtorEq, Int.reduceToNat, Int.reduceLE, Int.reduceLT, Int.reduceNeg, Int.reduceEq, Int.reduceNe, Nat.reduceBEq, Nat.reduceMul, Nat.reducePow, Int.cast_ofNat_Int, *])
end Go.Proofs.Ytcbonfgkfiapaaa.Pv
