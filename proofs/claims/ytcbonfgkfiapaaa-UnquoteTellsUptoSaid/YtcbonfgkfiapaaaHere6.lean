/- What the runes of a text say of its bytes. A rune that is no letter of ASCII stands nowhere among the byte 0 and a line feed. strings.IndexAny for the byte 0 and a line feed, at any text; Right, Show, Fed and May at any end. -/
import Derived.Test.YtcbonfgkfiapaaaHere1
import Derived.Test.YtcbonfgkfiapaaaCore4
import Derived.Test.YtcbonfgkfiapaaaHere5
import Derived.Laws.RangeAny
/-! What the runes of a text say of its bytes. -/
set_option linter.unusedVariables false
set_option linter.unusedSimpArgs false
namespace Go.Proofs.Ytcbonfgkfiapaaa.Pv
open Go Go.RowKit

theorem get_bang (l : List UInt8) (j : Nat) (h : j < l.length) : (⟨l.toArray⟩ : ByteArray).get! j = l[j] := by
  simp [ByteArray.get!, h]
theorem decode_swallow (l : List UInt8) (i : Nat) (hi : i < l.length) (hb : 128 ≤ (l[i]).toNat) :
    ∀ k, 1 ≤ k → k < (Utf8.decode ⟨l.toArray⟩ i).2 → ∃ b, l[i + k]? = some b ∧ 128 ≤ b.toNat := by
  have hsz : (⟨l.toArray⟩ : ByteArray).size = l.length := by simp [ByteArray.size]
  have cont : ∀ k, (decide (i + k < (⟨l.toArray⟩ : ByteArray).size) && ((⟨l.toArray⟩ : ByteArray).get! (i + k)).toNat / 64 == 2) = true → ∃ b, l[i + k]? = some b ∧ 128 ≤ b.toNat := by
    intro k hk
    simp only [Bool.and_eq_true, decide_eq_true_eq, beq_iff_eq] at hk
    rw [hsz] at hk
    refine ⟨l[i + k]'hk.1, List.getElem?_eq_getElem hk.1, ?_⟩
    have := hk.2
    rw [get_bang l _ hk.1] at this
    omega
  intro k h1 h2
  unfold Utf8.decode at h2
  simp only [] at h2
  split at h2
  · omega
  · split at h2
    · rename_i hc
      simp only [Bool.and_eq_true] at hc
      split at h2
      · have : k = 1 := by simp at h2; omega
        subst this
        exact cont 1 (by simpa using hc.2)
      · simp at h2; omega
    · split at h2
      · rename_i hc
        simp only [Bool.and_eq_true] at hc
        split at h2
        · simp at h2
          have : k = 1 ∨ k = 2 := by omega
          rcases this with rfl | rfl
          · exact cont 1 (by simpa using hc.1.2)
          · exact cont 2 (by simpa using hc.2)
        · simp at h2; omega
      · split at h2
        · rename_i hc
          simp only [Bool.and_eq_true] at hc
          split at h2
          · simp at h2
            have : k = 1 ∨ k = 2 ∨ k = 3 := by omega
            rcases this with rfl | rfl | rfl
            · exact cont 1 (by simpa using hc.1.1.2)
            · exact cont 2 (by simpa using hc.1.2)
            · exact cont 3 (by simpa using hc.2)
          · simp at h2; omega
        · simp at h2; omega

end Go.Proofs.Ytcbonfgkfiapaaa.Pv

/-! A rune that is no letter of ASCII stands nowhere among the byte 0 and a line feed. -/
set_option linter.unusedVariables false
set_option linter.unusedSimpArgs false
set_option maxRecDepth 100000
set_option maxHeartbeats 40000000
namespace Go.Proofs.Ytcbonfgkfiapaaa.Pv
open Go Go.RowKit

theorem validRune_calls (r : Int) (S : Heap) : CallsQ Try.prog 177 [.int .i32 r] S (.bool (Lib.validRune r)) := by
  refine CallsQ_below fun w args hv hh => ?_
  simp only [RepVals, Rep] at hv
  obtain ⟨v, r1, ha, rfl, rfl⟩ := hv
  rw [show args = #[.int .i32 r] from Array.ext' (by simpa using ha)]
  refine (Try.utf8_ValidRune r w).mono ?_
  rintro e w' ⟨rfl, rfl⟩
  exact ⟨_, rfl, by simp only [Rep], Below.refl _ _⟩
theorem encode_high (r : Int) (h : 128 ≤ r) : ∃ l : List UInt8, Utf8.encode r = ⟨l.toArray⟩ ∧ 2 ≤ l.length ∧ l.length ≤ 4 ∧ ∃ b, l[l.length - 1]? = some b ∧ 128 ≤ b.toNat := by
  have hb : ∀ n : Nat, 128 ≤ (UInt8.ofNat (0x80 + n % 64)).toNat := fun n => by simp; omega
  have hc : ¬ (if Utf8.valid r = true then r.toNat else Utf8.runeError) < 0x80 := by
    split
    · omega
    · decide
  unfold Utf8.encode
  simp only []
  generalize (if Utf8.valid r = true then r.toNat else Utf8.runeError) = c at hc ⊢
  rw [if_neg hc]
  split
  · exact ⟨[UInt8.ofNat (0xC0 + c / 64), UInt8.ofNat (0x80 + c % 64)], rfl, by simp, by simp, _, rfl, hb c⟩
  · split
    · exact ⟨[UInt8.ofNat (0xE0 + c / 4096), UInt8.ofNat (0x80 + c / 64 % 64), UInt8.ofNat (0x80 + c % 64)], rfl, by simp, by simp, _, rfl, hb c⟩
    · exact ⟨[UInt8.ofNat (0xF0 + c / 262144), UInt8.ofNat (0x80 + c / 4096 % 64), UInt8.ofNat (0x80 + c / 64 % 64), UInt8.ofNat (0x80 + c % 64)], rfl, by simp, by simp, _, rfl, hb c⟩
theorem indexRune_calls (r : Int) (h : 128 ≤ r) (S : Heap) : CallsQ Try.prog 157 [.str [0, 10], .int .i32 r] S (.int .i64 (-1)) := by
  have n1 : ¬ r < 128 := by omega
  have n2 : 0 ≤ r := by omega
  refine CallsQ_less ?_
  refine CallsA_W (fun _ => false) Try.func157 rfl (Nat.le_of_ble_eq_true rfl) ?_
  simp only [Try.f157]
  (simp only [go_sem, reduceIte, Nat.reduceEqDiff, Nat.reduceLT, Nat.reduceLeDiff, Nat.reduceAdd, reduceCtorEq, Int.reduceToNat, Int.reduceLE, Int.reduceLT, Int.reduceNeg, Int.reduceEq, Int.reduceNe, Nat.reduceBEq, Nat.reduceMul, Nat.reducePow, *])
  by_cases hE : r = 65533
  · subst hE
    have d0 : Utf8.decode ⟨([0, 10] : List UInt8).toArray⟩ 0 = (0, 1) := by decide +kernel
    have d1 : Utf8.decode ⟨([0, 10] : List UInt8).toArray⟩ 1 = (10, 1) := by decide +kernel
    have z0 : ¬ (((0 : Nat) : Int) = 65533) := by omega
    have z1 : ¬ (((10 : Nat) : Int) = 65533) := by omega
    clear h n1 n2
    (simp only [go_sem, reduceIte, Nat.reduceEqDiff, Nat.reduceLT, Nat.reduceLeDiff, Nat.reduceAdd, reduceCtorEq, Int.reduceToNat, Int.reduceLE, Int.reduceLT, Int.reduceNeg, Int.reduceEq, Int.reduceNe, Nat.reduceBEq, Nat.reduceMul, Nat.reducePow, *])
    refine OpW_of (OpA_range (l := [0, 10]) rfl isStr9 (by (simp only [go_sem, reduceIte, Nat.reduceEqDiff, Nat.reduceLT, Nat.reduceLeDiff, Nat.reduceAdd, reduceCtorEq, Int.reduceToNat, Int.reduceLE, Int.reduceLT, Int.reduceNeg, Int.reduceEq, Int.reduceNe, Nat.reduceBEq, Nat.reduceMul, Nat.reducePow, *])) (okDst_spec rfl) fun b hb => ?_)
    (simp only [go_sem, reduceIte, Nat.reduceEqDiff, Nat.reduceLT, Nat.reduceLeDiff, Nat.reduceAdd, reduceCtorEq, Int.reduceToNat, Int.reduceLE, Int.reduceLT, Int.reduceNeg, Int.reduceEq, Int.reduceNe, Nat.reduceBEq, Nat.reduceMul, Nat.reducePow, *])
    refine CodeW_loop (fun m σ' S' => ∃ i : Nat, i + m = 2 ∧ σ' 175 = .mp b 0 ∧ S' = S.set b (.iter [0, 10] i)) 2 ?_ ?_
    · (simp only [go_sem, reduceIte, Nat.reduceEqDiff, Nat.reduceLT, Nat.reduceLeDiff, Nat.reduceAdd, reduceCtorEq, Int.reduceToNat, Int.reduceLE, Int.reduceLT, Int.reduceNeg, Int.reduceEq, Int.reduceNe, Nat.reduceBEq, Nat.reduceMul, Nat.reducePow, *])
      try exact ⟨0, by omega, rfl⟩
    · rintro m σ' S' ⟨i, h1, h2, rfl⟩
      (simp only [go_sem, reduceIte, Nat.reduceEqDiff, Nat.reduceLT, Nat.reduceLeDiff, Nat.reduceAdd, reduceCtorEq, Int.reduceToNat, Int.reduceLE, Int.reduceLT, Int.reduceNeg, Int.reduceEq, Int.reduceNe, Nat.reduceBEq, Nat.reduceMul, Nat.reducePow, *])
      refine OpW_of (OpA_next (l := [0, 10]) (b := b) (pos := i) rfl (by (simp only [go_sem, reduceIte, Nat.reduceEqDiff, Nat.reduceLT, Nat.reduceLeDiff, Nat.reduceAdd, reduceCtorEq, Int.reduceToNat, Int.reduceLE, Int.reduceLT, Int.reduceNeg, Int.reduceEq, Int.reduceNe, Nat.reduceBEq, Nat.reduceMul, Nat.reducePow, *])) (by (simp only [go_sem, reduceIte, Nat.reduceEqDiff, Nat.reduceLT, Nat.reduceLeDiff, Nat.reduceAdd, reduceCtorEq, Int.reduceToNat, Int.reduceLE, Int.reduceLT, Int.reduceNeg, Int.reduceEq, Int.reduceNe, Nat.reduceBEq, Nat.reduceMul, Nat.reducePow, *])) (okDst_spec rfl) ?_)
      rcases (show i = 0 ∨ i = 1 ∨ i = 2 by omega) with rfl | rfl | rfl
      · rw [if_pos (by decide), d0, Heap.set_set]
        (simp only [go_sem, reduceIte, Nat.reduceEqDiff, Nat.reduceLT, Nat.reduceLeDiff, Nat.reduceAdd, reduceCtorEq, Int.reduceToNat, Int.reduceLE, Int.reduceLT, Int.reduceNeg, Int.reduceEq, Int.reduceNe, Nat.reduceBEq, Nat.reduceMul, Nat.reducePow, *])
        exact ⟨1, by omega, 1, by omega, rfl⟩
      · rw [if_pos (by decide), d1, Heap.set_set]
        (simp only [go_sem, reduceIte, Nat.reduceEqDiff, Nat.reduceLT, Nat.reduceLeDiff, Nat.reduceAdd, reduceCtorEq, Int.reduceToNat, Int.reduceLE, Int.reduceLT, Int.reduceNeg, Int.reduceEq, Int.reduceNe, Nat.reduceBEq, Nat.reduceMul, Nat.reducePow, *])
        exact ⟨0, by omega, 2, by omega, rfl⟩
      · rw [if_neg (by decide)]
        (simp only [go_sem, reduceIte, Nat.reduceEqDiff, Nat.reduceLT, Nat.reduceLeDiff, Nat.reduceAdd, reduceCtorEq, Int.reduceToNat, Int.reduceLE, Int.reduceLT, Int.reduceNeg, Int.reduceEq, Int.reduceNe, Nat.reduceBEq, Nat.reduceMul, Nat.reducePow, *])
        exact Heap.le_set hb
  · (simp only [go_sem, reduceIte, Nat.reduceEqDiff, Nat.reduceLT, Nat.reduceLeDiff, Nat.reduceAdd, reduceCtorEq, Int.reduceToNat, Int.reduceLE, Int.reduceLT, Int.reduceNeg, Int.reduceEq, Int.reduceNe, Nat.reduceBEq, Nat.reduceMul, Nat.reducePow, *])
    refine OpW_call rfl rfl call177 rfl ((validRune_calls r _).mono ?_)
    rintro p S' ⟨rfl, rfl⟩
    rcases Bool.eq_false_or_eq_true (Lib.validRune r) with hv | hv
    · (simp only [go_sem, reduceIte, Nat.reduceEqDiff, Nat.reduceLT, Nat.reduceLeDiff, Nat.reduceAdd, reduceCtorEq, Int.reduceToNat, Int.reduceLE, Int.reduceLT, Int.reduceNeg, Int.reduceEq, Int.reduceNe, Nat.reduceBEq, Nat.reduceMul, Nat.reducePow, *])
      obtain ⟨l, l1, l2, l3, b, l4, l5⟩ := encode_high r h
      refine W_scope (fun _ _ _ h => h) ?_
      (simp only [go_sem, reduceIte, Nat.reduceEqDiff, Nat.reduceLT, Nat.reduceLeDiff, Nat.reduceAdd, reduceCtorEq, Int.reduceToNat, Int.reduceLE, Int.reduceLT, Int.reduceNeg, Int.reduceEq, Int.reduceNe, Nat.reduceBEq, Nat.reduceMul, Nat.reducePow, *])
      refine OpW_run (p := .str l) rfl (fun w a hs => ?_) ?_
      · have e17 := hs.regs 17
        simp only [go_sem, reduceIte, Nat.reduceEqDiff, Nat.reduceLT, Nat.reduceLeDiff, Nat.reduceAdd, reduceCtorEq, Int.reduceToNat, Int.reduceLE, Int.reduceLT, Int.reduceNeg, Int.reduceEq, Int.reduceNe, Nat.reduceBEq, Nat.reduceMul, Nat.reducePow, Rep] at e17
        refine ⟨.string ⟨l.toArray⟩, ?_, by simp only [Rep]⟩
        have hu9 := Try.underlying9
        have hu21 := Try.underlying21
        simp only [execOp, Sem.run_bind, Act.eval, e17, convert]
        simp [hu9, hu21, run_underlying hu9, run_underlying hu21, Conv.intToString, l1]
      · (simp only [go_sem, reduceIte, Nat.reduceEqDiff, Nat.reduceLT, Nat.reduceLeDiff, Nat.reduceAdd, reduceCtorEq, Int.reduceToNat, Int.reduceLE, Int.reduceLT, Int.reduceNeg, Int.reduceEq, Int.reduceNe, Nat.reduceBEq, Nat.reduceMul, Nat.reducePow, *])
        refine CodeW_loop (fun m σ' S'' => m = 1 ∧ σ' 0 = .str [0, 10] ∧ σ' 7 = .str l ∧ σ' 8 = .int .i64 ((l.length - 1 : Nat) : Int) ∧ σ' 9 = .int .i64 ((l.length - 1 : Nat) : Int) ∧ S'' = S') 1 ?_ ?_
        · have hw : IntKind.i64.wrap ((l.length : Int) - 1) = ((l.length - 1 : Nat) : Int) := by rw [IntKind.wrap_i64]; omega
          (simp only [go_sem, reduceIte, Nat.reduceEqDiff, Nat.reduceLT, Nat.reduceLeDiff, Nat.reduceAdd, reduceCtorEq, Int.reduceToNat, Int.reduceLE, Int.reduceLT, Int.reduceNeg, Int.reduceEq, Int.reduceNe, Nat.reduceBEq, Nat.reduceMul, Nat.reducePow, *])
        · rintro m σ' S'' ⟨rfl, k0, k7, k8, k9, rfl⟩
          by_cases hl : l.length = 2
          · have h1 : l[1]? = some b := by rw [← l4, hl]
            have hb : ¬ (10 : Int) = (b.toNat : Int) := by omega
            rw [hl] at k8 k9
            have e1 : (2 - 1 : Nat) = 1 := rfl
            rw [e1] at k8 k9
            have z1 : ((1 : Nat) : Int) < ((2 : Nat) : Int) := by omega
            have z2 : ¬ (((10 : UInt8).toNat : Int) = (b.toNat : Int)) := by have : ((10 : UInt8).toNat : Int) = 10 := rfl; omega
            have hw : IntKind.i64.wrap (((1 : Nat) : Int) + 1) = ((2 : Nat) : Int) := by rw [IntKind.wrap_i64]; rfl
            clear l1 l2 l3 l4 l5 h n1 n2
            (simp only [go_sem, reduceIte, Nat.reduceEqDiff, Nat.reduceLT, Nat.reduceLeDiff, Nat.reduceAdd, reduceCtorEq, Int.reduceToNat, Int.reduceLE, Int.reduceLT, Int.reduceNeg, Int.reduceEq, Int.reduceNe, Nat.reduceBEq, Nat.reduceMul, Nat.reducePow, *])
            refine W_scope (fun _ _ _ h => h) ?_
            (simp only [go_sem, reduceIte, Nat.reduceEqDiff, Nat.reduceLT, Nat.reduceLeDiff, Nat.reduceAdd, reduceCtorEq, Int.reduceToNat, Int.reduceLE, Int.reduceLT, Int.reduceNeg, Int.reduceEq, Int.reduceNe, Nat.reduceBEq, Nat.reduceMul, Nat.reducePow, *])
            refine CodeW_quiet mixed 7 (by kernel_rfl) ?_
            (simp only [go_sem, reduceIte, Nat.reduceEqDiff, Nat.reduceLT, Nat.reduceLeDiff, Nat.reduceAdd, reduceCtorEq, Int.reduceToNat, Int.reduceLE, Int.reduceLT, Int.reduceNeg, Int.reduceEq, Int.reduceNe, Nat.reduceBEq, Nat.reduceMul, Nat.reducePow, *])
            have hi : Lib.indexByte ([] : List UInt8) b = -1 := rfl
            have hw2 : IntKind.i64.wrap (((1 : Nat) : Int) + 1) = 2 := by rw [IntKind.wrap_i64]; rfl
            refine CodeW_quiet mixed 9 (by kernel_rfl) ?_
            (simp only [go_sem, reduceIte, Nat.reduceEqDiff, Nat.reduceLT, Nat.reduceLeDiff, Nat.reduceAdd, reduceCtorEq, Int.reduceToNat, Int.reduceLE, Int.reduceLT, Int.reduceNeg, Int.reduceEq, Int.reduceNe, Nat.reduceBEq, Nat.reduceMul, Nat.reducePow, *])
            refine QCW_call (ps := [.str [], .int .u8 (b.toNat : Int)]) rfl rfl call84 (indexByte_calls [] b _) ?_
            (simp only [go_sem, reduceIte, Nat.reduceEqDiff, Nat.reduceLT, Nat.reduceLeDiff, Nat.reduceAdd, reduceCtorEq, Int.reduceToNat, Int.reduceLE, Int.reduceLT, Int.reduceNeg, Int.reduceEq, Int.reduceNe, Nat.reduceBEq, Nat.reduceMul, Nat.reducePow, *])
            exact Heap.le_refl _
          · have z1 : ¬ (((l.length - 1 : Nat) : Int) < ((2 : Nat) : Int)) := by omega
            clear l1 l2 l3 l4 l5 h n1 n2
            (simp only [go_sem, reduceIte, Nat.reduceEqDiff, Nat.reduceLT, Nat.reduceLeDiff, Nat.reduceAdd, reduceCtorEq, Int.reduceToNat, Int.reduceLE, Int.reduceLT, Int.reduceNeg, Int.reduceEq, Int.reduceNe, Nat.reduceBEq, Nat.reduceMul, Nat.reducePow, *])
            exact Heap.le_refl _
    · (simp only [go_sem, reduceIte, Nat.reduceEqDiff, Nat.reduceLT, Nat.reduceLeDiff, Nat.reduceAdd, reduceCtorEq, Int.reduceToNat, Int.reduceLE, Int.reduceLT, Int.reduceNeg, Int.reduceEq, Int.reduceNe, Nat.reduceBEq, Nat.reduceMul, Nat.reducePow, *])
      exact Heap.le_refl _

end Go.Proofs.Ytcbonfgkfiapaaa.Pv

/-! strings.IndexAny for the byte 0 and a line feed, at any text; Right, Show, Fed and May at any end. -/
set_option linter.unusedVariables false
set_option linter.unusedSimpArgs false
set_option maxRecDepth 100000
set_option maxHeartbeats 40000000
namespace Go.Proofs.Ytcbonfgkfiapaaa.Pv
open Go Go.RowKit

theorem idx_ge (s cs : List UInt8) : -1 ≤ Lib.indexAny s cs := Lib.indexAny_ge cs s
def From (s : List UInt8) (i : Nat) : Prop := Lib.indexAny s [0, 10] = if Lib.indexAny (s.drop i) [0, 10] = -1 then -1 else Lib.indexAny (s.drop i) [0, 10] + (i : Int)
theorem from_zero (s : List UInt8) : From s 0 := by
  unfold From; simp only [List.drop_zero]
  split
  · assumption
  · simp
theorem from_succ {s : List UInt8} {i : Nat} {b : UInt8} (h : From s i) (hb : s[i]? = some b) (h0 : b ≠ 0) (h1 : b ≠ 10) : From s (i + 1) := by
  unfold From at h ⊢
  obtain ⟨hi, hx⟩ := List.getElem?_eq_some_iff.1 hb
  have hd : s.drop i = b :: s.drop (i + 1) := by rw [List.drop_eq_getElem_cons hi, hx]
  have hu : Lib.indexAny (s.drop i) [0, 10] = if Lib.indexAny (s.drop (i + 1)) [0, 10] = -1 then -1 else Lib.indexAny (s.drop (i + 1)) [0, 10] + 1 := by
    rw [hd]
    conv => lhs; unfold Lib.indexAny
    rw [if_neg (by simp [h0, h1])]
    simp only [beq_iff_eq]
  have hg := idx_ge (s.drop (i + 1)) [0, 10]
  rw [h, hu]
  by_cases e : Lib.indexAny (s.drop (i + 1)) [0, 10] = -1
  · rw [if_pos e, if_pos rfl, if_pos e]
  · rw [if_neg e, if_neg (by omega), if_neg e]; omega
theorem from_add {s : List UInt8} {i : Nat} : ∀ (n : Nat), From s i → (∀ k, k < n → ∃ b, s[i + k]? = some b ∧ 128 ≤ b.toNat) → From s (i + n)
  | 0, h, _ => h
  | n + 1, h, hb => by
    obtain ⟨b, h1, h2⟩ := hb n (by omega)
    refine from_succ (i := i + n) (from_add n h fun k hk => hb k (by omega)) h1 ?_ ?_
    · rintro rfl; revert h2; decide
    · rintro rfl; revert h2; decide
theorem asciiRune_calls (r : Nat) (h : r < 128) (S : Heap) : CallsQ Try.prog 157 [.str [0, 10], .int .i32 (r : Int)] S (.int .i64 (Lib.indexByte [0, 10] r.toUInt8)) := by
  refine CallsQ_below fun w args hv hh => ?_
  simp only [RepVals, Rep] at hv
  obtain ⟨v, r1, ha, rfl, v2, r2, rfl, rfl, rfl⟩ := hv
  rw [show args = #[.string ⟨([0, 10] : List UInt8).toArray⟩, .int .i32 (r : Int)] from Array.ext' (by simpa using ha)]
  refine (Try.strings_IndexRune_ascii ⟨([0, 10] : List UInt8).toArray⟩ r w (by omega) (by omega)).mono ?_
  rintro e w' ⟨rfl, rfl⟩
  exact ⟨_, rfl, by simp only [Rep, Int.toNat_natCast], Below.refl _ _⟩
theorem shouldSet_calls (n : Int) (S : Heap) : CallsQ Try.prog 158 [.int .i64 n] S (.bool (decide (8 < n))) := by
  refine CallsQ_below fun w args hv hh => ?_
  simp only [RepVals, Rep] at hv
  obtain ⟨v, r1, ha, rfl, rfl⟩ := hv
  rw [show args = #[.int .i64 n] from Array.ext' (by simpa using ha)]
  refine (Try.strings_shouldUseASCIISet n w).mono ?_
  rintro e w' ⟨rfl, rfl⟩
  exact ⟨_, rfl, by simp only [Rep], Below.refl _ _⟩
theorem idxAny_short (s : List UInt8) (h8 : s.length ≤ 8) (S : Heap) : CallsQ Try.prog 137 [.str s, .str [0, 10]] S (.int .i64 (Lib.indexAny s [0, 10])) := by
  have hsz : (⟨s.toArray⟩ : ByteArray).size = s.length := by simp [ByteArray.size]
  have n8 : ¬ (8 : Int) < (s.length : Int) := by omega
  have n21 : ¬ ((2 : Nat) : Int) = 1 := by omega
  obtain ⟨M, hM⟩ : ∃ M, Lib.indexAny s [0, 10] = M := ⟨_, rfl⟩
  rw [hM]
  refine CallsQ_less ?_
  refine CallsA_W (fun _ => false) Try.func137 rfl (Nat.le_of_ble_eq_true rfl) ?_
  simp only [Try.f137]
  (simp only [go_sem, reduceIte, Nat.reduceEqDiff, Nat.reduceLT, Nat.reduceLeDiff, Nat.reduceAdd, reduceCtorEq, Int.reduceToNat, Int.reduceLE, Int.reduceLT, Int.reduceNeg, Int.reduceEq, Int.reduceNe, Nat.reduceBEq, Nat.reduceMul, Nat.reducePow, *])
  refine OpW_call (ps := [.int .i64 (s.length : Int)]) rfl rfl call158 rfl ((shouldSet_calls _ _).mono ?_)
  rintro p S' ⟨rfl, rfl⟩
  (simp only [go_sem, reduceIte, Nat.reduceEqDiff, Nat.reduceLT, Nat.reduceLeDiff, Nat.reduceAdd, reduceCtorEq, Int.reduceToNat, Int.reduceLE, Int.reduceLT, Int.reduceNeg, Int.reduceEq, Int.reduceNe, Nat.reduceBEq, Nat.reduceMul, Nat.reducePow, *])
  refine OpW_of (OpA_range (l := s) rfl isStr9 (by (simp only [go_sem, reduceIte, Nat.reduceEqDiff, Nat.reduceLT, Nat.reduceLeDiff, Nat.reduceAdd, reduceCtorEq, Int.reduceToNat, Int.reduceLE, Int.reduceLT, Int.reduceNeg, Int.reduceEq, Int.reduceNe, Nat.reduceBEq, Nat.reduceMul, Nat.reducePow, *])) (okDst_spec rfl) fun b hb => ?_)
  (simp only [go_sem, reduceIte, Nat.reduceEqDiff, Nat.reduceLT, Nat.reduceLeDiff, Nat.reduceAdd, reduceCtorEq, Int.reduceToNat, Int.reduceLE, Int.reduceLT, Int.reduceNeg, Int.reduceEq, Int.reduceNe, Nat.reduceBEq, Nat.reduceMul, Nat.reducePow, *])
  refine CodeW_loop (fun m σ' S'' => ∃ i : Nat, i + m = s.length ∧ σ' 1 = .str [0, 10] ∧ σ' 45 = .mp b 0 ∧ S'' = S'.set b (.iter s i) ∧ From s i) s.length ?_ ?_
  · (simp only [go_sem, reduceIte, Nat.reduceEqDiff, Nat.reduceLT, Nat.reduceLeDiff, Nat.reduceAdd, reduceCtorEq, Int.reduceToNat, Int.reduceLE, Int.reduceLT, Int.reduceNeg, Int.reduceEq, Int.reduceNe, Nat.reduceBEq, Nat.reduceMul, Nat.reducePow, *])
    exact ⟨0, by omega, rfl, from_zero s⟩
  · rintro m σ' S'' ⟨i, h1, h2, h3, rfl, h4⟩
    (simp only [go_sem, reduceIte, Nat.reduceEqDiff, Nat.reduceLT, Nat.reduceLeDiff, Nat.reduceAdd, reduceCtorEq, Int.reduceToNat, Int.reduceLE, Int.reduceLT, Int.reduceNeg, Int.reduceEq, Int.reduceNe, Nat.reduceBEq, Nat.reduceMul, Nat.reducePow, *])
    refine OpW_of (OpA_next (l := s) (b := b) (pos := i) rfl (by (simp only [go_sem, reduceIte, Nat.reduceEqDiff, Nat.reduceLT, Nat.reduceLeDiff, Nat.reduceAdd, reduceCtorEq, Int.reduceToNat, Int.reduceLE, Int.reduceLT, Int.reduceNeg, Int.reduceEq, Int.reduceNe, Nat.reduceBEq, Nat.reduceMul, Nat.reducePow, *])) (by (simp only [go_sem, reduceIte, Nat.reduceEqDiff, Nat.reduceLT, Nat.reduceLeDiff, Nat.reduceAdd, reduceCtorEq, Int.reduceToNat, Int.reduceLE, Int.reduceLT, Int.reduceNeg, Int.reduceEq, Int.reduceNe, Nat.reduceBEq, Nat.reduceMul, Nat.reducePow, *])) (okDst_spec rfl) ?_)
    by_cases hi : i < s.length
    · rw [if_pos hi, Heap.set_set]
      obtain ⟨c, hc⟩ : ∃ c, s[i]? = some c := ⟨_, List.getElem?_eq_getElem hi⟩
      obtain ⟨_, hx⟩ := List.getElem?_eq_some_iff.1 hc
      have hd : s.drop i = c :: s.drop (i + 1) := by rw [List.drop_eq_getElem_cons hi, hx]
      have hgb : (⟨s.toArray⟩ : ByteArray)[i]'(by rw [hsz]; exact hi) = c := by rw [← hx]; rfl
      by_cases ha : c.toNat < 128
      · have hdec : Utf8.decode ⟨s.toArray⟩ i = (c.toNat, 1) := by
          have := decode_ascii ⟨s.toArray⟩ i (by rw [hsz]; exact hi) (by rw [hgb]; exact ha)
          rw [hgb] at this; exact this
        rw [hdec]
        simp only []
        have hu : c.toNat.toUInt8 = c := by simp
        have hcall := fun S => asciiRune_calls c.toNat ha S
        rw [hu] at hcall
        by_cases c0 : c = 0
        · subst c0
          have e1 : Lib.indexByte [0, 10] (0 : UInt8) = 0 := by decide
          have hMi : M = (i : Int) := by
            rw [← hM, h4, hd]
            have : Lib.indexAny (0 :: s.drop (i + 1)) [0, 10] = 0 := by simp [Lib.indexAny]
            rw [this]; simp
          rw [e1] at hcall
          subst hMi
          clear hM h4 hdec hgb hx hd hc ha
          (simp only [go_sem, reduceIte, Nat.reduceEqDiff, Nat.reduceLT, Nat.reduceLeDiff, Nat.reduceAdd, reduceCtorEq, Int.reduceToNat, Int.reduceLE, Int.reduceLT, Int.reduceNeg, Int.reduceEq, Int.reduceNe, Nat.reduceBEq, Nat.reduceMul, Nat.reducePow, *])
          refine OpW_call (ps := [.str [0, 10], .int .i32 (((0 : UInt8).toNat : Nat) : Int)]) rfl rfl call157 rfl ((hcall _).mono ?_)
          rintro p S'' ⟨rfl, rfl⟩
          (simp only [go_sem, reduceIte, Nat.reduceEqDiff, Nat.reduceLT, Nat.reduceLeDiff, Nat.reduceAdd, reduceCtorEq, Int.reduceToNat, Int.reduceLE, Int.reduceLT, Int.reduceNeg, Int.reduceEq, Int.reduceNe, Nat.reduceBEq, Nat.reduceMul, Nat.reducePow, *])
          exact Heap.le_set hb
        · by_cases c1 : c = 10
          · subst c1
            have e1 : Lib.indexByte [0, 10] (10 : UInt8) = 1 := by decide
            have hMi : M = (i : Int) := by
              rw [← hM, h4, hd]
              have : Lib.indexAny (10 :: s.drop (i + 1)) [0, 10] = 0 := by simp [Lib.indexAny]
              rw [this]; simp
            rw [e1] at hcall
            subst hMi
            clear hM h4 hdec hgb hx hd hc ha
            (simp only [go_sem, reduceIte, Nat.reduceEqDiff, Nat.reduceLT, Nat.reduceLeDiff, Nat.reduceAdd, reduceCtorEq, Int.reduceToNat, Int.reduceLE, Int.reduceLT, Int.reduceNeg, Int.reduceEq, Int.reduceNe, Nat.reduceBEq, Nat.reduceMul, Nat.reducePow, *])
            refine OpW_call (ps := [.str [0, 10], .int .i32 (((10 : UInt8).toNat : Nat) : Int)]) rfl rfl call157 rfl ((hcall _).mono ?_)
            rintro p S'' ⟨rfl, rfl⟩
            (simp only [go_sem, reduceIte, Nat.reduceEqDiff, Nat.reduceLT, Nat.reduceLeDiff, Nat.reduceAdd, reduceCtorEq, Int.reduceToNat, Int.reduceLE, Int.reduceLT, Int.reduceNeg, Int.reduceEq, Int.reduceNe, Nat.reduceBEq, Nat.reduceMul, Nat.reducePow, *])
            exact Heap.le_set hb
          · have e1 : Lib.indexByte [0, 10] c = -1 := by
              have d0 : ¬ (0 : UInt8) = c := fun h => c0 h.symm
              have d1 : ¬ (10 : UInt8) = c := fun h => c1 h.symm
              simp [Lib.indexByte, d0, d1]
            have h5 := from_succ h4 hc c0 c1
            rw [e1] at hcall
            clear hM h4 hdec hgb hx hd hc ha c0 c1 e1
            (simp only [go_sem, reduceIte, Nat.reduceEqDiff, Nat.reduceLT, Nat.reduceLeDiff, Nat.reduceAdd, reduceCtorEq, Int.reduceToNat, Int.reduceLE, Int.reduceLT, Int.reduceNeg, Int.reduceEq, Int.reduceNe, Nat.reduceBEq, Nat.reduceMul, Nat.reducePow, *])
            refine OpW_call (ps := [.str [0, 10], .int .i32 ((c.toNat : Nat) : Int)]) rfl rfl call157 rfl ((hcall _).mono ?_)
            rintro p S'' ⟨rfl, rfl⟩
            (simp only [go_sem, reduceIte, Nat.reduceEqDiff, Nat.reduceLT, Nat.reduceLeDiff, Nat.reduceAdd, reduceCtorEq, Int.reduceToNat, Int.reduceLE, Int.reduceLT, Int.reduceNeg, Int.reduceEq, Int.reduceNe, Nat.reduceBEq, Nat.reduceMul, Nat.reducePow, *])
            exact ⟨m - 1, by omega, i + 1, by omega, rfl, h5⟩
      · have hge : 128 ≤ c.toNat := by omega
        obtain ⟨k1, k2⟩ := decode_high ⟨s.toArray⟩ i (by rw [hsz]; exact hi) (by rw [hgb]; exact hge)
        have hsw := decode_swallow s i hi (by rw [hx]; exact hge)
        generalize Utf8.decode ⟨s.toArray⟩ i = dd at *
        obtain ⟨r, n⟩ := dd
        simp only [] at k1 k2 hsw ⊢
        have hall : ∀ k, k < n → ∃ b, s[i + k]? = some b ∧ 128 ≤ b.toNat := fun k hk => by
          cases k with
          | zero => exact ⟨c, hc, hge⟩
          | succ k => exact hsw (k + 1) (by omega) hk
        have hle : i + n ≤ s.length := by
          obtain ⟨b', hb', _⟩ := hall (n - 1) (by omega)
          have := (List.getElem?_eq_some_iff.1 hb').1
          omega
        have h5 := from_add n h4 hall
        have hcall := fun S => indexRune_calls (r : Int) (by omega) S
        clear hM h4 hgb hx hd hc ha hsw hall
        (simp only [go_sem, reduceIte, Nat.reduceEqDiff, Nat.reduceLT, Nat.reduceLeDiff, Nat.reduceAdd, reduceCtorEq, Int.reduceToNat, Int.reduceLE, Int.reduceLT, Int.reduceNeg, Int.reduceEq, Int.reduceNe, Nat.reduceBEq, Nat.reduceMul, Nat.reducePow, *])
        refine OpW_call (ps := [.str [0, 10], .int .i32 (r : Int)]) rfl rfl call157 rfl ((hcall _).mono ?_)
        rintro p S'' ⟨rfl, rfl⟩
        (simp only [go_sem, reduceIte, Nat.reduceEqDiff, Nat.reduceLT, Nat.reduceLeDiff, Nat.reduceAdd, reduceCtorEq, Int.reduceToNat, Int.reduceLE, Int.reduceLT, Int.reduceNeg, Int.reduceEq, Int.reduceNe, Nat.reduceBEq, Nat.reduceMul, Nat.reducePow, *])
        exact ⟨m - n, by omega, i + n, by omega, rfl, h5⟩
    · rw [if_neg hi]
      have hMi : M = -1 := by
        rw [← hM, h4, List.drop_eq_nil_of_le (by omega)]
        rfl
      subst hMi
      clear hM h4
      (simp only [go_sem, reduceIte, Nat.reduceEqDiff, Nat.reduceLT, Nat.reduceLeDiff, Nat.reduceAdd, reduceCtorEq, Int.reduceToNat, Int.reduceLE, Int.reduceLT, Int.reduceNeg, Int.reduceEq, Int.reduceNe, Nat.reduceBEq, Nat.reduceMul, Nat.reducePow, *])
      exact Heap.le_set hb

theorem okEnd_all (e : List UInt8) (h1 : e.length < 4294967281) : okEnd e := by
  have hcall : ∀ S, CallsQ Try.prog 137 [.str e, .str [0, 10]] S (.int .i64 (Lib.indexAny e [0, 10])) := fun S => by
    by_cases h8 : e.length ≤ 8
    · exact idxAny_short e h8 S
    · refine CallsQ_below fun w args hv hh => ?_
      rw [args_str2 hv]
      have h116 : (Try.prog.info? 156).map (fun i => (i.zero, i.size)) = some (some (.agg (Array.replicate 256 (.bool false))), 256) := by kernel_rfl
      refine (Try.strings_IndexAny_long (zero_of_info h116).1 ⟨e.toArray⟩ ⟨([0, 10] : List UInt8).toArray⟩ w (by decide) (by simp [ByteArray.size]; omega) (by simpa [ByteArray.size] using h1) (by decide) (fun j b h => by
        have : b ∈ [(0 : UInt8), 10] := List.mem_of_getElem? h
        simp at this; rcases this with rfl | rfl <;> decide)).mono ?_
      rintro r w' ⟨rfl, rfl⟩
      exact ⟨_, rfl, by simp only [Rep], (((Below.refl _ _).alloc (Nat.le_refl _) _).alloc (by simp) _)⟩
  intro S
  refine CallsA_W (fun _ => false) Try.func108 rfl (Nat.le_of_ble_eq_true rfl) ?_
  simp only [Try.f108]
  (simp only [go_sem, reduceIte, Nat.reduceEqDiff, Nat.reduceLT, Nat.reduceLeDiff, Nat.reduceAdd, reduceCtorEq, Int.reduceToNat, Int.reduceLE, Int.reduceLT, Int.reduceNeg, Int.reduceEq, Int.reduceNe, Nat.reduceBEq, Nat.reduceMul, Nat.reducePow, *])
  refine OpW_call rfl rfl call137 rfl ((hcall _).mono ?_)
  rintro p S' ⟨rfl, rfl⟩
  unfold Lib.containsAny
  (simp only [go_sem, reduceIte, Nat.reduceEqDiff, Nat.reduceLT, Nat.reduceLeDiff, Nat.reduceAdd, reduceCtorEq, Int.reduceToNat, Int.reduceLE, Int.reduceLT, Int.reduceNeg, Int.reduceEq, Int.reduceNe, Nat.reduceBEq, Nat.reduceMul, Nat.reducePow, *])

end Go.Proofs.Ytcbonfgkfiapaaa.Pv
