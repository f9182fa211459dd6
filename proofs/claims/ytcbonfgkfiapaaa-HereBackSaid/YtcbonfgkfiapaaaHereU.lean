/- What the runes of a text say of its bytes. -/
import Derived.Test.YtcbonfgkfiapaaaHere4
import Derived.Laws.RangeAny
set_option linter.unusedVariables false
set_option linter.unusedSimpArgs false
namespace Go.Proofs.Ytcbonfgkfiapaaa.Pv
open Go Go.RowKit

theorem get_bang (l : List UInt8) (j : Nat) (h : j < l.length) : (⟨l.toArray⟩ : ByteArray).get! j = l[j] := by
  simp [ByteArray.get!, h]
theorem decode_swallow (l : List UInt8) (i : Nat) (hi : i < l.length) (hb : 128 ≤ (l[i]).toNat) :
    ∀ k, 1 ≤ k → k < (Utf8.decode ⟨l.toArray⟩ i).2 → ∃ b, l[i + k]? = some b ∧ 128 ≤ b.toNat := by
  have hsz : (⟨l.toArray⟩ : ByteArray).size = l.length := by simp [ByteArray.size]
  have cont : ∀ k, (decide (i + k < (⟨l.toArray⟩ : ByteArray).size) && ((⟨l.toArray⟩ : ByteArray).get! (i + k)).toNat / 64 == 2) = true → ∃ b, l[i + k]? = some b ∧ 128 ≤ b.toNat := by
    intro k hk
    simp only [Bool.and_eq_true, decide_eq_true_eq, beq_iff_eq] at hk
    rw [hsz] at hk
    refine ⟨l[i + k]'hk.1, List.getElem?_eq_getElem hk.1, ?_⟩
    have := hk.2
    rw [get_bang l _ hk.1] at this
    omega
  intro k h1 h2
  unfold Utf8.decode at h2
  simp only [] at h2
  split at h2
  · omega
  · split at h2
    · rename_i hc
      simp only [Bool.and_eq_true] at hc
      split at h2
      · have : k = 1 := by simp at h2; omega
        subst this
        exact cont 1 (by simpa using hc.2)
      · simp at h2; omega
    · split at h2
      · rename_i hc
        simp only [Bool.and_eq_true] at hc
        split at h2
        · simp at h2
          have : k = 1 ∨ k = 2 := by omega
          rcases this with rfl | rfl
          · exact cont 1 (by simpa using hc.1.2)
          · exact cont 2 (by simpa using hc.2)
        · simp at h2; omega
      · split at h2
        · rename_i hc
          simp only [Bool.and_eq_true] at hc
          split at h2
          · simp at h2
            have : k = 1 ∨ k = 2 ∨ k = 3 := by omega
            rcases this with rfl | rfl | rfl
            · exact cont 1 (by simpa using hc.1.1.2)
            · exact cont 2 (by simpa using hc.1.2)
            · exact cont 3 (by simpa using hc.2)
          · simp at h2; omega
        · simp at h2; omega

end Go.Proofs.Ytcbonfgkfiapaaa.Pv
