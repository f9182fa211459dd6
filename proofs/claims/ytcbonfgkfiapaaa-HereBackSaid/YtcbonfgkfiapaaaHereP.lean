/- Package here and its reference say the same of what may be. -/
import Derived.Test.YtcbonfgkfiapaaaHereM
set_option linter.unusedVariables false
set_option linter.unusedSimpArgs false
namespace Go.Proofs.Ytcbonfgkfiapaaa.Pv
open Go Go.RowKit

theorem any_iff (s cs : List UInt8) : 0 ≤ Lib.indexAny s cs ↔ ∃ b ∈ s, b ∈ cs := by
  induction s with
  | nil => simp [Lib.indexAny]
  | cons b s ih =>
    have hge := Lib.indexAny_ge cs s
    unfold Lib.indexAny
    by_cases hb : b ∈ cs
    · rw [if_pos (by simpa using hb)]
      simp [hb]
    · rw [if_neg (by simpa using hb)]
      have : (∃ x ∈ b :: s, x ∈ cs) ↔ ∃ x ∈ s, x ∈ cs := by simp [hb]
      rw [this, ← ih]
      split
      · rename_i h; have h := eq_of_beq h; omega
      · rename_i h; have h : ¬ Lib.indexAny s cs = -1 := fun h' => h (by simp [h']); omega
theorem prefix9 (s : List UInt8) : Lib.hasPrefix s [9] = decide (s.head? = some 9) := by
  cases s with
  | nil => rfl
  | cons b s =>
    unfold Lib.hasPrefix
    rw [Bool.eq_iff_iff]
    simp [List.isPrefixOf]
    exact eq_comm
theorem right_same (e : List UInt8) (t : Bool) : hereRight e t = refRight e t := by
  unfold hereRight refRight Lib.containsAny
  rw [prefix9, Bool.eq_iff_iff]
  have := any_iff e [0, 10]
  simp only [Bool.and_eq_true, Bool.not_eq_true', decide_eq_false_iff_not, Bool.or_eq_true, decide_eq_true_eq, this, ne_eq]
  constructor
  · rintro ⟨h1, h2⟩
    refine ⟨fun h => h1 ⟨0, h, by simp⟩, fun h => h1 ⟨10, h, by simp⟩, h2⟩
  · rintro ⟨h1, h2, h3⟩
    refine ⟨?_, h3⟩
    rintro ⟨b, hb, hc⟩
    simp at hc
    rcases hc with rfl | rfl
    · exact h1 hb
    · exact h2 hb
theorem cut_line {cur rest : List UInt8} (h : ¬ (10 : UInt8) ∈ cur) : cutAt (cur ++ 10 :: rest) 10 = (cur, rest, true) ∧ Lib.indexByte (cur ++ 10 :: rest) 10 = (cur.length : Int) := by
  have hi : Lib.indexByte (cur ++ 10 :: rest) 10 = (cur.length : Int) := by
    induction cur with
    | nil => rfl
    | cons b cur ih =>
      have hb : ¬ b = 10 := fun e => h (by simp [e])
      have := ih fun h' => h (List.mem_cons_of_mem _ h')
      simp only [List.cons_append]
      unfold Lib.indexByte
      rw [if_neg (by simpa using hb), this, if_neg (by simp)]
      rfl
  refine ⟨?_, hi⟩
  unfold cutAt
  rw [hi, if_pos (by omega), Int.toNat_natCast]
  simp
theorem tabs_ne (t : Bool) (s : List UInt8) : (¬ cutTabs t s = s) ↔ (t = true ∧ Lib.hasPrefix s [9] = true) := by
  rw [prefix9, decide_eq_true_eq]
  cases t with
  | false => simp [cutTabs]
  | true =>
    cases s with
    | nil => simp [cutTabs]
    | cons b s =>
      by_cases hb : b = 9
      · subst hb
        simp only [cutTabs, List.head?_cons, and_self, iff_true]
        intro h
        have h1 := congrArg List.length h
        simp only [if_true, List.dropWhile, beq_self_eq_true, List.length_cons] at h1
        have h2 := (List.dropWhile_sublist (fun x : UInt8 => x == 9) (l := s)).length_le
        omega
      · simp [cutTabs, hb]
theorem rml_may (e : List UInt8) (t : Bool) (text : List UInt8) : ∀ (rest pre cur : List UInt8), text = pre ++ cur ++ rest → ¬ (10 : UInt8) ∈ cur → (rest = [] → cur = []) → (rest ≠ [] → rest.getLast? = some 10) → rml e t text rest (pre.length + cur.length) pre.length = mayL e t (cur ++ rest)
  | [], pre, cur, _, _, h3, _ => by
    rw [h3 rfl]
    simp only [rml, List.append_nil]
    rw [mayL, dif_pos rfl]
  | c :: cs, pre, cur, h1, h2, h3, h4 => by
    have h4' : cs ≠ [] → cs.getLast? = some 10 := fun hn => by
      have := h4 (by simp)
      rw [List.getLast?_cons] at this
      cases cs with
      | nil => exact absurd rfl hn
      | cons x xs => simpa [List.getLast?_cons] using this
    simp only [rml]
    by_cases hc : c = 10
    · subst hc
      have hl : (text.take (pre.length + cur.length)).drop pre.length = cur := by
        rw [h1, List.append_assoc, List.take_append]; simp
      have ih := rml_may e t text cs (pre ++ cur ++ [10]) [] (by rw [h1]; simp) (by simp) (fun _ => rfl) h4'
      simp only [List.length_append, List.length_cons, List.length_nil, Nat.add_zero, List.nil_append, Nat.zero_add] at ih
      rw [if_pos rfl, hl, ih]
      obtain ⟨k1, k2⟩ := cut_line (rest := cs) h2
      conv => rhs; rw [mayL]
      rw [dif_neg (by simp), k1, k2]
      simp only [tabs_ne]
      simp only [Int.toNat_natCast, reduceCtorEq, false_or, Bool.true_eq_false]
      have hd : List.drop (cur.length + 1) (cur ++ 10 :: cs) = cs := by simp
      rw [hd]
    · have hne : cs ≠ [] := fun h => by
        have := h4 (by simp)
        rw [h] at this
        simp at this
        exact hc this
      have ih := rml_may e t text cs pre (cur ++ [c]) (by rw [h1]; simp) (by simp [h2]; exact fun h => hc h.symm) (fun h => absurd h hne) h4'
      rw [if_neg hc]
      simp only [List.length_append, List.length_cons, List.length_nil, Nat.zero_add, List.append_assoc, List.cons_append, List.nil_append, ← Nat.add_assoc] at ih
      exact ih
theorem may_bad (e : List UInt8) (t : Bool) : ∀ (n : Nat) (text : List UInt8), text.length ≤ n → ¬ text = [] → ¬ text.getLast? = some 10 → mayL e t text = false
  | 0, text, hn, h1, _ => absurd (List.eq_nil_of_length_eq_zero (Nat.le_zero.1 hn)) h1
  | n + 1, text, hn, h1, h2 => by
    rw [mayL, dif_neg h1]
    by_cases h10 : (10 : UInt8) ∈ text
    · obtain ⟨cur, rest, he, hc⟩ := List.eq_append_cons_of_mem h10
      subst he
      obtain ⟨k1, k2⟩ := cut_line (rest := rest) hc
      rw [k1, k2, Int.toNat_natCast]
      have hd : List.drop (cur.length + 1) (cur ++ 10 :: rest) = rest := by simp
      rw [hd]
      split
      · rfl
      · have hr : ¬ rest = [] := fun h => h2 (by rw [h]; simp)
        refine may_bad e t n rest (by simp at hn; omega) hr fun h => h2 ?_
        rw [List.getLast?_append, List.getLast?_cons, h]
        rfl
    · have : (cutAt text 10).2.2 = false := by
        unfold cutAt
        have h := idx_mem text 10
        rw [if_neg (fun h' => h10 (h.1 h'))]
      rw [if_pos (Or.inl this)]
theorem may_same (e : List UInt8) (t : Bool) (text : List UInt8) : hereMay e t text = refMay e t text := by
  unfold hereMay refMay
  rw [right_same]
  have h0 := idx_mem text 0
  by_cases hall : refRight e t = true ∧ ¬ (0 : UInt8) ∈ text ∧ (text = [] ∨ text.getLast? = some 10)
  · rw [if_pos hall, hall.1]
    rw [show decide (0 ≤ Lib.indexByte text 0) = false from decide_eq_false fun h => hall.2.1 (h0.1 h)]
    have := rml_may e t text text [] [] (by simp) (by simp) (fun _ => rfl) (fun h => hall.2.2.resolve_left h)
    simp only [List.length_nil, Nat.add_zero, List.nil_append] at this
    rw [this]; rfl
  · rw [if_neg hall]
    cases hr : refRight e t with
    | false => rfl
    | true =>
      by_cases hz : (0 : UInt8) ∈ text
      · rw [show decide (0 ≤ Lib.indexByte text 0) = true from decide_eq_true (h0.2 hz)]; rfl
      · have hb : ¬ (text = [] ∨ text.getLast? = some 10) := fun h => hall ⟨hr, hz, h⟩
        rw [may_bad e t text.length text (Nat.le_refl _) (fun h => hb (Or.inl h)) (fun h => hb (Or.inr h)), Bool.and_false]

end Go.Proofs.Ytcbonfgkfiapaaa.Pv
