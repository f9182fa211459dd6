/- What is read of a text that is shown. -/
import Derived.Test.YtcbonfgkfiapaaaHereP
set_option linter.unusedVariables false
set_option linter.unusedSimpArgs false
namespace Go.Proofs.Ytcbonfgkfiapaaa.Pv
open Go Go.RowKit

def push (t : Bool) (cur l : List UInt8) : List UInt8 := if cur = [] then cutTabs t l else cur ++ l
theorem push_cons (t : Bool) (cur l : List UInt8) (c : UInt8) : push t cur (c :: l) = push t (if c = 9 ∧ t = true ∧ cur = [] then cur else cur ++ [c]) l := by
  unfold push cutTabs
  cases cur with
  | nil =>
    by_cases hc : c = 9
    · cases t <;> simp [hc]
    · cases t <;> simp [hc]
  | cons b cur => simp
theorem fed_app (e : List UInt8) (t : Bool) (L : List (List UInt8)) : ∀ (l rest : List UInt8) (cur : List UInt8) (sm : Bool) (i : Nat), ¬ (0 : UInt8) ∈ l → ¬ (10 : UInt8) ∈ l →
    ∃ sm', fed e t ⟨L, cur, sm, 0⟩ (l ++ rest) i = fed e t ⟨L, push t cur l, sm', 0⟩ rest (i + l.length)
  | [], rest, cur, sm, i, _, _ => ⟨sm, by
    have : push t cur [] = cur := by unfold push cutTabs; cases cur <;> simp
    rw [this]; rfl⟩
  | c :: l, rest, cur, sm, i, h0, h1 => by
    have c0 : ¬ c = 0 := fun h => h0 (by simp [h])
    have c10 : ¬ c = 10 := fun h => h1 (by simp [h])
    have hf : feedS e t ⟨L, cur, sm, 0⟩ c = ⟨L, if c = 9 ∧ t = true ∧ cur = [] then cur else cur ++ [c], true, 0⟩ := by
      unfold feedS
      simp only [if_true, if_neg c0, if_neg c10]
      split <;> rfl
    obtain ⟨sm', ih⟩ := fed_app e t L l rest (if c = 9 ∧ t = true ∧ cur = [] then cur else cur ++ [c]) true (i + 1) (fun h => h0 (List.mem_cons_of_mem _ h)) (fun h => h1 (List.mem_cons_of_mem _ h))
    refine ⟨sm', ?_⟩
    simp only [List.cons_append, fed, hf, if_true, List.length_cons]
    rw [ih, push_cons, show i + 1 + l.length = i + (l.length + 1) by omega]
theorem fed_line (e : List UInt8) (t : Bool) (L : List (List UInt8)) (l rest : List UInt8) (sm : Bool) (i : Nat) (h0 : ¬ (0 : UInt8) ∈ l) (h1 : ¬ (10 : UInt8) ∈ l) :
    (cutTabs t l = e → ∃ s, s.lines = L ∧ fed e t ⟨L, [], sm, 0⟩ (l ++ 10 :: rest) i = (s, i + l.length, 1)) ∧
    (¬ cutTabs t l = e → fed e t ⟨L, [], sm, 0⟩ (l ++ 10 :: rest) i = fed e t ⟨L ++ [cutTabs t l ++ [10]], [], false, 0⟩ rest (i + l.length + 1)) := by
  obtain ⟨sm', h⟩ := fed_app e t L l (10 :: rest) [] sm i h0 h1
  have hp : push t [] l = cutTabs t l := by simp [push]
  rw [hp] at h
  refine ⟨fun he => ?_, fun he => ?_⟩
  · have hf : feedS e t ⟨L, cutTabs t l, sm', 0⟩ 10 = ⟨L, cutTabs t l, sm', 1⟩ := by unfold feedS; simp [he]
    exact ⟨⟨L, cutTabs t l, sm', 1⟩, rfl, by rw [h]; simp only [fed, hf]; rfl⟩
  · have hf : feedS e t ⟨L, cutTabs t l, sm', 0⟩ 10 = ⟨L ++ [cutTabs t l ++ [10]], [], false, 0⟩ := by unfold feedS; simp [he]
    rw [h]; simp only [fed, hf, if_true]
theorem fed_zero (e : List UInt8) (t : Bool) (L : List (List UInt8)) (l rest : List UInt8) (sm : Bool) (i : Nat) (h0 : ¬ (0 : UInt8) ∈ l) (h1 : ¬ (10 : UInt8) ∈ l) :
    (fed e t ⟨L, [], sm, 0⟩ (l ++ 0 :: rest) i).2.2 = 3 := by
  obtain ⟨sm', h⟩ := fed_app e t L l (0 :: rest) [] sm i h0 h1
  have hf : feedS e t ⟨L, push t [] l, sm', 0⟩ 0 = ⟨L, push t [] l, sm', 3⟩ := by unfold feedS; simp
  rw [h]; simp only [fed, hf]; rfl
theorem cut_short (t : Bool) (l : List UInt8) (h : ¬ cutTabs t l = l) : (cutTabs t l).length < l.length := by
  have h1 : (cutTabs t l).length ≤ l.length := by
    unfold cutTabs
    split
    · exact (List.dropWhile_sublist _).length_le
    · exact Nat.le_refl _
  rcases Nat.lt_or_ge (cutTabs t l).length l.length with h2 | h2
  · exact h2
  · refine absurd ?_ h
    unfold cutTabs at h2 ⊢
    split
    · rename_i ht
      rw [if_pos ht] at h2
      exact (List.dropWhile_sublist _).eq_of_length_le h2
    · rfl
theorem fed_all (e : List UInt8) (t : Bool) (hr : refRight e t = true) : ∀ (n : Nat) (text : List UInt8), text.length ≤ n → ∀ (L : List (List UInt8)) (sm : Bool) (i : Nat),
    (¬ (0 : UInt8) ∈ text ∧ mayL e t text = true → (fed e t ⟨L, [], sm, 0⟩ (text ++ (e ++ [10])) i).2 = (i + text.length + e.length, 1) ∧ (fed e t ⟨L, [], sm, 0⟩ (text ++ (e ++ [10])) i).1.lines.flatten = L.flatten ++ text) ∧
    (¬ (¬ (0 : UInt8) ∈ text ∧ mayL e t text = true) → (fed e t ⟨L, [], sm, 0⟩ (text ++ (e ++ [10])) i).2 = (i + text.length + e.length, 1) → (fed e t ⟨L, [], sm, 0⟩ (text ++ (e ++ [10])) i).1.lines.flatten.length < L.flatten.length + text.length) := by
  have he0 : ¬ (0 : UInt8) ∈ e ∧ ¬ (10 : UInt8) ∈ e ∧ cutTabs t e = e := by
    unfold refRight at hr
    simp only [Bool.and_eq_true, Bool.not_eq_true', decide_eq_false_iff_not, Bool.or_eq_true, decide_eq_true_eq, ne_eq] at hr
    refine ⟨hr.1, hr.2.1, ?_⟩
    apply Classical.byContradiction
    intro h
    have := (tabs_ne t e).1 h
    rw [prefix9, decide_eq_true_eq] at this
    rcases hr.2.2 with h2 | h2
    · rw [h2] at this; cases this.1
    · exact h2 this.2
  obtain ⟨e0, e10, ec⟩ := he0
  intro n
  induction n with
  | zero =>
    intro text hn L sm i
    have := List.eq_nil_of_length_eq_zero (Nat.le_zero.1 hn)
    subst this
    obtain ⟨s, k1, k2⟩ := (fed_line e t L e [] sm i e0 e10).1 ec
    simp only [List.nil_append, k2, k1, List.length_nil, Nat.add_zero, List.append_nil]
    exact ⟨fun _ => ⟨by simp, by simp⟩, fun h => absurd ⟨by simp, by rw [mayL, dif_pos rfl]⟩ h⟩
  | succ n ih =>
    intro text hn L sm i
    by_cases h10 : (10 : UInt8) ∈ text
    · obtain ⟨l, rest, ht, hl10⟩ := List.eq_append_cons_of_mem h10
      subst ht
      by_cases h0 : (0 : UInt8) ∈ l
      · obtain ⟨l1, l2, ht, hl0⟩ := List.eq_append_cons_of_mem h0
        subst ht
        have h3 := fed_zero e t L l1 (l2 ++ 10 :: rest ++ (e ++ [10])) sm i hl0 (fun h => hl10 (by simp [h]))
        have ha : l1 ++ 0 :: l2 ++ 10 :: rest ++ (e ++ [10]) = l1 ++ 0 :: (l2 ++ 10 :: rest ++ (e ++ [10])) := by simp
        rw [ha]
        refine ⟨fun h => absurd (by simp) h.1, fun _ h => ?_⟩
        rw [h] at h3; cases h3
      · have ha : l ++ 10 :: rest ++ (e ++ [10]) = l ++ 10 :: (rest ++ (e ++ [10])) := by simp
        obtain ⟨f1, f2⟩ := fed_line e t L l (rest ++ (e ++ [10])) sm i h0 hl10
        obtain ⟨k1, k2⟩ := cut_line (rest := rest) hl10
        have hd : List.drop (l.length + 1) (l ++ 10 :: rest) = rest := by simp
        have hm : mayL e t (l ++ 10 :: rest) = if l = e ∨ ¬ cutTabs t l = l then false else mayL e t rest := by
          rw [mayL, dif_neg (by simp), k1, k2, Int.toNat_natCast, hd]
          simp only [tabs_ne, Bool.true_eq_false, false_or]
        rw [ha, hm]
        by_cases hE : cutTabs t l = e
        · obtain ⟨s, s1, s2⟩ := f1 hE
          have hbad : l = e ∨ ¬ cutTabs t l = l := by
            by_cases h : l = e
            · exact Or.inl h
            · exact Or.inr fun h' => h (h'.symm.trans hE)
          rw [if_pos hbad, s2]
          refine ⟨fun h => absurd h.2 (by simp), fun _ h => ?_⟩
          simp only [Prod.mk.injEq, List.length_append, List.length_cons] at h
          omega
        · have hle : ¬ l = e := fun h => hE (by rw [h]; exact ec)
          rw [f2 hE]
          obtain ⟨g1, g2⟩ := ih rest (by simp at hn; omega) (L ++ [cutTabs t l ++ [10]]) false (i + l.length + 1)
          have hpos : i + l.length + 1 + rest.length + e.length = i + (l ++ 10 :: rest).length + e.length := by simp; omega
          have hmem : (¬ (0 : UInt8) ∈ l ++ 10 :: rest) ↔ ¬ (0 : UInt8) ∈ rest := by simp [h0]
          rw [hpos] at g1 g2
          rw [hmem]
          by_cases hc : cutTabs t l = l
          · rw [if_neg (fun h => h.elim hle fun h => h hc)]
            rw [hc] at g1 g2 ⊢
            refine ⟨fun h => ?_, fun h h' => ?_⟩
            · obtain ⟨x1, x2⟩ := g1 h
              exact ⟨x1, by rw [x2]; simp⟩
            · have := g2 h h'
              simp at this ⊢; omega
          · have hs := cut_short t l hc
            rw [if_pos (Or.inr hc)]
            refine ⟨fun h => absurd h.2 (by simp), fun _ h' => ?_⟩
            by_cases hg : ¬ (0 : UInt8) ∈ rest ∧ mayL e t rest = true
            · have := (g1 hg).2
              rw [this]; simp; omega
            · have := g2 hg h'
              simp at this ⊢; omega
    · by_cases h0 : (0 : UInt8) ∈ text
      · obtain ⟨l1, l2, ht, hl0⟩ := List.eq_append_cons_of_mem h0
        subst ht
        have h3 := fed_zero e t L l1 (l2 ++ (e ++ [10])) sm i hl0 (fun h => h10 (by simp [h]))
        have ha : l1 ++ 0 :: l2 ++ (e ++ [10]) = l1 ++ 0 :: (l2 ++ (e ++ [10])) := by simp
        rw [ha]
        refine ⟨fun h => absurd (by simp) h.1, fun _ h => ?_⟩
        rw [h] at h3; cases h3
      · by_cases hn : text = []
        · subst hn
          obtain ⟨s, k1, k2⟩ := (fed_line e t L e [] sm i e0 e10).1 ec
          simp only [List.nil_append, k2, k1, List.length_nil, Nat.add_zero, List.append_nil]
          exact ⟨fun _ => ⟨by simp, by simp⟩, fun h => absurd ⟨by simp, by rw [mayL, dif_pos rfl]⟩ h⟩
        · have hb : mayL e t text = false := may_bad e t text.length text (Nat.le_refl _) hn fun h => h10 (List.mem_of_getLast? h)
          have hp := List.length_pos_iff.2 hn
          have ha : text ++ (e ++ [10]) = (text ++ e) ++ 10 :: [] := by simp
          rw [ha]
          obtain ⟨f1, f2⟩ := fed_line e t L (text ++ e) [] sm i (by simp [h0, e0]) (by simp [h10, e10])
          refine ⟨fun h => absurd h.2 (by rw [hb]; decide), fun _ h => ?_⟩
          by_cases hE : cutTabs t (text ++ e) = e
          · obtain ⟨s, s1, s2⟩ := f1 hE
            rw [s2, s1]; omega
          · rw [f2 hE] at h
            simp only [fed, Prod.mk.injEq] at h
            exact absurd h.2 (by decide)

end Go.Proofs.Ytcbonfgkfiapaaa.Pv
