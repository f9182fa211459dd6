/- What the reference of package here computes. Bytes fed to a reader of package here, one behind the other. What the reference's May computes. Package here and its reference say the same of what may be. What is read of a text that is shown. -/
import Derived.Test.YtcbonfgkfiapaaaHere1
import Derived.Test.YtcbonfgkfiapaaaChar3
/-! What the reference of package here computes. -/
set_option linter.unusedVariables false
set_option linter.unusedSimpArgs false
set_option maxRecDepth 100000
set_option maxHeartbeats 4000000
namespace Go.Proofs.Ytcbonfgkfiapaaa.Pv
open Go Go.RowKit

theorem u8_int {c d : UInt8} : ((c.toNat : Int) = (d.toNat : Int)) ↔ c = d := by
  rw [← UInt8.toNat_inj]; omega
theorem has_calls (s : List UInt8) (hs : s.length ≤ 4611686018427387904) (c : UInt8) (S : Heap) : CallsQ Try.prog 106 [.str s, .int .u8 (c.toNat : Int)] S (.bool (decide (c ∈ s))) := by
  refine CallsA_W (fun _ => false) Try.func106 rfl (Nat.le_of_ble_eq_true rfl) ?_
  simp only [Try.f106]
  (simp only [go_sem, reduceIte, Nat.reduceEqDiff, Nat.reduceLT, Nat.reduceLeDiff, Nat.reduceAdd, reduceCtorEq, Int.reduceToNat, Int.reduceLE, Int.reduceLT, Int.reduceNeg, Int.reduceEq, Int.reduceNe, Nat.reduceBEq, Nat.reduceMul, Nat.reducePow, *])
  obtain ⟨q, hq⟩ : ∃ q : Int, (c.toNat : Int) = q := ⟨_, rfl⟩
  refine CodeW_loop (fun m σ' S' => ∃ i : Nat, i + m = s.length ∧ σ' 0 = .str s ∧ σ' 1 = .int .u8 q ∧ σ' 5 = .int .i64 i ∧ S' = S ∧ ∀ j d, j < i → s[j]? = some d → d ≠ c) s.length ?_ ?_
  · (simp only [go_sem, reduceIte, Nat.reduceEqDiff, Nat.reduceLT, Nat.reduceLeDiff, Nat.reduceAdd, reduceCtorEq, Int.reduceToNat, Int.reduceLE, Int.reduceLT, Int.reduceNeg, Int.reduceEq, Int.reduceNe, Nat.reduceBEq, Nat.reduceMul, Nat.reducePow, *])
    exact ⟨0, by omega, rfl, fun j d h => by omega⟩
  · rintro m σ' S' ⟨i, h1, h2, h3, h4, rfl, h6⟩
    cases hc : s[i]? with
    | none =>
      have hl : s.length ≤ i := List.getElem?_eq_none_iff.1 hc
      have hlt : ¬ ((i : Int) < (s.length : Int)) := by omega
      have hno : c ∉ s := fun hm => by
        obtain ⟨j, hj⟩ := List.getElem?_of_mem hm
        exact h6 j c (by have := (List.getElem?_eq_some_iff.1 hj).1; omega) hj rfl
      rw [decide_eq_false hno]
      clear hq
      (simp only [go_sem, reduceIte, Nat.reduceEqDiff, Nat.reduceLT, Nat.reduceLeDiff, Nat.reduceAdd, reduceCtorEq, Int.reduceToNat, Int.reduceLE, Int.reduceLT, Int.reduceNeg, Int.reduceEq, Int.reduceNe, Nat.reduceBEq, Nat.reduceMul, Nat.reducePow, *])
    | some b =>
      have hl := (List.getElem?_eq_some_iff.1 hc).1
      have hlt : (i : Int) < (s.length : Int) := by omega
      by_cases hb : b = c
      · have hm : c ∈ s := by subst hb; exact List.mem_of_getElem? hc
        have he : (b.toNat : Int) = q := by rw [hb, hq]
        rw [decide_eq_true hm]
        clear hq hb
        (simp only [go_sem, reduceIte, Nat.reduceEqDiff, Nat.reduceLT, Nat.reduceLeDiff, Nat.reduceAdd, reduceCtorEq, Int.reduceToNat, Int.reduceLE, Int.reduceLT, Int.reduceNeg, Int.reduceEq, Int.reduceNe, Nat.reduceBEq, Nat.reduceMul, Nat.reducePow, *])
      · have he : ¬ (b.toNat : Int) = q := fun h => hb (u8_int.1 (h.trans hq.symm))
        generalize decide (c ∈ s) = R
        clear hq
        (simp only [go_sem, reduceIte, Nat.reduceEqDiff, Nat.reduceLT, Nat.reduceLeDiff, Nat.reduceAdd, reduceCtorEq, Int.reduceToNat, Int.reduceLE, Int.reduceLT, Int.reduceNeg, Int.reduceEq, Int.reduceNe, Nat.reduceBEq, Nat.reduceMul, Nat.reducePow, *])
        refine ⟨m - 1, by omega, i + 1, by omega, step64 hl hs, fun j d hj hd => ?_⟩
        by_cases e : j = i
        · subst e; rw [hc] at hd; injection hd with hd; subst hd; exact hb
        · exact h6 j d (by omega) hd
def refRight (e : List UInt8) (t : Bool) : Bool := !decide ((0 : UInt8) ∈ e) && (!decide ((10 : UInt8) ∈ e) && (!t || decide (e.head? ≠ some 9)))
theorem refRight_calls (e : List UInt8) (t : Bool) (hs : e.length ≤ 4611686018427387904) (S : Heap) : CallsQ Try.prog 105 [.agg [.str e, .bool t]] S (.bool (refRight e t)) := by
  have c1 := fun S => has_calls e hs 0 S
  have c2 := fun S => has_calls e hs 10 S
  unfold refRight
  generalize decide ((0 : UInt8) ∈ e) = z0 at *
  generalize decide ((10 : UInt8) ∈ e) = z1 at *
  refine CallsA_W (fun _ => false) Try.func105 rfl (Nat.le_of_ble_eq_true rfl) ?_
  simp only [Try.f105]
  (simp only [go_sem, reduceIte, Nat.reduceEqDiff, Nat.reduceLT, Nat.reduceLeDiff, Nat.reduceAdd, reduceCtorEq, Int.reduceToNat, Int.reduceLE, Int.reduceLT, Int.reduceNeg, Int.reduceEq, Int.reduceNe, Nat.reduceBEq, Nat.reduceMul, Nat.reducePow, *])
  (refine OpW_call rfl rfl call106 rfl ((c1 _).mono ?_); rintro p S' ⟨rfl, rfl⟩)
  cases z0 <;> (simp only [go_sem, reduceIte, Nat.reduceEqDiff, Nat.reduceLT, Nat.reduceLeDiff, Nat.reduceAdd, reduceCtorEq, Int.reduceToNat, Int.reduceLE, Int.reduceLT, Int.reduceNeg, Int.reduceEq, Int.reduceNe, Nat.reduceBEq, Nat.reduceMul, Nat.reducePow, *])
  · (refine OpW_call rfl rfl call106 rfl ((c2 _).mono ?_); rintro p S' ⟨rfl, rfl⟩)
    cases z1 <;> (simp only [go_sem, reduceIte, Nat.reduceEqDiff, Nat.reduceLT, Nat.reduceLeDiff, Nat.reduceAdd, reduceCtorEq, Int.reduceToNat, Int.reduceLE, Int.reduceLT, Int.reduceNeg, Int.reduceEq, Int.reduceNe, Nat.reduceBEq, Nat.reduceMul, Nat.reducePow, *])
    · cases t with
      | false => (simp only [go_sem, reduceIte, Nat.reduceEqDiff, Nat.reduceLT, Nat.reduceLeDiff, Nat.reduceAdd, reduceCtorEq, Int.reduceToNat, Int.reduceLE, Int.reduceLT, Int.reduceNeg, Int.reduceEq, Int.reduceNe, Nat.reduceBEq, Nat.reduceMul, Nat.reducePow, *])
                 rfl
      | true =>
        (simp only [go_sem, reduceIte, Nat.reduceEqDiff, Nat.reduceLT, Nat.reduceLeDiff, Nat.reduceAdd, reduceCtorEq, Int.reduceToNat, Int.reduceLE, Int.reduceLT, Int.reduceNeg, Int.reduceEq, Int.reduceNe, Nat.reduceBEq, Nat.reduceMul, Nat.reducePow, *])
        cases e with
        | nil => (simp only [go_sem, reduceIte, Nat.reduceEqDiff, Nat.reduceLT, Nat.reduceLeDiff, Nat.reduceAdd, reduceCtorEq, Int.reduceToNat, Int.reduceLE, Int.reduceLT, Int.reduceNeg, Int.reduceEq, Int.reduceNe, Nat.reduceBEq, Nat.reduceMul, Nat.reducePow, *])
                 rfl
        | cons b e' =>
          (simp only [go_sem, reduceIte, Nat.reduceEqDiff, Nat.reduceLT, Nat.reduceLeDiff, Nat.reduceAdd, reduceCtorEq, Int.reduceToNat, Int.reduceLE, Int.reduceLT, Int.reduceNeg, Int.reduceEq, Int.reduceNe, Nat.reduceBEq, Nat.reduceMul, Nat.reducePow, *])
          refine congrArg PV.bool ?_
          simp only [Bool.true_and, Bool.false_or]
          refine decide_eq_decide.2 (not_congr ?_)
          rw [Option.some.injEq]
          exact ⟨fun h => u8_int.1 (h.trans rfl), fun h => by rw [h]; rfl⟩
    · rfl
  · rfl
theorem show_calls (e : List UInt8) (t : Bool) (text : List UInt8) (h : e.length + text.length ≤ 4611686018427387904) (S : Heap) : CallsQ Try.prog 53 [.agg [.str e, .bool t], .str text] S (.str (text ++ e ++ [10])) := by
  have h1 : text.length + e.length ≤ 9223372036854775807 := by omega
  have h2 : (text ++ e).length ≤ 9223372036854775806 := by simp; omega
  refine CallsA_W (fun _ => false) Try.func53 rfl (Nat.le_of_ble_eq_true rfl) ?_
  simp only [Try.f53]
  (simp only [go_sem, reduceIte, Nat.reduceEqDiff, Nat.reduceLT, Nat.reduceLeDiff, Nat.reduceAdd, reduceCtorEq, Int.reduceToNat, Int.reduceLE, Int.reduceLT, Int.reduceNeg, Int.reduceEq, Int.reduceNe, Nat.reduceBEq, Nat.reduceMul, Nat.reducePow, *])
theorem refShow_calls (e : List UInt8) (t : Bool) (text : List UInt8) (h : e.length + text.length ≤ 4611686018427387904) (S : Heap) : CallsQ Try.prog 54 [.agg [.str e, .bool t], .str text] S (.str (text ++ e ++ [10])) := by
  have h1 : text.length + e.length ≤ 9223372036854775807 := by omega
  have h2 : (text ++ e).length ≤ 9223372036854775806 := by simp; omega
  refine CallsA_W (fun _ => false) Try.func54 rfl (Nat.le_of_ble_eq_true rfl) ?_
  simp only [Try.f54]
  (simp only [go_sem, reduceIte, Nat.reduceEqDiff, Nat.reduceLT, Nat.reduceLeDiff, Nat.reduceAdd, reduceCtorEq, Int.reduceToNat, Int.reduceLE, Int.reduceLT, Int.reduceNeg, Int.reduceEq, Int.reduceNe, Nat.reduceBEq, Nat.reduceMul, Nat.reducePow, *])
def cutTabs (t : Bool) (s : List UInt8) : List UInt8 := if t = true then s.dropWhile (· == 9) else s
theorem refCut_calls (e : List UInt8) (t : Bool) (s : List UInt8) (hs : s.length ≤ 4611686018427387904) (S : Heap) : CallsQ Try.prog 107 [.agg [.str e, .bool t], .str s] S (.str (cutTabs t s)) := by
  refine CallsA_W (fun _ => false) Try.func107 rfl (Nat.le_of_ble_eq_true rfl) ?_
  simp only [Try.f107]
  (simp only [go_sem, reduceIte, Nat.reduceEqDiff, Nat.reduceLT, Nat.reduceLeDiff, Nat.reduceAdd, reduceCtorEq, Int.reduceToNat, Int.reduceLE, Int.reduceLT, Int.reduceNeg, Int.reduceEq, Int.reduceNe, Nat.reduceBEq, Nat.reduceMul, Nat.reducePow, *])
  obtain ⟨R, hR⟩ : ∃ R, cutTabs t s = R := ⟨_, rfl⟩
  rw [hR]
  refine CodeW_loop (fun m σ' S' => ∃ x : List UInt8, x.length = m ∧ σ' 1 = .str x ∧ σ' 2 = .ref [.str e, .bool t] ∧ S' = S ∧ cutTabs t x = R) s.length ?_ ?_
  · (simp only [go_sem, reduceIte, Nat.reduceEqDiff, Nat.reduceLT, Nat.reduceLeDiff, Nat.reduceAdd, reduceCtorEq, Int.reduceToNat, Int.reduceLE, Int.reduceLT, Int.reduceNeg, Int.reduceEq, Int.reduceNe, Nat.reduceBEq, Nat.reduceMul, Nat.reducePow, *])
    exact ⟨s, rfl, rfl, hR⟩
  · rintro m σ' S' ⟨x, rfl, h1, h2, rfl, h3⟩
    clear hR
    cases t with
    | false =>
      obtain rfl : x = R := h3
      (simp only [go_sem, reduceIte, Nat.reduceEqDiff, Nat.reduceLT, Nat.reduceLeDiff, Nat.reduceAdd, reduceCtorEq, Int.reduceToNat, Int.reduceLE, Int.reduceLT, Int.reduceNeg, Int.reduceEq, Int.reduceNe, Nat.reduceBEq, Nat.reduceMul, Nat.reducePow, *])
    | true =>
      cases x with
      | nil =>
        obtain rfl : [] = R := h3
        (simp only [go_sem, reduceIte, Nat.reduceEqDiff, Nat.reduceLT, Nat.reduceLeDiff, Nat.reduceAdd, reduceCtorEq, Int.reduceToNat, Int.reduceLE, Int.reduceLT, Int.reduceNeg, Int.reduceEq, Int.reduceNe, Nat.reduceBEq, Nat.reduceMul, Nat.reducePow, *])
      | cons b x' =>
        by_cases hb : b = 9
        · have hi : (b.toNat : Int) = 9 := by rw [hb]; rfl
          have h4 : cutTabs true x' = R := by rw [← h3, hb]; simp [cutTabs]
          clear h3 hb
          have h5 : 1 ≤ x'.length + 1 := by omega
          have h6 : x'.length + 1 ≤ x'.length + 1 := Nat.le_refl _
          have h7 : List.take x'.length x' = x' := List.take_length
          have h8 : List.drop 1 (b :: x') = x' := rfl
          (simp only [go_sem, reduceIte, Nat.reduceEqDiff, Nat.reduceLT, Nat.reduceLeDiff, Nat.reduceAdd, reduceCtorEq, Int.reduceToNat, Int.reduceLE, Int.reduceLT, Int.reduceNeg, Int.reduceEq, Int.reduceNe, Nat.reduceBEq, Nat.reduceMul, Nat.reducePow, *])
          exact ⟨x'.length, by omega, x', rfl, rfl, h4⟩
        · have hi : ¬ (b.toNat : Int) = 9 := fun h => hb (u8_int.1 (h.trans rfl))
          have h4 : b :: x' = R := by rw [← h3]; simp [cutTabs, hb]
          clear h3 hb
          subst h4
          (simp only [go_sem, reduceIte, Nat.reduceEqDiff, Nat.reduceLT, Nat.reduceLeDiff, Nat.reduceAdd, reduceCtorEq, Int.reduceToNat, Int.reduceLE, Int.reduceLT, Int.reduceNeg, Int.reduceEq, Int.reduceNe, Nat.reduceBEq, Nat.reduceMul, Nat.reducePow, *])

end Go.Proofs.Ytcbonfgkfiapaaa.Pv

/-! Bytes fed to a reader of package here, one behind the other. -/
set_option linter.unusedVariables false
set_option linter.unusedSimpArgs false
set_option maxRecDepth 100000
set_option maxHeartbeats 4000000
namespace Go.Proofs.Ytcbonfgkfiapaaa.Pv
open Go Go.RowKit

def fed (e : List UInt8) (t : Bool) : RS → List UInt8 → Nat → RS × Nat × Int
  | s, [], i => (s, i, 0)
  | s, c :: cs, i => if (feedS e t s c).sig = 0 then fed e t (feedS e t s c) cs (i + 1) else (feedS e t s c, i, (feedS e t s c).sig)
theorem feed_small {e : List UInt8} {t : Bool} {s : RS} {c : UInt8} {i : Nat} (h1 : s.lines.length ≤ i) (h2 : s.line.length ≤ i) : (feedS e t s c).lines.length ≤ i + 1 ∧ (feedS e t s c).line.length ≤ i + 1 := by
  unfold feedS
  (repeat' split) <;> (constructor <;> (try dsimp only) <;> (try simp only [List.length_append, List.length_cons, List.length_nil]) <;> omega)
theorem fed_calls (e : List UInt8) (t : Bool) (s : List UInt8) (hr : hereRight e t = true) (h1 : e.length < 4294967281) (ha : okEnd e) (hs : s.length ≤ 999999) (S : Heap) :
    CallsA Try.prog 56 [.agg [.str e, .bool t], .str s] S fun q S' => ∃ r pl pn, q = .tup [.mp r 0, .int .i64 ((fed e t ⟨[], [], false, 0⟩ s 0).2.1 : Int), .int .i64 (fed e t ⟨[], [], false, 0⟩ s 0).2.2] ∧ IsRdr S S' r e t (fed e t ⟨[], [], false, 0⟩ s 0).1 pl pn := by
  generalize hF : fed e t ⟨[], [], false, 0⟩ s 0 = F
  refine CallsA_W (fun _ => false) Try.func56 rfl (Nat.le_of_ble_eq_true rfl) ?_
  simp only [Try.f56]
  (simp only [go_sem, reduceIte, Nat.reduceEqDiff, Nat.reduceLT, Nat.reduceLeDiff, Nat.reduceAdd, reduceCtorEq, Int.reduceToNat, Int.reduceLE, Int.reduceLT, Int.reduceNeg, Int.reduceEq, Int.reduceNe, Nat.reduceBEq, Nat.reduceMul, Nat.reducePow, *])
  refine OpW_call (ps := [.agg [.str e, .bool t]]) rfl rfl call101 rfl ((hereNew_calls e t h1 ha S).mono ?_)
  rintro p S0 hp
  rw [if_pos hr] at hp
  obtain ⟨r, hrn, rfl, rfl⟩ := hp
  have R0 := rdr_new hrn e t
  (simp only [go_sem, reduceIte, Nat.reduceEqDiff, Nat.reduceLT, Nat.reduceLeDiff, Nat.reduceAdd, reduceCtorEq, Int.reduceToNat, Int.reduceLE, Int.reduceLT, Int.reduceNeg, Int.reduceEq, Int.reduceNe, Nat.reduceBEq, Nat.reduceMul, Nat.reducePow, *])
  generalize S.set r (rdr e t .sl0 .sl0 false 0) = S0 at *
  refine CodeW_loop (fun m σ' S' => ∃ (i : Nat) (st : RS) (pl pn : PV), i + m = s.length ∧ σ' 1 = .str s ∧ σ' 7 = .mp r 0 ∧ σ' 8 = .int .i64 i ∧ IsRdr S S' r e t st pl pn ∧ st.sig = 0 ∧ st.lines.length ≤ i ∧ st.line.length ≤ i ∧ fed e t st (s.drop i) i = F) s.length ?_ ?_
  · (simp only [go_sem, reduceIte, Nat.reduceEqDiff, Nat.reduceLT, Nat.reduceLeDiff, Nat.reduceAdd, reduceCtorEq, Int.reduceToNat, Int.reduceLE, Int.reduceLT, Int.reduceNeg, Int.reduceEq, Int.reduceNe, Nat.reduceBEq, Nat.reduceMul, Nat.reducePow, *])
    exact ⟨0, ⟨[], [], false, 0⟩, _, _, by omega, rfl, R0, rfl, Nat.le_refl _, Nat.le_refl _, by simpa using hF⟩
  · rintro m σ' S' ⟨i, st, pl, pn, h2, h3, h4, h5, h6, h7, h8, h9, h10⟩
    clear R0 hF hr
    cases hc : s[i]? with
    | none =>
      have hl : s.length ≤ i := List.getElem?_eq_none_iff.1 hc
      have hlt : ¬ ((i : Int) < (s.length : Int)) := by omega
      rw [List.drop_eq_nil_of_le hl] at h10
      simp only [fed] at h10
      subst h10
      (simp only [go_sem, reduceIte, Nat.reduceEqDiff, Nat.reduceLT, Nat.reduceLeDiff, Nat.reduceAdd, reduceCtorEq, Int.reduceToNat, Int.reduceLE, Int.reduceLT, Int.reduceNeg, Int.reduceEq, Int.reduceNe, Nat.reduceBEq, Nat.reduceMul, Nat.reducePow, *])
      exact ⟨r, pl, pn, by rw [show i = s.length by omega], h6⟩
    | some c =>
      have hl := (List.getElem?_eq_some_iff.1 hc).1
      have hlt : (i : Int) < (s.length : Int) := by omega
      have hd : s.drop i = c :: s.drop (i + 1) := by
        obtain ⟨_, hx⟩ := List.getElem?_eq_some_iff.1 hc
        rw [List.drop_eq_getElem_cons hl, hx]
      rw [hd] at h10
      simp only [fed] at h10
      (simp only [go_sem, reduceIte, Nat.reduceEqDiff, Nat.reduceLT, Nat.reduceLeDiff, Nat.reduceAdd, reduceCtorEq, Int.reduceToNat, Int.reduceLE, Int.reduceLT, Int.reduceNeg, Int.reduceEq, Int.reduceNe, Nat.reduceBEq, Nat.reduceMul, Nat.reducePow, *])
      refine OpW_call (ps := [.mp r 0, .int .u8 (c.toNat : Int)]) rfl rfl call58 rfl ((feed_calls S r e t st pl pn c S' h6 ⟨by omega, by omega⟩).mono ?_)
      obtain ⟨g1, g2⟩ := feed_small (e := e) (t := t) (c := c) h8 h9
      generalize feedS e t st c = st' at *
      rintro p S1 ⟨rfl, pl1, pn1, R1⟩
      clear h6 h7 h8 h9 hd
      by_cases h0 : st'.sig = 0
      · rw [if_pos h0] at h10
        (simp only [go_sem, reduceIte, Nat.reduceEqDiff, Nat.reduceLT, Nat.reduceLeDiff, Nat.reduceAdd, reduceCtorEq, Int.reduceToNat, Int.reduceLE, Int.reduceLT, Int.reduceNeg, Int.reduceEq, Int.reduceNe, Nat.reduceBEq, Nat.reduceMul, Nat.reducePow, *])
        exact ⟨m - 1, by omega, i + 1, st', pl1, pn1, by omega, step64 hl (by omega), R1, h0, g1, g2, h10⟩
      · rw [if_neg h0] at h10
        subst h10
        (simp only [go_sem, reduceIte, Nat.reduceEqDiff, Nat.reduceLT, Nat.reduceLeDiff, Nat.reduceAdd, reduceCtorEq, Int.reduceToNat, Int.reduceLE, Int.reduceLT, Int.reduceNeg, Int.reduceEq, Int.reduceNe, Nat.reduceBEq, Nat.reduceMul, Nat.reducePow, *])
        exact ⟨r, pl1, pn1, rfl, R1⟩

end Go.Proofs.Ytcbonfgkfiapaaa.Pv

/-! What the reference's May computes. -/
set_option linter.unusedVariables false
set_option linter.unusedSimpArgs false
set_option maxRecDepth 100000
set_option maxHeartbeats 4000000
namespace Go.Proofs.Ytcbonfgkfiapaaa.Pv
open Go Go.RowKit

def rml (e : List UInt8) (t : Bool) (text : List UInt8) : List UInt8 → Nat → Nat → Bool
  | [], _, _ => true
  | c :: cs, i, f => if c = 10 then (if (text.take i).drop f = e ∨ ¬ cutTabs t ((text.take i).drop f) = (text.take i).drop f then false else rml e t text cs (i + 1) (i + 1)) else rml e t text cs (i + 1) f
def refMay (e : List UInt8) (t : Bool) (text : List UInt8) : Bool := if refRight e t = true ∧ ¬ (0 : UInt8) ∈ text ∧ (text = [] ∨ text.getLast? = some 10) then rml e t text text 0 0 else false
theorem refMay_loop (e : List UInt8) (t : Bool) (text : List UInt8) (h : ¬ text = [] → text.getLast? = some 10) (hr : refRight e t = true) (h0 : ¬ (0 : UInt8) ∈ text) (h1 : e.length ≤ 4611686018427387904) (hs : text.length ≤ 4611686018427387904) (S : Heap) : CallsQ Try.prog 52 [.agg [.str e, .bool t], .str text] S (.bool (rml e t text text 0 0)) := by
  have c1 := fun S => refRight_calls e t h1 S
  have c2 := fun S => has_calls text hs 0 S
  rw [decide_eq_false h0] at c2
  rw [hr] at c1
  obtain ⟨R, hR⟩ : ∃ R, rml e t text text 0 0 = R := ⟨_, rfl⟩
  rw [hR]
  have hlast : ¬ text = [] → text[text.length - 1]? = some 10 := fun hn => by rw [← h hn, List.getLast?_eq_getElem?]
  have key : ∀ (σ : Regs), True := fun _ => trivial
  refine CallsA_W (fun _ => false) Try.func52 rfl (Nat.le_of_ble_eq_true rfl) ?_
  simp only [Try.f52]
  (simp only [go_sem, reduceIte, Nat.reduceEqDiff, Nat.reduceLT, Nat.reduceLeDiff, Nat.reduceAdd, reduceCtorEq, Int.reduceToNat, Int.reduceLE, Int.reduceLT, Int.reduceNeg, Int.reduceEq, Int.reduceNe, Nat.reduceBEq, Nat.reduceMul, Nat.reducePow, *])
  (refine OpW_call rfl rfl call105 rfl ((c1 _).mono ?_); rintro p S' ⟨rfl, rfl⟩)
  (simp only [go_sem, reduceIte, Nat.reduceEqDiff, Nat.reduceLT, Nat.reduceLeDiff, Nat.reduceAdd, reduceCtorEq, Int.reduceToNat, Int.reduceLE, Int.reduceLT, Int.reduceNeg, Int.reduceEq, Int.reduceNe, Nat.reduceBEq, Nat.reduceMul, Nat.reducePow, *])
  (refine OpW_call rfl rfl call106 rfl ((c2 _).mono ?_); rintro p S' ⟨rfl, rfl⟩)
  (simp only [go_sem, reduceIte, Nat.reduceEqDiff, Nat.reduceLT, Nat.reduceLeDiff, Nat.reduceAdd, reduceCtorEq, Int.reduceToNat, Int.reduceLE, Int.reduceLT, Int.reduceNeg, Int.reduceEq, Int.reduceNe, Nat.reduceBEq, Nat.reduceMul, Nat.reducePow, *])
  clear h c1 c2 key h0 hr
  by_cases hn : text = []
  · subst hn
    obtain rfl : true = R := hR
    clear hlast
    have hz : ¬ ((0 : Int) < ((0 : Nat) : Int)) := by omega
    (simp only [go_sem, reduceIte, Nat.reduceEqDiff, Nat.reduceLT, Nat.reduceLeDiff, Nat.reduceAdd, reduceCtorEq, Int.reduceToNat, Int.reduceLE, Int.reduceLT, Int.reduceNeg, Int.reduceEq, Int.reduceNe, Nat.reduceBEq, Nat.reduceMul, Nat.reducePow, *])
    refine CodeW_loop (fun m σ' S'' => σ' 1 = .str [] ∧ σ' 6 = .int .i64 0 ∧ S'' = S') 0 ?_ ?_
    · (simp only [go_sem, reduceIte, Nat.reduceEqDiff, Nat.reduceLT, Nat.reduceLeDiff, Nat.reduceAdd, reduceCtorEq, Int.reduceToNat, Int.reduceLE, Int.reduceLT, Int.reduceNeg, Int.reduceEq, Int.reduceNe, Nat.reduceBEq, Nat.reduceMul, Nat.reducePow, *])
    · rintro m σ' S'' ⟨k1, k2, rfl⟩
      (simp only [go_sem, reduceIte, Nat.reduceEqDiff, Nat.reduceLT, Nat.reduceLeDiff, Nat.reduceAdd, reduceCtorEq, Int.reduceToNat, Int.reduceLE, Int.reduceLT, Int.reduceNeg, Int.reduceEq, Int.reduceNe, Nat.reduceBEq, Nat.reduceMul, Nat.reducePow, *])
  · have hl := hlast hn
    have hp := List.length_pos_iff.2 hn
    have hw : IntKind.i64.wrap ((text.length : Int) - 1) = ((text.length - 1 : Nat) : Int) := by rw [IntKind.wrap_i64]; omega
    clear hlast
    have h10 : ((10 : UInt8).toNat : Int) = 10 := rfl
    (simp only [go_sem, reduceIte, Nat.reduceEqDiff, Nat.reduceLT, Nat.reduceLeDiff, Nat.reduceAdd, reduceCtorEq, Int.reduceToNat, Int.reduceLE, Int.reduceLT, Int.reduceNeg, Int.reduceEq, Int.reduceNe, Nat.reduceBEq, Nat.reduceMul, Nat.reducePow, *])
    clear hl hw hn h10
    refine CodeW_loop (fun m σ' S'' => ∃ i f : Nat, i + m = text.length ∧ σ' 1 = .str text ∧ σ' 2 = .ref [.str e, .bool t] ∧ σ' 6 = .int .i64 i ∧ σ' 5 = .int .i64 f ∧ f ≤ i ∧ S'' = S' ∧ rml e t text (text.drop i) i f = R) text.length ?_ ?_
    · (simp only [go_sem, reduceIte, Nat.reduceEqDiff, Nat.reduceLT, Nat.reduceLeDiff, Nat.reduceAdd, reduceCtorEq, Int.reduceToNat, Int.reduceLE, Int.reduceLT, Int.reduceNeg, Int.reduceEq, Int.reduceNe, Nat.reduceBEq, Nat.reduceMul, Nat.reducePow, *])
      exact ⟨0, 0, by omega, rfl, rfl, Nat.le_refl _, by simpa using hR⟩
    · clear hR
      rintro m σ' S'' ⟨i, f, k1, k2, k3, k4, k5, k6, rfl, k7⟩
      cases hc : text[i]? with
      | none =>
        have hl : text.length ≤ i := List.getElem?_eq_none_iff.1 hc
        have hlt : ¬ ((i : Int) < (text.length : Int)) := by omega
        rw [List.drop_eq_nil_of_le hl] at k7
        obtain rfl : true = R := k7
        (simp only [go_sem, reduceIte, Nat.reduceEqDiff, Nat.reduceLT, Nat.reduceLeDiff, Nat.reduceAdd, reduceCtorEq, Int.reduceToNat, Int.reduceLE, Int.reduceLT, Int.reduceNeg, Int.reduceEq, Int.reduceNe, Nat.reduceBEq, Nat.reduceMul, Nat.reducePow, *])
      | some c =>
        have hl := (List.getElem?_eq_some_iff.1 hc).1
        have hlt : (i : Int) < (text.length : Int) := by omega
        have hd : text.drop i = c :: text.drop (i + 1) := by
          obtain ⟨_, hx⟩ := List.getElem?_eq_some_iff.1 hc
          rw [List.drop_eq_getElem_cons hl, hx]
        rw [hd] at k7
        simp only [rml] at k7
        clear hd
        by_cases hb : c = 10
        · have hi : (c.toNat : Int) = 10 := by rw [hb]; rfl
          rw [if_pos hb] at k7
          clear hb
          have hil : i ≤ text.length := by omega
          have z0 := Nat.zero_le f
          have z1 := Nat.zero_le i
          have hq := fun S => refCut_calls e t ((text.take i).drop f) (by simp; omega) S
          generalize cutTabs t ((text.take i).drop f) = z at *
          by_cases he : (text.take i).drop f = e
          · rw [if_pos (Or.inl he)] at k7
            subst k7
            (simp only [go_sem, reduceIte, Nat.reduceEqDiff, Nat.reduceLT, Nat.reduceLeDiff, Nat.reduceAdd, reduceCtorEq, Int.reduceToNat, Int.reduceLE, Int.reduceLT, Int.reduceNeg, Int.reduceEq, Int.reduceNe, Nat.reduceBEq, Nat.reduceMul, Nat.reducePow, *])
          · (simp only [go_sem, reduceIte, Nat.reduceEqDiff, Nat.reduceLT, Nat.reduceLeDiff, Nat.reduceAdd, reduceCtorEq, Int.reduceToNat, Int.reduceLE, Int.reduceLT, Int.reduceNeg, Int.reduceEq, Int.reduceNe, Nat.reduceBEq, Nat.reduceMul, Nat.reducePow, *])
            (refine OpW_call rfl rfl call107 rfl ((hq _).mono ?_); rintro p S' ⟨rfl, rfl⟩)
            by_cases hz : z = (text.take i).drop f
            · rw [if_neg (fun h => h.elim he (fun h => h hz))] at k7
              (simp only [go_sem, reduceIte, Nat.reduceEqDiff, Nat.reduceLT, Nat.reduceLeDiff, Nat.reduceAdd, reduceCtorEq, Int.reduceToNat, Int.reduceLE, Int.reduceLT, Int.reduceNeg, Int.reduceEq, Int.reduceNe, Nat.reduceBEq, Nat.reduceMul, Nat.reducePow, *])
              exact ⟨m - 1, by omega, i + 1, i + 1, by omega, step64 hl hs, step64 hl hs, Nat.le_refl _, k7⟩
            · rw [if_pos (Or.inr hz)] at k7
              subst k7
              (simp only [go_sem, reduceIte, Nat.reduceEqDiff, Nat.reduceLT, Nat.reduceLeDiff, Nat.reduceAdd, reduceCtorEq, Int.reduceToNat, Int.reduceLE, Int.reduceLT, Int.reduceNeg, Int.reduceEq, Int.reduceNe, Nat.reduceBEq, Nat.reduceMul, Nat.reducePow, *])
        · have hi : ¬ (c.toNat : Int) = 10 := fun h => hb (u8_int.1 (h.trans rfl))
          rw [if_neg hb] at k7
          clear hb
          (simp only [go_sem, reduceIte, Nat.reduceEqDiff, Nat.reduceLT, Nat.reduceLeDiff, Nat.reduceAdd, reduceCtorEq, Int.reduceToNat, Int.reduceLE, Int.reduceLT, Int.reduceNeg, Int.reduceEq, Int.reduceNe, Nat.reduceBEq, Nat.reduceMul, Nat.reducePow, *])
          exact ⟨m - 1, by omega, i + 1, f, by omega, step64 hl hs, rfl, by omega, k7⟩
theorem refMay_calls (e : List UInt8) (t : Bool) (text : List UInt8) (h1 : e.length ≤ 4611686018427387904) (hs : text.length ≤ 4611686018427387904) (S : Heap) : CallsQ Try.prog 52 [.agg [.str e, .bool t], .str text] S (.bool (refMay e t text)) := by
  by_cases hall : refRight e t = true ∧ ¬ (0 : UInt8) ∈ text ∧ (text = [] ∨ text.getLast? = some 10)
  · unfold refMay
    rw [if_pos hall]
    exact refMay_loop e t text (fun h => hall.2.2.resolve_left h) hall.1 hall.2.1 h1 hs S
  · unfold refMay
    rw [if_neg hall]
    have c1 := fun S => refRight_calls e t h1 S
    have c2 := fun S => has_calls text hs 0 S
    refine CallsA_W (fun _ => false) Try.func52 rfl (Nat.le_of_ble_eq_true rfl) ?_
    simp only [Try.f52]
    rcases Bool.eq_false_or_eq_true (refRight e t) with hr | hr
    · rw [hr] at c1
      by_cases h0 : (0 : UInt8) ∈ text
      · rw [decide_eq_true h0] at c2
        clear hall h0
        (simp only [go_sem, reduceIte, Nat.reduceEqDiff, Nat.reduceLT, Nat.reduceLeDiff, Nat.reduceAdd, reduceCtorEq, Int.reduceToNat, Int.reduceLE, Int.reduceLT, Int.reduceNeg, Int.reduceEq, Int.reduceNe, Nat.reduceBEq, Nat.reduceMul, Nat.reducePow, *])
        (refine OpW_call rfl rfl call105 rfl ((c1 _).mono ?_); rintro p S' ⟨rfl, rfl⟩)
        (simp only [go_sem, reduceIte, Nat.reduceEqDiff, Nat.reduceLT, Nat.reduceLeDiff, Nat.reduceAdd, reduceCtorEq, Int.reduceToNat, Int.reduceLE, Int.reduceLT, Int.reduceNeg, Int.reduceEq, Int.reduceNe, Nat.reduceBEq, Nat.reduceMul, Nat.reducePow, *])
        (refine OpW_call rfl rfl call106 rfl ((c2 _).mono ?_); rintro p S' ⟨rfl, rfl⟩)
        (simp only [go_sem, reduceIte, Nat.reduceEqDiff, Nat.reduceLT, Nat.reduceLeDiff, Nat.reduceAdd, reduceCtorEq, Int.reduceToNat, Int.reduceLE, Int.reduceLT, Int.reduceNeg, Int.reduceEq, Int.reduceNe, Nat.reduceBEq, Nat.reduceMul, Nat.reducePow, *])
      · rw [decide_eq_false h0] at c2
        have hn : ¬ text = [] := fun h => hall ⟨hr, h0, Or.inl h⟩
        have hp := List.length_pos_iff.2 hn
        obtain ⟨c, hc⟩ : ∃ c, text[text.length - 1]? = some c := ⟨text[text.length - 1]'(by omega), List.getElem?_eq_getElem (by omega)⟩
        have hne : ¬ (c.toNat : Int) = 10 := fun h => hall ⟨hr, h0, Or.inr (by rw [List.getLast?_eq_getElem?, hc, (u8_int (d := 10)).1 (h.trans rfl)])⟩
        have hw : IntKind.i64.wrap ((text.length : Int) - 1) = ((text.length - 1 : Nat) : Int) := by rw [IntKind.wrap_i64]; omega
        clear hall h0
        (simp only [go_sem, reduceIte, Nat.reduceEqDiff, Nat.reduceLT, Nat.reduceLeDiff, Nat.reduceAdd, reduceCtorEq, Int.reduceToNat, Int.reduceLE, Int.reduceLT, Int.reduceNeg, Int.reduceEq, Int.reduceNe, Nat.reduceBEq, Nat.reduceMul, Nat.reducePow, *])
        (refine OpW_call rfl rfl call105 rfl ((c1 _).mono ?_); rintro p S' ⟨rfl, rfl⟩)
        (simp only [go_sem, reduceIte, Nat.reduceEqDiff, Nat.reduceLT, Nat.reduceLeDiff, Nat.reduceAdd, reduceCtorEq, Int.reduceToNat, Int.reduceLE, Int.reduceLT, Int.reduceNeg, Int.reduceEq, Int.reduceNe, Nat.reduceBEq, Nat.reduceMul, Nat.reducePow, *])
        (refine OpW_call rfl rfl call106 rfl ((c2 _).mono ?_); rintro p S' ⟨rfl, rfl⟩)
        (simp only [go_sem, reduceIte, Nat.reduceEqDiff, Nat.reduceLT, Nat.reduceLeDiff, Nat.reduceAdd, reduceCtorEq, Int.reduceToNat, Int.reduceLE, Int.reduceLT, Int.reduceNeg, Int.reduceEq, Int.reduceNe, Nat.reduceBEq, Nat.reduceMul, Nat.reducePow, *])
    · rw [hr] at c1
      clear hall
      (simp only [go_sem, reduceIte, Nat.reduceEqDiff, Nat.reduceLT, Nat.reduceLeDiff, Nat.reduceAdd, reduceCtorEq, Int.reduceToNat, Int.reduceLE, Int.reduceLT, Int.reduceNeg, Int.reduceEq, Int.reduceNe, Nat.reduceBEq, Nat.reduceMul, Nat.reducePow, *])
      (refine OpW_call rfl rfl call105 rfl ((c1 _).mono ?_); rintro p S' ⟨rfl, rfl⟩)
      (simp only [go_sem, reduceIte, Nat.reduceEqDiff, Nat.reduceLT, Nat.reduceLeDiff, Nat.reduceAdd, reduceCtorEq, Int.reduceToNat, Int.reduceLE, Int.reduceLT, Int.reduceNeg, Int.reduceEq, Int.reduceNe, Nat.reduceBEq, Nat.reduceMul, Nat.reducePow, *])

end Go.Proofs.Ytcbonfgkfiapaaa.Pv

/-! Package here and its reference say the same of what may be. -/
set_option linter.unusedVariables false
set_option linter.unusedSimpArgs false
namespace Go.Proofs.Ytcbonfgkfiapaaa.Pv
open Go Go.RowKit

theorem any_iff (s cs : List UInt8) : 0 ≤ Lib.indexAny s cs ↔ ∃ b ∈ s, b ∈ cs := by
  induction s with
  | nil => simp [Lib.indexAny]
  | cons b s ih =>
    have hge := Lib.indexAny_ge cs s
    unfold Lib.indexAny
    by_cases hb : b ∈ cs
    · rw [if_pos (by simpa using hb)]
      simp [hb]
    · rw [if_neg (by simpa using hb)]
      have : (∃ x ∈ b :: s, x ∈ cs) ↔ ∃ x ∈ s, x ∈ cs := by simp [hb]
      rw [this, ← ih]
      split
      · rename_i h; have h := eq_of_beq h; omega
      · rename_i h; have h : ¬ Lib.indexAny s cs = -1 := fun h' => h (by simp [h']); omega
theorem prefix9 (s : List UInt8) : Lib.hasPrefix s [9] = decide (s.head? = some 9) := by
  cases s with
  | nil => rfl
  | cons b s =>
    unfold Lib.hasPrefix
    rw [Bool.eq_iff_iff]
    simp [List.isPrefixOf]
    exact eq_comm
theorem right_same (e : List UInt8) (t : Bool) : hereRight e t = refRight e t := by
  unfold hereRight refRight Lib.containsAny
  rw [prefix9, Bool.eq_iff_iff]
  have := any_iff e [0, 10]
  simp only [Bool.and_eq_true, Bool.not_eq_true', decide_eq_false_iff_not, Bool.or_eq_true, decide_eq_true_eq, this, ne_eq]
  constructor
  · rintro ⟨h1, h2⟩
    refine ⟨fun h => h1 ⟨0, h, by simp⟩, fun h => h1 ⟨10, h, by simp⟩, h2⟩
  · rintro ⟨h1, h2, h3⟩
    refine ⟨?_, h3⟩
    rintro ⟨b, hb, hc⟩
    simp at hc
    rcases hc with rfl | rfl
    · exact h1 hb
    · exact h2 hb
theorem cut_line {cur rest : List UInt8} (h : ¬ (10 : UInt8) ∈ cur) : cutAt (cur ++ 10 :: rest) 10 = (cur, rest, true) ∧ Lib.indexByte (cur ++ 10 :: rest) 10 = (cur.length : Int) := by
  have hi : Lib.indexByte (cur ++ 10 :: rest) 10 = (cur.length : Int) := by
    induction cur with
    | nil => rfl
    | cons b cur ih =>
      have hb : ¬ b = 10 := fun e => h (by simp [e])
      have := ih fun h' => h (List.mem_cons_of_mem _ h')
      simp only [List.cons_append]
      unfold Lib.indexByte
      rw [if_neg (by simpa using hb), this, if_neg (by simp)]
      rfl
  refine ⟨?_, hi⟩
  unfold cutAt
  rw [hi, if_pos (by omega), Int.toNat_natCast]
  simp
theorem tabs_ne (t : Bool) (s : List UInt8) : (¬ cutTabs t s = s) ↔ (t = true ∧ Lib.hasPrefix s [9] = true) := by
  rw [prefix9, decide_eq_true_eq]
  cases t with
  | false => simp [cutTabs]
  | true =>
    cases s with
    | nil => simp [cutTabs]
    | cons b s =>
      by_cases hb : b = 9
      · subst hb
        simp only [cutTabs, List.head?_cons, and_self, iff_true]
        intro h
        have h1 := congrArg List.length h
        simp only [if_true, List.dropWhile, beq_self_eq_true, List.length_cons] at h1
        have h2 := (List.dropWhile_sublist (fun x : UInt8 => x == 9) (l := s)).length_le
        omega
      · simp [cutTabs, hb]
theorem rml_may (e : List UInt8) (t : Bool) (text : List UInt8) : ∀ (rest pre cur : List UInt8), text = pre ++ cur ++ rest → ¬ (10 : UInt8) ∈ cur → (rest = [] → cur = []) → (rest ≠ [] → rest.getLast? = some 10) → rml e t text rest (pre.length + cur.length) pre.length = mayL e t (cur ++ rest)
  | [], pre, cur, _, _, h3, _ => by
    rw [h3 rfl]
    simp only [rml, List.append_nil]
    rw [mayL, dif_pos rfl]
  | c :: cs, pre, cur, h1, h2, h3, h4 => by
    have h4' : cs ≠ [] → cs.getLast? = some 10 := fun hn => by
      have := h4 (by simp)
      rw [List.getLast?_cons] at this
      cases cs with
      | nil => exact absurd rfl hn
      | cons x xs => simpa [List.getLast?_cons] using this
    simp only [rml]
    by_cases hc : c = 10
    · subst hc
      have hl : (text.take (pre.length + cur.length)).drop pre.length = cur := by
        rw [h1, List.append_assoc, List.take_append]; simp
      have ih := rml_may e t text cs (pre ++ cur ++ [10]) [] (by rw [h1]; simp) (by simp) (fun _ => rfl) h4'
      simp only [List.length_append, List.length_cons, List.length_nil, Nat.add_zero, List.nil_append, Nat.zero_add] at ih
      rw [if_pos rfl, hl, ih]
      obtain ⟨k1, k2⟩ := cut_line (rest := cs) h2
      conv => rhs; rw [mayL]
      rw [dif_neg (by simp), k1, k2]
      simp only [tabs_ne]
      simp only [Int.toNat_natCast, reduceCtorEq, false_or, Bool.true_eq_false]
      have hd : List.drop (cur.length + 1) (cur ++ 10 :: cs) = cs := by simp
      rw [hd]
    · have hne : cs ≠ [] := fun h => by
        have := h4 (by simp)
        rw [h] at this
        simp at this
        exact hc this
      have ih := rml_may e t text cs pre (cur ++ [c]) (by rw [h1]; simp) (by simp [h2]; exact fun h => hc h.symm) (fun h => absurd h hne) h4'
      rw [if_neg hc]
      simp only [List.length_append, List.length_cons, List.length_nil, Nat.zero_add, List.append_assoc, List.cons_append, List.nil_append, ← Nat.add_assoc] at ih
      exact ih
theorem may_bad (e : List UInt8) (t : Bool) : ∀ (n : Nat) (text : List UInt8), text.length ≤ n → ¬ text = [] → ¬ text.getLast? = some 10 → mayL e t text = false
  | 0, text, hn, h1, _ => absurd (List.eq_nil_of_length_eq_zero (Nat.le_zero.1 hn)) h1
  | n + 1, text, hn, h1, h2 => by
    rw [mayL, dif_neg h1]
    by_cases h10 : (10 : UInt8) ∈ text
    · obtain ⟨cur, rest, he, hc⟩ := List.eq_append_cons_of_mem h10
      subst he
      obtain ⟨k1, k2⟩ := cut_line (rest := rest) hc
      rw [k1, k2, Int.toNat_natCast]
      have hd : List.drop (cur.length + 1) (cur ++ 10 :: rest) = rest := by simp
      rw [hd]
      split
      · rfl
      · have hr : ¬ rest = [] := fun h => h2 (by rw [h]; simp)
        refine may_bad e t n rest (by simp at hn; omega) hr fun h => h2 ?_
        rw [List.getLast?_append, List.getLast?_cons, h]
        rfl
    · have : (cutAt text 10).2.2 = false := by
        unfold cutAt
        have h := idx_mem text 10
        rw [if_neg (fun h' => h10 (h.1 h'))]
      rw [if_pos (Or.inl this)]
theorem may_same (e : List UInt8) (t : Bool) (text : List UInt8) : hereMay e t text = refMay e t text := by
  unfold hereMay refMay
  rw [right_same]
  have h0 := idx_mem text 0
  by_cases hall : refRight e t = true ∧ ¬ (0 : UInt8) ∈ text ∧ (text = [] ∨ text.getLast? = some 10)
  · rw [if_pos hall, hall.1]
    rw [show decide (0 ≤ Lib.indexByte text 0) = false from decide_eq_false fun h => hall.2.1 (h0.1 h)]
    have := rml_may e t text text [] [] (by simp) (by simp) (fun _ => rfl) (fun h => hall.2.2.resolve_left h)
    simp only [List.length_nil, Nat.add_zero, List.nil_append] at this
    rw [this]; rfl
  · rw [if_neg hall]
    cases hr : refRight e t with
    | false => rfl
    | true =>
      by_cases hz : (0 : UInt8) ∈ text
      · rw [show decide (0 ≤ Lib.indexByte text 0) = true from decide_eq_true (h0.2 hz)]; rfl
      · have hb : ¬ (text = [] ∨ text.getLast? = some 10) := fun h => hall ⟨hr, hz, h⟩
        rw [may_bad e t text.length text (Nat.le_refl _) (fun h => hb (Or.inl h)) (fun h => hb (Or.inr h)), Bool.and_false]

end Go.Proofs.Ytcbonfgkfiapaaa.Pv

/-! What is read of a text that is shown. -/
set_option linter.unusedVariables false
set_option linter.unusedSimpArgs false
namespace Go.Proofs.Ytcbonfgkfiapaaa.Pv
open Go Go.RowKit

def push (t : Bool) (cur l : List UInt8) : List UInt8 := if cur = [] then cutTabs t l else cur ++ l
theorem push_cons (t : Bool) (cur l : List UInt8) (c : UInt8) : push t cur (c :: l) = push t (if c = 9 ∧ t = true ∧ cur = [] then cur else cur ++ [c]) l := by
  unfold push cutTabs
  cases cur with
  | nil =>
    by_cases hc : c = 9
    · cases t <;> simp [hc]
    · cases t <;> simp [hc]
  | cons b cur => simp
theorem fed_app (e : List UInt8) (t : Bool) (L : List (List UInt8)) : ∀ (l rest : List UInt8) (cur : List UInt8) (sm : Bool) (i : Nat), ¬ (0 : UInt8) ∈ l → ¬ (10 : UInt8) ∈ l →
    ∃ sm', fed e t ⟨L, cur, sm, 0⟩ (l ++ rest) i = fed e t ⟨L, push t cur l, sm', 0⟩ rest (i + l.length)
  | [], rest, cur, sm, i, _, _ => ⟨sm, by
    have : push t cur [] = cur := by unfold push cutTabs; cases cur <;> simp
    rw [this]; rfl⟩
  | c :: l, rest, cur, sm, i, h0, h1 => by
    have c0 : ¬ c = 0 := fun h => h0 (by simp [h])
    have c10 : ¬ c = 10 := fun h => h1 (by simp [h])
    have hf : feedS e t ⟨L, cur, sm, 0⟩ c = ⟨L, if c = 9 ∧ t = true ∧ cur = [] then cur else cur ++ [c], true, 0⟩ := by
      unfold feedS
      simp only [if_true, if_neg c0, if_neg c10]
      split <;> rfl
    obtain ⟨sm', ih⟩ := fed_app e t L l rest (if c = 9 ∧ t = true ∧ cur = [] then cur else cur ++ [c]) true (i + 1) (fun h => h0 (List.mem_cons_of_mem _ h)) (fun h => h1 (List.mem_cons_of_mem _ h))
    refine ⟨sm', ?_⟩
    simp only [List.cons_append, fed, hf, if_true, List.length_cons]
    rw [ih, push_cons, show i + 1 + l.length = i + (l.length + 1) by omega]
theorem fed_line (e : List UInt8) (t : Bool) (L : List (List UInt8)) (l rest : List UInt8) (sm : Bool) (i : Nat) (h0 : ¬ (0 : UInt8) ∈ l) (h1 : ¬ (10 : UInt8) ∈ l) :
    (cutTabs t l = e → ∃ s, s.lines = L ∧ fed e t ⟨L, [], sm, 0⟩ (l ++ 10 :: rest) i = (s, i + l.length, 1)) ∧
    (¬ cutTabs t l = e → fed e t ⟨L, [], sm, 0⟩ (l ++ 10 :: rest) i = fed e t ⟨L ++ [cutTabs t l ++ [10]], [], false, 0⟩ rest (i + l.length + 1)) := by
  obtain ⟨sm', h⟩ := fed_app e t L l (10 :: rest) [] sm i h0 h1
  have hp : push t [] l = cutTabs t l := by simp [push]
  rw [hp] at h
  refine ⟨fun he => ?_, fun he => ?_⟩
  · have hf : feedS e t ⟨L, cutTabs t l, sm', 0⟩ 10 = ⟨L, cutTabs t l, sm', 1⟩ := by unfold feedS; simp [he]
    exact ⟨⟨L, cutTabs t l, sm', 1⟩, rfl, by rw [h]; simp only [fed, hf]; rfl⟩
  · have hf : feedS e t ⟨L, cutTabs t l, sm', 0⟩ 10 = ⟨L ++ [cutTabs t l ++ [10]], [], false, 0⟩ := by unfold feedS; simp [he]
    rw [h]; simp only [fed, hf, if_true]
theorem fed_zero (e : List UInt8) (t : Bool) (L : List (List UInt8)) (l rest : List UInt8) (sm : Bool) (i : Nat) (h0 : ¬ (0 : UInt8) ∈ l) (h1 : ¬ (10 : UInt8) ∈ l) :
    (fed e t ⟨L, [], sm, 0⟩ (l ++ 0 :: rest) i).2.2 = 3 := by
  obtain ⟨sm', h⟩ := fed_app e t L l (0 :: rest) [] sm i h0 h1
  have hf : feedS e t ⟨L, push t [] l, sm', 0⟩ 0 = ⟨L, push t [] l, sm', 3⟩ := by unfold feedS; simp
  rw [h]; simp only [fed, hf]; rfl
theorem cut_short (t : Bool) (l : List UInt8) (h : ¬ cutTabs t l = l) : (cutTabs t l).length < l.length := by
  have h1 : (cutTabs t l).length ≤ l.length := by
    unfold cutTabs
    split
    · exact (List.dropWhile_sublist _).length_le
    · exact Nat.le_refl _
  rcases Nat.lt_or_ge (cutTabs t l).length l.length with h2 | h2
  · exact h2
  · refine absurd ?_ h
    unfold cutTabs at h2 ⊢
    split
    · rename_i ht
      rw [if_pos ht] at h2
      exact (List.dropWhile_sublist _).eq_of_length_le h2
    · rfl
theorem fed_all (e : List UInt8) (t : Bool) (hr : refRight e t = true) : ∀ (n : Nat) (text : List UInt8), text.length ≤ n → ∀ (L : List (List UInt8)) (sm : Bool) (i : Nat),
    (¬ (0 : UInt8) ∈ text ∧ mayL e t text = true → (fed e t ⟨L, [], sm, 0⟩ (text ++ (e ++ [10])) i).2 = (i + text.length + e.length, 1) ∧ (fed e t ⟨L, [], sm, 0⟩ (text ++ (e ++ [10])) i).1.lines.flatten = L.flatten ++ text) ∧
    (¬ (¬ (0 : UInt8) ∈ text ∧ mayL e t text = true) → (fed e t ⟨L, [], sm, 0⟩ (text ++ (e ++ [10])) i).2 = (i + text.length + e.length, 1) → (fed e t ⟨L, [], sm, 0⟩ (text ++ (e ++ [10])) i).1.lines.flatten.length < L.flatten.length + text.length) := by
  have he0 : ¬ (0 : UInt8) ∈ e ∧ ¬ (10 : UInt8) ∈ e ∧ cutTabs t e = e := by
    unfold refRight at hr
    simp only [Bool.and_eq_true, Bool.not_eq_true', decide_eq_false_iff_not, Bool.or_eq_true, decide_eq_true_eq, ne_eq] at hr
    refine ⟨hr.1, hr.2.1, ?_⟩
    apply Classical.byContradiction
    intro h
    have := (tabs_ne t e).1 h
    rw [prefix9, decide_eq_true_eq] at this
    rcases hr.2.2 with h2 | h2
    · rw [h2] at this; cases this.1
    · exact h2 this.2
  obtain ⟨e0, e10, ec⟩ := he0
  intro n
  induction n with
  | zero =>
    intro text hn L sm i
    have := List.eq_nil_of_length_eq_zero (Nat.le_zero.1 hn)
    subst this
    obtain ⟨s, k1, k2⟩ := (fed_line e t L e [] sm i e0 e10).1 ec
    simp only [List.nil_append, k2, k1, List.length_nil, Nat.add_zero, List.append_nil]
    exact ⟨fun _ => ⟨by simp, by simp⟩, fun h => absurd ⟨by simp, by rw [mayL, dif_pos rfl]⟩ h⟩
  | succ n ih =>
    intro text hn L sm i
    by_cases h10 : (10 : UInt8) ∈ text
    · obtain ⟨l, rest, ht, hl10⟩ := List.eq_append_cons_of_mem h10
      subst ht
      by_cases h0 : (0 : UInt8) ∈ l
      · obtain ⟨l1, l2, ht, hl0⟩ := List.eq_append_cons_of_mem h0
        subst ht
        have h3 := fed_zero e t L l1 (l2 ++ 10 :: rest ++ (e ++ [10])) sm i hl0 (fun h => hl10 (by simp [h]))
        have ha : l1 ++ 0 :: l2 ++ 10 :: rest ++ (e ++ [10]) = l1 ++ 0 :: (l2 ++ 10 :: rest ++ (e ++ [10])) := by simp
        rw [ha]
        refine ⟨fun h => absurd (by simp) h.1, fun _ h => ?_⟩
        rw [h] at h3; cases h3
      · have ha : l ++ 10 :: rest ++ (e ++ [10]) = l ++ 10 :: (rest ++ (e ++ [10])) := by simp
        obtain ⟨f1, f2⟩ := fed_line e t L l (rest ++ (e ++ [10])) sm i h0 hl10
        obtain ⟨k1, k2⟩ := cut_line (rest := rest) hl10
        have hd : List.drop (l.length + 1) (l ++ 10 :: rest) = rest := by simp
        have hm : mayL e t (l ++ 10 :: rest) = if l = e ∨ ¬ cutTabs t l = l then false else mayL e t rest := by
          rw [mayL, dif_neg (by simp), k1, k2, Int.toNat_natCast, hd]
          simp only [tabs_ne, Bool.true_eq_false, false_or]
        rw [ha, hm]
        by_cases hE : cutTabs t l = e
        · obtain ⟨s, s1, s2⟩ := f1 hE
          have hbad : l = e ∨ ¬ cutTabs t l = l := by
            by_cases h : l = e
            · exact Or.inl h
            · exact Or.inr fun h' => h (h'.symm.trans hE)
          rw [if_pos hbad, s2]
          refine ⟨fun h => absurd h.2 (by simp), fun _ h => ?_⟩
          simp only [Prod.mk.injEq, List.length_append, List.length_cons] at h
          omega
        · have hle : ¬ l = e := fun h => hE (by rw [h]; exact ec)
          rw [f2 hE]
          obtain ⟨g1, g2⟩ := ih rest (by simp at hn; omega) (L ++ [cutTabs t l ++ [10]]) false (i + l.length + 1)
          have hpos : i + l.length + 1 + rest.length + e.length = i + (l ++ 10 :: rest).length + e.length := by simp; omega
          have hmem : (¬ (0 : UInt8) ∈ l ++ 10 :: rest) ↔ ¬ (0 : UInt8) ∈ rest := by simp [h0]
          rw [hpos] at g1 g2
          rw [hmem]
          by_cases hc : cutTabs t l = l
          · rw [if_neg (fun h => h.elim hle fun h => h hc)]
            rw [hc] at g1 g2 ⊢
            refine ⟨fun h => ?_, fun h h' => ?_⟩
            · obtain ⟨x1, x2⟩ := g1 h
              exact ⟨x1, by rw [x2]; simp⟩
            · have := g2 h h'
              simp at this ⊢; omega
          · have hs := cut_short t l hc
            rw [if_pos (Or.inr hc)]
            refine ⟨fun h => absurd h.2 (by simp), fun _ h' => ?_⟩
            by_cases hg : ¬ (0 : UInt8) ∈ rest ∧ mayL e t rest = true
            · have := (g1 hg).2
              rw [this]; simp; omega
            · have := g2 hg h'
              simp at this ⊢; omega
    · by_cases h0 : (0 : UInt8) ∈ text
      · obtain ⟨l1, l2, ht, hl0⟩ := List.eq_append_cons_of_mem h0
        subst ht
        have h3 := fed_zero e t L l1 (l2 ++ (e ++ [10])) sm i hl0 (fun h => h10 (by simp [h]))
        have ha : l1 ++ 0 :: l2 ++ (e ++ [10]) = l1 ++ 0 :: (l2 ++ (e ++ [10])) := by simp
        rw [ha]
        refine ⟨fun h => absurd (by simp) h.1, fun _ h => ?_⟩
        rw [h] at h3; cases h3
      · by_cases hn : text = []
        · subst hn
          obtain ⟨s, k1, k2⟩ := (fed_line e t L e [] sm i e0 e10).1 ec
          simp only [List.nil_append, k2, k1, List.length_nil, Nat.add_zero, List.append_nil]
          exact ⟨fun _ => ⟨by simp, by simp⟩, fun h => absurd ⟨by simp, by rw [mayL, dif_pos rfl]⟩ h⟩
        · have hb : mayL e t text = false := may_bad e t text.length text (Nat.le_refl _) hn fun h => h10 (List.mem_of_getLast? h)
          have hp := List.length_pos_iff.2 hn
          have ha : text ++ (e ++ [10]) = (text ++ e) ++ 10 :: [] := by simp
          rw [ha]
          obtain ⟨f1, f2⟩ := fed_line e t L (text ++ e) [] sm i (by simp [h0, e0]) (by simp [h10, e10])
          refine ⟨fun h => absurd h.2 (by rw [hb]; decide), fun _ h => ?_⟩
          by_cases hE : cutTabs t (text ++ e) = e
          · obtain ⟨s, s1, s2⟩ := f1 hE
            rw [s2, s1]; omega
          · rw [f2 hE] at h
            simp only [fed, Prod.mk.injEq] at h
            exact absurd h.2 (by decide)

end Go.Proofs.Ytcbonfgkfiapaaa.Pv
