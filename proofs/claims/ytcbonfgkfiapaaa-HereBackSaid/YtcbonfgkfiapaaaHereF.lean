/- Bytes fed to a reader of package here, one behind the other. -/
import Derived.Test.YtcbonfgkfiapaaaHereR
set_option linter.unusedVariables false
set_option linter.unusedSimpArgs false
set_option maxRecDepth 100000
set_option maxHeartbeats 4000000
namespace Go.Proofs.Ytcbonfgkfiapaaa.Pv
open Go Go.RowKit

def fed (e : List UInt8) (t : Bool) : RS → List UInt8 → Nat → RS × Nat × Int
  | s, [], i => (s, i, 0)
  | s, c :: cs, i => if (feedS e t s c).sig = 0 then fed e t (feedS e t s c) cs (i + 1) else (feedS e t s c, i, (feedS e t s c).sig)
theorem feed_small {e : List UInt8} {t : Bool} {s : RS} {c : UInt8} {i : Nat} (h1 : s.lines.length ≤ i) (h2 : s.line.length ≤ i) : (feedS e t s c).lines.length ≤ i + 1 ∧ (feedS e t s c).line.length ≤ i + 1 := by
  unfold feedS
  (repeat' split) <;> (constructor <;> (try dsimp only) <;> (try simp only [List.length_append, List.length_cons, List.length_nil]) <;> omega)
theorem fed_calls (e : List UInt8) (t : Bool) (s : List UInt8) (hr : hereRight e t = true) (h1 : e.length < 4294967281) (ha : okEnd e) (hs : s.length ≤ 999999) (S : Heap) :
    CallsA Try.prog 56 [.agg [.str e, .bool t], .str s] S fun q S' => ∃ r pl pn, q = .tup [.mp r 0, .int .i64 ((fed e t ⟨[], [], false, 0⟩ s 0).2.1 : Int), .int .i64 (fed e t ⟨[], [], false, 0⟩ s 0).2.2] ∧ IsRdr S S' r e t (fed e t ⟨[], [], false, 0⟩ s 0).1 pl pn := by
  generalize hF : fed e t ⟨[], [], false, 0⟩ s 0 = F
  refine CallsA_W (fun _ => false) Try.func56 rfl (Nat.le_of_ble_eq_true rfl) ?_
  simp only [Try.f56]
  (simp only [go_sem, reduceIte, ite_true, ite_false, Nat.reduceEqDiff, Nat.reduceLT, Nat.reduceLeDiff, Nat.reduceAdd, reduceCtorEq, decide_eq_true_eq, decide_eq_false_iff_not, Bool.false_eq_true, Bool.true_eq_false, true_and, and_true, forall_const, decide_true, decide_false, true_implies, implies_true, Bool.not_true, Bool.not_false, ← decide_not, Decidable.not_not, eq_self, Option.some.injEq, exists_eq_left', exists_eq_left, and_self, Int.toNat_natCast, Int.natCast_nonneg, List.getElem?_map, Option.isSome_some, not_false_eq_true, not_true_eq_false, List.getElem?_toArray, Int.reduceToNat, Int.reduceLE, Int.reduceLT, Int.toNat_zero, Int.reduceNeg, Int.reduceEq, Int.reduceNe, Nat.reduceBEq, Nat.reduceMul, Nat.reducePow, *])
  refine OpW_call (ps := [.agg [.str e, .bool t]]) rfl rfl call101 rfl ((hereNew_calls e t h1 ha S).mono ?_)
  rintro p S0 hp
  rw [if_pos hr] at hp
  obtain ⟨r, hrn, rfl, rfl⟩ := hp
  have R0 := rdr_new hrn e t
  (simp only [go_sem, reduceIte, ite_true, ite_false, Nat.reduceEqDiff, Nat.reduceLT, Nat.reduceLeDiff, Nat.reduceAdd, reduceCtorEq, decide_eq_true_eq, decide_eq_false_iff_not, Bool.false_eq_true, Bool.true_eq_false, true_and, and_true, forall_const, decide_true, decide_false, true_implies, implies_true, Bool.not_true, Bool.not_false, ← decide_not, Decidable.not_not, eq_self, Option.some.injEq, exists_eq_left', exists_eq_left, and_self, Int.toNat_natCast, Int.natCast_nonneg, List.getElem?_map, Option.isSome_some, not_false_eq_true, not_true_eq_false, List.getElem?_toArray, Int.reduceToNat, Int.reduceLE, Int.reduceLT, Int.toNat_zero, Int.reduceNeg, Int.reduceEq, Int.reduceNe, Nat.reduceBEq, Nat.reduceMul, Nat.reducePow, *])
  generalize S.set r (rdr e t .sl0 .sl0 false 0) = S0 at *
  refine CodeW_loop (fun m σ' S' => ∃ (i : Nat) (st : RS) (pl pn : PV), i + m = s.length ∧ σ' 1 = .str s ∧ σ' 7 = .mp r 0 ∧ σ' 8 = .int .i64 i ∧ IsRdr S S' r e t st pl pn ∧ st.sig = 0 ∧ st.lines.length ≤ i ∧ st.line.length ≤ i ∧ fed e t st (s.drop i) i = F) s.length ?_ ?_
  · (simp only [go_sem, reduceIte, ite_true, ite_false, Nat.reduceEqDiff, Nat.reduceLT, Nat.reduceLeDiff, Nat.reduceAdd, reduceCtorEq, decide_eq_true_eq, decide_eq_false_iff_not, Bool.false_eq_true, Bool.true_eq_false, true_and, and_true, forall_const, decide_true, decide_false, true_implies, implies_true, Bool.not_true, Bool.not_false, ← decide_not, Decidable.not_not, eq_self, Option.some.injEq, exists_eq_left', exists_eq_left, and_self, Int.toNat_natCast, Int.natCast_nonneg, List.getElem?_map, Option.isSome_some, not_false_eq_true, not_true_eq_false, List.getElem?_toArray, Int.reduceToNat, Int.reduceLE, Int.reduceLT, Int.toNat_zero, Int.reduceNeg, Int.reduceEq, Int.reduceNe, Nat.reduceBEq, Nat.reduceMul, Nat.reducePow, *])
    exact ⟨0, ⟨[], [], false, 0⟩, _, _, by omega, rfl, R0, rfl, Nat.le_refl _, Nat.le_refl _, by simpa using hF⟩
  · rintro m σ' S' ⟨i, st, pl, pn, h2, h3, h4, h5, h6, h7, h8, h9, h10⟩
    clear R0 hF hr
    cases hc : s[i]? with
    | none =>
      have hl : s.length ≤ i := List.getElem?_eq_none_iff.1 hc
      have hlt : ¬ ((i : Int) < (s.length : Int)) := by omega
      rw [List.drop_eq_nil_of_le hl] at h10
      simp only [fed] at h10
      subst h10
      (simp only [go_sem, reduceIte, ite_true, ite_false, Nat.reduceEqDiff, Nat.reduceLT, Nat.reduceLeDiff, Nat.reduceAdd, reduceCtorEq, decide_eq_true_eq, decide_eq_false_iff_not, Bool.false_eq_true, Bool.true_eq_false, true_and, and_true, forall_const, decide_true, decide_false, true_implies, implies_true, Bool.not_true, Bool.not_false, ← decide_not, Decidable.not_not, eq_self, Option.some.injEq, exists_eq_left', exists_eq_left, and_self, Int.toNat_natCast, Int.natCast_nonneg, List.getElem?_map, Option.isSome_some, not_false_eq_true, not_true_eq_false, List.getElem?_toArray, Int.reduceToNat, Int.reduceLE, Int.reduceLT, Int.toNat_zero, Int.reduceNeg, Int.reduceEq, Int.reduceNe, Nat.reduceBEq, Nat.reduceMul, Nat.reducePow, *])
      exact ⟨r, pl, pn, by rw [show i = s.length by omega], h6⟩
    | some c =>
      have hl := (List.getElem?_eq_some_iff.1 hc).1
      have hlt : (i : Int) < (s.length : Int) := by omega
      have hd : s.drop i = c :: s.drop (i + 1) := by
        obtain ⟨_, hx⟩ := List.getElem?_eq_some_iff.1 hc
        rw [List.drop_eq_getElem_cons hl, hx]
      rw [hd] at h10
      simp only [fed] at h10
      (simp only [go_sem, reduceIte, ite_true, ite_false, Nat.reduceEqDiff, Nat.reduceLT, Nat.reduceLeDiff, Nat.reduceAdd, reduceCtorEq, decide_eq_true_eq, decide_eq_false_iff_not, Bool.false_eq_true, Bool.true_eq_false, true_and, and_true, forall_const, decide_true, decide_false, true_implies, implies_true, Bool.not_true, Bool.not_false, ← decide_not, Decidable.not_not, eq_self, Option.some.injEq, exists_eq_left', exists_eq_left, and_self, Int.toNat_natCast, Int.natCast_nonneg, List.getElem?_map, Option.isSome_some, not_false_eq_true, not_true_eq_false, List.getElem?_toArray, Int.reduceToNat, Int.reduceLE, Int.reduceLT, Int.toNat_zero, Int.reduceNeg, Int.reduceEq, Int.reduceNe, Nat.reduceBEq, Nat.reduceMul, Nat.reducePow, *])
      refine OpW_call (ps := [.mp r 0, .int .u8 (c.toNat : Int)]) rfl rfl call58 rfl ((feed_calls S r e t st pl pn c S' h6 ⟨by omega, by omega⟩).mono ?_)
      obtain ⟨g1, g2⟩ := feed_small (e := e) (t := t) (c := c) h8 h9
      generalize feedS e t st c = st' at *
      rintro p S1 ⟨rfl, pl1, pn1, R1⟩
      clear h6 h7 h8 h9 hd
      by_cases h0 : st'.sig = 0
      · rw [if_pos h0] at h10
        (simp only [go_sem, reduceIte, ite_true, ite_false, Nat.reduceEqDiff, Nat.reduceLT, Nat.reduceLeDiff, Nat.reduceAdd, reduceCtorEq, decide_eq_true_eq, decide_eq_false_iff_not, Bool.false_eq_true, Bool.true_eq_false, true_and, and_true, forall_const, decide_true, decide_false, true_implies, implies_true, Bool.not_true, Bool.not_false, ← decide_not, Decidable.not_not, eq_self, Option.some.injEq, exists_eq_left', exists_eq_left, and_self, Int.toNat_natCast, Int.natCast_nonneg, List.getElem?_map, Option.isSome_some, not_false_eq_true, not_true_eq_false, List.getElem?_toArray, Int.reduceToNat, Int.reduceLE, Int.reduceLT, Int.toNat_zero, Int.reduceNeg, Int.reduceEq, Int.reduceNe, Nat.reduceBEq, Nat.reduceMul, Nat.reducePow, *])
        exact ⟨m - 1, by omega, i + 1, st', pl1, pn1, by omega, step64 hl (by omega), R1, h0, g1, g2, h10⟩
      · rw [if_neg h0] at h10
        subst h10
        (simp only [go_sem, reduceIte, ite_true, ite_false, Nat.reduceEqDiff, Nat.reduceLT, Nat.reduceLeDiff, Nat.reduceAdd, reduceCtorEq, decide_eq_true_eq, decide_eq_false_iff_not, Bool.false_eq_true, Bool.true_eq_false, true_and, and_true, forall_const, decide_true, decide_false, true_implies, implies_true, Bool.not_true, Bool.not_false, ← decide_not, Decidable.not_not, eq_self, Option.some.injEq, exists_eq_left', exists_eq_left, and_self, Int.toNat_natCast, Int.natCast_nonneg, List.getElem?_map, Option.isSome_some, not_false_eq_true, not_true_eq_false, List.getElem?_toArray, Int.reduceToNat, Int.reduceLE, Int.reduceLT, Int.toNat_zero, Int.reduceNeg, Int.reduceEq, Int.reduceNe, Nat.reduceBEq, Nat.reduceMul, Nat.reducePow, *])
        exact ⟨r, pl1, pn1, rfl, R1⟩

end Go.Proofs.Ytcbonfgkfiapaaa.Pv
