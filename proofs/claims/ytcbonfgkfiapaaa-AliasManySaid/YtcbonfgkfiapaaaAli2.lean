/- What the reference's alias table computes. -/
import Derived.Test.YtcbonfgkfiapaaaAli1
import Derived.Test.YtcbonfgkfiapaaaAnyOrd
import Derived.Test.YtcbonfgkfiapaaaSlc
import Derived.Test.YtcbonfgkfiapaaaPtRefA
set_option linter.unusedVariables false
set_option linter.unusedSimpArgs false
set_option maxRecDepth 100000
set_option maxHeartbeats 40000000
namespace Go.Proofs.Ytcbonfgkfiapaaa.Pv
open Go Go.RowKit

def arow (x : Txt × Txt) : List PV := [.str x.1, .str x.2]
def arows (l : TMap) : List (List PV) := l.map arow
theorem arows_len (l : TMap) : (arows l).length = l.length := by simp [arows]
theorem arows_get (l : TMap) (i : Nat) : (arows l)[i]? = (l[i]?).map arow := by simp [arows]
theorem arows_app (a b : TMap) : arows (a ++ b) = arows a ++ arows b := by simp [arows]
theorem arows_take (l : TMap) (i : Nat) : (arows l).take i = arows (l.take i) := by simp [arows]
theorem arows_drop (l : TMap) (i : Nat) : (arows l).drop i = arows (l.drop i) := by simp [arows]
theorem arows_one (l : TMap) : ∀ r ∈ arows l, ∀ c ∈ r, c.isOne = true := by
  intro r hr c hc
  obtain ⟨x, _, rfl⟩ := List.mem_map.1 hr
  simp only [arow, List.mem_cons, List.not_mem_nil, or_false] at hc
  rcases hc with rfl | rfl <;> rfl
/-- A reference's table in block r. -/
def RT (r : Nat) (l : TMap) (S : Heap) : Prop := S r = some (.cells [.slice 2 (arows l)] 72)
/-- All else is as it was. -/
def Rest (r : Nat) (S S' : Heap) : Prop := ∀ c x, c ≠ r → S c = some x → S' c = some x
theorem Rest.refl (r : Nat) (S : Heap) : Rest r S S := fun _ _ _ h => h
theorem Rest.trans {r : Nat} {S S1 S2 : Heap} (h : Rest r S S1) (k : Rest r S1 S2) : Rest r S S2 := fun c x hc hs => k c x hc (h c x hc hs)

theorem get_none {s : Txt} {l : TMap} (h : ∀ (j : Nat) x, j < l.length → l[j]? = some x → x.1 ≠ s) : getA s l = none := by
  unfold getA
  rw [List.find?_eq_none.2]
  · rfl
  · intro x hx
    obtain ⟨j, hj, rfl⟩ := List.mem_iff_getElem.1 hx
    have := h j _ hj (List.getElem?_eq_getElem hj)
    simpa using this
theorem get_at {s : Txt} : ∀ {l : TMap} {i : Nat} {x : Txt × Txt}, (∀ (j : Nat) y, j < i → l[j]? = some y → y.1 ≠ s) → l[i]? = some x → x.1 = s → getA s l = some x.2
  | [], i, x, _, h, _ => by simp at h
  | y :: l, 0, x, _, h, hs => by
    simp at h; subst h
    unfold getA
    rw [List.find?_cons_of_pos (by simpa using hs)]; rfl
  | y :: l, i + 1, x, hn, h, hs => by
    have h0 := hn 0 y (by omega) rfl
    have := get_at (l := l) (i := i) (x := x) (fun j z hj hz => hn (j + 1) z (by omega) (by simpa using hz)) (by simpa using h) hs
    unfold getA at this ⊢
    rw [List.find?_cons_of_neg (by simpa using h0)]
    exact this
theorem del_none {s : Txt} {l : TMap} (h : getA s l = none) : delA s l = l := by
  unfold getA at h
  unfold delA
  rw [List.filter_eq_self]
  intro x hx
  have h2 : l.find? (fun x => x.1 == s) = none := by simpa using h
  have := List.find?_eq_none.1 h2 x hx
  simpa using this
/-- Names, each once. -/
def Once (l : TMap) : Prop := (l.map (·.1)).Nodup
theorem del_at {s : Txt} : ∀ {l : TMap} {i : Nat} {x : Txt × Txt}, Once l → l[i]? = some x → x.1 = s → delA s l = l.take i ++ l.drop (i + 1)
  | [], i, x, _, h, _ => by simp at h
  | y :: l, 0, x, hn, h, hs => by
    simp at h; subst h
    have hn' : ¬ y.1 ∈ l.map (·.1) := by
      unfold Once at hn
      rw [List.map_cons, List.nodup_cons] at hn
      exact hn.1
    unfold delA
    rw [List.filter_cons_of_neg (by simp [hs])]
    simp only [List.take_zero, List.nil_append, Nat.zero_add, List.drop_succ_cons, List.drop_zero]
    rw [List.filter_eq_self]
    intro z hz
    have : z.1 ≠ s := fun e => hn' (by rw [hs, ← e]; exact List.mem_map_of_mem hz)
    simpa using this
  | y :: l, i + 1, x, hn, h, hs => by
    unfold Once at hn
    rw [List.map_cons, List.nodup_cons] at hn
    have hne : y.1 ≠ s := by
      intro e
      apply hn.1
      have hx : x ∈ l := List.mem_of_getElem? (by simpa using h)
      rw [e, ← hs]
      exact List.mem_map_of_mem hx
    have := del_at (l := l) (i := i) (x := x) hn.2 (by simpa using h) hs
    unfold delA at this ⊢
    rw [List.filter_cons_of_pos (by simpa using hne), this]
    simp
/-- Where a name belongs. -/
theorem before_less : ∀ a b : Txt, bytesBefore a b = Op.bytesLess a b
  | [], [] => rfl
  | [], _ :: _ => rfl
  | _ :: _, [] => rfl
  | a :: x, b :: y => by simp only [bytesBefore, Op.bytesLess, before_less x y]
theorem before_total : ∀ a b : Txt, a ≠ b → bytesBefore a b = !bytesBefore b a
  | [], [], h => absurd rfl h
  | [], _ :: _, _ => rfl
  | _ :: _, [], _ => rfl
  | a :: x, b :: y, h => by
    simp only [bytesBefore]
    by_cases e : a = b
    · subst e
      have := before_total x y (fun e => h (by rw [e]))
      simp [this]
    · have h1 : (a == b) = false := by simpa using e
      have h2 : (b == a) = false := by simpa using Ne.symm e
      rw [h1, h2]
      simp only [Bool.false_and, Bool.or_false]
      rw [← decide_not, decide_eq_decide]
      rw [UInt8.lt_iff_toNat_lt, UInt8.lt_iff_toNat_lt]
      have : a.toNat ≠ b.toNat := fun h => e (UInt8.toNat_inj.1 h)
      omega
theorem ins_at {s v : Txt} : ∀ {l : TMap} {i : Nat}, i ≤ l.length → (∀ (j : Nat) y, j < i → l[j]? = some y → Op.bytesLess y.1 s = true) → (∀ y, l[i]? = some y → Op.bytesLess y.1 s = false) → (∀ y ∈ l, y.1 ≠ s) → insA s v l = l.take i ++ (s, v) :: l.drop i
  | [], i, hi, _, _, _ => by simp at hi; subst hi; rfl
  | y :: l, 0, _, _, h, hne => by
    have h0 := h y rfl
    have e : bytesBefore s y.1 = true := by rw [before_total s y.1 (Ne.symm (hne y (by simp))), before_less, h0]; rfl
    unfold insA
    rw [if_pos e]; rfl
  | y :: l, i + 1, hi, hj, h, hne => by
    have h0 := hj 0 y (by omega) rfl
    have e : bytesBefore s y.1 = false := by rw [before_total s y.1 (Ne.symm (hne y (by simp))), before_less, h0]; rfl
    have := ins_at (v := v) (l := l) (i := i) (by simpa using hi) (fun j z hz hk => hj (j + 1) z (by omega) (by simpa using hk)) (fun z hz => h z (by simpa using hz)) (fun z hz => hne z (by simp [hz]))
    unfold insA
    rw [if_neg (by rw [e]; simp), this]; rfl

theorem ref36has_calls (s : Txt) (hs : s.length ≤ 4611686018427387904) (S : Heap) : CallsQ Try.prog 118 [.str s] S (.bool (hasZero s)) := by
  refine CallsA_W (fun _ => false) Try.func118 rfl (Nat.le_of_ble_eq_true rfl) ?_
  simp only [Try.f118]
  (simp only [go_sem, reduceIte, Nat.reduceEqDiff, Nat.reduceLT, Nat.reduceLeDiff, Nat.reduceAdd, reduceCtorEq, Int.reduceToNat, Int.reduceLE, Int.reduceLT, Int.reduceNeg, Int.reduceEq, Int.reduceNe, Nat.reduceBEq, Nat.reduceMul, Nat.reducePow, Int.cast_ofNat_Int, *])
  refine CodeW_loop (fun m σ' S' => ∃ i : Nat, i + m = s.length ∧ σ' 0 = .str s ∧ σ' 3 = .int .i64 i ∧ S' = S ∧ ∀ (j : Nat) d, j < i → s[j]? = some d → d ≠ 0) s.length ?_ ?_
  · (simp only [go_sem, reduceIte, Nat.reduceEqDiff, Nat.reduceLT, Nat.reduceLeDiff, Nat.reduceAdd, reduceCtorEq, Int.reduceToNat, Int.reduceLE, Int.reduceLT, Int.reduceNeg, Int.reduceEq, Int.reduceNe, Nat.reduceBEq, Nat.reduceMul, Nat.reducePow, Int.cast_ofNat_Int, *])
    exact ⟨0, by omega, rfl, fun j d hj => by omega⟩
  · rintro m σ' S' ⟨i, h1, h2, h4, rfl, h6⟩
    cases hc : s[i]? with
    | none =>
      have hl : s.length ≤ i := List.getElem?_eq_none_iff.1 hc
      have hlt : ¬ ((i : Int) < (s.length : Int)) := by omega
      have hz : hasZero s = false := by
        unfold hasZero
        rw [idx_no fun j d hd => h6 j d (by have := (List.getElem?_eq_some_iff.1 hd).1; omega) hd]
        rfl
      (simp only [go_sem, reduceIte, Nat.reduceEqDiff, Nat.reduceLT, Nat.reduceLeDiff, Nat.reduceAdd, reduceCtorEq, Int.reduceToNat, Int.reduceLE, Int.reduceLT, Int.reduceNeg, Int.reduceEq, Int.reduceNe, Nat.reduceBEq, Nat.reduceMul, Nat.reducePow, Int.cast_ofNat_Int, *])
    | some c =>
      have hl := (List.getElem?_eq_some_iff.1 hc).1
      have hlt : (i : Int) < (s.length : Int) := by omega
      by_cases h0 : (c.toNat : Int) = 0
      · have hc0 : c = 0 := UInt8.toNat_inj.1 (by simp at h0 ⊢; exact h0)
        have hz : hasZero s = true := by
          unfold hasZero
          rw [decide_eq_true_eq, idx_mem]
          exact hc0 ▸ List.mem_of_getElem? hc
        clear hc0
        (simp only [go_sem, reduceIte, Nat.reduceEqDiff, Nat.reduceLT, Nat.reduceLeDiff, Nat.reduceAdd, reduceCtorEq, Int.reduceToNat, Int.reduceLE, Int.reduceLT, Int.reduceNeg, Int.reduceEq, Int.reduceNe, Nat.reduceBEq, Nat.reduceMul, Nat.reducePow, Int.cast_ofNat_Int, *])
      · have hw := step64 hl hs
        have hn : ∀ (j : Nat) d, j < i + 1 → s[j]? = some d → d ≠ 0 := by
          intro j d hj hd
          by_cases e : j = i
          · subst e; rw [hc] at hd; cases hd
            intro e; subst e; exact h0 rfl
          · exact h6 j d (by omega) hd
        clear h6
        (simp only [go_sem, reduceIte, Nat.reduceEqDiff, Nat.reduceLT, Nat.reduceLeDiff, Nat.reduceAdd, reduceCtorEq, Int.reduceToNat, Int.reduceLE, Int.reduceLT, Int.reduceNeg, Int.reduceEq, Int.reduceNe, Nat.reduceBEq, Nat.reduceMul, Nat.reducePow, Int.cast_ofNat_Int, *])
        exact ⟨m - 1, by omega, i + 1, by omega, rfl, hn⟩

theorem refGet_calls (r : Nat) (l : TMap) (s : Txt) (hl : l.length ≤ 1048576) (S : Heap) (h : RT r l S) : CallsQ Try.prog 77 [.mp r 0, .str s] S (.tup [.str ((getA s l).getD []), .bool (getA s l).isSome]) := by
  unfold RT at h
  refine CallsA_W (fun _ => false) Try.func77 rfl (Nat.le_of_ble_eq_true rfl) ?_
  simp only [Try.f77]
  (simp only [go_sem, reduceIte, Nat.reduceEqDiff, Nat.reduceLT, Nat.reduceLeDiff, Nat.reduceAdd, reduceCtorEq, Int.reduceToNat, Int.reduceLE, Int.reduceLT, Int.reduceNeg, Int.reduceEq, Int.reduceNe, Nat.reduceBEq, Nat.reduceMul, Nat.reducePow, Int.cast_ofNat_Int, *])
  refine CodeW_loop (fun m σ' S' => ∃ i : Nat, i + m = l.length ∧ σ' 0 = .mp r 0 ∧ σ' 1 = .str s ∧ σ' 6 = .int .i64 i ∧ S' = S ∧ ∀ (j : Nat) y, j < i → l[j]? = some y → y.1 ≠ s) l.length ?_ ?_
  · (simp only [go_sem, reduceIte, Nat.reduceEqDiff, Nat.reduceLT, Nat.reduceLeDiff, Nat.reduceAdd, reduceCtorEq, Int.reduceToNat, Int.reduceLE, Int.reduceLT, Int.reduceNeg, Int.reduceEq, Int.reduceNe, Nat.reduceBEq, Nat.reduceMul, Nat.reducePow, Int.cast_ofNat_Int, *])
    exact ⟨0, by omega, rfl, fun j d hj => by omega⟩
  · rintro m σ' S' ⟨i, h1, h2, h3, h4, rfl, h6⟩
    have hal := arows_len l
    have hg := arows_get l i
    cases hc : l[i]? with
    | none =>
      have hle : l.length ≤ i := List.getElem?_eq_none_iff.1 hc
      have hlt : ¬ ((i : Int) < (l.length : Int)) := by omega
      have hn : getA s l = none := get_none fun j x hj hx => h6 j x (by omega) hx
      clear hg hc
      (simp only [go_sem, reduceIte, Nat.reduceEqDiff, Nat.reduceLT, Nat.reduceLeDiff, Nat.reduceAdd, reduceCtorEq, Int.reduceToNat, Int.reduceLE, Int.reduceLT, Int.reduceNeg, Int.reduceEq, Int.reduceNe, Nat.reduceBEq, Nat.reduceMul, Nat.reducePow, Int.cast_ofNat_Int, *])
      all_goals simp
    | some x =>
      obtain ⟨a, b⟩ := x
      have hll := (List.getElem?_eq_some_iff.1 hc).1
      have hlt : (i : Int) < (l.length : Int) := by omega
      rw [hc] at hg
      simp only [Option.map_some, arow] at hg
      by_cases h0 : a = s
      · subst h0
        have hn := get_at h6 hc rfl
        clear h6 hc
        (simp only [go_sem, reduceIte, Nat.reduceEqDiff, Nat.reduceLT, Nat.reduceLeDiff, Nat.reduceAdd, reduceCtorEq, Int.reduceToNat, Int.reduceLE, Int.reduceLT, Int.reduceNeg, Int.reduceEq, Int.reduceNe, Nat.reduceBEq, Nat.reduceMul, Nat.reducePow, Int.cast_ofNat_Int, *])
        all_goals simp
      · have hw := wrap1 (n := l.length) hll (by omega)
        have hn : ∀ (j : Nat) y, j < i + 1 → l[j]? = some y → y.1 ≠ s := by
          intro j d hj hd
          by_cases e : j = i
          · subst e; rw [hc] at hd; cases hd; exact h0
          · exact h6 j d (by omega) hd
        clear h6 hc
        (simp only [go_sem, reduceIte, Nat.reduceEqDiff, Nat.reduceLT, Nat.reduceLeDiff, Nat.reduceAdd, reduceCtorEq, Int.reduceToNat, Int.reduceLE, Int.reduceLT, Int.reduceNeg, Int.reduceEq, Int.reduceNe, Nat.reduceBEq, Nat.reduceMul, Nat.reducePow, Int.cast_ofNat_Int, *])
        exact ⟨m - 1, by omega, i + 1, by omega, rfl, hn⟩
theorem appAlias : appFacts Try.prog 70 = some (2, 32, 132) := by kernel_rfl
theorem rest_frz {r : Nat} {S S2 : Heap} {p q : PV} {o : MObj} {ty : TypeId} (h : S.le S2) (ho : ∀ b, ownB p = some b → S b = none) : Rest r S (frz (S2.set r o) r p q ty) := by
  intro c x hc hs
  unfold frz
  rw [if_neg hc, if_neg (fun e => by rw [ho c e] at hs; cases hs), set_apply, if_neg hc]
  exact h c x hs
theorem own_cells {S : Heap} {sz : Nat} {e : TypeId} {rows : List (List PV)} {p : PV} {b : Nat} {cs : List PV} {ty : TypeId} (h : Grows S sz e rows p) (hb : S b = some (.cells cs ty)) : ownB p ≠ some b := by
  intro e1
  rcases h with ⟨e2, _⟩ | ⟨b', cap, cap', e2, e3, _⟩
  · rw [e2] at e1; cases e1
  · rw [e2] at e1; simp only [ownB, Option.some.injEq] at e1; subst e1; rw [hb] at e3; cases e3
theorem refUnset_calls (r : Nat) (l : TMap) (s : Txt) (hl : l.length ≤ 1048576) (ho : Once l) (S : Heap) (h : RT r l S) : CallsA Try.prog 75 [.mp r 0, .str s] S
    (fun q S' => q = .bool (getA s l).isSome ∧ RT r (delA s l) S' ∧ Rest r S S') := by
  have h' := h
  unfold RT at h
  refine CallsA_W (fun _ => false) Try.func75 rfl (Nat.le_of_ble_eq_true rfl) ?_
  simp only [Try.f75]
  (simp only [go_sem, reduceIte, Nat.reduceEqDiff, Nat.reduceLT, Nat.reduceLeDiff, Nat.reduceAdd, reduceCtorEq, Int.reduceToNat, Int.reduceLE, Int.reduceLT, Int.reduceNeg, Int.reduceEq, Int.reduceNe, Nat.reduceBEq, Nat.reduceMul, Nat.reducePow, Int.cast_ofNat_Int, *])
  refine CodeW_loop (fun m σ' S' => ∃ i : Nat, i + m = l.length ∧ σ' 0 = .mp r 0 ∧ σ' 1 = .str s ∧ σ' 5 = .int .i64 i ∧ S' = S ∧ ∀ (j : Nat) y, j < i → l[j]? = some y → y.1 ≠ s) l.length ?_ ?_
  · (simp only [go_sem, reduceIte, Nat.reduceEqDiff, Nat.reduceLT, Nat.reduceLeDiff, Nat.reduceAdd, reduceCtorEq, Int.reduceToNat, Int.reduceLE, Int.reduceLT, Int.reduceNeg, Int.reduceEq, Int.reduceNe, Nat.reduceBEq, Nat.reduceMul, Nat.reducePow, Int.cast_ofNat_Int, *])
    exact ⟨0, by omega, rfl, fun j d hj => by omega⟩
  · rintro m σ' S' ⟨i, h1, h2, h3, h4, rfl, h6⟩
    have hal := arows_len l
    have hg := arows_get l i
    cases hc : l[i]? with
    | none =>
      have hle : l.length ≤ i := List.getElem?_eq_none_iff.1 hc
      have hlt : ¬ ((i : Int) < (l.length : Int)) := by omega
      have hn : getA s l = none := get_none fun j x hj hx => h6 j x (by omega) hx
      have hd := del_none hn
      clear hg hc
      (simp only [go_sem, reduceIte, Nat.reduceEqDiff, Nat.reduceLT, Nat.reduceLeDiff, Nat.reduceAdd, reduceCtorEq, Int.reduceToNat, Int.reduceLE, Int.reduceLT, Int.reduceNeg, Int.reduceEq, Int.reduceNe, Nat.reduceBEq, Nat.reduceMul, Nat.reducePow, Int.cast_ofNat_Int, *])
      exact ⟨rfl, Rest.refl _ _⟩
    | some x =>
      obtain ⟨a, b⟩ := x
      have hll := (List.getElem?_eq_some_iff.1 hc).1
      have hlt : (i : Int) < (l.length : Int) := by omega
      rw [hc] at hg
      simp only [Option.map_some, arow] at hg
      by_cases h0 : a = s
      · subst h0
        have hn := get_at h6 hc rfl
        have hd := del_at ho hc rfl
        have hle1 : i ≤ l.length := by omega
        have hle2 : i + 1 ≤ l.length := by omega
        have hw := wrap1 (n := l.length) hll (by omega)
        have ho1 := arows_one (l.take i)
        have ho2 := arows_one (l.drop (i + 1))
        have ht := arows_take l i
        have hdr := arows_drop l (i + 1)
        have hap := arows_app (l.take i) (l.drop (i + 1))
        have htk : (arows l).take l.length = arows l := by rw [← arows_len]; exact List.take_length
        have hle3 := Nat.le_refl l.length
        have hlt1 : (l.take i).length = i := by rw [List.length_take]; omega
        have hlt2 : (l.drop (i + 1)).length = l.length - (i + 1) := by rw [List.length_drop]
        clear h6 hc
        (simp only [go_sem, reduceIte, Nat.reduceEqDiff, Nat.reduceLT, Nat.reduceLeDiff, Nat.reduceAdd, reduceCtorEq, Int.reduceToNat, Int.reduceLE, Int.reduceLT, Int.reduceNeg, Int.reduceEq, Int.reduceNe, Nat.reduceBEq, Nat.reduceMul, Nat.reducePow, Int.cast_ofNat_Int, *])
        refine CodeW_any mixed [.pure, .pure, .pure, .pure, .pure, .ld 70 (.tmp 29), .pure, .pure, .app 70 2 32 132 (.tmp 26) (.tmp 32), .pure, .pure, .pure, .ld 70 (.tmp 36), .pure, .pure, .pure, .app 70 2 32 132 (.tmp 33) (.tmp 40)] (by kernel_rfl) (by kernel_rfl) ⟨trivial, trivial, trivial, trivial, trivial, rfl, trivial, trivial, ⟨rfl, appAlias⟩, trivial, trivial, trivial, rfl, trivial, trivial, trivial, ⟨rfl, appAlias⟩, trivial⟩ ?_
        simp only [List.zip_cons_cons, List.zip_nil_right, List.zip_nil_left]
        (simp only [go_sem, reduceIte, Nat.reduceEqDiff, Nat.reduceLT, Nat.reduceLeDiff, Nat.reduceAdd, reduceCtorEq, Int.reduceToNat, Int.reduceLE, Int.reduceLT, Int.reduceNeg, Int.reduceEq, Int.reduceNe, Nat.reduceBEq, Nat.reduceMul, Nat.reducePow, Int.cast_ofNat_Int, *])
        refine RunL_ld rfl h (Nat.zero_le _) rfl ?_
        (simp only [go_sem, reduceIte, Nat.reduceEqDiff, Nat.reduceLT, Nat.reduceLeDiff, Nat.reduceAdd, reduceCtorEq, Int.reduceToNat, Int.reduceLE, Int.reduceLT, Int.reduceNeg, Int.reduceEq, Int.reduceNe, Nat.reduceBEq, Nat.reduceMul, Nat.reducePow, Int.cast_ofNat_Int, *])
        refine RunL_app (rows := arows (l.take i)) (olds := []) (ps := .sl0) rfl ho1 rfl (Or.inl ⟨rfl, rfl⟩) (by simp only [List.length_nil, arows_len, maxLen]; omega) (by simp only [List.length_nil, arows_len]; omega) ?_
        rintro p1 S1 k1
        have h1' := k1.cells (Or.inl ⟨rfl, rfl⟩ : Grows S' 2 132 [] .sl0) h
        obtain ⟨j1, j2⟩ := k1.le (Heap.le_refl _) (fun b h => by cases h)
        have k1' := Keep.mk k1
        clear k1
        (simp only [go_sem, reduceIte, Nat.reduceEqDiff, Nat.reduceLT, Nat.reduceLeDiff, Nat.reduceAdd, reduceCtorEq, Int.reduceToNat, Int.reduceLE, Int.reduceLT, Int.reduceNeg, Int.reduceEq, Int.reduceNe, Nat.reduceBEq, Nat.reduceMul, Nat.reducePow, Int.cast_ofNat_Int, *])
        refine RunL_ld rfl h1' (Nat.zero_le _) rfl ?_
        (simp only [go_sem, reduceIte, Nat.reduceEqDiff, Nat.reduceLT, Nat.reduceLeDiff, Nat.reduceAdd, reduceCtorEq, Int.reduceToNat, Int.reduceLE, Int.reduceLT, Int.reduceNeg, Int.reduceEq, Int.reduceNe, Nat.reduceBEq, Nat.reduceMul, Nat.reducePow, Int.cast_ofNat_Int, *])
        refine RunL_app (rows := arows (l.drop (i + 1))) (olds := [] ++ arows (l.take i)) (ps := p1) rfl ho2 rfl k1'.of.grows (by simp only [List.nil_append, arows_len, maxLen]; omega) (by simp only [List.nil_append, arows_len]; omega) ?_
        rintro p2 S2 k2
        have h2' := k2.cells k1'.of.grows h1'
        obtain ⟨j3, j4⟩ := k2.le j1 j2
        have g2 := k2.grows
        have o2 := Keep.mk (grows_one g2).1
        rw [List.nil_append, ← arows_app] at g2
        have g2' := Keep.mk g2
        clear g2 k1' k2 j1 j2
        (simp only [go_sem, reduceIte, Nat.reduceEqDiff, Nat.reduceLT, Nat.reduceLeDiff, Nat.reduceAdd, reduceCtorEq, Int.reduceToNat, Int.reduceLE, Int.reduceLT, Int.reduceNeg, Int.reduceEq, Int.reduceNe, Nat.reduceBEq, Nat.reduceMul, Nat.reducePow, Int.cast_ofNat_Int, *])
        refine OpW_putF (b := r) (p := p2) rfl rfl h2' o2.of size70 rfl (g2'.of) (own_cells g2'.of h2') ?_
        have hF := Keep.mk (rest_frz (r := r) (q := .slice 2 (arows (delA a l))) (o := .cells [p2] 72) (ty := 72) j3 j4)
        have hR : Keep (RT r (delA a l) (frz (S2.set r (.cells [p2] 72)) r p2 (.slice 2 (arows (delA a l))) 72)) := Keep.mk frz_at
        rw [← hd]
        generalize frz (S2.set r (.cells [p2] 72)) r p2 (.slice 2 (arows (delA a l))) 72 = F at *
        clear g2' o2 j3 j4 h2' h1'
        (simp only [go_sem, reduceIte, Nat.reduceEqDiff, Nat.reduceLT, Nat.reduceLeDiff, Nat.reduceAdd, reduceCtorEq, Int.reduceToNat, Int.reduceLE, Int.reduceLT, Int.reduceNeg, Int.reduceEq, Int.reduceNe, Nat.reduceBEq, Nat.reduceMul, Nat.reducePow, Int.cast_ofNat_Int, *])
        exact ⟨by have := hR.of; rw [hd] at this; exact this, hF.of⟩
      · have hw := wrap1 (n := l.length) hll (by omega)
        have hn : ∀ (j : Nat) y, j < i + 1 → l[j]? = some y → y.1 ≠ s := by
          intro j d hj hd
          by_cases e : j = i
          · subst e; rw [hc] at hd; cases hd; exact h0
          · exact h6 j d (by omega) hd
        clear h6 hc
        (simp only [go_sem, reduceIte, Nat.reduceEqDiff, Nat.reduceLT, Nat.reduceLeDiff, Nat.reduceAdd, reduceCtorEq, Int.reduceToNat, Int.reduceLE, Int.reduceLT, Int.reduceNeg, Int.reduceEq, Int.reduceNe, Nat.reduceBEq, Nat.reduceMul, Nat.reducePow, Int.cast_ofNat_Int, *])
        exact ⟨m - 1, by omega, i + 1, by omega, rfl, hn⟩
theorem grows_elems {S : Heap} {sz : Nat} {e : TypeId} {rows : List (List PV)} {p : PV} (h : Grows S sz e rows p) : elemsOf S sz p = some rows := by
  rcases h with ⟨rfl, rfl⟩ | ⟨b, cap, cap', rfl, h2, h3, h4⟩
  · rfl
  · simp only [elemsOf, h2, true_and]
    rw [if_pos (Nat.le_refl _), List.take_length]
theorem grows_keep {S S' : Heap} {sz : Nat} {e : TypeId} {rows : List (List PV)} {p q : PV} (h : Grows S sz e rows p) (g2 : ownB q = none ∨ ∃ b, ownB q = some b ∧ S b = none) (g3 : ∀ c y, S c = some y → ownB q ≠ some c → S' c = some y) : Grows S' sz e rows p := by
  rcases h with h | ⟨b, cap, cap', h1, h2, h3⟩
  · exact Or.inl h
  · refine Or.inr ⟨b, cap, cap', h1, g3 _ _ h2 fun e => ?_, h3⟩
    rcases g2 with g2 | ⟨b', g2, g4⟩
    · rw [g2] at e; cases e
    · rw [g2] at e; cases e; rw [h2] at g4; cases g4
theorem del_names {s : Txt} {l : TMap} : ∀ y ∈ delA s l, y.1 ≠ s := by
  intro y hy
  have := (List.mem_filter.1 hy).2
  simpa using this
theorem del_len (s : Txt) (l : TMap) : (delA s l).length ≤ l.length := List.length_filter_le _ _
theorem refSet_calls (r : Nat) (l : TMap) (s v : Txt) (hs : s.length ≤ 4611686018427387904) (hv : v.length ≤ 4611686018427387904) (hl : l.length ≤ 1048576) (ho : Once l) (S : Heap) (h : RT r l S) : CallsA Try.prog 73 [.mp r 0, .str s, .str v] S
    (fun q S' => q = .int .i64 (setCode s v l) ∧ RT r (if setCode s v l = 0 then setA s v l else l) S' ∧ Rest r S S') := by
  have hp := refPlain_calls s hs
  have hc := ref36has_calls v hv
  have hg := refGet_calls r l s hl
  have hu := refUnset_calls r l s hl ho
  have hu1 := Try.underlying132
  generalize hcode : setCode s v l = code
  unfold setCode at hcode
  have h' := h
  unfold RT at h
  have hal := arows_len l
  refine CallsA_W (fun t => decide (t = 67)) Try.func73 rfl (Nat.le_of_ble_eq_true rfl) ?_
  simp only [Try.f73]
  by_cases c1 : isPlain s = false
  · rw [if_pos c1] at hcode
    subst hcode
    (simp only [go_sem, reduceIte, Nat.reduceEqDiff, Nat.reduceLT, Nat.reduceLeDiff, Nat.reduceAdd, reduceCtorEq, Int.reduceToNat, Int.reduceLE, Int.reduceLT, Int.reduceNeg, Int.reduceEq, Int.reduceNe, Nat.reduceBEq, Nat.reduceMul, Nat.reducePow, Int.cast_ofNat_Int, *])
    (repeat' first | ((first | refine split_d ?_ ?_ | refine split_gt rfl ?_ ?_ | refine split_gf rfl ?_ ?_ | refine split_b ?_ ?_ | refine split_gb rfl ?_ ?_) <;> intro _ <;> ((try simp only [go_sem, reduceIte, Nat.reduceEqDiff, Nat.reduceLT, Nat.reduceLeDiff, Nat.reduceAdd, reduceCtorEq, Int.reduceToNat, Int.reduceLE, Int.reduceLT, Int.reduceNeg, Int.reduceEq, Int.reduceNe, Nat.reduceBEq, Nat.reduceMul, Nat.reducePow, Int.cast_ofNat_Int, *]))) | ((first | (refine OpW_call rfl rfl call28 rfl ((hp _).mono ?_)) | fail) <;> (rintro p_ S_ ⟨rfl, rfl⟩; (try simp only [go_sem, reduceIte, Nat.reduceEqDiff, Nat.reduceLT, Nat.reduceLeDiff, Nat.reduceAdd, reduceCtorEq, Int.reduceToNat, Int.reduceLE, Int.reduceLT, Int.reduceNeg, Int.reduceEq, Int.reduceNe, Nat.reduceBEq, Nat.reduceMul, Nat.reducePow, Int.cast_ofNat_Int, *]))) | fail)
    all_goals exact Rest.refl _ _
  rw [if_neg c1] at hcode
  have c1' : isPlain s = true := by simpa using c1
  by_cases c2 : (24 : Int) < (s.length : Int) ∨ (200 : Int) < (v.length : Int)
  · rw [if_pos c2] at hcode
    subst hcode
    by_cases c2a : (24 : Int) < (s.length : Int)
    · (simp only [go_sem, reduceIte, Nat.reduceEqDiff, Nat.reduceLT, Nat.reduceLeDiff, Nat.reduceAdd, reduceCtorEq, Int.reduceToNat, Int.reduceLE, Int.reduceLT, Int.reduceNeg, Int.reduceEq, Int.reduceNe, Nat.reduceBEq, Nat.reduceMul, Nat.reducePow, Int.cast_ofNat_Int, *])
      (repeat' first | ((first | refine split_d ?_ ?_ | refine split_gt rfl ?_ ?_ | refine split_gf rfl ?_ ?_ | refine split_b ?_ ?_ | refine split_gb rfl ?_ ?_) <;> intro _ <;> ((try simp only [go_sem, reduceIte, Nat.reduceEqDiff, Nat.reduceLT, Nat.reduceLeDiff, Nat.reduceAdd, reduceCtorEq, Int.reduceToNat, Int.reduceLE, Int.reduceLT, Int.reduceNeg, Int.reduceEq, Int.reduceNe, Nat.reduceBEq, Nat.reduceMul, Nat.reducePow, Int.cast_ofNat_Int, *]))) | ((first | (refine OpW_call rfl rfl call28 rfl ((hp _).mono ?_)) | fail) <;> (rintro p_ S_ ⟨rfl, rfl⟩; (try simp only [go_sem, reduceIte, Nat.reduceEqDiff, Nat.reduceLT, Nat.reduceLeDiff, Nat.reduceAdd, reduceCtorEq, Int.reduceToNat, Int.reduceLE, Int.reduceLT, Int.reduceNeg, Int.reduceEq, Int.reduceNe, Nat.reduceBEq, Nat.reduceMul, Nat.reducePow, Int.cast_ofNat_Int, *]))) | fail)
      all_goals exact Rest.refl _ _
    · have c2b : (200 : Int) < (v.length : Int) := by omega
      (simp only [go_sem, reduceIte, Nat.reduceEqDiff, Nat.reduceLT, Nat.reduceLeDiff, Nat.reduceAdd, reduceCtorEq, Int.reduceToNat, Int.reduceLE, Int.reduceLT, Int.reduceNeg, Int.reduceEq, Int.reduceNe, Nat.reduceBEq, Nat.reduceMul, Nat.reducePow, Int.cast_ofNat_Int, *])
      (repeat' first | ((first | refine split_d ?_ ?_ | refine split_gt rfl ?_ ?_ | refine split_gf rfl ?_ ?_ | refine split_b ?_ ?_ | refine split_gb rfl ?_ ?_) <;> intro _ <;> ((try simp only [go_sem, reduceIte, Nat.reduceEqDiff, Nat.reduceLT, Nat.reduceLeDiff, Nat.reduceAdd, reduceCtorEq, Int.reduceToNat, Int.reduceLE, Int.reduceLT, Int.reduceNeg, Int.reduceEq, Int.reduceNe, Nat.reduceBEq, Nat.reduceMul, Nat.reducePow, Int.cast_ofNat_Int, *]))) | ((first | (refine OpW_call rfl rfl call28 rfl ((hp _).mono ?_)) | fail) <;> (rintro p_ S_ ⟨rfl, rfl⟩; (try simp only [go_sem, reduceIte, Nat.reduceEqDiff, Nat.reduceLT, Nat.reduceLeDiff, Nat.reduceAdd, reduceCtorEq, Int.reduceToNat, Int.reduceLE, Int.reduceLT, Int.reduceNeg, Int.reduceEq, Int.reduceNe, Nat.reduceBEq, Nat.reduceMul, Nat.reducePow, Int.cast_ofNat_Int, *]))) | fail)
      all_goals exact Rest.refl _ _
  rw [if_neg c2] at hcode
  have c2a : ¬ (24 : Int) < (s.length : Int) := by omega
  have c2b : ¬ (200 : Int) < (v.length : Int) := by omega
  clear c2
  by_cases c3 : hasZero v = true
  · rw [if_pos c3] at hcode
    subst hcode
    (simp only [go_sem, reduceIte, Nat.reduceEqDiff, Nat.reduceLT, Nat.reduceLeDiff, Nat.reduceAdd, reduceCtorEq, Int.reduceToNat, Int.reduceLE, Int.reduceLT, Int.reduceNeg, Int.reduceEq, Int.reduceNe, Nat.reduceBEq, Nat.reduceMul, Nat.reducePow, Int.cast_ofNat_Int, *])
    (repeat' first | ((first | refine split_d ?_ ?_ | refine split_gt rfl ?_ ?_ | refine split_gf rfl ?_ ?_ | refine split_b ?_ ?_ | refine split_gb rfl ?_ ?_) <;> intro _ <;> ((try simp only [go_sem, reduceIte, Nat.reduceEqDiff, Nat.reduceLT, Nat.reduceLeDiff, Nat.reduceAdd, reduceCtorEq, Int.reduceToNat, Int.reduceLE, Int.reduceLT, Int.reduceNeg, Int.reduceEq, Int.reduceNe, Nat.reduceBEq, Nat.reduceMul, Nat.reducePow, Int.cast_ofNat_Int, *]))) | ((first | (refine OpW_call rfl rfl call28 rfl ((hp _).mono ?_)) | (refine OpW_call rfl rfl call118 rfl ((hc _).mono ?_)) | fail) <;> (rintro p_ S_ ⟨rfl, rfl⟩; (try simp only [go_sem, reduceIte, Nat.reduceEqDiff, Nat.reduceLT, Nat.reduceLeDiff, Nat.reduceAdd, reduceCtorEq, Int.reduceToNat, Int.reduceLE, Int.reduceLT, Int.reduceNeg, Int.reduceEq, Int.reduceNe, Nat.reduceBEq, Nat.reduceMul, Nat.reducePow, Int.cast_ofNat_Int, *]))) | fail)
    all_goals exact Rest.refl _ _
  rw [if_neg c3] at hcode
  have c3' : hasZero v = false := by simpa using c3
  clear c3
  by_cases c45 : getA s l = none ∧ (40 : Int) ≤ (l.length : Int)
  · rw [if_pos c45] at hcode
    subst hcode
    obtain ⟨c4, c5⟩ := c45
    have hi : (getA s l).isSome = false := by rw [c4]; rfl
    clear c4
    (simp only [go_sem, reduceIte, Nat.reduceEqDiff, Nat.reduceLT, Nat.reduceLeDiff, Nat.reduceAdd, reduceCtorEq, Int.reduceToNat, Int.reduceLE, Int.reduceLT, Int.reduceNeg, Int.reduceEq, Int.reduceNe, Nat.reduceBEq, Nat.reduceMul, Nat.reducePow, Int.cast_ofNat_Int, *])
    (repeat' first | ((first | refine split_d ?_ ?_ | refine split_gt rfl ?_ ?_ | refine split_gf rfl ?_ ?_ | refine split_b ?_ ?_ | refine split_gb rfl ?_ ?_) <;> intro _ <;> ((try simp only [go_sem, reduceIte, Nat.reduceEqDiff, Nat.reduceLT, Nat.reduceLeDiff, Nat.reduceAdd, reduceCtorEq, Int.reduceToNat, Int.reduceLE, Int.reduceLT, Int.reduceNeg, Int.reduceEq, Int.reduceNe, Nat.reduceBEq, Nat.reduceMul, Nat.reducePow, Int.cast_ofNat_Int, *]))) | ((first | (refine OpW_call rfl rfl call28 rfl ((hp _).mono ?_)) | (refine OpW_call rfl rfl call118 rfl ((hc _).mono ?_)) | (refine OpW_call rfl rfl call77 rfl ((hg _ h').mono ?_)) | fail) <;> (rintro p_ S_ ⟨rfl, rfl⟩; (try simp only [go_sem, reduceIte, Nat.reduceEqDiff, Nat.reduceLT, Nat.reduceLeDiff, Nat.reduceAdd, reduceCtorEq, Int.reduceToNat, Int.reduceLE, Int.reduceLT, Int.reduceNeg, Int.reduceEq, Int.reduceNe, Nat.reduceBEq, Nat.reduceMul, Nat.reducePow, Int.cast_ofNat_Int, *]))) | fail)
    all_goals exact Rest.refl _ _
  rw [if_neg c45] at hcode
  subst hcode
  have hgo : (getA s l).isSome = true ∨ ((getA s l).isSome = false ∧ ¬ (40 : Int) ≤ (l.length : Int)) := by
    cases hx : getA s l with
    | none => exact Or.inr ⟨rfl, fun h => c45 ⟨hx, h⟩⟩
    | some x => exact Or.inl rfl
  clear c45
  simp only [if_true]
  rcases hgo with hi | ⟨hi, c5⟩
  · (simp only [go_sem, reduceIte, Nat.reduceEqDiff, Nat.reduceLT, Nat.reduceLeDiff, Nat.reduceAdd, reduceCtorEq, Int.reduceToNat, Int.reduceLE, Int.reduceLT, Int.reduceNeg, Int.reduceEq, Int.reduceNe, Nat.reduceBEq, Nat.reduceMul, Nat.reducePow, Int.cast_ofNat_Int, *])
    (repeat' first | ((first | refine split_d ?_ ?_ | refine split_gt rfl ?_ ?_ | refine split_gf rfl ?_ ?_ | refine split_b ?_ ?_ | refine split_gb rfl ?_ ?_) <;> intro _ <;> ((try simp only [go_sem, reduceIte, Nat.reduceEqDiff, Nat.reduceLT, Nat.reduceLeDiff, Nat.reduceAdd, reduceCtorEq, Int.reduceToNat, Int.reduceLE, Int.reduceLT, Int.reduceNeg, Int.reduceEq, Int.reduceNe, Nat.reduceBEq, Nat.reduceMul, Nat.reducePow, Int.cast_ofNat_Int, *]))) | ((first | (refine OpW_call rfl rfl call28 rfl ((hp _).mono ?_)) | (refine OpW_call rfl rfl call118 rfl ((hc _).mono ?_)) | (refine OpW_call rfl rfl call77 rfl ((hg _ h').mono ?_)) | fail) <;> (rintro p_ S_ ⟨rfl, rfl⟩; (try simp only [go_sem, reduceIte, Nat.reduceEqDiff, Nat.reduceLT, Nat.reduceLeDiff, Nat.reduceAdd, reduceCtorEq, Int.reduceToNat, Int.reduceLE, Int.reduceLT, Int.reduceNeg, Int.reduceEq, Int.reduceNe, Nat.reduceBEq, Nat.reduceMul, Nat.reducePow, Int.cast_ofNat_Int, *]))) | fail)
    refine OpW_call rfl rfl call75 rfl ((hu _ h').mono ?_)
    rintro q1 S1 ⟨rfl, hD', hR⟩
    generalize hDD : delA s l = D at *
    have hDl : D.length ≤ 1048576 := by rw [← hDD]; have := del_len s l; omega
    have hDn : ∀ y ∈ D, y.1 ≠ s := by rw [← hDD]; exact del_names
    have hD := hD'
    unfold RT at hD
    have hal2 := arows_len D
    clear hal h hu hg hp hc
    (simp only [go_sem, reduceIte, Nat.reduceEqDiff, Nat.reduceLT, Nat.reduceLeDiff, Nat.reduceAdd, reduceCtorEq, Int.reduceToNat, Int.reduceLE, Int.reduceLT, Int.reduceNeg, Int.reduceEq, Int.reduceNe, Nat.reduceBEq, Nat.reduceMul, Nat.reducePow, Int.cast_ofNat_Int, *])
    refine CodeW_loop (fun m σ' S' => ∃ k : Nat, k + m = D.length ∧ σ' 0 = .mp r 0 ∧ σ' 1 = .str s ∧ σ' 2 = .str v ∧ σ' 9 = .int .i64 k ∧ S' = S1 ∧ ∀ (j : Nat) y, j < k → D[j]? = some y → Op.bytesLess y.1 s = true) D.length ?_ ?_
    · (simp only [go_sem, reduceIte, Nat.reduceEqDiff, Nat.reduceLT, Nat.reduceLeDiff, Nat.reduceAdd, reduceCtorEq, Int.reduceToNat, Int.reduceLE, Int.reduceLT, Int.reduceNeg, Int.reduceEq, Int.reduceNe, Nat.reduceBEq, Nat.reduceMul, Nat.reducePow, Int.cast_ofNat_Int, *])
      exact ⟨0, by omega, rfl, fun j d hj => by omega⟩
    · rintro m σ' S' ⟨k, h1, h2, h3, h4, h5, rfl, h6⟩
      have hg := arows_get D k
      cases hcx : D[k]? with
      | none =>
        have hle : D.length ≤ k := List.getElem?_eq_none_iff.1 hcx
        have hk : k = D.length := by omega
        have hlt : ¬ ((k : Int) < (D.length : Int)) := by omega
        have hins := ins_at (v := v) (Nat.le_of_eq hk) h6 (fun y hy => by rw [hcx] at hy; cases hy) hDn
        have hk2 : k ≤ D.length := Nat.le_of_eq hk
        clear hg hcx h6 hk hle h1
        have ht := arows_take D k
        have hdr := arows_drop D k
        have hap := arows_app (D.take k) ((s, v) :: D.drop k)
        have htk : (arows D).take D.length = arows D := by rw [← arows_len]; exact List.take_length
        have hle3 := Nat.le_refl D.length
        have ho1 := arows_one (D.take k)
        have ho2 := arows_one (D.drop k)
        have hl1 : (D.take k).length = k := by rw [List.length_take]; omega
        have hl2 : (D.drop k).length = D.length - k := by rw [List.length_drop]
        (simp only [go_sem, reduceIte, Nat.reduceEqDiff, Nat.reduceLT, Nat.reduceLeDiff, Nat.reduceAdd, reduceCtorEq, Int.reduceToNat, Int.reduceLE, Int.reduceLT, Int.reduceNeg, Int.reduceEq, Int.reduceNe, Nat.reduceBEq, Nat.reduceMul, Nat.reducePow, Int.cast_ofNat_Int, *])
        refine OpW_of (OpA_buildSliceM (rows := [[.str s, .str v]]) rfl appAlias ?_ (by simp) rfl rfl fun b hb => ?_)
        · simp only [go_sem, reduceIte, Nat.reduceEqDiff, Nat.reduceLT, Nat.reduceLeDiff, Nat.reduceAdd, reduceCtorEq, Int.reduceToNat, Int.reduceLE, Int.reduceLT, Int.reduceNeg, Int.reduceEq, Int.reduceNe, Nat.reduceBEq, Nat.reduceMul, Nat.reducePow, Int.cast_ofNat_Int, *]
        have n1 : S'.le (S'.set b (.rows 2 [[.str s, .str v]] 1 132)) := Heap.le_set hb
        have hD1 := n1 _ _ hD
        (simp only [go_sem, reduceIte, Nat.reduceEqDiff, Nat.reduceLT, Nat.reduceLeDiff, Nat.reduceAdd, reduceCtorEq, Int.reduceToNat, Int.reduceLE, Int.reduceLT, Int.reduceNeg, Int.reduceEq, Int.reduceNe, Nat.reduceBEq, Nat.reduceMul, Nat.reducePow, Int.cast_ofNat_Int, *])
        refine OpW_append (rows := arows (D.drop k)) (olds := [[.str s, .str v]]) (ps := .vec b 1 1) rfl appAlias rfl rfl ho2 rfl (Or.inr ⟨b, 1, 1, rfl, by rw [set_apply, if_pos rfl], Nat.le_refl _, Nat.le_refl _⟩) (by simp only [List.length_cons, List.length_nil, arows_len, maxLen]; omega) (by simp only [List.length_cons, List.length_nil, arows_len]; omega) ?_
        rintro p1 S2 g1 g2 g3
        obtain ⟨j1, j2⟩ := grow_le n1 (fun c hc => by simp only [ownB, Option.some.injEq] at hc; subst hc; exact hb) g2 g3
        have hD2 := j1 _ _ hD
        have c1 := Keep.mk g1
        clear g1 g2 g3
        (simp only [go_sem, reduceIte, Nat.reduceEqDiff, Nat.reduceLT, Nat.reduceLeDiff, Nat.reduceAdd, reduceCtorEq, Int.reduceToNat, Int.reduceLE, Int.reduceLT, Int.reduceNeg, Int.reduceEq, Int.reduceNe, Nat.reduceBEq, Nat.reduceMul, Nat.reducePow, Int.cast_ofNat_Int, *])
        refine OpW_append (rows := arows (D.take k)) (olds := []) (ps := .sl0) rfl appAlias rfl rfl ho1 rfl (Or.inl ⟨rfl, rfl⟩) (by simp only [List.length_nil, arows_len, maxLen]; omega) (by simp only [List.length_nil, arows_len]; omega) ?_
        rintro p2 S3 g1 g2 g3
        obtain ⟨j3, j4⟩ := grow_le j1 (ps := .sl0) (fun c hc => by cases hc) g2 g3
        have hD3 := j3 _ _ hD
        have c2 := Keep.mk (grows_keep c1.of (by simpa [ownB] using g2) g3)
        have c3 := Keep.mk g1
        clear g1 g2 g3 c1 j1 j2 n1 hD1 hD2
        (simp only [go_sem, reduceIte, Nat.reduceEqDiff, Nat.reduceLT, Nat.reduceLeDiff, Nat.reduceAdd, reduceCtorEq, Int.reduceToNat, Int.reduceLE, Int.reduceLT, Int.reduceNeg, Int.reduceEq, Int.reduceNe, Nat.reduceBEq, Nat.reduceMul, Nat.reducePow, Int.cast_ofNat_Int, *])
        refine OpW_append (rows := [[.str s, .str v]] ++ arows (D.drop k)) (olds := [] ++ arows (D.take k)) (ps := p2) rfl appAlias rfl (grows_elems c2.of) (fun r hr => by
          rcases List.mem_append.1 hr with hr | hr
          · simp only [List.mem_singleton] at hr; subst hr
            intro c hc
            simp only [List.mem_cons, List.not_mem_nil, or_false] at hc
            rcases hc with rfl | rfl <;> rfl
          · exact ho2 r hr) rfl c3.of (by simp only [List.nil_append, List.length_append, List.length_cons, List.length_nil, arows_len, maxLen]; omega) (by simp only [List.nil_append, List.length_append, List.length_cons, List.length_nil, arows_len]; omega) ?_
        rintro p3 S4 g1 g2 g3
        obtain ⟨j5, j6⟩ := grow_le j3 j4 g2 g3
        have hD4 := j5 _ _ hD
        have g1' : Grows S4 2 132 (arows (setA s v l)) p3 := by
          unfold setA
          rw [hDD, hins, hap]
          simpa [arows, arow] using g1
        have c4 := Keep.mk g1'
        clear g1 g1' g2 g3 c2 c3 j3 j4 hD3
        have o2 := Keep.mk (grows_one c4.of).1
        (simp only [go_sem, reduceIte, Nat.reduceEqDiff, Nat.reduceLT, Nat.reduceLeDiff, Nat.reduceAdd, reduceCtorEq, Int.reduceToNat, Int.reduceLE, Int.reduceLT, Int.reduceNeg, Int.reduceEq, Int.reduceNe, Nat.reduceBEq, Nat.reduceMul, Nat.reducePow, Int.cast_ofNat_Int, *])
        refine OpW_putF (b := r) (p := p3) rfl rfl hD4 o2.of size70 rfl (c4.of) (own_cells c4.of hD4) ?_
        have hF := Keep.mk (rest_frz (r := r) (q := .slice 2 (arows (setA s v l))) (o := .cells [p3] 72) (ty := 72) j5 j6)
        have hR' : Keep (RT r (setA s v l) (frz (S4.set r (.cells [p3] 72)) r p3 (.slice 2 (arows (setA s v l))) 72)) := Keep.mk frz_at
        generalize frz (S4.set r (.cells [p3] 72)) r p3 (.slice 2 (arows (setA s v l))) 72 = F at *
        clear c4 o2 j5 j6 hD4
        (simp only [go_sem, reduceIte, Nat.reduceEqDiff, Nat.reduceLT, Nat.reduceLeDiff, Nat.reduceAdd, reduceCtorEq, Int.reduceToNat, Int.reduceLE, Int.reduceLT, Int.reduceNeg, Int.reduceEq, Int.reduceNe, Nat.reduceBEq, Nat.reduceMul, Nat.reducePow, Int.cast_ofNat_Int, *])
        exact ⟨hR'.of, hR.trans hF.of⟩
      | some x =>
        obtain ⟨a, b0⟩ := x
        have hll := (List.getElem?_eq_some_iff.1 hcx).1
        have hlt : (k : Int) < (D.length : Int) := by omega
        rw [hcx] at hg
        simp only [Option.map_some, arow] at hg
        cases hbl : Op.bytesLess a s with
        | true =>
          have hw := wrap1 (n := D.length) hll (by omega)
          have hn : ∀ (j : Nat) y, j < k + 1 → D[j]? = some y → Op.bytesLess y.1 s = true := by
            intro j d hj hd
            by_cases e : j = k
            · subst e; rw [hcx] at hd; cases hd; exact hbl
            · exact h6 j d (by omega) hd
          clear h6 hcx
          (simp only [go_sem, reduceIte, Nat.reduceEqDiff, Nat.reduceLT, Nat.reduceLeDiff, Nat.reduceAdd, reduceCtorEq, Int.reduceToNat, Int.reduceLE, Int.reduceLT, Int.reduceNeg, Int.reduceEq, Int.reduceNe, Nat.reduceBEq, Nat.reduceMul, Nat.reducePow, Int.cast_ofNat_Int, *])
          exact ⟨m - 1, by omega, k + 1, by omega, rfl, hn⟩
        | false =>
          have hins := ins_at (v := v) (Nat.le_of_lt hll) h6 (fun y hy => by rw [hcx] at hy; cases hy; exact hbl) hDn
          have hk2 : k ≤ D.length := Nat.le_of_lt hll
          clear hcx h6 hll h1
          have ht := arows_take D k
          have hdr := arows_drop D k
          have hap := arows_app (D.take k) ((s, v) :: D.drop k)
          have htk : (arows D).take D.length = arows D := by rw [← arows_len]; exact List.take_length
          have hle3 := Nat.le_refl D.length
          have ho1 := arows_one (D.take k)
          have ho2 := arows_one (D.drop k)
          have hl1 : (D.take k).length = k := by rw [List.length_take]; omega
          have hl2 : (D.drop k).length = D.length - k := by rw [List.length_drop]
          (simp only [go_sem, reduceIte, Nat.reduceEqDiff, Nat.reduceLT, Nat.reduceLeDiff, Nat.reduceAdd, reduceCtorEq, Int.reduceToNat, Int.reduceLE, Int.reduceLT, Int.reduceNeg, Int.reduceEq, Int.reduceNe, Nat.reduceBEq, Nat.reduceMul, Nat.reducePow, Int.cast_ofNat_Int, *])
          refine OpW_of (OpA_buildSliceM (rows := [[.str s, .str v]]) rfl appAlias ?_ (by simp) rfl rfl fun b hb => ?_)
          · simp only [go_sem, reduceIte, Nat.reduceEqDiff, Nat.reduceLT, Nat.reduceLeDiff, Nat.reduceAdd, reduceCtorEq, Int.reduceToNat, Int.reduceLE, Int.reduceLT, Int.reduceNeg, Int.reduceEq, Int.reduceNe, Nat.reduceBEq, Nat.reduceMul, Nat.reducePow, Int.cast_ofNat_Int, *]
          have n1 : S'.le (S'.set b (.rows 2 [[.str s, .str v]] 1 132)) := Heap.le_set hb
          have hD1 := n1 _ _ hD
          (simp only [go_sem, reduceIte, Nat.reduceEqDiff, Nat.reduceLT, Nat.reduceLeDiff, Nat.reduceAdd, reduceCtorEq, Int.reduceToNat, Int.reduceLE, Int.reduceLT, Int.reduceNeg, Int.reduceEq, Int.reduceNe, Nat.reduceBEq, Nat.reduceMul, Nat.reducePow, Int.cast_ofNat_Int, *])
          refine OpW_append (rows := arows (D.drop k)) (olds := [[.str s, .str v]]) (ps := .vec b 1 1) rfl appAlias rfl rfl ho2 rfl (Or.inr ⟨b, 1, 1, rfl, by rw [set_apply, if_pos rfl], Nat.le_refl _, Nat.le_refl _⟩) (by simp only [List.length_cons, List.length_nil, arows_len, maxLen]; omega) (by simp only [List.length_cons, List.length_nil, arows_len]; omega) ?_
          rintro p1 S2 g1 g2 g3
          obtain ⟨j1, j2⟩ := grow_le n1 (fun c hc => by simp only [ownB, Option.some.injEq] at hc; subst hc; exact hb) g2 g3
          have hD2 := j1 _ _ hD
          have c1 := Keep.mk g1
          clear g1 g2 g3
          (simp only [go_sem, reduceIte, Nat.reduceEqDiff, Nat.reduceLT, Nat.reduceLeDiff, Nat.reduceAdd, reduceCtorEq, Int.reduceToNat, Int.reduceLE, Int.reduceLT, Int.reduceNeg, Int.reduceEq, Int.reduceNe, Nat.reduceBEq, Nat.reduceMul, Nat.reducePow, Int.cast_ofNat_Int, *])
          refine OpW_append (rows := arows (D.take k)) (olds := []) (ps := .sl0) rfl appAlias rfl rfl ho1 rfl (Or.inl ⟨rfl, rfl⟩) (by simp only [List.length_nil, arows_len, maxLen]; omega) (by simp only [List.length_nil, arows_len]; omega) ?_
          rintro p2 S3 g1 g2 g3
          obtain ⟨j3, j4⟩ := grow_le j1 (ps := .sl0) (fun c hc => by cases hc) g2 g3
          have hD3 := j3 _ _ hD
          have c2 := Keep.mk (grows_keep c1.of (by simpa [ownB] using g2) g3)
          have c3 := Keep.mk g1
          clear g1 g2 g3 c1 j1 j2 n1 hD1 hD2
          (simp only [go_sem, reduceIte, Nat.reduceEqDiff, Nat.reduceLT, Nat.reduceLeDiff, Nat.reduceAdd, reduceCtorEq, Int.reduceToNat, Int.reduceLE, Int.reduceLT, Int.reduceNeg, Int.reduceEq, Int.reduceNe, Nat.reduceBEq, Nat.reduceMul, Nat.reducePow, Int.cast_ofNat_Int, *])
          refine OpW_append (rows := [[.str s, .str v]] ++ arows (D.drop k)) (olds := [] ++ arows (D.take k)) (ps := p2) rfl appAlias rfl (grows_elems c2.of) (fun r hr => by
            rcases List.mem_append.1 hr with hr | hr
            · simp only [List.mem_singleton] at hr; subst hr
              intro c hc
              simp only [List.mem_cons, List.not_mem_nil, or_false] at hc
              rcases hc with rfl | rfl <;> rfl
            · exact ho2 r hr) rfl c3.of (by simp only [List.nil_append, List.length_append, List.length_cons, List.length_nil, arows_len, maxLen]; omega) (by simp only [List.nil_append, List.length_append, List.length_cons, List.length_nil, arows_len]; omega) ?_
          rintro p3 S4 g1 g2 g3
          obtain ⟨j5, j6⟩ := grow_le j3 j4 g2 g3
          have hD4 := j5 _ _ hD
          have g1' : Grows S4 2 132 (arows (setA s v l)) p3 := by
            unfold setA
            rw [hDD, hins, hap]
            simpa [arows, arow] using g1
          have c4 := Keep.mk g1'
          clear g1 g1' g2 g3 c2 c3 j3 j4 hD3
          have o2 := Keep.mk (grows_one c4.of).1
          (simp only [go_sem, reduceIte, Nat.reduceEqDiff, Nat.reduceLT, Nat.reduceLeDiff, Nat.reduceAdd, reduceCtorEq, Int.reduceToNat, Int.reduceLE, Int.reduceLT, Int.reduceNeg, Int.reduceEq, Int.reduceNe, Nat.reduceBEq, Nat.reduceMul, Nat.reducePow, Int.cast_ofNat_Int, *])
          refine OpW_putF (b := r) (p := p3) rfl rfl hD4 o2.of size70 rfl (c4.of) (own_cells c4.of hD4) ?_
          have hF := Keep.mk (rest_frz (r := r) (q := .slice 2 (arows (setA s v l))) (o := .cells [p3] 72) (ty := 72) j5 j6)
          have hR' : Keep (RT r (setA s v l) (frz (S4.set r (.cells [p3] 72)) r p3 (.slice 2 (arows (setA s v l))) 72)) := Keep.mk frz_at
          generalize frz (S4.set r (.cells [p3] 72)) r p3 (.slice 2 (arows (setA s v l))) 72 = F at *
          clear c4 o2 j5 j6 hD4
          (simp only [go_sem, reduceIte, Nat.reduceEqDiff, Nat.reduceLT, Nat.reduceLeDiff, Nat.reduceAdd, reduceCtorEq, Int.reduceToNat, Int.reduceLE, Int.reduceLT, Int.reduceNeg, Int.reduceEq, Int.reduceNe, Nat.reduceBEq, Nat.reduceMul, Nat.reducePow, Int.cast_ofNat_Int, *])
          exact ⟨hR'.of, hR.trans hF.of⟩
  · (simp only [go_sem, reduceIte, Nat.reduceEqDiff, Nat.reduceLT, Nat.reduceLeDiff, Nat.reduceAdd, reduceCtorEq, Int.reduceToNat, Int.reduceLE, Int.reduceLT, Int.reduceNeg, Int.reduceEq, Int.reduceNe, Nat.reduceBEq, Nat.reduceMul, Nat.reducePow, Int.cast_ofNat_Int, *])
    (repeat' first | ((first | refine split_d ?_ ?_ | refine split_gt rfl ?_ ?_ | refine split_gf rfl ?_ ?_ | refine split_b ?_ ?_ | refine split_gb rfl ?_ ?_) <;> intro _ <;> ((try simp only [go_sem, reduceIte, Nat.reduceEqDiff, Nat.reduceLT, Nat.reduceLeDiff, Nat.reduceAdd, reduceCtorEq, Int.reduceToNat, Int.reduceLE, Int.reduceLT, Int.reduceNeg, Int.reduceEq, Int.reduceNe, Nat.reduceBEq, Nat.reduceMul, Nat.reducePow, Int.cast_ofNat_Int, *]))) | ((first | (refine OpW_call rfl rfl call28 rfl ((hp _).mono ?_)) | (refine OpW_call rfl rfl call118 rfl ((hc _).mono ?_)) | (refine OpW_call rfl rfl call77 rfl ((hg _ h').mono ?_)) | fail) <;> (rintro p_ S_ ⟨rfl, rfl⟩; (try simp only [go_sem, reduceIte, Nat.reduceEqDiff, Nat.reduceLT, Nat.reduceLeDiff, Nat.reduceAdd, reduceCtorEq, Int.reduceToNat, Int.reduceLE, Int.reduceLT, Int.reduceNeg, Int.reduceEq, Int.reduceNe, Nat.reduceBEq, Nat.reduceMul, Nat.reducePow, Int.cast_ofNat_Int, *]))) | fail)
    refine OpW_call rfl rfl call75 rfl ((hu _ h').mono ?_)
    rintro q1 S1 ⟨rfl, hD', hR⟩
    generalize hDD : delA s l = D at *
    have hDl : D.length ≤ 1048576 := by rw [← hDD]; have := del_len s l; omega
    have hDn : ∀ y ∈ D, y.1 ≠ s := by rw [← hDD]; exact del_names
    have hD := hD'
    unfold RT at hD
    have hal2 := arows_len D
    clear hal h hu hg hp hc
    (simp only [go_sem, reduceIte, Nat.reduceEqDiff, Nat.reduceLT, Nat.reduceLeDiff, Nat.reduceAdd, reduceCtorEq, Int.reduceToNat, Int.reduceLE, Int.reduceLT, Int.reduceNeg, Int.reduceEq, Int.reduceNe, Nat.reduceBEq, Nat.reduceMul, Nat.reducePow, Int.cast_ofNat_Int, *])
    refine CodeW_loop (fun m σ' S' => ∃ k : Nat, k + m = D.length ∧ σ' 0 = .mp r 0 ∧ σ' 1 = .str s ∧ σ' 2 = .str v ∧ σ' 9 = .int .i64 k ∧ S' = S1 ∧ ∀ (j : Nat) y, j < k → D[j]? = some y → Op.bytesLess y.1 s = true) D.length ?_ ?_
    · (simp only [go_sem, reduceIte, Nat.reduceEqDiff, Nat.reduceLT, Nat.reduceLeDiff, Nat.reduceAdd, reduceCtorEq, Int.reduceToNat, Int.reduceLE, Int.reduceLT, Int.reduceNeg, Int.reduceEq, Int.reduceNe, Nat.reduceBEq, Nat.reduceMul, Nat.reducePow, Int.cast_ofNat_Int, *])
      exact ⟨0, by omega, rfl, fun j d hj => by omega⟩
    · rintro m σ' S' ⟨k, h1, h2, h3, h4, h5, rfl, h6⟩
      have hg := arows_get D k
      cases hcx : D[k]? with
      | none =>
        have hle : D.length ≤ k := List.getElem?_eq_none_iff.1 hcx
        have hk : k = D.length := by omega
        have hlt : ¬ ((k : Int) < (D.length : Int)) := by omega
        have hins := ins_at (v := v) (Nat.le_of_eq hk) h6 (fun y hy => by rw [hcx] at hy; cases hy) hDn
        have hk2 : k ≤ D.length := Nat.le_of_eq hk
        clear hg hcx h6 hk hle h1
        have ht := arows_take D k
        have hdr := arows_drop D k
        have hap := arows_app (D.take k) ((s, v) :: D.drop k)
        have htk : (arows D).take D.length = arows D := by rw [← arows_len]; exact List.take_length
        have hle3 := Nat.le_refl D.length
        have ho1 := arows_one (D.take k)
        have ho2 := arows_one (D.drop k)
        have hl1 : (D.take k).length = k := by rw [List.length_take]; omega
        have hl2 : (D.drop k).length = D.length - k := by rw [List.length_drop]
        (simp only [go_sem, reduceIte, Nat.reduceEqDiff, Nat.reduceLT, Nat.reduceLeDiff, Nat.reduceAdd, reduceCtorEq, Int.reduceToNat, Int.reduceLE, Int.reduceLT, Int.reduceNeg, Int.reduceEq, Int.reduceNe, Nat.reduceBEq, Nat.reduceMul, Nat.reducePow, Int.cast_ofNat_Int, *])
        refine OpW_of (OpA_buildSliceM (rows := [[.str s, .str v]]) rfl appAlias ?_ (by simp) rfl rfl fun b hb => ?_)
        · simp only [go_sem, reduceIte, Nat.reduceEqDiff, Nat.reduceLT, Nat.reduceLeDiff, Nat.reduceAdd, reduceCtorEq, Int.reduceToNat, Int.reduceLE, Int.reduceLT, Int.reduceNeg, Int.reduceEq, Int.reduceNe, Nat.reduceBEq, Nat.reduceMul, Nat.reducePow, Int.cast_ofNat_Int, *]
        have n1 : S'.le (S'.set b (.rows 2 [[.str s, .str v]] 1 132)) := Heap.le_set hb
        have hD1 := n1 _ _ hD
        (simp only [go_sem, reduceIte, Nat.reduceEqDiff, Nat.reduceLT, Nat.reduceLeDiff, Nat.reduceAdd, reduceCtorEq, Int.reduceToNat, Int.reduceLE, Int.reduceLT, Int.reduceNeg, Int.reduceEq, Int.reduceNe, Nat.reduceBEq, Nat.reduceMul, Nat.reducePow, Int.cast_ofNat_Int, *])
        refine OpW_append (rows := arows (D.drop k)) (olds := [[.str s, .str v]]) (ps := .vec b 1 1) rfl appAlias rfl rfl ho2 rfl (Or.inr ⟨b, 1, 1, rfl, by rw [set_apply, if_pos rfl], Nat.le_refl _, Nat.le_refl _⟩) (by simp only [List.length_cons, List.length_nil, arows_len, maxLen]; omega) (by simp only [List.length_cons, List.length_nil, arows_len]; omega) ?_
        rintro p1 S2 g1 g2 g3
        obtain ⟨j1, j2⟩ := grow_le n1 (fun c hc => by simp only [ownB, Option.some.injEq] at hc; subst hc; exact hb) g2 g3
        have hD2 := j1 _ _ hD
        have c1 := Keep.mk g1
        clear g1 g2 g3
        (simp only [go_sem, reduceIte, Nat.reduceEqDiff, Nat.reduceLT, Nat.reduceLeDiff, Nat.reduceAdd, reduceCtorEq, Int.reduceToNat, Int.reduceLE, Int.reduceLT, Int.reduceNeg, Int.reduceEq, Int.reduceNe, Nat.reduceBEq, Nat.reduceMul, Nat.reducePow, Int.cast_ofNat_Int, *])
        refine OpW_append (rows := arows (D.take k)) (olds := []) (ps := .sl0) rfl appAlias rfl rfl ho1 rfl (Or.inl ⟨rfl, rfl⟩) (by simp only [List.length_nil, arows_len, maxLen]; omega) (by simp only [List.length_nil, arows_len]; omega) ?_
        rintro p2 S3 g1 g2 g3
        obtain ⟨j3, j4⟩ := grow_le j1 (ps := .sl0) (fun c hc => by cases hc) g2 g3
        have hD3 := j3 _ _ hD
        have c2 := Keep.mk (grows_keep c1.of (by simpa [ownB] using g2) g3)
        have c3 := Keep.mk g1
        clear g1 g2 g3 c1 j1 j2 n1 hD1 hD2
        (simp only [go_sem, reduceIte, Nat.reduceEqDiff, Nat.reduceLT, Nat.reduceLeDiff, Nat.reduceAdd, reduceCtorEq, Int.reduceToNat, Int.reduceLE, Int.reduceLT, Int.reduceNeg, Int.reduceEq, Int.reduceNe, Nat.reduceBEq, Nat.reduceMul, Nat.reducePow, Int.cast_ofNat_Int, *])
        refine OpW_append (rows := [[.str s, .str v]] ++ arows (D.drop k)) (olds := [] ++ arows (D.take k)) (ps := p2) rfl appAlias rfl (grows_elems c2.of) (fun r hr => by
          rcases List.mem_append.1 hr with hr | hr
          · simp only [List.mem_singleton] at hr; subst hr
            intro c hc
            simp only [List.mem_cons, List.not_mem_nil, or_false] at hc
            rcases hc with rfl | rfl <;> rfl
          · exact ho2 r hr) rfl c3.of (by simp only [List.nil_append, List.length_append, List.length_cons, List.length_nil, arows_len, maxLen]; omega) (by simp only [List.nil_append, List.length_append, List.length_cons, List.length_nil, arows_len]; omega) ?_
        rintro p3 S4 g1 g2 g3
        obtain ⟨j5, j6⟩ := grow_le j3 j4 g2 g3
        have hD4 := j5 _ _ hD
        have g1' : Grows S4 2 132 (arows (setA s v l)) p3 := by
          unfold setA
          rw [hDD, hins, hap]
          simpa [arows, arow] using g1
        have c4 := Keep.mk g1'
        clear g1 g1' g2 g3 c2 c3 j3 j4 hD3
        have o2 := Keep.mk (grows_one c4.of).1
        (simp only [go_sem, reduceIte, Nat.reduceEqDiff, Nat.reduceLT, Nat.reduceLeDiff, Nat.reduceAdd, reduceCtorEq, Int.reduceToNat, Int.reduceLE, Int.reduceLT, Int.reduceNeg, Int.reduceEq, Int.reduceNe, Nat.reduceBEq, Nat.reduceMul, Nat.reducePow, Int.cast_ofNat_Int, *])
        refine OpW_putF (b := r) (p := p3) rfl rfl hD4 o2.of size70 rfl (c4.of) (own_cells c4.of hD4) ?_
        have hF := Keep.mk (rest_frz (r := r) (q := .slice 2 (arows (setA s v l))) (o := .cells [p3] 72) (ty := 72) j5 j6)
        have hR' : Keep (RT r (setA s v l) (frz (S4.set r (.cells [p3] 72)) r p3 (.slice 2 (arows (setA s v l))) 72)) := Keep.mk frz_at
        generalize frz (S4.set r (.cells [p3] 72)) r p3 (.slice 2 (arows (setA s v l))) 72 = F at *
        clear c4 o2 j5 j6 hD4
        (simp only [go_sem, reduceIte, Nat.reduceEqDiff, Nat.reduceLT, Nat.reduceLeDiff, Nat.reduceAdd, reduceCtorEq, Int.reduceToNat, Int.reduceLE, Int.reduceLT, Int.reduceNeg, Int.reduceEq, Int.reduceNe, Nat.reduceBEq, Nat.reduceMul, Nat.reducePow, Int.cast_ofNat_Int, *])
        exact ⟨hR'.of, hR.trans hF.of⟩
      | some x =>
        obtain ⟨a, b0⟩ := x
        have hll := (List.getElem?_eq_some_iff.1 hcx).1
        have hlt : (k : Int) < (D.length : Int) := by omega
        rw [hcx] at hg
        simp only [Option.map_some, arow] at hg
        cases hbl : Op.bytesLess a s with
        | true =>
          have hw := wrap1 (n := D.length) hll (by omega)
          have hn : ∀ (j : Nat) y, j < k + 1 → D[j]? = some y → Op.bytesLess y.1 s = true := by
            intro j d hj hd
            by_cases e : j = k
            · subst e; rw [hcx] at hd; cases hd; exact hbl
            · exact h6 j d (by omega) hd
          clear h6 hcx
          (simp only [go_sem, reduceIte, Nat.reduceEqDiff, Nat.reduceLT, Nat.reduceLeDiff, Nat.reduceAdd, reduceCtorEq, Int.reduceToNat, Int.reduceLE, Int.reduceLT, Int.reduceNeg, Int.reduceEq, Int.reduceNe, Nat.reduceBEq, Nat.reduceMul, Nat.reducePow, Int.cast_ofNat_Int, *])
          exact ⟨m - 1, by omega, k + 1, by omega, rfl, hn⟩
        | false =>
          have hins := ins_at (v := v) (Nat.le_of_lt hll) h6 (fun y hy => by rw [hcx] at hy; cases hy; exact hbl) hDn
          have hk2 : k ≤ D.length := Nat.le_of_lt hll
          clear hcx h6 hll h1
          have ht := arows_take D k
          have hdr := arows_drop D k
          have hap := arows_app (D.take k) ((s, v) :: D.drop k)
          have htk : (arows D).take D.length = arows D := by rw [← arows_len]; exact List.take_length
          have hle3 := Nat.le_refl D.length
          have ho1 := arows_one (D.take k)
          have ho2 := arows_one (D.drop k)
          have hl1 : (D.take k).length = k := by rw [List.length_take]; omega
          have hl2 : (D.drop k).length = D.length - k := by rw [List.length_drop]
          (simp only [go_sem, reduceIte, Nat.reduceEqDiff, Nat.reduceLT, Nat.reduceLeDiff, Nat.reduceAdd, reduceCtorEq, Int.reduceToNat, Int.reduceLE, Int.reduceLT, Int.reduceNeg, Int.reduceEq, Int.reduceNe, Nat.reduceBEq, Nat.reduceMul, Nat.reducePow, Int.cast_ofNat_Int, *])
          refine OpW_of (OpA_buildSliceM (rows := [[.str s, .str v]]) rfl appAlias ?_ (by simp) rfl rfl fun b hb => ?_)
          · simp only [go_sem, reduceIte, Nat.reduceEqDiff, Nat.reduceLT, Nat.reduceLeDiff, Nat.reduceAdd, reduceCtorEq, Int.reduceToNat, Int.reduceLE, Int.reduceLT, Int.reduceNeg, Int.reduceEq, Int.reduceNe, Nat.reduceBEq, Nat.reduceMul, Nat.reducePow, Int.cast_ofNat_Int, *]
          have n1 : S'.le (S'.set b (.rows 2 [[.str s, .str v]] 1 132)) := Heap.le_set hb
          have hD1 := n1 _ _ hD
          (simp only [go_sem, reduceIte, Nat.reduceEqDiff, Nat.reduceLT, Nat.reduceLeDiff, Nat.reduceAdd, reduceCtorEq, Int.reduceToNat, Int.reduceLE, Int.reduceLT, Int.reduceNeg, Int.reduceEq, Int.reduceNe, Nat.reduceBEq, Nat.reduceMul, Nat.reducePow, Int.cast_ofNat_Int, *])
          refine OpW_append (rows := arows (D.drop k)) (olds := [[.str s, .str v]]) (ps := .vec b 1 1) rfl appAlias rfl rfl ho2 rfl (Or.inr ⟨b, 1, 1, rfl, by rw [set_apply, if_pos rfl], Nat.le_refl _, Nat.le_refl _⟩) (by simp only [List.length_cons, List.length_nil, arows_len, maxLen]; omega) (by simp only [List.length_cons, List.length_nil, arows_len]; omega) ?_
          rintro p1 S2 g1 g2 g3
          obtain ⟨j1, j2⟩ := grow_le n1 (fun c hc => by simp only [ownB, Option.some.injEq] at hc; subst hc; exact hb) g2 g3
          have hD2 := j1 _ _ hD
          have c1 := Keep.mk g1
          clear g1 g2 g3
          (simp only [go_sem, reduceIte, Nat.reduceEqDiff, Nat.reduceLT, Nat.reduceLeDiff, Nat.reduceAdd, reduceCtorEq, Int.reduceToNat, Int.reduceLE, Int.reduceLT, Int.reduceNeg, Int.reduceEq, Int.reduceNe, Nat.reduceBEq, Nat.reduceMul, Nat.reducePow, Int.cast_ofNat_Int, *])
          refine OpW_append (rows := arows (D.take k)) (olds := []) (ps := .sl0) rfl appAlias rfl rfl ho1 rfl (Or.inl ⟨rfl, rfl⟩) (by simp only [List.length_nil, arows_len, maxLen]; omega) (by simp only [List.length_nil, arows_len]; omega) ?_
          rintro p2 S3 g1 g2 g3
          obtain ⟨j3, j4⟩ := grow_le j1 (ps := .sl0) (fun c hc => by cases hc) g2 g3
          have hD3 := j3 _ _ hD
          have c2 := Keep.mk (grows_keep c1.of (by simpa [ownB] using g2) g3)
          have c3 := Keep.mk g1
          clear g1 g2 g3 c1 j1 j2 n1 hD1 hD2
          (simp only [go_sem, reduceIte, Nat.reduceEqDiff, Nat.reduceLT, Nat.reduceLeDiff, Nat.reduceAdd, reduceCtorEq, Int.reduceToNat, Int.reduceLE, Int.reduceLT, Int.reduceNeg, Int.reduceEq, Int.reduceNe, Nat.reduceBEq, Nat.reduceMul, Nat.reducePow, Int.cast_ofNat_Int, *])
          refine OpW_append (rows := [[.str s, .str v]] ++ arows (D.drop k)) (olds := [] ++ arows (D.take k)) (ps := p2) rfl appAlias rfl (grows_elems c2.of) (fun r hr => by
            rcases List.mem_append.1 hr with hr | hr
            · simp only [List.mem_singleton] at hr; subst hr
              intro c hc
              simp only [List.mem_cons, List.not_mem_nil, or_false] at hc
              rcases hc with rfl | rfl <;> rfl
            · exact ho2 r hr) rfl c3.of (by simp only [List.nil_append, List.length_append, List.length_cons, List.length_nil, arows_len, maxLen]; omega) (by simp only [List.nil_append, List.length_append, List.length_cons, List.length_nil, arows_len]; omega) ?_
          rintro p3 S4 g1 g2 g3
          obtain ⟨j5, j6⟩ := grow_le j3 j4 g2 g3
          have hD4 := j5 _ _ hD
          have g1' : Grows S4 2 132 (arows (setA s v l)) p3 := by
            unfold setA
            rw [hDD, hins, hap]
            simpa [arows, arow] using g1
          have c4 := Keep.mk g1'
          clear g1 g1' g2 g3 c2 c3 j3 j4 hD3
          have o2 := Keep.mk (grows_one c4.of).1
          (simp only [go_sem, reduceIte, Nat.reduceEqDiff, Nat.reduceLT, Nat.reduceLeDiff, Nat.reduceAdd, reduceCtorEq, Int.reduceToNat, Int.reduceLE, Int.reduceLT, Int.reduceNeg, Int.reduceEq, Int.reduceNe, Nat.reduceBEq, Nat.reduceMul, Nat.reducePow, Int.cast_ofNat_Int, *])
          refine OpW_putF (b := r) (p := p3) rfl rfl hD4 o2.of size70 rfl (c4.of) (own_cells c4.of hD4) ?_
          have hF := Keep.mk (rest_frz (r := r) (q := .slice 2 (arows (setA s v l))) (o := .cells [p3] 72) (ty := 72) j5 j6)
          have hR' : Keep (RT r (setA s v l) (frz (S4.set r (.cells [p3] 72)) r p3 (.slice 2 (arows (setA s v l))) 72)) := Keep.mk frz_at
          generalize frz (S4.set r (.cells [p3] 72)) r p3 (.slice 2 (arows (setA s v l))) 72 = F at *
          clear c4 o2 j5 j6 hD4
          (simp only [go_sem, reduceIte, Nat.reduceEqDiff, Nat.reduceLT, Nat.reduceLeDiff, Nat.reduceAdd, reduceCtorEq, Int.reduceToNat, Int.reduceLE, Int.reduceLT, Int.reduceNeg, Int.reduceEq, Int.reduceNe, Nat.reduceBEq, Nat.reduceMul, Nat.reducePow, Int.cast_ofNat_Int, *])
          exact ⟨hR'.of, hR.trans hF.of⟩
end Go.Proofs.Ytcbonfgkfiapaaa.Pv
