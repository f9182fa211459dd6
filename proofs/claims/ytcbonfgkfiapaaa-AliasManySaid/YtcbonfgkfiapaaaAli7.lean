/- What the laws of package alias compute: AliasMany. -/
import Derived.Test.YtcbonfgkfiapaaaAli5
set_option linter.unusedVariables false
set_option linter.unusedSimpArgs false
set_option maxRecDepth 100000
set_option maxHeartbeats 40000000
namespace Go.Proofs.Ytcbonfgkfiapaaa.Pv
open Go Go.RowKit

/-- The names that are used. -/
def nm36 (i : Nat) : Txt := [97, UInt8.ofNat (97 + i / 26), UInt8.ofNat (97 + i % 26)]
theorem nm36_inj : ∀ i j : Nat, i < 60 → j < 60 → nm36 i = nm36 j → i = j := by
  have key : ∀ i j : Fin 60, nm36 i.val = nm36 j.val → i = j := by decide +kernel
  intro i j hi hj h
  exact congrArg Fin.val (key ⟨i, hi⟩ ⟨j, hj⟩ h)
theorem nm36_plain : ∀ i : Nat, i < 60 → isPlain (nm36 i) = true := by
  have key : ∀ i : Fin 60, isPlain (nm36 i.val) = true := by decide +kernel
  exact fun i hi => key ⟨i, hi⟩
theorem set_names {s v : Txt} {l : TMap} : ∀ x ∈ setA s v l, x.1 = s ∨ x ∈ l := by
  have ins : ∀ {m : TMap}, ∀ x ∈ insA s v m, x.1 = s ∨ x ∈ m := by
    intro m
    induction m with
    | nil => intro x hx; simp [insA] at hx; subst hx; exact Or.inl rfl
    | cons y m ih =>
      intro x hx
      unfold insA at hx
      split at hx
      · rcases List.mem_cons.1 hx with rfl | hx
        · exact Or.inl rfl
        · exact Or.inr hx
      · rcases List.mem_cons.1 hx with rfl | hx
        · exact Or.inr (by simp)
        · rcases ih x hx with h | h
          · exact Or.inl h
          · exact Or.inr (by simp [h])
  intro x hx
  rcases ins x hx with h | h
  · exact Or.inl h
  · exact Or.inr (List.mem_filter.1 h).1
theorem set_has {s v : Txt} {l : TMap} {t : Txt} (h : t = s ∨ getA t l ≠ none) : getA t (setA s v l) ≠ none := by
  have mem : ∀ {m : TMap}, getA t m ≠ none ↔ ∃ x ∈ m, x.1 = t := by
    intro m
    unfold getA
    constructor
    · intro h
      cases hf : m.find? (fun x => x.1 == t) with
      | none => rw [hf] at h; exact absurd rfl h
      | some x => exact ⟨x, List.mem_of_find?_eq_some hf, by simpa using List.find?_some hf⟩
    · rintro ⟨x, hx, hxt⟩ h
      have h2 : m.find? (fun x => x.1 == t) = none := by simpa using h
      have := List.find?_eq_none.1 h2 x hx
      simp [hxt] at this
  rw [mem] at h ⊢
  have ins : ∀ {m : TMap} {x : Txt × Txt}, x ∈ m → x ∈ insA s v m := by
    intro m x hx
    induction m with
    | nil => cases hx
    | cons y m ih =>
      unfold insA
      split
      · exact List.mem_cons_of_mem _ hx
      · rcases List.mem_cons.1 hx with rfl | hx
        · simp
        · exact List.mem_cons_of_mem _ (ih hx)
  have self : ∀ {m : TMap}, (s, v) ∈ insA s v m := by
    intro m
    induction m with
    | nil => simp [insA]
    | cons y m ih =>
      unfold insA
      split
      · simp
      · exact List.mem_cons_of_mem _ ih
  by_cases e : t = s
  · exact ⟨(s, v), self, e.symm⟩
  · rcases h with h | ⟨x, hx, hxt⟩
    · exact absurd h e
    · refine ⟨x, ins (List.mem_filter.2 ⟨hx, ?_⟩), hxt⟩
      simp [hxt, e]
/-- What is there behind so many Sets. -/
structure Filled (i : Nat) (T : TMap) : Prop where
  len : T.length = min i 40
  names : ∀ x ∈ T, ∃ j, j < i ∧ x.1 = nm36 j
  first : 0 < i → getA (nm36 0) T ≠ none
theorem Filled.fresh {i : Nat} {T : TMap} (h : Filled i T) (hi : i < 60) : getA (nm36 i) T = none := by
  refine get_none fun j x hj hx e => ?_
  obtain ⟨k, h1, h2⟩ := h.names x (List.mem_of_getElem? hx)
  have := nm36_inj k i (by omega) hi (h2.symm.trans e)
  omega
theorem nm36_len (i : Nat) : (nm36 i).length = 3 := rfl
theorem Filled.code {i : Nat} {T : TMap} {v : Txt} (h : Filled i T) (hi : i < 60) (hv : ¬ (200 : Int) < (v.length : Int)) (hz : hasZero v = false) : setCode (nm36 i) v T = if i < 40 then 0 else 14 := by
  unfold setCode
  rw [if_neg (by rw [nm36_plain i hi]; simp), if_neg (by rw [nm36_len]; omega), if_neg (by rw [hz]; simp)]
  have hf := h.fresh hi
  have hl := h.len
  by_cases c : i < 40
  · rw [if_pos c, if_neg (fun h => by omega)]
  · rw [if_neg c, if_pos ⟨hf, by omega⟩]
theorem Filled.step {i : Nat} {T : TMap} {v : Txt} (h : Filled i T) (hi : i < 60) (hv : ¬ (200 : Int) < (v.length : Int)) (hz : hasZero v = false) : Filled (i + 1) (setT (nm36 i) v T) := by
  have hf := h.fresh hi
  have hl := h.len
  unfold setT
  rw [h.code hi hv hz]
  by_cases c : i < 40
  · rw [if_pos c, if_pos rfl]
    refine ⟨?_, fun x hx => ?_, fun _ => ?_⟩
    · unfold setA
      rw [insA_len, del_none hf]
      omega
    · rcases set_names x hx with h1 | h1
      · exact ⟨i, by omega, h1⟩
      · obtain ⟨j, h2, h3⟩ := h.names x h1
        exact ⟨j, by omega, h3⟩
    · refine set_has ?_
      by_cases e : i = 0
      · subst e; exact Or.inl rfl
      · exact Or.inr (h.first (by omega))
  · rw [if_neg c, if_neg (by decide)]
    refine ⟨by omega, fun x hx => ?_, fun _ => h.first (by omega)⟩
    obtain ⟨j, h2, h3⟩ := h.names x hx
    exact ⟨j, by omega, h3⟩
theorem Filled.last {k : Nat} {T : TMap} {v : Txt} (h : Filled k T) (hk : 0 < k) (hv : ¬ (200 : Int) < (v.length : Int)) (hz : hasZero v = false) : setCode [97, 97, 97] v T = 0 := by
  have e : nm36 0 = [97, 97, 97] := by decide
  have hf := h.first hk
  rw [e] at hf
  unfold setCode
  rw [if_neg (by decide +kernel), if_neg (by simp; omega), if_neg (by rw [hz]; simp), if_neg (fun h => hf h.1)]
theorem quo26 {i : Nat} (hi : i < 60) : IntKind.i64.wrap ((i : Int).tdiv 26) = ((i / 26 : Nat) : Int) := by
  rw [Int.tdiv_eq_ediv_of_nonneg (by omega), wrap_in (by omega)]; omega
theorem rem26 (i : Nat) : (i : Int).tmod 26 = ((i % 26 : Nat) : Int) := by
  rw [Int.tmod_eq_emod_of_nonneg (by omega)]; omega
theorem aliasMany_calls (n : UInt8) (v : Txt) (S : Heap) : CallsQ Try.prog 15 [.int .u8 (n.toNat : Int), .str v] S (.bool true) := by
  have haw := awake36_calls
  have hml : (4611686018427387904 : Nat) < maxLen := by decide
  refine CallsQ_less ?_
  refine CallsA_W (fun _ => false) Try.func15 rfl (Nat.le_of_ble_eq_true rfl) ?_
  simp only [Try.f15]
  by_cases c1 : (200 : Int) < (v.length : Int)
  · (simp only [go_sem, reduceIte, Nat.reduceEqDiff, Nat.reduceLT, Nat.reduceLeDiff, Nat.reduceAdd, reduceCtorEq, Int.reduceToNat, Int.reduceLE, Int.reduceLT, Int.reduceNeg, Int.reduceEq, Int.reduceNe, Nat.reduceBEq, Nat.reduceMul, Nat.reducePow, Int.cast_ofNat_Int, *])
    (repeat' first | ((first | refine split_d ?_ ?_ | refine split_gt rfl ?_ ?_ | refine split_gf rfl ?_ ?_ | refine split_b ?_ ?_ | refine split_gb rfl ?_ ?_) <;> intro _ <;> ((try simp only [go_sem, reduceIte, Nat.reduceEqDiff, Nat.reduceLT, Nat.reduceLeDiff, Nat.reduceAdd, reduceCtorEq, Int.reduceToNat, Int.reduceLE, Int.reduceLT, Int.reduceNeg, Int.reduceEq, Int.reduceNe, Nat.reduceBEq, Nat.reduceMul, Nat.reducePow, Int.cast_ofNat_Int, *]))) | ((first | (refine OpW_call rfl rfl call71 rfl ((haw _).mono ?_)) | fail) <;> (rintro p_ S_ ⟨rfl, rfl⟩; (try simp only [go_sem, reduceIte, Nat.reduceEqDiff, Nat.reduceLT, Nat.reduceLeDiff, Nat.reduceAdd, reduceCtorEq, Int.reduceToNat, Int.reduceLE, Int.reduceLT, Int.reduceNeg, Int.reduceEq, Int.reduceNe, Nat.reduceBEq, Nat.reduceMul, Nat.reducePow, Int.cast_ofNat_Int, *]))) | fail)
    exact Heap.le_refl _
  (simp only [go_sem, reduceIte, Nat.reduceEqDiff, Nat.reduceLT, Nat.reduceLeDiff, Nat.reduceAdd, reduceCtorEq, Int.reduceToNat, Int.reduceLE, Int.reduceLT, Int.reduceNeg, Int.reduceEq, Int.reduceNe, Nat.reduceBEq, Nat.reduceMul, Nat.reducePow, Int.cast_ofNat_Int, *])
  refine CodeW_loop (fun m σ' S' => ∃ i : Nat, i + m = v.length ∧ σ' 0 = .int .u8 (n.toNat : Int) ∧ σ' 1 = .str v ∧ σ' 5 = .int .i64 i ∧ S' = S ∧ ∀ (j : Nat) d, j < i → v[j]? = some d → d ≠ 0) v.length ?_ ?_
  · (simp only [go_sem, reduceIte, Nat.reduceEqDiff, Nat.reduceLT, Nat.reduceLeDiff, Nat.reduceAdd, reduceCtorEq, Int.reduceToNat, Int.reduceLE, Int.reduceLT, Int.reduceNeg, Int.reduceEq, Int.reduceNe, Nat.reduceBEq, Nat.reduceMul, Nat.reducePow, Int.cast_ofNat_Int, *])
    exact ⟨0, by omega, rfl, fun j d hj => by omega⟩
  · rintro m σ' S' ⟨i, h1, h2, h3, h4, rfl, h6⟩
    cases hc : v[i]? with
    | some c =>
      have hl := (List.getElem?_eq_some_iff.1 hc).1
      have hlt : (i : Int) < (v.length : Int) := by omega
      by_cases h0 : (c.toNat : Int) = 0
      · (simp only [go_sem, reduceIte, Nat.reduceEqDiff, Nat.reduceLT, Nat.reduceLeDiff, Nat.reduceAdd, reduceCtorEq, Int.reduceToNat, Int.reduceLE, Int.reduceLT, Int.reduceNeg, Int.reduceEq, Int.reduceNe, Nat.reduceBEq, Nat.reduceMul, Nat.reducePow, Int.cast_ofNat_Int, *])
        (repeat' first | ((first | refine split_d ?_ ?_ | refine split_gt rfl ?_ ?_ | refine split_gf rfl ?_ ?_ | refine split_b ?_ ?_ | refine split_gb rfl ?_ ?_) <;> intro _ <;> ((try simp only [go_sem, reduceIte, Nat.reduceEqDiff, Nat.reduceLT, Nat.reduceLeDiff, Nat.reduceAdd, reduceCtorEq, Int.reduceToNat, Int.reduceLE, Int.reduceLT, Int.reduceNeg, Int.reduceEq, Int.reduceNe, Nat.reduceBEq, Nat.reduceMul, Nat.reducePow, Int.cast_ofNat_Int, *]))) | ((first | (refine OpW_call rfl rfl call71 rfl ((haw _).mono ?_)) | fail) <;> (rintro p_ S_ ⟨rfl, rfl⟩; (try simp only [go_sem, reduceIte, Nat.reduceEqDiff, Nat.reduceLT, Nat.reduceLeDiff, Nat.reduceAdd, reduceCtorEq, Int.reduceToNat, Int.reduceLE, Int.reduceLT, Int.reduceNeg, Int.reduceEq, Int.reduceNe, Nat.reduceBEq, Nat.reduceMul, Nat.reducePow, Int.cast_ofNat_Int, *]))) | fail)
        exact Heap.le_refl _
      · have hw := wrap1 (n := v.length) hl (by omega)
        have hn : ∀ (j : Nat) d, j < i + 1 → v[j]? = some d → d ≠ 0 := by
          intro j d hj hd
          by_cases e : j = i
          · subst e; rw [hc] at hd; cases hd
            intro e; subst e; exact h0 rfl
          · exact h6 j d (by omega) hd
        clear h6
        (simp only [go_sem, reduceIte, Nat.reduceEqDiff, Nat.reduceLT, Nat.reduceLeDiff, Nat.reduceAdd, reduceCtorEq, Int.reduceToNat, Int.reduceLE, Int.reduceLT, Int.reduceNeg, Int.reduceEq, Int.reduceNe, Nat.reduceBEq, Nat.reduceMul, Nat.reducePow, Int.cast_ofNat_Int, *])
        exact ⟨m - 1, by omega, i + 1, by omega, rfl, hn⟩
    | none =>
      have hl : v.length ≤ i := List.getElem?_eq_none_iff.1 hc
      have hlt : ¬ ((i : Int) < (v.length : Int)) := by omega
      have hz : hasZero v = false := by
        unfold hasZero
        rw [idx_no fun j d hd => h6 j d (by have := (List.getElem?_eq_some_iff.1 hd).1; omega) hd]
        rfl
      clear h6 hc
      have hn256 := n.toNat_lt
      have hcv : IntKind.i64.wrap (n.toNat : Int) = (n.toNat : Int) := wrap_in (by omega)
      have hk : ((n.toNat : Int)).tmod 60 = ((n.toNat % 60 : Nat) : Int) := by rw [Int.tmod_eq_emod_of_nonneg (by omega)]; omega
      have hk60 : n.toNat % 60 < 60 := Nat.mod_lt _ (by omega)
      (simp only [go_sem, reduceIte, Nat.reduceEqDiff, Nat.reduceLT, Nat.reduceLeDiff, Nat.reduceAdd, reduceCtorEq, Int.reduceToNat, Int.reduceLE, Int.reduceLT, Int.reduceNeg, Int.reduceEq, Int.reduceNe, Nat.reduceBEq, Nat.reduceMul, Nat.reducePow, Int.cast_ofNat_Int, *])
      refine OpW_call rfl rfl call70 rfl ((aliNew_calls _).mono ?_)
      rintro q0 S0 ⟨b, hb, rfl, rfl⟩
      (simp only [go_sem, reduceIte, Nat.reduceEqDiff, Nat.reduceLT, Nat.reduceLeDiff, Nat.reduceAdd, reduceCtorEq, Int.reduceToNat, Int.reduceLE, Int.reduceLT, Int.reduceNeg, Int.reduceEq, Int.reduceNe, Nat.reduceBEq, Nat.reduceMul, Nat.reducePow, Int.cast_ofNat_Int, *])
      generalize hK : n.toNat % 60 = K at *
      clear hk hcv
      refine CodeW_loop (fun m σ'' S'' => ∃ (i : Nat) (T : TMap) (ob : MObj), i + m = K ∧ σ'' 1 = .str v ∧ σ'' 6 = .ref [.omap b] ∧ σ'' 7 = .int .i64 (K : Int) ∧ σ'' 8 = .int .i64 i ∧ AMap i T ob ∧ Filled i T ∧ S'' = S'.set b ob) K ?_ ?_
      · (simp only [go_sem, reduceIte, Nat.reduceEqDiff, Nat.reduceLT, Nat.reduceLeDiff, Nat.reduceAdd, reduceCtorEq, Int.reduceToNat, Int.reduceLE, Int.reduceLT, Int.reduceNeg, Int.reduceEq, Int.reduceNe, Nat.reduceBEq, Nat.reduceMul, Nat.reducePow, Int.cast_ofNat_Int, *])
        exact ⟨0, [], _, by omega, rfl, MapS.none _ _ _, ⟨rfl, fun x hx => (by cases hx), fun h => (by omega)⟩, rfl⟩
      · rintro m2 σ2 S2 ⟨j, T, ob, g1, g2, g3, g4, g5, g6, g7, rfl⟩
        have hb1 : (S'.set b ob) b = some ob := by rw [set_apply, if_pos rfl]
        have hTl := g6.len_le
        by_cases hj : (j : Int) < (K : Int)
        · have hset := aliSet_any b j T ob (nm36 j) v (by rw [nm36_len]; omega) (by omega) _ hb1 g6
          rw [g7.code (by omega) c1 hz] at hset
          have hstep := g7.step (v := v) (by omega) c1 hz
          have q1 := quo26 (i := j) (by omega)
          have q2 := rem26 j
          have hq : j / 26 < 3 := by omega
          have hr : j % 26 < 26 := Nat.mod_lt _ (by omega)
          have a1 : IntKind.i64.wrap (97 + ((j / 26 : Nat) : Int)) = ((97 + j / 26 : Nat) : Int) := by rw [wrap_in (by omega)]; omega
          have a2 : IntKind.i64.wrap (97 + ((j % 26 : Nat) : Int)) = ((97 + j % 26 : Nat) : Int) := by rw [wrap_in (by omega)]; omega
          have u1 : IntKind.u8.wrap ((97 + j / 26 : Nat) : Int) = ((97 + j / 26 : Nat) : Int) := by unfold IntKind.wrap; simp [IntKind.signed, IntKind.bits]; omega
          have u2 : IntKind.u8.wrap ((97 + j % 26 : Nat) : Int) = ((97 + j % 26 : Nat) : Int) := by unfold IntKind.wrap; simp [IntKind.signed, IntKind.bits]; omega
          have r1 : (0 : Int) ≤ ((97 + j / 26 : Nat) : Int) ∧ ((97 + j / 26 : Nat) : Int) < 256 := by omega
          have r2 : (0 : Int) ≤ ((97 + j % 26 : Nat) : Int) ∧ ((97 + j % 26 : Nat) : Int) < 256 := by omega
          have hw := wrap1 (n := 61) (i := j) (by omega) (by omega)
          clear hq hr
          by_cases h40 : j < 40
          · rw [if_pos h40] at hset
            have h40' : (j : Int) < 40 := by omega
            clear h40
            (simp only [go_sem, reduceIte, Nat.reduceEqDiff, Nat.reduceLT, Nat.reduceLeDiff, Nat.reduceAdd, reduceCtorEq, Int.reduceToNat, Int.reduceLE, Int.reduceLT, Int.reduceNeg, Int.reduceEq, Int.reduceNe, Nat.reduceBEq, Nat.reduceMul, Nat.reducePow, Int.cast_ofNat_Int, *])
            refine OpW_call rfl rfl call72 rfl (hset.mono ?_)
            rintro q1 S1 ⟨rfl, ob', k1, rfl⟩
            rw [Heap.set_set]
            clear hset q1 q2 a1 a2 u1 u2 r1 r2
            (simp only [go_sem, reduceIte, Nat.reduceEqDiff, Nat.reduceLT, Nat.reduceLeDiff, Nat.reduceAdd, reduceCtorEq, Int.reduceToNat, Int.reduceLE, Int.reduceLT, Int.reduceNeg, Int.reduceEq, Int.reduceNe, Nat.reduceBEq, Nat.reduceMul, Nat.reducePow, Int.cast_ofNat_Int, *])
            exact ⟨m2 - 1, by omega, j + 1, _, ob', by omega, rfl, k1, hstep, rfl⟩
          · rw [if_neg h40] at hset
            have h40' : ¬ (j : Int) < 40 := by omega
            clear h40
            (simp only [go_sem, reduceIte, Nat.reduceEqDiff, Nat.reduceLT, Nat.reduceLeDiff, Nat.reduceAdd, reduceCtorEq, Int.reduceToNat, Int.reduceLE, Int.reduceLT, Int.reduceNeg, Int.reduceEq, Int.reduceNe, Nat.reduceBEq, Nat.reduceMul, Nat.reducePow, Int.cast_ofNat_Int, *])
            refine OpW_call rfl rfl call72 rfl (hset.mono ?_)
            rintro q1 S1 ⟨rfl, ob', k1, rfl⟩
            rw [Heap.set_set]
            clear hset q1 q2 a1 a2 u1 u2 r1 r2
            (simp only [go_sem, reduceIte, Nat.reduceEqDiff, Nat.reduceLT, Nat.reduceLeDiff, Nat.reduceAdd, reduceCtorEq, Int.reduceToNat, Int.reduceLE, Int.reduceLT, Int.reduceNeg, Int.reduceEq, Int.reduceNe, Nat.reduceBEq, Nat.reduceMul, Nat.reducePow, Int.cast_ofNat_Int, *])
            exact ⟨m2 - 1, by omega, j + 1, _, ob', by omega, rfl, k1, hstep, rfl⟩
        · have hjK : j = K := by omega
          have hlen := aliLen_calls b j T ob _ hb1 g6
          have e1 := g7.len
          have hle : S'.le (S'.set b ob) := Heap.le_set hb
          have hadd : v.length + 0 ≤ 9223372036854775807 := by omega
          have hadd' : v.length ≤ 9223372036854775807 := by omega
          have happ : v ++ [] = v := List.append_nil v
          by_cases z0 : (K : Int) = 0
          · have e2 : T.length = 0 := by omega
            rw [e2] at hlen
            have hj0 : ¬ (j : Int) < 0 := by omega
            clear e1 e2 g7 hTl hjK
            (simp only [go_sem, reduceIte, Nat.reduceEqDiff, Nat.reduceLT, Nat.reduceLeDiff, Nat.reduceAdd, reduceCtorEq, Int.reduceToNat, Int.reduceLE, Int.reduceLT, Int.reduceNeg, Int.reduceEq, Int.reduceNe, Nat.reduceBEq, Nat.reduceMul, Nat.reducePow, Int.cast_ofNat_Int, *])
            (repeat' first | ((first | refine split_d ?_ ?_ | refine split_gt rfl ?_ ?_ | refine split_gf rfl ?_ ?_ | refine split_b ?_ ?_ | refine split_gb rfl ?_ ?_) <;> intro _ <;> ((try simp only [go_sem, reduceIte, Nat.reduceEqDiff, Nat.reduceLT, Nat.reduceLeDiff, Nat.reduceAdd, reduceCtorEq, Int.reduceToNat, Int.reduceLE, Int.reduceLT, Int.reduceNeg, Int.reduceEq, Int.reduceNe, Nat.reduceBEq, Nat.reduceMul, Nat.reducePow, Int.cast_ofNat_Int, *]))) | ((first | (refine OpW_call rfl rfl call78 rfl ((hlen).mono ?_)) | (refine OpW_call rfl rfl call71 rfl ((haw _).mono ?_)) | fail) <;> (rintro p_ S_ ⟨rfl, rfl⟩; (try simp only [go_sem, reduceIte, Nat.reduceEqDiff, Nat.reduceLT, Nat.reduceLeDiff, Nat.reduceAdd, reduceCtorEq, Int.reduceToNat, Int.reduceLE, Int.reduceLT, Int.reduceNeg, Int.reduceEq, Int.reduceNe, Nat.reduceBEq, Nat.reduceMul, Nat.reducePow, Int.cast_ofNat_Int, *]))) | fail)
            all_goals exact hle
          · have hl := g7.last (v := v) (by omega) c1 hz
            have hset := aliSet_ok b j T ob [97, 97, 97] v (by decide) (by omega) _ hb1 g6 hl
            by_cases h4 : (40 : Int) < (K : Int)
            · have e2 : T.length = 40 := by omega
              rw [e2] at hlen
              clear hl e1 e2 g7 hTl hjK
              (simp only [go_sem, reduceIte, Nat.reduceEqDiff, Nat.reduceLT, Nat.reduceLeDiff, Nat.reduceAdd, reduceCtorEq, Int.reduceToNat, Int.reduceLE, Int.reduceLT, Int.reduceNeg, Int.reduceEq, Int.reduceNe, Nat.reduceBEq, Nat.reduceMul, Nat.reducePow, Int.cast_ofNat_Int, *])
              (repeat' first | ((first | refine split_d ?_ ?_ | refine split_gt rfl ?_ ?_ | refine split_gf rfl ?_ ?_ | refine split_b ?_ ?_ | refine split_gb rfl ?_ ?_) <;> intro _ <;> ((try simp only [go_sem, reduceIte, Nat.reduceEqDiff, Nat.reduceLT, Nat.reduceLeDiff, Nat.reduceAdd, reduceCtorEq, Int.reduceToNat, Int.reduceLE, Int.reduceLT, Int.reduceNeg, Int.reduceEq, Int.reduceNe, Nat.reduceBEq, Nat.reduceMul, Nat.reducePow, Int.cast_ofNat_Int, *]))) | ((first | (refine OpW_call rfl rfl call78 rfl ((hlen).mono ?_)) | fail) <;> (rintro p_ S_ ⟨rfl, rfl⟩; (try simp only [go_sem, reduceIte, Nat.reduceEqDiff, Nat.reduceLT, Nat.reduceLeDiff, Nat.reduceAdd, reduceCtorEq, Int.reduceToNat, Int.reduceLE, Int.reduceLT, Int.reduceNeg, Int.reduceEq, Int.reduceNe, Nat.reduceBEq, Nat.reduceMul, Nat.reducePow, Int.cast_ofNat_Int, *]))) | fail)
              refine OpW_call rfl rfl call72 rfl (hset.mono ?_)
              rintro q1 S1 ⟨rfl, ob', k1, rfl⟩
              rw [Heap.set_set]
              have hle : S'.le (S'.set b ob') := Heap.le_set hb
              clear hset
              (simp only [go_sem, reduceIte, Nat.reduceEqDiff, Nat.reduceLT, Nat.reduceLeDiff, Nat.reduceAdd, reduceCtorEq, Int.reduceToNat, Int.reduceLE, Int.reduceLT, Int.reduceNeg, Int.reduceEq, Int.reduceNe, Nat.reduceBEq, Nat.reduceMul, Nat.reducePow, Int.cast_ofNat_Int, *])
              (repeat' first | ((first | refine split_d ?_ ?_ | refine split_gt rfl ?_ ?_ | refine split_gf rfl ?_ ?_ | refine split_b ?_ ?_ | refine split_gb rfl ?_ ?_) <;> intro _ <;> ((try simp only [go_sem, reduceIte, Nat.reduceEqDiff, Nat.reduceLT, Nat.reduceLeDiff, Nat.reduceAdd, reduceCtorEq, Int.reduceToNat, Int.reduceLE, Int.reduceLT, Int.reduceNeg, Int.reduceEq, Int.reduceNe, Nat.reduceBEq, Nat.reduceMul, Nat.reducePow, Int.cast_ofNat_Int, *]))) | ((first | (refine OpW_call rfl rfl call71 rfl ((haw _).mono ?_)) | fail) <;> (rintro p_ S_ ⟨rfl, rfl⟩; (try simp only [go_sem, reduceIte, Nat.reduceEqDiff, Nat.reduceLT, Nat.reduceLeDiff, Nat.reduceAdd, reduceCtorEq, Int.reduceToNat, Int.reduceLE, Int.reduceLT, Int.reduceNeg, Int.reduceEq, Int.reduceNe, Nat.reduceBEq, Nat.reduceMul, Nat.reducePow, Int.cast_ofNat_Int, *]))) | fail)
            · have e2 : T.length = K := by omega
              rw [e2] at hlen
              clear hl e1 e2 g7 hTl hjK
              (simp only [go_sem, reduceIte, Nat.reduceEqDiff, Nat.reduceLT, Nat.reduceLeDiff, Nat.reduceAdd, reduceCtorEq, Int.reduceToNat, Int.reduceLE, Int.reduceLT, Int.reduceNeg, Int.reduceEq, Int.reduceNe, Nat.reduceBEq, Nat.reduceMul, Nat.reducePow, Int.cast_ofNat_Int, *])
              (repeat' first | ((first | refine split_d ?_ ?_ | refine split_gt rfl ?_ ?_ | refine split_gf rfl ?_ ?_ | refine split_b ?_ ?_ | refine split_gb rfl ?_ ?_) <;> intro _ <;> ((try simp only [go_sem, reduceIte, Nat.reduceEqDiff, Nat.reduceLT, Nat.reduceLeDiff, Nat.reduceAdd, reduceCtorEq, Int.reduceToNat, Int.reduceLE, Int.reduceLT, Int.reduceNeg, Int.reduceEq, Int.reduceNe, Nat.reduceBEq, Nat.reduceMul, Nat.reducePow, Int.cast_ofNat_Int, *]))) | ((first | (refine OpW_call rfl rfl call78 rfl ((hlen).mono ?_)) | fail) <;> (rintro p_ S_ ⟨rfl, rfl⟩; (try simp only [go_sem, reduceIte, Nat.reduceEqDiff, Nat.reduceLT, Nat.reduceLeDiff, Nat.reduceAdd, reduceCtorEq, Int.reduceToNat, Int.reduceLE, Int.reduceLT, Int.reduceNeg, Int.reduceEq, Int.reduceNe, Nat.reduceBEq, Nat.reduceMul, Nat.reducePow, Int.cast_ofNat_Int, *]))) | fail)
              refine OpW_call rfl rfl call72 rfl (hset.mono ?_)
              rintro q1 S1 ⟨rfl, ob', k1, rfl⟩
              rw [Heap.set_set]
              have hle : S'.le (S'.set b ob') := Heap.le_set hb
              clear hset
              (simp only [go_sem, reduceIte, Nat.reduceEqDiff, Nat.reduceLT, Nat.reduceLeDiff, Nat.reduceAdd, reduceCtorEq, Int.reduceToNat, Int.reduceLE, Int.reduceLT, Int.reduceNeg, Int.reduceEq, Int.reduceNe, Nat.reduceBEq, Nat.reduceMul, Nat.reducePow, Int.cast_ofNat_Int, *])
              (repeat' first | ((first | refine split_d ?_ ?_ | refine split_gt rfl ?_ ?_ | refine split_gf rfl ?_ ?_ | refine split_b ?_ ?_ | refine split_gb rfl ?_ ?_) <;> intro _ <;> ((try simp only [go_sem, reduceIte, Nat.reduceEqDiff, Nat.reduceLT, Nat.reduceLeDiff, Nat.reduceAdd, reduceCtorEq, Int.reduceToNat, Int.reduceLE, Int.reduceLT, Int.reduceNeg, Int.reduceEq, Int.reduceNe, Nat.reduceBEq, Nat.reduceMul, Nat.reducePow, Int.cast_ofNat_Int, *]))) | ((first | (refine OpW_call rfl rfl call71 rfl ((haw _).mono ?_)) | fail) <;> (rintro p_ S_ ⟨rfl, rfl⟩; (try simp only [go_sem, reduceIte, Nat.reduceEqDiff, Nat.reduceLT, Nat.reduceLeDiff, Nat.reduceAdd, reduceCtorEq, Int.reduceToNat, Int.reduceLE, Int.reduceLT, Int.reduceNeg, Int.reduceEq, Int.reduceNe, Nat.reduceBEq, Nat.reduceMul, Nat.reducePow, Int.cast_ofNat_Int, *]))) | fail)
end Go.Proofs.Ytcbonfgkfiapaaa.Pv
