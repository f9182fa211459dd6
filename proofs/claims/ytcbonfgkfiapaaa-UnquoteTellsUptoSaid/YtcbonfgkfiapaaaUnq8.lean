/- What the reference of package unquote computes: Quoted, Names; the same lists of texts. -/
import Derived.Test.YtcbonfgkfiapaaaUnq7
set_option linter.unusedVariables false
set_option linter.unusedSimpArgs false
set_option maxRecDepth 100000
set_option maxHeartbeats 40000000
namespace Go.Proofs.Ytcbonfgkfiapaaa.Pv
open Go Go.RowKit

theorem refQuoted_calls (l : List Pt) (hll : l.length ≤ 1048576) (S : Heap) : CallsQ Try.prog 45 [.agg [.slice 5 (prows l)]] S (.bool (l.any fun p => isQ p.k)) := by
  obtain ⟨T, hT⟩ : ∃ T, (l.any fun p => isQ p.k) = T := ⟨_, rfl⟩
  rw [hT]
  refine CallsA_W (fun _ => false) Try.func45 rfl (Nat.le_of_ble_eq_true rfl) ?_
  simp only [Try.f45]
  (simp only [go_sem, reduceIte, Nat.reduceEqDiff, Nat.reduceLT, Nat.reduceLeDiff, Nat.reduceAdd, reduceCtorEq, Int.reduceToNat, Int.reduceLE, Int.reduceLT, Int.reduceNeg, Int.reduceEq, Int.reduceNe, Nat.reduceBEq, Nat.reduceMul, Nat.reducePow, Int.cast_ofNat_Int, *])
  refine CodeW_loop (fun m σ' S' => ∃ i : Nat, i + m = l.length ∧ σ' 1 = .ref [.slice 5 (prows l)] ∧ σ' 3 = .int .i64 i ∧ S' = S ∧ ((l.drop i).any fun p => isQ p.k) = T) l.length ?_ ?_
  · (simp only [go_sem, reduceIte, Nat.reduceEqDiff, Nat.reduceLT, Nat.reduceLeDiff, Nat.reduceAdd, reduceCtorEq, Int.reduceToNat, Int.reduceLE, Int.reduceLT, Int.reduceNeg, Int.reduceEq, Int.reduceNe, Nat.reduceBEq, Nat.reduceMul, Nat.reducePow, Int.cast_ofNat_Int, *])
    exact ⟨0, by omega, rfl, by simpa using hT⟩
  · rintro m σ' S' ⟨i, h1, h2, h3, rfl, h6⟩
    clear hT
    cases hc : l[i]? with
    | none =>
      have hl : l.length ≤ i := List.getElem?_eq_none_iff.1 hc
      have hlt : ¬ ((i : Int) < (l.length : Int)) := by omega
      rw [List.drop_eq_nil_of_le hl] at h6
      simp only [List.any_nil] at h6
      subst h6
      (simp only [go_sem, reduceIte, Nat.reduceEqDiff, Nat.reduceLT, Nat.reduceLeDiff, Nat.reduceAdd, reduceCtorEq, Int.reduceToNat, Int.reduceLE, Int.reduceLT, Int.reduceNeg, Int.reduceEq, Int.reduceNe, Nat.reduceBEq, Nat.reduceMul, Nat.reducePow, Int.cast_ofNat_Int, *])
    | some p =>
      have hl := (List.getElem?_eq_some_iff.1 hc).1
      have hlt : (i : Int) < (l.length : Int) := by omega
      have hw := wrap1 hl (by omega)
      rw [drop_at hc] at h6
      simp only [List.any_cons] at h6
      cases hq : isQ p.k with
      | true =>
        rw [hq, Bool.true_or] at h6
        subst h6
        simp only [isQ, Bool.or_eq_true, decide_eq_true_eq] at hq
        rcases hq with (hk | hk) | hk
        · (simp only [go_sem, reduceIte, Nat.reduceEqDiff, Nat.reduceLT, Nat.reduceLeDiff, Nat.reduceAdd, reduceCtorEq, Int.reduceToNat, Int.reduceLE, Int.reduceLT, Int.reduceNeg, Int.reduceEq, Int.reduceNe, Nat.reduceBEq, Nat.reduceMul, Nat.reducePow, Int.cast_ofNat_Int, *])
        · (simp only [go_sem, reduceIte, Nat.reduceEqDiff, Nat.reduceLT, Nat.reduceLeDiff, Nat.reduceAdd, reduceCtorEq, Int.reduceToNat, Int.reduceLE, Int.reduceLT, Int.reduceNeg, Int.reduceEq, Int.reduceNe, Nat.reduceBEq, Nat.reduceMul, Nat.reducePow, Int.cast_ofNat_Int, *])
        · (simp only [go_sem, reduceIte, Nat.reduceEqDiff, Nat.reduceLT, Nat.reduceLeDiff, Nat.reduceAdd, reduceCtorEq, Int.reduceToNat, Int.reduceLE, Int.reduceLT, Int.reduceNeg, Int.reduceEq, Int.reduceNe, Nat.reduceBEq, Nat.reduceMul, Nat.reducePow, Int.cast_ofNat_Int, *])
      | false =>
        rw [hq, Bool.false_or] at h6
        simp only [isQ, Bool.or_eq_false_iff, decide_eq_false_iff_not] at hq
        obtain ⟨⟨n2, n3⟩, n4⟩ := hq
        (simp only [go_sem, reduceIte, Nat.reduceEqDiff, Nat.reduceLT, Nat.reduceLeDiff, Nat.reduceAdd, reduceCtorEq, Int.reduceToNat, Int.reduceLE, Int.reduceLT, Int.reduceNeg, Int.reduceEq, Int.reduceNe, Nat.reduceBEq, Nat.reduceMul, Nat.reducePow, Int.cast_ofNat_Int, *])
        exact ⟨m - 1, by omega, i + 1, by omega, rfl, h6⟩
theorem strs_get (l : List (List UInt8)) (i : Nat) : (strs l)[i]? = (l[i]?).map fun s => [PV.str s] := by simp [strs]
theorem sameStrs_calls (l : List (List UInt8)) (hll : l.length ≤ 1048576) (S : Heap) : CallsQ Try.prog 46 [.slice 1 (strs l), .slice 1 (strs l)] S (.bool true) := by
  have hsl := strs_len l
  refine CallsA_W (fun _ => false) Try.func46 rfl (Nat.le_of_ble_eq_true rfl) ?_
  simp only [Try.f46]
  (simp only [go_sem, reduceIte, Nat.reduceEqDiff, Nat.reduceLT, Nat.reduceLeDiff, Nat.reduceAdd, reduceCtorEq, Int.reduceToNat, Int.reduceLE, Int.reduceLT, Int.reduceNeg, Int.reduceEq, Int.reduceNe, Nat.reduceBEq, Nat.reduceMul, Nat.reducePow, Int.cast_ofNat_Int, *])
  refine CodeW_loop (fun m σ' S' => ∃ i : Nat, i + m = l.length ∧ σ' 0 = .slice 1 (strs l) ∧ σ' 1 = .slice 1 (strs l) ∧ σ' 5 = .int .i64 i ∧ S' = S) l.length ?_ ?_
  · (simp only [go_sem, reduceIte, Nat.reduceEqDiff, Nat.reduceLT, Nat.reduceLeDiff, Nat.reduceAdd, reduceCtorEq, Int.reduceToNat, Int.reduceLE, Int.reduceLT, Int.reduceNeg, Int.reduceEq, Int.reduceNe, Nat.reduceBEq, Nat.reduceMul, Nat.reducePow, Int.cast_ofNat_Int, *])
    exact ⟨0, by omega, rfl⟩
  · rintro m σ' S' ⟨i, h1, h2, h3, h4, rfl⟩
    have hg := strs_get l i
    cases hc : l[i]? with
    | none =>
      have hl : l.length ≤ i := List.getElem?_eq_none_iff.1 hc
      have hlt : ¬ ((i : Int) < (l.length : Int)) := by omega
      clear hg hc
      (simp only [go_sem, reduceIte, Nat.reduceEqDiff, Nat.reduceLT, Nat.reduceLeDiff, Nat.reduceAdd, reduceCtorEq, Int.reduceToNat, Int.reduceLE, Int.reduceLT, Int.reduceNeg, Int.reduceEq, Int.reduceNe, Nat.reduceBEq, Nat.reduceMul, Nat.reducePow, Int.cast_ofNat_Int, *])
    | some s =>
      have hl := (List.getElem?_eq_some_iff.1 hc).1
      have hlt : (i : Int) < (l.length : Int) := by omega
      have hw := wrap1 hl (by omega)
      rw [hc] at hg
      simp only [Option.map_some] at hg
      clear hc
      (simp only [go_sem, reduceIte, Nat.reduceEqDiff, Nat.reduceLT, Nat.reduceLeDiff, Nat.reduceAdd, reduceCtorEq, Int.reduceToNat, Int.reduceLE, Int.reduceLT, Int.reduceNeg, Int.reduceEq, Int.reduceNe, Nat.reduceBEq, Nat.reduceMul, Nat.reducePow, Int.cast_ofNat_Int, *])
      refine CodeW_quiet mixed 9 (by kernel_rfl) ?_
      (simp only [go_sem, reduceIte, Nat.reduceEqDiff, Nat.reduceLT, Nat.reduceLeDiff, Nat.reduceAdd, reduceCtorEq, Int.reduceToNat, Int.reduceLE, Int.reduceLT, Int.reduceNeg, Int.reduceEq, Int.reduceNe, Nat.reduceBEq, Nat.reduceMul, Nat.reducePow, Int.cast_ofNat_Int, *])
      exact ⟨m - 1, by omega, i + 1, by omega, rfl⟩
theorem refnames_calls (N : Nat) (hN : N ≤ 1048576) : ∀ l : List Pt, bulks l ≤ N → ∀ S, CallsQ Try.prog 99 [.slice 5 (prows l)] S (.slice 1 (strs (nms l))) := by
  induction N using Nat.strongRecOn with
  | _ N ih =>
    intro l hb S0
    have hll : l.length ≤ 1048576 := Nat.le_trans (bulks_len l) (by omega)
    refine CallsQ_freeze (e := 9) ?_
    obtain ⟨T, hT⟩ : ∃ T, nms l = T := ⟨_, rfl⟩
    have hTl : T.length ≤ 1048576 := by rw [← hT]; have := nms_len l; omega
    rw [hT]
    refine CallsA_W (fun _ => false) Try.func99 rfl (Nat.le_of_ble_eq_true rfl) ?_
    simp only [Try.f99]
    (simp only [go_sem, reduceIte, Nat.reduceEqDiff, Nat.reduceLT, Nat.reduceLeDiff, Nat.reduceAdd, reduceCtorEq, Int.reduceToNat, Int.reduceLE, Int.reduceLT, Int.reduceNeg, Int.reduceEq, Int.reduceNe, Nat.reduceBEq, Nat.reduceMul, Nat.reducePow, Int.cast_ofNat_Int, *])
    refine CodeW_loop (fun m σ' S' => ∃ (i : Nat) (acc : List (List UInt8)) (ps : PV), i + m = l.length ∧ σ' 0 = .slice 5 (prows l) ∧ σ' 3 = ps ∧ σ' 4 = .int .i64 i ∧ S0.le S' ∧ Grows S' 1 9 (strs acc) ps ∧ (∀ b, ownB ps = some b → S0 b = none) ∧ acc ++ nms (l.drop i) = T) l.length ?_ ?_
    · (simp only [go_sem, reduceIte, Nat.reduceEqDiff, Nat.reduceLT, Nat.reduceLeDiff, Nat.reduceAdd, reduceCtorEq, Int.reduceToNat, Int.reduceLE, Int.reduceLT, Int.reduceNeg, Int.reduceEq, Int.reduceNe, Nat.reduceBEq, Nat.reduceMul, Nat.reducePow, Int.cast_ofNat_Int, *])
      exact ⟨0, [], _, by omega, rfl, rfl, Heap.le_refl _, Or.inl ⟨rfl, rfl⟩, fun b hb => (by cases hb), by simpa using hT⟩
    · rintro m σ' S' ⟨i, acc, ps, h1, h2, h3, h4, h5, h6, h7, h8⟩
      clear hT
      have h5' := Keep.mk h5
      have h6' := Keep.mk h6
      have h7' := Keep.mk h7
      clear h5 h6 h7
      cases hc : l[i]? with
      | none =>
        have hl : l.length ≤ i := List.getElem?_eq_none_iff.1 hc
        have hlt : ¬ ((i : Int) < (l.length : Int)) := by omega
        rw [List.drop_eq_nil_of_le hl] at h8
        simp only [nms, List.append_nil] at h8
        subst h8
        clear ih
        (simp only [go_sem, reduceIte, Nat.reduceEqDiff, Nat.reduceLT, Nat.reduceLeDiff, Nat.reduceAdd, reduceCtorEq, Int.reduceToNat, Int.reduceLE, Int.reduceLT, Int.reduceNeg, Int.reduceEq, Int.reduceNe, Nat.reduceBEq, Nat.reduceMul, Nat.reducePow, Int.cast_ofNat_Int, *])
        exact ⟨h5'.of, strs acc, h6'.of, h7'.of, rowsW_refl _⟩
      | some p =>
        have hl := (List.getElem?_eq_some_iff.1 hc).1
        have hlt : (i : Int) < (l.length : Int) := by omega
        have hw := wrap1 hl (by omega)
        rw [drop_at hc] at h8
        simp only [nms] at h8
        have hpb := bulk_eq p
        have hpg := bulks_get hc
        have hcall := ih (bulks p.kids) (by omega) (by omega) p.kids (Nat.le_refl _)
        have hnl := congrArg List.length h8
        simp only [List.length_append] at hnl
        have hone : ∀ r ∈ strs (nms p.kids), ∀ c ∈ r, c.isOne = true := by
          intro r hr c hc
          obtain ⟨s, _, rfl⟩ := List.mem_map.1 hr
          simp only [List.mem_singleton] at hc
          subst hc; rfl
        have hcn := name_calls
        have hrn := refName_calls p.text (by omega)
        have hq := Keep.mk h8
        have hlk := strs_len (nms p.kids)
        have hla := strs_len acc
        clear h8
        by_cases hy : p.k = 5 ∧ isName p.text = true
        · obtain ⟨k5, hname⟩ := hy
          have hnm : p.nm = [p.text] ++ nms p.kids := by rw [nm_eq, if_pos ⟨k5, hname⟩]
          rw [hnm, List.length_append] at hnl
          simp only [List.length_cons, List.length_nil] at hnl
          rw [hname] at hrn
          clear hname hcn
          (simp only [go_sem, reduceIte, Nat.reduceEqDiff, Nat.reduceLT, Nat.reduceLeDiff, Nat.reduceAdd, reduceCtorEq, Int.reduceToNat, Int.reduceLE, Int.reduceLT, Int.reduceNeg, Int.reduceEq, Int.reduceNe, Nat.reduceBEq, Nat.reduceMul, Nat.reducePow, Int.cast_ofNat_Int, *])
          refine OpW_call rfl rfl call24 rfl ((hrn _).mono ?_)
          rintro q_ S_ ⟨rfl, rfl⟩
          (simp only [go_sem, reduceIte, Nat.reduceEqDiff, Nat.reduceLT, Nat.reduceLeDiff, Nat.reduceAdd, reduceCtorEq, Int.reduceToNat, Int.reduceLE, Int.reduceLT, Int.reduceNeg, Int.reduceEq, Int.reduceNe, Nat.reduceBEq, Nat.reduceMul, Nat.reducePow, Int.cast_ofNat_Int, *])
          refine OpW_append (rows := [[.str p.text]]) (olds := strs acc) (ps := ps) rfl appStrs rfl rfl (by intro r hr c hc; simp only [List.mem_singleton] at hr; subst hr; simp only [List.mem_singleton] at hc; subst hc; rfl) rfl h6'.of (by rw [hla]; simp only [List.length_cons, List.length_nil, maxLen]; omega) (by rw [hla]; simp only [List.length_cons, List.length_nil]; omega) ?_
          rintro p1 S1 g1 g2 g3
          obtain ⟨j1, j2⟩ := grow_le h5'.of h7'.of g2 g3
          have c1 := Keep.mk g1
          have c2 := Keep.mk j1
          have c3 := Keep.mk j2
          clear g1 g2 g3 j1 j2 h5' h6' h7'
          (simp only [go_sem, reduceIte, Nat.reduceEqDiff, Nat.reduceLT, Nat.reduceLeDiff, Nat.reduceAdd, reduceCtorEq, Int.reduceToNat, Int.reduceLE, Int.reduceLT, Int.reduceNeg, Int.reduceEq, Int.reduceNe, Nat.reduceBEq, Nat.reduceMul, Nat.reducePow, Int.cast_ofNat_Int, *])
          refine OpW_call rfl rfl call99 rfl ((hcall _).mono ?_)
          rintro q_ S_ ⟨rfl, rfl⟩
          (simp only [go_sem, reduceIte, Nat.reduceEqDiff, Nat.reduceLT, Nat.reduceLeDiff, Nat.reduceAdd, reduceCtorEq, Int.reduceToNat, Int.reduceLE, Int.reduceLT, Int.reduceNeg, Int.reduceEq, Int.reduceNe, Nat.reduceBEq, Nat.reduceMul, Nat.reducePow, Int.cast_ofNat_Int, *])
          refine OpW_append (rows := strs (nms p.kids)) (olds := strs acc ++ [[.str p.text]]) (ps := p1) rfl appStrs rfl rfl hone rfl c1.of (by rw [hlk, List.length_append, hla]; simp only [List.length_cons, List.length_nil, maxLen]; omega) (by rw [hlk, List.length_append, hla]; simp only [List.length_cons, List.length_nil]; omega) ?_
          rintro p2 S2 g1 g2 g3
          obtain ⟨j1, j2⟩ := grow_le c2.of c3.of g2 g3
          have d1 := Keep.mk g1
          have d2 := Keep.mk j1
          have d3 := Keep.mk j2
          clear g1 g2 g3 j1 j2 c1 c2 c3 hone
          (simp only [go_sem, reduceIte, Nat.reduceEqDiff, Nat.reduceLT, Nat.reduceLeDiff, Nat.reduceAdd, reduceCtorEq, Int.reduceToNat, Int.reduceLE, Int.reduceLT, Int.reduceNeg, Int.reduceEq, Int.reduceNe, Nat.reduceBEq, Nat.reduceMul, Nat.reducePow, Int.cast_ofNat_Int, *])
          refine ⟨m - 1, by omega, i + 1, acc ++ ([p.text] ++ nms p.kids), p2, by omega, rfl, rfl, d2.of, by simpa [strs] using d1.of, d3.of, ?_⟩
          rw [List.append_assoc, ← hnm]
          exact hq.of
        · have hnm : p.nm = nms p.kids := by rw [nm_eq, if_neg hy]; rfl
          rw [hnm] at hnl
          by_cases k5 : p.k = 5
          · have hname : isName p.text = false := by
              cases hx : isName p.text with
              | false => rfl
              | true => exact absurd ⟨k5, hx⟩ hy
            rw [hname] at hrn
            clear hname hcn hy
            (simp only [go_sem, reduceIte, Nat.reduceEqDiff, Nat.reduceLT, Nat.reduceLeDiff, Nat.reduceAdd, reduceCtorEq, Int.reduceToNat, Int.reduceLE, Int.reduceLT, Int.reduceNeg, Int.reduceEq, Int.reduceNe, Nat.reduceBEq, Nat.reduceMul, Nat.reducePow, Int.cast_ofNat_Int, *])
            refine OpW_call rfl rfl call24 rfl ((hrn _).mono ?_)
            rintro q_ S_ ⟨rfl, rfl⟩
            (simp only [go_sem, reduceIte, Nat.reduceEqDiff, Nat.reduceLT, Nat.reduceLeDiff, Nat.reduceAdd, reduceCtorEq, Int.reduceToNat, Int.reduceLE, Int.reduceLT, Int.reduceNeg, Int.reduceEq, Int.reduceNe, Nat.reduceBEq, Nat.reduceMul, Nat.reducePow, Int.cast_ofNat_Int, *])
            refine OpW_call rfl rfl call99 rfl ((hcall _).mono ?_)
            rintro q_ S_ ⟨rfl, rfl⟩
            (simp only [go_sem, reduceIte, Nat.reduceEqDiff, Nat.reduceLT, Nat.reduceLeDiff, Nat.reduceAdd, reduceCtorEq, Int.reduceToNat, Int.reduceLE, Int.reduceLT, Int.reduceNeg, Int.reduceEq, Int.reduceNe, Nat.reduceBEq, Nat.reduceMul, Nat.reducePow, Int.cast_ofNat_Int, *])
            refine OpW_append (rows := strs (nms p.kids)) (olds := strs acc) (ps := ps) rfl appStrs rfl rfl hone rfl h6'.of (by rw [hlk, hla]; simp only [maxLen]; omega) (by rw [hlk, hla]; omega) ?_
            rintro p2 S2 g1 g2 g3
            obtain ⟨j1, j2⟩ := grow_le h5'.of h7'.of g2 g3
            have d1 := Keep.mk g1
            have d2 := Keep.mk j1
            have d3 := Keep.mk j2
            clear g1 g2 g3 j1 j2 h5' h6' h7' hone
            (simp only [go_sem, reduceIte, Nat.reduceEqDiff, Nat.reduceLT, Nat.reduceLeDiff, Nat.reduceAdd, reduceCtorEq, Int.reduceToNat, Int.reduceLE, Int.reduceLT, Int.reduceNeg, Int.reduceEq, Int.reduceNe, Nat.reduceBEq, Nat.reduceMul, Nat.reducePow, Int.cast_ofNat_Int, *])
            refine ⟨m - 1, by omega, i + 1, acc ++ nms p.kids, p2, by omega, rfl, rfl, d2.of, by simpa [strs] using d1.of, d3.of, ?_⟩
            rw [List.append_assoc, ← hnm]
            exact hq.of
          · clear hcn hy
            (simp only [go_sem, reduceIte, Nat.reduceEqDiff, Nat.reduceLT, Nat.reduceLeDiff, Nat.reduceAdd, reduceCtorEq, Int.reduceToNat, Int.reduceLE, Int.reduceLT, Int.reduceNeg, Int.reduceEq, Int.reduceNe, Nat.reduceBEq, Nat.reduceMul, Nat.reducePow, Int.cast_ofNat_Int, *])
            refine OpW_call rfl rfl call99 rfl ((hcall _).mono ?_)
            rintro q_ S_ ⟨rfl, rfl⟩
            (simp only [go_sem, reduceIte, Nat.reduceEqDiff, Nat.reduceLT, Nat.reduceLeDiff, Nat.reduceAdd, reduceCtorEq, Int.reduceToNat, Int.reduceLE, Int.reduceLT, Int.reduceNeg, Int.reduceEq, Int.reduceNe, Nat.reduceBEq, Nat.reduceMul, Nat.reducePow, Int.cast_ofNat_Int, *])
            refine OpW_append (rows := strs (nms p.kids)) (olds := strs acc) (ps := ps) rfl appStrs rfl rfl hone rfl h6'.of (by rw [hlk, hla]; simp only [maxLen]; omega) (by rw [hlk, hla]; omega) ?_
            rintro p2 S2 g1 g2 g3
            obtain ⟨j1, j2⟩ := grow_le h5'.of h7'.of g2 g3
            have d1 := Keep.mk g1
            have d2 := Keep.mk j1
            have d3 := Keep.mk j2
            clear g1 g2 g3 j1 j2 h5' h6' h7' hone
            (simp only [go_sem, reduceIte, Nat.reduceEqDiff, Nat.reduceLT, Nat.reduceLeDiff, Nat.reduceAdd, reduceCtorEq, Int.reduceToNat, Int.reduceLE, Int.reduceLT, Int.reduceNeg, Int.reduceEq, Int.reduceNe, Nat.reduceBEq, Nat.reduceMul, Nat.reducePow, Int.cast_ofNat_Int, *])
            refine ⟨m - 1, by omega, i + 1, acc ++ nms p.kids, p2, by omega, rfl, rfl, d2.of, by simpa [strs] using d1.of, d3.of, ?_⟩
            rw [List.append_assoc, ← hnm]
            exact hq.of
end Go.Proofs.Ytcbonfgkfiapaaa.Pv
