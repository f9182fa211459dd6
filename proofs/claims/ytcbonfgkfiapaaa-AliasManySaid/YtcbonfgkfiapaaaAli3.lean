/- What the functions of package alias compute that go through the whole table; what two lists' comparison computes. -/
import Derived.Test.YtcbonfgkfiapaaaAli2
import Derived.Laws.StructEq
import Derived.Maps.Range
set_option linter.unusedVariables false
set_option linter.unusedSimpArgs false
set_option maxRecDepth 100000
set_option maxHeartbeats 40000000
namespace Go.Proofs.Ytcbonfgkfiapaaa.Pv
open Go Go.RowKit

theorem MapS.sorted {P : Program} {t k e : TypeId} {n : Nat} {l : TMap} {o : MObj} (h : MapS P k e n l o) (ht : MapT P t k e) : l.Pairwise (fun x y => bytesBefore x.1 y.1 = true) := by
  obtain ⟨es, clock, _, F, _, hd⟩ := h
  have h1 := Maps.sorted_sorted (Maps.string_keyed ht.key).one _ (Maps.fit_keys F) (Maps.fit_apart (Maps.string_keyed ht.key) F)
  unfold dOf at hd
  simp only [DataW.map.injEq] at hd
  rw [← hd] at h1
  rw [List.pairwise_map] at h1
  exact h1
theorem MapS.key_len {P : Program} {t k e : TypeId} {n : Nat} {l : TMap} {o : MObj} (h : MapS P k e n l o) (ht : MapT P t k e) : ∀ x ∈ l, x.1.length ≤ maxLen := by
  obtain ⟨es, clock, _, F, _, hd⟩ := h
  intro x hx
  unfold dOf at hd
  simp only [DataW.map.injEq] at hd
  have h1 : entA x ∈ (es.toList.map (WideElems.rg P k (plainElem P e))).foldr DataW.insert [] := by rw [← hd]; exact List.mem_map_of_mem hx
  obtain ⟨v, hv⟩ := Maps.fit_keys F _ (Go.mem_sorted.1 h1)
  obtain ⟨s, h2, h3, h4⟩ := Go.WideMaps.string_of_keyOf ht.key hv
  simp only [entA, Lit.string.injEq] at h3
  rw [h3, Array.length_toList]
  exact h4
theorem before_irrefl : ∀ a : Txt, bytesBefore a a = false
  | [] => rfl
  | a :: x => by simp only [bytesBefore, before_irrefl x]; simp
theorem once_of {l : TMap} (h : l.Pairwise (fun x y => bytesBefore x.1 y.1 = true)) : Once l := by
  unfold Once
  rw [List.nodup_iff_pairwise_ne, List.pairwise_map]
  exact h.imp fun {x y} hxy e => by rw [e, before_irrefl] at hxy; cases hxy
theorem once_get : ∀ {l : TMap} {i : Nat} {x : Txt × Txt}, Once l → l[i]? = some x → getA x.1 l = some x.2 := by
  intro l i x ho hx
  refine get_at (i := i) (fun j y hj hy e => ?_) hx rfl
  unfold Once at ho
  rw [List.nodup_iff_pairwise_ne, List.pairwise_iff_getElem] at ho
  have h1 := (List.getElem?_eq_some_iff.1 hx).1
  have h2 := (List.getElem?_eq_some_iff.1 hy).1
  have := ho j i (by simpa using h2) (by simpa using h1) hj
  apply this
  simp only [List.getElem_map]
  rw [(List.getElem?_eq_some_iff.1 hx).2, (List.getElem?_eq_some_iff.1 hy).2, e]

section
variable {S : Heap} {σ : Regs}
theorem QV_neqAlias {o : Oper} {x y : Operand} {u : TypeId} {a b : Txt} (ho : o.op = .binOp .neq 132 x y u) (hx : ev σ x = .agg [.str a, .str b]) (hy : ev σ y = .agg [.str a, .str b]) : QV Try.prog o σ S (.bool false) := by
  refine QV_run fun n σ' w ac hag hst => ?_
  have hall : ∀ z ∈ o.op.operands.toList, ev σ' z = ev σ z := ev_congr hag
  have r1 := rep_ev hst x
  rw [hall x (by simp [ho, Op.operands]), hx] at r1
  have r2 := rep_ev hst y
  rw [hall y (by simp [ho, Op.operands]), hy] at r2
  simp only [Rep] at r1 r2
  obtain ⟨xs, e1, h1⟩ := r1
  obtain ⟨ys, e2, h2⟩ := r2
  have ex : xs = #[.string ⟨a.toArray⟩, .string ⟨b.toArray⟩] := by
    simp only [RepVals, Rep] at h1
    obtain ⟨v, r, h1, rfl, v2, r2, h2, rfl, rfl⟩ := h1
    subst h2
    exact Array.ext' (by simpa using h1)
  have ey : ys = #[.string ⟨a.toArray⟩, .string ⟨b.toArray⟩] := by
    simp only [RepVals, Rep] at h2
    obtain ⟨v, r, h1, rfl, v2, r2, h2, rfl, rfl⟩ := h2
    subst h2
    exact Array.ext' (by simpa using h1)
  subst ex ey
  refine ⟨.bool false, ?_, by simp only [Rep]⟩
  have hS : Try.prog.underlying 132 = some (.struct (Try.prog.fieldsOf 132)) := by kernel_rfl
  have hp : Try.prog.stoodInHeld 132 = false := by kernel_rfl
  have hm : Try.prog.eqGuardType Try.prog.depth 132 = false := by kernel_rfl
  have u9 := Try.underlying9
  have a9 := Try.isAgg9
  have z9 := Try.sizeOf9
  simp only [execOp, ho, e1, e2, Sem.run_bind, run_eqGuard_agg w .neq _ x y _ _ hm, Result.andThen_ok]
  rw [run_neq_struct, show (10000 : Nat) = 9999 + 1 from rfl, run_equalIn_agg w 9999 132 _ _ hS hp]
  simp only [Program.fieldsOf, Try.underlying132]
  simp [go_sem]
end
theorem refSame36_calls (l : TMap) (hl : l.length ≤ 1048576) (S : Heap) : CallsQ Try.prog 79 [.slice 2 (arows l), .slice 2 (arows l)] S (.bool true) := by
  have hu1 := Try.underlying132
  have hal := arows_len l
  refine CallsA_W (fun _ => false) Try.func79 rfl (Nat.le_of_ble_eq_true rfl) ?_
  simp only [Try.f79]
  (simp only [go_sem, reduceIte, Nat.reduceEqDiff, Nat.reduceLT, Nat.reduceLeDiff, Nat.reduceAdd, reduceCtorEq, Int.reduceToNat, Int.reduceLE, Int.reduceLT, Int.reduceNeg, Int.reduceEq, Int.reduceNe, Nat.reduceBEq, Nat.reduceMul, Nat.reducePow, Int.cast_ofNat_Int, *])
  refine CodeW_loop (fun m σ' S' => ∃ i : Nat, i + m = l.length ∧ σ' 0 = .slice 2 (arows l) ∧ σ' 1 = .slice 2 (arows l) ∧ σ' 5 = .int .i64 i ∧ S' = S) l.length ?_ ?_
  · (simp only [go_sem, reduceIte, Nat.reduceEqDiff, Nat.reduceLT, Nat.reduceLeDiff, Nat.reduceAdd, reduceCtorEq, Int.reduceToNat, Int.reduceLE, Int.reduceLT, Int.reduceNeg, Int.reduceEq, Int.reduceNe, Nat.reduceBEq, Nat.reduceMul, Nat.reducePow, Int.cast_ofNat_Int, *])
    exact ⟨0, by omega, rfl⟩
  · rintro m σ' S' ⟨i, h1, h2, h3, h4, rfl⟩
    have hg := arows_get l i
    cases hc : l[i]? with
    | none =>
      have hle : l.length ≤ i := List.getElem?_eq_none_iff.1 hc
      have hlt : ¬ ((i : Int) < (l.length : Int)) := by omega
      clear hg hc
      (simp only [go_sem, reduceIte, Nat.reduceEqDiff, Nat.reduceLT, Nat.reduceLeDiff, Nat.reduceAdd, reduceCtorEq, Int.reduceToNat, Int.reduceLE, Int.reduceLT, Int.reduceNeg, Int.reduceEq, Int.reduceNe, Nat.reduceBEq, Nat.reduceMul, Nat.reducePow, Int.cast_ofNat_Int, *])
    | some x =>
      obtain ⟨a, b⟩ := x
      have hll := (List.getElem?_eq_some_iff.1 hc).1
      have hlt : (i : Int) < (l.length : Int) := by omega
      have hw := wrap1 (n := l.length) hll (by omega)
      rw [hc] at hg
      simp only [Option.map_some, arow] at hg
      clear hc
      (simp only [go_sem, reduceIte, Nat.reduceEqDiff, Nat.reduceLT, Nat.reduceLeDiff, Nat.reduceAdd, reduceCtorEq, Int.reduceToNat, Int.reduceLE, Int.reduceLT, Int.reduceNeg, Int.reduceEq, Int.reduceNe, Nat.reduceBEq, Nat.reduceMul, Nat.reducePow, Int.cast_ofNat_Int, *])
      refine CodeW_quiet mixed 9 (by kernel_rfl) ?_
      (simp only [go_sem, reduceIte, Nat.reduceEqDiff, Nat.reduceLT, Nat.reduceLeDiff, Nat.reduceAdd, reduceCtorEq, Int.reduceToNat, Int.reduceLE, Int.reduceLT, Int.reduceNeg, Int.reduceEq, Int.reduceNe, Nat.reduceBEq, Nat.reduceMul, Nat.reducePow, Int.cast_ofNat_Int, *])
      refine QCW_of (QV_neqAlias rfl rfl rfl) ?_
      (simp only [go_sem, reduceIte, Nat.reduceEqDiff, Nat.reduceLT, Nat.reduceLeDiff, Nat.reduceAdd, reduceCtorEq, Int.reduceToNat, Int.reduceLE, Int.reduceLT, Int.reduceNeg, Int.reduceEq, Int.reduceNe, Nat.reduceBEq, Nat.reduceMul, Nat.reducePow, Int.cast_ofNat_Int, *])
      exact ⟨m - 1, by omega, i + 1, by omega, rfl⟩
/-- What slices.Sorted(maps.Keys(m)) gives. -/
def SortedC : Prop := ∀ (bm b n : Nat) (l : TMap) (ob : MObj) (S : Heap), S bm = some (.cells [.omap b] 128) → S b = some ob → AMap n l ob → n ≤ 1048576 →
  CallsQ Try.prog 119 [.fn (.func 145) [] [.mp bm 0]] S (.slice 1 (l.map fun x => [.str x.1]))
theorem aliKeys_calls (b : Nat) (S : Heap) : CallsA Try.prog 120 [.omap b] S (fun q S' => ∃ bm, S bm = none ∧ q = .fn (.func 145) [] [.mp bm 0] ∧ S' = S.set bm (.cells [.omap b] 128)) := by
  refine CallsA_W (fun t => decide (t = 1)) Try.func120 rfl (Nat.le_of_ble_eq_true rfl) ?_
  simp only [Try.f120]
  (simp only [go_sem, reduceIte, Nat.reduceEqDiff, Nat.reduceLT, Nat.reduceLeDiff, Nat.reduceAdd, reduceCtorEq, Int.reduceToNat, Int.reduceLE, Int.reduceLT, Int.reduceNeg, Int.reduceEq, Int.reduceNe, Nat.reduceBEq, Nat.reduceMul, Nat.reducePow, Int.cast_ofNat_Int, *])
  refine OpW_boxM (cs := [.omap b]) rfl rfl rfl fun bm hb => ?_
  (simp only [go_sem, reduceIte, Nat.reduceEqDiff, Nat.reduceLT, Nat.reduceLeDiff, Nat.reduceAdd, reduceCtorEq, Int.reduceToNat, Int.reduceLE, Int.reduceLT, Int.reduceNeg, Int.reduceEq, Int.reduceNe, Nat.reduceBEq, Nat.reduceMul, Nat.reducePow, Int.cast_ofNat_Int, *])
  exact ⟨bm, hb, rfl, rfl⟩
theorem aliList_nil (S : Heap) : CallsQ Try.prog 80 [.nilp] S .sl0 := by
  refine CallsA_W (fun _ => false) Try.func80 rfl (Nat.le_of_ble_eq_true rfl) ?_
  simp only [Try.f80]
  (simp only [go_sem, reduceIte, Nat.reduceEqDiff, Nat.reduceLT, Nat.reduceLeDiff, Nat.reduceAdd, reduceCtorEq, Int.reduceToNat, Int.reduceLE, Int.reduceLT, Int.reduceNeg, Int.reduceEq, Int.reduceNe, Nat.reduceBEq, Nat.reduceMul, Nat.reducePow, Int.cast_ofNat_Int, *])
theorem aliList_calls (hsrt : SortedC) (b n : Nat) (l : TMap) (ob : MObj) (hn : n ≤ 1048576) (hl : AMap n l ob) (hll : l.length ≤ 1048576) (S : Heap) (hb : S b = some ob) : CallsQ Try.prog 80 [.ref [.omap b]] S (.slice 2 (arows l)) := by
  have ho := once_of (hl.sorted aliT)
  have hu1 := Try.underlying132
  refine CallsQ_freeze (e := 132) ?_
  refine CallsA_W (fun _ => false) Try.func80 rfl (Nat.le_of_ble_eq_true rfl) ?_
  simp only [Try.f80]
  (simp only [go_sem, reduceIte, Nat.reduceEqDiff, Nat.reduceLT, Nat.reduceLeDiff, Nat.reduceAdd, reduceCtorEq, Int.reduceToNat, Int.reduceLE, Int.reduceLT, Int.reduceNeg, Int.reduceEq, Int.reduceNe, Nat.reduceBEq, Nat.reduceMul, Nat.reducePow, Int.cast_ofNat_Int, *])
  refine OpW_call rfl rfl call120 rfl ((aliKeys_calls b S).mono ?_)
  rintro q1 S1 ⟨bm, hbm, rfl, rfl⟩
  have hbb : b ≠ bm := fun e => by subst e; rw [hb] at hbm; cases hbm
  have hb1 : (S.set bm (.cells [.omap b] 128)) b = some ob := by rw [set_apply, if_neg hbb]; exact hb
  have hss := hsrt bm b n l ob (S.set bm (.cells [.omap b] 128)) (by rw [set_apply, if_pos rfl]) hb1 hl hn
  have hle0 : S.le (S.set bm (.cells [.omap b] 128)) := Heap.le_set hbm
  generalize hS1 : S.set bm (.cells [.omap b] 128) = S1 at *
  clear hS1
  have hkl : (l.map fun x => [PV.str x.1]).length = l.length := by simp
  generalize hks : (l.map fun x => [PV.str x.1]) = ks at *
  (simp only [go_sem, reduceIte, Nat.reduceEqDiff, Nat.reduceLT, Nat.reduceLeDiff, Nat.reduceAdd, reduceCtorEq, Int.reduceToNat, Int.reduceLE, Int.reduceLT, Int.reduceNeg, Int.reduceEq, Int.reduceNe, Nat.reduceBEq, Nat.reduceMul, Nat.reducePow, Int.cast_ofNat_Int, *])
  refine OpW_call rfl rfl call119 rfl (hss.mono ?_)
  rintro q2 S2 ⟨rfl, rfl⟩
  (simp only [go_sem, reduceIte, Nat.reduceEqDiff, Nat.reduceLT, Nat.reduceLeDiff, Nat.reduceAdd, reduceCtorEq, Int.reduceToNat, Int.reduceLE, Int.reduceLT, Int.reduceNeg, Int.reduceEq, Int.reduceNe, Nat.reduceBEq, Nat.reduceMul, Nat.reducePow, Int.cast_ofNat_Int, *])
  refine CodeW_loop (fun m σ' S' => ∃ (i : Nat) (p : PV), i + m = l.length ∧ σ' 0 = .ref [.omap b] ∧ σ' 13 = .slice 1 ks ∧ σ' 14 = .int .i64 (l.length : Int) ∧ σ' 15 = .int .i64 i ∧ σ' 3 = p ∧ S.le S' ∧ S' b = some ob ∧ Grows S' 2 132 (arows (l.take i)) p ∧ ∀ c, ownB p = some c → S c = none) l.length ?_ ?_
  · (simp only [go_sem, reduceIte, Nat.reduceEqDiff, Nat.reduceLT, Nat.reduceLeDiff, Nat.reduceAdd, reduceCtorEq, Int.reduceToNat, Int.reduceLE, Int.reduceLT, Int.reduceNeg, Int.reduceEq, Int.reduceNe, Nat.reduceBEq, Nat.reduceMul, Nat.reducePow, Int.cast_ofNat_Int, *])
    exact ⟨0, _, by omega, rfl, rfl, Or.inl ⟨rfl, rfl⟩, fun c hc => by cases hc⟩
  · rintro m σ' S' ⟨i, p, h1, h2, h3, h4, h5, h6, h7, h8, h9, h10⟩
    have hg : ks[i]? = (l[i]?).map fun x => [PV.str x.1] := by rw [← hks]; simp
    cases hc : l[i]? with
    | none =>
      have hle : l.length ≤ i := List.getElem?_eq_none_iff.1 hc
      have hlt : ¬ ((i : Int) < (l.length : Int)) := by omega
      rw [List.take_of_length_le hle] at h9
      have k9 := Keep.mk h9
      clear hg hc h9
      (simp only [go_sem, reduceIte, Nat.reduceEqDiff, Nat.reduceLT, Nat.reduceLeDiff, Nat.reduceAdd, reduceCtorEq, Int.reduceToNat, Int.reduceLE, Int.reduceLT, Int.reduceNeg, Int.reduceEq, Int.reduceNe, Nat.reduceBEq, Nat.reduceMul, Nat.reducePow, Int.cast_ofNat_Int, *])
      exact ⟨arows l, k9.of, h10, rowsW_refl _⟩
    | some x =>
      obtain ⟨a, v⟩ := x
      have hll2 := (List.getElem?_eq_some_iff.1 hc).1
      have hlt : (i : Int) < (l.length : Int) := by omega
      have hw := wrap1 (n := l.length) hll2 (by omega)
      have hget := once_get ho hc
      simp only at hget
      have hal : a.length ≤ maxLen := hl.key_len aliT (a, v) (List.mem_of_getElem? hc)
      rw [hc] at hg
      simp only [Option.map_some] at hg
      have htk : l.take (i + 1) = l.take i ++ [(a, v)] := by rw [List.take_add_one, hc]; rfl
      have k9 := Keep.mk h9
      clear hc h9
      have hgd : (getA a l).getD [] = v := by rw [hget]; rfl
      clear hget
      (simp only [go_sem, reduceIte, Nat.reduceEqDiff, Nat.reduceLT, Nat.reduceLeDiff, Nat.reduceAdd, reduceCtorEq, Int.reduceToNat, Int.reduceLE, Int.reduceLT, Int.reduceNeg, Int.reduceEq, Int.reduceNe, Nat.reduceBEq, Nat.reduceMul, Nat.reducePow, Int.cast_ofNat_Int, *])
      refine OpW_QV (QV_lookup rfl aliT rfl h8 hl rfl hal) rfl ?_
      (simp only [go_sem, reduceIte, Nat.reduceEqDiff, Nat.reduceLT, Nat.reduceLeDiff, Nat.reduceAdd, reduceCtorEq, Int.reduceToNat, Int.reduceLE, Int.reduceLT, Int.reduceNeg, Int.reduceEq, Int.reduceNe, Nat.reduceBEq, Nat.reduceMul, Nat.reducePow, Int.cast_ofNat_Int, *])
      refine OpW_append (rows := [[.str a, .str v]]) (olds := arows (l.take i)) (ps := p) rfl appAlias rfl rfl (fun r hr c hc => by simp at hr; subst hr; simp at hc; rcases hc with rfl | rfl <;> rfl) rfl k9.of (by simp only [List.length_cons, List.length_nil, arows_len, List.length_take, maxLen]; omega) (by simp only [List.length_cons, List.length_nil, arows_len, List.length_take]; omega) ?_
      rintro p1 S2 g1 g2 g3
      obtain ⟨j1, j2⟩ := grow_le h7 h10 g2 g3
      have hb2 : S2 b = some ob := j1 _ _ hb
      have g1' : Grows S2 2 132 (arows (l.take (i + 1))) p1 := by rw [htk, arows_app]; exact g1
      have k1 := Keep.mk g1'
      clear g1 g1' g2 g3 k9 htk h7 h8 h10
      (simp only [go_sem, reduceIte, Nat.reduceEqDiff, Nat.reduceLT, Nat.reduceLeDiff, Nat.reduceAdd, reduceCtorEq, Int.reduceToNat, Int.reduceLE, Int.reduceLT, Int.reduceNeg, Int.reduceEq, Int.reduceNe, Nat.reduceBEq, Nat.reduceMul, Nat.reducePow, Int.cast_ofNat_Int, *])
      exact ⟨m - 1, by omega, i + 1, _, by omega, rfl, rfl, k1.of, j2⟩
end Go.Proofs.Ytcbonfgkfiapaaa.Pv
