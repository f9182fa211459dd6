/- What the laws of package alias compute: the second part. -/
import Derived.Test.YtcbonfgkfiapaaaAli4
set_option linter.unusedVariables false
set_option linter.unusedSimpArgs false
set_option maxRecDepth 100000
set_option maxHeartbeats 40000000
namespace Go.Proofs.Ytcbonfgkfiapaaa.Pv
open Go Go.RowKit

theorem OpA_boxW {P : Program} {n : Nat} {σ : Regs} {S : Heap} {o : Oper} {K : Regs → Heap → Prop} {t : TypeId} {x : Operand} {cs cs' : List PV} (ho : o.op = .box t x) (hc : cellsOf (ev σ x) = some cs) (hw : WkL cs cs') (hd : okDst n o.dst = true)
    (hK : ∀ b, S b = none → K (updO σ o.dst (.mp b 0)) (S.set b (.cells cs' t))) : OpA P n o σ S K := by
  intro w0 S0 w a hs hx next Qx hnext
  have hv := rep_cells (rep_ev hs x) hc
  have hrun : (execOp a.eval o).run P w = .ok (.value (.pointer (some ⟨w.heap.size, 0, none⟩))) (w.alloc (.cells (a.eval x).cells t)) := by
    simp only [execOp, ho, Instr.box, Sem.run_bind, Result.andThen_ok, Sem.run_pure, newVar, newRow]
    rfl
  have he : Ext w S (w.alloc (.cells (a.eval x).cells t)) (S.set w.heap.size (.cells cs' t)) := ⟨rfl, rfl, rfl, by simp, fun b hb hs => ⟨by unfold Heap.set; rw [if_neg (by omega)]; exact hs, Below.heap_alloc _ _ _ hb⟩⟩
  obtain ⟨h1, h2, h3⟩ := new_block hs (.cells (a.eval x).cells t) (.cells cs' t) ⟨(a.eval x).cells, alloc_block w _, RepVals.keep he.keeps _ (hw _ _ _ hv)⟩
  simp only [Oper.wp, hrun, Oper.upon]
  exact hnext _ _ _ _ (h2.put (okDst_spec hd) (by simp only [Rep])) (hx.trans h3) (hK _ h1)
theorem MapS.len_le {P : Program} {k e : TypeId} {n : Nat} {l : TMap} {o : MObj} (h : MapS P k e n l o) : l.length ≤ n := by
  obtain ⟨es, clock, _, F, hs, hd⟩ := h
  unfold dOf at hd
  simp only [DataW.map.injEq] at hd
  have := congrArg List.length hd
  rw [length_sorted] at this
  simp at this
  omega
/-- The table behind a Set. -/
def setT (s v : Txt) (l : TMap) : TMap := if setCode s v l = 0 then setA s v l else l
theorem aliSet_any (b n : Nat) (l : TMap) (ob : MObj) (s v : Txt) (hs : s.length ≤ 4611686018427387904) (hn : n < maxLen) (S : Heap) (hb : S b = some ob) (hl : AMap n l ob) : CallsA Try.prog 72 [.ref [.omap b], .str s, .str v] S
    (fun q S' => q = .int .i64 (setCode s v l) ∧ ∃ ob', AMap (n + 1) (setT s v l) ob' ∧ S' = S.set b ob') := by
  refine (aliSet_calls b n l ob s v hs hn S hb hl).mono ?_
  rintro q S' ⟨rfl, ⟨h, rfl⟩ | ⟨h, h2⟩⟩
  · refine ⟨rfl, ob, ?_, (Heap.set_same hb).symm⟩
    unfold setT
    rw [if_neg h]
    exact hl.mono (Nat.le_succ _)
  · refine ⟨rfl, ?_⟩
    unfold setT
    rw [if_pos h]
    exact h2
theorem aliUnset_any (b n : Nat) (l : TMap) (ob : MObj) (s : Txt) (hs : s.length ≤ maxLen) (S : Heap) (hb : S b = some ob) (hl : AMap n l ob) : CallsA Try.prog 74 [.ref [.omap b], .str s] S
    (fun q S' => q = .bool (getA s l).isSome ∧ ∃ ob', AMap n (delA s l) ob' ∧ S' = S.set b ob') := by
  refine (aliUnset_calls b n l ob s hs S hb hl).mono ?_
  rintro q S' ⟨rfl, ⟨h, rfl⟩ | ⟨h, h2⟩⟩
  · refine ⟨rfl, ob, ?_, (Heap.set_same hb).symm⟩
    rw [del_none h]
    exact hl
  · exact ⟨rfl, h2⟩
/-- A call that is asked for. -/
abbrev AOp := Int × Txt × Txt
def orow (x : AOp) : List PV := [.int .i64 x.1, .str x.2.1, .str x.2.2]
def orows (l : List AOp) : List (List PV) := l.map orow
theorem orows_len (l : List AOp) : (orows l).length = l.length := by simp [orows]
theorem orows_get (l : List AOp) (i : Nat) : (orows l)[i]? = (l[i]?).map orow := by simp [orows]

theorem aliasTwins_calls (l : List AOp) (s : Txt) (S : Heap) : CallsQ Try.prog 16 [.slice 3 (orows l), .str s] S (.bool true) := by
  have haw := awake36_calls
  have hml : (4611686018427387904 : Nat) < maxLen := by decide
  have hol := orows_len l
  refine CallsQ_less ?_
  refine CallsA_W (fun _ => false) Try.func16 rfl (Nat.le_of_ble_eq_true rfl) ?_
  simp only [Try.f16]
  by_cases c1 : (1000 : Int) < (s.length : Int)
  · (simp only [go_sem, reduceIte, Nat.reduceEqDiff, Nat.reduceLT, Nat.reduceLeDiff, Nat.reduceAdd, reduceCtorEq, Int.reduceToNat, Int.reduceLE, Int.reduceLT, Int.reduceNeg, Int.reduceEq, Int.reduceNe, Nat.reduceBEq, Nat.reduceMul, Nat.reducePow, Int.cast_ofNat_Int, *])
    (repeat' first | ((first | refine split_d ?_ ?_ | refine split_gt rfl ?_ ?_ | refine split_gf rfl ?_ ?_ | refine split_b ?_ ?_ | refine split_gb rfl ?_ ?_) <;> intro _ <;> ((try simp only [go_sem, reduceIte, Nat.reduceEqDiff, Nat.reduceLT, Nat.reduceLeDiff, Nat.reduceAdd, reduceCtorEq, Int.reduceToNat, Int.reduceLE, Int.reduceLT, Int.reduceNeg, Int.reduceEq, Int.reduceNe, Nat.reduceBEq, Nat.reduceMul, Nat.reducePow, Int.cast_ofNat_Int, *]))) | ((first | (refine OpW_call rfl rfl call71 rfl ((haw _).mono ?_)) | fail) <;> (rintro p_ S_ ⟨rfl, rfl⟩; (try simp only [go_sem, reduceIte, Nat.reduceEqDiff, Nat.reduceLT, Nat.reduceLeDiff, Nat.reduceAdd, reduceCtorEq, Int.reduceToNat, Int.reduceLE, Int.reduceLT, Int.reduceNeg, Int.reduceEq, Int.reduceNe, Nat.reduceBEq, Nat.reduceMul, Nat.reducePow, Int.cast_ofNat_Int, *]))) | fail)
    exact Heap.le_refl _
  (simp only [go_sem, reduceIte, Nat.reduceEqDiff, Nat.reduceLT, Nat.reduceLeDiff, Nat.reduceAdd, reduceCtorEq, Int.reduceToNat, Int.reduceLE, Int.reduceLT, Int.reduceNeg, Int.reduceEq, Int.reduceNe, Nat.reduceBEq, Nat.reduceMul, Nat.reducePow, Int.cast_ofNat_Int, *])
  refine OpW_call rfl rfl call70 rfl ((aliNew_calls S).mono ?_)
  rintro q0 S0 ⟨b, hb, rfl, rfl⟩
  (simp only [go_sem, reduceIte, Nat.reduceEqDiff, Nat.reduceLT, Nat.reduceLeDiff, Nat.reduceAdd, reduceCtorEq, Int.reduceToNat, Int.reduceLE, Int.reduceLT, Int.reduceNeg, Int.reduceEq, Int.reduceNe, Nat.reduceBEq, Nat.reduceMul, Nat.reducePow, Int.cast_ofNat_Int, *])
  refine CodeW_loop (fun m σ' S' => ∃ (i : Nat) (T : TMap) (ob : MObj), i + m = 40 ∧ σ' 0 = .slice 3 (orows l) ∧ σ' 1 = .str s ∧ σ' 5 = .ref [.omap b] ∧ σ' 6 = .int .i64 i ∧ AMap i T ob ∧ S' = S.set b ob) 40 ?_ ?_
  · (simp only [go_sem, reduceIte, Nat.reduceEqDiff, Nat.reduceLT, Nat.reduceLeDiff, Nat.reduceAdd, reduceCtorEq, Int.reduceToNat, Int.reduceLE, Int.reduceLT, Int.reduceNeg, Int.reduceEq, Int.reduceNe, Nat.reduceBEq, Nat.reduceMul, Nat.reducePow, Int.cast_ofNat_Int, *])
    exact ⟨0, [], _, by omega, rfl, MapS.none _ _ _, rfl⟩
  · rintro m σ' S' ⟨i, T, ob, h1, h2, h3, h4, h5, h6, rfl⟩
    have hb1 : (S.set b ob) b = some ob := by rw [set_apply, if_pos rfl]
    have hTl := h6.len_le
    by_cases hgo : (i : Int) < (l.length : Int) ∧ (i : Int) < 40
    · obtain ⟨hlt, h40⟩ := hgo
      obtain ⟨x, hc⟩ : ∃ x, l[i]? = some x := ⟨l[i]'(by omega), List.getElem?_eq_getElem _⟩
      obtain ⟨k, nm, vl⟩ := x
      have hg := orows_get l i
      rw [hc] at hg
      simp only [Option.map_some, orow] at hg
      have hw := wrap1 (n := 41) (i := i) (by omega) (by omega)
      clear hc
      by_cases d1 : (nm.length : Int) ≤ 1000
      · by_cases d2 : (vl.length : Int) ≤ 1000
        · have hset := aliSet_any b i T ob nm vl (by omega) (by omega) _ hb1 h6
          (simp only [go_sem, reduceIte, Nat.reduceEqDiff, Nat.reduceLT, Nat.reduceLeDiff, Nat.reduceAdd, reduceCtorEq, Int.reduceToNat, Int.reduceLE, Int.reduceLT, Int.reduceNeg, Int.reduceEq, Int.reduceNe, Nat.reduceBEq, Nat.reduceMul, Nat.reducePow, Int.cast_ofNat_Int, *])
          refine CodeW_quiet mixed 11 (by kernel_rfl) ?_
          (simp only [go_sem, reduceIte, Nat.reduceEqDiff, Nat.reduceLT, Nat.reduceLeDiff, Nat.reduceAdd, reduceCtorEq, Int.reduceToNat, Int.reduceLE, Int.reduceLT, Int.reduceNeg, Int.reduceEq, Int.reduceNe, Nat.reduceBEq, Nat.reduceMul, Nat.reducePow, Int.cast_ofNat_Int, *])
          refine OpW_call rfl rfl call72 rfl (hset.mono ?_)
          rintro q1 S1 ⟨rfl, ob', k1, rfl⟩
          rw [Heap.set_set]
          clear hset
          (simp only [go_sem, reduceIte, Nat.reduceEqDiff, Nat.reduceLT, Nat.reduceLeDiff, Nat.reduceAdd, reduceCtorEq, Int.reduceToNat, Int.reduceLE, Int.reduceLT, Int.reduceNeg, Int.reduceEq, Int.reduceNe, Nat.reduceBEq, Nat.reduceMul, Nat.reducePow, Int.cast_ofNat_Int, *])
          exact ⟨m - 1, by omega, i + 1, setT nm vl T, ob', by omega, rfl, k1, rfl⟩
        · (simp only [go_sem, reduceIte, Nat.reduceEqDiff, Nat.reduceLT, Nat.reduceLeDiff, Nat.reduceAdd, reduceCtorEq, Int.reduceToNat, Int.reduceLE, Int.reduceLT, Int.reduceNeg, Int.reduceEq, Int.reduceNe, Nat.reduceBEq, Nat.reduceMul, Nat.reducePow, Int.cast_ofNat_Int, *])
          exact ⟨m - 1, by omega, i + 1, T, ob, by omega, rfl, h6.mono (Nat.le_succ _), rfl⟩
      · (simp only [go_sem, reduceIte, Nat.reduceEqDiff, Nat.reduceLT, Nat.reduceLeDiff, Nat.reduceAdd, reduceCtorEq, Int.reduceToNat, Int.reduceLE, Int.reduceLT, Int.reduceNeg, Int.reduceEq, Int.reduceNe, Nat.reduceBEq, Nat.reduceMul, Nat.reducePow, Int.cast_ofNat_Int, *])
        exact ⟨m - 1, by omega, i + 1, T, ob, by omega, rfl, h6.mono (Nat.le_succ _), rfl⟩
    · have htw := aliTwin_calls b i T ob _ hb1 h6
      have hli := fun (S' : Heap) (h : S' b = some ob) => aliList_calls sortedC b i T ob (by omega) h6 (by omega) S' h
      have hsm := refSame36_calls T (by omega)
      generalize hSb : S.set b ob = Sb at *
      have hle : S.le Sb := by rw [← hSb]; exact Heap.le_set hb
      have fin : ∀ (c : Nat), Sb c = none → ∀ ob2, (Sb.set c ob2) b = some ob ∧ S.le (Sb.set c ob2) := by
        intro c hc ob2
        have hbc : b ≠ c := fun e => by subst e; rw [hb1] at hc; cases hc
        exact ⟨by rw [set_apply, if_neg hbc]; exact hb1, Heap.le_trans hle (Heap.le_set hc)⟩
      clear hSb
      by_cases hlt : (i : Int) < (l.length : Int)
      · have h40 : ¬ (i : Int) < 40 := fun h => hgo ⟨hlt, h⟩
        clear hgo
        (simp only [go_sem, reduceIte, Nat.reduceEqDiff, Nat.reduceLT, Nat.reduceLeDiff, Nat.reduceAdd, reduceCtorEq, Int.reduceToNat, Int.reduceLE, Int.reduceLT, Int.reduceNeg, Int.reduceEq, Int.reduceNe, Nat.reduceBEq, Nat.reduceMul, Nat.reducePow, Int.cast_ofNat_Int, *])
        refine OpW_call rfl rfl call81 rfl (htw.mono ?_)
        rintro q1 S1 ⟨c, hc, rfl, rfl⟩
        obtain ⟨f1, f2⟩ := fin c hc ob
        have hc1 : (Sb.set c ob) c = some ob := by rw [set_apply, if_pos rfl]
        have hl1 := hli _ f1
        have hl2 := aliList_calls sortedC c i T ob (by omega) h6 (by omega) _ hc1
        have hun := aliUnset_any c i T ob s (by omega) _ hc1 h6
        clear htw f1 f2 hc1
        (simp only [go_sem, reduceIte, Nat.reduceEqDiff, Nat.reduceLT, Nat.reduceLeDiff, Nat.reduceAdd, reduceCtorEq, Int.reduceToNat, Int.reduceLE, Int.reduceLT, Int.reduceNeg, Int.reduceEq, Int.reduceNe, Nat.reduceBEq, Nat.reduceMul, Nat.reducePow, Int.cast_ofNat_Int, *])
        (repeat' first | ((first | refine split_d ?_ ?_ | refine split_gt rfl ?_ ?_ | refine split_gf rfl ?_ ?_ | refine split_b ?_ ?_ | refine split_gb rfl ?_ ?_) <;> intro _ <;> ((try simp only [go_sem, reduceIte, Nat.reduceEqDiff, Nat.reduceLT, Nat.reduceLeDiff, Nat.reduceAdd, reduceCtorEq, Int.reduceToNat, Int.reduceLE, Int.reduceLT, Int.reduceNeg, Int.reduceEq, Int.reduceNe, Nat.reduceBEq, Nat.reduceMul, Nat.reducePow, Int.cast_ofNat_Int, *]))) | ((first | (refine OpW_call rfl rfl call80 rfl ((hl1).mono ?_)) | (refine OpW_call rfl rfl call80 rfl ((hl2).mono ?_)) | (refine OpW_call rfl rfl call79 rfl ((hsm _).mono ?_)) | fail) <;> (rintro p_ S_ ⟨rfl, rfl⟩; (try simp only [go_sem, reduceIte, Nat.reduceEqDiff, Nat.reduceLT, Nat.reduceLeDiff, Nat.reduceAdd, reduceCtorEq, Int.reduceToNat, Int.reduceLE, Int.reduceLT, Int.reduceNeg, Int.reduceEq, Int.reduceNe, Nat.reduceBEq, Nat.reduceMul, Nat.reducePow, Int.cast_ofNat_Int, *]))) | fail)
        refine OpW_call rfl rfl call74 rfl (hun.mono ?_)
        rintro q2 S2 ⟨rfl, ob3, k3, rfl⟩
        rw [Heap.set_set]
        have hset := aliSet_any c i _ ob3 [122, 122] [49] (by decide) (by omega) (Sb.set c ob3) (by rw [set_apply, if_pos rfl]) k3
        clear hl1 hl2 hun
        (simp only [go_sem, reduceIte, Nat.reduceEqDiff, Nat.reduceLT, Nat.reduceLeDiff, Nat.reduceAdd, reduceCtorEq, Int.reduceToNat, Int.reduceLE, Int.reduceLT, Int.reduceNeg, Int.reduceEq, Int.reduceNe, Nat.reduceBEq, Nat.reduceMul, Nat.reducePow, Int.cast_ofNat_Int, *])
        refine OpW_call rfl rfl call72 rfl (hset.mono ?_)
        rintro q3 S3 ⟨rfl, ob4, k4, rfl⟩
        rw [Heap.set_set]
        obtain ⟨f1, f2⟩ := fin c hc ob4
        have hl1 := hli _ f1
        clear hset f1
        (simp only [go_sem, reduceIte, Nat.reduceEqDiff, Nat.reduceLT, Nat.reduceLeDiff, Nat.reduceAdd, reduceCtorEq, Int.reduceToNat, Int.reduceLE, Int.reduceLT, Int.reduceNeg, Int.reduceEq, Int.reduceNe, Nat.reduceBEq, Nat.reduceMul, Nat.reducePow, Int.cast_ofNat_Int, *])
        (repeat' first | ((first | refine split_d ?_ ?_ | refine split_gt rfl ?_ ?_ | refine split_gf rfl ?_ ?_ | refine split_b ?_ ?_ | refine split_gb rfl ?_ ?_) <;> intro _ <;> ((try simp only [go_sem, reduceIte, Nat.reduceEqDiff, Nat.reduceLT, Nat.reduceLeDiff, Nat.reduceAdd, reduceCtorEq, Int.reduceToNat, Int.reduceLE, Int.reduceLT, Int.reduceNeg, Int.reduceEq, Int.reduceNe, Nat.reduceBEq, Nat.reduceMul, Nat.reducePow, Int.cast_ofNat_Int, *]))) | ((first | (refine OpW_call rfl rfl call80 rfl ((hl1).mono ?_)) | (refine OpW_call rfl rfl call79 rfl ((hsm _).mono ?_)) | (refine OpW_call rfl rfl call71 rfl ((haw _).mono ?_)) | fail) <;> (rintro p_ S_ ⟨rfl, rfl⟩; (try simp only [go_sem, reduceIte, Nat.reduceEqDiff, Nat.reduceLT, Nat.reduceLeDiff, Nat.reduceAdd, reduceCtorEq, Int.reduceToNat, Int.reduceLE, Int.reduceLT, Int.reduceNeg, Int.reduceEq, Int.reduceNe, Nat.reduceBEq, Nat.reduceMul, Nat.reducePow, Int.cast_ofNat_Int, *]))) | fail)
        all_goals exact f2
      · clear hgo
        (simp only [go_sem, reduceIte, Nat.reduceEqDiff, Nat.reduceLT, Nat.reduceLeDiff, Nat.reduceAdd, reduceCtorEq, Int.reduceToNat, Int.reduceLE, Int.reduceLT, Int.reduceNeg, Int.reduceEq, Int.reduceNe, Nat.reduceBEq, Nat.reduceMul, Nat.reducePow, Int.cast_ofNat_Int, *])
        refine OpW_call rfl rfl call81 rfl (htw.mono ?_)
        rintro q1 S1 ⟨c, hc, rfl, rfl⟩
        obtain ⟨f1, f2⟩ := fin c hc ob
        have hc1 : (Sb.set c ob) c = some ob := by rw [set_apply, if_pos rfl]
        have hl1 := hli _ f1
        have hl2 := aliList_calls sortedC c i T ob (by omega) h6 (by omega) _ hc1
        have hun := aliUnset_any c i T ob s (by omega) _ hc1 h6
        clear htw f1 f2 hc1
        (simp only [go_sem, reduceIte, Nat.reduceEqDiff, Nat.reduceLT, Nat.reduceLeDiff, Nat.reduceAdd, reduceCtorEq, Int.reduceToNat, Int.reduceLE, Int.reduceLT, Int.reduceNeg, Int.reduceEq, Int.reduceNe, Nat.reduceBEq, Nat.reduceMul, Nat.reducePow, Int.cast_ofNat_Int, *])
        (repeat' first | ((first | refine split_d ?_ ?_ | refine split_gt rfl ?_ ?_ | refine split_gf rfl ?_ ?_ | refine split_b ?_ ?_ | refine split_gb rfl ?_ ?_) <;> intro _ <;> ((try simp only [go_sem, reduceIte, Nat.reduceEqDiff, Nat.reduceLT, Nat.reduceLeDiff, Nat.reduceAdd, reduceCtorEq, Int.reduceToNat, Int.reduceLE, Int.reduceLT, Int.reduceNeg, Int.reduceEq, Int.reduceNe, Nat.reduceBEq, Nat.reduceMul, Nat.reducePow, Int.cast_ofNat_Int, *]))) | ((first | (refine OpW_call rfl rfl call80 rfl ((hl1).mono ?_)) | (refine OpW_call rfl rfl call80 rfl ((hl2).mono ?_)) | (refine OpW_call rfl rfl call79 rfl ((hsm _).mono ?_)) | fail) <;> (rintro p_ S_ ⟨rfl, rfl⟩; (try simp only [go_sem, reduceIte, Nat.reduceEqDiff, Nat.reduceLT, Nat.reduceLeDiff, Nat.reduceAdd, reduceCtorEq, Int.reduceToNat, Int.reduceLE, Int.reduceLT, Int.reduceNeg, Int.reduceEq, Int.reduceNe, Nat.reduceBEq, Nat.reduceMul, Nat.reducePow, Int.cast_ofNat_Int, *]))) | fail)
        refine OpW_call rfl rfl call74 rfl (hun.mono ?_)
        rintro q2 S2 ⟨rfl, ob3, k3, rfl⟩
        rw [Heap.set_set]
        have hset := aliSet_any c i _ ob3 [122, 122] [49] (by decide) (by omega) (Sb.set c ob3) (by rw [set_apply, if_pos rfl]) k3
        clear hl1 hl2 hun
        (simp only [go_sem, reduceIte, Nat.reduceEqDiff, Nat.reduceLT, Nat.reduceLeDiff, Nat.reduceAdd, reduceCtorEq, Int.reduceToNat, Int.reduceLE, Int.reduceLT, Int.reduceNeg, Int.reduceEq, Int.reduceNe, Nat.reduceBEq, Nat.reduceMul, Nat.reducePow, Int.cast_ofNat_Int, *])
        refine OpW_call rfl rfl call72 rfl (hset.mono ?_)
        rintro q3 S3 ⟨rfl, ob4, k4, rfl⟩
        rw [Heap.set_set]
        obtain ⟨f1, f2⟩ := fin c hc ob4
        have hl1 := hli _ f1
        clear hset f1
        (simp only [go_sem, reduceIte, Nat.reduceEqDiff, Nat.reduceLT, Nat.reduceLeDiff, Nat.reduceAdd, reduceCtorEq, Int.reduceToNat, Int.reduceLE, Int.reduceLT, Int.reduceNeg, Int.reduceEq, Int.reduceNe, Nat.reduceBEq, Nat.reduceMul, Nat.reducePow, Int.cast_ofNat_Int, *])
        (repeat' first | ((first | refine split_d ?_ ?_ | refine split_gt rfl ?_ ?_ | refine split_gf rfl ?_ ?_ | refine split_b ?_ ?_ | refine split_gb rfl ?_ ?_) <;> intro _ <;> ((try simp only [go_sem, reduceIte, Nat.reduceEqDiff, Nat.reduceLT, Nat.reduceLeDiff, Nat.reduceAdd, reduceCtorEq, Int.reduceToNat, Int.reduceLE, Int.reduceLT, Int.reduceNeg, Int.reduceEq, Int.reduceNe, Nat.reduceBEq, Nat.reduceMul, Nat.reducePow, Int.cast_ofNat_Int, *]))) | ((first | (refine OpW_call rfl rfl call80 rfl ((hl1).mono ?_)) | (refine OpW_call rfl rfl call79 rfl ((hsm _).mono ?_)) | (refine OpW_call rfl rfl call71 rfl ((haw _).mono ?_)) | fail) <;> (rintro p_ S_ ⟨rfl, rfl⟩; (try simp only [go_sem, reduceIte, Nat.reduceEqDiff, Nat.reduceLT, Nat.reduceLeDiff, Nat.reduceAdd, reduceCtorEq, Int.reduceToNat, Int.reduceLE, Int.reduceLT, Int.reduceNeg, Int.reduceEq, Int.reduceNe, Nat.reduceBEq, Nat.reduceMul, Nat.reducePow, Int.cast_ofNat_Int, *]))) | fail)
        all_goals exact f2
end Go.Proofs.Ytcbonfgkfiapaaa.Pv
