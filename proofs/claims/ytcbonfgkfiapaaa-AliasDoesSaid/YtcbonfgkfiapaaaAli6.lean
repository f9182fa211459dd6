/- What the laws of package alias compute: AliasDoes. -/
import Derived.Test.YtcbonfgkfiapaaaAli5
set_option linter.unusedVariables false
set_option linter.unusedSimpArgs false
set_option maxRecDepth 100000
set_option maxHeartbeats 40000000
namespace Go.Proofs.Ytcbonfgkfiapaaa.Pv
open Go Go.RowKit

/-- There is a map behind a store. -/
theorem AMap.step {n : Nat} {l : TMap} {ob : MObj} {s v : Txt} (h : AMap n l ob) (hs : s.length ≤ maxLen) (hv : v.length ≤ maxLen) (hn : n < maxLen) : ∃ ob', AMap (n + 1) (setA s v l) ob' := by
  obtain ⟨x, rfl⟩ := h.raw
  obtain ⟨w, hw⟩ : ∃ w : World, w.heap[0]? = some x := ⟨{ (default : World) with heap := #[x] }, rfl⟩
  have hown := h.owns (w := w) (im := fun _ => True) (b := 0) hw
  obtain ⟨w', h1, h2, h3⟩ := hown.store (Maps.string_keyed aliT.key) aliT.map hn (key_str aliT.key hs) (elem_str aliT.elem hv)
  rw [dOf_put] at h2
  obtain ⟨o, _, h4⟩ := MapS.of h2
  exact ⟨_, h4⟩
theorem AMap.stepT {n : Nat} {l : TMap} {ob : MObj} {s v : Txt} (h : AMap n l ob) (hs : s.length ≤ maxLen) (hv : v.length ≤ maxLen) (hn : n < maxLen) : ∃ ob', AMap (n + 1) (setT s v l) ob' := by
  unfold setT
  split
  · exact h.step hs hv hn
  · exact ⟨ob, h.mono (Nat.le_succ _)⟩
theorem AMap.del {n : Nat} {l : TMap} {ob : MObj} {s : Txt} (h : AMap n l ob) (hs : s.length ≤ maxLen) : ∃ ob', AMap n (delA s l) ob' := by
  obtain ⟨x, rfl⟩ := h.raw
  obtain ⟨w, hw⟩ : ∃ w : World, w.heap[0]? = some x := ⟨{ (default : World) with heap := #[x] }, rfl⟩
  have hown := h.owns (w := w) (im := fun _ => True) (b := 0) hw
  obtain ⟨w', h1, h2, h3⟩ := hown.drop (Maps.string_keyed aliT.key) aliT.map (key_str aliT.key hs) 0
  rw [dOf_del] at h2
  obtain ⟨o, _, h4⟩ := MapS.of h2
  exact ⟨_, h4⟩
theorem AMap.once {n : Nat} {l : TMap} {ob : MObj} (h : AMap n l ob) : Once l := once_of (h.sorted aliT)
theorem aliasDoes_calls (l : List AOp) (S : Heap) : CallsQ Try.prog 14 [.slice 3 (orows l)] S (.bool true) := by
  have haw := awake36_calls
  have hml : (4611686018427387904 : Nat) < maxLen := by decide
  have hol := orows_len l
  have hu := Try.underlying72
  refine CallsQ_less ?_
  refine CallsA_W (fun t => decide (t = 12)) Try.func14 rfl (Nat.le_of_ble_eq_true rfl) ?_
  simp only [Try.f14]
  (simp only [go_sem, reduceIte, Nat.reduceEqDiff, Nat.reduceLT, Nat.reduceLeDiff, Nat.reduceAdd, reduceCtorEq, Int.reduceToNat, Int.reduceLE, Int.reduceLT, Int.reduceNeg, Int.reduceEq, Int.reduceNe, Nat.reduceBEq, Nat.reduceMul, Nat.reducePow, Int.cast_ofNat_Int, *])
  refine OpW_call rfl rfl call70 rfl ((aliNew_calls S).mono ?_)
  rintro q0 S0 ⟨b, hb, rfl, rfl⟩
  (simp only [go_sem, reduceIte, Nat.reduceEqDiff, Nat.reduceLT, Nat.reduceLeDiff, Nat.reduceAdd, reduceCtorEq, Int.reduceToNat, Int.reduceLE, Int.reduceLT, Int.reduceNeg, Int.reduceEq, Int.reduceNe, Nat.reduceBEq, Nat.reduceMul, Nat.reducePow, Int.cast_ofNat_Int, *])
  refine OpW_of (OpA_boxW (cs := [.sl0]) (cs' := [.slice 2 []]) rfl rfl (WkL.cons (Wk.sl0 2) WkL.nil) rfl fun r hr => ?_)
  have hrb : r ≠ b := fun e => by subst e; rw [set_apply, if_pos rfl] at hr; cases hr
  have hSr : S r = none := by rw [set_apply, if_neg hrb] at hr; exact hr
  have i1 : ((S.set b (.raw (.map #[] 0))).set r (.cells [.slice 2 []] 72)) b = some (.raw (.map #[] 0)) := by rw [set_apply, if_neg (Ne.symm hrb), set_apply, if_pos rfl]
  have i2 : RT r [] ((S.set b (.raw (.map #[] 0))).set r (.cells [.slice 2 []] 72)) := by unfold RT; rw [set_apply, if_pos rfl]; rfl
  have i3 : S.le ((S.set b (.raw (.map #[] 0))).set r (.cells [.slice 2 []] 72)) := Heap.le_trans (Heap.le_set hb) (Heap.le_set hr)
  generalize (S.set b (.raw (.map #[] 0))).set r (.cells [.slice 2 []] 72) = S0 at *
  clear hr
  (simp only [go_sem, reduceIte, Nat.reduceEqDiff, Nat.reduceLT, Nat.reduceLeDiff, Nat.reduceAdd, reduceCtorEq, Int.reduceToNat, Int.reduceLE, Int.reduceLT, Int.reduceNeg, Int.reduceEq, Int.reduceNe, Nat.reduceBEq, Nat.reduceMul, Nat.reducePow, Int.cast_ofNat_Int, *])
  refine CodeW_loop (fun m σ' S' => ∃ (i : Nat) (T : TMap) (ob : MObj), i + m = 80 ∧ σ' 0 = .slice 3 (orows l) ∧ σ' 3 = .ref [.omap b] ∧ σ' 4 = .mp r 0 ∧ σ' 5 = .int .i64 i ∧ AMap i T ob ∧ S' b = some ob ∧ RT r T S' ∧ S.le S') 80 ?_ ?_
  · (simp only [go_sem, reduceIte, Nat.reduceEqDiff, Nat.reduceLT, Nat.reduceLeDiff, Nat.reduceAdd, reduceCtorEq, Int.reduceToNat, Int.reduceLE, Int.reduceLT, Int.reduceNeg, Int.reduceEq, Int.reduceNe, Nat.reduceBEq, Nat.reduceMul, Nat.reducePow, Int.cast_ofNat_Int, *])
    exact ⟨0, [], _, by omega, rfl, MapS.none _ _ _, rfl, i2⟩
  · rintro m σ' S' ⟨i, T, ob, h1, h2, h3, h4, h5, h6, h7, h8, h9⟩
    clear i1 i2 i3
    have hTl := h6.len_le
    by_cases hgo : (i : Int) < (l.length : Int) ∧ (i : Int) < 80
    · obtain ⟨hlt, h40⟩ := hgo
      obtain ⟨x, hc⟩ : ∃ x, l[i]? = some x := ⟨l[i]'(by omega), List.getElem?_eq_getElem _⟩
      obtain ⟨k, nm, vl⟩ := x
      have hg := orows_get l i
      rw [hc] at hg
      simp only [Option.map_some, orow] at hg
      have hw := wrap1 (n := 81) (i := i) (by omega) (by omega)
      clear hc
      by_cases d1 : (1000 : Int) < (nm.length : Int)
      · (simp only [go_sem, reduceIte, Nat.reduceEqDiff, Nat.reduceLT, Nat.reduceLeDiff, Nat.reduceAdd, reduceCtorEq, Int.reduceToNat, Int.reduceLE, Int.reduceLT, Int.reduceNeg, Int.reduceEq, Int.reduceNe, Nat.reduceBEq, Nat.reduceMul, Nat.reducePow, Int.cast_ofNat_Int, *])
        (repeat' first | ((first | refine split_d ?_ ?_ | refine split_gt rfl ?_ ?_ | refine split_gf rfl ?_ ?_ | refine split_b ?_ ?_ | refine split_gb rfl ?_ ?_) <;> intro _ <;> ((try simp only [go_sem, reduceIte, Nat.reduceEqDiff, Nat.reduceLT, Nat.reduceLeDiff, Nat.reduceAdd, reduceCtorEq, Int.reduceToNat, Int.reduceLE, Int.reduceLT, Int.reduceNeg, Int.reduceEq, Int.reduceNe, Nat.reduceBEq, Nat.reduceMul, Nat.reducePow, Int.cast_ofNat_Int, *]))) | ((first | (refine OpW_call rfl rfl call71 rfl ((haw _).mono ?_)) | fail) <;> (rintro p_ S_ ⟨rfl, rfl⟩; (try simp only [go_sem, reduceIte, Nat.reduceEqDiff, Nat.reduceLT, Nat.reduceLeDiff, Nat.reduceAdd, reduceCtorEq, Int.reduceToNat, Int.reduceLE, Int.reduceLT, Int.reduceNeg, Int.reduceEq, Int.reduceNe, Nat.reduceBEq, Nat.reduceMul, Nat.reducePow, Int.cast_ofNat_Int, *]))) | fail)
      by_cases d2 : (1000 : Int) < (vl.length : Int)
      · (simp only [go_sem, reduceIte, Nat.reduceEqDiff, Nat.reduceLT, Nat.reduceLeDiff, Nat.reduceAdd, reduceCtorEq, Int.reduceToNat, Int.reduceLE, Int.reduceLT, Int.reduceNeg, Int.reduceEq, Int.reduceNe, Nat.reduceBEq, Nat.reduceMul, Nat.reducePow, Int.cast_ofNat_Int, *])
        (repeat' first | ((first | refine split_d ?_ ?_ | refine split_gt rfl ?_ ?_ | refine split_gf rfl ?_ ?_ | refine split_b ?_ ?_ | refine split_gb rfl ?_ ?_) <;> intro _ <;> ((try simp only [go_sem, reduceIte, Nat.reduceEqDiff, Nat.reduceLT, Nat.reduceLeDiff, Nat.reduceAdd, reduceCtorEq, Int.reduceToNat, Int.reduceLE, Int.reduceLT, Int.reduceNeg, Int.reduceEq, Int.reduceNe, Nat.reduceBEq, Nat.reduceMul, Nat.reducePow, Int.cast_ofNat_Int, *]))) | ((first | (refine OpW_call rfl rfl call71 rfl ((haw _).mono ?_)) | fail) <;> (rintro p_ S_ ⟨rfl, rfl⟩; (try simp only [go_sem, reduceIte, Nat.reduceEqDiff, Nat.reduceLT, Nat.reduceLeDiff, Nat.reduceAdd, reduceCtorEq, Int.reduceToNat, Int.reduceLE, Int.reduceLT, Int.reduceNeg, Int.reduceEq, Int.reduceNe, Nat.reduceBEq, Nat.reduceMul, Nat.reducePow, Int.cast_ofNat_Int, *]))) | fail)
      by_cases k0 : k = 0
      · have hset := aliSet_any b i T ob nm vl (by omega) (by omega) S' h7 h6
        obtain ⟨obx, hx⟩ := h6.stepT (s := nm) (v := vl) (by omega) (by omega) (by omega)
        (simp only [go_sem, reduceIte, Nat.reduceEqDiff, Nat.reduceLT, Nat.reduceLeDiff, Nat.reduceAdd, reduceCtorEq, Int.reduceToNat, Int.reduceLE, Int.reduceLT, Int.reduceNeg, Int.reduceEq, Int.reduceNe, Nat.reduceBEq, Nat.reduceMul, Nat.reducePow, Int.cast_ofNat_Int, *])
        refine CodeW_any mixed [.pure, .pure, .pure, .pure, .pure, .pure, .pure, .pure, .pure, .pure, .pure, .call (.func 72) #[.tmp 47, .tmp 52, .tmp 57] #[67, 9, 9], .pure, .pure, .pure, .pure, .pure, .pure, .pure, .pure, .pure, .pure, .pure] (by kernel_rfl) (by kernel_rfl) ⟨trivial, trivial, trivial, trivial, trivial, trivial, trivial, trivial, trivial, trivial, trivial, rfl, trivial, trivial, trivial, trivial, trivial, trivial, trivial, trivial, trivial, trivial, trivial, trivial⟩ ?_
        simp only [List.zip_cons_cons, List.zip_nil_right, List.zip_nil_left]
        (simp only [go_sem, reduceIte, Nat.reduceEqDiff, Nat.reduceLT, Nat.reduceLeDiff, Nat.reduceAdd, reduceCtorEq, Int.reduceToNat, Int.reduceLE, Int.reduceLT, Int.reduceNeg, Int.reduceEq, Int.reduceNe, Nat.reduceBEq, Nat.reduceMul, Nat.reducePow, Int.cast_ofNat_Int, *])
        refine RunL_call rfl rfl call72 hset ⟨_, _, ⟨rfl, obx, hx, rfl⟩, fun h => h.set⟩ ?_
        rintro q1 S1 ⟨rfl, ob', k1, rfl⟩
        have hrT : RT r T (S'.set b ob') := by unfold RT at h8 ⊢; rw [set_apply, if_neg hrb]; exact h8
        have hrs := refSet_calls r T nm vl (by omega) (by omega) (by omega) h6.once (S'.set b ob') hrT
        clear hset hx
        (simp only [go_sem, reduceIte, Nat.reduceEqDiff, Nat.reduceLT, Nat.reduceLeDiff, Nat.reduceAdd, reduceCtorEq, Int.reduceToNat, Int.reduceLE, Int.reduceLT, Int.reduceNeg, Int.reduceEq, Int.reduceNe, Nat.reduceBEq, Nat.reduceMul, Nat.reducePow, Int.cast_ofNat_Int, *])
        refine OpW_call rfl rfl call73 rfl (hrs.mono ?_)
        rintro q2 S2 ⟨rfl, hr2, hre⟩
        have kb : S2 b = some ob' := hre b ob' (Ne.symm hrb) (by rw [set_apply, if_pos rfl])
        have hle2 : S.le S2 := by
          intro c y hc
          have hcb : c ≠ b := fun e => by subst e; rw [hb] at hc; cases hc
          have hcr : c ≠ r := fun e => by subst e; rw [hSr] at hc; cases hc
          refine hre c y hcr ?_
          rw [set_apply, if_neg hcb]
          exact h9 c y hc
        have hr2' : RT r (setT nm vl T) S2 := hr2
        clear hr2 hrs hre hrT h7 h8 h9 h6
        have hr2 := hr2'
        have k2 := k1
        clear hr2' k1
        generalize setT nm vl T = T2 at *
        generalize ob' = ob2 at *
        have hb2 : S2 b = some ob2 := kb
        have hg1 := aliGet_calls b (i + 1) T2 ob2 nm (by omega) S2 hb2 k2
        have hg2 := refGet_calls r T2 nm (by have := k2.len_le; omega) S2 hr2
        have hl1 := aliLen_calls b (i + 1) T2 ob2 S2 hb2 k2
        have hal := arows_len T2
        unfold RT at hr2
        (simp only [go_sem, reduceIte, Nat.reduceEqDiff, Nat.reduceLT, Nat.reduceLeDiff, Nat.reduceAdd, reduceCtorEq, Int.reduceToNat, Int.reduceLE, Int.reduceLT, Int.reduceNeg, Int.reduceEq, Int.reduceNe, Nat.reduceBEq, Nat.reduceMul, Nat.reducePow, Int.cast_ofNat_Int, *])
        (repeat' first | ((first | refine split_d ?_ ?_ | refine split_gt rfl ?_ ?_ | refine split_gf rfl ?_ ?_ | refine split_b ?_ ?_ | refine split_gb rfl ?_ ?_) <;> intro _ <;> ((try simp only [go_sem, reduceIte, Nat.reduceEqDiff, Nat.reduceLT, Nat.reduceLeDiff, Nat.reduceAdd, reduceCtorEq, Int.reduceToNat, Int.reduceLE, Int.reduceLT, Int.reduceNeg, Int.reduceEq, Int.reduceNe, Nat.reduceBEq, Nat.reduceMul, Nat.reducePow, Int.cast_ofNat_Int, *]))) | ((first | (refine OpW_call rfl rfl call76 rfl ((hg1).mono ?_)) | (refine OpW_call rfl rfl call77 rfl ((hg2).mono ?_)) | fail) <;> (rintro p_ S_ ⟨rfl, rfl⟩; (try simp only [go_sem, reduceIte, Nat.reduceEqDiff, Nat.reduceLT, Nat.reduceLeDiff, Nat.reduceAdd, reduceCtorEq, Int.reduceToNat, Int.reduceLE, Int.reduceLT, Int.reduceNeg, Int.reduceEq, Int.reduceNe, Nat.reduceBEq, Nat.reduceMul, Nat.reducePow, Int.cast_ofNat_Int, *]))) | fail)
        refine CodeW_quiet mixed 18 (by kernel_rfl) ?_
        (simp only [go_sem, reduceIte, Nat.reduceEqDiff, Nat.reduceLT, Nat.reduceLeDiff, Nat.reduceAdd, reduceCtorEq, Int.reduceToNat, Int.reduceLE, Int.reduceLT, Int.reduceNeg, Int.reduceEq, Int.reduceNe, Nat.reduceBEq, Nat.reduceMul, Nat.reducePow, Int.cast_ofNat_Int, *])
        refine QCW_call rfl rfl call78 hl1 ?_
        (simp only [go_sem, reduceIte, Nat.reduceEqDiff, Nat.reduceLT, Nat.reduceLeDiff, Nat.reduceAdd, reduceCtorEq, Int.reduceToNat, Int.reduceLE, Int.reduceLT, Int.reduceNeg, Int.reduceEq, Int.reduceNe, Nat.reduceBEq, Nat.reduceMul, Nat.reducePow, Int.cast_ofNat_Int, *])
        exact ⟨m - 1, by omega, i + 1, T2, ob2, by omega, rfl, k2, rfl, hr2⟩
      · by_cases k1 : k = 1
        · have hun := aliUnset_any b i T ob nm (by omega) S' h7 h6
          obtain ⟨obx, hx⟩ := h6.del (s := nm) (by omega)
          clear k0
          (simp only [go_sem, reduceIte, Nat.reduceEqDiff, Nat.reduceLT, Nat.reduceLeDiff, Nat.reduceAdd, reduceCtorEq, Int.reduceToNat, Int.reduceLE, Int.reduceLT, Int.reduceNeg, Int.reduceEq, Int.reduceNe, Nat.reduceBEq, Nat.reduceMul, Nat.reducePow, Int.cast_ofNat_Int, *])
          refine CodeW_any mixed [.pure, .pure, .pure, .pure, .pure, .pure, .call (.func 74) #[.tmp 74, .tmp 79] #[67, 9], .pure, .pure, .pure, .pure, .pure, .pure] (by kernel_rfl) (by kernel_rfl) ⟨trivial, trivial, trivial, trivial, trivial, trivial, rfl, trivial, trivial, trivial, trivial, trivial, trivial, trivial⟩ ?_
          simp only [List.zip_cons_cons, List.zip_nil_right, List.zip_nil_left]
          (simp only [go_sem, reduceIte, Nat.reduceEqDiff, Nat.reduceLT, Nat.reduceLeDiff, Nat.reduceAdd, reduceCtorEq, Int.reduceToNat, Int.reduceLE, Int.reduceLT, Int.reduceNeg, Int.reduceEq, Int.reduceNe, Nat.reduceBEq, Nat.reduceMul, Nat.reducePow, Int.cast_ofNat_Int, *])
          refine RunL_call rfl rfl call74 hun ⟨_, _, ⟨rfl, obx, hx, rfl⟩, fun h => h.set⟩ ?_
          rintro q1 S1 ⟨rfl, ob', k1, rfl⟩
          have hrT : RT r T (S'.set b ob') := by unfold RT at h8 ⊢; rw [set_apply, if_neg hrb]; exact h8
          have hrs := refUnset_calls r T nm (by omega) h6.once (S'.set b ob') hrT
          clear hun hx
          (simp only [go_sem, reduceIte, Nat.reduceEqDiff, Nat.reduceLT, Nat.reduceLeDiff, Nat.reduceAdd, reduceCtorEq, Int.reduceToNat, Int.reduceLE, Int.reduceLT, Int.reduceNeg, Int.reduceEq, Int.reduceNe, Nat.reduceBEq, Nat.reduceMul, Nat.reducePow, Int.cast_ofNat_Int, *])
          refine OpW_call rfl rfl call75 rfl (hrs.mono ?_)
          rintro q2 S2 ⟨rfl, hr2, hre⟩
          have kb : S2 b = some ob' := hre b ob' (Ne.symm hrb) (by rw [set_apply, if_pos rfl])
          have hle2 : S.le S2 := by
            intro c y hc
            have hcb : c ≠ b := fun e => by subst e; rw [hb] at hc; cases hc
            have hcr : c ≠ r := fun e => by subst e; rw [hSr] at hc; cases hc
            refine hre c y hcr ?_
            rw [set_apply, if_neg hcb]
            exact h9 c y hc
          have k2 := k1.mono (Nat.le_succ i)
          clear hrs hre hrT h7 h8 h9 h6 k1
          generalize delA nm T = T2 at *
          generalize ob' = ob2 at *
          generalize (getA nm T).isSome = gs at *
          have hb2 : S2 b = some ob2 := kb
          have hg1 := aliGet_calls b (i + 1) T2 ob2 nm (by omega) S2 hb2 k2
          have hg2 := refGet_calls r T2 nm (by have := k2.len_le; omega) S2 hr2
          have hl1 := aliLen_calls b (i + 1) T2 ob2 S2 hb2 k2
          have hal := arows_len T2
          unfold RT at hr2
          (simp only [go_sem, reduceIte, Nat.reduceEqDiff, Nat.reduceLT, Nat.reduceLeDiff, Nat.reduceAdd, reduceCtorEq, Int.reduceToNat, Int.reduceLE, Int.reduceLT, Int.reduceNeg, Int.reduceEq, Int.reduceNe, Nat.reduceBEq, Nat.reduceMul, Nat.reducePow, Int.cast_ofNat_Int, *])
          (repeat' first | ((first | refine split_d ?_ ?_ | refine split_gt rfl ?_ ?_ | refine split_gf rfl ?_ ?_ | refine split_b ?_ ?_ | refine split_gb rfl ?_ ?_) <;> intro _ <;> ((try simp only [go_sem, reduceIte, Nat.reduceEqDiff, Nat.reduceLT, Nat.reduceLeDiff, Nat.reduceAdd, reduceCtorEq, Int.reduceToNat, Int.reduceLE, Int.reduceLT, Int.reduceNeg, Int.reduceEq, Int.reduceNe, Nat.reduceBEq, Nat.reduceMul, Nat.reducePow, Int.cast_ofNat_Int, *]))) | ((first | (refine OpW_call rfl rfl call76 rfl ((hg1).mono ?_)) | (refine OpW_call rfl rfl call77 rfl ((hg2).mono ?_)) | fail) <;> (rintro p_ S_ ⟨rfl, rfl⟩; (try simp only [go_sem, reduceIte, Nat.reduceEqDiff, Nat.reduceLT, Nat.reduceLeDiff, Nat.reduceAdd, reduceCtorEq, Int.reduceToNat, Int.reduceLE, Int.reduceLT, Int.reduceNeg, Int.reduceEq, Int.reduceNe, Nat.reduceBEq, Nat.reduceMul, Nat.reducePow, Int.cast_ofNat_Int, *]))) | fail)
          refine CodeW_quiet mixed 18 (by kernel_rfl) ?_
          (simp only [go_sem, reduceIte, Nat.reduceEqDiff, Nat.reduceLT, Nat.reduceLeDiff, Nat.reduceAdd, reduceCtorEq, Int.reduceToNat, Int.reduceLE, Int.reduceLT, Int.reduceNeg, Int.reduceEq, Int.reduceNe, Nat.reduceBEq, Nat.reduceMul, Nat.reducePow, Int.cast_ofNat_Int, *])
          refine QCW_call rfl rfl call78 hl1 ?_
          (simp only [go_sem, reduceIte, Nat.reduceEqDiff, Nat.reduceLT, Nat.reduceLeDiff, Nat.reduceAdd, reduceCtorEq, Int.reduceToNat, Int.reduceLE, Int.reduceLT, Int.reduceNeg, Int.reduceEq, Int.reduceNe, Nat.reduceBEq, Nat.reduceMul, Nat.reducePow, Int.cast_ofNat_Int, *])
          exact ⟨m - 1, by omega, i + 1, T2, ob2, by omega, rfl, k2, rfl, hr2⟩
        · have k2 := h6.mono (Nat.le_succ i)
          have kb := h7
          have hr2 := h8
          have hle2 := h9
          clear h6 h7 h8 h9
          generalize hT2 : T = T2 at *
          generalize hob2 : ob = ob2 at *
          generalize hS2 : S' = S2 at *
          have hb2 : S2 b = some ob2 := kb
          have hg1 := aliGet_calls b (i + 1) T2 ob2 nm (by omega) S2 hb2 k2
          have hg2 := refGet_calls r T2 nm (by have := k2.len_le; omega) S2 hr2
          have hl1 := aliLen_calls b (i + 1) T2 ob2 S2 hb2 k2
          have hal := arows_len T2
          unfold RT at hr2
          (simp only [go_sem, reduceIte, Nat.reduceEqDiff, Nat.reduceLT, Nat.reduceLeDiff, Nat.reduceAdd, reduceCtorEq, Int.reduceToNat, Int.reduceLE, Int.reduceLT, Int.reduceNeg, Int.reduceEq, Int.reduceNe, Nat.reduceBEq, Nat.reduceMul, Nat.reducePow, Int.cast_ofNat_Int, *])
          (repeat' first | ((first | refine split_d ?_ ?_ | refine split_gt rfl ?_ ?_ | refine split_gf rfl ?_ ?_ | refine split_b ?_ ?_ | refine split_gb rfl ?_ ?_) <;> intro _ <;> ((try simp only [go_sem, reduceIte, Nat.reduceEqDiff, Nat.reduceLT, Nat.reduceLeDiff, Nat.reduceAdd, reduceCtorEq, Int.reduceToNat, Int.reduceLE, Int.reduceLT, Int.reduceNeg, Int.reduceEq, Int.reduceNe, Nat.reduceBEq, Nat.reduceMul, Nat.reducePow, Int.cast_ofNat_Int, *]))) | ((first | (refine OpW_call rfl rfl call76 rfl ((hg1).mono ?_)) | (refine OpW_call rfl rfl call77 rfl ((hg2).mono ?_)) | fail) <;> (rintro p_ S_ ⟨rfl, rfl⟩; (try simp only [go_sem, reduceIte, Nat.reduceEqDiff, Nat.reduceLT, Nat.reduceLeDiff, Nat.reduceAdd, reduceCtorEq, Int.reduceToNat, Int.reduceLE, Int.reduceLT, Int.reduceNeg, Int.reduceEq, Int.reduceNe, Nat.reduceBEq, Nat.reduceMul, Nat.reducePow, Int.cast_ofNat_Int, *]))) | fail)
          refine CodeW_quiet mixed 18 (by kernel_rfl) ?_
          (simp only [go_sem, reduceIte, Nat.reduceEqDiff, Nat.reduceLT, Nat.reduceLeDiff, Nat.reduceAdd, reduceCtorEq, Int.reduceToNat, Int.reduceLE, Int.reduceLT, Int.reduceNeg, Int.reduceEq, Int.reduceNe, Nat.reduceBEq, Nat.reduceMul, Nat.reducePow, Int.cast_ofNat_Int, *])
          refine QCW_call rfl rfl call78 hl1 ?_
          (simp only [go_sem, reduceIte, Nat.reduceEqDiff, Nat.reduceLT, Nat.reduceLeDiff, Nat.reduceAdd, reduceCtorEq, Int.reduceToNat, Int.reduceLE, Int.reduceLT, Int.reduceNeg, Int.reduceEq, Int.reduceNe, Nat.reduceBEq, Nat.reduceMul, Nat.reducePow, Int.cast_ofNat_Int, *])
          exact ⟨m - 1, by omega, i + 1, T2, ob2, by omega, rfl, k2, rfl, hr2⟩
    · have hli := aliList_calls sortedC b i T ob (by omega) h6 (by omega) S' h7
      have hsm := refSame36_calls T (by omega)
      unfold RT at h8
      by_cases hlt : (i : Int) < (l.length : Int)
      · have h40 : ¬ (i : Int) < 80 := fun h => hgo ⟨hlt, h⟩
        clear hgo
        (simp only [go_sem, reduceIte, Nat.reduceEqDiff, Nat.reduceLT, Nat.reduceLeDiff, Nat.reduceAdd, reduceCtorEq, Int.reduceToNat, Int.reduceLE, Int.reduceLT, Int.reduceNeg, Int.reduceEq, Int.reduceNe, Nat.reduceBEq, Nat.reduceMul, Nat.reducePow, Int.cast_ofNat_Int, *])
        refine CodeW_quiet mixed 10 (by kernel_rfl) ?_
        (simp only [go_sem, reduceIte, Nat.reduceEqDiff, Nat.reduceLT, Nat.reduceLeDiff, Nat.reduceAdd, reduceCtorEq, Int.reduceToNat, Int.reduceLE, Int.reduceLT, Int.reduceNeg, Int.reduceEq, Int.reduceNe, Nat.reduceBEq, Nat.reduceMul, Nat.reducePow, Int.cast_ofNat_Int, *])
        refine QCW_call rfl rfl call80 hli ?_
        (simp only [go_sem, reduceIte, Nat.reduceEqDiff, Nat.reduceLT, Nat.reduceLeDiff, Nat.reduceAdd, reduceCtorEq, Int.reduceToNat, Int.reduceLE, Int.reduceLT, Int.reduceNeg, Int.reduceEq, Int.reduceNe, Nat.reduceBEq, Nat.reduceMul, Nat.reducePow, Int.cast_ofNat_Int, *])
        refine QCW_call rfl rfl call79 (hsm _) ?_
        (simp only [go_sem, reduceIte, Nat.reduceEqDiff, Nat.reduceLT, Nat.reduceLeDiff, Nat.reduceAdd, reduceCtorEq, Int.reduceToNat, Int.reduceLE, Int.reduceLT, Int.reduceNeg, Int.reduceEq, Int.reduceNe, Nat.reduceBEq, Nat.reduceMul, Nat.reducePow, Int.cast_ofNat_Int, *])
        refine QCW_call rfl rfl call71 (haw _) ?_
        (simp only [go_sem, reduceIte, Nat.reduceEqDiff, Nat.reduceLT, Nat.reduceLeDiff, Nat.reduceAdd, reduceCtorEq, Int.reduceToNat, Int.reduceLE, Int.reduceLT, Int.reduceNeg, Int.reduceEq, Int.reduceNe, Nat.reduceBEq, Nat.reduceMul, Nat.reducePow, Int.cast_ofNat_Int, *])
      · clear hgo
        (simp only [go_sem, reduceIte, Nat.reduceEqDiff, Nat.reduceLT, Nat.reduceLeDiff, Nat.reduceAdd, reduceCtorEq, Int.reduceToNat, Int.reduceLE, Int.reduceLT, Int.reduceNeg, Int.reduceEq, Int.reduceNe, Nat.reduceBEq, Nat.reduceMul, Nat.reducePow, Int.cast_ofNat_Int, *])
        refine CodeW_quiet mixed 10 (by kernel_rfl) ?_
        (simp only [go_sem, reduceIte, Nat.reduceEqDiff, Nat.reduceLT, Nat.reduceLeDiff, Nat.reduceAdd, reduceCtorEq, Int.reduceToNat, Int.reduceLE, Int.reduceLT, Int.reduceNeg, Int.reduceEq, Int.reduceNe, Nat.reduceBEq, Nat.reduceMul, Nat.reducePow, Int.cast_ofNat_Int, *])
        refine QCW_call rfl rfl call80 hli ?_
        (simp only [go_sem, reduceIte, Nat.reduceEqDiff, Nat.reduceLT, Nat.reduceLeDiff, Nat.reduceAdd, reduceCtorEq, Int.reduceToNat, Int.reduceLE, Int.reduceLT, Int.reduceNeg, Int.reduceEq, Int.reduceNe, Nat.reduceBEq, Nat.reduceMul, Nat.reducePow, Int.cast_ofNat_Int, *])
        refine QCW_call rfl rfl call79 (hsm _) ?_
        (simp only [go_sem, reduceIte, Nat.reduceEqDiff, Nat.reduceLT, Nat.reduceLeDiff, Nat.reduceAdd, reduceCtorEq, Int.reduceToNat, Int.reduceLE, Int.reduceLT, Int.reduceNeg, Int.reduceEq, Int.reduceNe, Nat.reduceBEq, Nat.reduceMul, Nat.reducePow, Int.cast_ofNat_Int, *])
        refine QCW_call rfl rfl call71 (haw _) ?_
        (simp only [go_sem, reduceIte, Nat.reduceEqDiff, Nat.reduceLT, Nat.reduceLeDiff, Nat.reduceAdd, reduceCtorEq, Int.reduceToNat, Int.reduceLE, Int.reduceLT, Int.reduceNeg, Int.reduceEq, Int.reduceNe, Nat.reduceBEq, Nat.reduceMul, Nat.reducePow, Int.cast_ofNat_Int, *])
end Go.Proofs.Ytcbonfgkfiapaaa.Pv
