/- What the laws of package alias compute: the first part. -/
import Derived.Test.YtcbonfgkfiapaaaAliS
import Derived.Test.YtcbonfgkfiapaaaShelfM
set_option linter.unusedVariables false
set_option linter.unusedSimpArgs false
set_option maxRecDepth 100000
set_option maxHeartbeats 40000000
namespace Go.Proofs.Ytcbonfgkfiapaaa.Pv
open Go Go.RowKit

theorem aliClone_calls (b n : Nat) (l : TMap) (ob : MObj) (S : Heap) (hb : S b = some ob) (hl : AMap n l ob) : CallsA Try.prog 121 [.omap b] S (fun q S' => ∃ c, S c = none ∧ q = .omap c ∧ S' = S.set c ob) := by
  intro w args hv hh
  have hargs : args = #[.map (some b)] := by
    simp only [RepVals, Rep] at hv
    obtain ⟨v, r, hv, rfl, rfl⟩ := hv
    exact Array.ext' (by simpa using hv)
  subst hargs
  obtain ⟨es, clock, rfl, h1, h2, h3⟩ := hl
  have hblk : w.heap[b]? = some (.map es clock) := hh b _ hb
  refine (AnyW.maps_Clone Try.clone121 b es clock w hblk).mono ?_
  rintro e w' ⟨rfl, rfl⟩
  have hst : St 0 w S ⟨#[], []⟩ (fun _ => .any) := ⟨rfl, rfl, fun t => by simp only [Rep], hh⟩
  obtain ⟨e1, e2, e3⟩ := new_block hst (.map es clock) (.raw (.map es clock)) (alloc_block w _)
  exact ⟨_, .omap w.heap.size, _, rfl, by simp only [Rep], e2.heap, e3, _, e1, rfl, rfl⟩
theorem aliTwin_calls (b n : Nat) (l : TMap) (ob : MObj) (S : Heap) (hb : S b = some ob) (hl : AMap n l ob) : CallsA Try.prog 81 [.ref [.omap b]] S (fun q S' => ∃ c, S c = none ∧ q = .ref [.omap c] ∧ S' = S.set c ob) := by
  have hu := Try.underlying130
  have hc := aliClone_calls b n l ob S hb hl
  refine CallsA_W (fun _ => false) Try.func81 rfl (Nat.le_of_ble_eq_true rfl) ?_
  simp only [Try.f81]
  (simp only [go_sem, reduceIte, Nat.reduceEqDiff, Nat.reduceLT, Nat.reduceLeDiff, Nat.reduceAdd, reduceCtorEq, Int.reduceToNat, Int.reduceLE, Int.reduceLT, Int.reduceNeg, Int.reduceEq, Int.reduceNe, Nat.reduceBEq, Nat.reduceMul, Nat.reducePow, Int.cast_ofNat_Int, *])
  refine OpW_call rfl rfl call121 rfl (hc.mono ?_)
  rintro q1 S1 ⟨c, hcn, rfl, rfl⟩
  (simp only [go_sem, reduceIte, Nat.reduceEqDiff, Nat.reduceLT, Nat.reduceLeDiff, Nat.reduceAdd, reduceCtorEq, Int.reduceToNat, Int.reduceLE, Int.reduceLT, Int.reduceNeg, Int.reduceEq, Int.reduceNe, Nat.reduceBEq, Nat.reduceMul, Nat.reducePow, Int.cast_ofNat_Int, *])
  exact ⟨c, hcn, rfl, rfl⟩
theorem aliTwin_nil (S : Heap) : CallsQ Try.prog 81 [.nilp] S .nilp := by
  refine CallsA_W (fun _ => false) Try.func81 rfl (Nat.le_of_ble_eq_true rfl) ?_
  simp only [Try.f81]
  (simp only [go_sem, reduceIte, Nat.reduceEqDiff, Nat.reduceLT, Nat.reduceLeDiff, Nat.reduceAdd, reduceCtorEq, Int.reduceToNat, Int.reduceLE, Int.reduceLT, Int.reduceNeg, Int.reduceEq, Int.reduceNe, Nat.reduceBEq, Nat.reduceMul, Nat.reducePow, Int.cast_ofNat_Int, *])
theorem aliSet_ok (b n : Nat) (l : TMap) (ob : MObj) (s v : Txt) (hs : s.length ≤ 4611686018427387904) (hn : n < maxLen) (S : Heap) (hb : S b = some ob) (hl : AMap n l ob) (hc : setCode s v l = 0) : CallsA Try.prog 72 [.ref [.omap b], .str s, .str v] S
    (fun q S' => q = .int .i64 0 ∧ ∃ ob', AMap (n + 1) (setA s v l) ob' ∧ S' = S.set b ob') := by
  refine (aliSet_calls b n l ob s v hs hn S hb hl).mono ?_
  rintro q S' ⟨rfl, h | h⟩
  · exact absurd hc h.1
  · exact ⟨by rw [hc], h.2⟩
theorem aliSet_no (b n : Nat) (l : TMap) (ob : MObj) (s v : Txt) (hs : s.length ≤ 4611686018427387904) (hn : n < maxLen) (S : Heap) (hb : S b = some ob) (hl : AMap n l ob) (hc : setCode s v l ≠ 0) : CallsQ Try.prog 72 [.ref [.omap b], .str s, .str v] S (.int .i64 (setCode s v l)) := by
  refine (aliSet_calls b n l ob s v hs hn S hb hl).mono ?_
  rintro q S' ⟨rfl, h | h⟩
  · exact ⟨rfl, h.2⟩
  · exact absurd h.1 hc
theorem suffix_one (s : Txt) (c : UInt8) : Lib.hasSuffix s [c] = decide (s.getLast? = some c) := by
  unfold Lib.hasSuffix
  rcases List.eq_nil_or_concat s with rfl | ⟨t, x, rfl⟩
  · rfl
  · have h1 : ([c].isSuffixOf (t.concat x) = true) ↔ x = c := by
      rw [List.isSuffixOf_iff_suffix]
      constructor
      · rintro ⟨u, hu⟩
        have := congrArg List.getLast? hu
        simp at this
        exact this.symm
      · rintro rfl
        exact ⟨t, by simp⟩
    rw [Bool.eq_iff_iff, h1]
    simp
theorem awake36_calls (S : Heap) : CallsQ Try.prog 71 [] S (.bool true) := by
  have hml : (4 : Nat) < maxLen := by decide
  have c1 : setCode [98] [120, 32] [] = 0 := by decide +kernel
  have a1 : setA [98] [120, 32] [] = [([98], [120, 32])] := by decide +kernel
  have c2 : setCode [97] [121] [([98], [120, 32])] = 0 := by decide +kernel
  have a2 : setA [97] [121] [([98], [120, 32])] = [([97], [121]), ([98], [120, 32])] := by decide +kernel
  have g1 : getA [98] [([97], [121]), ([98], [120, 32])] = some [120, 32] := by decide +kernel
  have g2 : getA [97] [([97], [121]), ([98], [120, 32])] = some [121] := by decide +kernel
  have d2 : delA [97] [([97], [121]), ([98], [120, 32])] = [([98], [120, 32])] := by decide +kernel
  have c3 : setCode [97, 32, 98] [] [([98], [120, 32])] = 10 := by decide +kernel
  have hbl := aliBlank_calls [120, 32] (by decide)
  have hblv : (Lib.hasSuffix [120, 32] [32] || Lib.hasSuffix [120, 32] [9]) = true := by decide +kernel
  rw [hblv] at hbl
  refine CallsQ_less ?_
  refine CallsA_W (fun _ => false) Try.func71 rfl (Nat.le_of_ble_eq_true rfl) ?_
  simp only [Try.f71]
  (simp only [go_sem, reduceIte, Nat.reduceEqDiff, Nat.reduceLT, Nat.reduceLeDiff, Nat.reduceAdd, reduceCtorEq, Int.reduceToNat, Int.reduceLE, Int.reduceLT, Int.reduceNeg, Int.reduceEq, Int.reduceNe, Nat.reduceBEq, Nat.reduceMul, Nat.reducePow, Int.cast_ofNat_Int, *])
  refine OpW_call rfl rfl call70 rfl ((aliNew_calls S).mono ?_)
  rintro q0 S0 ⟨b, hb, rfl, rfl⟩
  (simp only [go_sem, reduceIte, Nat.reduceEqDiff, Nat.reduceLT, Nat.reduceLeDiff, Nat.reduceAdd, reduceCtorEq, Int.reduceToNat, Int.reduceLE, Int.reduceLT, Int.reduceNeg, Int.reduceEq, Int.reduceNe, Nat.reduceBEq, Nat.reduceMul, Nat.reducePow, Int.cast_ofNat_Int, *])
  refine OpW_call rfl rfl call72 rfl ((aliSet_ok b 0 [] _ [98] [120, 32] (by decide) (by omega) _ (by rw [set_apply, if_pos rfl]) (MapS.none _ _ _) c1).mono ?_)
  rintro q1 S1 ⟨rfl, ob1, h1, rfl⟩
  rw [Heap.set_set]
  rw [a1] at h1
  (simp only [go_sem, reduceIte, Nat.reduceEqDiff, Nat.reduceLT, Nat.reduceLeDiff, Nat.reduceAdd, reduceCtorEq, Int.reduceToNat, Int.reduceLE, Int.reduceLT, Int.reduceNeg, Int.reduceEq, Int.reduceNe, Nat.reduceBEq, Nat.reduceMul, Nat.reducePow, Int.cast_ofNat_Int, *])
  refine OpW_call rfl rfl call72 rfl ((aliSet_ok b 1 _ ob1 [97] [121] (by decide) (by omega) _ (by rw [set_apply, if_pos rfl]) h1 c2).mono ?_)
  rintro q2 S2 ⟨rfl, ob2, h2, rfl⟩
  rw [Heap.set_set]
  rw [a2] at h2
  have e2 : (S.set b ob2) b = some ob2 := by rw [set_apply, if_pos rfl]
  have hget := aliGet_calls b 2 _ ob2 [98] (by decide) _ e2 h2
  rw [g1] at hget
  simp only [Option.getD_some, Option.isSome_some] at hget
  have hlen := aliLen_calls b 2 _ ob2 _ e2 h2
  have hlist := aliList_calls sortedC b 2 _ ob2 (by omega) h2 (by simp) _ e2
  have hun := aliUnset_calls b 2 _ ob2 [97] (by decide) _ e2 h2
  rw [g2, d2] at hun
  simp only [List.length_cons, List.length_nil, Nat.reduceAdd] at hlen
  simp only [arows, arow, List.map_cons, List.map_nil] at hlist
  generalize hS2 : S.set b ob2 = S2 at *
  clear a1 a2 c1 c2 g1 g2 d2 h1 e2
  (simp only [go_sem, reduceIte, Nat.reduceEqDiff, Nat.reduceLT, Nat.reduceLeDiff, Nat.reduceAdd, reduceCtorEq, Int.reduceToNat, Int.reduceLE, Int.reduceLT, Int.reduceNeg, Int.reduceEq, Int.reduceNe, Nat.reduceBEq, Nat.reduceMul, Nat.reducePow, Int.cast_ofNat_Int, *])
  (repeat' first | ((first | refine split_d ?_ ?_ | refine split_gt rfl ?_ ?_ | refine split_gf rfl ?_ ?_ | refine split_b ?_ ?_ | refine split_gb rfl ?_ ?_) <;> intro _ <;> ((try simp only [go_sem, reduceIte, Nat.reduceEqDiff, Nat.reduceLT, Nat.reduceLeDiff, Nat.reduceAdd, reduceCtorEq, Int.reduceToNat, Int.reduceLE, Int.reduceLT, Int.reduceNeg, Int.reduceEq, Int.reduceNe, Nat.reduceBEq, Nat.reduceMul, Nat.reducePow, Int.cast_ofNat_Int, *]))) | ((first | (refine OpW_call rfl rfl call76 rfl ((hget).mono ?_)) | (refine OpW_call rfl rfl call82 rfl ((hbl _).mono ?_)) | (refine OpW_call rfl rfl call78 rfl ((hlen).mono ?_)) | (refine OpW_call rfl rfl call80 rfl ((hlist).mono ?_)) | fail) <;> (rintro p_ S_ ⟨rfl, rfl⟩; (try simp only [go_sem, reduceIte, Nat.reduceEqDiff, Nat.reduceLT, Nat.reduceLeDiff, Nat.reduceAdd, reduceCtorEq, Int.reduceToNat, Int.reduceLE, Int.reduceLT, Int.reduceNeg, Int.reduceEq, Int.reduceNe, Nat.reduceBEq, Nat.reduceMul, Nat.reducePow, Int.cast_ofNat_Int, *]))) | fail)
  refine OpW_call rfl rfl call74 rfl (hun.mono ?_)
  rintro q3 S3 ⟨rfl, ⟨h, _⟩ | ⟨_, ob3, h3, rfl⟩⟩
  · cases h
  subst hS2
  rw [Heap.set_set]
  have e3 : (S.set b ob3) b = some ob3 := by rw [set_apply, if_pos rfl]
  have hlen3 := aliLen_calls b 2 _ ob3 _ e3 h3
  simp only [List.length_cons, List.length_nil, Nat.reduceAdd] at hlen3
  have hset3 := aliSet_no b 2 _ ob3 [97, 32, 98] [] (by decide) (by omega) _ e3 h3 (by rw [c3]; decide)
  rw [c3] at hset3
  simp only [Option.isSome_some]
  have hle := Heap.le_set (o := ob3) hb
  generalize S.set b ob3 = S3 at *
  clear hun hget hlen hlist h2 c3
  (simp only [go_sem, reduceIte, Nat.reduceEqDiff, Nat.reduceLT, Nat.reduceLeDiff, Nat.reduceAdd, reduceCtorEq, Int.reduceToNat, Int.reduceLE, Int.reduceLT, Int.reduceNeg, Int.reduceEq, Int.reduceNe, Nat.reduceBEq, Nat.reduceMul, Nat.reducePow, Int.cast_ofNat_Int, *])
  (repeat' first | ((first | refine split_d ?_ ?_ | refine split_gt rfl ?_ ?_ | refine split_gf rfl ?_ ?_ | refine split_b ?_ ?_ | refine split_gb rfl ?_ ?_) <;> intro _ <;> ((try simp only [go_sem, reduceIte, Nat.reduceEqDiff, Nat.reduceLT, Nat.reduceLeDiff, Nat.reduceAdd, reduceCtorEq, Int.reduceToNat, Int.reduceLE, Int.reduceLT, Int.reduceNeg, Int.reduceEq, Int.reduceNe, Nat.reduceBEq, Nat.reduceMul, Nat.reducePow, Int.cast_ofNat_Int, *]))) | ((first | (refine OpW_call rfl rfl call78 rfl ((hlen3).mono ?_)) | (refine OpW_call rfl rfl call72 rfl ((hset3).mono ?_)) | fail) <;> (rintro p_ S_ ⟨rfl, rfl⟩; (try simp only [go_sem, reduceIte, Nat.reduceEqDiff, Nat.reduceLT, Nat.reduceLeDiff, Nat.reduceAdd, reduceCtorEq, Int.reduceToNat, Int.reduceLE, Int.reduceLT, Int.reduceNeg, Int.reduceEq, Int.reduceNe, Nat.reduceBEq, Nat.reduceMul, Nat.reducePow, Int.cast_ofNat_Int, *]))) | fail)
theorem aliasNone_calls (s v : Txt) (S : Heap) : CallsQ Try.prog 17 [.str s, .str v] S (.bool true) := by
  have haw := awake36_calls
  have h1 := aliGet_nil s
  have h2 := aliSet_nil s v
  have h3 := aliUnset_nil s
  have h4 := aliLen_nil
  have h5 := aliList_nil
  have h6 := aliTwin_nil
  have hw0 : IntKind.i64.wrap (0 + 0) = 0 := by decide
  refine CallsA_W (fun _ => false) Try.func17 rfl (Nat.le_of_ble_eq_true rfl) ?_
  simp only [Try.f17]
  by_cases c1 : (1000 : Int) < (s.length : Int)
  · (simp only [go_sem, reduceIte, Nat.reduceEqDiff, Nat.reduceLT, Nat.reduceLeDiff, Nat.reduceAdd, reduceCtorEq, Int.reduceToNat, Int.reduceLE, Int.reduceLT, Int.reduceNeg, Int.reduceEq, Int.reduceNe, Nat.reduceBEq, Nat.reduceMul, Nat.reducePow, Int.cast_ofNat_Int, *])
    (repeat' first | ((first | refine split_d ?_ ?_ | refine split_gt rfl ?_ ?_ | refine split_gf rfl ?_ ?_ | refine split_b ?_ ?_ | refine split_gb rfl ?_ ?_) <;> intro _ <;> ((try simp only [go_sem, reduceIte, Nat.reduceEqDiff, Nat.reduceLT, Nat.reduceLeDiff, Nat.reduceAdd, reduceCtorEq, Int.reduceToNat, Int.reduceLE, Int.reduceLT, Int.reduceNeg, Int.reduceEq, Int.reduceNe, Nat.reduceBEq, Nat.reduceMul, Nat.reducePow, Int.cast_ofNat_Int, *]))) | ((first | (refine OpW_call rfl rfl call71 rfl ((haw _).mono ?_)) | fail) <;> (rintro p_ S_ ⟨rfl, rfl⟩; (try simp only [go_sem, reduceIte, Nat.reduceEqDiff, Nat.reduceLT, Nat.reduceLeDiff, Nat.reduceAdd, reduceCtorEq, Int.reduceToNat, Int.reduceLE, Int.reduceLT, Int.reduceNeg, Int.reduceEq, Int.reduceNe, Nat.reduceBEq, Nat.reduceMul, Nat.reducePow, Int.cast_ofNat_Int, *]))) | fail)
  by_cases c2 : (1000 : Int) < (v.length : Int)
  · (simp only [go_sem, reduceIte, Nat.reduceEqDiff, Nat.reduceLT, Nat.reduceLeDiff, Nat.reduceAdd, reduceCtorEq, Int.reduceToNat, Int.reduceLE, Int.reduceLT, Int.reduceNeg, Int.reduceEq, Int.reduceNe, Nat.reduceBEq, Nat.reduceMul, Nat.reducePow, Int.cast_ofNat_Int, *])
    (repeat' first | ((first | refine split_d ?_ ?_ | refine split_gt rfl ?_ ?_ | refine split_gf rfl ?_ ?_ | refine split_b ?_ ?_ | refine split_gb rfl ?_ ?_) <;> intro _ <;> ((try simp only [go_sem, reduceIte, Nat.reduceEqDiff, Nat.reduceLT, Nat.reduceLeDiff, Nat.reduceAdd, reduceCtorEq, Int.reduceToNat, Int.reduceLE, Int.reduceLT, Int.reduceNeg, Int.reduceEq, Int.reduceNe, Nat.reduceBEq, Nat.reduceMul, Nat.reducePow, Int.cast_ofNat_Int, *]))) | ((first | (refine OpW_call rfl rfl call71 rfl ((haw _).mono ?_)) | fail) <;> (rintro p_ S_ ⟨rfl, rfl⟩; (try simp only [go_sem, reduceIte, Nat.reduceEqDiff, Nat.reduceLT, Nat.reduceLeDiff, Nat.reduceAdd, reduceCtorEq, Int.reduceToNat, Int.reduceLE, Int.reduceLT, Int.reduceNeg, Int.reduceEq, Int.reduceNe, Nat.reduceBEq, Nat.reduceMul, Nat.reducePow, Int.cast_ofNat_Int, *]))) | fail)
  have h7 := aliBlank_calls v (by omega)
  rw [suffix_one, suffix_one] at h7
  (simp only [go_sem, reduceIte, Nat.reduceEqDiff, Nat.reduceLT, Nat.reduceLeDiff, Nat.reduceAdd, reduceCtorEq, Int.reduceToNat, Int.reduceLE, Int.reduceLT, Int.reduceNeg, Int.reduceEq, Int.reduceNe, Nat.reduceBEq, Nat.reduceMul, Nat.reducePow, Int.cast_ofNat_Int, *])
  refine OpW_call rfl rfl call76 rfl ((h1 _).mono ?_)
  rintro q1 S1 ⟨rfl, rfl⟩
  rcases List.eq_nil_or_concat v with rfl | ⟨t, x, hvx⟩
  · simp only [List.getLast?_nil, reduceCtorEq, decide_false, Bool.or_self] at h7
    (simp only [go_sem, reduceIte, Nat.reduceEqDiff, Nat.reduceLT, Nat.reduceLeDiff, Nat.reduceAdd, reduceCtorEq, Int.reduceToNat, Int.reduceLE, Int.reduceLT, Int.reduceNeg, Int.reduceEq, Int.reduceNe, Nat.reduceBEq, Nat.reduceMul, Nat.reducePow, Int.cast_ofNat_Int, *])
    (repeat' first | ((first | refine split_d ?_ ?_ | refine split_gt rfl ?_ ?_ | refine split_gf rfl ?_ ?_ | refine split_b ?_ ?_ | refine split_gb rfl ?_ ?_) <;> intro _ <;> ((try simp only [go_sem, reduceIte, Nat.reduceEqDiff, Nat.reduceLT, Nat.reduceLeDiff, Nat.reduceAdd, reduceCtorEq, Int.reduceToNat, Int.reduceLE, Int.reduceLT, Int.reduceNeg, Int.reduceEq, Int.reduceNe, Nat.reduceBEq, Nat.reduceMul, Nat.reducePow, Int.cast_ofNat_Int, *]))) | ((first | (refine OpW_call rfl rfl call72 rfl ((h2 _).mono ?_)) | (refine OpW_call rfl rfl call74 rfl ((h3 _).mono ?_)) | (refine OpW_call rfl rfl call78 rfl ((h4 _).mono ?_)) | (refine OpW_call rfl rfl call80 rfl ((h5 _).mono ?_)) | (refine OpW_call rfl rfl call81 rfl ((h6 _).mono ?_)) | (refine OpW_call rfl rfl call82 rfl ((h7 _).mono ?_)) | (refine OpW_call rfl rfl call71 rfl ((haw _).mono ?_)) | fail) <;> (rintro p_ S_ ⟨rfl, rfl⟩; (try simp only [go_sem, reduceIte, Nat.reduceEqDiff, Nat.reduceLT, Nat.reduceLeDiff, Nat.reduceAdd, reduceCtorEq, Int.reduceToNat, Int.reduceLE, Int.reduceLT, Int.reduceNeg, Int.reduceEq, Int.reduceNe, Nat.reduceBEq, Nat.reduceMul, Nat.reducePow, Int.cast_ofNat_Int, *]))) | fail)
  · have hl : v.length = t.length + 1 := by rw [hvx]; simp
    have hlast : v.getLast? = some x := by rw [hvx]; simp
    have hx : v[t.length]? = some x := by rw [hvx]; simp
    have hw : IntKind.i64.wrap (((t.length + 1 : Nat) : Int) - 1) = ((t.length : Nat) : Int) := by rw [wrap_in (by omega)]; omega
    have hpos : (0 : Int) < ((t.length + 1 : Nat) : Int) := by omega
    rw [hlast] at h7
    have e32 : (some x = some (32 : UInt8)) ↔ (x.toNat : Int) = 32 := by
      rw [Option.some.injEq]; exact (u8_eq (d := 32)).symm
    have e9 : (some x = some (9 : UInt8)) ↔ (x.toNat : Int) = 9 := by
      rw [Option.some.injEq]; exact (u8_eq (d := 9)).symm
    simp only [e32, e9] at h7
    clear hvx hlast e32 e9
    by_cases b1 : (x.toNat : Int) = 32
    · simp only [b1, decide_true, Bool.true_or] at h7
      (simp only [go_sem, reduceIte, Nat.reduceEqDiff, Nat.reduceLT, Nat.reduceLeDiff, Nat.reduceAdd, reduceCtorEq, Int.reduceToNat, Int.reduceLE, Int.reduceLT, Int.reduceNeg, Int.reduceEq, Int.reduceNe, Nat.reduceBEq, Nat.reduceMul, Nat.reducePow, Int.cast_ofNat_Int, *])
      (repeat' first | ((first | refine split_d ?_ ?_ | refine split_gt rfl ?_ ?_ | refine split_gf rfl ?_ ?_ | refine split_b ?_ ?_ | refine split_gb rfl ?_ ?_) <;> intro _ <;> ((try simp only [go_sem, reduceIte, Nat.reduceEqDiff, Nat.reduceLT, Nat.reduceLeDiff, Nat.reduceAdd, reduceCtorEq, Int.reduceToNat, Int.reduceLE, Int.reduceLT, Int.reduceNeg, Int.reduceEq, Int.reduceNe, Nat.reduceBEq, Nat.reduceMul, Nat.reducePow, Int.cast_ofNat_Int, *]))) | ((first | (refine OpW_call rfl rfl call72 rfl ((h2 _).mono ?_)) | (refine OpW_call rfl rfl call74 rfl ((h3 _).mono ?_)) | (refine OpW_call rfl rfl call78 rfl ((h4 _).mono ?_)) | (refine OpW_call rfl rfl call80 rfl ((h5 _).mono ?_)) | (refine OpW_call rfl rfl call81 rfl ((h6 _).mono ?_)) | (refine OpW_call rfl rfl call82 rfl ((h7 _).mono ?_)) | (refine OpW_call rfl rfl call71 rfl ((haw _).mono ?_)) | fail) <;> (rintro p_ S_ ⟨rfl, rfl⟩; (try simp only [go_sem, reduceIte, Nat.reduceEqDiff, Nat.reduceLT, Nat.reduceLeDiff, Nat.reduceAdd, reduceCtorEq, Int.reduceToNat, Int.reduceLE, Int.reduceLT, Int.reduceNeg, Int.reduceEq, Int.reduceNe, Nat.reduceBEq, Nat.reduceMul, Nat.reducePow, Int.cast_ofNat_Int, *]))) | fail)
    · by_cases b2 : (x.toNat : Int) = 9
      · simp only [b1, b2, decide_true, decide_false, Bool.or_true] at h7
        (simp only [go_sem, reduceIte, Nat.reduceEqDiff, Nat.reduceLT, Nat.reduceLeDiff, Nat.reduceAdd, reduceCtorEq, Int.reduceToNat, Int.reduceLE, Int.reduceLT, Int.reduceNeg, Int.reduceEq, Int.reduceNe, Nat.reduceBEq, Nat.reduceMul, Nat.reducePow, Int.cast_ofNat_Int, *])
        (repeat' first | ((first | refine split_d ?_ ?_ | refine split_gt rfl ?_ ?_ | refine split_gf rfl ?_ ?_ | refine split_b ?_ ?_ | refine split_gb rfl ?_ ?_) <;> intro _ <;> ((try simp only [go_sem, reduceIte, Nat.reduceEqDiff, Nat.reduceLT, Nat.reduceLeDiff, Nat.reduceAdd, reduceCtorEq, Int.reduceToNat, Int.reduceLE, Int.reduceLT, Int.reduceNeg, Int.reduceEq, Int.reduceNe, Nat.reduceBEq, Nat.reduceMul, Nat.reducePow, Int.cast_ofNat_Int, *]))) | ((first | (refine OpW_call rfl rfl call72 rfl ((h2 _).mono ?_)) | (refine OpW_call rfl rfl call74 rfl ((h3 _).mono ?_)) | (refine OpW_call rfl rfl call78 rfl ((h4 _).mono ?_)) | (refine OpW_call rfl rfl call80 rfl ((h5 _).mono ?_)) | (refine OpW_call rfl rfl call81 rfl ((h6 _).mono ?_)) | (refine OpW_call rfl rfl call82 rfl ((h7 _).mono ?_)) | (refine OpW_call rfl rfl call71 rfl ((haw _).mono ?_)) | fail) <;> (rintro p_ S_ ⟨rfl, rfl⟩; (try simp only [go_sem, reduceIte, Nat.reduceEqDiff, Nat.reduceLT, Nat.reduceLeDiff, Nat.reduceAdd, reduceCtorEq, Int.reduceToNat, Int.reduceLE, Int.reduceLT, Int.reduceNeg, Int.reduceEq, Int.reduceNe, Nat.reduceBEq, Nat.reduceMul, Nat.reducePow, Int.cast_ofNat_Int, *]))) | fail)
      · simp only [b1, b2, decide_false, Bool.or_self] at h7
        (simp only [go_sem, reduceIte, Nat.reduceEqDiff, Nat.reduceLT, Nat.reduceLeDiff, Nat.reduceAdd, reduceCtorEq, Int.reduceToNat, Int.reduceLE, Int.reduceLT, Int.reduceNeg, Int.reduceEq, Int.reduceNe, Nat.reduceBEq, Nat.reduceMul, Nat.reducePow, Int.cast_ofNat_Int, *])
        (repeat' first | ((first | refine split_d ?_ ?_ | refine split_gt rfl ?_ ?_ | refine split_gf rfl ?_ ?_ | refine split_b ?_ ?_ | refine split_gb rfl ?_ ?_) <;> intro _ <;> ((try simp only [go_sem, reduceIte, Nat.reduceEqDiff, Nat.reduceLT, Nat.reduceLeDiff, Nat.reduceAdd, reduceCtorEq, Int.reduceToNat, Int.reduceLE, Int.reduceLT, Int.reduceNeg, Int.reduceEq, Int.reduceNe, Nat.reduceBEq, Nat.reduceMul, Nat.reducePow, Int.cast_ofNat_Int, *]))) | ((first | (refine OpW_call rfl rfl call72 rfl ((h2 _).mono ?_)) | (refine OpW_call rfl rfl call74 rfl ((h3 _).mono ?_)) | (refine OpW_call rfl rfl call78 rfl ((h4 _).mono ?_)) | (refine OpW_call rfl rfl call80 rfl ((h5 _).mono ?_)) | (refine OpW_call rfl rfl call81 rfl ((h6 _).mono ?_)) | (refine OpW_call rfl rfl call82 rfl ((h7 _).mono ?_)) | (refine OpW_call rfl rfl call71 rfl ((haw _).mono ?_)) | fail) <;> (rintro p_ S_ ⟨rfl, rfl⟩; (try simp only [go_sem, reduceIte, Nat.reduceEqDiff, Nat.reduceLT, Nat.reduceLeDiff, Nat.reduceAdd, reduceCtorEq, Int.reduceToNat, Int.reduceLE, Int.reduceLT, Int.reduceNeg, Int.reduceEq, Int.reduceNe, Nat.reduceBEq, Nat.reduceMul, Nat.reducePow, Int.cast_ofNat_Int, *]))) | fail)
end Go.Proofs.Ytcbonfgkfiapaaa.Pv
