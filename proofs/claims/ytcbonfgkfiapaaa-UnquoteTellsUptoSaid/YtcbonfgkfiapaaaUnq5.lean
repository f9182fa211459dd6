/- What unquote.Names computes. -/
import Derived.Test.YtcbonfgkfiapaaaUnq1
import Derived.Test.YtcbonfgkfiapaaaRng
import Derived.Test.YtcbonfgkfiapaaaChar3
set_option linter.unusedVariables false
set_option linter.unusedSimpArgs false
set_option maxRecDepth 100000
set_option maxHeartbeats 40000000
namespace Go.Proofs.Ytcbonfgkfiapaaa.Pv
open Go Go.RowKit

mutual
def Pt.nm : Pt → List (List UInt8)
  | .mk k t _ ks _ => (if k = 5 ∧ isName t = true then [t] else []) ++ nms ks
def nms : List Pt → List (List UInt8)
  | [] => []
  | p :: ps => p.nm ++ nms ps
end
theorem nm_eq (p : Pt) : p.nm = (if p.k = 5 ∧ isName p.text = true then [p.text] else []) ++ nms p.kids := by
  cases p; simp only [Pt.nm, Pt.k, Pt.text, Pt.kids]; rfl
/-- What takes names. -/
structure NamesOk (lp : Nat) (Y : List (List UInt8) → Heap → Heap → Prop) : Prop where
  le : ∀ acc B S, Y acc B S → B.le S
  yield : ∀ acc m B S, acc.length + 1 ≤ 1048576 → Y acc B S → Yields Try.prog lp m S (Y (acc ++ [m]) B)
  ext : ∀ acc B S c o, Y acc B S → S c = none → Y acc (B.set c o) (S.set c o)
  base : ∀ acc B B' S, Y acc B S → B'.le B → Y acc B' S
theorem RunG_of_W {P : Program} {n : Nat} {mb : Tmp → Bool} {ds : List (Option Tmp)} {l : List Oper} {σ : Regs} {S : Heap} {K : Regs → Heap → Prop} (h : W P n mb (onlyN K) [.ops ds l] σ S) : RunG P n mb ds l σ S K := W_sound _ _ _ h
theorem AOI_split {r : Option Nat} {P : Program} {n : Nat} {mb : Tmp → Bool} {ops : Array Oper} {Q : Post} {σ : Regs} {S : Heap} (k c m : Nat) (hle : k + c ≤ ops.size) (hnd : (((ops.toList.drop k).take c).all fun o => noDefer o.op) = true)
    (h : W P n mb (onlyN fun σ' S' => AOI r P n ops (List.range' (k + c) m) σ' S' Q) [.ops (dstsOf ops) ((ops.toList.drop k).take c)] σ S) : AOI r P n ops (List.range' k (c + m)) σ S Q := by
  have hlen : ((ops.toList.drop k).take c).length = c := by rw [List.length_take, List.length_drop, Array.length_toList]; omega
  have := AOI_run (r := r) (P := P) (n := n) (mb := mb) (ops := ops) (Q := Q) (rest := List.range' (k + c) m) ((ops.toList.drop k).take c) k σ S (fun i o hi => by
    by_cases hic : i < c
    · rw [List.getElem?_take_of_lt hic, List.getElem?_drop, Array.getElem?_toList] at hi
      exact hi
    · rw [List.getElem?_take_eq_none (by omega)] at hi; cases hi) (List.all_eq_true.1 hnd) (RunG_of_W h)
  rw [hlen] at this
  rwa [List.range'_append_1] at this
theorem CodeW_loopA {P : Program} {n : Nat} {mb : Tmp → Bool} {R : Post} {k : List It} {σ : Regs} {S : Heap} {c : Code} (I : Nat → Regs → Heap → Prop) (m : Nat) (h0 : I m σ S) (round : ∀ m σ S, I m σ S → AW P n c σ S (loopEnd m I P n mb R k)) : CodeW P n mb R (.loop c) k σ S := by
  refine AW_loop I m h0 fun m σ S hI => ?_
  refine AW.mono (round m σ S hI) fun e σ' S' hq => ?_
  cases e with
  | normal => exact hq
  | exit id =>
    simp only [loopEnd] at hq
    show kont P n mb R k (.exit id) σ' S'
    split at hq
    · rename_i k' hk; exact kont_exit hk (W_sound _ _ _ hq)
    · exact hq.elim
  | ret => exact kont_ret (R := R) (show R .ret σ' S' from hq) k
  | _ => exact hq.elim
def cl132 (lp ball : Nat) : PV := .fn (.func 132) [] [.ref [.fn (.yield lp) [] []], .mp ball 0]
def NmAll (lp : Nat) (Y : List (List UInt8) → Heap → Heap → Prop) (N : Nat) : Prop := ∀ l : List Pt, bulks l ≤ N → ∀ (ball : Nat) (acc : List (List UInt8)) (B S : Heap), B ball = some (.cells [cl132 lp ball] 123) → Y acc B S → acc.length + (nms l).length ≤ 1048576 →
  CallsA Try.prog 132 [.slice 5 (prows l), .ref [.fn (.yield lp) [] []], .mp ball 0] S (fun q S' => q = .bool true ∧ Y (acc ++ nms l) B S')
theorem named11_calls {lp : Nat} {Y : List (List UInt8) → Heap → Heap → Prop} (ok : NamesOk lp Y) (N : Nat) (hN : N ≤ 1048576) : NmAll lp Y N := by
  induction N using Nat.strongRecOn with
  | _ N ih =>
    intro l hb ball acc0 B S0 hBall hY0 hlen
    have hll : l.length ≤ 1048576 := Nat.le_trans (bulks_len l) (by omega)
    obtain ⟨A, hA⟩ : ∃ A, acc0 ++ nms l = A := ⟨_, rfl⟩
    rw [hA]
    have hAl : A.length ≤ 1048576 := by rw [← hA, List.length_append]; exact hlen
    have hY0' := Keep.mk hY0
    clear hY0
    refine CallsA_W (fun _ => false) Try.func132 rfl (Nat.le_of_ble_eq_true rfl) ?_
    simp only [Try.f132]
    (simp only [go_sem, reduceIte, Nat.reduceEqDiff, Nat.reduceLT, Nat.reduceLeDiff, Nat.reduceAdd, reduceCtorEq, Int.reduceToNat, Int.reduceLE, Int.reduceLT, Int.reduceNeg, Int.reduceEq, Int.reduceNe, Nat.reduceBEq, Nat.reduceMul, Nat.reducePow, Int.cast_ofNat_Int, *])
    refine CodeW_loopA (fun m σ' S' => ∃ (i : Nat) (acc : List (List UInt8)), i + m = l.length ∧ σ' 1 = .ref [.fn (.yield lp) [] []] ∧ σ' 2 = .mp ball 0 ∧ σ' 7 = .slice 5 (prows l) ∧ σ' 8 = .int .i64 l.length ∧ σ' 9 = .int .i64 i ∧ Y acc B S' ∧ acc ++ nms (l.drop i) = A) l.length ?_ ?_
    · (simp only [go_sem, reduceIte, Nat.reduceEqDiff, Nat.reduceLT, Nat.reduceLeDiff, Nat.reduceAdd, reduceCtorEq, Int.reduceToNat, Int.reduceLE, Int.reduceLT, Int.reduceNeg, Int.reduceEq, Int.reduceNe, Nat.reduceBEq, Nat.reduceMul, Nat.reducePow, Int.cast_ofNat_Int, *])
      exact ⟨0, acc0, by omega, rfl, hY0'.of, by simpa using hA⟩
    · rintro m σ' S' ⟨i, acc, h1, h2, h3, h4, h5, h6, hY, h7⟩
      clear hA hY0'
      cases hc : l[i]? with
      | none =>
        have hl : l.length ≤ i := List.getElem?_eq_none_iff.1 hc
        have hlt : ¬ ((i : Int) < (l.length : Int)) := by omega
        rw [List.drop_eq_nil_of_le hl] at h7
        simp only [nms, List.append_nil] at h7
        subst h7
        clear hlen ih
        refine AW_end (mb := fun _ => false) ?_
        (simp only [go_sem, reduceIte, Nat.reduceEqDiff, Nat.reduceLT, Nat.reduceLeDiff, Nat.reduceAdd, reduceCtorEq, Int.reduceToNat, Int.reduceLE, Int.reduceLT, Int.reduceNeg, Int.reduceEq, Int.reduceNe, Nat.reduceBEq, Nat.reduceMul, Nat.reducePow, Int.cast_ofNat_Int, *])
      | some p =>
        have hl := (List.getElem?_eq_some_iff.1 hc).1
        have hlt : (i : Int) < (l.length : Int) := by omega
        have hw := wrap1 hl (by omega)
        rw [drop_at hc] at h7
        simp only [nms] at h7
        have hpb := bulk_eq p
        have hpg := bulks_get hc
        have hq := Keep.mk h7
        clear h7
        by_cases hy : p.k = 5 ∧ isName p.text = true
        · have hnm : p.nm = [p.text] ++ nms p.kids := by rw [nm_eq, if_pos hy]
          have hy' := Keep.mk hy
          clear hy
          refine AW_cut (mb := fun _ => false) ?_
          (simp only [go_sem, reduceIte, Nat.reduceEqDiff, Nat.reduceLT, Nat.reduceLeDiff, Nat.reduceAdd, reduceCtorEq, Int.reduceToNat, Int.reduceLE, Int.reduceLT, Int.reduceNeg, Int.reduceEq, Int.reduceNe, Nat.reduceBEq, Nat.reduceMul, Nat.reducePow, Int.cast_ofNat_Int, *])
          show AW _ _ _ _ _ _
          refine AW_cut (mb := fun _ => false) ?_
          (simp only [go_sem, reduceIte, Nat.reduceEqDiff, Nat.reduceLT, Nat.reduceLeDiff, Nat.reduceAdd, reduceCtorEq, Int.reduceToNat, Int.reduceLE, Int.reduceLT, Int.reduceNeg, Int.reduceEq, Int.reduceNe, Nat.reduceBEq, Nat.reduceMul, Nat.reducePow, Int.cast_ofNat_Int, *])
          show AW _ _ _ _ _ _
          refine AW_seq (AW_block ?_)
          refine AW_cut (mb := fun _ => false) ?_
          (simp only [go_sem, reduceIte, Nat.reduceEqDiff, Nat.reduceLT, Nat.reduceLeDiff, Nat.reduceAdd, reduceCtorEq, Int.reduceToNat, Int.reduceLE, Int.reduceLT, Int.reduceNeg, Int.reduceEq, Int.reduceNe, Nat.reduceBEq, Nat.reduceMul, Nat.reducePow, Int.cast_ofNat_Int, *])
          refine OpW_of (OpA_alloc rfl zeroCells41 (okDst_spec rfl) fun b5 hb5 => ?_)
          (simp only [go_sem, reduceIte, Nat.reduceEqDiff, Nat.reduceLT, Nat.reduceLeDiff, Nat.reduceAdd, reduceCtorEq, Int.reduceToNat, Int.reduceLE, Int.reduceLT, Int.reduceNeg, Int.reduceEq, Int.reduceNe, Nat.reduceBEq, Nat.reduceMul, Nat.reducePow, Int.cast_ofNat_Int, *])
          refine OpW_put (es := [.int .i64 p.k, .str p.text, .str p.op, .slice 5 (prows p.kids), .slice 10 p.cmds]) rfl rfl (by rw [set_apply, if_pos rfl]) rfl rfl size41 (Nat.le_of_ble_eq_true rfl) rfl ?_
          rw [Heap.set_set]
          simp only [splice, List.take_zero, List.nil_append, List.length_cons, List.length_nil, Nat.reduceAdd, List.drop_succ_cons, List.drop_zero, List.append_nil]
          have hBn : B b5 = none := by
            cases hx : B b5 with
            | none => rfl
            | some o => have := ok.le _ _ _ hY b5 o hx; rw [hb5] at this; cases this
          have hk1 := ok.ext _ _ _ b5 (.cells [.int .i64 p.k, .str p.text, .str p.op, .slice 5 (prows p.kids), .slice 10 p.cmds] 41) hY hb5
          generalize hS2 : S'.set b5 (.cells [.int .i64 p.k, .str p.text, .str p.op, .slice 5 (prows p.kids), .slice 10 p.cmds] 41) = S2 at *
          have e5 : S2 b5 = some (.cells [.int .i64 p.k, .str p.text, .str p.op, .slice 5 (prows p.kids), .slice 10 p.cmds] 41) := by rw [← hS2, set_apply, if_pos rfl]
          have hBall2 : (B.set b5 (.cells [.int .i64 p.k, .str p.text, .str p.op, .slice 5 (prows p.kids), .slice 10 p.cmds] 41)) ball = some (.cells [cl132 lp ball] 123) := by
            rw [set_apply, if_neg (fun e => by subst e; rw [hBn] at hBall; cases hBall)]; exact hBall
          have hB52 : (B.set b5 (.cells [.int .i64 p.k, .str p.text, .str p.op, .slice 5 (prows p.kids), .slice 10 p.cmds] 41)) b5 = some (.cells [.int .i64 p.k, .str p.text, .str p.op, .slice 5 (prows p.kids), .slice 10 p.cmds] 41) := by rw [set_apply, if_pos rfl]
          have hnl := congrArg List.length hq.of
          simp only [List.length_append] at hnl
          have hnk : p.nm.length = 1 + (nms p.kids).length := by rw [hnm, List.length_append]; rfl
          have hcn := name_calls p.text (by omega) S2
          rw [hy'.of.2] at hcn
          have hk1' := Keep.mk hk1
          clear hS2 hY hb5 hk1
          (simp only [go_sem, reduceIte, Nat.reduceEqDiff, Nat.reduceLT, Nat.reduceLeDiff, Nat.reduceAdd, reduceCtorEq, Int.reduceToNat, Int.reduceLE, Int.reduceLT, Int.reduceNeg, Int.reduceEq, Int.reduceNe, Nat.reduceBEq, Nat.reduceMul, Nat.reducePow, Int.cast_ofNat_Int, *])
          show AW _ _ _ _ _ _
          refine AW_seq (AW_ofI (AWI_region ?_))
          show AOI none _ _ _ (List.range' 0 (12 + 10)) _ _ _
          refine AOI_split (mb := fun _ => false) 0 12 10 (Nat.le_of_ble_eq_true rfl) (by kernel_rfl) ?_
          simp only [List.drop_zero, List.take_succ_cons, List.take_zero]
          have k5 := hy'.of.1
          (simp only [go_sem, reduceIte, Nat.reduceEqDiff, Nat.reduceLT, Nat.reduceLeDiff, Nat.reduceAdd, reduceCtorEq, Int.reduceToNat, Int.reduceLE, Int.reduceLT, Int.reduceNeg, Int.reduceEq, Int.reduceNe, Nat.reduceBEq, Nat.reduceMul, Nat.reducePow, Int.cast_ofNat_Int, *])
          refine OpW_call rfl rfl call23 rfl (hcn.mono ?_)
          rintro q_ S_ ⟨rfl, rfl⟩
          (simp only [go_sem, reduceIte, Nat.reduceEqDiff, Nat.reduceLT, Nat.reduceLeDiff, Nat.reduceAdd, reduceCtorEq, Int.reduceToNat, Int.reduceLE, Int.reduceLT, Int.reduceNeg, Int.reduceEq, Int.reduceNe, Nat.reduceBEq, Nat.reduceMul, Nat.reducePow, Int.cast_ofNat_Int, *])
          show AOI none _ _ _ (12 :: List.range' 13 9) _ _ _
          refine AOI_yield (d := some 25) rfl rfl (Or.inr ⟨8, true, rfl, rfl⟩) rfl rfl rfl rfl (ok.yield _ p.text _ _ (by omega) hk1'.of) fun S4 hY4 => ?_
          have eb4 := ok.le _ _ _ hY4 _ _ hBall2
          have e54 := ok.le _ _ _ hY4 _ _ hB52
          have hcall := ih (bulks p.kids) (by omega) (by omega) p.kids (Nat.le_refl _) ball _ _ _ hBall2 hY4 (by simp only [List.length_append, List.length_cons, List.length_nil]; omega)
          have hcl : cl132 lp ball = .fn (.func 132) [] [.ref [.fn (.yield lp) [] []], .mp ball 0] := rfl
          rw [hcl] at eb4
          clear hcl hBall2 hB52 hcn e5 hk1' hY4
          show AOI none _ _ _ (List.range' 13 (9 + 0)) _ _ _
          refine AOI_split (mb := fun _ => false) 13 9 0 (Nat.le_of_ble_eq_true rfl) (by kernel_rfl) ?_
          simp only [List.drop_succ_cons, List.drop_zero, List.take_succ_cons, List.take_zero]
          (simp only [go_sem, reduceIte, Nat.reduceEqDiff, Nat.reduceLT, Nat.reduceLeDiff, Nat.reduceAdd, reduceCtorEq, Int.reduceToNat, Int.reduceLE, Int.reduceLT, Int.reduceNeg, Int.reduceEq, Int.reduceNe, Nat.reduceBEq, Nat.reduceMul, Nat.reducePow, Int.cast_ofNat_Int, *])
          refine OpW_call rfl rfl call132 rfl (hcall.mono ?_)
          rintro q_ S5 ⟨rfl, hY5⟩
          have hf := ok.base _ _ _ _ hY5 (Heap.le_set hBn)
          clear hcall hY5
          (simp only [go_sem, reduceIte, Nat.reduceEqDiff, Nat.reduceLT, Nat.reduceLeDiff, Nat.reduceAdd, reduceCtorEq, Int.reduceToNat, Int.reduceLE, Int.reduceLT, Int.reduceNeg, Int.reduceEq, Int.reduceNe, Nat.reduceBEq, Nat.reduceMul, Nat.reducePow, Int.cast_ofNat_Int, *])
          show AOI none _ _ _ [] _ _ _
          refine AOI_nil ?_
          show AW _ _ _ _ _ _
          refine AW_end (mb := fun _ => false) ?_
          (simp only [go_sem, reduceIte, Nat.reduceEqDiff, Nat.reduceLT, Nat.reduceLeDiff, Nat.reduceAdd, reduceCtorEq, Int.reduceToNat, Int.reduceLE, Int.reduceLT, Int.reduceNeg, Int.reduceEq, Int.reduceNe, Nat.reduceBEq, Nat.reduceMul, Nat.reducePow, Int.cast_ofNat_Int, *])
          show AW _ _ _ _ _ _
          refine AW_end (mb := fun _ => false) ?_
          (simp only [go_sem, reduceIte, Nat.reduceEqDiff, Nat.reduceLT, Nat.reduceLeDiff, Nat.reduceAdd, reduceCtorEq, Int.reduceToNat, Int.reduceLE, Int.reduceLT, Int.reduceNeg, Int.reduceEq, Int.reduceNe, Nat.reduceBEq, Nat.reduceMul, Nat.reducePow, Int.cast_ofNat_Int, *])
          exact ⟨m - 1, by omega, i + 1, _, by omega, rfl, hf, by rw [← hq.of, hnm]; simp only [List.append_assoc]⟩
        · have hnm : p.nm = nms p.kids := by rw [nm_eq, if_neg hy]; rfl
          refine AW_end (mb := fun _ => false) ?_
          (simp only [go_sem, reduceIte, Nat.reduceEqDiff, Nat.reduceLT, Nat.reduceLeDiff, Nat.reduceAdd, reduceCtorEq, Int.reduceToNat, Int.reduceLE, Int.reduceLT, Int.reduceNeg, Int.reduceEq, Int.reduceNe, Nat.reduceBEq, Nat.reduceMul, Nat.reducePow, Int.cast_ofNat_Int, *])
          refine OpW_of (OpA_alloc rfl zeroCells41 (okDst_spec rfl) fun b5 hb5 => ?_)
          (simp only [go_sem, reduceIte, Nat.reduceEqDiff, Nat.reduceLT, Nat.reduceLeDiff, Nat.reduceAdd, reduceCtorEq, Int.reduceToNat, Int.reduceLE, Int.reduceLT, Int.reduceNeg, Int.reduceEq, Int.reduceNe, Nat.reduceBEq, Nat.reduceMul, Nat.reducePow, Int.cast_ofNat_Int, *])
          refine OpW_put (es := [.int .i64 p.k, .str p.text, .str p.op, .slice 5 (prows p.kids), .slice 10 p.cmds]) rfl rfl (by rw [set_apply, if_pos rfl]) rfl rfl size41 (Nat.le_of_ble_eq_true rfl) rfl ?_
          rw [Heap.set_set]
          simp only [splice, List.take_zero, List.nil_append, List.length_cons, List.length_nil, Nat.reduceAdd, List.drop_succ_cons, List.drop_zero, List.append_nil]
          have hBn : B b5 = none := by
            cases hx : B b5 with
            | none => rfl
            | some o => have := ok.le _ _ _ hY b5 o hx; rw [hb5] at this; cases this
          have hk1 := ok.ext _ _ _ b5 (.cells [.int .i64 p.k, .str p.text, .str p.op, .slice 5 (prows p.kids), .slice 10 p.cmds] 41) hY hb5
          generalize hS2 : S'.set b5 (.cells [.int .i64 p.k, .str p.text, .str p.op, .slice 5 (prows p.kids), .slice 10 p.cmds] 41) = S2 at *
          have e5 : S2 b5 = some (.cells [.int .i64 p.k, .str p.text, .str p.op, .slice 5 (prows p.kids), .slice 10 p.cmds] 41) := by rw [← hS2, set_apply, if_pos rfl]
          have hBall2 : (B.set b5 (.cells [.int .i64 p.k, .str p.text, .str p.op, .slice 5 (prows p.kids), .slice 10 p.cmds] 41)) ball = some (.cells [cl132 lp ball] 123) := by
            rw [set_apply, if_neg (fun e => by subst e; rw [hBn] at hBall; cases hBall)]; exact hBall
          have eb := ok.le _ _ _ hk1 _ _ hBall2
          have hcl : cl132 lp ball = .fn (.func 132) [] [.ref [.fn (.yield lp) [] []], .mp ball 0] := rfl
          have hnl := congrArg List.length hq.of
          simp only [List.length_append] at hnl
          have hnk : p.nm.length = (if p.k = 5 ∧ isName p.text = true then [p.text] else []).length + (nms p.kids).length := by rw [nm_eq, List.length_append]
          have hcall := ih (bulks p.kids) (by omega) (by omega) p.kids (Nat.le_refl _) ball acc _ _ hBall2 hk1 (by omega)
          rw [hcl] at eb
          clear hS2 hY hb5 hcl hBall2
          by_cases k5 : p.k = 5
          · have hname : isName p.text = false := by
              cases hx : isName p.text with
              | false => rfl
              | true => exact absurd ⟨k5, hx⟩ hy
            have hcn := name_calls p.text (by omega) S2
            rw [hname] at hcn
            clear hy hname
            (simp only [go_sem, reduceIte, Nat.reduceEqDiff, Nat.reduceLT, Nat.reduceLeDiff, Nat.reduceAdd, reduceCtorEq, Int.reduceToNat, Int.reduceLE, Int.reduceLT, Int.reduceNeg, Int.reduceEq, Int.reduceNe, Nat.reduceBEq, Nat.reduceMul, Nat.reducePow, Int.cast_ofNat_Int, *])
            refine OpW_call rfl rfl call23 rfl (hcn.mono ?_)
            rintro q_ S_ ⟨rfl, rfl⟩
            (simp only [go_sem, reduceIte, Nat.reduceEqDiff, Nat.reduceLT, Nat.reduceLeDiff, Nat.reduceAdd, reduceCtorEq, Int.reduceToNat, Int.reduceLE, Int.reduceLT, Int.reduceNeg, Int.reduceEq, Int.reduceNe, Nat.reduceBEq, Nat.reduceMul, Nat.reducePow, Int.cast_ofNat_Int, *])
            refine OpW_call rfl rfl call132 rfl (hcall.mono ?_)
            rintro q_ S4 ⟨rfl, hY4⟩
            have hf := ok.base _ _ _ _ hY4 (Heap.le_set hBn)
            clear hcall hcn hY4
            (simp only [go_sem, reduceIte, Nat.reduceEqDiff, Nat.reduceLT, Nat.reduceLeDiff, Nat.reduceAdd, reduceCtorEq, Int.reduceToNat, Int.reduceLE, Int.reduceLT, Int.reduceNeg, Int.reduceEq, Int.reduceNe, Nat.reduceBEq, Nat.reduceMul, Nat.reducePow, Int.cast_ofNat_Int, *])
            exact ⟨m - 1, by omega, i + 1, _, by omega, rfl, hf, by rw [List.append_assoc, ← hnm]; exact hq.of⟩
          · clear hy
            (simp only [go_sem, reduceIte, Nat.reduceEqDiff, Nat.reduceLT, Nat.reduceLeDiff, Nat.reduceAdd, reduceCtorEq, Int.reduceToNat, Int.reduceLE, Int.reduceLT, Int.reduceNeg, Int.reduceEq, Int.reduceNe, Nat.reduceBEq, Nat.reduceMul, Nat.reducePow, Int.cast_ofNat_Int, *])
            refine OpW_call rfl rfl call132 rfl (hcall.mono ?_)
            rintro q_ S4 ⟨rfl, hY4⟩
            have hf := ok.base _ _ _ _ hY4 (Heap.le_set hBn)
            clear hcall hY4
            (simp only [go_sem, reduceIte, Nat.reduceEqDiff, Nat.reduceLT, Nat.reduceLeDiff, Nat.reduceAdd, reduceCtorEq, Int.reduceToNat, Int.reduceLE, Int.reduceLT, Int.reduceNeg, Int.reduceEq, Int.reduceNe, Nat.reduceBEq, Nat.reduceMul, Nat.reducePow, Int.cast_ofNat_Int, *])
            exact ⟨m - 1, by omega, i + 1, _, by omega, rfl, hf, by rw [List.append_assoc, ← hnm]; exact hq.of⟩
end Go.Proofs.Ytcbonfgkfiapaaa.Pv
