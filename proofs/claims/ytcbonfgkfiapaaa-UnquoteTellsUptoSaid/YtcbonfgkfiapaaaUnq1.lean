/- What package unquote computes: a word's text, whether something is quoted, whether it is plain. -/
import Derived.Test.YtcbonfgkfiapaaaSb
import Derived.Test.YtcbonfgkfiapaaaTree
import Derived.Test.YtcbonfgkfiapaaaPtRefA
set_option linter.unusedVariables false
set_option linter.unusedSimpArgs false
set_option maxRecDepth 100000
set_option maxHeartbeats 40000000
namespace Go.Proofs.Ytcbonfgkfiapaaa.Pv
open Go Go.RowKit

mutual
def Pt.tx : Pt → Option (List UInt8)
  | .mk k t _ ks _ => if k = 1 ∨ k = 2 ∨ k = 3 then some t else if k = 4 then txs ks else none
def txs : List Pt → Option (List UInt8)
  | [] => some []
  | p :: ps => p.tx.bind fun a => (txs ps).map (a ++ ·)
end
theorem tx_eq (p : Pt) : p.tx = if p.k = 1 ∨ p.k = 2 ∨ p.k = 3 then some p.text else if p.k = 4 then txs p.kids else none := by
  cases p; simp only [Pt.tx, Pt.k, Pt.text, Pt.kids]; rfl
theorem uqAt : sbAt 89 := by unfold sbAt; kernel_rfl
def TxPost (b : Nat) (acc : List UInt8) (l : List Pt) (B : Heap) (q : PV) (S' : Heap) : Prop :=
  q = .bool (txs l).isSome ∧ ∃ acc', Bldr 5 89 b acc' B S' ∧ acc'.length ≤ acc.length + bulks l ∧ ∀ s, txs l = some s → acc' = acc ++ s
def TxAll (N : Nat) : Prop := ∀ l : List Pt, bulks l ≤ N → ∀ (b : Nat) (acc : List UInt8) (B S : Heap), Bldr 5 89 b acc B S → acc.length + bulks l ≤ 140737488355328 →
  CallsA Try.prog 94 [.mp b 0, .slice 5 (prows l)] S (TxPost b acc l B)
theorem uqtext_calls (N : Nat) (hN : N ≤ 1048576) : TxAll N := by
  induction N using Nat.strongRecOn with
  | _ N ih =>
    intro l hb b acc0 B S0 hP0 hlen
    obtain ⟨T, hT⟩ : ∃ T, (txs l).map (acc0 ++ ·) = T := ⟨_, rfl⟩
    have hll : l.length ≤ 1048576 := Nat.le_trans (bulks_len l) (by omega)
    refine CallsA.mono (Po := fun q S' => q = .bool T.isSome ∧ ∃ acc', Bldr 5 89 b acc' B S' ∧ acc'.length ≤ acc0.length + bulks l ∧ ∀ s, T = some s → acc' = s) ?_ ?_
    rotate_left
    · rintro q S' ⟨rfl, acc', h1, h2, h3⟩
      subst hT
      refine ⟨by cases txs l <;> rfl, acc', h1, h2, fun s hs => h3 _ (by rw [hs]; rfl)⟩
    have hP0' := Keep.mk hP0
    clear hP0
    refine CallsA_W (fun _ => false) Try.func94 rfl (Nat.le_of_ble_eq_true rfl) ?_
    simp only [Try.f94]
    (simp only [go_sem, reduceIte, Nat.reduceEqDiff, Nat.reduceLT, Nat.reduceLeDiff, Nat.reduceAdd, reduceCtorEq, Int.reduceToNat, Int.reduceLE, Int.reduceLT, Int.reduceNeg, Int.reduceEq, Int.reduceNe, Nat.reduceBEq, Nat.reduceMul, Nat.reducePow, Int.cast_ofNat_Int, *])
    refine CodeW_loop (fun m σ' S' => ∃ (i : Nat) (acc : List UInt8), i + m = l.length ∧ σ' 0 = .mp b 0 ∧ σ' 7 = .slice 5 (prows l) ∧ σ' 8 = .int .i64 l.length ∧ σ' 9 = .int .i64 i ∧ Bldr 5 89 b acc B S' ∧ acc.length + bulks (l.drop i) ≤ acc0.length + bulks l ∧ (txs (l.drop i)).map (acc ++ ·) = T) l.length ?_ ?_
    · (simp only [go_sem, reduceIte, Nat.reduceEqDiff, Nat.reduceLT, Nat.reduceLeDiff, Nat.reduceAdd, reduceCtorEq, Int.reduceToNat, Int.reduceLE, Int.reduceLT, Int.reduceNeg, Int.reduceEq, Int.reduceNe, Nat.reduceBEq, Nat.reduceMul, Nat.reducePow, Int.cast_ofNat_Int, *])
      exact ⟨0, acc0, by omega, rfl, hP0'.of, by simp, by simpa using hT⟩
    · rintro m σ' S' ⟨i, acc, h1, h2, h3, h4, h5, hP, h6, h7⟩
      clear hT hP0'
      cases hc : l[i]? with
      | none =>
        have hl : l.length ≤ i := List.getElem?_eq_none_iff.1 hc
        have hlt : ¬ ((i : Int) < (l.length : Int)) := by omega
        rw [List.drop_eq_nil_of_le hl] at h6 h7
        simp only [txs, bulks, Option.map_some, List.append_nil, Nat.add_zero] at h6 h7
        subst h7
        have hr : (some acc).isSome = true := rfl
        clear hlen
        (simp only [go_sem, reduceIte, Nat.reduceEqDiff, Nat.reduceLT, Nat.reduceLeDiff, Nat.reduceAdd, reduceCtorEq, Int.reduceToNat, Int.reduceLE, Int.reduceLT, Int.reduceNeg, Int.reduceEq, Int.reduceNe, Nat.reduceBEq, Nat.reduceMul, Nat.reducePow, Int.cast_ofNat_Int, *])
        exact ⟨acc, hP, h6, fun s hs => by cases hs; rfl⟩
      | some p =>
        have hl := (List.getElem?_eq_some_iff.1 hc).1
        have hlt : (i : Int) < (l.length : Int) := by omega
        have hw := wrap1 hl (by omega)
        rw [drop_at hc] at h6 h7
        simp only [txs, bulks] at h6 h7
        have hq := Keep.mk h7
        have hpb := bulk_eq p
        have hpg := bulks_get hc
        clear h7
        (simp only [go_sem, reduceIte, Nat.reduceEqDiff, Nat.reduceLT, Nat.reduceLeDiff, Nat.reduceAdd, reduceCtorEq, Int.reduceToNat, Int.reduceLE, Int.reduceLT, Int.reduceNeg, Int.reduceEq, Int.reduceNe, Nat.reduceBEq, Nat.reduceMul, Nat.reducePow, Int.cast_ofNat_Int, *])
        refine OpW_of (OpA_alloc rfl zeroCells41 (okDst_spec rfl) fun b5 hb5 => ?_)
        (simp only [go_sem, reduceIte, Nat.reduceEqDiff, Nat.reduceLT, Nat.reduceLeDiff, Nat.reduceAdd, reduceCtorEq, Int.reduceToNat, Int.reduceLE, Int.reduceLT, Int.reduceNeg, Int.reduceEq, Int.reduceNe, Nat.reduceBEq, Nat.reduceMul, Nat.reducePow, Int.cast_ofNat_Int, *])
        refine OpW_put (es := [.int .i64 p.k, .str p.text, .str p.op, .slice 5 (prows p.kids), .slice 10 p.cmds]) rfl rfl (by rw [set_apply, if_pos rfl]) rfl rfl size41 (Nat.le_of_ble_eq_true rfl) rfl ?_
        rw [Heap.set_set]
        simp only [splice, List.take_zero, List.nil_append, List.length_cons, List.length_nil, Nat.reduceAdd, List.drop_succ_cons, List.drop_zero, List.append_nil]
        have hBn : B b5 = none := by
          cases hx : B b5 with
          | none => rfl
          | some o => have := hP.le b5 o hx; rw [hb5] at this; cases this
        have hk1 := hP.ext (o := .cells [.int .i64 p.k, .str p.text, .str p.op, .slice 5 (prows p.kids), .slice 10 p.cmds] 41) hb5
        generalize hS2 : S'.set b5 (.cells [.int .i64 p.k, .str p.text, .str p.op, .slice 5 (prows p.kids), .slice 10 p.cmds] 41) = S2 at *
        have e5 : S2 b5 = some (.cells [.int .i64 p.k, .str p.text, .str p.op, .slice 5 (prows p.kids), .slice 10 p.cmds] 41) := by rw [← hS2, set_apply, if_pos rfl]
        clear hS2 hP hb5
        by_cases k1 : p.k = 1
        · have ho : p.tx = some p.text := by rw [tx_eq, if_pos (Or.inl k1)]
          (simp only [go_sem, reduceIte, Nat.reduceEqDiff, Nat.reduceLT, Nat.reduceLeDiff, Nat.reduceAdd, reduceCtorEq, Int.reduceToNat, Int.reduceLE, Int.reduceLT, Int.reduceNeg, Int.reduceEq, Int.reduceNe, Nat.reduceBEq, Nat.reduceMul, Nat.reducePow, Int.cast_ofNat_Int, *])
          refine OpW_call rfl rfl call129 rfl ((writeString_calls _ uqAt b acc p.text _ (by omega) _ hk1).mono ?_)
          rintro q_ S4 ⟨rfl, hk4⟩
          have hf := hk4.forget hBn
          clear hk1 hk4 e5
          (simp only [go_sem, reduceIte, Nat.reduceEqDiff, Nat.reduceLT, Nat.reduceLeDiff, Nat.reduceAdd, reduceCtorEq, Int.reduceToNat, Int.reduceLE, Int.reduceLT, Int.reduceNeg, Int.reduceEq, Int.reduceNe, Nat.reduceBEq, Nat.reduceMul, Nat.reducePow, Int.cast_ofNat_Int, *])
          refine ⟨m - 1, by omega, i + 1, _, by omega, rfl, hf, by simp; omega, ?_⟩
          rw [← hq.of, ho]
          simp only [Option.bind_some, Option.map_map]
          congr 1
          funext s
          simp [Function.comp]
        by_cases k2 : p.k = 2
        · have ho : p.tx = some p.text := by rw [tx_eq, if_pos (Or.inr (Or.inl k2))]
          (simp only [go_sem, reduceIte, Nat.reduceEqDiff, Nat.reduceLT, Nat.reduceLeDiff, Nat.reduceAdd, reduceCtorEq, Int.reduceToNat, Int.reduceLE, Int.reduceLT, Int.reduceNeg, Int.reduceEq, Int.reduceNe, Nat.reduceBEq, Nat.reduceMul, Nat.reducePow, Int.cast_ofNat_Int, *])
          refine OpW_call rfl rfl call129 rfl ((writeString_calls _ uqAt b acc p.text _ (by omega) _ hk1).mono ?_)
          rintro q_ S4 ⟨rfl, hk4⟩
          have hf := hk4.forget hBn
          clear hk1 hk4 e5
          (simp only [go_sem, reduceIte, Nat.reduceEqDiff, Nat.reduceLT, Nat.reduceLeDiff, Nat.reduceAdd, reduceCtorEq, Int.reduceToNat, Int.reduceLE, Int.reduceLT, Int.reduceNeg, Int.reduceEq, Int.reduceNe, Nat.reduceBEq, Nat.reduceMul, Nat.reducePow, Int.cast_ofNat_Int, *])
          refine ⟨m - 1, by omega, i + 1, _, by omega, rfl, hf, by simp; omega, ?_⟩
          rw [← hq.of, ho]
          simp only [Option.bind_some, Option.map_map]
          congr 1
          funext s
          simp [Function.comp]
        by_cases k3 : p.k = 3
        · have ho : p.tx = some p.text := by rw [tx_eq, if_pos (Or.inr (Or.inr k3))]
          (simp only [go_sem, reduceIte, Nat.reduceEqDiff, Nat.reduceLT, Nat.reduceLeDiff, Nat.reduceAdd, reduceCtorEq, Int.reduceToNat, Int.reduceLE, Int.reduceLT, Int.reduceNeg, Int.reduceEq, Int.reduceNe, Nat.reduceBEq, Nat.reduceMul, Nat.reducePow, Int.cast_ofNat_Int, *])
          refine OpW_call rfl rfl call129 rfl ((writeString_calls _ uqAt b acc p.text _ (by omega) _ hk1).mono ?_)
          rintro q_ S4 ⟨rfl, hk4⟩
          have hf := hk4.forget hBn
          clear hk1 hk4 e5
          (simp only [go_sem, reduceIte, Nat.reduceEqDiff, Nat.reduceLT, Nat.reduceLeDiff, Nat.reduceAdd, reduceCtorEq, Int.reduceToNat, Int.reduceLE, Int.reduceLT, Int.reduceNeg, Int.reduceEq, Int.reduceNe, Nat.reduceBEq, Nat.reduceMul, Nat.reducePow, Int.cast_ofNat_Int, *])
          refine ⟨m - 1, by omega, i + 1, _, by omega, rfl, hf, by simp; omega, ?_⟩
          rw [← hq.of, ho]
          simp only [Option.bind_some, Option.map_map]
          congr 1
          funext s
          simp [Function.comp]
        have hno : ¬ (p.k = 1 ∨ p.k = 2 ∨ p.k = 3) := by rintro (h | h | h) <;> contradiction
        by_cases k4 : p.k = 4
        · have ho : p.tx = txs p.kids := by rw [tx_eq, if_neg hno, if_pos k4]
          have hcall := ih (bulks p.kids) (by omega) (by omega) p.kids (Nat.le_refl _) b acc _ _ hk1 (by omega)
          cases ht : txs p.kids with
          | none =>
            have hT : T = none := by rw [← hq.of, ho, ht]; rfl
            subst hT
            clear hno
            (simp only [go_sem, reduceIte, Nat.reduceEqDiff, Nat.reduceLT, Nat.reduceLeDiff, Nat.reduceAdd, reduceCtorEq, Int.reduceToNat, Int.reduceLE, Int.reduceLT, Int.reduceNeg, Int.reduceEq, Int.reduceNe, Nat.reduceBEq, Nat.reduceMul, Nat.reducePow, Int.cast_ofNat_Int, *])
            refine OpW_call rfl rfl call94 rfl (hcall.mono ?_)
            rintro q_ S4 ⟨rfl, acc', a1, a2, a3⟩
            have hr : (txs p.kids).isSome = false := by rw [ht]; rfl
            have hr2 : (none : Option (List UInt8)).isSome = false := rfl
            have hf := a1.forget hBn
            clear hcall ht ho hq a3 a1 hk1 e5
            (simp only [go_sem, reduceIte, Nat.reduceEqDiff, Nat.reduceLT, Nat.reduceLeDiff, Nat.reduceAdd, reduceCtorEq, Int.reduceToNat, Int.reduceLE, Int.reduceLT, Int.reduceNeg, Int.reduceEq, Int.reduceNe, Nat.reduceBEq, Nat.reduceMul, Nat.reducePow, Int.cast_ofNat_Int, *])
            exact ⟨acc', hf, by omega, fun s hs => by cases hs⟩
          | some t =>
            clear hno
            (simp only [go_sem, reduceIte, Nat.reduceEqDiff, Nat.reduceLT, Nat.reduceLeDiff, Nat.reduceAdd, reduceCtorEq, Int.reduceToNat, Int.reduceLE, Int.reduceLT, Int.reduceNeg, Int.reduceEq, Int.reduceNe, Nat.reduceBEq, Nat.reduceMul, Nat.reducePow, Int.cast_ofNat_Int, *])
            refine OpW_call rfl rfl call94 rfl (hcall.mono ?_)
            rintro q_ S4 ⟨rfl, acc', a1, a2, a3⟩
            have hr : (txs p.kids).isSome = true := by rw [ht]; rfl
            have hf := a1.forget hBn
            have ha := a3 t ht
            have hq' := hq.of
            rw [ho, ht] at hq'
            have hq2 := Keep.mk hq'
            subst ha
            clear hcall ht ho hq hq' a3 a1 hk1 e5
            (simp only [go_sem, reduceIte, Nat.reduceEqDiff, Nat.reduceLT, Nat.reduceLeDiff, Nat.reduceAdd, reduceCtorEq, Int.reduceToNat, Int.reduceLE, Int.reduceLT, Int.reduceNeg, Int.reduceEq, Int.reduceNe, Nat.reduceBEq, Nat.reduceMul, Nat.reducePow, Int.cast_ofNat_Int, *])
            refine ⟨m - 1, by omega, i + 1, _, by omega, rfl, hf, by simp at a2 ⊢; omega, ?_⟩
            rw [← hq2.of]
            simp only [Option.bind_some, Option.map_map]
            congr 1
            funext s
            simp [Function.comp]
        have ho : p.tx = none := by rw [tx_eq, if_neg hno, if_neg k4]
        have hT : T = none := by rw [← hq.of, ho]; rfl
        subst hT
        have hr2 : (none : Option (List UInt8)).isSome = false := rfl
        have hf := hk1.forget hBn
        clear hno ho hq hk1
        (simp only [go_sem, reduceIte, Nat.reduceEqDiff, Nat.reduceLT, Nat.reduceLeDiff, Nat.reduceAdd, reduceCtorEq, Int.reduceToNat, Int.reduceLE, Int.reduceLT, Int.reduceNeg, Int.reduceEq, Int.reduceNe, Nat.reduceBEq, Nat.reduceMul, Nat.reducePow, Int.cast_ofNat_Int, *])
        exact ⟨acc, hf, by omega, fun s hs => by cases hs⟩
theorem txs_len : ∀ (l : List Pt) s, txs l = some s → s.length ≤ bulks l := by
  have key : ∀ (n : Nat) (l : List Pt), bulks l ≤ n → ∀ s, txs l = some s → s.length ≤ bulks l := by
    intro n
    induction n using Nat.strongRecOn with
    | _ n ih =>
      intro l hl
      induction l with
      | nil => intro s h; simp only [txs, Option.some.injEq] at h; subst h; simp
      | cons p l ihl =>
        intro s h
        have hb := bulk_eq p
        simp only [txs, bulks] at h hl ⊢
        cases hp : p.tx with
        | none => rw [hp] at h; cases h
        | some a =>
          rw [hp] at h
          cases ht : txs l with
          | none => rw [ht] at h; cases h
          | some t =>
            rw [ht] at h
            simp only [Option.bind_some, Option.map_some, Option.some.injEq] at h
            subst h
            have h1 := ihl (by omega) t ht
            have h2 : a.length ≤ p.bulk := by
              rw [tx_eq] at hp
              split at hp
              · cases hp; omega
              · split at hp
                · have := ih (bulks p.kids) (by omega) p.kids (Nat.le_refl _) a hp; omega
                · cases hp
            simp only [List.length_append]
            omega
  exact fun l => key _ l (Nat.le_refl _)
/-- A word's text, quotes taken away. -/
theorem uqText_calls (l : List Pt) (hb : bulks l ≤ 1048576) (S : Heap) : CallsQ Try.prog 39 [.agg [.slice 5 (prows l)]] S (.tup [.str ((txs l).getD []), .bool (txs l).isSome]) := by
  refine CallsQ_less ?_
  refine CallsA_W (fun _ => false) Try.func39 rfl (Nat.le_of_ble_eq_true rfl) ?_
  simp only [Try.f39]
  (simp only [go_sem, reduceIte, Nat.reduceEqDiff, Nat.reduceLT, Nat.reduceLeDiff, Nat.reduceAdd, reduceCtorEq, Int.reduceToNat, Int.reduceLE, Int.reduceLT, Int.reduceNeg, Int.reduceEq, Int.reduceNe, Nat.reduceBEq, Nat.reduceMul, Nat.reducePow, Int.cast_ofNat_Int, *])
  refine OpW_of (OpA_allocX (cs := [.nilp, .nils]) (z := .agg #[.pointer none, .slice none 0 0]) rfl (by kernel_rfl) (fun w im => by simp [Value.cells, RepVals, Rep]) (okDst_spec rfl) fun b hb1 => ?_)
  have hk0 : Bldr 5 89 b [] S (S.set b (.cells [.nilp, .nils] 89)) := Bldr.start hb1
  have hcall := uqtext_calls 1048576 (Nat.le_refl _) l hb b [] S _ hk0 (by simp; omega)
  (simp only [go_sem, reduceIte, Nat.reduceEqDiff, Nat.reduceLT, Nat.reduceLeDiff, Nat.reduceAdd, reduceCtorEq, Int.reduceToNat, Int.reduceLE, Int.reduceLT, Int.reduceNeg, Int.reduceEq, Int.reduceNe, Nat.reduceBEq, Nat.reduceMul, Nat.reducePow, Int.cast_ofNat_Int, *])
  refine OpW_call rfl rfl call94 rfl (hcall.mono ?_)
  rintro q_ S4 ⟨rfl, acc', a1, a2, a3⟩
  clear hcall
  cases ht : txs l with
  | none =>
    have h1 : (none : Option (List UInt8)).isSome = false := rfl
    have h2 : (none : Option (List UInt8)).getD [] = [] := rfl
    have hle := a1.le
    clear ht a3
    (simp only [go_sem, reduceIte, Nat.reduceEqDiff, Nat.reduceLT, Nat.reduceLeDiff, Nat.reduceAdd, reduceCtorEq, Int.reduceToNat, Int.reduceLE, Int.reduceLT, Int.reduceNeg, Int.reduceEq, Int.reduceNe, Nat.reduceBEq, Nat.reduceMul, Nat.reducePow, Int.cast_ofNat_Int, *])
  | some t =>
    have h1 : (some t : Option (List UInt8)).isSome = true := rfl
    have h2 : (some t : Option (List UInt8)).getD [] = t := rfl
    have ha := a3 t ht
    rw [List.nil_append] at ha
    subst ha
    clear ht a3
    (simp only [go_sem, reduceIte, Nat.reduceEqDiff, Nat.reduceLT, Nat.reduceLeDiff, Nat.reduceAdd, reduceCtorEq, Int.reduceToNat, Int.reduceLE, Int.reduceLT, Int.reduceNeg, Int.reduceEq, Int.reduceNe, Nat.reduceBEq, Nat.reduceMul, Nat.reducePow, Int.cast_ofNat_Int, *])
    refine OpW_call rfl rfl call90 rfl ((sbString_calls _ b _ _ _ a1).mono ?_)
    rintro q_ S5 ⟨rfl, hle5⟩
    (simp only [go_sem, reduceIte, Nat.reduceEqDiff, Nat.reduceLT, Nat.reduceLeDiff, Nat.reduceAdd, reduceCtorEq, Int.reduceToNat, Int.reduceLE, Int.reduceLT, Int.reduceNeg, Int.reduceEq, Int.reduceNe, Nat.reduceBEq, Nat.reduceMul, Nat.reducePow, Int.cast_ofNat_Int, *])
/-! Quoted -/
def isQ (k : Int) : Bool := decide (k = 2) || decide (k = 3) || decide (k = 4)
def fstAt {α : Type} (so : α → Bool) : Nat → List α → Int
  | _, [] => -1
  | i, r :: rs => if so r then (i : Int) else fstAt so (i + 1) rs
theorem fstAt_any {α : Type} (so : α → Bool) : ∀ (rs : List α) (i : Nat), decide (0 ≤ fstAt so i rs) = rs.any so
  | [], i => by simp [fstAt]
  | r :: rs, i => by
    simp only [fstAt, List.any_cons]
    by_cases h : so r = true
    · simp [h]
    · simp only [h]; simpa using fstAt_any so rs (i + 1)
theorem indexPart_calls (g : FuncId) (so : Pt → Bool) (hg : callable Try.prog g = true) (l : List Pt) (hll : l.length ≤ 1048576) (S : Heap) (hso : ∀ p : Pt, CallsQ Try.prog g [.agg [.int .i64 p.k, .str p.text, .str p.op, .slice 5 (prows p.kids), .slice 10 p.cmds]] S (.bool (so p))) :
    CallsQ Try.prog 130 [.slice 5 (prows l), .fn (.func g) [] []] S (.int .i64 (fstAt so 0 l)) := by
  obtain ⟨T, hT⟩ : ∃ T, fstAt so 0 l = T := ⟨_, rfl⟩
  rw [hT]
  refine CallsA_W (fun _ => false) Try.func130 rfl (Nat.le_of_ble_eq_true rfl) ?_
  simp only [Try.f130]
  (simp only [go_sem, reduceIte, Nat.reduceEqDiff, Nat.reduceLT, Nat.reduceLeDiff, Nat.reduceAdd, reduceCtorEq, Int.reduceToNat, Int.reduceLE, Int.reduceLT, Int.reduceNeg, Int.reduceEq, Int.reduceNe, Nat.reduceBEq, Nat.reduceMul, Nat.reducePow, Int.cast_ofNat_Int, *])
  refine CodeW_loop (fun m σ' S' => ∃ i : Nat, i + m = l.length ∧ σ' 0 = .slice 5 (prows l) ∧ σ' 1 = .fn (.func g) [] [] ∧ σ' 7 = .int .i64 l.length ∧ σ' 8 = .int .i64 i ∧ S' = S ∧ fstAt so i (l.drop i) = T) l.length ?_ ?_
  · (simp only [go_sem, reduceIte, Nat.reduceEqDiff, Nat.reduceLT, Nat.reduceLeDiff, Nat.reduceAdd, reduceCtorEq, Int.reduceToNat, Int.reduceLE, Int.reduceLT, Int.reduceNeg, Int.reduceEq, Int.reduceNe, Nat.reduceBEq, Nat.reduceMul, Nat.reducePow, Int.cast_ofNat_Int, *])
    exact ⟨0, by omega, rfl, by simpa using hT⟩
  · rintro m σ' S' ⟨i, h1, h2, h3, h4, h5, rfl, h6⟩
    clear hT
    cases hc : l[i]? with
    | none =>
      have hl : l.length ≤ i := List.getElem?_eq_none_iff.1 hc
      have hlt : ¬ ((i : Int) < (l.length : Int)) := by omega
      rw [List.drop_eq_nil_of_le hl] at h6
      simp only [fstAt] at h6
      subst h6
      (simp only [go_sem, reduceIte, Nat.reduceEqDiff, Nat.reduceLT, Nat.reduceLeDiff, Nat.reduceAdd, reduceCtorEq, Int.reduceToNat, Int.reduceLE, Int.reduceLT, Int.reduceNeg, Int.reduceEq, Int.reduceNe, Nat.reduceBEq, Nat.reduceMul, Nat.reducePow, Int.cast_ofNat_Int, *])
    | some p =>
      have hl := (List.getElem?_eq_some_iff.1 hc).1
      have hlt : (i : Int) < (l.length : Int) := by omega
      have hw := wrap1 hl (by omega)
      rw [drop_at hc] at h6
      simp only [fstAt] at h6
      (simp only [go_sem, reduceIte, Nat.reduceEqDiff, Nat.reduceLT, Nat.reduceLeDiff, Nat.reduceAdd, reduceCtorEq, Int.reduceToNat, Int.reduceLE, Int.reduceLT, Int.reduceNeg, Int.reduceEq, Int.reduceNe, Nat.reduceBEq, Nat.reduceMul, Nat.reducePow, Int.cast_ofNat_Int, *])
      refine OpW_call rfl rfl hg rfl ((hso p).mono ?_)
      rintro q_ S_ ⟨rfl, rfl⟩
      cases hs : so p with
      | true =>
        rw [hs, if_pos rfl] at h6
        subst h6
        (simp only [go_sem, reduceIte, Nat.reduceEqDiff, Nat.reduceLT, Nat.reduceLeDiff, Nat.reduceAdd, reduceCtorEq, Int.reduceToNat, Int.reduceLE, Int.reduceLT, Int.reduceNeg, Int.reduceEq, Int.reduceNe, Nat.reduceBEq, Nat.reduceMul, Nat.reducePow, Int.cast_ofNat_Int, *])
      | false =>
        rw [hs] at h6
        simp only [Bool.false_eq_true, if_false] at h6
        (simp only [go_sem, reduceIte, Nat.reduceEqDiff, Nat.reduceLT, Nat.reduceLeDiff, Nat.reduceAdd, reduceCtorEq, Int.reduceToNat, Int.reduceLE, Int.reduceLT, Int.reduceNeg, Int.reduceEq, Int.reduceNe, Nat.reduceBEq, Nat.reduceMul, Nat.reducePow, Int.cast_ofNat_Int, *])
        exact ⟨m - 1, by omega, i + 1, by omega, rfl, h6⟩
theorem containsPart_calls (g : FuncId) (so : Pt → Bool) (hg : callable Try.prog g = true) (l : List Pt) (hll : l.length ≤ 1048576) (S : Heap) (hso : ∀ p : Pt, CallsQ Try.prog g [.agg [.int .i64 p.k, .str p.text, .str p.op, .slice 5 (prows p.kids), .slice 10 p.cmds]] S (.bool (so p))) :
    CallsQ Try.prog 96 [.slice 5 (prows l), .fn (.func g) [] []] S (.bool (l.any so)) := by
  have h := indexPart_calls g so hg l hll S hso
  rw [← fstAt_any so l 0]
  generalize fstAt so 0 l = T at *
  refine CallsA_W (fun _ => false) Try.func96 rfl (Nat.le_of_ble_eq_true rfl) ?_
  simp only [Try.f96]
  (simp only [go_sem, reduceIte, Nat.reduceEqDiff, Nat.reduceLT, Nat.reduceLeDiff, Nat.reduceAdd, reduceCtorEq, Int.reduceToNat, Int.reduceLE, Int.reduceLT, Int.reduceNeg, Int.reduceEq, Int.reduceNe, Nat.reduceBEq, Nat.reduceMul, Nat.reducePow, Int.cast_ofNat_Int, *])
  refine OpW_call rfl rfl call130 rfl (h.mono ?_)
  rintro q_ S_ ⟨rfl, rfl⟩
  (simp only [go_sem, reduceIte, Nat.reduceEqDiff, Nat.reduceLT, Nat.reduceLeDiff, Nat.reduceAdd, reduceCtorEq, Int.reduceToNat, Int.reduceLE, Int.reduceLT, Int.reduceNeg, Int.reduceEq, Int.reduceNe, Nat.reduceBEq, Nat.reduceMul, Nat.reducePow, Int.cast_ofNat_Int, *])
theorem quoted1_calls (p : Pt) (S : Heap) : CallsQ Try.prog 97 [.agg [.int .i64 p.k, .str p.text, .str p.op, .slice 5 (prows p.kids), .slice 10 p.cmds]] S (.bool (isQ p.k)) := by
  refine CallsA_W (fun _ => false) Try.func97 rfl (Nat.le_of_ble_eq_true rfl) ?_
  simp only [Try.f97]
  unfold isQ
  (simp only [go_sem, reduceIte, Nat.reduceEqDiff, Nat.reduceLT, Nat.reduceLeDiff, Nat.reduceAdd, reduceCtorEq, Int.reduceToNat, Int.reduceLE, Int.reduceLT, Int.reduceNeg, Int.reduceEq, Int.reduceNe, Nat.reduceBEq, Nat.reduceMul, Nat.reducePow, Int.cast_ofNat_Int, *])
  (repeat' ((first | refine split_d ?_ ?_ | refine split_gt rfl ?_ ?_ | refine split_gf rfl ?_ ?_ | refine split_b ?_ ?_ | refine split_gb rfl ?_ ?_) <;> intro _ <;> ((try simp only [go_sem, reduceIte, Nat.reduceEqDiff, Nat.reduceLT, Nat.reduceLeDiff, Nat.reduceAdd, reduceCtorEq, Int.reduceToNat, Int.reduceLE, Int.reduceLT, Int.reduceNeg, *]))))
  all_goals simp_all
theorem quoted_calls (l : List Pt) (hll : l.length ≤ 1048576) (S : Heap) : CallsQ Try.prog 44 [.agg [.slice 5 (prows l)]] S (.bool (l.any fun p => isQ p.k)) := by
  have h := containsPart_calls 97 (fun p => isQ p.k) call97 l hll S (fun p => quoted1_calls p S)
  refine CallsA_W (fun _ => false) Try.func44 rfl (Nat.le_of_ble_eq_true rfl) ?_
  simp only [Try.f44]
  (simp only [go_sem, reduceIte, Nat.reduceEqDiff, Nat.reduceLT, Nat.reduceLeDiff, Nat.reduceAdd, reduceCtorEq, Int.reduceToNat, Int.reduceLE, Int.reduceLT, Int.reduceNeg, Int.reduceEq, Int.reduceNe, Nat.reduceBEq, Nat.reduceMul, Nat.reducePow, Int.cast_ofNat_Int, *])
  refine OpW_call rfl rfl call96 rfl (h.mono ?_)
  rintro q_ S_ ⟨rfl, rfl⟩
  (simp only [go_sem, reduceIte, Nat.reduceEqDiff, Nat.reduceLT, Nat.reduceLeDiff, Nat.reduceAdd, reduceCtorEq, Int.reduceToNat, Int.reduceLE, Int.reduceLT, Int.reduceNeg, Int.reduceEq, Int.reduceNe, Nat.reduceBEq, Nat.reduceMul, Nat.reducePow, Int.cast_ofNat_Int, *])
/-! Plain -/
def plainOf : List Pt → Option (List UInt8)
  | [p] => if p.k = 1 then some p.text else none
  | _ => none
theorem uqPlain_calls (l : List Pt) (S : Heap) : CallsQ Try.prog 41 [.agg [.slice 5 (prows l)]] S (.tup [.str ((plainOf l).getD []), .bool (plainOf l).isSome]) := by
  refine CallsA_W (fun _ => false) Try.func41 rfl (Nat.le_of_ble_eq_true rfl) ?_
  simp only [Try.f41]
  cases l with
  | nil =>
    (simp only [go_sem, reduceIte, Nat.reduceEqDiff, Nat.reduceLT, Nat.reduceLeDiff, Nat.reduceAdd, reduceCtorEq, Int.reduceToNat, Int.reduceLE, Int.reduceLT, Int.reduceNeg, Int.reduceEq, Int.reduceNe, Nat.reduceBEq, Nat.reduceMul, Nat.reducePow, Int.cast_ofNat_Int, *])
    rfl
  | cons p l =>
    cases l with
    | nil =>
      by_cases hk : p.k = 1
      · have hp : plainOf [p] = some p.text := if_pos hk
        (simp only [go_sem, reduceIte, Nat.reduceEqDiff, Nat.reduceLT, Nat.reduceLeDiff, Nat.reduceAdd, reduceCtorEq, Int.reduceToNat, Int.reduceLE, Int.reduceLT, Int.reduceNeg, Int.reduceEq, Int.reduceNe, Nat.reduceBEq, Nat.reduceMul, Nat.reducePow, Int.cast_ofNat_Int, *])
        done
      · have hp : plainOf [p] = none := if_neg hk
        (simp only [go_sem, reduceIte, Nat.reduceEqDiff, Nat.reduceLT, Nat.reduceLeDiff, Nat.reduceAdd, reduceCtorEq, Int.reduceToNat, Int.reduceLE, Int.reduceLT, Int.reduceNeg, Int.reduceEq, Int.reduceNe, Nat.reduceBEq, Nat.reduceMul, Nat.reducePow, Int.cast_ofNat_Int, *])
        rfl
    | cons q l =>
      have hne : ¬ ((l.length + 1 + 1 : Nat) : Int) = 1 := by omega
      have hp : plainOf (p :: q :: l) = none := rfl
      (simp only [go_sem, reduceIte, Nat.reduceEqDiff, Nat.reduceLT, Nat.reduceLeDiff, Nat.reduceAdd, reduceCtorEq, Int.reduceToNat, Int.reduceLE, Int.reduceLT, Int.reduceNeg, Int.reduceEq, Int.reduceNe, Nat.reduceBEq, Nat.reduceMul, Nat.reducePow, Int.cast_ofNat_Int, *])
      rfl
end Go.Proofs.Ytcbonfgkfiapaaa.Pv
