/- What unquote.Assign computes: a name, and what it is given. -/
import Derived.Test.YtcbonfgkfiapaaaSlc
import Derived.Test.YtcbonfgkfiapaaaChar3
import Derived.Test.YtcbonfgkfiapaaaPtProgB
set_option linter.unusedVariables false
set_option linter.unusedSimpArgs false
set_option maxRecDepth 100000
set_option maxHeartbeats 40000000
namespace Go.Proofs.Ytcbonfgkfiapaaa.Pv
open Go Go.RowKit

theorem oneRows (l : List Pt) : ∀ r ∈ prows l, ∀ c ∈ r, c.isOne = true := by
  intro r hr c hc
  rw [prows_map, List.mem_map] at hr
  obtain ⟨p, _, rfl⟩ := hr
  rw [row_eq] at hc
  simp only [List.mem_cons, List.not_mem_nil, or_false] at hc
  rcases hc with rfl | rfl | rfl | rfl | rfl <;> rfl

theorem clonePart_calls (l : List Pt) (hll : l.length ≤ 2097152) (S : Heap) : CallsA Try.prog 92 [.slice 5 (prows l)] S
    (fun q S' => S.le S' ∧ Grows S' 5 41 (prows l) q ∧ ∀ b, ownB q = some b → S b = none) := by
  have hone := oneRows l
  refine CallsA_W (fun _ => false) Try.func92 rfl (Nat.le_of_ble_eq_true rfl) ?_
  simp only [Try.f92]
  (simp only [go_sem, reduceIte, Nat.reduceEqDiff, Nat.reduceLT, Nat.reduceLeDiff, Nat.reduceAdd, reduceCtorEq, Int.reduceToNat, Int.reduceLE, Int.reduceLT, Int.reduceNeg, Int.reduceEq, Int.reduceNe, Nat.reduceBEq, Nat.reduceMul, Nat.reducePow, Int.cast_ofNat_Int, *])
  refine OpW_of (OpA_nilAny (e := 41) rfl (by kernel_rfl) rfl rfl fun r hr => ?_)
  cases r with
  | true =>
    have hn : prows l = [] := by
      by_cases h : prows l = []
      · exact h
      · exact absurd (hr h) (by simp)
    (simp only [go_sem, reduceIte, Nat.reduceEqDiff, Nat.reduceLT, Nat.reduceLeDiff, Nat.reduceAdd, reduceCtorEq, Int.reduceToNat, Int.reduceLE, Int.reduceLT, Int.reduceNeg, Int.reduceEq, Int.reduceNe, Nat.reduceBEq, Nat.reduceMul, Nat.reducePow, Int.cast_ofNat_Int, *])
    exact ⟨Heap.le_refl _, Or.inl ⟨rfl, rfl⟩, fun b h => by cases h⟩
  | false =>
    clear hr
    (simp only [go_sem, reduceIte, Nat.reduceEqDiff, Nat.reduceLT, Nat.reduceLeDiff, Nat.reduceAdd, reduceCtorEq, Int.reduceToNat, Int.reduceLE, Int.reduceLT, Int.reduceNeg, Int.reduceEq, Int.reduceNe, Nat.reduceBEq, Nat.reduceMul, Nat.reducePow, Int.cast_ofNat_Int, *])
    refine OpW_append (rows := prows l) (olds := []) (ps := .sl0) rfl appParts rfl rfl hone rfl (Or.inl ⟨rfl, rfl⟩) (by simp only [List.length_nil, prows_len, maxLen]; omega) (by simp only [List.length_nil, prows_len]; omega) ?_
    rintro p S1 g1 g2 g3
    obtain ⟨j1, j2⟩ := grow_le (Heap.le_refl S) (ps := .sl0) (fun c hc => by cases hc) g2 g3
    have k1 := Keep.mk g1
    clear g1 g2 g3
    (simp only [go_sem, reduceIte, Nat.reduceEqDiff, Nat.reduceLT, Nat.reduceLeDiff, Nat.reduceAdd, reduceCtorEq, Int.reduceToNat, Int.reduceLE, Int.reduceLT, Int.reduceNeg, Int.reduceEq, Int.reduceNe, Nat.reduceBEq, Nat.reduceMul, Nat.reducePow, Int.cast_ofNat_Int, *])
    exact ⟨k1.of, j2⟩

section
variable {P : Program} {n : Nat} {σ : Regs} {S : Heap}
theorem QV_slice0 {o : Oper} {t : TypeId} {x : Operand} {lo hi : Option Operand} {sz : Nat} (ho : o.op = .slice t x lo hi none) (he : elemSize P t = some sz) (hx : ev σ x = .sl0) (hlo : bound σ 0 lo = some 0) (hhi : bound σ 0 hi = some 0) : QV P o σ S .sl0 := by
  refine QV_run fun n σ' w a hag hst => ?_
  have hall : ∀ y ∈ o.op.operands.toList, ev σ' y = ev σ y := ev_congr hag
  have r1 := rep_ev hst x
  rw [hall x (by simp [ho, Op.operands]), hx] at r1
  simp only [Rep] at r1
  have e1 : bound σ' 0 lo = some 0 := by rw [← hlo]; exact bound_congr fun y hy => hall y (by subst hy; simp [ho, Op.operands])
  have e2 : bound σ' 0 hi = some 0 := by rw [← hhi]; exact bound_congr fun y hy => hall y (by subst hy; simp [ho, Op.operands])
  have g1 : (lo.map a.eval = none ∧ 0 = 0) ∨ ∃ k, lo.map a.eval = some (.int k ((0 : Nat) : Int)) := by
    rcases bound_spec hst e1 with ⟨e, e'⟩ | ⟨y, k, e, e'⟩
    · exact Or.inl ⟨by simp [e], e'⟩
    · exact Or.inr ⟨k, by simp [e, e']⟩
  have g2 : (hi.map a.eval = none ∧ 0 = 0) ∨ ∃ k, hi.map a.eval = some (.int k ((0 : Nat) : Int)) := by
    rcases bound_spec hst e2 with ⟨e, e'⟩ | ⟨y, k, e, e'⟩
    · exact Or.inl ⟨by simp [e], e'⟩
    · exact Or.inr ⟨k, by simp [e, e']⟩
  obtain ⟨e, inf, hu, hi', hsz⟩ := elemSize_spec he
  have eb := run_bounds (P := P) (w := w) true 0 0 0 0 _ _ g1 g2 (Nat.le_refl _) (Nat.le_refl _)
  obtain ⟨ad, r1⟩ := r1
  refine ⟨.slice ad 0 0, ?_, by simp only [Rep]; exact ⟨_, rfl⟩⟩
  cases ad <;> simp [execOp, ho, r1, Instr.sliceAt, Instr.slice, run_under hu, eb, run_sizeOf' hi', hsz]
theorem Eff_copyV {o : Oper} {t t' : TypeId} {d s : Operand} {sz b k dn dc cap : Nat} {rs rows : List (List PV)} {bt : TypeId} (ho : o.op = .call { callee := .builtin .copy, args := #[d, s], argTypes := #[t, t'] }) (hf : elemSize P t = some sz) (hz : 0 < sz)
    (hdv : ev σ d = .vat b (k * sz) dn dc ∨ (ev σ d = .vec b dn dc ∧ k = 0)) (hb : S b = some (.rows sz rs cap bt)) (hx : elemsOf S sz (ev σ s) = some rows) (h1 : ∀ r ∈ rows, ∀ c ∈ r, c.isOne = true)
    (hdn : rows.length ≤ dn) (hk : k ≤ rs.length) (hc : k + rows.length ≤ cap) : Eff P o σ S (fun p S' => p = .int .i64 (rows.length : Int) ∧ S' = S.set b (.rows sz (rs.take k ++ rows ++ rs.drop (k + rows.length)) cap bt)) :=
  Eff_of fun n σ' K hd he hK => OpA_copyV ho hf hz (by rw [he d (by simp [ho, Op.operands, Call.operands])]; exact hdv) hb (by rw [he s (by simp [ho, Op.operands, Call.operands])]; exact hx) h1 hdn hk hc hd (hK _ _ ⟨rfl, rfl⟩)
theorem Eff_copyL {o : Oper} {t t' : TypeId} {d s : Operand} {sz b k dn dc cap b2 sn sc cap2 : Nat} {rs rows : List (List PV)} {bt bt2 : TypeId} {rs2 : List (List PV)} (ho : o.op = .call { callee := .builtin .copy, args := #[d, s], argTypes := #[t, t'] }) (hf : elemSize P t = some sz) (hz : 0 < sz)
    (hdv : ev σ d = .vat b (k * sz) dn dc ∨ (ev σ d = .vec b dn dc ∧ k = 0)) (hb : S b = some (.rows sz rs cap bt)) (hsv : ev σ s = .vec b2 sn sc) (hb2 : S b2 = some (.rows sz rs2 cap2 bt2)) (hsn : dn ≤ sn) (hs2 : dn ≤ rs2.length) (hrows : rs2.take dn = rows) (h1 : ∀ r ∈ rows, ∀ c ∈ r, c.isOne = true)
    (hk : k ≤ rs.length) (hc : k + rows.length ≤ cap) : Eff P o σ S (fun p S' => p = .int .i64 (rows.length : Int) ∧ S' = S.set b (.rows sz (rs.take k ++ rows ++ rs.drop (k + rows.length)) cap bt)) :=
  Eff_of fun n σ' K hd he hK => OpA_copyL ho hf hz (by rw [he d (by simp [ho, Op.operands, Call.operands])]; exact hdv) hb (by rw [he s (by simp [ho, Op.operands, Call.operands])]; exact hsv) hb2 hsn hs2 hrows h1 hk hc hd (hK _ _ ⟨rfl, rfl⟩)
end
theorem esPart : elemSize Try.prog 31 = some 5 := by kernel_rfl
theorem partSl : Try.prog.underlying 31 = some (.slice 41) := by kernel_rfl
theorem partSize (w : World) : (Go.sizeOf 41).run Try.prog w = .ok 5 w := by
  have h : Try.prog.info? 41 = some _ := rfl
  exact run_sizeOf' h w
def zPart : List PV := [.int .i64 0, .str [], .str [], .sl0, .sl0]
theorem zPart_rep (w : World) (im : Nat → Prop) : RepVals w im zPart (Value.cells (.agg #[.int .i64 0, .string ⟨#[]⟩, .string ⟨#[]⟩, .slice none 0 0, .slice none 0 0])).toList := by
  show RepVals w im zPart [.int .i64 0, .string ⟨#[]⟩, .string ⟨#[]⟩, .slice none 0 0, .slice none 0 0]
  unfold zPart
  exact repVals_cons.2 ⟨by simp only [Rep], repVals_cons.2 ⟨by simp [Rep], repVals_cons.2 ⟨by simp [Rep], repVals_cons.2 ⟨by simp only [Rep]; exact ⟨_, rfl⟩, repVals_cons.2 ⟨by simp only [Rep]; exact ⟨_, rfl⟩, by simp [RepVals]⟩⟩⟩⟩⟩
theorem insertPart_calls (rows : List (List PV)) (row : List PV) (ho : ∀ c ∈ row, c.isOne = true) (hos : ∀ r ∈ rows, ∀ c ∈ r, c.isOne = true) (hl : rows.length ≤ 2097152) (q : PV) (c : Nat) (B S : Heap)
    (hg : Grows S 5 41 rows q) (hq : ∀ b, ownB q = some b → B b = none) (hc : S c = some (.rows 5 [row] 1 41)) (hB : B.le S) (hne : ownB q ≠ some c) :
    CallsA Try.prog 93 [q, .int .i64 0, .vec c 1 1] S (fun q' S' => B.le S' ∧ Grows S' 5 41 (row :: rows) q' ∧ ∀ b, ownB q' = some b → B b = none) := by
  have h1 : ∀ r ∈ [row], ∀ c ∈ r, c.isOne = true := fun r hr => by simp only [List.mem_singleton] at hr; subst hr; exact ho
  have hcx : elemsOf S 5 (.vec c 1 1) = some [row] := by simp [elemsOf, hc]
  have w00 : IntKind.i64.wrap (0 + 1) = 1 := by decide
  rcases hg with ⟨rfl, rfl⟩ | ⟨b, cap, cap', rfl, hb, hcap, hcap'⟩
  · skip
    refine CallsA_W (fun _ => false) Try.func93 rfl (Nat.le_of_ble_eq_true rfl) ?_
    simp only [Try.f93]
    (simp only [go_sem, reduceIte, Nat.reduceEqDiff, Nat.reduceLT, Nat.reduceLeDiff, Nat.reduceAdd, reduceCtorEq, Int.reduceToNat, Int.reduceLE, Int.reduceLT, Int.reduceNeg, Int.reduceEq, Int.reduceNe, Nat.reduceBEq, Nat.reduceMul, Nat.reducePow, Int.cast_ofNat_Int, *])
    refine OpW_QV (QV_slice0 rfl esPart rfl rfl rfl) rfl ?_
    (simp only [go_sem, reduceIte, Nat.reduceEqDiff, Nat.reduceLT, Nat.reduceLeDiff, Nat.reduceAdd, reduceCtorEq, Int.reduceToNat, Int.reduceLE, Int.reduceLT, Int.reduceNeg, Int.reduceEq, Int.reduceNe, Nat.reduceBEq, Nat.reduceMul, Nat.reducePow, Int.cast_ofNat_Int, *])
    refine OpW_append (rows := [row]) (olds := []) (ps := .sl0) rfl appParts rfl hcx h1 rfl (Or.inl ⟨rfl, rfl⟩) (Nat.le_of_ble_eq_true rfl) (Nat.le_of_ble_eq_true rfl) ?_
    rintro p S1 g1 g2 g3
    obtain ⟨j1, j2⟩ := grow_le hB (ps := .sl0) (fun c hc => by cases hc) g2 g3
    have k1 := Keep.mk g1
    clear g1 g2 g3
    (simp only [go_sem, reduceIte, Nat.reduceEqDiff, Nat.reduceLT, Nat.reduceLeDiff, Nat.reduceAdd, reduceCtorEq, Int.reduceToNat, Int.reduceLE, Int.reduceLT, Int.reduceNeg, Int.reduceEq, Int.reduceNe, Nat.reduceBEq, Nat.reduceMul, Nat.reducePow, Int.cast_ofNat_Int, *])
    exact ⟨k1.of, j2⟩
  · by_cases h0 : rows = []
    · subst h0
      refine CallsA_W (fun _ => false) Try.func93 rfl (Nat.le_of_ble_eq_true rfl) ?_
      simp only [Try.f93]
      (simp only [go_sem, reduceIte, Nat.reduceEqDiff, Nat.reduceLT, Nat.reduceLeDiff, Nat.reduceAdd, reduceCtorEq, Int.reduceToNat, Int.reduceLE, Int.reduceLT, Int.reduceNeg, Int.reduceEq, Int.reduceNe, Nat.reduceBEq, Nat.reduceMul, Nat.reducePow, Int.cast_ofNat_Int, *])
      refine OpW_QV (QV_sliceV0 (b := b) (c := 0) (cap := cap) (h := 0) rfl esPart rfl rfl rfl (Nat.zero_le _)) rfl ?_
      (simp only [go_sem, reduceIte, Nat.reduceEqDiff, Nat.reduceLT, Nat.reduceLeDiff, Nat.reduceAdd, reduceCtorEq, Int.reduceToNat, Int.reduceLE, Int.reduceLT, Int.reduceNeg, Int.reduceEq, Int.reduceNe, Nat.reduceBEq, Nat.reduceMul, Nat.reducePow, Int.cast_ofNat_Int, *])
      refine OpW_append (rows := [row]) (olds := []) (ps := .vec b 0 cap) rfl appParts rfl hcx h1 rfl (Or.inr ⟨b, cap, cap', rfl, hb, hcap, hcap'⟩) (Nat.le_of_ble_eq_true rfl) (Nat.le_of_ble_eq_true rfl) ?_
      rintro p S1 g1 g2 g3
      obtain ⟨j1, j2⟩ := grow_le hB (ps := .vec b 0 cap) hq g2 g3
      have k1 := Keep.mk g1
      clear g1 g2 g3
      (simp only [go_sem, reduceIte, Nat.reduceEqDiff, Nat.reduceLT, Nat.reduceLeDiff, Nat.reduceAdd, reduceCtorEq, Int.reduceToNat, Int.reduceLE, Int.reduceLT, Int.reduceNeg, Int.reduceEq, Int.reduceNe, Nat.reduceBEq, Nat.reduceMul, Nat.reducePow, Int.cast_ofNat_Int, *])
      exact ⟨k1.of, j2⟩
    · have hpos : 0 < rows.length := List.length_pos_iff.2 h0
      have hn0 : ¬ (0 : Int) = (rows.length : Int) := by omega
      have hw1 : IntKind.i64.wrap ((rows.length : Int) + 1) = ((rows.length + 1 : Nat) : Int) := by rw [wrap_in (by omega)]; rfl
      have hw2 : IntKind.i64.wrap (((rows.length + 1 : Nat) : Int) - 0) = ((rows.length + 1 : Nat) : Int) := by rw [wrap_in (by omega)]; omega
      have hbc : b ≠ c := fun e => hne (by rw [e]; rfl)
      by_cases hr : cap < rows.length + 1
      · have hgt : (cap : Int) < ((rows.length + 1 : Nat) : Int) := by omega
        clear h0
        refine CallsA_W (fun _ => false) Try.func93 rfl (Nat.le_of_ble_eq_true rfl) ?_
        simp only [Try.f93]
        (simp only [go_sem, reduceIte, Nat.reduceEqDiff, Nat.reduceLT, Nat.reduceLeDiff, Nat.reduceAdd, reduceCtorEq, Int.reduceToNat, Int.reduceLE, Int.reduceLT, Int.reduceNeg, Int.reduceEq, Int.reduceNe, Nat.reduceBEq, Nat.reduceMul, Nat.reducePow, Int.cast_ofNat_Int, *])
        refine OpW_QV (QV_sliceV0 (b := b) (c := rows.length) (cap := cap) (h := rows.length) rfl esPart rfl rfl rfl hcap) rfl ?_
        (simp only [go_sem, reduceIte, Nat.reduceEqDiff, Nat.reduceLT, Nat.reduceLeDiff, Nat.reduceAdd, reduceCtorEq, Int.reduceToNat, Int.reduceLE, Int.reduceLT, Int.reduceNeg, Int.reduceEq, Int.reduceNe, Nat.reduceBEq, Nat.reduceMul, Nat.reducePow, Int.cast_ofNat_Int, *])
        refine OpW_QV (QV_cap rfl partSl rfl) rfl ?_
        (simp only [go_sem, reduceIte, Nat.reduceEqDiff, Nat.reduceLT, Nat.reduceLeDiff, Nat.reduceAdd, reduceCtorEq, Int.reduceToNat, Int.reduceLE, Int.reduceLT, Int.reduceNeg, Int.reduceEq, Int.reduceNe, Nat.reduceBEq, Nat.reduceMul, Nat.reducePow, Int.cast_ofNat_Int, *])
        refine OpW_QV (QV_sliceV0 (b := b) (c := rows.length) (cap := cap) (h := 0) rfl esPart rfl rfl rfl (Nat.zero_le _)) rfl ?_
        (simp only [go_sem, reduceIte, Nat.reduceEqDiff, Nat.reduceLT, Nat.reduceLeDiff, Nat.reduceAdd, reduceCtorEq, Int.reduceToNat, Int.reduceLE, Int.reduceLT, Int.reduceNeg, Int.reduceEq, Int.reduceNe, Nat.reduceBEq, Nat.reduceMul, Nat.reducePow, Int.cast_ofNat_Int, *])
        refine OpW_of (OpA_appendZ (kn := .i64) (kq := .i64) (b := b) (cap0 := cap) (m := rows.length + 1) (zs := zPart) (z := .agg #[.int .i64 0, .string ⟨#[]⟩, .string ⟨#[]⟩, .slice none 0 0, .slice none 0 0]) rfl appParts (by kernel_rfl) (by kernel_rfl) zPart_rep rfl rfl hr (by omega) (by omega) rfl fun d cap2 hd hm => ?_)
        have hdc : c ≠ d := fun e => by rw [e, hd] at hc; cases hc
        have hdb : b ≠ d := fun e => by rw [e, hd] at hb; cases hb
        have hBd : B d = none := by
          cases hx : B d with
          | none => rfl
          | some o => have := hB d o hx; rw [hd] at this; cases this
        have hS2 : S.le (S.set d (.rows 5 (List.replicate (rows.length + 1) zPart) cap2 41)) := Heap.le_set hd
        have hb2 := hS2 _ _ hb
        have hc2 := hS2 _ _ hc
        have hB2 := Heap.le_trans hB hS2
        have hd2 : (S.set d (.rows 5 (List.replicate (rows.length + 1) zPart) cap2 41)) d = some (.rows 5 (List.replicate (rows.length + 1) zPart) cap2 41) := by rw [set_apply, if_pos rfl]
        generalize S.set d (.rows 5 (List.replicate (rows.length + 1) zPart) cap2 41) = S2 at *
        have hcx2 : elemsOf S2 5 (.vec c 1 1) = some [row] := by simp [elemsOf, hc2]
        clear hS2 hcx hb hc hd hB
        (simp only [go_sem, reduceIte, Nat.reduceEqDiff, Nat.reduceLT, Nat.reduceLeDiff, Nat.reduceAdd, reduceCtorEq, Int.reduceToNat, Int.reduceLE, Int.reduceLT, Int.reduceNeg, Int.reduceEq, Int.reduceNe, Nat.reduceBEq, Nat.reduceMul, Nat.reducePow, Int.cast_ofNat_Int, *])
        refine OpW_QV (QV_sliceV0 (b := d) (c := rows.length + 1) (cap := cap2) (h := rows.length + 1) rfl esPart rfl rfl rfl hm) rfl ?_
        (simp only [go_sem, reduceIte, Nat.reduceEqDiff, Nat.reduceLT, Nat.reduceLeDiff, Nat.reduceAdd, reduceCtorEq, Int.reduceToNat, Int.reduceLE, Int.reduceLT, Int.reduceNeg, Int.reduceEq, Int.reduceNe, Nat.reduceBEq, Nat.reduceMul, Nat.reducePow, Int.cast_ofNat_Int, *])
        refine OpW_of (OpA_copyV (k := 0) (rows := [row]) rfl esPart (Nat.le_of_ble_eq_true rfl) (Or.inr ⟨rfl, rfl⟩) hd2 hcx2 h1 (by simp) (Nat.zero_le _) (by simp; omega) rfl ?_)
        have hrw : (List.replicate (rows.length + 1) zPart).take 0 ++ [row] ++ (List.replicate (rows.length + 1) zPart).drop (0 + [row].length) = row :: List.replicate rows.length zPart := by simp [List.replicate_succ]
        rw [hrw]
        have hB3 : B.le (S2.set d (.rows 5 (row :: List.replicate rows.length zPart) cap2 41)) := Heap.le_own hB2 hBd
        have hd3 : (S2.set d (.rows 5 (row :: List.replicate rows.length zPart) cap2 41)) d = some (.rows 5 (row :: List.replicate rows.length zPart) cap2 41) := by rw [set_apply, if_pos rfl]
        have hb3 : (S2.set d (.rows 5 (row :: List.replicate rows.length zPart) cap2 41)) b = some (.rows 5 rows cap' 41) := by rw [set_apply, if_neg hdb]; exact hb2
        generalize S2.set d (.rows 5 (row :: List.replicate rows.length zPart) cap2 41) = S3 at *
        have hbx3 : elemsOf S3 5 (.vec b rows.length cap) = some rows := by simp [elemsOf, hb3]
        have hbo : bound (fun _ => PV.any) 0 none = some 0 := rfl
        clear hrw hd2 hb2 hc2 hB2 hcx2
        (simp only [go_sem, reduceIte, Nat.reduceEqDiff, Nat.reduceLT, Nat.reduceLeDiff, Nat.reduceAdd, reduceCtorEq, Int.reduceToNat, Int.reduceLE, Int.reduceLT, Int.reduceNeg, Int.reduceEq, Int.reduceNe, Nat.reduceBEq, Nat.reduceMul, Nat.reducePow, Int.cast_ofNat_Int, *])
        refine CodeW_any mixed [.pure, .pure, .pure, .pure, .val (.vat d (1 * 5) rows.length (cap2 - 1)), .pure, .pure, .val (.vec b rows.length cap), .eff] (by kernel_rfl) (by kernel_rfl) ⟨trivial, trivial, trivial, trivial, trivial, trivial, trivial, trivial, trivial, trivial⟩ ?_
        simp only [List.zip_cons_cons, List.zip_nil_right, List.zip_nil_left]
        (simp only [go_sem, reduceIte, Nat.reduceEqDiff, Nat.reduceLT, Nat.reduceLeDiff, Nat.reduceAdd, reduceCtorEq, Int.reduceToNat, Int.reduceLE, Int.reduceLT, Int.reduceNeg, Int.reduceEq, Int.reduceNe, Nat.reduceBEq, Nat.reduceMul, Nat.reducePow, Int.cast_ofNat_Int, *])
        refine RunL_val (fun S' => QV_sliceV (b := d) (c := rows.length + 1) (cap := cap2) (l := 1) (h := rows.length + 1) rfl esPart rfl rfl rfl (by omega) hm (by omega)) ?_
        (simp only [go_sem, reduceIte, Nat.reduceEqDiff, Nat.reduceLT, Nat.reduceLeDiff, Nat.reduceAdd, reduceCtorEq, Int.reduceToNat, Int.reduceLE, Int.reduceLT, Int.reduceNeg, Int.reduceEq, Int.reduceNe, Nat.reduceBEq, Nat.reduceMul, Nat.reducePow, Int.cast_ofNat_Int, *])
        refine RunL_val (fun S' => QV_sliceV0 (b := b) (c := rows.length) (cap := cap) (h := rows.length) rfl esPart rfl rfl rfl hcap) ?_
        (simp only [go_sem, reduceIte, Nat.reduceEqDiff, Nat.reduceLT, Nat.reduceLeDiff, Nat.reduceAdd, reduceCtorEq, Int.reduceToNat, Int.reduceLE, Int.reduceLT, Int.reduceNeg, Int.reduceEq, Int.reduceNe, Nat.reduceBEq, Nat.reduceMul, Nat.reducePow, Int.cast_ofNat_Int, *])
        refine RunL_eff (Eff_copyV (k := 1) (rows := rows) rfl esPart (Nat.le_of_ble_eq_true rfl) (Or.inl rfl) hd3 hbx3 hos (Nat.le_refl _) (by simp) (by omega)) (fun h => ⟨_, _, ⟨rfl, rfl⟩, h.set⟩) ?_
        rintro q_ S4 ⟨rfl, rfl⟩
        have hrw : (row :: List.replicate rows.length zPart).take 1 ++ rows ++ (row :: List.replicate rows.length zPart).drop (1 + rows.length) = row :: rows := by
          rw [List.drop_of_length_le (by simp; omega)]; simp
        rw [hrw]
        have hB4 : B.le (S3.set d (.rows 5 (row :: rows) cap2 41)) := Heap.le_own hB3 hBd
        have hg4 : Grows (S3.set d (.rows 5 (row :: rows) cap2 41)) 5 41 (row :: rows) (.vec d (rows.length + 1) cap2) := Or.inr ⟨d, cap2, cap2, rfl, by rw [set_apply, if_pos rfl], hm, Nat.le_refl _⟩
        have hg4' := Keep.mk hg4
        clear hrw hd3 hb3 hB3 hbx3 hg4
        generalize S3.set d (.rows 5 (row :: rows) cap2 41) = S4 at *
        (simp only [go_sem, reduceIte, Nat.reduceEqDiff, Nat.reduceLT, Nat.reduceLeDiff, Nat.reduceAdd, reduceCtorEq, Int.reduceToNat, Int.reduceLE, Int.reduceLT, Int.reduceNeg, Int.reduceEq, Int.reduceNe, Nat.reduceBEq, Nat.reduceMul, Nat.reducePow, Int.cast_ofNat_Int, *])
        exact ⟨hg4'.of, fun b' hb' => by cases hb'; exact hBd⟩
      · have hgt : ¬ (cap : Int) < ((rows.length + 1 : Nat) : Int) := by omega
        clear h0
        refine CallsA_W (fun _ => false) Try.func93 rfl (Nat.le_of_ble_eq_true rfl) ?_
        simp only [Try.f93]
        (simp only [go_sem, reduceIte, Nat.reduceEqDiff, Nat.reduceLT, Nat.reduceLeDiff, Nat.reduceAdd, reduceCtorEq, Int.reduceToNat, Int.reduceLE, Int.reduceLT, Int.reduceNeg, Int.reduceEq, Int.reduceNe, Nat.reduceBEq, Nat.reduceMul, Nat.reducePow, Int.cast_ofNat_Int, *])
        refine OpW_QV (QV_sliceV0 (b := b) (c := rows.length) (cap := cap) (h := rows.length) rfl esPart rfl rfl rfl hcap) rfl ?_
        (simp only [go_sem, reduceIte, Nat.reduceEqDiff, Nat.reduceLT, Nat.reduceLeDiff, Nat.reduceAdd, reduceCtorEq, Int.reduceToNat, Int.reduceLE, Int.reduceLT, Int.reduceNeg, Int.reduceEq, Int.reduceNe, Nat.reduceBEq, Nat.reduceMul, Nat.reducePow, Int.cast_ofNat_Int, *])
        refine OpW_QV (QV_cap rfl partSl rfl) rfl ?_
        (simp only [go_sem, reduceIte, Nat.reduceEqDiff, Nat.reduceLT, Nat.reduceLeDiff, Nat.reduceAdd, reduceCtorEq, Int.reduceToNat, Int.reduceLE, Int.reduceLT, Int.reduceNeg, Int.reduceEq, Int.reduceNe, Nat.reduceBEq, Nat.reduceMul, Nat.reducePow, Int.cast_ofNat_Int, *])
        have hcap1 : rows.length + 1 ≤ cap := by omega
        have hBb : B b = none := hq b rfl
        refine OpW_QV (QV_sliceV0 (b := b) (c := rows.length) (cap := cap) (h := rows.length + 1) rfl esPart rfl rfl rfl hcap1) rfl ?_
        (simp only [go_sem, reduceIte, Nat.reduceEqDiff, Nat.reduceLT, Nat.reduceLeDiff, Nat.reduceAdd, reduceCtorEq, Int.reduceToNat, Int.reduceLE, Int.reduceLT, Int.reduceNeg, Int.reduceEq, Int.reduceNe, Nat.reduceBEq, Nat.reduceMul, Nat.reducePow, Int.cast_ofNat_Int, *])
        refine OpW_QV (QV_sliceV (b := b) (c := rows.length + 1) (cap := cap) (l := 1) (h := rows.length + 1) rfl esPart rfl rfl rfl (by omega) hcap1 (by omega)) rfl ?_
        (simp only [go_sem, reduceIte, Nat.reduceEqDiff, Nat.reduceLT, Nat.reduceLeDiff, Nat.reduceAdd, reduceCtorEq, Int.reduceToNat, Int.reduceLE, Int.reduceLT, Int.reduceNeg, Int.reduceEq, Int.reduceNe, Nat.reduceBEq, Nat.reduceMul, Nat.reducePow, Int.cast_ofNat_Int, *])
        refine OpW_overlaps (b := c) (c := b) (tS := 31) (tR := 4) (e := 41) (size := 5) rfl rfl Try.func127 (by kernel_rfl) (by kernel_rfl) (by kernel_rfl) (by kernel_rfl) partSl partSize rfl rfl (Ne.symm hbc) hc hb (by omega) rfl ?_
        (simp only [go_sem, reduceIte, Nat.reduceEqDiff, Nat.reduceLT, Nat.reduceLeDiff, Nat.reduceAdd, reduceCtorEq, Int.reduceToNat, Int.reduceLE, Int.reduceLT, Int.reduceNeg, Int.reduceEq, Int.reduceNe, Nat.reduceBEq, Nat.reduceMul, Nat.reducePow, Int.cast_ofNat_Int, *])
        refine CodeW_any mixed [.pure, .pure, .pure, .pure, .val (.vat b (1 * 5) rows.length (cap - 1)), .pure, .pure, .val (.vec b (rows.length + 1) cap), .eff] (by kernel_rfl) (by kernel_rfl) ⟨trivial, trivial, trivial, trivial, trivial, trivial, trivial, trivial, trivial, trivial⟩ ?_
        simp only [List.zip_cons_cons, List.zip_nil_right, List.zip_nil_left]
        (simp only [go_sem, reduceIte, Nat.reduceEqDiff, Nat.reduceLT, Nat.reduceLeDiff, Nat.reduceAdd, reduceCtorEq, Int.reduceToNat, Int.reduceLE, Int.reduceLT, Int.reduceNeg, Int.reduceEq, Int.reduceNe, Nat.reduceBEq, Nat.reduceMul, Nat.reducePow, Int.cast_ofNat_Int, *])
        refine RunL_val (fun S' => QV_sliceV (b := b) (c := rows.length + 1) (cap := cap) (l := 1) (h := rows.length + 1) rfl esPart rfl rfl rfl (by omega) hcap1 (by omega)) ?_
        (simp only [go_sem, reduceIte, Nat.reduceEqDiff, Nat.reduceLT, Nat.reduceLeDiff, Nat.reduceAdd, reduceCtorEq, Int.reduceToNat, Int.reduceLE, Int.reduceLT, Int.reduceNeg, Int.reduceEq, Int.reduceNe, Nat.reduceBEq, Nat.reduceMul, Nat.reducePow, Int.cast_ofNat_Int, *])
        refine RunL_val (fun S' => QV_sliceV0 (b := b) (c := rows.length + 1) (cap := cap) (h := rows.length + 1) rfl esPart rfl rfl rfl hcap1) ?_
        (simp only [go_sem, reduceIte, Nat.reduceEqDiff, Nat.reduceLT, Nat.reduceLeDiff, Nat.reduceAdd, reduceCtorEq, Int.reduceToNat, Int.reduceLE, Int.reduceLT, Int.reduceNeg, Int.reduceEq, Int.reduceNe, Nat.reduceBEq, Nat.reduceMul, Nat.reducePow, Int.cast_ofNat_Int, *])
        refine RunL_eff (Eff_copyL (k := 1) (rows := rows) (dn := rows.length) (sn := rows.length + 1) rfl esPart (Nat.le_of_ble_eq_true rfl) (Or.inl rfl) hb rfl hb (Nat.le_succ _) (Nat.le_refl _) List.take_length hos hpos (by omega)) (fun h => ⟨_, _, ⟨rfl, rfl⟩, h.set⟩) ?_
        rintro q_ S3 ⟨rfl, rfl⟩
        have hdr : rows.drop (1 + rows.length) = [] := List.drop_of_length_le (by omega)
        rw [hdr, List.append_nil]
        have hlt1 : (rows.take 1).length = 1 := by rw [List.length_take]; omega
        have hB3 : B.le (S.set b (.rows 5 (rows.take 1 ++ rows) cap' 41)) := Heap.le_own hB hBb
        have hb3 : (S.set b (.rows 5 (rows.take 1 ++ rows) cap' 41)) b = some (.rows 5 (rows.take 1 ++ rows) cap' 41) := by rw [set_apply, if_pos rfl]
        have hc3 : (S.set b (.rows 5 (rows.take 1 ++ rows) cap' 41)) c = some (.rows 5 [row] 1 41) := by rw [set_apply, if_neg (Ne.symm hbc)]; exact hc
        generalize S.set b (.rows 5 (rows.take 1 ++ rows) cap' 41) = S3 at *
        have hcx3 : elemsOf S3 5 (.vec c 1 1) = some [row] := by simp [elemsOf, hc3]
        clear hB hb hc hcx hdr
        (simp only [go_sem, reduceIte, Nat.reduceEqDiff, Nat.reduceLT, Nat.reduceLeDiff, Nat.reduceAdd, reduceCtorEq, Int.reduceToNat, Int.reduceLE, Int.reduceLT, Int.reduceNeg, Int.reduceEq, Int.reduceNe, Nat.reduceBEq, Nat.reduceMul, Nat.reducePow, Int.cast_ofNat_Int, *])
        refine OpW_QV (QV_sliceV0 (b := b) (c := rows.length + 1) (cap := cap) (h := rows.length + 1) rfl esPart rfl rfl rfl hcap1) rfl ?_
        (simp only [go_sem, reduceIte, Nat.reduceEqDiff, Nat.reduceLT, Nat.reduceLeDiff, Nat.reduceAdd, reduceCtorEq, Int.reduceToNat, Int.reduceLE, Int.reduceLT, Int.reduceNeg, Int.reduceEq, Int.reduceNe, Nat.reduceBEq, Nat.reduceMul, Nat.reducePow, Int.cast_ofNat_Int, *])
        refine OpW_of (OpA_copyV (k := 0) (rows := [row]) rfl esPart (Nat.le_of_ble_eq_true rfl) (Or.inr ⟨rfl, rfl⟩) hb3 hcx3 h1 (by simp) (Nat.zero_le _) (by simp; omega) rfl ?_)
        have hrw : (rows.take 1 ++ rows).take 0 ++ [row] ++ (rows.take 1 ++ rows).drop (0 + [row].length) = row :: rows := by
          rw [show 0 + [row].length = (rows.take 1).length by rw [hlt1]; rfl, List.drop_left]; simp
        rw [hrw]
        have hB4 : B.le (S3.set b (.rows 5 (row :: rows) cap' 41)) := Heap.le_own hB3 hBb
        have hg4 : Grows (S3.set b (.rows 5 (row :: rows) cap' 41)) 5 41 (row :: rows) (.vec b (rows.length + 1) cap) := Or.inr ⟨b, cap, cap', rfl, by rw [set_apply, if_pos rfl], hcap1, hcap'⟩
        have hg4' := Keep.mk hg4
        clear hrw hb3 hc3 hcx3 hB3 hg4 hlt1
        generalize S3.set b (.rows 5 (row :: rows) cap' 41) = S4 at *
        (simp only [go_sem, reduceIte, Nat.reduceEqDiff, Nat.reduceLT, Nat.reduceLeDiff, Nat.reduceAdd, reduceCtorEq, Int.reduceToNat, Int.reduceLE, Int.reduceLT, Int.reduceNeg, Int.reduceEq, Int.reduceNe, Nat.reduceBEq, Nat.reduceMul, Nat.reducePow, Int.cast_ofNat_Int, *])
        exact ⟨hg4'.of, fun b' hb' => by cases hb'; exact hBb⟩
end Go.Proofs.Ytcbonfgkfiapaaa.Pv
