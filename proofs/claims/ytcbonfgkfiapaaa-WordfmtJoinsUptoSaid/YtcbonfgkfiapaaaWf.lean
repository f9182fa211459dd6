/- What package wordfmt computes: parts as text. -/
import Derived.Test.YtcbonfgkfiapaaaSb
import Derived.Test.YtcbonfgkfiapaaaTree
import Derived.Test.YtcbonfgkfiapaaaPtRefB
set_option linter.unusedVariables false
set_option linter.unusedSimpArgs false
set_option maxRecDepth 100000
set_option maxHeartbeats 40000000
namespace Go.Proofs.Ytcbonfgkfiapaaa.Pv
open Go Go.RowKit

/-! The text of parts, out of the texts of commands that are left. -/
mutual
def Pt.ncm : Pt → Nat
  | .mk k _ _ ks _ => if k = 4 ∨ k = 5 then ncms ks else if k = 6 then 1 else 0
def ncms : List Pt → Nat
  | [] => 0
  | p :: ps => p.ncm + ncms ps
end
mutual
def Pt.out (cs : List (List UInt8)) : Pt → List UInt8
  | .mk k t o ks _ =>
    if k = 1 then t
    else if k = 2 then [92] ++ t
    else if k = 3 then [39] ++ t ++ [39]
    else if k = 4 then [34] ++ outs cs ks ++ [34]
    else if k = 5 then [36, 123] ++ (if o = [108, 101, 110] then [35] ++ t else t ++ o) ++ outs cs ks ++ [125]
    else if k = 6 then [36, 40, 32] ++ cs.headD [] ++ [41]
    else if k = 7 then [36, 40, 40] ++ t ++ [41, 41]
    else []
def outs (cs : List (List UInt8)) : List Pt → List UInt8
  | [] => []
  | p :: ps => p.out cs ++ outs (cs.drop p.ncm) ps
end
theorem ncm_eq (p : Pt) : p.ncm = if p.k = 4 ∨ p.k = 5 then ncms p.kids else if p.k = 6 then 1 else 0 := by
  cases p; simp only [Pt.ncm, Pt.k, Pt.kids]; rfl
theorem out_eq (cs : List (List UInt8)) (p : Pt) : p.out cs =
    if p.k = 1 then p.text
    else if p.k = 2 then [92] ++ p.text
    else if p.k = 3 then [39] ++ p.text ++ [39]
    else if p.k = 4 then [34] ++ outs cs p.kids ++ [34]
    else if p.k = 5 then [36, 123] ++ (if p.op = [108, 101, 110] then [35] ++ p.text else p.text ++ p.op) ++ outs cs p.kids ++ [125]
    else if p.k = 6 then [36, 40, 32] ++ cs.headD [] ++ [41]
    else if p.k = 7 then [36, 40, 40] ++ p.text ++ [41, 41]
    else [] := by
  cases p; simp only [Pt.out, Pt.k, Pt.text, Pt.op, Pt.kids]; rfl

/-- The texts of commands that are left, as a value. -/
def Cmd (c : PV) (cs : List (List UInt8)) : Prop := (c = .sl0 ∧ cs = []) ∨ c = .slice 1 (cs.map fun s => [PV.str s])
/-- What takes text: of type tp, by the function g; Sk tells of one in a block that it has taken a text. -/
structure SinkOk (tp : TypeId) (g : FuncId) (Sk : Nat → List UInt8 → Heap → Heap → Prop) : Prop where
  meth : ∀ v w, (method (Try.prog.types.size + Made.depth) tp v "conch/wordfmt.put").run Try.prog w = .ok (g, v) w
  call : callable Try.prog g = true
  put : ∀ b acc m B S, acc.length + m.length ≤ 140737488355328 → Sk b acc B S → CallsA Try.prog g [.mp b 0, .str m] S (fun q S' => q = .tup [] ∧ Sk b (acc ++ m) B S')
  le : ∀ b acc B S, Sk b acc B S → B.le S ∧ B b = none
  ext : ∀ b acc B S c o, Sk b acc B S → S c = none → Sk b acc (B.set c o) (S.set c o)
  upd : ∀ b acc B S c o o', Sk b acc B S → B c = some o → Sk b acc (B.set c o') (S.set c o')
  base : ∀ b acc B B' S, Sk b acc B S → B'.le B → Sk b acc B' S

/-- A printer in block pb, its sink in block b. -/
def Prn (tp : TypeId) (Sk : Nat → List UInt8 → Heap → Heap → Prop) (pb b : Nat) (acc : List UInt8) (cs : List (List UInt8)) (B S : Heap) : Prop :=
  ∃ c, Cmd c cs ∧ B pb = none ∧ Sk b acc (B.set pb (.cells [.iface tp (.mp b 0), c] 96)) S


theorem SinkOk.get {tp : TypeId} {g : FuncId} {Sk : Nat → List UInt8 → Heap → Heap → Prop} (ok : SinkOk tp g Sk) {b c : Nat} {acc : List UInt8} {B S : Heap} {o : MObj} (h : Sk b acc B S) (hc : B c = some o) : S c = some o := (ok.le b acc B S h).1 c o hc
section
variable {tp : TypeId} {g : FuncId} {Sk : Nat → List UInt8 → Heap → Heap → Prop} (ok : SinkOk tp g Sk)
include ok
theorem wfCmd_calls (pb b : Nat) (acc : List UInt8) (cs : List (List UInt8)) (B S : Heap) (h : Prn tp Sk pb b acc cs B S) (hlen : acc.length + (3 + (cs.headD []).length + 1) ≤ 140737488355328) :
    CallsA Try.prog 125 [.mp pb 0] S (fun q S' => q = .tup [] ∧ Prn tp Sk pb b (acc ++ ([36, 40, 32] ++ cs.headD [] ++ [41])) (cs.drop 1) B S') := by
  obtain ⟨c, hc, hB, hk⟩ := h
  have e1 := ok.get hk (by rw [set_apply, if_pos rfl])
  refine CallsA_W (fun _ => false) Try.func125 rfl (Nat.le_of_ble_eq_true rfl) ?_
  simp only [Try.f125]
  rcases hc with ⟨rfl, rfl⟩ | rfl
  · (simp only [go_sem, reduceIte, Nat.reduceEqDiff, Nat.reduceLT, Nat.reduceLeDiff, Nat.reduceAdd, reduceCtorEq, Int.reduceToNat, Int.reduceLE, Int.reduceLT, Int.reduceNeg, Int.reduceEq, Int.reduceNe, Nat.reduceBEq, Nat.reduceMul, Nat.reducePow, Int.cast_ofNat_Int, *])
    refine OpW_of (OpA_invoke (g := g) (t := tp) (p := .mp b 0) rfl rfl ok.call ok.meth (okDst_spec rfl) ((ok.put b acc [36, 40, 32] _ S (by simp at hlen ⊢; omega) hk).mono ?_))
    rintro q1 S1 ⟨rfl, hk1⟩
    have e2 := ok.get hk1 (by rw [set_apply, if_pos rfl])
    (simp only [go_sem, reduceIte, Nat.reduceEqDiff, Nat.reduceLT, Nat.reduceLeDiff, Nat.reduceAdd, reduceCtorEq, Int.reduceToNat, Int.reduceLE, Int.reduceLT, Int.reduceNeg, Int.reduceEq, Int.reduceNe, Nat.reduceBEq, Nat.reduceMul, Nat.reducePow, Int.cast_ofNat_Int, *])
    refine OpW_of (OpA_invoke (g := g) (t := tp) (p := .mp b 0) rfl rfl ok.call ok.meth (okDst_spec rfl) ((ok.put b (acc ++ [36, 40, 32]) [41] _ S1 (by simp at hlen ⊢; omega) hk1).mono ?_))
    rintro q2 S2 ⟨rfl, hk2⟩
    (simp only [go_sem, reduceIte, Nat.reduceEqDiff, Nat.reduceLT, Nat.reduceLeDiff, Nat.reduceAdd, reduceCtorEq, Int.reduceToNat, Int.reduceLE, Int.reduceLT, Int.reduceNeg, Int.reduceEq, Int.reduceNe, Nat.reduceBEq, Nat.reduceMul, Nat.reducePow, Int.cast_ofNat_Int, *])
    exact ⟨.sl0, Or.inl ⟨rfl, rfl⟩, hB, by simpa using hk2⟩
  · cases cs with
    | nil =>
      (simp only [go_sem, reduceIte, Nat.reduceEqDiff, Nat.reduceLT, Nat.reduceLeDiff, Nat.reduceAdd, reduceCtorEq, Int.reduceToNat, Int.reduceLE, Int.reduceLT, Int.reduceNeg, Int.reduceEq, Int.reduceNe, Nat.reduceBEq, Nat.reduceMul, Nat.reducePow, Int.cast_ofNat_Int, *])
      refine OpW_of (OpA_invoke (g := g) (t := tp) (p := .mp b 0) rfl rfl ok.call ok.meth (okDst_spec rfl) ((ok.put b acc [36, 40, 32] _ S (by simp at hlen ⊢; omega) hk).mono ?_))
      rintro q1 S1 ⟨rfl, hk1⟩
      have e2 := ok.get hk1 (by rw [set_apply, if_pos rfl])
      (simp only [go_sem, reduceIte, Nat.reduceEqDiff, Nat.reduceLT, Nat.reduceLeDiff, Nat.reduceAdd, reduceCtorEq, Int.reduceToNat, Int.reduceLE, Int.reduceLT, Int.reduceNeg, Int.reduceEq, Int.reduceNe, Nat.reduceBEq, Nat.reduceMul, Nat.reducePow, Int.cast_ofNat_Int, *])
      refine OpW_of (OpA_invoke (g := g) (t := tp) (p := .mp b 0) rfl rfl ok.call ok.meth (okDst_spec rfl) ((ok.put b (acc ++ [36, 40, 32]) [41] _ S1 (by simp at hlen ⊢; omega) hk1).mono ?_))
      rintro q2 S2 ⟨rfl, hk2⟩
      (simp only [go_sem, reduceIte, Nat.reduceEqDiff, Nat.reduceLT, Nat.reduceLeDiff, Nat.reduceAdd, reduceCtorEq, Int.reduceToNat, Int.reduceLE, Int.reduceLT, Int.reduceNeg, Int.reduceEq, Int.reduceNe, Nat.reduceBEq, Nat.reduceMul, Nat.reducePow, Int.cast_ofNat_Int, *])
      exact ⟨.slice 1 [], Or.inr rfl, hB, by simpa using hk2⟩
    | cons x rest =>
      have hlt : (0 : Int) < (((rest.map fun s => [PV.str s]).length + 1 : Nat) : Int) := by omega
      (simp only [go_sem, reduceIte, Nat.reduceEqDiff, Nat.reduceLT, Nat.reduceLeDiff, Nat.reduceAdd, reduceCtorEq, Int.reduceToNat, Int.reduceLE, Int.reduceLT, Int.reduceNeg, Int.reduceEq, Int.reduceNe, Nat.reduceBEq, Nat.reduceMul, Nat.reducePow, Int.cast_ofNat_Int, *])
      refine OpW_of (OpA_invoke (g := g) (t := tp) (p := .mp b 0) rfl rfl ok.call ok.meth (okDst_spec rfl) ((ok.put b acc [36, 40, 32] _ S (by simp at hlen ⊢; omega) hk).mono ?_))
      rintro q1 S1 ⟨rfl, hk1⟩
      have e2 := ok.get hk1 (by rw [set_apply, if_pos rfl])
      (simp only [go_sem, reduceIte, Nat.reduceEqDiff, Nat.reduceLT, Nat.reduceLeDiff, Nat.reduceAdd, reduceCtorEq, Int.reduceToNat, Int.reduceLE, Int.reduceLT, Int.reduceNeg, Int.reduceEq, Int.reduceNe, Nat.reduceBEq, Nat.reduceMul, Nat.reducePow, Int.cast_ofNat_Int, *])
      refine CodeW_quiet mixed 12 (by kernel_rfl) ?_
      (simp only [go_sem, reduceIte, Nat.reduceEqDiff, Nat.reduceLT, Nat.reduceLeDiff, Nat.reduceAdd, reduceCtorEq, Int.reduceToNat, Int.reduceLE, Int.reduceLT, Int.reduceNeg, Int.reduceEq, Int.reduceNe, Nat.reduceBEq, Nat.reduceMul, Nat.reducePow, Int.cast_ofNat_Int, *])
      refine OpW_of (OpA_invoke (g := g) (t := tp) (p := .mp b 0) rfl rfl ok.call ok.meth (okDst_spec rfl) ((ok.put b (acc ++ [36, 40, 32]) x _ S1 (by simp at hlen ⊢; omega) hk1).mono ?_))
      rintro q2 S2 ⟨rfl, hk2⟩
      have e3 := ok.get hk2 (by rw [set_apply, if_pos rfl])
      have hle := Nat.le_refl (rest.map fun s => [PV.str s]).length
      have htk : (rest.map fun s => [PV.str s]).take (rest.map fun s => [PV.str s]).length = rest.map fun s => [PV.str s] := List.take_length
      (simp only [go_sem, reduceIte, Nat.reduceEqDiff, Nat.reduceLT, Nat.reduceLeDiff, Nat.reduceAdd, reduceCtorEq, Int.reduceToNat, Int.reduceLE, Int.reduceLT, Int.reduceNeg, Int.reduceEq, Int.reduceNe, Nat.reduceBEq, Nat.reduceMul, Nat.reducePow, Int.cast_ofNat_Int, *])
      refine OpW_put (es := [.slice 1 (rest.map fun s => [PV.str s])]) rfl rfl e3 rfl rfl (by kernel_rfl) (Nat.le_of_ble_eq_true rfl) rfl ?_
      have hk3 := ok.upd _ _ _ _ pb _ (.cells [.iface tp (.mp b 0), .slice 1 (rest.map fun s => [PV.str s])] 96) hk2 (by rw [set_apply, if_pos rfl])
      rw [Heap.set_set] at hk3
      have e4 := ok.get hk3 (by rw [set_apply, if_pos rfl])
      simp only [splice, List.take_succ_cons, List.take_zero, List.length_cons, List.length_nil, Nat.reduceAdd, List.drop_succ_cons, List.drop_nil, List.append_nil, List.cons_append, List.nil_append]
      (simp only [go_sem, reduceIte, Nat.reduceEqDiff, Nat.reduceLT, Nat.reduceLeDiff, Nat.reduceAdd, reduceCtorEq, Int.reduceToNat, Int.reduceLE, Int.reduceLT, Int.reduceNeg, Int.reduceEq, Int.reduceNe, Nat.reduceBEq, Nat.reduceMul, Nat.reducePow, Int.cast_ofNat_Int, *])
      refine OpW_of (OpA_invoke (g := g) (t := tp) (p := .mp b 0) rfl rfl ok.call ok.meth (okDst_spec rfl) ((ok.put b (acc ++ [36, 40, 32] ++ x) [41] _ _ (by simp at hlen ⊢; omega) hk3).mono ?_))
      rintro q3 S3 ⟨rfl, hk4⟩
      (simp only [go_sem, reduceIte, Nat.reduceEqDiff, Nat.reduceLT, Nat.reduceLeDiff, Nat.reduceAdd, reduceCtorEq, Int.reduceToNat, Int.reduceLE, Int.reduceLT, Int.reduceNeg, Int.reduceEq, Int.reduceNe, Nat.reduceBEq, Nat.reduceMul, Nat.reducePow, Int.cast_ofNat_Int, *])
      exact ⟨_, Or.inr rfl, hB, by simpa using hk4⟩
def AllW (_ : SinkOk tp g Sk) (N : Nat) : Prop := ∀ l : List Pt, bulks l ≤ N → ∀ (pb b : Nat) (acc : List UInt8) (cs : List (List UInt8)) (B S : Heap), Prn tp Sk pb b acc cs B S → acc.length + (outs cs l).length ≤ 140737488355328 →
  CallsA Try.prog 89 [.mp pb 0, .slice 5 (prows l)] S (fun q S' => q = .tup [] ∧ Prn tp Sk pb b (acc ++ outs cs l) (cs.drop (ncms l)) B S')
theorem wfParam_calls (p : Pt) (hk5 : p.k = 5) (N : Nat) (hN : bulks p.kids ≤ N) (hall : AllW ok N) (pb b : Nat) (acc : List UInt8) (cs : List (List UInt8)) (B S : Heap) (h : Prn tp Sk pb b acc cs B S) (hlen : acc.length + (p.out cs).length ≤ 140737488355328) :
    CallsA Try.prog 124 [.mp pb 0, .agg [.int .i64 p.k, .str p.text, .str p.op, .slice 5 (prows p.kids), .slice 10 p.cmds]] S (fun q S' => q = .tup [] ∧ Prn tp Sk pb b (acc ++ p.out cs) (cs.drop p.ncm) B S') := by
  obtain ⟨c, hc, hB, hk⟩ := h
  have e1 := ok.get hk (by rw [set_apply, if_pos rfl])
  have ho : p.out cs = [36, 123] ++ (if p.op = [108, 101, 110] then [35] ++ p.text else p.text ++ p.op) ++ outs cs p.kids ++ [125] := by rw [out_eq, hk5]; simp
  have hn : p.ncm = ncms p.kids := by rw [ncm_eq, hk5]; simp
  rw [ho] at hlen ⊢
  rw [hn]
  simp only [List.length_append] at hlen
  clear ho hn hk5
  generalize hop : p.op = op at *
  refine CallsA_W (fun _ => false) Try.func124 rfl (Nat.le_of_ble_eq_true rfl) ?_
  simp only [Try.f124]
  (simp only [go_sem, reduceIte, Nat.reduceEqDiff, Nat.reduceLT, Nat.reduceLeDiff, Nat.reduceAdd, reduceCtorEq, Int.reduceToNat, Int.reduceLE, Int.reduceLT, Int.reduceNeg, Int.reduceEq, Int.reduceNe, Nat.reduceBEq, Nat.reduceMul, Nat.reducePow, Int.cast_ofNat_Int, *])
  refine OpW_of (OpA_invoke (g := g) (t := tp) (p := .mp b 0) rfl rfl ok.call ok.meth (okDst_spec rfl) ((ok.put b acc [36, 123] _ S (by simp at hlen ⊢; omega) hk).mono ?_))
  rintro q1 S1 ⟨rfl, hk1⟩
  have e2 := ok.get hk1 (by rw [set_apply, if_pos rfl])
  by_cases h1 : op = [108, 101, 110]
  · simp only [if_pos h1, List.length_append, List.length_cons, List.length_nil] at hlen
    have hadd : 1 + p.text.length ≤ 9223372036854775807 := by omega
    (simp only [go_sem, reduceIte, Nat.reduceEqDiff, Nat.reduceLT, Nat.reduceLeDiff, Nat.reduceAdd, reduceCtorEq, Int.reduceToNat, Int.reduceLE, Int.reduceLT, Int.reduceNeg, Int.reduceEq, Int.reduceNe, Nat.reduceBEq, Nat.reduceMul, Nat.reducePow, Int.cast_ofNat_Int, *])
    refine CodeW_quiet mixed 7 (by kernel_rfl) ?_
    (simp only [go_sem, reduceIte, Nat.reduceEqDiff, Nat.reduceLT, Nat.reduceLeDiff, Nat.reduceAdd, reduceCtorEq, Int.reduceToNat, Int.reduceLE, Int.reduceLT, Int.reduceNeg, Int.reduceEq, Int.reduceNe, Nat.reduceBEq, Nat.reduceMul, Nat.reducePow, Int.cast_ofNat_Int, *])
    refine OpW_of (OpA_invoke (g := g) (t := tp) (p := .mp b 0) rfl rfl ok.call ok.meth (okDst_spec rfl) ((ok.put b (acc ++ [36, 123]) (35 :: p.text) _ _ (by simp at hlen ⊢; omega) hk1).mono ?_))
    rintro q_ S2 ⟨rfl, hk2⟩
    have e3 := ok.get hk2 (by rw [set_apply, if_pos rfl])
    (simp only [go_sem, reduceIte, Nat.reduceEqDiff, Nat.reduceLT, Nat.reduceLeDiff, Nat.reduceAdd, reduceCtorEq, Int.reduceToNat, Int.reduceLE, Int.reduceLT, Int.reduceNeg, Int.reduceEq, Int.reduceNe, Nat.reduceBEq, Nat.reduceMul, Nat.reducePow, Int.cast_ofNat_Int, *])
    refine OpW_call rfl rfl call89 rfl ((hall p.kids hN pb b _ cs B S2 ⟨c, hc, hB, hk2⟩ (by simp at hlen ⊢; omega)).mono ?_)
    rintro q_ S3 ⟨rfl, c3, hc3, hB3, hk3⟩
    have e4 := ok.get hk3 (by rw [set_apply, if_pos rfl])
    (simp only [go_sem, reduceIte, Nat.reduceEqDiff, Nat.reduceLT, Nat.reduceLeDiff, Nat.reduceAdd, reduceCtorEq, Int.reduceToNat, Int.reduceLE, Int.reduceLT, Int.reduceNeg, Int.reduceEq, Int.reduceNe, Nat.reduceBEq, Nat.reduceMul, Nat.reducePow, Int.cast_ofNat_Int, *])
    refine OpW_of (OpA_invoke (g := g) (t := tp) (p := .mp b 0) rfl rfl ok.call ok.meth (okDst_spec rfl) ((ok.put b (acc ++ [36, 123] ++ (35 :: p.text) ++ outs cs p.kids) ([125]) _ _ (by simp at hlen ⊢; omega) hk3).mono ?_))
    rintro q_ S4 ⟨rfl, hk4⟩
    (simp only [go_sem, reduceIte, Nat.reduceEqDiff, Nat.reduceLT, Nat.reduceLeDiff, Nat.reduceAdd, reduceCtorEq, Int.reduceToNat, Int.reduceLE, Int.reduceLT, Int.reduceNeg, Int.reduceEq, Int.reduceNe, Nat.reduceBEq, Nat.reduceMul, Nat.reducePow, Int.cast_ofNat_Int, *])
    exact ⟨c3, hc3, hB, by simpa using hk4⟩
  · simp only [if_neg h1, List.length_append, List.length_cons, List.length_nil] at hlen
    have hadd : p.text.length + op.length ≤ 9223372036854775807 := by omega
    (simp only [go_sem, reduceIte, Nat.reduceEqDiff, Nat.reduceLT, Nat.reduceLeDiff, Nat.reduceAdd, reduceCtorEq, Int.reduceToNat, Int.reduceLE, Int.reduceLT, Int.reduceNeg, Int.reduceEq, Int.reduceNe, Nat.reduceBEq, Nat.reduceMul, Nat.reducePow, Int.cast_ofNat_Int, *])
    refine CodeW_quiet mixed 9 (by kernel_rfl) ?_
    (simp only [go_sem, reduceIte, Nat.reduceEqDiff, Nat.reduceLT, Nat.reduceLeDiff, Nat.reduceAdd, reduceCtorEq, Int.reduceToNat, Int.reduceLE, Int.reduceLT, Int.reduceNeg, Int.reduceEq, Int.reduceNe, Nat.reduceBEq, Nat.reduceMul, Nat.reducePow, Int.cast_ofNat_Int, *])
    refine OpW_of (OpA_invoke (g := g) (t := tp) (p := .mp b 0) rfl rfl ok.call ok.meth (okDst_spec rfl) ((ok.put b (acc ++ [36, 123]) (p.text ++ op) _ _ (by simp at hlen ⊢; omega) hk1).mono ?_))
    rintro q_ S2 ⟨rfl, hk2⟩
    have e3 := ok.get hk2 (by rw [set_apply, if_pos rfl])
    (simp only [go_sem, reduceIte, Nat.reduceEqDiff, Nat.reduceLT, Nat.reduceLeDiff, Nat.reduceAdd, reduceCtorEq, Int.reduceToNat, Int.reduceLE, Int.reduceLT, Int.reduceNeg, Int.reduceEq, Int.reduceNe, Nat.reduceBEq, Nat.reduceMul, Nat.reducePow, Int.cast_ofNat_Int, *])
    refine OpW_call rfl rfl call89 rfl ((hall p.kids hN pb b _ cs B S2 ⟨c, hc, hB, hk2⟩ (by simp at hlen ⊢; omega)).mono ?_)
    rintro q_ S3 ⟨rfl, c3, hc3, hB3, hk3⟩
    have e4 := ok.get hk3 (by rw [set_apply, if_pos rfl])
    (simp only [go_sem, reduceIte, Nat.reduceEqDiff, Nat.reduceLT, Nat.reduceLeDiff, Nat.reduceAdd, reduceCtorEq, Int.reduceToNat, Int.reduceLE, Int.reduceLT, Int.reduceNeg, Int.reduceEq, Int.reduceNe, Nat.reduceBEq, Nat.reduceMul, Nat.reducePow, Int.cast_ofNat_Int, *])
    refine OpW_of (OpA_invoke (g := g) (t := tp) (p := .mp b 0) rfl rfl ok.call ok.meth (okDst_spec rfl) ((ok.put b (acc ++ [36, 123] ++ (p.text ++ op) ++ outs cs p.kids) ([125]) _ _ (by simp at hlen ⊢; omega) hk3).mono ?_))
    rintro q_ S4 ⟨rfl, hk4⟩
    (simp only [go_sem, reduceIte, Nat.reduceEqDiff, Nat.reduceLT, Nat.reduceLeDiff, Nat.reduceAdd, reduceCtorEq, Int.reduceToNat, Int.reduceLE, Int.reduceLT, Int.reduceNeg, Int.reduceEq, Int.reduceNe, Nat.reduceBEq, Nat.reduceMul, Nat.reducePow, Int.cast_ofNat_Int, *])
    exact ⟨c3, hc3, hB, by simpa using hk4⟩
omit ok in
theorem set_swap {S : Heap} {b c : Nat} {x y : MObj} (h : b ≠ c) : (S.set b x).set c y = (S.set c y).set b x := by
  funext z
  simp only [set_apply]
  by_cases e1 : z = c
  · subst e1; rw [if_pos rfl, if_neg (fun e => h e.symm), if_pos rfl]
  · rw [if_neg e1, if_neg e1]
theorem Prn.forget {pb b c : Nat} {acc : List UInt8} {cs : List (List UInt8)} {B S : Heap} {o : MObj} (h : Prn tp Sk pb b acc cs (B.set c o) S) (hc : B c = none) : Prn tp Sk pb b acc cs B S := by
  obtain ⟨x, hx, hB, hk⟩ := h
  have hpc : pb ≠ c := fun e => by subst e; rw [set_apply, if_pos rfl] at hB; cases hB
  rw [set_apply, if_neg hpc] at hB
  refine ⟨x, hx, hB, ok.base _ _ _ _ _ hk ?_⟩
  rw [set_swap (Ne.symm hpc)]
  exact Heap.le_set (by rw [set_apply, if_neg (Ne.symm hpc)]; exact hc)
theorem Prn.ext {pb b c : Nat} {acc : List UInt8} {cs : List (List UInt8)} {B S : Heap} {o : MObj} (h : Prn tp Sk pb b acc cs B S) (hc : S c = none) : Prn tp Sk pb b acc cs (B.set c o) (S.set c o) := by
  obtain ⟨x, hx, hB, hk⟩ := h
  have h1 := ok.get hk (by rw [set_apply, if_pos rfl])
  have hpc : pb ≠ c := fun e => by subst e; rw [h1] at hc; cases hc
  refine ⟨x, hx, by rw [set_apply, if_neg hpc]; exact hB, ?_⟩
  rw [set_swap (Ne.symm hpc)]
  exact ok.ext _ _ _ _ _ _ hk hc
theorem Prn.none {pb b c : Nat} {acc : List UInt8} {cs : List (List UInt8)} {B S : Heap} (h : Prn tp Sk pb b acc cs B S) (hc : S c = none) : B c = none := by
  obtain ⟨x, hx, hB, hk⟩ := h
  have hl := (ok.le _ _ _ _ hk).1
  cases hb : B c with
  | none => rfl
  | some o =>
    have hpc : c ≠ pb := fun e => by subst e; rw [hB] at hb; cases hb
    have := hl c o (by rw [set_apply, if_neg hpc]; exact hb)
    rw [hc] at this; cases this
theorem wfAll_calls (N : Nat) (hN : N ≤ 1048576) : AllW ok N := by
  induction N using Nat.strongRecOn with
  | _ N ih =>
    intro l hb pb b acc0 cs0 B S0 hP0 hlen
    obtain ⟨A, hA⟩ : ∃ A, acc0 ++ outs cs0 l = A := ⟨_, rfl⟩
    obtain ⟨C, hC⟩ : ∃ C, cs0.drop (ncms l) = C := ⟨_, rfl⟩
    have hAl : A.length ≤ 140737488355328 := by rw [← hA, List.length_append]; exact hlen
    rw [hA, hC]
    have hll : l.length ≤ 1048576 := Nat.le_trans (bulks_len l) (by omega)
    have hP0' := Keep.mk hP0
    clear hP0
    refine CallsA_W (fun _ => false) Try.func89 rfl (Nat.le_of_ble_eq_true rfl) ?_
    simp only [Try.f89]
    (simp only [go_sem, reduceIte, Nat.reduceEqDiff, Nat.reduceLT, Nat.reduceLeDiff, Nat.reduceAdd, reduceCtorEq, Int.reduceToNat, Int.reduceLE, Int.reduceLT, Int.reduceNeg, Int.reduceEq, Int.reduceNe, Nat.reduceBEq, Nat.reduceMul, Nat.reducePow, Int.cast_ofNat_Int, *])
    refine CodeW_loop (fun m σ' S' => ∃ (i : Nat) (acc : List UInt8) (cs : List (List UInt8)), i + m = l.length ∧ σ' 0 = .mp pb 0 ∧ σ' 6 = .slice 5 (prows l) ∧ σ' 7 = .int .i64 l.length ∧ σ' 8 = .int .i64 i ∧ Prn tp Sk pb b acc cs B S' ∧ acc ++ outs cs (l.drop i) = A ∧ cs.drop (ncms (l.drop i)) = C) l.length ?_ ?_
    · (simp only [go_sem, reduceIte, Nat.reduceEqDiff, Nat.reduceLT, Nat.reduceLeDiff, Nat.reduceAdd, reduceCtorEq, Int.reduceToNat, Int.reduceLE, Int.reduceLT, Int.reduceNeg, Int.reduceEq, Int.reduceNe, Nat.reduceBEq, Nat.reduceMul, Nat.reducePow, Int.cast_ofNat_Int, *])
      exact ⟨0, acc0, cs0, by omega, rfl, hP0'.of, by simpa using hA, by simpa using hC⟩
    · rintro m σ' S' ⟨i, acc, cs, h1, h2, h3, h4, h5, hP, h6, h7⟩
      clear hA hC hP0'
      cases hc : l[i]? with
      | none =>
        have hl : l.length ≤ i := List.getElem?_eq_none_iff.1 hc
        have hlt : ¬ ((i : Int) < (l.length : Int)) := by omega
        rw [List.drop_eq_nil_of_le hl] at h6 h7
        simp only [outs, ncms, List.append_nil, List.drop_zero] at h6 h7
        subst h6 h7
        (simp only [go_sem, reduceIte, Nat.reduceEqDiff, Nat.reduceLT, Nat.reduceLeDiff, Nat.reduceAdd, reduceCtorEq, Int.reduceToNat, Int.reduceLE, Int.reduceLT, Int.reduceNeg, Int.reduceEq, Int.reduceNe, Nat.reduceBEq, Nat.reduceMul, Nat.reducePow, Int.cast_ofNat_Int, *])
      | some p =>
        have hl := (List.getElem?_eq_some_iff.1 hc).1
        have hlt : (i : Int) < (l.length : Int) := by omega
        have hw := wrap1 hl (by omega)
        rw [drop_at hc] at h6 h7
        simp only [outs, ncms] at h6 h7
        rw [← List.drop_drop] at h7
        rw [← List.append_assoc] at h6
        have hpl : acc.length + (p.out cs).length ≤ 140737488355328 := by
          have := congrArg List.length h6
          simp only [List.length_append] at this
          omega
        have hq := Keep.mk h6
        have hr := Keep.mk h7
        clear h6 h7 hlen
        (simp only [go_sem, reduceIte, Nat.reduceEqDiff, Nat.reduceLT, Nat.reduceLeDiff, Nat.reduceAdd, reduceCtorEq, Int.reduceToNat, Int.reduceLE, Int.reduceLT, Int.reduceNeg, Int.reduceEq, Int.reduceNe, Nat.reduceBEq, Nat.reduceMul, Nat.reducePow, Int.cast_ofNat_Int, *])
        refine OpW_of (OpA_alloc rfl zeroCells41 (okDst_spec rfl) fun b5 hb5 => ?_)
        (simp only [go_sem, reduceIte, Nat.reduceEqDiff, Nat.reduceLT, Nat.reduceLeDiff, Nat.reduceAdd, reduceCtorEq, Int.reduceToNat, Int.reduceLE, Int.reduceLT, Int.reduceNeg, Int.reduceEq, Int.reduceNe, Nat.reduceBEq, Nat.reduceMul, Nat.reducePow, Int.cast_ofNat_Int, *])
        refine OpW_put (es := [.int .i64 p.k, .str p.text, .str p.op, .slice 5 (prows p.kids), .slice 10 p.cmds]) rfl rfl (by rw [set_apply, if_pos rfl]) rfl rfl size41 (Nat.le_of_ble_eq_true rfl) rfl ?_
        rw [Heap.set_set]
        simp only [splice, List.take_zero, List.nil_append, List.length_cons, List.length_nil, Nat.reduceAdd, List.drop_succ_cons, List.drop_zero, List.append_nil]
        have hBn := Prn.none ok hP hb5
        have hP2 := Prn.ext ok (o := .cells [.int .i64 p.k, .str p.text, .str p.op, .slice 5 (prows p.kids), .slice 10 p.cmds] 41) hP hb5
        generalize hS2 : S'.set b5 (.cells [.int .i64 p.k, .str p.text, .str p.op, .slice 5 (prows p.kids), .slice 10 p.cmds] 41) = S2 at *
        have e5 : S2 b5 = some (.cells [.int .i64 p.k, .str p.text, .str p.op, .slice 5 (prows p.kids), .slice 10 p.cmds] 41) := by rw [← hS2, set_apply, if_pos rfl]
        clear hS2 hP hb5
        by_cases k1 : p.k = 1
        · have ho : p.out cs = p.text := by rw [out_eq,  if_pos k1]
          have hn : p.ncm = 0 := by rw [ncm_eq]; simp [k1]
          rw [ho] at hq hpl
          rw [hn] at hr hq
          clear ho hn
          obtain ⟨c, hcc, hBp, hk1⟩ := hP2
          have e1 := ok.get hk1 (by rw [set_apply, if_pos rfl])
          (simp only [go_sem, reduceIte, Nat.reduceEqDiff, Nat.reduceLT, Nat.reduceLeDiff, Nat.reduceAdd, reduceCtorEq, Int.reduceToNat, Int.reduceLE, Int.reduceLT, Int.reduceNeg, Int.reduceEq, Int.reduceNe, Nat.reduceBEq, Nat.reduceMul, Nat.reducePow, Int.cast_ofNat_Int, *])
          refine CodeW_quiet mixed 6 (by kernel_rfl) ?_
          (simp only [go_sem, reduceIte, Nat.reduceEqDiff, Nat.reduceLT, Nat.reduceLeDiff, Nat.reduceAdd, reduceCtorEq, Int.reduceToNat, Int.reduceLE, Int.reduceLT, Int.reduceNeg, Int.reduceEq, Int.reduceNe, Nat.reduceBEq, Nat.reduceMul, Nat.reducePow, Int.cast_ofNat_Int, *])
          refine OpW_of (OpA_invoke (g := g) (t := tp) (p := .mp b 0) rfl rfl ok.call ok.meth (okDst_spec rfl) ((ok.put b (acc) (p.text) _ _ (by first | omega | (simp at hpl ⊢; omega)) hk1).mono ?_))
          rintro q_ S2 ⟨rfl, hk2⟩
          have hf := Prn.forget ok ⟨c, hcc, hBp, hk2⟩ hBn
          have hq' := hq.of
          have hr' := hr.of
          clear hq hr
          (simp only [go_sem, reduceIte, Nat.reduceEqDiff, Nat.reduceLT, Nat.reduceLeDiff, Nat.reduceAdd, reduceCtorEq, Int.reduceToNat, Int.reduceLE, Int.reduceLT, Int.reduceNeg, Int.reduceEq, Int.reduceNe, Nat.reduceBEq, Nat.reduceMul, Nat.reducePow, Int.cast_ofNat_Int, *])
          exact ⟨m - 1, by omega, i + 1, _, _, by omega, rfl, hf, by simpa using hq', by simpa using hr'⟩
        by_cases k2 : p.k = 2
        · have ho : p.out cs = [92] ++ p.text := by rw [out_eq, if_neg k1, if_pos k2]
          have hn : p.ncm = 0 := by rw [ncm_eq]; simp [k1, k2]
          rw [ho] at hq hpl
          rw [hn] at hr hq
          clear ho hn
          have hadd0 : 1 + p.text.length ≤ 9223372036854775807 := by simp at hpl; omega
          obtain ⟨c, hcc, hBp, hk1⟩ := hP2
          have e1 := ok.get hk1 (by rw [set_apply, if_pos rfl])
          (simp only [go_sem, reduceIte, Nat.reduceEqDiff, Nat.reduceLT, Nat.reduceLeDiff, Nat.reduceAdd, reduceCtorEq, Int.reduceToNat, Int.reduceLE, Int.reduceLT, Int.reduceNeg, Int.reduceEq, Int.reduceNe, Nat.reduceBEq, Nat.reduceMul, Nat.reducePow, Int.cast_ofNat_Int, *])
          refine CodeW_quiet mixed 7 (by kernel_rfl) ?_
          (simp only [go_sem, reduceIte, Nat.reduceEqDiff, Nat.reduceLT, Nat.reduceLeDiff, Nat.reduceAdd, reduceCtorEq, Int.reduceToNat, Int.reduceLE, Int.reduceLT, Int.reduceNeg, Int.reduceEq, Int.reduceNe, Nat.reduceBEq, Nat.reduceMul, Nat.reducePow, Int.cast_ofNat_Int, *])
          refine OpW_of (OpA_invoke (g := g) (t := tp) (p := .mp b 0) rfl rfl ok.call ok.meth (okDst_spec rfl) ((ok.put b (acc) (92 :: p.text) _ _ (by first | omega | (simp at hpl ⊢; omega)) hk1).mono ?_))
          rintro q_ S2 ⟨rfl, hk2⟩
          have hf := Prn.forget ok ⟨c, hcc, hBp, hk2⟩ hBn
          have hq' := hq.of
          have hr' := hr.of
          clear hq hr
          (simp only [go_sem, reduceIte, Nat.reduceEqDiff, Nat.reduceLT, Nat.reduceLeDiff, Nat.reduceAdd, reduceCtorEq, Int.reduceToNat, Int.reduceLE, Int.reduceLT, Int.reduceNeg, Int.reduceEq, Int.reduceNe, Nat.reduceBEq, Nat.reduceMul, Nat.reducePow, Int.cast_ofNat_Int, *])
          exact ⟨m - 1, by omega, i + 1, _, _, by omega, rfl, hf, by simpa using hq', by simpa using hr'⟩
        by_cases k3 : p.k = 3
        · have ho : p.out cs = [39] ++ p.text ++ [39] := by rw [out_eq, if_neg k1, if_neg k2, if_pos k3]
          have hn : p.ncm = 0 := by rw [ncm_eq]; simp [k1, k2, k3]
          rw [ho] at hq hpl
          rw [hn] at hr hq
          clear ho hn
          have hadd0 : 1 + p.text.length ≤ 9223372036854775807 := by simp at hpl; omega
          have hadd1 : p.text.length + 1 + 1 ≤ 9223372036854775807 := by simp at hpl; omega
          obtain ⟨c, hcc, hBp, hk1⟩ := hP2
          have e1 := ok.get hk1 (by rw [set_apply, if_pos rfl])
          (simp only [go_sem, reduceIte, Nat.reduceEqDiff, Nat.reduceLT, Nat.reduceLeDiff, Nat.reduceAdd, reduceCtorEq, Int.reduceToNat, Int.reduceLE, Int.reduceLT, Int.reduceNeg, Int.reduceEq, Int.reduceNe, Nat.reduceBEq, Nat.reduceMul, Nat.reducePow, Int.cast_ofNat_Int, *])
          refine CodeW_quiet mixed 8 (by kernel_rfl) ?_
          (simp only [go_sem, reduceIte, Nat.reduceEqDiff, Nat.reduceLT, Nat.reduceLeDiff, Nat.reduceAdd, reduceCtorEq, Int.reduceToNat, Int.reduceLE, Int.reduceLT, Int.reduceNeg, Int.reduceEq, Int.reduceNe, Nat.reduceBEq, Nat.reduceMul, Nat.reducePow, Int.cast_ofNat_Int, *])
          refine OpW_of (OpA_invoke (g := g) (t := tp) (p := .mp b 0) rfl rfl ok.call ok.meth (okDst_spec rfl) ((ok.put b (acc) (39 :: (p.text ++ [39])) _ _ (by first | omega | (simp at hpl ⊢; omega)) hk1).mono ?_))
          rintro q_ S2 ⟨rfl, hk2⟩
          have hf := Prn.forget ok ⟨c, hcc, hBp, hk2⟩ hBn
          have hq' := hq.of
          have hr' := hr.of
          clear hq hr
          (simp only [go_sem, reduceIte, Nat.reduceEqDiff, Nat.reduceLT, Nat.reduceLeDiff, Nat.reduceAdd, reduceCtorEq, Int.reduceToNat, Int.reduceLE, Int.reduceLT, Int.reduceNeg, Int.reduceEq, Int.reduceNe, Nat.reduceBEq, Nat.reduceMul, Nat.reducePow, Int.cast_ofNat_Int, *])
          exact ⟨m - 1, by omega, i + 1, _, _, by omega, rfl, hf, by simpa using hq', by simpa using hr'⟩
        by_cases k4 : p.k = 4
        · have ho : p.out cs = [34] ++ outs cs p.kids ++ [34] := by rw [out_eq, if_neg k1, if_neg k2, if_neg k3, if_pos k4]
          have hn : p.ncm = ncms p.kids := by rw [ncm_eq]; simp [k1, k2, k3, k4]
          rw [ho] at hq hpl
          rw [hn] at hr hq
          clear ho hn
          obtain ⟨c, hcc, hBp, hk1⟩ := hP2
          have e1 := ok.get hk1 (by rw [set_apply, if_pos rfl])
          have g5 := fun (acc : List UInt8) (c : PV) (S : Heap) (h : Sk b acc ((B.set b5 (.cells [.int .i64 p.k, .str p.text, .str p.op, .slice 5 (prows p.kids), .slice 10 p.cmds] 41)).set pb (.cells [.iface tp (.mp b 0), c] 96)) S) => ok.get h (c := b5) (o := .cells [.int .i64 p.k, .str p.text, .str p.op, .slice 5 (prows p.kids), .slice 10 p.cmds] 41) (by
            rw [set_apply, if_neg (fun e => by subst e; rw [set_apply, if_pos rfl] at hBp; cases hBp), set_apply, if_pos rfl])
          have hih := ih (bulks p.kids) (by have := bulks_get hc; have := bulks_kids p; omega) (by have := bulks_get hc; have := bulks_kids p; omega) p.kids (Nat.le_refl _)
          (simp only [go_sem, reduceIte, Nat.reduceEqDiff, Nat.reduceLT, Nat.reduceLeDiff, Nat.reduceAdd, reduceCtorEq, Int.reduceToNat, Int.reduceLE, Int.reduceLT, Int.reduceNeg, Int.reduceEq, Int.reduceNe, Nat.reduceBEq, Nat.reduceMul, Nat.reducePow, Int.cast_ofNat_Int, *])
          refine OpW_of (OpA_invoke (g := g) (t := tp) (p := .mp b 0) rfl rfl ok.call ok.meth (okDst_spec rfl) ((ok.put b (acc) ([34]) _ _ (by first | omega | (simp at hpl ⊢; omega)) hk1).mono ?_))
          rintro q_ S2 ⟨rfl, hk2⟩
          clear e1 e5
          have e1 := ok.get hk2 (by rw [set_apply, if_pos rfl])
          have e5 := g5 _ _ _ hk2
          (simp only [go_sem, reduceIte, Nat.reduceEqDiff, Nat.reduceLT, Nat.reduceLeDiff, Nat.reduceAdd, reduceCtorEq, Int.reduceToNat, Int.reduceLE, Int.reduceLT, Int.reduceNeg, Int.reduceEq, Int.reduceNe, Nat.reduceBEq, Nat.reduceMul, Nat.reducePow, Int.cast_ofNat_Int, *])
          refine OpW_call rfl rfl call89 rfl ((hih pb b _ cs (B.set b5 (.cells [.int .i64 p.k, .str p.text, .str p.op, .slice 5 (prows p.kids), .slice 10 p.cmds] 41)) _ ⟨c, hcc, hBp, hk2⟩ (by simp at hpl ⊢; omega)).mono ?_)
          rintro q_ S4 ⟨rfl, c4, hc4, hB4, hk3⟩
          clear e1 e5
          have e1 := ok.get hk3 (by rw [set_apply, if_pos rfl])
          have e5 := g5 _ _ _ hk3
          clear g5 hih
          (simp only [go_sem, reduceIte, Nat.reduceEqDiff, Nat.reduceLT, Nat.reduceLeDiff, Nat.reduceAdd, reduceCtorEq, Int.reduceToNat, Int.reduceLE, Int.reduceLT, Int.reduceNeg, Int.reduceEq, Int.reduceNe, Nat.reduceBEq, Nat.reduceMul, Nat.reducePow, Int.cast_ofNat_Int, *])
          refine OpW_of (OpA_invoke (g := g) (t := tp) (p := .mp b 0) rfl rfl ok.call ok.meth (okDst_spec rfl) ((ok.put b (acc ++ [34] ++ outs cs p.kids) ([34]) _ _ (by first | omega | (simp at hpl ⊢; omega)) hk3).mono ?_))
          rintro q_ S5 ⟨rfl, hk5⟩
          have hf := Prn.forget ok ⟨c4, hc4, hB4, hk5⟩ hBn
          have hq' := hq.of
          have hr' := hr.of
          clear hq hr
          (simp only [go_sem, reduceIte, Nat.reduceEqDiff, Nat.reduceLT, Nat.reduceLeDiff, Nat.reduceAdd, reduceCtorEq, Int.reduceToNat, Int.reduceLE, Int.reduceLT, Int.reduceNeg, Int.reduceEq, Int.reduceNe, Nat.reduceBEq, Nat.reduceMul, Nat.reducePow, Int.cast_ofNat_Int, *])
          exact ⟨m - 1, by omega, i + 1, _, _, by omega, rfl, hf, by simpa using hq', by simpa using hr'⟩
        by_cases k5 : p.k = 5
        · have hih := ih (bulks p.kids) (by have := bulks_get hc; have := bulks_kids p; omega) (by have := bulks_get hc; have := bulks_kids p; omega)
          have hcall := wfParam_calls ok p k5 (bulks p.kids) (Nat.le_refl _) hih pb b acc cs _ _ hP2 hpl
          clear hih
          rw [k5] at hcall
          (simp only [go_sem, reduceIte, Nat.reduceEqDiff, Nat.reduceLT, Nat.reduceLeDiff, Nat.reduceAdd, reduceCtorEq, Int.reduceToNat, Int.reduceLE, Int.reduceLT, Int.reduceNeg, Int.reduceEq, Int.reduceNe, Nat.reduceBEq, Nat.reduceMul, Nat.reducePow, Int.cast_ofNat_Int, *])
          refine OpW_call rfl rfl call124 rfl (hcall.mono ?_)
          rintro q_ S4 ⟨rfl, hP4⟩
          clear hcall hP2
          have hf := Prn.forget ok hP4 hBn
          have hq' := hq.of
          have hr' := hr.of
          clear hq hr
          (simp only [go_sem, reduceIte, Nat.reduceEqDiff, Nat.reduceLT, Nat.reduceLeDiff, Nat.reduceAdd, reduceCtorEq, Int.reduceToNat, Int.reduceLE, Int.reduceLT, Int.reduceNeg, Int.reduceEq, Int.reduceNe, Nat.reduceBEq, Nat.reduceMul, Nat.reducePow, Int.cast_ofNat_Int, *])
          exact ⟨m - 1, by omega, i + 1, _, _, by omega, rfl, hf, by simpa using hq', by simpa using hr'⟩
        by_cases k6 : p.k = 6
        · have ho : p.out cs = [36, 40, 32] ++ cs.headD [] ++ [41] := by rw [out_eq, if_neg k1, if_neg k2, if_neg k3, if_neg k4, if_neg k5, if_pos k6]
          have hn : p.ncm = 1 := by rw [ncm_eq]; simp [k1, k2, k3, k4, k5, k6]
          rw [ho] at hq hpl
          rw [hn] at hr hq
          clear ho hn
          have hcall := wfCmd_calls ok pb b acc cs _ _ hP2 (by simp at hpl ⊢; omega)
          (simp only [go_sem, reduceIte, Nat.reduceEqDiff, Nat.reduceLT, Nat.reduceLeDiff, Nat.reduceAdd, reduceCtorEq, Int.reduceToNat, Int.reduceLE, Int.reduceLT, Int.reduceNeg, Int.reduceEq, Int.reduceNe, Nat.reduceBEq, Nat.reduceMul, Nat.reducePow, Int.cast_ofNat_Int, *])
          refine OpW_call rfl rfl call125 rfl (hcall.mono ?_)
          rintro q_ S4 ⟨rfl, hP4⟩
          clear hcall hP2
          have hf := Prn.forget ok hP4 hBn
          have hq' := hq.of
          have hr' := hr.of
          clear hq hr
          (simp only [go_sem, reduceIte, Nat.reduceEqDiff, Nat.reduceLT, Nat.reduceLeDiff, Nat.reduceAdd, reduceCtorEq, Int.reduceToNat, Int.reduceLE, Int.reduceLT, Int.reduceNeg, Int.reduceEq, Int.reduceNe, Nat.reduceBEq, Nat.reduceMul, Nat.reducePow, Int.cast_ofNat_Int, *])
          exact ⟨m - 1, by omega, i + 1, _, _, by omega, rfl, hf, by simpa using hq', by simpa using hr'⟩
        by_cases k7 : p.k = 7
        · have ho : p.out cs = [36, 40, 40] ++ p.text ++ [41, 41] := by rw [out_eq, if_neg k1, if_neg k2, if_neg k3, if_neg k4, if_neg k5, if_neg k6, if_pos k7]
          have hn : p.ncm = 0 := by rw [ncm_eq]; simp [k1, k2, k3, k4, k5, k6, k7]
          rw [ho] at hq hpl
          rw [hn] at hr hq
          clear ho hn
          have hadd0 : 3 + p.text.length ≤ 9223372036854775807 := by simp at hpl; omega
          have hadd1 : p.text.length + 1 + 1 + 1 + 2 ≤ 9223372036854775807 := by simp at hpl; omega
          obtain ⟨c, hcc, hBp, hk1⟩ := hP2
          have e1 := ok.get hk1 (by rw [set_apply, if_pos rfl])
          (simp only [go_sem, reduceIte, Nat.reduceEqDiff, Nat.reduceLT, Nat.reduceLeDiff, Nat.reduceAdd, reduceCtorEq, Int.reduceToNat, Int.reduceLE, Int.reduceLT, Int.reduceNeg, Int.reduceEq, Int.reduceNe, Nat.reduceBEq, Nat.reduceMul, Nat.reducePow, Int.cast_ofNat_Int, *])
          refine CodeW_quiet mixed 8 (by kernel_rfl) ?_
          (simp only [go_sem, reduceIte, Nat.reduceEqDiff, Nat.reduceLT, Nat.reduceLeDiff, Nat.reduceAdd, reduceCtorEq, Int.reduceToNat, Int.reduceLE, Int.reduceLT, Int.reduceNeg, Int.reduceEq, Int.reduceNe, Nat.reduceBEq, Nat.reduceMul, Nat.reducePow, Int.cast_ofNat_Int, *])
          refine OpW_of (OpA_invoke (g := g) (t := tp) (p := .mp b 0) rfl rfl ok.call ok.meth (okDst_spec rfl) ((ok.put b (acc) (36 :: 40 :: 40 :: (p.text ++ [41, 41])) _ _ (by first | omega | (simp at hpl ⊢; omega)) hk1).mono ?_))
          rintro q_ S2 ⟨rfl, hk2⟩
          have hf := Prn.forget ok ⟨c, hcc, hBp, hk2⟩ hBn
          have hq' := hq.of
          have hr' := hr.of
          clear hq hr
          (simp only [go_sem, reduceIte, Nat.reduceEqDiff, Nat.reduceLT, Nat.reduceLeDiff, Nat.reduceAdd, reduceCtorEq, Int.reduceToNat, Int.reduceLE, Int.reduceLT, Int.reduceNeg, Int.reduceEq, Int.reduceNe, Nat.reduceBEq, Nat.reduceMul, Nat.reducePow, Int.cast_ofNat_Int, *])
          exact ⟨m - 1, by omega, i + 1, _, _, by omega, rfl, hf, by simpa using hq', by simpa using hr'⟩
        have ho : p.out cs = [] := by rw [out_eq, if_neg k1, if_neg k2, if_neg k3, if_neg k4, if_neg k5, if_neg k6, if_neg k7]
        have hn : p.ncm = 0 := by rw [ncm_eq]; simp [k1, k2, k3, k4, k5, k6, k7]
        rw [ho] at hq hpl
        rw [hn] at hr hq
        clear ho hn
        have hf := Prn.forget ok hP2 hBn
        have hq' := hq.of
        have hr' := hr.of
        clear hq hr
        (simp only [go_sem, reduceIte, Nat.reduceEqDiff, Nat.reduceLT, Nat.reduceLeDiff, Nat.reduceAdd, reduceCtorEq, Int.reduceToNat, Int.reduceLE, Int.reduceLT, Int.reduceNeg, Int.reduceEq, Int.reduceNe, Nat.reduceBEq, Nat.reduceMul, Nat.reducePow, Int.cast_ofNat_Int, *])
        exact ⟨m - 1, by omega, i + 1, _, _, by omega, rfl, hf, by simpa using hq', by simpa using hr'⟩
end

/-! The two kinds of sinks -/
def TextSk (b : Nat) (acc : List UInt8) (B S : Heap) : Prop := Bldr 5 91 b acc B S
def LenSk (b : Nat) (acc : List UInt8) (B S : Heap) : Prop := S b = some (.cells [.int .i64 (acc.length : Int)] 100) ∧ B.le S ∧ B b = none
theorem textAt : sbAt 91 := by unfold sbAt; kernel_rfl
theorem textPut_calls (b : Nat) (acc m : List UInt8) (B S : Heap) (hl : acc.length + m.length ≤ 140737488355328) (h : TextSk b acc B S) : CallsA Try.prog 222 [.mp b 0, .str m] S (fun q S' => q = .tup [] ∧ TextSk b (acc ++ m) B S') := by
  refine CallsA_W (fun _ => false) Try.func222 rfl (Nat.le_of_ble_eq_true rfl) ?_
  simp only [Try.f222]
  (simp only [go_sem, reduceIte, Nat.reduceEqDiff, Nat.reduceLT, Nat.reduceLeDiff, Nat.reduceAdd, reduceCtorEq, Int.reduceToNat, Int.reduceLE, Int.reduceLT, Int.reduceNeg, Int.reduceEq, Int.reduceNe, Nat.reduceBEq, Nat.reduceMul, Nat.reducePow, Int.cast_ofNat_Int, *])
  refine OpW_call rfl rfl call129 rfl ((writeString_calls _ textAt b acc m B hl S h).mono ?_)
  rintro q_ S1 ⟨rfl, h1⟩
  (simp only [go_sem, reduceIte, Nat.reduceEqDiff, Nat.reduceLT, Nat.reduceLeDiff, Nat.reduceAdd, reduceCtorEq, Int.reduceToNat, Int.reduceLE, Int.reduceLT, Int.reduceNeg, Int.reduceEq, Int.reduceNe, Nat.reduceBEq, Nat.reduceMul, Nat.reducePow, Int.cast_ofNat_Int, *])
  exact h1
theorem lenPut_calls (b : Nat) (acc m : List UInt8) (B S : Heap) (hl : acc.length + m.length ≤ 140737488355328) (h : LenSk b acc B S) : CallsA Try.prog 223 [.mp b 0, .str m] S (fun q S' => q = .tup [] ∧ LenSk b (acc ++ m) B S') := by
  obtain ⟨h1, h2, h3⟩ := h
  have hw : IntKind.i64.wrap ((acc.length : Int) + (m.length : Int)) = (((acc ++ m).length : Nat) : Int) := by rw [wrap_in (by omega), List.length_append]; omega
  refine CallsA_W (fun _ => false) Try.func223 rfl (Nat.le_of_ble_eq_true rfl) ?_
  simp only [Try.f223]
  (simp only [go_sem, reduceIte, Nat.reduceEqDiff, Nat.reduceLT, Nat.reduceLeDiff, Nat.reduceAdd, reduceCtorEq, Int.reduceToNat, Int.reduceLE, Int.reduceLT, Int.reduceNeg, Int.reduceEq, Int.reduceNe, Nat.reduceBEq, Nat.reduceMul, Nat.reducePow, Int.cast_ofNat_Int, *])
  refine OpW_put (es := [.int .i64 (((acc ++ m).length : Nat) : Int)]) rfl rfl h1 rfl rfl (by kernel_rfl) (Nat.le_of_ble_eq_true rfl) rfl ?_
  (simp only [go_sem, reduceIte, Nat.reduceEqDiff, Nat.reduceLT, Nat.reduceLeDiff, Nat.reduceAdd, reduceCtorEq, Int.reduceToNat, Int.reduceLE, Int.reduceLT, Int.reduceNeg, Int.reduceEq, Int.reduceNe, Nat.reduceBEq, Nat.reduceMul, Nat.reducePow, Int.cast_ofNat_Int, *])
  refine ⟨by rw [set_apply, if_pos rfl], Heap.le_own h2 h3, h3⟩
theorem textSink : SinkOk 86 222 TextSk where
  meth := method_ptr (e := 91) (by kernel_rfl) (by kernel_rfl)
  call := call222
  put := textPut_calls
  le := fun b acc B S h => ⟨h.le, h.new⟩
  ext := fun b acc B S c o h hc => h.ext hc
  upd := fun b acc B S c o o' h hc => h.upd hc
  base := fun b acc B B' S h hl => h.base hl
theorem lenSink : SinkOk 98 223 LenSk where
  meth := method_ptr (e := 100) (by kernel_rfl) (by kernel_rfl)
  call := call223
  put := lenPut_calls
  le := fun b acc B S h => ⟨h.2.1, h.2.2⟩
  ext := fun b acc B S c o h hc => by
    obtain ⟨h1, h2, h3⟩ := h
    have hbc : b ≠ c := fun e => by subst e; rw [h1] at hc; cases hc
    refine ⟨by rw [set_apply, if_neg hbc]; exact h1, fun z x hz => ?_, by rw [set_apply, if_neg hbc]; exact h3⟩
    rw [set_apply] at hz ⊢
    split at hz
    · rename_i e; rw [if_pos e]; exact hz
    · rename_i e; rw [if_neg e]; exact h2 z x hz
  upd := fun b acc B S c o o' h hc => by
    obtain ⟨h1, h2, h3⟩ := h
    have hbc : b ≠ c := fun e => by subst e; rw [h3] at hc; cases hc
    refine ⟨by rw [set_apply, if_neg hbc]; exact h1, fun z x hz => ?_, by rw [set_apply, if_neg hbc]; exact h3⟩
    rw [set_apply] at hz ⊢
    split at hz
    · rename_i e; rw [if_pos e]; exact hz
    · rename_i e; rw [if_neg e]; exact h2 z x hz
  base := fun b acc B B' S h hl => ⟨h.1, Heap.le_trans hl h.2.1, by
    cases hb : B' b with
    | none => rfl
    | some x => have := hl b x hb; rw [h.2.2] at this; cases this⟩

theorem wfLength_calls (l : List Pt) (hb : bulks l ≤ 1048576) (hlen : (outs [] l).length ≤ 140737488355328) (S : Heap) : CallsQ Try.prog 34 [.agg [.slice 5 (prows l)]] S (.int .i64 ((outs [] l).length : Int)) := by
  refine CallsQ_less ?_
  have hu := Try.underlying100
  have hu2 := Try.underlying96
  have hu3 := Try.underlying98
  refine CallsA_W (fun t => if t = 5 then true else decide (t = 9)) Try.func34 rfl (Nat.le_of_ble_eq_true rfl) ?_
  simp only [Try.f34]
  (simp only [go_sem, reduceIte, Nat.reduceEqDiff, Nat.reduceLT, Nat.reduceLeDiff, Nat.reduceAdd, reduceCtorEq, Int.reduceToNat, Int.reduceLE, Int.reduceLT, Int.reduceNeg, Int.reduceEq, Int.reduceNe, Nat.reduceBEq, Nat.reduceMul, Nat.reducePow, Int.cast_ofNat_Int, *])
  refine OpW_boxM (cs := [.int .i64 0]) rfl rfl rfl fun b hb1 => ?_
  (simp only [go_sem, reduceIte, Nat.reduceEqDiff, Nat.reduceLT, Nat.reduceLeDiff, Nat.reduceAdd, reduceCtorEq, Int.reduceToNat, Int.reduceLE, Int.reduceLT, Int.reduceNeg, Int.reduceEq, Int.reduceNe, Nat.reduceBEq, Nat.reduceMul, Nat.reducePow, Int.cast_ofNat_Int, *])
  refine OpW_boxM (cs := [.iface 98 (.mp b 0), .sl0]) rfl rfl rfl fun pb hb2 => ?_
  have hk0 : LenSk b [] S (S.set b (.cells [.int .i64 0] 100)) := ⟨by rw [set_apply, if_pos rfl]; rfl, Heap.le_set hb1, hb1⟩
  have hk1 := lenSink.ext _ _ _ _ pb (.cells [.iface 98 (.mp b 0), .sl0] 96) hk0 hb2
  have hpn := (lenSink.le _ _ _ _ hk0).1
  have hB : S pb = none := by
    cases hx : S pb with
    | none => rfl
    | some o => have := hpn pb o hx; rw [hb2] at this; cases this
  have hcall := wfAll_calls lenSink 1048576 (Nat.le_refl _) l hb pb b [] [] S _ ⟨.sl0, Or.inl ⟨rfl, rfl⟩, hB, hk1⟩ (by simpa using hlen)
  (simp only [go_sem, reduceIte, Nat.reduceEqDiff, Nat.reduceLT, Nat.reduceLeDiff, Nat.reduceAdd, reduceCtorEq, Int.reduceToNat, Int.reduceLE, Int.reduceLT, Int.reduceNeg, Int.reduceEq, Int.reduceNe, Nat.reduceBEq, Nat.reduceMul, Nat.reducePow, Int.cast_ofNat_Int, *])
  refine OpW_call rfl rfl call89 rfl (hcall.mono ?_)
  rintro q_ S4 ⟨rfl, c, hc, hB4, hk4⟩
  have e4 := hk4.1
  have hle := Heap.le_trans (Heap.le_set hB) hk4.2.1
  clear hcall
  (simp only [go_sem, reduceIte, Nat.reduceEqDiff, Nat.reduceLT, Nat.reduceLeDiff, Nat.reduceAdd, reduceCtorEq, Int.reduceToNat, Int.reduceLE, Int.reduceLT, Int.reduceNeg, Int.reduceEq, Int.reduceNe, Nat.reduceBEq, Nat.reduceMul, Nat.reducePow, Int.cast_ofNat_Int, *])
theorem wfShow_calls (l : List Pt) (c : PV) (cs : List (List UInt8)) (hc : Cmd c cs) (hb : bulks l ≤ 1048576) (hlen : (outs cs l).length ≤ 140737488355328) (S : Heap) : CallsQ Try.prog 33 [.agg [.slice 5 (prows l)], c] S (.str (outs cs l)) := by
  have hone : [c].all PV.isOne = true ∧ cellsOf c = some [c] := by rcases hc with ⟨rfl, _⟩ | rfl <;> exact ⟨rfl, rfl⟩
  refine CallsQ_less ?_
  refine CallsA_of Try.func33 rfl (Nat.le_of_ble_eq_true rfl) ?_
  simp only [Try.f33]
  refine AW_cut (mb := fun _ => false) ?_
  (simp only [go_sem, reduceIte, Nat.reduceEqDiff, Nat.reduceLT, Nat.reduceLeDiff, Nat.reduceAdd, reduceCtorEq, Int.reduceToNat, Int.reduceLE, Int.reduceLT, Int.reduceNeg, Int.reduceEq, Int.reduceNe, Nat.reduceBEq, Nat.reduceMul, Nat.reducePow, Int.cast_ofNat_Int, *])
  refine AW_seq ?_
  refine AW_region ?_
  show AO _ _ _ [0, 1, 2] _ _ _
  refine AO_op rfl rfl (OpA_build0 (cs := [.nilp, .nils]) (t := 91) (z := .agg #[.pointer none, .slice none 0 0]) (fs := _) rfl Try.underlying91 (by kernel_rfl) (by kernel_rfl) (fun w im => ?_) rfl ?_)
  · simp [Value.cells, RepVals, Rep]
  refine AO_op rfl rfl (OpA_boxM rfl rfl (okDst_spec rfl) fun b hb1 => ?_)
  refine AO_op rfl rfl (OpA_pure rfl (okDst_spec rfl) ?_)
  refine AO_nil ?_
  show AW _ _ _ _ _ _
  have hk0 : TextSk b [] S (S.set b (.cells [.nilp, .nils] 91)) := Bldr.start hb1
  have hone2 := hone.2
  unfold cellsOf at hone2
  have hu := Try.underlying91
  have hu2 := Try.underlying96
  have hu3 := Try.underlying86
  refine AW_end (mb := fun t => decide (t = 12)) ?_
  simp only [List.getElem_toArray, List.getElem_cons_zero, List.getElem_cons_succ]
  (simp only [go_sem, reduceIte, Nat.reduceEqDiff, Nat.reduceLT, Nat.reduceLeDiff, Nat.reduceAdd, reduceCtorEq, Int.reduceToNat, Int.reduceLE, Int.reduceLT, Int.reduceNeg, Int.reduceEq, Int.reduceNe, Nat.reduceBEq, Nat.reduceMul, Nat.reducePow, Int.cast_ofNat_Int, *])
  refine OpW_boxM (cs := [.iface 86 (.mp b 0), c]) rfl rfl rfl fun pb hb2 => ?_
  have hk1 := textSink.ext _ _ _ _ pb (.cells [.iface 86 (.mp b 0), c] 96) hk0 hb2
  have hpn := (textSink.le _ _ _ _ hk0).1
  have hB : S pb = none := by
    cases hx : S pb with
    | none => rfl
    | some o => have := hpn pb o hx; rw [hb2] at this; cases this
  have hcall := wfAll_calls textSink 1048576 (Nat.le_refl _) l hb pb b [] cs S _ ⟨c, hc, hB, hk1⟩ (by simpa using hlen)
  (simp only [go_sem, reduceIte, Nat.reduceEqDiff, Nat.reduceLT, Nat.reduceLeDiff, Nat.reduceAdd, reduceCtorEq, Int.reduceToNat, Int.reduceLE, Int.reduceLT, Int.reduceNeg, Int.reduceEq, Int.reduceNe, Nat.reduceBEq, Nat.reduceMul, Nat.reducePow, Int.cast_ofNat_Int, *])
  refine OpW_call rfl rfl call89 rfl (hcall.mono ?_)
  rintro q_ S4 ⟨rfl, c4, hc4, hB4, hk4⟩
  have hle := Heap.le_trans (Heap.le_set hB) hk4.le
  clear hcall
  (simp only [go_sem, reduceIte, Nat.reduceEqDiff, Nat.reduceLT, Nat.reduceLeDiff, Nat.reduceAdd, reduceCtorEq, Int.reduceToNat, Int.reduceLE, Int.reduceLT, Int.reduceNeg, Int.reduceEq, Int.reduceNe, Nat.reduceBEq, Nat.reduceMul, Nat.reducePow, Int.cast_ofNat_Int, *])
  refine OpW_call rfl rfl call90 rfl ((sbString_calls _ b _ _ _ hk4).mono ?_)
  rintro q_ S5 ⟨rfl, hle5⟩
  have hle2 := Heap.le_trans (Heap.le_set hB) hle5
  (simp only [go_sem, reduceIte, Nat.reduceEqDiff, Nat.reduceLT, Nat.reduceLeDiff, Nat.reduceAdd, reduceCtorEq, Int.reduceToNat, Int.reduceLE, Int.reduceLT, Int.reduceNeg, Int.reduceEq, Int.reduceNe, Nat.reduceBEq, Nat.reduceMul, Nat.reducePow, Int.cast_ofNat_Int, *])
end Go.Proofs.Ytcbonfgkfiapaaa.Pv
