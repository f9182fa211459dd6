/- What unquote.Names computes: the loop over the names. -/
import Derived.Test.YtcbonfgkfiapaaaUnq5
import Derived.Test.YtcbonfgkfiapaaaFrz
import Derived.Test.YtcbonfgkfiapaaaPtProgB
set_option linter.unusedVariables false
set_option linter.unusedSimpArgs false
set_option maxRecDepth 100000
set_option maxHeartbeats 40000000
namespace Go.Proofs.Ytcbonfgkfiapaaa.Pv
open Go Go.RowKit

theorem nms_len : ∀ (l : List Pt), (nms l).length ≤ bulks l := by
  have key : ∀ (n : Nat) (l : List Pt), bulks l ≤ n → (nms l).length ≤ bulks l := by
    intro n
    induction n using Nat.strongRecOn with
    | _ n ih =>
      intro l hl
      induction l with
      | nil => simp [nms]
      | cons p l ihl =>
        have hb := bulk_eq p
        simp only [nms, bulks, List.length_append] at hl ⊢
        have h1 := ihl (by omega)
        have h2 := ih (bulks p.kids) (by omega) p.kids (Nat.le_refl _)
        rw [nm_eq, List.length_append]
        split <;> simp only [List.length_cons, List.length_nil] <;> omega
  exact fun l => key _ l (Nat.le_refl _)
theorem named1_calls {lp : Nat} {Y : List (List UInt8) → Heap → Heap → Prop} (ok : NamesOk lp Y) (l : List Pt) (hb : bulks l ≤ 1048576) (B S : Heap) (hY : Y [] B S) : CallsA Try.prog 131 [.fn (.yield lp) [] [], .ref [.slice 5 (prows l)]] S (fun q S' => Y (nms l) B S') := by
  have hnl := nms_len l
  refine CallsA_W (fun _ => false) Try.func131 rfl (Nat.le_of_ble_eq_true rfl) ?_
  simp only [Try.f131]
  (simp only [go_sem, reduceIte, Nat.reduceEqDiff, Nat.reduceLT, Nat.reduceLeDiff, Nat.reduceAdd, reduceCtorEq, Int.reduceToNat, Int.reduceLE, Int.reduceLT, Int.reduceNeg, Int.reduceEq, Int.reduceNe, Nat.reduceBEq, Nat.reduceMul, Nat.reducePow, Int.cast_ofNat_Int, *])
  refine OpW_of (OpA_alloc rfl zeroCells123 (okDst_spec rfl) fun ball hball => ?_)
  (simp only [go_sem, reduceIte, Nat.reduceEqDiff, Nat.reduceLT, Nat.reduceLeDiff, Nat.reduceAdd, reduceCtorEq, Int.reduceToNat, Int.reduceLE, Int.reduceLT, Int.reduceNeg, Int.reduceEq, Int.reduceNe, Nat.reduceBEq, Nat.reduceMul, Nat.reducePow, Int.cast_ofNat_Int, *])
  refine OpW_put (es := [cl132 lp ball]) rfl rfl set_self rfl rfl size123 (Nat.le_of_ble_eq_true rfl) rfl ?_
  rw [Heap.set_set]
  simp only [splice, List.take_zero, List.nil_append, List.length_cons, List.length_nil, Nat.reduceAdd, List.drop_succ_cons, List.drop_zero, List.append_nil]
  have hBn : B ball = none := by
    cases hx : B ball with
    | none => rfl
    | some o => have := ok.le _ _ _ hY ball o hx; rw [hball] at this; cases this
  have hk := ok.ext _ _ _ ball (.cells [cl132 lp ball] 123) hY hball
  have hcall := named11_calls ok 1048576 (Nat.le_refl _) l hb ball [] _ _ set_self hk (by simp; omega)
  generalize hS2 : S.set ball (.cells [cl132 lp ball] 123) = S2 at *
  have e5 : S2 ball = some (.cells [cl132 lp ball] 123) := by rw [← hS2, set_self]
  have hcl : cl132 lp ball = .fn (.func 132) [] [.ref [.fn (.yield lp) [] []], .mp ball 0] := rfl
  rw [hcl] at e5
  clear hS2 hk hY hball hcl
  (simp only [go_sem, reduceIte, Nat.reduceEqDiff, Nat.reduceLT, Nat.reduceLeDiff, Nat.reduceAdd, reduceCtorEq, Int.reduceToNat, Int.reduceLE, Int.reduceLT, Int.reduceNeg, Int.reduceEq, Int.reduceNe, Nat.reduceBEq, Nat.reduceMul, Nat.reducePow, Int.cast_ofNat_Int, *])
  refine OpW_call rfl rfl call132 rfl (hcall.mono ?_)
  rintro q_ S4 ⟨rfl, hY4⟩
  have hf := ok.base _ _ _ _ hY4 (Heap.le_set hBn)
  rw [List.nil_append] at hf
  clear hcall hY4
  (simp only [go_sem, reduceIte, Nat.reduceEqDiff, Nat.reduceLT, Nat.reduceLeDiff, Nat.reduceAdd, reduceCtorEq, Int.reduceToNat, Int.reduceLE, Int.reduceLT, Int.reduceNeg, Int.reduceEq, Int.reduceNe, Nat.reduceBEq, Nat.reduceMul, Nat.reducePow, Int.cast_ofNat_Int, *])
  exact ⟨_, rfl⟩
theorem uqNamed_calls (x : PV) (hx : cellsOf x = some [x] ∧ x.isOne = true) (S : Heap) : CallsQ Try.prog 98 [x] S (.fn (.func 131) [] [.ref [x]]) := by
  have h1 := hx.1
  unfold cellsOf at h1
  refine CallsA_W (fun _ => false) Try.func98 rfl (Nat.le_of_ble_eq_true rfl) ?_
  simp only [Try.f98]
  (simp only [go_sem, reduceIte, Nat.reduceEqDiff, Nat.reduceLT, Nat.reduceLeDiff, Nat.reduceAdd, reduceCtorEq, Int.reduceToNat, Int.reduceLE, Int.reduceLT, Int.reduceNeg, Int.reduceEq, Int.reduceNe, Nat.reduceBEq, Nat.reduceMul, Nat.reducePow, Int.cast_ofNat_Int, *])
/-! The loop's body -/
def strs (l : List (List UInt8)) : List (List PV) := l.map fun s => [PV.str s]
theorem strs_len (l : List (List UInt8)) : (strs l).length = l.length := by simp [strs]
theorem strs_app (a b : List (List UInt8)) : strs (a ++ b) = strs a ++ strs b := by simp [strs]
theorem appStrs : appFacts Try.prog 49 = some (1, 16, 9) := by kernel_rfl
/-- The names that have come lie in the variable b3; the loop's record is ready. -/
def NmJ (b3 lp : Nat) (r0 : Loop) (acc : List (List UInt8)) (B S : Heap) : Prop := S lp = some (.raw (.loop r0)) ∧ ∃ ps, Holder 1 9 49 b3 (strs acc) ps B S
theorem NmJ.busy {b3 lp : Nat} {r0 : Loop} {acc : List (List UInt8)} {B S : Heap} {x : MObj} {ps : PV} (h1 : S lp = some (.raw (.loop r0))) (h : Holder 1 9 49 b3 (strs acc) ps B S) : Holder 1 9 49 b3 (strs acc) ps (B.set lp x) (S.set lp x) := by
  have hne : b3 ≠ lp := fun e => by subst e; rw [h.cell] at h1; cases h1
  have hown : ownB ps ≠ some lp := fun e => by
    rcases h.grows with ⟨k, _⟩ | ⟨b', cap, cap', k1, k2, _⟩
    · subst k; cases e
    · subst k1; cases e; rw [h1] at k2; cases k2
  refine ⟨fun z y hz => ?_, by rw [set_ne hne]; exact h.n3, by rw [set_ne hne]; exact h.cell, ?_, h.apart, fun b hb => ?_⟩
  · rw [set_apply] at hz ⊢
    split at hz
    · rename_i e; rw [if_pos e]; exact hz
    · rename_i e; rw [if_neg e]; exact h.le z y hz
  · rcases h.grows with k | ⟨b', cap, cap', k1, k2, k3, k4⟩
    · exact Or.inl k
    · refine Or.inr ⟨b', cap, cap', k1, ?_, k3, k4⟩
      rw [set_ne (fun e => hown (by rw [k1, ← e]; rfl))]; exact k2
  · rw [set_ne (fun e => hown (by rw [hb, e]))]; exact h.own b hb
theorem AWI_blockN {r : Option Nat} {P : Program} {n id : Nat} {c : Code} {σ : Regs} {S : Heap} {K : Regs → Heap → Prop} (h : AWI r P n c σ S (onlyN K)) : AWI r P n (.block id c) σ S (onlyN K) := fun w0 S0 w a hs he =>
  wpIn_block (wpIn_mono (h w0 S0 w a hs he) (by
    rintro e a' w' ⟨σ', S', h1, h2, h3⟩
    cases e with
    | normal => exact ⟨σ', S', h1, h2, h3⟩
    | _ => exact h3.elim))
noncomputable def assignC : Code := match Try.f47.body with
  | some (.seq _ (.seq _ (.seq (.seq _ (.block _ (.rangeFunc _ _ a _))) _))) => a
  | _ => .skip
noncomputable def bodyC : Code := match Try.f47.body with
  | some (.seq _ (.seq _ (.seq (.seq _ (.block _ (.rangeFunc _ _ _ b))) _))) => b
  | _ => .skip
theorem nmJ_ok {b3 lp : Nat} {r0 : Loop} (hst : r0.state = .ready) (hpe : r0.pending = none) (hpar : r0.params = #[8]) (hsz : r0.tmps.size = 14) (ha : r0.assign = assignC) (hbd : r0.body = bodyC) (ht3 : r0.tmps.getD 3 undef = .pointer (some ⟨b3, 0, none⟩)) : NamesOk lp (NmJ b3 lp r0) where
  le := fun acc B S ⟨_, ps, h⟩ => h.le
  ext := fun acc B S c o ⟨h1, ps, h⟩ hc => ⟨by rw [set_ne (fun e => by subst e; rw [h1] at hc; cases hc)]; exact h1, ps, h.ext hc⟩
  base := fun acc B B' S ⟨h1, ps, h⟩ hl => ⟨h1, ps, Heap.le_trans hl h.le, le_none hl h.n3, h.cell, h.grows, h.apart, fun b hb => le_none hl (h.own b hb)⟩
  yield := fun acc m B S hlen ⟨h1, ps, h⟩ => by
    refine yields_of (n := 14) (pt := 8) (σr := fun t => if t = 3 then .mp b3 0 else .any) h1 hst hpe hpar hsz (by decide) (fun w im t ht => ?_) ?_
    · by_cases e : t = 3
      · subst e; rw [if_pos rfl, ht3]; simp only [Rep]
      · rw [if_neg e]; simp only [Rep]
    · generalize hrb : ({ r0 with state := .busy } : Loop) = rb
      rw [ha, hbd]
      simp only [assignC, bodyC, Try.f47]
      refine AWI_reg (mb := fun _ => false) (by kernel_rfl) (RunG_of_W ?_)
      have h' := Keep.mk h
      have h1' := Keep.mk h1
      have hrb' := Keep.mk hrb
      have hlen' : (strs acc).length + 1 ≤ maxLen := by rw [strs_len]; simp only [maxLen]; omega
      clear hrb h h1 hst hpe hpar hsz ha hbd ht3
      (simp only [go_sem, reduceIte, Nat.reduceEqDiff, Nat.reduceLT, Nat.reduceLeDiff, Nat.reduceAdd, reduceCtorEq, Int.reduceToNat, Int.reduceLE, Int.reduceLT, Int.reduceNeg, Int.reduceEq, Int.reduceNe, Nat.reduceBEq, Nat.reduceMul, Nat.reducePow, Int.cast_ofNat_Int, *])
      show _ ∧ _
      refine ⟨h1'.of, ?_⟩
      have hH := NmJ.busy (x := .raw (.loop rb)) h1'.of h'.of
      have hlp : (B.set lp (.raw (.loop rb))) lp = some (.raw (.loop rb)) := set_self
      generalize hS1 : S.set lp (.raw (.loop rb)) = S1 at *
      have hc := hH.cell
      have hH' := Keep.mk hH
      refine AWI_blockN ?_
      refine AWI_reg (mb := fun _ => false) (by kernel_rfl) (RunG_of_W ?_)
      clear hH hS1
      (simp only [go_sem, reduceIte, Nat.reduceEqDiff, Nat.reduceLT, Nat.reduceLeDiff, Nat.reduceAdd, reduceCtorEq, Int.reduceToNat, Int.reduceLE, Int.reduceLT, Int.reduceNeg, Int.reduceEq, Int.reduceNe, Nat.reduceBEq, Nat.reduceMul, Nat.reducePow, Int.cast_ofNat_Int, *])
      refine OpW_append (rows := [[.str m]]) (olds := strs acc) (ps := ps) rfl appStrs rfl rfl (by intro r hr c hc; simp only [List.mem_singleton] at hr; subst hr; simp only [List.mem_singleton] at hc; subst hc; rfl) rfl hH'.of.grows hlen' (by rw [strs_len]; simp only [List.length_cons, List.length_nil]; omega) ?_
      rintro p S2 g1 g2 g3
      obtain ⟨k1, k2⟩ := hH'.of.push g1 g2 g3
      have o2 := (grows_one g1).1
      have o3 := (grows_one g1).2
      clear g1 g2 g3
      (simp only [go_sem, reduceIte, Nat.reduceEqDiff, Nat.reduceLT, Nat.reduceLeDiff, Nat.reduceAdd, reduceCtorEq, Int.reduceToNat, Int.reduceLE, Int.reduceLT, Int.reduceNeg, Int.reduceEq, Int.reduceNe, Nat.reduceBEq, Nat.reduceMul, Nat.reducePow, Int.cast_ofNat_Int, *])
      refine OpW_put (es := [p]) rfl rfl k1 o2 o3 (by kernel_rfl) (Nat.le_of_ble_eq_true rfl) rfl ?_
      simp only [splice, List.take_zero, List.nil_append, List.length_cons, List.length_nil, Nat.reduceAdd, List.drop_succ_cons, List.drop_nil, List.append_nil, List.drop_zero]
      have k3 := Keep.mk k2
      clear k1 k2 o2 o3 hc
      (simp only [go_sem, reduceIte, Nat.reduceEqDiff, Nat.reduceLT, Nat.reduceLeDiff, Nat.reduceAdd, reduceCtorEq, Int.reduceToNat, Int.reduceLE, Int.reduceLT, Int.reduceNeg, Int.reduceEq, Int.reduceNe, Nat.reduceBEq, Nat.reduceMul, Nat.reducePow, Int.cast_ofNat_Int, *])
      show _ ∧ _
      have hl3 := k3.of.le _ _ hlp
      refine ⟨hl3, set_self, p, ?_⟩
      have hf := NmJ.busy (x := .raw (.loop r0)) (r0 := rb) (acc := acc ++ [m]) (b3 := b3) hl3 (by rw [strs_app]; exact k3.of)
      rw [Heap.set_set] at hf
      refine ⟨fun z y hz => ?_, h'.of.n3, hf.cell, hf.grows, hf.apart, fun b hb => ?_⟩
      · by_cases e : z = lp
        · subst e
          have := h'.of.le _ _ hz
          rw [h1'.of] at this
          cases this
          exact set_self
        · exact hf.le z y (by rw [set_ne e]; exact hz)
      · have := hf.own b hb
        by_cases e : b = lp
        · subst e; rw [set_self] at this; cases this
        · rwa [set_ne e] at this
theorem AD_cut {P : Program} {n : Nat} {w0 : World} {S0 : Heap} {Q : Exit → Act → World → Prop} {mb : Tmp → Bool} {x y : Code} {σ : Regs} {S : Heap} (h : W P n mb (onlyN fun σ' S' => AD P n w0 S0 Q [] y σ' S') [.code x] σ S) : AD P n w0 S0 Q [] (.seq x y) σ S := AD_pre (K := fun σ' S' => AD P n w0 S0 Q [] y σ' S') (W_sound _ _ _ h) (fun _ _ h => h)
theorem uqNames_calls (l : List Pt) (hb : bulks l ≤ 1048576) (S : Heap) : CallsQ Try.prog 47 [.agg [.slice 5 (prows l)]] S (.slice 1 (strs (nms l))) := by
  refine CallsQ_freeze (e := 9) ?_
  refine CallsA_ranged Try.func47 rfl (Nat.le_of_ble_eq_true rfl) fun w0 => ?_
  simp only [Try.f47]
  refine AD_cut (mb := fun _ => false) ?_
  (simp only [go_sem, reduceIte, Nat.reduceEqDiff, Nat.reduceLT, Nat.reduceLeDiff, Nat.reduceAdd, reduceCtorEq, Int.reduceToNat, Int.reduceLE, Int.reduceLT, Int.reduceNeg, Int.reduceEq, Int.reduceNe, Nat.reduceBEq, Nat.reduceMul, Nat.reducePow, Int.cast_ofNat_Int, *])
  show AD _ _ _ _ _ _ _ _ _
  refine AD_cut (mb := fun _ => false) ?_
  (simp only [go_sem, reduceIte, Nat.reduceEqDiff, Nat.reduceLT, Nat.reduceLeDiff, Nat.reduceAdd, reduceCtorEq, Int.reduceToNat, Int.reduceLE, Int.reduceLT, Int.reduceNeg, Int.reduceEq, Int.reduceNe, Nat.reduceBEq, Nat.reduceMul, Nat.reducePow, Int.cast_ofNat_Int, *])
  refine OpW_of (OpA_alloc rfl zeroCells49 (okDst_spec rfl) fun b3 hb3 => ?_)
  (simp only [go_sem, reduceIte, Nat.reduceEqDiff, Nat.reduceLT, Nat.reduceLeDiff, Nat.reduceAdd, reduceCtorEq, Int.reduceToNat, Int.reduceLE, Int.reduceLT, Int.reduceNeg, Int.reduceEq, Int.reduceNe, Nat.reduceBEq, Nat.reduceMul, Nat.reducePow, Int.cast_ofNat_Int, *])
  show AD _ _ _ _ _ _ _ _ _
  refine AD_seq (AD_cut (mb := fun _ => false) ?_)
  (simp only [go_sem, reduceIte, Nat.reduceEqDiff, Nat.reduceLT, Nat.reduceLeDiff, Nat.reduceAdd, reduceCtorEq, Int.reduceToNat, Int.reduceLE, Int.reduceLT, Int.reduceNeg, Int.reduceEq, Int.reduceNe, Nat.reduceBEq, Nat.reduceMul, Nat.reducePow, Int.cast_ofNat_Int, *])
  refine OpW_call rfl rfl call98 rfl ((uqNamed_calls (.slice 5 (prows l)) ⟨rfl, rfl⟩ _).mono ?_)
  rintro q_ S_ ⟨rfl, rfl⟩
  (simp only [go_sem, reduceIte, Nat.reduceEqDiff, Nat.reduceLT, Nat.reduceLeDiff, Nat.reduceAdd, reduceCtorEq, Int.reduceToNat, Int.reduceLE, Int.reduceLT, Int.reduceNeg, Int.reduceEq, Int.reduceNe, Nat.reduceBEq, Nat.reduceMul, Nat.reducePow, Int.cast_ofNat_Int, *])
  show AD _ _ _ _ _ _ _ _ _
  refine AD_range rfl call131 ?_
  intro lp D r0 hD hL hne hst hpe hpar hsz ha hbd hreg
  have hDb : D ≠ b3 := fun e => by subst e; rw [set_self] at hD; cases hD
  have hLb : lp ≠ b3 := fun e => by subst e; rw [set_self] at hL; cases hL
  have hDS : S D = none := by rwa [set_ne hDb] at hD
  have hLS : S lp = none := by rwa [set_ne hLb] at hL
  have ok := nmJ_ok (b3 := b3) (lp := lp) hst hpe hpar hsz (ha.trans rfl) (hbd.trans rfl) (hreg 3 b3 0 rfl)
  have h0 : Holder 1 9 49 b3 (strs []) .sl0 S (S.set b3 (.cells [.sl0] 49)) := Holder.new hb3
  have h1 := h0.ext (o := .raw (.deferred (some []))) hD
  have h2 := h1.ext (b := lp) (o := .raw (.loop r0)) (by rw [set_ne (Ne.symm hne)]; exact hL)
  have hBl : (S.set D (.raw (.deferred (some [])))) lp = none := by rw [set_ne (Ne.symm hne)]; exact hLS
  have h3 := h2.forget hBl
  have hcall := named1_calls ok l hb (S.set D (.raw (.deferred (some [])))) _ ⟨set_self, .sl0, h3⟩
  refine CallsA.mono hcall ?_
  rintro q S3 ⟨k1, ps, hH⟩
  refine ⟨k1, ?_⟩
  have hH2 := NmJ.busy (x := .raw (.loop { r0 with state := .exhausted })) k1 hH
  generalize S3.set lp (.raw (.loop { r0 with state := .exhausted })) = S4 at *
  have hDv : S4 D = some (.raw (.deferred (some []))) := hH2.le _ _ (by rw [set_ne hne]; exact set_self)
  have hSB : S.le S4 := Heap.le_trans (Heap.le_trans (Heap.le_set hDS) (Heap.le_set hBl)) hH2.le
  have hown : ∀ b, ownB ps = some b → S b = none ∧ b ≠ D := fun b hb' => by
    have h4 := hH2.own b hb'
    refine ⟨le_none (Heap.le_trans (Heap.le_set hDS) (Heap.le_set hBl)) h4, fun e => ?_⟩
    subst e
    rw [set_ne hne, set_self] at h4
    cases h4
  have hc := hH2.cell
  have hg := Keep.mk hH2.grows
  clear hH2 hH hcall h3 h2 h1 h0 ok hreg ha hbd hsz hpar hpe hst k1 hBl hL hD
  refine AD_ops (mb := fun _ => false) (by kernel_rfl) (RunG_of_W ?_)
  (simp only [go_sem, reduceIte, Nat.reduceEqDiff, Nat.reduceLT, Nat.reduceLeDiff, Nat.reduceAdd, reduceCtorEq, Int.reduceToNat, Int.reduceLE, Int.reduceLT, Int.reduceNeg, Int.reduceEq, Int.reduceNe, Nat.reduceBEq, Nat.reduceMul, Nat.reducePow, Int.cast_ofNat_Int, *])
  show AD _ _ _ _ _ _ _ _ _
  refine AD_ret (D := D) (p := ps) hDv rfl ⟨Heap.le_own hSB hDS, strs (nms l), ?_, fun b hb' => (hown b hb').1, rowsW_refl _⟩
  rcases hg.of with k | ⟨b', cap, cap', k1, k2, k3, k4⟩
  · exact Or.inl k
  · refine Or.inr ⟨b', cap, cap', k1, ?_, k3, k4⟩
    rw [set_ne ((hown b' (by rw [k1]; rfl)).2)]
    exact k2
end Go.Proofs.Ytcbonfgkfiapaaa.Pv
