/- A region whose order is drawn, its first operation but a move that may be late. -/
import Derived.Test.YtcbonfgkfiapaaaSlice3
set_option linter.unusedVariables false
set_option linter.unusedSimpArgs false
namespace Go.Proofs.Ytcbonfgkfiapaaa.Pv
open Go Go.RowKit

def drawOk1 (ops : Array Oper) (k0 : Nat) : Bool :=
  let m := (Region.before ops).toList
  let l := ops.toList
  k0 ≤ l.length && m.length == l.length &&
  l.zipIdx.all (fun (o, j) => m.getD j 0 == edgeMask m o && o.after.toList.all (fun e => decide (e.on < j))) &&
  l.zipIdx.all (fun (o, j) => l.zipIdx.all fun (u, i) => i == j || (match u.dst with
    | some d => !(namesOf ops o).contains d || (if i < j then (m.getD j 0).testBit i else (m.getD i 0).testBit j)
    | none => true)) &&
  (List.range l.length).all (fun j => decide (j < k0) || (List.range j).all fun i => i == 0 || (m.getD j 0).testBit i) && decide (0 < k0)

structure DrawOk1 (ops : Array Oper) (k0 : Nat) (m : List Nat) : Prop where
  le : k0 ≤ ops.size
  mask : ∀ (j : Nat) (o : Oper), ops[j]? = some o → m.getD j 0 = edgeMask m o
  edge : ∀ (j : Nat) (o : Oper) (e : Edge), ops[j]? = some o → e ∈ o.after → e.on < j
  names : ∀ (i j : Nat) (o : Oper) (d : Tmp), i ≠ j → ops[j]? = some o → dstAt ops i = some d → d ∈ namesOf ops o → (i < j → (m.getD j 0).testBit i = true) ∧ (j < i → (m.getD i 0).testBit j = true)
  forced : ∀ j i, k0 ≤ j → j < ops.size → i < j → 0 < i → (m.getD j 0).testBit i = true
  pos : 0 < k0
theorem drawOk_spec1 {ops : Array Oper} {k0 : Nat} (h : drawOk1 ops k0 = true) : DrawOk1 ops k0 (Region.before ops).toList := by
  simp only [drawOk1, Bool.and_eq_true, decide_eq_true_eq, beq_iff_eq] at h
  obtain ⟨⟨⟨⟨⟨h0, h1⟩, h2⟩, h3⟩, h4⟩, h5⟩ := h
  have mem : ∀ (j : Nat) (o : Oper), ops[j]? = some o → (o, j) ∈ ops.toList.zipIdx := fun j o ho => by
    rw [List.mem_zipIdx_iff_getElem?]; simpa using ho
  refine ⟨by simpa using h0, fun j o ho => ?_, fun j o e ho he => ?_, fun i j o d hij ho hd hn => ?_, fun j i hk hj hi hi0 => ?_, h5⟩
  · have := List.all_eq_true.1 h2 (o, j) (mem j o ho)
    simp at this
    simpa using this.1
  · have := List.all_eq_true.1 h2 (o, j) (mem j o ho)
    simp only [Bool.and_eq_true] at this
    exact of_decide_eq_true (List.all_eq_true.1 this.2 e (by simpa using he))
  · unfold dstAt at hd
    cases hu : ops[i]? with
    | none => rw [hu] at hd; simp at hd
    | some u =>
      rw [hu] at hd; simp at hd
      have := List.all_eq_true.1 (List.all_eq_true.1 h3 (o, j) (mem j o ho)) (u, i) (mem i u hu)
      simp only [hd, Bool.or_eq_true, beq_iff_eq, Bool.not_eq_true'] at this
      rcases this with this | this
      · exact absurd this hij
      · rcases this with this | this
        · rw [List.contains_eq_mem] at this; simp at this; exact absurd hn this
        · refine ⟨fun hlt => ?_, fun hlt => ?_⟩
          · rw [if_pos hlt] at this; exact this
          · rw [if_neg (by omega)] at this; exact this
  · have := List.all_eq_true.1 h4 j (by simp; exact hj)
    simp only [Bool.or_eq_true, decide_eq_true_eq] at this
    rcases this with this | this
    · omega
    · have := List.all_eq_true.1 this i (by simp; exact hi)
      simp only [Bool.or_eq_true, beq_iff_eq] at this
      rcases this with this | this
      · omega
      · exact this

theorem before_listed1 {ops : Array Oper} {k0 : Nat} {m : List Nat} (hd : DrawOk1 ops k0 m) {listed : Array Bool} (hc : Closed ops listed) : ∀ (j : Nat) (o : Oper) (i : Nat), ops[j]? = some o → (∀ e ∈ o.after, Region.binds .any e = true → listed.getD e.on false = true) → (m.getD j 0).testBit i = true → listed.getD i false = true := by
  intro j
  induction j using Nat.strongRecOn with
  | _ j ih =>
    intro o i ho he hb
    rw [hd.mask j o ho] at hb
    obtain ⟨e, h1, h2, h3⟩ := edgeMask_spec hb
    rcases h3 with rfl | h3
    · exact he e h1 h2
    · have hlt := hd.edge j o e ho h1
      have hl := he e h1 h2
      have hjs : j < ops.size := (Array.getElem?_eq_some_iff.1 ho).1
      have hoe : ops[e.on]? = some ops[e.on] := Array.getElem?_eq_getElem (by omega)
      exact ih e.on hlt ops[e.on] i hoe (fun e' he' hb' => hc e.on _ hoe hl e' he' hb') h3

/-- The last operations, one behind the other. -/
theorem any_tail1 {P : Program} {ops : Array Oper} {k0 : Nat} {m : List Nat} (hd : DrawOk1 ops k0 m) {Q : Exit → Act → World → Prop} : ∀ (cnt j fuel : Nat) (listed : Array Bool) (a : Act) (w : World), listed.size = ops.size → (∀ i, i < ops.size → listed.getD i false = decide (i < j)) → k0 ≤ j → ops.size = j + cnt → cnt ≤ fuel →
    wpOps P ops Q (List.range' j cnt) a w → wpAny P .any ops Q fuel listed a w
  | 0, j, fuel, listed, a, w, hs, hl, hk, hj, hf, h => by
    have hr : Region.ready .any ops listed = [] := by
      apply List.eq_nil_iff_forall_not_mem.2
      intro i hi
      obtain ⟨h1, o, ho, _⟩ := mem_ready.1 hi
      have hlt : i < ops.size := (Array.getElem?_eq_some_iff.1 ho).1
      rw [getD_true_false (by omega), hl i hlt] at h1
      simp at h1; omega
    exact wpAny_done hr h fuel
  | cnt + 1, j, fuel, listed, a, w, hs, hl, hk, hj, hf, h => by
    obtain ⟨fuel, rfl⟩ : ∃ f, fuel = f + 1 := ⟨fuel - 1, by omega⟩
    have hc : Closed ops listed := by
      intro i o ho hli e he hb
      have hlt : i < ops.size := (Array.getElem?_eq_some_iff.1 ho).1
      have h1 := hd.edge i o e ho he
      rw [hl i hlt] at hli
      rw [hl e.on (by omega)]
      simp at hli ⊢; omega
    have hjr : j ∈ Region.ready .any ops listed := by
      refine mem_ready.2 ⟨by rw [getD_true_false (by omega), hl j (by omega)]; simp, ops[j], Array.getElem?_eq_getElem (by omega), fun e he hb => ?_⟩
      have h1 := hd.edge j ops[j] e (Array.getElem?_eq_getElem (by omega)) he
      rw [hl e.on (by omega)]; simpa using h1
    refine ⟨fun h0 => (by rw [h0] at hjr; cases hjr), fun i hi => ?_⟩
    have hij : i = j := by
      obtain ⟨h1, o, ho, h2⟩ := mem_ready.1 hi
      have hlt : i < ops.size := (Array.getElem?_eq_some_iff.1 ho).1
      rw [getD_true_false (by omega), hl i hlt] at h1
      simp at h1
      rcases Nat.lt_or_ge j i with h3 | h3
      · have := before_listed1 hd hc i o j ho h2 (hd.forced i j (by omega) hlt h3 (by have := hd.pos; omega))
        rw [hl j (by omega)] at this
        simp at this
      · omega
    subst hij
    rw [List.range'_succ, wpOps_cons] at h
    refine wpOp_mono (fun a w h' => any_tail1 hd cnt (i + 1) fuel _ a w (by simpa using hs) (fun x hx => ?_) (by omega) (by omega) (by omega) h') h
    by_cases e : i = x
    · subst e; simp [hs, hx]
    · rw [getD_set_ne false e, hl x hx]
      by_cases h1 : x < i <;> simp [h1] <;> omega

theorem any_quiet1 {P : Program} {n : Nat} {ops : Array Oper} {k0 : Nat} {m : List Nat} (hd : DrawOk1 ops k0 m) {S : Heap} {σ0 : Regs} {res : Nat → PV} {Q : Post} {w0 : World} {S0 : Heap}
    (hq : ∀ i, i < k0 → QStep P n ops (sigAt ops res σ0 (fun j => decide (j < i))) S i (res i))
    (ht : AO P n ops (List.range' k0 (ops.size - k0)) (sigAt ops res σ0 (fun j => decide (j < k0))) S Q) :
    ∀ (fuel : Nat) (listed : Array Bool) (a : Act) (w : World), listed.getD 0 false = true → listed.size = ops.size → Closed ops listed → left listed ops.size ≤ fuel → (∀ j, k0 ≤ j → j < ops.size → listed.getD j false = false) →
      St n w S a (sigAt ops res σ0 (fun i => listed.getD i false)) → Ext w0 S0 w S → wpAny P .any ops (lift n w0 S0 Q) fuel listed a w := by
  have hfull : ∀ (listed : Array Bool), (∀ i, i < ops.size → listed.getD i false = decide (i < k0)) → sigAt ops res σ0 (fun i => listed.getD i false) = sigAt ops res σ0 (fun j => decide (j < k0)) := by
    intro listed h
    funext t
    simp only [sigAt]
    rw [lastW_congr fun i hi => by rw [h i hi]]
  intro fuel
  induction fuel with
  | zero =>
    intro listed a w hz0 hs hc hl hk hst hext
    have hz := left_zero (Nat.le_zero.1 hl)
    have hk0 : k0 = ops.size := by
      rcases Nat.lt_or_ge k0 ops.size with h | h
      · have := hk k0 (Nat.le_refl _) h; rw [hz k0 h] at this; cases this
      · have := hd.le; omega
    have hall : ∀ i, i < ops.size → listed.getD i false = decide (i < k0) := fun i hi => by rw [hz i hi]; simp; omega
    refine any_tail1 hd 0 k0 0 listed a w hs hall (Nat.le_refl _) (by omega) (Nat.le_refl _) ?_
    rw [hfull listed hall] at hst
    have := ht w0 S0 w a hst hext
    rwa [show ops.size - k0 = 0 by omega] at this
  | succ fuel ih =>
    intro listed a w hz0 hs hc hl hk hst hext
    by_cases hall : ∀ i, i < ops.size → listed.getD i false = decide (i < k0)
    · -- all of the quiet ones are done
      have hcnt : ops.size - k0 ≤ fuel + 1 := by
        have : ops.size - k0 ≤ left listed ops.size := by
          have aux : ∀ m, m ≤ ops.size → m - k0 ≤ left listed m := by
            intro m
            induction m with
            | zero => intro _; simp
            | succ m ihm =>
              intro hm
              simp only [left]
              have := ihm (by omega)
              by_cases h1 : k0 ≤ m
              · rw [hk m h1 (by omega)]; simp; omega
              · omega
          exact aux ops.size (Nat.le_refl _)
        omega
      refine any_tail1 hd (ops.size - k0) k0 (fuel + 1) listed a w hs hall (Nat.le_refl _) (by have := hd.le; omega) hcnt ?_
      rw [hfull listed hall] at hst
      exact ht w0 S0 w a hst hext
    · have hnf : ∃ i, i < k0 ∧ listed.getD i false = false := by
        apply Classical.byContradiction
        intro hno
        apply hall
        intro i hi
        by_cases h1 : i < k0
        · have : ¬ listed.getD i false = false := fun h => hno ⟨i, h1, h⟩
          simp at this; simp [this, h1]
        · rw [hk i (by omega) hi]; simp [h1]
      refine ⟨fun h0 => ?_, fun j hj => ?_⟩
      · -- something is ready
        exfalso
        obtain ⟨i, hi, hli⟩ := hnf
        have hpos : 0 < left listed ops.size := by
          rcases Nat.eq_zero_or_pos (left listed ops.size) with h | h
          · have := left_zero h i (by have := hd.le; omega); rw [hli] at this; cases this
          · exact h
        obtain ⟨x, hx, hlx, hbx⟩ := left_pos hpos
        have : x ∈ Region.ready .any ops listed := by
          refine mem_ready.2 ⟨by rw [getD_true_false (by omega)]; exact hlx, ops[x], Array.getElem?_eq_getElem hx, fun e he hb => ?_⟩
          exact hbx e.on (hd.edge x ops[x] e (Array.getElem?_eq_getElem hx) he)
        rw [h0] at this; cases this
      · obtain ⟨hjl, o, ho, hje⟩ := mem_ready.1 hj
        have hjs : j < ops.size := (Array.getElem?_eq_some_iff.1 ho).1
        have hjl' : listed.getD j false = false := by rw [← getD_true_false (by omega)]; exact hjl
        have hjk : j < k0 := by
          rcases Nat.lt_or_ge j k0 with h | h
          · exact h
          · obtain ⟨i, hi, hli⟩ := hnf
            have := before_listed1 hd hc j o i ho hje (hd.forced j i h hjs (by omega) (Nat.pos_of_ne_zero fun e => by subst e; rw [hli] at hz0; cases hz0))
            rw [hli] at this; cases this
        obtain ⟨o', ho', hok, hcase⟩ := hq j hjk
        rw [ho] at ho'; injection ho' with ho'; subst ho'
        -- what it looks at stands as in the text's order
        have hsame : ∀ t ∈ namesOf ops o, sigAt ops res σ0 (fun i => listed.getD i false) t = sigAt ops res σ0 (fun i => decide (i < j)) t := by
          intro t htn
          simp only [sigAt]
          have : lastW (fun i => listed.getD i false && dstAt ops i == some t) ops.size = lastW (fun i => decide (i < j) && dstAt ops i == some t) ops.size := by
            refine lastW_congr fun i hi => ?_
            by_cases hdi : dstAt ops i = some t
            · by_cases hij : i = j
              · subst hij; simp [hjl']
              · obtain ⟨n1, n2⟩ := hd.names i j o t hij ho hdi htn
                by_cases hlt : i < j
                · rw [before_listed1 hd hc j o i ho hje (n1 hlt)]; simp [hlt]
                · have hji : j < i := by omega
                  have : listed.getD i false = false := by
                    by_cases hli : listed.getD i false = true
                    · have hoi : ops[i]? = some ops[i] := Array.getElem?_eq_getElem hi
                      have := before_listed1 hd hc i ops[i] j hoi (fun e he hb => hc i _ hoi hli e he hb) (n2 hji)
                      rw [hjl'] at this; cases this
                    · simpa using hli
                  rw [this]; simp [hlt]
            · have hf : (dstAt ops i == some t) = false := beq_eq_false_iff_ne.2 hdi
              rw [hf, Bool.and_false, Bool.and_false]
          rw [this]
        have hdst : dstAt ops j = o.dst := by simp [dstAt, ho]
        have hins : sigAt ops res σ0 (fun i => (listed.setIfInBounds j true).getD i false) = updO (sigAt ops res σ0 (fun i => listed.getD i false)) o.dst (res j) := by
          rw [← hdst]
          refine sigAt_insert hjs (fun i hi => ?_) (fun i t h1 h2 h3 h4 h5 => ?_)
          · by_cases e : j = i
            · subst e; simp [hs, hjs]
            · rw [getD_set_ne false e]
              have : (i == j) = false := by simp; exact fun h => e h.symm
              rw [this, Bool.or_false]
          · have hn : t ∈ namesOf ops o := by unfold namesOf; rw [← hdst, h5]; simp
            have hb := (hd.names i j o t (by omega) ho h4 hn).2 h1
            have hoi : ops[i]? = some ops[i] := Array.getElem?_eq_getElem h2
            have := before_listed1 hd hc i ops[i] j hoi (fun e he hb => hc i _ hoi h3 e he hb) hb
            rw [hjl'] at this; cases this
        have hnext : ∀ (a' : Act) (w' : World), St n w' S a' (updO (sigAt ops res σ0 (fun i => listed.getD i false)) o.dst (res j)) → Ext w0 S0 w' S → wpAny P .any ops (lift n w0 S0 Q) fuel (listed.setIfInBounds j true) a' w' := by
          intro a' w' h1 h2
          refine ih (listed.setIfInBounds j true) a' w' (getD_set_true hz0) (by simpa using hs) ?_ ?_ ?_ (by rw [hins]; exact h1) h2
          · intro i oi hoi hli e he hb
            by_cases hij : j = i
            · subst hij; rw [ho] at hoi; injection hoi with hoi; subst hoi
              exact getD_set_true (hje e he hb)
            · rw [getD_set_ne false hij] at hli
              exact getD_set_true (hc i oi hoi hli e he hb)
          · have := (left_set hjl' (by omega) ops.size).2 hjs
            omega
          · intro i h1 h2
            rw [getD_set_ne false (by omega)]; exact hk i h1 h2
        have tn : ∀ t ∈ tmpsOf o, t ∈ namesOf ops o := fun t h => by unfold namesOf; simp [h]
        unfold wpOp
        simp only [ho]
        have exec : ∀ p, p = res j → QV P o (sigAt ops res σ0 (fun i => decide (i < j))) S p → o.wp P a w (wpAny P .any ops (lift n w0 S0 Q) fuel (listed.setIfInBounds j true)) (lift n w0 S0 Q) := by
          intro p hp hv
          subst hp
          refine hv n (sigAt ops res σ0 (fun i => listed.getD i false)) w a (fun t htm => hsame t (tn t htm)) hst _ _ fun v w' h1 h2 h3 => ?_
          exact hnext _ w' ((hst.ext h2 h3).put (okDst_spec hok) h1) (hext.trans h2)
        rcases hcase with ⟨hg, hv⟩ | ⟨g, want, b, hg, hb, hcase⟩
        · rw [if_pos (by simp [Region.wanted, hg])]
          exact Or.inl (exec _ rfl hv)
        · obtain ⟨og, d, g1, g2, g3, g4⟩ := guardVal_spec hb
          have hdn : d ∈ namesOf ops o := by unfold namesOf; simp [hg, dstAt, g1, g2]
          have hy : Region.wanted o (yielded ops a.tmps) = (b == want) := wanted_of hst hg g1 g2 g3 (by rw [hsame d hdn]; exact g4)
          rcases hcase with ⟨e, hv⟩ | ⟨e, hp⟩
          · rw [if_pos (by rw [hy]; simp [e])]
            exact Or.inl (exec _ rfl hv)
          · rw [if_neg (by rw [hy]; simp [e])]
            refine hnext _ w ?_ hext
            rw [hp]
            exact hst.put (okDst_spec hok) (rep_undef _ _)


/-- What is asked besides: the first operation is a move that nothing meddles with. -/
def moveFirst (ops : Array Oper) (x d : Tmp) : Bool :=
  Region.noSelect ops && Region.free .any ops (Array.replicate ops.size false) 0 && (Region.ready .any ops (Array.replicate ops.size false)).contains 0
theorem AW_draw1 {P : Program} {n : Nat} {mb : Tmp → Bool} {id : Nat} {ops : Array Oper} {σ : Regs} {S : Heap} {Q : Post} (hm : P.follows .mixedOrders = true) (k0 : Nat) {x d : Tmp} {o0 : Oper} (hok : drawOk1 ops k0 = true) (hmf : moveFirst ops x d = true)
    (h0 : ops[0]? = some o0) (hop : o0.op = .move (.tmp x)) (hg : o0.guard = none) (hpan : ∀ c σ S, ¬ Q (.panic c) σ S)
    (h : RunQ P n (dstsOf ops) (ops.toList.take k0) σ S (fun σ' => RunG P n mb (dstsOf ops) (ops.toList.drop k0) σ' S (Q .normal))) : AW P n (.region id ops true) σ S Q := by
  have hd := drawOk_spec1 hok
  obtain ⟨PS, σ', hl, hrun, htail⟩ := RunQ_run (ops.toList.take k0) (ops.toList.drop k0) 0 σ (by simp) h
  have hlen : PS.length = k0 := by rw [hl]; simp; exact Nat.min_eq_left hd.le
  have hz : sigAt ops (fun i => PS.getD i .any) σ (fun i => decide (i < 0)) = σ := by
    funext t
    simp only [sigAt]
    rw [lastW_none (fun i => by simp)]
  obtain ⟨hq, hend⟩ := QRun_at (σ0 := σ) (PS := PS) (by rw [hlen]; exact hd.le) PS.length 0 (by omega) (by rw [hz]; simpa using hrun)
  simp only [moveFirst, Bool.and_eq_true] at hmf
  obtain ⟨⟨f1, f2⟩, f3⟩ := hmf
  have hsz : 0 < ops.size := (Array.getElem?_eq_some_iff.1 h0).1
  have hstep := hq 0 (Nat.le_refl _) (by have := hd.pos; omega)
  intro w0 S0 w a hst hext
  refine wp_region_any hm ?_
  have hst1 := drew_st hst
  have hext1 := drew_ext hext
  have hrep : ∀ i, (Array.replicate ops.size false).getD i false = false := fun i => by
    simp only [Array.getD_eq_getD_getElem?, Array.getElem?_replicate]; split <;> rfl
  have hz2 : sigAt ops (fun i => PS.getD i .any) σ (fun i => (Array.replicate ops.size false).getD i false) = σ := by
    funext t
    simp only [sigAt]
    rw [lastW_none (fun i => by rw [hrep]; simp)]
  have hrun : ∀ w, (execOp a.eval o0).run P w = .ok (.value (a.eval (.tmp x))) w := fun w => by simp [execOp, hop]
  have hst2 : St n { w with drawn := w.drawn + 1 } S (a.put o0.dst (a.eval (.tmp x))) (updO σ o0.dst (PS.getD 0 .any)) := by
    obtain ⟨o, ho, hok', hcase⟩ := hstep
    rw [h0] at ho
    injection ho with ho
    subst ho
    rcases hcase with ⟨_, hv⟩ | ⟨g, want, b, hg', _⟩
    · rw [hz] at hv
      have hwp := hv n σ _ a (fun t _ => rfl) hst1 (fun a' w' => St n w' S a' (updO σ o0.dst (PS.getD 0 .any))) (fun _ _ _ => False) (fun v w' h1 h2 h3 => (hst1.ext h2 h3).put (okDst_spec hok') h1)
      unfold Oper.wp at hwp
      rw [hrun] at hwp
      exact hwp
    · rw [hg] at hg'; cases hg'
  have hnoe : ∀ e ∈ o0.after, Region.binds .any e = true → False := by
    have := List.contains_iff_mem.1 f3
    obtain ⟨_, o, ho, he⟩ := mem_ready.1 this
    rw [h0] at ho
    injection ho with ho
    subst ho
    intro e h1 h2
    have := he e h1 h2
    rw [hrep] at this; cases this
  obtain ⟨f, hf⟩ : ∃ f, ops.size = f + 1 := ⟨ops.size - 1, by omega⟩
  have hdst : dstAt ops 0 = o0.dst := by simp [dstAt, h0]
  have key : ∀ k, k = f + 1 → wpAny P .any ops (lift n w0 S0 Q) k (Array.replicate ops.size false) a { w with drawn := w.drawn + 1 } := by
    rintro _ rfl
    refine wpAny_take (v := a.eval (.tmp x)) h0 f1 f2 f3 (fun c a' w' hq' => ?_) (Or.inl ⟨by simp [Region.wanted, hg], hrun⟩) ?_
    · obtain ⟨σ1, S1, _, _, hq1⟩ := hq'
      exact absurd hq1 (hpan c σ1 S1)
    · refine any_quiet1 hd (res := fun i => PS.getD i .any) (σ0 := σ) (S := S) (fun i hi => hq i (Nat.zero_le _) (by omega)) ?_ f _ _ _ ?_ (by simp) ?_ ?_ ?_ ?_ hext1
      · rw [← hlen, ← hend, hlen]
        have := AO_run (P := P) (n := n) (mb := mb) (ops := ops) (Q := Q) (ops.toList.drop k0) k0 σ' S rfl htail
        simpa using this
      · simp [hsz]
      · intro j o ho hlj e he hb
        by_cases e0 : 0 = j
        · subst e0
          rw [h0] at ho
          injection ho with ho
          subst ho
          exact (hnoe e he hb).elim
        · rw [getD_set_ne false e0, hrep] at hlj; cases hlj
      · have h1 : ∀ m, left (Array.replicate ops.size false) m ≤ m := by
          intro m
          induction m with
          | zero => simp [left]
          | succ m ih => simp only [left]; split <;> omega
        have h2 := (left_set (listed := Array.replicate ops.size false) (j := 0) (hrep 0) (by simpa using hsz) ops.size).2 hsz
        have := h1 ops.size
        omega
      · intro j hj _
        have := hd.pos
        rw [getD_set_ne false (by omega), hrep]
      · have : sigAt ops (fun i => PS.getD i .any) σ (fun i => ((Array.replicate ops.size false).setIfInBounds 0 true).getD i false) = updO σ o0.dst (PS.getD 0 .any) := by
          conv => rhs; rw [← hz2, ← hdst]
          refine sigAt_insert hsz (fun i hi => ?_) (fun i t h1 h2 h3 h4 h5 => ?_)
          · by_cases e : 0 = i
            · subst e; simp [hsz]
            · rw [getD_set_ne false e]
              have : (i == 0) = false := by simp; exact fun h => e h.symm
              rw [this, Bool.or_false]
          · rw [hrep] at h3; cases h3
        rw [this]
        exact hst2
  exact key ops.size hf

def onlyNormal (Q : Regs → Heap → Prop) : Post
  | .normal => Q
  | _ => fun _ _ => False
theorem CodeW_quiet1 {P : Program} {n : Nat} {mb : Tmp → Bool} {R : Post} {k : List It} {σ : Regs} {S : Heap} {id : Nat} {ops : Array Oper} (hm : P.follows .mixedOrders = true) (k0 : Nat) {x d : Tmp} {o0 : Oper} (hok : drawOk1 ops k0 = true) (hmf : moveFirst ops x d = true)
    (h0 : ops[0]? = some o0) (hop : o0.op = .move (.tmp x)) (hg : o0.guard = none)
    (h : QW P n mb R (dstsOf ops) (ops.toList.take k0) (ops.toList.drop k0) k σ S) : CodeW P n mb R (.region id ops true) k σ S := by
  have mono : ∀ (l : List Oper) (σ : Regs) (K K' : Regs → Prop), (∀ σ, K σ → K' σ) → RunQ P n (dstsOf ops) l σ S K → RunQ P n (dstsOf ops) l σ S K' := by
    intro l
    induction l with
    | nil => intro σ K K' hk h; exact hk σ h
    | cons o l ih =>
      intro σ K K' hk h
      simp only [RunQ] at h ⊢
      split at h
      · split at h
        · exact ⟨h.1, ih _ K K' hk h.2⟩
        · obtain ⟨h1, p, h2, h3⟩ := h; exact ⟨h1, p, h2, ih _ K K' hk h3⟩
      · split at h
        · exact h.elim
        · obtain ⟨h1, h2, h3⟩ := h
          refine ⟨h1, fun e => ?_, fun e => ih _ K K' hk (h3 e)⟩
          have h2' := h2 e
          split at h2'
          · exact ih _ K K' hk h2'
          · obtain ⟨p, h4, h5⟩ := h2'; exact ⟨p, h4, ih _ K K' hk h5⟩
  have hW : RunQ P n (dstsOf ops) (ops.toList.take k0) σ S (fun σ' => RunG P n mb (dstsOf ops) (ops.toList.drop k0) σ' S (onlyNormal (kont P n mb R k .normal) .normal)) :=
    mono _ _ _ _ (fun σ' hw => W_sound (.ops (dstsOf ops) (ops.toList.drop k0) :: k) σ' S hw) h
  refine AW.mono (AW_draw1 (Q := onlyNormal (kont P n mb R k .normal)) hm k0 hok hmf h0 hop hg (fun c σ S h => h) hW) ?_
  intro e σ S h
  cases e <;> first | exact h | exact h.elim

end Go.Proofs.Ytcbonfgkfiapaaa.Pv
