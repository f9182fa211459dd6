/- A range over a function: its rounds, its yield, the loop. -/
import Derived.Test.YtcbonfgkfiapaaaSlc
import Derived.RangeFuncRecord
import Derived.TacticsIn
set_option linter.unusedVariables false
set_option linter.unusedSimpArgs false
namespace Go.Proofs.Ytcbonfgkfiapaaa.Pv
open Go Go.RowKit

/-- No fence; within a round of the loop r, or in none. -/
abbrev FR (r : Option Nat) : Fence := { fn := fun _ => True, depth := none, alive := false, round := r }
def noDefer : Op → Bool
  | .defer _ => false
  | _ => true
theorem noDefer_spec {o : Op} (h : noDefer o = true) : ∀ c, o ≠ .defer c := by
  rintro c rfl
  cases h
theorem callsIn_FR {r : Option Nat} {n : Nat} {P : Program} {f : FuncId} {args : Array Value} {w : World} {R : Ending → World → Prop} (h : Calls P f args w R) : CallsIn (FR r) n P f args w R := by
  have h1 : CallsIn Fence.wide n P f args w R := callsIn_wide.2 h
  exact h1
theorem rowsIn_FR {r : Option Nat} {n : Nat} {P : Program} {row : String} {args : Array Value} {w : World} {R : Value → World → Prop} (h : Rows P row args w R) : RowsIn (FR r) n P row args w R := by
  intro c cs _
  obtain ⟨v, w', h1, h2⟩ := h c cs
  refine ⟨v, w', h1, ?_⟩
  have h3 : StepsIn (Machine.fenced P Fence.wide) P (lone (Frame.ofRow P row args .normal) (c :: cs) w) (lone (c.finish v) cs w') := stepsIn_wide.2 h2
  exact h3
theorem wp_in {r : Option Nat} {P : Program} {o : Oper} {a : Act} {w : World} {next : Act → World → Prop} {Q : Exit → Act → World → Prop} (hnd : noDefer o.op = true) (h : o.wp P a w next Q) : o.wpIn (FR r) 0 P a w next Q := by
  refine ⟨fun _ _ => trivial, ?_⟩
  rw [show (FR r).round = r from rfl, Oper.semAt_eq r a.eval o (noDefer_spec hnd)]
  unfold Oper.wp at h
  generalize (execOp a.eval o).run P w = x at h
  unfold Oper.upon at h
  split at h
  · exact h
  · exact h
  · exact h
  · exact ⟨fun e => (by cases e), callsIn_FR h⟩
  · exact ⟨fun e => (by cases e), rowsIn_FR h⟩
  · exact h
  · exact h.elim
section
variable {r : Option Nat} {P : Program} {n : Nat} {σ : Regs} {S : Heap}
def AOI (r : Option Nat) (P : Program) (n : Nat) (ops : Array Oper) (l : List Nat) (σ : Regs) (S : Heap) (Q : Post) : Prop :=
  ∀ w0 S0 w a, St n w S a σ → Ext w0 S0 w S → wpOpsIn (FR r) 0 P ops (lift n w0 S0 Q) l a w
def AWI (r : Option Nat) (P : Program) (n : Nat) (c : Code) (σ : Regs) (S : Heap) (Q : Post) : Prop :=
  ∀ w0 S0 w a, St n w S a σ → Ext w0 S0 w S → Code.wpIn (FR r) 0 P c (lift n w0 S0 Q) a w
theorem AOI_nil {ops : Array Oper} {Q : Post} (h : Q .normal σ S) : AOI r P n ops [] σ S Q := fun w0 S0 w a hs he => ⟨σ, S, hs, he, h⟩
theorem AOI_op {ops : Array Oper} {i : Nat} {rest : List Nat} {o : Oper} {Q : Post} (hnd : noDefer o.op = true) (ho : ops[i]? = some o) (hg : o.guard = none) (h : OpA P n o σ S (fun σ' S' => AOI r P n ops rest σ' S' Q)) : AOI r P n ops (i :: rest) σ S Q := by
  intro w0 S0 w a hs he
  simp only [wpOpsIn, ho]
  rw [if_pos (by simp [Region.wanted, hg])]
  exact wp_in hnd (h w0 S0 w a hs he _ _ fun a' w' σ' S' h1 h2 h3 => h3 w0 S0 w' a' h1 h2)
theorem AOI_guard {ops : Array Oper} {i : Nat} {rest : List Nat} {o og : Oper} {g d : Nat} {want b : Bool} {Q : Post} (hnd : noDefer o.op = true) (ho : ops[i]? = some o) (hg : o.guard = some (g, want)) (hog : ops[g]? = some og) (hd : og.dst = some d) (hn : d < n) (hb : gsaid want (σ d) = some b) (hdst : ∀ x, o.dst = some x → x < n)
    (hyes : b = want → OpA P n o σ S (fun σ' S' => AOI r P n ops rest σ' S' Q)) (hno : b ≠ want → AOI r P n ops rest (updO σ o.dst (.tup [])) S Q) : AOI r P n ops (i :: rest) σ S Q := by
  intro w0 S0 w a hs he
  simp only [wpOpsIn, ho]
  have hy := wanted_of hs hg hog hd hn hb
  by_cases e : b = want
  · rw [if_pos (by rw [hy]; simp [e])]
    exact wp_in hnd (hyes e w0 S0 w a hs he _ _ fun a' w' σ' S' h1 h2 h3 => h3 w0 S0 w' a' h1 h2)
  · rw [if_neg (by rw [hy]; simp [e])]
    exact ⟨fun _ _ => trivial, hno e w0 S0 w _ (hs.put hdst (rep_undef _ _)) he⟩
theorem RunG_mono {mb : Tmp → Bool} {ds : List (Option Tmp)} {K K' : Regs → Heap → Prop} : ∀ (l : List Oper) (σ : Regs) (S : Heap), (∀ σ S, K σ S → K' σ S) → RunG P n mb ds l σ S K → RunG P n mb ds l σ S K'
  | [], σ, S, hk, h => hk _ _ h
  | o :: l, σ, S, hk, h => by
    simp only [RunG] at h ⊢
    split
    · rename_i hg
      rw [hg] at h
      simp only at h
      split
      · rename_i p hp
        rw [hp] at h
        exact ⟨h.1, RunG_mono l _ S hk h.2⟩
      · rename_i hp
        rw [hp] at h
        exact OpA.mono h fun σ' S' h' => RunG_mono l σ' S' hk h'
    · rename_i g want hg
      rw [hg] at h
      simp only at h
      split
      · rename_i hb
        rw [hb] at h
        exact h
      · rename_i b hb
        rw [hb] at h
        simp only at h
        refine ⟨h.1, fun e => ?_, fun e => RunG_mono l _ S hk (h.2.2 e)⟩
        have h1 := h.2.1 e
        split
        · rename_i p hp
          rw [hp] at h1
          exact RunG_mono l _ S hk h1
        · rename_i hp
          rw [hp] at h1
          exact OpA.mono h1 fun σ' S' h' => RunG_mono l σ' S' hk h'
/-- Operations in the text's order, up to where something else is told. -/
theorem AOI_run {mb : Tmp → Bool} {ops : Array Oper} {Q : Post} {rest : List Nat} : ∀ (l : List Oper) (k : Nat) (σ : Regs) (S : Heap), (∀ i o, l[i]? = some o → ops[k + i]? = some o) → (∀ o ∈ l, noDefer o.op = true) → RunG P n mb (dstsOf ops) l σ S (fun σ' S' => AOI r P n ops rest σ' S' Q) → AOI r P n ops (List.range' k l.length ++ rest) σ S Q
  | [], k, σ, S, _, _, h => by
    simp only [RunG] at h
    simpa using h
  | o :: l, k, σ, S, hl, hnd, h => by
    have ho : ops[k]? = some o := by simpa using hl 0 o rfl
    have hl' : ∀ i o', l[i]? = some o' → ops[k + 1 + i]? = some o' := fun i o' hi => by
      have := hl (i + 1) o' (by simpa using hi)
      rwa [show k + (i + 1) = k + 1 + i by omega] at this
    have hnd0 := hnd o (List.mem_cons_self)
    have hnd' : ∀ o ∈ l, noDefer o.op = true := fun o' h' => hnd o' (List.mem_cons_of_mem _ h')
    simp only [List.length_cons, List.range'_succ, List.cons_append]
    simp only [RunG] at h
    split at h
    · rename_i hg
      split at h
      · rename_i p hp
        exact AOI_op hnd0 ho hg (OpA_pureS hp (okDst_spec h.1) (AOI_run l (k + 1) _ S hl' hnd' h.2))
      · exact AOI_op hnd0 ho hg (h.mono fun σ' S' hk => AOI_run l (k + 1) σ' S' hl' hnd' hk)
    · rename_i g want hg
      split at h
      · exact h.elim
      · rename_i b hb
        obtain ⟨og, d, h1, h2, h3, h4⟩ := guardVal_spec hb
        obtain ⟨hd, hy, hn⟩ := h
        refine AOI_guard hnd0 ho hg h1 h2 h3 h4 (okDst_spec hd) (fun e => ?_) (fun e => AOI_run l (k + 1) _ S hl' hnd' (hn (by cases b <;> cases want <;> simp_all)))
        have hy' := hy e
        split at hy'
        · rename_i p hp
          exact OpA_pureS hp (okDst_spec hd) (AOI_run l (k + 1) _ S hl' hnd' hy')
        · exact hy'.mono fun σ' S' hk => AOI_run l (k + 1) σ' S' hl' hnd' hk
theorem AWI_region {id : Nat} {ops : Array Oper} {Q : Post} (h : AOI r P n ops (List.range ops.size) σ S Q) : AWI r P n (.region id ops false) σ S Q :=
  fun w0 S0 w a hs he => wpIn_region (h w0 S0 w a hs he)
/-- A plain region, walked as ever. -/
theorem AWI_reg {mb : Tmp → Bool} {id : Nat} {ops : Array Oper} {Q : Post} (hnd : (ops.toList.all fun o => noDefer o.op) = true) (h : RunG P n mb (dstsOf ops) ops.toList σ S (Q .normal)) : AWI r P n (.region id ops false) σ S Q := by
  refine AWI_region ?_
  have := AOI_run (r := r) (P := P) (n := n) (mb := mb) (ops := ops) (Q := Q) (rest := []) ops.toList 0 σ S (fun i o hi => by simpa using hi) (List.all_eq_true.1 hnd) ?_
  · rw [List.range_eq_range']
    simpa using this
  · exact RunG_mono ops.toList σ S (fun σ' S' hk => AOI_nil hk) h
theorem AW_ofI {c : Code} {Q : Post} (h : AWI none P n c σ S Q) : AW P n c σ S Q := fun w0 S0 w a hs he => by
  have h1 := h w0 S0 w a hs he
  have h2 : c.wpIn Fence.wide 0 P (lift n w0 S0 Q) a w := h1
  exact wpIn_wide.1 h2
theorem AWI_of {c : Code} {Q : Post} (h : AW P n c σ S Q) : AWI none P n c σ S Q := fun w0 S0 w a hs he => by
  have h1 : c.wpIn Fence.wide 0 P (lift n w0 S0 Q) a w := wpIn_wide.2 (h w0 S0 w a hs he)
  exact h1
/-- A call of the loop's yield with a text, in a state that S tells: it hands back true, and leaves what Po tells. -/
def Yields (P : Program) (lp : Nat) (m : List UInt8) (S : Heap) (Po : Heap → Prop) : Prop :=
  ∀ w, (∀ b o, S b = some o → Holds w S.im b o) → ∃ (f : FuncId) (tmps : Array Value) (assign body : Code), (Instr.yield lp #[.string ⟨m.toArray⟩]).run P w = .ok (.round lp f tmps assign body) w ∧
    RoundIn (FR none) 0 P lp f tmps assign body w (fun e w' => e = .returned (.bool true) ∧ ∃ S', Po S' ∧ (∀ b o, S' b = some o → Holds w' S'.im b o) ∧ Ext w S w' S')
theorem AOI_yield {ops : Array Oper} {i : Nat} {rest : List Nat} {o : Oper} {x y : Operand} {ts : Array TypeId} {lp : Nat} {m : List UInt8} {Po : Heap → Prop} {Q : Post} {d : Option Tmp} (ho : ops[i]? = some o) (hdst : o.dst = d)
    (hg : o.guard = none ∨ ∃ g want, o.guard = some (g, want) ∧ guardVal n (dstsOf ops) g want σ = some want) (hop : o.op = .call { callee := .value x, args := #[y], argTypes := ts }) (hx : ev σ x = .fn (.yield lp) [] []) (hy : ev σ y = .str m) (hd : okDst n o.dst = true)
    (hY : Yields P lp m S Po) (hK : ∀ S', Po S' → AOI none P n ops rest (updO σ d (.bool true)) S' Q) : AOI none P n ops (i :: rest) σ S Q := by
  subst hdst
  intro w0 S0 w a hs he
  simp only [wpOpsIn, ho]
  have hw : Region.wanted o (yielded ops a.tmps) = true := by
    rcases hg with hg | ⟨g, want, hg, hb⟩
    · simp [Region.wanted, hg]
    · obtain ⟨og, d, h1, h2, h3, h4⟩ := guardVal_spec hb
      rw [wanted_of hs hg h1 h2 h3 h4]; simp
  rw [if_pos hw]
  have r1 := rep_ev hs y
  rw [hy] at r1
  simp only [Rep] at r1
  have hfr := rep_ev hs x
  rw [hx] at hfr
  simp only [Rep] at hfr
  obtain ⟨fa, ca, e0, h1, h2⟩ := hfr
  have e1 : fa = #[] := by have := repVals_nil.1 h1; simpa using this
  have e2 : ca = #[] := by have := repVals_nil.1 h2; simpa using this
  subst e1 e2
  obtain ⟨f, tmps, assign, body, hy1, hy2⟩ := hY w hs.heap
  have hrun : (execOp a.eval o).run P w = .ok (.round lp f tmps assign body) w := by
    simp only [execOp, hop, resolve, Sem.run_bind, e0, Deferred.ofValue, Sem.run_pure, Result.andThen_ok, invoke, List.map_toArray, List.map_cons, List.map_nil, r1]
    simpa using hy1
  refine ⟨fun _ _ => trivial, ?_⟩
  rw [show (FR none).round = none from rfl, Oper.semAt_none, hrun, Oper.uponIn_round]
  refine ⟨fun e => (by cases e), hy2.mono ?_⟩
  rintro e w' ⟨rfl, S', p1, p2, p3⟩
  exact hK S' p1 w0 S0 w' _ ((hs.ext p3 p2).put (okDst_spec hd) (by simp only [Rep])) (he.trans p3)
def onlyN (K : Regs → Heap → Prop) : Post
  | .normal, σ, S => K σ S
  | _, _, _ => False
/-- What yield does, out of the walks of what is assigned and of the loop's body. -/
theorem yields_of {lp pt : Nat} {r0 : Loop} {m : List UInt8} {Po : Heap → Prop} {σr : Regs} (hS : S lp = some (.raw (.loop r0))) (hst : r0.state = .ready) (hpe : r0.pending = none) (hpar : r0.params = #[pt]) (hsz : r0.tmps.size = n) (hpt : pt < n)
    (hreg : ∀ w im t, t ≠ pt → Rep w im (σr t) (r0.tmps.getD t undef))
    (hA : AWI (some lp) P n r0.assign (upd σr pt (.str m)) S (onlyN fun σ1 S1 => S1 lp = some (.raw (.loop r0)) ∧
      AWI (some lp) P n r0.body σ1 (S1.set lp (.raw (.loop { r0 with state := .busy }))) (onlyN fun σ2 S2 => S2 lp = some (.raw (.loop { r0 with state := .busy })) ∧ Po (S2.set lp (.raw (.loop r0)))))) :
    Yields P lp m S Po := by
  intro w hh
  have hl : w.heap[lp]? = some (.loop r0) := hh lp _ hS
  have hy := run_yield (P := P) (args := #[.string ⟨m.toArray⟩]) hl (by rw [hpar]; rfl)
  refine ⟨_, _, _, _, hy, ?_⟩
  have htm : (r0.params.zip #[Value.string ⟨m.toArray⟩]).foldl (fun tmps (t, a) => tmps.setIfInBounds t a) r0.tmps = r0.tmps.setIfInBounds pt (.string ⟨m.toArray⟩) := by rw [hpar]; simp
  rw [htm]
  have hst0 : St n w S { tmps := r0.tmps.setIfInBounds pt (.string ⟨m.toArray⟩), defers := [] } (upd σr pt (.str m)) := by
    refine ⟨by simpa using hsz, rfl, fun t => ?_, hh⟩
    show Rep w S.im (upd σr pt (.str m) t) ((r0.tmps.setIfInBounds pt (.string ⟨m.toArray⟩)).getD t undef)
    rw [getD_set _ _ _ _ (by rw [hsz]; exact hpt)]
    unfold upd
    by_cases e : t = pt
    · rw [if_pos e, if_pos e]; simp only [Rep]
    · rw [if_neg e, if_neg e]; exact hreg w S.im t e
  refine roundIn_of_wpIn (F := FR none) trivial ?_
  have h1 := hA w S w _ hst0 (Ext.refl w S)
  refine wpIn_mono (F := FR (some lp)) h1 ?_
  rintro e a1 w1 ⟨σ1, S1, k1, k2, k3⟩
  cases e with
  | normal =>
    obtain ⟨hl1, hB⟩ := k3
    have hw1 : w1.heap[lp]? = some (.loop r0) := k1.heap lp _ hl1
    refine ⟨_, run_beginRound hw1 hst, ?_⟩
    obtain ⟨g1, g2⟩ := set_block k1 hl1 (.loop { r0 with state := .busy }) (.raw (.loop { r0 with state := .busy })) (fun w' im' _ hb => hb)
    have h2 := hB w S _ _ g1 (k2.trans g2)
    refine wpIn_mono (F := FR (some lp)) h2 ?_
    rintro e a2 w2 ⟨σ2, S2, j1, j2, j3⟩
    cases e with
    | normal =>
      obtain ⟨hl2, hP⟩ := j3
      have hw2 : w2.heap[lp]? = some (.loop { r0 with state := .busy }) := j1.heap lp _ hl2
      have hend := run_endRound (P := P) none hw2
      refine ⟨_, _, hend, rfl, _, hP, ?_, ?_⟩
      · obtain ⟨g1, g2⟩ := set_block j1 hl2 (.loop r0) (.raw (.loop r0)) (fun w' im' _ hb => hb)
        have hr0 : ({ ({ r0 with state := .busy } : Loop) with state := if (none : Option Code).isNone then .ready else .done, pending := none } : Loop) = r0 := by
          cases r0; simp_all
        rw [hr0]
        exact g1.heap
      · obtain ⟨g1, g2⟩ := set_block j1 hl2 (.loop r0) (.raw (.loop r0)) (fun w' im' _ hb => hb)
        have hr0 : ({ ({ r0 with state := .busy } : Loop) with state := if (none : Option Code).isNone then .ready else .done, pending := none } : Loop) = r0 := by
          cases r0; simp_all
        rw [hr0]
        exact j2.trans g2
    | _ => exact j3.elim
  | _ => exact k3.elim
/-! The function that holds such a loop: behind it a mark stands among its deferred calls. -/
def plainOp : Op → Bool
  | .load _ _ => true
  | .assign _ => true
  | .move _ => true
  | _ => false
theorem plain_noDefer {P : Program} {ρ : Operand → Value} {o : Oper} (h : plainOp o.op = true) {w w' : World} {d : Deferred} : (execOp ρ o).run P w ≠ .ok (.defer d) w' := by
  intro he
  unfold plainOp at h
  unfold execOp at he
  split at h
  · rename_i t x ho
    rw [ho] at he
    simp only [Sem.run_bind] at he
    revert he
    generalize (Instr.loadAt t (ρ x)).run P w = r
    intro he
    cases r <;> simp [Result.andThen, Sem.run_pure] at he
  · rename_i x ho
    rw [ho] at he
    simp [Sem.run_pure] at he
  · rename_i x ho
    rw [ho] at he
    simp [Sem.run_pure] at he
  · cases h
theorem wpOpsIn_defers {F : Fence} {m : Nat} {ops : Array Oper} {Q : Exit → Act → World → Prop} (hF : F.round = none) (ds : List Deferred) (hnd : ∀ (i : Nat) (o : Oper), ops[i]? = some o → plainOp o.op = true) : ∀ (l : List Nat) (a : Act) (w : World), wpOpsIn F m P ops (fun e b w => Q e { b with defers := ds } w) l a w → wpOpsIn F m P ops Q l { a with defers := ds } w
  | [], a, w, h => h
  | i :: l, a, w, h => by
    simp only [wpOpsIn] at h ⊢
    cases ho : ops[i]? with
    | none =>
      rw [ho] at h
      exact wpOpsIn_defers hF ds hnd l a w h
    | some o =>
      rw [ho] at h
      simp only at h ⊢
      have hput : ∀ v, ({ a.put o.dst v with defers := ds } : Act) = ({ a with defers := ds } : Act).put o.dst v := fun v => by
        unfold Act.put; cases o.dst <;> rfl
      have hev : ({ a with defers := ds } : Act).eval = a.eval := rfl
      split
      · rename_i hw
        rw [if_pos hw] at h
        obtain ⟨h1, h2⟩ := h
        refine ⟨h1, ?_⟩
        rw [hev]
        rw [hF, Oper.semAt_none] at h2 ⊢
        have hdf : ∀ d w', (execOp a.eval o).run P w = .ok (.defer d) w' → False := fun d w' he => plain_noDefer (hnd i o ho) he
        generalize hx : (execOp a.eval o).run P w = x at h2 hdf
        unfold Oper.uponIn at h2 ⊢
        split at h2
        · rw [← hput]; exact wpOpsIn_defers hF ds hnd l _ _ h2
        · rw [← hput]; exact wpOpsIn_defers hF ds hnd l _ _ h2
        · exact (hdf _ _ rfl).elim
        · refine ⟨h2.1, CallsIn.mono h2.2 ?_⟩
          rintro e w' h3
          split at h3
          · rw [← hput]; exact wpOpsIn_defers hF ds hnd l _ _ h3
          · exact h3
          · obtain ⟨b, w2, h4⟩ := h3; exact ⟨_, w2, h4⟩
        · refine ⟨h2.1, RowsIn.mono h2.2 ?_⟩
          intro v w' h3
          rw [← hput]; exact wpOpsIn_defers hF ds hnd l _ _ h3
        · refine ⟨h2.1, RoundIn.mono h2.2 ?_⟩
          rintro e w' h3
          split at h3
          · rw [← hput]; exact wpOpsIn_defers hF ds hnd l _ _ h3
          · exact h3
          · obtain ⟨b, w2, h4⟩ := h3; exact ⟨_, w2, h4⟩
        · exact h2
        · exact h2.elim
      · rename_i hw
        rw [if_neg hw] at h
        refine ⟨h.1, ?_⟩
        rw [← hput]
        exact wpOpsIn_defers hF ds hnd l _ _ h.2
theorem wpOpsIn_mono {F : Fence} {m : Nat} {ops : Array Oper} {Q Q' : Exit → Act → World → Prop} (hq : ∀ e a w, Q e a w → Q' e a w) : ∀ (l : List Nat) (a : Act) (w : World), wpOpsIn F m P ops Q l a w → wpOpsIn F m P ops Q' l a w
  | [], a, w, h => hq _ _ _ h
  | i :: l, a, w, h => by
    simp only [wpOpsIn] at h ⊢
    cases ho : ops[i]? with
    | none =>
      rw [ho] at h
      exact wpOpsIn_mono hq l a w h
    | some o =>
      rw [ho] at h
      simp only at h ⊢
      split
      · rename_i hw
        rw [if_pos hw] at h
        obtain ⟨h1, h2⟩ := h
        refine ⟨h1, ?_⟩
        generalize (o.semAt F.round a.eval).run P w = x at h2
        unfold Oper.uponIn at h2 ⊢
        split at h2
        · exact wpOpsIn_mono hq l _ _ h2
        · exact wpOpsIn_mono hq l _ _ h2
        · exact wpOpsIn_mono hq l _ _ h2
        · refine ⟨h2.1, CallsIn.mono h2.2 ?_⟩
          rintro e w' h3
          split at h3
          · exact wpOpsIn_mono hq l _ _ h3
          · exact hq _ _ _ h3
          · obtain ⟨b, w2, h4⟩ := h3; exact ⟨_, w2, hq _ _ _ h4⟩
        · refine ⟨h2.1, RowsIn.mono h2.2 ?_⟩
          intro v w' h3
          exact wpOpsIn_mono hq l _ _ h3
        · refine ⟨h2.1, RoundIn.mono h2.2 ?_⟩
          rintro e w' h3
          split at h3
          · exact wpOpsIn_mono hq l _ _ h3
          · exact hq _ _ _ h3
          · obtain ⟨b, w2, h4⟩ := h3; exact ⟨_, w2, hq _ _ _ h4⟩
        · exact hq _ _ _ h2
        · exact h2.elim
      · rename_i hw
        rw [if_neg hw] at h
        exact ⟨h.1, wpOpsIn_mono hq l _ _ h.2⟩
/-- From a state that σ and S tell, c ends as Q says; ds: the activation's deferred calls. -/
def AD (P : Program) (n : Nat) (w0 : World) (S0 : Heap) (Q : Exit → Act → World → Prop) (ds : List Deferred) (c : Code) (σ : Regs) (S : Heap) : Prop :=
  ∀ w a, St n w S a σ → Ext w0 S0 w S → c.wpIn (FR none) 0 P Q { a with defers := ds } w
section
variable {w0 : World} {S0 : Heap} {Q : Exit → Act → World → Prop}
theorem AD_pre {x y : Code} {K : Regs → Heap → Prop} (h : AW P n x σ S (onlyN K)) (hy : ∀ σ' S', K σ' S' → AD P n w0 S0 Q [] y σ' S') : AD P n w0 S0 Q [] (.seq x y) σ S := by
  intro w a hs he
  have ha : ({ a with defers := [] } : Act) = a := by have := hs.defers; cases a; simp_all
  rw [ha]
  refine wpIn_seq (wpIn_mono (AWI_of h w0 S0 w a hs he) ?_)
  rintro e a' w' ⟨σ', S', k1, k2, k3⟩
  cases e with
  | normal =>
    have ha' : ({ a' with defers := [] } : Act) = a' := by have := k1.defers; cases a'; simp_all
    have := hy σ' S' k3 w' a' k1 k2
    rw [ha'] at this
    exact this
  | _ => exact k3.elim
theorem AD_ops {ds : List Deferred} {mb : Tmp → Bool} {id : Nat} {ops : Array Oper} {y : Code} (hpl : (ops.toList.all fun o => plainOp o.op) = true) (h : RunG P n mb (dstsOf ops) ops.toList σ S (fun σ' S' => AD P n w0 S0 Q ds y σ' S')) : AD P n w0 S0 Q ds (.seq (.region id ops false) y) σ S := by
  intro w a hs he
  have hp : ∀ (i : Nat) (o : Oper), ops[i]? = some o → plainOp o.op = true := fun i o hi => List.all_eq_true.1 hpl o (List.mem_of_getElem? (i := i) (by simpa using hi))
  refine wpIn_seq (wpIn_region (wpOpsIn_defers rfl ds hp _ _ _ ?_))
  have h1 := AOI_run (r := none) (P := P) (n := n) (mb := mb) (ops := ops) (Q := onlyN fun σ' S' => AD P n w0 S0 Q ds y σ' S') (rest := []) ops.toList 0 σ S (fun i o hi => by simpa using hi) (fun o ho => by
    have := List.all_eq_true.1 hpl o ho
    unfold plainOp at this
    unfold noDefer
    cases hop : o.op <;> simp_all) (RunG_mono ops.toList σ S (fun σ' S' hk => AOI_nil hk) h) w0 S0 w a hs he
  rw [List.append_nil, Array.length_toList, ← List.range_eq_range'] at h1
  refine wpOpsIn_mono ?_ _ _ _ h1
  rintro e a' w' ⟨σ', S', k1, k2, k3⟩
  cases e with
  | normal => exact k3 w' a' k1 k2
  | _ => exact k3.elim
theorem AD_seq {c y : Code} {ds : List Deferred} (h : AD P n w0 S0 (Exit.then (y.wpIn (FR none) 0 P Q) Q) ds c σ S) : AD P n w0 S0 Q ds (.seq c y) σ S := fun w a hs he => wpIn_seq (h w a hs he)
/-- The loop: the function is called with the loop's yield, the record and the block for deferred calls being new blocks of the call's own. -/
theorem AD_range {id pt : Nat} {g : Operand} {assign body y : Code} {f : FuncId} {fs cs : List PV} (hg : ev σ g = .fn (.func f) fs cs) (hf : callable P f = true)
    (hc : ∀ (l D : Nat) (r0 : Loop), S D = none → S l = none → D ≠ l → r0.state = .ready → r0.pending = none → r0.params = #[pt] → r0.tmps.size = n → r0.assign = assign → r0.body = body →
      (∀ t b off, σ t = .mp b off → r0.tmps.getD t undef = .pointer (some ⟨b, off, none⟩)) →
      CallsA P f (fs ++ [.fn (.yield l) [] []] ++ cs) ((S.set D (.raw (.deferred (some [])))).set l (.raw (.loop r0))) (fun _ S3 => S3 l = some (.raw (.loop r0)) ∧
        AD P n w0 S0 Q [{ target := .collected D, args := #[] }] y σ (S3.set l (.raw (.loop { r0 with state := .exhausted }))))) :
    AD P n w0 S0 (Exit.then (y.wpIn (FR none) 0 P Q) Q) [] (.block id (.rangeFunc g #[pt] assign body)) σ S := by
  intro w a hs he
  refine wpIn_block (wpIn_rangeFunc fun fn' _ => ?_)
  obtain ⟨hD, st1, ex1⟩ := new_block hs (.deferred (some [])) (.raw (.deferred (some []))) (alloc_block w _)
  obtain ⟨hl, st2, ex2⟩ := new_block st1 (.loop { state := .ready, pending := none, fn := fn', tmps := a.tmps, params := #[pt], assign, body, defers := w.heap.size }) (.raw (.loop { state := .ready, pending := none, fn := fn', tmps := a.tmps, params := #[pt], assign, body, defers := w.heap.size })) (alloc_block (w.alloc _) _)
  have hsz : (w.alloc (.deferred (some []))).heap.size = w.heap.size + 1 := World.size_alloc ..
  rw [hsz] at hl st2 ex2
  have hSl : S (w.heap.size + 1) = none := not_im_new hs.heap (by omega)
  have e1 := run_enterLoop_outer (P := P) (w := w) fn' a.tmps #[pt] assign body
  generalize hw1 : (w.alloc (.deferred (some []))).alloc (.loop { state := .ready, pending := none, fn := fn', tmps := a.tmps, params := #[pt], assign, body, defers := w.heap.size }) = w1 at *
  have hr := rep_ev st2 g
  rw [hg] at hr
  simp only [Rep] at hr
  obtain ⟨fa, ca, e, h1, h2⟩ := hr
  have hres : (resolve ({ a with defers := [] } : Act).eval (rangeCall g (w.heap.size + 1)) 0).run P w1 = .ok { target := .fn (.func f) ca, args := fa ++ #[.func (.yield (w.heap.size + 1)) #[] #[]] } w1 := by
    have e' : ({ a with defers := [] } : Act).eval g = .func (.func f) fa ca := e
    have e'' : ({ a with defers := [] } : Act).eval (.const (.func (.yield (w.heap.size + 1)) #[] #[])) = .func (.yield (w.heap.size + 1)) #[] #[] := rfl
    simp only [resolve, rangeCall, e', Deferred.ofValue, List.map_toArray, List.map_cons, List.map_nil, e'', Sem.run_pure]
  have hinv : (invoke (.fn (.func f) ca) (fa ++ #[.func (.yield (w.heap.size + 1)) #[] #[]])).run P w1 = .ok (.enter f (fa ++ #[.func (.yield (w.heap.size + 1)) #[] #[]] ++ ca)) w1 := by
    simp only [invoke]
    exact run_callFunc hf _ w1
  refine ⟨w.heap.size + 1, _, w1, _, w1, f, _, w1, e1, hres, fun _ _ => trivial, hinv, fun e => (by cases e), ?_⟩
  refine callsIn_FR ?_
  have hcall := hc (w.heap.size + 1) w.heap.size { state := .ready, pending := none, fn := fn', tmps := a.tmps, params := #[pt], assign, body, defers := w.heap.size } hD hSl (by omega) rfl rfl rfl hs.size rfl rfl (fun t b off ht => by
    have := hs.regs t
    rw [ht] at this
    simpa only [Rep] using this)
  refine (hcall w1 _ ?_ st2.heap).mono ?_
  · have hy1 : RepVals w1 ((S.set w.heap.size (.raw (.deferred (some [])))).set (w.heap.size + 1) (.raw (.loop { state := .ready, pending := none, fn := fn', tmps := a.tmps, params := #[pt], assign, body, defers := w.heap.size }))).im [.fn (.yield (w.heap.size + 1)) [] []] [Value.func (.yield (w.heap.size + 1)) #[] #[]] := by
      refine repVals_cons.2 ⟨?_, repVals_nil.2 rfl⟩
      simp only [Rep]
      exact ⟨#[], #[], rfl, by simp [RepVals], by simp [RepVals]⟩
    have := repVals_append (repVals_append h1 hy1) h2
    simpa using this
  · rintro e w3 ⟨v, p, S3, rfl, r1, hh, hx, h3l, hAD⟩
    have hw3 : w3.heap[w.heap.size + 1]? = some (.loop _) := hh _ _ h3l
    refine ⟨none, _, run_endLoop hw3 (by simp), ?_⟩
    have st3 : St n w3 S3 a σ := st2.ext hx hh
    obtain ⟨g1, g2⟩ := set_block st3 h3l (.loop { state := .exhausted, pending := none, fn := fn', tmps := a.tmps, params := #[pt], assign, body, defers := w.heap.size }) (.raw (.loop { state := .exhausted, pending := none, fn := fn', tmps := a.tmps, params := #[pt], assign, body, defers := w.heap.size })) (fun w' im' _ hb => hb)
    exact hAD _ a g1 ((he.trans (ex1.trans (ex2.trans hx))).trans g2)
/-- Such a function's end. -/
theorem AD_ret {fn : Func} {D : Nat} {Po : PV → Heap → Prop} {p : PV} (hD : S D = some (.raw (.deferred (some [])))) (hp : resA P (S.set D (.raw (.deferred none))) σ fn.results = some p) (hPo : Po p (S.set D (.raw (.deferred none)))) :
    AD P n w0 S0 (bodyPostM (FR none) 0 P fn fun e w' => ∃ v p S', e = .returned v ∧ Rep w' S'.im p v ∧ (∀ b o, S' b = some o → Holds w' S'.im b o) ∧ Ext w0 S0 w' S' ∧ Po p S') [{ target := .collected D, args := #[] }] .ret σ S := by
  intro w a hs he
  refine wpIn_ret ?_
  have hw : w.heap[D]? = some (.deferred (some [])) := hs.heap D _ hD
  obtain ⟨g1, g2⟩ := set_block hs hD (.deferred none) (.raw (.deferred none)) (fun w' im' _ hb => hb)
  obtain ⟨v, r1, r2⟩ := run_results g1 fn hp
  refine ⟨by simp, Or.inl ⟨D, _, rfl, run_takeDeferred hw, v, r1, v, p, _, rfl, r2, g1.heap, he.trans g2, hPo⟩⟩
theorem CallsA_ranged {f : FuncId} {fn : Func} {c : Code} {ps : List PV} {Po : PV → Heap → Prop} (hf : P.funcs[f]? = some fn) (hb : fn.body = some c) (hn : ps.length ≤ fn.ntmps)
    (h : ∀ w0, AD P fn.ntmps w0 S (bodyPostM (FR none) 0 P fn fun e w' => ∃ v p S', e = .returned v ∧ Rep w' S'.im p v ∧ (∀ b o, S' b = some o → Holds w' S'.im b o) ∧ Ext w0 S w' S' ∧ Po p S') [] c (sig0 ps) S) : CallsA P f ps S Po := by
  intro w args hr hS
  have hl : args.size = ps.length := by simpa using repVals_length hr
  have hst : St fn.ntmps w S { tmps := args ++ Array.replicate (fn.ntmps - args.size) undef, defers := [] } (sig0 ps) := by
    refine ⟨by simp; omega, rfl, fun t => ?_, hS⟩
    unfold sig0
    cases ht : ps[t]? with
    | none => simp only [Option.getD_none, Rep]
    | some p =>
      obtain ⟨v, h1, h2⟩ := repVals_get hr ht
      simp only [Option.getD_some]
      have hlt : t < args.size := by rw [hl]; exact (List.getElem?_eq_some_iff.1 ht).1
      have : (args ++ Array.replicate (fn.ntmps - args.size) undef).getD t undef = v := by
        simp only [Array.getD_eq_getD_getElem?]
        rw [Array.getElem?_append_left hlt]
        simp at h1
        simp [h1]
      rw [this]; exact h2
  have h1 := h w w _ hst (Ext.refl w S)
  have h2 := callsIn_of_wp_marks (F := FR none) hf hb trivial h1
  have h3 : CallsIn Fence.wide 0 P f args w _ := h2
  exact callsIn_wide.1 h3
end
end
end Go.Proofs.Ytcbonfgkfiapaaa.Pv
