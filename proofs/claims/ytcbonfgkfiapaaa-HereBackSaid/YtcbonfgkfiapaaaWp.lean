/- Rules for code over abstract states: sequences, tests, loops, calls; what is proved by them holds of the machine. -/
import Derived.Test.YtcbonfgkfiapaaaOps5
set_option linter.unusedVariables false
set_option linter.unusedSimpArgs false
namespace Go.Proofs.Ytcbonfgkfiapaaa.Pv
open Go Go.RowKit

abbrev Regs := Nat → PV
abbrev Post := Exit → Regs → Heap → Prop

def lift (n : Nat) (w0 : World) (S0 : Heap) (Q : Post) : Exit → Act → World → Prop :=
  fun e a w => ∃ σ S, St n w S a σ ∧ Ext w0 S0 w S ∧ Q e σ S

/-- Running c out of any state that σ and S tell ends as Q says. -/
def AW (P : Program) (n : Nat) (c : Code) (σ : Regs) (S : Heap) (Q : Post) : Prop :=
  ∀ w0 S0 w a, St n w S a σ → Ext w0 S0 w S → Code.wp P c (lift n w0 S0 Q) a w

def thenA (next : Regs → Heap → Prop) (Q : Post) : Post
  | .normal, σ, S => next σ S
  | e, σ, S => Q e σ S
def inBlk (id : Nat) (Q : Post) : Post
  | .exit id', σ, S => if id' = id then Q .normal σ S else Q (.exit id') σ S
  | e, σ, S => Q e σ S

section
variable {P : Program} {n : Nat} {σ : Regs} {S : Heap} {Q : Post}

theorem AW.mono {c : Code} {Q' : Post} (h : AW P n c σ S Q) (hq : ∀ e σ S, Q e σ S → Q' e σ S) : AW P n c σ S Q' :=
  fun w0 S0 w a hs he => wp_mono (h w0 S0 w a hs he) fun e a' w' ⟨σ', S', h1, h2, h3⟩ => ⟨σ', S', h1, h2, hq _ _ _ h3⟩
theorem AW_skip (h : Q .normal σ S) : AW P n .skip σ S Q := fun w0 S0 w a hs he => wp_skip ⟨σ, S, hs, he, h⟩
theorem AW_exit {id : Nat} (h : Q (.exit id) σ S) : AW P n (.exit id) σ S Q := fun w0 S0 w a hs he => wp_exit ⟨σ, S, hs, he, h⟩
theorem AW_ret (h : Q .ret σ S) : AW P n .ret σ S Q := fun w0 S0 w a hs he => wp_ret ⟨σ, S, hs, he, h⟩
theorem AW_seq {x y : Code} (h : AW P n x σ S (thenA (fun σ' S' => AW P n y σ' S' Q) Q)) : AW P n (.seq x y) σ S Q := by
  intro w0 S0 w a hs he
  refine wp_seq (wp_mono (h w0 S0 w a hs he) ?_)
  rintro e a' w' ⟨σ', S', h1, h2, h3⟩
  cases e with
  | normal => exact h3 w0 S0 w' a' h1 h2
  | exit id => exact ⟨σ', S', h1, h2, h3⟩
  | goto l => exact ⟨σ', S', h1, h2, h3⟩
  | ret => exact ⟨σ', S', h1, h2, h3⟩
  | panic ch => exact ⟨σ', S', h1, h2, h3⟩
  | outgrown => exact ⟨σ', S', h1, h2, h3⟩
theorem AW_cond {c : Operand} {x y : Code} {t : Bool} (hc : ev σ c = .bool t) (ht : t = true → AW P n x σ S Q) (hf : t = false → AW P n y σ S Q) : AW P n (.cond c x y) σ S Q := by
  intro w0 S0 w a hs he
  have hr := rep_ev hs c
  rw [hc] at hr
  simp only [Rep] at hr
  refine wp_cond_split hr (fun e => ht e w0 S0 w a hs he) (fun e => hf e w0 S0 w a hs he)
theorem AW_true {c : Operand} {x y : Code} (hc : ev σ c = .bool true) (h : AW P n x σ S Q) : AW P n (.cond c x y) σ S Q := AW_cond hc (fun _ => h) (fun e => by cases e)
theorem AW_false {c : Operand} {x y : Code} (hc : ev σ c = .bool false) (h : AW P n y σ S Q) : AW P n (.cond c x y) σ S Q := AW_cond hc (fun e => by cases e) (fun _ => h)
theorem AW_block {id : Nat} {c : Code} (h : AW P n c σ S (inBlk id Q)) : AW P n (.block id c) σ S Q := by
  intro w0 S0 w a hs he
  refine wp_block (wp_mono (h w0 S0 w a hs he) ?_)
  rintro e a' w' ⟨σ', S', h1, h2, h3⟩
  cases e with
  | normal => exact ⟨σ', S', h1, h2, h3⟩
  | exit id' =>
    simp only [inBlk] at h3
    simp only [Exit.inBlock]
    by_cases hid : id' = id
    · rw [if_pos hid] at h3 ⊢; exact ⟨σ', S', h1, h2, h3⟩
    · rw [if_neg hid] at h3 ⊢; exact ⟨σ', S', h1, h2, h3⟩
  | goto l => exact ⟨σ', S', h1, h2, h3⟩
  | ret => exact ⟨σ', S', h1, h2, h3⟩
  | panic ch => exact ⟨σ', S', h1, h2, h3⟩
  | outgrown => exact ⟨σ', S', h1, h2, h3⟩
/-- A loop: I m tells the state at a round's head with m rounds, at most, to go. -/
theorem AW_loop {c : Code} (I : Nat → Regs → Heap → Prop) (m : Nat) (h0 : I m σ S) (round : ∀ m σ S, I m σ S → AW P n c σ S (thenA (fun σ' S' => ∃ m', m' < m ∧ I m' σ' S') Q)) : AW P n (.loop c) σ S Q := by
  intro w0 S0 w a hs he b k cs
  have key : ∀ m σ S a w, I m σ S → St n w S a σ → Ext w0 S0 w S → ∃ e a' w', lift n w0 S0 Q e a' w' ∧ Arrives P (lone (b.at a (.code c :: .inLoop c :: k)) cs w) b k cs e a' w' := by
    intro m
    induction m using Nat.strongRecOn with
    | _ m ih =>
      intro σ S a w hI hs he
      obtain ⟨e, a1, w1, ⟨σ1, S1, h1, h2, h3⟩, harr⟩ := round m σ S hI w0 S0 w a hs he b (.inLoop c :: k) cs
      cases e with
      | normal =>
        obtain ⟨m', hlt, hI'⟩ := h3
        obtain ⟨e2, a2, w2, hq2, harr2⟩ := ih m' hlt σ1 S1 a1 w1 hI' h1 h2
        exact ⟨e2, a2, w2, hq2, .of_steps (Steps.trans harr (.one step_inLoop)) harr2⟩
      | exit id => exact ⟨_, a1, w1, ⟨σ1, S1, h1, h2, h3⟩, .pass (x := .inLoop c) rfl (fun _ _ => .inl (by simp)) harr⟩
      | goto l => exact ⟨_, a1, w1, ⟨σ1, S1, h1, h2, h3⟩, .pass (x := .inLoop c) rfl (fun _ _ => .inl (by simp)) harr⟩
      | ret => exact ⟨_, a1, w1, ⟨σ1, S1, h1, h2, h3⟩, .pass (x := .inLoop c) rfl (fun _ _ => .inl (by simp)) harr⟩
      | panic ch => exact ⟨_, a1, w1, ⟨σ1, S1, h1, h2, h3⟩, .pass (x := .inLoop c) rfl (fun _ _ => .inl (by simp)) harr⟩
      | outgrown => exact ⟨_, a1, w1, ⟨σ1, S1, h1, h2, h3⟩, .pass (x := .inLoop c) rfl (fun _ _ => .inl (by simp)) harr⟩
  obtain ⟨e, a', w', hq, harr⟩ := key m σ S a w h0 hs he
  exact ⟨e, a', w', hq, .of_steps (.one step_loop) harr⟩

/-- The state may be told otherwise, if what it was told as says so. -/
def Weak (n : Nat) (σ : Regs) (S : Heap) (σ' : Regs) (S' : Heap) : Prop := ∀ w a, St n w S a σ → St n w S' a σ' ∧ Ext w S w S'
theorem AW_weak {c : Code} {σ' : Regs} {S' : Heap} (hw : Weak n σ S σ' S') (h : AW P n c σ' S' Q) : AW P n c σ S Q :=
  fun w0 S0 w a hs he => h w0 S0 w a (hw w a hs).1 (he.trans (hw w a hs).2)

/-! Regions -/
def AO (P : Program) (n : Nat) (ops : Array Oper) (l : List Nat) (σ : Regs) (S : Heap) (Q : Post) : Prop :=
  ∀ w0 S0 w a, St n w S a σ → Ext w0 S0 w S → wpOps P ops (lift n w0 S0 Q) l a w
def OpA (P : Program) (n : Nat) (o : Oper) (σ : Regs) (S : Heap) (K : Regs → Heap → Prop) : Prop :=
  ∀ w0 S0 w a, St n w S a σ → Ext w0 S0 w S → ∀ (next : Act → World → Prop) (Qx : Exit → Act → World → Prop),
    (∀ a' w' σ' S', St n w' S' a' σ' → Ext w0 S0 w' S' → K σ' S' → next a' w') → o.wp P a w next Qx

theorem AW_region {id : Nat} {ops : Array Oper} (h : AO P n ops (List.range ops.size) σ S Q) : AW P n (.region id ops false) σ S Q :=
  fun w0 S0 w a hs he => wp_region (h w0 S0 w a hs he)
theorem AO_nil {ops : Array Oper} (h : Q .normal σ S) : AO P n ops [] σ S Q := fun w0 S0 w a hs he => ⟨σ, S, hs, he, h⟩
theorem AO_op {ops : Array Oper} {i : Nat} {rest : List Nat} {o : Oper} (ho : ops[i]? = some o) (hg : o.guard = none) (h : OpA P n o σ S (fun σ' S' => AO P n ops rest σ' S' Q)) : AO P n ops (i :: rest) σ S Q := by
  intro w0 S0 w a hs he
  simp only [wpOps, ho]
  rw [if_pos (by simp [Region.wanted, hg])]
  exact Or.inl (h w0 S0 w a hs he _ _ fun a' w' σ' S' h1 h2 h3 => h3 w0 S0 w' a' h1 h2)
theorem rep_undef (w : World) (im : Nat → Prop) : Rep w im (.tup []) undef := by
  simp only [Rep]
  exact ⟨#[], rfl, by simp [RepVals]⟩
/-- What a guard says. -/
def gsaid (want : Bool) : PV → Option Bool
  | .bool b => some b
  | .tup [] => some (!want)
  | _ => none
theorem wanted_of {w : World} {a : Act} {ops : Array Oper} {o og : Oper} {g d : Nat} {want b : Bool} (hs : St n w S a σ) (hg : o.guard = some (g, want)) (hog : ops[g]? = some og) (hd : og.dst = some d) (hn : d < n) (hb : gsaid want (σ d) = some b) : Region.wanted o (yielded ops a.tmps) = (b == want) := by
  have hlt : d < a.tmps.size := by rw [hs.size]; exact hn
  have hr := hs.regs d
  rw [show a.tmps.getD d undef = a.tmps[d] by simp [Array.getD_eq_getD_getElem?, Array.getElem?_eq_getElem hlt]] at hr
  unfold Region.wanted yielded
  simp only [hg, hog, Option.bind_some, hd, Array.getElem?_eq_getElem hlt]
  unfold gsaid at hb
  split at hb
  · rename_i b' e
    simp at hb; subst hb
    rw [e] at hr; simp only [Rep] at hr
    rw [hr]; cases b' <;> cases want <;> rfl
  · rename_i e
    simp at hb; subst hb
    rw [e] at hr; simp only [Rep] at hr
    obtain ⟨arr, h1, h2⟩ := hr
    rw [h1]; cases b <;> rfl
  · simp at hb
theorem AO_guard {ops : Array Oper} {i : Nat} {rest : List Nat} {o og : Oper} {g d : Nat} {want b : Bool} (ho : ops[i]? = some o) (hg : o.guard = some (g, want)) (hog : ops[g]? = some og) (hd : og.dst = some d) (hn : d < n) (hb : gsaid want (σ d) = some b) (hdst : ∀ x, o.dst = some x → x < n)
    (hyes : b = want → OpA P n o σ S (fun σ' S' => AO P n ops rest σ' S' Q)) (hno : b ≠ want → AO P n ops rest (updO σ o.dst (.tup [])) S Q) : AO P n ops (i :: rest) σ S Q := by
  intro w0 S0 w a hs he
  simp only [wpOps, ho]
  have hy := wanted_of hs hg hog hd hn hb
  by_cases e : b = want
  · rw [if_pos (by rw [hy]; simp [e])]
    exact Or.inl (hyes e w0 S0 w a hs he _ _ fun a' w' σ' S' h1 h2 h3 => h3 w0 S0 w' a' h1 h2)
  · rw [if_neg (by rw [hy]; simp [e])]
    exact hno e w0 S0 w _ (hs.put hdst (rep_undef _ _)) he

/-! Operations -/
theorem OpA_pure {o : Oper} {K : Regs → Heap → Prop} {p : PV} (he : evalOp P σ o.op = some p) (hd : ∀ x, o.dst = some x → x < n) (hK : K (updO σ o.dst p) S) : OpA P n o σ S K := by
  intro w0 S0 w a hs hx next Qx hnext
  obtain ⟨v, w', h1, h2, h3, h4⟩ := evalOp_sound hs he
  simp only [Oper.wp, h1, Oper.upon]
  exact hnext _ w' _ S ((hs.ext h3 h4).put hd h2) (hx.trans h3) hK
theorem OpA.mono {o : Oper} {K K' : Regs → Heap → Prop} (h : OpA P n o σ S K) (hk : ∀ σ S, K σ S → K' σ S) : OpA P n o σ S K' :=
  fun w0 S0 w a hs he next Qx hn => h w0 S0 w a hs he next Qx fun a' w' σ' S' h1 h2 h3 => hn a' w' σ' S' h1 h2 (hk _ _ h3)

end

/-! Calls -/
/-- Called with arguments that ps tells, in a state that S tells, f returns what Po tells, and touches nothing that is not told by S. -/
def CallsA (P : Program) (f : FuncId) (ps : List PV) (S : Heap) (Po : PV → Heap → Prop) : Prop :=
  ∀ w (args : Array Value), RepVals w S.im ps args.toList → (∀ b o, S b = some o → Holds w S.im b o) →
    Calls P f args w fun e w' => ∃ v p S', e = .returned v ∧ Rep w' S'.im p v ∧ (∀ b o, S' b = some o → Holds w' S'.im b o) ∧ Ext w S w' S' ∧ Po p S'

theorem CallsA.mono {P : Program} {f : FuncId} {ps : List PV} {S : Heap} {Po Po' : PV → Heap → Prop} (h : CallsA P f ps S Po) (hp : ∀ p S, Po p S → Po' p S) : CallsA P f ps S Po' :=
  fun w args h1 h2 => (h w args h1 h2).mono fun e w' ⟨v, p, S', a, b, c, d, x⟩ => ⟨v, p, S', a, b, c, d, hp _ _ x⟩

def callable (P : Program) (g : FuncId) : Bool :=
  match P.funcs[g]? with
  | some fn => fn.name != "runtime.NumGoroutine" && fn.body.isSome
  | none => false
theorem run_callFunc {P : Program} {g : FuncId} (h : callable P g = true) (args : Array Value) (w : World) : (callFunc g args).run P w = .ok (.enter g args) w := by
  unfold callable at h
  cases hf : P.funcs[g]? with
  | none => rw [hf] at h; simp at h
  | some fn =>
    rw [hf] at h
    simp at h
    obtain ⟨h1, h2⟩ := h
    have h2' : fn.body.isNone = false := by cases hb : fn.body <;> simp_all
    simp only [callFunc, Sem.run_bind, run_program, Result.andThen_ok, hf]
    rw [if_neg (by simpa using h1), if_neg (by simp [h2'])]
    rfl

section
variable {P : Program} {n : Nat} {σ : Regs} {S : Heap} {Q : Post}
theorem OpA_enter {o : Oper} {K : Regs → Heap → Prop} {g : FuncId} {ps : List PV} (hd : ∀ x, o.dst = some x → x < n)
    (hrun : ∀ w a, St n w S a σ → ∃ vs : Array Value, (execOp a.eval o).run P w = .ok (.enter g vs) w ∧ RepVals w S.im ps vs.toList)
    (hc : CallsA P g ps S (fun p S' => K (updO σ o.dst p) S')) : OpA P n o σ S K := by
  intro w0 S0 w a hs hx next Qx hnext
  obtain ⟨vs, h1, h2⟩ := hrun w a hs
  simp only [Oper.wp, h1, Oper.upon]
  refine (hc w vs h2 hs.heap).mono ?_
  rintro e w' ⟨v, p, S', rfl, hr, hh, hext, hk⟩
  exact hnext _ w' _ S' ((hs.ext hext hh).put hd hr) (hx.trans hext) hk
/-- A call of a function value. -/
theorem OpA_call {o : Oper} {K : Regs → Heap → Prop} {x : Operand} {as : Array Operand} {ts : Array TypeId} {g : FuncId} {fs cs : List PV} (ho : o.op = .call { callee := .value x, args := as, argTypes := ts }) (hx : ev σ x = .fn (.func g) fs cs) (hg : callable P g = true)
    (hd : ∀ x, o.dst = some x → x < n) (hc : CallsA P g (fs ++ as.toList.map (ev σ) ++ cs) S (fun p S' => K (updO σ o.dst p) S')) : OpA P n o σ S K := by
  refine OpA_enter hd (fun w a hs => ?_) hc
  have hr := rep_ev hs x
  rw [hx] at hr
  simp only [Rep] at hr
  obtain ⟨fa, ca, e, h1, h2⟩ := hr
  refine ⟨fa ++ as.map a.eval ++ ca, ?_, ?_⟩
  · simp only [execOp, ho, resolve, Sem.run_bind, e, Deferred.ofValue, Sem.run_pure, Result.andThen_ok, invoke]
    exact run_callFunc hg _ w
  · have := repVals_append (repVals_append h1 (rep_map hs as)) h2
    simpa using this
/-- A call of a method of what an interface holds. -/
theorem OpA_invoke {o : Oper} {K : Regs → Heap → Prop} {x : Operand} {as : Array Operand} {ts : Array TypeId} {g : FuncId} {name : String} {t : TypeId} {p : PV} (ho : o.op = .call { callee := .invoke x name, args := as, argTypes := ts }) (hx : ev σ x = .iface t p) (hg : callable P g = true)
    (hm : ∀ v w, (method (P.types.size + Made.depth) t v name).run P w = .ok (g, v) w)
    (hd : ∀ x, o.dst = some x → x < n) (hc : CallsA P g (p :: as.toList.map (ev σ)) S (fun p S' => K (updO σ o.dst p) S')) : OpA P n o σ S K := by
  refine OpA_enter hd (fun w a hs => ?_) hc
  have hr := rep_ev hs x
  rw [hx] at hr
  simp only [Rep] at hr
  obtain ⟨u, e, h1⟩ := hr
  refine ⟨#[u] ++ as.map a.eval, ?_, ?_⟩
  · have e0 : (#[Value.iface t u] ++ as.map a.eval)[0]? = some (Value.iface t u) := by rw [Array.getElem?_append_left (by simp)]; rfl
    have e1 : (#[Value.iface t u] ++ as.map a.eval).extract 1 (#[Value.iface t u] ++ as.map a.eval).size = as.map a.eval := by
      apply Array.ext'
      simp
      exact List.take_of_length_le (by simp)
    simp only [execOp, ho, resolve, Sem.run_bind, e, Sem.run_pure, Result.andThen_ok, invoke]
    rw [e0]
    simp only [callMethod, Sem.run_bind, run_program, Result.andThen_ok, e1, hm]
    exact run_callFunc hg _ w
  · have := repVals_cons.2 ⟨h1, rep_map hs as⟩
    simpa using this
end

/-! A function's contract out of its body -/
def cellsAt : MObj → List PV
  | .cells cs _ => cs
  | .rows _ rs _ _ => rs.flatten
  | _ => []
theorem repAt_append {w : World} {im : Nat → Prop} {b : Nat} : ∀ {off : Nat} {cs ds : List PV}, RepAt w im b off cs → RepAt w im b (off + cs.length) ds → RepAt w im b off (cs ++ ds)
  | off, [], ds, _, k => by simpa using k
  | off, c :: cs, ds, h, k => by
    simp only [RepAt] at h
    simp only [List.cons_append, RepAt]
    exact ⟨h.1, repAt_append h.2 (by rwa [show off + 1 + cs.length = off + (c :: cs).length by simp; omega])⟩
theorem repAt_flatten {w : World} {im : Nat → Prop} {b : Nat} : ∀ {off sz : Nat} {rows : List (List PV)}, RepRows w im b off sz rows → RepAt w im b off rows.flatten
  | off, sz, [], h => by simp only [List.flatten_nil, RepAt]
  | off, sz, r :: rs, h => by
    simp only [RepRows] at h
    simp only [List.flatten_cons]
    exact repAt_append h.2.1 (by rw [h.1]; exact repAt_flatten h.2.2)
theorem holds_repAt {w : World} {im : Nat → Prop} {b : Nat} {o : MObj} (h : Holds w im b o) : RepAt w im b 0 (cellsAt o) := by
  cases o with
  | cells cs ty => obtain ⟨arr, h1, h2⟩ := h; exact repAt_block h1 h2
  | rows sz rs cap ty => obtain ⟨arr, h1, h2, h3, h4, h5⟩ := h; exact repAt_flatten h5
  | iter s pos => simp only [cellsAt, RepAt]
  | omap es clock => simp only [cellsAt, RepAt]
/-- What stands at a place. -/
def cellsOn (S : Heap) : PV → Option (List PV)
  | .ref cs => some cs
  | .mp b off => match S b with
    | some o => if off ≤ (cellsAt o).length then some ((cellsAt o).drop off) else none
    | none => none
  | _ => none
theorem cellsOn_spec {w : World} {S : Heap} (hS : ∀ b o, S b = some o → Holds w S.im b o) {p : PV} {cs : List PV} {v : Value} (h : cellsOn S p = some cs) (hr : Rep w S.im p v) : ∃ b off, v = .pointer (some ⟨b, off, none⟩) ∧ RepAt w S.im b off cs := by
  cases p <;> simp only [cellsOn, Option.some.injEq, reduceCtorEq] at h
  case ref ds => subst h; simp only [Rep] at hr; obtain ⟨b, off, e, _, _, h3⟩ := hr; exact ⟨b, off, e, h3⟩
  case mp b off =>
    simp only [Rep] at hr
    cases ho : S b with
    | none => rw [ho] at h; simp at h
    | some o =>
      rw [ho] at h; simp only at h
      split at h
      · simp at h; subst h
        exact ⟨b, off, hr, by simpa using repAt_drop off (holds_repAt (hS b o ho))⟩
      · simp at h
def loadS (P : Program) (S : Heap) (t : TypeId) (p : PV) : Option PV := (cellsOn S p).bind (loadPV P t)

def resOne (P : Program) (S : Heap) (σ : Regs) : ResultVar → Option PV
  | .tmp t => some (σ t)
  | .cell a t => loadS P S t (σ a)
def resAll (P : Program) (S : Heap) (σ : Regs) : List ResultVar → Option (List PV)
  | [] => some []
  | r :: rs => match resOne P S σ r, resAll P S σ rs with
    | some p, some ps => some (p :: ps)
    | _, _ => none
def resA (P : Program) (S : Heap) (σ : Regs) (rs : Array ResultVar) : Option PV :=
  match resAll P S σ rs.toList with
  | some [p] => some p
  | some ps => some (.tup ps)
  | none => none
def resSem (tmps : Array Value) : ResultVar → Sem Value
  | .tmp t => pure (tmps.getD t undef)
  | .cell a t => do loadVar t (← asAddr (tmps.getD a undef))
theorem results_eq (fn : Func) (tmps : Array Value) : results fn tmps = (do let vs ← fn.results.mapM (resSem tmps); pure (if h : vs.size = 1 then vs[0] else .tuple vs)) := by
  unfold results
  congr 1
theorem run_resOne {P : Program} {n : Nat} {w : World} {S : Heap} {a : Act} {σ : Regs} (h : St n w S a σ) (r : ResultVar) {p : PV} (e : resOne P S σ r = some p) : ∃ v, (resSem a.tmps r).run P w = .ok v w ∧ Rep w S.im p v := by
  cases r with
  | tmp t => simp [resOne] at e; subst e; exact ⟨_, rfl, h.regs t⟩
  | cell x t =>
    simp only [resOne, loadS] at e
    cases hc : cellsOn S (σ x) with
    | none => rw [hc] at e; simp at e
    | some cs =>
      rw [hc] at e; simp at e
      obtain ⟨b, off, e1, e2⟩ := cellsOn_spec h.heap hc (h.regs x)
      obtain ⟨v, l1, l2⟩ := run_loadVar (P := P) e2 e
      exact ⟨v, by simp only [resSem, Sem.run_bind, e1, asAddr, Sem.run_pure, Result.andThen_ok, l1], l2⟩
theorem run_resAll {P : Program} {n : Nat} {w : World} {S : Heap} {a : Act} {σ : Regs} (h : St n w S a σ) : ∀ (rs : List ResultVar) {ps : List PV}, resAll P S σ rs = some ps →
    ∃ vs : List Value, (rs.mapM (resSem a.tmps)).run P w = .ok vs w ∧ RepVals w S.im ps vs
  | [], ps, e => by simp [resAll] at e; subst e; exact ⟨[], by simp, by simp [repVals_nil]⟩
  | r :: rs, ps, e => by
    simp only [resAll] at e
    cases h1 : resOne P S σ r with
    | none => rw [h1] at e; simp at e
    | some p =>
      cases h2 : resAll P S σ rs with
      | none => rw [h1, h2] at e; simp at e
      | some qs =>
        rw [h1, h2] at e; simp at e; subst e
        obtain ⟨vs, k1, k2⟩ := run_resAll h rs h2
        obtain ⟨v, l1, l2⟩ := run_resOne h r h1
        exact ⟨v :: vs, by simp only [List.mapM_cons, Sem.run_bind, Sem.run_pure, Result.andThen_ok, k1, l1], repVals_cons.2 ⟨l2, k2⟩⟩
theorem run_results {P : Program} {n : Nat} {w : World} {S : Heap} {a : Act} {σ : Regs} (h : St n w S a σ) (fn : Func) {p : PV} (e : resA P S σ fn.results = some p) : ∃ v, (results fn a.tmps).run P w = .ok v w ∧ Rep w S.im p v := by
  unfold resA at e
  cases hr : resAll P S σ fn.results.toList with
  | none => rw [hr] at e; simp at e
  | some ps =>
    rw [hr] at e
    obtain ⟨vs, h1, h2⟩ := run_resAll h fn.results.toList hr
    have hrun : (results fn a.tmps).run P w = .ok (if h : vs.toArray.size = 1 then vs.toArray[0] else .tuple vs.toArray) w := by
      rw [results_eq, Array.mapM_eq_mapM_toList]
      simp only [Sem.run_bind, Sem.run_map, h1, Result.andThen_ok, Sem.run_pure]
    have hl := repVals_length h2
    refine ⟨_, hrun, ?_⟩
    match ps, vs, e, h2, hl with
    | [q], [v], e, h2, _ => simp at e; subst e; simpa using (repVals_cons.1 h2).1
    | [], [], e, h2, _ => simp at e; subst e; simp only [Rep]; exact ⟨#[], rfl, by simp [repVals_nil]⟩
    | q :: q' :: qs, v :: v' :: vs, e, h2, hl =>
      simp at e; subst e
      rw [dif_neg (by simp)]
      simp only [Rep]
      exact ⟨_, rfl, by simpa using h2⟩

def sig0 (ps : List PV) (t : Nat) : PV := ps[t]?.getD .any
def retPost (P : Program) (rs : Array ResultVar) (Po : PV → Heap → Prop) : Post
  | .normal, σ, S => ∃ p, resA P S σ rs = some p ∧ Po p S
  | .ret, σ, S => ∃ p, resA P S σ rs = some p ∧ Po p S
  | _, _, _ => False

theorem CallsA_of {P : Program} {f : FuncId} {fn : Func} {c : Code} {ps : List PV} {S : Heap} {Po : PV → Heap → Prop} (hf : P.funcs[f]? = some fn) (hb : fn.body = some c) (hn : ps.length ≤ fn.ntmps)
    (h : AW P fn.ntmps c (sig0 ps) S (retPost P fn.results Po)) : CallsA P f ps S Po := by
  intro w args hr hS
  have hl : args.size = ps.length := by simpa using repVals_length hr
  refine calls_of_wp hf hb ?_
  have hst : St fn.ntmps w S { tmps := args ++ Array.replicate (fn.ntmps - args.size) undef, defers := [] } (sig0 ps) := by
    refine ⟨by simp; omega, rfl, fun t => ?_, hS⟩
    unfold sig0
    cases ht : ps[t]? with
    | none => simp only [Option.getD_none, Rep]
    | some p =>
      obtain ⟨v, h1, h2⟩ := repVals_get hr ht
      simp only [Option.getD_some]
      have hlt : t < args.size := by rw [hl]; exact (List.getElem?_eq_some_iff.1 ht).1
      have : (args ++ Array.replicate (fn.ntmps - args.size) undef).getD t undef = v := by
        simp only [Array.getD_eq_getD_getElem?]
        rw [Array.getElem?_append_left hlt]
        simp at h1
        simp [h1]
      rw [this]; exact h2
  refine wp_mono (h w S w _ hst (Ext.refl w S)) ?_
  rintro e a' w' ⟨σ', S', h1, h2, h3⟩
  cases e with
  | normal =>
    obtain ⟨p, e1, e2⟩ := h3
    obtain ⟨v, r1, r2⟩ := run_results h1 fn e1
    exact ⟨h1.defers, v, r1, v, p, S', rfl, r2, h1.heap, h2, e2⟩
  | ret =>
    obtain ⟨p, e1, e2⟩ := h3
    obtain ⟨v, r1, r2⟩ := run_results h1 fn e1
    exact ⟨h1.defers, v, r1, v, p, S', rfl, r2, h1.heap, h2, e2⟩
  | exit id => exact h3.elim
  | goto l => exact h3.elim
  | panic ch => exact h3.elim
  | outgrown => exact h3.elim

end Go.Proofs.Ytcbonfgkfiapaaa.Pv
