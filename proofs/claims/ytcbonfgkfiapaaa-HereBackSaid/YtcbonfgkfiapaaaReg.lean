/- Regions: told in the order of the text, also where the order is drawn. -/
import Derived.Test.YtcbonfgkfiapaaaWp
set_option linter.unusedVariables false
set_option linter.unusedSimpArgs false
namespace Go.Proofs.Ytcbonfgkfiapaaa.Pv
open Go Go.RowKit

def okDst (n : Nat) : Option Tmp → Bool
  | some d => decide (d < n)
  | none => true
theorem okDst_spec {n : Nat} {d : Option Tmp} (h : okDst n d = true) : ∀ x, d = some x → x < n := by
  intro x hx; subst hx; simpa [okDst] using h
/-- What the operation under a guard's number gave. -/
def guardVal (n : Nat) (ds : List (Option Tmp)) (g : Nat) (want : Bool) (σ : Regs) : Option Bool :=
  match ds[g]? with
  | some (some d) => if d < n then gsaid want (σ d) else none
  | _ => none
def dstsOf (ops : Array Oper) : List (Option Tmp) := ops.toList.map (·.dst)

/-- The same, with loads out of the call's own blocks. mb: the variables that may be written. -/
def evalS (P : Program) (S : Heap) (mb : Tmp → Bool) (d : Option Tmp) (σ : Regs) : Op → Option PV
  | .load t x => loadS P S t (ev σ x)
  | .box t x => match d with
    | some d => if mb d = true then none else evalOp P σ (.box t x)
    | none => none
  | o => evalOp P σ o
theorem loadS_sound {P : Program} {n : Nat} {w : World} {S : Heap} {a : Act} {σ : Regs} (h : St n w S a σ) {o : Oper} {t : TypeId} {x : Operand} {p : PV} (ho : o.op = .load t x) (he : loadS P S t (ev σ x) = some p) : GivesN P (execOp a.eval o) w S p := by
  unfold loadS at he
  cases hc : cellsOn S (ev σ x) with
  | none => rw [hc] at he; simp at he
  | some cs =>
    rw [hc] at he; simp at he
    obtain ⟨b, off, e1, e2⟩ := cellsOn_spec h.heap hc (rep_ev h x)
    obtain ⟨v, l1, l2⟩ := run_loadVar (P := P) e2 he
    exact ⟨v, w, by simp [execOp, ho, Instr.loadAt, e1, Instr.sureAddr, l1], l2, Ext.refl w S, h.heap⟩
theorem evalS_sound {P : Program} {n : Nat} {w : World} {S : Heap} {mb : Tmp → Bool} {a : Act} {σ : Regs} (h : St n w S a σ) {o : Oper} {p : PV} (he : evalS P S mb o.dst σ o.op = some p) : GivesN P (execOp a.eval o) w S p := by
  unfold evalS at he
  split at he
  · rename_i t x ho; exact loadS_sound h ho he
  · rename_i t x ho
    split at he
    · split at he
      · simp at he
      · rw [← ho] at he; exact evalOp_sound h he
    · simp at he
  · exact evalOp_sound h he
theorem OpA_pureS {P : Program} {n : Nat} {σ : Regs} {S : Heap} {mb : Tmp → Bool} {o : Oper} {K : Regs → Heap → Prop} {p : PV} (he : evalS P S mb o.dst σ o.op = some p) (hd : ∀ x, o.dst = some x → x < n) (hK : K (updO σ o.dst p) S) : OpA P n o σ S K := by
  intro w0 S0 w a hs hx next Qx hnext
  obtain ⟨v, w', h1, h2, h3, h4⟩ := evalS_sound hs he
  simp only [Oper.wp, h1, Oper.upon]
  exact hnext _ w' _ S ((hs.ext h3 h4).put hd h2) (hx.trans h3) hK

/-- Operations in the text's order. -/
def RunG (P : Program) (n : Nat) (mb : Tmp → Bool) (ds : List (Option Tmp)) : List Oper → Regs → Heap → (Regs → Heap → Prop) → Prop
  | [], σ, S, K => K σ S
  | o :: l, σ, S, K => match o.guard with
    | none => (match evalS P S mb o.dst σ o.op with
      | some p => okDst n o.dst = true ∧ RunG P n mb ds l (updO σ o.dst p) S K
      | none => OpA P n o σ S (fun σ' S' => RunG P n mb ds l σ' S' K))
    | some (g, want) => match guardVal n ds g want σ with
      | none => False
      | some b => okDst n o.dst = true ∧ (b = want → (match evalS P S mb o.dst σ o.op with
          | some p => RunG P n mb ds l (updO σ o.dst p) S K
          | none => OpA P n o σ S (fun σ' S' => RunG P n mb ds l σ' S' K))) ∧
        (b = (!want) → RunG P n mb ds l (updO σ o.dst (.tup [])) S K)

theorem guardVal_spec {n : Nat} {ops : Array Oper} {g : Nat} {want : Bool} {σ : Regs} {b : Bool} (h : guardVal n (dstsOf ops) g want σ = some b) : ∃ og d, ops[g]? = some og ∧ og.dst = some d ∧ d < n ∧ gsaid want (σ d) = some b := by
  unfold guardVal at h
  split at h
  · rename_i d hd
    split at h
    · rename_i hn
      simp only [dstsOf, List.getElem?_map, Option.map_eq_some_iff] at hd
      obtain ⟨og, ho, hod⟩ := hd
      exact ⟨og, d, by simpa using ho, hod, hn, h⟩
    · simp at h
  · simp at h

theorem AO_run {P : Program} {n : Nat} {mb : Tmp → Bool} {ops : Array Oper} {Q : Post} : ∀ (l : List Oper) (k : Nat) (σ : Regs) (S : Heap), ops.toList.drop k = l → RunG P n mb (dstsOf ops) l σ S (Q .normal) → AO P n ops (List.range' k l.length) σ S Q
  | [], k, σ, S, _, h => by simp only [List.length_nil, List.range'_zero]; exact AO_nil h
  | o :: l, k, σ, S, hl, h => by
    have ho : ops[k]? = some o := by
      have : ops.toList[k]? = some o := by
        have := congrArg (fun x => x[0]?) hl
        simpa using this
      simpa using this
    have hl' : ops.toList.drop (k + 1) = l := by
      have := congrArg (fun x => x.drop 1) hl
      simpa [Nat.add_comm] using this
    simp only [List.length_cons, List.range'_succ]
    simp only [RunG] at h
    split at h
    · rename_i hg
      split at h
      · rename_i p hp
        exact AO_op ho hg (OpA_pureS hp (okDst_spec h.1) (AO_run l (k + 1) _ S hl' h.2))
      · exact AO_op ho hg (h.mono fun σ' S' hk => AO_run l (k + 1) σ' S' hl' hk)
    · rename_i g want hg
      split at h
      · exact h.elim
      · rename_i b hb
        obtain ⟨og, d, h1, h2, h3, h4⟩ := guardVal_spec hb
        obtain ⟨hd, hy, hn⟩ := h
        refine AO_guard ho hg h1 h2 h3 h4 (okDst_spec hd) (fun e => ?_) (fun e => AO_run l (k + 1) _ S hl' (hn (by cases b <;> cases want <;> simp_all)))
        have hy' := hy e
        split at hy'
        · rename_i p hp
          exact OpA_pureS hp (okDst_spec hd) (AO_run l (k + 1) _ S hl' hy')
        · exact OpA.mono hy' fun σ' S' hk => AO_run l (k + 1) σ' S' hl' hk

theorem AW_reg {P : Program} {n : Nat} {mb : Tmp → Bool} {id : Nat} {ops : Array Oper} {σ : Regs} {S : Heap} {Q : Post} (h : RunG P n mb (dstsOf ops) ops.toList σ S (Q .normal)) : AW P n (.region id ops false) σ S Q := by
  refine AW_region ?_
  have := AO_run (P := P) (n := n) (mb := mb) (ops := ops) (Q := Q) ops.toList 0 σ S (by simp) h
  rw [List.range_eq_range']
  simpa using this

/-! Quiet operations: they give a value and leave the call's own blocks as they are; which one depends on what they look at alone. -/
def tmpsOf (o : Oper) : List Tmp := o.op.operands.toList.filterMap fun | .tmp t => some t | _ => none
def QV (P : Program) (o : Oper) (σ : Regs) (S : Heap) (p : PV) : Prop :=
  ∀ n σ' w a, (∀ t ∈ tmpsOf o, σ' t = σ t) → St n w S a σ' → ∀ (next : Act → World → Prop) (Qx : Exit → Act → World → Prop),
    (∀ v w', Rep w' S.im p v → Ext w S w' S → (∀ b x, S b = some x → Holds w' S.im b x) → next (a.put o.dst v) w') → o.wp P a w next Qx
def QC (P : Program) (o : Oper) (σ : Regs) (S : Heap) (K : PV → Prop) : Prop := ∃ p, QV P o σ S p ∧ K p

theorem ev_congr {σ σ' : Regs} {xs : List Operand} (h : ∀ t ∈ xs.filterMap (fun | .tmp t => some t | _ => none), σ' t = σ t) : ∀ x ∈ xs, ev σ' x = ev σ x := by
  intro x hx
  cases x with
  | tmp t => exact h t (List.mem_filterMap.2 ⟨.tmp t, hx, rfl⟩)
  | _ => rfl
theorem map_ev_congr {σ σ' : Regs} {xs ys : List Operand} (h : ∀ x ∈ ys, ev σ' x = ev σ x) (hs : ∀ x ∈ xs, x ∈ ys) : xs.map (ev σ') = xs.map (ev σ) :=
  List.map_congr_left fun x hx => h x (hs x hx)
theorem bound_congr {σ σ' : Regs} {d : Nat} {x : Option Operand} (h : ∀ o, x = some o → ev σ' o = ev σ o) : bound σ' d x = bound σ d x := by
  cases x with
  | none => rfl
  | some o => simp only [bound, h o rfl]
theorem evalOp_congr {P : Program} {σ σ' : Regs} {o : Op} (h : ∀ x ∈ o.operands.toList, ev σ' x = ev σ x) : evalOp P σ' o = evalOp P σ o := by
  cases o <;> simp only [evalOp]
  case move x => rw [h x (by simp [Op.operands])]
  case assign x => rw [h x (by simp [Op.operands])]
  case pick c a b => rw [h c (by simp [Op.operands]), h a (by simp [Op.operands]), h b (by simp [Op.operands])]
  case box t x => rw [h x (by simp [Op.operands])]
  case build t ps =>
    have : partsPV σ' ps = partsPV σ ps := by
      unfold partsPV
      refine List.map_congr_left fun x hx => ?_
      rw [h x.2 (by simp only [Op.operands]; simp; exact ⟨x.1, by simpa using hx⟩)]
    rw [this]
  case buildSlice t n ps =>
    have : partsPV σ' ps = partsPV σ ps := by
      unfold partsPV
      refine List.map_congr_left fun x hx => ?_
      rw [h x.2 (by simp only [Op.operands]; simp; exact ⟨x.1, by simpa using hx⟩)]
    rw [this]
  case load t x => rw [h x (by simp [Op.operands])]
  case nilCheck x => rw [h x (by simp [Op.operands])]
  case binOp op t x y yt => rw [h x (by simp [Op.operands]), h y (by simp [Op.operands])]
  case unOp op t x => rw [h x (by simp [Op.operands])]
  case convert s d x => rw [h x (by simp [Op.operands])]
  case makeInterface t x => rw [h x (by simp [Op.operands])]
  case makeFunc f fs cs =>
    rw [map_ev_congr h (xs := fs.toList) (fun x hx => by simp [Op.operands]; exact Or.inl (by simpa using hx)), map_ev_congr h (xs := cs.toList) (fun x hx => by simp [Op.operands]; exact Or.inr (by simpa using hx))]
  case slice t x lo hi mx =>
    cases mx with
    | some m => simp only [evalOp]
    | none =>
      simp only [evalOp, evalSlice]
      rw [h x (by simp [Op.operands])]
      have e1 := bound_congr (σ := σ) (σ' := σ') (d := 0) (x := lo) fun o e => h o (by subst e; simp [Op.operands])
      have e2 : ∀ d, bound σ' d hi = bound σ d hi := fun d => bound_congr fun o e => h o (by subst e; simp [Op.operands])
      rw [e1]; simp only [e2]
  case fieldAddr s x f => rw [h x (by simp [Op.operands])]
  case field s x f => rw [h x (by simp [Op.operands])]
  case indexAddr t x i => rw [h x (by simp [Op.operands]), h i (by simp [Op.operands])]
  case index t x i => rw [h x (by simp [Op.operands]), h i (by simp [Op.operands])]
  case extract x i => rw [h x (by simp [Op.operands])]
  case call c =>
    obtain ⟨callee, args, ts⟩ := c
    cases callee <;> simp only [evalOp]
    rw [map_ev_congr h (xs := args.toList) (fun x hx => by simp [Op.operands, Call.operands]; simpa using hx)]

theorem evalS_congr {P : Program} {S : Heap} {mb : Tmp → Bool} {d : Option Tmp} {σ σ' : Regs} {o : Op} (h : ∀ x ∈ o.operands.toList, ev σ' x = ev σ x) : evalS P S mb d σ' o = evalS P S mb d σ o := by
  unfold evalS
  split
  · rename_i t x; rw [h x (by simp [Op.operands])]
  · rename_i t x
    split
    · split
      · rfl
      · exact evalOp_congr h
    · rfl
  · exact evalOp_congr h
def noMb (_ : Tmp) : Bool := false
theorem QV_pure {P : Program} {o : Oper} {σ : Regs} {S : Heap} {p : PV} (h : evalS P S noMb o.dst σ o.op = some p) : QV P o σ S p := by
  intro n σ' w a hag hs next Qx hn
  have e : evalS P S noMb o.dst σ' o.op = some p := by rw [← h]; exact evalS_congr (ev_congr hag)
  obtain ⟨v, w', h1, h2, h3, h4⟩ := evalS_sound hs e
  simp only [Oper.wp, h1, Oper.upon]
  exact hn v w' h2 h3 h4

/-- A call that gives p and leaves the call's own blocks. -/
def CallsQ (P : Program) (f : FuncId) (ps : List PV) (S : Heap) (p : PV) : Prop := CallsA P f ps S (fun q S' => q = p ∧ S' = S)

theorem QC_call {P : Program} {o : Oper} {σ : Regs} {S : Heap} {K : PV → Prop} {x : Operand} {as : Array Operand} {ts : Array TypeId} {g : FuncId} {fs cs : List PV} {p : PV} (ho : o.op = .call { callee := .value x, args := as, argTypes := ts }) (hx : ev σ x = .fn (.func g) fs cs) (hg : callable P g = true)
    (hc : CallsQ P g (fs ++ as.toList.map (ev σ) ++ cs) S p) (hK : K p) : QC P o σ S K := by
  refine ⟨p, ?_, hK⟩
  intro n σ' w a hag hs next Qx hn
  have hall : ∀ y ∈ o.op.operands.toList, ev σ' y = ev σ y := ev_congr hag
  have hx' : ev σ' x = .fn (.func g) fs cs := by rw [hall x (by simp [ho, Op.operands, Call.operands]), hx]
  have has : as.toList.map (ev σ') = as.toList.map (ev σ) := map_ev_congr hall fun y hy => by simp [ho, Op.operands, Call.operands]; exact Or.inr (by simpa using hy)
  have hr := rep_ev hs x
  rw [hx'] at hr
  simp only [Rep] at hr
  obtain ⟨fa, ca, e, h1, h2⟩ := hr
  have hrun : (execOp a.eval o).run P w = .ok (.enter g (fa ++ as.map a.eval ++ ca)) w := by
    simp only [execOp, ho, resolve, Sem.run_bind, e, Deferred.ofValue, Sem.run_pure, Result.andThen_ok, invoke]
    exact run_callFunc hg _ w
  simp only [Oper.wp, hrun, Oper.upon]
  have hvals : RepVals w S.im (fs ++ as.toList.map (ev σ) ++ cs) (fa ++ as.map a.eval ++ ca).toList := by
    have := repVals_append (repVals_append h1 (rep_map hs as)) h2
    rw [has] at this
    simpa using this
  refine (hc w _ hvals hs.heap).mono ?_
  rintro e' w' ⟨v, q, S', rfl, hrep, hh, hext, rfl, rfl⟩
  exact hn v w' hrep hext hh

/-- Operations in the text's order, each of them quiet. -/
def RunQ (P : Program) (n : Nat) (ds : List (Option Tmp)) : List Oper → Regs → Heap → (Regs → Prop) → Prop
  | [], σ, S, K => K σ
  | o :: l, σ, S, K => match o.guard with
    | none => (match evalS P S noMb o.dst σ o.op with
      | some p => okDst n o.dst = true ∧ RunQ P n ds l (updO σ o.dst p) S K
      | none => okDst n o.dst = true ∧ QC P o σ S (fun p => RunQ P n ds l (updO σ o.dst p) S K))
    | some (g, want) => match guardVal n ds g want σ with
      | none => False
      | some b => okDst n o.dst = true ∧ (b = want → (match evalS P S noMb o.dst σ o.op with
          | some p => RunQ P n ds l (updO σ o.dst p) S K
          | none => QC P o σ S (fun p => RunQ P n ds l (updO σ o.dst p) S K))) ∧
        (b = (!want) → RunQ P n ds l (updO σ o.dst (.tup [])) S K)

/-- simp does not look into what comes behind an operation. -/
@[congr] theorem OpA_keep (P : Program) (n : Nat) (o : Oper) {σ σ' : Regs} (S : Heap) (K : Regs → Heap → Prop) (h : σ = σ') : OpA P n o σ S K = OpA P n o σ' S K := by rw [h]
@[congr] theorem QC_keep (P : Program) (o : Oper) {σ σ' : Regs} (S : Heap) (K : PV → Prop) (h : σ = σ') : QC P o σ S K = QC P o σ' S K := by rw [h]

end Go.Proofs.Ytcbonfgkfiapaaa.Pv
