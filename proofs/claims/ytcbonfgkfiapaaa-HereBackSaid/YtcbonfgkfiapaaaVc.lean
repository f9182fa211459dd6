/- The rules as one function over what is still to be done, which simp unfolds; and what simp may unfold on the way. -/
import Derived.Test.YtcbonfgkfiapaaaOwn
set_option linter.unusedVariables false
set_option linter.unusedSimpArgs false
namespace Go.Proofs.Ytcbonfgkfiapaaa.Pv
open Go Go.RowKit

/-- What is still to be done. -/
inductive It where
  | code (c : Code)
  | ops (ds : List (Option Tmp)) (l : List Oper)
  | fin (id : Nat)

def csize : Code → Nat
  | .region _ ops _ => ops.toList.length + 2
  | .seq a b => csize a + csize b + 1
  | .cond _ x y => csize x + csize y + 1
  | .block _ c => csize c + 2
  | _ => 1
def It.size : It → Nat
  | .code c => csize c
  | .ops _ l => l.length + 1
  | .fin _ => 1
def total : List It → Nat
  | [] => 0
  | i :: k => i.size + total k
def dropTo (id : Nat) : List It → Option (List It)
  | [] => none
  | .fin id' :: k => if id = id' then some k else dropTo id k
  | .code _ :: k => dropTo id k
  | .ops _ _ :: k => dropTo id k
theorem dropTo_total {id : Nat} : ∀ {k k' : List It}, dropTo id k = some k' → total k' ≤ total k
  | [], k', h => by simp [dropTo] at h
  | .fin id' :: k, k', h => by
    simp only [dropTo] at h
    split at h
    · simp at h; subst h; simp [total]
    · have := dropTo_total h; simp [total]; omega
  | .code c :: k, k', h => by simp only [dropTo] at h; have := dropTo_total h; simp [total]; omega
  | .ops ds l :: k, k', h => by simp only [dropTo] at h; have := dropTo_total h; simp [total]; omega
theorem csize_pos (c : Code) : 0 < csize c := by cases c <;> simp [csize]

/-- All exits of what is still to be done. -/
def kont (P : Program) (n : Nat) (mb : Tmp → Bool) (R : Post) : List It → Post
  | [] => R
  | .code c :: k => fun e σ S => match e with
    | .normal => AW P n c σ S (kont P n mb R k)
    | e => kont P n mb R k e σ S
  | .ops ds l :: k => fun e σ S => match e with
    | .normal => RunG P n mb ds l σ S (kont P n mb R k .normal)
    | e => kont P n mb R k e σ S
  | .fin id :: k => inBlk id (kont P n mb R k)

/-- An operation of which a rule must tell; then the rest. -/
def OpW (P : Program) (n : Nat) (mb : Tmp → Bool) (R : Post) (o : Oper) (ds : List (Option Tmp)) (l : List Oper) (k : List It) (σ : Regs) (S : Heap) : Prop :=
  OpA P n o σ S (fun σ' S' => kont P n mb R (.ops ds l :: k) .normal σ' S')
/-- A loop, or a region whose order is drawn; then the rest. -/
def CodeW (P : Program) (n : Nat) (mb : Tmp → Bool) (R : Post) (c : Code) (k : List It) (σ : Regs) (S : Heap) : Prop := AW P n c σ S (kont P n mb R k)

def W (P : Program) (n : Nat) (mb : Tmp → Bool) (R : Post) (l : List It) (σ : Regs) (S : Heap) : Prop :=
  match l with
  | [] => R .normal σ S
  | .code .skip :: k => W P n mb R k σ S
  | .code (.region _ ops false) :: k => W P n mb R (.ops (dstsOf ops) ops.toList :: k) σ S
  | .code (.seq a b) :: k => W P n mb R (.code a :: .code b :: k) σ S
  | .code (.cond c x y) :: k => match ev σ c with
    | .bool t => (t = true → W P n mb R (.code x :: k) σ S) ∧ (t = false → W P n mb R (.code y :: k) σ S)
    | _ => False
  | .code (.block id c) :: k => W P n mb R (.code c :: .fin id :: k) σ S
  | .code (.exit id) :: k => match h : dropTo id k with
    | some k' => W P n mb R k' σ S
    | none => R (.exit id) σ S
  | .code .ret :: k => R .ret σ S
  | .fin _ :: k => W P n mb R k σ S
  | .ops ds [] :: k => W P n mb R k σ S
  | .ops ds (o :: l) :: k => match o.guard with
    | none => (match evalS P S mb o.dst σ o.op with
      | some p => okDst n o.dst = true ∧ W P n mb R (.ops ds l :: k) (updO σ o.dst p) S
      | none => OpW P n mb R o ds l k σ S)
    | some (g, want) => match guardVal n ds g want σ with
      | none => False
      | some b => okDst n o.dst = true ∧ (b = want → (match evalS P S mb o.dst σ o.op with
          | some p => W P n mb R (.ops ds l :: k) (updO σ o.dst p) S
          | none => OpW P n mb R o ds l k σ S)) ∧
        (b = (!want) → W P n mb R (.ops ds l :: k) (updO σ o.dst (.tup [])) S)
  | .code c :: k => CodeW P n mb R c k σ S
termination_by total l
decreasing_by
  all_goals simp only [total, It.size, csize, List.length_cons]
  all_goals first
    | omega
    | (have := csize_pos x; have := csize_pos y; omega)
    | (have := dropTo_total h; omega)

section
variable {P : Program} {n : Nat} {mb : Tmp → Bool} {R : Post} {k : List It} {σ : Regs} {S : Heap}
theorem W_nil : W P n mb R [] σ S = R .normal σ S := by rw [W]
theorem W_skip : W P n mb R (.code .skip :: k) σ S = W P n mb R k σ S := by rw [W]
theorem W_reg {id : Nat} {ops : Array Oper} : W P n mb R (.code (.region id ops false) :: k) σ S = W P n mb R (.ops (dstsOf ops) ops.toList :: k) σ S := by rw [W]
theorem W_draw {id : Nat} {ops : Array Oper} : W P n mb R (.code (.region id ops true) :: k) σ S = CodeW P n mb R (.region id ops true) k σ S := by rw [W] <;> simp
theorem W_loop {c : Code} : W P n mb R (.code (.loop c) :: k) σ S = CodeW P n mb R (.loop c) k σ S := by rw [W] <;> simp
theorem W_rangeFunc {f : Operand} {ps : Array Tmp} {x c : Code} : W P n mb R (.code (.rangeFunc f ps x c) :: k) σ S = CodeW P n mb R (.rangeFunc f ps x c) k σ S := by rw [W] <;> simp
theorem W_seq {a b : Code} : W P n mb R (.code (.seq a b) :: k) σ S = W P n mb R (.code a :: .code b :: k) σ S := by rw [W]
theorem W_cond {c : Operand} {x y : Code} : W P n mb R (.code (.cond c x y) :: k) σ S = match ev σ c with
    | .bool t => (t = true → W P n mb R (.code x :: k) σ S) ∧ (t = false → W P n mb R (.code y :: k) σ S)
    | _ => False := by rw [W]
theorem W_block {id : Nat} {c : Code} : W P n mb R (.code (.block id c) :: k) σ S = W P n mb R (.code c :: .fin id :: k) σ S := by rw [W]
theorem W_exit {id : Nat} : W P n mb R (.code (.exit id) :: k) σ S = match dropTo id k with
    | some k' => W P n mb R k' σ S
    | none => R (.exit id) σ S := by
  rw [W]
  split <;> rename_i h <;> rw [h]
theorem W_ret : W P n mb R (.code .ret :: k) σ S = R .ret σ S := by rw [W]
theorem W_fin {id : Nat} : W P n mb R (.fin id :: k) σ S = W P n mb R k σ S := by rw [W]
theorem W_ops_nil {ds : List (Option Tmp)} : W P n mb R (.ops ds [] :: k) σ S = W P n mb R k σ S := by rw [W]
theorem W_ops_cons {ds : List (Option Tmp)} {o : Oper} {l : List Oper} : W P n mb R (.ops ds (o :: l) :: k) σ S = match o.guard with
    | none => (match evalS P S mb o.dst σ o.op with
      | some p => okDst n o.dst = true ∧ W P n mb R (.ops ds l :: k) (updO σ o.dst p) S
      | none => OpW P n mb R o ds l k σ S)
    | some (g, want) => match guardVal n ds g want σ with
      | none => False
      | some b => okDst n o.dst = true ∧ (b = want → (match evalS P S mb o.dst σ o.op with
          | some p => W P n mb R (.ops ds l :: k) (updO σ o.dst p) S
          | none => OpW P n mb R o ds l k σ S)) ∧
        (b = (!want) → W P n mb R (.ops ds l :: k) (updO σ o.dst (.tup [])) S) := by rw [W]
end

theorem kont_exit {P : Program} {n : Nat} {mb : Tmp → Bool} {R : Post} {id : Nat} {σ : Regs} {S : Heap} : ∀ {k k' : List It}, dropTo id k = some k' → kont P n mb R k' .normal σ S → kont P n mb R k (.exit id) σ S
  | [], k', h, _ => by simp [dropTo] at h
  | .fin id' :: k, k', h, hk => by
    simp only [dropTo] at h
    simp only [kont, inBlk]
    split at h
    · rename_i e; subst e; simp at h; subst h; rw [if_pos rfl]; exact hk
    · rename_i e; rw [if_neg e]; exact kont_exit h hk
  | .code c :: k, k', h, hk => by simp only [dropTo] at h; simp only [kont]; exact kont_exit h hk
  | .ops ds l :: k, k', h, hk => by simp only [dropTo] at h; simp only [kont]; exact kont_exit h hk
theorem kont_exit_none {P : Program} {n : Nat} {mb : Tmp → Bool} {R : Post} {id : Nat} {σ : Regs} {S : Heap} (hr : R (.exit id) σ S) : ∀ {k : List It}, dropTo id k = none → kont P n mb R k (.exit id) σ S
  | [], _ => hr
  | .fin id' :: k, h => by
    simp only [dropTo] at h
    simp only [kont, inBlk]
    split at h
    · simp at h
    · rename_i e; rw [if_neg e]; exact kont_exit_none hr h
  | .code c :: k, h => by simp only [dropTo] at h; simp only [kont]; exact kont_exit_none hr h
  | .ops ds l :: k, h => by simp only [dropTo] at h; simp only [kont]; exact kont_exit_none hr h
theorem kont_ret {P : Program} {n : Nat} {mb : Tmp → Bool} {R : Post} {σ : Regs} {S : Heap} (h : R .ret σ S) : ∀ (k : List It), kont P n mb R k .ret σ S
  | [] => h
  | .code c :: k => kont_ret h k
  | .ops ds l :: k => kont_ret h k
  | .fin id :: k => kont_ret h k

theorem W_sound {P : Program} {n : Nat} {mb : Tmp → Bool} {R : Post} (l : List It) (σ : Regs) (S : Heap) (h : W P n mb R l σ S) : kont P n mb R l .normal σ S := by
  match l with
  | [] => rw [W_nil] at h; exact h
  | .code .skip :: k => rw [W_skip] at h; exact AW_skip (W_sound k σ S h)
  | .code (.region id ops false) :: k => rw [W_reg] at h; exact AW_reg (W_sound (.ops (dstsOf ops) ops.toList :: k) σ S h)
  | .code (.region id ops true) :: k => rw [W_draw] at h; exact h
  | .code (.seq a b) :: k =>
    rw [W_seq] at h
    have := W_sound (.code a :: .code b :: k) σ S h
    refine AW_seq (AW.mono this fun e σ' S' hq => ?_)
    cases e <;> exact hq
  | .code (.cond c x y) :: k =>
    rw [W_cond] at h
    split at h
    · rename_i t ht
      exact AW_cond ht (fun e => W_sound (.code x :: k) σ S (h.1 e)) (fun e => W_sound (.code y :: k) σ S (h.2 e))
    · exact h.elim
  | .code (.block id c) :: k => rw [W_block] at h; exact AW_block (W_sound (.code c :: .fin id :: k) σ S h)
  | .code (.exit id) :: k =>
    rw [W_exit] at h
    cases hd : dropTo id k with
    | none => rw [hd] at h; exact AW_exit (kont_exit_none h hd)
    | some k' =>
      rw [hd] at h
      have := dropTo_total hd
      exact AW_exit (kont_exit hd (W_sound k' σ S h))
  | .code .ret :: k => rw [W_ret] at h; exact AW_ret (kont_ret h k)
  | .fin id :: k =>
    rw [W_fin] at h
    exact W_sound k σ S h
  | .ops ds [] :: k => rw [W_ops_nil] at h; exact W_sound k σ S h
  | .ops ds (o :: l) :: k =>
    rw [W_ops_cons] at h
    show RunG P n mb ds (o :: l) σ S (kont P n mb R k .normal)
    simp only [RunG]
    split at h
    · rename_i hg
      rw [hg]; simp only
      split at h
      · rename_i p hp
        rw [hp]; exact ⟨h.1, W_sound (.ops ds l :: k) _ S h.2⟩
      · rename_i hp
        rw [hp]; exact h
    · rename_i g want hg
      rw [hg]; simp only
      split at h
      · exact h.elim
      · rename_i b hb
        rw [hb]; simp only
        obtain ⟨h1, h2, h3⟩ := h
        refine ⟨h1, fun e => ?_, fun e => W_sound (.ops ds l :: k) _ S (h3 e)⟩
        have h2' := h2 e
        split at h2'
        · rename_i p hp
          rw [hp]; exact W_sound (.ops ds l :: k) _ S h2'
        · rename_i hp
          rw [hp]; exact h2'
  | .code (.loop c) :: k => rw [W_loop] at h; exact h
  | .code (.rangeFunc f ps x c) :: k => rw [W_rangeFunc] at h; exact h
  | .code (.scope c) :: k => rw [W] at h <;> first | exact h | simp
  | .code (.label c) :: k => rw [W] at h <;> first | exact h | simp
  | .code (.goto c) :: k => rw [W] at h <;> first | exact h | simp
  | .code (.refuse c) :: k => rw [W] at h <;> first | exact h | simp
termination_by total l
decreasing_by
  all_goals simp only [total, It.size, csize, List.length_cons]
  all_goals first
    | omega
    | (have := csize_pos x; have := csize_pos y; omega)

theorem CallsA_W {P : Program} {f : FuncId} {fn : Func} {c : Code} {ps : List PV} {S : Heap} {Po : PV → Heap → Prop} (mb : Tmp → Bool) (hf : P.funcs[f]? = some fn) (hb : fn.body = some c) (hn : ps.length ≤ fn.ntmps)
    (h : W P fn.ntmps mb (retPost P fn.results Po) [.code c] (sig0 ps) S) : CallsA P f ps S Po := by
  refine CallsA_of hf hb hn ?_
  have := W_sound _ _ _ h
  exact this

/-! The rules for what simp leaves -/
section
variable {P : Program} {n : Nat} {mb : Tmp → Bool} {R : Post} {k : List It} {σ : Regs} {S : Heap} {o : Oper} {ds : List (Option Tmp)} {l : List Oper}
theorem OpW_of (h : OpA P n o σ S (fun σ' S' => W P n mb R (.ops ds l :: k) σ' S')) : OpW P n mb R o ds l k σ S := h.mono fun σ' S' hw => W_sound _ _ _ hw
theorem OpW_call {x : Operand} {as : Array Operand} {ts : Array TypeId} {g : FuncId} {fs cs ps : List PV} {d : Option Tmp} {ty : TypeId} {pos : String} {af : Array Edge} {gd : Option (Nat × Bool)} (hx : ev σ x = .fn (.func g) fs cs) (hps : fs ++ as.toList.map (ev σ) ++ cs = ps) (hg : callable P g = true)
    (hd : okDst n d = true) (hc : CallsA P g ps S (fun p S' => W P n mb R (.ops ds l :: k) (updO σ d p) S')) : OpW P n mb R { dst := d, op := .call { callee := .value x, args := as, argTypes := ts }, type := ty, pos := pos, after := af, guard := gd } ds l k σ S :=
  OpW_of (OpA_call rfl hx hg (okDst_spec hd) (by rw [hps]; exact hc))
/-- An operation of which a run is known: it leaves the world. -/
theorem OpW_run {p : PV} {o : Oper} (hd : okDst n o.dst = true) (hrun : ∀ w a, St n w S a σ → ∃ v, (execOp a.eval o).run P w = .ok (.value v) w ∧ Rep w S.im p v) (hk : W P n mb R (.ops ds l :: k) (updO σ o.dst p) S) : OpW P n mb R o ds l k σ S := by
  refine OpW_of fun w0 S0 w a hs hx next Qx hnext => ?_
  obtain ⟨v, h1, h2⟩ := hrun w a hs
  simp only [Oper.wp, h1, Oper.upon]
  exact hnext _ w _ S (hs.put (okDst_spec hd) h2) hx hk
/-- At a loop's end. -/
def loopEnd (m : Nat) (I : Nat → Regs → Heap → Prop) (P : Program) (n : Nat) (mb : Tmp → Bool) (R : Post) (k : List It) : Post
  | .normal, σ, S => ∃ m', m' < m ∧ I m' σ S
  | .exit id, σ, S => match dropTo id k with
    | some k' => W P n mb R k' σ S
    | none => False
  | .ret, σ, S => R .ret σ S
  | _, _, _ => False
theorem CodeW_loop {c : Code} (I : Nat → Regs → Heap → Prop) (m : Nat) (h0 : I m σ S) (round : ∀ m σ S, I m σ S → W P n mb (loopEnd m I P n mb R k) [.code c] σ S) : CodeW P n mb R (.loop c) k σ S := by
  refine AW_loop I m h0 fun m σ S hI => ?_
  have := W_sound _ _ _ (round m σ S hI)
  refine AW.mono this fun e σ' S' hq => ?_
  cases e with
  | normal => exact hq
  | exit id =>
    simp only [kont, loopEnd] at hq
    show kont P n mb R k (.exit id) σ' S'
    split at hq
    · rename_i k' hk; exact kont_exit hk (W_sound _ _ _ hq)
    · exact hq.elim
  | ret => exact kont_ret (R := R) (show R .ret σ' S' from hq) k
  | goto l => exact hq.elim
  | panic c => exact hq.elim
  | outgrown => exact hq.elim
theorem CodeW_draw {id : Nat} {ops : Array Oper} (hm : P.follows .mixedOrders = true) (k0 : Nat) (hok : drawOk ops k0 = true)
    (h : RunQ P n (dstsOf ops) (ops.toList.take k0) σ S (fun σ' => W P n mb R (.ops (dstsOf ops) (ops.toList.drop k0) :: k) σ' S)) : CodeW P n mb R (.region id ops true) k σ S := by
  refine AW_draw (mb := mb) hm k0 hok ?_
  have mono : ∀ (l : List Oper) (σ : Regs) (K K' : Regs → Prop), (∀ σ, K σ → K' σ) → RunQ P n (dstsOf ops) l σ S K → RunQ P n (dstsOf ops) l σ S K' := by
    intro l
    induction l with
    | nil => intro σ K K' hk h; exact hk σ h
    | cons o l ih =>
      intro σ K K' hk h
      simp only [RunQ] at h ⊢
      split at h
      · split at h
        · exact ⟨h.1, ih _ K K' hk h.2⟩
        · obtain ⟨h1, p, h2, h3⟩ := h; exact ⟨h1, p, h2, ih _ K K' hk h3⟩
      · split at h
        · exact h.elim
        · obtain ⟨h1, h2, h3⟩ := h
          refine ⟨h1, fun e => ?_, fun e => ih _ K K' hk (h3 e)⟩
          have h2' := h2 e
          split at h2'
          · exact ih _ K K' hk h2'
          · obtain ⟨p, h4, h5⟩ := h2'; exact ⟨p, h4, ih _ K K' hk h5⟩
  exact mono _ _ _ _ (fun σ' hw => W_sound (.ops (dstsOf ops) (ops.toList.drop k0) :: k) σ' S hw) h
end

/-! The same in a form in which simp looks at nothing before it is needed -/
section
variable (P : Program) (n : Nat) (mb : Tmp → Bool) (R : Post)
def doW (o : Oper) (ds : List (Option Tmp)) (l : List Oper) (k : List It) (σ : Regs) (S : Heap) : Option PV → Prop
  | some p => okDst n o.dst = true ∧ W P n mb R (.ops ds l :: k) (updO σ o.dst p) S
  | none => OpW P n mb R o ds l k σ S
def doG (o : Oper) (ds : List (Option Tmp)) (l : List Oper) (k : List It) (σ : Regs) (S : Heap) : Option PV → Prop
  | some p => W P n mb R (.ops ds l :: k) (updO σ o.dst p) S
  | none => OpW P n mb R o ds l k σ S
def guardW (o : Oper) (want : Bool) (ds : List (Option Tmp)) (l : List Oper) (k : List It) (σ : Regs) (S : Heap) : Option Bool → Prop
  | none => False
  | some b => okDst n o.dst = true ∧ (b = want → doG P n mb R o ds l k σ S (evalS P S mb o.dst σ o.op)) ∧ (b = (!want) → W P n mb R (.ops ds l :: k) (updO σ o.dst (.tup [])) S)
def opW (o : Oper) (ds : List (Option Tmp)) (l : List Oper) (k : List It) (σ : Regs) (S : Heap) : Option (Nat × Bool) → Prop
  | none => doW P n mb R o ds l k σ S (evalS P S mb o.dst σ o.op)
  | some (g, want) => guardW P n mb R o want ds l k σ S (guardVal n ds g want σ)
def condW (x y : Code) (k : List It) (σ : Regs) (S : Heap) : PV → Prop
  | .bool t => (t = true → W P n mb R (.code x :: k) σ S) ∧ (t = false → W P n mb R (.code y :: k) σ S)
  | _ => False
def exitW (id : Nat) (σ : Regs) (S : Heap) : Option (List It) → Prop
  | some k => W P n mb R k σ S
  | none => R (.exit id) σ S
end
section
variable {P : Program} {n : Nat} {mb : Tmp → Bool} {R : Post} {k : List It} {σ : Regs} {S : Heap} {o : Oper} {ds : List (Option Tmp)} {l : List Oper}
theorem W_op : W P n mb R (.ops ds (o :: l) :: k) σ S = opW P n mb R o ds l k σ S o.guard := by
  rw [W_ops_cons]
  cases hg : o.guard with
  | none =>
    simp only [opW]
    cases he : evalS P S mb o.dst σ o.op <;> simp only [doW]
  | some x =>
    obtain ⟨g, want⟩ := x
    simp only [opW]
    cases hb : guardVal n ds g want σ with
    | none => simp only [guardW]
    | some b =>
      simp only [guardW]
      cases he : evalS P S mb o.dst σ o.op <;> simp only [doG]
theorem W_if {c : Operand} {x y : Code} : W P n mb R (.code (.cond c x y) :: k) σ S = condW P n mb R x y k σ S (ev σ c) := by
  rw [W_cond]
  cases ev σ c <;> simp only [condW]
theorem W_out {id : Nat} : W P n mb R (.code (.exit id) :: k) σ S = exitW P n mb R id σ S (dropTo id k) := by
  rw [W_exit]
  cases dropTo id k <;> simp only [exitW]
theorem opW_none : opW P n mb R o ds l k σ S none = doW P n mb R o ds l k σ S (evalS P S mb o.dst σ o.op) := rfl
theorem opW_some {g : Nat} {want : Bool} : opW P n mb R o ds l k σ S (some (g, want)) = guardW P n mb R o want ds l k σ S (guardVal n ds g want σ) := rfl
theorem doW_some {p : PV} : doW P n mb R o ds l k σ S (some p) = (okDst n o.dst = true ∧ W P n mb R (.ops ds l :: k) (updO σ o.dst p) S) := rfl
theorem doW_none : doW P n mb R o ds l k σ S none = OpW P n mb R o ds l k σ S := rfl
theorem doG_some {p : PV} : doG P n mb R o ds l k σ S (some p) = W P n mb R (.ops ds l :: k) (updO σ o.dst p) S := rfl
theorem doG_none : doG P n mb R o ds l k σ S none = OpW P n mb R o ds l k σ S := rfl
theorem guardW_tt : guardW P n mb R o true ds l k σ S (some true) = (okDst n o.dst = true ∧ doG P n mb R o ds l k σ S (evalS P S mb o.dst σ o.op)) := by simp [guardW]
theorem guardW_ff : guardW P n mb R o false ds l k σ S (some false) = (okDst n o.dst = true ∧ doG P n mb R o ds l k σ S (evalS P S mb o.dst σ o.op)) := by simp [guardW]
theorem guardW_tf : guardW P n mb R o true ds l k σ S (some false) = (okDst n o.dst = true ∧ W P n mb R (.ops ds l :: k) (updO σ o.dst (.tup [])) S) := by simp [guardW]
theorem guardW_ft : guardW P n mb R o false ds l k σ S (some true) = (okDst n o.dst = true ∧ W P n mb R (.ops ds l :: k) (updO σ o.dst (.tup [])) S) := by simp [guardW]
theorem guardW_t {p : Prop} [Decidable p] : guardW P n mb R o true ds l k σ S (some (decide p)) = (okDst n o.dst = true ∧ (p → doG P n mb R o ds l k σ S (evalS P S mb o.dst σ o.op)) ∧ (¬ p → W P n mb R (.ops ds l :: k) (updO σ o.dst (.tup [])) S)) := by simp [guardW]
theorem guardW_f {p : Prop} [Decidable p] : guardW P n mb R o false ds l k σ S (some (decide p)) = (okDst n o.dst = true ∧ (¬ p → doG P n mb R o ds l k σ S (evalS P S mb o.dst σ o.op)) ∧ (p → W P n mb R (.ops ds l :: k) (updO σ o.dst (.tup [])) S)) := by simp [guardW]
theorem condW_t {x y : Code} : condW P n mb R x y k σ S (.bool true) = W P n mb R (.code x :: k) σ S := by simp [condW]
theorem condW_f {x y : Code} : condW P n mb R x y k σ S (.bool false) = W P n mb R (.code y :: k) σ S := by simp [condW]
theorem condW_d {x y : Code} {p : Prop} [Decidable p] : condW P n mb R x y k σ S (.bool (decide p)) = ((p → W P n mb R (.code x :: k) σ S) ∧ (¬ p → W P n mb R (.code y :: k) σ S)) := by simp [condW]
theorem split_d {x y : Code} {p : Prop} [Decidable p] (h1 : p → W P n mb R (.code x :: k) σ S) (h2 : ¬ p → W P n mb R (.code y :: k) σ S) : condW P n mb R x y k σ S (.bool (decide p)) := by rw [condW_d]; exact ⟨h1, h2⟩
theorem split_b {x y : Code} {t : Bool} (h1 : t = true → W P n mb R (.code x :: k) σ S) (h2 : t = false → W P n mb R (.code y :: k) σ S) : condW P n mb R x y k σ S (.bool t) := ⟨h1, h2⟩
theorem split_gt {p : Prop} [Decidable p] (hd : okDst n o.dst = true) (h1 : p → doG P n mb R o ds l k σ S (evalS P S mb o.dst σ o.op)) (h2 : ¬ p → W P n mb R (.ops ds l :: k) (updO σ o.dst (.tup [])) S) : guardW P n mb R o true ds l k σ S (some (decide p)) := by rw [guardW_t]; exact ⟨hd, h1, h2⟩
theorem split_gf {p : Prop} [Decidable p] (hd : okDst n o.dst = true) (h1 : ¬ p → doG P n mb R o ds l k σ S (evalS P S mb o.dst σ o.op)) (h2 : p → W P n mb R (.ops ds l :: k) (updO σ o.dst (.tup [])) S) : guardW P n mb R o false ds l k σ S (some (decide p)) := by rw [guardW_f]; exact ⟨hd, h1, h2⟩
theorem split_gb {want t : Bool} (hd : okDst n o.dst = true) (h1 : t = want → doG P n mb R o ds l k σ S (evalS P S mb o.dst σ o.op)) (h2 : t = (!want) → W P n mb R (.ops ds l :: k) (updO σ o.dst (.tup [])) S) : guardW P n mb R o want ds l k σ S (some t) := ⟨hd, h1, h2⟩
theorem exitW_some {id : Nat} {k' : List It} : exitW P n mb R id σ S (some k') = W P n mb R k' σ S := rfl
theorem exitW_none {id : Nat} : exitW P n mb R id σ S none = R (.exit id) σ S := rfl

/-- A region whose order is drawn, its quiet operations in the text's order; the last ones; the rest. -/
def QW (P : Program) (n : Nat) (mb : Tmp → Bool) (R : Post) (ds : List (Option Tmp)) (q tail : List Oper) (k : List It) (σ : Regs) (S : Heap) : Prop := RunQ P n ds q σ S (fun σ' => W P n mb R (.ops ds tail :: k) σ' S)
def QCW (P : Program) (n : Nat) (mb : Tmp → Bool) (R : Post) (o : Oper) (ds : List (Option Tmp)) (q tail : List Oper) (k : List It) (σ : Regs) (S : Heap) : Prop := QC P o σ S (fun p => QW P n mb R ds q tail k (updO σ o.dst p) S)
end
section
variable (P : Program) (n : Nat) (mb : Tmp → Bool) (R : Post)
def qdo (o : Oper) (ds : List (Option Tmp)) (q tail : List Oper) (k : List It) (σ : Regs) (S : Heap) : Option PV → Prop
  | some p => QW P n mb R ds q tail k (updO σ o.dst p) S
  | none => QCW P n mb R o ds q tail k σ S
def qguard (o : Oper) (want : Bool) (ds : List (Option Tmp)) (q tail : List Oper) (k : List It) (σ : Regs) (S : Heap) : Option Bool → Prop
  | none => False
  | some b => okDst n o.dst = true ∧ (b = want → qdo P n mb R o ds q tail k σ S (evalS P S noMb o.dst σ o.op)) ∧ (b = (!want) → QW P n mb R ds q tail k (updO σ o.dst (.tup [])) S)
def qop (o : Oper) (ds : List (Option Tmp)) (q tail : List Oper) (k : List It) (σ : Regs) (S : Heap) : Option (Nat × Bool) → Prop
  | none => okDst n o.dst = true ∧ qdo P n mb R o ds q tail k σ S (evalS P S noMb o.dst σ o.op)
  | some (g, want) => qguard P n mb R o want ds q tail k σ S (guardVal n ds g want σ)
end
section
variable {P : Program} {n : Nat} {mb : Tmp → Bool} {R : Post} {k : List It} {σ : Regs} {S : Heap} {o : Oper} {ds : List (Option Tmp)} {q tail : List Oper}
theorem QW_nil : QW P n mb R ds [] tail k σ S = W P n mb R (.ops ds tail :: k) σ S := rfl
theorem QW_op : QW P n mb R ds (o :: q) tail k σ S = qop P n mb R o ds q tail k σ S o.guard := by
  unfold QW
  simp only [RunQ]
  cases hg : o.guard with
  | none =>
    simp only [qop]
    cases he : evalS P S noMb o.dst σ o.op <;> simp only [qdo, QW, QCW]
  | some x =>
    obtain ⟨g, want⟩ := x
    simp only [qop]
    cases hb : guardVal n ds g want σ with
    | none => simp only [qguard]
    | some b =>
      simp only [qguard]
      cases he : evalS P S noMb o.dst σ o.op <;> simp only [qdo, QW, QCW]
theorem qop_none : qop P n mb R o ds q tail k σ S none = (okDst n o.dst = true ∧ qdo P n mb R o ds q tail k σ S (evalS P S noMb o.dst σ o.op)) := rfl
theorem qop_some {g : Nat} {want : Bool} : qop P n mb R o ds q tail k σ S (some (g, want)) = qguard P n mb R o want ds q tail k σ S (guardVal n ds g want σ) := rfl
theorem qdo_some {p : PV} : qdo P n mb R o ds q tail k σ S (some p) = QW P n mb R ds q tail k (updO σ o.dst p) S := rfl
theorem qdo_none : qdo P n mb R o ds q tail k σ S none = QCW P n mb R o ds q tail k σ S := rfl
theorem qguard_tt : qguard P n mb R o true ds q tail k σ S (some true) = (okDst n o.dst = true ∧ qdo P n mb R o ds q tail k σ S (evalS P S noMb o.dst σ o.op)) := by simp [qguard]
theorem qguard_ff : qguard P n mb R o false ds q tail k σ S (some false) = (okDst n o.dst = true ∧ qdo P n mb R o ds q tail k σ S (evalS P S noMb o.dst σ o.op)) := by simp [qguard]
theorem qguard_tf : qguard P n mb R o true ds q tail k σ S (some false) = (okDst n o.dst = true ∧ QW P n mb R ds q tail k (updO σ o.dst (.tup [])) S) := by simp [qguard]
theorem qguard_ft : qguard P n mb R o false ds q tail k σ S (some true) = (okDst n o.dst = true ∧ QW P n mb R ds q tail k (updO σ o.dst (.tup [])) S) := by simp [qguard]
theorem qguard_t {p : Prop} [Decidable p] : qguard P n mb R o true ds q tail k σ S (some (decide p)) = (okDst n o.dst = true ∧ (p → qdo P n mb R o ds q tail k σ S (evalS P S noMb o.dst σ o.op)) ∧ (¬ p → QW P n mb R ds q tail k (updO σ o.dst (.tup [])) S)) := by simp [qguard]
theorem qguard_f {p : Prop} [Decidable p] : qguard P n mb R o false ds q tail k σ S (some (decide p)) = (okDst n o.dst = true ∧ (¬ p → qdo P n mb R o ds q tail k σ S (evalS P S noMb o.dst σ o.op)) ∧ (p → QW P n mb R ds q tail k (updO σ o.dst (.tup [])) S)) := by simp [qguard]
theorem CodeW_quiet {id : Nat} {ops : Array Oper} (hm : P.follows .mixedOrders = true) (k0 : Nat) (hok : drawOk ops k0 = true) (h : QW P n mb R (dstsOf ops) (ops.toList.take k0) (ops.toList.drop k0) k σ S) : CodeW P n mb R (.region id ops true) k σ S :=
  CodeW_draw hm k0 hok h
theorem QCW_call {x : Operand} {as : Array Operand} {ts : Array TypeId} {g : FuncId} {fs cs ps : List PV} {p : PV} {d : Option Tmp} {ty : TypeId} {pos : String} {af : Array Edge} {gd : Option (Nat × Bool)} (hx : ev σ x = .fn (.func g) fs cs) (hps : fs ++ as.toList.map (ev σ) ++ cs = ps) (hg : callable P g = true)
    (hc : CallsQ P g ps S p) (hK : QW P n mb R ds q tail k (updO σ d p) S) : QCW P n mb R { dst := d, op := .call { callee := .value x, args := as, argTypes := ts }, type := ty, pos := pos, after := af, guard := gd } ds q tail k σ S :=
  QC_call rfl hx hg (by rw [hps]; exact hc) hK
end

theorem dstsOf_mk (l : List Oper) : dstsOf l.toArray = l.map (·.dst) := rfl
theorem evalS_load {P : Program} {S : Heap} {mb : Tmp → Bool} {d : Option Tmp} {σ : Regs} {t : TypeId} {x : Operand} : evalS P S mb d σ (.load t x) = loadS P S t (ev σ x) := rfl
theorem evalS_box {P : Program} {S : Heap} {mb : Tmp → Bool} {d : Tmp} {σ : Regs} {t : TypeId} {x : Operand} : evalS P S mb (some d) σ (.box t x) = if mb d = true then none else (cellsOf (ev σ x)).map .ref := rfl

attribute [go_sem] W_nil W_skip W_reg W_draw W_loop W_rangeFunc W_seq W_if W_block W_out W_ret W_fin W_ops_nil W_op opW_none opW_some doW_some doW_none doG_some doG_none guardW_tt guardW_ff guardW_tf guardW_ft condW_t condW_f exitW_some exitW_none
  QW_nil QW_op qop_none qop_some qdo_some qdo_none qguard_tt qguard_ff qguard_tf qguard_ft
  dropTo evalS evalOp ev ofVal ofCell updO upd okDst guardVal gsaid dstsOf_mk evalBin evalInt evalStr evalNil evalPick evalLoad evalNilCheck evalUn evalExtract evalSlice evalBuiltin evalMax evalMin
  fieldAddrPV fieldPV indexAddrPV indexPV slicePV lenPV bound buildPV fillPV splice buildSlicePV rowsOf cellsOf convPV bytesOfRows loadPV loadS cellsOn cellsAt set_apply del_apply partsPV loopEnd retPost resA resAll resOne sig0 noMb PV.isOne
  List.map_cons List.map_nil List.getElem?_cons_zero List.getElem?_cons_succ Option.getD_some Option.map_some Option.bind_some List.head?_cons List.length_cons List.length_nil List.take_succ_cons List.take_zero List.drop_succ_cons List.drop_zero List.all_cons List.all_nil List.nil_append List.cons_append List.append_nil

attribute [irreducible] condW guardW qguard doW doG qdo opW qop exitW QCW

end Go.Proofs.Ytcbonfgkfiapaaa.Pv
