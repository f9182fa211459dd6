/- strings.Builder and what it is made of: bytes that grow, pointers to and from unsafe.Pointer, a text out of bytes. -/
import Derived.Test.YtcbonfgkfiapaaaCore4
import Derived.Lib.Builder
import Derived.Lib.AppendStr
import Derived.Lib.UnsafeStr
import Derived.Laws.Externs
set_option linter.unusedVariables false
set_option linter.unusedSimpArgs false
namespace Go.Proofs.Ytcbonfgkfiapaaa.Pv
open Go Go.RowKit

/-- A part of the code told by the code ahead of it. -/
theorem AW_cut {P : Program} {n : Nat} {mb : Tmp → Bool} {x y : Code} {σ : Regs} {S : Heap} {Q : Post} (h : W P n mb (thenA (fun σ' S' => AW P n y σ' S' Q) Q) [.code x] σ S) : AW P n (.seq x y) σ S Q :=
  AW_seq (W_sound _ _ _ h)
theorem AW_end {P : Program} {n : Nat} {mb : Tmp → Bool} {x : Code} {σ : Regs} {S : Heap} {Q : Post} (h : W P n mb Q [.code x] σ S) : AW P n x σ S Q := W_sound _ _ _ h

def brows (l : List UInt8) : List (List PV) := l.map fun c => [PV.int .u8 (c.toNat : Int)]
theorem brows_len (l : List UInt8) : (brows l).length = l.length := by simp [brows]
theorem brows_app (a b : List UInt8) : brows (a ++ b) = brows a ++ brows b := by simp [brows]
theorem brows_flat (l : List UInt8) : (brows l).flatten = l.map fun c => PV.int .u8 (c.toNat : Int) := by
  induction l with
  | nil => rfl
  | cons c l ih => simp [brows, ← ih]
theorem brows_rep {w : World} {im : Nat → Prop} (l : List UInt8) : RepVals w im (brows l).flatten (Lib.byteCells l) := by
  rw [brows_flat]
  exact repVals_map (fun c : UInt8 => PV.int .u8 (c.toNat : Int)) (fun c => Value.int .u8 c.toNat) (fun c => by simp [Rep]) l
theorem brows_vals {w : World} {im : Nat → Prop} {l : List UInt8} {vs : List Value} (h : RepVals w im (brows l).flatten vs) : vs = Lib.byteCells l := by
  induction l generalizing vs with
  | nil => exact repVals_nil.1 h
  | cons c l ih =>
    cases vs with
    | nil => have := repVals_length h; simp [brows] at this
    | cons v vs =>
      have h' : RepVals w im (PV.int .u8 (c.toNat : Int) :: (brows l).flatten) (v :: vs) := h
      obtain ⟨h1, h2⟩ := repVals_cons.1 h'
      simp only [Rep] at h1
      rw [ih h2, h1]; rfl
theorem brows_one (l : List UInt8) : ∀ r ∈ brows l, r.length = 1 := by
  intro r hr
  obtain ⟨c, _, rfl⟩ := List.mem_map.1 hr
  rfl
/-- Bytes that grow: none at all, or some of the call's own. -/
def Buf (S : Heap) (e : TypeId) (l : List UInt8) (p : PV) : Prop :=
  (p = .nils ∧ l = []) ∨ ∃ b cap cap', p = .vec b l.length cap ∧ S b = some (.rows 1 (brows l) cap' e) ∧ l.length ≤ cap ∧ cap ≤ cap' ∧ l ≠ []
theorem Buf.le {S S' : Heap} {e : TypeId} {l : List UInt8} {p : PV} (h : Buf S e l p) (hl : S.le S') : Buf S' e l p := by
  rcases h with h | ⟨b, cap, cap', h1, h2, h3⟩
  · exact Or.inl h
  · exact Or.inr ⟨b, cap, cap', h1, hl _ _ h2, h3⟩
theorem Buf.cells {S : Heap} {e : TypeId} {l : List UInt8} {p : PV} (h : Buf S e l p) : cellsOf p = some [p] ∧ p.isOne = true := by
  rcases h with ⟨rfl, _⟩ | ⟨b, cap, cap', rfl, _⟩ <;> exact ⟨rfl, rfl⟩
/-- What appending does. -/
structure BufRel (e : TypeId) (S : Heap) (ps : PV) (l : List UInt8) (p : PV) (S' : Heap) : Prop where
  buf : Buf S' e l p
  own : ownB p = ownB ps ∨ ∃ b, ownB p = some b ∧ S b = none
  rest : ∀ c, ownB p ≠ some c → S' c = S c

/-- What a byte's type is like. -/
structure ByteT (P : Program) (e : TypeId) : Prop where
  info : ∃ inf, P.info? e = some inf ∧ inf.zero = some (.int .u8 0) ∧ inf.size = 1 ∧ inf.bytes = 1

section
variable {P : Program} {n : Nat} {mb : Tmp → Bool} {R : Post} {σ : Regs} {S : Heap}
theorem OpA_appendS {o : Oper} {K : Regs → Heap → Prop} {t u e : TypeId} {s x : Operand} {l m : List UInt8} {ps : PV} (ho : o.op = .call { callee := .builtin .append, args := #[s, x], argTypes := #[t, u] }) (ht : P.underlying t = some (.slice e)) (hu : P.underlying u = some .string) (hb : ByteT P e) (hd : ∀ x, o.dst = some x → x < n)
    (hx : ev σ x = .str m) (hps : ev σ s = ps) (hs : Buf S e l ps) (h63 : l.length + m.length ≤ 140737488355328)
    (hK : ∀ p S', BufRel e S ps (l ++ m) p S' → K (updO σ o.dst p) S') : OpA P n o σ S K := by
  subst hps
  intro w0 S0 w a hst hext next Qx hnext
  obtain ⟨inf, hi, hz, hsz, hby⟩ := hb.info
  have hmaxl : (140737488355328 : Nat) ≤ maxLen := by decide
  have hxv := rep_ev hst x
  rw [hx] at hxv
  simp only [Rep] at hxv
  have hsr := rep_ev hst s
  have hsl : (⟨m.toArray⟩ : ByteArray).size = m.length := by simp [ByteArray.size]
  have hsc : Lib.strCells ⟨m.toArray⟩ = Lib.byteCells m := by rw [Lib.strCells_eq]
  have hexec : ∀ v w', (Builtin.append_ #[t, u] o.type #[a.eval s, a.eval x]).run P w = .ok v w' → (execOp a.eval o).run P w = .ok (.value v) w' := by
    intro v w' hr
    simp only [execOp, ho, resolve, invoke, builtin, Sem.run_bind, Sem.run_pure, Result.andThen_ok, List.map_toArray, List.map_cons, List.map_nil, hr]
  have go : ∀ v w' p S', (Builtin.append_ #[t, u] o.type #[a.eval s, a.eval x]).run P w = .ok v w' → Rep w' S'.im p v → St n w' S' a σ → Ext w S w' S' → K (updO σ o.dst p) S' → o.wp P a w next Qx := by
    intro v w' p S' hr hrep hst' hext' hK
    simp only [Oper.wp, hexec v w' hr, Oper.upon]
    exact hnext _ _ _ _ (hst'.put hd hrep) (hext.trans hext') hK
  have fresh : ∀ (cap : Nat) (tl : Array Value), tl.size = cap - (l.length + m.length) → l.length + m.length ≤ cap → cap ≤ maxLen → l ++ m ≠ [] →
      (Builtin.append_ #[t, u] o.type #[a.eval s, a.eval x]).run P w = .ok (.slice (some ⟨w.heap.size, 0, none⟩) (l.length + m.length) cap) (w.drew.alloc (.cells ((Lib.byteCells l).toArray ++ (Lib.byteCells m).toArray ++ tl) e)) → o.wp P a w next Qx := by
    intro cap tl htl hcap hmax hne hrun
    have hst' : St n w.drew S a σ := drew_st hst
    have hext' : Ext w S w.drew S := drew_ext (Ext.refl w S)
    have hsum : ((Lib.byteCells l).toArray ++ (Lib.byteCells m).toArray ++ tl).size = cap * 1 := by
      simp only [Array.size_append, List.size_toArray, Lib.byteCells_length, htl]
      omega
    obtain ⟨e1, e2, e3⟩ := new_block hst' (.cells ((Lib.byteCells l).toArray ++ (Lib.byteCells m).toArray ++ tl) e) (.rows 1 (brows (l ++ m)) cap e)
      (holds_rows (vs := Lib.byteCells (l ++ m)) (alloc_block w.drew _) hsum (by rw [brows_len, List.length_append]; exact hcap) hmax (brows_one _) (brows_rep _) ⟨tl.toList, by simp [Lib.byteCells_append]⟩)
    refine go _ _ (.vec w.heap.size (l ++ m).length cap) _ hrun (by simp only [Rep, List.length_append]) e2 (hext'.trans e3) (hK _ _ ⟨Or.inr ⟨w.heap.size, cap, cap, rfl, by rw [set_apply, if_pos]; rfl, by rw [List.length_append]; exact hcap, Nat.le_refl _, hne⟩, Or.inr ⟨_, rfl, e1⟩, fun c hc => ?_⟩)
    rw [set_apply, if_neg]
    intro h; subst h; exact hc rfl
  rcases hs with ⟨hs, rfl⟩ | ⟨b, cap, cap', hs, hblk, hkc, hcc, hl0⟩
  · rw [hs] at hsr; simp only [Rep] at hsr
    by_cases hm0 : m = []
    · subst hm0
      refine go (.slice none 0 0) w .nils S ?_ (by simp only [Rep]) hst (Ext.refl w S) (hK _ _ ⟨Or.inl ⟨rfl, rfl⟩, Or.inl (by rw [hs]), fun c _ => rfl⟩)
      rw [hsr, hxv]
      simp [Builtin.append_, run_underlying ht, run_underlying hu, sizeOf, typeInfo, hi, hsz, Builtin.lenOf, ByteArray.size, Builtin.firstCells, ByteArray.extract]
    · have hpos : 0 < m.length := List.length_pos_iff.2 hm0
      simp only [List.length_nil, Nat.zero_add] at h63 fresh
      refine fresh (grownCap w m.length 0 e) (Builtin.zeroCells (Value.int .u8 0).cells (grownCap w m.length 0 e - m.length)) (by rw [size_zeroCells]; show _ * 1 = _; omega) (grownCap_ge w m.length 0 e) (grownCap_le_maxLen w m.length 0 e (by omega)) (by simpa using hm0) ?_
      rw [hsr, hxv]
      have := run_append_nil_string (P := P) w t u o.type e inf (.int .u8 0) ht hu hi hz ⟨m.toArray⟩ (by omega) (by omega) (by rw [hby]; omega)
      rw [hsl] at this
      have e1 : ((⟨m.toArray⟩ : ByteArray).data.map fun b => Value.int .u8 b.toNat) = (Lib.byteCells m).toArray := by
        apply Array.ext'
        simp [Lib.byteCells]
      rw [e1] at this
      simpa [Lib.byteCells] using this
  · rw [hs] at hsr; simp only [Rep] at hsr
    obtain ⟨arr, b1, b2, b3, b4, b5⟩ := hst.heap b _ hblk
    obtain ⟨ovs, o1, o2⟩ := repAt_vals (repAt_flatten b5)
    have o3 := brows_vals o1
    subst o3
    have hne : l ++ m ≠ [] := by simp [hl0]
    by_cases hroom : l.length + m.length ≤ cap
    · have hfit : l.length + (⟨m.toArray⟩ : ByteArray).size ≤ arr.size := by rw [hsl, b2]; omega
      have hrun := Lib.run_append_room_string (P := P) w t u o.type e inf ht hu hi hsz b l.length cap arr b1 ⟨m.toArray⟩ (by rw [hsl]; exact hroom) hfit
      rw [hsl, hsc] at hrun
      have htake : arr.toList.take l.length = Lib.byteCells l := by
        apply List.ext_getElem?
        intro j
        by_cases hj : j < l.length
        · rw [List.getElem?_take_of_lt hj, Array.getElem?_toList]
          have hj' : j < (Lib.byteCells l).length := by rw [Lib.byteCells_length]; exact hj
          have := o2 j (Lib.byteCells l)[j] (List.getElem?_eq_getElem hj')
          rw [Nat.zero_add, cell_of_block b1] at this
          rw [this, List.getElem?_eq_getElem hj']
        · rw [List.getElem?_eq_none (by rw [List.length_take]; omega), List.getElem?_eq_none (by rw [Lib.byteCells_length]; omega)]
      rw [htake] at hrun
      have hset : w.setRow b (Lib.byteCells l ++ Lib.byteCells m ++ arr.toList.drop (l.length + m.length)).toArray = setBlk w b (.cells (Lib.byteCells l ++ Lib.byteCells m ++ arr.toList.drop (l.length + m.length)).toArray e (0, 0)) := by
        have hbl : b < w.heap.size := (Array.getElem?_eq_some_iff.1 b1).1
        unfold World.setRow setBlk
        congr 1
        apply Array.ext'
        apply List.ext_getElem?
        intro i
        simp only [Array.getElem?_toList, Array.getElem?_modify]
        by_cases ee : i = b
        · subst ee
          have hb' : w.heap[i] = .cells arr e (0, 0) := by rw [Array.getElem?_eq_getElem hbl] at b1; exact Option.some.inj b1
          simp [hbl, hb']
        · rw [if_neg (Ne.symm ee), Array.getElem?_setIfInBounds_ne (Ne.symm ee)]
      rw [hset] at hrun
      obtain ⟨e1, e2⟩ := set_block hst hblk (.cells (Lib.byteCells l ++ Lib.byteCells m ++ arr.toList.drop (l.length + m.length)).toArray e (0, 0)) (.rows 1 (brows (l ++ m)) cap' e)
        (fun w' im' hkp hb' => holds_rows (vs := Lib.byteCells (l ++ m)) hb' (by simp only [List.size_toArray, List.length_append, List.length_drop, Array.length_toList, Lib.byteCells_length]; rw [← b2]; rw [hsl] at hfit; omega) (by rw [brows_len, List.length_append]; omega) b4 (brows_one _) (brows_rep _) ⟨arr.toList.drop (l.length + m.length), by simp [Lib.byteCells_append]⟩)
      refine go (.slice (some ⟨b, 0, none⟩) (l.length + m.length) cap) _ (.vec b (l ++ m).length cap) _ ?_ (by simp only [Rep, List.length_append]) e1 e2 (hK _ _ ⟨Or.inr ⟨b, cap, cap', rfl, by rw [set_apply, if_pos rfl], by rw [List.length_append]; exact hroom, hcc, hne⟩, Or.inl (by rw [hs]; rfl), fun c hc => ?_⟩)
      · rw [hsr, hxv]; exact hrun
      · rw [set_apply, if_neg]
        intro h; subst h; exact hc rfl
    · have hge := grownCap_ge w (l.length + m.length) cap e
      refine fresh (grownCap w (l.length + m.length) cap e) (Builtin.zeroCells (Value.int .u8 0).cells (grownCap w (l.length + m.length) cap e - (l.length + m.length))) (by rw [size_zeroCells]; show _ * 1 = _; omega) hge (grownCap_le_maxLen w _ cap e (by omega)) hne ?_
      rw [hsr, hxv]
      have := Lib.run_append_grow_string (P := P) w t u o.type e inf (.int .u8 0) ht hu hi hz ⟨b, 0, none⟩ l.length cap (Lib.byteCells l) (by rw [Lib.byteCells_length, hsz]; omega) (fun j v hj => by rw [add_addr]; exact o2 j v hj) ⟨m.toArray⟩ (by rw [hsl]; omega) (by rw [hsl]; omega) (by rw [hsl, hby]; exact growslice_fits (by omega) (by omega))
      rw [hsl, hsc] at this
      exact this
theorem OpA_allocX {o : Oper} {K : Regs → Heap → Prop} {t : TypeId} {cs : List PV} {z : Value} (ho : o.op = .alloc t) (hz : (P.info? t).bind (·.zero) = some z) (hv : ∀ w im, RepVals w im cs z.cells.toList) (hd : ∀ x, o.dst = some x → x < n)
    (hK : ∀ b, S b = none → K (updO σ o.dst (.mp b 0)) (S.set b (.cells cs t))) : OpA P n o σ S K := by
  intro w0 S0 w a hs hx next Qx hnext
  cases hi : P.info? t with
  | none => rw [hi] at hz; simp at hz
  | some inf =>
    rw [hi] at hz
    simp only [Option.bind_some] at hz
    have hrun : (execOp a.eval o).run P w = .ok (.value (.pointer (some ⟨w.heap.size, 0, none⟩))) (w.alloc (.cells z.cells t)) := by
      simp only [execOp, ho, Instr.alloc, Sem.run_bind, zeroValue, run_typeInfo hi, hz, Result.andThen_ok, Sem.run_pure, newVar, newRow]
      rfl
    obtain ⟨h1, h2, h3⟩ := new_block hs (.cells z.cells t) (.cells cs t) ⟨z.cells, alloc_block w _, hv _ _⟩
    simp only [Oper.wp, hrun, Oper.upon]
    exact hnext _ _ _ _ (h2.put hd (by simp only [Rep])) (hx.trans h3) (hK _ h1)

/-! unsafe.Pointer -/
theorem holds_shape {w : World} {im : Nat → Prop} {b : Nat} {cs : List PV} {ty : TypeId} (h : Holds w im b (.cells cs ty)) : w.shape? b = some (ty, cs.length) := by
  obtain ⟨arr, h1, h2⟩ := h
  have := repVals_length h2
  simp only [Array.length_toList] at this
  simp [World.shape?, h1, this]
theorem OpW_toUnsafe {ds : List (Option Tmp)} {l : List Oper} {k : List It} {o : Oper} {src dst t ty : TypeId} {x : Operand} {b : Nat} {cs : List PV} {j : TypeInfo} (ho : o.op = .convert src dst x) (hs : P.underlying src = some (.pointer t)) (hd : P.underlying dst = some .unsafePointer) (ht : P.info? t = some j) (hj : j.size ≠ 0)
    (hx : ev σ x = .mp b 0) (hb : S b = some (.cells cs ty)) (hc : 0 < cs.length) (hdst : okDst n o.dst = true) (hk : W P n mb R (.ops ds l :: k) (updO σ o.dst (.mp b 0)) S) : OpW P n mb R o ds l k σ S := by
  refine OpW_run (p := .mp b 0) hdst (fun w a hst => ?_) hk
  have hr := rep_ev hst x
  rw [hx] at hr; simp only [Rep] at hr
  refine ⟨.pointer (some ⟨b, 0, none⟩), ?_, by simp only [Rep]⟩
  have := Lib.run_to_unsafe (P := P) w (dst := dst) ⟨b, 0, none⟩ hs hd ht hj (holds_shape (hst.heap b _ hb)) hc
  simp only [execOp, ho, hr, Sem.run_bind, this, Result.andThen_ok, Sem.run_pure]
theorem OpW_fromUnsafe {ds : List (Option Tmp)} {l : List Oper} {k : List It} {o : Oper} {src dst u ty : TypeId} {x : Operand} {b : Nat} {cs : List PV} {j : TypeInfo} (ho : o.op = .convert src dst x) (hs : P.underlying src = some .unsafePointer) (hd : P.underlying dst = some (.pointer u)) (hu : P.info? u = some j)
    (hx : ev σ x = .mp b 0) (hb : S b = some (.cells cs ty)) (hl : liesAt P P.depth ty (cs.length / P.cellsOf ty) 0 u 1 = true) (hdst : okDst n o.dst = true) (hk : W P n mb R (.ops ds l :: k) (updO σ o.dst (.mp b 0)) S) : OpW P n mb R o ds l k σ S := by
  refine OpW_run (p := .mp b 0) hdst (fun w a hst => ?_) hk
  have hr := rep_ev hst x
  rw [hx] at hr; simp only [Rep] at hr
  refine ⟨.pointer (some ⟨b, 0, none⟩), ?_, by simp only [Rep]⟩
  have := Lib.run_from_unsafe (P := P) w (src := src) ⟨b, 0, none⟩ hs hd hu (holds_shape (hst.heap b _ hb)) hl
  simp only [execOp, ho, hr, Sem.run_bind, this, Result.andThen_ok, Sem.run_pure]
/-- A call that gives back what it is given. -/
theorem OpW_same {ds : List (Option Tmp)} {l : List Oper} {k : List It} {o : Oper} {f x : Operand} {ts : Array TypeId} {g : FuncId} {fn : Func} {b : Nat} (ho : o.op = .call { callee := .value f, args := #[x], argTypes := ts }) (hf : ev σ f = .fn (.func g) [] []) (hg : P.funcs[g]? = some fn) (hname : (fn.name == "runtime.NumGoroutine") = false)
    (hb : fn.body.isNone = true) (hn : Extern.findNext fn = none) (he : Extern.find fn = some Extern.AbiNoEscape.same) (hx : ev σ x = .mp b 0) (hdst : okDst n o.dst = true) (hk : W P n mb R (.ops ds l :: k) (updO σ o.dst (.mp b 0)) S) : OpW P n mb R o ds l k σ S := by
  refine OpW_run (p := .mp b 0) hdst (fun w a hst => ?_) hk
  have hr := rep_ev hst x
  rw [hx] at hr; simp only [Rep] at hr
  have hfr := rep_ev hst f
  rw [hf] at hfr
  simp only [Rep] at hfr
  obtain ⟨fa, ca, e, h1, h2⟩ := hfr
  have e1 : fa = #[] := by have := repVals_nil.1 h1; simpa using this
  have e2 : ca = #[] := by have := repVals_nil.1 h2; simpa using this
  subst e1 e2
  refine ⟨.pointer (some ⟨b, 0, none⟩), ?_, by simp only [Rep]⟩
  have := run_callFunc_extern (P := P) hg hname hb hn he #[Value.pointer (some ⟨b, 0, none⟩)] w
  rw [Lib.run_noEscape] at this
  simp only [execOp, ho, resolve, Sem.run_bind, e, Deferred.ofValue, Sem.run_pure, Result.andThen_ok, invoke]
  simpa [hr] using this
/-- Is a pointer another one than itself? -/
theorem OpW_samePtr {ds : List (Option Tmp)} {l : List Oper} {k : List It} {o : Oper} {tp te u : TypeId} {x y : Operand} {b : Nat} {j : TypeInfo} (ho : o.op = .binOp .neq tp x y u) (hp : P.underlying tp = some (.pointer te)) (hte : P.info? te = some j) (hx : ev σ x = .mp b 0) (hy : ev σ y = .mp b 0)
    (hdst : okDst n o.dst = true) (hk : W P n mb R (.ops ds l :: k) (updO σ o.dst (.bool false)) S) : OpW P n mb R o ds l k σ S := by
  refine OpW_run (p := .bool false) hdst (fun w a hst => ?_) hk
  have hr := rep_ev hst x
  rw [hx] at hr; simp only [Rep] at hr
  have hr' := rep_ev hst y
  rw [hy] at hr'; simp only [Rep] at hr'
  refine ⟨.bool false, ?_, by simp only [Rep]⟩
  have := Lib.run_neq_ptr_same (P := P) w ⟨b, 0, none⟩ hp hte
  simp only [execOp, ho, hr, hr', Sem.run_bind, run_guard_other (a := .pointer (some ⟨b, 0, none⟩)) (b := .pointer (some ⟨b, 0, none⟩)) (by simp) (by simp), this, Result.andThen_ok, Sem.run_pure]
/-! A text out of bytes -/
def dataP : PV → PV
  | .vec b _ _ => .mp b 0
  | _ => .nilp
theorem QV_sliceData {o : Oper} {x : Operand} {ts : Array TypeId} {e : TypeId} {l : List UInt8} {p : PV} (ho : o.op = .call { callee := .builtin .unsafeSliceData, args := #[x], argTypes := ts }) (hx : ev σ x = p) (hp : Buf S e l p) : QV P o σ S (dataP p) := by
  intro n σ' w a hag hs next Qx hn
  have hall : ∀ y ∈ o.op.operands.toList, ev σ' y = ev σ y := ev_congr hag
  have r1 := rep_ev hs x
  rw [hall x (by simp [ho, Op.operands, Call.operands]), hx] at r1
  rcases hp with ⟨rfl, _⟩ | ⟨b, cap, cap', rfl, h1, h2, h3, h4⟩
  · simp only [Rep] at r1
    have hrun : (execOp a.eval o).run P w = .ok (.value (.pointer none)) w := by
      have := Lib.run_unsafeSliceData_nil (P := P) w ts o.type 0 0
      simp only [execOp, ho, resolve, invoke, builtin, Sem.run_bind, Sem.run_pure, Result.andThen_ok, List.map_toArray, List.map_cons, List.map_nil, r1, this]
    simp only [Oper.wp, hrun, Oper.upon]
    exact hn _ _ (by simp only [dataP, Rep]) (Ext.refl w S) hs.heap
  · simp only [Rep] at r1
    have hc : cap ≠ 0 := by have := List.length_pos_iff.2 h4; omega
    have hrun : (execOp a.eval o).run P w = .ok (.value (.pointer (some ⟨b, 0, none⟩))) w := by
      have := Lib.run_unsafeSliceData_row (P := P) w ts o.type ⟨b, 0, none⟩ l.length cap hc
      simp only [execOp, ho, resolve, invoke, builtin, Sem.run_bind, Sem.run_pure, Result.andThen_ok, List.map_toArray, List.map_cons, List.map_nil, r1, this]
    simp only [Oper.wp, hrun, Oper.upon]
    exact hn _ _ (by simp only [dataP, Rep]) (Ext.refl w S) hs.heap
theorem QV_bufLen {o : Oper} {x : Operand} {t e : TypeId} {e' : TypeId} {l : List UInt8} {p : PV} (ho : o.op = .call { callee := .builtin .len, args := #[x], argTypes := #[t] }) (ht : P.underlying t = some (.slice e')) (hx : ev σ x = p) (hp : Buf S e l p) : QV P o σ S (.int .i64 (l.length : Int)) := by
  intro n σ' w a hag hs next Qx hn
  have hall : ∀ y ∈ o.op.operands.toList, ev σ' y = ev σ y := ev_congr hag
  have r1 := rep_ev hs x
  rw [hall x (by simp [ho, Op.operands, Call.operands]), hx] at r1
  have hv : ∃ aa c, a.eval x = .slice aa l.length c := by
    rcases hp with ⟨rfl, rfl⟩ | ⟨b, cap, cap', rfl, _⟩ <;> simp only [Rep] at r1
    · exact ⟨_, _, r1⟩
    · exact ⟨_, _, r1⟩
  obtain ⟨aa, c, hv⟩ := hv
  have hrun : (execOp a.eval o).run P w = .ok (.value (.int .i64 (l.length : Int))) w := by
    simp only [execOp, ho, resolve, invoke, builtin, Sem.run_bind, Sem.run_pure, Result.andThen_ok, List.map_toArray, List.map_cons, List.map_nil, hv]
    simp [Builtin.len_, run_under ht, goInt]
  simp only [Oper.wp, hrun, Oper.upon]
  exact hn _ _ (by simp only [Rep]) (Ext.refl w S) hs.heap
/-- From now on the bytes are nobody's. -/
theorem OpA_unsafeString {o : Oper} {K : Regs → Heap → Prop} {x y : Operand} {pt it e : TypeId} {l : List UInt8} {p : PV} (ho : o.op = .call { callee := .builtin .unsafeString, args := #[x, y], argTypes := #[pt, it] }) (hpt : P.underlying pt = some (.pointer e)) (hc1 : P.cellsOf e = 1) (hd : ∀ x, o.dst = some x → x < n)
    (hx : ev σ x = dataP p) (hy : ev σ y = .int .i64 (l.length : Int)) (hp : Buf S e l p)
    (hK : ∀ S', (∀ c, ownB p ≠ some c → S' c = S c) → K (updO σ o.dst (.str l)) S') : OpA P n o σ S K := by
  intro w0 S0 w a hst hext next Qx hnext
  have r1 := rep_ev hst x
  have r2 := rep_ev hst y
  rw [hx] at r1
  rw [hy] at r2
  simp only [Rep] at r2
  rcases hp with ⟨rfl, rfl⟩ | ⟨b, cap, cap', rfl, h1, h2, h3, h4⟩
  · simp only [dataP, Rep] at r1
    have hrun : (execOp a.eval o).run P w = .ok (.value (.string .empty)) w := by
      have := Lib.run_unsafeString_none (P := P) w pt it o.type none
      simp only [List.length_nil, Int.natCast_zero] at r2
      simp only [execOp, ho, resolve, invoke, builtin, Sem.run_bind, Sem.run_pure, Result.andThen_ok, List.map_toArray, List.map_cons, List.map_nil, r1, r2, this]
    simp only [Oper.wp, hrun, Oper.upon]
    exact hnext _ _ _ _ (hst.put hd (by simp only [Rep]; rfl)) hext (hK S fun c _ => rfl)
  · simp only [dataP, Rep] at r1
    obtain ⟨arr, b1, b2, b3, b4, b5⟩ := hst.heap b _ h1
    obtain ⟨ovs, o1, o2⟩ := repAt_vals (repAt_flatten b5)
    have o3 := brows_vals o1
    subst o3
    have hl := List.length_pos_iff.2 h4
    have hml : maxLen ≤ 9223372036854775807 := by decide
    have hrun : (execOp a.eval o).run P w = .ok (.value (.string ⟨l.toArray⟩)) (w.freeze ⟨b, 0, none⟩ l.length) := by
      have := Lib.run_unsafeString_row (P := P) w pt it o.type e hpt hc1 b cap' (by simp [World.shape?, b1, b2]) l h4 (by omega) (by omega) (fun j x hj => by
        rw [add_addr]
        refine o2 j _ ?_
        simp only [Lib.byteCells, List.getElem?_map, hj, Option.map_some])
      simp only [execOp, ho, resolve, invoke, builtin, Sem.run_bind, Sem.run_pure, Result.andThen_ok, List.map_toArray, List.map_cons, List.map_nil, r1, r2, this]
    have hsz : (w.freeze ⟨b, 0, none⟩ l.length).heap.size = w.heap.size := by unfold World.freeze; split <;> simp
    have hother : ∀ c, c ≠ b → (w.freeze ⟨b, 0, none⟩ l.length).heap[c]? = w.heap[c]? := fun c hc => by
      unfold World.freeze
      split
      · rfl
      · simp only [Array.getElem?_modify]
        rw [if_neg (Ne.symm hc)]
    have he : Ext w S (w.freeze ⟨b, 0, none⟩ l.length) (S.del b) := by
      have hne : l.length ≠ 0 := by omega
      refine ⟨?_, ?_, ?_, by omega, fun c hc hs => ?_⟩
      · unfold World.freeze; split <;> rfl
      · unfold World.freeze; split <;> rfl
      · unfold World.freeze; split <;> rfl
      · have hcb : c ≠ b := fun e => by subst e; rw [h1] at hs; cases hs
        exact ⟨by unfold Heap.del; rw [if_neg hcb]; exact hs, hother c hcb⟩
    have hst' : St n (w.freeze ⟨b, 0, none⟩ l.length) (S.del b) a σ := hst.ext he fun c o hc => by
      rw [del_apply] at hc
      split at hc
      · cases hc
      · rename_i hcb
        exact (hst.heap c o hc).keep he.keeps (hother c hcb)
    simp only [Oper.wp, hrun, Oper.upon]
    refine hnext _ _ _ _ (hst'.put hd (by simp only [Rep])) (hext.trans he) (hK _ fun c hc => ?_)
    rw [del_apply, if_neg]
    intro h; subst h; exact hc rfl
end

/-- A builder of the call's own, in block b, that holds the text l; B is what else there is. -/
structure Bldr (e ty : TypeId) (b : Nat) (l : List UInt8) (B S : Heap) : Prop where
  here : ∃ addr buf, S b = some (.cells [addr, buf] ty) ∧ (addr = .nilp ∨ addr = .mp b 0) ∧ Buf S e l buf ∧ ownB buf ≠ some b ∧ ∀ c, ownB buf = some c → B c = none
  le : B.le S
  new : B b = none
theorem Bldr.ext {e ty : TypeId} {b c : Nat} {l : List UInt8} {B S : Heap} {o : MObj} (h : Bldr e ty b l B S) (hc : S c = none) : Bldr e ty b l (B.set c o) (S.set c o) := by
  obtain ⟨⟨addr, buf, h1, h2, h3, h4, h5⟩, h6, h7⟩ := h
  have hbc : b ≠ c := fun e => by subst e; rw [h1] at hc; cases hc
  refine ⟨⟨addr, buf, by rw [set_apply, if_neg hbc]; exact h1, h2, h3.le (Heap.le_set hc), h4, fun d hd => ?_⟩, fun z x hz => ?_, by rw [set_apply, if_neg hbc]; exact h7⟩
  · rw [set_apply, if_neg]
    · exact h5 d hd
    · intro hdc
      subst hdc
      rcases h3 with ⟨rfl, _⟩ | ⟨g, cap, cap', rfl, g1, _⟩
      · cases hd
      · simp only [ownB, Option.some.injEq] at hd
        subst hd; rw [hc] at g1; cases g1
  · rw [set_apply] at hz ⊢
    split at hz
    · rename_i e; rw [if_pos e]; exact hz
    · rename_i e; rw [if_neg e]; exact h6 z x hz
theorem Bldr.upd {e ty : TypeId} {b c : Nat} {l : List UInt8} {B S : Heap} {o o' : MObj} (h : Bldr e ty b l B S) (hc : B c = some o) : Bldr e ty b l (B.set c o') (S.set c o') := by
  obtain ⟨⟨addr, buf, h1, h2, h3, h4, h5⟩, h6, h7⟩ := h
  have hbc : b ≠ c := fun e => by subst e; rw [h7] at hc; cases hc
  have hgc : ownB buf ≠ some c := fun e => by rw [h5 c e] at hc; cases hc
  refine ⟨⟨addr, buf, by rw [set_apply, if_neg hbc]; exact h1, h2, ?_, h4, fun d hd => ?_⟩, fun z x hz => ?_, by rw [set_apply, if_neg hbc]; exact h7⟩
  · rcases h3 with h | ⟨g, cap, cap', rfl, g1, g2⟩
    · exact Or.inl h
    · exact Or.inr ⟨g, cap, cap', rfl, by rw [set_apply, if_neg (fun e => hgc (by rw [e]; rfl))]; exact g1, g2⟩
  · rw [set_apply, if_neg (fun e => hgc (by rw [← e]; exact hd))]
    exact h5 d hd
  · rw [set_apply] at hz ⊢
    split at hz
    · rename_i e; rw [if_pos e]; exact hz
    · rename_i e; rw [if_neg e]; exact h6 z x hz
theorem Bldr.base {e ty : TypeId} {b : Nat} {l : List UInt8} {B B' S : Heap} (h : Bldr e ty b l B S) (hl : B'.le B) : Bldr e ty b l B' S := by
  obtain ⟨⟨addr, buf, h1, h2, h3, h4, h5⟩, h6, h7⟩ := h
  have hn : ∀ c, B c = none → B' c = none := fun c hc => by
    cases hb : B' c with
    | none => rfl
    | some x => have := hl c x hb; rw [hc] at this; cases this
  exact ⟨⟨addr, buf, h1, h2, h3, h4, fun c hc => hn c (h5 c hc)⟩, Heap.le_trans hl h6, hn b h7⟩
theorem Bldr.forget {e ty : TypeId} {b c : Nat} {l : List UInt8} {B S : Heap} {o : MObj} (h : Bldr e ty b l (B.set c o) S) (hc : B c = none) : Bldr e ty b l B S := h.base (Heap.le_set hc)
/-- A block of the base is as it was. -/
theorem Bldr.get {e ty : TypeId} {b c : Nat} {l : List UInt8} {B S : Heap} {o : MObj} (h : Bldr e ty b l B S) (hc : B c = some o) : S c = some o := h.le c o hc
theorem Bldr.start {e ty : TypeId} {b : Nat} {S : Heap} (hb : S b = none) : Bldr e ty b [] S (S.set b (.cells [.nilp, .nils] ty)) :=
  ⟨⟨.nilp, .nils, by rw [set_apply, if_pos rfl], Or.inl rfl, Or.inl ⟨rfl, rfl⟩, by simp [ownB], fun c hc => by cases hc⟩, Heap.le_set hb, hb⟩
/-- Of what is written, if it is written behind what is there. -/
theorem Bldr.wrote {e ty : TypeId} {b : Nat} {l m : List UInt8} {B S S2 : Heap} {addr buf p : PV} (h1 : S b = some (.cells [addr, buf] ty)) (h3 : Buf S e l buf) (h4 : ownB buf ≠ some b) (h5 : ∀ c, ownB buf = some c → B c = none) (h6 : B.le S) (h7 : B b = none)
    (r : BufRel e (S.set b (.cells [.mp b 0, buf] ty)) buf (l ++ m) p S2) : S2 b = some (.cells [.mp b 0, buf] ty) ∧ Bldr e ty b (l ++ m) B (S2.set b (.cells [.mp b 0, p] ty)) := by
  have hpb : ownB p ≠ some b := by
    rcases r.own with h | ⟨c, h8, h9⟩
    · rw [h]; exact h4
    · rw [h8]
      intro e
      simp only [Option.some.injEq] at e
      subst e
      rw [set_apply, if_pos rfl] at h9; cases h9
  have hS2 : S2 b = some (.cells [.mp b 0, buf] ty) := by rw [r.rest b hpb, set_apply, if_pos rfl]
  have hBn : ∀ c, ownB p = some c → B c = none := by
    intro c hc
    rcases r.own with h | ⟨d, h8, h9⟩
    · exact h5 c (by rw [← h]; exact hc)
    · rw [h8] at hc
      simp only [Option.some.injEq] at hc
      subst hc
      rw [set_apply] at h9
      split at h9
      · cases h9
      · cases hB : B d with
        | none => rfl
        | some x => have := h6 d x hB; rw [h9] at this; cases this
  refine ⟨hS2, ⟨.mp b 0, p, by rw [set_apply, if_pos rfl], Or.inr rfl, ?_, hpb, hBn⟩, fun z x hz => ?_, h7⟩
  · rcases r.buf with h | ⟨g, cap, cap', g1, g2, g3⟩
    · exact Or.inl h
    · refine Or.inr ⟨g, cap, cap', g1, ?_, g3⟩
      rw [set_apply, if_neg]
      · exact g2
      · intro e; subst e; exact hpb (by rw [g1]; rfl)
  · have hzb : z ≠ b := fun e => by subst e; rw [h7] at hz; cases hz
    rw [set_apply, if_neg hzb, r.rest z (fun e => by rw [hBn z e] at hz; cases hz), set_apply, if_neg hzb]
    exact h6 z x hz

/-- The method of a pointer's type, told straight. -/
theorem method_ptr {P : Program} {t : TypeId} {name : String} {f : FuncId} {e : TypeId} (hu : P.underlying t = some (.pointer e))
    (hm : (((P.info? t).bind fun i => i.methods.find? (·.name == name)).map fun m => (m.path.toList.isEmpty, m.func)) = some (true, some (f, true))) : ∀ v w, (method (P.types.size + Made.depth) t v name).run P w = .ok (f, v) w := by
  intro v w
  have hd : 0 < Made.depth := by decide
  obtain ⟨n, hn⟩ : ∃ k, P.types.size + Made.depth = k + 1 := ⟨P.types.size + Made.depth - 1, by omega⟩
  rw [hn]
  cases hi : P.info? t with
  | none => rw [hi] at hm; simp at hm
  | some i =>
    rw [hi] at hm
    simp only [Option.bind_some] at hm
    cases hf : i.methods.find? (·.name == name) with
    | none => rw [hf] at hm; simp at hm
    | some m =>
      rw [hf] at hm
      simp only [Option.map_some, Option.some.injEq, Prod.mk.injEq] at hm
      obtain ⟨h1, h2⟩ := hm
      have h3 : m.path.toList = [] := by simpa using h1
      simp [method, run_typeInfo hi, hf, h3, follow, h2, receiverAt, run_underlying hu, Place.get]

/-- A struct's zero value, told as one likes. -/
theorem OpA_build0 {P : Program} {n : Nat} {σ : Regs} {S : Heap} {o : Oper} {K : Regs → Heap → Prop} {t : TypeId} {cs : List PV} {z : Value} {fs : Array Field} (ho : o.op = .build t #[]) (hu : P.underlying t = some (.struct fs)) (hall : fs.toList.all (fun f => (P.info? f.type).isSome) = true)
    (hz : (P.info? t).bind (·.zero) = some z) (hv : ∀ w im, RepVals w im cs z.cells.toList) (hd : okDst n o.dst = true) (hK : K (updO σ o.dst (.agg cs)) S) : OpA P n o σ S K := by
  intro w0 S0 w a hs hx next Qx hnext
  cases hi : P.info? t with
  | none => rw [hi] at hz; simp at hz
  | some inf =>
    rw [hi] at hz
    simp only [Option.bind_some] at hz
    have hpl := fields_places (P := P) (w := w) (fs := fs) fs.toList fun x hx => Option.isSome_iff_exists.1 (List.all_eq_true.1 hall x hx)
    have hm : (fs.mapM (m := Sem) fun f => do pure (f.offset, ← sizeOf f.type)).run P w = .ok (fs.toList.map fun f => (f.offset, P.cellsOf f.type)).toArray w := by
      rw [Array.mapM_eq_mapM_toList, Sem.run_map, hpl, Result.andThen_ok]
    have hb : (Instr.build t #[]).run P w = .ok (.agg z.cells) w := by
      simp only [Instr.build, Sem.run_bind, zeroValue, run_typeInfo hi, hz, Result.andThen_ok, Sem.run_pure, run_under hu, hm, Instr.fill]
    have hrun : (execOp a.eval o).run P w = .ok (.value (.agg z.cells)) w := by
      simp only [execOp, ho, List.map_toArray, List.map_nil, Sem.run_bind, hb, Result.andThen_ok, Sem.run_pure]
    simp only [Oper.wp, hrun, Oper.upon]
    exact hnext _ w _ S (hs.put (okDst_spec hd) (by simp only [Rep]; exact ⟨_, rfl, hv _ _⟩)) hx hK
end Go.Proofs.Ytcbonfgkfiapaaa.Pv
