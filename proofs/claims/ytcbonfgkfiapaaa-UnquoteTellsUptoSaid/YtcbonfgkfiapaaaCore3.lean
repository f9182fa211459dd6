/- A region whose order is drawn ends as the text's order tells, where all but its last operations are quiet and the last ones wait for all before them. Operations on the call's own blocks: new ones, stores, iterators, appends. The rules as one function over what is still to be done, which simp unfolds; and what simp may unfold on the way. -/
import Derived.Test.YtcbonfgkfiapaaaCore2
import Derived.Maps.AppendAt
/-! A region whose order is drawn ends as the text's order tells, where all but its last operations are quiet and the last ones wait for all before them. -/
set_option linter.unusedVariables false
set_option linter.unusedSimpArgs false
namespace Go.Proofs.Ytcbonfgkfiapaaa.Pv
open Go Go.RowKit

/-! The last place at which something is so -/
def lastW (q : Nat → Bool) : Nat → Option Nat
  | 0 => none
  | m + 1 => if q m then some m else lastW q m
theorem lastW_congr {q q' : Nat → Bool} : ∀ {m : Nat}, (∀ i, i < m → q i = q' i) → lastW q m = lastW q' m
  | 0, _ => rfl
  | m + 1, h => by
    simp only [lastW]
    rw [h m (by omega), lastW_congr fun i hi => h i (by omega)]
theorem lastW_top {q : Nat → Bool} {k : Nat} : ∀ {m : Nat}, k < m → q k = true → (∀ i, k < i → i < m → q i = false) → lastW q m = some k
  | 0, h, _, _ => by omega
  | m + 1, h, hk, hi => by
    simp only [lastW]
    by_cases e : k = m
    · subst e; rw [if_pos hk]
    · rw [if_neg (by rw [hi m (by omega) (by omega)]; simp)]
      exact lastW_top (by omega) hk fun i h1 h2 => hi i h1 (by omega)

def dstAt (ops : Array Oper) (i : Nat) : Option Tmp := (ops[i]?).bind (·.dst)
/-- The registers when just the operations of p have been done. -/
def sigAt (ops : Array Oper) (res : Nat → PV) (σ0 : Regs) (p : Nat → Bool) : Regs := fun t =>
  match lastW (fun i => p i && dstAt ops i == some t) ops.size with
  | some i => res i
  | none => σ0 t
theorem sigAt_insert {ops : Array Oper} {res : Nat → PV} {σ0 : Regs} {p p' : Nat → Bool} {k : Nat} (hk : k < ops.size) (hp : ∀ i, i < ops.size → p' i = (p i || i == k)) (hlast : ∀ i t, k < i → i < ops.size → p i = true → dstAt ops i = some t → dstAt ops k ≠ some t) :
    sigAt ops res σ0 p' = updO (sigAt ops res σ0 p) (dstAt ops k) (res k) := by
  funext t
  by_cases e : dstAt ops k = some t
  · have h1 : lastW (fun i => p' i && dstAt ops i == some t) ops.size = some k := by
      refine lastW_top hk (by simp [hp k hk, e]) fun i h1 h2 => ?_
      rw [hp i h2]
      by_cases hpi : p i = true
      · by_cases hd : dstAt ops i = some t
        · exact absurd e (hlast i t h1 h2 hpi hd)
        · simp [hd]
      · have : (i == k) = false := by simp; omega
        simp at hpi; simp [hpi, this]
    simp only [sigAt, h1, updO, e, upd, if_true]
  · have h1 : lastW (fun i => p' i && dstAt ops i == some t) ops.size = lastW (fun i => p i && dstAt ops i == some t) ops.size := by
      refine lastW_congr fun i hi => ?_
      rw [hp i hi]
      by_cases hik : i = k
      · subst hik; simp [e]
      · have : (i == k) = false := by simpa using hik
        simp [this]
    have h2 : updO (sigAt ops res σ0 p) (dstAt ops k) (res k) t = sigAt ops res σ0 p t := by
      cases hd : dstAt ops k with
      | none => rfl
      | some d => simp only [updO, upd]; rw [if_neg]; intro ht; subst ht; exact e hd
    rw [h2]
    simp only [sigAt, h1]

/-! One quiet step -/
def QStep (P : Program) (n : Nat) (ops : Array Oper) (σ : Regs) (S : Heap) (i : Nat) (p : PV) : Prop :=
  ∃ o, ops[i]? = some o ∧ okDst n o.dst = true ∧
    ((o.guard = none ∧ QV P o σ S p) ∨ ∃ g want b, o.guard = some (g, want) ∧ guardVal n (dstsOf ops) g want σ = some b ∧ ((b = want ∧ QV P o σ S p) ∨ (b ≠ want ∧ p = .tup [])))
def QRun (P : Program) (n : Nat) (ops : Array Oper) (S : Heap) : Nat → List PV → Regs → Regs → Prop
  | _, [], σ, σ' => σ' = σ
  | k, p :: ps, σ, σ' => QStep P n ops σ S k p ∧ QRun P n ops S (k + 1) ps (updO σ (dstAt ops k) p) σ'

theorem RunQ_run {P : Program} {n : Nat} {ops : Array Oper} {S : Heap} {K : Regs → Prop} : ∀ (l rest : List Oper) (k : Nat) (σ : Regs), ops.toList.drop k = l ++ rest → RunQ P n (dstsOf ops) l σ S K → ∃ ps σ', ps.length = l.length ∧ QRun P n ops S k ps σ σ' ∧ K σ'
  | [], rest, k, σ, _, h => ⟨[], σ, rfl, rfl, h⟩
  | o :: l, rest, k, σ, hl, h => by
    have ho : ops[k]? = some o := by
      have : ops.toList[k]? = some o := by
        have := congrArg (fun x => x[0]?) hl
        simpa using this
      simpa using this
    have hl' : ops.toList.drop (k + 1) = l ++ rest := by
      have := congrArg (fun x => x.drop 1) hl
      simpa [Nat.add_comm] using this
    have hd : dstAt ops k = o.dst := by simp [dstAt, ho]
    have go : ∀ p, QStep P n ops σ S k p → RunQ P n (dstsOf ops) l (updO σ o.dst p) S K → ∃ ps σ', ps.length = (o :: l).length ∧ QRun P n ops S k ps σ σ' ∧ K σ' := by
      intro p hp hr
      obtain ⟨ps, σ', h1, h2, h3⟩ := RunQ_run l rest (k + 1) _ hl' hr
      exact ⟨p :: ps, σ', by simp [h1], ⟨hp, by rw [hd]; exact h2⟩, h3⟩
    simp only [RunQ] at h
    split at h
    · rename_i hg
      split at h
      · rename_i p hp
        exact go p ⟨o, ho, h.1, Or.inl ⟨hg, QV_pure hp⟩⟩ h.2
      · obtain ⟨h1, p, h2, h3⟩ := h
        exact go p ⟨o, ho, h1, Or.inl ⟨hg, h2⟩⟩ h3
    · rename_i g want hg
      split at h
      · exact h.elim
      · rename_i b hb
        obtain ⟨h1, hy, hn⟩ := h
        by_cases e : b = want
        · have hy' := hy e
          split at hy'
          · rename_i p hp
            exact go p ⟨o, ho, h1, Or.inr ⟨g, want, b, hg, hb, Or.inl ⟨e, QV_pure hp⟩⟩⟩ hy'
          · obtain ⟨p, h2, h3⟩ := hy'
            exact go p ⟨o, ho, h1, Or.inr ⟨g, want, b, hg, hb, Or.inl ⟨e, h2⟩⟩⟩ h3
        · exact go (.tup []) ⟨o, ho, h1, Or.inr ⟨g, want, b, hg, hb, Or.inr ⟨e, rfl⟩⟩⟩ (hn (by cases b <;> cases want <;> simp_all))

theorem lt_succ_dec (i k : Nat) : decide (i < k + 1) = (decide (i < k) || i == k) := by
  rw [Bool.eq_iff_iff]; simp; omega
theorem lastW_none {q : Nat → Bool} (h : ∀ i, q i = false) : ∀ m, lastW q m = none
  | 0 => rfl
  | m + 1 => by simp only [lastW]; rw [if_neg (by rw [h m]; simp), lastW_none h m]
theorem QRun_at {P : Program} {n : Nat} {ops : Array Oper} {S : Heap} {σ0 σ' : Regs} {PS : List PV} (hN : PS.length ≤ ops.size) : ∀ (m k : Nat), PS.length = k + m → QRun P n ops S k (PS.drop k) (sigAt ops (fun i => PS.getD i .any) σ0 (fun i => decide (i < k))) σ' →
    (∀ i, k ≤ i → i < PS.length → QStep P n ops (sigAt ops (fun i => PS.getD i .any) σ0 (fun j => decide (j < i))) S i (PS.getD i .any)) ∧ σ' = sigAt ops (fun i => PS.getD i .any) σ0 (fun j => decide (j < PS.length))
  | 0, k, hk, h => by
    rw [List.drop_of_length_le (by omega)] at h
    simp only [QRun] at h
    refine ⟨fun i h1 h2 => by omega, ?_⟩
    rw [h, show PS.length = k by omega]
  | m + 1, k, hk, h => by
    have hlt : k < PS.length := by omega
    rw [List.drop_eq_getElem_cons hlt] at h
    simp only [QRun] at h
    have hp : PS[k] = PS.getD k .any := by simp [List.getD, List.getElem?_eq_getElem hlt]
    rw [hp] at h
    have hins : sigAt ops (fun i => PS.getD i .any) σ0 (fun i => decide (i < k + 1)) = updO (sigAt ops (fun i => PS.getD i .any) σ0 (fun i => decide (i < k))) (dstAt ops k) (PS.getD k .any) :=
      sigAt_insert (by omega) (fun i hi => lt_succ_dec i k) (fun i t h1 h2 h3 => by have := of_decide_eq_true h3; omega)
    rw [← hins] at h
    obtain ⟨h1, h2⟩ := QRun_at hN m (k + 1) (by omega) h.2
    refine ⟨fun i hi hi' => ?_, h2⟩
    by_cases e : i = k
    · subst e; exact h.1
    · exact h1 i (by omega) hi'

/-! What is asked of the edges, by a run of the kernel -/
def edgeMask (m : List Nat) (o : Oper) : Nat := o.after.toList.foldl (fun s e => if Region.binds .any e then s ||| 2 ^ e.on ||| m.getD e.on 0 else s) 0
def namesOf (ops : Array Oper) (o : Oper) : List Tmp := o.dst.toList ++ tmpsOf o ++ (match o.guard with | some (g, _) => (dstAt ops g).toList | none => [])
def drawOk (ops : Array Oper) (k0 : Nat) : Bool :=
  let m := (Region.before ops).toList
  let l := ops.toList
  k0 ≤ l.length && m.length == l.length &&
  l.zipIdx.all (fun (o, j) => m.getD j 0 == edgeMask m o && o.after.toList.all (fun e => decide (e.on < j))) &&
  l.zipIdx.all (fun (o, j) => l.zipIdx.all fun (u, i) => i == j || (match u.dst with
    | some d => !(namesOf ops o).contains d || (if i < j then (m.getD j 0).testBit i else (m.getD i 0).testBit j)
    | none => true)) &&
  (List.range l.length).all (fun j => decide (j < k0) || (List.range j).all fun i => (m.getD j 0).testBit i)

structure DrawOk (ops : Array Oper) (k0 : Nat) (m : List Nat) : Prop where
  le : k0 ≤ ops.size
  mask : ∀ (j : Nat) (o : Oper), ops[j]? = some o → m.getD j 0 = edgeMask m o
  edge : ∀ (j : Nat) (o : Oper) (e : Edge), ops[j]? = some o → e ∈ o.after → e.on < j
  names : ∀ (i j : Nat) (o : Oper) (d : Tmp), i ≠ j → ops[j]? = some o → dstAt ops i = some d → d ∈ namesOf ops o → (i < j → (m.getD j 0).testBit i = true) ∧ (j < i → (m.getD i 0).testBit j = true)
  forced : ∀ j i, k0 ≤ j → j < ops.size → i < j → (m.getD j 0).testBit i = true
theorem drawOk_spec {ops : Array Oper} {k0 : Nat} (h : drawOk ops k0 = true) : DrawOk ops k0 (Region.before ops).toList := by
  simp only [drawOk, Bool.and_eq_true, decide_eq_true_eq, beq_iff_eq] at h
  obtain ⟨⟨⟨⟨h0, h1⟩, h2⟩, h3⟩, h4⟩ := h
  have mem : ∀ (j : Nat) (o : Oper), ops[j]? = some o → (o, j) ∈ ops.toList.zipIdx := fun j o ho => by
    rw [List.mem_zipIdx_iff_getElem?]; simpa using ho
  refine ⟨by simpa using h0, fun j o ho => ?_, fun j o e ho he => ?_, fun i j o d hij ho hd hn => ?_, fun j i hk hj hi => ?_⟩
  · have := List.all_eq_true.1 h2 (o, j) (mem j o ho)
    simp at this
    simpa using this.1
  · have := List.all_eq_true.1 h2 (o, j) (mem j o ho)
    simp only [Bool.and_eq_true] at this
    exact of_decide_eq_true (List.all_eq_true.1 this.2 e (by simpa using he))
  · unfold dstAt at hd
    cases hu : ops[i]? with
    | none => rw [hu] at hd; simp at hd
    | some u =>
      rw [hu] at hd; simp at hd
      have := List.all_eq_true.1 (List.all_eq_true.1 h3 (o, j) (mem j o ho)) (u, i) (mem i u hu)
      simp only [hd, Bool.or_eq_true, beq_iff_eq, Bool.not_eq_true'] at this
      rcases this with this | this
      · exact absurd this hij
      · rcases this with this | this
        · rw [List.contains_eq_mem] at this; simp at this; exact absurd hn this
        · refine ⟨fun hlt => ?_, fun hlt => ?_⟩
          · rw [if_pos hlt] at this; exact this
          · rw [if_neg (by omega)] at this; exact this
  · have := List.all_eq_true.1 h4 j (by simp; exact hj)
    simp only [Bool.or_eq_true, decide_eq_true_eq] at this
    rcases this with this | this
    · omega
    · exact List.all_eq_true.1 this i (by simp; exact hi)

theorem edgeMask_spec {m : List Nat} {o : Oper} {i : Nat} (h : (edgeMask m o).testBit i = true) : ∃ e ∈ o.after, Region.binds .any e = true ∧ (i = e.on ∨ (m.getD e.on 0).testBit i = true) := by
  unfold edgeMask at h
  have key : ∀ (l : List Edge) (s : Nat), (l.foldl (fun s e => if Region.binds .any e then s ||| 2 ^ e.on ||| m.getD e.on 0 else s) s).testBit i = true → s.testBit i = true ∨ ∃ e ∈ l, Region.binds .any e = true ∧ (i = e.on ∨ (m.getD e.on 0).testBit i = true) := by
    intro l
    induction l with
    | nil => intro s hs; exact Or.inl hs
    | cons e l ih =>
      intro s hs
      simp only [List.foldl_cons] at hs
      rcases ih _ hs with hs | ⟨e', h1, h2⟩
      · split at hs
        · rename_i hb
          simp only [Nat.testBit_or, Bool.or_eq_true, Nat.testBit_two_pow] at hs
          rcases hs with (hs | hs) | hs
          · exact Or.inl hs
          · exact Or.inr ⟨e, by simp, hb, Or.inl (by simpa using (of_decide_eq_true hs).symm)⟩
          · exact Or.inr ⟨e, by simp, hb, Or.inr hs⟩
        · exact Or.inl hs
      · exact Or.inr ⟨e', by simp [h1], h2⟩
  rcases key o.after.toList 0 h with h | ⟨e, h1, h2⟩
  · simp at h
  · exact ⟨e, by simpa using h1, h2⟩

/-- What is listed holds with each operation all that it waits for. -/
def Closed (ops : Array Oper) (listed : Array Bool) : Prop := ∀ (j : Nat) (o : Oper), ops[j]? = some o → listed.getD j false = true → ∀ e ∈ o.after, Region.binds .any e = true → listed.getD e.on false = true
theorem before_listed {ops : Array Oper} {k0 : Nat} {m : List Nat} (hd : DrawOk ops k0 m) {listed : Array Bool} (hc : Closed ops listed) : ∀ (j : Nat) (o : Oper) (i : Nat), ops[j]? = some o → (∀ e ∈ o.after, Region.binds .any e = true → listed.getD e.on false = true) → (m.getD j 0).testBit i = true → listed.getD i false = true := by
  intro j
  induction j using Nat.strongRecOn with
  | _ j ih =>
    intro o i ho he hb
    rw [hd.mask j o ho] at hb
    obtain ⟨e, h1, h2, h3⟩ := edgeMask_spec hb
    rcases h3 with rfl | h3
    · exact he e h1 h2
    · have hlt := hd.edge j o e ho h1
      have hl := he e h1 h2
      have hjs : j < ops.size := (Array.getElem?_eq_some_iff.1 ho).1
      have hoe : ops[e.on]? = some ops[e.on] := Array.getElem?_eq_getElem (by omega)
      exact ih e.on hlt ops[e.on] i hoe (fun e' he' hb' => hc e.on _ hoe hl e' he' hb') h3

/-! How many are left -/
def left (listed : Array Bool) : Nat → Nat
  | 0 => 0
  | m + 1 => left listed m + (if listed.getD m false = true then 0 else 1)
theorem left_set {listed : Array Bool} {j : Nat} (hj : listed.getD j false = false) (hs : j < listed.size) : ∀ (m : Nat), (m ≤ j → left (listed.setIfInBounds j true) m = left listed m) ∧ (j < m → left (listed.setIfInBounds j true) m + 1 = left listed m)
  | 0 => ⟨fun _ => rfl, fun h => by omega⟩
  | m + 1 => by
    obtain ⟨h1, h2⟩ := left_set hj hs m
    simp only [left]
    by_cases e : m = j
    · subst e
      have e1 : (listed.setIfInBounds m true).getD m false = true := by simp [hs]
      refine ⟨fun h => by omega, fun h => ?_⟩
      rw [h1 (Nat.le_refl _), e1, hj]; simp
    · have e1 : (listed.setIfInBounds j true).getD m false = listed.getD m false := getD_set_ne false (Ne.symm e)
      rw [e1]
      exact ⟨fun h => by rw [h1 (by omega)], fun h => by have := h2 (by omega); omega⟩
theorem left_zero {listed : Array Bool} : ∀ {m : Nat}, left listed m = 0 → ∀ i, i < m → listed.getD i false = true
  | 0, _, i, hi => by omega
  | m + 1, h, i, hi => by
    simp only [left] at h
    by_cases e : i = m
    · subst e
      by_cases hl : listed.getD i false = true
      · exact hl
      · rw [if_neg hl] at h; omega
    · exact left_zero (m := m) (by omega) i (by omega)
theorem left_pos {listed : Array Bool} : ∀ {m : Nat}, 0 < left listed m → ∃ i, i < m ∧ listed.getD i false = false ∧ ∀ j, j < i → listed.getD j false = true
  | 0, h => by simp [left] at h
  | m + 1, h => by
    by_cases hm : 0 < left listed m
    · obtain ⟨i, h1, h2, h3⟩ := left_pos hm
      exact ⟨i, by omega, h2, h3⟩
    · simp only [left] at h
      refine ⟨m, by omega, ?_, fun j hj => left_zero (by omega) j hj⟩
      by_cases hl : listed.getD m false = true
      · rw [if_pos hl] at h; omega
      · simpa using hl

theorem getD_true_false {listed : Array Bool} {j : Nat} (hs : j < listed.size) : listed.getD j true = listed.getD j false := by simp [hs]

/-- The last operations, one behind the other. -/
theorem any_tail {P : Program} {ops : Array Oper} {k0 : Nat} {m : List Nat} (hd : DrawOk ops k0 m) {Q : Exit → Act → World → Prop} : ∀ (cnt j fuel : Nat) (listed : Array Bool) (a : Act) (w : World), listed.size = ops.size → (∀ i, i < ops.size → listed.getD i false = decide (i < j)) → k0 ≤ j → ops.size = j + cnt → cnt ≤ fuel →
    wpOps P ops Q (List.range' j cnt) a w → wpAny P .any ops Q fuel listed a w
  | 0, j, fuel, listed, a, w, hs, hl, hk, hj, hf, h => by
    have hr : Region.ready .any ops listed = [] := by
      apply List.eq_nil_iff_forall_not_mem.2
      intro i hi
      obtain ⟨h1, o, ho, _⟩ := mem_ready.1 hi
      have hlt : i < ops.size := (Array.getElem?_eq_some_iff.1 ho).1
      rw [getD_true_false (by omega), hl i hlt] at h1
      simp at h1; omega
    exact wpAny_done hr h fuel
  | cnt + 1, j, fuel, listed, a, w, hs, hl, hk, hj, hf, h => by
    obtain ⟨fuel, rfl⟩ : ∃ f, fuel = f + 1 := ⟨fuel - 1, by omega⟩
    have hc : Closed ops listed := by
      intro i o ho hli e he hb
      have hlt : i < ops.size := (Array.getElem?_eq_some_iff.1 ho).1
      have h1 := hd.edge i o e ho he
      rw [hl i hlt] at hli
      rw [hl e.on (by omega)]
      simp at hli ⊢; omega
    have hjr : j ∈ Region.ready .any ops listed := by
      refine mem_ready.2 ⟨by rw [getD_true_false (by omega), hl j (by omega)]; simp, ops[j], Array.getElem?_eq_getElem (by omega), fun e he hb => ?_⟩
      have h1 := hd.edge j ops[j] e (Array.getElem?_eq_getElem (by omega)) he
      rw [hl e.on (by omega)]; simpa using h1
    refine ⟨fun h0 => (by rw [h0] at hjr; cases hjr), fun i hi => ?_⟩
    have hij : i = j := by
      obtain ⟨h1, o, ho, h2⟩ := mem_ready.1 hi
      have hlt : i < ops.size := (Array.getElem?_eq_some_iff.1 ho).1
      rw [getD_true_false (by omega), hl i hlt] at h1
      simp at h1
      rcases Nat.lt_or_ge j i with h3 | h3
      · have := before_listed hd hc i o j ho h2 (hd.forced i j (by omega) hlt h3)
        rw [hl j (by omega)] at this
        simp at this
      · omega
    subst hij
    rw [List.range'_succ, wpOps_cons] at h
    refine wpOp_mono (fun a w h' => any_tail hd cnt (i + 1) fuel _ a w (by simpa using hs) (fun x hx => ?_) (by omega) (by omega) (by omega) h') h
    by_cases e : i = x
    · subst e; simp [hs, hx]
    · rw [getD_set_ne false e, hl x hx]
      by_cases h1 : x < i <;> simp [h1] <;> omega

theorem drew_ext {w0 w : World} {S0 S : Heap} (h : Ext w0 S0 w S) : Ext w0 S0 { w with drawn := w.drawn + 1 } S := ⟨h.os, h.tape, h.output, h.size, h.kept⟩
theorem drew_st {n : Nat} {w : World} {S : Heap} {a : Act} {σ : Regs} (h : St n w S a σ) : St n { w with drawn := w.drawn + 1 } S a σ := by
  have hx : Ext w S { w with drawn := w.drawn + 1 } S := drew_ext (Ext.refl w S)
  exact h.ext hx fun b o hb => (h.heap b o hb).keep hx.keeps rfl

theorem any_quiet {P : Program} {n : Nat} {ops : Array Oper} {k0 : Nat} {m : List Nat} (hd : DrawOk ops k0 m) {S : Heap} {σ0 : Regs} {res : Nat → PV} {Q : Post} {w0 : World} {S0 : Heap}
    (hq : ∀ i, i < k0 → QStep P n ops (sigAt ops res σ0 (fun j => decide (j < i))) S i (res i))
    (ht : AO P n ops (List.range' k0 (ops.size - k0)) (sigAt ops res σ0 (fun j => decide (j < k0))) S Q) :
    ∀ (fuel : Nat) (listed : Array Bool) (a : Act) (w : World), listed.size = ops.size → Closed ops listed → left listed ops.size ≤ fuel → (∀ j, k0 ≤ j → j < ops.size → listed.getD j false = false) →
      St n w S a (sigAt ops res σ0 (fun i => listed.getD i false)) → Ext w0 S0 w S → wpAny P .any ops (lift n w0 S0 Q) fuel listed a w := by
  have hfull : ∀ (listed : Array Bool), (∀ i, i < ops.size → listed.getD i false = decide (i < k0)) → sigAt ops res σ0 (fun i => listed.getD i false) = sigAt ops res σ0 (fun j => decide (j < k0)) := by
    intro listed h
    funext t
    simp only [sigAt]
    rw [lastW_congr fun i hi => by rw [h i hi]]
  intro fuel
  induction fuel with
  | zero =>
    intro listed a w hs hc hl hk hst hext
    have hz := left_zero (Nat.le_zero.1 hl)
    have hk0 : k0 = ops.size := by
      rcases Nat.lt_or_ge k0 ops.size with h | h
      · have := hk k0 (Nat.le_refl _) h; rw [hz k0 h] at this; cases this
      · have := hd.le; omega
    have hall : ∀ i, i < ops.size → listed.getD i false = decide (i < k0) := fun i hi => by rw [hz i hi]; simp; omega
    refine any_tail hd 0 k0 0 listed a w hs hall (Nat.le_refl _) (by omega) (Nat.le_refl _) ?_
    rw [hfull listed hall] at hst
    have := ht w0 S0 w a hst hext
    rwa [show ops.size - k0 = 0 by omega] at this
  | succ fuel ih =>
    intro listed a w hs hc hl hk hst hext
    by_cases hall : ∀ i, i < ops.size → listed.getD i false = decide (i < k0)
    · -- all of the quiet ones are done
      have hcnt : ops.size - k0 ≤ fuel + 1 := by
        have : ops.size - k0 ≤ left listed ops.size := by
          have aux : ∀ m, m ≤ ops.size → m - k0 ≤ left listed m := by
            intro m
            induction m with
            | zero => intro _; simp
            | succ m ihm =>
              intro hm
              simp only [left]
              have := ihm (by omega)
              by_cases h1 : k0 ≤ m
              · rw [hk m h1 (by omega)]; simp; omega
              · omega
          exact aux ops.size (Nat.le_refl _)
        omega
      refine any_tail hd (ops.size - k0) k0 (fuel + 1) listed a w hs hall (Nat.le_refl _) (by have := hd.le; omega) hcnt ?_
      rw [hfull listed hall] at hst
      exact ht w0 S0 w a hst hext
    · have hnf : ∃ i, i < k0 ∧ listed.getD i false = false := by
        apply Classical.byContradiction
        intro hno
        apply hall
        intro i hi
        by_cases h1 : i < k0
        · have : ¬ listed.getD i false = false := fun h => hno ⟨i, h1, h⟩
          simp at this; simp [this, h1]
        · rw [hk i (by omega) hi]; simp [h1]
      refine ⟨fun h0 => ?_, fun j hj => ?_⟩
      · -- something is ready
        exfalso
        obtain ⟨i, hi, hli⟩ := hnf
        have hpos : 0 < left listed ops.size := by
          rcases Nat.eq_zero_or_pos (left listed ops.size) with h | h
          · have := left_zero h i (by have := hd.le; omega); rw [hli] at this; cases this
          · exact h
        obtain ⟨x, hx, hlx, hbx⟩ := left_pos hpos
        have : x ∈ Region.ready .any ops listed := by
          refine mem_ready.2 ⟨by rw [getD_true_false (by omega)]; exact hlx, ops[x], Array.getElem?_eq_getElem hx, fun e he hb => ?_⟩
          exact hbx e.on (hd.edge x ops[x] e (Array.getElem?_eq_getElem hx) he)
        rw [h0] at this; cases this
      · obtain ⟨hjl, o, ho, hje⟩ := mem_ready.1 hj
        have hjs : j < ops.size := (Array.getElem?_eq_some_iff.1 ho).1
        have hjl' : listed.getD j false = false := by rw [← getD_true_false (by omega)]; exact hjl
        have hjk : j < k0 := by
          rcases Nat.lt_or_ge j k0 with h | h
          · exact h
          · obtain ⟨i, hi, hli⟩ := hnf
            have := before_listed hd hc j o i ho hje (hd.forced j i h hjs (by omega))
            rw [hli] at this; cases this
        obtain ⟨o', ho', hok, hcase⟩ := hq j hjk
        rw [ho] at ho'; injection ho' with ho'; subst ho'
        -- what it looks at stands as in the text's order
        have hsame : ∀ t ∈ namesOf ops o, sigAt ops res σ0 (fun i => listed.getD i false) t = sigAt ops res σ0 (fun i => decide (i < j)) t := by
          intro t htn
          simp only [sigAt]
          have : lastW (fun i => listed.getD i false && dstAt ops i == some t) ops.size = lastW (fun i => decide (i < j) && dstAt ops i == some t) ops.size := by
            refine lastW_congr fun i hi => ?_
            by_cases hdi : dstAt ops i = some t
            · by_cases hij : i = j
              · subst hij; simp [hjl']
              · obtain ⟨n1, n2⟩ := hd.names i j o t hij ho hdi htn
                by_cases hlt : i < j
                · rw [before_listed hd hc j o i ho hje (n1 hlt)]; simp [hlt]
                · have hji : j < i := by omega
                  have : listed.getD i false = false := by
                    by_cases hli : listed.getD i false = true
                    · have hoi : ops[i]? = some ops[i] := Array.getElem?_eq_getElem hi
                      have := before_listed hd hc i ops[i] j hoi (fun e he hb => hc i _ hoi hli e he hb) (n2 hji)
                      rw [hjl'] at this; cases this
                    · simpa using hli
                  rw [this]; simp [hlt]
            · have hf : (dstAt ops i == some t) = false := beq_eq_false_iff_ne.2 hdi
              rw [hf, Bool.and_false, Bool.and_false]
          rw [this]
        have hdst : dstAt ops j = o.dst := by simp [dstAt, ho]
        have hins : sigAt ops res σ0 (fun i => (listed.setIfInBounds j true).getD i false) = updO (sigAt ops res σ0 (fun i => listed.getD i false)) o.dst (res j) := by
          rw [← hdst]
          refine sigAt_insert hjs (fun i hi => ?_) (fun i t h1 h2 h3 h4 h5 => ?_)
          · by_cases e : j = i
            · subst e; simp [hs, hjs]
            · rw [getD_set_ne false e]
              have : (i == j) = false := by simp; exact fun h => e h.symm
              rw [this, Bool.or_false]
          · have hn : t ∈ namesOf ops o := by unfold namesOf; rw [← hdst, h5]; simp
            have hb := (hd.names i j o t (by omega) ho h4 hn).2 h1
            have hoi : ops[i]? = some ops[i] := Array.getElem?_eq_getElem h2
            have := before_listed hd hc i ops[i] j hoi (fun e he hb => hc i _ hoi h3 e he hb) hb
            rw [hjl'] at this; cases this
        have hnext : ∀ (a' : Act) (w' : World), St n w' S a' (updO (sigAt ops res σ0 (fun i => listed.getD i false)) o.dst (res j)) → Ext w0 S0 w' S → wpAny P .any ops (lift n w0 S0 Q) fuel (listed.setIfInBounds j true) a' w' := by
          intro a' w' h1 h2
          refine ih (listed.setIfInBounds j true) a' w' (by simpa using hs) ?_ ?_ ?_ (by rw [hins]; exact h1) h2
          · intro i oi hoi hli e he hb
            by_cases hij : j = i
            · subst hij; rw [ho] at hoi; injection hoi with hoi; subst hoi
              exact getD_set_true (hje e he hb)
            · rw [getD_set_ne false hij] at hli
              exact getD_set_true (hc i oi hoi hli e he hb)
          · have := (left_set hjl' (by omega) ops.size).2 hjs
            omega
          · intro i h1 h2
            rw [getD_set_ne false (by omega)]; exact hk i h1 h2
        have tn : ∀ t ∈ tmpsOf o, t ∈ namesOf ops o := fun t h => by unfold namesOf; simp [h]
        unfold wpOp
        simp only [ho]
        have exec : ∀ p, p = res j → QV P o (sigAt ops res σ0 (fun i => decide (i < j))) S p → o.wp P a w (wpAny P .any ops (lift n w0 S0 Q) fuel (listed.setIfInBounds j true)) (lift n w0 S0 Q) := by
          intro p hp hv
          subst hp
          refine hv n (sigAt ops res σ0 (fun i => listed.getD i false)) w a (fun t htm => hsame t (tn t htm)) hst _ _ fun v w' h1 h2 h3 => ?_
          exact hnext _ w' ((hst.ext h2 h3).put (okDst_spec hok) h1) (hext.trans h2)
        rcases hcase with ⟨hg, hv⟩ | ⟨g, want, b, hg, hb, hcase⟩
        · rw [if_pos (by simp [Region.wanted, hg])]
          exact Or.inl (exec _ rfl hv)
        · obtain ⟨og, d, g1, g2, g3, g4⟩ := guardVal_spec hb
          have hdn : d ∈ namesOf ops o := by unfold namesOf; simp [hg, dstAt, g1, g2]
          have hy : Region.wanted o (yielded ops a.tmps) = (b == want) := wanted_of hst hg g1 g2 g3 (by rw [hsame d hdn]; exact g4)
          rcases hcase with ⟨e, hv⟩ | ⟨e, hp⟩
          · rw [if_pos (by rw [hy]; simp [e])]
            exact Or.inl (exec _ rfl hv)
          · rw [if_neg (by rw [hy]; simp [e])]
            refine hnext _ w ?_ hext
            rw [hp]
            exact hst.put (okDst_spec hok) (rep_undef _ _)

/-- The rule for a region whose order is drawn. -/
theorem AW_draw {P : Program} {n : Nat} {mb : Tmp → Bool} {id : Nat} {ops : Array Oper} {σ : Regs} {S : Heap} {Q : Post} (hm : P.follows .mixedOrders = true) (k0 : Nat) (hok : drawOk ops k0 = true)
    (h : RunQ P n (dstsOf ops) (ops.toList.take k0) σ S (fun σ' => RunG P n mb (dstsOf ops) (ops.toList.drop k0) σ' S (Q .normal))) : AW P n (.region id ops true) σ S Q := by
  have hd := drawOk_spec hok
  obtain ⟨PS, σ', hl, hrun, htail⟩ := RunQ_run (ops.toList.take k0) (ops.toList.drop k0) 0 σ (by simp) h
  have hlen : PS.length = k0 := by rw [hl]; simp; exact Nat.min_eq_left hd.le
  have hz : sigAt ops (fun i => PS.getD i .any) σ (fun i => decide (i < 0)) = σ := by
    funext t
    simp only [sigAt]
    rw [lastW_none (fun i => by simp)]
  obtain ⟨hq, hend⟩ := QRun_at (σ0 := σ) (PS := PS) (by rw [hlen]; exact hd.le) PS.length 0 (by omega) (by rw [hz]; simpa using hrun)
  intro w0 S0 w a hst hext
  refine wp_region_any hm ?_
  have hrep : ∀ i, (Array.replicate ops.size false).getD i false = false := fun i => by
    simp only [Array.getD_eq_getD_getElem?, Array.getElem?_replicate]; split <;> rfl
  refine any_quiet hd (res := fun i => PS.getD i .any) (σ0 := σ) (S := S) (fun i hi => hq i (Nat.zero_le _) (by omega)) ?_ ops.size _ a _ (by simp) ?_ ?_ (fun j _ _ => hrep j) ?_ (drew_ext hext)
  · rw [← hlen, ← hend, hlen]
    have := AO_run (P := P) (n := n) (mb := mb) (ops := ops) (Q := Q) (ops.toList.drop k0) k0 σ' S rfl htail
    simpa using this
  · intro j o ho hlj
    rw [hrep] at hlj; cases hlj
  · have : ∀ m, left (Array.replicate ops.size false) m ≤ m := by
      intro m
      induction m with
      | zero => simp [left]
      | succ m ih => simp only [left]; split <;> omega
    exact this _
  · have : sigAt ops (fun i => PS.getD i .any) σ (fun i => (Array.replicate ops.size false).getD i false) = σ := by
      funext t
      simp only [sigAt]
      rw [lastW_none (fun i => by rw [hrep]; simp)]
    rw [this]
    exact drew_st hst

end Go.Proofs.Ytcbonfgkfiapaaa.Pv

/-! Operations on the call's own blocks: new ones, stores, iterators, appends. -/
set_option linter.unusedVariables false
set_option linter.unusedSimpArgs false
namespace Go.Proofs.Ytcbonfgkfiapaaa.Pv
open Go Go.RowKit

theorem set_im {S : Heap} {b : Nat} {o : MObj} {c : Nat} (h : (S.set b o).im c) : S.im c := by
  unfold Heap.im Heap.set at h
  split at h
  · cases h
  · exact h
/-- A new block, told of. -/
theorem new_block {n : Nat} {w : World} {S : Heap} {a : Act} {σ : Regs} (h : St n w S a σ) (obj : Obj) (mo : MObj) (hm : Holds (w.alloc obj) (S.set w.heap.size mo).im w.heap.size mo) :
    S w.heap.size = none ∧ St n (w.alloc obj) (S.set w.heap.size mo) a σ ∧ Ext w S (w.alloc obj) (S.set w.heap.size mo) := by
  have hn : S w.heap.size = none := not_im_new h.heap (Nat.le_refl _)
  have he : Ext w S (w.alloc obj) (S.set w.heap.size mo) := ⟨rfl, rfl, rfl, by simp, fun b hb hs => ⟨by unfold Heap.set; rw [if_neg (by omega)]; exact hs, Below.heap_alloc _ _ _ hb⟩⟩
  refine ⟨hn, h.ext he fun b o hb => ?_, he⟩
  by_cases e : b = w.heap.size
  · subst e
    simp [Heap.set] at hb; subst hb; exact hm
  · simp only [Heap.set, if_neg e] at hb
    exact (h.heap b o hb).keep he.keeps (Below.heap_alloc _ _ _ (h.heap b o hb).lt)

section
variable {P : Program} {n : Nat} {σ : Regs} {S : Heap}
theorem OpA_alloc {o : Oper} {K : Regs → Heap → Prop} {t : TypeId} {cs : List PV} (ho : o.op = .alloc t) (hz : zeroCells P t = some cs) (hd : ∀ x, o.dst = some x → x < n)
    (hK : ∀ b, S b = none → K (updO σ o.dst (.mp b 0)) (S.set b (.cells cs t))) : OpA P n o σ S K := by
  intro w0 S0 w a hs hx next Qx hnext
  unfold zeroCells at hz
  cases hi : P.info? t with
  | none => rw [hi] at hz; simp at hz
  | some inf =>
    rw [hi] at hz; simp only at hz
    cases hzz : inf.zero with
    | none => rw [hzz] at hz; simp at hz
    | some z =>
      rw [hzz] at hz; simp only [Option.some.injEq] at hz
      have hrun : (execOp a.eval o).run P w = .ok (.value (.pointer (some ⟨w.heap.size, 0, none⟩))) (w.alloc (.cells z.cells t)) := by
        simp only [execOp, ho, Instr.alloc, Sem.run_bind, zeroValue, run_typeInfo hi, hzz, Result.andThen_ok, Sem.run_pure, newVar, newRow]
        rfl
      obtain ⟨h1, h2, h3⟩ := new_block hs (.cells z.cells t) (.cells cs t) ⟨z.cells, alloc_block w _, by
        rw [← hz]
        have := repVals_map (w := w.alloc (.cells z.cells t)) (im := (S.set w.heap.size (.cells (z.cells.toList.map ofCell) t)).im) ofCell id (rep_ofCell _ _) z.cells.toList
        simpa using this⟩
      simp only [Oper.wp, hrun, Oper.upon]
      exact hnext _ _ _ _ (h2.put hd (by simp only [Rep])) (hx.trans h3) (hK _ h1)
theorem OpA_boxM {o : Oper} {K : Regs → Heap → Prop} {t : TypeId} {x : Operand} {cs : List PV} (ho : o.op = .box t x) (hc : cellsOf (ev σ x) = some cs) (hd : ∀ x, o.dst = some x → x < n)
    (hK : ∀ b, S b = none → K (updO σ o.dst (.mp b 0)) (S.set b (.cells cs t))) : OpA P n o σ S K := by
  intro w0 S0 w a hs hx next Qx hnext
  have hv := rep_cells (rep_ev hs x) hc
  have hrun : (execOp a.eval o).run P w = .ok (.value (.pointer (some ⟨w.heap.size, 0, none⟩))) (w.alloc (.cells (a.eval x).cells t)) := by
    simp only [execOp, ho, Instr.box, Sem.run_bind, Result.andThen_ok, Sem.run_pure, newVar, newRow]
    rfl
  have he : Ext w S (w.alloc (.cells (a.eval x).cells t)) (S.set w.heap.size (.cells cs t)) := ⟨rfl, rfl, rfl, by simp, fun b hb hs => ⟨by unfold Heap.set; rw [if_neg (by omega)]; exact hs, Below.heap_alloc _ _ _ hb⟩⟩
  obtain ⟨h1, h2, h3⟩ := new_block hs (.cells (a.eval x).cells t) (.cells cs t) ⟨(a.eval x).cells, alloc_block w _, RepVals.keep he.keeps _ hv⟩
  simp only [Oper.wp, hrun, Oper.upon]
  exact hnext _ _ _ _ (h2.put hd (by simp only [Rep])) (hx.trans h3) (hK _ h1)

/-! Iterators over texts -/
theorem OpA_range {o : Oper} {K : Regs → Heap → Prop} {t : TypeId} {x : Operand} {l : List UInt8} (ho : o.op = .range t x) (ht : isStr P t = true) (hx : ev σ x = .str l) (hd : ∀ x, o.dst = some x → x < n)
    (hK : ∀ b, S b = none → K (updO σ o.dst (.mp b 0)) (S.set b (.iter l 0))) : OpA P n o σ S K := by
  intro w0 S0 w a hs hext next Qx hnext
  have hr := rep_ev hs x
  rw [hx] at hr; simp only [Rep] at hr
  have hrun : (execOp a.eval o).run P w = .ok (.value (.pointer (some ⟨w.heap.size, 0, none⟩))) (w.alloc (.stringIter ⟨l.toArray⟩ 0)) := by
    simp only [execOp, ho, Instr.range, Sem.run_bind, run_under (isStr_spec ht), hr, Result.andThen_ok, Sem.run_pure, run_newObj]
    rfl
  obtain ⟨h1, h2, h3⟩ := new_block hs (.stringIter ⟨l.toArray⟩ 0) (.iter l 0) (alloc_block w _)
  simp only [Oper.wp, hrun, Oper.upon]
  exact hnext _ _ _ _ (h2.put hd (by simp only [Rep])) (hext.trans h3) (hK _ h1)

/-- A block of the call's own is written. -/
def setBlk (w : World) (b : Nat) (o : Obj) : World := { w with heap := w.heap.setIfInBounds b o }
theorem set_block {n : Nat} {w : World} {S : Heap} {a : Act} {σ : Regs} (h : St n w S a σ) {b : Nat} {o0 : MObj} (hb : S b = some o0) (obj : Obj) (mo : MObj) (hm : ∀ w' im', Keeps w w' S.im im' → w'.heap[b]? = some obj → Holds w' im' b mo) :
    St n (setBlk w b obj) (S.set b mo) a σ ∧ Ext w S (setBlk w b obj) (S.set b mo) := by
  have hlt : b < w.heap.size := (h.heap b o0 hb).lt
  have hother : ∀ c, c ≠ b → (setBlk w b obj).heap[c]? = w.heap[c]? := fun c hc => by simp only [setBlk]; rw [Array.getElem?_setIfInBounds_ne (Ne.symm hc)]
  have hself : (setBlk w b obj).heap[b]? = some obj := by simp [setBlk, hlt]
  have he : Ext w S (setBlk w b obj) (S.set b mo) := ⟨rfl, rfl, rfl, by simp [setBlk], fun c hc hs => by
    have hne : c ≠ b := fun e => by subst e; rw [hb] at hs; cases hs
    exact ⟨by unfold Heap.set; rw [if_neg hne]; exact hs, hother c hne⟩⟩
  refine ⟨h.ext he fun c o hc => ?_, he⟩
  by_cases e : c = b
  · subst e
    simp [Heap.set] at hc; subst hc; exact hm _ _ he.keeps hself
  · simp only [Heap.set, if_neg e] at hc
    exact (h.heap c o hc).keep he.keeps (hother c e)

theorem OpA_next {o : Oper} {K : Regs → Heap → Prop} {x : Operand} {b : Nat} {l : List UInt8} {pos : Nat} (ho : o.op = .next x true) (hx : ev σ x = .mp b 0) (hb : S b = some (.iter l pos)) (hd : ∀ x, o.dst = some x → x < n)
    (hK : if pos < l.length then K (updO σ o.dst (.tup [.bool true, .int .i64 (pos : Int), .int .i32 (Utf8.decode ⟨l.toArray⟩ pos).1])) (S.set b (.iter l (pos + (Utf8.decode ⟨l.toArray⟩ pos).2))) else K (updO σ o.dst (.tup [.bool false])) S) : OpA P n o σ S K := by
  intro w0 S0 w a hs hext next Qx hnext
  have hr := rep_ev hs x
  rw [hx] at hr; simp only [Rep] at hr
  have hh : w.heap[b]? = some (.stringIter ⟨l.toArray⟩ pos) := hs.heap b _ hb
  have hget : (getObj b).run P w = .ok (.stringIter ⟨l.toArray⟩ pos) w := by simp [getObj, Sem.run, hh]
  have hsz : (⟨l.toArray⟩ : ByteArray).size = l.length := by simp [ByteArray.size]
  by_cases hlt : pos < l.length
  · rw [if_pos hlt] at hK
    have hrun : (execOp a.eval o).run P w = .ok (.value (.tuple #[.bool true, goInt pos, .int .i32 (Utf8.decode ⟨l.toArray⟩ pos).1])) (setBlk w b (.stringIter ⟨l.toArray⟩ (pos + (Utf8.decode ⟨l.toArray⟩ pos).2))) := by
      simp only [execOp, ho, Instr.next, Sem.run_bind, hr, hget, Result.andThen_ok, hsz]
      rw [if_pos hlt]
      simp only [Sem.run_bind, setObj, Sem.run, hh, Result.andThen_ok, Sem.run_pure]
      rfl
    obtain ⟨h1, h2⟩ := set_block hs hb (.stringIter ⟨l.toArray⟩ (pos + (Utf8.decode ⟨l.toArray⟩ pos).2)) (.iter l (pos + (Utf8.decode ⟨l.toArray⟩ pos).2)) (fun w' im' _ h => h)
    simp only [Oper.wp, hrun, Oper.upon]
    refine hnext _ _ _ _ (h1.put hd ?_) (hext.trans h2) hK
    simp only [Rep]
    exact ⟨_, rfl, repVals_cons.2 ⟨by simp [Rep], repVals_cons.2 ⟨by simp [Rep, goInt], repVals_cons.2 ⟨by simp [Rep], repVals_nil.2 rfl⟩⟩⟩⟩
  · rw [if_neg hlt] at hK
    have hrun : (execOp a.eval o).run P w = .ok (.value (.tuple #[.bool false])) w := by
      simp only [execOp, ho, Instr.next, Sem.run_bind, hr, hget, Result.andThen_ok, hsz]
      rw [if_neg hlt]
      simp
    simp only [Oper.wp, hrun, Oper.upon]
    refine hnext _ _ _ _ (hs.put hd ?_) hext hK
    simp only [Rep]
    exact ⟨_, rfl, repVals_cons.2 ⟨by simp [Rep], repVals_nil.2 rfl⟩⟩

/-! Stores -/
def PV.isOne : PV → Bool
  | .any => false
  | .agg _ => false
  | .tup _ => false
  | _ => true
theorem one_cell {w : World} {im : Nat → Prop} {p : PV} {v : Value} (h : Rep w im p v) (h1 : p.isOne = true) : v.oneCell' = true := by
  cases p <;> simp only [PV.isOne, reduceCtorEq] at h1 <;> simp only [Rep] at h
  case ref cs => obtain ⟨_, _, rfl, _⟩ := h; rfl
  case sl0 => obtain ⟨_, rfl⟩ := h; rfl
  case slice sz rows => obtain ⟨_, _, rfl, _⟩ := h; rfl
  case fn f a b => obtain ⟨_, _, rfl, _⟩ := h; rfl
  case iface t x => obtain ⟨_, rfl, _⟩ := h; rfl
  all_goals (subst h; rfl)
theorem one_cells {w : World} {im : Nat → Prop} : ∀ {cs : List PV} {vs : List Value}, RepVals w im cs vs → cs.all PV.isOne = true → ∀ v ∈ vs, v.oneCell' = true
  | [], vs, h, _, v, hv => by rw [repVals_nil] at h; subst h; simp at hv
  | c :: cs, [], h, _, v, hv => by simp at hv
  | c :: cs, u :: vs, h, h1, v, hv => by
    rw [repVals_cons] at h
    simp only [List.all_cons, Bool.and_eq_true] at h1
    simp at hv
    rcases hv with rfl | hv
    · exact one_cell h.1 h1.1
    · exact one_cells h.2 h1.2 v hv

theorem setCell_blk {w : World} {b : Nat} {arr : Array Value} {ty : TypeId} (hb : w.heap[b]? = some (.cells arr ty (0, 0))) (off : Nat) (v : Value) : w.setCell ⟨b, off, none⟩ v = setBlk w b (.cells (arr.setIfInBounds off v) ty (0, 0)) := by
  have hlt : b < w.heap.size := (Array.getElem?_eq_some_iff.1 hb).1
  unfold World.setCell setBlk
  congr 1
  apply Array.ext'
  apply List.ext_getElem?
  intro i
  simp only [Array.getElem?_toList, Array.getElem?_modify]
  by_cases e : i = b
  · subst e
    have hb' : w.heap[i] = .cells arr ty (0, 0) := by rw [Array.getElem?_eq_getElem hlt] at hb; exact Option.some.inj hb
    simp [hlt, hb']
  · rw [if_neg (Ne.symm e), Array.getElem?_setIfInBounds_ne (Ne.symm e)]
theorem run_storeCells {P : Program} {b : Nat} {ty : TypeId} : ∀ (vs : List Value) (w : World) (arr : Array Value) (off i : Nat), w.heap[b]? = some (.cells arr ty (0, 0)) → off + i + vs.length ≤ arr.size → (∀ v ∈ vs, v.oneCell' = true) →
    ∃ arr' : Array Value, (storeCells ⟨b, off, none⟩ vs i).run P w = .ok () (setBlk w b (.cells arr' ty (0, 0))) ∧ arr'.toList = arr.toList.take (off + i) ++ vs ++ arr.toList.drop (off + i + vs.length)
  | [], w, arr, off, i, hb, hl, h1 => by
    have hlt : b < w.heap.size := (Array.getElem?_eq_some_iff.1 hb).1
    refine ⟨arr, ?_, by simp⟩
    have : setBlk w b (.cells arr ty (0, 0)) = w := by
      unfold setBlk
      have : w.heap.setIfInBounds b (.cells arr ty (0, 0)) = w.heap := by
        apply Array.ext'
        apply List.ext_getElem?
        intro j
        simp only [Array.getElem?_toList]
        by_cases e : j = b
        · subst e
          have hb' : w.heap[j] = .cells arr ty (0, 0) := by rw [Array.getElem?_eq_getElem hlt] at hb; exact Option.some.inj hb
          simp [hlt, hb']
        · rw [Array.getElem?_setIfInBounds_ne (Ne.symm e)]
      rw [this]
    rw [this]
    simp [storeCells]
  | v :: vs, w, arr, off, i, hb, hl, h1 => by
    have hlt : b < w.heap.size := (Array.getElem?_eq_some_iff.1 hb).1
    have hl' : off + i < arr.size := by simp at hl; omega
    have hcell : w.cell? ⟨b, off + i, none⟩ = some arr[off + i] := by rw [cell_of_block hb]; exact Array.getElem?_eq_getElem hl'
    have hfr : w.frozen? ⟨b, off + i, none⟩ = false := by simp [World.frozen?, hb]
    have hst : (store ((⟨b, off, none⟩ : Addr).add i) v).run P w = .ok () (setBlk w b (.cells (arr.setIfInBounds (off + i) v) ty (0, 0))) := by
      rw [add_addr, run_store P w _ v .plain (h1 v (by simp)), hcell]
      simp only [hfr]
      rw [setCell_blk hb]
      rfl
    have hb' : (setBlk w b (.cells (arr.setIfInBounds (off + i) v) ty (0, 0))).heap[b]? = some (.cells (arr.setIfInBounds (off + i) v) ty (0, 0)) := by simp [setBlk, hlt]
    obtain ⟨arr', h2, h3⟩ := run_storeCells (P := P) vs _ _ off (i + 1) hb' (by simp at hl ⊢; omega) fun u hu => h1 u (by simp [hu])
    refine ⟨arr', ?_, ?_⟩
    · simp only [storeCells, Sem.run_bind, hst, Result.andThen_ok, h2]
      congr 1
      unfold setBlk
      simp
    · rw [h3]
      have e1 : (arr.setIfInBounds (off + i) v).toList = arr.toList.set (off + i) v := by simp
      rw [e1, List.drop_set_of_lt (by omega)]
      rw [show off + (i + 1) = off + i + 1 by omega, List.take_succ_eq_append_getElem (by simpa using hl')]
      rw [List.take_set_of_le (Nat.le_refl _)]
      simp only [List.append_assoc, List.singleton_append, List.length_cons, Array.getElem_toList]
      rw [show off + i + 1 + vs.length = off + i + (vs.length + 1) by omega]
      simp

theorem OpA_store {o : Oper} {K : Regs → Heap → Prop} {t : TypeId} {x y : Operand} {b off : Nat} {cs ds : List PV} {ty : TypeId} {inf : TypeInfo} (ho : o.op = .store t x y) (hx : ev σ x = .mp b off) (hb : S b = some (.cells cs ty)) (hc : cellsOf (ev σ y) = some ds)
    (h1 : ds.all PV.isOne = true) (hi : P.info? t = some inf) (hsz : inf.size = ds.length) (hle : off + ds.length ≤ cs.length) (hd : ∀ x, o.dst = some x → x < n)
    (hK : K (updO σ o.dst .any) (S.set b (.cells (splice cs off ds) ty))) : OpA P n o σ S K := by
  intro w0 S0 w a hs hext next Qx hnext
  have hr := rep_ev hs x
  rw [hx] at hr; simp only [Rep] at hr
  have hv := rep_cells (rep_ev hs y) hc
  have hvl := repVals_length hv
  obtain ⟨arr, hh, hrv⟩ := hs.heap b _ hb
  have hal := repVals_length hrv
  simp at hal
  obtain ⟨arr', h2, h3⟩ := run_storeCells (P := P) (a.eval y).cells.toList w arr off 0 hh (by rw [hvl, hal]; simpa using hle) (one_cells hv h1)
  have hrun : (execOp a.eval o).run P w = .ok .skip (setBlk w b (.cells arr' ty (0, 0))) := by
    have hs1 : (a.eval y).cells.size = ds.length := by simpa using hvl
    simp only [execOp, ho, Instr.storeAt, Sem.run_bind, hr, Instr.sureAddr, Sem.run_pure, Result.andThen_ok, storeVar, run_sizeOf' hi]
    rw [if_neg (by rw [hs1, hsz]; simp)]
    simp only [h2, Result.andThen_ok]
  obtain ⟨k1, k2⟩ := set_block hs hb (.cells arr' ty (0, 0)) (.cells (splice cs off ds) ty) (fun w' im' hk hb' => ⟨arr', hb', by
    rw [h3, hvl]
    exact repVals_append (repVals_append (repVals_take _ (RepVals.keep hk _ hrv)) (RepVals.keep hk _ hv)) (repVals_drop _ (RepVals.keep hk _ hrv))⟩)
  simp only [Oper.wp, hrun, Oper.upon]
  exact hnext _ _ _ _ (k1.put hd (by simp only [Rep])) (hext.trans k2) hK
end

end Go.Proofs.Ytcbonfgkfiapaaa.Pv

/-! The rules as one function over what is still to be done, which simp unfolds; and what simp may unfold on the way. -/
set_option linter.unusedVariables false
set_option linter.unusedSimpArgs false
namespace Go.Proofs.Ytcbonfgkfiapaaa.Pv
open Go Go.RowKit

/-- What is still to be done. -/
inductive It where
  | code (c : Code)
  | ops (ds : List (Option Tmp)) (l : List Oper)
  | fin (id : Nat)

def csize : Code → Nat
  | .region _ ops _ => ops.toList.length + 2
  | .seq a b => csize a + csize b + 1
  | .cond _ x y => csize x + csize y + 1
  | .block _ c => csize c + 2
  | _ => 1
def It.size : It → Nat
  | .code c => csize c
  | .ops _ l => l.length + 1
  | .fin _ => 1
def total : List It → Nat
  | [] => 0
  | i :: k => i.size + total k
def dropTo (id : Nat) : List It → Option (List It)
  | [] => none
  | .fin id' :: k => if id = id' then some k else dropTo id k
  | .code _ :: k => dropTo id k
  | .ops _ _ :: k => dropTo id k
theorem dropTo_total {id : Nat} : ∀ {k k' : List It}, dropTo id k = some k' → total k' ≤ total k
  | [], k', h => by simp [dropTo] at h
  | .fin id' :: k, k', h => by
    simp only [dropTo] at h
    split at h
    · simp at h; subst h; simp [total]
    · have := dropTo_total h; simp [total]; omega
  | .code c :: k, k', h => by simp only [dropTo] at h; have := dropTo_total h; simp [total]; omega
  | .ops ds l :: k, k', h => by simp only [dropTo] at h; have := dropTo_total h; simp [total]; omega
theorem csize_pos (c : Code) : 0 < csize c := by cases c <;> simp [csize]

/-- All exits of what is still to be done. -/
def kont (P : Program) (n : Nat) (mb : Tmp → Bool) (R : Post) : List It → Post
  | [] => R
  | .code c :: k => fun e σ S => match e with
    | .normal => AW P n c σ S (kont P n mb R k)
    | e => kont P n mb R k e σ S
  | .ops ds l :: k => fun e σ S => match e with
    | .normal => RunG P n mb ds l σ S (kont P n mb R k .normal)
    | e => kont P n mb R k e σ S
  | .fin id :: k => inBlk id (kont P n mb R k)

/-- An operation of which a rule must tell; then the rest. -/
def OpW (P : Program) (n : Nat) (mb : Tmp → Bool) (R : Post) (o : Oper) (ds : List (Option Tmp)) (l : List Oper) (k : List It) (σ : Regs) (S : Heap) : Prop :=
  OpA P n o σ S (fun σ' S' => kont P n mb R (.ops ds l :: k) .normal σ' S')
/-- A loop, or a region whose order is drawn; then the rest. -/
def CodeW (P : Program) (n : Nat) (mb : Tmp → Bool) (R : Post) (c : Code) (k : List It) (σ : Regs) (S : Heap) : Prop := AW P n c σ S (kont P n mb R k)

def W (P : Program) (n : Nat) (mb : Tmp → Bool) (R : Post) (l : List It) (σ : Regs) (S : Heap) : Prop :=
  match l with
  | [] => R .normal σ S
  | .code .skip :: k => W P n mb R k σ S
  | .code (.region _ ops false) :: k => W P n mb R (.ops (dstsOf ops) ops.toList :: k) σ S
  | .code (.seq a b) :: k => W P n mb R (.code a :: .code b :: k) σ S
  | .code (.cond c x y) :: k => match ev σ c with
    | .bool t => (t = true → W P n mb R (.code x :: k) σ S) ∧ (t = false → W P n mb R (.code y :: k) σ S)
    | _ => False
  | .code (.block id c) :: k => W P n mb R (.code c :: .fin id :: k) σ S
  | .code (.exit id) :: k => match h : dropTo id k with
    | some k' => W P n mb R k' σ S
    | none => R (.exit id) σ S
  | .code .ret :: k => R .ret σ S
  | .fin _ :: k => W P n mb R k σ S
  | .ops ds [] :: k => W P n mb R k σ S
  | .ops ds (o :: l) :: k => match o.guard with
    | none => (match evalS P S mb o.dst σ o.op with
      | some p => okDst n o.dst = true ∧ W P n mb R (.ops ds l :: k) (updO σ o.dst p) S
      | none => OpW P n mb R o ds l k σ S)
    | some (g, want) => match guardVal n ds g want σ with
      | none => False
      | some b => okDst n o.dst = true ∧ (b = want → (match evalS P S mb o.dst σ o.op with
          | some p => W P n mb R (.ops ds l :: k) (updO σ o.dst p) S
          | none => OpW P n mb R o ds l k σ S)) ∧
        (b = (!want) → W P n mb R (.ops ds l :: k) (updO σ o.dst (.tup [])) S)
  | .code c :: k => CodeW P n mb R c k σ S
termination_by total l
decreasing_by
  all_goals simp only [total, It.size, csize, List.length_cons]
  all_goals first
    | omega
    | (have := csize_pos x; have := csize_pos y; omega)
    | (have := dropTo_total h; omega)

section
variable {P : Program} {n : Nat} {mb : Tmp → Bool} {R : Post} {k : List It} {σ : Regs} {S : Heap}
theorem W_nil : W P n mb R [] σ S = R .normal σ S := by rw [W]
theorem W_skip : W P n mb R (.code .skip :: k) σ S = W P n mb R k σ S := by rw [W]
theorem W_reg {id : Nat} {ops : Array Oper} : W P n mb R (.code (.region id ops false) :: k) σ S = W P n mb R (.ops (dstsOf ops) ops.toList :: k) σ S := by rw [W]
theorem W_draw {id : Nat} {ops : Array Oper} : W P n mb R (.code (.region id ops true) :: k) σ S = CodeW P n mb R (.region id ops true) k σ S := by rw [W] <;> simp
theorem W_loop {c : Code} : W P n mb R (.code (.loop c) :: k) σ S = CodeW P n mb R (.loop c) k σ S := by rw [W] <;> simp
theorem W_rangeFunc {f : Operand} {ps : Array Tmp} {x c : Code} : W P n mb R (.code (.rangeFunc f ps x c) :: k) σ S = CodeW P n mb R (.rangeFunc f ps x c) k σ S := by rw [W] <;> simp
theorem W_seq {a b : Code} : W P n mb R (.code (.seq a b) :: k) σ S = W P n mb R (.code a :: .code b :: k) σ S := by rw [W]
theorem W_cond {c : Operand} {x y : Code} : W P n mb R (.code (.cond c x y) :: k) σ S = match ev σ c with
    | .bool t => (t = true → W P n mb R (.code x :: k) σ S) ∧ (t = false → W P n mb R (.code y :: k) σ S)
    | _ => False := by rw [W]
theorem W_block {id : Nat} {c : Code} : W P n mb R (.code (.block id c) :: k) σ S = W P n mb R (.code c :: .fin id :: k) σ S := by rw [W]
theorem W_exit {id : Nat} : W P n mb R (.code (.exit id) :: k) σ S = match dropTo id k with
    | some k' => W P n mb R k' σ S
    | none => R (.exit id) σ S := by
  rw [W]
  split <;> rename_i h <;> rw [h]
theorem W_ret : W P n mb R (.code .ret :: k) σ S = R .ret σ S := by rw [W]
theorem W_fin {id : Nat} : W P n mb R (.fin id :: k) σ S = W P n mb R k σ S := by rw [W]
theorem W_ops_nil {ds : List (Option Tmp)} : W P n mb R (.ops ds [] :: k) σ S = W P n mb R k σ S := by rw [W]
theorem W_ops_cons {ds : List (Option Tmp)} {o : Oper} {l : List Oper} : W P n mb R (.ops ds (o :: l) :: k) σ S = match o.guard with
    | none => (match evalS P S mb o.dst σ o.op with
      | some p => okDst n o.dst = true ∧ W P n mb R (.ops ds l :: k) (updO σ o.dst p) S
      | none => OpW P n mb R o ds l k σ S)
    | some (g, want) => match guardVal n ds g want σ with
      | none => False
      | some b => okDst n o.dst = true ∧ (b = want → (match evalS P S mb o.dst σ o.op with
          | some p => W P n mb R (.ops ds l :: k) (updO σ o.dst p) S
          | none => OpW P n mb R o ds l k σ S)) ∧
        (b = (!want) → W P n mb R (.ops ds l :: k) (updO σ o.dst (.tup [])) S) := by rw [W]
end

theorem kont_exit {P : Program} {n : Nat} {mb : Tmp → Bool} {R : Post} {id : Nat} {σ : Regs} {S : Heap} : ∀ {k k' : List It}, dropTo id k = some k' → kont P n mb R k' .normal σ S → kont P n mb R k (.exit id) σ S
  | [], k', h, _ => by simp [dropTo] at h
  | .fin id' :: k, k', h, hk => by
    simp only [dropTo] at h
    simp only [kont, inBlk]
    split at h
    · rename_i e; subst e; simp at h; subst h; rw [if_pos rfl]; exact hk
    · rename_i e; rw [if_neg e]; exact kont_exit h hk
  | .code c :: k, k', h, hk => by simp only [dropTo] at h; simp only [kont]; exact kont_exit h hk
  | .ops ds l :: k, k', h, hk => by simp only [dropTo] at h; simp only [kont]; exact kont_exit h hk
theorem kont_exit_none {P : Program} {n : Nat} {mb : Tmp → Bool} {R : Post} {id : Nat} {σ : Regs} {S : Heap} (hr : R (.exit id) σ S) : ∀ {k : List It}, dropTo id k = none → kont P n mb R k (.exit id) σ S
  | [], _ => hr
  | .fin id' :: k, h => by
    simp only [dropTo] at h
    simp only [kont, inBlk]
    split at h
    · simp at h
    · rename_i e; rw [if_neg e]; exact kont_exit_none hr h
  | .code c :: k, h => by simp only [dropTo] at h; simp only [kont]; exact kont_exit_none hr h
  | .ops ds l :: k, h => by simp only [dropTo] at h; simp only [kont]; exact kont_exit_none hr h
theorem kont_ret {P : Program} {n : Nat} {mb : Tmp → Bool} {R : Post} {σ : Regs} {S : Heap} (h : R .ret σ S) : ∀ (k : List It), kont P n mb R k .ret σ S
  | [] => h
  | .code c :: k => kont_ret h k
  | .ops ds l :: k => kont_ret h k
  | .fin id :: k => kont_ret h k

theorem W_sound {P : Program} {n : Nat} {mb : Tmp → Bool} {R : Post} (l : List It) (σ : Regs) (S : Heap) (h : W P n mb R l σ S) : kont P n mb R l .normal σ S := by
  match l with
  | [] => rw [W_nil] at h; exact h
  | .code .skip :: k => rw [W_skip] at h; exact AW_skip (W_sound k σ S h)
  | .code (.region id ops false) :: k => rw [W_reg] at h; exact AW_reg (W_sound (.ops (dstsOf ops) ops.toList :: k) σ S h)
  | .code (.region id ops true) :: k => rw [W_draw] at h; exact h
  | .code (.seq a b) :: k =>
    rw [W_seq] at h
    have := W_sound (.code a :: .code b :: k) σ S h
    refine AW_seq (AW.mono this fun e σ' S' hq => ?_)
    cases e <;> exact hq
  | .code (.cond c x y) :: k =>
    rw [W_cond] at h
    split at h
    · rename_i t ht
      exact AW_cond ht (fun e => W_sound (.code x :: k) σ S (h.1 e)) (fun e => W_sound (.code y :: k) σ S (h.2 e))
    · exact h.elim
  | .code (.block id c) :: k => rw [W_block] at h; exact AW_block (W_sound (.code c :: .fin id :: k) σ S h)
  | .code (.exit id) :: k =>
    rw [W_exit] at h
    cases hd : dropTo id k with
    | none => rw [hd] at h; exact AW_exit (kont_exit_none h hd)
    | some k' =>
      rw [hd] at h
      have := dropTo_total hd
      exact AW_exit (kont_exit hd (W_sound k' σ S h))
  | .code .ret :: k => rw [W_ret] at h; exact AW_ret (kont_ret h k)
  | .fin id :: k =>
    rw [W_fin] at h
    exact W_sound k σ S h
  | .ops ds [] :: k => rw [W_ops_nil] at h; exact W_sound k σ S h
  | .ops ds (o :: l) :: k =>
    rw [W_ops_cons] at h
    show RunG P n mb ds (o :: l) σ S (kont P n mb R k .normal)
    simp only [RunG]
    split at h
    · rename_i hg
      rw [hg]; simp only
      split at h
      · rename_i p hp
        rw [hp]; exact ⟨h.1, W_sound (.ops ds l :: k) _ S h.2⟩
      · rename_i hp
        rw [hp]; exact h
    · rename_i g want hg
      rw [hg]; simp only
      split at h
      · exact h.elim
      · rename_i b hb
        rw [hb]; simp only
        obtain ⟨h1, h2, h3⟩ := h
        refine ⟨h1, fun e => ?_, fun e => W_sound (.ops ds l :: k) _ S (h3 e)⟩
        have h2' := h2 e
        split at h2'
        · rename_i p hp
          rw [hp]; exact W_sound (.ops ds l :: k) _ S h2'
        · rename_i hp
          rw [hp]; exact h2'
  | .code (.loop c) :: k => rw [W_loop] at h; exact h
  | .code (.rangeFunc f ps x c) :: k => rw [W_rangeFunc] at h; exact h
  | .code (.scope c) :: k => rw [W] at h <;> first | exact h | simp
  | .code (.label c) :: k => rw [W] at h <;> first | exact h | simp
  | .code (.goto c) :: k => rw [W] at h <;> first | exact h | simp
  | .code (.refuse c) :: k => rw [W] at h <;> first | exact h | simp
termination_by total l
decreasing_by
  all_goals simp only [total, It.size, csize, List.length_cons]
  all_goals first
    | omega
    | (have := csize_pos x; have := csize_pos y; omega)

theorem CallsA_W {P : Program} {f : FuncId} {fn : Func} {c : Code} {ps : List PV} {S : Heap} {Po : PV → Heap → Prop} (mb : Tmp → Bool) (hf : P.funcs[f]? = some fn) (hb : fn.body = some c) (hn : ps.length ≤ fn.ntmps)
    (h : W P fn.ntmps mb (retPost P fn.results Po) [.code c] (sig0 ps) S) : CallsA P f ps S Po := by
  refine CallsA_of hf hb hn ?_
  have := W_sound _ _ _ h
  exact this

/-! The rules for what simp leaves -/
section
variable {P : Program} {n : Nat} {mb : Tmp → Bool} {R : Post} {k : List It} {σ : Regs} {S : Heap} {o : Oper} {ds : List (Option Tmp)} {l : List Oper}
theorem OpW_of (h : OpA P n o σ S (fun σ' S' => W P n mb R (.ops ds l :: k) σ' S')) : OpW P n mb R o ds l k σ S := h.mono fun σ' S' hw => W_sound _ _ _ hw
theorem OpW_call {x : Operand} {as : Array Operand} {ts : Array TypeId} {g : FuncId} {fs cs ps : List PV} {d : Option Tmp} {ty : TypeId} {pos : String} {af : Array Edge} {gd : Option (Nat × Bool)} (hx : ev σ x = .fn (.func g) fs cs) (hps : fs ++ as.toList.map (ev σ) ++ cs = ps) (hg : callable P g = true)
    (hd : okDst n d = true) (hc : CallsA P g ps S (fun p S' => W P n mb R (.ops ds l :: k) (updO σ d p) S')) : OpW P n mb R { dst := d, op := .call { callee := .value x, args := as, argTypes := ts }, type := ty, pos := pos, after := af, guard := gd } ds l k σ S :=
  OpW_of (OpA_call rfl hx hg (okDst_spec hd) (by rw [hps]; exact hc))
/-- An operation of which a run is known: it leaves the world. -/
theorem OpW_run {p : PV} {o : Oper} (hd : okDst n o.dst = true) (hrun : ∀ w a, St n w S a σ → ∃ v, (execOp a.eval o).run P w = .ok (.value v) w ∧ Rep w S.im p v) (hk : W P n mb R (.ops ds l :: k) (updO σ o.dst p) S) : OpW P n mb R o ds l k σ S := by
  refine OpW_of fun w0 S0 w a hs hx next Qx hnext => ?_
  obtain ⟨v, h1, h2⟩ := hrun w a hs
  simp only [Oper.wp, h1, Oper.upon]
  exact hnext _ w _ S (hs.put (okDst_spec hd) h2) hx hk
/-- At a loop's end. -/
def loopEnd (m : Nat) (I : Nat → Regs → Heap → Prop) (P : Program) (n : Nat) (mb : Tmp → Bool) (R : Post) (k : List It) : Post
  | .normal, σ, S => ∃ m', m' < m ∧ I m' σ S
  | .exit id, σ, S => match dropTo id k with
    | some k' => W P n mb R k' σ S
    | none => False
  | .ret, σ, S => R .ret σ S
  | _, _, _ => False
theorem CodeW_loop {c : Code} (I : Nat → Regs → Heap → Prop) (m : Nat) (h0 : I m σ S) (round : ∀ m σ S, I m σ S → W P n mb (loopEnd m I P n mb R k) [.code c] σ S) : CodeW P n mb R (.loop c) k σ S := by
  refine AW_loop I m h0 fun m σ S hI => ?_
  have := W_sound _ _ _ (round m σ S hI)
  refine AW.mono this fun e σ' S' hq => ?_
  cases e with
  | normal => exact hq
  | exit id =>
    simp only [kont, loopEnd] at hq
    show kont P n mb R k (.exit id) σ' S'
    split at hq
    · rename_i k' hk; exact kont_exit hk (W_sound _ _ _ hq)
    · exact hq.elim
  | ret => exact kont_ret (R := R) (show R .ret σ' S' from hq) k
  | goto l => exact hq.elim
  | panic c => exact hq.elim
  | outgrown => exact hq.elim
theorem CodeW_draw {id : Nat} {ops : Array Oper} (hm : P.follows .mixedOrders = true) (k0 : Nat) (hok : drawOk ops k0 = true)
    (h : RunQ P n (dstsOf ops) (ops.toList.take k0) σ S (fun σ' => W P n mb R (.ops (dstsOf ops) (ops.toList.drop k0) :: k) σ' S)) : CodeW P n mb R (.region id ops true) k σ S := by
  refine AW_draw (mb := mb) hm k0 hok ?_
  have mono : ∀ (l : List Oper) (σ : Regs) (K K' : Regs → Prop), (∀ σ, K σ → K' σ) → RunQ P n (dstsOf ops) l σ S K → RunQ P n (dstsOf ops) l σ S K' := by
    intro l
    induction l with
    | nil => intro σ K K' hk h; exact hk σ h
    | cons o l ih =>
      intro σ K K' hk h
      simp only [RunQ] at h ⊢
      split at h
      · split at h
        · exact ⟨h.1, ih _ K K' hk h.2⟩
        · obtain ⟨h1, p, h2, h3⟩ := h; exact ⟨h1, p, h2, ih _ K K' hk h3⟩
      · split at h
        · exact h.elim
        · obtain ⟨h1, h2, h3⟩ := h
          refine ⟨h1, fun e => ?_, fun e => ih _ K K' hk (h3 e)⟩
          have h2' := h2 e
          split at h2'
          · exact ih _ K K' hk h2'
          · obtain ⟨p, h4, h5⟩ := h2'; exact ⟨p, h4, ih _ K K' hk h5⟩
  exact mono _ _ _ _ (fun σ' hw => W_sound (.ops (dstsOf ops) (ops.toList.drop k0) :: k) σ' S hw) h
end

/-! The same in a form in which simp looks at nothing before it is needed -/
section
variable (P : Program) (n : Nat) (mb : Tmp → Bool) (R : Post)
def doW (o : Oper) (ds : List (Option Tmp)) (l : List Oper) (k : List It) (σ : Regs) (S : Heap) : Option PV → Prop
  | some p => okDst n o.dst = true ∧ W P n mb R (.ops ds l :: k) (updO σ o.dst p) S
  | none => OpW P n mb R o ds l k σ S
def doG (o : Oper) (ds : List (Option Tmp)) (l : List Oper) (k : List It) (σ : Regs) (S : Heap) : Option PV → Prop
  | some p => W P n mb R (.ops ds l :: k) (updO σ o.dst p) S
  | none => OpW P n mb R o ds l k σ S
def guardW (o : Oper) (want : Bool) (ds : List (Option Tmp)) (l : List Oper) (k : List It) (σ : Regs) (S : Heap) : Option Bool → Prop
  | none => False
  | some b => okDst n o.dst = true ∧ (b = want → doG P n mb R o ds l k σ S (evalS P S mb o.dst σ o.op)) ∧ (b = (!want) → W P n mb R (.ops ds l :: k) (updO σ o.dst (.tup [])) S)
def opW (o : Oper) (ds : List (Option Tmp)) (l : List Oper) (k : List It) (σ : Regs) (S : Heap) : Option (Nat × Bool) → Prop
  | none => doW P n mb R o ds l k σ S (evalS P S mb o.dst σ o.op)
  | some (g, want) => guardW P n mb R o want ds l k σ S (guardVal n ds g want σ)
def condW (x y : Code) (k : List It) (σ : Regs) (S : Heap) : PV → Prop
  | .bool t => (t = true → W P n mb R (.code x :: k) σ S) ∧ (t = false → W P n mb R (.code y :: k) σ S)
  | _ => False
def exitW (id : Nat) (σ : Regs) (S : Heap) : Option (List It) → Prop
  | some k => W P n mb R k σ S
  | none => R (.exit id) σ S
end
section
variable {P : Program} {n : Nat} {mb : Tmp → Bool} {R : Post} {k : List It} {σ : Regs} {S : Heap} {o : Oper} {ds : List (Option Tmp)} {l : List Oper}
theorem W_op : W P n mb R (.ops ds (o :: l) :: k) σ S = opW P n mb R o ds l k σ S o.guard := by
  rw [W_ops_cons]
  cases hg : o.guard with
  | none =>
    simp only [opW]
    cases he : evalS P S mb o.dst σ o.op <;> simp only [doW]
  | some x =>
    obtain ⟨g, want⟩ := x
    simp only [opW]
    cases hb : guardVal n ds g want σ with
    | none => simp only [guardW]
    | some b =>
      simp only [guardW]
      cases he : evalS P S mb o.dst σ o.op <;> simp only [doG]
theorem W_if {c : Operand} {x y : Code} : W P n mb R (.code (.cond c x y) :: k) σ S = condW P n mb R x y k σ S (ev σ c) := by
  rw [W_cond]
  cases ev σ c <;> simp only [condW]
theorem W_out {id : Nat} : W P n mb R (.code (.exit id) :: k) σ S = exitW P n mb R id σ S (dropTo id k) := by
  rw [W_exit]
  cases dropTo id k <;> simp only [exitW]
theorem opW_none : opW P n mb R o ds l k σ S none = doW P n mb R o ds l k σ S (evalS P S mb o.dst σ o.op) := rfl
theorem opW_some {g : Nat} {want : Bool} : opW P n mb R o ds l k σ S (some (g, want)) = guardW P n mb R o want ds l k σ S (guardVal n ds g want σ) := rfl
theorem doW_some {p : PV} : doW P n mb R o ds l k σ S (some p) = (okDst n o.dst = true ∧ W P n mb R (.ops ds l :: k) (updO σ o.dst p) S) := rfl
theorem doW_none : doW P n mb R o ds l k σ S none = OpW P n mb R o ds l k σ S := rfl
theorem doG_some {p : PV} : doG P n mb R o ds l k σ S (some p) = W P n mb R (.ops ds l :: k) (updO σ o.dst p) S := rfl
theorem doG_none : doG P n mb R o ds l k σ S none = OpW P n mb R o ds l k σ S := rfl
theorem guardW_tt : guardW P n mb R o true ds l k σ S (some true) = (okDst n o.dst = true ∧ doG P n mb R o ds l k σ S (evalS P S mb o.dst σ o.op)) := by simp [guardW]
theorem guardW_ff : guardW P n mb R o false ds l k σ S (some false) = (okDst n o.dst = true ∧ doG P n mb R o ds l k σ S (evalS P S mb o.dst σ o.op)) := by simp [guardW]
theorem guardW_tf : guardW P n mb R o true ds l k σ S (some false) = (okDst n o.dst = true ∧ W P n mb R (.ops ds l :: k) (updO σ o.dst (.tup [])) S) := by simp [guardW]
theorem guardW_ft : guardW P n mb R o false ds l k σ S (some true) = (okDst n o.dst = true ∧ W P n mb R (.ops ds l :: k) (updO σ o.dst (.tup [])) S) := by simp [guardW]
theorem guardW_t {p : Prop} [Decidable p] : guardW P n mb R o true ds l k σ S (some (decide p)) = (okDst n o.dst = true ∧ (p → doG P n mb R o ds l k σ S (evalS P S mb o.dst σ o.op)) ∧ (¬ p → W P n mb R (.ops ds l :: k) (updO σ o.dst (.tup [])) S)) := by simp [guardW]
theorem guardW_f {p : Prop} [Decidable p] : guardW P n mb R o false ds l k σ S (some (decide p)) = (okDst n o.dst = true ∧ (¬ p → doG P n mb R o ds l k σ S (evalS P S mb o.dst σ o.op)) ∧ (p → W P n mb R (.ops ds l :: k) (updO σ o.dst (.tup [])) S)) := by simp [guardW]
theorem condW_t {x y : Code} : condW P n mb R x y k σ S (.bool true) = W P n mb R (.code x :: k) σ S := by simp [condW]
theorem condW_f {x y : Code} : condW P n mb R x y k σ S (.bool false) = W P n mb R (.code y :: k) σ S := by simp [condW]
theorem condW_d {x y : Code} {p : Prop} [Decidable p] : condW P n mb R x y k σ S (.bool (decide p)) = ((p → W P n mb R (.code x :: k) σ S) ∧ (¬ p → W P n mb R (.code y :: k) σ S)) := by simp [condW]
theorem split_d {x y : Code} {p : Prop} [Decidable p] (h1 : p → W P n mb R (.code x :: k) σ S) (h2 : ¬ p → W P n mb R (.code y :: k) σ S) : condW P n mb R x y k σ S (.bool (decide p)) := by rw [condW_d]; exact ⟨h1, h2⟩
theorem split_b {x y : Code} {t : Bool} (h1 : t = true → W P n mb R (.code x :: k) σ S) (h2 : t = false → W P n mb R (.code y :: k) σ S) : condW P n mb R x y k σ S (.bool t) := ⟨h1, h2⟩
theorem split_gt {p : Prop} [Decidable p] (hd : okDst n o.dst = true) (h1 : p → doG P n mb R o ds l k σ S (evalS P S mb o.dst σ o.op)) (h2 : ¬ p → W P n mb R (.ops ds l :: k) (updO σ o.dst (.tup [])) S) : guardW P n mb R o true ds l k σ S (some (decide p)) := by rw [guardW_t]; exact ⟨hd, h1, h2⟩
theorem split_gf {p : Prop} [Decidable p] (hd : okDst n o.dst = true) (h1 : ¬ p → doG P n mb R o ds l k σ S (evalS P S mb o.dst σ o.op)) (h2 : p → W P n mb R (.ops ds l :: k) (updO σ o.dst (.tup [])) S) : guardW P n mb R o false ds l k σ S (some (decide p)) := by rw [guardW_f]; exact ⟨hd, h1, h2⟩
theorem split_gb {want t : Bool} (hd : okDst n o.dst = true) (h1 : t = want → doG P n mb R o ds l k σ S (evalS P S mb o.dst σ o.op)) (h2 : t = (!want) → W P n mb R (.ops ds l :: k) (updO σ o.dst (.tup [])) S) : guardW P n mb R o want ds l k σ S (some t) := ⟨hd, h1, h2⟩
theorem exitW_some {id : Nat} {k' : List It} : exitW P n mb R id σ S (some k') = W P n mb R k' σ S := rfl
theorem exitW_none {id : Nat} : exitW P n mb R id σ S none = R (.exit id) σ S := rfl

/-- A region whose order is drawn, its quiet operations in the text's order; the last ones; the rest. -/
def QW (P : Program) (n : Nat) (mb : Tmp → Bool) (R : Post) (ds : List (Option Tmp)) (q tail : List Oper) (k : List It) (σ : Regs) (S : Heap) : Prop := RunQ P n ds q σ S (fun σ' => W P n mb R (.ops ds tail :: k) σ' S)
def QCW (P : Program) (n : Nat) (mb : Tmp → Bool) (R : Post) (o : Oper) (ds : List (Option Tmp)) (q tail : List Oper) (k : List It) (σ : Regs) (S : Heap) : Prop := QC P o σ S (fun p => QW P n mb R ds q tail k (updO σ o.dst p) S)
end
section
variable (P : Program) (n : Nat) (mb : Tmp → Bool) (R : Post)
def qdo (o : Oper) (ds : List (Option Tmp)) (q tail : List Oper) (k : List It) (σ : Regs) (S : Heap) : Option PV → Prop
  | some p => QW P n mb R ds q tail k (updO σ o.dst p) S
  | none => QCW P n mb R o ds q tail k σ S
def qguard (o : Oper) (want : Bool) (ds : List (Option Tmp)) (q tail : List Oper) (k : List It) (σ : Regs) (S : Heap) : Option Bool → Prop
  | none => False
  | some b => okDst n o.dst = true ∧ (b = want → qdo P n mb R o ds q tail k σ S (evalS P S noMb o.dst σ o.op)) ∧ (b = (!want) → QW P n mb R ds q tail k (updO σ o.dst (.tup [])) S)
def qop (o : Oper) (ds : List (Option Tmp)) (q tail : List Oper) (k : List It) (σ : Regs) (S : Heap) : Option (Nat × Bool) → Prop
  | none => okDst n o.dst = true ∧ qdo P n mb R o ds q tail k σ S (evalS P S noMb o.dst σ o.op)
  | some (g, want) => qguard P n mb R o want ds q tail k σ S (guardVal n ds g want σ)
end
section
variable {P : Program} {n : Nat} {mb : Tmp → Bool} {R : Post} {k : List It} {σ : Regs} {S : Heap} {o : Oper} {ds : List (Option Tmp)} {q tail : List Oper}
theorem QW_nil : QW P n mb R ds [] tail k σ S = W P n mb R (.ops ds tail :: k) σ S := rfl
theorem QW_op : QW P n mb R ds (o :: q) tail k σ S = qop P n mb R o ds q tail k σ S o.guard := by
  unfold QW
  simp only [RunQ]
  cases hg : o.guard with
  | none =>
    simp only [qop]
    cases he : evalS P S noMb o.dst σ o.op <;> simp only [qdo, QW, QCW]
  | some x =>
    obtain ⟨g, want⟩ := x
    simp only [qop]
    cases hb : guardVal n ds g want σ with
    | none => simp only [qguard]
    | some b =>
      simp only [qguard]
      cases he : evalS P S noMb o.dst σ o.op <;> simp only [qdo, QW, QCW]
theorem qop_none : qop P n mb R o ds q tail k σ S none = (okDst n o.dst = true ∧ qdo P n mb R o ds q tail k σ S (evalS P S noMb o.dst σ o.op)) := rfl
theorem qop_some {g : Nat} {want : Bool} : qop P n mb R o ds q tail k σ S (some (g, want)) = qguard P n mb R o want ds q tail k σ S (guardVal n ds g want σ) := rfl
theorem qdo_some {p : PV} : qdo P n mb R o ds q tail k σ S (some p) = QW P n mb R ds q tail k (updO σ o.dst p) S := rfl
theorem qdo_none : qdo P n mb R o ds q tail k σ S none = QCW P n mb R o ds q tail k σ S := rfl
theorem qguard_tt : qguard P n mb R o true ds q tail k σ S (some true) = (okDst n o.dst = true ∧ qdo P n mb R o ds q tail k σ S (evalS P S noMb o.dst σ o.op)) := by simp [qguard]
theorem qguard_ff : qguard P n mb R o false ds q tail k σ S (some false) = (okDst n o.dst = true ∧ qdo P n mb R o ds q tail k σ S (evalS P S noMb o.dst σ o.op)) := by simp [qguard]
theorem qguard_tf : qguard P n mb R o true ds q tail k σ S (some false) = (okDst n o.dst = true ∧ QW P n mb R ds q tail k (updO σ o.dst (.tup [])) S) := by simp [qguard]
theorem qguard_ft : qguard P n mb R o false ds q tail k σ S (some true) = (okDst n o.dst = true ∧ QW P n mb R ds q tail k (updO σ o.dst (.tup [])) S) := by simp [qguard]
theorem qguard_t {p : Prop} [Decidable p] : qguard P n mb R o true ds q tail k σ S (some (decide p)) = (okDst n o.dst = true ∧ (p → qdo P n mb R o ds q tail k σ S (evalS P S noMb o.dst σ o.op)) ∧ (¬ p → QW P n mb R ds q tail k (updO σ o.dst (.tup [])) S)) := by simp [qguard]
theorem qguard_f {p : Prop} [Decidable p] : qguard P n mb R o false ds q tail k σ S (some (decide p)) = (okDst n o.dst = true ∧ (¬ p → qdo P n mb R o ds q tail k σ S (evalS P S noMb o.dst σ o.op)) ∧ (p → QW P n mb R ds q tail k (updO σ o.dst (.tup [])) S)) := by simp [qguard]
theorem CodeW_quiet {id : Nat} {ops : Array Oper} (hm : P.follows .mixedOrders = true) (k0 : Nat) (hok : drawOk ops k0 = true) (h : QW P n mb R (dstsOf ops) (ops.toList.take k0) (ops.toList.drop k0) k σ S) : CodeW P n mb R (.region id ops true) k σ S :=
  CodeW_draw hm k0 hok h
theorem QCW_call {x : Operand} {as : Array Operand} {ts : Array TypeId} {g : FuncId} {fs cs ps : List PV} {p : PV} {d : Option Tmp} {ty : TypeId} {pos : String} {af : Array Edge} {gd : Option (Nat × Bool)} (hx : ev σ x = .fn (.func g) fs cs) (hps : fs ++ as.toList.map (ev σ) ++ cs = ps) (hg : callable P g = true)
    (hc : CallsQ P g ps S p) (hK : QW P n mb R ds q tail k (updO σ d p) S) : QCW P n mb R { dst := d, op := .call { callee := .value x, args := as, argTypes := ts }, type := ty, pos := pos, after := af, guard := gd } ds q tail k σ S :=
  QC_call rfl hx hg (by rw [hps]; exact hc) hK
end

theorem dstsOf_mk (l : List Oper) : dstsOf l.toArray = l.map (·.dst) := rfl
theorem evalS_load {P : Program} {S : Heap} {mb : Tmp → Bool} {d : Option Tmp} {σ : Regs} {t : TypeId} {x : Operand} : evalS P S mb d σ (.load t x) = loadS P S t (ev σ x) := rfl
theorem evalS_box {P : Program} {S : Heap} {mb : Tmp → Bool} {d : Tmp} {σ : Regs} {t : TypeId} {x : Operand} : evalS P S mb (some d) σ (.box t x) = if mb d = true then none else (cellsOf (ev σ x)).map .ref := rfl

attribute [go_sem] W_nil W_skip W_reg W_draw W_loop W_rangeFunc W_seq W_if W_block W_out W_ret W_fin W_ops_nil W_op opW_none opW_some doW_some doW_none doG_some doG_none guardW_tt guardW_ff guardW_tf guardW_ft condW_t condW_f exitW_some exitW_none
  QW_nil QW_op qop_none qop_some qdo_some qdo_none qguard_tt qguard_ff qguard_tf qguard_ft
  dropTo evalS evalOp ev ofVal ofCell updO upd okDst guardVal gsaid dstsOf_mk evalBin evalInt evalStr evalNil evalPick evalLoad evalNilCheck evalUn evalExtract evalSlice evalBuiltin evalMax evalMin
  fieldAddrPV fieldPV indexAddrPV indexPV slicePV lenPV bound buildPV fillPV splice buildSlicePV rowsOf cellsOf convPV bytesOfRows loadPV loadS cellsOn cellsAt set_apply del_apply partsPV loopEnd retPost resA resAll resOne sig0 noMb PV.isOne
  List.map_cons List.map_nil List.getElem?_cons_zero List.getElem?_cons_succ Option.getD_some Option.map_some Option.bind_some List.head?_cons List.length_cons List.length_nil List.take_succ_cons List.take_zero List.drop_succ_cons List.drop_zero List.all_cons List.all_nil List.nil_append List.cons_append List.append_nil

attribute [go_sem] ite_true ite_false decide_eq_true_eq decide_eq_false_iff_not Bool.false_eq_true Bool.true_eq_false true_and and_true forall_const decide_true decide_false true_implies implies_true Bool.not_true Bool.not_false Decidable.not_not eq_self Option.some.injEq exists_eq_left' exists_eq_left and_self Int.toNat_natCast Int.natCast_nonneg List.getElem?_map Option.isSome_some not_false_eq_true not_true_eq_false List.getElem?_toArray Int.toNat_zero
attribute [go_sem ←] decide_not

attribute [irreducible] condW guardW qguard doW doG qdo opW qop exitW QCW

end Go.Proofs.Ytcbonfgkfiapaaa.Pv
