/- A region whose order is drawn ends as the text's order tells, where all but its last operations are quiet and the last ones wait for all before them. -/
import Derived.Test.YtcbonfgkfiapaaaReg
set_option linter.unusedVariables false
set_option linter.unusedSimpArgs false
namespace Go.Proofs.Ytcbonfgkfiapaaa.Pv
open Go Go.RowKit

/-! The last place at which something is so -/
def lastW (q : Nat → Bool) : Nat → Option Nat
  | 0 => none
  | m + 1 => if q m then some m else lastW q m
theorem lastW_congr {q q' : Nat → Bool} : ∀ {m : Nat}, (∀ i, i < m → q i = q' i) → lastW q m = lastW q' m
  | 0, _ => rfl
  | m + 1, h => by
    simp only [lastW]
    rw [h m (by omega), lastW_congr fun i hi => h i (by omega)]
theorem lastW_top {q : Nat → Bool} {k : Nat} : ∀ {m : Nat}, k < m → q k = true → (∀ i, k < i → i < m → q i = false) → lastW q m = some k
  | 0, h, _, _ => by omega
  | m + 1, h, hk, hi => by
    simp only [lastW]
    by_cases e : k = m
    · subst e; rw [if_pos hk]
    · rw [if_neg (by rw [hi m (by omega) (by omega)]; simp)]
      exact lastW_top (by omega) hk fun i h1 h2 => hi i h1 (by omega)

def dstAt (ops : Array Oper) (i : Nat) : Option Tmp := (ops[i]?).bind (·.dst)
/-- The registers when just the operations of p have been done. -/
def sigAt (ops : Array Oper) (res : Nat → PV) (σ0 : Regs) (p : Nat → Bool) : Regs := fun t =>
  match lastW (fun i => p i && dstAt ops i == some t) ops.size with
  | some i => res i
  | none => σ0 t
theorem sigAt_insert {ops : Array Oper} {res : Nat → PV} {σ0 : Regs} {p p' : Nat → Bool} {k : Nat} (hk : k < ops.size) (hp : ∀ i, i < ops.size → p' i = (p i || i == k)) (hlast : ∀ i t, k < i → i < ops.size → p i = true → dstAt ops i = some t → dstAt ops k ≠ some t) :
    sigAt ops res σ0 p' = updO (sigAt ops res σ0 p) (dstAt ops k) (res k) := by
  funext t
  by_cases e : dstAt ops k = some t
  · have h1 : lastW (fun i => p' i && dstAt ops i == some t) ops.size = some k := by
      refine lastW_top hk (by simp [hp k hk, e]) fun i h1 h2 => ?_
      rw [hp i h2]
      by_cases hpi : p i = true
      · by_cases hd : dstAt ops i = some t
        · exact absurd e (hlast i t h1 h2 hpi hd)
        · simp [hd]
      · have : (i == k) = false := by simp; omega
        simp at hpi; simp [hpi, this]
    simp only [sigAt, h1, updO, e, upd, if_true]
  · have h1 : lastW (fun i => p' i && dstAt ops i == some t) ops.size = lastW (fun i => p i && dstAt ops i == some t) ops.size := by
      refine lastW_congr fun i hi => ?_
      rw [hp i hi]
      by_cases hik : i = k
      · subst hik; simp [e]
      · have : (i == k) = false := by simpa using hik
        simp [this]
    have h2 : updO (sigAt ops res σ0 p) (dstAt ops k) (res k) t = sigAt ops res σ0 p t := by
      cases hd : dstAt ops k with
      | none => rfl
      | some d => simp only [updO, upd]; rw [if_neg]; intro ht; subst ht; exact e hd
    rw [h2]
    simp only [sigAt, h1]

/-! One quiet step -/
def QStep (P : Program) (n : Nat) (ops : Array Oper) (σ : Regs) (S : Heap) (i : Nat) (p : PV) : Prop :=
  ∃ o, ops[i]? = some o ∧ okDst n o.dst = true ∧
    ((o.guard = none ∧ QV P o σ S p) ∨ ∃ g want b, o.guard = some (g, want) ∧ guardVal n (dstsOf ops) g want σ = some b ∧ ((b = want ∧ QV P o σ S p) ∨ (b ≠ want ∧ p = .tup [])))
def QRun (P : Program) (n : Nat) (ops : Array Oper) (S : Heap) : Nat → List PV → Regs → Regs → Prop
  | _, [], σ, σ' => σ' = σ
  | k, p :: ps, σ, σ' => QStep P n ops σ S k p ∧ QRun P n ops S (k + 1) ps (updO σ (dstAt ops k) p) σ'

theorem RunQ_run {P : Program} {n : Nat} {ops : Array Oper} {S : Heap} {K : Regs → Prop} : ∀ (l rest : List Oper) (k : Nat) (σ : Regs), ops.toList.drop k = l ++ rest → RunQ P n (dstsOf ops) l σ S K → ∃ ps σ', ps.length = l.length ∧ QRun P n ops S k ps σ σ' ∧ K σ'
  | [], rest, k, σ, _, h => ⟨[], σ, rfl, rfl, h⟩
  | o :: l, rest, k, σ, hl, h => by
    have ho : ops[k]? = some o := by
      have : ops.toList[k]? = some o := by
        have := congrArg (fun x => x[0]?) hl
        simpa using this
      simpa using this
    have hl' : ops.toList.drop (k + 1) = l ++ rest := by
      have := congrArg (fun x => x.drop 1) hl
      simpa [Nat.add_comm] using this
    have hd : dstAt ops k = o.dst := by simp [dstAt, ho]
    have go : ∀ p, QStep P n ops σ S k p → RunQ P n (dstsOf ops) l (updO σ o.dst p) S K → ∃ ps σ', ps.length = (o :: l).length ∧ QRun P n ops S k ps σ σ' ∧ K σ' := by
      intro p hp hr
      obtain ⟨ps, σ', h1, h2, h3⟩ := RunQ_run l rest (k + 1) _ hl' hr
      exact ⟨p :: ps, σ', by simp [h1], ⟨hp, by rw [hd]; exact h2⟩, h3⟩
    simp only [RunQ] at h
    split at h
    · rename_i hg
      split at h
      · rename_i p hp
        exact go p ⟨o, ho, h.1, Or.inl ⟨hg, QV_pure hp⟩⟩ h.2
      · obtain ⟨h1, p, h2, h3⟩ := h
        exact go p ⟨o, ho, h1, Or.inl ⟨hg, h2⟩⟩ h3
    · rename_i g want hg
      split at h
      · exact h.elim
      · rename_i b hb
        obtain ⟨h1, hy, hn⟩ := h
        by_cases e : b = want
        · have hy' := hy e
          split at hy'
          · rename_i p hp
            exact go p ⟨o, ho, h1, Or.inr ⟨g, want, b, hg, hb, Or.inl ⟨e, QV_pure hp⟩⟩⟩ hy'
          · obtain ⟨p, h2, h3⟩ := hy'
            exact go p ⟨o, ho, h1, Or.inr ⟨g, want, b, hg, hb, Or.inl ⟨e, h2⟩⟩⟩ h3
        · exact go (.tup []) ⟨o, ho, h1, Or.inr ⟨g, want, b, hg, hb, Or.inr ⟨e, rfl⟩⟩⟩ (hn (by cases b <;> cases want <;> simp_all))

theorem lt_succ_dec (i k : Nat) : decide (i < k + 1) = (decide (i < k) || i == k) := by
  rw [Bool.eq_iff_iff]; simp; omega
theorem lastW_none {q : Nat → Bool} (h : ∀ i, q i = false) : ∀ m, lastW q m = none
  | 0 => rfl
  | m + 1 => by simp only [lastW]; rw [if_neg (by rw [h m]; simp), lastW_none h m]
theorem QRun_at {P : Program} {n : Nat} {ops : Array Oper} {S : Heap} {σ0 σ' : Regs} {PS : List PV} (hN : PS.length ≤ ops.size) : ∀ (m k : Nat), PS.length = k + m → QRun P n ops S k (PS.drop k) (sigAt ops (fun i => PS.getD i .any) σ0 (fun i => decide (i < k))) σ' →
    (∀ i, k ≤ i → i < PS.length → QStep P n ops (sigAt ops (fun i => PS.getD i .any) σ0 (fun j => decide (j < i))) S i (PS.getD i .any)) ∧ σ' = sigAt ops (fun i => PS.getD i .any) σ0 (fun j => decide (j < PS.length))
  | 0, k, hk, h => by
    rw [List.drop_of_length_le (by omega)] at h
    simp only [QRun] at h
    refine ⟨fun i h1 h2 => by omega, ?_⟩
    rw [h, show PS.length = k by omega]
  | m + 1, k, hk, h => by
    have hlt : k < PS.length := by omega
    rw [List.drop_eq_getElem_cons hlt] at h
    simp only [QRun] at h
    have hp : PS[k] = PS.getD k .any := by simp [List.getD, List.getElem?_eq_getElem hlt]
    rw [hp] at h
    have hins : sigAt ops (fun i => PS.getD i .any) σ0 (fun i => decide (i < k + 1)) = updO (sigAt ops (fun i => PS.getD i .any) σ0 (fun i => decide (i < k))) (dstAt ops k) (PS.getD k .any) :=
      sigAt_insert (by omega) (fun i hi => lt_succ_dec i k) (fun i t h1 h2 h3 => by have := of_decide_eq_true h3; omega)
    rw [← hins] at h
    obtain ⟨h1, h2⟩ := QRun_at hN m (k + 1) (by omega) h.2
    refine ⟨fun i hi hi' => ?_, h2⟩
    by_cases e : i = k
    · subst e; exact h.1
    · exact h1 i (by omega) hi'

/-! What is asked of the edges, by a run of the kernel -/
def edgeMask (m : List Nat) (o : Oper) : Nat := o.after.toList.foldl (fun s e => if Region.binds .any e then s ||| 2 ^ e.on ||| m.getD e.on 0 else s) 0
def namesOf (ops : Array Oper) (o : Oper) : List Tmp := o.dst.toList ++ tmpsOf o ++ (match o.guard with | some (g, _) => (dstAt ops g).toList | none => [])
def drawOk (ops : Array Oper) (k0 : Nat) : Bool :=
  let m := (Region.before ops).toList
  let l := ops.toList
  k0 ≤ l.length && m.length == l.length &&
  l.zipIdx.all (fun (o, j) => m.getD j 0 == edgeMask m o && o.after.toList.all (fun e => decide (e.on < j))) &&
  l.zipIdx.all (fun (o, j) => l.zipIdx.all fun (u, i) => i == j || (match u.dst with
    | some d => !(namesOf ops o).contains d || (if i < j then (m.getD j 0).testBit i else (m.getD i 0).testBit j)
    | none => true)) &&
  (List.range l.length).all (fun j => decide (j < k0) || (List.range j).all fun i => (m.getD j 0).testBit i)

structure DrawOk (ops : Array Oper) (k0 : Nat) (m : List Nat) : Prop where
  le : k0 ≤ ops.size
  mask : ∀ (j : Nat) (o : Oper), ops[j]? = some o → m.getD j 0 = edgeMask m o
  edge : ∀ (j : Nat) (o : Oper) (e : Edge), ops[j]? = some o → e ∈ o.after → e.on < j
  names : ∀ (i j : Nat) (o : Oper) (d : Tmp), i ≠ j → ops[j]? = some o → dstAt ops i = some d → d ∈ namesOf ops o → (i < j → (m.getD j 0).testBit i = true) ∧ (j < i → (m.getD i 0).testBit j = true)
  forced : ∀ j i, k0 ≤ j → j < ops.size → i < j → (m.getD j 0).testBit i = true
theorem drawOk_spec {ops : Array Oper} {k0 : Nat} (h : drawOk ops k0 = true) : DrawOk ops k0 (Region.before ops).toList := by
  simp only [drawOk, Bool.and_eq_true, decide_eq_true_eq, beq_iff_eq] at h
  obtain ⟨⟨⟨⟨h0, h1⟩, h2⟩, h3⟩, h4⟩ := h
  have mem : ∀ (j : Nat) (o : Oper), ops[j]? = some o → (o, j) ∈ ops.toList.zipIdx := fun j o ho => by
    rw [List.mem_zipIdx_iff_getElem?]; simpa using ho
  refine ⟨by simpa using h0, fun j o ho => ?_, fun j o e ho he => ?_, fun i j o d hij ho hd hn => ?_, fun j i hk hj hi => ?_⟩
  · have := List.all_eq_true.1 h2 (o, j) (mem j o ho)
    simp at this
    simpa using this.1
  · have := List.all_eq_true.1 h2 (o, j) (mem j o ho)
    simp only [Bool.and_eq_true] at this
    exact of_decide_eq_true (List.all_eq_true.1 this.2 e (by simpa using he))
  · unfold dstAt at hd
    cases hu : ops[i]? with
    | none => rw [hu] at hd; simp at hd
    | some u =>
      rw [hu] at hd; simp at hd
      have := List.all_eq_true.1 (List.all_eq_true.1 h3 (o, j) (mem j o ho)) (u, i) (mem i u hu)
      simp only [hd, Bool.or_eq_true, beq_iff_eq, Bool.not_eq_true'] at this
      rcases this with this | this
      · exact absurd this hij
      · rcases this with this | this
        · rw [List.contains_eq_mem] at this; simp at this; exact absurd hn this
        · refine ⟨fun hlt => ?_, fun hlt => ?_⟩
          · rw [if_pos hlt] at this; exact this
          · rw [if_neg (by omega)] at this; exact this
  · have := List.all_eq_true.1 h4 j (by simp; exact hj)
    simp only [Bool.or_eq_true, decide_eq_true_eq] at this
    rcases this with this | this
    · omega
    · exact List.all_eq_true.1 this i (by simp; exact hi)

theorem edgeMask_spec {m : List Nat} {o : Oper} {i : Nat} (h : (edgeMask m o).testBit i = true) : ∃ e ∈ o.after, Region.binds .any e = true ∧ (i = e.on ∨ (m.getD e.on 0).testBit i = true) := by
  unfold edgeMask at h
  have key : ∀ (l : List Edge) (s : Nat), (l.foldl (fun s e => if Region.binds .any e then s ||| 2 ^ e.on ||| m.getD e.on 0 else s) s).testBit i = true → s.testBit i = true ∨ ∃ e ∈ l, Region.binds .any e = true ∧ (i = e.on ∨ (m.getD e.on 0).testBit i = true) := by
    intro l
    induction l with
    | nil => intro s hs; exact Or.inl hs
    | cons e l ih =>
      intro s hs
      simp only [List.foldl_cons] at hs
      rcases ih _ hs with hs | ⟨e', h1, h2⟩
      · split at hs
        · rename_i hb
          simp only [Nat.testBit_or, Bool.or_eq_true, Nat.testBit_two_pow] at hs
          rcases hs with (hs | hs) | hs
          · exact Or.inl hs
          · exact Or.inr ⟨e, by simp, hb, Or.inl (by simpa using (of_decide_eq_true hs).symm)⟩
          · exact Or.inr ⟨e, by simp, hb, Or.inr hs⟩
        · exact Or.inl hs
      · exact Or.inr ⟨e', by simp [h1], h2⟩
  rcases key o.after.toList 0 h with h | ⟨e, h1, h2⟩
  · simp at h
  · exact ⟨e, by simpa using h1, h2⟩

/-- What is listed holds with each operation all that it waits for. -/
def Closed (ops : Array Oper) (listed : Array Bool) : Prop := ∀ (j : Nat) (o : Oper), ops[j]? = some o → listed.getD j false = true → ∀ e ∈ o.after, Region.binds .any e = true → listed.getD e.on false = true
theorem before_listed {ops : Array Oper} {k0 : Nat} {m : List Nat} (hd : DrawOk ops k0 m) {listed : Array Bool} (hc : Closed ops listed) : ∀ (j : Nat) (o : Oper) (i : Nat), ops[j]? = some o → (∀ e ∈ o.after, Region.binds .any e = true → listed.getD e.on false = true) → (m.getD j 0).testBit i = true → listed.getD i false = true := by
  intro j
  induction j using Nat.strongRecOn with
  | _ j ih =>
    intro o i ho he hb
    rw [hd.mask j o ho] at hb
    obtain ⟨e, h1, h2, h3⟩ := edgeMask_spec hb
    rcases h3 with rfl | h3
    · exact he e h1 h2
    · have hlt := hd.edge j o e ho h1
      have hl := he e h1 h2
      have hjs : j < ops.size := (Array.getElem?_eq_some_iff.1 ho).1
      have hoe : ops[e.on]? = some ops[e.on] := Array.getElem?_eq_getElem (by omega)
      exact ih e.on hlt ops[e.on] i hoe (fun e' he' hb' => hc e.on _ hoe hl e' he' hb') h3

/-! How many are left -/
def left (listed : Array Bool) : Nat → Nat
  | 0 => 0
  | m + 1 => left listed m + (if listed.getD m false = true then 0 else 1)
theorem left_set {listed : Array Bool} {j : Nat} (hj : listed.getD j false = false) (hs : j < listed.size) : ∀ (m : Nat), (m ≤ j → left (listed.setIfInBounds j true) m = left listed m) ∧ (j < m → left (listed.setIfInBounds j true) m + 1 = left listed m)
  | 0 => ⟨fun _ => rfl, fun h => by omega⟩
  | m + 1 => by
    obtain ⟨h1, h2⟩ := left_set hj hs m
    simp only [left]
    by_cases e : m = j
    · subst e
      have e1 : (listed.setIfInBounds m true).getD m false = true := by simp [hs]
      refine ⟨fun h => by omega, fun h => ?_⟩
      rw [h1 (Nat.le_refl _), e1, hj]; simp
    · have e1 : (listed.setIfInBounds j true).getD m false = listed.getD m false := getD_set_ne false (Ne.symm e)
      rw [e1]
      exact ⟨fun h => by rw [h1 (by omega)], fun h => by have := h2 (by omega); omega⟩
theorem left_zero {listed : Array Bool} : ∀ {m : Nat}, left listed m = 0 → ∀ i, i < m → listed.getD i false = true
  | 0, _, i, hi => by omega
  | m + 1, h, i, hi => by
    simp only [left] at h
    by_cases e : i = m
    · subst e
      by_cases hl : listed.getD i false = true
      · exact hl
      · rw [if_neg hl] at h; omega
    · exact left_zero (m := m) (by omega) i (by omega)
theorem left_pos {listed : Array Bool} : ∀ {m : Nat}, 0 < left listed m → ∃ i, i < m ∧ listed.getD i false = false ∧ ∀ j, j < i → listed.getD j false = true
  | 0, h => by simp [left] at h
  | m + 1, h => by
    by_cases hm : 0 < left listed m
    · obtain ⟨i, h1, h2, h3⟩ := left_pos hm
      exact ⟨i, by omega, h2, h3⟩
    · simp only [left] at h
      refine ⟨m, by omega, ?_, fun j hj => left_zero (by omega) j hj⟩
      by_cases hl : listed.getD m false = true
      · rw [if_pos hl] at h; omega
      · simpa using hl

theorem getD_true_false {listed : Array Bool} {j : Nat} (hs : j < listed.size) : listed.getD j true = listed.getD j false := by simp [hs]

/-- The last operations, one behind the other. -/
theorem any_tail {P : Program} {ops : Array Oper} {k0 : Nat} {m : List Nat} (hd : DrawOk ops k0 m) {Q : Exit → Act → World → Prop} : ∀ (cnt j fuel : Nat) (listed : Array Bool) (a : Act) (w : World), listed.size = ops.size → (∀ i, i < ops.size → listed.getD i false = decide (i < j)) → k0 ≤ j → ops.size = j + cnt → cnt ≤ fuel →
    wpOps P ops Q (List.range' j cnt) a w → wpAny P .any ops Q fuel listed a w
  | 0, j, fuel, listed, a, w, hs, hl, hk, hj, hf, h => by
    have hr : Region.ready .any ops listed = [] := by
      apply List.eq_nil_iff_forall_not_mem.2
      intro i hi
      obtain ⟨h1, o, ho, _⟩ := mem_ready.1 hi
      have hlt : i < ops.size := (Array.getElem?_eq_some_iff.1 ho).1
      rw [getD_true_false (by omega), hl i hlt] at h1
      simp at h1; omega
    exact wpAny_done hr h fuel
  | cnt + 1, j, fuel, listed, a, w, hs, hl, hk, hj, hf, h => by
    obtain ⟨fuel, rfl⟩ : ∃ f, fuel = f + 1 := ⟨fuel - 1, by omega⟩
    have hc : Closed ops listed := by
      intro i o ho hli e he hb
      have hlt : i < ops.size := (Array.getElem?_eq_some_iff.1 ho).1
      have h1 := hd.edge i o e ho he
      rw [hl i hlt] at hli
      rw [hl e.on (by omega)]
      simp at hli ⊢; omega
    have hjr : j ∈ Region.ready .any ops listed := by
      refine mem_ready.2 ⟨by rw [getD_true_false (by omega), hl j (by omega)]; simp, ops[j], Array.getElem?_eq_getElem (by omega), fun e he hb => ?_⟩
      have h1 := hd.edge j ops[j] e (Array.getElem?_eq_getElem (by omega)) he
      rw [hl e.on (by omega)]; simpa using h1
    refine ⟨fun h0 => (by rw [h0] at hjr; cases hjr), fun i hi => ?_⟩
    have hij : i = j := by
      obtain ⟨h1, o, ho, h2⟩ := mem_ready.1 hi
      have hlt : i < ops.size := (Array.getElem?_eq_some_iff.1 ho).1
      rw [getD_true_false (by omega), hl i hlt] at h1
      simp at h1
      rcases Nat.lt_or_ge j i with h3 | h3
      · have := before_listed hd hc i o j ho h2 (hd.forced i j (by omega) hlt h3)
        rw [hl j (by omega)] at this
        simp at this
      · omega
    subst hij
    rw [List.range'_succ, wpOps_cons] at h
    refine wpOp_mono (fun a w h' => any_tail hd cnt (i + 1) fuel _ a w (by simpa using hs) (fun x hx => ?_) (by omega) (by omega) (by omega) h') h
    by_cases e : i = x
    · subst e; simp [hs, hx]
    · rw [getD_set_ne false e, hl x hx]
      by_cases h1 : x < i <;> simp [h1] <;> omega

theorem drew_ext {w0 w : World} {S0 S : Heap} (h : Ext w0 S0 w S) : Ext w0 S0 { w with drawn := w.drawn + 1 } S := ⟨h.os, h.tape, h.output, h.size, h.kept⟩
theorem drew_st {n : Nat} {w : World} {S : Heap} {a : Act} {σ : Regs} (h : St n w S a σ) : St n { w with drawn := w.drawn + 1 } S a σ := by
  have hx : Ext w S { w with drawn := w.drawn + 1 } S := drew_ext (Ext.refl w S)
  exact h.ext hx fun b o hb => (h.heap b o hb).keep hx.keeps rfl

theorem any_quiet {P : Program} {n : Nat} {ops : Array Oper} {k0 : Nat} {m : List Nat} (hd : DrawOk ops k0 m) {S : Heap} {σ0 : Regs} {res : Nat → PV} {Q : Post} {w0 : World} {S0 : Heap}
    (hq : ∀ i, i < k0 → QStep P n ops (sigAt ops res σ0 (fun j => decide (j < i))) S i (res i))
    (ht : AO P n ops (List.range' k0 (ops.size - k0)) (sigAt ops res σ0 (fun j => decide (j < k0))) S Q) :
    ∀ (fuel : Nat) (listed : Array Bool) (a : Act) (w : World), listed.size = ops.size → Closed ops listed → left listed ops.size ≤ fuel → (∀ j, k0 ≤ j → j < ops.size → listed.getD j false = false) →
      St n w S a (sigAt ops res σ0 (fun i => listed.getD i false)) → Ext w0 S0 w S → wpAny P .any ops (lift n w0 S0 Q) fuel listed a w := by
  have hfull : ∀ (listed : Array Bool), (∀ i, i < ops.size → listed.getD i false = decide (i < k0)) → sigAt ops res σ0 (fun i => listed.getD i false) = sigAt ops res σ0 (fun j => decide (j < k0)) := by
    intro listed h
    funext t
    simp only [sigAt]
    rw [lastW_congr fun i hi => by rw [h i hi]]
  intro fuel
  induction fuel with
  | zero =>
    intro listed a w hs hc hl hk hst hext
    have hz := left_zero (Nat.le_zero.1 hl)
    have hk0 : k0 = ops.size := by
      rcases Nat.lt_or_ge k0 ops.size with h | h
      · have := hk k0 (Nat.le_refl _) h; rw [hz k0 h] at this; cases this
      · have := hd.le; omega
    have hall : ∀ i, i < ops.size → listed.getD i false = decide (i < k0) := fun i hi => by rw [hz i hi]; simp; omega
    refine any_tail hd 0 k0 0 listed a w hs hall (Nat.le_refl _) (by omega) (Nat.le_refl _) ?_
    rw [hfull listed hall] at hst
    have := ht w0 S0 w a hst hext
    rwa [show ops.size - k0 = 0 by omega] at this
  | succ fuel ih =>
    intro listed a w hs hc hl hk hst hext
    by_cases hall : ∀ i, i < ops.size → listed.getD i false = decide (i < k0)
    · -- all of the quiet ones are done
      have hcnt : ops.size - k0 ≤ fuel + 1 := by
        have : ops.size - k0 ≤ left listed ops.size := by
          have aux : ∀ m, m ≤ ops.size → m - k0 ≤ left listed m := by
            intro m
            induction m with
            | zero => intro _; simp
            | succ m ihm =>
              intro hm
              simp only [left]
              have := ihm (by omega)
              by_cases h1 : k0 ≤ m
              · rw [hk m h1 (by omega)]; simp; omega
              · omega
          exact aux ops.size (Nat.le_refl _)
        omega
      refine any_tail hd (ops.size - k0) k0 (fuel + 1) listed a w hs hall (Nat.le_refl _) (by have := hd.le; omega) hcnt ?_
      rw [hfull listed hall] at hst
      exact ht w0 S0 w a hst hext
    · have hnf : ∃ i, i < k0 ∧ listed.getD i false = false := by
        apply Classical.byContradiction
        intro hno
        apply hall
        intro i hi
        by_cases h1 : i < k0
        · have : ¬ listed.getD i false = false := fun h => hno ⟨i, h1, h⟩
          simp at this; simp [this, h1]
        · rw [hk i (by omega) hi]; simp [h1]
      refine ⟨fun h0 => ?_, fun j hj => ?_⟩
      · -- something is ready
        exfalso
        obtain ⟨i, hi, hli⟩ := hnf
        have hpos : 0 < left listed ops.size := by
          rcases Nat.eq_zero_or_pos (left listed ops.size) with h | h
          · have := left_zero h i (by have := hd.le; omega); rw [hli] at this; cases this
          · exact h
        obtain ⟨x, hx, hlx, hbx⟩ := left_pos hpos
        have : x ∈ Region.ready .any ops listed := by
          refine mem_ready.2 ⟨by rw [getD_true_false (by omega)]; exact hlx, ops[x], Array.getElem?_eq_getElem hx, fun e he hb => ?_⟩
          exact hbx e.on (hd.edge x ops[x] e (Array.getElem?_eq_getElem hx) he)
        rw [h0] at this; cases this
      · obtain ⟨hjl, o, ho, hje⟩ := mem_ready.1 hj
        have hjs : j < ops.size := (Array.getElem?_eq_some_iff.1 ho).1
        have hjl' : listed.getD j false = false := by rw [← getD_true_false (by omega)]; exact hjl
        have hjk : j < k0 := by
          rcases Nat.lt_or_ge j k0 with h | h
          · exact h
          · obtain ⟨i, hi, hli⟩ := hnf
            have := before_listed hd hc j o i ho hje (hd.forced j i h hjs (by omega))
            rw [hli] at this; cases this
        obtain ⟨o', ho', hok, hcase⟩ := hq j hjk
        rw [ho] at ho'; injection ho' with ho'; subst ho'
        -- what it looks at stands as in the text's order
        have hsame : ∀ t ∈ namesOf ops o, sigAt ops res σ0 (fun i => listed.getD i false) t = sigAt ops res σ0 (fun i => decide (i < j)) t := by
          intro t htn
          simp only [sigAt]
          have : lastW (fun i => listed.getD i false && dstAt ops i == some t) ops.size = lastW (fun i => decide (i < j) && dstAt ops i == some t) ops.size := by
            refine lastW_congr fun i hi => ?_
            by_cases hdi : dstAt ops i = some t
            · by_cases hij : i = j
              · subst hij; simp [hjl']
              · obtain ⟨n1, n2⟩ := hd.names i j o t hij ho hdi htn
                by_cases hlt : i < j
                · rw [before_listed hd hc j o i ho hje (n1 hlt)]; simp [hlt]
                · have hji : j < i := by omega
                  have : listed.getD i false = false := by
                    by_cases hli : listed.getD i false = true
                    · have hoi : ops[i]? = some ops[i] := Array.getElem?_eq_getElem hi
                      have := before_listed hd hc i ops[i] j hoi (fun e he hb => hc i _ hoi hli e he hb) (n2 hji)
                      rw [hjl'] at this; cases this
                    · simpa using hli
                  rw [this]; simp [hlt]
            · have hf : (dstAt ops i == some t) = false := beq_eq_false_iff_ne.2 hdi
              rw [hf, Bool.and_false, Bool.and_false]
          rw [this]
        have hdst : dstAt ops j = o.dst := by simp [dstAt, ho]
        have hins : sigAt ops res σ0 (fun i => (listed.setIfInBounds j true).getD i false) = updO (sigAt ops res σ0 (fun i => listed.getD i false)) o.dst (res j) := by
          rw [← hdst]
          refine sigAt_insert hjs (fun i hi => ?_) (fun i t h1 h2 h3 h4 h5 => ?_)
          · by_cases e : j = i
            · subst e; simp [hs, hjs]
            · rw [getD_set_ne false e]
              have : (i == j) = false := by simp; exact fun h => e h.symm
              rw [this, Bool.or_false]
          · have hn : t ∈ namesOf ops o := by unfold namesOf; rw [← hdst, h5]; simp
            have hb := (hd.names i j o t (by omega) ho h4 hn).2 h1
            have hoi : ops[i]? = some ops[i] := Array.getElem?_eq_getElem h2
            have := before_listed hd hc i ops[i] j hoi (fun e he hb => hc i _ hoi h3 e he hb) hb
            rw [hjl'] at this; cases this
        have hnext : ∀ (a' : Act) (w' : World), St n w' S a' (updO (sigAt ops res σ0 (fun i => listed.getD i false)) o.dst (res j)) → Ext w0 S0 w' S → wpAny P .any ops (lift n w0 S0 Q) fuel (listed.setIfInBounds j true) a' w' := by
          intro a' w' h1 h2
          refine ih (listed.setIfInBounds j true) a' w' (by simpa using hs) ?_ ?_ ?_ (by rw [hins]; exact h1) h2
          · intro i oi hoi hli e he hb
            by_cases hij : j = i
            · subst hij; rw [ho] at hoi; injection hoi with hoi; subst hoi
              exact getD_set_true (hje e he hb)
            · rw [getD_set_ne false hij] at hli
              exact getD_set_true (hc i oi hoi hli e he hb)
          · have := (left_set hjl' (by omega) ops.size).2 hjs
            omega
          · intro i h1 h2
            rw [getD_set_ne false (by omega)]; exact hk i h1 h2
        have tn : ∀ t ∈ tmpsOf o, t ∈ namesOf ops o := fun t h => by unfold namesOf; simp [h]
        unfold wpOp
        simp only [ho]
        have exec : ∀ p, p = res j → QV P o (sigAt ops res σ0 (fun i => decide (i < j))) S p → o.wp P a w (wpAny P .any ops (lift n w0 S0 Q) fuel (listed.setIfInBounds j true)) (lift n w0 S0 Q) := by
          intro p hp hv
          subst hp
          refine hv n (sigAt ops res σ0 (fun i => listed.getD i false)) w a (fun t htm => hsame t (tn t htm)) hst _ _ fun v w' h1 h2 h3 => ?_
          exact hnext _ w' ((hst.ext h2 h3).put (okDst_spec hok) h1) (hext.trans h2)
        rcases hcase with ⟨hg, hv⟩ | ⟨g, want, b, hg, hb, hcase⟩
        · rw [if_pos (by simp [Region.wanted, hg])]
          exact Or.inl (exec _ rfl hv)
        · obtain ⟨og, d, g1, g2, g3, g4⟩ := guardVal_spec hb
          have hdn : d ∈ namesOf ops o := by unfold namesOf; simp [hg, dstAt, g1, g2]
          have hy : Region.wanted o (yielded ops a.tmps) = (b == want) := wanted_of hst hg g1 g2 g3 (by rw [hsame d hdn]; exact g4)
          rcases hcase with ⟨e, hv⟩ | ⟨e, hp⟩
          · rw [if_pos (by rw [hy]; simp [e])]
            exact Or.inl (exec _ rfl hv)
          · rw [if_neg (by rw [hy]; simp [e])]
            refine hnext _ w ?_ hext
            rw [hp]
            exact hst.put (okDst_spec hok) (rep_undef _ _)

/-- The rule for a region whose order is drawn. -/
theorem AW_draw {P : Program} {n : Nat} {mb : Tmp → Bool} {id : Nat} {ops : Array Oper} {σ : Regs} {S : Heap} {Q : Post} (hm : P.follows .mixedOrders = true) (k0 : Nat) (hok : drawOk ops k0 = true)
    (h : RunQ P n (dstsOf ops) (ops.toList.take k0) σ S (fun σ' => RunG P n mb (dstsOf ops) (ops.toList.drop k0) σ' S (Q .normal))) : AW P n (.region id ops true) σ S Q := by
  have hd := drawOk_spec hok
  obtain ⟨PS, σ', hl, hrun, htail⟩ := RunQ_run (ops.toList.take k0) (ops.toList.drop k0) 0 σ (by simp) h
  have hlen : PS.length = k0 := by rw [hl]; simp; exact Nat.min_eq_left hd.le
  have hz : sigAt ops (fun i => PS.getD i .any) σ (fun i => decide (i < 0)) = σ := by
    funext t
    simp only [sigAt]
    rw [lastW_none (fun i => by simp)]
  obtain ⟨hq, hend⟩ := QRun_at (σ0 := σ) (PS := PS) (by rw [hlen]; exact hd.le) PS.length 0 (by omega) (by rw [hz]; simpa using hrun)
  intro w0 S0 w a hst hext
  refine wp_region_any hm ?_
  have hrep : ∀ i, (Array.replicate ops.size false).getD i false = false := fun i => by
    simp only [Array.getD_eq_getD_getElem?, Array.getElem?_replicate]; split <;> rfl
  refine any_quiet hd (res := fun i => PS.getD i .any) (σ0 := σ) (S := S) (fun i hi => hq i (Nat.zero_le _) (by omega)) ?_ ops.size _ a _ (by simp) ?_ ?_ (fun j _ _ => hrep j) ?_ (drew_ext hext)
  · rw [← hlen, ← hend, hlen]
    have := AO_run (P := P) (n := n) (mb := mb) (ops := ops) (Q := Q) (ops.toList.drop k0) k0 σ' S rfl htail
    simpa using this
  · intro j o ho hlj
    rw [hrep] at hlj; cases hlj
  · have : ∀ m, left (Array.replicate ops.size false) m ≤ m := by
      intro m
      induction m with
      | zero => simp [left]
      | succ m ih => simp only [left]; split <;> omega
    exact this _
  · have : sigAt ops (fun i => PS.getD i .any) σ (fun i => (Array.replicate ops.size false).getD i false) = σ := by
      funext t
      simp only [sigAt]
      rw [lastW_none (fun i => by rw [hrep]; simp)]
    rw [this]
    exact drew_st hst

end Go.Proofs.Ytcbonfgkfiapaaa.Pv
