/- What the functions of package here compute. -/
import Derived.Test.YtcbonfgkfiapaaaChar2
import Derived.Test.YtcbonfgkfiapaaaDraw1
import Derived.Test.YtcbonfgkfiapaaaShelf
set_option linter.unusedVariables false
set_option linter.unusedSimpArgs false
set_option maxRecDepth 100000
set_option maxHeartbeats 4000000
namespace Go.Proofs.Ytcbonfgkfiapaaa.Pv
open Go Go.RowKit

theorem CallsQ_below {P : Program} {f : FuncId} {ps : List PV} {p : PV} {S : Heap} (h : ∀ w (args : Array Value), RepVals w S.im ps args.toList → (∀ b o, S b = some o → Holds w S.im b o) → Calls P f args w fun e w' => ∃ v, e = .returned v ∧ Rep w' S.im p v ∧ Below w.heap.size w w') : CallsQ P f ps S p := by
  intro w args hv hh
  refine (h w args hv hh).mono ?_
  rintro e w' ⟨v, rfl, h1, h2⟩
  have hx : Ext w S w' S := ⟨h2.os, h2.tape, h2.output, h2.size, fun b hb hs => ⟨hs, h2.block b hb⟩⟩
  exact ⟨v, p, S, rfl, h1, fun b o hb => (hh b o hb).keep hx.keeps (h2.block b (hh b o hb).lt), hx, rfl, rfl⟩
theorem args_str2 {w : World} {im : Nat → Prop} {a b : List UInt8} {args : Array Value} (h : RepVals w im [.str a, .str b] args.toList) : args = #[.string ⟨a.toArray⟩, .string ⟨b.toArray⟩] := by
  simp only [RepVals, Rep] at h
  obtain ⟨v, r, h1, rfl, v2, r2, h2, rfl, rfl⟩ := h
  subst h2
  exact Array.ext' (by simpa using h1)
attribute [go_sem] Nat.zero_le beq_self_eq_true

def ascii (s : List UInt8) : Prop := ∀ (j : Nat) (b : UInt8), s[j]? = some b → b.toNat < 128
theorem containsAny_calls (s cs : List UInt8) (h1 : s.length < 4294967281) (h2 : cs.length < 4294967281) (ha : ascii s) (hb : ascii cs) (S : Heap) : CallsQ Try.prog 108 [.str s, .str cs] S (.bool (Lib.containsAny s cs)) := by
  refine CallsQ_below fun w args hv hh => ?_
  rw [args_str2 hv]
  refine (Try.strings_ContainsAny_laid ⟨s.toArray⟩ ⟨cs.toArray⟩ w (by simpa [ByteArray.size] using h1) (by simpa [ByteArray.size] using h2) ha hb).mono ?_
  rintro e w' ⟨rfl, h⟩
  exact ⟨_, rfl, by simp only [Rep], h⟩
theorem hasPrefix_calls (s p : List UInt8) (S : Heap) : CallsQ Try.prog 104 [.str s, .str p] S (.bool (Lib.hasPrefix s p)) := by
  refine CallsQ_below fun w args hv hh => ?_
  rw [args_str2 hv]
  refine (Try.strings_HasPrefix ⟨s.toArray⟩ ⟨p.toArray⟩ w).mono ?_
  rintro e w' ⟨rfl, rfl⟩
  exact ⟨_, rfl, by simp only [Rep], Below.refl _ _⟩
theorem contains_calls (s : List UInt8) (c : UInt8) (S : Heap) : CallsQ Try.prog 102 [.str s, .str [c]] S (.bool (decide (0 ≤ Lib.indexByte s c))) := by
  refine CallsQ_below fun w args hv hh => ?_
  rw [args_str2 hv]
  refine (Try.strings_Contains_one ⟨s.toArray⟩ c w).mono ?_
  rintro e w' ⟨rfl, rfl⟩
  exact ⟨_, rfl, by simp only [Rep], Below.refl _ _⟩

/-- What of an end is wanted: that it is asked whether one of its bytes is 0 or a line feed. -/
def okEnd (e : List UInt8) : Prop := ∀ S, CallsQ Try.prog 108 [.str e, .str [0, 10]] S (.bool (Lib.containsAny e [0, 10]))
theorem okEnd_ascii {e : List UInt8} (h1 : e.length < 4294967281) (ha : ascii e) : okEnd e := fun S => containsAny_calls e [0, 10] h1 (by decide) ha (fun j b h => by
    have : b ∈ [(0 : UInt8), 10] := List.mem_of_getElem? h
    simp at this; rcases this with rfl | rfl <;> decide) S
/-! Right -/
def hereRight (e : List UInt8) (t : Bool) : Bool := !Lib.containsAny e [0, 10] && (!t || !Lib.hasPrefix e [9])
theorem right_calls (e : List UInt8) (t : Bool) (h1 : e.length < 4294967281) (ha : okEnd e) (S : Heap) : CallsQ Try.prog 55 [.agg [.str e, .bool t]] S (.bool (hereRight e t)) := by
  refine CallsA_W (fun _ => false) Try.func55 rfl (Nat.le_of_ble_eq_true rfl) ?_
  simp only [Try.f55]
  (simp only [go_sem, reduceIte, ite_true, ite_false, Nat.reduceEqDiff, Nat.reduceLT, Nat.reduceLeDiff, Nat.reduceAdd, reduceCtorEq, decide_eq_true_eq, decide_eq_false_iff_not, Bool.false_eq_true, Bool.true_eq_false, true_and, and_true, forall_const, decide_true, decide_false, true_implies, implies_true, Bool.not_true, Bool.not_false, ← decide_not, Decidable.not_not, eq_self, Option.some.injEq, exists_eq_left', exists_eq_left, and_self, Int.toNat_natCast, Int.natCast_nonneg, List.getElem?_map, Option.isSome_some, not_false_eq_true, not_true_eq_false, List.getElem?_toArray, Int.reduceToNat, Int.reduceLE, Int.reduceLT, Int.toNat_zero, Int.reduceNeg, *])
  refine OpW_call rfl rfl call108 rfl ((ha _).mono ?_)
  rintro p S' ⟨rfl, rfl⟩
  unfold hereRight
  cases Lib.containsAny e [0, 10] with
  | true => (simp only [go_sem, reduceIte, ite_true, ite_false, Nat.reduceEqDiff, Nat.reduceLT, Nat.reduceLeDiff, Nat.reduceAdd, reduceCtorEq, decide_eq_true_eq, decide_eq_false_iff_not, Bool.false_eq_true, Bool.true_eq_false, true_and, and_true, forall_const, decide_true, decide_false, true_implies, implies_true, Bool.not_true, Bool.not_false, ← decide_not, Decidable.not_not, eq_self, Option.some.injEq, exists_eq_left', exists_eq_left, and_self, Int.toNat_natCast, Int.natCast_nonneg, List.getElem?_map, Option.isSome_some, not_false_eq_true, not_true_eq_false, List.getElem?_toArray, Int.reduceToNat, Int.reduceLE, Int.reduceLT, Int.toNat_zero, Int.reduceNeg, *])
            rfl
  | false =>
    cases t with
    | false => (simp only [go_sem, reduceIte, ite_true, ite_false, Nat.reduceEqDiff, Nat.reduceLT, Nat.reduceLeDiff, Nat.reduceAdd, reduceCtorEq, decide_eq_true_eq, decide_eq_false_iff_not, Bool.false_eq_true, Bool.true_eq_false, true_and, and_true, forall_const, decide_true, decide_false, true_implies, implies_true, Bool.not_true, Bool.not_false, ← decide_not, Decidable.not_not, eq_self, Option.some.injEq, exists_eq_left', exists_eq_left, and_self, Int.toNat_natCast, Int.natCast_nonneg, List.getElem?_map, Option.isSome_some, not_false_eq_true, not_true_eq_false, List.getElem?_toArray, Int.reduceToNat, Int.reduceLE, Int.reduceLT, Int.toNat_zero, Int.reduceNeg, *])
               rfl
    | true =>
      (simp only [go_sem, reduceIte, ite_true, ite_false, Nat.reduceEqDiff, Nat.reduceLT, Nat.reduceLeDiff, Nat.reduceAdd, reduceCtorEq, decide_eq_true_eq, decide_eq_false_iff_not, Bool.false_eq_true, Bool.true_eq_false, true_and, and_true, forall_const, decide_true, decide_false, true_implies, implies_true, Bool.not_true, Bool.not_false, ← decide_not, Decidable.not_not, eq_self, Option.some.injEq, exists_eq_left', exists_eq_left, and_self, Int.toNat_natCast, Int.natCast_nonneg, List.getElem?_map, Option.isSome_some, not_false_eq_true, not_true_eq_false, List.getElem?_toArray, Int.reduceToNat, Int.reduceLE, Int.reduceLT, Int.toNat_zero, Int.reduceNeg, *])
      refine OpW_call rfl rfl call104 rfl ((hasPrefix_calls e [9] _).mono ?_)
      rintro p S' ⟨rfl, rfl⟩
      cases Lib.hasPrefix e [9] <;> (simp only [go_sem, reduceIte, ite_true, ite_false, Nat.reduceEqDiff, Nat.reduceLT, Nat.reduceLeDiff, Nat.reduceAdd, reduceCtorEq, decide_eq_true_eq, decide_eq_false_iff_not, Bool.false_eq_true, Bool.true_eq_false, true_and, and_true, forall_const, decide_true, decide_false, true_implies, implies_true, Bool.not_true, Bool.not_false, ← decide_not, Decidable.not_not, eq_self, Option.some.injEq, exists_eq_left', exists_eq_left, and_self, Int.toNat_natCast, Int.natCast_nonneg, List.getElem?_map, Option.isSome_some, not_false_eq_true, not_true_eq_false, List.getElem?_toArray, Int.reduceToNat, Int.reduceLE, Int.reduceLT, Int.toNat_zero, Int.reduceNeg, *]) <;> rfl

/-! A reader -/
def rdr (e : List UInt8) (t : Bool) (pl pn : PV) (some : Bool) (sig : Int) : MObj := .cells [.str e, .bool t, pl, pn, .bool some, .int .i64 sig] 118
theorem hereNew_calls (e : List UInt8) (t : Bool) (h1 : e.length < 4294967281) (ha : okEnd e) (S : Heap) :
    CallsA Try.prog 101 [.agg [.str e, .bool t]] S fun q S' => if hereRight e t = true then ∃ r, S r = none ∧ q = .mp r 0 ∧ S' = S.set r (rdr e t .sl0 .sl0 false 0) else q = .nilp ∧ S' = S := by
  refine CallsA_W (fun x => x == 8) Try.func101 rfl (Nat.le_of_ble_eq_true rfl) ?_
  simp only [Try.f101]
  (simp only [go_sem, reduceIte, ite_true, ite_false, Nat.reduceEqDiff, Nat.reduceLT, Nat.reduceLeDiff, Nat.reduceAdd, reduceCtorEq, decide_eq_true_eq, decide_eq_false_iff_not, Bool.false_eq_true, Bool.true_eq_false, true_and, and_true, forall_const, decide_true, decide_false, true_implies, implies_true, Bool.not_true, Bool.not_false, ← decide_not, Decidable.not_not, eq_self, Option.some.injEq, exists_eq_left', exists_eq_left, and_self, Int.toNat_natCast, Int.natCast_nonneg, List.getElem?_map, Option.isSome_some, not_false_eq_true, not_true_eq_false, List.getElem?_toArray, Int.reduceToNat, Int.reduceLE, Int.reduceLT, Int.toNat_zero, Int.reduceNeg, Int.reduceEq, Int.reduceNe, Nat.reduceBEq, Nat.reduceMul, Nat.reducePow, *])
  refine OpW_call rfl rfl call55 rfl ((right_calls e t h1 ha _).mono ?_)
  rintro p S' ⟨rfl, rfl⟩
  rcases Bool.eq_false_or_eq_true (hereRight e t) with hr | hr
  · have hu := Try.underlying118
    (simp only [go_sem, reduceIte, ite_true, ite_false, Nat.reduceEqDiff, Nat.reduceLT, Nat.reduceLeDiff, Nat.reduceAdd, reduceCtorEq, decide_eq_true_eq, decide_eq_false_iff_not, Bool.false_eq_true, Bool.true_eq_false, true_and, and_true, forall_const, decide_true, decide_false, true_implies, implies_true, Bool.not_true, Bool.not_false, ← decide_not, Decidable.not_not, eq_self, Option.some.injEq, exists_eq_left', exists_eq_left, and_self, Int.toNat_natCast, Int.natCast_nonneg, List.getElem?_map, Option.isSome_some, not_false_eq_true, not_true_eq_false, List.getElem?_toArray, Int.reduceToNat, Int.reduceLE, Int.reduceLT, Int.toNat_zero, Int.reduceNeg, Int.reduceEq, Int.reduceNe, Nat.reduceBEq, Nat.reduceMul, Nat.reducePow, *])
    refine OpW_boxM (cs := [.str e, .bool t, .sl0, .sl0, .bool false, .int .i64 0]) rfl rfl rfl fun b hb => ?_
    (simp only [go_sem, reduceIte, ite_true, ite_false, Nat.reduceEqDiff, Nat.reduceLT, Nat.reduceLeDiff, Nat.reduceAdd, reduceCtorEq, decide_eq_true_eq, decide_eq_false_iff_not, Bool.false_eq_true, Bool.true_eq_false, true_and, and_true, forall_const, decide_true, decide_false, true_implies, implies_true, Bool.not_true, Bool.not_false, ← decide_not, Decidable.not_not, eq_self, Option.some.injEq, exists_eq_left', exists_eq_left, and_self, Int.toNat_natCast, Int.natCast_nonneg, List.getElem?_map, Option.isSome_some, not_false_eq_true, not_true_eq_false, List.getElem?_toArray, Int.reduceToNat, Int.reduceLE, Int.reduceLT, Int.toNat_zero, Int.reduceNeg, Int.reduceEq, Int.reduceNe, Nat.reduceBEq, Nat.reduceMul, Nat.reducePow, *])
    exact ⟨b, hb, rfl, rfl⟩
  · (simp only [go_sem, reduceIte, ite_true, ite_false, Nat.reduceEqDiff, Nat.reduceLT, Nat.reduceLeDiff, Nat.reduceAdd, reduceCtorEq, decide_eq_true_eq, decide_eq_false_iff_not, Bool.false_eq_true, Bool.true_eq_false, true_and, and_true, forall_const, decide_true, decide_false, true_implies, implies_true, Bool.not_true, Bool.not_false, ← decide_not, Decidable.not_not, eq_self, Option.some.injEq, exists_eq_left', exists_eq_left, and_self, Int.toNat_natCast, Int.natCast_nonneg, List.getElem?_map, Option.isSome_some, not_false_eq_true, not_true_eq_false, List.getElem?_toArray, Int.reduceToNat, Int.reduceLE, Int.reduceLT, Int.toNat_zero, Int.reduceNeg, Int.reduceEq, Int.reduceNe, Nat.reduceBEq, Nat.reduceMul, Nat.reducePow, *])

/-! Where it has no value -/
theorem text_nil (S : Heap) : CallsQ Try.prog 57 [.nilp] S (.tup [.str [], .bool false]) := by
  refine CallsA_W (fun _ => false) Try.func57 rfl (Nat.le_of_ble_eq_true rfl) ?_
  simp only [Try.f57]
  (simp only [go_sem, reduceIte, ite_true, ite_false, Nat.reduceEqDiff, Nat.reduceLT, Nat.reduceLeDiff, Nat.reduceAdd, reduceCtorEq, decide_eq_true_eq, decide_eq_false_iff_not, Bool.false_eq_true, Bool.true_eq_false, true_and, and_true, forall_const, decide_true, decide_false, true_implies, implies_true, Bool.not_true, Bool.not_false, ← decide_not, Decidable.not_not, eq_self, Option.some.injEq, exists_eq_left', exists_eq_left, and_self, Int.toNat_natCast, Int.natCast_nonneg, List.getElem?_map, Option.isSome_some, not_false_eq_true, not_true_eq_false, List.getElem?_toArray, Int.reduceToNat, Int.reduceLE, Int.reduceLT, Int.toNat_zero, Int.reduceNeg, Int.reduceEq, Int.reduceNe, Nat.reduceBEq, Nat.reduceMul, Nat.reducePow, *])
theorem feed_nil (c : Int) (S : Heap) : CallsQ Try.prog 58 [.nilp, .int .u8 c] S (.int .i64 3) := by
  refine CallsA_W (fun _ => false) Try.func58 rfl (Nat.le_of_ble_eq_true rfl) ?_
  simp only [Try.f58]
  (simp only [go_sem, reduceIte, ite_true, ite_false, Nat.reduceEqDiff, Nat.reduceLT, Nat.reduceLeDiff, Nat.reduceAdd, reduceCtorEq, decide_eq_true_eq, decide_eq_false_iff_not, Bool.false_eq_true, Bool.true_eq_false, true_and, and_true, forall_const, decide_true, decide_false, true_implies, implies_true, Bool.not_true, Bool.not_false, ← decide_not, Decidable.not_not, eq_self, Option.some.injEq, exists_eq_left', exists_eq_left, and_self, Int.toNat_natCast, Int.natCast_nonneg, List.getElem?_map, Option.isSome_some, not_false_eq_true, not_true_eq_false, List.getElem?_toArray, Int.reduceToNat, Int.reduceLE, Int.reduceLT, Int.toNat_zero, Int.reduceNeg, Int.reduceEq, Int.reduceNe, Nat.reduceBEq, Nat.reduceMul, Nat.reducePow, *])
theorem rest_nil (S : Heap) : CallsQ Try.prog 59 [.nilp] S (.str []) := by
  refine CallsA_W (fun _ => false) Try.func59 rfl (Nat.le_of_ble_eq_true rfl) ?_
  simp only [Try.f59]
  (simp only [go_sem, reduceIte, ite_true, ite_false, Nat.reduceEqDiff, Nat.reduceLT, Nat.reduceLeDiff, Nat.reduceAdd, reduceCtorEq, decide_eq_true_eq, decide_eq_false_iff_not, Bool.false_eq_true, Bool.true_eq_false, true_and, and_true, forall_const, decide_true, decide_false, true_implies, implies_true, Bool.not_true, Bool.not_false, ← decide_not, Decidable.not_not, eq_self, Option.some.injEq, exists_eq_left', exists_eq_left, and_self, Int.toNat_natCast, Int.natCast_nonneg, List.getElem?_map, Option.isSome_some, not_false_eq_true, not_true_eq_false, List.getElem?_toArray, Int.reduceToNat, Int.reduceLE, Int.reduceLT, Int.toNat_zero, Int.reduceNeg, Int.reduceEq, Int.reduceNe, Nat.reduceBEq, Nat.reduceMul, Nat.reducePow, *])

/-! Feed -/
def byteRow (c : UInt8) : List PV := [.int .u8 (c.toNat : Int)]
def strRow (s : List UInt8) : List PV := [.str s]
structure RS where
  lines : List (List UInt8)
  line : List UInt8
  sm : Bool
  sig : Int
def rCells (e : List UInt8) (t : Bool) (pl pn : PV) (sm : Bool) (sig : Int) : List PV := [.str e, .bool t, pl, pn, .bool sm, .int .i64 sig]
/-- Reader r of S: what it holds; B is what is beside it. -/
structure IsRdr (B S : Heap) (r : Nat) (e : List UInt8) (t : Bool) (s : RS) (pl pn : PV) : Prop where
  cell : S r = some (.cells (rCells e t pl pn s.sm s.sig) 118)
  lines : Grows S 1 9 (s.lines.map strRow) pl
  line : Grows S 1 5 (s.line.map byteRow) pn
  dl : ownB pl ≠ some r
  dn : ownB pn ≠ some r
  dln : ∀ b, ownB pl = some b → ownB pn ≠ some b
  base : B.le S
  br : B r = none
  bl : ∀ b, ownB pl = some b → B b = none
  bn : ∀ b, ownB pn = some b → B b = none
theorem grows_frame {S S' : Heap} {sz : Nat} {e : TypeId} {rows : List (List PV)} {p : PV} (h : Grows S sz e rows p) (hf : ∀ b y, ownB p = some b → S b = some y → S' b = some y) : Grows S' sz e rows p := by
  rcases h with h | ⟨b, cap, cap', h1, h2, h3⟩
  · exact Or.inl h
  · exact Or.inr ⟨b, cap, cap', h1, hf b _ (by rw [h1]; rfl) h2, h3⟩
theorem grows_has {S : Heap} {sz : Nat} {e : TypeId} {rows : List (List PV)} {p : PV} (h : Grows S sz e rows p) {b : Nat} (hb : ownB p = some b) : ∃ y, S b = some y := by
  rcases h with ⟨h, _⟩ | ⟨b', cap, cap', h1, h2, h3⟩
  · rw [h] at hb; cases hb
  · rw [h1] at hb; cases hb; exact ⟨_, h2⟩
theorem set_self {S : Heap} {r : Nat} {o : MObj} : (S.set r o) r = some o := by rw [set_apply, if_pos rfl]
theorem set_other {S : Heap} {r c : Nat} {o : MObj} (h : c ≠ r) : (S.set r o) c = S c := by rw [set_apply, if_neg h]
/-- The reader's own cells are written. -/
theorem IsRdr.put {B S : Heap} {r : Nat} {e : List UInt8} {t : Bool} {s : RS} {pl pn : PV} (h : IsRdr B S r e t s pl pn) (s' : RS) (hl : s'.lines = s.lines) (hn : s'.line = s.line) : IsRdr B (S.set r (.cells (rCells e t pl pn s'.sm s'.sig) 118)) r e t s' pl pn where
  cell := set_self
  lines := by rw [hl]; exact grows_frame h.lines fun b y hb hy => by rw [set_other (fun e => h.dl (by rw [hb, e]))]; exact hy
  line := by rw [hn]; exact grows_frame h.line fun b y hb hy => by rw [set_other (fun e => h.dn (by rw [hb, e]))]; exact hy
  dl := h.dl
  dn := h.dn
  dln := h.dln
  base := fun b o hb => by rw [set_other (fun e => by rw [e, h.br] at hb; cases hb)]; exact h.base b o hb
  br := h.br
  bl := h.bl
  bn := h.bn
theorem IsRdr.clear {B S : Heap} {r : Nat} {e : List UInt8} {t : Bool} {s : RS} {pl pn : PV} (h : IsRdr B S r e t s pl pn) (s' : RS) (hl : s'.lines = s.lines) (hn : s'.line = []) : IsRdr B (S.set r (.cells (rCells e t pl .sl0 s'.sm s'.sig) 118)) r e t s' pl .sl0 where
  cell := set_self
  lines := by rw [hl]; exact grows_frame h.lines fun b y hb hy => by rw [set_other (fun e => h.dl (by rw [hb, e]))]; exact hy
  line := by rw [hn]; exact Or.inl ⟨rfl, rfl⟩
  dl := h.dl
  dn := fun h => by cases h
  dln := fun b _ h => by cases h
  base := fun b o hb => by rw [set_other (fun e => by rw [e, h.br] at hb; cases hb)]; exact h.base b o hb
  br := h.br
  bl := h.bl
  bn := fun b h => by cases h
/-- What append leaves of a block that is not the new slice's. -/
structure Grew (S S' : Heap) (ps p : PV) : Prop where
  own : ownB p = ownB ps ∨ ∃ b, ownB p = some b ∧ S b = none
  keep : ∀ c y, S c = some y → ownB p ≠ some c → S' c = some y
theorem Grew.ne {S S' : Heap} {ps p : PV} (h : Grew S S' ps p) {c : Nat} {y : MObj} (hc : S c = some y) (hn : ownB ps ≠ some c) : ownB p ≠ some c := by
  rcases h.own with h1 | ⟨b, h1, h2⟩
  · rw [h1]; exact hn
  · rw [h1]; rintro ⟨⟩; rw [h2] at hc; cases hc
theorem IsRdr.growLine {B S S' : Heap} {r : Nat} {e : List UInt8} {t : Bool} {s : RS} {pl pn p : PV} (h : IsRdr B S r e t s pl pn) (s' : RS) (hl : s'.lines = s.lines) (hg : Grows S' 1 5 (s'.line.map byteRow) p) (hw : Grew S S' pn p) :
    S' r = some (.cells (rCells e t pl pn s.sm s.sig) 118) ∧ IsRdr B (S'.set r (.cells (rCells e t pl p s'.sm s'.sig) 118)) r e t s' pl p := by
  have hr := hw.ne h.cell h.dn
  have hpl : ∀ b, ownB pl = some b → ownB p ≠ some b := fun b hb => by
    obtain ⟨y, hy⟩ := grows_has h.lines hb
    exact hw.ne hy (h.dln b hb)
  have hB : ∀ b, ownB p = some b → B b = none := fun b hb => by
    rcases hw.own with h1 | ⟨b', h1, h2⟩
    · exact h.bn b (by rw [← h1]; exact hb)
    · rw [h1] at hb; cases hb
      cases hc : B b with
      | none => rfl
      | some y => have := h.base b y hc; rw [h2] at this; cases this
  refine ⟨hw.keep r _ h.cell hr, ⟨set_self, ?_, ?_, h.dl, hr, hpl, ?_, h.br, h.bl, hB⟩⟩
  · rw [hl]
    exact grows_frame h.lines fun b y hb hy => by rw [set_other (fun e => h.dl (by rw [hb, e]))]; exact hw.keep b y hy (hpl b hb)
  · exact grows_frame hg fun b y hb hy => by rw [set_other (fun e => hr (by rw [hb, e]))]; exact hy
  · intro b o hb
    rw [set_other (fun e => by rw [e, h.br] at hb; cases hb)]
    exact hw.keep b o (h.base b o hb) (fun e => by have := hB b e; rw [this] at hb; cases hb)
theorem IsRdr.growLines {B S S' : Heap} {r : Nat} {e : List UInt8} {t : Bool} {s : RS} {pl ps pn p : PV} (h : IsRdr B S r e t s pl pn) (s' : RS) (hn : s'.line = s.line) (hg : Grows S' 1 9 (s'.lines.map strRow) p) (hw : Grew S S' ps p) (hps : ownB ps = ownB pl) :
    S' r = some (.cells (rCells e t pl pn s.sm s.sig) 118) ∧ IsRdr B (S'.set r (.cells (rCells e t p pn s'.sm s'.sig) 118)) r e t s' p pn := by
  have hr := hw.ne h.cell (by rw [hps]; exact h.dl)
  have hpn : ∀ b, ownB pn = some b → ownB p ≠ some b := fun b hb => by
    obtain ⟨y, hy⟩ := grows_has h.line hb
    exact hw.ne hy (by rw [hps]; exact fun e => h.dln b e hb)
  have hB : ∀ b, ownB p = some b → B b = none := fun b hb => by
    rcases hw.own with h1 | ⟨b', h1, h2⟩
    · exact h.bl b (by rw [← hps, ← h1]; exact hb)
    · rw [h1] at hb; cases hb
      cases hc : B b with
      | none => rfl
      | some y => have := h.base b y hc; rw [h2] at this; cases this
  refine ⟨hw.keep r _ h.cell hr, ⟨set_self, ?_, ?_, hr, h.dn, fun b hb e => hpn b e hb, ?_, h.br, hB, h.bn⟩⟩
  · exact grows_frame hg fun b y hb hy => by rw [set_other (fun e => hr (by rw [hb, e]))]; exact hy
  · rw [hn]
    exact grows_frame h.line fun b y hb hy => by rw [set_other (fun e => h.dn (by rw [hb, e]))]; exact hw.keep b y hy (hpn b hb)
  · intro b o hb
    rw [set_other (fun e => by rw [e, h.br] at hb; cases hb)]
    exact hw.keep b o (h.base b o hb) (fun e => by have := hB b e; rw [this] at hb; cases hb)

theorem app28 : appFacts Try.prog 28 = some (1, 1, 5) := by kernel_rfl
theorem app49 : appFacts Try.prog 49 = some (1, 16, 9) := by kernel_rfl
theorem sz3 : (Try.prog.info? 3).map (·.size) = some 1 := by kernel_rfl
theorem sz4 : (Try.prog.info? 4).map (·.size) = some 1 := by kernel_rfl
theorem sz28 : (Try.prog.info? 28).map (·.size) = some 1 := by kernel_rfl
theorem sz49 : (Try.prog.info? 49).map (·.size) = some 1 := by kernel_rfl
theorem bytes_rows : ∀ l : List UInt8, bytesOfRows (l.map byteRow) = some l := by
  intro l
  induction l with
  | nil => rfl
  | cons c l ih =>
    have h1 : ((c.toNat : Int) < 256) := by have := c.toNat_lt; omega
    simp [byteRow, bytesOfRows]
    exact ⟨h1, ih⟩

def feedS (e : List UInt8) (t : Bool) (s : RS) (c : UInt8) : RS :=
  if s.sig = 0 then
    if c = 0 then { s with sig := 3 }
    else if c = 10 then (if s.line = e then { s with sig := 1 } else { lines := s.lines ++ [s.line ++ [10]], line := [], sm := false, sig := 0 })
    else if c = 9 ∧ t = true ∧ s.line = [] then { s with sm := true }
    else { s with line := s.line ++ [c], sm := true }
  else s
def small (s : RS) : Prop := s.lines.length ≤ 1000000 ∧ s.line.length ≤ 1000000
theorem u8_ne {c : UInt8} {k : Nat} (hk : k < 256) (h : ¬ (c = UInt8.ofNat k)) : ¬ ((c.toNat : Int) = (k : Int)) := by
  intro e
  apply h
  rw [← UInt8.toNat_inj]
  have : (UInt8.ofNat k).toNat = k := by simp; omega
  omega
theorem over_calls (B : Heap) (r : Nat) (e : List UInt8) (t : Bool) (s : RS) (pl pn : PV) (S : Heap) (h : IsRdr B S r e t s pl pn) (hsm : small s) (h0 : s.sig = 0) :
    CallsA Try.prog 110 [.mp r 0] S fun q S' => q = .int .i64 (feedS e t s 10).sig ∧ ∃ pl' pn', IsRdr B S' r e t (feedS e t s 10) pl' pn' := by
  have hc := h.cell
  unfold rCells at hc
  have hgl := h.lines
  have hgn := h.line
  obtain ⟨hs1, hs2⟩ := hsm
  refine CallsA_W (fun _ => false) Try.func110 rfl (Nat.le_of_ble_eq_true rfl) ?_
  simp only [Try.f110]
  (simp only [go_sem, reduceIte, ite_true, ite_false, Nat.reduceEqDiff, Nat.reduceLT, Nat.reduceLeDiff, Nat.reduceAdd, reduceCtorEq, decide_eq_true_eq, decide_eq_false_iff_not, Bool.false_eq_true, Bool.true_eq_false, true_and, and_true, forall_const, decide_true, decide_false, true_implies, implies_true, Bool.not_true, Bool.not_false, ← decide_not, Decidable.not_not, eq_self, Option.some.injEq, exists_eq_left', exists_eq_left, and_self, Int.toNat_natCast, Int.natCast_nonneg, List.getElem?_map, Option.isSome_some, not_false_eq_true, not_true_eq_false, List.getElem?_toArray, Int.reduceToNat, Int.reduceLE, Int.reduceLT, Int.toNat_zero, Int.reduceNeg, Int.reduceEq, Int.reduceNe, Nat.reduceBEq, Nat.reduceMul, Nat.reducePow, *])
  refine CodeW_quiet mixed 11 (by kernel_rfl) ?_
  have hvn := grows_view hgn
  have hv : bytesOfRows (s.line.map byteRow) = some s.line := bytes_rows s.line
  have hsh : pn = .sl0 ∨ ∃ b n c, pn = .vec b n c := hgn.elim (fun h => Or.inl h.1) fun ⟨b, c, _, h, _⟩ => Or.inr ⟨b, _, c, h⟩
  have hb1 : s.line.length ≤ 9223372036854775806 := by omega
  have hz1 : (PV.str (s.line ++ [10])).isOne = true := rfl
  have hgl2 : (pl = .sl0 ∧ s.lines = []) ∨ ∃ b c c', pl = .vec b s.lines.length c ∧ S b = some (.rows 1 (s.lines.map strRow) c' 9) ∧ s.lines.length ≤ c ∧ c ≤ c' := by
    rcases hgl with ⟨h1, h2⟩ | ⟨b, c, c', h1, h2, h3, h4⟩
    · exact Or.inl ⟨h1, by simpa using h2⟩
    · simp only [List.length_map] at h1 h3
      exact Or.inr ⟨b, c, c', h1, h2, h3, h4⟩
  have hrow : (s.lines ++ [s.line ++ [10]]).map strRow = s.lines.map strRow ++ [[.str (s.line ++ [10])]] := by simp [strRow]
  by_cases hE : s.line = e
  · have hf : feedS e t s 10 = { s with sig := 1 } := by unfold feedS; simp [h0, hE]
    rw [hf]
    subst hE
    rcases hsh with rfl | ⟨bn, nn, cn, rfl⟩
    all_goals (simp only [go_sem, reduceIte, ite_true, ite_false, Nat.reduceEqDiff, Nat.reduceLT, Nat.reduceLeDiff, Nat.reduceAdd, reduceCtorEq, decide_eq_true_eq, decide_eq_false_iff_not, Bool.false_eq_true, Bool.true_eq_false, true_and, and_true, forall_const, decide_true, decide_false, true_implies, implies_true, Bool.not_true, Bool.not_false, ← decide_not, Decidable.not_not, eq_self, Option.some.injEq, exists_eq_left', exists_eq_left, and_self, Int.toNat_natCast, Int.natCast_nonneg, List.getElem?_map, Option.isSome_some, not_false_eq_true, not_true_eq_false, List.getElem?_toArray, Int.reduceToNat, Int.reduceLE, Int.reduceLT, Int.toNat_zero, Int.reduceNeg, Int.reduceEq, Int.reduceNe, Nat.reduceBEq, Nat.reduceMul, Nat.reducePow, *])
    all_goals refine QCW_view (p := .str s.line) (by simp only [go_sem, reduceIte, ite_true, ite_false, Nat.reduceEqDiff, Nat.reduceLT, Nat.reduceLeDiff, Nat.reduceAdd, reduceCtorEq, decide_eq_true_eq, decide_eq_false_iff_not, Bool.false_eq_true, Bool.true_eq_false, true_and, and_true, forall_const, decide_true, decide_false, true_implies, implies_true, Bool.not_true, Bool.not_false, ← decide_not, Decidable.not_not, eq_self, Option.some.injEq, exists_eq_left', exists_eq_left, and_self, Int.toNat_natCast, Int.natCast_nonneg, List.getElem?_map, Option.isSome_some, not_false_eq_true, not_true_eq_false, List.getElem?_toArray, Int.reduceToNat, Int.reduceLE, Int.reduceLT, Int.toNat_zero, Int.reduceNeg, Int.reduceEq, Int.reduceNe, Nat.reduceBEq, Nat.reduceMul, Nat.reducePow, ev_vreg, vreg, *]) rfl ?_
    all_goals (simp only [go_sem, reduceIte, ite_true, ite_false, Nat.reduceEqDiff, Nat.reduceLT, Nat.reduceLeDiff, Nat.reduceAdd, reduceCtorEq, decide_eq_true_eq, decide_eq_false_iff_not, Bool.false_eq_true, Bool.true_eq_false, true_and, and_true, forall_const, decide_true, decide_false, true_implies, implies_true, Bool.not_true, Bool.not_false, ← decide_not, Decidable.not_not, eq_self, Option.some.injEq, exists_eq_left', exists_eq_left, and_self, Int.toNat_natCast, Int.natCast_nonneg, List.getElem?_map, Option.isSome_some, not_false_eq_true, not_true_eq_false, List.getElem?_toArray, Int.reduceToNat, Int.reduceLE, Int.reduceLT, Int.toNat_zero, Int.reduceNeg, Int.reduceEq, Int.reduceNe, Nat.reduceBEq, Nat.reduceMul, Nat.reducePow, *])
    all_goals refine OpW_put (es := [.int .i64 1]) rfl rfl hc rfl rfl sz3 (Nat.le_of_ble_eq_true rfl) rfl ?_
    all_goals (simp only [go_sem, reduceIte, ite_true, ite_false, Nat.reduceEqDiff, Nat.reduceLT, Nat.reduceLeDiff, Nat.reduceAdd, reduceCtorEq, decide_eq_true_eq, decide_eq_false_iff_not, Bool.false_eq_true, Bool.true_eq_false, true_and, and_true, forall_const, decide_true, decide_false, true_implies, implies_true, Bool.not_true, Bool.not_false, ← decide_not, Decidable.not_not, eq_self, Option.some.injEq, exists_eq_left', exists_eq_left, and_self, Int.toNat_natCast, Int.natCast_nonneg, List.getElem?_map, Option.isSome_some, not_false_eq_true, not_true_eq_false, List.getElem?_toArray, Int.reduceToNat, Int.reduceLE, Int.reduceLT, Int.toNat_zero, Int.reduceNeg, Int.reduceEq, Int.reduceNe, Nat.reduceBEq, Nat.reduceMul, Nat.reducePow, *])
    all_goals exact ⟨_, _, h.put { s with sig := 1 } rfl rfl⟩
  · have hf : feedS e t s 10 = { lines := s.lines ++ [s.line ++ [10]], line := [], sm := false, sig := 0 } := by unfold feedS; simp [h0, hE]
    rw [hf]
    rcases hsh with rfl | ⟨bn, nn, cn, rfl⟩
    all_goals (simp only [go_sem, reduceIte, ite_true, ite_false, Nat.reduceEqDiff, Nat.reduceLT, Nat.reduceLeDiff, Nat.reduceAdd, reduceCtorEq, decide_eq_true_eq, decide_eq_false_iff_not, Bool.false_eq_true, Bool.true_eq_false, true_and, and_true, forall_const, decide_true, decide_false, true_implies, implies_true, Bool.not_true, Bool.not_false, ← decide_not, Decidable.not_not, eq_self, Option.some.injEq, exists_eq_left', exists_eq_left, and_self, Int.toNat_natCast, Int.natCast_nonneg, List.getElem?_map, Option.isSome_some, not_false_eq_true, not_true_eq_false, List.getElem?_toArray, Int.reduceToNat, Int.reduceLE, Int.reduceLT, Int.toNat_zero, Int.reduceNeg, Int.reduceEq, Int.reduceNe, Nat.reduceBEq, Nat.reduceMul, Nat.reducePow, *])
    all_goals refine QCW_view (p := .str s.line) (by simp only [go_sem, reduceIte, ite_true, ite_false, Nat.reduceEqDiff, Nat.reduceLT, Nat.reduceLeDiff, Nat.reduceAdd, reduceCtorEq, decide_eq_true_eq, decide_eq_false_iff_not, Bool.false_eq_true, Bool.true_eq_false, true_and, and_true, forall_const, decide_true, decide_false, true_implies, implies_true, Bool.not_true, Bool.not_false, ← decide_not, Decidable.not_not, eq_self, Option.some.injEq, exists_eq_left', exists_eq_left, and_self, Int.toNat_natCast, Int.natCast_nonneg, List.getElem?_map, Option.isSome_some, not_false_eq_true, not_true_eq_false, List.getElem?_toArray, Int.reduceToNat, Int.reduceLE, Int.reduceLT, Int.toNat_zero, Int.reduceNeg, Int.reduceEq, Int.reduceNe, Nat.reduceBEq, Nat.reduceMul, Nat.reducePow, ev_vreg, vreg, *]) rfl ?_
    all_goals (simp only [go_sem, reduceIte, ite_true, ite_false, Nat.reduceEqDiff, Nat.reduceLT, Nat.reduceLeDiff, Nat.reduceAdd, reduceCtorEq, decide_eq_true_eq, decide_eq_false_iff_not, Bool.false_eq_true, Bool.true_eq_false, true_and, and_true, forall_const, decide_true, decide_false, true_implies, implies_true, Bool.not_true, Bool.not_false, ← decide_not, Decidable.not_not, eq_self, Option.some.injEq, exists_eq_left', exists_eq_left, and_self, Int.toNat_natCast, Int.natCast_nonneg, List.getElem?_map, Option.isSome_some, not_false_eq_true, not_true_eq_false, List.getElem?_toArray, Int.reduceToNat, Int.reduceLE, Int.reduceLT, Int.toNat_zero, Int.reduceNeg, Int.reduceEq, Int.reduceNe, Nat.reduceBEq, Nat.reduceMul, Nat.reducePow, *])
    all_goals refine CodeW_quiet1 (d := 17) mixed 23 (by kernel_rfl) (by kernel_rfl) rfl rfl rfl ?_
    all_goals rcases hgl2 with ⟨rfl, hn0⟩ | ⟨b, c, c', rfl, hb, hc1, hc2⟩
    all_goals (simp only [go_sem, reduceIte, ite_true, ite_false, Nat.reduceEqDiff, Nat.reduceLT, Nat.reduceLeDiff, Nat.reduceAdd, reduceCtorEq, decide_eq_true_eq, decide_eq_false_iff_not, Bool.false_eq_true, Bool.true_eq_false, true_and, and_true, forall_const, decide_true, decide_false, true_implies, implies_true, Bool.not_true, Bool.not_false, ← decide_not, Decidable.not_not, eq_self, Option.some.injEq, exists_eq_left', exists_eq_left, and_self, Int.toNat_natCast, Int.natCast_nonneg, List.getElem?_map, Option.isSome_some, not_false_eq_true, not_true_eq_false, List.getElem?_toArray, Int.reduceToNat, Int.reduceLE, Int.reduceLT, Int.toNat_zero, Int.reduceNeg, Int.reduceEq, Int.reduceNe, Nat.reduceBEq, Nat.reduceMul, Nat.reducePow, *])
    all_goals first
      | refine QCW_of (QV_slice30 rfl elemSize49 rfl rfl rfl) ?_
      | refine QCW_of (QV_slice3 (h := s.lines.length) (m := s.lines.length) rfl elemSize49 rfl rfl rfl (Nat.le_refl _) hc1) ?_
    all_goals (simp only [go_sem, reduceIte, ite_true, ite_false, Nat.reduceEqDiff, Nat.reduceLT, Nat.reduceLeDiff, Nat.reduceAdd, reduceCtorEq, decide_eq_true_eq, decide_eq_false_iff_not, Bool.false_eq_true, Bool.true_eq_false, true_and, and_true, forall_const, decide_true, decide_false, true_implies, implies_true, Bool.not_true, Bool.not_false, ← decide_not, Decidable.not_not, eq_self, Option.some.injEq, exists_eq_left', exists_eq_left, and_self, Int.toNat_natCast, Int.natCast_nonneg, List.getElem?_map, Option.isSome_some, not_false_eq_true, not_true_eq_false, List.getElem?_toArray, Int.reduceToNat, Int.reduceLE, Int.reduceLT, Int.toNat_zero, Int.reduceNeg, Int.reduceEq, Int.reduceNe, Nat.reduceBEq, Nat.reduceMul, Nat.reducePow, *])
    all_goals refine QCW_view (p := .str s.line) (by simp only [go_sem, reduceIte, ite_true, ite_false, Nat.reduceEqDiff, Nat.reduceLT, Nat.reduceLeDiff, Nat.reduceAdd, reduceCtorEq, decide_eq_true_eq, decide_eq_false_iff_not, Bool.false_eq_true, Bool.true_eq_false, true_and, and_true, forall_const, decide_true, decide_false, true_implies, implies_true, Bool.not_true, Bool.not_false, ← decide_not, Decidable.not_not, eq_self, Option.some.injEq, exists_eq_left', exists_eq_left, and_self, Int.toNat_natCast, Int.natCast_nonneg, List.getElem?_map, Option.isSome_some, not_false_eq_true, not_true_eq_false, List.getElem?_toArray, Int.reduceToNat, Int.reduceLE, Int.reduceLT, Int.toNat_zero, Int.reduceNeg, Int.reduceEq, Int.reduceNe, Nat.reduceBEq, Nat.reduceMul, Nat.reducePow, ev_vreg, vreg, *]) rfl ?_
    all_goals (simp only [go_sem, reduceIte, ite_true, ite_false, Nat.reduceEqDiff, Nat.reduceLT, Nat.reduceLeDiff, Nat.reduceAdd, reduceCtorEq, decide_eq_true_eq, decide_eq_false_iff_not, Bool.false_eq_true, Bool.true_eq_false, true_and, and_true, forall_const, decide_true, decide_false, true_implies, implies_true, Bool.not_true, Bool.not_false, ← decide_not, Decidable.not_not, eq_self, Option.some.injEq, exists_eq_left', exists_eq_left, and_self, Int.toNat_natCast, Int.natCast_nonneg, List.getElem?_map, Option.isSome_some, not_false_eq_true, not_true_eq_false, List.getElem?_toArray, Int.reduceToNat, Int.reduceLE, Int.reduceLT, Int.toNat_zero, Int.reduceNeg, Int.reduceEq, Int.reduceNe, Nat.reduceBEq, Nat.reduceMul, Nat.reducePow, *])
    all_goals have hlm : (s.lines.map strRow).length = s.lines.length := by simp
    all_goals first
      | refine OpW_append (rows := [[.str (s.line ++ [10])]]) (olds := s.lines.map strRow) (ps := .sl0) rfl app49 rfl rfl (fun r hr c hc => by simp at hr; subst hr; simp at hc; subst hc; rfl) rfl (Or.inl ⟨rfl, by rw [hn0]; rfl⟩) (by rw [hlm]; simp [maxLen]; omega) (by rw [hlm]; simp; omega) ?_
      | refine OpW_append (rows := [[.str (s.line ++ [10])]]) (olds := s.lines.map strRow) (ps := .vec b s.lines.length s.lines.length) rfl app49 rfl rfl (fun r hr c hc => by simp at hr; subst hr; simp at hc; subst hc; rfl) rfl (Or.inr ⟨b, _, c', by rw [hlm], hb, by rw [hlm]; exact Nat.le_refl _, by omega⟩) (by rw [hlm]; simp [maxLen]; omega) (by rw [hlm]; simp; omega) ?_
    all_goals rintro p S' g1 g2 g3
    all_goals rw [← hrow] at g1
    all_goals obtain ⟨k1, k2⟩ := h.growLines { s with lines := s.lines ++ [s.line ++ [10]] } rfl g1 ⟨g2, g3⟩ rfl
    all_goals unfold rCells at k1
    all_goals (simp only [go_sem, reduceIte, ite_true, ite_false, Nat.reduceEqDiff, Nat.reduceLT, Nat.reduceLeDiff, Nat.reduceAdd, reduceCtorEq, decide_eq_true_eq, decide_eq_false_iff_not, Bool.false_eq_true, Bool.true_eq_false, true_and, and_true, forall_const, decide_true, decide_false, true_implies, implies_true, Bool.not_true, Bool.not_false, ← decide_not, Decidable.not_not, eq_self, Option.some.injEq, exists_eq_left', exists_eq_left, and_self, Int.toNat_natCast, Int.natCast_nonneg, List.getElem?_map, Option.isSome_some, not_false_eq_true, not_true_eq_false, List.getElem?_toArray, Int.reduceToNat, Int.reduceLE, Int.reduceLT, Int.toNat_zero, Int.reduceNeg, Int.reduceEq, Int.reduceNe, Nat.reduceBEq, Nat.reduceMul, Nat.reducePow, *])
    all_goals rcases g1 with ⟨_, hbad⟩ | ⟨b', cp, cp', rfl, g5⟩
    all_goals first | (exfalso; simp at hbad; done) | skip
    all_goals generalize hN : (List.map strRow (s.lines ++ [s.line ++ [10]])).length = N at *
    all_goals refine OpW_put (es := [.vec b' N cp]) rfl rfl k1 rfl rfl sz49 (Nat.le_of_ble_eq_true rfl) rfl ?_
    all_goals (simp only [go_sem, reduceIte, ite_true, ite_false, Nat.reduceEqDiff, Nat.reduceLT, Nat.reduceLeDiff, Nat.reduceAdd, reduceCtorEq, decide_eq_true_eq, decide_eq_false_iff_not, Bool.false_eq_true, Bool.true_eq_false, true_and, and_true, forall_const, decide_true, decide_false, true_implies, implies_true, Bool.not_true, Bool.not_false, ← decide_not, Decidable.not_not, eq_self, Option.some.injEq, exists_eq_left', exists_eq_left, and_self, Int.toNat_natCast, Int.natCast_nonneg, List.getElem?_map, Option.isSome_some, not_false_eq_true, not_true_eq_false, List.getElem?_toArray, Int.reduceToNat, Int.reduceLE, Int.reduceLT, Int.toNat_zero, Int.reduceNeg, Int.reduceEq, Int.reduceNe, Nat.reduceBEq, Nat.reduceMul, Nat.reducePow, *])
    all_goals refine OpW_put (es := [.sl0]) rfl rfl set_self rfl rfl sz28 (Nat.le_of_ble_eq_true rfl) rfl ?_
    all_goals (simp only [go_sem, reduceIte, ite_true, ite_false, Nat.reduceEqDiff, Nat.reduceLT, Nat.reduceLeDiff, Nat.reduceAdd, reduceCtorEq, decide_eq_true_eq, decide_eq_false_iff_not, Bool.false_eq_true, Bool.true_eq_false, true_and, and_true, forall_const, decide_true, decide_false, true_implies, implies_true, Bool.not_true, Bool.not_false, ← decide_not, Decidable.not_not, eq_self, Option.some.injEq, exists_eq_left', exists_eq_left, and_self, Int.toNat_natCast, Int.natCast_nonneg, List.getElem?_map, Option.isSome_some, not_false_eq_true, not_true_eq_false, List.getElem?_toArray, Int.reduceToNat, Int.reduceLE, Int.reduceLT, Int.toNat_zero, Int.reduceNeg, Int.reduceEq, Int.reduceNe, Nat.reduceBEq, Nat.reduceMul, Nat.reducePow, *])
    all_goals refine OpW_put (es := [.bool false]) rfl rfl set_self rfl rfl sz4 (Nat.le_of_ble_eq_true rfl) rfl ?_
    all_goals (simp only [go_sem, reduceIte, ite_true, ite_false, Nat.reduceEqDiff, Nat.reduceLT, Nat.reduceLeDiff, Nat.reduceAdd, reduceCtorEq, decide_eq_true_eq, decide_eq_false_iff_not, Bool.false_eq_true, Bool.true_eq_false, true_and, and_true, forall_const, decide_true, decide_false, true_implies, implies_true, Bool.not_true, Bool.not_false, ← decide_not, Decidable.not_not, eq_self, Option.some.injEq, exists_eq_left', exists_eq_left, and_self, Int.toNat_natCast, Int.natCast_nonneg, List.getElem?_map, Option.isSome_some, not_false_eq_true, not_true_eq_false, List.getElem?_toArray, Int.reduceToNat, Int.reduceLE, Int.reduceLT, Int.toNat_zero, Int.reduceNeg, Int.reduceEq, Int.reduceNe, Nat.reduceBEq, Nat.reduceMul, Nat.reducePow, *])
    all_goals have k3 := k2.clear { lines := s.lines ++ [s.line ++ [10]], line := [], sm := false, sig := 0 } rfl rfl
    all_goals rw [Heap.set_set] at k3
    all_goals refine ⟨.vec b' N cp, .sl0, ?_⟩
    all_goals rw [Heap.set_set, Heap.set_set]
    all_goals first
      | exact k3
      | (rw [hn0, List.nil_append] at k3; exact k3)

end Go.Proofs.Ytcbonfgkfiapaaa.Pv
