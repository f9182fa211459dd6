/- What the functions of package here compute. What a reader of package here does with a byte, and its text. What a reader of package here says, and the statements' own run of it. The statements' own run of package here, and what holds of no reader. -/
import Derived.Test.YtcbonfgkfiapaaaChar1
import Derived.Test.YtcbonfgkfiapaaaCore4
import Derived.Test.YtcbonfgkfiapaaaShelfT
import Derived.Test.YtcbonfgkfiapaaaShelfJ
/-! What the functions of package here compute. -/
set_option linter.unusedVariables false
set_option linter.unusedSimpArgs false
set_option maxRecDepth 100000
set_option maxHeartbeats 4000000
namespace Go.Proofs.Ytcbonfgkfiapaaa.Pv
open Go Go.RowKit

theorem CallsQ_below {P : Program} {f : FuncId} {ps : List PV} {p : PV} {S : Heap} (h : ∀ w (args : Array Value), RepVals w S.im ps args.toList → (∀ b o, S b = some o → Holds w S.im b o) → Calls P f args w fun e w' => ∃ v, e = .returned v ∧ Rep w' S.im p v ∧ Below w.heap.size w w') : CallsQ P f ps S p := by
  intro w args hv hh
  refine (h w args hv hh).mono ?_
  rintro e w' ⟨v, rfl, h1, h2⟩
  have hx : Ext w S w' S := ⟨h2.os, h2.tape, h2.output, h2.size, fun b hb hs => ⟨hs, h2.block b hb⟩⟩
  exact ⟨v, p, S, rfl, h1, fun b o hb => (hh b o hb).keep hx.keeps (h2.block b (hh b o hb).lt), hx, rfl, rfl⟩
theorem args_str2 {w : World} {im : Nat → Prop} {a b : List UInt8} {args : Array Value} (h : RepVals w im [.str a, .str b] args.toList) : args = #[.string ⟨a.toArray⟩, .string ⟨b.toArray⟩] := by
  simp only [RepVals, Rep] at h
  obtain ⟨v, r, h1, rfl, v2, r2, h2, rfl, rfl⟩ := h
  subst h2
  exact Array.ext' (by simpa using h1)
attribute [go_sem] Nat.zero_le beq_self_eq_true

def ascii (s : List UInt8) : Prop := ∀ (j : Nat) (b : UInt8), s[j]? = some b → b.toNat < 128
theorem containsAny_calls (s cs : List UInt8) (h1 : s.length < 4294967281) (h2 : cs.length < 4294967281) (ha : ascii s) (hb : ascii cs) (S : Heap) : CallsQ Try.prog 108 [.str s, .str cs] S (.bool (Lib.containsAny s cs)) := by
  refine CallsQ_below fun w args hv hh => ?_
  rw [args_str2 hv]
  refine (Try.strings_ContainsAny_laid ⟨s.toArray⟩ ⟨cs.toArray⟩ w (by simpa [ByteArray.size] using h1) (by simpa [ByteArray.size] using h2) ha hb).mono ?_
  rintro e w' ⟨rfl, h⟩
  exact ⟨_, rfl, by simp only [Rep], h⟩
theorem hasPrefix_calls (s p : List UInt8) (S : Heap) : CallsQ Try.prog 104 [.str s, .str p] S (.bool (Lib.hasPrefix s p)) := by
  refine CallsQ_below fun w args hv hh => ?_
  rw [args_str2 hv]
  refine (Try.strings_HasPrefix ⟨s.toArray⟩ ⟨p.toArray⟩ w).mono ?_
  rintro e w' ⟨rfl, rfl⟩
  exact ⟨_, rfl, by simp only [Rep], Below.refl _ _⟩
theorem contains_calls (s : List UInt8) (c : UInt8) (S : Heap) : CallsQ Try.prog 102 [.str s, .str [c]] S (.bool (decide (0 ≤ Lib.indexByte s c))) := by
  refine CallsQ_below fun w args hv hh => ?_
  rw [args_str2 hv]
  refine (Try.strings_Contains_one ⟨s.toArray⟩ c w).mono ?_
  rintro e w' ⟨rfl, rfl⟩
  exact ⟨_, rfl, by simp only [Rep], Below.refl _ _⟩

/-- What of an end is wanted: that it is asked whether one of its bytes is 0 or a line feed. -/
def okEnd (e : List UInt8) : Prop := ∀ S, CallsQ Try.prog 108 [.str e, .str [0, 10]] S (.bool (Lib.containsAny e [0, 10]))
theorem okEnd_ascii {e : List UInt8} (h1 : e.length < 4294967281) (ha : ascii e) : okEnd e := fun S => containsAny_calls e [0, 10] h1 (by decide) ha (fun j b h => by
    have : b ∈ [(0 : UInt8), 10] := List.mem_of_getElem? h
    simp at this; rcases this with rfl | rfl <;> decide) S
/-! Right -/
def hereRight (e : List UInt8) (t : Bool) : Bool := !Lib.containsAny e [0, 10] && (!t || !Lib.hasPrefix e [9])
theorem right_calls (e : List UInt8) (t : Bool) (h1 : e.length < 4294967281) (ha : okEnd e) (S : Heap) : CallsQ Try.prog 55 [.agg [.str e, .bool t]] S (.bool (hereRight e t)) := by
  refine CallsA_W (fun _ => false) Try.func55 rfl (Nat.le_of_ble_eq_true rfl) ?_
  simp only [Try.f55]
  (simp only [go_sem, reduceIte, Nat.reduceEqDiff, Nat.reduceLT, Nat.reduceLeDiff, Nat.reduceAdd, reduceCtorEq, Int.reduceToNat, Int.reduceLE, Int.reduceLT, Int.reduceNeg, *])
  refine OpW_call rfl rfl call108 rfl ((ha _).mono ?_)
  rintro p S' ⟨rfl, rfl⟩
  unfold hereRight
  cases Lib.containsAny e [0, 10] with
  | true => (simp only [go_sem, reduceIte, Nat.reduceEqDiff, Nat.reduceLT, Nat.reduceLeDiff, Nat.reduceAdd, reduceCtorEq, Int.reduceToNat, Int.reduceLE, Int.reduceLT, Int.reduceNeg, *])
            rfl
  | false =>
    cases t with
    | false => (simp only [go_sem, reduceIte, Nat.reduceEqDiff, Nat.reduceLT, Nat.reduceLeDiff, Nat.reduceAdd, reduceCtorEq, Int.reduceToNat, Int.reduceLE, Int.reduceLT, Int.reduceNeg, *])
               rfl
    | true =>
      (simp only [go_sem, reduceIte, Nat.reduceEqDiff, Nat.reduceLT, Nat.reduceLeDiff, Nat.reduceAdd, reduceCtorEq, Int.reduceToNat, Int.reduceLE, Int.reduceLT, Int.reduceNeg, *])
      refine OpW_call rfl rfl call104 rfl ((hasPrefix_calls e [9] _).mono ?_)
      rintro p S' ⟨rfl, rfl⟩
      cases Lib.hasPrefix e [9] <;> (simp only [go_sem, reduceIte, Nat.reduceEqDiff, Nat.reduceLT, Nat.reduceLeDiff, Nat.reduceAdd, reduceCtorEq, Int.reduceToNat, Int.reduceLE, Int.reduceLT, Int.reduceNeg, *]) <;> rfl

/-! A reader -/
def rdr (e : List UInt8) (t : Bool) (pl pn : PV) (some : Bool) (sig : Int) : MObj := .cells [.str e, .bool t, pl, pn, .bool some, .int .i64 sig] 118
theorem hereNew_calls (e : List UInt8) (t : Bool) (h1 : e.length < 4294967281) (ha : okEnd e) (S : Heap) :
    CallsA Try.prog 101 [.agg [.str e, .bool t]] S fun q S' => if hereRight e t = true then ∃ r, S r = none ∧ q = .mp r 0 ∧ S' = S.set r (rdr e t .sl0 .sl0 false 0) else q = .nilp ∧ S' = S := by
  refine CallsA_W (fun x => x == 8) Try.func101 rfl (Nat.le_of_ble_eq_true rfl) ?_
  simp only [Try.f101]
  (simp only [go_sem, reduceIte, Nat.reduceEqDiff, Nat.reduceLT, Nat.reduceLeDiff, Nat.reduceAdd, reduceCtorEq, Int.reduceToNat, Int.reduceLE, Int.reduceLT, Int.reduceNeg, Int.reduceEq, Int.reduceNe, Nat.reduceBEq, Nat.reduceMul, Nat.reducePow, *])
  refine OpW_call rfl rfl call55 rfl ((right_calls e t h1 ha _).mono ?_)
  rintro p S' ⟨rfl, rfl⟩
  rcases Bool.eq_false_or_eq_true (hereRight e t) with hr | hr
  · have hu := Try.underlying118
    (simp only [go_sem, reduceIte, Nat.reduceEqDiff, Nat.reduceLT, Nat.reduceLeDiff, Nat.reduceAdd, reduceCtorEq, Int.reduceToNat, Int.reduceLE, Int.reduceLT, Int.reduceNeg, Int.reduceEq, Int.reduceNe, Nat.reduceBEq, Nat.reduceMul, Nat.reducePow, *])
    refine OpW_boxM (cs := [.str e, .bool t, .sl0, .sl0, .bool false, .int .i64 0]) rfl rfl rfl fun b hb => ?_
    (simp only [go_sem, reduceIte, Nat.reduceEqDiff, Nat.reduceLT, Nat.reduceLeDiff, Nat.reduceAdd, reduceCtorEq, Int.reduceToNat, Int.reduceLE, Int.reduceLT, Int.reduceNeg, Int.reduceEq, Int.reduceNe, Nat.reduceBEq, Nat.reduceMul, Nat.reducePow, *])
    exact ⟨b, hb, rfl, rfl⟩
  · (simp only [go_sem, reduceIte, Nat.reduceEqDiff, Nat.reduceLT, Nat.reduceLeDiff, Nat.reduceAdd, reduceCtorEq, Int.reduceToNat, Int.reduceLE, Int.reduceLT, Int.reduceNeg, Int.reduceEq, Int.reduceNe, Nat.reduceBEq, Nat.reduceMul, Nat.reducePow, *])

/-! Where it has no value -/
theorem text_nil (S : Heap) : CallsQ Try.prog 57 [.nilp] S (.tup [.str [], .bool false]) := by
  refine CallsA_W (fun _ => false) Try.func57 rfl (Nat.le_of_ble_eq_true rfl) ?_
  simp only [Try.f57]
  (simp only [go_sem, reduceIte, Nat.reduceEqDiff, Nat.reduceLT, Nat.reduceLeDiff, Nat.reduceAdd, reduceCtorEq, Int.reduceToNat, Int.reduceLE, Int.reduceLT, Int.reduceNeg, Int.reduceEq, Int.reduceNe, Nat.reduceBEq, Nat.reduceMul, Nat.reducePow, *])
theorem feed_nil (c : Int) (S : Heap) : CallsQ Try.prog 58 [.nilp, .int .u8 c] S (.int .i64 3) := by
  refine CallsA_W (fun _ => false) Try.func58 rfl (Nat.le_of_ble_eq_true rfl) ?_
  simp only [Try.f58]
  (simp only [go_sem, reduceIte, Nat.reduceEqDiff, Nat.reduceLT, Nat.reduceLeDiff, Nat.reduceAdd, reduceCtorEq, Int.reduceToNat, Int.reduceLE, Int.reduceLT, Int.reduceNeg, Int.reduceEq, Int.reduceNe, Nat.reduceBEq, Nat.reduceMul, Nat.reducePow, *])
theorem rest_nil (S : Heap) : CallsQ Try.prog 59 [.nilp] S (.str []) := by
  refine CallsA_W (fun _ => false) Try.func59 rfl (Nat.le_of_ble_eq_true rfl) ?_
  simp only [Try.f59]
  (simp only [go_sem, reduceIte, Nat.reduceEqDiff, Nat.reduceLT, Nat.reduceLeDiff, Nat.reduceAdd, reduceCtorEq, Int.reduceToNat, Int.reduceLE, Int.reduceLT, Int.reduceNeg, Int.reduceEq, Int.reduceNe, Nat.reduceBEq, Nat.reduceMul, Nat.reducePow, *])

/-! Feed -/
def byteRow (c : UInt8) : List PV := [.int .u8 (c.toNat : Int)]
def strRow (s : List UInt8) : List PV := [.str s]
structure RS where
  lines : List (List UInt8)
  line : List UInt8
  sm : Bool
  sig : Int
def rCells (e : List UInt8) (t : Bool) (pl pn : PV) (sm : Bool) (sig : Int) : List PV := [.str e, .bool t, pl, pn, .bool sm, .int .i64 sig]
/-- Reader r of S: what it holds; B is what is beside it. -/
structure IsRdr (B S : Heap) (r : Nat) (e : List UInt8) (t : Bool) (s : RS) (pl pn : PV) : Prop where
  cell : S r = some (.cells (rCells e t pl pn s.sm s.sig) 118)
  lines : Grows S 1 9 (s.lines.map strRow) pl
  line : Grows S 1 5 (s.line.map byteRow) pn
  dl : ownB pl ≠ some r
  dn : ownB pn ≠ some r
  dln : ∀ b, ownB pl = some b → ownB pn ≠ some b
  base : B.le S
  br : B r = none
  bl : ∀ b, ownB pl = some b → B b = none
  bn : ∀ b, ownB pn = some b → B b = none
theorem grows_frame {S S' : Heap} {sz : Nat} {e : TypeId} {rows : List (List PV)} {p : PV} (h : Grows S sz e rows p) (hf : ∀ b y, ownB p = some b → S b = some y → S' b = some y) : Grows S' sz e rows p := by
  rcases h with h | ⟨b, cap, cap', h1, h2, h3⟩
  · exact Or.inl h
  · exact Or.inr ⟨b, cap, cap', h1, hf b _ (by rw [h1]; rfl) h2, h3⟩
theorem grows_has {S : Heap} {sz : Nat} {e : TypeId} {rows : List (List PV)} {p : PV} (h : Grows S sz e rows p) {b : Nat} (hb : ownB p = some b) : ∃ y, S b = some y := by
  rcases h with ⟨h, _⟩ | ⟨b', cap, cap', h1, h2, h3⟩
  · rw [h] at hb; cases hb
  · rw [h1] at hb; cases hb; exact ⟨_, h2⟩
theorem set_self {S : Heap} {r : Nat} {o : MObj} : (S.set r o) r = some o := by rw [set_apply, if_pos rfl]
theorem set_other {S : Heap} {r c : Nat} {o : MObj} (h : c ≠ r) : (S.set r o) c = S c := by rw [set_apply, if_neg h]
/-- The reader's own cells are written. -/
theorem IsRdr.put {B S : Heap} {r : Nat} {e : List UInt8} {t : Bool} {s : RS} {pl pn : PV} (h : IsRdr B S r e t s pl pn) (s' : RS) (hl : s'.lines = s.lines) (hn : s'.line = s.line) : IsRdr B (S.set r (.cells (rCells e t pl pn s'.sm s'.sig) 118)) r e t s' pl pn where
  cell := set_self
  lines := by rw [hl]; exact grows_frame h.lines fun b y hb hy => by rw [set_other (fun e => h.dl (by rw [hb, e]))]; exact hy
  line := by rw [hn]; exact grows_frame h.line fun b y hb hy => by rw [set_other (fun e => h.dn (by rw [hb, e]))]; exact hy
  dl := h.dl
  dn := h.dn
  dln := h.dln
  base := fun b o hb => by rw [set_other (fun e => by rw [e, h.br] at hb; cases hb)]; exact h.base b o hb
  br := h.br
  bl := h.bl
  bn := h.bn
theorem IsRdr.clear {B S : Heap} {r : Nat} {e : List UInt8} {t : Bool} {s : RS} {pl pn : PV} (h : IsRdr B S r e t s pl pn) (s' : RS) (hl : s'.lines = s.lines) (hn : s'.line = []) : IsRdr B (S.set r (.cells (rCells e t pl .sl0 s'.sm s'.sig) 118)) r e t s' pl .sl0 where
  cell := set_self
  lines := by rw [hl]; exact grows_frame h.lines fun b y hb hy => by rw [set_other (fun e => h.dl (by rw [hb, e]))]; exact hy
  line := by rw [hn]; exact Or.inl ⟨rfl, rfl⟩
  dl := h.dl
  dn := fun h => by cases h
  dln := fun b _ h => by cases h
  base := fun b o hb => by rw [set_other (fun e => by rw [e, h.br] at hb; cases hb)]; exact h.base b o hb
  br := h.br
  bl := h.bl
  bn := fun b h => by cases h
/-- What append leaves of a block that is not the new slice's. -/
structure Grew (S S' : Heap) (ps p : PV) : Prop where
  own : ownB p = ownB ps ∨ ∃ b, ownB p = some b ∧ S b = none
  keep : ∀ c y, S c = some y → ownB p ≠ some c → S' c = some y
theorem Grew.ne {S S' : Heap} {ps p : PV} (h : Grew S S' ps p) {c : Nat} {y : MObj} (hc : S c = some y) (hn : ownB ps ≠ some c) : ownB p ≠ some c := by
  rcases h.own with h1 | ⟨b, h1, h2⟩
  · rw [h1]; exact hn
  · rw [h1]; rintro ⟨⟩; rw [h2] at hc; cases hc
theorem IsRdr.growLine {B S S' : Heap} {r : Nat} {e : List UInt8} {t : Bool} {s : RS} {pl pn p : PV} (h : IsRdr B S r e t s pl pn) (s' : RS) (hl : s'.lines = s.lines) (hg : Grows S' 1 5 (s'.line.map byteRow) p) (hw : Grew S S' pn p) :
    S' r = some (.cells (rCells e t pl pn s.sm s.sig) 118) ∧ IsRdr B (S'.set r (.cells (rCells e t pl p s'.sm s'.sig) 118)) r e t s' pl p := by
  have hr := hw.ne h.cell h.dn
  have hpl : ∀ b, ownB pl = some b → ownB p ≠ some b := fun b hb => by
    obtain ⟨y, hy⟩ := grows_has h.lines hb
    exact hw.ne hy (h.dln b hb)
  have hB : ∀ b, ownB p = some b → B b = none := fun b hb => by
    rcases hw.own with h1 | ⟨b', h1, h2⟩
    · exact h.bn b (by rw [← h1]; exact hb)
    · rw [h1] at hb; cases hb
      cases hc : B b with
      | none => rfl
      | some y => have := h.base b y hc; rw [h2] at this; cases this
  refine ⟨hw.keep r _ h.cell hr, ⟨set_self, ?_, ?_, h.dl, hr, hpl, ?_, h.br, h.bl, hB⟩⟩
  · rw [hl]
    exact grows_frame h.lines fun b y hb hy => by rw [set_other (fun e => h.dl (by rw [hb, e]))]; exact hw.keep b y hy (hpl b hb)
  · exact grows_frame hg fun b y hb hy => by rw [set_other (fun e => hr (by rw [hb, e]))]; exact hy
  · intro b o hb
    rw [set_other (fun e => by rw [e, h.br] at hb; cases hb)]
    exact hw.keep b o (h.base b o hb) (fun e => by have := hB b e; rw [this] at hb; cases hb)
theorem IsRdr.growLines {B S S' : Heap} {r : Nat} {e : List UInt8} {t : Bool} {s : RS} {pl ps pn p : PV} (h : IsRdr B S r e t s pl pn) (s' : RS) (hn : s'.line = s.line) (hg : Grows S' 1 9 (s'.lines.map strRow) p) (hw : Grew S S' ps p) (hps : ownB ps = ownB pl) :
    S' r = some (.cells (rCells e t pl pn s.sm s.sig) 118) ∧ IsRdr B (S'.set r (.cells (rCells e t p pn s'.sm s'.sig) 118)) r e t s' p pn := by
  have hr := hw.ne h.cell (by rw [hps]; exact h.dl)
  have hpn : ∀ b, ownB pn = some b → ownB p ≠ some b := fun b hb => by
    obtain ⟨y, hy⟩ := grows_has h.line hb
    exact hw.ne hy (by rw [hps]; exact fun e => h.dln b e hb)
  have hB : ∀ b, ownB p = some b → B b = none := fun b hb => by
    rcases hw.own with h1 | ⟨b', h1, h2⟩
    · exact h.bl b (by rw [← hps, ← h1]; exact hb)
    · rw [h1] at hb; cases hb
      cases hc : B b with
      | none => rfl
      | some y => have := h.base b y hc; rw [h2] at this; cases this
  refine ⟨hw.keep r _ h.cell hr, ⟨set_self, ?_, ?_, hr, h.dn, fun b hb e => hpn b e hb, ?_, h.br, hB, h.bn⟩⟩
  · exact grows_frame hg fun b y hb hy => by rw [set_other (fun e => hr (by rw [hb, e]))]; exact hy
  · rw [hn]
    exact grows_frame h.line fun b y hb hy => by rw [set_other (fun e => h.dn (by rw [hb, e]))]; exact hw.keep b y hy (hpn b hb)
  · intro b o hb
    rw [set_other (fun e => by rw [e, h.br] at hb; cases hb)]
    exact hw.keep b o (h.base b o hb) (fun e => by have := hB b e; rw [this] at hb; cases hb)

theorem app28 : appFacts Try.prog 28 = some (1, 1, 5) := by kernel_rfl
theorem app49 : appFacts Try.prog 49 = some (1, 16, 9) := by kernel_rfl
theorem sz3 : (Try.prog.info? 3).map (·.size) = some 1 := by kernel_rfl
theorem sz4 : (Try.prog.info? 4).map (·.size) = some 1 := by kernel_rfl
theorem sz28 : (Try.prog.info? 28).map (·.size) = some 1 := by kernel_rfl
theorem sz49 : (Try.prog.info? 49).map (·.size) = some 1 := by kernel_rfl
theorem bytes_rows : ∀ l : List UInt8, bytesOfRows (l.map byteRow) = some l := by
  intro l
  induction l with
  | nil => rfl
  | cons c l ih =>
    have h1 : ((c.toNat : Int) < 256) := by have := c.toNat_lt; omega
    simp [byteRow, bytesOfRows]
    exact ⟨h1, ih⟩

def feedS (e : List UInt8) (t : Bool) (s : RS) (c : UInt8) : RS :=
  if s.sig = 0 then
    if c = 0 then { s with sig := 3 }
    else if c = 10 then (if s.line = e then { s with sig := 1 } else { lines := s.lines ++ [s.line ++ [10]], line := [], sm := false, sig := 0 })
    else if c = 9 ∧ t = true ∧ s.line = [] then { s with sm := true }
    else { s with line := s.line ++ [c], sm := true }
  else s
def small (s : RS) : Prop := s.lines.length ≤ 1000000 ∧ s.line.length ≤ 1000000
theorem u8_ne {c : UInt8} {k : Nat} (hk : k < 256) (h : ¬ (c = UInt8.ofNat k)) : ¬ ((c.toNat : Int) = (k : Int)) := by
  intro e
  apply h
  rw [← UInt8.toNat_inj]
  have : (UInt8.ofNat k).toNat = k := by simp; omega
  omega
theorem over_calls (B : Heap) (r : Nat) (e : List UInt8) (t : Bool) (s : RS) (pl pn : PV) (S : Heap) (h : IsRdr B S r e t s pl pn) (hsm : small s) (h0 : s.sig = 0) :
    CallsA Try.prog 110 [.mp r 0] S fun q S' => q = .int .i64 (feedS e t s 10).sig ∧ ∃ pl' pn', IsRdr B S' r e t (feedS e t s 10) pl' pn' := by
  have hc := h.cell
  unfold rCells at hc
  have hgl := h.lines
  have hgn := h.line
  obtain ⟨hs1, hs2⟩ := hsm
  refine CallsA_W (fun _ => false) Try.func110 rfl (Nat.le_of_ble_eq_true rfl) ?_
  simp only [Try.f110]
  (simp only [go_sem, reduceIte, Nat.reduceEqDiff, Nat.reduceLT, Nat.reduceLeDiff, Nat.reduceAdd, reduceCtorEq, Int.reduceToNat, Int.reduceLE, Int.reduceLT, Int.reduceNeg, Int.reduceEq, Int.reduceNe, Nat.reduceBEq, Nat.reduceMul, Nat.reducePow, *])
  refine CodeW_quiet mixed 11 (by kernel_rfl) ?_
  have hvn := grows_view hgn
  have hv : bytesOfRows (s.line.map byteRow) = some s.line := bytes_rows s.line
  have hsh : pn = .sl0 ∨ ∃ b n c, pn = .vec b n c := hgn.elim (fun h => Or.inl h.1) fun ⟨b, c, _, h, _⟩ => Or.inr ⟨b, _, c, h⟩
  have hb1 : s.line.length ≤ 9223372036854775806 := by omega
  have hz1 : (PV.str (s.line ++ [10])).isOne = true := rfl
  have hgl2 : (pl = .sl0 ∧ s.lines = []) ∨ ∃ b c c', pl = .vec b s.lines.length c ∧ S b = some (.rows 1 (s.lines.map strRow) c' 9) ∧ s.lines.length ≤ c ∧ c ≤ c' := by
    rcases hgl with ⟨h1, h2⟩ | ⟨b, c, c', h1, h2, h3, h4⟩
    · exact Or.inl ⟨h1, by simpa using h2⟩
    · simp only [List.length_map] at h1 h3
      exact Or.inr ⟨b, c, c', h1, h2, h3, h4⟩
  have hrow : (s.lines ++ [s.line ++ [10]]).map strRow = s.lines.map strRow ++ [[.str (s.line ++ [10])]] := by simp [strRow]
  by_cases hE : s.line = e
  · have hf : feedS e t s 10 = { s with sig := 1 } := by unfold feedS; simp [h0, hE]
    rw [hf]
    subst hE
    rcases hsh with rfl | ⟨bn, nn, cn, rfl⟩
    all_goals (simp only [go_sem, reduceIte, Nat.reduceEqDiff, Nat.reduceLT, Nat.reduceLeDiff, Nat.reduceAdd, reduceCtorEq, Int.reduceToNat, Int.reduceLE, Int.reduceLT, Int.reduceNeg, Int.reduceEq, Int.reduceNe, Nat.reduceBEq, Nat.reduceMul, Nat.reducePow, *])
    all_goals refine QCW_view (p := .str s.line) (by simp only [go_sem, reduceIte, Nat.reduceEqDiff, Nat.reduceLT, Nat.reduceLeDiff, Nat.reduceAdd, reduceCtorEq, Int.reduceToNat, Int.reduceLE, Int.reduceLT, Int.reduceNeg, Int.reduceEq, Int.reduceNe, Nat.reduceBEq, Nat.reduceMul, Nat.reducePow, ev_vreg, vreg, *]) rfl ?_
    all_goals (simp only [go_sem, reduceIte, Nat.reduceEqDiff, Nat.reduceLT, Nat.reduceLeDiff, Nat.reduceAdd, reduceCtorEq, Int.reduceToNat, Int.reduceLE, Int.reduceLT, Int.reduceNeg, Int.reduceEq, Int.reduceNe, Nat.reduceBEq, Nat.reduceMul, Nat.reducePow, *])
    all_goals refine OpW_put (es := [.int .i64 1]) rfl rfl hc rfl rfl sz3 (Nat.le_of_ble_eq_true rfl) rfl ?_
    all_goals (simp only [go_sem, reduceIte, Nat.reduceEqDiff, Nat.reduceLT, Nat.reduceLeDiff, Nat.reduceAdd, reduceCtorEq, Int.reduceToNat, Int.reduceLE, Int.reduceLT, Int.reduceNeg, Int.reduceEq, Int.reduceNe, Nat.reduceBEq, Nat.reduceMul, Nat.reducePow, *])
    all_goals exact ⟨_, _, h.put { s with sig := 1 } rfl rfl⟩
  · have hf : feedS e t s 10 = { lines := s.lines ++ [s.line ++ [10]], line := [], sm := false, sig := 0 } := by unfold feedS; simp [h0, hE]
    rw [hf]
    rcases hsh with rfl | ⟨bn, nn, cn, rfl⟩
    all_goals (simp only [go_sem, reduceIte, Nat.reduceEqDiff, Nat.reduceLT, Nat.reduceLeDiff, Nat.reduceAdd, reduceCtorEq, Int.reduceToNat, Int.reduceLE, Int.reduceLT, Int.reduceNeg, Int.reduceEq, Int.reduceNe, Nat.reduceBEq, Nat.reduceMul, Nat.reducePow, *])
    all_goals refine QCW_view (p := .str s.line) (by simp only [go_sem, reduceIte, Nat.reduceEqDiff, Nat.reduceLT, Nat.reduceLeDiff, Nat.reduceAdd, reduceCtorEq, Int.reduceToNat, Int.reduceLE, Int.reduceLT, Int.reduceNeg, Int.reduceEq, Int.reduceNe, Nat.reduceBEq, Nat.reduceMul, Nat.reducePow, ev_vreg, vreg, *]) rfl ?_
    all_goals (simp only [go_sem, reduceIte, Nat.reduceEqDiff, Nat.reduceLT, Nat.reduceLeDiff, Nat.reduceAdd, reduceCtorEq, Int.reduceToNat, Int.reduceLE, Int.reduceLT, Int.reduceNeg, Int.reduceEq, Int.reduceNe, Nat.reduceBEq, Nat.reduceMul, Nat.reducePow, *])
    all_goals refine CodeW_quiet1 (d := 17) mixed 23 (by kernel_rfl) (by kernel_rfl) rfl rfl rfl ?_
    all_goals rcases hgl2 with ⟨rfl, hn0⟩ | ⟨b, c, c', rfl, hb, hc1, hc2⟩
    all_goals (simp only [go_sem, reduceIte, Nat.reduceEqDiff, Nat.reduceLT, Nat.reduceLeDiff, Nat.reduceAdd, reduceCtorEq, Int.reduceToNat, Int.reduceLE, Int.reduceLT, Int.reduceNeg, Int.reduceEq, Int.reduceNe, Nat.reduceBEq, Nat.reduceMul, Nat.reducePow, *])
    all_goals first
      | refine QCW_of (QV_slice30 rfl elemSize49 rfl rfl rfl) ?_
      | refine QCW_of (QV_slice3 (h := s.lines.length) (m := s.lines.length) rfl elemSize49 rfl rfl rfl (Nat.le_refl _) hc1) ?_
    all_goals (simp only [go_sem, reduceIte, Nat.reduceEqDiff, Nat.reduceLT, Nat.reduceLeDiff, Nat.reduceAdd, reduceCtorEq, Int.reduceToNat, Int.reduceLE, Int.reduceLT, Int.reduceNeg, Int.reduceEq, Int.reduceNe, Nat.reduceBEq, Nat.reduceMul, Nat.reducePow, *])
    all_goals refine QCW_view (p := .str s.line) (by simp only [go_sem, reduceIte, Nat.reduceEqDiff, Nat.reduceLT, Nat.reduceLeDiff, Nat.reduceAdd, reduceCtorEq, Int.reduceToNat, Int.reduceLE, Int.reduceLT, Int.reduceNeg, Int.reduceEq, Int.reduceNe, Nat.reduceBEq, Nat.reduceMul, Nat.reducePow, ev_vreg, vreg, *]) rfl ?_
    all_goals (simp only [go_sem, reduceIte, Nat.reduceEqDiff, Nat.reduceLT, Nat.reduceLeDiff, Nat.reduceAdd, reduceCtorEq, Int.reduceToNat, Int.reduceLE, Int.reduceLT, Int.reduceNeg, Int.reduceEq, Int.reduceNe, Nat.reduceBEq, Nat.reduceMul, Nat.reducePow, *])
    all_goals have hlm : (s.lines.map strRow).length = s.lines.length := by simp
    all_goals first
      | refine OpW_append (rows := [[.str (s.line ++ [10])]]) (olds := s.lines.map strRow) (ps := .sl0) rfl app49 rfl rfl (fun r hr c hc => by simp at hr; subst hr; simp at hc; subst hc; rfl) rfl (Or.inl ⟨rfl, by rw [hn0]; rfl⟩) (by rw [hlm]; simp [maxLen]; omega) (by rw [hlm]; simp; omega) ?_
      | refine OpW_append (rows := [[.str (s.line ++ [10])]]) (olds := s.lines.map strRow) (ps := .vec b s.lines.length s.lines.length) rfl app49 rfl rfl (fun r hr c hc => by simp at hr; subst hr; simp at hc; subst hc; rfl) rfl (Or.inr ⟨b, _, c', by rw [hlm], hb, by rw [hlm]; exact Nat.le_refl _, by omega⟩) (by rw [hlm]; simp [maxLen]; omega) (by rw [hlm]; simp; omega) ?_
    all_goals rintro p S' g1 g2 g3
    all_goals rw [← hrow] at g1
    all_goals obtain ⟨k1, k2⟩ := h.growLines { s with lines := s.lines ++ [s.line ++ [10]] } rfl g1 ⟨g2, g3⟩ rfl
    all_goals unfold rCells at k1
    all_goals (simp only [go_sem, reduceIte, Nat.reduceEqDiff, Nat.reduceLT, Nat.reduceLeDiff, Nat.reduceAdd, reduceCtorEq, Int.reduceToNat, Int.reduceLE, Int.reduceLT, Int.reduceNeg, Int.reduceEq, Int.reduceNe, Nat.reduceBEq, Nat.reduceMul, Nat.reducePow, *])
    all_goals rcases g1 with ⟨_, hbad⟩ | ⟨b', cp, cp', rfl, g5⟩
    all_goals first | (exfalso; simp at hbad; done) | skip
    all_goals generalize hN : (List.map strRow (s.lines ++ [s.line ++ [10]])).length = N at *
    all_goals refine OpW_put (es := [.vec b' N cp]) rfl rfl k1 rfl rfl sz49 (Nat.le_of_ble_eq_true rfl) rfl ?_
    all_goals (simp only [go_sem, reduceIte, Nat.reduceEqDiff, Nat.reduceLT, Nat.reduceLeDiff, Nat.reduceAdd, reduceCtorEq, Int.reduceToNat, Int.reduceLE, Int.reduceLT, Int.reduceNeg, Int.reduceEq, Int.reduceNe, Nat.reduceBEq, Nat.reduceMul, Nat.reducePow, *])
    all_goals refine OpW_put (es := [.sl0]) rfl rfl set_self rfl rfl sz28 (Nat.le_of_ble_eq_true rfl) rfl ?_
    all_goals (simp only [go_sem, reduceIte, Nat.reduceEqDiff, Nat.reduceLT, Nat.reduceLeDiff, Nat.reduceAdd, reduceCtorEq, Int.reduceToNat, Int.reduceLE, Int.reduceLT, Int.reduceNeg, Int.reduceEq, Int.reduceNe, Nat.reduceBEq, Nat.reduceMul, Nat.reducePow, *])
    all_goals refine OpW_put (es := [.bool false]) rfl rfl set_self rfl rfl sz4 (Nat.le_of_ble_eq_true rfl) rfl ?_
    all_goals (simp only [go_sem, reduceIte, Nat.reduceEqDiff, Nat.reduceLT, Nat.reduceLeDiff, Nat.reduceAdd, reduceCtorEq, Int.reduceToNat, Int.reduceLE, Int.reduceLT, Int.reduceNeg, Int.reduceEq, Int.reduceNe, Nat.reduceBEq, Nat.reduceMul, Nat.reducePow, *])
    all_goals have k3 := k2.clear { lines := s.lines ++ [s.line ++ [10]], line := [], sm := false, sig := 0 } rfl rfl
    all_goals rw [Heap.set_set] at k3
    all_goals refine ⟨.vec b' N cp, .sl0, ?_⟩
    all_goals rw [Heap.set_set, Heap.set_set]
    all_goals first
      | exact k3
      | (rw [hn0, List.nil_append] at k3; exact k3)

end Go.Proofs.Ytcbonfgkfiapaaa.Pv

/-! What a reader of package here does with a byte, and its text. -/
set_option linter.unusedVariables false
set_option linter.unusedSimpArgs false
set_option maxRecDepth 100000
set_option maxHeartbeats 4000000
namespace Go.Proofs.Ytcbonfgkfiapaaa.Pv
open Go Go.RowKit

theorem feed_calls (B : Heap) (r : Nat) (e : List UInt8) (t : Bool) (s : RS) (pl pn : PV) (c : UInt8) (S : Heap) (h : IsRdr B S r e t s pl pn) (hsm : small s) :
    CallsA Try.prog 58 [.mp r 0, .int .u8 (c.toNat : Int)] S fun q S' => q = .int .i64 (feedS e t s c).sig ∧ ∃ pl' pn', IsRdr B S' r e t (feedS e t s c) pl' pn' := by
  have hc := h.cell
  unfold rCells at hc
  have hgn := h.line
  obtain ⟨hs1, hs2⟩ := hsm
  by_cases h0 : s.sig = 0
  · by_cases c0 : c = 0
    · have hf : feedS e t s c = { s with sig := 3 } := by unfold feedS; simp [h0, c0]
      rw [hf]
      have ci : (c.toNat : Int) = 0 := by rw [c0]; rfl
      clear c0 hf
      refine CallsA_W (fun _ => false) Try.func58 rfl (Nat.le_of_ble_eq_true rfl) ?_
      simp only [Try.f58]
      (simp only [go_sem, reduceIte, Nat.reduceEqDiff, Nat.reduceLT, Nat.reduceLeDiff, Nat.reduceAdd, reduceCtorEq, Int.reduceToNat, Int.reduceLE, Int.reduceLT, Int.reduceNeg, Int.reduceEq, Int.reduceNe, Nat.reduceBEq, Nat.reduceMul, Nat.reducePow, *])
      refine OpW_put (es := [.int .i64 3]) rfl rfl hc rfl rfl sz3 (Nat.le_of_ble_eq_true rfl) rfl ?_
      (simp only [go_sem, reduceIte, Nat.reduceEqDiff, Nat.reduceLT, Nat.reduceLeDiff, Nat.reduceAdd, reduceCtorEq, Int.reduceToNat, Int.reduceLE, Int.reduceLT, Int.reduceNeg, Int.reduceEq, Int.reduceNe, Nat.reduceBEq, Nat.reduceMul, Nat.reducePow, *])
      exact ⟨_, _, h.put { s with sig := 3 } rfl rfl⟩
    have ci : ¬ (c.toNat : Int) = 0 := fun e => c0 (by rw [← UInt8.toNat_inj]; have : (0 : UInt8).toNat = 0 := rfl; omega)
    by_cases c10 : c = 10
    · have ci2 : (c.toNat : Int) = 10 := by rw [c10]; rfl
      rw [show feedS e t s c = feedS e t s 10 by rw [c10]]
      clear c10 c0
      refine CallsA_W (fun _ => false) Try.func58 rfl (Nat.le_of_ble_eq_true rfl) ?_
      simp only [Try.f58]
      (simp only [go_sem, reduceIte, Nat.reduceEqDiff, Nat.reduceLT, Nat.reduceLeDiff, Nat.reduceAdd, reduceCtorEq, Int.reduceToNat, Int.reduceLE, Int.reduceLT, Int.reduceNeg, Int.reduceEq, Int.reduceNe, Nat.reduceBEq, Nat.reduceMul, Nat.reducePow, *])
      refine OpW_call rfl rfl call110 rfl ((over_calls B r e t s pl pn S h ⟨hs1, hs2⟩ h0).mono ?_)
      rintro p S' ⟨rfl, k⟩
      (simp only [go_sem, reduceIte, Nat.reduceEqDiff, Nat.reduceLT, Nat.reduceLeDiff, Nat.reduceAdd, reduceCtorEq, Int.reduceToNat, Int.reduceLE, Int.reduceLT, Int.reduceNeg, Int.reduceEq, Int.reduceNe, Nat.reduceBEq, Nat.reduceMul, Nat.reducePow, *])
    have ci2 : ¬ (c.toNat : Int) = 10 := fun e => c10 (by rw [← UInt8.toNat_inj]; have : (10 : UInt8).toNat = 10 := rfl; omega)
    by_cases c9 : c = 9 ∧ t = true ∧ s.line = []
    · obtain ⟨c9, rfl, hl⟩ := c9
      have hf : feedS e true s c = { s with sm := true } := by unfold feedS; simp [h0, c9, hl]
      rw [hf]
      have ci3 : (c.toNat : Int) = 9 := by rw [c9]; rfl
      clear hf c9 c10 c0
      refine CallsA_W (fun _ => false) Try.func58 rfl (Nat.le_of_ble_eq_true rfl) ?_
      simp only [Try.f58]
      have hsh : (pn = .sl0 ∨ ∃ b c, pn = .vec b 0 c) := by
        rcases hgn with ⟨h1, _⟩ | ⟨b, c', _, h1, _⟩
        · exact Or.inl h1
        · exact Or.inr ⟨b, c', by rw [h1, hl]; rfl⟩
      have k := h.put { s with sm := true } rfl rfl
      rw [hl, h0] at k
      have hz0 : ¬ ((0 : Int) < ((0 : Nat) : Int)) := by omega
      rcases hsh with rfl | ⟨bn, cn, rfl⟩
      all_goals (simp only [go_sem, reduceIte, Nat.reduceEqDiff, Nat.reduceLT, Nat.reduceLeDiff, Nat.reduceAdd, reduceCtorEq, Int.reduceToNat, Int.reduceLE, Int.reduceLT, Int.reduceNeg, Int.reduceEq, Int.reduceNe, Nat.reduceBEq, Nat.reduceMul, Nat.reducePow, *])
      all_goals refine OpW_put (es := [.bool true]) rfl rfl hc rfl rfl sz4 (Nat.le_of_ble_eq_true rfl) rfl ?_
      all_goals (simp only [go_sem, reduceIte, Nat.reduceEqDiff, Nat.reduceLT, Nat.reduceLeDiff, Nat.reduceAdd, reduceCtorEq, Int.reduceToNat, Int.reduceLE, Int.reduceLT, Int.reduceNeg, Int.reduceEq, Int.reduceNe, Nat.reduceBEq, Nat.reduceMul, Nat.reducePow, *])
      all_goals exact ⟨_, _, k⟩
    · have hf : feedS e t s c = { s with line := s.line ++ [c], sm := true } := by unfold feedS; simp [h0, c0, c10]; intro h1 h2 h3; exact absurd ⟨h1, h2, h3⟩ c9
      rw [hf]
      have k := h.put { s with sm := true } rfl rfl
      rw [h0] at k
      have hgn2 := k.line
      have hway : (¬ (c.toNat : Int) = 9) ∨ ((c.toNat : Int) = 9 ∧ t = false) ∨ ((c.toNat : Int) = 9 ∧ t = true ∧ s.line ≠ []) := by
        by_cases h1 : (c.toNat : Int) = 9
        · have h9 : c = 9 := by rw [← UInt8.toNat_inj]; have : (9 : UInt8).toNat = 9 := rfl; omega
          cases t with
          | false => exact Or.inr (Or.inl ⟨h1, rfl⟩)
          | true => exact Or.inr (Or.inr ⟨h1, rfl, fun h3 => c9 ⟨h9, rfl, h3⟩⟩)
        · exact Or.inl h1
      have hsh : pn = .sl0 ∧ s.line = [] ∨ ∃ b c, pn = .vec b s.line.length c := by
        rcases hgn with ⟨h1, h2⟩ | ⟨b, c', _, h1, _⟩
        · exact Or.inl ⟨h1, by simpa using h2⟩
        · exact Or.inr ⟨b, c', by rw [h1]; simp⟩
      have hrow : (s.line ++ [c]).map byteRow = s.line.map byteRow ++ [[.int .u8 (c.toNat : Int)]] := by simp [byteRow]
      have hll : (s.line.map byteRow).length = s.line.length := by simp
      clear hf c9 c10 c0
      refine CallsA_W (fun _ => false) Try.func58 rfl (Nat.le_of_ble_eq_true rfl) ?_
      simp only [Try.f58]
      rcases hsh with ⟨rfl, hl0⟩ | ⟨bn, cn, rfl⟩ <;> rcases hway with hw | ⟨hw, rfl⟩ | ⟨hw, rfl, hw3⟩
      case inl.inr.inr => exact absurd hl0 hw3
      case' inr.inr.inr => have hpos : (0 : Int) < (s.line.length : Int) := by have := List.length_pos_iff.2 hw3; omega
      all_goals (simp only [go_sem, reduceIte, Nat.reduceEqDiff, Nat.reduceLT, Nat.reduceLeDiff, Nat.reduceAdd, reduceCtorEq, Int.reduceToNat, Int.reduceLE, Int.reduceLT, Int.reduceNeg, Int.reduceEq, Int.reduceNe, Nat.reduceBEq, Nat.reduceMul, Nat.reducePow, *])
      all_goals refine OpW_put (es := [.bool true]) rfl rfl hc rfl rfl sz4 (Nat.le_of_ble_eq_true rfl) rfl ?_
      all_goals (simp only [go_sem, reduceIte, Nat.reduceEqDiff, Nat.reduceLT, Nat.reduceLeDiff, Nat.reduceAdd, reduceCtorEq, Int.reduceToNat, Int.reduceLE, Int.reduceLT, Int.reduceNeg, Int.reduceEq, Int.reduceNe, Nat.reduceBEq, Nat.reduceMul, Nat.reducePow, *])
      all_goals first
        | refine OpW_append (rows := [[.int .u8 (c.toNat : Int)]]) (olds := s.line.map byteRow) rfl app28 rfl rfl (fun r hr c' hc' => by simp at hr; subst hr; simp at hc'; subst hc'; rfl) rfl hgn2 (by rw [hll]; simp [maxLen]; omega) (by rw [hll]; simp; omega) ?_
        | refine OpW_append (rows := [[.int .u8 9]]) (olds := s.line.map byteRow) rfl app28 rfl rfl (fun r hr c' hc' => by simp at hr; subst hr; simp at hc'; subst hc'; rfl) rfl hgn2 (by rw [hll]; simp [maxLen]; omega) (by rw [hll]; simp; omega) ?_
      all_goals rintro p S' g1 g2 g3
      all_goals first | rw [← hrow] at g1 | rw [← hw, ← hrow] at g1
      all_goals obtain ⟨k1, k2⟩ := k.growLine { s with line := s.line ++ [c], sm := true } rfl g1 ⟨g2, g3⟩
      all_goals unfold rCells at k1
      all_goals rcases g1 with ⟨_, hbad⟩ | ⟨b', cp, cp', rfl, g5⟩
      all_goals first | (exfalso; simp at hbad; done) | skip
      all_goals generalize hN : (List.map byteRow (s.line ++ [c])).length = N at *
      all_goals (simp only [go_sem, reduceIte, Nat.reduceEqDiff, Nat.reduceLT, Nat.reduceLeDiff, Nat.reduceAdd, reduceCtorEq, Int.reduceToNat, Int.reduceLE, Int.reduceLT, Int.reduceNeg, Int.reduceEq, Int.reduceNe, Nat.reduceBEq, Nat.reduceMul, Nat.reducePow, *])
      all_goals refine OpW_put (es := [.vec b' N cp]) rfl rfl k1 rfl rfl sz28 (Nat.le_of_ble_eq_true rfl) rfl ?_
      all_goals (simp only [go_sem, reduceIte, Nat.reduceEqDiff, Nat.reduceLT, Nat.reduceLeDiff, Nat.reduceAdd, reduceCtorEq, Int.reduceToNat, Int.reduceLE, Int.reduceLT, Int.reduceNeg, Int.reduceEq, Int.reduceNe, Nat.reduceBEq, Nat.reduceMul, Nat.reducePow, *])
      all_goals first
        | exact ⟨_, _, k2⟩
        | (rw [h0] at k2; exact ⟨_, _, k2⟩)
        | (rw [hl0, List.nil_append] at k2; exact ⟨_, _, k2⟩)
        | (rw [h0, hl0, List.nil_append] at k2; exact ⟨_, _, k2⟩)
  · have hf : feedS e t s c = s := by unfold feedS; simp [h0]
    rw [hf]
    refine CallsA_W (fun _ => false) Try.func58 rfl (Nat.le_of_ble_eq_true rfl) ?_
    simp only [Try.f58]
    (simp only [go_sem, reduceIte, Nat.reduceEqDiff, Nat.reduceLT, Nat.reduceLeDiff, Nat.reduceAdd, reduceCtorEq, Int.reduceToNat, Int.reduceLE, Int.reduceLT, Int.reduceNeg, Int.reduceEq, Int.reduceNe, Nat.reduceBEq, Nat.reduceMul, Nat.reducePow, *])
    exact ⟨_, _, h⟩

end Go.Proofs.Ytcbonfgkfiapaaa.Pv

/-! What a reader of package here says, and the statements' own run of it. -/
set_option linter.unusedVariables false
set_option linter.unusedSimpArgs false
set_option maxRecDepth 100000
set_option maxHeartbeats 4000000
namespace Go.Proofs.Ytcbonfgkfiapaaa.Pv
open Go Go.RowKit

theorem join_calls0 (lines : List (List UInt8)) (pl : PV) (S : Heap) (hg : Grows S 1 9 (lines.map strRow) pl) (h1 : lines.length ≤ 140737488355328) (h2 : (Lib.join lines []).length ≤ 140737488355328) : CallsQ Try.prog 109 [pl, .str []] S (.str (Lib.join lines [])) := by
  refine CallsQ_below fun w args hv hh => ?_
  simp only [RepVals, Rep] at hv
  obtain ⟨v, r, ha, hr, v2, r2, h3, rfl, rfl⟩ := hv
  subst h3
  have hargs : args = #[v, .string ⟨#[]⟩] := Array.ext' (by simpa using ha)
  rw [hargs]
  rcases hg with ⟨rfl, hn⟩ | ⟨b, cap, cap', rfl, hb, hc1, hc2⟩
  · have hl : lines = [] := by simpa using hn
    subst hl
    simp only [Rep] at hr
    obtain ⟨a, rfl⟩ := hr
    refine (Try.strings_Join_none a 0 ⟨#[]⟩ w).mono ?_
    rintro e w' ⟨rfl, rfl⟩
    exact ⟨_, rfl, by simp only [Rep]; rfl, Below.refl _ _⟩
  · simp only [Rep] at hr
    subst hr
    obtain ⟨arr, b1, b2, b3, b4, b5⟩ := hh b _ hb
    have hlt := (hh b _ hb).lt
    have hmap : (lines.map fun l => (⟨l.toArray⟩ : ByteArray)).map (·.data.toList) = lines := by rw [List.map_map]; exact (List.map_congr_left fun l _ => rfl).trans (List.map_id _)
    have := Try.strings_Join b 0 cap (lines.map fun l => (⟨l.toArray⟩ : ByteArray)) ⟨#[]⟩ w (fun j x hj => by
      rw [List.getElem?_map] at hj
      obtain ⟨l, hl, rfl⟩ := Option.map_eq_some_iff.1 hj
      obtain ⟨_, hat⟩ := repRows_get b5 (show (lines.map strRow)[j]? = some (strRow l) by rw [List.getElem?_map, hl]; rfl)
      simp only [strRow, RepAt, Rep] at hat
      obtain ⟨⟨v, hv1, hv2⟩, _⟩ := hat
      subst hv2
      simpa using hv1) hlt (by simpa using h1) (by simpa using hc1) (by rw [hmap]; exact h2)
    rw [hmap] at this
    simp only [List.length_map] at this ⊢
    refine this.mono ?_
    rintro e w' ⟨rfl, h⟩
    exact ⟨_, rfl, by simp only [Rep], h⟩
def textOf (s : RS) : List UInt8 × Bool := if s.sig = 1 then (Lib.join s.lines [], true) else ([], false)
theorem text_calls (B : Heap) (r : Nat) (e : List UInt8) (t : Bool) (s : RS) (pl pn : PV) (S : Heap) (h : IsRdr B S r e t s pl pn) (h1 : s.lines.length ≤ 140737488355328) (h2 : (Lib.join s.lines []).length ≤ 140737488355328) :
    CallsQ Try.prog 57 [.mp r 0] S (.tup [.str (textOf s).1, .bool (textOf s).2]) := by
  have hc := h.cell
  unfold rCells at hc
  unfold textOf
  refine CallsA_W (fun _ => false) Try.func57 rfl (Nat.le_of_ble_eq_true rfl) ?_
  simp only [Try.f57]
  by_cases hs : s.sig = 1
  · (simp only [go_sem, reduceIte, Nat.reduceEqDiff, Nat.reduceLT, Nat.reduceLeDiff, Nat.reduceAdd, reduceCtorEq, Int.reduceToNat, Int.reduceLE, Int.reduceLT, Int.reduceNeg, Int.reduceEq, Int.reduceNe, Nat.reduceBEq, Nat.reduceMul, Nat.reducePow, *])
    refine OpW_call rfl rfl call109 rfl ((join_calls0 s.lines pl S h.lines h1 h2).mono ?_)
    rintro p S' ⟨rfl, rfl⟩
    (simp only [go_sem, reduceIte, Nat.reduceEqDiff, Nat.reduceLT, Nat.reduceLeDiff, Nat.reduceAdd, reduceCtorEq, Int.reduceToNat, Int.reduceLE, Int.reduceLT, Int.reduceNeg, Int.reduceEq, Int.reduceNe, Nat.reduceBEq, Nat.reduceMul, Nat.reducePow, *])
  · (simp only [go_sem, reduceIte, Nat.reduceEqDiff, Nat.reduceLT, Nat.reduceLeDiff, Nat.reduceAdd, reduceCtorEq, Int.reduceToNat, Int.reduceLE, Int.reduceLT, Int.reduceNeg, Int.reduceEq, Int.reduceNe, Nat.reduceBEq, Nat.reduceMul, Nat.reducePow, *])

/-! May -/
theorem index_calls (s : List UInt8) (c : UInt8) (S : Heap) : CallsQ Try.prog 156 [.str s, .str [c]] S (.int .i64 (Lib.indexByte s c)) := by
  refine CallsQ_below fun w args hv hh => ?_
  rw [args_str2 hv]
  refine (Try.stringslite_Index_one ⟨s.toArray⟩ c w).mono ?_
  rintro e w' ⟨rfl, rfl⟩
  exact ⟨_, rfl, by simp only [Rep], Below.refl _ _⟩

theorem idx_lt (s : List UInt8) (c : UInt8) : Lib.indexByte s c = -1 ∨ ∃ k : Nat, Lib.indexByte s c = (k : Int) ∧ k < s.length := by
  induction s with
  | nil => left; rfl
  | cons b s ih =>
    unfold Lib.indexByte
    by_cases hb : b = c
    · right; exact ⟨0, by rw [if_pos (by simpa using hb)]; rfl, by simp⟩
    · rw [if_neg (by simpa using hb)]
      rcases ih with ih | ⟨k, h1, h2⟩
      · left; rw [ih]; rfl
      · right; exact ⟨k + 1, by rw [h1, if_neg (by simp)]; rfl, by simp; omega⟩
def cutAt (s : List UInt8) (c : UInt8) : List UInt8 × List UInt8 × Bool :=
  if 0 ≤ Lib.indexByte s c then (s.take (Lib.indexByte s c).toNat, s.drop ((Lib.indexByte s c).toNat + 1), true) else (s, [], false)
theorem lcut_calls (s : List UInt8) (hs : s.length ≤ 4611686018427387904) (c : UInt8) (S : Heap) : CallsQ Try.prog 135 [.str s, .str [c]] S (.tup [.str (cutAt s c).1, .str (cutAt s c).2.1, .bool (cutAt s c).2.2]) := by
  refine CallsA_W (fun _ => false) Try.func135 rfl (Nat.le_of_ble_eq_true rfl) ?_
  simp only [Try.f135]
  (simp only [go_sem, reduceIte, Nat.reduceEqDiff, Nat.reduceLT, Nat.reduceLeDiff, Nat.reduceAdd, reduceCtorEq, Int.reduceToNat, Int.reduceLE, Int.reduceLT, Int.reduceNeg, Int.reduceEq, Int.reduceNe, Nat.reduceBEq, Nat.reduceMul, Nat.reducePow, *])
  refine OpW_call rfl rfl call156 rfl ((index_calls s c _).mono ?_)
  rintro p S' ⟨rfl, rfl⟩
  unfold cutAt
  rcases idx_lt s c with h | ⟨k, h, hk⟩
  · rw [h]
    (simp only [go_sem, reduceIte, Nat.reduceEqDiff, Nat.reduceLT, Nat.reduceLeDiff, Nat.reduceAdd, reduceCtorEq, Int.reduceToNat, Int.reduceLE, Int.reduceLT, Int.reduceNeg, Int.reduceEq, Int.reduceNe, Nat.reduceBEq, Nat.reduceMul, Nat.reducePow, *])
  · rw [h]
    have h0 : (0 : Int) ≤ (k : Int) := by omega
    have hk' : k ≤ s.length := by omega
    have hk1 : k + 1 ≤ s.length := by omega
    have hw : IntKind.i64.wrap ((k : Int) + ((1 : Nat) : Int)) = ((k + 1 : Nat) : Int) := by rw [IntKind.wrap_i64]; omega
    have hll : s.length ≤ s.length := Nat.le_refl _
    have htk : List.take s.length s = s := List.take_length
    (simp only [go_sem, reduceIte, Nat.reduceEqDiff, Nat.reduceLT, Nat.reduceLeDiff, Nat.reduceAdd, reduceCtorEq, Int.reduceToNat, Int.reduceLE, Int.reduceLT, Int.reduceNeg, Int.reduceEq, Int.reduceNe, Nat.reduceBEq, Nat.reduceMul, Nat.reducePow, *])
    refine CodeW_quiet mixed 12 (by kernel_rfl) ?_
    (simp only [go_sem, reduceIte, Nat.reduceEqDiff, Nat.reduceLT, Nat.reduceLeDiff, Nat.reduceAdd, reduceCtorEq, Int.reduceToNat, Int.reduceLE, Int.reduceLT, Int.reduceNeg, Int.reduceEq, Int.reduceNe, Nat.reduceBEq, Nat.reduceMul, Nat.reducePow, *])
theorem cut_calls (s : List UInt8) (hs : s.length ≤ 4611686018427387904) (c : UInt8) (S : Heap) : CallsQ Try.prog 103 [.str s, .str [c]] S (.tup [.str (cutAt s c).1, .str (cutAt s c).2.1, .bool (cutAt s c).2.2]) := by
  refine CallsA_W (fun _ => false) Try.func103 rfl (Nat.le_of_ble_eq_true rfl) ?_
  simp only [Try.f103]
  (simp only [go_sem, reduceIte, Nat.reduceEqDiff, Nat.reduceLT, Nat.reduceLeDiff, Nat.reduceAdd, reduceCtorEq, Int.reduceToNat, Int.reduceLE, Int.reduceLT, Int.reduceNeg, Int.reduceEq, Int.reduceNe, Nat.reduceBEq, Nat.reduceMul, Nat.reducePow, *])
  refine OpW_call rfl rfl call135 rfl ((lcut_calls s hs c _).mono ?_)
  rintro p S' ⟨rfl, rfl⟩
  (simp only [go_sem, reduceIte, Nat.reduceEqDiff, Nat.reduceLT, Nat.reduceLeDiff, Nat.reduceAdd, reduceCtorEq, Int.reduceToNat, Int.reduceLE, Int.reduceLT, Int.reduceNeg, Int.reduceEq, Int.reduceNe, Nat.reduceBEq, Nat.reduceMul, Nat.reducePow, *])
def mayL (e : List UInt8) (t : Bool) (text : List UInt8) : Bool :=
  if h : text = [] then true
  else if (cutAt text 10).2.2 = false ∨ (cutAt text 10).1 = e ∨ (t = true ∧ Lib.hasPrefix (cutAt text 10).1 [9] = true) then false
  else mayL e t (text.drop ((Lib.indexByte text 10).toNat + 1))
termination_by text.length
decreasing_by
  have := List.length_pos_iff.2 h
  rw [List.length_drop]; omega
theorem cut_rest {s : List UInt8} {c : UInt8} (h : (cutAt s c).2.2 = true) : (cutAt s c).2.1 = s.drop ((Lib.indexByte s c).toNat + 1) := by
  unfold cutAt at h ⊢
  split <;> rename_i h1
  · rfl
  · rw [if_neg h1] at h; cases h
def hereMay (e : List UInt8) (t : Bool) (text : List UInt8) : Bool := hereRight e t && !decide (0 ≤ Lib.indexByte text 0) && mayL e t text
theorem may_calls (e : List UInt8) (t : Bool) (text : List UInt8) (h1 : e.length < 4294967281) (ha : okEnd e) (hs : text.length ≤ 4611686018427387904) (S : Heap) : CallsQ Try.prog 51 [.agg [.str e, .bool t], .str text] S (.bool (hereMay e t text)) := by
  refine CallsA_W (fun _ => false) Try.func51 rfl (Nat.le_of_ble_eq_true rfl) ?_
  simp only [Try.f51]
  (simp only [go_sem, reduceIte, Nat.reduceEqDiff, Nat.reduceLT, Nat.reduceLeDiff, Nat.reduceAdd, reduceCtorEq, Int.reduceToNat, Int.reduceLE, Int.reduceLT, Int.reduceNeg, Int.reduceEq, Int.reduceNe, Nat.reduceBEq, Nat.reduceMul, Nat.reducePow, *])
  refine OpW_call rfl rfl call55 rfl ((right_calls e t h1 ha _).mono ?_)
  rintro p S' ⟨rfl, rfl⟩
  unfold hereMay
  rcases Bool.eq_false_or_eq_true (hereRight e t) with hr | hr
  · (simp only [go_sem, reduceIte, Nat.reduceEqDiff, Nat.reduceLT, Nat.reduceLeDiff, Nat.reduceAdd, reduceCtorEq, Int.reduceToNat, Int.reduceLE, Int.reduceLT, Int.reduceNeg, Int.reduceEq, Int.reduceNe, Nat.reduceBEq, Nat.reduceMul, Nat.reducePow, *])
    refine OpW_call rfl rfl call102 rfl ((contains_calls text 0 _).mono ?_)
    rintro p S' ⟨rfl, rfl⟩
    by_cases hz : 0 ≤ Lib.indexByte text 0
    · (simp only [go_sem, reduceIte, Nat.reduceEqDiff, Nat.reduceLT, Nat.reduceLeDiff, Nat.reduceAdd, reduceCtorEq, Int.reduceToNat, Int.reduceLE, Int.reduceLT, Int.reduceNeg, Int.reduceEq, Int.reduceNe, Nat.reduceBEq, Nat.reduceMul, Nat.reducePow, *])
      rfl
    · obtain ⟨M, hM⟩ : ∃ M, mayL e t text = M := ⟨_, rfl⟩
      (simp only [go_sem, reduceIte, Nat.reduceEqDiff, Nat.reduceLT, Nat.reduceLeDiff, Nat.reduceAdd, reduceCtorEq, Int.reduceToNat, Int.reduceLE, Int.reduceLT, Int.reduceNeg, Int.reduceEq, Int.reduceNe, Nat.reduceBEq, Nat.reduceMul, Nat.reducePow, *])
      refine CodeW_loop (fun m σ' S'' => ∃ x : List UInt8, x.length = m ∧ σ' 1 = .str x ∧ σ' 2 = .ref [.str e, .bool t] ∧ S'' = S' ∧ x.length ≤ text.length ∧ mayL e t x = M) text.length ?_ ?_
      · (simp only [go_sem, reduceIte, Nat.reduceEqDiff, Nat.reduceLT, Nat.reduceLeDiff, Nat.reduceAdd, reduceCtorEq, Int.reduceToNat, Int.reduceLE, Int.reduceLT, Int.reduceNeg, Int.reduceEq, Int.reduceNe, Nat.reduceBEq, Nat.reduceMul, Nat.reducePow, *])
        exact ⟨text, rfl, rfl, Nat.le_refl _, hM⟩
      · rintro m σ' S'' ⟨x, rfl, h2, h3, rfl, h4, h5⟩
        clear hM
        have hxs : x.length ≤ 4611686018427387904 := by omega
        by_cases hx : x = []
        · obtain rfl : M = true := by rw [← h5, mayL, dif_pos hx]
          clear h5
          (simp only [go_sem, reduceIte, Nat.reduceEqDiff, Nat.reduceLT, Nat.reduceLeDiff, Nat.reduceAdd, reduceCtorEq, Int.reduceToNat, Int.reduceLE, Int.reduceLT, Int.reduceNeg, Int.reduceEq, Int.reduceNe, Nat.reduceBEq, Nat.reduceMul, Nat.reducePow, *])
          rfl
        · have hstop : ((cutAt x 10).2.2 = false ∨ (cutAt x 10).1 = e ∨ (t = true ∧ Lib.hasPrefix (cutAt x 10).1 [9] = true)) → M = false := fun h => by rw [← h5, mayL, dif_neg hx, if_pos h]
          have hgo : ¬ ((cutAt x 10).2.2 = false ∨ (cutAt x 10).1 = e ∨ (t = true ∧ Lib.hasPrefix (cutAt x 10).1 [9] = true)) → mayL e t (cutAt x 10).2.1 = M ∧ (cutAt x 10).2.1.length < x.length := fun h => by
            have h1 : (cutAt x 10).2.2 = true := by
              cases h2 : (cutAt x 10).2.2 with
              | true => rfl
              | false => exact absurd (Or.inl h2) h
            refine ⟨?_, ?_⟩
            · rw [cut_rest h1, ← h5]
              conv => rhs; rw [mayL]
              rw [dif_neg hx, if_neg h]
            · rw [cut_rest h1, List.length_drop]
              have := List.length_pos_iff.2 hx
              omega
          have hc := fun S => cut_calls x hxs 10 S
          generalize cutAt x 10 = q at *
          clear h5
          (simp only [go_sem, reduceIte, Nat.reduceEqDiff, Nat.reduceLT, Nat.reduceLeDiff, Nat.reduceAdd, reduceCtorEq, Int.reduceToNat, Int.reduceLE, Int.reduceLT, Int.reduceNeg, Int.reduceEq, Int.reduceNe, Nat.reduceBEq, Nat.reduceMul, Nat.reducePow, *])
          refine OpW_call rfl rfl call103 rfl ((hc _).mono ?_)
          rintro p S' ⟨rfl, rfl⟩
          rcases Bool.eq_false_or_eq_true q.2.2 with h22 | h22
          · by_cases hq1 : q.1 = e
            · obtain rfl : M = false := hstop (Or.inr (Or.inl hq1))
              clear hstop hgo
              (simp only [go_sem, reduceIte, Nat.reduceEqDiff, Nat.reduceLT, Nat.reduceLeDiff, Nat.reduceAdd, reduceCtorEq, Int.reduceToNat, Int.reduceLE, Int.reduceLT, Int.reduceNeg, Int.reduceEq, Int.reduceNe, Nat.reduceBEq, Nat.reduceMul, Nat.reducePow, *])
              rfl
            · cases t with
              | false =>
                obtain ⟨k1, k2⟩ := hgo (fun h => h.elim (fun h => by rw [h22] at h; cases h) fun h => h.elim hq1 fun h => by cases h.1)
                clear hstop hgo
                (simp only [go_sem, reduceIte, Nat.reduceEqDiff, Nat.reduceLT, Nat.reduceLeDiff, Nat.reduceAdd, reduceCtorEq, Int.reduceToNat, Int.reduceLE, Int.reduceLT, Int.reduceNeg, Int.reduceEq, Int.reduceNe, Nat.reduceBEq, Nat.reduceMul, Nat.reducePow, *])
                exact ⟨_, k2, q.2.1, rfl, rfl, by omega, k1⟩
              | true =>
                (simp only [go_sem, reduceIte, Nat.reduceEqDiff, Nat.reduceLT, Nat.reduceLeDiff, Nat.reduceAdd, reduceCtorEq, Int.reduceToNat, Int.reduceLE, Int.reduceLT, Int.reduceNeg, Int.reduceEq, Int.reduceNe, Nat.reduceBEq, Nat.reduceMul, Nat.reducePow, *])
                refine OpW_call rfl rfl call104 rfl ((hasPrefix_calls q.1 [9] _).mono ?_)
                rintro p S' ⟨rfl, rfl⟩
                rcases Bool.eq_false_or_eq_true (Lib.hasPrefix q.1 [9]) with hp | hp
                · obtain rfl : M = false := hstop (Or.inr (Or.inr ⟨rfl, hp⟩))
                  clear hstop hgo
                  (simp only [go_sem, reduceIte, Nat.reduceEqDiff, Nat.reduceLT, Nat.reduceLeDiff, Nat.reduceAdd, reduceCtorEq, Int.reduceToNat, Int.reduceLE, Int.reduceLT, Int.reduceNeg, Int.reduceEq, Int.reduceNe, Nat.reduceBEq, Nat.reduceMul, Nat.reducePow, *])
                  rfl
                · obtain ⟨k1, k2⟩ := hgo (fun h => h.elim (fun h => by rw [h22] at h; cases h) fun h => h.elim hq1 fun h => by rw [hp] at h; cases h.2)
                  clear hstop hgo
                  (simp only [go_sem, reduceIte, Nat.reduceEqDiff, Nat.reduceLT, Nat.reduceLeDiff, Nat.reduceAdd, reduceCtorEq, Int.reduceToNat, Int.reduceLE, Int.reduceLT, Int.reduceNeg, Int.reduceEq, Int.reduceNe, Nat.reduceBEq, Nat.reduceMul, Nat.reducePow, *])
                  exact ⟨_, k2, q.2.1, rfl, rfl, by omega, k1⟩
          · obtain rfl : M = false := hstop (Or.inl h22)
            clear hstop hgo
            (simp only [go_sem, reduceIte, Nat.reduceEqDiff, Nat.reduceLT, Nat.reduceLeDiff, Nat.reduceAdd, reduceCtorEq, Int.reduceToNat, Int.reduceLE, Int.reduceLT, Int.reduceNeg, Int.reduceEq, Int.reduceNe, Nat.reduceBEq, Nat.reduceMul, Nat.reducePow, *])
            rfl
  · (simp only [go_sem, reduceIte, Nat.reduceEqDiff, Nat.reduceLT, Nat.reduceLeDiff, Nat.reduceAdd, reduceCtorEq, Int.reduceToNat, Int.reduceLE, Int.reduceLT, Int.reduceNeg, Int.reduceEq, Int.reduceNe, Nat.reduceBEq, Nat.reduceMul, Nat.reducePow, *])
    rfl

end Go.Proofs.Ytcbonfgkfiapaaa.Pv

/-! The statements' own run of package here, and what holds of no reader. -/
set_option linter.unusedVariables false
set_option linter.unusedSimpArgs false
set_option maxRecDepth 100000
set_option maxHeartbeats 40000000
namespace Go.Proofs.Ytcbonfgkfiapaaa.Pv
open Go Go.RowKit

theorem rdr_new {S : Heap} {r : Nat} (h : S r = none) (e : List UInt8) (t : Bool) : IsRdr S (S.set r (rdr e t .sl0 .sl0 false 0)) r e t ⟨[], [], false, 0⟩ .sl0 .sl0 where
  cell := set_self
  lines := Or.inl ⟨rfl, rfl⟩
  line := Or.inl ⟨rfl, rfl⟩
  dl := fun h => by cases h
  dn := fun h => by cases h
  dln := fun b h => by cases h
  base := Heap.le_set h
  br := h
  bl := fun b h => by cases h
  bn := fun b h => by cases h
theorem ascii_one {c : UInt8} (h : c.toNat < 128) : ascii [c] := by
  intro j b hb
  have : b ∈ [c] := List.mem_of_getElem? hb
  simp at this
  rw [this]; exact h
theorem hereAwake_calls (S : Heap) : CallsQ Try.prog 50 [] S (.bool true) := by
  have hr1 : hereRight [69] false = true := by decide +kernel
  have hr2 : hereRight [10] false = false := by decide +kernel
  have hm : hereMay [69] false [97, 10] = true := by
    unfold hereMay
    rw [mayL, dif_neg (by simp), if_neg (by decide +kernel)]
    rw [show ([97, 10] : List UInt8).drop ((Lib.indexByte [97, 10] 10).toNat + 1) = [] by decide +kernel]
    rw [mayL, dif_pos rfl]
    decide +kernel
  have hf1 : feedS [69] false ⟨[], [], false, 0⟩ 97 = ⟨[], [97], true, 0⟩ := rfl
  have hf2 : feedS [69] false ⟨[], [97], true, 0⟩ 10 = ⟨[[97, 10]], [], false, 0⟩ := rfl
  have hf3 : feedS [69] false ⟨[[97, 10]], [], false, 0⟩ 69 = ⟨[[97, 10]], [69], true, 0⟩ := rfl
  have hf4 : feedS [69] false ⟨[[97, 10]], [69], true, 0⟩ 10 = ⟨[[97, 10]], [69], true, 1⟩ := rfl
  have ht : textOf ⟨[[97, 10]], [69], true, 1⟩ = ([97, 10], true) := by unfold textOf; rw [if_pos rfl]; exact congrArg (·, true) (by decide +kernel)
  refine CallsQ_less ?_
  refine CallsA_W (fun _ => false) Try.func50 rfl (Nat.le_of_ble_eq_true rfl) ?_
  simp only [Try.f50]
  have hu := Try.underlying52
  (simp only [go_sem, reduceIte, Nat.reduceEqDiff, Nat.reduceLT, Nat.reduceLeDiff, Nat.reduceAdd, reduceCtorEq, Int.reduceToNat, Int.reduceLE, Int.reduceLT, Int.reduceNeg, Int.reduceEq, Int.reduceNe, Nat.reduceBEq, Nat.reduceMul, Nat.reducePow, *])
  refine OpW_call (ps := [.agg [.str [69], .bool false]]) rfl rfl call101 rfl ((hereNew_calls [69] false (by decide) (okEnd_ascii (by decide) (ascii_one (by decide))) S).mono ?_)
  rintro p S0 hp
  rw [if_pos hr1] at hp
  obtain ⟨r, hr, rfl, rfl⟩ := hp
  have R0 := rdr_new hr [69] false
  (simp only [go_sem, reduceIte, Nat.reduceEqDiff, Nat.reduceLT, Nat.reduceLeDiff, Nat.reduceAdd, reduceCtorEq, Int.reduceToNat, Int.reduceLE, Int.reduceLT, Int.reduceNeg, Int.reduceEq, Int.reduceNe, Nat.reduceBEq, Nat.reduceMul, Nat.reducePow, *])
  generalize S.set r (rdr [69] false .sl0 .sl0 false 0) = S0 at *
  refine OpW_call (ps := [.mp r 0, .int .u8 ((97 : UInt8).toNat : Int)]) rfl rfl call58 rfl ((feed_calls S r [69] false _ _ _ 97 S0 R0 ⟨by decide, by decide⟩).mono ?_)
  rw [hf1]
  rintro p S1 ⟨rfl, pl1, pn1, R1⟩
  (simp only [go_sem, reduceIte, Nat.reduceEqDiff, Nat.reduceLT, Nat.reduceLeDiff, Nat.reduceAdd, reduceCtorEq, Int.reduceToNat, Int.reduceLE, Int.reduceLT, Int.reduceNeg, Int.reduceEq, Int.reduceNe, Nat.reduceBEq, Nat.reduceMul, Nat.reducePow, *])
  refine OpW_call (ps := [.mp r 0, .int .u8 ((10 : UInt8).toNat : Int)]) rfl rfl call58 rfl ((feed_calls S r [69] false _ _ _ 10 S1 R1 ⟨by decide, by decide⟩).mono ?_)
  rw [hf2]
  rintro p S2 ⟨rfl, pl2, pn2, R2⟩
  (simp only [go_sem, reduceIte, Nat.reduceEqDiff, Nat.reduceLT, Nat.reduceLeDiff, Nat.reduceAdd, reduceCtorEq, Int.reduceToNat, Int.reduceLE, Int.reduceLT, Int.reduceNeg, Int.reduceEq, Int.reduceNe, Nat.reduceBEq, Nat.reduceMul, Nat.reducePow, *])
  refine OpW_call (ps := [.mp r 0, .int .u8 ((69 : UInt8).toNat : Int)]) rfl rfl call58 rfl ((feed_calls S r [69] false _ _ _ 69 S2 R2 ⟨by decide, by decide⟩).mono ?_)
  rw [hf3]
  rintro p S3 ⟨rfl, pl3, pn3, R3⟩
  (simp only [go_sem, reduceIte, Nat.reduceEqDiff, Nat.reduceLT, Nat.reduceLeDiff, Nat.reduceAdd, reduceCtorEq, Int.reduceToNat, Int.reduceLE, Int.reduceLT, Int.reduceNeg, Int.reduceEq, Int.reduceNe, Nat.reduceBEq, Nat.reduceMul, Nat.reducePow, *])
  refine OpW_call (ps := [.mp r 0, .int .u8 ((10 : UInt8).toNat : Int)]) rfl rfl call58 rfl ((feed_calls S r [69] false _ _ _ 10 S3 R3 ⟨by decide, by decide⟩).mono ?_)
  rw [hf4]
  rintro p S4 ⟨rfl, pl4, pn4, R4⟩
  (simp only [go_sem, reduceIte, Nat.reduceEqDiff, Nat.reduceLT, Nat.reduceLeDiff, Nat.reduceAdd, reduceCtorEq, Int.reduceToNat, Int.reduceLE, Int.reduceLT, Int.reduceNeg, Int.reduceEq, Int.reduceNe, Nat.reduceBEq, Nat.reduceMul, Nat.reducePow, *])
  refine OpW_call (ps := [.mp r 0]) rfl rfl call57 rfl ((text_calls S r [69] false _ _ _ S4 R4 (by decide) (by decide +kernel)).mono ?_)
  rw [ht]
  rintro p S5 ⟨rfl, rfl⟩
  (simp only [go_sem, reduceIte, Nat.reduceEqDiff, Nat.reduceLT, Nat.reduceLeDiff, Nat.reduceAdd, reduceCtorEq, Int.reduceToNat, Int.reduceLE, Int.reduceLT, Int.reduceNeg, Int.reduceEq, Int.reduceNe, Nat.reduceBEq, Nat.reduceMul, Nat.reducePow, *])
  refine OpW_call (ps := [.agg [.str [69], .bool false], .str [97, 10]]) rfl rfl call51 rfl ((may_calls [69] false [97, 10] (by decide) (okEnd_ascii (by decide) (ascii_one (by decide))) (by decide) _).mono ?_)
  rw [hm]
  rintro p S6 ⟨rfl, rfl⟩
  (simp only [go_sem, reduceIte, Nat.reduceEqDiff, Nat.reduceLT, Nat.reduceLeDiff, Nat.reduceAdd, reduceCtorEq, Int.reduceToNat, Int.reduceLE, Int.reduceLT, Int.reduceNeg, Int.reduceEq, Int.reduceNe, Nat.reduceBEq, Nat.reduceMul, Nat.reducePow, *])
  refine OpW_call (ps := [.agg [.str [10], .bool false]]) rfl rfl call101 rfl ((hereNew_calls [10] false (by decide) (okEnd_ascii (by decide) (ascii_one (by decide))) _).mono ?_)
  rintro p S7 hp
  rw [if_neg (by rw [hr2]; simp)] at hp
  obtain ⟨rfl, rfl⟩ := hp
  (simp only [go_sem, reduceIte, Nat.reduceEqDiff, Nat.reduceLT, Nat.reduceLeDiff, Nat.reduceAdd, reduceCtorEq, Int.reduceToNat, Int.reduceLE, Int.reduceLT, Int.reduceNeg, Int.reduceEq, Int.reduceNe, Nat.reduceBEq, Nat.reduceMul, Nat.reducePow, *])
  exact R4.base
theorem hereNone_calls (c : UInt8) (S : Heap) : CallsQ Try.prog 11 [.int .u8 (c.toNat : Int)] S (.bool true) := by
  refine CallsA_W (fun _ => false) Try.func11 rfl (Nat.le_of_ble_eq_true rfl) ?_
  simp only [Try.f11]
  (simp only [go_sem, reduceIte, Nat.reduceEqDiff, Nat.reduceLT, Nat.reduceLeDiff, Nat.reduceAdd, reduceCtorEq, Int.reduceToNat, Int.reduceLE, Int.reduceLT, Int.reduceNeg, Int.reduceEq, Int.reduceNe, Nat.reduceBEq, Nat.reduceMul, Nat.reducePow, *])
  refine OpW_call rfl rfl call57 rfl ((text_nil _).mono ?_)
  rintro p S' ⟨rfl, rfl⟩
  (simp only [go_sem, reduceIte, Nat.reduceEqDiff, Nat.reduceLT, Nat.reduceLeDiff, Nat.reduceAdd, reduceCtorEq, Int.reduceToNat, Int.reduceLE, Int.reduceLT, Int.reduceNeg, Int.reduceEq, Int.reduceNe, Nat.reduceBEq, Nat.reduceMul, Nat.reducePow, *])
  refine OpW_call rfl rfl call58 rfl ((feed_nil _ _).mono ?_)
  rintro p S' ⟨rfl, rfl⟩
  (simp only [go_sem, reduceIte, Nat.reduceEqDiff, Nat.reduceLT, Nat.reduceLeDiff, Nat.reduceAdd, reduceCtorEq, Int.reduceToNat, Int.reduceLE, Int.reduceLT, Int.reduceNeg, Int.reduceEq, Int.reduceNe, Nat.reduceBEq, Nat.reduceMul, Nat.reducePow, *])
  refine OpW_call rfl rfl call59 rfl ((rest_nil _).mono ?_)
  rintro p S' ⟨rfl, rfl⟩
  (simp only [go_sem, reduceIte, Nat.reduceEqDiff, Nat.reduceLT, Nat.reduceLeDiff, Nat.reduceAdd, reduceCtorEq, Int.reduceToNat, Int.reduceLE, Int.reduceLT, Int.reduceNeg, Int.reduceEq, Int.reduceNe, Nat.reduceBEq, Nat.reduceMul, Nat.reducePow, *])
  refine OpW_call rfl rfl call50 rfl ((hereAwake_calls _).mono ?_)
  rintro p S' ⟨rfl, rfl⟩
  (simp only [go_sem, reduceIte, Nat.reduceEqDiff, Nat.reduceLT, Nat.reduceLeDiff, Nat.reduceAdd, reduceCtorEq, Int.reduceToNat, Int.reduceLE, Int.reduceLT, Int.reduceNeg, Int.reduceEq, Int.reduceNe, Nat.reduceBEq, Nat.reduceMul, Nat.reducePow, *])

end Go.Proofs.Ytcbonfgkfiapaaa.Pv
