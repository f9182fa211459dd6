/- Slices with all three bounds; stores told by a size. -/
import Derived.Test.YtcbonfgkfiapaaaView
set_option linter.unusedVariables false
set_option linter.unusedSimpArgs false
namespace Go.Proofs.Ytcbonfgkfiapaaa.Pv
open Go Go.RowKit

theorem run_slice3 {P : Program} {w : World} {t e : TypeId} {inf : TypeInfo} (hu : P.underlying t = some (.slice e)) (hi : P.info? e = some inf) (a : Option Addr) (n cap h m : Nat) (k k' : IntKind) (h1 : h ≤ m) (h2 : m ≤ cap) :
    (Instr.sliceAt t (.slice a n cap) none (some (.int k (h : Int))) (some (.int k' (m : Int)))).run P w = .ok (.slice (if m = 0 then a else a.map (·.add 0)) h m) w := by
  have e1 := run_sliceBound (P := P) w k' (m : Int) cap BoundsCode.slice3Acap (by omega) (by omega)
  have e2 := run_sliceBound (P := P) w k (h : Int) m BoundsCode.slice3B (by omega) (by omega)
  have eb : (Instr.sliceBounds true n cap none (some (.int k (h : Int))) (some (.int k' (m : Int)))).run P w = .ok (0, h, m) w := by
    simp [Instr.sliceBounds, e1, e2]
  simp [Instr.sliceAt, Instr.slice, run_under hu, eb, run_sizeOf' hi]

section
variable {P : Program} {n : Nat} {mb : Tmp → Bool} {R : Post} {σ : Regs} {S : Heap}
theorem QV_slice3 {o : Oper} {t : TypeId} {x hi mx : Operand} {sz b c cap h m : Nat} {k k' : IntKind} (ho : o.op = .slice t x none (some hi) (some mx)) (he : elemSize P t = some sz) (hx : ev σ x = .vec b c cap) (hh : ev σ hi = .int k (h : Int)) (hm : ev σ mx = .int k' (m : Int)) (h1 : h ≤ m) (h2 : m ≤ cap) : QV P o σ S (.vec b h m) := by
  intro n σ' w a hag hs next Qx hn
  have hall : ∀ y ∈ o.op.operands.toList, ev σ' y = ev σ y := ev_congr hag
  obtain ⟨e, inf, hu, hi', hsz⟩ := elemSize_spec he
  have r1 := rep_ev hs x
  have r2 := rep_ev hs hi
  have r3 := rep_ev hs mx
  rw [hall x (by simp [ho, Op.operands]), hx] at r1
  rw [hall hi (by simp [ho, Op.operands]), hh] at r2
  rw [hall mx (by simp [ho, Op.operands]), hm] at r3
  simp only [Rep] at r1 r2 r3
  have hrun : (execOp a.eval o).run P w = .ok (.value (.slice (some ⟨b, 0, none⟩) h m)) w := by
    simp only [execOp, ho, Option.map_some, Option.map_none, Sem.run_bind, r1, r2, r3, run_slice3 hu hi' (some ⟨b, 0, none⟩) c cap h m k k' h1 h2, Result.andThen_ok, Sem.run_pure]
    congr 2
    split <;> simp [add_addr]
  simp only [Oper.wp, hrun, Oper.upon]
  exact hn _ _ (by simp only [Rep]) (Ext.refl w S) hs.heap
theorem QV_slice30 {o : Oper} {t : TypeId} {x hi mx : Operand} {sz : Nat} {k k' : IntKind} (ho : o.op = .slice t x none (some hi) (some mx)) (he : elemSize P t = some sz) (hx : ev σ x = .sl0) (hh : ev σ hi = .int k 0) (hm : ev σ mx = .int k' 0) : QV P o σ S .sl0 := by
  intro n σ' w a hag hs next Qx hn
  have hall : ∀ y ∈ o.op.operands.toList, ev σ' y = ev σ y := ev_congr hag
  obtain ⟨e, inf, hu, hi', hsz⟩ := elemSize_spec he
  have r1 := rep_ev hs x
  have r2 := rep_ev hs hi
  have r3 := rep_ev hs mx
  rw [hall x (by simp [ho, Op.operands]), hx] at r1
  rw [hall hi (by simp [ho, Op.operands]), hh] at r2
  rw [hall mx (by simp [ho, Op.operands]), hm] at r3
  simp only [Rep] at r1 r2 r3
  obtain ⟨aa, r1⟩ := r1
  have hrun : (execOp a.eval o).run P w = .ok (.value (.slice aa 0 0)) w := by
    have := run_slice3 (P := P) (w := w) hu hi' aa 0 0 0 0 k k' (Nat.le_refl _) (Nat.le_refl _)
    simp only [execOp, ho, Option.map_some, Option.map_none, Sem.run_bind, r1, r2, r3]
    have h0 : ((0 : Nat) : Int) = 0 := rfl
    rw [h0] at this
    simp only [this, Result.andThen_ok, Sem.run_pure, if_true]
  simp only [Oper.wp, hrun, Oper.upon]
  exact hn _ _ (by simp only [Rep]; exact ⟨_, rfl⟩) (Ext.refl w S) hs.heap
theorem QCW_of {o : Oper} {ds : List (Option Tmp)} {q tail : List Oper} {k : List It} {p : PV} (h : QV P o σ S p) (hK : QW P n mb R ds q tail k (updO σ o.dst p) S) : QCW P n mb R o ds q tail k σ S := by
  unfold QCW
  exact ⟨p, h, hK⟩
theorem OpW_put {ds : List (Option Tmp)} {l : List Oper} {k : List It} {t : TypeId} {x y : Operand} {b off : Nat} {cs es : List PV} {ty : TypeId} {o : Oper} (ho : o.op = .store t x y) (hx : ev σ x = .mp b off) (hb : S b = some (.cells cs ty)) (hc : cellsOf (ev σ y) = some es)
    (h1 : es.all PV.isOne = true) (hsz : (P.info? t).map (·.size) = some es.length) (hle : off + es.length ≤ cs.length) (hd : okDst n o.dst = true)
    (hK : W P n mb R (.ops ds l :: k) (updO σ o.dst .any) (S.set b (.cells (splice cs off es) ty))) : OpW P n mb R o ds l k σ S := by
  cases hi : P.info? t with
  | none => rw [hi] at hsz; cases hsz
  | some inf =>
    rw [hi] at hsz
    simp only [Option.map_some, Option.some.injEq] at hsz
    exact OpW_store ho hx hb hc h1 hi hsz hle hd hK
end

end Go.Proofs.Ytcbonfgkfiapaaa.Pv
