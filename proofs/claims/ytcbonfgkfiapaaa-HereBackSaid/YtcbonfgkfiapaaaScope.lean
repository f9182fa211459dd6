/- Code in which there are labels, through which the run goes without a jump. -/
import Derived.Test.YtcbonfgkfiapaaaDraw1
import Derived.Scope
set_option linter.unusedVariables false
namespace Go.Proofs.Ytcbonfgkfiapaaa.Pv
open Go Go.RowKit

theorem kont_goto {P : Program} {n : Nat} {mb : Tmp → Bool} {R : Post} {l : Nat} {σ : Regs} {S : Heap} : ∀ (k : List It), kont P n mb R k (.goto l) σ S → R (.goto l) σ S
  | [], h => h
  | .code c :: k, h => kont_goto k h
  | .ops ds os :: k, h => kont_goto k h
  | .fin id :: k, h => kont_goto k h
theorem W_scope {P : Program} {n : Nat} {mb : Tmp → Bool} {R : Post} {c : Code} {k : List It} {σ : Regs} {S : Heap} (hR : ∀ l σ S, ¬ R (.goto l) σ S) (h : W P n mb R (.code c :: k) σ S) : W P n mb R (.code (.scope c) :: k) σ S := by
  have h1 : AW P n c σ S (kont P n mb R k) := W_sound (.code c :: k) σ S h
  have h2 : W P n mb R (.code (.scope c) :: k) σ S = CodeW P n mb R (.scope c) k σ S := by rw [W] <;> simp
  rw [h2]
  intro w0 S0 w a hs he
  refine wp_scope_straight (wp_mono (h1 w0 S0 w a hs he) ?_)
  rintro e a' w' ⟨σ', S', h3, h4, h5⟩
  cases e with
  | goto l => exact absurd (kont_goto k h5) (hR l σ' S')
  | _ => exact ⟨σ', S', h3, h4, h5⟩

end Go.Proofs.Ytcbonfgkfiapaaa.Pv
