/- AliasMany returns true, whatever it is given, and leaves what it is given as it was: the statement AliasManySaid, with no condition. -/
import Derived.Test.YtcbonfgkfiapaaaAli7
import Derived.Test.YtcbonfgkfiapaaaJoin
set_option linter.unusedVariables false
namespace Go.Proofs.Ytcbonfgkfiapaaa.aliasMany
open Go.ChangeShapes Go.WideShapes Go.ChangeAt Go.ChangeMaps Go.RowKit Go.Proofs.Ytcbonfgkfiapaaa.Pv

set_option maxRecDepth 100000 in
theorem lifted (os : Os) (started : os.Started) (H : Type) (enc : TypeId × Value → H) :
    ReturnsInHanded {} Try.checked os 15 .any (Rows.aliasManySpec.pre6 enc Try.prog Try.f15 Rows.aliasManyRow.domain false) (Rows.aliasManySpec.post enc Try.prog Try.f15 false true false false) := by
  refine returnsInHanded_of_change (C := Try.checked) own started (by kernel_rfl) Try.func15
    (ChangeSpec.witness6 (enc := enc) (C := Try.checked) false ⟨#[], #[.int .u8 0, .string ⟨#[]⟩], []⟩ 8 (by kernel_rfl) (by kernel_rfl) (by kernel_rfl) (by kernel_rfl)) ?_
  intro W base args ds gs before hval0 hW hcnd _
  have hval : ∀ (j : Nat) t v, Try.f15.params[j]? = some t → args[j]? = some v → Value.okWide Try.prog W .any base t v := hval0
  have hW' := hW
  obtain ⟨p, q, hA0, hV, rfl, hfz, hnd⟩ := hW
  have hA : DataW.TrodAll enc Try.prog W 0 (fun _ => true) true Try.f15.params.toList args.toList ds p := hA0
  have hA1 := hA
  rw [Try.params15] at hA hval
  obtain ⟨v0, vs0, d0, ds0, p0, q0, hargs, rfl, rfl, h0, r0⟩ := trodAll_cons hA
  obtain ⟨v1, vs1, d1, ds1, p1, q1, rfl, rfl, rfl, h1, r1⟩ := trodAll_cons r0
  obtain ⟨rfl, rfl, rfl⟩ := trodAll_nil r1
  obtain rfl : args = #[v0, v1] := by cases args; simp_all
  obtain ⟨rfl, rfl⟩ := trodVars_none hV
  have b0 : ∃ c : UInt8, v0 = .int .u8 (c.toNat : Int) := by
    obtain ⟨s, x1, x2, x3, x4⟩ := open_int Try.underlying5 (hval 0 5 v0 rfl rfl) h0
    obtain ⟨c, rfl⟩ := byte_of x4
    exact ⟨c, x1⟩
  obtain ⟨a0, rfl⟩ := b0
  have b1 : ∃ s, v1 = .string s := by
    obtain ⟨s, x1, x2, x3, x4⟩ := open_string Try.underlying9 (hval 1 9 v1 rfl rfl) h1
    exact ⟨s, x1⟩
  obtain ⟨a1, rfl⟩ := b1
  refine (join_calls (aliasMany_calls a0 a1.data.toList Heap.none) (repVals_cons.2 ⟨by simp [Rep], repVals_cons.2 ⟨by simp [Rep], repVals_nil.2 rfl⟩⟩)).mono fun e W' ⟨he, hg⟩ => ?_
  subst he
  have hA2 := trodAll_below (by kernel_rfl : laidOutB Try.prog = true) hg (by rw [Try.params15]; decide +kernel) hA1
  exact ⟨_, rfl, post_again (pa := _) (pv := []) hW' (fun _ _ _ => trodAll_cons_mk (shut_bool Try.underlying4 _) trodAll_mk0) hA2 (fun _ => rfl) rfl hg⟩

theorem proved : Rows.AliasManySaid :=
  OpenClaim.holds_of_wide 15 Try.f15 rfl rfl rfl rfl rfl rfl rfl ⟨rfl, rfl, rfl, rfl, rfl⟩ rfl rfl rfl rfl rfl (by kernel_rfl) Try.func15 (by kernel_rfl)
    (of_decide_eq_true (by kernel_rfl)) (by unfold Func.isWrapper; first | (rw [if_pos (by decide +kernel)]; kernel_rfl) | (rw [if_neg (by decide +kernel)]; exact ⟨rfl, rfl⟩))
    (fun os started H enc _ => lifted os started H enc)
end Go.Proofs.Ytcbonfgkfiapaaa.aliasMany
