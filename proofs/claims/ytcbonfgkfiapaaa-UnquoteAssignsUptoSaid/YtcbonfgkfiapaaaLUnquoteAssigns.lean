/- UnquoteAssigns returns true wherever what it is given is of bulk at most 1048576, and leaves what it is given as it was: the statement UnquoteAssignsUptoSaid, with no other condition. -/
import Derived.Test.YtcbonfgkfiapaaaUnq4
import Derived.Test.YtcbonfgkfiapaaaJoin
import Derived.Test.YtcbonfgkfiapaaaTree
set_option linter.unusedVariables false
namespace Go.Proofs.Ytcbonfgkfiapaaa.unquoteAssigns
open Go.ChangeShapes Go.WideShapes Go.ChangeAt Go.ChangeMaps Go.RowKit Go.Proofs.Ytcbonfgkfiapaaa.Pv

set_option maxRecDepth 100000 in
theorem lifted (os : Os) (started : os.Started) (H : Type) (enc : TypeId × Value → H) (F : Stop.Interp) :
    ReturnsInHanded {} Try.checked os 7 .any ((Rows.OpenSpec.upto Rows.unquoteAssignsSpec).pre6 enc Try.prog Try.f7 Rows.unquoteAssignsUptoRow.domain false) (((Rows.OpenSpec.upto Rows.unquoteAssignsSpec).at F).post enc Try.prog Try.f7 false true false false) := by
  refine returnsInHanded_of_cond (C := Try.checked) (s := Rows.OpenSpec.upto Rows.unquoteAssignsSpec) (k := Rows.uptoSmall) rfl own started (by kernel_rfl) Try.func7
    (OpenSpec.witness (enc := enc) (C := Try.checked) (s := Rows.OpenSpec.upto Rows.unquoteAssignsSpec) (k := Rows.uptoSmall) rfl false ⟨#[], #[.string ⟨#[]⟩, .agg #[.slice none 0 0]], []⟩ 8 (by kernel_rfl) (by kernel_rfl) (by kernel_rfl)
      (x := ([.lit (.string []), .agg [.nil]], [], [])) (by kernel_rfl) rfl (by kernel_rfl)) ?_
  intro W base args ds gs before hval0 hW hcnd hkk _
  have hval : ∀ (j : Nat) t v, Try.f7.params[j]? = some t → args[j]? = some v → Value.okWide Try.prog W .any base t v := hval0
  have hW' := hW
  obtain ⟨p, q, hA0, hV, rfl, hfz, hnd⟩ := hW
  have hA : DataW.TrodAll enc Try.prog W 0 (fun _ => true) true Try.f7.params.toList args.toList ds p := hA0
  have hA1 := hA
  rw [Try.params7] at hA hval
  obtain ⟨v0, vs0, d0, ds0, p0, q0, hargs, rfl, rfl, h0, r0⟩ := trodAll_cons hA
  obtain ⟨v1, vs1, d1, ds1, p1, q1, rfl, rfl, rfl, h1, r1⟩ := trodAll_cons r0
  obtain ⟨rfl, rfl, rfl⟩ := trodAll_nil r1
  obtain rfl : args = #[v0, v1] := by cases args; simp_all
  obtain ⟨rfl, rfl⟩ := trodVars_none hV
  have hk : Rows.uptoBulkAll ([d0, d1] ++ ([] : List (DataW H))) ≤ 1048576 := of_decide_eq_true hkk
  simp only [List.cons_append, List.nil_append, Rows.uptoBulkAll] at hk
  have b0 : ∃ s, v0 = .string s ∧ d0 = .lit (.string s.data.toList) := by
    obtain ⟨s, x1, x2, x3, x4⟩ := open_string Try.underlying9 (hval 0 9 v0 rfl rfl) h0
    exact ⟨s, x1, x2⟩
  obtain ⟨a0, rfl, rfl⟩ := b0
  simp only [Rows.uptoBulk] at hk
  obtain ⟨a1, e1, b1⟩ := open_word (hval 1 33 v1 rfl rfl) h1
  refine (join_calls (unquoteAssigns_calls a0.data.toList a1 (by omega) Heap.none) (repVals_cons.2 ⟨by simp [Rep], repVals_cons.2 ⟨e1, repVals_nil.2 rfl⟩⟩)).mono fun e W' ⟨he, hg⟩ => ?_
  subst he
  have hA2 := trodAll_below (by kernel_rfl : laidOutB Try.prog = true) hg (by rw [Try.params7]; decide +kernel) hA1
  exact ⟨_, rfl, post_again (pa := _) (pv := []) hW' (fun _ _ _ => trodAll_cons_mk (shut_bool Try.underlying4 _) trodAll_mk0) hA2 (fun _ => rfl) rfl hg⟩

theorem proved : Rows.UnquoteAssignsUptoSaid :=
  OpenClaim.holds_of_cond 7 Try.f7 rfl rfl rfl rfl rfl rfl rfl ⟨rfl, rfl, rfl, rfl, rfl⟩ rfl rfl rfl rfl rfl (by kernel_rfl) Try.func7 (by kernel_rfl)
    (of_decide_eq_true (by kernel_rfl)) (by unfold Func.isWrapper; first | (rw [if_pos (by decide +kernel)]; kernel_rfl) | (rw [if_neg (by decide +kernel)]; exact ⟨rfl, rfl⟩))
    (fun os started H enc _ F => lifted os started H enc F)
end Go.Proofs.Ytcbonfgkfiapaaa.unquoteAssigns
