/- slices.Sorted(maps.Keys(m)) at a map of texts: the names, in their order. -/
import Derived.Test.YtcbonfgkfiapaaaAli3
import Derived.Test.YtcbonfgkfiapaaaShelfI
import Derived.Test.YtcbonfgkfiapaaaShelfS
import Derived.Sort.KeysCollected
import Derived.Sort.Walk0
set_option linter.unusedVariables false
set_option linter.unusedSimpArgs false
namespace Go.Proofs.Ytcbonfgkfiapaaa.Pv
open Go Go.RowKit Go.Maps Go.Sort Go.Shelf

theorem names_of (l : TMap) : strKeys (dOf l) = l.map (·.1) := by
  simp [strKeys, dOf, strOf, entA, Function.comp_def]
theorem sorted_names {l : TMap} (h : l.Pairwise (fun x y => bytesBefore x.1 y.1 = true)) : (l.map (·.1)).mergeSort leB = l.map (·.1) := by
  refine List.mergeSort_of_pairwise ?_
  rw [List.pairwise_map]
  refine h.imp fun {x y} hxy => ?_
  rw [before_less, bytesLess_eq, decide_eq_true_eq] at hxy
  exact decide_eq_true (List.le_of_lt hxy)
theorem sortsTry (m : Nat) : AnyZ.SortsIn Try.prog Try.sorted119_ren Fence.wide m :=
  ⟨fun blk off cap ss W hH hblk hsz => callsIn_wide.2 (Try.slices_Sort_string blk off cap ss W hH hblk hsz),
   fun p cap W => callsIn_wide.2 (Try.slices_Sort_string_none p cap W)⟩
theorem rows_strs {w : World} {im : Nat → Prop} {b : Nat} : ∀ (ss : List Txt) (off : Nat), (∀ (j : Nat) (s : Txt), ss[j]? = some s → w.cell? ⟨b, off + j, none⟩ = some (.string ⟨s.toArray⟩)) → RepRows w im b off 1 (ss.map fun s => [PV.str s])
  | [], off, _ => by simp only [List.map_nil, RepRows]
  | s :: ss, off, h => by
    simp only [List.map_cons, RepRows, RepAt]
    refine ⟨rfl, ⟨⟨_, by simpa using h 0 s rfl, by simp only [Rep]⟩, trivial⟩, rows_strs ss (off + 1) fun j t ht => ?_⟩
    have := h (j + 1) t (by simpa using ht)
    rwa [show off + 1 + j = off + (j + 1) by omega]
theorem sortedC : SortedC := by
  intro bm b n l ob S hbm hb hl hn
  refine CallsQ_below fun w args hv hh => ?_
  have hargs : args = #[.func (.func 145) #[] #[.pointer (some ⟨bm, 0, none⟩)]] := by
    simp only [RepVals, Rep] at hv
    obtain ⟨v, r, hv, ⟨fa, ca, rfl, e1, v2, r2, e2, rfl, rfl⟩, rfl⟩ := hv
    have h1 : fa = #[] := Array.ext' (by simpa using e1)
    have h2 : ca = #[.pointer (some ⟨bm, 0, none⟩)] := Array.ext' (by simpa using e2)
    subst h1 h2
    exact Array.ext' (by simpa using hv)
  subst hargs
  have hown := hl.owns (hh b _ hb)
  obtain ⟨arr, hm1, hm2⟩ := hh bm _ hbm
  have harr : arr = #[.map (some b)] := by
    simp only [RepVals, Rep] at hm2
    obtain ⟨v, r, hm2, rfl, rfl⟩ := hm2
    exact Array.ext' (by simpa using hm2)
  subst harr
  have hlt := (Array.getElem?_eq_some_iff.1 hm1).1
  have hsz : Maps.size (dOf l) ≤ 1048576 := by have := hown.size_le; omega
  have hml : (1048576 : Nat) ≤ maxLen := by decide
  have hseq : SeqGives Fence.wide 2 Try.prog 145 #[.pointer (some ⟨bm, 0, none⟩)] encStr (fun ss => ss.Perm (strKeys (dOf l))) (Maps.size (dOf l)) w :=
    AnyZ.keys_gives (ρ := Try.keys120_ren) { Try.keys120 with } Fence.wide _ trivial rfl (by omega) bm b n (dOf l) w hlt (by rw [cell_of_block hm1]; rfl) hown
  have cS := AnyZ.sorted_in Try.sorted119 Fence.wide 5 trivial trivial trivial trivial rfl (by omega) (sortsTry _) (enters_of Try.func144 (by kernel_rfl) rfl) 145 #[.pointer (some ⟨bm, 0, none⟩)] trivial (enters_of Try.func145 (by kernel_rfl) rfl) _ (Maps.size (dOf l)) (by omega) (by omega) w hseq
  refine (callsIn_wide.1 cS).mono ?_
  rintro e w' ⟨v, ss, rfl, hp, hrow, hnil, hbel⟩
  refine ⟨v, rfl, ?_, hbel⟩
  have hms : ss.mergeSort leB = l.map (·.1) := by
    rw [mergeSort_of_perm hp, names_of, sorted_names (hl.sorted aliT)]
  have hlen : ss.length = l.length := by
    have := hp.length_eq
    rw [names_of, List.length_map] at this
    exact this
  have hrow' : w'.ownsRow w.heap.size 9 1 v ss.length ((l.map (·.1)).map encStr) := by
    rw [← hms]; exact hrow
  obtain ⟨_, h | ⟨g, cap, cur, rfl, g1, g2, g3, g4, g5, g6⟩⟩ := hrow'
  · obtain ⟨rfl, h0⟩ := h
    have hl0 : l = [] := List.eq_nil_of_length_eq_zero (by omega)
    subst hl0
    simp only [Rep]
    exact ⟨none, 0, rfl, Nat.le_refl _, by decide, Or.inl rfl⟩
  · simp only [Rep, List.length_map]
    refine ⟨some ⟨g, 0, none⟩, cap, by rw [hlen], by rw [← hlen]; exact g3, g4, Or.inr ⟨g, 0, rfl, ?_, (Array.getElem?_eq_some_iff.1 g2).1, ?_⟩⟩
    · show S g = none
      cases hS : S g with
      | none => rfl
      | some o => have := (hh g o hS).lt; omega
    · have e1 : (l.map fun x => [PV.str x.1]) = (l.map (·.1)).map fun s => [PV.str s] := by simp
      rw [e1]
      refine rows_strs _ 0 fun j s hj => ?_
      rw [Nat.zero_add, cell_of_block g2, ← Array.getElem?_toList]
      have h2 : (cur.toList.take (ss.length * 1))[j]? = some (encStr s) := by rw [g6, List.getElem?_map, hj]; rfl
      rw [List.getElem?_take] at h2
      split at h2
      · exact h2
      · cases h2
end Go.Proofs.Ytcbonfgkfiapaaa.Pv
