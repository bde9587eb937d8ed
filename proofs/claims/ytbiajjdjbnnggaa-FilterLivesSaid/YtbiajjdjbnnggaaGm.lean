/- What a row holds: samples that were put in, and that may be. -/
import Derived.Test.YtbiajjdjbnnggaaG6
namespace Go.Proofs.Ytbiajjdjbnnggaa
set_option linter.unusedSimpArgs false
set_option linter.unusedVariables false
set_option maxRecDepth 100000

theorem rg_mem {ss : List Smp} {k : Nat} (h : k < ss.length) : rg ss k ∈ ss := by
  unfold rg; rw [List.getD_eq_getElem?_getD, List.getElem?_eq_getElem h]; exact List.getElem_mem h
theorem mem_rg {ss : List Smp} {x : Smp} (h : x ∈ ss) : ∃ k, k < ss.length ∧ rg ss k = x := by
  obtain ⟨k, hk, e⟩ := List.getElem_of_mem h
  exact ⟨k, hk, by unfold rg; rw [List.getD_eq_getElem?_getD, List.getElem?_eq_getElem hk]; exact e⟩
theorem rg_set {ss : List Smp} {k j : Nat} (h : k < ss.length) (s : Smp) : rg (ss.set k s) j = if j = k then s else rg ss j := by
  unfold rg
  rw [List.getD_eq_getElem?_getD, List.getD_eq_getElem?_getD, List.getElem?_set]
  by_cases hj : k = j
  · subst hj; rw [if_pos rfl, if_pos rfl, if_pos h]; rfl
  · rw [if_neg hj, if_neg (Ne.symm hj)]
theorem swp_mem {ss : List Smp} {j : Nat} (h : j < ss.length) {x : Smp} (hx : x ∈ swp ss j) : x ∈ ss := by
  unfold swp at hx
  rcases List.mem_or_eq_of_mem_set hx with h1 | h1
  · rcases List.mem_or_eq_of_mem_set h1 with h2 | h2
    · exact h2
    · rw [h2]; exact rg_mem (by omega)
  · rw [h1]; exact rg_mem h
theorem bub_mem (now : Int) : ∀ (j : Nat) (ss : List Smp), j < ss.length → ∀ x ∈ bub now j ss, x ∈ ss
  | 0, _, _, _, h => h
  | j + 1, ss, hj, x, h => by
    unfold bub at h
    split at h
    · exact swp_mem hj (bub_mem now j _ (by rw [swp_len]; omega) x h)
    · exact h
theorem isn_mem (now : Int) (ss : List Smp) : ∀ k, (k < ss.length ∨ k = 0) → ∀ x ∈ isn now ss k, x ∈ ss
  | 0, _, _, h => h
  | k + 1, hk, x, h => isn_mem now ss k (by omega) x (bub_mem now (k + 1) _ (by rw [isn_len]; omega) x h)
/-- what a ring holds came in, and may be -/
def INV (ss : List Smp) (S : List Smp × Nat) : Prop := S.1.length = 8 ∧ ∀ j, j < min S.2 8 → rg S.1 j ∈ ss ∧ mayB (rg S.1 j) = true
theorem INV.add {ss : List Smp} {S : List Smp × Nat} (h : INV ss S) (s : Smp) : INV (ss ++ [s]) (addN S s) := by
  obtain ⟨h1, h2⟩ := h
  unfold addN
  by_cases hm : mayB s = true
  · simp only [hm, if_true]
    refine ⟨by simpa using h1, fun j hj => ?_⟩
    replace hj : j < min (S.2 + 1) 8 := hj
    show rg (S.1.set (S.2 % 8) s) j ∈ _ ∧ mayB (rg (S.1.set (S.2 % 8) s) j) = true
    rw [rg_set (by omega)]
    by_cases hj2 : j = S.2 % 8
    · rw [if_pos hj2]; exact ⟨by simp, hm⟩
    · rw [if_neg hj2]
      obtain ⟨a, b⟩ := h2 j (by omega)
      exact ⟨List.mem_append_left _ a, b⟩
  · rw [if_neg hm, if_neg hm]
    exact ⟨h1, fun j hj => ⟨List.mem_append_left _ (h2 j hj).1, (h2 j hj).2⟩⟩
theorem INV.fold : ∀ (ss l : List Smp) (S : List Smp × Nat), INV l S → INV (l ++ ss) (ss.foldl addN S)
  | [], l, S, h => by simpa using h
  | s :: ss, l, S, h => by
    have := INV.fold ss (l ++ [s]) (addN S s) (h.add s)
    simpa using this
theorem INV.fill (ss : List Smp) : INV ss (fillN ss) := by
  have := INV.fold ss [] (R0, 0) ⟨rfl, fun j hj => absurd hj (by show ¬ j < min 0 8; omega)⟩
  simpa [fillN] using this
theorem row_mem {l : List Smp} {S : List Smp × Nat} (h : INV l S) (now : Int) : ∀ x ∈ rowN S.1 S.2 now, x ∈ l ∧ mayB x = true := by
  intro x hx
  unfold rowN at hx
  have := isn_mem now _ _ (by rw [newest_len]; omega) x hx
  unfold newest at this
  rw [List.mem_map] at this
  obtain ⟨i, hi, rfl⟩ := this
  rw [List.mem_range] at hi
  exact h.2 _ (by omega)
theorem best_mem {l : List Smp} {S : List Smp × Nat} (h : INV l S) (now : Int) (hn : S.2 ≠ 0) : bestN S.1 S.2 now ∈ l ∧ mayB (bestN S.1 S.2 now) = true := by
  unfold bestN
  rw [if_neg hn]
  exact row_mem h now _ (rg_mem (by rw [rowN_len]; omega))
/-- where all may be all are counted -/
theorem fold_all : ∀ (ss : List Smp) (S : List Smp × Nat), (∀ s ∈ ss, mayB s = true) → (ss.foldl addN S).2 = S.2 + ss.length
  | [], S, _ => by simp
  | s :: ss, S, h => by
    rw [List.foldl_cons, fold_all ss _ (fun x hx => h x (List.mem_cons_of_mem _ hx))]
    unfold addN
    rw [if_pos (h s List.mem_cons_self), if_pos (h s List.mem_cons_self)]
    simp only [List.length_cons]; omega
theorem fill_all {ss : List Smp} (h : ∀ s ∈ ss, mayB s = true) : (fillN ss).2 = ss.length := by
  have := fold_all ss (R0, 0) h
  simpa [fillN] using this
end Go.Proofs.Ytbiajjdjbnnggaa
