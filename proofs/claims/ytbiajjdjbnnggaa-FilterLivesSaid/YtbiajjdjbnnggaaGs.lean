/- A row is in order. -/
import Derived.Test.YtbiajjdjbnnggaaGm
namespace Go.Proofs.Ytbiajjdjbnnggaa
set_option linter.unusedSimpArgs false
set_option linter.unusedVariables false
set_option maxRecDepth 100000

theorem rg_swp {L : List Smp} {j : Nat} (h : j + 1 < L.length) (i : Nat) : rg (swp L (j + 1)) i = if i = j then rg L (j + 1) else if i = j + 1 then rg L j else rg L i := by
  unfold swp
  rw [show j + 1 - 1 = j by omega, rg_set (by rw [List.length_set]; omega), rg_set (by omega)]
theorem bub_above (now : Int) : ∀ (j : Nat) (L : List Smp), j < L.length → ∀ i, j < i → rg (bub now j L) i = rg L i
  | 0, _, _, _, _ => rfl
  | j + 1, L, hj, i, hi => by
    unfold bub
    split
    · rw [bub_above now j _ (by rw [swp_len]; omega) i (by omega), rg_swp hj, if_neg (by omega), if_neg (by omega)]
    · rfl
theorem bub_all (now : Int) (P : Smp → Prop) : ∀ (j : Nat) (L : List Smp), j < L.length → (∀ i, i ≤ j → P (rg L i)) → ∀ i, i ≤ j → P (rg (bub now j L) i)
  | 0, _, _, h, i, hi => h i hi
  | j + 1, L, hj, h, i, hi => by
    unfold bub
    split
    · rcases Nat.lt_or_ge j i with h1 | h1
      · rw [bub_above now j _ (by rw [swp_len]; omega) i h1, rg_swp hj, if_neg (by omega), if_pos (by omega)]
        exact h j (by omega)
      · refine bub_all now P j _ (by rw [swp_len]; omega) (fun k hk => ?_) i h1
        rw [rg_swp hj]
        split
        · exact h _ (by omega)
        · rw [if_neg (by omega)]; exact h _ (by omega)
    · exact h i hi
def SoTo (now : Int) (L : List Smp) (k : Nat) : Prop := ∀ a b, a ≤ b → b < k → distN (rg L a) now ≤ distN (rg L b) now
theorem bub_so (now : Int) : ∀ (j : Nat) (L : List Smp), j < L.length → SoTo now L j → SoTo now (bub now j L) (j + 1)
  | 0, L, _, _ => fun a b h1 h2 => by
    obtain rfl : a = 0 := by omega
    obtain rfl : b = 0 := by omega
    exact Int.le_refl _
  | j + 1, L, hj, h => by
    unfold bub
    split
    · rename_i hlt
      have hs : SoTo now (swp L (j + 1)) j := fun a b h1 h2 => by
        rw [rg_swp hj, rg_swp hj, if_neg (by omega), if_neg (by omega), if_neg (by omega), if_neg (by omega)]
        exact h a b h1 (by omega)
      have ih := bub_so now j _ (by rw [swp_len]; omega) hs
      have hb := bub_all now (fun s => distN s now ≤ distN (rg L j) now) j (swp L (j + 1)) (by rw [swp_len]; omega) (fun k hk => by
        show distN (rg (swp L (j + 1)) k) now ≤ _
        rw [rg_swp hj]
        split
        · omega
        · rw [if_neg (by omega)]; exact h k j hk (by omega))
      intro a b h1 h2
      rcases Nat.lt_or_ge b (j + 1) with h3 | h3
      · exact ih a b h1 h3
      · obtain rfl : b = j + 1 := by omega
        have e : rg (bub now j (swp L (j + 1))) (j + 1) = rg L j := by
          rw [bub_above now j _ (by rw [swp_len]; omega) _ (by omega), rg_swp hj, if_neg (by omega), if_pos rfl]
        rcases Nat.lt_or_ge a (j + 1) with h4 | h4
        · rw [e]; exact hb a (by omega)
        · obtain rfl : a = j + 1 := by omega
          exact Int.le_refl _
    · rename_i hlt
      intro a b h1 h2
      rcases Nat.lt_or_ge b (j + 1) with h3 | h3
      · exact h a b h1 h3
      · obtain rfl : b = j + 1 := by omega
        rcases Nat.lt_or_ge a (j + 1) with h4 | h4
        · have := h a j (by omega) (by omega); omega
        · obtain rfl : a = j + 1 := by omega
          exact Int.le_refl _
theorem isn_so (now : Int) (L : List Smp) : ∀ k, (k < L.length ∨ k = 0) → SoTo now (isn now L k) (k + 1)
  | 0, _ => fun a b h1 h2 => by
    obtain rfl : a = 0 := by omega
    obtain rfl : b = 0 := by omega
    exact Int.le_refl _
  | k + 1, hk => bub_so now (k + 1) _ (by rw [isn_len]; omega) (isn_so now L k (by omega))
theorem row_so (R : List Smp) (n : Nat) (now : Int) {t : Nat} (h0 : 0 < t) (ht : t < min n 8) : distN (rg (rowN R n now) (t - 1)) now ≤ distN (rg (rowN R n now) t) now := by
  unfold rowN
  exact isn_so now _ (min n 8 - 1) (by rw [newest_len]; omega) (t - 1) t (by omega) (by omega)
end Go.Proofs.Ytbiajjdjbnnggaa
