/- An argument that is a row of int64. -/
import Derived.Test.YtbiajjdjbnnggaaG6
import Derived.Test.YtbiajjdjbnnggaaK0
namespace Go.Proofs.Ytbiajjdjbnnggaa
set_option linter.unusedSimpArgs false
set_option linter.unusedVariables false
set_option maxRecDepth 100000
open Go.RowKit Go.ChangeShapes Go.WideShapes Go.ChangeAt

def RdV (w : World) (A : Option Addr) (n c : Nat) (us : List Value) : Prop :=
  us.length = n ∧ n ≤ c ∧ n ≤ 9223372036854775807 ∧ (0 < n → ∃ ad, A = some ad ∧ ad.block < w.heap.size ∧ ∀ (j : Nat) (u : Value), us[j]? = some u → w.cell? (ad.add j) = some u)
section
variable {w w' : World} {A : Option Addr} {n c : Nat} {us : List Value}
theorem RdV.len (h : RdV w A n c us) : us.length = n := h.1
theorem RdV.cap (h : RdV w A n c us) : n ≤ c := h.2.1
theorem RdV.max (h : RdV w A n c us) : n ≤ 9223372036854775807 := h.2.2.1
theorem RdV.nil (w : World) (A : Option Addr) (c : Nat) : RdV w A 0 c [] := ⟨rfl, Nat.zero_le _, by omega, fun h => absurd h (by omega)⟩
theorem RdV.below (h : RdV w A n c us) (hb : Below w.heap.size w w') : RdV w' A n c us := by
  obtain ⟨h1, h2, h2', h3⟩ := h
  refine ⟨h1, h2, h2', fun hn => ?_⟩
  obtain ⟨ad, rfl, hlt, hc⟩ := h3 hn
  exact ⟨ad, rfl, Nat.lt_of_lt_of_le hlt hb.size, fun j x hx => (hb.cell (p := ad.add j) (adlt hlt j)).trans (hc j x hx)⟩
theorem RdV.form (h : RdV w A n c us) (hn : 0 < n) : ∃ ad, A = some ad ∧ ad.block < w.heap.size ∧ ∀ (j : Nat) (u : Value), us[j]? = some u → w.cell? (ad.add j) = some u := h.2.2.2 hn
end
def ivs (xs : List Int) : List Value := xs.map fun x => .int .i64 x
theorem ivs_len (xs : List Int) : (ivs xs).length = xs.length := by simp [ivs]
theorem i64s_arg {H : Type} {enc : TypeId × Value → H} {P : Program} {W : World} {t e : TypeId} {A : Option Addr} {n c : Nat} {d : DataW H} {p : List MemPlace} (ht : P.underlying t = some (.slice e)) (he : P.underlying e = some (.int .i64)) (hc : P.cellsOf e = 1)
    (h0 : DataW.Trod enc P W 0 (fun _ => true) true t (.slice A n c) d p) : ∃ xs : List Int, RdV W A n c (ivs xs) := by
  obtain ⟨fuel, hf⟩ := h0
  rcases open_ints ht he hc hf with ⟨hcs, _⟩ | ⟨x, l, c', zs, hcs, _, hl, hm, hz, _, hcell, hwz⟩
  · simp [Value.cells] at hcs
    obtain ⟨rfl, rfl, rfl⟩ := hcs
    exact ⟨[], RdV.nil _ _ _⟩
  · simp [Value.cells] at hcs
    obtain ⟨rfl, rfl, rfl⟩ := hcs
    simp only [if_true] at hz
    refine ⟨zs.take n, by rw [ivs_len, List.length_take]; omega, hl, by unfold maxLen at hm; omega, fun hn => ⟨x, rfl, ?_, fun j u hu => ?_⟩⟩
    · have := World.block_lt_of_cell? W _ (hcell 0 (by omega))
      rwa [Go.ChangeShapes.block_add] at this
    · have hj : j < n := by
        rcases Nat.lt_or_ge j n with h | h
        · exact h
        · rw [List.getElem?_eq_none (by rw [ivs_len, List.length_take]; omega)] at hu; cases hu
      rw [hcell j (by omega)]
      unfold ivs at hu
      rw [List.getElem?_map, List.getElem?_take, if_pos hj, List.getElem?_eq_getElem (by omega)] at hu
      rw [List.getD_eq_getElem?_getD, List.getElem?_eq_getElem (by omega)]
      simpa using hu
end Go.Proofs.Ytbiajjdjbnnggaa
