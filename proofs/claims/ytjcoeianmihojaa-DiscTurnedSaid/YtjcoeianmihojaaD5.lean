/- The fixed calls of the clock discipline come to what they must. -/
import Derived.Test.YtjcoeianmihojaaD4
import Derived.Laws.StructEq
namespace Go.Proofs.Ytjcoeianmihojaa
set_option linter.unusedSimpArgs false
set_option linter.unusedVariables false
open Go.RowKit

theorem mayD {f l a p : Int} (h1 : -2147483 ≤ f) (h2 : f ≤ 2147483) (h3 : -1152921504606846976 ≤ l) (h4 : l ≤ 1152921504606846976) (h5 : -1152921504606846976 ≤ a) (h6 : a ≤ 1152921504606846976) (h7 : 0 ≤ p) (h8 : p ≤ 17) : mayB f l a p = true :=
  mayB_iff.2 ⟨⟨h1, h2⟩, ⟨h3, h4⟩, ⟨h5, h6⟩, h7, h8⟩

theorem slew_one (w : World) : Calls Try.prog 9 #[.agg #[.int .i64 0, .int .i64 640, .int .i64 0, .int .i64 0, .bool false], .int .i64 1] w fun e w' =>
      e = .returned (.tuple #[.agg #[.int .i64 0, .int .i64 630, .int .i64 0, .int .i64 0, .bool false], .int .i64 10, .int .i64 0]) ∧ Below w.heap.size w w' := by
  have h := Slew_yes 0 640 0 0 1 false w (by apply mayD <;> decide) (by decide)
  rw [show leftN 1 640 = 630 by decide, show SumN 0 640 1 = 10 by decide] at h
  exact h

set_option maxHeartbeats 1000000 in
theorem alive_any (w : World) : Calls Try.prog 11 #[] w fun e w' => e = .returned (.bool true) ∧ Below w.heap.size w w' := by
  go_enter Try.func11, Try.ntmps11
  go_wp2_with fail
  refine (Update_first 0 0 0 6 5 0 _ (by apply mayD <;> decide) (nearB_true (by decide) (by decide)) (nearB_true (by decide) (by decide))).mono ?_
  rintro e w1 ⟨rfl, hb1⟩
  have hz1 := hb1.size
  simp only [updT]
  go_wp2_with fail
  refine (Update_panic 0 0 0 6 1125899906842624 0 _ (by apply mayD <;> decide) (nearB_true (by decide) (by decide)) (nearB_true (by decide) (by decide)) (nearB_false (by decide))).mono ?_
  rintro e w2 ⟨rfl, hb2⟩
  obtain ⟨A1, A2, s1, s2, bb2⟩ := box2 hb2
  simp only [updT]
  go_wp2_with fail
  refine (slew_one _).mono ?_
  rintro e w3 ⟨rfl, hb3⟩
  obtain ⟨C1, C2, s3, s4, bb3⟩ := box2 hb3
  have A1 := A1.below bb3 s1
  have A2 := A2.below bb3 s2
  have s5 : w1.heap.size < w3.heap.size := by omega
  have s6 : w1.heap.size + 1 < w3.heap.size := by omega
  have a1 := A1.cell
  have a2 := A2.cell
  clear hb2 hb3
  go_wp2_with fail
  go_ret
  exact ⟨rfl, ((hb1.trans (bb2.mono hz1)).trans (bb3.mono (by omega))).alloc (by omega) _⟩
end Go.Proofs.Ytjcoeianmihojaa
