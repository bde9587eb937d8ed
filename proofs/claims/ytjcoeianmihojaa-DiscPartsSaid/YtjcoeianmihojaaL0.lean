/- The walks of the statements on slewing. -/
import Derived.Test.YtjcoeianmihojaaD2
import Derived.Test.YtjcoeianmihojaaD5
import Derived.OpenShut
namespace Go.Proofs.Ytjcoeianmihojaa
set_option linter.unusedSimpArgs false
set_option linter.unusedVariables false
open Go.RowKit

theorem i64_of {x : Int} (h : (Lit.int .i64 x).wf = true) : I64 x := I64.mk (bounds_i64 h).1 (bounds_i64 h).2

set_option maxHeartbeats 1000000 in
theorem walk_DiscSlews (f l a p : Int) (s : Bool) (n : Int) (w : World) (hf : (Lit.int .i64 f).wf = true) (hl : (Lit.int .i64 l).wf = true) (ha : (Lit.int .i64 a).wf = true) (_hp : (Lit.int .i64 p).wf = true) (_hn : (Lit.int .i64 n).wf = true) :
    Calls Try.prog 3 #[.agg #[.int .i64 f, .int .i64 l, .int .i64 a, .int .i64 p, .bool s], .int .i64 n] w fun e w' => e = .returned (.bool true) ∧ Below w.heap.size w w' := by
  have Hf := i64_of hf
  have Hl := i64_of hl
  have Ha := i64_of ha
  clear hf hl ha _hp _hn
  obtain ⟨F, L, A, P, S, M, E, h1, h2⟩ : ∃ F L A P S M E, (∀ w : World, Calls Try.prog 9 #[.agg #[.int .i64 f, .int .i64 l, .int .i64 a, .int .i64 p, .bool s], .int .i64 n] w fun e w' =>
      e = .returned (.tuple #[.agg #[.int .i64 F, .int .i64 L, .int .i64 A, .int .i64 P, .bool S], .int .i64 M, .int .i64 E]) ∧ Below w.heap.size w w') ∧
      (∀ w : World, Calls Try.prog 10 #[.agg #[.int .i64 f, .int .i64 l, .int .i64 a, .int .i64 p, .bool s], .int .i64 n] w fun e w' =>
      e = .returned (.tuple #[.agg #[.int .i64 F, .int .i64 L, .int .i64 A, .int .i64 P, .bool S], .int .i64 M, .int .i64 E]) ∧ Below w.heap.size w w') := by
    by_cases h : mayB f l a p = false ∨ n < 0 ∨ 4096 < n
    · exact ⟨0, 0, 0, 0, false, 0, 1, fun w => Slew_no f l a p n s w h, fun w => RSlew_no f l a p n s w Hf Hl Ha h⟩
    · obtain ⟨m, rfl⟩ : ∃ m : Nat, n = m := ⟨n.toNat, by omega⟩
      have hm : mayB f l a p = true := by cases hx : mayB f l a p <;> simp_all
      exact ⟨_, _, _, _, _, _, _, fun w => Slew_yes f l a p m s w hm (by omega), fun w => RSlew_yes f l a p m s w hm (by omega)⟩
  go_enter Try.func3, Try.ntmps3
  have H1 := Lib.hid h1
  have H2 := Lib.hid h2
  clear h1 h2
  go_wp2_with fail
  refine (H1.out _).mono ?_
  rintro e w1 ⟨rfl, hb1⟩
  obtain ⟨B1, s1, bb1⟩ := box1 hb1
  have b1 := B1.cell
  clear hb1
  go_wp2_with fail
  refine (H2.out _).mono ?_
  rintro e w2 ⟨rfl, hb2⟩
  obtain ⟨B2, s2, bb2⟩ := box1 hb2
  have b2 := B2.cell
  clear hb2
  go_wp2_with fail
  refine (alive_any _).mono ?_
  rintro e w3 ⟨rfl, hb3⟩
  obtain ⟨B3, s3, bb3⟩ := box1 hb3
  have b3 := B3.cell
  have b4 := (B2.below bb3 s2).cell
  clear hb3
  go_wp2_with fail
  go_ret
  exact ⟨rfl, ((bb1.trans (bb2.mono (by omega))).trans (bb3.mono (by omega)))⟩
end Go.Proofs.Ytjcoeianmihojaa
