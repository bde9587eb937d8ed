/- The walk of the statement that seconds in two parts are as all of them in one. -/
import Derived.Test.YtjcoeianmihojaaL0
import Derived.Test.YtjcoeianmihojaaM0
namespace Go.Proofs.Ytjcoeianmihojaa
set_option linter.unusedSimpArgs false
set_option linter.unusedVariables false
open Go.RowKit

set_option maxHeartbeats 1000000 in
theorem DiscParts_out (f l a p : Int) (s : Bool) (n m : Int) (w : World) (h : n < 0 ∨ m < 0 ∨ 2048 < n ∨ 2048 < m) :
    Calls Try.prog 6 #[.agg #[.int .i64 f, .int .i64 l, .int .i64 a, .int .i64 p, .bool s], .int .i64 n, .int .i64 m] w fun e w' => e = .returned (.bool true) ∧ Below w.heap.size w w' := by
  by_cases h1 : n < 0
  · go_enter Try.func6, Try.ntmps6
    go_wp2_with fail
    refine (alive_any _).mono ?_
    rintro e w1 ⟨rfl, hb1⟩
    obtain ⟨B1, s1, bb1⟩ := box1 hb1
    go_wp2_with fail
    go_ret
    exact ⟨rfl, bb1⟩
  · have d1 : decide (n < 0) = false := by simp; omega
    by_cases h2 : m < 0
    · go_enter Try.func6, Try.ntmps6
      go_wp2_with fail
      refine (alive_any _).mono ?_
      rintro e w1 ⟨rfl, hb1⟩
      obtain ⟨B1, s1, bb1⟩ := box1 hb1
      go_wp2_with fail
      go_ret
      exact ⟨rfl, bb1⟩
    · have d2 : decide (m < 0) = false := by simp; omega
      by_cases h3 : 2048 < n
      · go_enter Try.func6, Try.ntmps6
        go_wp2_with fail
        refine (alive_any _).mono ?_
        rintro e w1 ⟨rfl, hb1⟩
        obtain ⟨B1, s1, bb1⟩ := box1 hb1
        go_wp2_with fail
        go_ret
        exact ⟨rfl, bb1⟩
      · have d3 : decide (2048 < n) = false := by simp; omega
        have h4 : 2048 < m := by omega
        go_enter Try.func6, Try.ntmps6
        go_wp2_with fail
        refine (alive_any _).mono ?_
        rintro e w1 ⟨rfl, hb1⟩
        obtain ⟨B1, s1, bb1⟩ := box1 hb1
        go_wp2_with fail
        go_ret
        exact ⟨rfl, bb1⟩

set_option maxHeartbeats 1000000 in
theorem DiscParts_no (f l a p : Int) (s : Bool) (n m : Nat) (w : World) (h : mayB f l a p = false) (hn : n ≤ 2048) (hm : m ≤ 2048) :
    Calls Try.prog 6 #[.agg #[.int .i64 f, .int .i64 l, .int .i64 a, .int .i64 p, .bool s], .int .i64 n, .int .i64 m] w fun e w' => e = .returned (.bool true) ∧ Below w.heap.size w w' := by
  have H := Lib.hid h
  have d1 : decide ((n : Int) < 0) = false := by simp
  have d2 : decide ((m : Int) < 0) = false := by simp
  have d3 : decide (2048 < (n : Int)) = false := by simp; omega
  have d4 : decide (2048 < (m : Int)) = false := by simp; omega
  clear h
  go_enter Try.func6, Try.ntmps6
  go_wp2_with fail
  refine (Slew_no _ _ _ _ _ _ _ (.inl H.out)).mono ?_
  rintro e w1 ⟨rfl, hb1⟩
  obtain ⟨B1, s1, bb1⟩ := box1 hb1
  go_wp2_with fail
  refine (alive_any _).mono ?_
  rintro e w2 ⟨rfl, hb2⟩
  obtain ⟨B2, s2, bb2⟩ := box1 hb2
  go_wp2_with fail
  go_ret
  exact ⟨rfl, bb1.trans (bb2.mono (by omega))⟩

set_option maxHeartbeats 1000000 in
theorem DiscParts_yes (f l a p : Int) (s : Bool) (n m : Nat) (w : World) (h : mayB f l a p = true) (hn : n ≤ 2048) (hm : m ≤ 2048) :
    Calls Try.prog 6 #[.agg #[.int .i64 f, .int .i64 l, .int .i64 a, .int .i64 p, .bool s], .int .i64 n, .int .i64 m] w fun e w' => e = .returned (.bool true) ∧ Below w.heap.size w w' := by
  have d1 : decide ((n : Int) < 0) = false := by simp
  have d2 : decide ((m : Int) < 0) = false := by simp
  have d3 : decide (2048 < (n : Int)) = false := by simp; omega
  have d4 : decide (2048 < (m : Int)) = false := by simp; omega
  have S1 := Lib.hid (fun w => Slew_yes f l a p n s w h (by omega))
  obtain ⟨⟨f0, f1⟩, ⟨l0, l1⟩, ⟨a0, a1⟩, p0, p1⟩ := mayB_iff.1 h
  have lb := leftN_bd n l0 l1
  have h' : mayB f (leftN n l) a p = true := mayB_iff.2 ⟨⟨f0, f1⟩, lb, ⟨a0, a1⟩, p0, p1⟩
  have S2 := Lib.hid (fun w => Slew_yes f (leftN n l) a p m s w h' (by omega))
  have S3 := Lib.hid (fun w => Slew_yes f l a p (n + m) s w h (by omega))
  have sb1 := sum_bd (k := n) (by omega) f0 f1 l0 l1
  have sb2 := sum_bd (k := m) (by omega) f0 f1 lb.1 lb.2
  have sa := sum_add f l n m
  have sb3 := sum_bd (k := n + m) (by omega) f0 f1 l0 l1
  rw [leftN_add] at S2
  generalize leftN (n + m) l = L2 at *
  generalize leftN n l = L1 at *
  generalize hs1 : SumN f l n = A1 at *
  generalize hs2 : SumN f L1 m = A2 at *
  rw [← sa] at S3 sb3
  clear sa hs1 hs2 h h' lb l0 l1 a0 a1 p0 p1 f0 f1
  obtain ⟨q0, q1⟩ := sb1
  obtain ⟨q2, q3⟩ := sb2
  obtain ⟨q4, q5⟩ := sb3
  go_enter Try.func6, Try.ntmps6
  go_wp2_with fail
  refine (S1.out _).mono ?_
  rintro e w1 ⟨rfl, hb1⟩
  obtain ⟨B1, s1, bb1⟩ := box1 hb1
  have b1 := B1.cell
  go_wp2_with fail
  refine (S2.out _).mono ?_
  rintro e w2 ⟨rfl, hb2⟩
  obtain ⟨B2, s2, bb2⟩ := box1 hb2
  have b2 := (B1.below bb2 s1).cell
  have s12 : w.heap.size < w2.heap.size := by omega
  go_wp2_with fail
  refine (S3.out _).mono ?_
  rintro e w3 ⟨rfl, hb3⟩
  obtain ⟨B3, s3, bb3⟩ := box1 hb3
  go_wp2_with fail
  refine (alive_any _).mono ?_
  rintro e w4 ⟨rfl, hb4⟩
  obtain ⟨B4, s4, bb4⟩ := box1 hb4
  have b3 := (B3.below bb4 s3).cell
  have b4 := B4.cell
  go_wp2_with fail
  go_ret
  exact ⟨rfl, ((bb1.trans (bb2.mono (by omega))).trans (bb3.mono (by omega))).trans (bb4.mono (by omega))⟩

theorem walk_DiscParts (f l a p : Int) (s : Bool) (n m : Int) (w : World) (_hf : (Lit.int .i64 f).wf = true) (_hl : (Lit.int .i64 l).wf = true) (_ha : (Lit.int .i64 a).wf = true) (_hp : (Lit.int .i64 p).wf = true) (_hn : (Lit.int .i64 n).wf = true) (_hm : (Lit.int .i64 m).wf = true) :
    Calls Try.prog 6 #[.agg #[.int .i64 f, .int .i64 l, .int .i64 a, .int .i64 p, .bool s], .int .i64 n, .int .i64 m] w fun e w' => e = .returned (.bool true) ∧ Below w.heap.size w w' := by
  by_cases h : n < 0 ∨ m < 0 ∨ 2048 < n ∨ 2048 < m
  · exact DiscParts_out f l a p s n m w h
  · obtain ⟨i, rfl⟩ : ∃ i : Nat, n = i := ⟨n.toNat, by omega⟩
    obtain ⟨j, rfl⟩ : ∃ j : Nat, m = j := ⟨m.toNat, by omega⟩
    cases hx : mayB f l a p
    · exact DiscParts_no f l a p s i j w hx (by omega) (by omega)
    · exact DiscParts_yes f l a p s i j w hx (by omega) (by omega)
end Go.Proofs.Ytjcoeianmihojaa
