/- The walk of the statement that the clock moves by what was slewed, and by its rate. -/
import Derived.Test.YtjcoeianmihojaaL0
namespace Go.Proofs.Ytjcoeianmihojaa
set_option linter.unusedSimpArgs false
set_option linter.unusedVariables false
open Go.RowKit

theorem leftN_neg' (n : Nat) {l : Int} (h : l < 0) : l ≤ leftN n l ∧ leftN n l ≤ 0 := by
  have := leftN_pos n (l := -l) (by omega); rw [leftN_neg] at this; omega
theorem kf_bd {f : Int} {k : Nat} (hk : k ≤ 4096) (f0 : -2147483 ≤ f) (f1 : f ≤ 2147483) : -8796090368 ≤ (k : Int) * f ∧ (k : Int) * f ≤ 8796090368 := by
  constructor
  · have := Int.mul_le_mul_of_nonneg_left f0 (show 0 ≤ (k : Int) by omega); have h2 := Int.mul_le_mul_of_nonneg_right (show (k : Int) ≤ 4096 by omega) (show (0 : Int) ≤ 2147483 by omega); omega
  · have := Int.mul_le_mul_of_nonneg_left f1 (show 0 ≤ (k : Int) by omega); have h2 := Int.mul_le_mul_of_nonneg_right (show (k : Int) ≤ 4096 by omega) (show (0 : Int) ≤ 2147483 by omega); omega

set_option maxHeartbeats 1000000 in
theorem DiscMoves_no (f l a p : Int) (s : Bool) (n : Int) (w : World) (h : mayB f l a p = false ∨ n < 0 ∨ 4096 < n) :
    Calls Try.prog 5 #[.agg #[.int .i64 f, .int .i64 l, .int .i64 a, .int .i64 p, .bool s], .int .i64 n] w fun e w' => e = .returned (.bool true) ∧ Below w.heap.size w w' := by
  go_enter Try.func5, Try.ntmps5
  have H := Lib.hid h
  clear h
  go_wp2_with fail
  refine (Slew_no _ _ _ _ _ _ _ H.out).mono ?_
  rintro e w1 ⟨rfl, hb1⟩
  obtain ⟨B1, s1, bb1⟩ := box1 hb1
  have b1 := B1.cell
  clear hb1
  go_wp2_with fail
  refine (alive_any _).mono ?_
  rintro e w3 ⟨rfl, hb3⟩
  obtain ⟨B3, s3, bb3⟩ := box1 hb3
  have b3 := B3.cell
  clear hb3
  go_wp2_with fail
  go_ret
  exact ⟨rfl, bb1.trans (bb3.mono (by omega))⟩

set_option maxHeartbeats 2000000 in
theorem DiscMoves_yes (f l a p : Int) (s : Bool) (n : Nat) (w : World) (h : mayB f l a p = true) (hn : n ≤ 4096) :
    Calls Try.prog 5 #[.agg #[.int .i64 f, .int .i64 l, .int .i64 a, .int .i64 p, .bool s], .int .i64 n] w fun e w' => e = .returned (.bool true) ∧ Below w.heap.size w w' := by
  have SY := Lib.hid (fun w => Slew_yes f l a p n s w h hn)
  obtain ⟨⟨f0, f1⟩, ⟨l0, l1⟩, _⟩ := mayB_iff.1 h
  have K := kf_bd hn f0 f1
  have SN : SumN f l n = l - leftN n l + n * f := rfl
  have LP := fun h => leftN_pos n (l := l) h
  have LN := fun h => leftN_neg' n (l := l) h
  obtain ⟨L, hL⟩ : ∃ L, leftN n l = L := ⟨_, rfl⟩
  obtain ⟨z, hz⟩ : ∃ z, (n : Int) * f = z := ⟨_, rfl⟩
  rw [hL, hz] at SN
  rw [hz] at K
  rw [hL] at LP LN
  have HL := Lib.hid hL
  have HS := Lib.hid SN
  have hw1 : worth l = (l.natAbs : Int) := worth_of (by omega)
  have hw2 : worth L = (L.natAbs : Int) := worth_of (by by_cases 0 ≤ l; have := LP (by omega); omega; have := LN (by omega); omega)
  have hww : decide (worth l < worth L) = false := by rw [hw1, hw2]; simp only [decide_eq_false_iff_not]; by_cases 0 ≤ l; have := LP (by omega); omega; have := LN (by omega); omega
  have hlo : -1152921504606846976 ≤ L ∧ L ≤ 1152921504606846976 := by by_cases 0 ≤ l; have := LP (by omega); omega; have := LN (by omega); omega
  have hg : (L < 0 ∧ l < 0) ∨ (L = 0 ∧ decide (0 ≤ l) = decide (0 ≤ l)) ∨ (0 < L ∧ 0 < l) := by
    by_cases 0 ≤ l
    · have := LP (by omega); by_cases L = 0; simp_all; omega
    · have := LN (by omega); by_cases L = 0; simp_all; omega
  clear LP LN hL SN hw1 hw2 h
  obtain ⟨k0, k1⟩ := K
  obtain ⟨m0, m1⟩ := hlo
  go_enter Try.func5, Try.ntmps5
  go_wp2_with fail
  refine (SY.out _).mono ?_
  rw [HL.out, HS.out]
  rintro e w1 ⟨rfl, hb1⟩
  obtain ⟨B1, s1, bb1⟩ := box1 hb1
  have b1 := B1.cell
  clear hb1
  rcases hg with ⟨g1, g2⟩ | ⟨rfl, _⟩ | ⟨g1, g2⟩
  · have d1 : decide (0 < L) = false := by simp; omega
    have d2 : decide (0 ≤ l) = false := by simp; omega
    go_wp2_with fail
    go_quiet ((go_at_call 13; exact Calls.quiet_of_same (same_of (Worth_any _ _ (by omega) (by omega)))))
    go_wp2_with fail
    refine (alive_any _).mono ?_
    rintro e w3 ⟨rfl, hb3⟩
    obtain ⟨B3, s3, bb3⟩ := box1d hb3
    have b3 := B3.cell
    have b4 := (B1.below bb3 s1).cell
    clear hb3
    go_wp2_with fail
    go_ret
    exact ⟨rfl, bb1.trans (bb3.mono (by omega))⟩
  · by_cases g : l < 0
    · have d1 : decide (l < 0) = true := by simp; omega
      go_wp2_with fail
      go_quiet ((go_at_call 13; exact Calls.quiet_of_same (same_of (Worth_any _ _ (by omega) (by omega)))))
      go_wp2_with fail
      refine (alive_any _).mono ?_
      rintro e w3 ⟨rfl, hb3⟩
      obtain ⟨B3, s3, bb3⟩ := box1d hb3
      have b3 := B3.cell
      have b4 := (B1.below bb3 s1).cell
      clear hb3
      go_wp2_with fail
      go_ret
      exact ⟨rfl, bb1.trans (bb3.mono (by omega))⟩
    · have d1 : decide (l < 0) = false := by simp; omega
      go_wp2_with fail
      go_quiet ((go_at_call 13; exact Calls.quiet_of_same (same_of (Worth_any _ _ (by omega) (by omega)))))
      go_wp2_with fail
      refine (alive_any _).mono ?_
      rintro e w3 ⟨rfl, hb3⟩
      obtain ⟨B3, s3, bb3⟩ := box1d hb3
      have b3 := B3.cell
      have b4 := (B1.below bb3 s1).cell
      clear hb3
      go_wp2_with fail
      go_ret
      exact ⟨rfl, bb1.trans (bb3.mono (by omega))⟩
  · have d1 : decide (L < 0) = false := by simp; omega
    have d2 : decide (l ≤ 0) = false := by simp; omega
    go_wp2_with fail
    go_quiet ((go_at_call 13; exact Calls.quiet_of_same (same_of (Worth_any _ _ (by omega) (by omega)))))
    go_wp2_with fail
    refine (alive_any _).mono ?_
    rintro e w3 ⟨rfl, hb3⟩
    obtain ⟨B3, s3, bb3⟩ := box1d hb3
    have b3 := B3.cell
    have b4 := (B1.below bb3 s1).cell
    clear hb3
    go_wp2_with fail
    go_ret
    exact ⟨rfl, bb1.trans (bb3.mono (by omega))⟩

theorem walk_DiscMoves (f l a p : Int) (s : Bool) (n : Int) (w : World) (_hf : (Lit.int .i64 f).wf = true) (_hl : (Lit.int .i64 l).wf = true) (_ha : (Lit.int .i64 a).wf = true) (_hp : (Lit.int .i64 p).wf = true) (_hn : (Lit.int .i64 n).wf = true) :
    Calls Try.prog 5 #[.agg #[.int .i64 f, .int .i64 l, .int .i64 a, .int .i64 p, .bool s], .int .i64 n] w fun e w' => e = .returned (.bool true) ∧ Below w.heap.size w w' := by
  by_cases h : mayB f l a p = false ∨ n < 0 ∨ 4096 < n
  · exact DiscMoves_no f l a p s n w h
  · obtain ⟨m, rfl⟩ : ∃ m : Nat, n = m := ⟨n.toNat, by omega⟩
    have hm : mayB f l a p = true := by cases hx : mayB f l a p <;> simp_all
    exact DiscMoves_yes f l a p s m w hm (by omega)
end Go.Proofs.Ytjcoeianmihojaa
