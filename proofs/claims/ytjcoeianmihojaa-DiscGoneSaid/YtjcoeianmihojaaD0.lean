/- The small functions of the clock discipline: which numbers are near, which states may be, whatever the numbers. -/
import Derived.Test.YtjcoeianmihojaaB0
namespace Go.Proofs.Ytjcoeianmihojaa
set_option linter.unusedSimpArgs false
set_option linter.unusedVariables false
open Go.RowKit

def nearB (x b : Int) : Bool := decide (-b ≤ x) && decide (x ≤ b)
attribute [irreducible] nearB

theorem nearB_true {x b : Int} (h1 : -b ≤ x) (h2 : x ≤ b) : nearB x b = true := by unfold nearB; simp [h1, h2]
theorem nearB_false {x b : Int} (h : ¬ (-b ≤ x ∧ x ≤ b)) : nearB x b = false := by
  unfold nearB; by_cases h1 : -b ≤ x <;> by_cases h2 : x ≤ b <;> simp_all
theorem nearB_iff {x b : Int} : nearB x b = true ↔ (-b ≤ x ∧ x ≤ b) := by unfold nearB; simp

set_option maxHeartbeats 400000 in
theorem near_any (x b : Int) (w : World) (hb0 : 0 ≤ b) (hb : b ≤ 9223372036854775807) :
    Calls Try.prog 15 #[.int .i64 x, .int .i64 b] w fun e w' => e = .returned (.bool (nearB x b)) ∧ w = w' := by
  by_cases h1 : -b ≤ x
  · by_cases h2 : x ≤ b
    · have H := Lib.hid (nearB_true h1 h2)
      go_enter Try.func15, Try.ntmps15
      go_wp2
      go_ret
      exact ⟨by rw [H.out]; rfl, rfl⟩
    · have H := Lib.hid (nearB_false (x := x) (b := b) (by omega))
      go_enter Try.func15, Try.ntmps15
      go_wp2
      go_ret
      exact ⟨by rw [H.out]; rfl, rfl⟩
  · have H := Lib.hid (nearB_false (x := x) (b := b) (by omega))
    go_enter Try.func15, Try.ntmps15
    go_wp2
    go_ret
    exact ⟨by rw [H.out]; rfl, rfl⟩

def mayB (f l a p : Int) : Bool := nearB f 2147483 && nearB l 1152921504606846976 && nearB a 1152921504606846976 && decide (0 ≤ p) && decide (p ≤ 17)
attribute [irreducible] mayB
theorem mayB_iff {f l a p : Int} : mayB f l a p = true ↔ (-2147483 ≤ f ∧ f ≤ 2147483) ∧ (-1152921504606846976 ≤ l ∧ l ≤ 1152921504606846976) ∧ (-1152921504606846976 ≤ a ∧ a ≤ 1152921504606846976) ∧ 0 ≤ p ∧ p ≤ 17 := by
  unfold mayB; simp only [Bool.and_eq_true, nearB_iff, decide_eq_true_eq, and_assoc]

set_option maxHeartbeats 400000 in
theorem may_any (f l a p : Int) (s : Bool) (w : World) :
    Calls Try.prog 14 #[.agg #[.int .i64 f, .int .i64 l, .int .i64 a, .int .i64 p, .bool s]] w fun e w' => e = .returned (.bool (mayB f l a p)) ∧ Below w.heap.size w w' := by
  have H := Lib.hid (show mayB f l a p = (nearB f 2147483 && nearB l 1152921504606846976 && nearB a 1152921504606846976 && decide (0 ≤ p) && decide (p ≤ 17)) by unfold mayB; rfl)
  cases e1 : nearB f 2147483 <;> cases e2 : nearB l 1152921504606846976 <;> cases e3 : nearB a 1152921504606846976 <;> rw [e1, e2, e3] at H <;> have E1 := Lib.hid e1 <;> have E2 := Lib.hid e2 <;> have E3 := Lib.hid e3 <;> clear e1 e2 e3
  all_goals
    go_enter Try.func14, Try.ntmps14
    go_wp2_with (go_at_call 15; refine (near_any _ _ _ (by omega) (by omega)).mono ?_; rintro e w' ⟨rfl, rfl⟩; first | rw [E1.out] | rw [E2.out] | rw [E3.out])
  all_goals
    go_ret
    exact ⟨by rw [H.out]; first | (simp [*]; done) | (simp [*]; omega), (Below.refl _ _).alloc (Nat.le_refl _) _⟩

set_option maxHeartbeats 400000 in
theorem clamp_any (x b : Int) (w : World) (hb0 : 0 ≤ b) (hb : b ≤ 9223372036854775807) :
    Calls Try.prog 17 #[.int .i64 x, .int .i64 b] w fun e w' => e = .returned (.int .i64 (max (min x b) (-b))) ∧ w = w' := by
  by_cases h1 : x ≤ b
  · by_cases h2 : -b ≤ x
    · have H := Lib.hid (show max (min x b) (-b) = x by omega)
      go_enter Try.func17, Try.ntmps17
      go_wp2
      go_ret
      exact ⟨by rw [H.out]; rfl, rfl⟩
    · have H := Lib.hid (show max (min x b) (-b) = -b by omega)
      go_enter Try.func17, Try.ntmps17
      go_wp2
      go_ret
      exact ⟨by rw [H.out]; rfl, rfl⟩
  · have H := Lib.hid (show max (min x b) (-b) = b by omega)
    go_enter Try.func17, Try.ntmps17
    go_wp2
    go_ret
    exact ⟨by rw [H.out]; rfl, rfl⟩

def worth (x : Int) : Int := if 0 ≤ x then x else if x = -9223372036854775808 then 9223372036854775807 else -x
attribute [irreducible] worth
theorem worth_of {x : Int} (h : -9223372036854775808 < x) : worth x = (x.natAbs : Int) := by unfold worth; split <;> (try split) <;> omega
theorem worth_le {x b : Int} (hb : b < 9223372036854775807) (h : -9223372036854775808 ≤ x) : worth x ≤ b ↔ (-b ≤ x ∧ x ≤ b) := by
  unfold worth; split <;> (try split) <;> omega
theorem worth_bd {x : Int} (h0 : -9223372036854775808 ≤ x) (h : x ≤ 9223372036854775807) : 0 ≤ worth x ∧ worth x ≤ 9223372036854775807 := by
  unfold worth; split <;> (try split) <;> omega

set_option maxHeartbeats 400000 in
theorem Worth_any (x : Int) (w : World) (h0 : -9223372036854775808 ≤ x) (h : x ≤ 9223372036854775807) :
    Calls Try.prog 13 #[.int .i64 x] w fun e w' => e = .returned (.int .i64 (worth x)) ∧ w = w' := by
  by_cases h1 : 0 ≤ x
  · have H := Lib.hid (show worth x = x by unfold worth; simp [h1])
    go_enter Try.func13, Try.ntmps13
    go_wp2
    go_ret
    exact ⟨by rw [H.out]; rfl, rfl⟩
  · by_cases h2 : x = -9223372036854775808
    · subst h2
      have H := Lib.hid (show worth (-9223372036854775808) = 9223372036854775807 by unfold worth; simp)
      go_enter Try.func13, Try.ntmps13
      go_wp2
      go_ret
      exact ⟨by rw [H.out]; rfl, rfl⟩
    · have H := Lib.hid (show worth x = -x by unfold worth; simp [h1, h2])
      go_enter Try.func13, Try.ntmps13
      go_wp2
      go_ret
      exact ⟨by rw [H.out]; rfl, rfl⟩

theorem near_worth {x b : Int} (hb : b < 9223372036854775807) (h : I64 x) : nearB x b = decide (worth x ≤ b) := by
  have := worth_le hb h.lo
  rw [Bool.eq_iff_iff, nearB_iff, decide_eq_true_eq]; exact this.symm

set_option maxHeartbeats 400000 in
theorem May_any (f l a p : Int) (s : Bool) (w : World) (hf : I64 f) (hl : I64 l) (ha : I64 a) :
    Calls Try.prog 16 #[.agg #[.int .i64 f, .int .i64 l, .int .i64 a, .int .i64 p, .bool s]] w fun e w' => e = .returned (.bool (mayB f l a p)) ∧ Below w.heap.size w w' := by
  have H := Lib.hid (show mayB f l a p = (decide (worth f ≤ 2147483) && decide (worth l ≤ 1152921504606846976) && decide (worth a ≤ 1152921504606846976) && decide (0 ≤ p) && decide (p ≤ 17)) by
    unfold mayB; rw [near_worth (by decide) hf, near_worth (by decide) hl, near_worth (by decide) ha])
  go_enter Try.func16, Try.ntmps16
  go_wp2_with (go_at_call 13; refine (Worth_any _ _ (by first | exact hf.lo | exact hl.lo | exact ha.lo) (by first | exact hf.hi | exact hl.hi | exact ha.hi)).mono ?_; rintro e w' ⟨rfl, rfl⟩)
  all_goals
    go_ret
    exact ⟨by rw [H.out]; first | (simp [*]; done) | (simp [*]; omega), (Below.refl _ _).alloc (Nat.le_refl _) _⟩
end Go.Proofs.Ytjcoeianmihojaa
