/- What the document's answer says of one sample; filters that are nil. -/
import Derived.Test.YtbiajjdjbnnggaaG6
namespace Go.Proofs.Ytbiajjdjbnnggaa
set_option linter.unusedSimpArgs false
set_option linter.unusedVariables false
set_option maxRecDepth 100000
open Go.RowKit Go.ChangeShapes Go.WideShapes Go.Deep
attribute [local go_sem] toldUpon_value toldUpon_skip toldUpon_enter

def wiB (x lo : Int) : Bool := decide (lo ≤ x) && decide (x ≤ 1152921504606846976)
theorem within_any (w : World) (x lo : Int) : Calls Try.prog 33 #[.int .i64 x, .int .i64 lo] w fun e w' => e = .returned (.bool (wiB x lo)) ∧ w = w' := by
  have H := Lib.hid (show wiB x lo = (decide (lo ≤ x) && decide (x ≤ 1152921504606846976)) from rfl)
  go_enter Try.func33, Try.ntmps33
  go_wp2_with fail
  all_goals
    go_ret
    exact ⟨by rw [H.out]; first | (simp [*]; done) | (simp [*]; omega), rfl⟩
theorem mayB_wi (o d p a : Int) : mayB ⟨o, d, p, a⟩ = (wiB o (-1152921504606846976) && wiB d 0 && wiB p 0 && wiB a (-1152921504606846976)) := by
  simp [mayB, wiB, Bool.and_assoc]
set_option maxHeartbeats 2000000 in
theorem rmay_any (w : World) (s : Smp) : Calls Try.prog 14 #[sv s] w fun e w' => e = .returned (.bool (mayB s)) ∧ Below w.heap.size w w' := by
  obtain ⟨o, d, p, a⟩ := s
  have hW := fun w x lo => within_any w x lo
  rw [mayB_wi]
  unfold sv
  cases h1 : wiB o (-1152921504606846976) <;> cases h2 : wiB d 0 <;> cases h3 : wiB p 0 <;> cases h4 : wiB a (-1152921504606846976)
  all_goals
    go_enter Try.func14, Try.ntmps14
    go_wp2_with (go_at_call 33; refine (hW _ _ _).mono ?_; rintro e w2 ⟨rfl, rfl⟩)
    go_ret
    exact ⟨by first | rfl | (simp [*]; done), (Below.refl _ _).alloc (Nat.le_refl _) _⟩
set_option maxHeartbeats 1000000 in
theorem raged_any (w : World) (s : Smp) (now : Int) (h1 : -1152921504606846976 ≤ s.a) (h2 : s.a ≤ 1152921504606846976) : Calls Try.prog 34 #[sv s, .int .i64 now] w fun e w' => e = .returned (.int .i64 (agedN s now)) ∧ Below w.heap.size w w' := by
  obtain ⟨o, d, p, a⟩ := s
  replace h1 : -1152921504606846976 ≤ a := h1
  replace h2 : a ≤ 1152921504606846976 := h2
  have H := Lib.hid (show agedN ⟨o, d, p, a⟩ now = max (max (min now 1152921504606846976) (-1152921504606846976) - a) 0 / 65536 from rfl)
  unfold sv
  by_cases l1 : 1152921504606846976 < now
  · have l2 : ¬ (1152921504606846976 : Int) < a := by omega
    obtain ⟨q, hq⟩ : ∃ q, 1152921504606846976 - a = q := ⟨_, rfl⟩
    have i1 : IntKind.i64.wrap ((1152921504606846976 : Int) - a) = q := by rw [IntWalk.i64_in _ (by omega)]; exact hq
    have i2 : IntKind.i64.wrap (Int.tdiv q 65536) = q / 65536 := by rw [Int.tdiv_eq_ediv_of_nonneg (by omega)]; exact IntWalk.i64_in _ (by omega)
    have HX := Lib.hid (And.intro hq (And.intro l1 (And.intro h1 h2)))
    clear hq h1 h2
    go_enter Try.func34, Try.ntmps34
    go_wp2_with fail
    go_ret
    obtain ⟨x1, x2, x3, x4⟩ := HX.out
    exact ⟨by rw [H.out]; exact ret_int (by omega), (Below.refl _ _).alloc (Nat.le_refl _) _⟩
  · by_cases l2 : now < -1152921504606846976
    · have HX := Lib.hid (And.intro l2 (And.intro l1 (And.intro h1 h2)))
      clear h1 h2
      go_enter Try.func34, Try.ntmps34
      go_wp2_with fail
      go_ret
      obtain ⟨x1, x2, x3, x4⟩ := HX.out
      exact ⟨by rw [H.out]; exact ret_int (by omega), (Below.refl _ _).alloc (Nat.le_refl _) _⟩
    · by_cases l3 : now < a
      · have HX := Lib.hid (And.intro l3 (And.intro l1 (And.intro h1 h2)))
        clear h1 h2
        go_enter Try.func34, Try.ntmps34
        go_wp2_with fail
        go_ret
        obtain ⟨x1, x2, x3, x4⟩ := HX.out
        exact ⟨by rw [H.out]; exact ret_int (by omega), (Below.refl _ _).alloc (Nat.le_refl _) _⟩
      · obtain ⟨q, hq⟩ : ∃ q, now - a = q := ⟨_, rfl⟩
        have i1 : IntKind.i64.wrap (now - a) = q := by rw [IntWalk.i64_in _ (by omega)]; exact hq
        have i2 : IntKind.i64.wrap (Int.tdiv q 65536) = q / 65536 := by rw [Int.tdiv_eq_ediv_of_nonneg (by omega)]; exact IntWalk.i64_in _ (by omega)
        have HX := Lib.hid (And.intro hq (And.intro (And.intro l1 (And.intro l2 l3)) (And.intro h1 h2)))
        clear hq h1 h2
        go_enter Try.func34, Try.ntmps34
        go_wp2_with fail
        go_ret
        obtain ⟨x1, ⟨x2, x3, x4⟩, x5, x6⟩ := HX.out
        exact ⟨by rw [H.out]; exact ret_int (by omega), (Below.refl _ _).alloc (Nat.le_refl _) _⟩
theorem add_nil (w : World) (s : Smp) : Calls Try.prog 15 #[.pointer none, sv s] w fun e w' => e = .returned (.int .i64 6) ∧ Below w.heap.size w w' := by
  obtain ⟨o, d, p, a⟩ := s
  unfold sv
  go_enter Try.func15, Try.ntmps15
  go_wp2_with fail
  go_ret
  exact ⟨rfl, (Below.refl _ _).alloc (Nat.le_refl _) _⟩
theorem reset_nil (w : World) : Calls Try.prog 20 #[.pointer none] w fun e w' => e = .returned (.int .i64 6) ∧ w = w' := by
  go_enter Try.func20, Try.ntmps20
  go_wp2_with fail
  go_ret
  exact ⟨rfl, rfl⟩
end Go.Proofs.Ytbiajjdjbnnggaa
