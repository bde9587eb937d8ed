/- The closures of choose.Region. -/
import Derived.Test.YteemglgbhdpodaaZ1
namespace Go.Proofs.Yteemglgbhdpodaa
set_option linter.unusedSimpArgs false
set_option linter.unusedVariables false
set_option maxRecDepth 100000
open Go.RowKit

theorem ad_field (ad : Addr) (m k : Nat) (hk : k ≠ 0) : ad.add (m + k) = ⟨(ad.add m).block, (ad.add m).off + k, none⟩ := by
  unfold Addr.add; rw [if_neg (by omega)]; by_cases h : m = 0
  · subst h; simp
  · simp [h, Nat.add_assoc]
def spE (s : Sp) : List Value := [.int .i64 s.1, .int .i64 s.2.1, .int .i64 s.2.2]
def enE (e : En) : List Value := [.int .i64 e.1, .int .i64 e.2]
theorem spE_len (s : Sp) : (spE s).length = 3 := rfl
theorem enE_len (e : En) : (enE e).length = 2 := rfl
theorem spE_one (s : Sp) : ∀ v ∈ spE s, v.oneCell' = true := by intro v hv; simp [spE] at hv; rcases hv with rfl | rfl | rfl <;> rfl
theorem enE_one (e : En) : ∀ v ∈ enE e, v.oneCell' = true := by intro v hv; simp [enE] at hv; rcases hv with rfl | rfl <;> rfl
/-- an interval that is none -/
def badB (s : Sp) : Bool := decide (s.2.1 < s.1) || decide (s.2.2 < s.2.1)
theorem bad_any (w : World) (a b c : Int) : Calls Try.prog 57 #[.agg #[.int .i64 a, .int .i64 b, .int .i64 c]] w fun e w' => e = .returned (.bool (badB (a, b, c))) ∧ Below w.heap.size w w' := by
  have H := Lib.hid (show badB (a, b, c) = (decide (b < a) || decide (c < b)) from rfl)
  cases h1 : decide (b < a)
  · rw [h1] at H
    go_enter Try.func57, Try.ntmps57
    go_wp2_with fail
    go_ret
    exact ⟨ret_bool (by rw [H.out]; first | rfl | simp), (Below.refl _ _).alloc (Nat.le_refl _) _⟩
  · rw [h1] at H
    go_enter Try.func57, Try.ntmps57
    go_wp2_with fail
    go_ret
    exact ⟨ret_bool (by rw [H.out]; first | rfl | simp), (Below.refl _ _).alloc (Nat.le_refl _) _⟩
/-- how two ends stand -/
def cfE (x y : En) : Int := if ahB x y = true then -1 else if decide (x.1 = y.1) && decide (x.2 = y.2) then 0 else 1
open Go.Sort in
theorem ends_any (x y : En) (w : World) : Calls Try.prog 59 #[.agg #[.int .i64 x.1, .int .i64 x.2], .agg #[.int .i64 y.1, .int .i64 y.2]] w fun e w' => e = .returned (.int .i64 (cfE x y)) ∧ ∃ q os', w' = grow (w.drewN q) os' := by
  obtain ⟨a, s⟩ := x
  obtain ⟨b, t⟩ := y
  dsimp only
  by_cases h1 : a < b
  · have H := Lib.hid (show cfE (a, s) (b, t) = -1 by unfold cfE ahB; simp [h1])
    go_enter Try.func59, Try.ntmps59
    go_wp2_with fail
    go_ret
    exact ⟨ret_int (by rw [H.out]), 0, _, by rw [alloc_eq_grow, alloc_eq_grow, grow_grow]; rfl⟩
  · by_cases h2 : a = b
    · subst h2
      by_cases h3 : t < s
      · have H := Lib.hid (show cfE (a, s) (a, t) = -1 by unfold cfE ahB; simp [h3])
        go_enter Try.func59, Try.ntmps59
        go_wp2_with fail
        go_ret
        exact ⟨ret_int (by rw [H.out]), 0, _, by rw [alloc_eq_grow, alloc_eq_grow, grow_grow]; rfl⟩
      · by_cases h4 : s = t
        · subst h4
          have H := Lib.hid (show cfE (a, s) (a, s) = 0 by unfold cfE ahB; simp)
          go_enter Try.func59, Try.ntmps59
          go_wp2_with fail
          go_ret
          exact ⟨ret_int (by rw [H.out]), 0, _, by rw [alloc_eq_grow, alloc_eq_grow, grow_grow]; rfl⟩
        · have H := Lib.hid (show cfE (a, s) (a, t) = 1 by unfold cfE ahB; simp [h3, h4])
          go_enter Try.func59, Try.ntmps59
          go_wp2_with fail
          go_ret
          exact ⟨ret_int (by rw [H.out]), 0, _, by rw [alloc_eq_grow, alloc_eq_grow, grow_grow]; rfl⟩
    · have H := Lib.hid (show cfE (a, s) (b, t) = 1 by unfold cfE ahB; simp [h1, h2])
      go_enter Try.func59, Try.ntmps59
      go_wp2_with fail
      go_ret
      exact ⟨ret_int (by rw [H.out]), 0, _, by rw [alloc_eq_grow, alloc_eq_grow, grow_grow]; rfl⟩
end Go.Proofs.Yteemglgbhdpodaa
