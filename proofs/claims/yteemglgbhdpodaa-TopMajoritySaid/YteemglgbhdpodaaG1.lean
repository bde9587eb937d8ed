/- Filters: made, filled, asked how many, emptied. -/
import Derived.Test.YteemglgbhdpodaaG0
import Derived.Laws.CopyOwn
namespace Go.Proofs.Yteemglgbhdpodaa
set_option linter.unusedSimpArgs false
set_option linter.unusedVariables false
set_option maxRecDepth 100000
open Go.RowKit
attribute [local go_sem] toldUpon_value toldUpon_skip toldUpon_enter

def sc (s : Smp) : List Value := [.int .i64 s.o, .int .i64 s.d, .int .i64 s.p, .int .i64 s.a]
def s0 : Smp := ⟨0, 0, 0, 0⟩
def rg (R : List Smp) (j : Nat) : Smp := R.getD j s0
/-- a filter's cells: the ring, and how many were ever put in -/
def fcs (R : List Smp) (n : Nat) : Array Value := (R.flatMap sc ++ [Value.int .i64 (n : Int)]).toArray
theorem ring8 {R : List Smp} (h : R.length = 8) : ∃ a b c d e f g i, R = [a, b, c, d, e, f, g, i] := by
  match R, h with
  | [a, b, c, d, e, f, g, i], _ => exact ⟨a, b, c, d, e, f, g, i, rfl⟩
theorem fcs_at {R : List Smp} (h : R.length = 8) (n : Nat) {j : Nat} (hj : j < 8) : (fcs R n)[4 * j]? = some (.int .i64 (rg R j).o) ∧ (fcs R n)[4 * j + 1]? = some (.int .i64 (rg R j).d) ∧ (fcs R n)[4 * j + 2]? = some (.int .i64 (rg R j).p) ∧ (fcs R n)[4 * j + 3]? = some (.int .i64 (rg R j).a) := by
  obtain ⟨a, b, c, d, e, f, g, i, rfl⟩ := ring8 h
  rcases (show j = 0 ∨ j = 1 ∨ j = 2 ∨ j = 3 ∨ j = 4 ∨ j = 5 ∨ j = 6 ∨ j = 7 by omega) with rfl | rfl | rfl | rfl | rfl | rfl | rfl | rfl <;> exact ⟨rfl, rfl, rfl, rfl⟩
theorem fcs_n {R : List Smp} (h : R.length = 8) (n : Nat) : (fcs R n)[32]? = some (.int .i64 (n : Int)) := by
  obtain ⟨a, b, c, d, e, f, g, i, rfl⟩ := ring8 h
  rfl
theorem fcs_put {R : List Smp} (h : R.length = 8) (n : Nat) {j : Nat} (hj : j < 8) (s : Smp) : ((((fcs R n).setIfInBounds (4 * j) (.int .i64 s.o)).setIfInBounds (4 * j + 1) (.int .i64 s.d)).setIfInBounds (4 * j + 2) (.int .i64 s.p)).setIfInBounds (4 * j + 3) (.int .i64 s.a) = fcs (R.set j s) n := by
  obtain ⟨a, b, c, d, e, f, g, i, rfl⟩ := ring8 h
  rcases (show j = 0 ∨ j = 1 ∨ j = 2 ∨ j = 3 ∨ j = 4 ∨ j = 5 ∨ j = 6 ∨ j = 7 by omega) with rfl | rfl | rfl | rfl | rfl | rfl | rfl | rfl <;> rfl
theorem fcs_inc {R : List Smp} (h : R.length = 8) (n m : Nat) : (fcs R n).setIfInBounds 32 (.int .i64 (m : Int)) = fcs R m := by
  obtain ⟨a, b, c, d, e, f, g, i, rfl⟩ := ring8 h
  rfl
def R0 : List Smp := List.replicate 8 s0
/-- a filter in block g -/
def FB (w : World) (g : Nat) (R : List Smp) (n : Nat) : Prop := Bk w g 115 (fcs R n) ∧ R.length = 8
theorem FB.below {w w' : World} {g : Nat} {R : List Smp} {n : Nat} (h : FB w g R n) (hb : Below w.heap.size w w') : FB w' g R n := ⟨h.1.below hb h.1.lt, h.2⟩
theorem new_any (w : World) : Calls Try.prog 26 #[] w fun e w' => e = .returned (.pointer (some ⟨w.heap.size, 0, none⟩)) ∧ FB w' w.heap.size R0 0 ∧ Below w.heap.size w w' := by
  go_enter Try.func26, Try.ntmps26
  go_wp2_with fail
  go_ret
  exact ⟨rfl, ⟨Bk.new w _ _, rfl⟩, (Below.refl _ _).alloc (Nat.le_refl _) _⟩
theorem len_any (w : World) {g n : Nat} {R : List Smp} (h : FB w g R n) (hn : n < 9223372036854775807) : Calls Try.prog 77 #[.pointer (some ⟨g, 0, none⟩)] w fun e w' => e = .returned (.int .i64 ((min n 8 : Nat) : Int)) ∧ w = w' := by
  have c := (h.1.cell 32).trans (fcs_n h.2 n)
  by_cases h8 : n ≤ 8
  · have e : min n 8 = n := by omega
    rw [e]
    have l1 : (n : Int) ≤ 8 := by omega
    go_enter Try.func77, Try.ntmps77
    go_wp2_with fail
    go_ret
    exact ⟨rfl, rfl⟩
  · have e : min n 8 = 8 := by omega
    rw [e]
    have l1 : ¬ (n : Int) ≤ 8 := by omega
    have l2 : (8 : Int) < (n : Int) := by omega
    clear h8 e
    go_enter Try.func77, Try.ntmps77
    go_wp2_with fail
    go_ret
    exact ⟨rfl, rfl⟩
theorem len_nil (w : World) : Calls Try.prog 77 #[.pointer none] w fun e w' => e = .returned (.int .i64 0) ∧ w = w' := by
  go_enter Try.func77, Try.ntmps77
  go_wp2_with fail
  go_ret
  exact ⟨rfl, rfl⟩
set_option maxHeartbeats 1000000 in
theorem add_any (w : World) {B g n : Nat} {R : List Smp} (s : Smp) (h : FB w g R n) (hB : B ≤ g) (hn : n < 1000000) : Calls Try.prog 27 #[.pointer (some ⟨g, 0, none⟩), sv s] w fun e w' => e = .returned (.int .i64 (if mayB s = true then 0 else 1)) ∧ FB w' g (if mayB s = true then R.set (n % 8) s else R) (if mayB s = true then n + 1 else n) ∧ Below B w w' ∧ w.heap.size ≤ w'.heap.size := by
  have hM := fun w => may_any w s
  have hgs := h.1.lt
  by_cases hm : mayB s = true
  · rw [hm] at hM
    simp only [hm, if_true]
    obtain ⟨o, d, p, a⟩ := s
    unfold sv at hM ⊢
    clear hm
    have hfb := Lib.hid h
    clear h
    obtain ⟨j, hj⟩ : ∃ j, n % 8 = j := ⟨_, rfl⟩
    have hj8 : j < 8 := by omega
    have hjm : Int.tmod (n : Int) 8 = (j : Int) := by rw [Int.tmod_eq_emod_of_nonneg (by omega)]; omega
    have j0 : (0 : Int) ≤ (j : Int) := by omega
    have j1 : (j : Int) < 8 := by omega
    rw [hj]
    clear hj
    go_enter Try.func27, Try.ntmps27
    go_upto_region 5 with (go_at_call 54; refine (hM _).mono ?_; rintro e w1 ⟨rfl, hb1⟩; obtain ⟨B1, z1, bb1⟩ := box1 hb1)
    have f1 := (hfb.out).below bb1
    have C0 : ∀ w', Below w1.heap.size w1 w' → w'.cell? ⟨w.heap.size, 0, none⟩ = some (.int .i64 o) := fun w' h => (B1.below h z1).cell 0
    have C1 : ∀ w', Below w1.heap.size w1 w' → w'.cell? ⟨w.heap.size, 1, none⟩ = some (.int .i64 d) := fun w' h => (B1.below h z1).cell 1
    have C2 : ∀ w', Below w1.heap.size w1 w' → w'.cell? ⟨w.heap.size, 2, none⟩ = some (.int .i64 p) := fun w' h => (B1.below h z1).cell 2
    have C3 : ∀ w', Below w1.heap.size w1 w' → w'.cell? ⟨w.heap.size, 3, none⟩ = some (.int .i64 a) := fun w' h => (B1.below h z1).cell 3
    have C4 : ∀ w', Below w1.heap.size w1 w' → w'.cell? ⟨g, 32, none⟩ = some (.int .i64 (n : Int)) := fun w' h => ((f1.below h).1.cell 32).trans (fcs_n f1.2 n)
    have BB := Lib.hid bb1
    have hs := bb1.size
    have F1 := Lib.hid f1
    clear bb1 f1 hfb hM B1
    (refine region_told_tail 10 _ (by kernel_rfl) (by kernel_rfl) (by simp only [List.take_succ_cons, List.take_zero, putAll, Act.put, List.setIfInBounds_toArray, List.set_cons_zero, List.set_cons_succ, Nat.reduceAdd]; rfl) ?_; simp only [List.take_succ_cons, List.take_zero, List.drop_succ_cons, List.drop_zero])
    repeat (refine told_step (fun v _ => v = _) (Stays.eq _) (by intro y w' hw' hd; simp only [depsOf, updG, Region.binds, Nat.reduceAdd, Nat.reduceEqDiff, if_false, if_true, and_true, true_and, forall_const, Array.toList, GTrue] at hd; (try go_split_ands); unfold toldAt; go_simp; exact ⟨Below.refl _ _, rfl⟩) ?_)
    (refine told_nil ?_; intro y w2 hw2 hd)
    have e9 : y 9 = .pointer (some ⟨g, j * 4, none⟩) := hd 9 (by decide)
    have e6 : y 6 = .agg #[.int .i64 o, .int .i64 d, .int .i64 p, .int .i64 a] := hd 6 (by decide)
    rw [e9, e6]
    clear hd e9 e6 C0 C1 C2 C3 C4
    have f2 := F1.out.below hw2
    obtain ⟨c0, c1, c2, c3⟩ := fcs_at f2.2 n hj8
    replace c0 := (f2.1.cell (4 * j)).trans c0
    replace c1 := (f2.1.cell (4 * j + 1)).trans c1
    replace c2 := (f2.1.cell (4 * j + 2)).trans c2
    replace c3 := (f2.1.cell (4 * j + 3)).trans c3
    rw [show 4 * j = j * 4 by omega] at c0 c1 c2 c3
    have fz : ∀ o, w2.frozen? ⟨g, o, none⟩ = false := fun o => f2.1.frozen o
    have FF := Lib.hid f2
    have HW := Lib.hid (BB.out.trans (hw2.mono hs))
    have cn := (f2.1.cell 32).trans (fcs_n f2.2 n)
    have n4 : ¬ 32 = j * 4 ∧ ¬ 32 = j * 4 + 1 ∧ ¬ 32 = j * 4 + 2 ∧ ¬ 32 = j * 4 + 3 := by omega
    obtain ⟨n40, n41, n42, n43⟩ := n4
    have i1 : IntKind.i64.wrap ((n : Int) + 1) = (n : Int) + 1 := IntWalk.i64_in _ (by omega)
    clear f2 hw2
    go_wp2_with fail
    go_ret
    have hb := HW.out.mono (show 0 ≤ w.heap.size by omega)
    have k1 := (((FF.out.1.set (j * 4) (.int .i64 o)).set (j * 4 + 1) (.int .i64 d)).set (j * 4 + 2) (.int .i64 p)).set (j * 4 + 3) (.int .i64 a)
    rw [show j * 4 = 4 * j by omega, fcs_put FF.out.2 n hj8 ⟨o, d, p, a⟩, show 4 * j = j * 4 by omega] at k1
    have k2 := k1.set 32 (.int .i64 ((n : Int) + 1))
    rw [show ((n : Int) + 1) = ((n + 1 : Nat) : Int) by omega, fcs_inc (by rw [List.length_set]; exact FF.out.2)] at k2
    refine ⟨rfl, ⟨k2, by rw [List.length_set]; exact FF.out.2⟩, ?_, ?_⟩
    · have b0 : Below B w w2 := by
        have := HW.out
        exact this.mono (by omega)
      exact ((((b0.setCell (p := ⟨g, j * 4, none⟩) hB _).setCell (p := ⟨g, j * 4 + 1, none⟩) hB _).setCell (p := ⟨g, j * 4 + 2, none⟩) hB _).setCell (p := ⟨g, j * 4 + 3, none⟩) hB _).setCell (p := ⟨g, 32, none⟩) hB _
    · simpa using HW.out.size
  · rw [show mayB s = false by simpa using hm] at hM
    simp only [hm, if_false, Bool.false_eq_true]
    obtain ⟨o, d, p, a⟩ := s
    unfold sv at hM ⊢
    clear hm
    have hfb := Lib.hid h
    clear h
    go_enter Try.func27, Try.ntmps27
    go_wp2_with (go_at_call 54; refine (hM _).mono ?_; rintro e w1 ⟨rfl, hb1⟩; obtain ⟨B1, z1, bb1⟩ := box1 hb1)
    go_ret
    exact ⟨rfl, hfb.out.below bb1, bb1.mono (by omega), bb1.size⟩
end Go.Proofs.Yteemglgbhdpodaa
