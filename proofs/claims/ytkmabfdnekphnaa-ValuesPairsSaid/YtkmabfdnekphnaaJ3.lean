/- Shelves: the value of a sort. Long values; values that say the same. -/
import Derived.Test.YtkmabfdnekphnaaJ2
namespace Go.Proofs.Ytkmabfdnekphnaa
set_option linter.unusedSimpArgs false
set_option linter.unusedVariables false
set_option maxRecDepth 100000
open Go.RowKit
open Go.Maps (Keyed)
attribute [local go_sem] toldUpon_value toldUpon_skip toldUpon_enter

theorem get_nil (w : World) (s : Int) : Calls Try.prog 12 #[.pointer none, .int .i64 s] w fun e w' => e = .returned (.tuple #[vv z0, .int .i64 6]) ∧ Below w.heap.size w w' := by
  have hM := fun w => made_nil w
  go_enter Try.func12, Try.ntmps12
  go_upto_region 1 with (fail)
  obtain ⟨w1, hw1⟩ : ∃ y, w.alloc (.cells #[.int .u32 0, .int .u32 0, .slice none 0 0, .slice none 0 0] 25) = y := ⟨_, rfl⟩
  have hb1 : Below w.heap.size w w1 := by rw [← hw1]; exact (Below.refl _ _).alloc (Nat.le_refl _) _
  have k1 : Bk w1 w.heap.size 25 #[.int .u32 0, .int .u32 0, .slice none 0 0, .slice none 0 0] := by rw [← hw1]; exact Bk.new w _ _
  rw [hw1]
  clear hw1
  have c0 := k1.cell 0
  have c1 := k1.cell 1
  have c2 := k1.cell 2
  have c3 := k1.cell 3
  have fz : ∀ o, w1.frozen? ⟨w.heap.size, o, none⟩ = false := fun o => k1.frozen o
  have HB := Lib.hid hb1
  clear hb1 k1
  go_wp2_with (go_at_call 26; refine (hM _).mono ?_; rintro e w2 ⟨rfl, rfl⟩)
  exact bodyPost_ret (v := .tuple #[vv z0, .int .i64 6]) (by simp [results, Try.results12, go_sem, c0, c1, c2, c3, vv, z0]) rfl ⟨rfl, (((HB.out.setCell (p := ⟨w.heap.size, 0, none⟩) (Nat.le_refl _) _).setCell (p := ⟨w.heap.size, 1, none⟩) (Nat.le_refl _) _).setCell (p := ⟨w.heap.size, 2, none⟩) (Nat.le_refl _) _).setCell (p := ⟨w.heap.size, 3, none⟩) (Nat.le_refl _) _⟩
theorem get_unmade (w : World) {g : Nat} {room : Int} (h : Bk w g 54 #[.int .i64 room, .map none]) (s : Int) : Calls Try.prog 12 #[.pointer (some ⟨g, 0, none⟩), .int .i64 s] w fun e w' => e = .returned (.tuple #[vv z0, .int .i64 6]) ∧ Below w.heap.size w w' := by
  have hM := fun w' (hb : Below w.heap.size w w') => made_zero w' (h.below hb h.lt)
  go_enter Try.func12, Try.ntmps12
  go_upto_region 1 with (fail)
  obtain ⟨w1, hw1⟩ : ∃ y, w.alloc (.cells #[.int .u32 0, .int .u32 0, .slice none 0 0, .slice none 0 0] 25) = y := ⟨_, rfl⟩
  have hb1 : Below w.heap.size w w1 := by rw [← hw1]; exact (Below.refl _ _).alloc (Nat.le_refl _) _
  have k1 : Bk w1 w.heap.size 25 #[.int .u32 0, .int .u32 0, .slice none 0 0, .slice none 0 0] := by rw [← hw1]; exact Bk.new w _ _
  rw [hw1]
  clear hw1
  have c0 := k1.cell 0
  have c1 := k1.cell 1
  have c2 := k1.cell 2
  have c3 := k1.cell 3
  have fz : ∀ o, w1.frozen? ⟨w.heap.size, o, none⟩ = false := fun o => k1.frozen o
  have hM1 := hM w1 hb1
  have HB := Lib.hid hb1
  clear hb1 k1 hM
  go_wp2_with (go_at_call 26; refine hM1.mono ?_; rintro e w2 ⟨rfl, rfl⟩)
  exact bodyPost_ret (v := .tuple #[vv z0, .int .i64 6]) (by simp [results, Try.results12, go_sem, c0, c1, c2, c3, vv, z0]) rfl ⟨rfl, (((HB.out.setCell (p := ⟨w.heap.size, 0, none⟩) (Nat.le_refl _) _).setCell (p := ⟨w.heap.size, 1, none⟩) (Nat.le_refl _) _).setCell (p := ⟨w.heap.size, 2, none⟩) (Nat.le_refl _) _).setCell (p := ⟨w.heap.size, 3, none⟩) (Nat.le_refl _) _⟩
set_option maxHeartbeats 1000000 in
theorem get_none (w : World) {g room b n : Nat} {D : DataW Value} (h : SH w g room b n D) {s : Int} (hs : I64w s) (hhas : Maps.has D (.int .i64 s) = false) : Calls Try.prog 12 #[.pointer (some ⟨g, 0, none⟩), .int .i64 s] w fun e w' => e = .returned (.tuple #[vv z0, .int .i64 4]) ∧ Below w.heap.size w w' := by
  have hgv := gv_miss hhas
  have HS := Lib.hid h
  clear h
  go_enter Try.func12, Try.ntmps12
  go_upto_region 1 with (fail)
  obtain ⟨w1, hw1⟩ : ∃ y, w.alloc (.cells #[.int .u32 0, .int .u32 0, .slice none 0 0, .slice none 0 0] 25) = y := ⟨_, rfl⟩
  have hb1 : Below w.heap.size w w1 := by rw [← hw1]; exact (Below.refl _ _).alloc (Nat.le_refl _) _
  have k1 : Bk w1 w.heap.size 25 #[.int .u32 0, .int .u32 0, .slice none 0 0, .slice none 0 0] := by rw [← hw1]; exact Bk.new w _ _
  rw [hw1]
  clear hw1
  have hM := made_any w1 (HS.out.below hb1).1
  have hL := look_run (HS.out.below hb1).2.1 hs
  rw [hgv, hhas] at hL
  unfold vv z0 at hL
  have g1 := (HS.out.below hb1).1.cell 1
  have c0 := k1.cell 0
  have c1 := k1.cell 1
  have c2 := k1.cell 2
  have c3 := k1.cell 3
  have fz : ∀ o, w1.frozen? ⟨w.heap.size, o, none⟩ = false := fun o => k1.frozen o
  have hlt := k1.lt
  have HB := Lib.hid hb1
  clear hb1 k1
  go_wp2_with (go_at_call 26; refine hM.mono ?_; rintro e w2 ⟨rfl, rfl⟩)
  exact bodyPost_ret (v := .tuple #[vv z0, .int .i64 4]) (by simp [results, Try.results12, go_sem, c0, c1, c2, c3, vv, z0, World.cell?_alloc_old, hlt]) rfl ⟨rfl, by have h0 := HB.out; have h00 := h0.size; (repeat (first | (with_reducible exact Below.refl _ _) | (with_reducible assumption) | (with_reducible refine Below.drew ?_) | (with_reducible refine below_drewN ?_ _) | ((with_reducible refine Below.setCell ?_ (p := ⟨_, _, _⟩) ?_ _); rotate_left; (simp <;> omega)) | ((with_reducible refine Below.alloc ?_ ?_ _); rotate_left; (simp <;> omega)) | ((with_reducible refine Below.trans ?_ (Below.mono (by with_reducible assumption) ?_)); rotate_left; (simp <;> omega))))⟩
def GET (w : World) (x : Vl) (e : Ending) (w' : World) : Prop := ∃ v', e = .returned (.tuple #[vv v', .int .i64 0]) ∧ same x v' ∧ VO w' w.heap.size v' ∧ Below w.heap.size w w'
set_option maxHeartbeats 1000000 in
theorem get_any (w : World) {g room b n : Nat} {D : DataW Value} (h : SH w g room b n D) {s : Int} (hs : I64w s) (x : Vl) (hx : VR w x) (hn : x.n ≤ 140737488355328) (hm : x.m ≤ 140737488355328) (hhas : Maps.has D (.int .i64 s) = true) (hgv : gv D s = vv x) : Calls Try.prog 12 #[.pointer (some ⟨g, 0, none⟩), .int .i64 s] w (GET w x) := by
  have HS := Lib.hid h
  have HX := Lib.hid hx
  have HN := Lib.hid (And.intro hn hm)
  clear h hx hn hm
  go_enter Try.func12, Try.ntmps12
  go_upto_region 1 with (fail)
  obtain ⟨w1, hw1⟩ : ∃ y, w.alloc (.cells #[.int .u32 0, .int .u32 0, .slice none 0 0, .slice none 0 0] 25) = y := ⟨_, rfl⟩
  have hb1 : Below w.heap.size w w1 := by rw [← hw1]; exact (Below.refl _ _).alloc (Nat.le_refl _) _
  have k1 : Bk w1 w.heap.size 25 #[.int .u32 0, .int .u32 0, .slice none 0 0, .slice none 0 0] := by rw [← hw1]; exact Bk.new w _ _
  rw [hw1]
  clear hw1
  have hM := made_any w1 (HS.out.below hb1).1
  have hL := look_run (HS.out.below hb1).2.1 hs
  rw [hgv, hhas] at hL
  have hcp := fun w' (hb : Below w.heap.size w w') => copied_any w' x (HX.out.below hb) HN.out.1 HN.out.2
  have HXX := Lib.hid (same.rfl' x)
  obtain ⟨ts, fs, A, vn, c, ds, B, m, d, ss⟩ := x
  unfold vv at hL hcp
  have g1 := (HS.out.below hb1).1.cell 1
  have K1 := Lib.hid k1
  have HB := Lib.hid hb1
  clear hb1 k1 hgv
  go_upto_region 6 with (go_at_call 26; refine hM.mono ?_; rintro e w2 ⟨rfl, rfl⟩)
  obtain ⟨w2, hw2⟩ : ∃ y, w1.alloc (.cells #[.int .u32 (ts : Int), .int .u32 (fs : Int), .slice A vn c, .slice B m d] 25) = y := ⟨_, rfl⟩
  have hb2 : Below w1.heap.size w1 w2 := by rw [← hw2]; exact (Below.refl _ _).alloc (Nat.le_refl _) _
  have k2 : Bk w2 w1.heap.size 25 #[.int .u32 (ts : Int), .int .u32 (fs : Int), .slice A vn c, .slice B m d] := by rw [← hw2]; exact Bk.new w1 _ _
  have hbb := HB.out.trans (hb2.mono HB.out.size)
  have k1 := K1.out.below hb2 K1.out.lt
  rw [hw2]
  have hcp2 := hcp w2 hbb
  have d0 := k2.cell 0
  have d1 := k2.cell 1
  have d2 := k2.cell 2
  have d3 := k2.cell 3
  have HBB := Lib.hid hbb
  have K12 := Lib.hid k1
  clear hw2 hM hL hcp g1 hb2 k2 hbb k1 K1
  go_upto_region 6 with (fail)
  go_wp2_with (go_at_call 27; refine hcp2.mono ?_; rintro e w3 ⟨⟨ts', fs', A', vn', c', ds', B', m', d', ss'⟩, rfl, hsm, ho, hb3⟩; simp only [vv]; have k3 := K12.out.below hb3 K12.out.lt; have c0 := k3.cell 0; have c1 := k3.cell 1; have c2 := k3.cell 2; have c3 := k3.cell 3; have fz : ∀ o, w3.frozen? ⟨w.heap.size, o, none⟩ = false := fun o => k3.frozen o; have HO := Lib.hid (And.intro hsm ho); have HB3 := Lib.hid (HBB.out.trans (hb3.mono HBB.out.size)); clear hsm ho hb3 k3)
  have hlt := K12.out.lt
  have q1 : ∀ o, (⟨w.heap.size, o, none⟩ : Addr).block < w2.heap.size := fun o => hlt
  refine bodyPost_ret (v := .tuple #[.agg #[.int .u32 (ts' : Int), .int .u32 (fs' : Int), .slice A' vn' c', .slice B' m' d'], .int .i64 0]) (by simp [results, Try.results12, go_sem, c0, c1, c2, c3]) rfl ⟨⟨ts', fs', A', vn', c', ds', B', m', d', ss'⟩, rfl, HO.out.1, ⟨?_, ?_⟩, ?_⟩
  · exact ((((HO.out.2.1.low (q1 0) _).low (q1 1) _).low (q1 2) _).low (q1 3) _).lower HBB.out.size
  · exact ((((HO.out.2.2.low (q1 0) _).low (q1 1) _).low (q1 2) _).low (q1 3) _).lower HBB.out.size
  · exact (((HB3.out.setCell (p := ⟨w.heap.size, 0, none⟩) (Nat.le_refl _) _).setCell (p := ⟨w.heap.size, 1, none⟩) (Nat.le_refl _) _).setCell (p := ⟨w.heap.size, 2, none⟩) (Nat.le_refl _) _).setCell (p := ⟨w.heap.size, 3, none⟩) (Nat.le_refl _) _
def longB (v : Vl) : Bool := (decide (300 < v.n) && decide (v.n ≤ 2048)) || decide (3000 < v.n) || decide (300 < v.m)
set_option maxHeartbeats 1000000 in
theorem long_any (w : World) (v : Vl) : Calls Try.prog 10 #[vv v] w fun e w' => e = .returned (.bool (longB v)) ∧ Below w.heap.size w w' := by
  have H := Lib.hid (show longB v = ((decide (300 < v.n) && decide (v.n ≤ 2048)) || decide (3000 < v.n) || decide (300 < v.m)) from rfl)
  obtain ⟨ts, fs, A, n, c, ds, B, m, d, ss⟩ := v
  replace H := Lib.hid (H.out.trans (show _ = ((decide (300 < n) && decide (n ≤ 2048)) || decide (3000 < n) || decide (300 < m)) from rfl))
  unfold vv
  rcases (show (¬ (300 : Int) < (n : Int) ∧ (n : Int) ≤ 2048 ∧ ¬ (3000 : Int) < (n : Int)) ∨ ((300 : Int) < (n : Int) ∧ (n : Int) ≤ 2048 ∧ ¬ (3000 : Int) < (n : Int)) ∨ ((300 : Int) < (n : Int) ∧ ¬ (n : Int) ≤ 2048 ∧ ¬ (3000 : Int) < (n : Int)) ∨ ((300 : Int) < (n : Int) ∧ ¬ (n : Int) ≤ 2048 ∧ (3000 : Int) < (n : Int)) by omega) with ⟨a1, a2, a3⟩ | ⟨a1, a2, a3⟩ | ⟨a1, a2, a3⟩ | ⟨a1, a2, a3⟩ <;> by_cases a4 : (300 : Int) < (m : Int)
  all_goals
    have HR := Lib.hid (H.out.trans (show _ = ((decide ((300 : Int) < (n : Int)) && decide ((n : Int) ≤ 2048)) || decide ((3000 : Int) < (n : Int)) || decide ((300 : Int) < (m : Int))) by simp only [show (300 < n) ↔ ((300 : Int) < (n : Int)) by omega, show (n ≤ 2048) ↔ ((n : Int) ≤ 2048) by omega, show (3000 < n) ↔ ((3000 : Int) < (n : Int)) by omega, show (300 < m) ↔ ((300 : Int) < (m : Int)) by omega]))
    clear H
    go_enter Try.func10, Try.ntmps10
    go_wp2_with fail
    go_ret
    exact ⟨by rw [HR.out]; simp [*], (Below.refl _ _).alloc (Nat.le_refl _) _⟩
end Go.Proofs.Ytkmabfdnekphnaa
