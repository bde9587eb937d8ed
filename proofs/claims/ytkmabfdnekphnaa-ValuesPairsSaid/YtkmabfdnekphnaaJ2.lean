/- Shelves: a value put on one. -/
import Derived.Test.YtkmabfdnekphnaaJ1
namespace Go.Proofs.Ytkmabfdnekphnaa
set_option linter.unusedSimpArgs false
set_option linter.unusedVariables false
set_option maxRecDepth 100000
open Go.RowKit
open Go.Maps (Keyed)
attribute [local go_sem] toldUpon_value toldUpon_skip toldUpon_enter

def GVl (base : Nat) (v : Vl) : GFact := fun val w => ∃ v', val = vv v' ∧ same v v' ∧ VO w base v'
theorem GVl.stays (base : Nat) (v : Vl) : Stays (GVl base v) := fun _ _ _ hb ⟨v', e, hs, h⟩ => ⟨v', e, hs, h.below hb⟩
def PUT (w : World) (g room b n : Nat) (D : DataW Value) (s : Int) (v : Vl) (e : Ending) (w' : World) : Prop :=
  ∃ v', e = .returned (.int .i64 0) ∧ same v v' ∧ VO w' w.heap.size v' ∧ SH w' g room b (n + 1) (D.put (.int .i64 s) (.held (vv v'))) ∧ w.grownBy w' (some b)
set_option maxHeartbeats 2000000 in
theorem put_neg (w : World) {g room b n : Nat} {D : DataW Value} (h : SH w g room b n D) {s : Int} (hs : I64w s) (v x : Vl) (hh : Bool) (hhas : Maps.has D (.int .i64 s) = hh) (hgv : gv D s = vv x) (hneg : s < 0) :
    Calls Try.prog 11 #[.pointer (some ⟨g, 0, none⟩), .int .i64 s, vv v] w fun e w' => e = .returned (.int .i64 1) ∧ Below w.heap.size w w' := by
  obtain ⟨ts, fs, A, vn, c, ds, B, m, d, ss⟩ := v
  obtain ⟨xts, xfs, xA, xn, xc, xds, xB, xm, xd, xss⟩ := x
  have HS := Lib.hid h
  clear h
  unfold vv at hgv ⊢
  go_enter Try.func11, Try.ntmps11
  go_upto_region 1 with (fail)
  obtain ⟨w1, hw1⟩ : ∃ y, w.alloc (.cells #[.int .u32 (ts : Int), .int .u32 (fs : Int), .slice A vn c, .slice B m d] 25) = y := ⟨_, rfl⟩
  have hb1 : Below w.heap.size w w1 := by rw [← hw1]; exact (Below.refl _ _).alloc (Nat.le_refl _) _
  have k1 : Bk w1 w.heap.size 25 #[.int .u32 (ts : Int), .int .u32 (fs : Int), .slice A vn c, .slice B m d] := by rw [← hw1]; exact Bk.new w _ _
  have hz1 : w1.heap.size = w.heap.size + 1 := by rw [← hw1]; simp
  rw [hw1]
  clear hw1
  have hM := made_any w1 (HS.out.below hb1).1
  have hL := look_run (HS.out.below hb1).2.1 hs
  rw [hgv, hhas] at hL
  have g0 := (HS.out.below hb1).1.cell 0
  have g1 := (HS.out.below hb1).1.cell 1
  have HB1 := Lib.hid hb1
  have HZ1 := Lib.hid hz1
  have HK1 := Lib.hid k1
  clear hb1 hz1 k1
  go_upto_region 4 with (go_at_call 26; refine hM.mono ?_; rintro e w2 ⟨rfl, rfl⟩)
  obtain ⟨w2, hw2⟩ : ∃ y, w1.alloc (.cells #[.int .u32 (xts : Int), .int .u32 (xfs : Int), .slice xA xn xc, .slice xB xm xd] 25) = y := ⟨_, rfl⟩
  have hb2 : Below w1.heap.size w1 w2 := by rw [← hw2]; exact (Below.refl _ _).alloc (Nat.le_refl _) _
  have k2 : Bk w2 w1.heap.size 25 #[.int .u32 (xts : Int), .int .u32 (xfs : Int), .slice xA xn xc, .slice xB xm xd] := by rw [← hw2]; exact Bk.new w1 _ _
  have hbb : Below w.heap.size w w2 := HB1.out.trans (hb2.mono HB1.out.size)
  have k1 := HK1.out.below hb2 HK1.out.lt
  have k2' := k2
  have hsh := HS.out.below hbb
  rw [hw2]
  clear hw2 hM hL g0 g1 HB1
  have HBB := Lib.hid hbb
  have K1 := Lib.hid k1
  have K2 := Lib.hid k2
  have HSH := Lib.hid hsh
  have c0 := k1.cell 0
  have c1 := k1.cell 1
  have c2 := k1.cell 2
  have c3 := k1.cell 3
  have d0 := k2.cell 0
  have d1 := k2.cell 1
  have d2 := k2.cell 2
  have d3 := k2.cell 3
  clear hbb k1 k2 k2' hb2 hsh
  go_wp2_with fail
  go_ret
  exact ⟨rfl, HBB.out⟩
set_option maxHeartbeats 2000000 in
theorem put_long (w : World) {g room b n : Nat} {D : DataW Value} (h : SH w g room b n D) {s : Int} (hs : I64w s) (v x : Vl) (hh : Bool) (hhas : Maps.has D (.int .i64 s) = hh) (hgv : gv D s = vv x) (hneg : ¬ s < 0) (hl : 2048 < v.n ∨ 128 < v.m) :
    Calls Try.prog 11 #[.pointer (some ⟨g, 0, none⟩), .int .i64 s, vv v] w fun e w' => e = .returned (.int .i64 2) ∧ Below w.heap.size w w' := by
  obtain ⟨ts, fs, A, vn, c, ds, B, m, d, ss⟩ := v
  obtain ⟨xts, xfs, xA, xn, xc, xds, xB, xm, xd, xss⟩ := x
  have HS := Lib.hid h
  clear h
  replace hl : 2048 < vn ∨ 128 < m := hl
  unfold vv at hgv ⊢
  rcases (show 2048 < vn ∨ (¬ 2048 < vn ∧ 128 < m) by omega) with h1 | ⟨h1, h2⟩
  · have a1 : (2048 : Int) < (vn : Int) := by omega
    clear hl
    go_enter Try.func11, Try.ntmps11
    go_upto_region 1 with (fail)
    obtain ⟨w1, hw1⟩ : ∃ y, w.alloc (.cells #[.int .u32 (ts : Int), .int .u32 (fs : Int), .slice A vn c, .slice B m d] 25) = y := ⟨_, rfl⟩
    have hb1 : Below w.heap.size w w1 := by rw [← hw1]; exact (Below.refl _ _).alloc (Nat.le_refl _) _
    have k1 : Bk w1 w.heap.size 25 #[.int .u32 (ts : Int), .int .u32 (fs : Int), .slice A vn c, .slice B m d] := by rw [← hw1]; exact Bk.new w _ _
    have hz1 : w1.heap.size = w.heap.size + 1 := by rw [← hw1]; simp
    rw [hw1]
    clear hw1
    have hM := made_any w1 (HS.out.below hb1).1
    have hL := look_run (HS.out.below hb1).2.1 hs
    rw [hgv, hhas] at hL
    have g0 := (HS.out.below hb1).1.cell 0
    have g1 := (HS.out.below hb1).1.cell 1
    have HB1 := Lib.hid hb1
    have HZ1 := Lib.hid hz1
    have HK1 := Lib.hid k1
    clear hb1 hz1 k1
    go_upto_region 4 with (go_at_call 26; refine hM.mono ?_; rintro e w2 ⟨rfl, rfl⟩)
    obtain ⟨w2, hw2⟩ : ∃ y, w1.alloc (.cells #[.int .u32 (xts : Int), .int .u32 (xfs : Int), .slice xA xn xc, .slice xB xm xd] 25) = y := ⟨_, rfl⟩
    have hb2 : Below w1.heap.size w1 w2 := by rw [← hw2]; exact (Below.refl _ _).alloc (Nat.le_refl _) _
    have k2 : Bk w2 w1.heap.size 25 #[.int .u32 (xts : Int), .int .u32 (xfs : Int), .slice xA xn xc, .slice xB xm xd] := by rw [← hw2]; exact Bk.new w1 _ _
    have hbb : Below w.heap.size w w2 := HB1.out.trans (hb2.mono HB1.out.size)
    have k1 := HK1.out.below hb2 HK1.out.lt
    have k2' := k2
    have hsh := HS.out.below hbb
    rw [hw2]
    clear hw2 hM hL g0 g1 HB1
    have HBB := Lib.hid hbb
    have K1 := Lib.hid k1
    have K2 := Lib.hid k2
    have HSH := Lib.hid hsh
    have c0 := k1.cell 0
    have c1 := k1.cell 1
    have c2 := k1.cell 2
    have c3 := k1.cell 3
    have d0 := k2.cell 0
    have d1 := k2.cell 1
    have d2 := k2.cell 2
    have d3 := k2.cell 3
    clear hbb k1 k2 k2' hb2 hsh
    go_wp2_with fail
    go_ret
    exact ⟨rfl, HBB.out⟩
  · have a1 : ¬ (2048 : Int) < (vn : Int) := by omega
    have a2 : (128 : Int) < (m : Int) := by omega
    clear hl
    go_enter Try.func11, Try.ntmps11
    go_upto_region 1 with (fail)
    obtain ⟨w1, hw1⟩ : ∃ y, w.alloc (.cells #[.int .u32 (ts : Int), .int .u32 (fs : Int), .slice A vn c, .slice B m d] 25) = y := ⟨_, rfl⟩
    have hb1 : Below w.heap.size w w1 := by rw [← hw1]; exact (Below.refl _ _).alloc (Nat.le_refl _) _
    have k1 : Bk w1 w.heap.size 25 #[.int .u32 (ts : Int), .int .u32 (fs : Int), .slice A vn c, .slice B m d] := by rw [← hw1]; exact Bk.new w _ _
    have hz1 : w1.heap.size = w.heap.size + 1 := by rw [← hw1]; simp
    rw [hw1]
    clear hw1
    have hM := made_any w1 (HS.out.below hb1).1
    have hL := look_run (HS.out.below hb1).2.1 hs
    rw [hgv, hhas] at hL
    have g0 := (HS.out.below hb1).1.cell 0
    have g1 := (HS.out.below hb1).1.cell 1
    have HB1 := Lib.hid hb1
    have HZ1 := Lib.hid hz1
    have HK1 := Lib.hid k1
    clear hb1 hz1 k1
    go_upto_region 4 with (go_at_call 26; refine hM.mono ?_; rintro e w2 ⟨rfl, rfl⟩)
    obtain ⟨w2, hw2⟩ : ∃ y, w1.alloc (.cells #[.int .u32 (xts : Int), .int .u32 (xfs : Int), .slice xA xn xc, .slice xB xm xd] 25) = y := ⟨_, rfl⟩
    have hb2 : Below w1.heap.size w1 w2 := by rw [← hw2]; exact (Below.refl _ _).alloc (Nat.le_refl _) _
    have k2 : Bk w2 w1.heap.size 25 #[.int .u32 (xts : Int), .int .u32 (xfs : Int), .slice xA xn xc, .slice xB xm xd] := by rw [← hw2]; exact Bk.new w1 _ _
    have hbb : Below w.heap.size w w2 := HB1.out.trans (hb2.mono HB1.out.size)
    have k1 := HK1.out.below hb2 HK1.out.lt
    have k2' := k2
    have hsh := HS.out.below hbb
    rw [hw2]
    clear hw2 hM hL g0 g1 HB1
    have HBB := Lib.hid hbb
    have K1 := Lib.hid k1
    have K2 := Lib.hid k2
    have HSH := Lib.hid hsh
    have c0 := k1.cell 0
    have c1 := k1.cell 1
    have c2 := k1.cell 2
    have c3 := k1.cell 3
    have d0 := k2.cell 0
    have d1 := k2.cell 1
    have d2 := k2.cell 2
    have d3 := k2.cell 3
    clear hbb k1 k2 k2' hb2 hsh
    go_wp2_with fail
    go_ret
    exact ⟨rfl, HBB.out⟩
set_option maxHeartbeats 2000000 in
theorem put_old (w : World) {g room b n : Nat} {D : DataW Value} (h : SH w g room b n D) {s : Int} (hs : I64w s) (v x : Vl) (hhas : Maps.has D (.int .i64 s) = true) (hgv : gv D s = vv x) (hneg : ¬ s < 0) (hl : v.n ≤ 2048) (hl2 : v.m ≤ 128) (hnew : newB v x = false) :
    Calls Try.prog 11 #[.pointer (some ⟨g, 0, none⟩), .int .i64 s, vv v] w fun e w' => e = .returned (.int .i64 120) ∧ Below w.heap.size w w' := by
  have hN := fun w => newer_any w v x
  rw [hnew] at hN
  clear hnew
  obtain ⟨ts, fs, A, vn, c, ds, B, m, d, ss⟩ := v
  obtain ⟨xts, xfs, xA, xn, xc, xds, xB, xm, xd, xss⟩ := x
  have HS := Lib.hid h
  clear h
  replace hl : vn ≤ 2048 := hl
  replace hl2 : m ≤ 128 := hl2
  unfold vv at hgv hN ⊢
  have a1 : ¬ (2048 : Int) < (vn : Int) := by omega
  have a2 : ¬ (128 : Int) < (m : Int) := by omega
  go_enter Try.func11, Try.ntmps11
  go_upto_region 1 with (fail)
  obtain ⟨w1, hw1⟩ : ∃ y, w.alloc (.cells #[.int .u32 (ts : Int), .int .u32 (fs : Int), .slice A vn c, .slice B m d] 25) = y := ⟨_, rfl⟩
  have hb1 : Below w.heap.size w w1 := by rw [← hw1]; exact (Below.refl _ _).alloc (Nat.le_refl _) _
  have k1 : Bk w1 w.heap.size 25 #[.int .u32 (ts : Int), .int .u32 (fs : Int), .slice A vn c, .slice B m d] := by rw [← hw1]; exact Bk.new w _ _
  have hz1 : w1.heap.size = w.heap.size + 1 := by rw [← hw1]; simp
  rw [hw1]
  clear hw1
  have hM := made_any w1 (HS.out.below hb1).1
  have hL := look_run (HS.out.below hb1).2.1 hs
  rw [hgv, hhas] at hL
  have g0 := (HS.out.below hb1).1.cell 0
  have g1 := (HS.out.below hb1).1.cell 1
  have HB1 := Lib.hid hb1
  have HZ1 := Lib.hid hz1
  have HK1 := Lib.hid k1
  clear hb1 hz1 k1
  go_upto_region 4 with (go_at_call 26; refine hM.mono ?_; rintro e w2 ⟨rfl, rfl⟩)
  obtain ⟨w2, hw2⟩ : ∃ y, w1.alloc (.cells #[.int .u32 (xts : Int), .int .u32 (xfs : Int), .slice xA xn xc, .slice xB xm xd] 25) = y := ⟨_, rfl⟩
  have hb2 : Below w1.heap.size w1 w2 := by rw [← hw2]; exact (Below.refl _ _).alloc (Nat.le_refl _) _
  have k2 : Bk w2 w1.heap.size 25 #[.int .u32 (xts : Int), .int .u32 (xfs : Int), .slice xA xn xc, .slice xB xm xd] := by rw [← hw2]; exact Bk.new w1 _ _
  have hbb : Below w.heap.size w w2 := HB1.out.trans (hb2.mono HB1.out.size)
  have k1 := HK1.out.below hb2 HK1.out.lt
  have k2' := k2
  have hsh := HS.out.below hbb
  rw [hw2]
  clear hw2 hM hL g0 g1 HB1
  have HBB := Lib.hid hbb
  have K1 := Lib.hid k1
  have K2 := Lib.hid k2
  have HSH := Lib.hid hsh
  have c0 := k1.cell 0
  have c1 := k1.cell 1
  have c2 := k1.cell 2
  have c3 := k1.cell 3
  have d0 := k2.cell 0
  have d1 := k2.cell 1
  have d2 := k2.cell 2
  have d3 := k2.cell 3
  clear hbb k1 k2 k2' hb2 hsh
  go_wp2_with (go_at_call 7; refine (hN _).mono ?_; rintro e w5 ⟨rfl, hb5⟩)
  go_ret
  exact ⟨rfl, HBB.out.trans (hb5.mono HBB.out.size)⟩
set_option maxHeartbeats 2000000 in
theorem put_full (w : World) {g room b n : Nat} {D : DataW Value} (h : SH w g room b n D) {s : Int} (hs : I64w s) (v : Vl) (hhas : Maps.has D (.int .i64 s) = false) (hneg : ¬ s < 0) (hl : v.n ≤ 2048) (hl2 : v.m ≤ 128) (hroom : room ≤ Maps.size D) :
    Calls Try.prog 11 #[.pointer (some ⟨g, 0, none⟩), .int .i64 s, vv v] w fun e w' => e = .returned (.int .i64 5) ∧ Below w.heap.size w w' := by
  have hgv := gv_miss hhas
  unfold z0 at hgv
  obtain ⟨ts, fs, A, vn, c, ds, B, m, d, ss⟩ := v
  have HS := Lib.hid h
  clear h
  replace hl : vn ≤ 2048 := hl
  replace hl2 : m ≤ 128 := hl2
  unfold vv at hgv ⊢
  obtain ⟨xts, xfs, xA, xn, xc, xB, xm, xd, hx⟩ : ∃ (xts xfs : Nat) (xA : Option Addr) (xn xc : Nat) (xB : Option Addr) (xm xd : Nat), gv D s = .agg #[.int .u32 (xts : Int), .int .u32 (xfs : Int), .slice xA xn xc, .slice xB xm xd] := ⟨_, _, _, _, _, _, _, _, hgv⟩
  clear hgv
  have hgv := hx
  clear hx
  have a1 : ¬ (2048 : Int) < (vn : Int) := by omega
  have a2 : ¬ (128 : Int) < (m : Int) := by omega
  have a3 : (room : Int) ≤ (Maps.size D : Int) := by omega
  go_enter Try.func11, Try.ntmps11
  go_upto_region 1 with (fail)
  obtain ⟨w1, hw1⟩ : ∃ y, w.alloc (.cells #[.int .u32 (ts : Int), .int .u32 (fs : Int), .slice A vn c, .slice B m d] 25) = y := ⟨_, rfl⟩
  have hb1 : Below w.heap.size w w1 := by rw [← hw1]; exact (Below.refl _ _).alloc (Nat.le_refl _) _
  have k1 : Bk w1 w.heap.size 25 #[.int .u32 (ts : Int), .int .u32 (fs : Int), .slice A vn c, .slice B m d] := by rw [← hw1]; exact Bk.new w _ _
  have hz1 : w1.heap.size = w.heap.size + 1 := by rw [← hw1]; simp
  rw [hw1]
  clear hw1
  have hM := made_any w1 (HS.out.below hb1).1
  have hL := look_run (HS.out.below hb1).2.1 hs
  rw [hgv, hhas] at hL
  have g0 := (HS.out.below hb1).1.cell 0
  have g1 := (HS.out.below hb1).1.cell 1
  have HB1 := Lib.hid hb1
  have HZ1 := Lib.hid hz1
  have HK1 := Lib.hid k1
  clear hb1 hz1 k1
  go_upto_region 4 with (go_at_call 26; refine hM.mono ?_; rintro e w2 ⟨rfl, rfl⟩)
  obtain ⟨w2, hw2⟩ : ∃ y, w1.alloc (.cells #[.int .u32 (xts : Int), .int .u32 (xfs : Int), .slice xA xn xc, .slice xB xm xd] 25) = y := ⟨_, rfl⟩
  have hb2 : Below w1.heap.size w1 w2 := by rw [← hw2]; exact (Below.refl _ _).alloc (Nat.le_refl _) _
  have k2 : Bk w2 w1.heap.size 25 #[.int .u32 (xts : Int), .int .u32 (xfs : Int), .slice xA xn xc, .slice xB xm xd] := by rw [← hw2]; exact Bk.new w1 _ _
  have hbb : Below w.heap.size w w2 := HB1.out.trans (hb2.mono HB1.out.size)
  have k1 := HK1.out.below hb2 HK1.out.lt
  have k2' := k2
  have hsh := HS.out.below hbb
  rw [hw2]
  clear hw2 hM hL g0 g1 HB1
  have HBB := Lib.hid hbb
  have K1 := Lib.hid k1
  have K2 := Lib.hid k2
  have HSH := Lib.hid hsh
  have c0 := k1.cell 0
  have c1 := k1.cell 1
  have c2 := k1.cell 2
  have c3 := k1.cell 3
  have d0 := k2.cell 0
  have d1 := k2.cell 1
  have d2 := k2.cell 2
  have d3 := k2.cell 3
  clear hbb k1 k2 k2' hb2 hsh
  go_upto_region 10 with (fail)
  have G0 : ∀ w', Below w2.heap.size w2 w' → w'.cell? ⟨g, 0, none⟩ = some (.int .i64 (room : Int)) := fun w' h => (HSH.out.below h).1.cell 0
  have G1 : ∀ w', Below w2.heap.size w2 w' → w'.cell? ⟨g, 1, none⟩ = some (.map (some b)) := fun w' h => (HSH.out.below h).1.cell 1
  have GL : ∀ w' ty, Below w2.heap.size w2 w' → (Builtin.len_ #[52] ty #[.map (some b)]).run Try.prog w' = .ok (.int .i64 (Maps.size D : Int)) w' := fun w' ty h => len_run (HSH.out.below h).2.1 ty
  (refine region_told _ (by kernel_rfl) (by kernel_rfl) (by simp only [putAll, Act.put, List.setIfInBounds_toArray, List.set_cons_zero, List.set_cons_succ, Nat.reduceAdd]; rfl) ?_)
  repeat (refine told_step (fun v _ => v = _) (Stays.eq _) (by intro y w' hw' hd; simp only [depsOf, updG, Region.binds, Nat.reduceAdd, Nat.reduceEqDiff, if_false, if_true, and_true, true_and, forall_const, Array.toList, GTrue] at hd; (try go_split_ands); unfold toldAt; go_simp; exact ⟨Below.refl _ _, rfl⟩) ?_)
  (refine told_nil ?_; intro y w4 hw4 hd)
  have e14 : y 14 = .bool true := hd 14 (by decide)
  rw [e14]
  clear hd e14 G0 G1 GL
  go_wp2_with fail
  go_ret
  exact ⟨rfl, HBB.out.trans (hw4.mono HBB.out.size)⟩
set_option maxHeartbeats 2000000 in
theorem put_new (w : World) {g room b n : Nat} {D : DataW Value} (h : SH w g room b n D) (hn : n < 1000000) {s : Int} (hs : I64w s) (v : Vl) (hv : VR w v) (hhas : Maps.has D (.int .i64 s) = false) (hneg : ¬ s < 0) (hl : v.n ≤ 2048) (hl2 : v.m ≤ 128) (hroom : ¬ room ≤ Maps.size D) :
    Calls Try.prog 11 #[.pointer (some ⟨g, 0, none⟩), .int .i64 s, vv v] w (PUT w g room b n D s v) := by
  have hgv := gv_miss hhas
  unfold z0 at hgv
  obtain ⟨ts, fs, A, vn, c, ds, B, m, d, ss⟩ := v
  have HS := Lib.hid h
  have HVR := Lib.hid hv
  have HBLT := Lib.hid h.2.1.lt
  clear h hv
  replace hl : vn ≤ 2048 := hl
  replace hl2 : m ≤ 128 := hl2
  unfold vv at hgv ⊢
  obtain ⟨xts, xfs, xA, xn, xc, xB, xm, xd, hx⟩ : ∃ (xts xfs : Nat) (xA : Option Addr) (xn xc : Nat) (xB : Option Addr) (xm xd : Nat), gv D s = .agg #[.int .u32 (xts : Int), .int .u32 (xfs : Int), .slice xA xn xc, .slice xB xm xd] := ⟨_, _, _, _, _, _, _, _, hgv⟩
  clear hgv
  have hgv := hx
  clear hx
  have a1 : ¬ (2048 : Int) < (vn : Int) := by omega
  have a2 : ¬ (128 : Int) < (m : Int) := by omega
  have a3 : ¬ (room : Int) ≤ (Maps.size D : Int) := by omega
  go_enter Try.func11, Try.ntmps11
  go_upto_region 1 with (fail)
  obtain ⟨w1, hw1⟩ : ∃ y, w.alloc (.cells #[.int .u32 (ts : Int), .int .u32 (fs : Int), .slice A vn c, .slice B m d] 25) = y := ⟨_, rfl⟩
  have hb1 : Below w.heap.size w w1 := by rw [← hw1]; exact (Below.refl _ _).alloc (Nat.le_refl _) _
  have k1 : Bk w1 w.heap.size 25 #[.int .u32 (ts : Int), .int .u32 (fs : Int), .slice A vn c, .slice B m d] := by rw [← hw1]; exact Bk.new w _ _
  have hz1 : w1.heap.size = w.heap.size + 1 := by rw [← hw1]; simp
  rw [hw1]
  clear hw1
  have hM := made_any w1 (HS.out.below hb1).1
  have hL := look_run (HS.out.below hb1).2.1 hs
  rw [hgv, hhas] at hL
  have g0 := (HS.out.below hb1).1.cell 0
  have g1 := (HS.out.below hb1).1.cell 1
  have HB1 := Lib.hid hb1
  have HZ1 := Lib.hid hz1
  have HK1 := Lib.hid k1
  clear hb1 hz1 k1
  go_upto_region 4 with (go_at_call 26; refine hM.mono ?_; rintro e w2 ⟨rfl, rfl⟩)
  obtain ⟨w2, hw2⟩ : ∃ y, w1.alloc (.cells #[.int .u32 (xts : Int), .int .u32 (xfs : Int), .slice xA xn xc, .slice xB xm xd] 25) = y := ⟨_, rfl⟩
  have hb2 : Below w1.heap.size w1 w2 := by rw [← hw2]; exact (Below.refl _ _).alloc (Nat.le_refl _) _
  have k2 : Bk w2 w1.heap.size 25 #[.int .u32 (xts : Int), .int .u32 (xfs : Int), .slice xA xn xc, .slice xB xm xd] := by rw [← hw2]; exact Bk.new w1 _ _
  have hbb : Below w.heap.size w w2 := HB1.out.trans (hb2.mono HB1.out.size)
  have k1 := HK1.out.below hb2 HK1.out.lt
  have k2' := k2
  have hsh := HS.out.below hbb
  rw [hw2]
  clear hw2 hM hL g0 g1 HB1
  have HBB := Lib.hid hbb
  have K1 := Lib.hid k1
  have K2 := Lib.hid k2
  have HSH := Lib.hid hsh
  have c0 := k1.cell 0
  have c1 := k1.cell 1
  have c2 := k1.cell 2
  have c3 := k1.cell 3
  have d0 := k2.cell 0
  have d1 := k2.cell 1
  have d2 := k2.cell 2
  have d3 := k2.cell 3
  clear hbb k1 k2 k2' hb2 hsh
  go_upto_region 10 with (fail)
  have G0 : ∀ w', Below w2.heap.size w2 w' → w'.cell? ⟨g, 0, none⟩ = some (.int .i64 (room : Int)) := fun w' h => (HSH.out.below h).1.cell 0
  have G1 : ∀ w', Below w2.heap.size w2 w' → w'.cell? ⟨g, 1, none⟩ = some (.map (some b)) := fun w' h => (HSH.out.below h).1.cell 1
  have GL : ∀ w' ty, Below w2.heap.size w2 w' → (Builtin.len_ #[52] ty #[.map (some b)]).run Try.prog w' = .ok (.int .i64 (Maps.size D : Int)) w' := fun w' ty h => len_run (HSH.out.below h).2.1 ty
  (refine region_told _ (by kernel_rfl) (by kernel_rfl) (by simp only [putAll, Act.put, List.setIfInBounds_toArray, List.set_cons_zero, List.set_cons_succ, Nat.reduceAdd]; rfl) ?_)
  repeat (refine told_step (fun v _ => v = _) (Stays.eq _) (by intro y w' hw' hd; simp only [depsOf, updG, Region.binds, Nat.reduceAdd, Nat.reduceEqDiff, if_false, if_true, and_true, true_and, forall_const, Array.toList, GTrue] at hd; (try go_split_ands); unfold toldAt; go_simp; exact ⟨Below.refl _ _, rfl⟩) ?_)
  (refine told_nil ?_; intro y w4 hw4 hd)
  have e14 : y 14 = .bool false := hd 14 (by decide)
  rw [e14]
  clear hd e14 G0 G1 GL
  obtain ⟨w5, hb5⟩ : ∃ w5, Below w2.heap.size w2 w5 ∧ w5 = w4 := ⟨w4, hw4, rfl⟩
  obtain ⟨hb5, rfl⟩ := hb5
  clear hw4
  have hbb5 := HBB.out.trans (hb5.mono HBB.out.size)
  have k5 := K1.out.below hb5 K1.out.lt
  have hs5 := HSH.out.below hb5
  have C0 : ∀ w', Below w5.heap.size w5 w' → w'.cell? ⟨w.heap.size, 0, none⟩ = some (.int .u32 (ts : Int)) := fun w' h => (k5.below h k5.lt).cell 0
  have C1 : ∀ w', Below w5.heap.size w5 w' → w'.cell? ⟨w.heap.size, 1, none⟩ = some (.int .u32 (fs : Int)) := fun w' h => (k5.below h k5.lt).cell 1
  have C2 : ∀ w', Below w5.heap.size w5 w' → w'.cell? ⟨w.heap.size, 2, none⟩ = some (.slice A vn c) := fun w' h => (k5.below h k5.lt).cell 2
  have C3 : ∀ w', Below w5.heap.size w5 w' → w'.cell? ⟨w.heap.size, 3, none⟩ = some (.slice B m d) := fun w' h => (k5.below h k5.lt).cell 3
  have G1 : ∀ w', Below w5.heap.size w5 w' → w'.cell? ⟨g, 1, none⟩ = some (.map (some b)) := fun w' h => (hs5.below h).1.cell 1
  have HV5 := HVR.out.below hbb5
  have HCP : ∀ w', Below w5.heap.size w5 w' → Calls Try.prog 27 #[.agg #[.int .u32 (ts : Int), .int .u32 (fs : Int), .slice A vn c, .slice B m d]] w' fun e w'' => ∃ v', e = .returned (vv v') ∧ same ⟨ts, fs, A, vn, c, ds, B, m, d, ss⟩ v' ∧ VO w'' w'.heap.size v' ∧ Below w'.heap.size w' w'' := fun w' h => copied_any w' ⟨ts, fs, A, vn, c, ds, B, m, d, ss⟩ (HV5.below h) (by show vn ≤ _; omega) (by show m ≤ _; omega)
  have HB5 := Lib.hid hbb5
  have HS5 := Lib.hid hs5
  clear hb5 hbb5 k5 hs5 HV5
  go_upto_region 12 with (fail)
  (refine region_told_tail 7 _ (by kernel_rfl) (by kernel_rfl) (by simp only [List.take_succ_cons, List.take_zero, putAll, Act.put, List.setIfInBounds_toArray, List.set_cons_zero, List.set_cons_succ, Nat.reduceAdd]; rfl) ?_; simp only [List.take_succ_cons, List.take_zero, List.drop_succ_cons, List.drop_zero])
  iterate 6 (refine told_step (fun v _ => v = _) (Stays.eq _) (by intro y w' hw' hd; simp only [depsOf, updG, Region.binds, Nat.reduceAdd, Nat.reduceEqDiff, if_false, if_true, and_true, true_and, forall_const, Array.toList, GTrue] at hd; (try go_split_ands); unfold toldAt; go_simp; exact ⟨Below.refl _ _, rfl⟩) ?_)
  (refine told_step (GVl w5.heap.size ⟨ts, fs, A, vn, c, ds, B, m, d, ss⟩) (GVl.stays _ _) (by intro y w' hw' hd; simp only [depsOf, updG, Region.binds, Nat.reduceAdd, Nat.reduceEqDiff, if_false, if_true, and_true, true_and, forall_const, Array.toList, GTrue] at hd; (try go_split_ands); unfold toldAt; go_simp; refine ⟨Below.refl _ _, ?_⟩; exact (HCP w' hw').mono fun e w'' ⟨v', he, hsm, ho, hb⟩ => ⟨_, he, hb, v', rfl, hsm, ho.lower hw'.size⟩) ?_)
  (refine told_nil ?_; intro z w6 hw6 hd)
  have e3 : z 3 = .map (some b) := hd 3 (by decide)
  have e4 : z 4 = .int .i64 s := hd 4 (by decide)
  obtain ⟨v', e6, hsm, ho⟩ : GVl w5.heap.size ⟨ts, fs, A, vn, c, ds, B, m, d, ss⟩ (z 6) w6 := hd 6 (by decide)
  rw [e3, e4, e6]
  have hs6 := HS5.out.below hw6
  have HB6 := Lib.hid (HB5.out.trans (hw6.mono HB5.out.size))
  have HW6 := Lib.hid hw6
  have HO := Lib.hid (And.intro hsm ho)
  have HS6 := Lib.hid hs6
  clear hd e3 e4 e6 C0 C1 C2 C3 G1 HCP hw6 hsm ho hs6 K1 K2 HSH HBB HS
  go_wp2_with (at_mapUpdate; refine wpList_mapUpdate_own _ rfl _ _ _ 52 rfl 3 25 keyI Try.underlying52 RV b n D rfl HS6.out.2.1 (by unfold maxLen; omega) (.int .i64 s) (vv v') _ rfl rfl (Go.Maps.keyOf_int_mk Try.underlying3 hs) _ [] rfl ?_; intro w7 hown7 hg7; replace hg7 := Lib.hid hg7; replace hown7 := Lib.hid hown7)
  go_ret
  have hbs : b < w.heap.size := HBLT.out
  have hlt := HB5.out.size
  refine ⟨v', rfl, HO.out.1, (HO.out.2.lower hlt).grown hg7.out (fun b' e => by cases e; exact hbs), ⟨HS6.out.1.grown hg7.out (by simpa using HS6.out.2.2), hown7.out, HS6.out.2.2⟩, gtr (gof HB6.out _) hg7.out⟩
set_option maxHeartbeats 2000000 in
theorem put_newer (w : World) {g room b n : Nat} {D : DataW Value} (h : SH w g room b n D) (hn : n < 1000000) {s : Int} (hs : I64w s) (v x : Vl) (hv : VR w v) (hhas : Maps.has D (.int .i64 s) = true) (hgv : gv D s = vv x) (hneg : ¬ s < 0) (hl : v.n ≤ 2048) (hl2 : v.m ≤ 128) (hnew : newB v x = true) :
    Calls Try.prog 11 #[.pointer (some ⟨g, 0, none⟩), .int .i64 s, vv v] w (PUT w g room b n D s v) := by
  have hN := fun w => newer_any w v x
  rw [hnew] at hN
  clear hnew
  have HVR := Lib.hid hv
  have HBLT := Lib.hid h.2.1.lt
  clear hv
  obtain ⟨ts, fs, A, vn, c, ds, B, m, d, ss⟩ := v
  obtain ⟨xts, xfs, xA, xn, xc, xds, xB, xm, xd, xss⟩ := x
  have HS := Lib.hid h
  clear h
  replace hl : vn ≤ 2048 := hl
  replace hl2 : m ≤ 128 := hl2
  unfold vv at hgv hN ⊢
  have a1 : ¬ (2048 : Int) < (vn : Int) := by omega
  have a2 : ¬ (128 : Int) < (m : Int) := by omega
  go_enter Try.func11, Try.ntmps11
  go_upto_region 1 with (fail)
  obtain ⟨w1, hw1⟩ : ∃ y, w.alloc (.cells #[.int .u32 (ts : Int), .int .u32 (fs : Int), .slice A vn c, .slice B m d] 25) = y := ⟨_, rfl⟩
  have hb1 : Below w.heap.size w w1 := by rw [← hw1]; exact (Below.refl _ _).alloc (Nat.le_refl _) _
  have k1 : Bk w1 w.heap.size 25 #[.int .u32 (ts : Int), .int .u32 (fs : Int), .slice A vn c, .slice B m d] := by rw [← hw1]; exact Bk.new w _ _
  have hz1 : w1.heap.size = w.heap.size + 1 := by rw [← hw1]; simp
  rw [hw1]
  clear hw1
  have hM := made_any w1 (HS.out.below hb1).1
  have hL := look_run (HS.out.below hb1).2.1 hs
  rw [hgv, hhas] at hL
  have g0 := (HS.out.below hb1).1.cell 0
  have g1 := (HS.out.below hb1).1.cell 1
  have HB1 := Lib.hid hb1
  have HZ1 := Lib.hid hz1
  have HK1 := Lib.hid k1
  clear hb1 hz1 k1
  go_upto_region 4 with (go_at_call 26; refine hM.mono ?_; rintro e w2 ⟨rfl, rfl⟩)
  obtain ⟨w2, hw2⟩ : ∃ y, w1.alloc (.cells #[.int .u32 (xts : Int), .int .u32 (xfs : Int), .slice xA xn xc, .slice xB xm xd] 25) = y := ⟨_, rfl⟩
  have hb2 : Below w1.heap.size w1 w2 := by rw [← hw2]; exact (Below.refl _ _).alloc (Nat.le_refl _) _
  have k2 : Bk w2 w1.heap.size 25 #[.int .u32 (xts : Int), .int .u32 (xfs : Int), .slice xA xn xc, .slice xB xm xd] := by rw [← hw2]; exact Bk.new w1 _ _
  have hbb : Below w.heap.size w w2 := HB1.out.trans (hb2.mono HB1.out.size)
  have k1 := HK1.out.below hb2 HK1.out.lt
  have k2' := k2
  have hsh := HS.out.below hbb
  rw [hw2]
  clear hw2 hM hL g0 g1 HB1
  have HBB := Lib.hid hbb
  have K1 := Lib.hid k1
  have K2 := Lib.hid k2
  have HSH := Lib.hid hsh
  have c0 := k1.cell 0
  have c1 := k1.cell 1
  have c2 := k1.cell 2
  have c3 := k1.cell 3
  have d0 := k2.cell 0
  have d1 := k2.cell 1
  have d2 := k2.cell 2
  have d3 := k2.cell 3
  clear hbb k1 k2 k2' hb2 hsh
  go_upto_region 10 with (go_at_call 7; refine (hN _).mono ?_; rintro e w5 ⟨rfl, hb5⟩)
  have hsh5 := HSH.out.below hb5
  have HSH5 := Lib.hid hsh5
  have HBB5 := Lib.hid (HBB.out.trans (hb5.mono HBB.out.size))
  have K15 := Lib.hid (K1.out.below hb5 K1.out.lt)
  have K25 := Lib.hid (K2.out.below hb5 K2.out.lt)
  clear HSH HBB K1 K2 c0 c1 c2 c3 d0 d1 d2 d3 hN hsh5 hb5
  obtain ⟨w2, rfl⟩ : ∃ q, q = w5 := ⟨_, rfl⟩
  have HSH := HSH5
  have HBB := HBB5
  have K1 := K15
  have K2 := K25
  clear HSH5 HBB5 K15 K25
  (refine region_told _ (by kernel_rfl) (by kernel_rfl) (by simp only [putAll, Act.put, List.setIfInBounds_toArray, List.set_cons_zero, List.set_cons_succ, Nat.reduceAdd]; rfl) ?_)
  iterate 3 (refine told_step (fun v _ => v = _) (Stays.eq _) (by intro y w' hw' hd; simp only [depsOf, updG, Region.binds, Nat.reduceAdd, Nat.reduceEqDiff, if_false, if_true, and_true, true_and, forall_const, Array.toList, GTrue] at hd; (try go_split_ands); unfold toldAt; go_simp; exact ⟨Below.refl _ _, rfl⟩) ?_)
  iterate 10 (refine told_step (fun v _ => v = undef) (Stays.eq _) (by intro y w' hw' hd; simp only [depsOf, updG, Region.binds, Nat.reduceAdd, Nat.reduceEqDiff, if_false, if_true, and_true, true_and, forall_const, Array.toList, GTrue] at hd; (try go_split_ands); unfold toldAt; go_simp) ?_)
  repeat (refine told_step (fun v _ => v = _) (Stays.eq _) (by intro y w' hw' hd; simp only [depsOf, updG, Region.binds, Nat.reduceAdd, Nat.reduceEqDiff, if_false, if_true, and_true, true_and, forall_const, Array.toList, GTrue] at hd; (try go_split_ands); unfold toldAt; go_simp; exact ⟨Below.refl _ _, rfl⟩) ?_)
  (refine told_nil ?_; intro y w4 hw4 hd)
  have e14 : y 14 = .bool false := hd 14 (by decide)
  rw [e14]
  clear hd e14
  obtain ⟨w5, hb5⟩ : ∃ w5, Below w2.heap.size w2 w5 ∧ w5 = w4 := ⟨w4, hw4, rfl⟩
  obtain ⟨hb5, rfl⟩ := hb5
  clear hw4
  have hbb5 := HBB.out.trans (hb5.mono HBB.out.size)
  have k5 := K1.out.below hb5 K1.out.lt
  have hs5 := HSH.out.below hb5
  have C0 : ∀ w', Below w5.heap.size w5 w' → w'.cell? ⟨w.heap.size, 0, none⟩ = some (.int .u32 (ts : Int)) := fun w' h => (k5.below h k5.lt).cell 0
  have C1 : ∀ w', Below w5.heap.size w5 w' → w'.cell? ⟨w.heap.size, 1, none⟩ = some (.int .u32 (fs : Int)) := fun w' h => (k5.below h k5.lt).cell 1
  have C2 : ∀ w', Below w5.heap.size w5 w' → w'.cell? ⟨w.heap.size, 2, none⟩ = some (.slice A vn c) := fun w' h => (k5.below h k5.lt).cell 2
  have C3 : ∀ w', Below w5.heap.size w5 w' → w'.cell? ⟨w.heap.size, 3, none⟩ = some (.slice B m d) := fun w' h => (k5.below h k5.lt).cell 3
  have G1 : ∀ w', Below w5.heap.size w5 w' → w'.cell? ⟨g, 1, none⟩ = some (.map (some b)) := fun w' h => (hs5.below h).1.cell 1
  have HV5 := HVR.out.below hbb5
  have HCP : ∀ w', Below w5.heap.size w5 w' → Calls Try.prog 27 #[.agg #[.int .u32 (ts : Int), .int .u32 (fs : Int), .slice A vn c, .slice B m d]] w' fun e w'' => ∃ v', e = .returned (vv v') ∧ same ⟨ts, fs, A, vn, c, ds, B, m, d, ss⟩ v' ∧ VO w'' w'.heap.size v' ∧ Below w'.heap.size w' w'' := fun w' h => copied_any w' ⟨ts, fs, A, vn, c, ds, B, m, d, ss⟩ (HV5.below h) (by show vn ≤ _; omega) (by show m ≤ _; omega)
  have HB5 := Lib.hid hbb5
  have HS5 := Lib.hid hs5
  clear hb5 hbb5 k5 hs5 HV5
  go_upto_region 12 with (fail)
  (refine region_told_tail 7 _ (by kernel_rfl) (by kernel_rfl) (by simp only [List.take_succ_cons, List.take_zero, putAll, Act.put, List.setIfInBounds_toArray, List.set_cons_zero, List.set_cons_succ, Nat.reduceAdd]; rfl) ?_; simp only [List.take_succ_cons, List.take_zero, List.drop_succ_cons, List.drop_zero])
  iterate 6 (refine told_step (fun v _ => v = _) (Stays.eq _) (by intro y w' hw' hd; simp only [depsOf, updG, Region.binds, Nat.reduceAdd, Nat.reduceEqDiff, if_false, if_true, and_true, true_and, forall_const, Array.toList, GTrue] at hd; (try go_split_ands); unfold toldAt; go_simp; exact ⟨Below.refl _ _, rfl⟩) ?_)
  (refine told_step (GVl w5.heap.size ⟨ts, fs, A, vn, c, ds, B, m, d, ss⟩) (GVl.stays _ _) (by intro y w' hw' hd; simp only [depsOf, updG, Region.binds, Nat.reduceAdd, Nat.reduceEqDiff, if_false, if_true, and_true, true_and, forall_const, Array.toList, GTrue] at hd; (try go_split_ands); unfold toldAt; go_simp; refine ⟨Below.refl _ _, ?_⟩; exact (HCP w' hw').mono fun e w'' ⟨v', he, hsm, ho, hb⟩ => ⟨_, he, hb, v', rfl, hsm, ho.lower hw'.size⟩) ?_)
  (refine told_nil ?_; intro z w6 hw6 hd)
  have e3 : z 3 = .map (some b) := hd 3 (by decide)
  have e4 : z 4 = .int .i64 s := hd 4 (by decide)
  obtain ⟨v', e6, hsm, ho⟩ : GVl w5.heap.size ⟨ts, fs, A, vn, c, ds, B, m, d, ss⟩ (z 6) w6 := hd 6 (by decide)
  rw [e3, e4, e6]
  have hs6 := HS5.out.below hw6
  have HB6 := Lib.hid (HB5.out.trans (hw6.mono HB5.out.size))
  have HW6 := Lib.hid hw6
  have HO := Lib.hid (And.intro hsm ho)
  have HS6 := Lib.hid hs6
  clear hd e3 e4 e6 C0 C1 C2 C3 G1 HCP hw6 hsm ho hs6 K1 K2 HSH HBB HS
  go_wp2_with (at_mapUpdate; refine wpList_mapUpdate_own _ rfl _ _ _ 52 rfl 3 25 keyI Try.underlying52 RV b n D rfl HS6.out.2.1 (by unfold maxLen; omega) (.int .i64 s) (vv v') _ rfl rfl (Go.Maps.keyOf_int_mk Try.underlying3 hs) _ [] rfl ?_; intro w7 hown7 hg7; replace hg7 := Lib.hid hg7; replace hown7 := Lib.hid hown7)
  go_ret
  have hbs : b < w.heap.size := HBLT.out
  have hlt := HB5.out.size
  refine ⟨v', rfl, HO.out.1, (HO.out.2.lower hlt).grown hg7.out (fun b' e => by cases e; exact hbs), ⟨HS6.out.1.grown hg7.out (by simpa using HS6.out.2.2), hown7.out, HS6.out.2.2⟩, gtr (gof HB6.out _) hg7.out⟩
end Go.Proofs.Ytkmabfdnekphnaa
