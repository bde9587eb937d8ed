/- Values: what a value's four cells hold; which is newer; a value in new memory. -/
import Derived.Test.YtkmabfdnekphnaaN1
import Derived.Test.YtkmabfdnekphnaaTd
import Derived.Test.YtkmabfdnekphnaaTt
import Derived.Deep.Cut
import Derived.Deep.MidRow
import Derived.RegionTactic
import Derived.ChangeAlike
namespace Go.Proofs.Ytkmabfdnekphnaa
set_option linter.unusedSimpArgs false
set_option linter.unusedVariables false
set_option maxRecDepth 100000
open Go.RowKit
attribute [local go_sem] toldUpon_value toldUpon_skip toldUpon_enter

/-- a value: its times, its data, its signature, and where these lie -/
structure Vl where
  ts : Nat
  fs : Nat
  A : Option Addr
  n : Nat
  c : Nat
  ds : List Nat
  B : Option Addr
  m : Nat
  d : Nat
  ss : List Nat
def vv (v : Vl) : Value := .agg #[.int .u32 (v.ts : Int), .int .u32 (v.fs : Int), .slice v.A v.n v.c, .slice v.B v.m v.d]
/-- what a value says -/
def same (v v' : Vl) : Prop := v.ts = v'.ts ∧ v.fs = v'.fs ∧ v.ds = v'.ds ∧ v.ss = v'.ss ∧ v.n = v'.n ∧ v.m = v'.m
theorem same.rfl' (v : Vl) : same v v := ⟨rfl, rfl, rfl, rfl, rfl, rfl⟩
theorem same.trans {a b c : Vl} (h : same a b) (h' : same b c) : same a c := by
  obtain ⟨h1, h2, h3, h4, h5, h6⟩ := h
  obtain ⟨k1, k2, k3, k4, k5, k6⟩ := h'
  exact ⟨h1.trans k1, h2.trans k2, h3.trans k3, h4.trans k4, h5.trans k5, h6.trans k6⟩
theorem same.symm {a b : Vl} (h : same a b) : same b a := by
  obtain ⟨h1, h2, h3, h4, h5, h6⟩ := h
  exact ⟨h1.symm, h2.symm, h3.symm, h4.symm, h5.symm, h6.symm⟩
/-- a value that lies in memory -/
def VR (w : World) (v : Vl) : Prop := Rd .u8 w v.A v.n v.c v.ds ∧ Rd .u8 w v.B v.m v.d v.ss ∧ v.ts < 4294967296 ∧ v.fs < 4294967296 ∧ (∀ x ∈ v.ds, x < 256) ∧ (∀ x ∈ v.ss, x < 256)
theorem VR.below {w w' : World} {v : Vl} (h : VR w v) (hb : Below w.heap.size w w') : VR w' v := ⟨h.1.below hb, h.2.1.below hb, h.2.2⟩
/-- .. in blocks of its own -/
def VO (w : World) (base : Nat) (v : Vl) : Prop := Own .u8 5 w base v.A v.n v.c v.ds ∧ Own .u8 5 w base v.B v.m v.d v.ss
theorem VO.below {w w' : World} {base : Nat} {v : Vl} (h : VO w base v) (hb : Below w.heap.size w w') : VO w' base v := ⟨h.1.below hb, h.2.below hb⟩
theorem VO.lower {w : World} {base b' : Nat} {v : Vl} (h : VO w base v) (hb : b' ≤ base) : VO w b' v := ⟨h.1.lower hb, h.2.lower hb⟩
/-- is a value newer? -/
def newB (a b : Vl) : Bool := decide (b.fs < a.fs) || (decide (a.fs = b.fs) && decide (b.ts < a.ts))
theorem bool_cases (b : Bool) : b = true ∨ b = false := by cases b <;> simp
set_option maxHeartbeats 1000000 in
theorem newer_any (w : World) (a b : Vl) : Calls Try.prog 7 #[vv a, vv b] w fun e w' => e = .returned (.bool (newB a b)) ∧ Below w.heap.size w w' := by
  have H := Lib.hid (show newB a b = (decide (b.fs < a.fs) || (decide (a.fs = b.fs) && decide (b.ts < a.ts))) from rfl)
  obtain ⟨ts, fs, A, n, c, ds, B, m, d, ss⟩ := a
  obtain ⟨ts', fs', A', n', c', ds', B', m', d', ss'⟩ := b
  unfold vv
  replace H := Lib.hid (H.out.trans (show _ = (decide (fs' < fs) || (decide (fs = fs') && decide (ts' < ts))) from rfl))
  by_cases h1 : fs' < fs
  · have t1 : (fs' : Int) < (fs : Int) := by omega
    have HR := Lib.hid (H.out.trans (show _ = true by simp [h1]))
    clear h1 H
    go_enter Try.func7, Try.ntmps7
    go_wp2_with fail
    go_ret
    exact ⟨by rw [HR.out]; rfl, ((Below.refl _ _).alloc (Nat.le_refl _) _).alloc (by simp) _⟩
  · have t1 : ¬ (fs' : Int) < (fs : Int) := by omega
    by_cases h2 : fs = fs'
    · subst h2
      have t2 : ((fs : Int) == (fs : Int)) = true := by simp
      by_cases h3 : ts' < ts
      · have t3 : (ts' : Int) < (ts : Int) := by omega
        have HR := Lib.hid (H.out.trans (show _ = true by simp [h3]))
        clear h1 h3 H
        go_enter Try.func7, Try.ntmps7
        go_wp2_with fail
        go_ret
        exact ⟨by rw [HR.out]; rfl, ((Below.refl _ _).alloc (Nat.le_refl _) _).alloc (by simp) _⟩
      · have t3 : ¬ (ts' : Int) < (ts : Int) := by omega
        have HR := Lib.hid (H.out.trans (show _ = false by simp [h3]))
        clear h1 h3 H
        go_enter Try.func7, Try.ntmps7
        go_wp2_with fail
        go_ret
        exact ⟨by rw [HR.out]; rfl, ((Below.refl _ _).alloc (Nat.le_refl _) _).alloc (by simp) _⟩
    · have t2 : ((fs : Int) == (fs' : Int)) = false := by simp; omega
      have HR := Lib.hid (H.out.trans (show _ = false by simp [h1, h2]))
      clear h1 h2 H
      go_enter Try.func7, Try.ntmps7
      go_wp2_with fail
      go_ret
      exact ⟨by rw [HR.out]; rfl, ((Below.refl _ _).alloc (Nat.le_refl _) _).alloc (by simp) _⟩
theorem info_u8 : (Try.prog.info? 5).map (fun i => (i.zero, i.size, i.bytes)) = some (some (.int .u8 0), 1, 1) := by kernel_rfl
set_option maxHeartbeats 1000000 in
theorem clone_any (w : World) {A : Option Addr} {n c : Nat} {xs : List Nat} (h : Rd .u8 w A n c xs) (hn : n ≤ 140737488355328) :
    Calls Try.prog 34 #[.slice A n c] w fun e w' => ∃ A' c', e = .returned (.slice A' n c') ∧ Own .u8 5 w' w.heap.size A' n c' xs ∧ Below w.heap.size w w' := by
  obtain ⟨i0, hi0, hz0, hz1, hz2⟩ := info_parts info_u8
  have HR := Lib.hid h
  have q0 := fun (w : World) (a : Option Addr) (n c : Nat) => Lib.run_eql_slice_nil (P := Try.prog) w _ _ a n c 0 0 Try.underlying23
  rcases A with _ | ad
  · obtain rfl : n = 0 := by
      rcases Nat.eq_zero_or_pos n with h0 | h0
      · exact h0
      · obtain ⟨ad, h1, _⟩ := h.form h0; cases h1
    obtain rfl : xs = [] := List.eq_nil_of_length_eq_zero h.len
    clear h
    go_enter Try.func34, Try.ntmps34
    go_wp2_with fail
    go_ret
    exact ⟨none, 0, rfl, Own.nil _ _ _ _, Below.refl _ _⟩
  · clear h
    go_enter Try.func34, Try.ntmps34
    go_upto_region 3 with (fail)
    have ho : Own .u8 5 (w.alloc (.cells #[] 5)) w.heap.size (some ⟨w.heap.size, 0, none⟩) 0 0 [] := Own.of_bk (Bk.new w _ _) (Nat.le_refl _) rfl (by omega)
    go_wp2_with (at_builtin; refine wpList_append_rd _ rfl (.tmp 5) (.tmp 6) _ rfl .u8 w.heap.size _ i0 _ 1 Try.underlying23 hi0 hz0 hz1 hz2 rfl (some ⟨w.heap.size, 0, none⟩) 0 0 [] rfl ho (some ad) n c xs rfl (HR.out.alloc _) (by unfold maxLen; omega) (by omega) (by simp) ?_)
    intro A' c' w4 ho4 hb4 hs4 hk4
    go_wp2_with fail
    go_ret
    exact ⟨A', c', rfl, ho4, ((Below.refl _ _).alloc (Nat.le_refl _) _).trans hb4⟩
theorem Own.low {k : IntKind} {e : TypeId} {w : World} {base n c : Nat} {A : Option Addr} {xs : List Nat} (h : Own k e w base A n c xs) {p : Addr} (hp : p.block < base) (u : Value) : Own k e (w.setCell p u) base A n c xs := by
  refine ⟨h.1, ?_⟩
  rcases h.2 with hn | ⟨g, cap, cur, h1, hg, hh, rest⟩
  · exact .inl hn
  · exact .inr ⟨g, cap, cur, h1, hg, (Below.heap_setCell w p u g (by omega)).trans hh, rest⟩
def GOwn (base n : Nat) (xs : List Nat) : GFact := fun v w => ∃ A c, v = .slice A n c ∧ Own .u8 5 w base A n c xs
theorem GOwn.stays (base n : Nat) (xs : List Nat) : Stays (GOwn base n xs) := fun _ _ _ hb ⟨A, c, e, h⟩ => ⟨A, c, e, h.below hb⟩
set_option maxHeartbeats 2000000 in
theorem copied_any (w : World) (v : Vl) (h : VR w v) (hn : v.n ≤ 140737488355328) (hm : v.m ≤ 140737488355328) :
    Calls Try.prog 27 #[vv v] w fun e w' => ∃ v', e = .returned (vv v') ∧ same v v' ∧ VO w' w.heap.size v' ∧ Below w.heap.size w w' := by
  obtain ⟨ts, fs, A, n, c, ds, B, m, d, ss⟩ := v
  have hA : Rd .u8 w A n c ds := h.1
  have hB : Rd .u8 w B m d ss := h.2.1
  replace hn : n ≤ 140737488355328 := hn
  replace hm : m ≤ 140737488355328 := hm
  clear h
  unfold vv
  go_enter Try.func27, Try.ntmps27
  go_upto_region 1 with (fail)
  obtain ⟨w1, hw1⟩ : ∃ x, (w.alloc (.cells #[.int .u32 (ts : Int), .int .u32 (fs : Int), .slice A n c, .slice B m d] 25)).alloc (.cells #[.int .u32 0, .int .u32 0, .slice none 0 0, .slice none 0 0] 25) = x := ⟨_, rfl⟩
  have hb1 : Below w.heap.size w w1 := by rw [← hw1]; exact ((Below.refl _ _).alloc (Nat.le_refl _) _).alloc (by simp) _
  have k1 : Bk w1 w.heap.size 25 #[.int .u32 (ts : Int), .int .u32 (fs : Int), .slice A n c, .slice B m d] := by rw [← hw1]; exact (Bk.new w _ _).alloc _
  have k2 : Bk w1 (w.heap.size + 1) 25 #[.int .u32 0, .int .u32 0, .slice none 0 0, .slice none 0 0] := by rw [← hw1]; exact Bk.at_new _ _ (by simp)
  have hz : w1.heap.size = w.heap.size + 1 + 1 := by rw [← hw1]; simp
  rw [hw1]
  clear hw1
  have C2 : ∀ w', Below w1.heap.size w1 w' → w'.cell? ⟨w.heap.size, 2, none⟩ = some (.slice A n c) := fun w' h => (k1.below h k1.lt).cell 2
  have C3 : ∀ w', Below w1.heap.size w1 w' → w'.cell? ⟨w.heap.size, 3, none⟩ = some (.slice B m d) := fun w' h => (k1.below h k1.lt).cell 3
  have HA := fun w' (h : Below w1.heap.size w1 w') => clone_any w' (hA.below (hb1.trans (h.mono hb1.size))) hn
  have HB := fun w' (h : Below w1.heap.size w1 w') => clone_any w' (hB.below (hb1.trans (h.mono hb1.size))) hm
  have K1 := Lib.hid k1
  have K2 := Lib.hid k2
  have HZ := Lib.hid hz
  have HW := Lib.hid hb1
  clear hA hB hb1 k1 k2 hz
  (refine region_told_tail 7 _ (by kernel_rfl) (by kernel_rfl) (by simp only [List.take_succ_cons, List.take_zero, putAll, Act.put, List.setIfInBounds_toArray, List.set_cons_zero, List.set_cons_succ, Nat.reduceAdd]; rfl) ?_; simp only [List.take_succ_cons, List.take_zero, List.drop_succ_cons, List.drop_zero])
  iterate 2 (refine told_step (fun v _ => v = _) (Stays.eq _) (by intro y w' hw' hd; simp only [depsOf, updG, Region.binds, Nat.reduceAdd, Nat.reduceEqDiff, if_false, if_true, and_true, true_and, forall_const, Array.toList, GTrue] at hd; (try go_split_ands); unfold toldAt; go_simp; exact ⟨Below.refl _ _, rfl⟩) ?_)
  (refine told_step (GOwn w1.heap.size n ds) (GOwn.stays _ _ _) (by intro y w' hw' hd; simp only [depsOf, updG, Region.binds, Nat.reduceAdd, Nat.reduceEqDiff, if_false, if_true, and_true, true_and, forall_const, Array.toList, GTrue] at hd; (try go_split_ands); unfold toldAt; go_simp; refine ⟨Below.refl _ _, ?_⟩; exact (HA w' hw').mono fun e w'' ⟨A', c', he, ho, hb⟩ => ⟨_, he, hb, A', c', rfl, ho.lower hw'.size⟩) ?_)
  iterate 2 (refine told_step (fun v _ => v = _) (Stays.eq _) (by intro y w' hw' hd; simp only [depsOf, updG, Region.binds, Nat.reduceAdd, Nat.reduceEqDiff, if_false, if_true, and_true, true_and, forall_const, Array.toList, GTrue] at hd; (try go_split_ands); unfold toldAt; go_simp; exact ⟨Below.refl _ _, rfl⟩) ?_)
  (refine told_step (GOwn w1.heap.size m ss) (GOwn.stays _ _ _) (by intro y w' hw' hd; simp only [depsOf, updG, Region.binds, Nat.reduceAdd, Nat.reduceEqDiff, if_false, if_true, and_true, true_and, forall_const, Array.toList, GTrue] at hd; (try go_split_ands); unfold toldAt; go_simp; refine ⟨Below.refl _ _, ?_⟩; exact (HB w' hw').mono fun e w'' ⟨A', c', he, ho, hb⟩ => ⟨_, he, hb, A', c', rfl, ho.lower hw'.size⟩) ?_)
  (refine told_step (fun v _ => v = _) (Stays.eq _) (by intro y w' hw' hd; simp only [depsOf, updG, Region.binds, Nat.reduceAdd, Nat.reduceEqDiff, if_false, if_true, and_true, true_and, forall_const, Array.toList, GTrue] at hd; (try go_split_ands); unfold toldAt; go_simp; exact ⟨Below.refl _ _, rfl⟩) ?_)
  (refine told_nil ?_; intro y w2 hw2 hd)
  obtain ⟨A', c', e2, o2⟩ : GOwn w1.heap.size n ds (y 2) w2 := hd 2 (by decide)
  obtain ⟨B', d', e5, o5⟩ : GOwn w1.heap.size m ss (y 5) w2 := hd 5 (by decide)
  have e6 : y 6 = .pointer (some ⟨w.heap.size, 2, none⟩) := hd 6 (by decide)
  rw [e2, e5, e6]
  have k1 := K1.out.below hw2 K1.out.lt
  have k2 := K2.out.below hw2 K2.out.lt
  have c0 := k1.cell 0
  have c1 := k1.cell 1
  have c2 := k1.cell 2
  have c3 := k1.cell 3
  have d0 := k2.cell 0
  have d1 := k2.cell 1
  have d2 := k2.cell 2
  have d3 := k2.cell 3
  have fz : ∀ o, w2.frozen? ⟨w.heap.size, o, none⟩ = false := fun o => k1.frozen o
  have fz2 : ∀ o, w2.frozen? ⟨w.heap.size + 1, o, none⟩ = false := fun o => k2.frozen o
  have HO2 := Lib.hid o2
  have HO5 := Lib.hid o5
  have HW2 := Lib.hid (HW.out.trans (hw2.mono HW.out.size))
  clear hd e2 e5 e6 o2 o5 k1 k2 HA HB C2 C3 hw2
  go_wp2_with fail
  have hz := HZ.out
  have q1 : ∀ o, (⟨w.heap.size, o, none⟩ : Addr).block < w1.heap.size := fun o => by show w.heap.size < _; omega
  have q2 : ∀ o, (⟨w.heap.size + 1, o, none⟩ : Addr).block < w1.heap.size := fun o => by show w.heap.size + 1 < _; omega
  refine bodyPost_ret (v := .agg #[.int .u32 (ts : Int), .int .u32 (fs : Int), .slice A' n c', .slice B' m d']) (by simp [results, Try.results27, go_sem, c0, c1, c2, c3, d0, d1, d2, d3]) rfl ⟨⟨ts, fs, A', n, c', ds, B', m, d', ss⟩, rfl, ⟨rfl, rfl, rfl, rfl, rfl, rfl⟩, ⟨?_, ?_⟩, ?_⟩
  · exact ((((((HO2.out.low (q1 2) _).low (q1 3) _).low (q2 0) _).low (q2 1) _).low (q2 2) _).low (q2 3) _).lower (by omega)
  · exact ((((((HO5.out.low (q1 2) _).low (q1 3) _).low (q2 0) _).low (q2 1) _).low (q2 2) _).low (q2 3) _).lower (by omega)
  · exact (((((HW2.out.setCell (p := ⟨w.heap.size, 2, none⟩) (Nat.le_refl _) _).setCell (p := ⟨w.heap.size, 3, none⟩) (Nat.le_refl _) _).setCell (p := ⟨w.heap.size + 1, 0, none⟩) (Nat.le_succ _) _).setCell (p := ⟨w.heap.size + 1, 1, none⟩) (Nat.le_succ _) _).setCell (p := ⟨w.heap.size + 1, 2, none⟩) (Nat.le_succ _) _).setCell (p := ⟨w.heap.size + 1, 3, none⟩) (Nat.le_succ _) _
end Go.Proofs.Ytkmabfdnekphnaa
