/- Which of two values is newer: the walk. -/
import Derived.Test.YtkmabfdnekphnaaJ7
namespace Go.Proofs.Ytkmabfdnekphnaa
set_option linter.unusedSimpArgs false
set_option linter.unusedVariables false
set_option maxRecDepth 100000
open Go.RowKit
attribute [local go_sem] toldUpon_value toldUpon_skip toldUpon_enter

theorem newB_self (a : Vl) : newB a a = false := by unfold newB; simp
theorem newB_asym {a b : Vl} (h : newB a b = true) : newB b a = false := by
  unfold newB at h ⊢
  simp only [Bool.or_eq_true, Bool.and_eq_true, decide_eq_true_eq, Bool.or_eq_false_iff, Bool.and_eq_false_iff, decide_eq_false_iff_not] at h ⊢
  omega
theorem newB_total {a b : Vl} (h1 : newB a b = false) (h2 : newB b a = false) : a.fs = b.fs ∧ a.ts = b.ts := by
  unfold newB at h1 h2
  simp only [Bool.or_eq_false_iff, Bool.and_eq_false_iff, decide_eq_false_iff_not] at h1 h2
  omega
theorem newB_trans {a b c : Vl} (h1 : newB a b = true) (h2 : newB b c = true) : newB a c = true := by
  unfold newB at h1 h2 ⊢
  simp only [Bool.or_eq_true, Bool.and_eq_true, decide_eq_true_eq] at h1 h2 ⊢
  omega
theorem newB_ne {a b : Vl} (h : newB a b = true) : ¬ (a.fs = b.fs ∧ a.ts = b.ts) := by
  unfold newB at h
  simp only [Bool.or_eq_true, Bool.and_eq_true, decide_eq_true_eq] at h
  omega
def fourV4 (w' : World) (g : Nat) (ts fs : Nat) (A : Option Addr) (n c : Nat) (B : Option Addr) (m d : Nat) : Prop :=
  w'.cell? ⟨g, 0, none⟩ = some (.int .u32 (ts : Int)) ∧ w'.cell? ⟨g, 1, none⟩ = some (.int .u32 (fs : Int)) ∧ w'.cell? ⟨g, 2, none⟩ = some (.slice A n c) ∧ w'.cell? ⟨g, 3, none⟩ = some (.slice B m d)
set_option maxHeartbeats 4000000 in
theorem walk_ValuesOrder (a b c : Vl) (w : World) (ha : VR w a) (hb : VR w b) (hc : VR w c) : Calls Try.prog 3 #[vv a, vv b, vv c] w fun e w' => e = .returned (.bool true) ∧ Below w.heap.size w w' := by
  have hAB := fun w => newer_any w a b
  have hBA := fun w => newer_any w b a
  have hAA := fun w => newer_any w a a
  have hBC := fun w => newer_any w b c
  have hAC := fun w => newer_any w a c
  rw [newB_self a] at hAA
  have hAl := fun w => valive_any w
  have PA := fun h1 h2 => newB_trans (a := a) (b := b) (c := c) h1 h2
  have PB := fun h1 => newB_asym (a := a) (b := b) h1
  have PC := fun h1 => newB_asym (a := b) (b := a) h1
  have PD := fun h1 h2 => newB_total (a := a) (b := b) h1 h2
  have PE := fun h => newB_ne (a := a) (b := b) h
  have PF := fun h => newB_ne (a := b) (b := a) h
  clear ha hb hc
  generalize newB a b = x at *
  generalize newB b a = y at *
  generalize newB b c = p at *
  generalize newB a c = q at *
  obtain ⟨ts, fs, A, n, c', ds, B, m, d, ss⟩ := a
  obtain ⟨ts2, fs2, A2, n2, c2', ds2, B2, m2, d2, ss2⟩ := b
  obtain ⟨ts3, fs3, A3, n3, c3', ds3, B3, m3, d3, ss3⟩ := c
  unfold vv at *
  have HP := Lib.hid (And.intro PA (And.intro PB (And.intro PC (And.intro PD (And.intro PE PF)))))
  clear PA PB PC PD PE PF
  go_enter Try.func3, Try.ntmps3
  go_upto_region 1 with (fail)
  obtain ⟨w1, hw1⟩ : ∃ z, ((w.alloc (.cells #[.int .u32 (ts : Int), .int .u32 (fs : Int), .slice A n c', .slice B m d] 25)).alloc (.cells #[.int .u32 (ts2 : Int), .int .u32 (fs2 : Int), .slice A2 n2 c2', .slice B2 m2 d2] 25)).alloc (.cells #[.int .u32 (ts3 : Int), .int .u32 (fs3 : Int), .slice A3 n3 c3', .slice B3 m3 d3] 25) = z := ⟨_, rfl⟩
  have hb1 : Below w.heap.size w w1 := by rw [← hw1]; exact (((Below.refl _ _).alloc (Nat.le_refl _) _).alloc (by simp) _).alloc (by simp; omega) _
  have k1 : Bk w1 w.heap.size 25 #[.int .u32 (ts : Int), .int .u32 (fs : Int), .slice A n c', .slice B m d] := by rw [← hw1]; exact ((Bk.new w _ _).alloc _).alloc _
  have k2 : Bk w1 (w.heap.size + 1) 25 #[.int .u32 (ts2 : Int), .int .u32 (fs2 : Int), .slice A2 n2 c2', .slice B2 m2 d2] := by rw [← hw1]; exact (Bk.at_new _ _ (by simp)).alloc _
  have k3 : Bk w1 (w.heap.size + 1 + 1) 25 #[.int .u32 (ts3 : Int), .int .u32 (fs3 : Int), .slice A3 n3 c3', .slice B3 m3 d3] := by rw [← hw1]; exact Bk.at_new _ _ (by simp)
  rw [hw1]
  clear hw1
  have C0 : ∀ w', Below w1.heap.size w1 w' → w'.cell? ⟨w.heap.size, 0, none⟩ = some (.int .u32 (ts : Int)) := fun w' h => (k1.below h k1.lt).cell 0
  have C1 : ∀ w', Below w1.heap.size w1 w' → w'.cell? ⟨w.heap.size, 1, none⟩ = some (.int .u32 (fs : Int)) := fun w' h => (k1.below h k1.lt).cell 1
  have C2 : ∀ w', Below w1.heap.size w1 w' → w'.cell? ⟨w.heap.size, 2, none⟩ = some (.slice A n c') := fun w' h => (k1.below h k1.lt).cell 2
  have C3 : ∀ w', Below w1.heap.size w1 w' → w'.cell? ⟨w.heap.size, 3, none⟩ = some (.slice B m d) := fun w' h => (k1.below h k1.lt).cell 3
  have D0 : ∀ w', Below w1.heap.size w1 w' → w'.cell? ⟨w.heap.size + 1, 0, none⟩ = some (.int .u32 (ts2 : Int)) := fun w' h => (k2.below h k2.lt).cell 0
  have D1 : ∀ w', Below w1.heap.size w1 w' → w'.cell? ⟨w.heap.size + 1, 1, none⟩ = some (.int .u32 (fs2 : Int)) := fun w' h => (k2.below h k2.lt).cell 1
  have D2 : ∀ w', Below w1.heap.size w1 w' → w'.cell? ⟨w.heap.size + 1, 2, none⟩ = some (.slice A2 n2 c2') := fun w' h => (k2.below h k2.lt).cell 2
  have D3 : ∀ w', Below w1.heap.size w1 w' → w'.cell? ⟨w.heap.size + 1, 3, none⟩ = some (.slice B2 m2 d2) := fun w' h => (k2.below h k2.lt).cell 3
  have K1 := Lib.hid k1
  have K2 := Lib.hid k2
  have K3 := Lib.hid k3
  have HB := Lib.hid hb1
  clear hb1 k1 k2 k3
  (refine region_told _ (by kernel_rfl) (by kernel_rfl) (by simp only [putAll, Act.put, List.setIfInBounds_toArray, List.set_cons_zero, List.set_cons_succ, Nat.reduceAdd]; rfl) ?_)
  iterate 2 (refine told_step (fun v _ => v = _) (Stays.eq _) (by intro y w' hw' hd; simp only [depsOf, updG, Region.binds, Nat.reduceAdd, Nat.reduceEqDiff, if_false, if_true, and_true, true_and, forall_const, Array.toList, GTrue] at hd; (try go_split_ands); unfold toldAt; go_simp; exact ⟨Below.refl _ _, rfl⟩) ?_)
  (refine told_step (fun v _ => v = _) (Stays.eq _) (by intro y w' hw' hd; simp only [depsOf, updG, Region.binds, Nat.reduceAdd, Nat.reduceEqDiff, if_false, if_true, and_true, true_and, forall_const, Array.toList, GTrue] at hd; (try go_split_ands); unfold toldAt; go_simp; refine ⟨Below.refl _ _, ?_⟩; exact hAB w') ?_)
  iterate 2 (refine told_step (fun v _ => v = _) (Stays.eq _) (by intro y w' hw' hd; simp only [depsOf, updG, Region.binds, Nat.reduceAdd, Nat.reduceEqDiff, if_false, if_true, and_true, true_and, forall_const, Array.toList, GTrue] at hd; (try go_split_ands); unfold toldAt; go_simp; exact ⟨Below.refl _ _, rfl⟩) ?_)
  (refine told_step (fun v _ => v = _) (Stays.eq _) (by intro y w' hw' hd; simp only [depsOf, updG, Region.binds, Nat.reduceAdd, Nat.reduceEqDiff, if_false, if_true, and_true, true_and, forall_const, Array.toList, GTrue] at hd; (try go_split_ands); unfold toldAt; go_simp; refine ⟨Below.refl _ _, ?_⟩; exact hBA w') ?_)
  iterate 2 (refine told_step (fun v _ => v = _) (Stays.eq _) (by intro y w' hw' hd; simp only [depsOf, updG, Region.binds, Nat.reduceAdd, Nat.reduceEqDiff, if_false, if_true, and_true, true_and, forall_const, Array.toList, GTrue] at hd; (try go_split_ands); unfold toldAt; go_simp; exact ⟨Below.refl _ _, rfl⟩) ?_)
  (refine told_nil ?_; intro z w2 hw2 hd)
  have e6 : z 6 = .bool x := hd 6 (by decide)
  have e7 : z 7 = .bool y := hd 7 (by decide)
  rw [e6, e7]
  clear hd e6 e7 hAB hBA C0 C1 C2 C3 D0 D1 D2 D3
  have FA : ∀ w', Below w1.heap.size w1 w' → fourV4 w' w.heap.size ts fs A n c' B m d := fun w' h => ⟨(K1.out.below h K1.out.lt).cell 0, (K1.out.below h K1.out.lt).cell 1, (K1.out.below h K1.out.lt).cell 2, (K1.out.below h K1.out.lt).cell 3⟩
  have FB : ∀ w', Below w1.heap.size w1 w' → fourV4 w' (w.heap.size + 1) ts2 fs2 A2 n2 c2' B2 m2 d2 := fun w' h => ⟨(K2.out.below h K2.out.lt).cell 0, (K2.out.below h K2.out.lt).cell 1, (K2.out.below h K2.out.lt).cell 2, (K2.out.below h K2.out.lt).cell 3⟩
  have FC : ∀ w', Below w1.heap.size w1 w' → fourV4 w' (w.heap.size + 1 + 1) ts3 fs3 A3 n3 c3' B3 m3 d3 := fun w' h => ⟨(K3.out.below h K3.out.lt).cell 0, (K3.out.below h K3.out.lt).cell 1, (K3.out.below h K3.out.lt).cell 2, (K3.out.below h K3.out.lt).cell 3⟩
  have HA := Lib.hid hw2
  obtain ⟨a0, a1, a2, a3⟩ := FA w2 HA.out
  obtain ⟨b0, b1, b2, b3⟩ := FB w2 HA.out
  obtain ⟨c0, c1, c2, c3⟩ := FC w2 HA.out
  clear hw2
  cases x
  · cases y
    · obtain ⟨rfl, rfl⟩ : fs = fs2 ∧ ts = ts2 := HP.out.2.2.2.1 rfl rfl
      have t1 : ((fs : Int) == (fs : Int)) = true := by simp
      have t2 : ((ts : Int) == (ts : Int)) = true := by simp
      go_wp2_with (first
        | (go_at_call 7; first
            | ((with_reducible refine (hAA _).mono ?_); rintro e wn ⟨rfl, hbn⟩; replace HA := Lib.hid (HA.out.trans (hbn.mono HA.out.size)); obtain ⟨a0, a1, a2, a3⟩ := FA wn HA.out; obtain ⟨b0, b1, b2, b3⟩ := FB wn HA.out; obtain ⟨c0, c1, c2, c3⟩ := FC wn HA.out; clear hbn)
            | ((with_reducible refine (hBC _).mono ?_); rintro e wn ⟨rfl, hbn⟩; replace HA := Lib.hid (HA.out.trans (hbn.mono HA.out.size)); obtain ⟨a0, a1, a2, a3⟩ := FA wn HA.out; obtain ⟨b0, b1, b2, b3⟩ := FB wn HA.out; obtain ⟨c0, c1, c2, c3⟩ := FC wn HA.out; clear hbn)
            | ((with_reducible refine (hAC _).mono ?_); rintro e wn ⟨rfl, hbn⟩; replace HA := Lib.hid (HA.out.trans (hbn.mono HA.out.size)); obtain ⟨a0, a1, a2, a3⟩ := FA wn HA.out; obtain ⟨b0, b1, b2, b3⟩ := FB wn HA.out; obtain ⟨c0, c1, c2, c3⟩ := FC wn HA.out; clear hbn))
        | (go_at_call 8; refine (hAl _).mono ?_; rintro e wn ⟨rfl, hbn⟩; replace HA := Lib.hid (HA.out.trans (hbn.mono HA.out.size)); obtain ⟨a0, a1, a2, a3⟩ := FA wn HA.out; obtain ⟨b0, b1, b2, b3⟩ := FB wn HA.out; obtain ⟨c0, c1, c2, c3⟩ := FC wn HA.out; clear hbn))
      go_ret
      exact ⟨rfl, HB.out.trans (HA.out.mono HB.out.size)⟩
    · have hne := HP.out.2.2.2.2.2 rfl
      replace hne : ¬ (fs2 = fs ∧ ts2 = ts) := hne
      by_cases hf : fs = fs2
      · subst hf
        have t1 : ((fs : Int) == (fs : Int)) = true := by simp
        have t2 : ((ts : Int) == (ts2 : Int)) = false := by simp; omega
        clear hne
        go_wp2_with (first
          | (go_at_call 7; first
              | ((with_reducible refine (hAA _).mono ?_); rintro e wn ⟨rfl, hbn⟩; replace HA := Lib.hid (HA.out.trans (hbn.mono HA.out.size)); obtain ⟨a0, a1, a2, a3⟩ := FA wn HA.out; obtain ⟨b0, b1, b2, b3⟩ := FB wn HA.out; obtain ⟨c0, c1, c2, c3⟩ := FC wn HA.out; clear hbn)
              | ((with_reducible refine (hBC _).mono ?_); rintro e wn ⟨rfl, hbn⟩; replace HA := Lib.hid (HA.out.trans (hbn.mono HA.out.size)); obtain ⟨a0, a1, a2, a3⟩ := FA wn HA.out; obtain ⟨b0, b1, b2, b3⟩ := FB wn HA.out; obtain ⟨c0, c1, c2, c3⟩ := FC wn HA.out; clear hbn)
              | ((with_reducible refine (hAC _).mono ?_); rintro e wn ⟨rfl, hbn⟩; replace HA := Lib.hid (HA.out.trans (hbn.mono HA.out.size)); obtain ⟨a0, a1, a2, a3⟩ := FA wn HA.out; obtain ⟨b0, b1, b2, b3⟩ := FB wn HA.out; obtain ⟨c0, c1, c2, c3⟩ := FC wn HA.out; clear hbn))
          | (go_at_call 8; refine (hAl _).mono ?_; rintro e wn ⟨rfl, hbn⟩; replace HA := Lib.hid (HA.out.trans (hbn.mono HA.out.size)); obtain ⟨a0, a1, a2, a3⟩ := FA wn HA.out; obtain ⟨b0, b1, b2, b3⟩ := FB wn HA.out; obtain ⟨c0, c1, c2, c3⟩ := FC wn HA.out; clear hbn))
        go_ret
        exact ⟨rfl, HB.out.trans (HA.out.mono HB.out.size)⟩
      · have t1 : ((fs : Int) == (fs2 : Int)) = false := by simp; omega
        clear hne hf
        go_wp2_with (first
          | (go_at_call 7; first
              | ((with_reducible refine (hAA _).mono ?_); rintro e wn ⟨rfl, hbn⟩; replace HA := Lib.hid (HA.out.trans (hbn.mono HA.out.size)); obtain ⟨a0, a1, a2, a3⟩ := FA wn HA.out; obtain ⟨b0, b1, b2, b3⟩ := FB wn HA.out; obtain ⟨c0, c1, c2, c3⟩ := FC wn HA.out; clear hbn)
              | ((with_reducible refine (hBC _).mono ?_); rintro e wn ⟨rfl, hbn⟩; replace HA := Lib.hid (HA.out.trans (hbn.mono HA.out.size)); obtain ⟨a0, a1, a2, a3⟩ := FA wn HA.out; obtain ⟨b0, b1, b2, b3⟩ := FB wn HA.out; obtain ⟨c0, c1, c2, c3⟩ := FC wn HA.out; clear hbn)
              | ((with_reducible refine (hAC _).mono ?_); rintro e wn ⟨rfl, hbn⟩; replace HA := Lib.hid (HA.out.trans (hbn.mono HA.out.size)); obtain ⟨a0, a1, a2, a3⟩ := FA wn HA.out; obtain ⟨b0, b1, b2, b3⟩ := FB wn HA.out; obtain ⟨c0, c1, c2, c3⟩ := FC wn HA.out; clear hbn))
          | (go_at_call 8; refine (hAl _).mono ?_; rintro e wn ⟨rfl, hbn⟩; replace HA := Lib.hid (HA.out.trans (hbn.mono HA.out.size)); obtain ⟨a0, a1, a2, a3⟩ := FA wn HA.out; obtain ⟨b0, b1, b2, b3⟩ := FB wn HA.out; obtain ⟨c0, c1, c2, c3⟩ := FC wn HA.out; clear hbn))
        go_ret
        exact ⟨rfl, HB.out.trans (HA.out.mono HB.out.size)⟩
  · obtain rfl : y = false := HP.out.2.1 rfl
    have hne := HP.out.2.2.2.2.1 rfl
    replace hne : ¬ (fs = fs2 ∧ ts = ts2) := hne
    cases p
    · by_cases hf : fs = fs2
      · subst hf
        have t1 : ((fs : Int) == (fs : Int)) = true := by simp
        have t2 : ((ts : Int) == (ts2 : Int)) = false := by simp; omega
        clear hne
        go_wp2_with (first
          | (go_at_call 7; first
              | ((with_reducible refine (hAA _).mono ?_); rintro e wn ⟨rfl, hbn⟩; replace HA := Lib.hid (HA.out.trans (hbn.mono HA.out.size)); obtain ⟨a0, a1, a2, a3⟩ := FA wn HA.out; obtain ⟨b0, b1, b2, b3⟩ := FB wn HA.out; obtain ⟨c0, c1, c2, c3⟩ := FC wn HA.out; clear hbn)
              | ((with_reducible refine (hBC _).mono ?_); rintro e wn ⟨rfl, hbn⟩; replace HA := Lib.hid (HA.out.trans (hbn.mono HA.out.size)); obtain ⟨a0, a1, a2, a3⟩ := FA wn HA.out; obtain ⟨b0, b1, b2, b3⟩ := FB wn HA.out; obtain ⟨c0, c1, c2, c3⟩ := FC wn HA.out; clear hbn)
              | ((with_reducible refine (hAC _).mono ?_); rintro e wn ⟨rfl, hbn⟩; replace HA := Lib.hid (HA.out.trans (hbn.mono HA.out.size)); obtain ⟨a0, a1, a2, a3⟩ := FA wn HA.out; obtain ⟨b0, b1, b2, b3⟩ := FB wn HA.out; obtain ⟨c0, c1, c2, c3⟩ := FC wn HA.out; clear hbn))
          | (go_at_call 8; refine (hAl _).mono ?_; rintro e wn ⟨rfl, hbn⟩; replace HA := Lib.hid (HA.out.trans (hbn.mono HA.out.size)); obtain ⟨a0, a1, a2, a3⟩ := FA wn HA.out; obtain ⟨b0, b1, b2, b3⟩ := FB wn HA.out; obtain ⟨c0, c1, c2, c3⟩ := FC wn HA.out; clear hbn))
        go_ret
        exact ⟨rfl, HB.out.trans (HA.out.mono HB.out.size)⟩
      · have t1 : ((fs : Int) == (fs2 : Int)) = false := by simp; omega
        clear hne hf
        go_wp2_with (first
          | (go_at_call 7; first
              | ((with_reducible refine (hAA _).mono ?_); rintro e wn ⟨rfl, hbn⟩; replace HA := Lib.hid (HA.out.trans (hbn.mono HA.out.size)); obtain ⟨a0, a1, a2, a3⟩ := FA wn HA.out; obtain ⟨b0, b1, b2, b3⟩ := FB wn HA.out; obtain ⟨c0, c1, c2, c3⟩ := FC wn HA.out; clear hbn)
              | ((with_reducible refine (hBC _).mono ?_); rintro e wn ⟨rfl, hbn⟩; replace HA := Lib.hid (HA.out.trans (hbn.mono HA.out.size)); obtain ⟨a0, a1, a2, a3⟩ := FA wn HA.out; obtain ⟨b0, b1, b2, b3⟩ := FB wn HA.out; obtain ⟨c0, c1, c2, c3⟩ := FC wn HA.out; clear hbn)
              | ((with_reducible refine (hAC _).mono ?_); rintro e wn ⟨rfl, hbn⟩; replace HA := Lib.hid (HA.out.trans (hbn.mono HA.out.size)); obtain ⟨a0, a1, a2, a3⟩ := FA wn HA.out; obtain ⟨b0, b1, b2, b3⟩ := FB wn HA.out; obtain ⟨c0, c1, c2, c3⟩ := FC wn HA.out; clear hbn))
          | (go_at_call 8; refine (hAl _).mono ?_; rintro e wn ⟨rfl, hbn⟩; replace HA := Lib.hid (HA.out.trans (hbn.mono HA.out.size)); obtain ⟨a0, a1, a2, a3⟩ := FA wn HA.out; obtain ⟨b0, b1, b2, b3⟩ := FB wn HA.out; obtain ⟨c0, c1, c2, c3⟩ := FC wn HA.out; clear hbn))
        go_ret
        exact ⟨rfl, HB.out.trans (HA.out.mono HB.out.size)⟩
    · obtain rfl : q = true := HP.out.1 rfl rfl
      by_cases hf : fs = fs2
      · subst hf
        have t1 : ((fs : Int) == (fs : Int)) = true := by simp
        have t2 : ((ts : Int) == (ts2 : Int)) = false := by simp; omega
        clear hne
        go_wp2_with (first
          | (go_at_call 7; first
              | ((with_reducible refine (hAA _).mono ?_); rintro e wn ⟨rfl, hbn⟩; replace HA := Lib.hid (HA.out.trans (hbn.mono HA.out.size)); obtain ⟨a0, a1, a2, a3⟩ := FA wn HA.out; obtain ⟨b0, b1, b2, b3⟩ := FB wn HA.out; obtain ⟨c0, c1, c2, c3⟩ := FC wn HA.out; clear hbn)
              | ((with_reducible refine (hBC _).mono ?_); rintro e wn ⟨rfl, hbn⟩; replace HA := Lib.hid (HA.out.trans (hbn.mono HA.out.size)); obtain ⟨a0, a1, a2, a3⟩ := FA wn HA.out; obtain ⟨b0, b1, b2, b3⟩ := FB wn HA.out; obtain ⟨c0, c1, c2, c3⟩ := FC wn HA.out; clear hbn)
              | ((with_reducible refine (hAC _).mono ?_); rintro e wn ⟨rfl, hbn⟩; replace HA := Lib.hid (HA.out.trans (hbn.mono HA.out.size)); obtain ⟨a0, a1, a2, a3⟩ := FA wn HA.out; obtain ⟨b0, b1, b2, b3⟩ := FB wn HA.out; obtain ⟨c0, c1, c2, c3⟩ := FC wn HA.out; clear hbn))
          | (go_at_call 8; refine (hAl _).mono ?_; rintro e wn ⟨rfl, hbn⟩; replace HA := Lib.hid (HA.out.trans (hbn.mono HA.out.size)); obtain ⟨a0, a1, a2, a3⟩ := FA wn HA.out; obtain ⟨b0, b1, b2, b3⟩ := FB wn HA.out; obtain ⟨c0, c1, c2, c3⟩ := FC wn HA.out; clear hbn))
        go_ret
        exact ⟨rfl, HB.out.trans (HA.out.mono HB.out.size)⟩
      · have t1 : ((fs : Int) == (fs2 : Int)) = false := by simp; omega
        clear hne hf
        go_wp2_with (first
          | (go_at_call 7; first
              | ((with_reducible refine (hAA _).mono ?_); rintro e wn ⟨rfl, hbn⟩; replace HA := Lib.hid (HA.out.trans (hbn.mono HA.out.size)); obtain ⟨a0, a1, a2, a3⟩ := FA wn HA.out; obtain ⟨b0, b1, b2, b3⟩ := FB wn HA.out; obtain ⟨c0, c1, c2, c3⟩ := FC wn HA.out; clear hbn)
              | ((with_reducible refine (hBC _).mono ?_); rintro e wn ⟨rfl, hbn⟩; replace HA := Lib.hid (HA.out.trans (hbn.mono HA.out.size)); obtain ⟨a0, a1, a2, a3⟩ := FA wn HA.out; obtain ⟨b0, b1, b2, b3⟩ := FB wn HA.out; obtain ⟨c0, c1, c2, c3⟩ := FC wn HA.out; clear hbn)
              | ((with_reducible refine (hAC _).mono ?_); rintro e wn ⟨rfl, hbn⟩; replace HA := Lib.hid (HA.out.trans (hbn.mono HA.out.size)); obtain ⟨a0, a1, a2, a3⟩ := FA wn HA.out; obtain ⟨b0, b1, b2, b3⟩ := FB wn HA.out; obtain ⟨c0, c1, c2, c3⟩ := FC wn HA.out; clear hbn))
          | (go_at_call 8; refine (hAl _).mono ?_; rintro e wn ⟨rfl, hbn⟩; replace HA := Lib.hid (HA.out.trans (hbn.mono HA.out.size)); obtain ⟨a0, a1, a2, a3⟩ := FA wn HA.out; obtain ⟨b0, b1, b2, b3⟩ := FB wn HA.out; obtain ⟨c0, c1, c2, c3⟩ := FC wn HA.out; clear hbn))
        go_ret
        exact ⟨rfl, HB.out.trans (HA.out.mono HB.out.size)⟩
end Go.Proofs.Ytkmabfdnekphnaa
