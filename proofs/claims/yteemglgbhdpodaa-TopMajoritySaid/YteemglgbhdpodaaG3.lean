/- The library's stable sort on a short row of samples: an insertion sort. -/
import Derived.Test.YteemglgbhdpodaaG2
namespace Go.Proofs.Yteemglgbhdpodaa
set_option linter.unusedSimpArgs false
set_option linter.unusedVariables false
set_option maxRecDepth 100000
open Go.RowKit
attribute [local go_sem] toldUpon_value toldUpon_skip toldUpon_enter

/-- two neighbours exchanged -/
def swp (ss : List Smp) (j : Nat) : List Smp := (ss.set j (rg ss (j - 1))).set (j - 1) (rg ss j)
theorem swp_len (ss : List Smp) (j : Nat) : (swp ss j).length = ss.length := by simp [swp]
/-- the j-th one brought down to its place -/
def bub (now : Int) : Nat → List Smp → List Smp
  | 0, ss => ss
  | j + 1, ss => if distN (rg ss (j + 1)) now < distN (rg ss j) now then bub now j (swp ss (j + 1)) else ss
theorem bub_len (now : Int) : ∀ (j : Nat) (ss : List Smp), (bub now j ss).length = ss.length
  | 0, _ => rfl
  | j + 1, ss => by
    unfold bub
    split
    · rw [bub_len now j, swp_len]
    · rfl
/-- the first k + 1 of them in order -/
def isn (now : Int) (ss : List Smp) : Nat → List Smp
  | 0 => ss
  | k + 1 => bub now (k + 1) (isn now ss k)
theorem isn_len (now : Int) (ss : List Smp) : ∀ k, (isn now ss k).length = ss.length
  | 0 => rfl
  | k + 1 => by unfold isn; rw [bub_len, isn_len now ss k]
theorem swp_world {w w2 : World} {g b B p q : Nat} {cur : List Smp} {v : Value} (hs : SB w2 g cur) (hpq : p + 1 = q) (hq : q < cur.length) (hB : B ≤ g) (hgb : g ≠ b) (hc : w2.cell? ⟨b, 0, none⟩ = some v) (hbel : Below B w w2) :
    SB (((((((((w2.setCell ⟨g, q * 4, none⟩ (.int .i64 (rg cur p).o)).setCell ⟨g, q * 4 + 1, none⟩ (.int .i64 (rg cur p).d)).setCell ⟨g, q * 4 + 2, none⟩ (.int .i64 (rg cur p).p)).setCell ⟨g, q * 4 + 3, none⟩ (.int .i64 (rg cur p).a)).setCell ⟨g, p * 4, none⟩ (.int .i64 (rg cur q).o)).setCell ⟨g, p * 4 + 1, none⟩ (.int .i64 (rg cur q).d)).setCell ⟨g, p * 4 + 2, none⟩ (.int .i64 (rg cur q).p)).setCell ⟨g, p * 4 + 3, none⟩ (.int .i64 (rg cur q).a)).drew) g (swp cur q) ∧
    Below B w (((((((((w2.setCell ⟨g, q * 4, none⟩ (.int .i64 (rg cur p).o)).setCell ⟨g, q * 4 + 1, none⟩ (.int .i64 (rg cur p).d)).setCell ⟨g, q * 4 + 2, none⟩ (.int .i64 (rg cur p).p)).setCell ⟨g, q * 4 + 3, none⟩ (.int .i64 (rg cur p).a)).setCell ⟨g, p * 4, none⟩ (.int .i64 (rg cur q).o)).setCell ⟨g, p * 4 + 1, none⟩ (.int .i64 (rg cur q).d)).setCell ⟨g, p * 4 + 2, none⟩ (.int .i64 (rg cur q).p)).setCell ⟨g, p * 4 + 3, none⟩ (.int .i64 (rg cur q).a)).drew) ∧
    (((((((((w2.setCell ⟨g, q * 4, none⟩ (.int .i64 (rg cur p).o)).setCell ⟨g, q * 4 + 1, none⟩ (.int .i64 (rg cur p).d)).setCell ⟨g, q * 4 + 2, none⟩ (.int .i64 (rg cur p).p)).setCell ⟨g, q * 4 + 3, none⟩ (.int .i64 (rg cur p).a)).setCell ⟨g, p * 4, none⟩ (.int .i64 (rg cur q).o)).setCell ⟨g, p * 4 + 1, none⟩ (.int .i64 (rg cur q).d)).setCell ⟨g, p * 4 + 2, none⟩ (.int .i64 (rg cur q).p)).setCell ⟨g, p * 4 + 3, none⟩ (.int .i64 (rg cur q).a)).drew).cell? ⟨b, 0, none⟩ = some v ∧
    (((((((((w2.setCell ⟨g, q * 4, none⟩ (.int .i64 (rg cur p).o)).setCell ⟨g, q * 4 + 1, none⟩ (.int .i64 (rg cur p).d)).setCell ⟨g, q * 4 + 2, none⟩ (.int .i64 (rg cur p).p)).setCell ⟨g, q * 4 + 3, none⟩ (.int .i64 (rg cur p).a)).setCell ⟨g, p * 4, none⟩ (.int .i64 (rg cur q).o)).setCell ⟨g, p * 4 + 1, none⟩ (.int .i64 (rg cur q).d)).setCell ⟨g, p * 4 + 2, none⟩ (.int .i64 (rg cur q).p)).setCell ⟨g, p * 4 + 3, none⟩ (.int .i64 (rg cur q).a)).drew).heap.size = w2.heap.size := by
  have k1 := (hs.put (j := q) hq (rg cur p)).put (j := p) (by rw [List.length_set]; omega) (rg cur q)
  have hsw : (cur.set q (rg cur p)).set p (rg cur q) = swp cur q := by unfold swp; rw [← hpq]; rfl
  rw [hsw] at k1
  have hB' : ∀ o, B ≤ (⟨g, o, none⟩ : Addr).block := fun _ => hB
  have k2 := (((((((hbel.setCell (hB' (q * 4)) (.int .i64 (rg cur p).o)).setCell (hB' (q * 4 + 1)) (.int .i64 (rg cur p).d)).setCell (hB' (q * 4 + 2)) (.int .i64 (rg cur p).p)).setCell (hB' (q * 4 + 3)) (.int .i64 (rg cur p).a)).setCell (hB' (p * 4)) (.int .i64 (rg cur q).o)).setCell (hB' (p * 4 + 1)) (.int .i64 (rg cur q).d)).setCell (hB' (p * 4 + 2)) (.int .i64 (rg cur q).p)).setCell (hB' (p * 4 + 3)) (.int .i64 (rg cur q).a)
  have k3 : ∀ (w : World) (o : Nat) (u : Value), (w.setCell ⟨g, o, none⟩ u).cell? ⟨b, 0, none⟩ = w.cell? ⟨b, 0, none⟩ := fun w o u => World.cell?_setCell_other _ _ _ _ (fun e => hgb (congrArg Addr.block e))
  refine ⟨k1.below (Below.drew (Below.refl _ _)), k2.drew, ?_, by simp⟩
  show World.cell? _ _ = _
  rw [World.cell?_drew]
  rw [k3, k3, k3, k3, k3, k3, k3, k3]
  exact hc
def fnv (b : Nat) : Value := .func (.func 79) #[] #[.pointer (some ⟨b, 0, none⟩)]
set_option maxHeartbeats 2000000 in
theorem isort_any (w : World) {B g b c : Nat} {ss : List Smp} (now : Int) (h : SB w g ss) (hB : B ≤ g) (hBw : B ≤ w.heap.size) (hn : ss.length ≤ 8) (hgb : g ≠ b) (hb : b < w.heap.size) (hc : w.cell? ⟨b, 0, none⟩ = some (.int .i64 now)) :
    Calls Try.prog 110 #[.slice (some ⟨g, 0, none⟩) ss.length c, .int .i64 0, .int .i64 (ss.length : Int), .func (.func 79) #[] #[.pointer (some ⟨b, 0, none⟩)]] w fun e w' =>
      e = .returned (.tuple #[]) ∧ SB w' g (isn now ss (ss.length - 1)) ∧ Below B w w' ∧ w'.cell? ⟨b, 0, none⟩ = some (.int .i64 now) ∧ w.heap.size ≤ w'.heap.size := by
  obtain ⟨n, hl⟩ : ∃ n, ss.length = n := ⟨_, rfl⟩
  rw [hl] at hn ⊢
  go_enter Try.func110, Try.ntmps110
  go_wp2_with fail
  go_loopw [8] (fun i wr => ∃ k : Nat, (k ≤ n ∨ k ≤ 1) ∧ 1 ≤ k ∧ i = .int .i64 (k : Int) ∧ SB wr g (isn now ss (k - 1)) ∧ Below B w wr ∧ wr.cell? ⟨b, 0, none⟩ = some (.int .i64 now) ∧ w.heap.size ≤ wr.heap.size) (fun i _ => n + 1 - (intOf i).toNat)
  case atStart => exact ⟨1, .inr (by omega), by omega, rfl, h, Below.refl _ _, hc, Nat.le_refl _⟩
  case round =>
    obtain ⟨k, hk, hk1, rfl, hs, hbel, hcb, hsz⟩ := hrel
    by_cases hlt : k < n
    · have a1 : (k : Int) < (n : Int) := by omega
      obtain ⟨S, hS⟩ : ∃ S, isn now ss (k - 1) = S := ⟨_, rfl⟩
      have hSl : S.length = n := by rw [← hS, isn_len, hl]
      have HK := Lib.hid (show isn now ss (k + 1 - 1) = bub now k S by
        rw [← hS]
        obtain ⟨m, rfl⟩ : ∃ m, k = m + 1 := ⟨k - 1, by omega⟩
        rfl)
      rw [hS] at hs
      clear hS
      have ik : IntKind.i64.wrap ((k : Int) + 1) = (k : Int) + 1 := IntWalk.i64_in _ (by omega)
      go_wp2_with fail
      go_loopw [9] (fun j wr => ∃ (q : Nat) (cur : List Smp), q ≤ k ∧ j = .int .i64 (q : Int) ∧ cur.length = n ∧ SB wr g cur ∧ bub now k S = bub now q cur ∧ Below B w wr ∧ wr.cell? ⟨b, 0, none⟩ = some (.int .i64 now) ∧ w.heap.size ≤ wr.heap.size) (fun j _ => (intOf j).toNat)
      case atStart => exact ⟨k, S, Nat.le_refl _, rfl, hSl, hs, rfl, hbel, hcb, hsz⟩
      case round =>
        obtain ⟨q, cur, hq, rfl, hcl, hs, hbub, hbel, hcb, hsz⟩ := hrel
        rcases Nat.eq_zero_or_pos q with h0 | h0
        · subst h0
          have hfin := hbub.trans (show bub now 0 cur = cur from rfl)
          have HF := Lib.hid hfin
          have HH := Lib.hid (And.intro hs (And.intro hbel (And.intro hcb hsz)))
          clear hfin hbub hs hbel hcb h hc
          rw [show ((0 : Nat) : Int) = 0 from rfl]
          go_upto_region 4 with (fail)
          (refine region_told _ (by kernel_rfl) (by kernel_rfl) (by simp only [putAll, Act.put, List.setIfInBounds_toArray, List.set_cons_zero, List.set_cons_succ, Nat.reduceAdd]; rfl) ?_)
          repeat (first | (refine told_step (fun v _ => v = _) (Stays.eq _) (by intro y w' hw' hd; simp only [depsOf, updG, Region.binds, Nat.reduceAdd, Nat.reduceEqDiff, if_false, if_true, and_true, true_and, forall_const, Array.toList, GTrue] at hd; (try go_split_ands); unfold toldAt; go_simp; exact ⟨Below.refl _ _, rfl⟩) ?_) | (refine told_step (fun v _ => v = undef) (Stays.eq _) (by intro y w' hw' hd; simp only [depsOf, updG, Region.binds, Nat.reduceAdd, Nat.reduceEqDiff, if_false, if_true, and_true, true_and, forall_const, Array.toList, GTrue] at hd; (try go_split_ands); unfold toldAt; go_simp) ?_))
          (refine told_nil ?_; intro z w2 hw2 hd)
          have e16 : z 16 = .bool false := hd 16 (by decide)
          rw [e16]
          clear hd e16
          have HW := Lib.hid hw2
          clear hw2
          go_wp2_with fail
          go_roundw
          case rel => exact ⟨k + 1, .inl (by omega), by omega, by go_num, by rw [HK.out, HF.out]; exact HH.out.1.below HW.out, HH.out.2.1.trans (HW.out.mono (by have := HH.out.2.2.2; omega)), (HW.out.cell (p := ⟨b, 0, none⟩) (by have := HH.out.2.2.2; show b < _; omega)).trans HH.out.2.2.1, by have := HH.out.2.2.2; have := HW.out.size; omega⟩
          case measure => simp [intOf]; omega
        · obtain ⟨p, hp⟩ : ∃ p, p + 1 = q := ⟨q - 1, by omega⟩
          have qn : q < n := by omega
          have b1 : (q : Int) < (n : Int) := by omega
          have b2 : (0 : Int) ≤ (q : Int) := by omega
          have b3 : (p : Int) < (n : Int) := by omega
          have b4 : (0 : Int) ≤ (p : Int) := by omega
          have b5 : (0 : Int) < (q : Int) := by omega
          have i1 : IntKind.i64.wrap ((q : Int) - 1) = (p : Int) := by rw [IntWalk.i64_in _ (by omega)]; omega
          have HQ := Lib.hid (show bub now q cur = if distN (rg cur q) now < distN (rg cur p) now then bub now p (swp cur q) else cur by rw [← hp]; rfl)
          have HP := Lib.hid hp
          clear hp
          obtain ⟨C0, C1, C2, C3⟩ : (∀ w', Below wr.heap.size wr w' → w'.cell? ⟨g, q * 4, none⟩ = some (.int .i64 (rg cur q).o)) ∧ (∀ w', Below wr.heap.size wr w' → w'.cell? ⟨g, q * 4 + 1, none⟩ = some (.int .i64 (rg cur q).d)) ∧ (∀ w', Below wr.heap.size wr w' → w'.cell? ⟨g, q * 4 + 2, none⟩ = some (.int .i64 (rg cur q).p)) ∧ (∀ w', Below wr.heap.size wr w' → w'.cell? ⟨g, q * 4 + 3, none⟩ = some (.int .i64 (rg cur q).a)) :=
            ⟨fun w' h => ((hs.below h).at (by omega)).1, fun w' h => ((hs.below h).at (by omega)).2.1, fun w' h => ((hs.below h).at (by omega)).2.2.1, fun w' h => ((hs.below h).at (by omega)).2.2.2⟩
          obtain ⟨D0, D1, D2, D3⟩ : (∀ w', Below wr.heap.size wr w' → w'.cell? ⟨g, p * 4, none⟩ = some (.int .i64 (rg cur p).o)) ∧ (∀ w', Below wr.heap.size wr w' → w'.cell? ⟨g, p * 4 + 1, none⟩ = some (.int .i64 (rg cur p).d)) ∧ (∀ w', Below wr.heap.size wr w' → w'.cell? ⟨g, p * 4 + 2, none⟩ = some (.int .i64 (rg cur p).p)) ∧ (∀ w', Below wr.heap.size wr w' → w'.cell? ⟨g, p * 4 + 3, none⟩ = some (.int .i64 (rg cur p).a)) :=
            ⟨fun w' h => ((hs.below h).at (by omega)).1, fun w' h => ((hs.below h).at (by omega)).2.1, fun w' h => ((hs.below h).at (by omega)).2.2.1, fun w' h => ((hs.below h).at (by omega)).2.2.2⟩
          have E0 : ∀ w', Below wr.heap.size wr w' → Calls Try.prog 79 #[sv (rg cur q), sv (rg cur p), .pointer (some ⟨b, 0, none⟩)] w' fun e w'' => e = .returned (.int .i64 (cmpN (rg cur q) (rg cur p) now)) ∧ Below w'.heap.size w' w'' := fun w' h => cmp_any w' _ _ now (Nat.lt_of_lt_of_le (Nat.lt_of_lt_of_le hb hsz) h.size) ((h.cell (p := ⟨b, 0, none⟩) (Nat.lt_of_lt_of_le hb hsz)).trans hcb)
          unfold sv at E0
          have HS := Lib.hid hs
          have HBUB := Lib.hid hbub
          have HBEL := Lib.hid hbel
          have HCB := Lib.hid hcb
          clear hs hbub hbel hcb h hc
          go_upto_region 4 with (fail)
          obtain ⟨cm, hcm⟩ : ∃ x, cmpN (rg cur q) (rg cur p) now = x := ⟨_, rfl⟩
          have HCM := Lib.hid (show cm < 0 ↔ distN (rg cur q) now < distN (rg cur p) now by
            rw [← hcm]; unfold cmpN
            split
            · simp [*]
            · split <;> simp [*])
          rw [hcm] at E0
          clear hcm
          (refine region_told _ (by kernel_rfl) (by kernel_rfl) (by simp only [putAll, Act.put, List.setIfInBounds_toArray, List.set_cons_zero, List.set_cons_succ, Nat.reduceAdd]; rfl) ?_)
          repeat (refine told_step (fun v _ => v = _) (Stays.eq _) (by intro y w' hw' hd; simp only [depsOf, updG, Region.binds, Nat.reduceAdd, Nat.reduceEqDiff, if_false, if_true, and_true, true_and, forall_const, Array.toList, GTrue] at hd; (try go_split_ands); unfold toldAt; go_simp; exact ⟨Below.refl _ _, rfl⟩) ?_)
          (refine told_step (fun v _ => v = .int .i64 cm) (Stays.eq _) (by intro y w' hw' hd; simp only [depsOf, updG, Region.binds, Nat.reduceAdd, Nat.reduceEqDiff, if_false, if_true, and_true, true_and, forall_const, Array.toList, GTrue] at hd; (try go_split_ands); unfold toldAt; go_simp; first | exact Below.refl _ _ | exact ⟨Below.refl _ _, E0 w' hw'⟩) ?_)
          repeat (refine told_step (fun v _ => v = _) (Stays.eq _) (by intro y w' hw' hd; simp only [depsOf, updG, Region.binds, Nat.reduceAdd, Nat.reduceEqDiff, if_false, if_true, and_true, true_and, forall_const, Array.toList, GTrue] at hd; (try go_split_ands); unfold toldAt; go_simp; exact ⟨Below.refl _ _, rfl⟩) ?_)
          (refine told_nil ?_; intro z w2 hw2 hd)
          have e16 : z 16 = .bool (decide (cm < 0)) := hd 16 (by decide)
          rw [e16]
          clear hd e16 C0 C1 C2 C3 D0 D1 D2 D3 E0
          have hs2 := HS.out.below hw2
          have hbw : b < wr.heap.size := by omega
          have HCB2 := Lib.hid ((hw2.cell (p := ⟨b, 0, none⟩) hbw).trans HCB.out)
          have HBEL2 := Lib.hid (HBEL.out.trans (hw2.mono (by omega)))
          have hsz2 : w.heap.size ≤ w2.heap.size := by have := hw2.size; omega
          by_cases hcm : cm < 0
          · have HB2 := Lib.hid (HBUB.out.trans (HQ.out.trans (if_pos (HCM.out.1 hcm))))
            rw [decide_eq_true hcm]
            clear hcm hw2
            obtain ⟨c0, c1, c2, c3⟩ := hs2.at (j := q) (by omega)
            obtain ⟨d0, d1, d2, d3⟩ := hs2.at (j := p) (by omega)
            have fz : ∀ o, w2.frozen? ⟨g, o, none⟩ = false := fun o => hs2.frozen o
            have HS2 := Lib.hid hs2
            have hpq := HP.out
            have e1 : ¬ p = q := by omega
            have e2 : ¬ q = p := by omega
            have e3 : ¬ p * 4 = q * 4 + 1 ∧ ¬ p * 4 = q * 4 + 2 ∧ ¬ p * 4 = q * 4 + 3 ∧ ¬ p * 4 + 1 = q * 4 ∧ ¬ p * 4 + 2 = q * 4 ∧ ¬ p * 4 + 3 = q * 4 := by omega
            have e4 : ¬ q * 4 = p * 4 + 1 ∧ ¬ q * 4 = p * 4 + 2 ∧ ¬ q * 4 = p * 4 + 3 ∧ ¬ q * 4 + 1 = p * 4 ∧ ¬ q * 4 + 2 = p * 4 ∧ ¬ q * 4 + 3 = p * 4 := by omega
            obtain ⟨e31, e32, e33, e34, e35, e36⟩ := e3
            obtain ⟨e41, e42, e43, e44, e45, e46⟩ := e4
            clear hpq hs2
            go_upto_region 6 with (fail)
            go_region
            all_goals
              go_wp2_with fail
              go_roundw
              case rel =>
                have hpq := HP.out
                obtain ⟨r1, r2, r3, r4⟩ := swp_world HS2.out hpq (by omega) hB hgb HCB2.out HBEL2.out
                exact ⟨p, swp cur q, by omega, rfl, by rw [swp_len]; exact hcl, r1, HB2.out, r2, r3, by rw [r4]; exact hsz2⟩
              case measure => have := HP.out; simp [intOf]; omega
          · have HB2 := Lib.hid (HBUB.out.trans (HQ.out.trans (if_neg (fun h => hcm (HCM.out.2 h)))))
            rw [decide_eq_false hcm]
            have HS2 := Lib.hid hs2
            clear hcm hw2 hs2
            go_wp2_with fail
            go_roundw
            case rel => exact ⟨k + 1, .inl (by omega), by omega, by go_num, by rw [HK.out, HB2.out]; exact HS2.out, HBEL2.out, HCB2.out, hsz2⟩
            case measure => simp [intOf]; omega
    · have a1 : ¬ (k : Int) < (n : Int) := by omega
      have hkn : isn now ss (k - 1) = isn now ss (n - 1) := by
        rcases hk with h | h
        · rw [show k = n by omega]
        · rw [show k - 1 = n - 1 by omega]
      rw [hkn] at hs
      clear hkn
      go_wp2_with fail
      go_end0
      exact ⟨rfl, hs, hbel, hcb, hsz⟩
end Go.Proofs.Yteemglgbhdpodaa
