/- The mean of offsets whose distances are all one, and the fixed calls of the layer. -/
import Derived.Test.YteemglgbhdpodaaY3
namespace Go.Proofs.Yteemglgbhdpodaa
set_option linter.unusedSimpArgs false
set_option linter.unusedVariables false
set_option maxRecDepth 100000
open Go.RowKit

theorem cfit_any (w : World) {A B : Option Addr} {n c d : Nat} {xs ds : List Int} (rd0 : RdV w A n c (ivs xs)) (rd1 : RdV w B n d (ivs ds)) (hn : n ≤ 64) (h0 : xs.any farB = false) (h1 : ds.any farD = false) :
    Calls Try.prog 45 #[.slice A n c, .slice B n d] w fun e w' => e = .returned (.bool true) ∧ Below w.heap.size w w' := by
  have H0 := Lib.hid (contains1_any w rd0)
  have H1 := Lib.hid (fun w' (h : Below w.heap.size w w') => contains2_any w' (rd1.below h))
  rw [h0] at H0
  rw [h1] at H1
  have t1 : (n : Int) ≤ 64 := by omega
  clear rd0 rd1 h0 h1
  go_enter Try.func45, Try.ntmps45
  go_wp2_with (first
    | ((with_reducible refine H0.out.mono ?_); rintro e w1 ⟨rfl, hb1⟩; have HB1 := Lib.hid hb1; have H2 := Lib.hid (H1.out _ hb1); clear hb1)
    | ((with_reducible refine H2.out.mono ?_); rintro e w2 ⟨rfl, hb2⟩; have HB2 := Lib.hid (HB1.out.trans (hb2.mono HB1.out.size)); clear hb2))
  go_ret
  exact ⟨rfl, HB2.out⟩
def wgt (d : Int) : Int := max (65536 / (d / 65536 + 1)) 1
theorem wgt_bd {d : Int} (h : 0 ≤ d) : 1 ≤ wgt d ∧ wgt d ≤ 65536 := by
  have h1 : 0 ≤ d / 65536 := by omega
  have h2 : 65536 / (d / 65536 + 1) ≤ 65536 := Int.ediv_le_self _ (by omega)
  unfold wgt
  omega
theorem weight_any (w : World) {d : Int} (h0 : 0 ≤ d) (h1 : d ≤ 1099511627776) : Calls Try.prog 46 #[.int .i64 d] w fun e w' => e = .returned (.int .i64 (wgt d)) ∧ w = w' := by
  have e1 : Int.tdiv d 65536 = d / 65536 := Int.tdiv_eq_ediv_of_nonneg h0
  obtain ⟨q, hq⟩ : ∃ q, d / 65536 = q := ⟨_, rfl⟩
  have q0 : 0 ≤ q := by omega
  have q1 : q ≤ 16777216 := by omega
  rw [hq] at e1
  have e2 : Int.tdiv 65536 (q + 1) = 65536 / (q + 1) := Int.tdiv_eq_ediv_of_nonneg (by decide)
  obtain ⟨r, hr⟩ : ∃ r, 65536 / (q + 1) = r := ⟨_, rfl⟩
  have r0 : 0 ≤ r := by rw [← hr]; exact Int.ediv_nonneg (by decide) (by omega)
  have r1 : r ≤ 65536 := by rw [← hr]; exact Int.ediv_le_self _ (by omega)
  rw [hr] at e2
  have HW := Lib.hid (show wgt d = max r 1 by unfold wgt; rw [hq, hr])
  have i1 : IntKind.i64.wrap q = q := IntWalk.i64_in _ (by omega)
  have i2 : IntKind.i64.wrap (q + 1) = q + 1 := IntWalk.i64_in _ (by omega)
  have i3 : IntKind.i64.wrap r = r := IntWalk.i64_in _ (by omega)
  have z1 : (q + 1 == 0) = false := by simp; omega
  clear hq hr h0 h1
  go_enter Try.func46, Try.ntmps46
  go_wp2_with fail
  all_goals (go_ret; exact ⟨ret_int (by rw [HW.out]; omega), rfl⟩)
/-- the sum of the first t numbers -/
def sumT (xs : List Int) : Nat → Int
  | 0 => 0
  | t + 1 => sumT xs t + gi xs t
theorem gi_all {xs : List Int} {p : Int → Bool} (h : xs.any p = false) {t : Nat} (ht : t < xs.length) : p (gi xs t) = false := by
  unfold gi
  rw [List.getD_eq_getElem?_getD, List.getElem?_eq_getElem ht]
  simp only [List.any_eq_false] at h
  simpa using h _ (List.getElem_mem ht)
theorem farB_near {x : Int} (h : farB x = false) : -1099511627776 ≤ x ∧ x ≤ 1099511627776 := by
  unfold farB at h
  simp only [Bool.or_eq_false_iff, decide_eq_false_iff_not] at h
  omega
theorem sumT_bd {xs : List Int} (h : xs.any farB = false) : ∀ t, t ≤ xs.length → (sumT xs t).natAbs ≤ t * 1099511627776
  | 0, _ => by simp [sumT]
  | t + 1, ht => by
    have h1 := sumT_bd h t (by omega)
    have h2 := farB_near (gi_all h (t := t) (by omega))
    unfold sumT; omega
theorem mul_bd {W S : Int} {B : Nat} (h0 : 1 ≤ W) (h1 : W ≤ 65536) (hS : S.natAbs ≤ B) : (W * S).natAbs ≤ 65536 * B := by
  rw [Int.natAbs_mul]
  exact Nat.mul_le_mul (by omega) hS
set_option maxHeartbeats 1000000 in
theorem combine_any (w : World) {A B : Option Addr} {n c d : Nat} {xs ds : List Int} {D Q : Int} (rd0 : RdV w A n c (ivs xs)) (rd1 : RdV w B n d (ivs ds)) (hn1 : 1 ≤ n) (hn : n ≤ 64) (h0 : xs.any farB = false) (D0 : 0 ≤ D) (D1 : D ≤ 1099511627776) (hD : ∀ t, t < n → gi ds t = D) (hQ : sumT xs n = Q * n) :
    Calls Try.prog 19 #[.slice A n c, .slice B n d] w fun e w' => e = .returned (.tuple #[.int .i64 Q, .int .i64 0]) ∧ Below w.heap.size w w' := by
  have hl : xs.length = n := by have := rd0.len; rwa [ivs_len] at this
  have hl1 : ds.length = n := by have := rd1.len; rwa [ivs_len] at this
  have h1 : ds.any farD = false := by
    rw [List.any_eq_false]
    intro x hx
    obtain ⟨t, ht, rfl⟩ := List.mem_iff_getElem.1 hx
    have := hD t (by omega)
    unfold gi at this
    rw [List.getD_eq_getElem?_getD, List.getElem?_eq_getElem ht] at this
    simp only [Option.getD_some] at this
    rw [this]
    unfold farD
    simp; omega
  have HF := Lib.hid (cfit_any w rd0 rd1 hn h0 h1)
  have HWT := Lib.hid (fun w => weight_any w D0 D1)
  obtain ⟨W0, W1⟩ := wgt_bd D0
  generalize wgt D = W at HWT W0 W1
  have RD0 := Lib.hid rd0
  have RD1 := Lib.hid rd1
  have H0 := Lib.hid h0
  have HD := Lib.hid hD
  have z0 : ((n : Int) == 0) = false := by simp; omega
  have HQ := Lib.hid hQ
  clear rd0 rd1 h0 h1 hD hQ D0 D1
  go_enter Try.func19, Try.ntmps19
  go_wp2_with ((with_reducible refine HF.out.mono ?_); rintro e w1 ⟨rfl, hb1⟩; have HB1 := Lib.hid hb1; clear hb1)
  go_loopw [6, 7, 21] (fun s a i wr => ∃ k : Nat, k ≤ n ∧ i = .int .i64 (k : Int) ∧ s = .int .i64 (W * sumT xs k) ∧ a = .int .i64 (W * (k : Int)) ∧ Below w.heap.size w wr) (fun _ _ i _ => n - (intOf i).toNat)
  case atStart => exact ⟨0, Nat.zero_le _, rfl, by simp [sumT], by simp, HB1.out⟩
  case round =>
    obtain ⟨k, hk, rfl, rfl, rfl, hbel⟩ := hrel
    by_cases hlt : k < n
    · obtain ⟨ad, rfl, hab, hac⟩ := (RD0.out.below hbel).form (by omega)
      obtain ⟨ae, rfl, hbb, hbc⟩ := (RD1.out.below hbel).form (by omega)
      have hx := hac k _ (gi_get (by omega))
      have hy := hbc k _ (gi_get (by omega))
      rw [HD.out k hlt] at hy
      have b1 := mul_bd W0 W1 (sumT_bd H0.out k (by omega))
      have b2 := mul_bd W0 W1 (sumT_bd H0.out (k + 1) (by omega))
      have b4 := mul_bd (S := (k : Int)) (B := 64) W0 W1 (by omega)
      have b3 := mul_bd (B := 1099511627776) W0 W1 (show (gi xs k).natAbs ≤ 1099511627776 by have := farB_near (gi_all H0.out (t := k) (by omega)); omega)
      have es : sumT xs (k + 1) = sumT xs k + gi xs k := rfl
      have em : W * sumT xs (k + 1) = W * sumT xs k + W * gi xs k := by rw [es, Int.mul_add]
      have en : W * ((k : Int) + 1) = W * (k : Int) + W := by rw [Int.mul_add, Int.mul_one]
      generalize gi xs k = x at hx b3 em
      obtain ⟨p, hp⟩ : ∃ p, W * x = p := ⟨_, rfl⟩
      obtain ⟨q, hq⟩ : ∃ p, W * sumT xs k = p := ⟨_, rfl⟩
      obtain ⟨r, hr⟩ : ∃ p, W * sumT xs (k + 1) = p := ⟨_, rfl⟩
      obtain ⟨u, hu⟩ : ∃ p, W * (k : Int) = p := ⟨_, rfl⟩
      rw [hp] at b3 em
      rw [hq] at b1 em ⊢
      rw [hr] at b2 em
      rw [hu] at b4 en ⊢
      have HR := Lib.hid hr
      have HEN := Lib.hid en
      have HEM := Lib.hid em
      have i1 : IntKind.i64.wrap (W * x) = p := by rw [hp]; exact IntWalk.i64_in _ (by omega)
      have i2 : IntKind.i64.wrap (q + p) = q + p := IntWalk.i64_in _ (by omega)
      have i3 : IntKind.i64.wrap (u + W) = u + W := IntWalk.i64_in _ (by omega)
      have i4 : IntKind.i64.wrap ((k : Int) + 1) = (k : Int) + 1 := IntWalk.i64_in _ (by omega)
      have a1 : (k : Int) < (n : Int) := by omega
      have a0 : (0 : Int) ≤ (k : Int) := by omega
      have HBEL := Lib.hid hbel
      clear hac hbc hbel b1 b2 b3 b4 es em en hp hq hr hu
      go_wp2_with ((with_reducible refine (HWT.out _).mono ?_); rintro e w2 ⟨rfl, rfl⟩)
      go_roundw
      case rel => exact ⟨k + 1, by omega, by go_num, by rw [HR.out, HEM.out], by rw [← HEN.out]; go_num, HBEL.out⟩
      case measure => simp [intOf]; omega
    · obtain rfl : n = k := by omega
      have hS : W * sumT xs n = Q * (W * (n : Int)) := by rw [HQ.out, Int.mul_left_comm]
      have b2 := mul_bd W0 W1 (sumT_bd H0.out n (by omega))
      have wn0 : 1 ≤ W * (n : Int) := by have := Int.mul_le_mul W0 (show (1 : Int) ≤ (n : Int) by omega) (by omega) (by omega); omega
      have b4 := mul_bd (S := (n : Int)) (B := 64) W0 W1 (by omega)
      obtain ⟨M, hM⟩ : ∃ M, W * (n : Int) = M := ⟨_, rfl⟩
      obtain ⟨S, hS'⟩ : ∃ S, W * sumT xs n = S := ⟨_, rfl⟩
      rw [hM] at hS wn0 b4 ⊢
      rw [hS'] at hS b2 ⊢
      have t1 : Int.tdiv S M = Q := by rw [hS]; exact Int.mul_tdiv_cancel _ (by omega)
      have t2 : Int.tmod S M = 0 := by rw [hS]; exact Int.mul_tmod_left _ _
      have q1 : Q.natAbs ≤ S.natAbs := by
        rw [hS, Int.natAbs_mul]; exact Nat.le_mul_of_pos_right _ (by omega)
      have i1 : IntKind.i64.wrap Q = Q := IntWalk.i64_in _ (by omega)
      clear hS hM hS' b2 b4 q1
      have HBEL := Lib.hid hbel
      clear hbel
      go_wp2_with fail
      go_ret2
      exact ⟨rfl, HBEL.out⟩
end Go.Proofs.Yteemglgbhdpodaa
