/- What an update of the clock comes to, where the offset is slewed. -/
import Derived.Test.YtjcoeianmihojaaD3
namespace Go.Proofs.Ytjcoeianmihojaa
set_option linter.unusedSimpArgs false
set_option linter.unusedVariables false
open Go.RowKit

def secs (a t p : Int) : Int := min ((t - a) / 4294967296) (16 * 2 ^ p.toNat)
def pull (a p o t : Int) : Int := ((o * secs a t p).tdiv (16 * 2 ^ p.toNat)).tdiv (16 * 2 ^ p.toNat)
def freqU (f a p o t : Int) : Int := max (min (f + pull a p o t) 2147483) (-2147483)

theorem two_bd (p : Int) (h0 : 0 ≤ p) (h1 : p ≤ 17) : 1 ≤ (2 : Int) ^ p.toNat ∧ (2 : Int) ^ p.toNat ≤ 131072 := by
  have e : (2 : Int) ^ p.toNat = ((2 ^ p.toNat : Nat) : Int) := by push_cast; rfl
  have h2 : 2 ^ p.toNat ≤ 2 ^ 17 := Nat.pow_le_pow_right (by decide) (by omega)
  have h3 : 0 < 2 ^ p.toNat := Nat.pow_pos (by decide)
  rw [e]; omega
theorem secs_bd (a t p : Int) (h0 : 0 ≤ p) (h1 : p ≤ 17) (h2 : a ≤ t) : 0 ≤ secs a t p ∧ secs a t p ≤ 2097152 := by
  have := two_bd p h0 h1
  unfold secs; omega
theorem prod_bd {o s : Int} (h0 : -549755814 ≤ o) (h1 : o ≤ 549755814) (s0 : 0 ≤ s) (s1 : s ≤ 2097152) : -1152921504606846976 ≤ o * s ∧ o * s ≤ 1152921504606846976 := by
  have a1 := Int.mul_le_mul_of_nonneg_right h1 s0
  have a2 := Int.mul_le_mul_of_nonneg_right h0 s0
  omega
theorem tdiv_bd {x y B : Int} (h0 : -B ≤ x) (h1 : x ≤ B) (hy : 1 ≤ y) : -B ≤ x.tdiv y ∧ x.tdiv y ≤ B := by
  by_cases h : 0 ≤ x
  · rw [Int.tdiv_eq_ediv_of_nonneg h]
    have := Int.ediv_le_self y h
    have := Int.ediv_nonneg h (show 0 ≤ y by omega)
    omega
  · have e : x.tdiv y = -((-x).tdiv y) := by rw [Int.neg_tdiv]; omega
    rw [e, Int.tdiv_eq_ediv_of_nonneg (by omega)]
    have := Int.ediv_le_self y (show 0 ≤ -x by omega)
    have := Int.ediv_nonneg (show 0 ≤ -x by omega) (show 0 ≤ y by omega)
    omega

theorem ne_of1 {T : Int} (h : 1 ≤ T) : ¬ T = 0 := by omega

set_option maxHeartbeats 1000000 in
theorem Update_slew (f l a p o t : Int) (w : World) (hm : mayB f l a p = true) (ho : nearB o 1152921504606846976 = true) (ht : nearB t 1152921504606846976 = true) (h1 : nearB o 4294967296000 = true) (h2 : a ≤ t) (h3 : nearB o 549755814 = true) :
    Calls Try.prog 12 #[.agg #[.int .i64 f, .int .i64 l, .int .i64 a, .int .i64 p, .bool true], .int .i64 o, .int .i64 t] w fun e w' =>
      e = .returned (updT (freqU f a p o t) o t p true 3 0 0) ∧ Below w.heap.size w w' := by
  have HM := Lib.hid hm
  have HO := Lib.hid ho
  have HT := Lib.hid ht
  have H1 := Lib.hid h1
  have H3 := Lib.hid h3
  have hd : decide (t < a) = false := by simp; omega
  obtain ⟨⟨f0, f1⟩, ⟨l0, l1⟩, ⟨a0, a1⟩, p0, p1⟩ := mayB_iff.1 hm
  obtain ⟨o0, o1⟩ := nearB_iff.1 h3
  obtain ⟨t0, t1⟩ := nearB_iff.1 ht
  clear hm ho ht h1 h3
  have T0 := two_bd p p0 p1
  have S0 := secs_bd a t p p0 p1 h2
  have P0 := prod_bd o0 o1 S0.1 S0.2
  have D0 := tdiv_bd P0.1 P0.2 (y := 16 * 2 ^ p.toNat) (by omega)
  have D1 := tdiv_bd D0.1 D0.2 (y := 16 * 2 ^ p.toNat) (by omega)
  have F0 := Lib.hid (show freqU f a p o t = max (min (f + ((o * secs a t p).tdiv (16 * 2 ^ p.toNat)).tdiv (16 * 2 ^ p.toNat)) 2147483) (-2147483) from rfl)
  have SE : secs a t p = min ((t - a) / 4294967296) (16 * 2 ^ p.toNat) := rfl
  obtain ⟨T, hT⟩ : ∃ T : Int, 16 * 2 ^ p.toNat = T := ⟨_, rfl⟩
  rw [hT] at SE D0 D1 F0
  have T1 : 1 ≤ T ∧ T ≤ 2097152 := by omega
  have hsh : wrap64 (16 * 2 ^ p.toNat) = T := by rw [hT]; exact IntWalk.wrap64_in _ (by omega)
  clear hT T0
  have hne : ¬ T = 0 := ne_of1 T1.1
  have hne' : (T == 0) = false := beq_eq_false_iff_ne.2 hne
  obtain ⟨z, hz⟩ : ∃ z, o * secs a t p = z := ⟨_, rfl⟩
  rw [hz] at P0 D0 D1 F0
  obtain ⟨z1, hz1⟩ : ∃ z1, z.tdiv T = z1 := ⟨_, rfl⟩
  rw [hz1] at D0 D1 F0
  obtain ⟨z2, hz2⟩ : ∃ z2, z1.tdiv T = z2 := ⟨_, rfl⟩
  rw [hz2] at D1 F0
  obtain ⟨u0, u1⟩ := P0
  obtain ⟨d0, d1⟩ := D0
  obtain ⟨e0, e1⟩ := D1
  have kz : IntKind.i64.wrap z = z := IntWalk.i64_in z (by omega)
  have k1 : IntKind.i64.wrap z1 = z1 := IntWalk.i64_in z1 (by omega)
  have k2 : IntKind.i64.wrap z2 = z2 := IntWalk.i64_in z2 (by omega)
  have k3 : IntKind.i64.wrap (f + z2) = f + z2 := IntWalk.i64_in (f + z2) (by omega)
  have k1' : wrap64 z1 = z1 := IntWalk.wrap64_in z1 (by omega)
  have k2' : wrap64 z2 = z2 := IntWalk.wrap64_in z2 (by omega)
  have k3' : wrap64 (f + z2) = f + z2 := IntWalk.wrap64_in (f + z2) (by omega)
  by_cases hlt : T < (t - a) / 4294967296
  · have hs : secs a t p = T := by rw [SE]; omega
    rw [hs] at hz
    clear SE hs S0
    have k0 : wrap64 (o * T) = z := by rw [hz]; exact IntWalk.wrap64_in z (by omega)
    have k0' : IntKind.i64.wrap (o * T) = z := by rw [hz]; exact IntWalk.i64_in z (by omega)
    go_enter Try.func12, Try.ntmps12
    go_wp2_with (first | (go_at_call 14; refine (may_any _ _ _ _ _ _).mono ?_; rintro e w' ⟨rfl, hb⟩; rw [HM.out]; obtain ⟨c0, c1, c2, c3, c4, r0, r1, r2, r3, r4, q0, q1, cf, rf, qf⟩ := after_may hb) | (go_at_call 15; refine (near_any _ _ _ (by omega) (by omega)).mono ?_; rintro e w'' ⟨rfl, rfl⟩; first | rw [HO.out] | rw [HT.out] | rw [H1.out] | rw [H3.out]))
    refine wp_region_still_tail 12 (by kernel_rfl) (by kernel_rfl) ?_
    simp only [List.take_succ_cons, List.take_zero, List.drop_succ_cons, List.drop_zero, World.drew_eq]
    repeat still_step
    still_call ((clamp_any (f + z2) 2147483 _ (by omega) (by omega)).mono (fun _ _ h => ⟨h.1, h.2.symm⟩))
    repeat still_step
    refine wpStill_nil ?_
    generalize hV : max (min (f + z2) 2147483) (-2147483) = V
    have HV := Lib.hid hV
    clear hV
    go_wp2
    refine bodyPost_ret (v := updT V o t p true 3 0 0) (by simp [results, Try.results12, go_sem, c0, c1, c2, c3, c4, r0, r1, r2, r3, r4, q0, q1]) rfl ⟨by rw [F0.out, HV.out], ?_⟩
    (repeat (first | (with_reducible exact Below.refl _ _) | (with_reducible assumption) | (with_reducible refine Below.drew ?_) | ((with_reducible refine Below.setCell ?_ (p := ⟨_, _, _⟩) ?_ _); rotate_left; (simp <;> omega)) | ((with_reducible refine Below.alloc ?_ ?_ _); rotate_left; (simp <;> omega)) | ((with_reducible refine Below.trans ?_ (Below.mono (by with_reducible assumption) ?_)); rotate_left; (simp <;> omega))))
  · have hs : secs a t p = (t - a) / 4294967296 := by rw [SE]; omega
    rw [hs] at hz
    obtain ⟨s0, s1⟩ := S0
    rw [hs] at s0 s1
    clear SE hs
    have hlt' : decide (T < (t - a) / 4294967296) = false := by simp; omega
    have k0 : wrap64 (o * ((t - a) / 4294967296)) = z := by rw [hz]; exact IntWalk.wrap64_in z (by omega)
    have k0' : IntKind.i64.wrap (o * ((t - a) / 4294967296)) = z := by rw [hz]; exact IntWalk.i64_in z (by omega)
    go_enter Try.func12, Try.ntmps12
    go_wp2_with (first | (go_at_call 14; refine (may_any _ _ _ _ _ _).mono ?_; rintro e w' ⟨rfl, hb⟩; rw [HM.out]; obtain ⟨c0, c1, c2, c3, c4, r0, r1, r2, r3, r4, q0, q1, cf, rf, qf⟩ := after_may hb) | (go_at_call 15; refine (near_any _ _ _ (by omega) (by omega)).mono ?_; rintro e w'' ⟨rfl, rfl⟩; first | rw [HO.out] | rw [HT.out] | rw [H1.out] | rw [H3.out]))
    refine wp_region_still_tail 12 (by kernel_rfl) (by kernel_rfl) ?_
    simp only [List.take_succ_cons, List.take_zero, List.drop_succ_cons, List.drop_zero, World.drew_eq]
    repeat still_step
    still_call ((clamp_any (f + z2) 2147483 _ (by omega) (by omega)).mono (fun _ _ h => ⟨h.1, h.2.symm⟩))
    repeat still_step
    refine wpStill_nil ?_
    generalize hV : max (min (f + z2) 2147483) (-2147483) = V
    have HV := Lib.hid hV
    clear hV
    go_wp2
    refine bodyPost_ret (v := updT V o t p true 3 0 0) (by simp [results, Try.results12, go_sem, c0, c1, c2, c3, c4, r0, r1, r2, r3, r4, q0, q1]) rfl ⟨by rw [F0.out, HV.out], ?_⟩
    (repeat (first | (with_reducible exact Below.refl _ _) | (with_reducible assumption) | (with_reducible refine Below.drew ?_) | ((with_reducible refine Below.setCell ?_ (p := ⟨_, _, _⟩) ?_ _); rotate_left; (simp <;> omega)) | ((with_reducible refine Below.alloc ?_ ?_ _); rotate_left; (simp <;> omega)) | ((with_reducible refine Below.trans ?_ (Below.mono (by with_reducible assumption) ?_)); rotate_left; (simp <;> omega))))
end Go.Proofs.Ytjcoeianmihojaa
