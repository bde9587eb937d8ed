/- Times and the clock discipline, for the seats of the top: what is a fixed call there, or goes no further than that. -/
import Derived.Test.YteemglgbhdpodaaB0
import Derived.Test.YteemglgbhdpodaaTt
import Derived.Deep.Cut
import Derived.Deep.MidRow
namespace Go.Proofs.Yteemglgbhdpodaa
set_option linter.unusedSimpArgs false
set_option linter.unusedVariables false
set_option maxRecDepth 100000
open Go.RowKit

def dnear (x b : Int) : Bool := decide (-b ≤ x) && decide (x ≤ b)
attribute [irreducible] dnear
theorem dnear_true {x b : Int} (h1 : -b ≤ x) (h2 : x ≤ b) : dnear x b = true := by unfold dnear; simp [h1, h2]
theorem dnear_false {x b : Int} (h : ¬ (-b ≤ x ∧ x ≤ b)) : dnear x b = false := by
  unfold dnear; by_cases h1 : -b ≤ x <;> by_cases h2 : x ≤ b <;> simp_all
theorem dnear_iff {x b : Int} : dnear x b = true ↔ (-b ≤ x ∧ x ≤ b) := by unfold dnear; simp
set_option maxHeartbeats 400000 in
theorem dnear_any (x b : Int) (w : World) (hb0 : 0 ≤ b) (hb : b ≤ 9223372036854775807) :
    Calls Try.prog 52 #[.int .i64 x, .int .i64 b] w fun e w' => e = .returned (.bool (dnear x b)) ∧ w = w' := by
  by_cases h1 : -b ≤ x
  · by_cases h2 : x ≤ b
    · have H := Lib.hid (dnear_true h1 h2)
      go_enter Try.func52, Try.ntmps52
      go_wp2
      go_ret
      exact ⟨by rw [H.out]; rfl, rfl⟩
    · have H := Lib.hid (dnear_false (x := x) (b := b) (by omega))
      go_enter Try.func52, Try.ntmps52
      go_wp2
      go_ret
      exact ⟨by rw [H.out]; rfl, rfl⟩
  · have H := Lib.hid (dnear_false (x := x) (b := b) (by omega))
    go_enter Try.func52, Try.ntmps52
    go_wp2
    go_ret
    exact ⟨by rw [H.out]; rfl, rfl⟩
def dmay (f l a p : Int) : Bool := dnear f 2147483 && dnear l 1152921504606846976 && dnear a 1152921504606846976 && decide (0 ≤ p) && decide (p ≤ 17)
attribute [irreducible] dmay
theorem dmay_iff {f l a p : Int} : dmay f l a p = true ↔ (-2147483 ≤ f ∧ f ≤ 2147483) ∧ (-1152921504606846976 ≤ l ∧ l ≤ 1152921504606846976) ∧ (-1152921504606846976 ≤ a ∧ a ≤ 1152921504606846976) ∧ 0 ≤ p ∧ p ≤ 17 := by
  unfold dmay; simp only [Bool.and_eq_true, dnear_iff, decide_eq_true_eq, and_assoc]
set_option maxHeartbeats 400000 in
theorem dmay_any (f l a p : Int) (s : Bool) (w : World) :
    Calls Try.prog 51 #[.agg #[.int .i64 f, .int .i64 l, .int .i64 a, .int .i64 p, .bool s]] w fun e w' => e = .returned (.bool (dmay f l a p)) ∧ Below w.heap.size w w' := by
  have H := Lib.hid (show dmay f l a p = (dnear f 2147483 && dnear l 1152921504606846976 && dnear a 1152921504606846976 && decide (0 ≤ p) && decide (p ≤ 17)) by unfold dmay; rfl)
  cases e1 : dnear f 2147483 <;> cases e2 : dnear l 1152921504606846976 <;> cases e3 : dnear a 1152921504606846976 <;> rw [e1, e2, e3] at H <;> have E1 := Lib.hid e1 <;> have E2 := Lib.hid e2 <;> have E3 := Lib.hid e3 <;> clear e1 e2 e3
  all_goals
    go_enter Try.func51, Try.ntmps51
    go_wp2_with (go_at_call 52; refine (dnear_any _ _ _ (by omega) (by omega)).mono ?_; rintro e w' ⟨rfl, rfl⟩; first | rw [E1.out] | rw [E2.out] | rw [E3.out])
  all_goals
    go_ret
    exact ⟨by rw [H.out]; first | (simp [*]; done) | (simp [*]; omega), (Below.refl _ _).alloc (Nat.le_refl _) _⟩
/-- what a second takes off what is left -/
def dpart (l : Int) : Int := if -63 ≤ l ∧ l ≤ 63 then l else l.tdiv 64
def leftN : Nat → Int → Int
  | 0, l => l
  | n + 1, l => leftN n (l - dpart l)
theorem leftN_succ (n : Nat) (l : Int) : leftN (n + 1) l = leftN n l - dpart (leftN n l) := by
  induction n generalizing l with
  | zero => rfl
  | succ n ih => rw [leftN, ih]; rfl
theorem dpart_pos {l : Int} (h : 0 ≤ l) : 0 ≤ dpart l ∧ dpart l ≤ l := by
  unfold dpart
  by_cases h2 : -63 ≤ l ∧ l ≤ 63
  · rw [if_pos h2]; omega
  · rw [if_neg h2, Int.tdiv_eq_ediv_of_nonneg h]; omega
theorem dpart_neg {l : Int} : dpart (-l) = - dpart l := by
  unfold dpart
  by_cases h : -63 ≤ l ∧ l ≤ 63
  · rw [if_pos h, if_pos (by omega)]
  · rw [if_neg h, if_neg (by omega), Int.neg_tdiv]
theorem leftN_neg (n : Nat) (l : Int) : leftN n (-l) = - leftN n l := by
  induction n generalizing l with
  | zero => rfl
  | succ n ih => rw [leftN, leftN, dpart_neg, show -l - -dpart l = -(l - dpart l) by omega, ih]
theorem leftN_pos (n : Nat) {l : Int} (h : 0 ≤ l) : 0 ≤ leftN n l ∧ leftN n l ≤ l := by
  induction n generalizing l with
  | zero => exact ⟨h, by simp [leftN]⟩
  | succ n ih => have := dpart_pos h; have := ih (l := l - dpart l) (by omega); rw [leftN]; omega
theorem leftN_bd (n : Nat) {l : Int} (h0 : -1152921504606846976 ≤ l) (h : l ≤ 1152921504606846976) : -1152921504606846976 ≤ leftN n l ∧ leftN n l ≤ 1152921504606846976 := by
  by_cases hp : 0 ≤ l
  · have := leftN_pos n hp; omega
  · have := leftN_pos n (l := -l) (by omega); rw [leftN_neg] at this; omega
theorem dpart_bd {l : Int} (h0 : -1152921504606846976 ≤ l) (h : l ≤ 1152921504606846976) : -1152921504606846976 ≤ dpart l ∧ dpart l ≤ 1152921504606846976 := by
  by_cases hp : 0 ≤ l
  · have := dpart_pos hp; omega
  · have := dpart_pos (l := -l) (by omega); rw [dpart_neg] at this; omega
/-- The block where a clock lies: its five fields. -/
def ClockAt (w : World) (b : Nat) (f l a p : Int) (s : Bool) : Prop :=
  w.cell? ⟨b, 0, none⟩ = some (.int .i64 f) ∧ w.cell? ⟨b, 1, none⟩ = some (.int .i64 l) ∧ w.cell? ⟨b, 2, none⟩ = some (.int .i64 a) ∧ w.cell? ⟨b, 3, none⟩ = some (.int .i64 p) ∧ w.cell? ⟨b, 4, none⟩ = some (.bool s) ∧
  ∀ o, w.frozen? ⟨b, o, none⟩ = false
def SumN (f l : Int) (k : Nat) : Int := l - leftN k l + k * f
set_option maxHeartbeats 400000 in
theorem Slew_yes (f l a p : Int) (n : Nat) (s : Bool) (w : World) (h : dmay f l a p = true) (hn : n ≤ 4096) :
    Calls Try.prog 42 #[.agg #[.int .i64 f, .int .i64 l, .int .i64 a, .int .i64 p, .bool s], .int .i64 n] w fun e w' =>
      e = .returned (.tuple #[.agg #[.int .i64 f, .int .i64 (leftN n l), .int .i64 a, .int .i64 p, .bool s], .int .i64 (SumN f l n), .int .i64 0]) ∧ Below w.heap.size w w' := by
  have HM := Lib.hid h
  obtain ⟨⟨f0, f1⟩, ⟨l0, l1⟩, _⟩ := dmay_iff.1 h
  clear h
  have hd : decide ((n : Int) < 0) = false := by simp
  go_enter Try.func42, Try.ntmps42
  go_wp2_with (go_at_call 51; refine (dmay_any _ _ _ _ _ _).mono ?_; rintro e w' ⟨rfl, hb⟩; rw [HM.out]; obtain ⟨hc, hf⟩ := bcell hb; have hz := hb.size; simp only [World.size_alloc] at hz)
  go_loopw [7, 22] (fun t i wr => ∃ k : Nat, k ≤ n ∧ i = .int .i64 k ∧ t = .int .i64 (SumN f l k) ∧ ClockAt wr w.heap.size f (leftN k l) a p s ∧ ClockAt wr (w.heap.size + 1) 0 0 0 0 false ∧ Below w.heap.size w wr ∧ w.heap.size + 1 < wr.heap.size) (fun _ i _ => n - (intOf i).toNat)
  case atStart => 
    refine ⟨0, Nat.zero_le _, rfl, by simp [SumN, leftN], ?_, ?_, ?_, by omega⟩
    · simp [ClockAt, hc, hf, leftN, go_sem]
    · simp [ClockAt, hc, hf, go_sem]
    · (repeat (first | (with_reducible exact Below.refl _ _) | (with_reducible assumption) | (with_reducible refine Below.drew ?_) | (with_reducible refine below_drewN ?_ _) | ((with_reducible refine Below.setCell ?_ (p := ⟨_, _, _⟩) ?_ _); rotate_left; (simp <;> omega)) | ((with_reducible refine Below.alloc ?_ ?_ _); rotate_left; (simp <;> omega)) | ((with_reducible refine Below.trans ?_ (Below.mono (by with_reducible assumption) ?_)); rotate_left; (simp <;> omega))))
  case round =>
    obtain ⟨k, hk, rfl, rfl, ⟨c0, c1, c2, c3, c4, cf⟩, hr, hbl, hsz⟩ := hrel
    have LB := leftN_bd k l0 l1
    have PB := dpart_bd LB.1 LB.2
    have LS := leftN_succ k l
    have SS : SumN f l (k + 1) = SumN f l k + (dpart (leftN k l) + f) := by unfold SumN; rw [LS]; push_cast; rw [Int.add_mul]; omega
    have KF : -(2147483 * 4096) ≤ (k : Int) * f ∧ (k : Int) * f ≤ 2147483 * 4096 := by
      constructor
      · have := Int.mul_le_mul_of_nonneg_left f0 (show 0 ≤ (k : Int) by omega); have h2 := Int.mul_le_mul_of_nonneg_right (show (k : Int) ≤ 4096 by omega) (show (0 : Int) ≤ 2147483 by omega); omega
      · have := Int.mul_le_mul_of_nonneg_left f1 (show 0 ≤ (k : Int) by omega); have h2 := Int.mul_le_mul_of_nonneg_right (show (k : Int) ≤ 4096 by omega) (show (0 : Int) ≤ 2147483 by omega); omega
    have SB : -4611686018427387904 ≤ SumN f l k ∧ SumN f l k ≤ 4611686018427387904 := by unfold SumN; omega
    clear KF
    generalize hL' : leftN (k + 1) l = L' at *
    generalize hS' : SumN f l (k + 1) = S' at *
    generalize hS : SumN f l k = S at *
    generalize hL : leftN k l = L at *
    have HL' := Lib.hid hL'
    have HS' := Lib.hid hS'
    have HL := Lib.hid hL
    have HS := Lib.hid hS
    clear hL' hS' hL hS
    obtain ⟨lb0, lb1⟩ := LB
    obtain ⟨pb0, pb1⟩ := PB
    obtain ⟨sb0, sb1⟩ := SB
    have HLS := Lib.hid LS
    have HSS := Lib.hid SS
    clear LS SS
    by_cases hlt : k < n
    · by_cases hnear : -63 ≤ L ∧ L ≤ 63
      · have HN := Lib.hid (dnear_iff.2 hnear)
        have HP := Lib.hid (show dpart L = L by unfold dpart; rw [if_pos hnear])
        clear hnear
        go_wp2_with (go_at_call 52; refine (dnear_any _ _ _ (by omega) (by omega)).mono ?_; rintro e w' ⟨rfl, rfl⟩; rw [HN.out])
        refine ⟨⟨k + 1, by omega, by go_num, by rw [HS'.out, HSS.out, HP.out], ?_, ?_, ?_, by simp; omega⟩, by simp [intOf]; omega⟩
        · rw [HL'.out, HLS.out, HP.out]; simp [ClockAt, c0, c1, c2, c3, c4, cf, go_sem]
        · simpa [ClockAt, go_sem] using hr
        · (repeat (first | (with_reducible exact Below.refl _ _) | (with_reducible assumption) | (with_reducible refine Below.drew ?_) | (with_reducible refine below_drewN ?_ _) | ((with_reducible refine Below.setCell ?_ (p := ⟨_, _, _⟩) ?_ _); rotate_left; (simp <;> omega)) | ((with_reducible refine Below.alloc ?_ ?_ _); rotate_left; (simp <;> omega)) | ((with_reducible refine Below.trans ?_ (Below.mono (by with_reducible assumption) ?_)); rotate_left; (simp <;> omega))))
      · have HN := Lib.hid (show dnear L 63 = false from dnear_false (by omega))
        have HP := Lib.hid (show dpart L = L.tdiv 64 by unfold dpart; rw [if_neg hnear])
        have hpb0 : -1152921504606846976 ≤ L.tdiv 64 := by rw [← HP.out]; exact pb0
        have hpb1 : L.tdiv 64 ≤ 1152921504606846976 := by rw [← HP.out]; exact pb1
        clear hnear
        go_wp2_with (go_at_call 52; refine (dnear_any _ _ _ (by omega) (by omega)).mono ?_; rintro e w' ⟨rfl, rfl⟩; rw [HN.out])
        refine ⟨⟨k + 1, by omega, by go_num, by rw [HS'.out, HSS.out, HP.out], ?_, ?_, ?_, by simp; omega⟩, by simp [intOf]; omega⟩
        · rw [HL'.out, HLS.out, HP.out]; simp [ClockAt, c0, c1, c2, c3, c4, cf, go_sem]
        · simpa [ClockAt, go_sem] using hr
        · (repeat (first | (with_reducible exact Below.refl _ _) | (with_reducible assumption) | (with_reducible refine Below.drew ?_) | (with_reducible refine below_drewN ?_ _) | ((with_reducible refine Below.setCell ?_ (p := ⟨_, _, _⟩) ?_ _); rotate_left; (simp <;> omega)) | ((with_reducible refine Below.alloc ?_ ?_ _); rotate_left; (simp <;> omega)) | ((with_reducible refine Below.trans ?_ (Below.mono (by with_reducible assumption) ?_)); rotate_left; (simp <;> omega))))
    · obtain rfl : n = k := by omega
      obtain ⟨r0, r1, r2, r3, r4, rf⟩ := hr
      go_wp2
      refine bodyPost_ret (v := .tuple #[.agg #[.int .i64 f, .int .i64 L, .int .i64 a, .int .i64 p, .bool s], .int .i64 S, .int .i64 0]) (by simp [results, Try.results42, go_sem, *]) rfl ⟨by rw [HL.out, HS.out], ?_⟩
      (repeat (first | (with_reducible exact Below.refl _ _) | (with_reducible assumption) | (with_reducible refine Below.drew ?_) | (with_reducible refine below_drewN ?_ _) | ((with_reducible refine Below.setCell ?_ (p := ⟨_, _, _⟩) ?_ _); rotate_left; (simp <;> omega)) | ((with_reducible refine Below.alloc ?_ ?_ _); rotate_left; (simp <;> omega)) | ((with_reducible refine Below.trans ?_ (Below.mono (by with_reducible assumption) ?_)); rotate_left; (simp <;> omega))))
/-- a fixed call: a second goes by -/
theorem slew_fix (w : World) : Calls Try.prog 42 #[.agg #[.int .i64 0, .int .i64 640, .int .i64 0, .int .i64 0, .bool false], .int .i64 1] w fun e w' =>
    e = .returned (.tuple #[.agg #[.int .i64 0, .int .i64 630, .int .i64 0, .int .i64 0, .bool false], .int .i64 10, .int .i64 0]) ∧ Below w.heap.size w w' := by
  have h := Slew_yes 0 640 0 0 1 false w (dmay_iff.2 (by omega)) (by omega)
  have e1 : leftN 1 640 = 630 := by decide +kernel
  have e2 : SumN 0 640 1 = 10 := by decide +kernel
  rw [e1, e2] at h
  exact h
set_option maxHeartbeats 1000000 in
/-- a clock that was never set is set -/
theorem update_set (w : World) (p o : Int) (h0 : 0 ≤ p) (h1 : p ≤ 17) (h2 : -1152921504606846976 ≤ o) (h3 : o ≤ 1152921504606846976) : Calls Try.prog 24 #[.agg #[.int .i64 0, .int .i64 0, .int .i64 0, .int .i64 p, .bool false], .int .i64 o, .int .i64 0] w fun e w' =>
    e = .returned (.tuple #[.agg #[.int .i64 0, .int .i64 0, .int .i64 0, .int .i64 p, .bool true], .agg #[.int .i64 1, .int .i64 o], .int .i64 0]) ∧ Below w.heap.size w w' := by
  have HM := Lib.hid (dmay_iff (f := 0) (l := 0) (a := 0) (p := p) |>.2 (by omega))
  have HN := Lib.hid (dnear_true h2 h3)
  have HZ := Lib.hid (dnear_true (x := 0) (b := 1152921504606846976) (by omega) (by omega))
  clear h0 h1 h2 h3
  go_enter Try.func24, Try.ntmps24
  go_upto_region 4 with (first
    | (go_at_call 51; refine (dmay_any _ _ _ _ _ _).mono ?_; rintro e w' ⟨rfl, hb⟩; rw [HM.out]; obtain ⟨B1, B2, B3, s1, s2, s3, bb⟩ := box3 hb; have HB := Lib.hid bb; have HB1 := Lib.hid B1; have HB2 := Lib.hid B2; have HB3 := Lib.hid B3; clear hb bb B1 B2 B3; have c4 : w'.cell? ⟨w.heap.size, 4, none⟩ = some (.bool false) := HB1.out.cell 4)
    | (go_at_call 52; refine (dnear_any _ _ _ (by omega) (by omega)).mono ?_; rintro e w'' ⟨rfl, rfl⟩; first | rw [HN.out] | rw [HZ.out]))
  have c0 : w'.cell? ⟨w.heap.size, 0, none⟩ = some (.int .i64 0) := HB1.out.cell 0
  have c1 : w'.cell? ⟨w.heap.size, 1, none⟩ = some (.int .i64 0) := HB1.out.cell 1
  have c2 : w'.cell? ⟨w.heap.size, 2, none⟩ = some (.int .i64 0) := HB1.out.cell 2
  have c3 : w'.cell? ⟨w.heap.size, 3, none⟩ = some (.int .i64 p) := HB1.out.cell 3
  have d0 : w'.cell? ⟨w.heap.size + 1, 0, none⟩ = some (.int .i64 0) := HB2.out.cell 0
  have d1 : w'.cell? ⟨w.heap.size + 1, 1, none⟩ = some (.int .i64 0) := HB2.out.cell 1
  have d2 : w'.cell? ⟨w.heap.size + 1, 2, none⟩ = some (.int .i64 0) := HB2.out.cell 2
  have d3 : w'.cell? ⟨w.heap.size + 1, 3, none⟩ = some (.int .i64 0) := HB2.out.cell 3
  have d4 : w'.cell? ⟨w.heap.size + 1, 4, none⟩ = some (.bool false) := HB2.out.cell 4
  have g0 : w'.cell? ⟨w.heap.size + 1 + 1, 0, none⟩ = some (.int .i64 0) := HB3.out.cell 0
  have g1 : w'.cell? ⟨w.heap.size + 1 + 1, 1, none⟩ = some (.int .i64 0) := HB3.out.cell 1
  have f0 := fun i => HB1.out.frozen i
  have f1 := fun i => HB2.out.frozen i
  have f2 := fun i => HB3.out.frozen i
  go_wp2_with fail
  refine bodyPost_ret (v := .tuple #[.agg #[.int .i64 0, .int .i64 0, .int .i64 0, .int .i64 p, .bool true], .agg #[.int .i64 1, .int .i64 o], .int .i64 0]) (by simp [results, Try.results24, go_sem, *]) rfl ⟨rfl, ?_⟩
  have hb := HB.out
  (repeat (first | (with_reducible exact Below.refl _ _) | (with_reducible assumption) | (with_reducible refine Below.drew ?_) | (with_reducible refine below_drewN ?_ _) | ((with_reducible refine Below.setCell ?_ (p := ⟨_, _, _⟩) ?_ _); rotate_left; (simp <;> omega)) | ((with_reducible refine Below.alloc ?_ ?_ _); rotate_left; (simp <;> omega)) | ((with_reducible refine Below.trans ?_ (Below.mono (by with_reducible assumption) ?_)); rotate_left; (simp <;> omega))))
end Go.Proofs.Yteemglgbhdpodaa
