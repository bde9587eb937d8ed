/- Slewing a clock: seconds that go by, in the program and in the document's answer. -/
import Derived.Test.YtjcoeianmihojaaD0
namespace Go.Proofs.Ytjcoeianmihojaa
set_option linter.unusedSimpArgs false
set_option linter.unusedVariables false
open Go.RowKit

/-- what a second takes off what is left -/
def part (l : Int) : Int := if -63 ≤ l ∧ l ≤ 63 then l else l.tdiv 64
def leftN : Nat → Int → Int
  | 0, l => l
  | n + 1, l => leftN n (l - part l)
theorem leftN_succ (n : Nat) (l : Int) : leftN (n + 1) l = leftN n l - part (leftN n l) := by
  induction n generalizing l with
  | zero => rfl
  | succ n ih => rw [leftN, ih]; rfl
theorem part_pos {l : Int} (h : 0 ≤ l) : 0 ≤ part l ∧ part l ≤ l := by unfold part; split; · omega
                                                                       rw [Int.tdiv_eq_ediv_of_nonneg h]; omega
theorem part_neg {l : Int} : part (-l) = - part l := by
  unfold part
  by_cases h : -63 ≤ l ∧ l ≤ 63
  · rw [if_pos h, if_pos (by omega)]
  · rw [if_neg h, if_neg (by omega), Int.neg_tdiv]
theorem leftN_neg (n : Nat) (l : Int) : leftN n (-l) = - leftN n l := by
  induction n generalizing l with
  | zero => rfl
  | succ n ih => rw [leftN, leftN, part_neg, show -l - -part l = -(l - part l) by omega, ih]
theorem leftN_pos (n : Nat) {l : Int} (h : 0 ≤ l) : 0 ≤ leftN n l ∧ leftN n l ≤ l := by
  induction n generalizing l with
  | zero => exact ⟨h, by simp [leftN]⟩
  | succ n ih => have := part_pos h; have := ih (l := l - part l) (by omega); rw [leftN]; omega
theorem leftN_bd (n : Nat) {l : Int} (h0 : -1152921504606846976 ≤ l) (h : l ≤ 1152921504606846976) : -1152921504606846976 ≤ leftN n l ∧ leftN n l ≤ 1152921504606846976 := by
  by_cases hp : 0 ≤ l
  · have := leftN_pos n hp; omega
  · have := leftN_pos n (l := -l) (by omega); rw [leftN_neg] at this; omega
theorem part_bd {l : Int} (h0 : -1152921504606846976 ≤ l) (h : l ≤ 1152921504606846976) : -1152921504606846976 ≤ part l ∧ part l ≤ 1152921504606846976 := by
  by_cases hp : 0 ≤ l
  · have := part_pos hp; omega
  · have := part_pos (l := -l) (by omega); rw [part_neg] at this; omega

set_option maxHeartbeats 400000 in
theorem Slew_no (f l a p n : Int) (s : Bool) (w : World) (h : mayB f l a p = false ∨ n < 0 ∨ 4096 < n) :
    Calls Try.prog 9 #[.agg #[.int .i64 f, .int .i64 l, .int .i64 a, .int .i64 p, .bool s], .int .i64 n] w fun e w' =>
      e = .returned (.tuple #[.agg #[.int .i64 0, .int .i64 0, .int .i64 0, .int .i64 0, .bool false], .int .i64 0, .int .i64 1]) ∧ Below w.heap.size w w' := by
  cases hm : mayB f l a p
  · have HM := Lib.hid hm
    clear hm h
    go_enter Try.func9, Try.ntmps9
    go_wp2_with (go_at_call 14; refine (may_any _ _ _ _ _ _).mono ?_; rintro e w' ⟨rfl, hb⟩; rw [HM.out]; obtain ⟨hc, hf⟩ := bcell hb)
    refine bodyPost_ret (v := .tuple #[.agg #[.int .i64 0, .int .i64 0, .int .i64 0, .int .i64 0, .bool false], .int .i64 0, .int .i64 1]) (by simp [results, Try.results9, go_sem, hc]) rfl ⟨rfl, ?_⟩
    (repeat (first | (with_reducible exact Below.refl _ _) | (with_reducible assumption) | (with_reducible refine Below.drew ?_) | ((with_reducible refine Below.setCell ?_ (p := ⟨_, _, _⟩) ?_ _); rotate_left; (simp <;> omega)) | ((with_reducible refine Below.alloc ?_ ?_ _); rotate_left; (simp <;> omega)) | ((with_reducible refine Below.trans ?_ (Below.mono (by with_reducible assumption) ?_)); rotate_left; (simp <;> omega))))
  · have HM := Lib.hid hm
    have h' : n < 0 ∨ 4096 < n := by simpa [hm] using h
    clear hm h
    by_cases h0 : n < 0
    · clear h'
      go_enter Try.func9, Try.ntmps9
      go_wp2_with (go_at_call 14; refine (may_any _ _ _ _ _ _).mono ?_; rintro e w' ⟨rfl, hb⟩; rw [HM.out]; obtain ⟨hc, hf⟩ := bcell hb)
      refine bodyPost_ret (v := .tuple #[.agg #[.int .i64 0, .int .i64 0, .int .i64 0, .int .i64 0, .bool false], .int .i64 0, .int .i64 1]) (by simp [results, Try.results9, go_sem, hc]) rfl ⟨rfl, ?_⟩
      (repeat (first | (with_reducible exact Below.refl _ _) | (with_reducible assumption) | (with_reducible refine Below.drew ?_) | ((with_reducible refine Below.setCell ?_ (p := ⟨_, _, _⟩) ?_ _); rotate_left; (simp <;> omega)) | ((with_reducible refine Below.alloc ?_ ?_ _); rotate_left; (simp <;> omega)) | ((with_reducible refine Below.trans ?_ (Below.mono (by with_reducible assumption) ?_)); rotate_left; (simp <;> omega))))
    · have h1 : 4096 < n := by omega
      have hd : decide (n < 0) = false := by simp; omega
      clear h' h0
      go_enter Try.func9, Try.ntmps9
      go_wp2_with (go_at_call 14; refine (may_any _ _ _ _ _ _).mono ?_; rintro e w' ⟨rfl, hb⟩; rw [HM.out]; obtain ⟨hc, hf⟩ := bcell hb)
      refine bodyPost_ret (v := .tuple #[.agg #[.int .i64 0, .int .i64 0, .int .i64 0, .int .i64 0, .bool false], .int .i64 0, .int .i64 1]) (by simp [results, Try.results9, go_sem, hc]) rfl ⟨rfl, ?_⟩
      (repeat (first | (with_reducible exact Below.refl _ _) | (with_reducible assumption) | (with_reducible refine Below.drew ?_) | ((with_reducible refine Below.setCell ?_ (p := ⟨_, _, _⟩) ?_ _); rotate_left; (simp <;> omega)) | ((with_reducible refine Below.alloc ?_ ?_ _); rotate_left; (simp <;> omega)) | ((with_reducible refine Below.trans ?_ (Below.mono (by with_reducible assumption) ?_)); rotate_left; (simp <;> omega))))

/-- The block where a clock lies: its five fields. -/
def ClockAt (w : World) (b : Nat) (f l a p : Int) (s : Bool) : Prop :=
  w.cell? ⟨b, 0, none⟩ = some (.int .i64 f) ∧ w.cell? ⟨b, 1, none⟩ = some (.int .i64 l) ∧ w.cell? ⟨b, 2, none⟩ = some (.int .i64 a) ∧ w.cell? ⟨b, 3, none⟩ = some (.int .i64 p) ∧ w.cell? ⟨b, 4, none⟩ = some (.bool s) ∧
  ∀ o, w.frozen? ⟨b, o, none⟩ = false
def SumN (f l : Int) (k : Nat) : Int := l - leftN k l + k * f

set_option maxHeartbeats 400000 in
theorem Slew_yes (f l a p : Int) (n : Nat) (s : Bool) (w : World) (h : mayB f l a p = true) (hn : n ≤ 4096) :
    Calls Try.prog 9 #[.agg #[.int .i64 f, .int .i64 l, .int .i64 a, .int .i64 p, .bool s], .int .i64 n] w fun e w' =>
      e = .returned (.tuple #[.agg #[.int .i64 f, .int .i64 (leftN n l), .int .i64 a, .int .i64 p, .bool s], .int .i64 (SumN f l n), .int .i64 0]) ∧ Below w.heap.size w w' := by
  have HM := Lib.hid h
  obtain ⟨⟨f0, f1⟩, ⟨l0, l1⟩, _⟩ := mayB_iff.1 h
  clear h
  have hd : decide ((n : Int) < 0) = false := by simp
  go_enter Try.func9, Try.ntmps9
  go_wp2_with (go_at_call 14; refine (may_any _ _ _ _ _ _).mono ?_; rintro e w' ⟨rfl, hb⟩; rw [HM.out]; obtain ⟨hc, hf⟩ := bcell hb; have hz := hb.size; simp only [World.size_alloc] at hz)
  go_loopw [7, 22] (fun t i wr => ∃ k : Nat, k ≤ n ∧ i = .int .i64 k ∧ t = .int .i64 (SumN f l k) ∧ ClockAt wr w.heap.size f (leftN k l) a p s ∧ ClockAt wr (w.heap.size + 1) 0 0 0 0 false ∧ Below w.heap.size w wr ∧ w.heap.size + 1 < wr.heap.size) (fun _ i _ => n - (intOf i).toNat)
  case atStart => 
    refine ⟨0, Nat.zero_le _, rfl, by simp [SumN, leftN], ?_, ?_, ?_, by omega⟩
    · simp [ClockAt, hc, hf, leftN, go_sem]
    · simp [ClockAt, hc, hf, go_sem]
    · (repeat (first | (with_reducible exact Below.refl _ _) | (with_reducible assumption) | (with_reducible refine Below.drew ?_) | ((with_reducible refine Below.setCell ?_ (p := ⟨_, _, _⟩) ?_ _); rotate_left; (simp <;> omega)) | ((with_reducible refine Below.alloc ?_ ?_ _); rotate_left; (simp <;> omega)) | ((with_reducible refine Below.trans ?_ (Below.mono (by with_reducible assumption) ?_)); rotate_left; (simp <;> omega))))
  case round =>
    obtain ⟨k, hk, rfl, rfl, ⟨c0, c1, c2, c3, c4, cf⟩, hr, hbl, hsz⟩ := hrel
    have LB := leftN_bd k l0 l1
    have PB := part_bd LB.1 LB.2
    have LS := leftN_succ k l
    have SS : SumN f l (k + 1) = SumN f l k + (part (leftN k l) + f) := by unfold SumN; rw [LS]; push_cast; rw [Int.add_mul]; omega
    have KF : -(2147483 * 4096) ≤ (k : Int) * f ∧ (k : Int) * f ≤ 2147483 * 4096 := by
      constructor
      · have := Int.mul_le_mul_of_nonneg_left f0 (show 0 ≤ (k : Int) by omega); have h2 := Int.mul_le_mul_of_nonneg_right (show (k : Int) ≤ 4096 by omega) (show (0 : Int) ≤ 2147483 by omega); omega
      · have := Int.mul_le_mul_of_nonneg_left f1 (show 0 ≤ (k : Int) by omega); have h2 := Int.mul_le_mul_of_nonneg_right (show (k : Int) ≤ 4096 by omega) (show (0 : Int) ≤ 2147483 by omega); omega
    have SB : -4611686018427387904 ≤ SumN f l k ∧ SumN f l k ≤ 4611686018427387904 := by unfold SumN; omega
    clear KF
    generalize hL' : leftN (k + 1) l = L' at *
    generalize hS' : SumN f l (k + 1) = S' at *
    generalize hS : SumN f l k = S at *
    generalize hL : leftN k l = L at *
    have HL' := Lib.hid hL'
    have HS' := Lib.hid hS'
    have HL := Lib.hid hL
    have HS := Lib.hid hS
    clear hL' hS' hL hS
    obtain ⟨lb0, lb1⟩ := LB
    obtain ⟨pb0, pb1⟩ := PB
    obtain ⟨sb0, sb1⟩ := SB
    have HLS := Lib.hid LS
    have HSS := Lib.hid SS
    clear LS SS
    by_cases hlt : k < n
    · by_cases hnear : -63 ≤ L ∧ L ≤ 63
      · have HN := Lib.hid (nearB_iff.2 hnear)
        have HP := Lib.hid (show part L = L by unfold part; rw [if_pos hnear])
        clear hnear
        go_wp2_with (go_at_call 15; refine (near_any _ _ _ (by omega) (by omega)).mono ?_; rintro e w' ⟨rfl, rfl⟩; rw [HN.out])
        refine ⟨⟨k + 1, by omega, by go_num, by rw [HS'.out, HSS.out, HP.out], ?_, ?_, ?_, by simp; omega⟩, by simp [intOf]; omega⟩
        · rw [HL'.out, HLS.out, HP.out]; simp [ClockAt, c0, c1, c2, c3, c4, cf, go_sem]
        · simpa [ClockAt, go_sem] using hr
        · (repeat (first | (with_reducible exact Below.refl _ _) | (with_reducible assumption) | (with_reducible refine Below.drew ?_) | ((with_reducible refine Below.setCell ?_ (p := ⟨_, _, _⟩) ?_ _); rotate_left; (simp <;> omega)) | ((with_reducible refine Below.alloc ?_ ?_ _); rotate_left; (simp <;> omega)) | ((with_reducible refine Below.trans ?_ (Below.mono (by with_reducible assumption) ?_)); rotate_left; (simp <;> omega))))
      · have HN := Lib.hid (show nearB L 63 = false from nearB_false (by omega))
        have HP := Lib.hid (show part L = L.tdiv 64 by unfold part; rw [if_neg hnear])
        have hpb0 : -1152921504606846976 ≤ L.tdiv 64 := by rw [← HP.out]; exact pb0
        have hpb1 : L.tdiv 64 ≤ 1152921504606846976 := by rw [← HP.out]; exact pb1
        clear hnear
        go_wp2_with (go_at_call 15; refine (near_any _ _ _ (by omega) (by omega)).mono ?_; rintro e w' ⟨rfl, rfl⟩; rw [HN.out])
        refine ⟨⟨k + 1, by omega, by go_num, by rw [HS'.out, HSS.out, HP.out], ?_, ?_, ?_, by simp; omega⟩, by simp [intOf]; omega⟩
        · rw [HL'.out, HLS.out, HP.out]; simp [ClockAt, c0, c1, c2, c3, c4, cf, go_sem]
        · simpa [ClockAt, go_sem] using hr
        · (repeat (first | (with_reducible exact Below.refl _ _) | (with_reducible assumption) | (with_reducible refine Below.drew ?_) | ((with_reducible refine Below.setCell ?_ (p := ⟨_, _, _⟩) ?_ _); rotate_left; (simp <;> omega)) | ((with_reducible refine Below.alloc ?_ ?_ _); rotate_left; (simp <;> omega)) | ((with_reducible refine Below.trans ?_ (Below.mono (by with_reducible assumption) ?_)); rotate_left; (simp <;> omega))))
    · obtain rfl : n = k := by omega
      obtain ⟨r0, r1, r2, r3, r4, rf⟩ := hr
      go_wp2
      refine bodyPost_ret (v := .tuple #[.agg #[.int .i64 f, .int .i64 L, .int .i64 a, .int .i64 p, .bool s], .int .i64 S, .int .i64 0]) (by simp [results, Try.results9, go_sem, *]) rfl ⟨by rw [HL.out, HS.out], ?_⟩
      (repeat (first | (with_reducible exact Below.refl _ _) | (with_reducible assumption) | (with_reducible refine Below.drew ?_) | ((with_reducible refine Below.setCell ?_ (p := ⟨_, _, _⟩) ?_ _); rotate_left; (simp <;> omega)) | ((with_reducible refine Below.alloc ?_ ?_ _); rotate_left; (simp <;> omega)) | ((with_reducible refine Below.trans ?_ (Below.mono (by with_reducible assumption) ?_)); rotate_left; (simp <;> omega))))
end Go.Proofs.Ytjcoeianmihojaa
