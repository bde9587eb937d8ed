/- Slewing a clock, as the document's answer has it: worths and signs apart; it comes to the same numbers. -/
import Derived.Test.YtjcoeianmihojaaD1
namespace Go.Proofs.Ytjcoeianmihojaa
set_option linter.unusedSimpArgs false
set_option linter.unusedVariables false
open Go.RowKit

theorem worthN {l : Int} (h : -9223372036854775808 < l) : worth l = (l.natAbs : Int) := worth_of h
/-- the rest without its sign -/
def wl (k : Nat) (l : Int) : Int := leftN k (l.natAbs : Int)
theorem wl_zero (l : Int) : wl 0 l = (l.natAbs : Int) := rfl
theorem wl_pos (k : Nat) (l : Int) (h : 0 ≤ l) : wl k l = leftN k l := by unfold wl; rw [show ((l.natAbs : Nat) : Int) = l by omega]
theorem wl_neg (k : Nat) (l : Int) (h : l < 0) : wl k l = - leftN k l := by unfold wl; rw [show ((l.natAbs : Nat) : Int) = -l by omega, leftN_neg]
theorem wl_succ (k : Nat) (l : Int) : wl (k + 1) l = wl k l - part (wl k l) := leftN_succ k _
theorem wl_bd (k : Nat) {l : Int} (h0 : -1152921504606846976 ≤ l) (h : l ≤ 1152921504606846976) : 0 ≤ wl k l ∧ wl k l ≤ 1152921504606846976 := by
  have := leftN_pos k (l := (l.natAbs : Int)) (by omega); unfold wl; omega
theorem sum_step (f l : Int) (k : Nat) : SumN f l (k + 1) = SumN f l k + (part (leftN k l) + f) := by unfold SumN; rw [leftN_succ]; push_cast; rw [Int.add_mul]; omega
theorem sum_bd {f l : Int} {k : Nat} (hk : k ≤ 4096) (f0 : -2147483 ≤ f) (f1 : f ≤ 2147483) (l0 : -1152921504606846976 ≤ l) (l1 : l ≤ 1152921504606846976) : -4611686018427387904 ≤ SumN f l k ∧ SumN f l k ≤ 4611686018427387904 := by
  have LB := leftN_bd k l0 l1
  have KF : -(2147483 * 4096) ≤ (k : Int) * f ∧ (k : Int) * f ≤ 2147483 * 4096 := by
    constructor
    · have := Int.mul_le_mul_of_nonneg_left f0 (show 0 ≤ (k : Int) by omega); have h2 := Int.mul_le_mul_of_nonneg_right (show (k : Int) ≤ 4096 by omega) (show (0 : Int) ≤ 2147483 by omega); omega
    · have := Int.mul_le_mul_of_nonneg_left f1 (show 0 ≤ (k : Int) by omega); have h2 := Int.mul_le_mul_of_nonneg_right (show (k : Int) ≤ 4096 by omega) (show (0 : Int) ≤ 2147483 by omega); omega
  unfold SumN; omega

set_option maxHeartbeats 400000 in
theorem RSlew_no (f l a p n : Int) (s : Bool) (w : World) (hf : I64 f) (hl : I64 l) (ha : I64 a) (h : mayB f l a p = false ∨ n < 0 ∨ 4096 < n) :
    Calls Try.prog 10 #[.agg #[.int .i64 f, .int .i64 l, .int .i64 a, .int .i64 p, .bool s], .int .i64 n] w fun e w' =>
      e = .returned (.tuple #[.agg #[.int .i64 0, .int .i64 0, .int .i64 0, .int .i64 0, .bool false], .int .i64 0, .int .i64 1]) ∧ Below w.heap.size w w' := by
  cases hm : mayB f l a p
  · have HM := Lib.hid hm
    clear hm h
    go_enter Try.func10, Try.ntmps10
    go_wp2_with (go_at_call 16; refine (May_any _ _ _ _ _ _ hf hl ha).mono ?_; rintro e w' ⟨rfl, hb⟩; rw [HM.out]; obtain ⟨hc, hf⟩ := bcell hb)
    refine bodyPost_ret (v := .tuple #[.agg #[.int .i64 0, .int .i64 0, .int .i64 0, .int .i64 0, .bool false], .int .i64 0, .int .i64 1]) (by simp [results, Try.results10, go_sem, hc]) rfl ⟨rfl, ?_⟩
    (repeat (first | (with_reducible exact Below.refl _ _) | (with_reducible assumption) | (with_reducible refine Below.drew ?_) | ((with_reducible refine Below.setCell ?_ (p := ⟨_, _, _⟩) ?_ _); rotate_left; (simp <;> omega)) | ((with_reducible refine Below.alloc ?_ ?_ _); rotate_left; (simp <;> omega)) | ((with_reducible refine Below.trans ?_ (Below.mono (by with_reducible assumption) ?_)); rotate_left; (simp <;> omega))))
  · have HM := Lib.hid hm
    have h' : n < 0 ∨ 4096 < n := by simpa [hm] using h
    clear hm h
    by_cases h0 : n < 0
    · clear h'
      go_enter Try.func10, Try.ntmps10
      go_wp2_with (go_at_call 16; refine (May_any _ _ _ _ _ _ hf hl ha).mono ?_; rintro e w' ⟨rfl, hb⟩; rw [HM.out]; obtain ⟨hc, hf⟩ := bcell hb)
      refine bodyPost_ret (v := .tuple #[.agg #[.int .i64 0, .int .i64 0, .int .i64 0, .int .i64 0, .bool false], .int .i64 0, .int .i64 1]) (by simp [results, Try.results10, go_sem, hc]) rfl ⟨rfl, ?_⟩
      (repeat (first | (with_reducible exact Below.refl _ _) | (with_reducible assumption) | (with_reducible refine Below.drew ?_) | ((with_reducible refine Below.setCell ?_ (p := ⟨_, _, _⟩) ?_ _); rotate_left; (simp <;> omega)) | ((with_reducible refine Below.alloc ?_ ?_ _); rotate_left; (simp <;> omega)) | ((with_reducible refine Below.trans ?_ (Below.mono (by with_reducible assumption) ?_)); rotate_left; (simp <;> omega))))
    · have h1 : 4096 < n := by omega
      have hd : decide (n < 0) = false := by simp; omega
      clear h' h0
      go_enter Try.func10, Try.ntmps10
      go_wp2_with (go_at_call 16; refine (May_any _ _ _ _ _ _ hf hl ha).mono ?_; rintro e w' ⟨rfl, hb⟩; rw [HM.out]; obtain ⟨hc, hf⟩ := bcell hb)
      refine bodyPost_ret (v := .tuple #[.agg #[.int .i64 0, .int .i64 0, .int .i64 0, .int .i64 0, .bool false], .int .i64 0, .int .i64 1]) (by simp [results, Try.results10, go_sem, hc]) rfl ⟨rfl, ?_⟩
      (repeat (first | (with_reducible exact Below.refl _ _) | (with_reducible assumption) | (with_reducible refine Below.drew ?_) | ((with_reducible refine Below.setCell ?_ (p := ⟨_, _, _⟩) ?_ _); rotate_left; (simp <;> omega)) | ((with_reducible refine Below.alloc ?_ ?_ _); rotate_left; (simp <;> omega)) | ((with_reducible refine Below.trans ?_ (Below.mono (by with_reducible assumption) ?_)); rotate_left; (simp <;> omega))))

set_option maxHeartbeats 600000 in
theorem RSlew_yes (f l a p : Int) (n : Nat) (s : Bool) (w : World) (h : mayB f l a p = true) (hn : n ≤ 4096) :
    Calls Try.prog 10 #[.agg #[.int .i64 f, .int .i64 l, .int .i64 a, .int .i64 p, .bool s], .int .i64 n] w fun e w' =>
      e = .returned (.tuple #[.agg #[.int .i64 f, .int .i64 (leftN n l), .int .i64 a, .int .i64 p, .bool s], .int .i64 (SumN f l n), .int .i64 0]) ∧ Below w.heap.size w w' := by
  have HM := Lib.hid h
  obtain ⟨⟨f0, f1⟩, ⟨l0, l1⟩, ⟨a0, a1⟩, _⟩ := mayB_iff.1 h
  clear h
  have hd : decide ((n : Int) < 0) = false := by simp
  have Hf : I64 f := I64.mk (by omega) (by omega)
  have Hl : I64 l := I64.mk (by omega) (by omega)
  have Ha : I64 a := I64.mk (by omega) (by omega)
  have HW := Lib.hid (show worth l = wl 0 l from worthN (by omega))
  by_cases hneg : l < 0
  all_goals
    go_enter Try.func10, Try.ntmps10
    go_wp2_with (first | (go_at_call 16; refine (May_any _ _ _ _ _ _ Hf Hl Ha).mono ?_; rintro e w' ⟨rfl, hb⟩; rw [HM.out]; obtain ⟨hc, hf⟩ := bcell hb; have hz := hb.size; simp only [World.size_alloc] at hz) | (go_at_call 13; refine (Worth_any _ _ Hl.lo Hl.hi).mono ?_; rintro e w'' ⟨rfl, rfl⟩; rw [HW.out]))
    go_loopw [7, 8, 9] (fun u t i wr => ∃ k : Nat, k ≤ n ∧ i = .int .i64 k ∧ u = .int .i64 (wl k l) ∧ t = .int .i64 (SumN f l k) ∧ ClockAt wr w.heap.size f l a p s ∧ ClockAt wr (w.heap.size + 1) 0 0 0 0 false ∧ Below w.heap.size w wr ∧ w.heap.size + 1 < wr.heap.size) (fun _ _ i _ => n - (intOf i).toNat)
    case atStart =>
      refine ⟨0, Nat.zero_le _, rfl, rfl, by simp [SumN, leftN], ?_, ?_, ?_, by omega⟩
      · simp [ClockAt, hc, hf, go_sem]
      · simp [ClockAt, hc, hf, go_sem]
      · (repeat (first | (with_reducible exact Below.refl _ _) | (with_reducible assumption) | (with_reducible refine Below.drew ?_) | ((with_reducible refine Below.setCell ?_ (p := ⟨_, _, _⟩) ?_ _); rotate_left; (simp <;> omega)) | ((with_reducible refine Below.alloc ?_ ?_ _); rotate_left; (simp <;> omega)) | ((with_reducible refine Below.trans ?_ (Below.mono (by with_reducible assumption) ?_)); rotate_left; (simp <;> omega))))
    case round =>
      obtain ⟨k, hk, rfl, rfl, rfl, ⟨c0, c1, c2, c3, c4, cf⟩, hr, hbl, hsz⟩ := hrel
      have WB := wl_bd k l0 l1
      have PB := part_pos WB.1
      have SB := sum_bd (f := f) (l := l) (k := k) (by omega) f0 f1 l0 l1
      have WS := wl_succ k l
      have SS := sum_step f l k
      have WL : leftN k l = if l < 0 then - wl k l else wl k l := by
        by_cases hx : l < 0
        · rw [if_pos hx, wl_neg k l hx]; omega
        · rw [if_neg hx, wl_pos k l (by omega)]
      have PW : part (leftN k l) = if l < 0 then - part (wl k l) else part (wl k l) := by
        rw [WL]
        by_cases hx : l < 0
        · rw [if_pos hx, if_pos hx, part_neg]
        · rw [if_neg hx, if_neg hx]
      rw [PW] at SS
      clear PW
      generalize hW' : wl (k + 1) l = W' at *
      generalize hS' : SumN f l (k + 1) = S' at *
      generalize hS : SumN f l k = S at *
      generalize hL : wl k l = L at *
      generalize hP : part L = P at *
      have HW' := Lib.hid hW'
      have HS' := Lib.hid hS'
      have HL := Lib.hid hL
      have HS := Lib.hid hS
      have HWL := Lib.hid WL
      have HWS := Lib.hid WS
      have HSS := Lib.hid SS
      clear hW' hS' hL hS WL WS SS
      obtain ⟨lb0, lb1⟩ := WB
      obtain ⟨pb0, pb1⟩ := PB
      obtain ⟨sb0, sb1⟩ := SB
      by_cases hlt : k < n
      · by_cases hnear : L < 64
        · obtain rfl : P = L := by rw [← hP]; unfold part; rw [if_pos (by omega)]
          clear hP
          go_wp2
          refine ⟨⟨k + 1, by omega, by go_num, by rw [HW'.out, HWS.out]; congr 1; omega, ?_, ⟨c0, c1, c2, c3, c4, cf⟩, hr, hbl, hsz⟩, by simp [intOf]; omega⟩
          rw [HS'.out, HSS.out]
          first | (rw [if_pos hneg]; congr 1; omega) | (rw [if_neg (by omega)]; congr 1; omega)
        · have hPd : P = L.tdiv 64 := by rw [← hP]; unfold part; rw [if_neg (by omega)]
          have hPe : L.tdiv 64 = L / 64 := Int.tdiv_eq_ediv_of_nonneg (by omega)
          have HPd := Lib.hid (hPd.trans hPe)
          clear hP hPd hPe
          go_wp2
          refine ⟨⟨k + 1, by omega, by go_num, by rw [HW'.out, HWS.out, HPd.out], ?_, ⟨c0, c1, c2, c3, c4, cf⟩, hr, hbl, hsz⟩, by simp [intOf]; omega⟩
          rw [HS'.out, HSS.out, HPd.out]
          first | (rw [if_pos hneg]; congr 1; omega) | (rw [if_neg (by omega)]; congr 1; omega)
      · obtain rfl : n = k := by omega
        obtain ⟨r0, r1, r2, r3, r4, rf⟩ := hr
        go_wp2
        refine bodyPost_ret (v := .tuple #[.agg #[.int .i64 f, .int .i64 (leftN n l), .int .i64 a, .int .i64 p, .bool s], .int .i64 S, .int .i64 0]) (by rw [HWL.out]; first | (rw [if_pos hneg]; simp [results, Try.results10, go_sem, *]; done) | (rw [if_neg (by omega)]; simp [results, Try.results10, go_sem, *]; done)) rfl ⟨by rw [HS.out], ?_⟩
        (repeat (first | (with_reducible exact Below.refl _ _) | (with_reducible assumption) | (with_reducible refine Below.drew ?_) | ((with_reducible refine Below.setCell ?_ (p := ⟨_, _, _⟩) ?_ _); rotate_left; (simp <;> omega)) | ((with_reducible refine Below.alloc ?_ ?_ _); rotate_left; (simp <;> omega)) | ((with_reducible refine Below.trans ?_ (Below.mono (by with_reducible assumption) ?_)); rotate_left; (simp <;> omega))))
end Go.Proofs.Ytjcoeianmihojaa
