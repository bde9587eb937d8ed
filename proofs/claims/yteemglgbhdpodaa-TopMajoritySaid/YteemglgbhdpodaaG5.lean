/- A filter's best sample; whole roots. -/
import Derived.Test.YteemglgbhdpodaaG4
namespace Go.Proofs.Yteemglgbhdpodaa
set_option linter.unusedSimpArgs false
set_option linter.unusedVariables false
set_option maxRecDepth 100000
open Go.RowKit
attribute [local go_sem] toldUpon_value toldUpon_skip toldUpon_enter

def bestN (R : List Smp) (n : Nat) (now : Int) : Smp := if n = 0 then s0 else rg (rowN R n now) 0
def BES (s : Smp) (z : Int) (w : World) (e : Ending) (w' : World) : Prop := e = .returned (.tuple #[sv s, .int .i64 z]) ∧ Below w.heap.size w w'
set_option maxHeartbeats 1000000 in
theorem best_any (w : World) {g n : Nat} {R : List Smp} (now : Int) (h : FB w g R n) (hn : n < 1000000) : Calls Try.prog 28 #[.pointer (some ⟨g, 0, none⟩), .int .i64 now] w (BES (bestN R n now) (if n = 0 then 4 else 0) w) := by
  have hR := fun w' (hb : Below w.heap.size w w') => row_any w' now (h.below hb) hn
  have hl := rowN_len R n now
  obtain ⟨ss, hss⟩ : ∃ ss, rowN R n now = ss := ⟨_, rfl⟩
  rw [hss] at hR hl
  have HB := Lib.hid (show bestN R n now = if n = 0 then s0 else rg ss 0 by unfold bestN; rw [hss])
  clear hss
  obtain ⟨m, hm⟩ : ∃ m, ss.length = m := ⟨_, rfl⟩
  have HM := Lib.hid hm
  unfold ROW at hR
  rw [hm] at hR
  rcases Nat.eq_zero_or_pos n with h0 | h0
  · subst h0
    have hm0 : m = 0 := by omega
    subst hm0
    rw [HB.out, if_pos rfl, if_pos rfl]
    clear hm hl
    go_enter Try.func28, Try.ntmps28
    obtain ⟨w1, hw1⟩ : ∃ w1, w.alloc (.cells #[.int .i64 0, .int .i64 0, .int .i64 0, .int .i64 0] 56) = w1 := ⟨_, rfl⟩
    have hbk : Bk w1 w.heap.size 56 #[.int .i64 0, .int .i64 0, .int .i64 0, .int .i64 0] := by rw [← hw1]; exact Bk.new w _ _
    have hb1 : Below w.heap.size w w1 := by rw [← hw1]; exact (Below.refl _ _).alloc (Nat.le_refl _) _
    have hz : w1.heap.size = w.heap.size + 1 := by rw [← hw1]; simp
    go_upto_region 1 with (fail)
    clear hw1
    have hR1 := hR w1 hb1
    clear hR
    go_upto_region 2 with (go_at_call 55; refine hR1.mono ?_; rintro e w2 ⟨A, c, rfl, hrs, hb2⟩)
    have hbk2 := hbk.below hb2 hbk.lt
    have HBK := Lib.hid hbk2
    have c0 := hbk2.cell 0
    have c1 := hbk2.cell 1
    have c2 := hbk2.cell 2
    have c3 := hbk2.cell 3
    have fz : ∀ o, w2.frozen? ⟨w.heap.size, o, none⟩ = false := fun o => hbk2.frozen o
    have HBB := Lib.hid (hb1.trans (hb2.mono (by omega)))
    clear hR1 hbk hb1 hbk2 hb2 hrs h
    go_wp2_with fail
    exact bodyPost_ret (v := .tuple #[sv s0, .int .i64 4]) (by simp [results, Try.results28, go_sem, c0, c1, c2, c3, sv, s0]) rfl ⟨rfl, (((HBB.out.setCell (p := ⟨w.heap.size, 0, none⟩) (Nat.le_refl _) _).setCell (p := ⟨w.heap.size, 1, none⟩) (Nat.le_refl _) _).setCell (p := ⟨w.heap.size, 2, none⟩) (Nat.le_refl _) _).setCell (p := ⟨w.heap.size, 3, none⟩) (Nat.le_refl _) _⟩
  · rw [HB.out, if_neg (by omega), if_neg (by omega)]
    have hm1 : 0 < m := by omega
    clear hm hl
    obtain ⟨so, hso⟩ : ∃ s, rg ss 0 = s := ⟨_, rfl⟩
    rw [hso]
    have HSO := Lib.hid hso
    clear hso
    have t1 : ((m : Int) == 0) = false := by simp; omega
    have t2 : (0 : Int) < (m : Int) := by omega
    go_enter Try.func28, Try.ntmps28
    obtain ⟨w1, hw1⟩ : ∃ w1, w.alloc (.cells #[.int .i64 0, .int .i64 0, .int .i64 0, .int .i64 0] 56) = w1 := ⟨_, rfl⟩
    have hbk : Bk w1 w.heap.size 56 #[.int .i64 0, .int .i64 0, .int .i64 0, .int .i64 0] := by rw [← hw1]; exact Bk.new w _ _
    have hb1 : Below w.heap.size w w1 := by rw [← hw1]; exact (Below.refl _ _).alloc (Nat.le_refl _) _
    have hz : w1.heap.size = w.heap.size + 1 := by rw [← hw1]; simp
    go_upto_region 1 with (fail)
    clear hw1
    have hR1 := hR w1 hb1
    clear hR
    go_upto_region 2 with (go_at_call 55; refine hR1.mono ?_; rintro e w2 ⟨A, c, rfl, hrs, hb2⟩)
    obtain ⟨g2, rfl, hg2, hsb⟩ : ∃ g2, A = some ⟨g2, 0, none⟩ ∧ w1.heap.size ≤ g2 ∧ SB w2 g2 ss := by
      rcases hrs.1.2 with ⟨_, h⟩ | h
      · omega
      · exact h
    obtain ⟨d0, d1, d2, d3⟩ := hsb.at (j := 0) (by have := HM.out; omega)
    rw [Nat.zero_mul] at d0 d1 d2 d3
    have hbk2 := hbk.below hb2 hbk.lt
    have c0 := hbk2.cell 0
    have c1 := hbk2.cell 1
    have c2 := hbk2.cell 2
    have c3 := hbk2.cell 3
    have fz : ∀ o, w2.frozen? ⟨w.heap.size, o, none⟩ = false := fun o => hbk2.frozen o
    have HBB := Lib.hid (hb1.trans (hb2.mono (by omega)))
    rw [HSO.out] at d0 d1 d2 d3
    obtain ⟨xo, xd, xp, xa⟩ := so
    clear hR1 hbk hb1 hbk2 hb2 hrs h hsb
    go_wp2_with fail
    exact bodyPost_ret (v := .tuple #[sv ⟨xo, xd, xp, xa⟩, .int .i64 0]) (by simp [results, Try.results28, go_sem, c0, c1, c2, c3, sv]) rfl ⟨rfl, (((HBB.out.setCell (p := ⟨w.heap.size, 0, none⟩) (Nat.le_refl _) _).setCell (p := ⟨w.heap.size, 1, none⟩) (Nat.le_refl _) _).setCell (p := ⟨w.heap.size, 2, none⟩) (Nat.le_refl _) _).setCell (p := ⟨w.heap.size, 3, none⟩) (Nat.le_refl _) _⟩
/-- the bits of a whole root, the highest first -/
def rootF (n : Nat) : Nat → Nat → Nat
  | 0, x => x
  | k + 1, x => rootF n k (if (x + 2 ^ k) * (x + 2 ^ k) ≤ n then x + 2 ^ k else x)
def rootN (n : Nat) : Nat := rootF n 32 0
theorem rootF_spec (n : Nat) : ∀ k x, x * x ≤ n → n < (x + 2 ^ k) * (x + 2 ^ k) → rootF n k x * rootF n k x ≤ n ∧ n < (rootF n k x + 1) * (rootF n k x + 1)
  | 0, x, h1, h2 => ⟨h1, by simpa [rootF] using h2⟩
  | k + 1, x, h1, h2 => by
    unfold rootF
    split
    · rename_i h
      exact rootF_spec n k _ h (by rw [Nat.add_assoc, ← Nat.two_mul, ← Nat.pow_succ']; exact h2)
    · rename_i h
      exact rootF_spec n k _ h1 (by omega)
theorem rootN_spec {n : Nat} (h : n < 18446744073709551616) : rootN n * rootN n ≤ n ∧ n < (rootN n + 1) * (rootN n + 1) := rootF_spec n 32 0 (by omega) (by simpa using h)
set_option maxHeartbeats 1000000 in
theorem root_any (w : World) {n : Nat} (hn : n < 18446744073709551616) : Calls Try.prog 44 #[.int .u64 (n : Int)] w fun e w' => e = .returned (.int .u64 ((rootN n : Nat) : Int)) ∧ w = w' := by
  go_enter Try.func44, Try.ntmps44
  go_wp2_with fail
  go_loop [3, 4] (fun x b => ∃ (k y : Nat), k ≤ 32 ∧ x = .int .u64 (y : Int) ∧ b = .int .u64 (((2 ^ k / 2 : Nat)) : Int) ∧ y + 2 ^ k ≤ 4294967296 ∧ rootF n k y = rootN n) (fun _ b => (intOf b).toNat)
  case atStart => exact ⟨32, 0, Nat.le_refl _, rfl, rfl, by decide, rfl⟩
  case round =>
    obtain ⟨k, y, hk, rfl, rfl, hy, hr⟩ := hrel
    cases k with
    | zero =>
      have hfin : y = rootN n := hr
      have t0 : ((2 ^ 0 / 2 : Nat) : Int) = 0 := rfl
      rw [t0]
      clear hr
      have HF := Lib.hid hfin
      clear hfin
      go_wp2_with fail
      go_ret
      exact ⟨by rw [HF.out]; rfl, rfl⟩
    | succ k =>
      have e1 : 2 ^ (k + 1) / 2 = 2 ^ k := by rw [Nat.pow_succ]; omega
      rw [e1]
      have hp := Nat.two_pow_pos k
      obtain ⟨p, hpk⟩ : ∃ p, 2 ^ k = p := ⟨_, rfl⟩
      rw [Nat.pow_succ] at hy
      have HR := Lib.hid hr
      have HH := Lib.hid (show 2 ^ k / 2 = p / 2 by rw [hpk])
      have HRF := Lib.hid (show rootF n (k + 1) y = rootF n k (if (y + p) * (y + p) ≤ n then y + p else y) by rw [← hpk]; rfl)
      rw [hpk] at hy hp ⊢
      clear hr e1
      obtain ⟨s, hs⟩ : ∃ s, y + p = s := ⟨_, rfl⟩
      obtain ⟨Q, hQ⟩ : ∃ Q, s * s = Q := ⟨_, rfl⟩
      have h3 : s < 4294967296 := by omega
      have hq : Q < 18446744073709551616 := by
        rw [← hQ]
        exact Nat.lt_of_le_of_lt (Nat.mul_le_mul (Nat.le_of_lt h3) (Nat.le_refl s)) (by omega)
      have i1 : IntKind.u64.wrap ((y : Int) + (p : Int)) = (s : Int) := by rw [IntKind.wrap_u64]; omega
      have i2 : IntKind.u64.wrap ((s : Int) * (s : Int)) = (Q : Int) := by
        rw [IntKind.wrap_u64, ← Int.natCast_mul, hQ]; omega
      rw [hs, hQ] at HRF
      have HS := Lib.hid (And.intro hs hpk)
      clear hpk hQ hs
      have t1 : (0 : Int) < (p : Int) := by omega
      by_cases hle : Q ≤ n
      · have t2 : (Q : Int) ≤ (n : Int) := by omega
        have HX := Lib.hid (HRF.out.trans (by rw [if_pos hle]))
        clear hle
        go_wp2_with fail
        go_round
        case rel => exact ⟨k, s, by omega, rfl, by rw [HH.out]; rfl, by have := HS.out; omega, by rw [← HR.out, HX.out]⟩
        case measure => simp [intOf]; omega
      · have t2 : ¬ (Q : Int) ≤ (n : Int) := by omega
        have HX := Lib.hid (HRF.out.trans (by rw [if_neg hle]))
        clear hle
        go_wp2_with fail
        go_round
        case rel => exact ⟨k, y, by omega, rfl, by rw [HH.out]; rfl, by have := HS.out; omega, by rw [← HR.out, HX.out]⟩
        case measure => simp [intOf]; omega
end Go.Proofs.Yteemglgbhdpodaa
