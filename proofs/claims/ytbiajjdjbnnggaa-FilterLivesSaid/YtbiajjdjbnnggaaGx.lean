/- The document's best sample; both filters hold the same samples. -/
import Derived.Test.YtbiajjdjbnnggaaGv
namespace Go.Proofs.Ytbiajjdjbnnggaa
set_option linter.unusedSimpArgs false
set_option linter.unusedVariables false
set_option maxRecDepth 100000
open Go.RowKit
attribute [local go_sem] toldUpon_value toldUpon_skip toldUpon_enter

def rbestN (L : List Smp) (now : Int) : Smp := if L.length = 0 then s0 else rg (srt now L.reverse) 0
set_option maxHeartbeats 1000000 in
theorem rbest_any (w : World) {g n : Nat} {L : List Smp} (now : Int) (h : RF w g L) (hn : L.length = n) (hn8 : n ≤ 8) : Calls Try.prog 22 #[.pointer (some ⟨g, 0, none⟩), .int .i64 now] w (BES (rbestN L now) (if n = 0 then 4 else 0) w) := by
  have hR := fun w' (hb : Below w.heap.size w w') => rrow_any w' now (h.below hb) (by omega)
  have hl : (srt now L.reverse).length = n := by unfold srt; rw [foldl_len, List.length_reverse, hn]; simp
  obtain ⟨ss, hss⟩ : ∃ ss, srt now L.reverse = ss := ⟨_, rfl⟩
  rw [hss] at hR hl
  have HB := Lib.hid (show rbestN L now = if n = 0 then s0 else rg ss 0 by unfold rbestN; rw [hss, hn])
  clear hss
  obtain ⟨m, hm⟩ : ∃ m, ss.length = m := ⟨_, rfl⟩
  have HM := Lib.hid hm
  unfold ROW at hR
  rw [hm] at hR
  clear hn
  rcases Nat.eq_zero_or_pos n with h0 | h0
  · subst h0
    have hm0 : m = 0 := by omega
    subst hm0
    rw [HB.out, if_pos rfl, if_pos rfl]
    clear hm hl
    go_enter Try.func22, Try.ntmps22
    obtain ⟨w1, hw1⟩ : ∃ w1, w.alloc (.cells #[.int .i64 0, .int .i64 0, .int .i64 0, .int .i64 0] 27) = w1 := ⟨_, rfl⟩
    have hbk : Bk w1 w.heap.size 27 #[.int .i64 0, .int .i64 0, .int .i64 0, .int .i64 0] := by rw [← hw1]; exact Bk.new w _ _
    have hb1 : Below w.heap.size w w1 := by rw [← hw1]; exact (Below.refl _ _).alloc (Nat.le_refl _) _
    have hz : w1.heap.size = w.heap.size + 1 := by rw [← hw1]; simp
    go_upto_region 1 with (fail)
    clear hw1
    have hR1 := hR w1 hb1
    clear hR
    go_upto_region 2 with (go_at_call 23; refine hR1.mono ?_; rintro e w2 ⟨A, c, rfl, hrs, hb2⟩)
    have hbk2 := hbk.below hb2 hbk.lt
    have HBK := Lib.hid hbk2
    have c0 := hbk2.cell 0
    have c1 := hbk2.cell 1
    have c2 := hbk2.cell 2
    have c3 := hbk2.cell 3
    have fz : ∀ o, w2.frozen? ⟨w.heap.size, o, none⟩ = false := fun o => hbk2.frozen o
    have HBB := Lib.hid (hb1.trans (hb2.mono (by omega)))
    clear hR1 hbk hb1 hbk2 hb2 hrs h
    go_wp2_with fail
    exact bodyPost_ret (v := .tuple #[sv s0, .int .i64 4]) (by simp [results, Try.results22, go_sem, c0, c1, c2, c3, sv, s0]) rfl ⟨rfl, (((HBB.out.setCell (p := ⟨w.heap.size, 0, none⟩) (Nat.le_refl _) _).setCell (p := ⟨w.heap.size, 1, none⟩) (Nat.le_refl _) _).setCell (p := ⟨w.heap.size, 2, none⟩) (Nat.le_refl _) _).setCell (p := ⟨w.heap.size, 3, none⟩) (Nat.le_refl _) _⟩
  · rw [HB.out, if_neg (by omega), if_neg (by omega)]
    have hm1 : 0 < m := by omega
    clear hm hl
    obtain ⟨so, hso⟩ : ∃ s, rg ss 0 = s := ⟨_, rfl⟩
    rw [hso]
    have HSO := Lib.hid hso
    clear hso
    have t1 : ((m : Int) == 0) = false := by simp; omega
    have t2 : (0 : Int) < (m : Int) := by omega
    go_enter Try.func22, Try.ntmps22
    obtain ⟨w1, hw1⟩ : ∃ w1, w.alloc (.cells #[.int .i64 0, .int .i64 0, .int .i64 0, .int .i64 0] 27) = w1 := ⟨_, rfl⟩
    have hbk : Bk w1 w.heap.size 27 #[.int .i64 0, .int .i64 0, .int .i64 0, .int .i64 0] := by rw [← hw1]; exact Bk.new w _ _
    have hb1 : Below w.heap.size w w1 := by rw [← hw1]; exact (Below.refl _ _).alloc (Nat.le_refl _) _
    have hz : w1.heap.size = w.heap.size + 1 := by rw [← hw1]; simp
    go_upto_region 1 with (fail)
    clear hw1
    have hR1 := hR w1 hb1
    clear hR
    go_upto_region 2 with (go_at_call 23; refine hR1.mono ?_; rintro e w2 ⟨A, c, rfl, hrs, hb2⟩)
    obtain ⟨g2, rfl, hg2, hsb⟩ : ∃ g2, A = some ⟨g2, 0, none⟩ ∧ w1.heap.size ≤ g2 ∧ SB w2 g2 ss := by
      rcases hrs.1.2 with ⟨_, h⟩ | h
      · omega
      · exact h
    obtain ⟨d0, d1, d2, d3⟩ := hsb.at (j := 0) (by have := HM.out; omega)
    rw [Nat.zero_mul] at d0 d1 d2 d3
    have hbk2 := hbk.below hb2 hbk.lt
    have c0 := hbk2.cell 0
    have c1 := hbk2.cell 1
    have c2 := hbk2.cell 2
    have c3 := hbk2.cell 3
    have fz : ∀ o, w2.frozen? ⟨w.heap.size, o, none⟩ = false := fun o => hbk2.frozen o
    have HBB := Lib.hid (hb1.trans (hb2.mono (by omega)))
    rw [HSO.out] at d0 d1 d2 d3
    obtain ⟨xo, xd, xp, xa⟩ := so
    clear hR1 hbk hb1 hbk2 hb2 hrs h hsb
    go_wp2_with fail
    exact bodyPost_ret (v := .tuple #[sv ⟨xo, xd, xp, xa⟩, .int .i64 0]) (by simp [results, Try.results22, go_sem, c0, c1, c2, c3, sv]) rfl ⟨rfl, (((HBB.out.setCell (p := ⟨w.heap.size, 0, none⟩) (Nat.le_refl _) _).setCell (p := ⟨w.heap.size, 1, none⟩) (Nat.le_refl _) _).setCell (p := ⟨w.heap.size, 2, none⟩) (Nat.le_refl _) _).setCell (p := ⟨w.heap.size, 3, none⟩) (Nat.le_refl _) _⟩
theorem push_rev {L : List Smp} (h : L.length ≤ 8) {s : Smp} (hm : mayB s = true) : nw L.reverse s = (pushL L s).reverse := by
  unfold nw pushL
  rw [if_pos hm]
  by_cases h8 : 8 ≤ L.length
  · rw [if_pos h8]
    match L, h, h8 with
    | x :: T, h, h8 =>
      simp only [List.length_cons] at h h8
      simp only [List.cons_append, List.drop_succ_cons, List.drop_zero, List.reverse_append, List.reverse_cons, List.reverse_nil, List.nil_append, List.singleton_append]
      rw [List.take_succ_cons, List.take_append_of_le_length (by rw [List.length_reverse]; omega), List.take_of_length_le (by rw [List.length_reverse]; omega)]
  · rw [if_neg h8, List.take_of_length_le (by simp; omega)]
    simp
theorem push_len {L : List Smp} (h : L.length ≤ 8) (s : Smp) : (pushL L s).length ≤ 8 := by
  unfold pushL; split
  · simp; omega
  · simp; omega
/-- the document's samples are the newest ones, turned round -/
def Twin (S : List Smp × Nat) (L : List Smp) : Prop := S.1.length = 8 ∧ newest S.1 S.2 = L.reverse
theorem Twin.len {S : List Smp × Nat} {L : List Smp} (h : Twin S L) : L.length = min S.2 8 := by
  have := congrArg List.length h.2
  rw [newest_len, List.length_reverse] at this; exact this.symm
theorem Twin.add {S : List Smp × Nat} {L : List Smp} (h : Twin S L) (s : Smp) : Twin (addN S s) (if mayB s = true then pushL L s else L) := by
  refine ⟨addN_len S s h.1, ?_⟩
  rw [newest_add S s h.1, h.2]
  by_cases hm : mayB s = true
  · rw [if_pos hm, push_rev (by rw [h.len]; omega) hm]
  · rw [if_neg hm]; unfold nw; rw [if_neg hm]
theorem Twin.row {S : List Smp × Nat} {L : List Smp} (h : Twin S L) (now : Int) : rowN S.1 S.2 now = srt now L.reverse := by
  rw [row_srt, h.2]
theorem Twin.best {S : List Smp × Nat} {L : List Smp} (h : Twin S L) (now : Int) : bestN S.1 S.2 now = rbestN L now := by
  unfold bestN rbestN
  rw [h.row, h.len]
  by_cases h0 : S.2 = 0
  · rw [if_pos h0, if_pos (by omega)]
  · rw [if_neg h0, if_neg (by omega)]
theorem Twin.start : Twin (R0, 0) [] := ⟨rfl, rfl⟩
end Go.Proofs.Ytbiajjdjbnnggaa
