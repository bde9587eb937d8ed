/- The walk of the statement that an offset that is slewed is gone within 4096 seconds. -/
import Derived.Test.YtjcoeianmihojaaL3
namespace Go.Proofs.Ytjcoeianmihojaa
set_option linter.unusedSimpArgs false
set_option linter.unusedVariables false
open Go.RowKit

set_option maxHeartbeats 1000000 in
theorem DiscGone_err (f l a p : Int) (s : Bool) (o t : Int) (er : Int) (w : World) (h : UpdErr f l a p s o t er) (he : (er == 0) = false) :
    Calls Try.prog 8 #[.agg #[.int .i64 f, .int .i64 l, .int .i64 a, .int .i64 p, .bool s], .int .i64 o, .int .i64 t] w fun e w' => e = .returned (.bool true) ∧ Below w.heap.size w w' := by
  have he' : (er != 0) = true := by simpa using he
  have H := Lib.hid h
  clear h
  go_enter Try.func8, Try.ntmps8
  go_wp2_with fail
  refine (H.out _).mono ?_
  rintro e w1 ⟨rfl, hb1⟩
  obtain ⟨B1, s1, bb1⟩ := box1 hb1
  simp only [updT]
  go_wp2_with fail
  refine (alive_any _).mono ?_
  rintro e w2 ⟨rfl, hb2⟩
  obtain ⟨A1, A2, s2, s3, bb2⟩ := box2 hb2
  go_wp2_with fail
  go_ret
  exact ⟨rfl, bb1.trans (bb2.mono (by omega))⟩

set_option maxHeartbeats 1000000 in
theorem DiscGone_other (f l a p : Int) (s : Bool) (o t : Int) (F L wh st : Int) (w : World) (h : UpdOk f l a p s o t F L wh st) (he : (wh == 3) = false) :
    Calls Try.prog 8 #[.agg #[.int .i64 f, .int .i64 l, .int .i64 a, .int .i64 p, .bool s], .int .i64 o, .int .i64 t] w fun e w' => e = .returned (.bool true) ∧ Below w.heap.size w w' := by
  have he' : (wh != 3) = true := by simpa using he
  have H := Lib.hid h
  clear h
  go_enter Try.func8, Try.ntmps8
  go_wp2_with fail
  refine (H.out _).mono ?_
  rintro e w1 ⟨rfl, hb1⟩
  obtain ⟨B1, s1, bb1⟩ := box1 hb1
  simp only [updT]
  go_wp2_with fail
  refine (alive_any _).mono ?_
  rintro e w2 ⟨rfl, hb2⟩
  obtain ⟨A1, A2, s2, s3, bb2⟩ := box2 hb2
  go_wp2_with fail
  go_ret
  exact ⟨rfl, bb1.trans (bb2.mono (by omega))⟩

set_option maxHeartbeats 1000000 in
theorem DiscGone_slew (f l a p : Int) (s : Bool) (o t : Int) (F : Int) (w : World) (h : UpdOk f l a p s o t F o 3 0) (F0 : -2147483 ≤ F) (F1 : F ≤ 2147483) (o0 : -549755814 ≤ o) (o1 : o ≤ 549755814)
    (h2 : ∀ w : World, Calls Try.prog 9 #[.agg #[.int .i64 F, .int .i64 o, .int .i64 t, .int .i64 p, .bool true], .int .i64 4096] w fun e w' => e = .returned (.tuple #[.agg #[.int .i64 F, .int .i64 0, .int .i64 t, .int .i64 p, .bool true], .int .i64 (o + 4096 * F), .int .i64 0]) ∧ Below w.heap.size w w') :
    Calls Try.prog 8 #[.agg #[.int .i64 f, .int .i64 l, .int .i64 a, .int .i64 p, .bool s], .int .i64 o, .int .i64 t] w fun e w' => e = .returned (.bool true) ∧ Below w.heap.size w w' := by
  have H := Lib.hid h
  have H2 := Lib.hid h2
  clear h h2
  go_enter Try.func8, Try.ntmps8
  go_wp2_with fail
  refine (H.out _).mono ?_
  rintro e w1 ⟨rfl, hb1⟩
  obtain ⟨B1, s1, bb1⟩ := box1 hb1
  simp only [updT]
  go_wp2_with fail
  refine (H2.out _).mono ?_
  rintro e w2 ⟨rfl, hb2⟩
  obtain ⟨A1, A2, s2, s3, bb2⟩ := box2 hb2
  go_wp2_with fail
  refine (alive_any _).mono ?_
  rintro e w3 ⟨rfl, hb3⟩
  obtain ⟨C1, s4, bb3⟩ := box1 hb3
  have c1 := C1.cell
  have a1 := (A1.below bb3 s2).cell
  go_wp2_with fail
  go_ret
  exact ⟨rfl, (bb1.trans (bb2.mono (by omega))).trans (bb3.mono (by omega))⟩

theorem walk_DiscGone (f l a p : Int) (s : Bool) (o t : Int) (w : World) (_hf : (Lit.int .i64 f).wf = true) (_hl : (Lit.int .i64 l).wf = true) (_ha : (Lit.int .i64 a).wf = true) (_hp : (Lit.int .i64 p).wf = true) (_ho : (Lit.int .i64 o).wf = true) (_ht : (Lit.int .i64 t).wf = true) :
    Calls Try.prog 8 #[.agg #[.int .i64 f, .int .i64 l, .int .i64 a, .int .i64 p, .bool s], .int .i64 o, .int .i64 t] w fun e w' => e = .returned (.bool true) ∧ Below w.heap.size w w' := by
  rcases upd_ways f l a p s o t with h | h | ⟨hm, ho, ht, h⟩
  · exact DiscGone_err f l a p s o t 1 w h (by decide)
  · exact DiscGone_err f l a p s o t 160 w h (by decide)
  · rcases h with ⟨rfl, h⟩ | ⟨rfl, hat, _, h⟩ | ⟨rfl, hat, h3, h⟩
    · exact DiscGone_other f l a p false o t _ _ _ _ w h (by decide)
    · exact DiscGone_other f l a p true o t _ _ _ _ w h (by decide)
    · obtain ⟨_, _, _, p0, p1⟩ := mayB_iff.1 hm
      obtain ⟨o0, o1⟩ := nearB_iff.1 h3
      have fb := freq_bd f a p o t
      refine DiscGone_slew f l a p true o t _ w h fb.1 fb.2 o0 o1 fun w => ?_
      have hm' : mayB (freqU f a p o t) o t p = true := mayB_iff.2 ⟨fb, ⟨by omega, by omega⟩, nearB_iff.1 ht, p0, p1⟩
      have := Slew_yes (freqU f a p o t) o t p 4096 true w hm' (by omega)
      have e : SumN (freqU f a p o t) o 4096 = o + 4096 * freqU f a p o t := by unfold SumN; rw [left_gone o0 o1]; simp
      rw [left_gone o0 o1, e] at this
      exact this
end Go.Proofs.Ytjcoeianmihojaa
