/- The walk of the statement on a rate's bounds. -/
import Derived.Test.YtjcoeianmihojaaL0
import Derived.Test.YtjcoeianmihojaaM0
namespace Go.Proofs.Ytjcoeianmihojaa
set_option linter.unusedSimpArgs false
set_option linter.unusedVariables false
open Go.RowKit

/-- An update ends in an error, and leaves nothing. -/
def UpdErr (f l a p : Int) (s : Bool) (o t : Int) (er : Int) : Prop :=
  ∀ w : World, Calls Try.prog 12 #[.agg #[.int .i64 f, .int .i64 l, .int .i64 a, .int .i64 p, .bool s], .int .i64 o, .int .i64 t] w fun e w' => e = .returned (updT 0 0 0 0 false 0 0 er) ∧ Below w.heap.size w w'
def UpdOk (f l a p : Int) (s : Bool) (o t : Int) (F L what step : Int) : Prop :=
  ∀ w : World, Calls Try.prog 12 #[.agg #[.int .i64 f, .int .i64 l, .int .i64 a, .int .i64 p, .bool s], .int .i64 o, .int .i64 t] w fun e w' => e = .returned (updT F L t p true what step 0) ∧ Below w.heap.size w w'

/-- Whatever comes in: the update errs, with 1 or 160; or it is one of three things. -/
theorem upd_ways (f l a p : Int) (s : Bool) (o t : Int) :
    UpdErr f l a p s o t 1 ∨ UpdErr f l a p s o t 160 ∨
    (mayB f l a p = true ∧ nearB o 1152921504606846976 = true ∧ nearB t 1152921504606846976 = true ∧
      ((s = false ∧ UpdOk f l a p s o t f 0 1 o) ∨
       (s = true ∧ a ≤ t ∧ nearB o 549755814 = false ∧ UpdOk f l a p s o t f 0 2 o) ∨
       (s = true ∧ a ≤ t ∧ nearB o 549755814 = true ∧ UpdOk f l a p s o t (freqU f a p o t) o 3 0))) := by
  cases hm : mayB f l a p
  · exact .inl fun w => Update_arg f l a p o t s w (.inl hm)
  cases ho : nearB o 1152921504606846976
  · exact .inl fun w => Update_arg f l a p o t s w (.inr (.inl ho))
  cases ht : nearB t 1152921504606846976
  · exact .inl fun w => Update_arg f l a p o t s w (.inr (.inr ht))
  cases s
  · exact .inr (.inr ⟨rfl, rfl, rfl, .inl ⟨rfl, fun w => Update_first f l a p o t w hm ho ht⟩⟩)
  cases h1 : nearB o 4294967296000
  · exact .inr (.inl fun w => Update_panic f l a p o t w hm ho ht h1)
  by_cases h2 : t < a
  · exact .inl fun w => Update_early f l a p o t w hm ho ht h1 h2
  cases h3 : nearB o 549755814
  · exact .inr (.inr ⟨rfl, rfl, rfl, .inr (.inl ⟨rfl, by omega, rfl, fun w => Update_step f l a p o t w hm ho ht h1 (by omega) h3⟩)⟩)
  · exact .inr (.inr ⟨rfl, rfl, rfl, .inr (.inr ⟨rfl, by omega, rfl, fun w => Update_slew f l a p o t w hm ho ht h1 (by omega) h3⟩)⟩)

set_option maxHeartbeats 1000000 in
theorem DiscBounds_err (f l a p : Int) (s : Bool) (o t : Int) (er : Int) (w : World) (h : UpdErr f l a p s o t er) (he : (er == 0) = false) :
    Calls Try.prog 4 #[.agg #[.int .i64 f, .int .i64 l, .int .i64 a, .int .i64 p, .bool s], .int .i64 o, .int .i64 t] w fun e w' => e = .returned (.bool true) ∧ Below w.heap.size w w' := by
  have he' : (er != 0) = true := by simpa using he
  have H := Lib.hid h
  clear h
  go_enter Try.func4, Try.ntmps4
  go_wp2_with fail
  refine (H.out _).mono ?_
  rintro e w1 ⟨rfl, hb1⟩
  obtain ⟨B1, s1, bb1⟩ := box1 hb1
  have b1 := B1.cell
  simp only [updT]
  go_wp2_with fail
  refine (alive_any _).mono ?_
  rintro e w2 ⟨rfl, hb2⟩
  obtain ⟨A1, A2, s2, s3, bb2⟩ := box2 hb2
  have a1 := A1.cell
  have a2 := A2.cell
  go_wp2_with fail
  go_ret
  exact ⟨rfl, bb1.trans (bb2.mono (by omega))⟩

set_option maxHeartbeats 1000000 in
theorem DiscBounds_ok (f l a p : Int) (s : Bool) (o t : Int) (F L wh st L2 wh2 st2 : Int) (w : World) (h : UpdOk f l a p s o t F L wh st) (h2 : UpdOk f l a p s 0 t f L2 wh2 st2) (F0 : -2147483 ≤ F) (F1 : F ≤ 2147483) :
    Calls Try.prog 4 #[.agg #[.int .i64 f, .int .i64 l, .int .i64 a, .int .i64 p, .bool s], .int .i64 o, .int .i64 t] w fun e w' => e = .returned (.bool true) ∧ Below w.heap.size w w' := by
  have H := Lib.hid h
  have H2 := Lib.hid h2
  have hW : decide (worth F ≤ 2147483) = true := by have := worth_of (x := F) (by omega); simp only [decide_eq_true_eq]; omega
  clear h h2
  go_enter Try.func4, Try.ntmps4
  go_wp2_with fail
  refine (H.out _).mono ?_
  rintro e w1 ⟨rfl, hb1⟩
  obtain ⟨B1, s1, bb1⟩ := box1 hb1
  have b1 := B1.cell
  simp only [updT]
  go_wp2_with fail
  refine (H2.out _).mono ?_
  rintro e w2 ⟨rfl, hb2⟩
  obtain ⟨A1, A2, s2, s3, bb2⟩ := box2 hb2
  have B2 := B1.below bb2 s1
  simp only [updT]
  go_wp2_with fail
  refine (alive_any _).mono ?_
  rintro e w3 ⟨rfl, hb3⟩
  obtain ⟨C1, C2, s4, s5, bb3⟩ := box2 hb3
  have c1 := C1.cell
  have a1 := (A1.below bb3 s2).cell
  have b2 := (B2.below bb3 (by omega)).cell
  go_wp2_with (go_at_call 13; refine (Worth_any _ _ (by omega) (by omega)).mono ?_; rintro e w9 ⟨rfl, rfl⟩)
  go_ret
  exact ⟨rfl, (bb1.trans (bb2.mono (by omega))).trans (bb3.mono (by omega))⟩

theorem walk_DiscBounds (f l a p : Int) (s : Bool) (o t : Int) (w : World) (_hf : (Lit.int .i64 f).wf = true) (_hl : (Lit.int .i64 l).wf = true) (_ha : (Lit.int .i64 a).wf = true) (_hp : (Lit.int .i64 p).wf = true) (_ho : (Lit.int .i64 o).wf = true) (_ht : (Lit.int .i64 t).wf = true) :
    Calls Try.prog 4 #[.agg #[.int .i64 f, .int .i64 l, .int .i64 a, .int .i64 p, .bool s], .int .i64 o, .int .i64 t] w fun e w' => e = .returned (.bool true) ∧ Below w.heap.size w w' := by
  rcases upd_ways f l a p s o t with h | h | ⟨hm, ho, ht, h⟩
  · exact DiscBounds_err f l a p s o t 1 w h (by decide)
  · exact DiscBounds_err f l a p s o t 160 w h (by decide)
  · obtain ⟨⟨f0, f1⟩, _⟩ := mayB_iff.1 hm
    have z0 : nearB 0 1152921504606846976 = true := nearB_true (by decide) (by decide)
    have z1 : nearB 0 4294967296000 = true := nearB_true (by decide) (by decide)
    have z2 : nearB 0 549755814 = true := nearB_true (by decide) (by decide)
    rcases h with ⟨rfl, h⟩ | ⟨rfl, hat, _, h⟩ | ⟨rfl, hat, _, h⟩
    · exact DiscBounds_ok f l a p false o t _ _ _ _ _ _ _ w h (fun w => Update_first f l a p 0 t w hm z0 ht) f0 f1
    · have h2 : UpdOk f l a p true 0 t (freqU f a p 0 t) 0 3 0 := fun w => Update_slew f l a p 0 t w hm z0 ht z1 hat z2
      rw [freq_zero f0 f1] at h2
      exact DiscBounds_ok f l a p true o t _ _ _ _ _ _ _ w h h2 f0 f1
    · have h2 : UpdOk f l a p true 0 t (freqU f a p 0 t) 0 3 0 := fun w => Update_slew f l a p 0 t w hm z0 ht z1 hat z2
      rw [freq_zero f0 f1] at h2
      exact DiscBounds_ok f l a p true o t _ _ _ _ _ _ _ w h h2 (freq_bd ..).1 (freq_bd ..).2
end Go.Proofs.Ytjcoeianmihojaa
