/- The fixed calls. -/
import Derived.Test.YtkmabfdnekphnaaJ6
namespace Go.Proofs.Ytkmabfdnekphnaa
set_option linter.unusedSimpArgs false
set_option linter.unusedVariables false
set_option maxRecDepth 100000
open Go.RowKit
attribute [local go_sem] toldUpon_value toldUpon_skip toldUpon_enter

def v1 : Vl := ⟨1, 0, none, 0, 0, [], none, 0, 0, []⟩
theorem vv_v1 : vv v1 = .agg #[.int .u32 1, .int .u32 0, .slice none 0 0, .slice none 0 0] := rfl
theorem vv_z0 : vv z0 = .agg #[.int .u32 0, .int .u32 0, .slice none 0 0, .slice none 0 0] := rfl
theorem VR.v1 (w : World) : VR w v1 := ⟨Rd.nil _ _ _ _, Rd.nil _ _ _ _, by decide, by decide, by simp [Go.Proofs.Ytkmabfdnekphnaa.v1], by simp [Go.Proofs.Ytkmabfdnekphnaa.v1]⟩
theorem four_lt (n : Nat) (hn : n < 4294967296) : ∀ x ∈ fourN n, x < 256 := by
  intro x hx
  simp only [fourN, List.mem_cons, List.not_mem_nil, or_false] at hx
  omega
theorem newB_same {a b c d : Vl} (h : same a b) (h' : same c d) : newB a c = newB b d := by
  unfold newB; rw [h.1, h.2.1, h'.1, h'.2.1]
theorem has_empty (l : Lit) : Maps.has (.map [] : DataW Value) l = false := rfl
theorem size_empty : Maps.size (.map [] : DataW Value) = 0 := rfl
set_option maxHeartbeats 2000000 in
theorem valive_any (w : World) : Calls Try.prog 8 #[] w fun e w' => e = .returned (.bool true) ∧ Below w.heap.size w w' := by
  have hN := fun w => snew_any w 1 (by omega) (by omega)
  simp only [show ((1 : Nat) : Int) = 1 from rfl] at hN
  go_enter Try.func8, Try.ntmps8
  go_upto_region 4 with (go_at_call 9; refine (hN _).mono ?_; rintro e w1 ⟨rfl, hs1, hb1⟩)
  obtain ⟨g, hg⟩ : ∃ g, w.heap.size + 1 = g := ⟨_, rfl⟩
  rw [hg] at hs1 ⊢
  have hP1 := put_new w1 hs1 (by omega) (s := 5) (show (Lit.int .i64 5).wf = true by decide) v1 (VR.v1 _) (has_empty _) (by omega) (by decide) (by decide) (by decide)
  rw [vv_v1] at hP1
  clear hN hg
  go_upto_region 5 with (go_at_call 11; refine hP1.mono ?_; rintro e w2 ⟨v', rfl, hsm, ho, hs2, hg2⟩)
  have hsz : Maps.size ((DataW.map [] : DataW Value).put (.int .i64 5) (.held (vv v'))) = 1 := by rw [Go.Maps.size_put Go.Maps.tidy_empty]; rfl
  have hgv := gv_put (D := .map []) Go.Maps.isMap_empty 5 (vv v')
  have hh5 := Go.Maps.has_put_same (D := (.map [] : DataW Value)) Go.Maps.isMap_empty (isKey 5) (.held (vv v'))
  have hh6 : Maps.has ((DataW.map [] : DataW Value).put (.int .i64 5) (.held (vv v'))) (.int .i64 6) = false := by rw [Go.Maps.has_put_other (key_ne (by decide))]; rfl
  have hP2 := put_full w2 hs2 (s := 6) (show (Lit.int .i64 6).wf = true by decide) v1 hh6 (by omega) (by decide) (by decide) (by rw [hsz]; omega)
  have hP3 := fun w3 (h : Below w2.heap.size w2 w3) => put_old w3 (hs2.below h) (s := 5) (show (Lit.int .i64 5).wf = true by decide) v1 v' hh5 hgv (by omega) (by decide) (by decide) (by rw [newB_same (same.rfl' v1) hsm.symm]; decide)
  rw [vv_v1] at hP2 hP3
  have HB2 := Lib.hid (hb1.trans ((Below.refl w.heap.size w1).grown hg2 hb1.size (fun k hk => by cases hk; exact Nat.le_refl _)))
  clear hP1 hb1 hs1 hsz hgv hh5 hh6 hs2 hg2 ho hsm
  go_upto_region 6 with (go_at_call 11; refine hP2.mono ?_; rintro e w3 ⟨rfl, hb3⟩)
  have hP33 := hP3 w3 hb3
  clear hP2 hP3
  have HB3 := Lib.hid (HB2.out.trans (hb3.mono HB2.out.size))
  clear hb3
  have hPr := fun w => pair_any w 1 2 (by omega) (by omega)
  simp only [show ((1 : Nat) : Int) = 1 from rfl, show ((2 : Nat) : Int) = 2 from rfl] at hPr
  unfold ROWu8 at hPr
  have hpo := fun w' A c (h : Rd .u8 w' A 8 c (fourN 1 ++ fourN 2)) => pairof_any w' h (fun x hx => by
    rcases List.mem_append.1 hx with h1 | h1
    · exact four_lt 1 (by omega) x h1
    · exact four_lt 2 (by omega) x h1)
  simp only [if_true, show beN (fourN 1 ++ fourN 2) / 4294967296 = 1 by decide, show beN (fourN 1 ++ fourN 2) % 4294967296 = 2 by decide, show ((1 : Nat) : Int) = 1 from rfl, show ((2 : Nat) : Int) = 2 from rfl] at hpo
  have hSg := fun w => signed_any w z0 (VR.z0 w) (by decide)
  rw [vv_z0] at hSg
  unfold ROWu8 at hSg
  go_wp2_with (first
    | (go_at_call 11; refine hP33.mono ?_; rintro e w4 ⟨rfl, hb4⟩)
    | (go_at_call 23; refine (hPr _).mono ?_; rintro e w5 ⟨A5, c5, rfl, ho5, hb5⟩; have hpo5 := hpo w5 A5 c5 ho5.rd)
    | (go_at_call 21; refine hpo5.mono ?_; rintro e w6 ⟨rfl, rfl⟩)
    | (go_at_call 25; refine (hSg _).mono ?_; rintro e w7 ⟨A7, c7, rfl, ho7, hb7⟩))
  go_ret
  have q4 := HB3.out.trans (hb4.mono HB3.out.size)
  have q5 := q4.trans (hb5.mono q4.size)
  exact ⟨rfl, q5.trans (hb7.mono q5.size)⟩
end Go.Proofs.Ytkmabfdnekphnaa
