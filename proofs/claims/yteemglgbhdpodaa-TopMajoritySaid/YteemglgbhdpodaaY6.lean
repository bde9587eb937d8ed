/- The fixed calls of the layer, all of them. -/
import Derived.Test.YteemglgbhdpodaaY5
import Derived.Test.YteemglgbhdpodaaG5
namespace Go.Proofs.Yteemglgbhdpodaa
set_option linter.unusedSimpArgs false
set_option linter.unusedVariables false
set_option maxRecDepth 100000
open Go.RowKit

theorem far_fix (w : World) : Calls Try.prog 43 #[.complex .f64 0 0, .complex .f64 (fi 3) (fi (-4))] w fun e w' => e = .returned (.float .f64 4616189618054758400) ∧ Below w.heap.size w w' := by
  refine (far_any w (a := 0) (b := 0) (c := fi 3) (d := fi (-4)) rfl rfl rfl rfl).mono ?_
  rintro e w' ⟨u, rfl, hu, eu, hb⟩
  have h : mk 4616189618054758400 = ffar (mk 0) (mk 0) (mk (fi 3)) (mk (fi (-4))) := by decide +kernel
  have h2 : mk 4616189618054758400 = some 4616189618054758400 := by decide +kernel
  rw [← h, h2] at eu
  exact ⟨by rw [(mk_some eu).1], hb⟩
theorem ivs_two (x y : Int) : ivs [x, y] = [.int .i64 x, .int .i64 y] := rfl
/-- a slice of two numbers -/
theorem RdV.two {w : World} {g : Nat} {t : TypeId} {u v : Value} (h : Bk w g t #[u, v]) : RdV w (some ⟨g, 0, none⟩) 2 2 [u, v] :=
  ⟨rfl, Nat.le_refl _, by omega, fun _ => ⟨_, rfl, h.lt, fun j x hx => by
    rcases j with _ | _ | j
    · simp at hx; subst hx; exact h.cell 0
    · simp at hx; subst hx; exact h.cell 1
    · simp at hx⟩⟩
set_option maxHeartbeats 1000000 in
theorem alive8_any (w : World) : Calls Try.prog 15 #[] w fun e w' => e = .returned (.bool true) ∧ Below w.heap.size w w' := by
  have hR := Lib.hid (fun w => root_any w (n := 17) (by decide))
  rw [show rootN 17 = 4 by decide +kernel] at hR
  have HC := Lib.hid (fun (w : World) (A B : Option Addr) (r0 : RdV w A 2 2 (ivs [10, 20])) (r1 : RdV w B 2 2 (ivs [0, 0])) => combine_any (D := 0) (Q := 15) w r0 r1 (by omega) (by omega) (by decide) (by omega) (by omega) (fun t ht => by
    rcases t with _ | _ | t
    · rfl
    · rfl
    · omega) (by decide))
  go_enter Try.func15, Try.ntmps15
  go_upto_region 2 with ((with_reducible refine (region_nil _).mono ?_); rintro e w1 ⟨rfl, hb1⟩; have HB1 := Lib.hid hb1; clear hb1)
  refine wp_region_lit ?_
  (refine wpList_plain rfl (fun K hK => ?_); go_simp; refine hK _ _ ?_; clear hK K)
  (refine wpList_plain rfl (fun K hK => ?_); go_simp; refine hK _ _ ?_; clear hK K)
  have k1 : Bk ((w1.alloc (.cells #[.int .i64 10, .int .i64 20] 2)).alloc (.cells #[.int .i64 0, .int .i64 0] 2)) w1.heap.size 2 #[.int .i64 10, .int .i64 20] := (Bk.new _ _ _).alloc _
  have k2 : Bk ((w1.alloc (.cells #[.int .i64 10, .int .i64 20] 2)).alloc (.cells #[.int .i64 0, .int .i64 0] 2)) (w1.heap.size + 1) 2 #[.int .i64 0, .int .i64 0] := Bk.at_new _ _ (by simp)
  have HB2 := Lib.hid (show Below w.heap.size w ((w1.alloc (.cells #[.int .i64 10, .int .i64 20] 2)).alloc (.cells #[.int .i64 0, .int .i64 0] 2)) from (HB1.out.alloc HB1.out.size _).alloc (by have := HB1.out.size; simp; omega) _)
  generalize (w1.alloc (.cells #[.int .i64 10, .int .i64 20] 2)).alloc (.cells #[.int .i64 0, .int .i64 0] 2) = w2 at k1 k2 HB2 ⊢
  have HC2 := Lib.hid (HC.out w2 _ _ (RdV.two k1) (RdV.two k2))
  clear k1 k2 HB1
  go_wp2_with (first
    | ((with_reducible refine HC2.out.mono ?_); rintro e w3 ⟨rfl, hb3⟩; have HB3 := Lib.hid (HB2.out.trans (hb3.mono HB2.out.size)); clear hb3)
    | (go_at_call 42; refine (slew_fix _).mono ?_; rintro e w4 ⟨rfl, hb4⟩; have HB4 := Lib.hid (HB3.out.trans (hb4.mono HB3.out.size)); clear hb4)
    | (go_at_call 18; refine (pointV _ 3 (-4)).mono ?_; rintro e w5 ⟨rfl, rfl⟩)
    | (go_at_call 43; refine (far_fix _).mono ?_; rintro e w6 ⟨rfl, hb6⟩)
    | (go_at_call 44; refine (hR.out _).mono ?_; rintro e w7 ⟨rfl, rfl⟩))
  go_ret
  refine ⟨rfl, ?_⟩
  have hb4 := HB4.out
  have hs4 := hb4.size
  exact (hb4.alloc hs4 _).trans (hb6.mono (by simp; omega))
end Go.Proofs.Yteemglgbhdpodaa
