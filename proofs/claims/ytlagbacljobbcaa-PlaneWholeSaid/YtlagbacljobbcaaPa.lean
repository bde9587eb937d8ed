/- Layer 13: what must come of fixed calls. -/
import Derived.Test.YtlagbacljobbcaaP9
namespace Go.Proofs.Ytlagbacljobbcaa
set_option linter.unusedSimpArgs false
set_option linter.unusedVariables false
open Go.RowKit
attribute [local go_sem] toldUpon_value toldUpon_skip toldUpon_enter call_bits call_frombits

theorem RdV.of_bk {w : World} {g : Nat} {t : TypeId} {us : List Value} (h : Bk w g t us.toArray) (hm : us.length ≤ 9223372036854775807) : RdV w (some ⟨g, 0, none⟩) us.length us.length us :=
  ⟨rfl, Nat.le_refl _, hm, fun _ => ⟨_, rfl, h.lt, fun j x hx => by
    rw [ad_plain, h.cell j, List.getElem?_toArray]
    exact hx⟩⟩
def fi (n : Int) : Nat := FloatKind.f64.nearest n
theorem fi_eq (n : Int) : FloatKind.f64.nearest n = fi n := rfl
def Is4 (b : Nat) : Prop := FloatKind.f64.format.order b 4616189618054758400 = some .eq
theorem is4_of {b : Nat} (h : mk b = ffar (mk 0) (mk 0) (mk (fi 3)) (mk (fi (-4)))) : Is4 b := by
  have h1 : ffar (mk 0) (mk 0) (mk (fi 3)) (mk (fi (-4))) = some (fi 4) := by decide +kernel
  rw [h1] at h
  rw [(mk_some h).1]
  unfold Is4
  decide +kernel
theorem palive_any (w : World) : Calls Try.prog 9 #[] w fun e w' => e = .returned (.bool true) ∧ Below w.heap.size w w' := by
  have hp : ∀ (w' : World) (o d : Int), Calls Try.prog 16 #[.int .i64 o, .int .i64 d] w' fun e w'' => e = .returned (.complex .f64 (fi o) (fi d)) ∧ w' = w'' := fun w' o d => point_any w' o d
  have hS1 : ∀ (w' : World) {a b : Nat}, mk a = fmean [fi 1, fi 3] → mk b = fmean [fi 2, fi 4] → Calls Try.prog 19 #[.complex .f64 a b, .complex .f64 (fi 2) (fi 3)] w' fun e w'' => e = .returned (.bool true) ∧ w' = w'' := fun w' a b ha hb => by
    have h := same_any w' ha hb (rfl : mk (fi 2) = _) (rfl : mk (fi 3) = _)
    have e : (feq (fmean [fi 1, fi 3]) (mk (fi 2)) && feq (fmean [fi 2, fi 4]) (mk (fi 3))) = true := by decide +kernel
    rwa [e] at h
  have hF : ∀ w' : World, Calls Try.prog 20 #[.complex .f64 0 0, .complex .f64 (fi 3) (fi (-4))] w' fun e w'' => ∃ b, e = .returned (.float .f64 b) ∧ Below w'.heap.size w' w'' ∧ Is4 b := fun w' => by
    refine (far_any w' (rfl : mk 0 = _) (rfl : mk 0 = _) (rfl : mk (fi 3) = _) (rfl : mk (fi (-4)) = _)).mono ?_
    rintro e w2 ⟨b, rfl, lb, eb, bb⟩
    exact ⟨b, rfl, bb, is4_of eb⟩
  have hT : ∀ w' : World, Calls Try.prog 18 #[.complex .f64 (fi 1) (fi 2)] w' fun e w'' => e = .returned (.complex .f64 (fi (-2)) (fi 1)) ∧ w' = w'' := fun w' => by
    have h := turn_any w' (a := fi 1) (b := fi 2) (by decide +kernel)
    have e : fi 2 ^^^ 2 ^ 63 = fi (-2) := by decide +kernel
    rwa [e] at h
  have hS2 : ∀ w' : World, Calls Try.prog 19 #[.complex .f64 (fi (-2)) (fi 1), .complex .f64 (fi (-2)) (fi 1)] w' fun e w'' => e = .returned (.bool true) ∧ w' = w'' := fun w' => by
    have h := same_any w' (rfl : mk (fi (-2)) = _) (rfl : mk (fi 1) = _) (rfl : mk (fi (-2)) = _) (rfl : mk (fi 1) = _)
    have e : (feq (mk (fi (-2))) (mk (fi (-2))) && feq (mk (fi 1)) (mk (fi 1))) = true := by decide +kernel
    rwa [e] at h
  have hM1 : ∀ (w' : World) {A : Option Addr}, RdV w' A 2 2 (cvs [(fi 1, fi 2), (fi 3, fi 4)]) → Calls Try.prog 13 #[.slice A 2 2] w' (ME (fmean [fi 1, fi 3]) (fmean [fi 2, fi 4]) 0 w') := fun w' A h => by
    have h2 := mean_any w' h
    simp only [List.map_cons, List.map_nil] at h2
    rw [show fitN 2 = 0 from rfl] at h2
    exact h2
  have hM0 : ∀ w' : World, Calls Try.prog 13 #[.slice none 0 0] w' (ME (fmean []) (fmean []) 4 w') := fun w' => by
    have h2 := mean_any w' (zs := []) (RdV.nil w' none 0)
    simp only [List.map_nil] at h2
    rw [show fitN 0 = 4 from rfl] at h2
    exact h2
  go_enter Try.func9, Try.ntmps9
  go_upto_region 1 with (fail)
  refine wp_region_lit ?_
  go_wp2_with (go_at_call 16; refine (hp _ _ _).mono ?_; rintro e w1 ⟨rfl, rfl⟩)
  have hb0 := (Below.refl w.heap.size w).alloc (Nat.le_refl _) (.cells (cvs [(fi 1, fi 2), (fi 3, fi 4)]).toArray 28)
  have hrd := RdV.of_bk (us := cvs [(fi 1, fi 2), (fi 3, fi 4)]) (Bk.new w 28 (cvs [(fi 1, fi 2), (fi 3, fi 4)]).toArray) (by decide)
  rw [show Obj.cells #[.complex .f64 (fi 1) (fi 2), .complex .f64 (fi 3) (fi 4)] 28 = Obj.cells (cvs [(fi 1, fi 2), (fi 3, fi 4)]).toArray 28 from rfl]
  generalize w.alloc (.cells (cvs [(fi 1, fi 2), (fi 3, fi 4)]).toArray 28) = w1 at hb0 hrd ⊢
  have hs := hb0.size
  refine (hM1 w1 hrd).mono ?_
  rintro e w2 ⟨a, b, rfl, la, lb, ea, eb, b2⟩
  have hS1' := fun w' => hS1 w' ea eb
  have HB := Lib.hid (hb0.trans (b2.mono hs))
  clear hS1 hM1 ea eb hb0 b2 hrd
  go_wp2_with (first
    | (go_at_call 16; refine (hp _ _ _).mono ?_; rintro e w3 ⟨rfl, rfl⟩)
    | (go_at_call 13; refine (hM0 _).mono ?_; rintro e w3 ⟨a3, b3, rfl, _, _, _, _, bb3⟩)
    | (go_at_call 19; (with_reducible refine (hS1' _).mono ?_); rintro e w3' ⟨rfl, rfl⟩)
    | (go_at_call 20; refine (hF _).mono ?_; rintro e w4 ⟨d, rfl, bb4, i4⟩; have i4' : FloatKind.f64.format.order d 4616189618054758400 = some .eq := i4)
    | (go_at_call 18; refine (hT _).mono ?_; rintro e w3 ⟨rfl, rfl⟩)
    | (go_at_call 19; (with_reducible refine (hS2 _).mono ?_); rintro e w3' ⟨rfl, rfl⟩))
  go_ret
  exact ⟨rfl, HB.out.trans ((bb3.trans (bb4.mono bb3.size)).mono HB.out.size)⟩
end Go.Proofs.Ytlagbacljobbcaa
