/- Which clocks are right: offsets and distances that fit, and their mean by weights. -/
import Derived.Test.YteemglgbhdpodaaY0
import Derived.Test.YteemglgbhdpodaaY2
namespace Go.Proofs.Yteemglgbhdpodaa
set_option linter.unusedSimpArgs false
set_option linter.unusedVariables false
set_option maxRecDepth 100000
open Go.RowKit

/-- is an offset too far? -/
def farB (x : Int) : Bool := decide (x < -1099511627776) || decide (1099511627776 < x)
def farD (x : Int) : Bool := decide (x < 0) || decide (1099511627776 < x)
theorem far1_any (w : World) (x : Int) : Calls Try.prog 73 #[.int .i64 x] w fun e w' => e = .returned (.bool (farB x)) ∧ w = w' := by
  have H := Lib.hid (show farB x = (decide (x < -1099511627776) || decide (1099511627776 < x)) from rfl)
  by_cases h1 : x < -1099511627776
  · have d1 := decide_eq_true h1
    rw [d1, Bool.true_or] at H
    go_enter Try.func73, Try.ntmps73
    go_wp2_with fail
    go_ret
    exact ⟨ret_bool (by rw [H.out]), rfl⟩
  · have d1 := decide_eq_false h1
    rw [d1, Bool.false_or] at H
    go_enter Try.func73, Try.ntmps73
    go_wp2_with fail
    go_ret
    exact ⟨ret_bool (by rw [H.out]), rfl⟩
theorem far2_any (w : World) (x : Int) : Calls Try.prog 74 #[.int .i64 x] w fun e w' => e = .returned (.bool (farD x)) ∧ w = w' := by
  have H := Lib.hid (show farD x = (decide (x < 0) || decide (1099511627776 < x)) from rfl)
  by_cases h1 : x < 0
  · have d1 := decide_eq_true h1
    rw [d1, Bool.true_or] at H
    go_enter Try.func74, Try.ntmps74
    go_wp2_with fail
    go_ret
    exact ⟨ret_bool (by rw [H.out]), rfl⟩
  · have d1 := decide_eq_false h1
    rw [d1, Bool.false_or] at H
    go_enter Try.func74, Try.ntmps74
    go_wp2_with fail
    go_ret
    exact ⟨ret_bool (by rw [H.out]), rfl⟩
/-- the place of the first one that is told, or -1 -/
def firstP (p : Int → Bool) : List Int → Nat → Int
  | [], _ => -1
  | b :: bs, i => if p b then (i : Int) else firstP p bs (i + 1)
theorem firstP_neg (p : Int → Bool) (bs : List Int) : ∀ i, (decide (0 ≤ firstP p bs i)) = bs.any p := by
  induction bs with
  | nil => intro i; rfl
  | cons b bs ih =>
    intro i
    unfold firstP
    rw [List.any_cons]
    cases h : p b
    · rw [if_neg (by simp), ih]; rfl
    · rw [if_pos rfl]; simp
theorem firstP_drop {p : Int → Bool} {bs : List Int} {k : Nat} (h : k < bs.length) : firstP p (bs.drop k) k = if p (gi bs k) then (k : Int) else firstP p (bs.drop (k + 1)) (k + 1) := by
  rw [List.drop_eq_getElem_cons h, show gi bs k = bs[k] by unfold gi; rw [List.getD_eq_getElem?_getD, List.getElem?_eq_getElem h]; rfl]; rfl
set_option maxHeartbeats 400000 in
theorem index1_any (w : World) {A : Option Addr} {n c : Nat} {xs : List Int} (h : RdV w A n c (ivs xs)) :
    Calls Try.prog 93 #[.slice A n c, .func (.func 73) #[] #[]] w fun e w' => e = .returned (.int .i64 (firstP farB xs 0)) ∧ Below w.heap.size w w' := by
  have hl : xs.length = n := by have := h.len; rwa [ivs_len] at this
  have hmax := h.max
  go_enter Try.func93, Try.ntmps93
  go_wp2_with fail
  go_loopw [8] (fun i wr => ∃ k : Nat, k ≤ n ∧ i = .int .i64 (k : Int) ∧ Below w.heap.size w wr ∧ firstP farB (xs.drop k) k = firstP farB xs 0) (fun i _ => n - (intOf i).toNat)
  case atStart => exact ⟨0, Nat.zero_le _, rfl, Below.refl _ _, rfl⟩
  case round =>
    obtain ⟨k, hk, rfl, hbel, hf⟩ := hrel
    have HBEL := Lib.hid hbel
    have HF := Lib.hid hf
    clear hf
    by_cases hlt : k < n
    · obtain ⟨ad, rfl, hab, hac⟩ := (h.below hbel).form (by omega)
      have hx := hac k _ (gi_get (by omega))
      have HST := Lib.hid (firstP_drop (p := farB) (bs := xs) (k := k) (by omega))
      obtain ⟨b, hb⟩ : ∃ b, gi xs k = b := ⟨_, rfl⟩
      rw [hb] at hx HST
      have a1 : (k : Int) < (n : Int) := by omega
      have a0 : (0 : Int) ≤ (k : Int) := by omega
      have i1 : IntKind.i64.wrap ((k : Int) + 1) = (k : Int) + 1 := IntWalk.i64_in _ (by omega)
      have HL := Lib.hid (fun w => far1_any w b)
      clear hac hbel hb
      cases htl : farB b
      · rw [htl] at HL HST
        clear htl
        go_wp2_with fail
        refine (HL.out _).mono ?_
        rintro e w1 ⟨rfl, rfl⟩
        go_wp2_with fail
        refine ⟨⟨k + 1, by omega, by go_num, HBEL.out, ?_⟩, by simp [intOf]; omega⟩
        rw [← HF.out, HST.out]; rfl
      · rw [htl] at HL HST
        clear htl
        go_wp2_with fail
        refine (HL.out _).mono ?_
        rintro e w1 ⟨rfl, rfl⟩
        go_wp2_with fail
        go_ret
        refine ⟨?_, HBEL.out⟩
        rw [← HF.out, HST.out]; rfl
    · obtain rfl : n = k := by omega
      have HZ := Lib.hid (show firstP farB xs 0 = -1 by rw [← HF.out, List.drop_eq_nil_of_le (by omega)]; rfl)
      clear hbel
      go_wp2_with fail
      go_ret
      exact ⟨by rw [HZ.out]; rfl, HBEL.out⟩
theorem contains1_any (w : World) {A : Option Addr} {n c : Nat} {xs : List Int} (h : RdV w A n c (ivs xs)) :
    Calls Try.prog 72 #[.slice A n c, .func (.func 73) #[] #[]] w fun e w' => e = .returned (.bool (xs.any farB)) ∧ Below w.heap.size w w' := by
  have HI := Lib.hid (index1_any w h)
  have HN := Lib.hid (firstP_neg farB xs 0)
  obtain ⟨z, hz⟩ : ∃ z, firstP farB xs 0 = z := ⟨_, rfl⟩
  rw [hz] at HI HN
  clear h hz
  go_enter Try.func72, Try.ntmps72
  go_wp2_with fail
  refine HI.out.mono ?_
  rintro e w1 ⟨rfl, hb1⟩
  go_wp2_with fail
  go_ret
  exact ⟨by rw [← HN.out]; rfl, hb1⟩
set_option maxHeartbeats 400000 in
theorem index2_any (w : World) {A : Option Addr} {n c : Nat} {xs : List Int} (h : RdV w A n c (ivs xs)) :
    Calls Try.prog 93 #[.slice A n c, .func (.func 74) #[] #[]] w fun e w' => e = .returned (.int .i64 (firstP farD xs 0)) ∧ Below w.heap.size w w' := by
  have hl : xs.length = n := by have := h.len; rwa [ivs_len] at this
  have hmax := h.max
  go_enter Try.func93, Try.ntmps93
  go_wp2_with fail
  go_loopw [8] (fun i wr => ∃ k : Nat, k ≤ n ∧ i = .int .i64 (k : Int) ∧ Below w.heap.size w wr ∧ firstP farD (xs.drop k) k = firstP farD xs 0) (fun i _ => n - (intOf i).toNat)
  case atStart => exact ⟨0, Nat.zero_le _, rfl, Below.refl _ _, rfl⟩
  case round =>
    obtain ⟨k, hk, rfl, hbel, hf⟩ := hrel
    have HBEL := Lib.hid hbel
    have HF := Lib.hid hf
    clear hf
    by_cases hlt : k < n
    · obtain ⟨ad, rfl, hab, hac⟩ := (h.below hbel).form (by omega)
      have hx := hac k _ (gi_get (by omega))
      have HST := Lib.hid (firstP_drop (p := farD) (bs := xs) (k := k) (by omega))
      obtain ⟨b, hb⟩ : ∃ b, gi xs k = b := ⟨_, rfl⟩
      rw [hb] at hx HST
      have a1 : (k : Int) < (n : Int) := by omega
      have a0 : (0 : Int) ≤ (k : Int) := by omega
      have i1 : IntKind.i64.wrap ((k : Int) + 1) = (k : Int) + 1 := IntWalk.i64_in _ (by omega)
      have HL := Lib.hid (fun w => far2_any w b)
      clear hac hbel hb
      cases htl : farD b
      · rw [htl] at HL HST
        clear htl
        go_wp2_with fail
        refine (HL.out _).mono ?_
        rintro e w1 ⟨rfl, rfl⟩
        go_wp2_with fail
        refine ⟨⟨k + 1, by omega, by go_num, HBEL.out, ?_⟩, by simp [intOf]; omega⟩
        rw [← HF.out, HST.out]; rfl
      · rw [htl] at HL HST
        clear htl
        go_wp2_with fail
        refine (HL.out _).mono ?_
        rintro e w1 ⟨rfl, rfl⟩
        go_wp2_with fail
        go_ret
        refine ⟨?_, HBEL.out⟩
        rw [← HF.out, HST.out]; rfl
    · obtain rfl : n = k := by omega
      have HZ := Lib.hid (show firstP farD xs 0 = -1 by rw [← HF.out, List.drop_eq_nil_of_le (by omega)]; rfl)
      clear hbel
      go_wp2_with fail
      go_ret
      exact ⟨by rw [HZ.out]; rfl, HBEL.out⟩
theorem contains2_any (w : World) {A : Option Addr} {n c : Nat} {xs : List Int} (h : RdV w A n c (ivs xs)) :
    Calls Try.prog 72 #[.slice A n c, .func (.func 74) #[] #[]] w fun e w' => e = .returned (.bool (xs.any farD)) ∧ Below w.heap.size w w' := by
  have HI := Lib.hid (index2_any w h)
  have HN := Lib.hid (firstP_neg farD xs 0)
  obtain ⟨z, hz⟩ : ∃ z, firstP farD xs 0 = z := ⟨_, rfl⟩
  rw [hz] at HI HN
  clear h hz
  go_enter Try.func72, Try.ntmps72
  go_wp2_with fail
  refine HI.out.mono ?_
  rintro e w1 ⟨rfl, hb1⟩
  go_wp2_with fail
  go_ret
  exact ⟨by rw [← HN.out]; rfl, hb1⟩
end Go.Proofs.Yteemglgbhdpodaa
