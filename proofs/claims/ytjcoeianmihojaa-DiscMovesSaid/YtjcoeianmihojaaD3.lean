/- What an update of the clock comes to, way by way. -/
import Derived.Test.YtjcoeianmihojaaD1
namespace Go.Proofs.Ytjcoeianmihojaa
set_option linter.unusedSimpArgs false
set_option linter.unusedVariables false
open Go.RowKit

abbrev updT (f l a p : Int) (s : Bool) (what step err : Int) : Value := .tuple #[.agg #[.int .i64 f, .int .i64 l, .int .i64 a, .int .i64 p, .bool s], .agg #[.int .i64 what, .int .i64 step], .int .i64 err]
def most : Int := 1152921504606846976

theorem after_may {w w' : World} {f l a p : Int} {s : Bool} (hb : Below (((w.alloc (.cells #[.int .i64 f, .int .i64 l, .int .i64 a, .int .i64 p, .bool s] 23)).alloc (.cells #[.int .i64 0, .int .i64 0, .int .i64 0, .int .i64 0, .bool false] 23)).alloc (.cells #[.int .i64 0, .int .i64 0] 30)).heap.size (((w.alloc (.cells #[.int .i64 f, .int .i64 l, .int .i64 a, .int .i64 p, .bool s] 23)).alloc (.cells #[.int .i64 0, .int .i64 0, .int .i64 0, .int .i64 0, .bool false] 23)).alloc (.cells #[.int .i64 0, .int .i64 0] 30)) w') :
    w'.cell? ⟨w.heap.size, 0, none⟩ = some (.int .i64 f) ∧ w'.cell? ⟨w.heap.size, 1, none⟩ = some (.int .i64 l) ∧ w'.cell? ⟨w.heap.size, 2, none⟩ = some (.int .i64 a) ∧ w'.cell? ⟨w.heap.size, 3, none⟩ = some (.int .i64 p) ∧ w'.cell? ⟨w.heap.size, 4, none⟩ = some (.bool s) ∧
    w'.cell? ⟨w.heap.size + 1, 0, none⟩ = some (.int .i64 0) ∧ w'.cell? ⟨w.heap.size + 1, 1, none⟩ = some (.int .i64 0) ∧ w'.cell? ⟨w.heap.size + 1, 2, none⟩ = some (.int .i64 0) ∧ w'.cell? ⟨w.heap.size + 1, 3, none⟩ = some (.int .i64 0) ∧ w'.cell? ⟨w.heap.size + 1, 4, none⟩ = some (.bool false) ∧
    w'.cell? ⟨w.heap.size + 1 + 1, 0, none⟩ = some (.int .i64 0) ∧ w'.cell? ⟨w.heap.size + 1 + 1, 1, none⟩ = some (.int .i64 0) ∧
    (∀ o, w'.frozen? ⟨w.heap.size, o, none⟩ = false) ∧ (∀ o, w'.frozen? ⟨w.heap.size + 1, o, none⟩ = false) ∧ (∀ o, w'.frozen? ⟨w.heap.size + 1 + 1, o, none⟩ = false) := by
  have A := (((Bk.new w 23 #[.int .i64 f, .int .i64 l, .int .i64 a, .int .i64 p, .bool s]).alloc (.cells #[.int .i64 0, .int .i64 0, .int .i64 0, .int .i64 0, .bool false] 23)).alloc (.cells #[.int .i64 0, .int .i64 0] 30)).below hb (by simp; omega)
  have B := ((Bk.at_new (w := w.alloc (.cells #[.int .i64 f, .int .i64 l, .int .i64 a, .int .i64 p, .bool s] 23)) (g := w.heap.size + 1) 23 #[.int .i64 0, .int .i64 0, .int .i64 0, .int .i64 0, .bool false] (by simp)).alloc (.cells #[.int .i64 0, .int .i64 0] 30)).below hb (by simp)
  have C := (Bk.at_new (w := (w.alloc (.cells #[.int .i64 f, .int .i64 l, .int .i64 a, .int .i64 p, .bool s] 23)).alloc (.cells #[.int .i64 0, .int .i64 0, .int .i64 0, .int .i64 0, .bool false] 23)) (g := w.heap.size + 1 + 1) 30 #[.int .i64 0, .int .i64 0] (by simp)).below hb (by simp)
  exact ⟨A.cell 0, A.cell 1, A.cell 2, A.cell 3, A.cell 4, B.cell 0, B.cell 1, B.cell 2, B.cell 3, B.cell 4, C.cell 0, C.cell 1, A.frozen, B.frozen, C.frozen⟩

set_option maxHeartbeats 400000 in
theorem Update_arg (f l a p o t : Int) (s : Bool) (w : World) (h : mayB f l a p = false ∨ nearB o 1152921504606846976 = false ∨ nearB t 1152921504606846976 = false) :
    Calls Try.prog 12 #[.agg #[.int .i64 f, .int .i64 l, .int .i64 a, .int .i64 p, .bool s], .int .i64 o, .int .i64 t] w fun e w' =>
      e = .returned (updT 0 0 0 0 false 0 0 1) ∧ Below w.heap.size w w' := by
  cases hm : mayB f l a p <;> cases ho : nearB o 1152921504606846976 <;> cases ht : nearB t 1152921504606846976 <;> (try (exfalso; rw [hm, ho, ht] at h; simp at h; done)) <;> have HM := Lib.hid hm <;> have HO := Lib.hid ho <;> have HT := Lib.hid ht <;> clear hm h ho ht
  all_goals
    go_enter Try.func12, Try.ntmps12
    go_wp2_with (first | (go_at_call 14; refine (may_any _ _ _ _ _ _).mono ?_; rintro e w' ⟨rfl, hb⟩; rw [HM.out]; obtain ⟨c0, c1, c2, c3, c4, r0, r1, r2, r3, r4, q0, q1, cf, rf, qf⟩ := after_may hb) | (go_at_call 15; refine (near_any _ _ _ (by omega) (by omega)).mono ?_; rintro e w'' ⟨rfl, rfl⟩; first | rw [HO.out] | rw [HT.out]))
    refine bodyPost_ret (v := updT 0 0 0 0 false 0 0 1) (by simp [results, Try.results12, go_sem, *]) rfl ⟨rfl, ?_⟩
    (repeat (first | (with_reducible exact Below.refl _ _) | (with_reducible assumption) | (with_reducible refine Below.drew ?_) | ((with_reducible refine Below.setCell ?_ (p := ⟨_, _, _⟩) ?_ _); rotate_left; (simp <;> omega)) | ((with_reducible refine Below.alloc ?_ ?_ _); rotate_left; (simp <;> omega)) | ((with_reducible refine Below.trans ?_ (Below.mono (by with_reducible assumption) ?_)); rotate_left; (simp <;> omega))))

set_option maxHeartbeats 400000 in
theorem Update_first (f l a p o t : Int) (w : World) (hm : mayB f l a p = true) (ho : nearB o 1152921504606846976 = true) (ht : nearB t 1152921504606846976 = true) :
    Calls Try.prog 12 #[.agg #[.int .i64 f, .int .i64 l, .int .i64 a, .int .i64 p, .bool false], .int .i64 o, .int .i64 t] w fun e w' =>
      e = .returned (updT f 0 t p true 1 o 0) ∧ Below w.heap.size w w' := by
  have HM := Lib.hid hm
  have HO := Lib.hid ho
  have HT := Lib.hid ht
  clear hm ho ht
  go_enter Try.func12, Try.ntmps12
  go_wp2_with (first | (go_at_call 14; refine (may_any _ _ _ _ _ _).mono ?_; rintro e w' ⟨rfl, hb⟩; rw [HM.out]; obtain ⟨c0, c1, c2, c3, c4, r0, r1, r2, r3, r4, q0, q1, cf, rf, qf⟩ := after_may hb) | (go_at_call 15; refine (near_any _ _ _ (by omega) (by omega)).mono ?_; rintro e w'' ⟨rfl, rfl⟩; first | rw [HO.out] | rw [HT.out]))
  refine bodyPost_ret (v := updT f 0 t p true 1 o 0) (by simp [results, Try.results12, go_sem, *]) rfl ⟨rfl, ?_⟩
  (repeat (first | (with_reducible exact Below.refl _ _) | (with_reducible assumption) | (with_reducible refine Below.drew ?_) | ((with_reducible refine Below.setCell ?_ (p := ⟨_, _, _⟩) ?_ _); rotate_left; (simp <;> omega)) | ((with_reducible refine Below.alloc ?_ ?_ _); rotate_left; (simp <;> omega)) | ((with_reducible refine Below.trans ?_ (Below.mono (by with_reducible assumption) ?_)); rotate_left; (simp <;> omega))))

set_option maxHeartbeats 400000 in
theorem Update_panic (f l a p o t : Int) (w : World) (hm : mayB f l a p = true) (ho : nearB o 1152921504606846976 = true) (ht : nearB t 1152921504606846976 = true) (h1 : nearB o 4294967296000 = false) :
    Calls Try.prog 12 #[.agg #[.int .i64 f, .int .i64 l, .int .i64 a, .int .i64 p, .bool true], .int .i64 o, .int .i64 t] w fun e w' =>
      e = .returned (updT 0 0 0 0 false 0 0 160) ∧ Below w.heap.size w w' := by
  have HM := Lib.hid hm
  have HO := Lib.hid ho
  have HT := Lib.hid ht
  have H1 := Lib.hid h1
  clear hm ho ht h1
  go_enter Try.func12, Try.ntmps12
  go_wp2_with (first | (go_at_call 14; refine (may_any _ _ _ _ _ _).mono ?_; rintro e w' ⟨rfl, hb⟩; rw [HM.out]; obtain ⟨c0, c1, c2, c3, c4, r0, r1, r2, r3, r4, q0, q1, cf, rf, qf⟩ := after_may hb) | (go_at_call 15; refine (near_any _ _ _ (by omega) (by omega)).mono ?_; rintro e w'' ⟨rfl, rfl⟩; first | rw [HO.out] | rw [HT.out] | rw [H1.out]))
  refine bodyPost_ret (v := updT 0 0 0 0 false 0 0 160) (by simp [results, Try.results12, go_sem, *]) rfl ⟨rfl, ?_⟩
  (repeat (first | (with_reducible exact Below.refl _ _) | (with_reducible assumption) | (with_reducible refine Below.drew ?_) | ((with_reducible refine Below.setCell ?_ (p := ⟨_, _, _⟩) ?_ _); rotate_left; (simp <;> omega)) | ((with_reducible refine Below.alloc ?_ ?_ _); rotate_left; (simp <;> omega)) | ((with_reducible refine Below.trans ?_ (Below.mono (by with_reducible assumption) ?_)); rotate_left; (simp <;> omega))))

set_option maxHeartbeats 400000 in
theorem Update_early (f l a p o t : Int) (w : World) (hm : mayB f l a p = true) (ho : nearB o 1152921504606846976 = true) (ht : nearB t 1152921504606846976 = true) (h1 : nearB o 4294967296000 = true) (h2 : t < a) :
    Calls Try.prog 12 #[.agg #[.int .i64 f, .int .i64 l, .int .i64 a, .int .i64 p, .bool true], .int .i64 o, .int .i64 t] w fun e w' =>
      e = .returned (updT 0 0 0 0 false 0 0 1) ∧ Below w.heap.size w w' := by
  have HM := Lib.hid hm
  have HO := Lib.hid ho
  have HT := Lib.hid ht
  have H1 := Lib.hid h1
  clear hm ho ht h1
  go_enter Try.func12, Try.ntmps12
  go_wp2_with (first | (go_at_call 14; refine (may_any _ _ _ _ _ _).mono ?_; rintro e w' ⟨rfl, hb⟩; rw [HM.out]; obtain ⟨c0, c1, c2, c3, c4, r0, r1, r2, r3, r4, q0, q1, cf, rf, qf⟩ := after_may hb) | (go_at_call 15; refine (near_any _ _ _ (by omega) (by omega)).mono ?_; rintro e w'' ⟨rfl, rfl⟩; first | rw [HO.out] | rw [HT.out] | rw [H1.out]))
  refine bodyPost_ret (v := updT 0 0 0 0 false 0 0 1) (by simp [results, Try.results12, go_sem, *]) rfl ⟨rfl, ?_⟩
  (repeat (first | (with_reducible exact Below.refl _ _) | (with_reducible assumption) | (with_reducible refine Below.drew ?_) | ((with_reducible refine Below.setCell ?_ (p := ⟨_, _, _⟩) ?_ _); rotate_left; (simp <;> omega)) | ((with_reducible refine Below.alloc ?_ ?_ _); rotate_left; (simp <;> omega)) | ((with_reducible refine Below.trans ?_ (Below.mono (by with_reducible assumption) ?_)); rotate_left; (simp <;> omega))))

set_option maxHeartbeats 400000 in
theorem Update_step (f l a p o t : Int) (w : World) (hm : mayB f l a p = true) (ho : nearB o 1152921504606846976 = true) (ht : nearB t 1152921504606846976 = true) (h1 : nearB o 4294967296000 = true) (h2 : a ≤ t) (h3 : nearB o 549755814 = false) :
    Calls Try.prog 12 #[.agg #[.int .i64 f, .int .i64 l, .int .i64 a, .int .i64 p, .bool true], .int .i64 o, .int .i64 t] w fun e w' =>
      e = .returned (updT f 0 t p true 2 o 0) ∧ Below w.heap.size w w' := by
  have HM := Lib.hid hm
  have HO := Lib.hid ho
  have HT := Lib.hid ht
  have H1 := Lib.hid h1
  have H3 := Lib.hid h3
  have hd : decide (t < a) = false := by simp; omega
  clear hm ho ht h1 h3
  go_enter Try.func12, Try.ntmps12
  go_wp2_with (first | (go_at_call 14; refine (may_any _ _ _ _ _ _).mono ?_; rintro e w' ⟨rfl, hb⟩; rw [HM.out]; obtain ⟨c0, c1, c2, c3, c4, r0, r1, r2, r3, r4, q0, q1, cf, rf, qf⟩ := after_may hb) | (go_at_call 15; refine (near_any _ _ _ (by omega) (by omega)).mono ?_; rintro e w'' ⟨rfl, rfl⟩; first | rw [HO.out] | rw [HT.out] | rw [H1.out] | rw [H3.out]))
  refine bodyPost_ret (v := updT f 0 t p true 2 o 0) (by simp [results, Try.results12, go_sem, *]) rfl ⟨rfl, ?_⟩
  (repeat (first | (with_reducible exact Below.refl _ _) | (with_reducible assumption) | (with_reducible refine Below.drew ?_) | ((with_reducible refine Below.setCell ?_ (p := ⟨_, _, _⟩) ?_ _); rotate_left; (simp <;> omega)) | ((with_reducible refine Below.alloc ?_ ?_ _); rotate_left; (simp <;> omega)) | ((with_reducible refine Below.trans ?_ (Below.mono (by with_reducible assumption) ?_)); rotate_left; (simp <;> omega))))
end Go.Proofs.Ytjcoeianmihojaa
