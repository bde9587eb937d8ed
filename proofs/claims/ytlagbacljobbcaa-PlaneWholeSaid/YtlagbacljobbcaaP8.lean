/- The document's spread; which point lies nearest. -/
import Derived.Test.YtlagbacljobbcaaP7
namespace Go.Proofs.Ytlagbacljobbcaa
set_option linter.unusedSimpArgs false
set_option linter.unusedVariables false
open Go.RowKit
attribute [local go_sem] toldUpon_value toldUpon_skip toldUpon_enter

def FIEr (o : Option Nat) (z : Int) (w : World) (e : Ending) (w' : World) : Prop := ∃ a, e = .returned (.tuple #[.float .f64 a, .int .i64 z]) ∧ a < 2 ^ 64 ∧ mk a = o ∧ Below w.heap.size w w'
theorem rspread_any (w : World) {A B : Option Addr} {n c m d : Nat} {zs : List (Nat × Nat)} (hx : RdV w A n c (fvs (zs.map Prod.fst))) (hy : RdV w B m d (fvs (zs.map Prod.snd))) : Calls Try.prog 27 #[.slice A n c, .slice B m d] w (FIE (fspread zs) (fitN n) w) := by
  have hl : zs.length = n := by have := hx.len; rwa [fvs_len, List.length_map] at this
  have hl2 : zs.length = m := by have := hy.len; rwa [fvs_len, List.length_map] at this
  have hM := rmean_any w hx hy (by simp)
  have hmx := hx.max
  by_cases hok : n ≠ 0 ∧ n ≤ 1024
  · have e0 := fit_ok hok.1 hok.2
    have HF := Lib.hid (show fspread zs = fop .quo (fsqs (fmean (zs.map Prod.fst)) (fmean (zs.map Prod.snd)) zs) (fcnt n) by unfold fspread; rw [hl, if_pos e0])
    rw [e0] at hM ⊢
    clear e0
    obtain ⟨hn0, hn1⟩ := hok
    generalize fmean (zs.map Prod.fst) = r1 at hM HF
    generalize fmean (zs.map Prod.snd) = r2 at hM HF
    go_enter Try.func27, Try.ntmps27
    go_upto_region 4 with (go_at_call 14; refine hM.mono ?_; rintro e w1 ⟨m1, m2, rfl, la, lb, ea, eb, bw⟩)
    have h1 := hx.below bw
    have h2 := hy.below bw
    have BW := Lib.hid bw
    have M1 := Lib.hid ea
    have M2 := Lib.hid eb
    clear hM hx hy bw ea eb
    go_wp2_with fail
    go_loopw [9, 10] (fun x i wr => ∃ (t a : Nat), t ≤ n ∧ i = .int .i64 (t : Int) ∧ x = .float .f64 a ∧ a < 2 ^ 64 ∧ mk a = fsqs r1 r2 (zs.take t) ∧ Below w1.heap.size w1 wr) (fun _ i _ => n - (intOf i).toNat)
    case atStart => exact ⟨0, 0, Nat.zero_le _, rfl, rfl, by decide, rfl, Below.refl _ _⟩
    case round =>
      obtain ⟨t, a, ht, rfl, rfl, la, ea, hbel⟩ := hrel
      by_cases hlt : t < n
      · obtain ⟨ad, rfl, hab, hac⟩ := (h1.below hbel).form (by omega)
        obtain ⟨ae, rfl, hbb, hbc⟩ := (h2.below hbel).form (by omega)
        obtain ⟨p, q, hz⟩ : ∃ p q, zs[t] = (p, q) := ⟨_, _, rfl⟩
        have cx := hac t (.float .f64 p) (by rw [fvs, List.getElem?_map, List.getElem?_map, List.getElem?_eq_getElem (by omega), hz]; rfl)
        have cy := hbc t (.float .f64 q) (by rw [fvs, List.getElem?_map, List.getElem?_map, List.getElem?_eq_getElem (by omega), hz]; rfl)
        have a1 : (t : Int) < (n : Int) := by omega
        have a2 : (t : Int) < (m : Int) := by omega
        have a0 : (0 : Int) ≤ (t : Int) := by omega
        have HA := Lib.hid (show fop .add (fsqs r1 r2 (zs.take t)) (sqd r1 r2 (p, q)) = fsqs r1 r2 (zs.take (t + 1)) by
          rw [fsqs_take _ _ (by omega), hz])
        have HS := Lib.hid (show sqd r1 r2 (p, q) = fsq (fop .sub (mk p) r1) (fop .sub (mk q) r2) from rfl)
        have EA := Lib.hid ea
        have HBEL := Lib.hid hbel
        have HC := fun k => Lib.hid (below_drewN hbel k)
        have i1 : IntKind.i64.wrap ((t : Int) + 1) = (t : Int) + 1 := IntWalk.i64_in _ (by omega)
        clear ea hac hbc hz hbel
        go_wp2_with (first
          | ((with_reducible refine wpList_float rfl rfl (x := p) (y := m1) rfl rfl op_sub (rfl : mk p = mk p) M1.out ?_); rintro u nu lu eu)
          | ((with_reducible refine wpList_float rfl rfl (x := q) (y := m2) rfl rfl op_sub (rfl : mk q = mk q) M2.out ?_); rintro v nv lv ev)
          | ((with_reducible refine wpList_float rfl rfl (x := u) (y := u) rfl rfl op_mul eu eu ?_); rintro u2 nu2 lu2 eu2)
          | ((with_reducible refine wpList_float rfl rfl (x := v) (y := v) rfl rfl op_mul ev ev ?_); rintro v2 nv2 lv2 ev2)
          | ((with_reducible refine wpList_float rfl rfl (x := u2) (y := v2) rfl rfl op_add eu2 ev2 ?_); rintro s2 ns ls2 es2)
          | ((with_reducible refine wpList_float rfl rfl (x := a) (y := s2) rfl rfl op_add EA.out es2 ?_); rintro t2 nt lt2 et2))
        go_roundw
        case rel => exact ⟨t + 1, t2, by omega, by go_num, rfl, lt2, by rw [et2, ← HA.out, HS.out]; rfl, (HC _).out⟩
        case measure => simp [intOf]; omega
      · obtain rfl : n = t := by omega
        have ES := Lib.hid (show mk a = fsqs r1 r2 zs by rw [ea, List.take_of_length_le (by omega)])
        have HBEL := Lib.hid hbel
        clear ea hbel h1 h2
        go_wp2_with (((with_reducible refine wpList_float rfl rfl (x := a) rfl rfl op_quo ES.out (rfl : mk (FloatKind.f64.nearest n) = fcnt n) ?_); rintro x nx hx ex))
        go_ret2
        exact ⟨x, rfl, hx, by rw [ex, HF.out], below_drewN (BW.out.trans (HBEL.out.mono BW.out.size)) _⟩
  · have hz : fitN n = 4 ∨ fitN n = 2 := (fit_bad hok).imp (·.1) id
    have HF := Lib.hid (show fspread zs = mk 0 by unfold fspread; rw [hl, if_neg (by omega)])
    clear hok hl
    rcases hz with e0 | e0 <;> rw [e0] at hM ⊢ <;> clear e0
    all_goals
      go_enter Try.func27, Try.ntmps27
      go_wp2_with (go_at_call 14; refine hM.mono ?_; rintro e w1 ⟨a, b, rfl, la, lb, ea, eb, bw⟩)
      go_ret2
      exact ⟨0, rfl, by decide, HF.out.symm, bw⟩
/-- the nearest of the first k points -/
def gz (zs : List (Nat × Nat)) (k : Nat) : Nat × Nat := zs.getD k (0, 0)
def farz (zs : List (Nat × Nat)) (c d : Option Nat) (k : Nat) : Option Nat := ffar (mk (gz zs k).1) (mk (gz zs k).2) c d
def best (zs : List (Nat × Nat)) (c d : Option Nat) : Nat → Nat
  | 0 => 0
  | k + 1 => if flt (farz zs c d k) (farz zs c d (best zs c d k)) = true then k else best zs c d k
theorem best_le (zs : List (Nat × Nat)) (c d : Option Nat) : ∀ k, best zs c d k ≤ k - 1
  | 0 => Nat.le_refl _
  | k + 1 => by
    unfold best
    split
    · omega
    · have := best_le zs c d k; omega
def nearN (zs : List (Nat × Nat)) (c d : Option Nat) : Nat := if fitN zs.length = 0 then best zs c d zs.length else 0
def IIE (k : Nat) (z : Int) (w : World) (e : Ending) (w' : World) : Prop := e = .returned (.tuple #[.int .i64 (k : Int), .int .i64 z]) ∧ Below w.heap.size w w'
theorem gz_get {zs : List (Nat × Nat)} {k : Nat} (h : k < zs.length) : zs[k]? = some ((gz zs k).1, (gz zs k).2) := by
  unfold gz; rw [List.getD_eq_getElem?_getD, List.getElem?_eq_getElem h]; rfl
theorem nearest_any (w : World) {A : Option Addr} {n c : Nat} {zs : List (Nat × Nat)} (hr : RdV w A n c (cvs zs)) {x y : Nat} {o p : Option Nat} (hx : mk x = o) (hy : mk y = p) : Calls Try.prog 26 #[.slice A n c, .complex .f64 x y] w (IIE (nearN zs o p) (fitN n) w) := by
  have hl : zs.length = n := by have := hr.len; rwa [cvs_len] at this
  have hF := fit_any w (A := A) (c := c) hr.max
  have hmx := hr.max
  by_cases hok : n ≠ 0 ∧ n ≤ 1024
  · have e0 := fit_ok hok.1 hok.2
    have HF := Lib.hid (show nearN zs o p = best zs o p n by unfold nearN; rw [hl, if_pos e0])
    rw [e0] at hF ⊢
    clear e0
    obtain ⟨hn0, hn1⟩ := hok
    have HX := Lib.hid hx
    have HY := Lib.hid hy
    clear hx hy
    go_enter Try.func26, Try.ntmps26
    go_upto_region 4 with (go_at_call 32; refine hF.mono ?_; rintro e w1 ⟨rfl, rfl⟩)
    clear hF
    go_wp2_with fail
    go_loopw [7, 16] (fun b i wr => ∃ (t : Nat), t ≤ n ∧ i = .int .i64 (t : Int) ∧ b = .int .i64 ((best zs o p t : Nat) : Int) ∧ Below w.heap.size w wr) (fun _ i _ => n - (intOf i).toNat)
    case atStart => exact ⟨0, Nat.zero_le _, rfl, rfl, Below.refl _ _⟩
    case round =>
      obtain ⟨t, ht, rfl, rfl, hbel⟩ := hrel
      by_cases hlt : t < n
      · have hbt := best_le zs o p t
        have HB := Lib.hid (show best zs o p (t + 1) = if flt (farz zs o p t) (farz zs o p (best zs o p t)) = true then t else best zs o p t from rfl)
        obtain ⟨b, eb⟩ : ∃ b, best zs o p t = b := ⟨_, rfl⟩
        rw [eb] at HB hbt ⊢
        have hbn : b < n := by omega
        obtain ⟨ad, rfl, hab, hac⟩ := (hr.below hbel).form (by omega)
        have c1 := hac t _ (by rw [cvs, List.getElem?_map, gz_get (by omega)]; rfl)
        have c2 := hac b _ (by rw [cvs, List.getElem?_map, gz_get (by omega)]; rfl)
        have C1 : ∀ w', Below wr.heap.size wr w' → w'.cell? (ad.add t) = some (.complex .f64 (gz zs t).1 (gz zs t).2) := fun w' h => (h.cell (p := ad.add t) (adlt hab t)).trans c1
        have C2 : ∀ w', Below wr.heap.size wr w' → w'.cell? (ad.add b) = some (.complex .f64 (gz zs b).1 (gz zs b).2) := fun w' h => (h.cell (p := ad.add b) (adlt hab b)).trans c2
        have D1 : ∀ w', Calls Try.prog 20 #[.complex .f64 (gz zs t).1 (gz zs t).2, .complex .f64 x y] w' (FE (farz zs o p t) w') := fun w' => far_any w' rfl rfl HX.out HY.out
        have D2 : ∀ w', Calls Try.prog 20 #[.complex .f64 (gz zs b).1 (gz zs b).2, .complex .f64 x y] w' (FE (farz zs o p b) w') := fun w' => far_any w' rfl rfl HX.out HY.out
        have a1 : (t : Int) < (n : Int) := by omega
        have a0 : (0 : Int) ≤ (t : Int) := by omega
        have a2 : (b : Int) < (n : Int) := by omega
        have a3 : (0 : Int) ≤ (b : Int) := by omega
        have HBEL := Lib.hid hbel
        have hs := hbel.size
        have i1 : IntKind.i64.wrap ((t : Int) + 1) = (t : Int) + 1 := IntWalk.i64_in _ (by omega)
        generalize (gz zs t).1 = p1 at C1 D1
        generalize (gz zs t).2 = p2 at C1 D1
        generalize (gz zs b).1 = q1 at C2 D2
        generalize (gz zs b).2 = q2 at C2 D2
        clear eb hac hbel c1 c2 hbt
        go_upto_region 8 with (fail)
        (refine region_told _ (by kernel_rfl) (by kernel_rfl) (by simp only [putAll, Act.put, List.setIfInBounds_toArray, List.set_cons_zero, List.set_cons_succ, Nat.reduceAdd]; rfl) ?_)
        repeat (refine told_step (fun v _ => v = _) (Stays.eq _) (by intro y w' hw' hd; simp only [depsOf, updG, Region.binds, Nat.reduceAdd, Nat.reduceEqDiff, if_false, if_true, and_true, true_and, forall_const, Array.toList, GTrue] at hd; (try go_split_ands); unfold toldAt; go_simp; exact ⟨Below.refl _ _, rfl⟩) ?_)
        (refine told_step (fun v _ => FR (farz zs o p t) v) (stays_FR _) (by intro y w' hw' hd; simp only [depsOf, updG, Region.binds, Nat.reduceAdd, Nat.reduceEqDiff, if_false, if_true, and_true, true_and, forall_const, Array.toList, GTrue] at hd; (try go_split_ands); unfold toldAt; go_simp; refine ⟨Below.refl _ _, ?_⟩; exact (D1 w').mono (by rintro e w4 ⟨u, rfl, lu, eu, bu⟩; exact ⟨_, rfl, bu, u, rfl, lu, eu⟩)) ?_)
        repeat (refine told_step (fun v _ => v = _) (Stays.eq _) (by intro y w' hw' hd; simp only [depsOf, updG, Region.binds, Nat.reduceAdd, Nat.reduceEqDiff, if_false, if_true, and_true, true_and, forall_const, Array.toList, GTrue] at hd; (try go_split_ands); unfold toldAt; go_simp; exact ⟨Below.refl _ _, rfl⟩) ?_)
        (refine told_step (fun v _ => FR (farz zs o p b) v) (stays_FR _) (by intro y w' hw' hd; simp only [depsOf, updG, Region.binds, Nat.reduceAdd, Nat.reduceEqDiff, if_false, if_true, and_true, true_and, forall_const, Array.toList, GTrue] at hd; (try go_split_ands); unfold toldAt; go_simp; refine ⟨Below.refl _ _, ?_⟩; exact (D2 w').mono (by rintro e w4 ⟨u, rfl, lu, eu, bu⟩; exact ⟨_, rfl, bu, u, rfl, lu, eu⟩)) ?_)
        (refine told_step (fun v _ => v = .bool (flt (farz zs o p t) (farz zs o p b))) (Stays.eq _) (by intro y w' hw' hd; simp only [depsOf, updG, Region.binds, Nat.reduceAdd, Nat.reduceEqDiff, if_false, if_true, and_true, true_and, forall_const, Array.toList, GTrue] at hd; obtain ⟨⟨u, hu, lu, eu⟩, v, hv, lv, ev⟩ := hd; have ho : flt (farz zs o p t) (farz zs o p b) = (FloatKind.f64.format.order u v == some .lt) := by { rw [← eu, ← ev]; unfold flt; rw [ford_mk]; rfl }; rw [ho]; clear ho eu ev; unfold toldAt; go_simp; exact Below.refl _ _) ?_)
        (refine told_nil ?_; intro z w' hw' hd)
        have H12 : z 12 = .bool (flt (farz zs o p t) (farz zs o p b)) := hd 12 (by decide)
        clear hd C1 C2 D1 D2
        rw [H12]
        have HW := Lib.hid (HBEL.out.trans (hw'.mono hs))
        clear hw' H12
        cases hf : flt (farz zs o p t) (farz zs o p b)
        · have HB2 := Lib.hid (show best zs o p (t + 1) = b by rw [HB.out, hf]; rfl)
          clear hf
          go_wp2_with fail
          go_roundw
          case rel => exact ⟨t + 1, by omega, by go_num, by rw [HB2.out], HW.out⟩
          case measure => simp [intOf]; omega
        · have HB2 := Lib.hid (show best zs o p (t + 1) = t by rw [HB.out, hf]; rfl)
          clear hf
          go_wp2_with fail
          go_roundw
          case rel => exact ⟨t + 1, by omega, by go_num, by rw [HB2.out], HW.out⟩
          case measure => simp [intOf]; omega
      · obtain rfl : n = t := by omega
        go_wp2_with fail
        go_ret2
        exact ⟨by rw [HF.out]; rfl, hbel⟩
  · have hz : fitN n = 4 ∨ fitN n = 2 := (fit_bad hok).imp (·.1) id
    have HF := Lib.hid (show nearN zs o p = 0 by unfold nearN; rw [hl, if_neg (by omega)])
    clear hok hl
    rcases hz with e0 | e0 <;> rw [e0] at hF ⊢ <;> clear e0
    all_goals
      go_enter Try.func26, Try.ntmps26
      go_wp2_with (go_at_call 32; refine hF.mono ?_; rintro e w1 ⟨rfl, rfl⟩)
      go_ret2
      exact ⟨by rw [HF.out]; rfl, Below.refl _ _⟩
theorem rnearest_any (w : World) {A B : Option Addr} {n c m d : Nat} {zs : List (Nat × Nat)} (h1 : RdV w A n c (fvs (zs.map Prod.fst))) (h2 : RdV w B m d (fvs (zs.map Prod.snd))) {x y : Nat} {o p : Option Nat} (hx : mk x = o) (hy : mk y = p) : Calls Try.prog 28 #[.slice A n c, .slice B m d, .float .f64 x, .float .f64 y] w (IIE (nearN zs o p) (fitN n) w) := by
  have hl : zs.length = n := by have := h1.len; rwa [fvs_len, List.length_map] at this
  have hl2 : zs.length = m := by have := h2.len; rwa [fvs_len, List.length_map] at this
  have hF := rfit_any w h1.max
  have hmx := h1.max
  by_cases hok : n ≠ 0 ∧ n ≤ 1024
  · have e0 := fit_ok hok.1 hok.2
    have HF := Lib.hid (show nearN zs o p = best zs o p n by unfold nearN; rw [hl, if_pos e0])
    rw [e0] at hF ⊢
    clear e0
    obtain ⟨hn0, hn1⟩ := hok
    have HX := Lib.hid hx
    have HY := Lib.hid hy
    clear hx hy
    have HB1 : best zs o p 1 = 0 := by
      show (if flt (farz zs o p 0) (farz zs o p 0) = true then 0 else 0) = 0
      split <;> rfl
    go_enter Try.func28, Try.ntmps28
    go_upto_region 4 with (go_at_call 33; refine hF.mono ?_; rintro e w1 ⟨rfl, rfl⟩)
    clear hF
    go_wp2_with fail
    go_loopw [11, 12] (fun b i wr => ∃ (t : Nat), 1 ≤ t ∧ t ≤ n ∧ i = .int .i64 (t : Int) ∧ b = .int .i64 ((best zs o p t : Nat) : Int) ∧ Below w.heap.size w wr) (fun _ i _ => n - (intOf i).toNat)
    case atStart => exact ⟨1, by omega, by omega, rfl, by rw [HB1]; rfl, Below.refl _ _⟩
    case round =>
      obtain ⟨t, ht1, ht, rfl, rfl, hbel⟩ := hrel
      clear HB1
      by_cases hlt : t < n
      · have hbt := best_le zs o p t
        have HB := Lib.hid (show best zs o p (t + 1) = if flt (farz zs o p t) (farz zs o p (best zs o p t)) = true then t else best zs o p t from rfl)
        obtain ⟨b, eb⟩ : ∃ b, best zs o p t = b := ⟨_, rfl⟩
        rw [eb] at HB hbt ⊢
        have hbn : b < n := by omega
        obtain ⟨ad, rfl, hab, hac⟩ := (h1.below hbel).form (by omega)
        obtain ⟨ae, rfl, hbb, hbc⟩ := (h2.below hbel).form (by omega)
        have c1 := hac t _ (by rw [fvs, List.getElem?_map, List.getElem?_map, gz_get (by omega)]; rfl)
        have c2 := hac b _ (by rw [fvs, List.getElem?_map, List.getElem?_map, gz_get (by omega)]; rfl)
        have c3 := hbc t _ (by rw [fvs, List.getElem?_map, List.getElem?_map, gz_get (by omega)]; rfl)
        have c4 := hbc b _ (by rw [fvs, List.getElem?_map, List.getElem?_map, gz_get (by omega)]; rfl)
        have C1 : ∀ w', Below wr.heap.size wr w' → w'.cell? (ad.add t) = some (.float .f64 (gz zs t).1) := fun w' h => (h.cell (p := ad.add t) (adlt hab t)).trans c1
        have C2 : ∀ w', Below wr.heap.size wr w' → w'.cell? (ad.add b) = some (.float .f64 (gz zs b).1) := fun w' h => (h.cell (p := ad.add b) (adlt hab b)).trans c2
        have C3 : ∀ w', Below wr.heap.size wr w' → w'.cell? (ae.add t) = some (.float .f64 (gz zs t).2) := fun w' h => (h.cell (p := ae.add t) (adlt hbb t)).trans c3
        have C4 : ∀ w', Below wr.heap.size wr w' → w'.cell? (ae.add b) = some (.float .f64 (gz zs b).2) := fun w' h => (h.cell (p := ae.add b) (adlt hbb b)).trans c4
        have D1 : ∀ w', Calls Try.prog 24 #[.float .f64 (gz zs t).1, .float .f64 (gz zs t).2, .float .f64 x, .float .f64 y] w' (FE (farz zs o p t) w') := fun w' => rfar_any w' rfl rfl HX.out HY.out
        have D2 : ∀ w', Calls Try.prog 24 #[.float .f64 (gz zs b).1, .float .f64 (gz zs b).2, .float .f64 x, .float .f64 y] w' (FE (farz zs o p b) w') := fun w' => rfar_any w' rfl rfl HX.out HY.out
        have a1 : (t : Int) < (n : Int) := by omega
        have a0 : (0 : Int) ≤ (t : Int) := by omega
        have a2 : (b : Int) < (n : Int) := by omega
        have a3 : (0 : Int) ≤ (b : Int) := by omega
        have a4 : (t : Int) < (m : Int) := by omega
        have a5 : (b : Int) < (m : Int) := by omega
        have HBEL := Lib.hid hbel
        have hs := hbel.size
        have i1 : IntKind.i64.wrap ((t : Int) + 1) = (t : Int) + 1 := IntWalk.i64_in _ (by omega)
        generalize (gz zs t).1 = p1 at C1 D1
        generalize (gz zs t).2 = p2 at C3 D1
        generalize (gz zs b).1 = q1 at C2 D2
        generalize (gz zs b).2 = q2 at C4 D2
        clear eb hac hbc hbel c1 c2 c3 c4 hbt
        go_upto_region 8 with (fail)
        (refine region_told _ (by kernel_rfl) (by kernel_rfl) (by simp only [putAll, Act.put, List.setIfInBounds_toArray, List.set_cons_zero, List.set_cons_succ, Nat.reduceAdd]; rfl) ?_)
        repeat (refine told_step (fun v _ => v = _) (Stays.eq _) (by intro y w' hw' hd; simp only [depsOf, updG, Region.binds, Nat.reduceAdd, Nat.reduceEqDiff, if_false, if_true, and_true, true_and, forall_const, Array.toList, GTrue] at hd; (try go_split_ands); unfold toldAt; go_simp; exact ⟨Below.refl _ _, rfl⟩) ?_)
        (refine told_step (fun v _ => FR (farz zs o p t) v) (stays_FR _) (by intro y w' hw' hd; simp only [depsOf, updG, Region.binds, Nat.reduceAdd, Nat.reduceEqDiff, if_false, if_true, and_true, true_and, forall_const, Array.toList, GTrue] at hd; (try go_split_ands); unfold toldAt; go_simp; refine ⟨Below.refl _ _, ?_⟩; exact (D1 w').mono (by rintro e w4 ⟨u, rfl, lu, eu, bu⟩; exact ⟨_, rfl, bu, u, rfl, lu, eu⟩)) ?_)
        repeat (refine told_step (fun v _ => v = _) (Stays.eq _) (by intro y w' hw' hd; simp only [depsOf, updG, Region.binds, Nat.reduceAdd, Nat.reduceEqDiff, if_false, if_true, and_true, true_and, forall_const, Array.toList, GTrue] at hd; (try go_split_ands); unfold toldAt; go_simp; exact ⟨Below.refl _ _, rfl⟩) ?_)
        (refine told_step (fun v _ => FR (farz zs o p b) v) (stays_FR _) (by intro y w' hw' hd; simp only [depsOf, updG, Region.binds, Nat.reduceAdd, Nat.reduceEqDiff, if_false, if_true, and_true, true_and, forall_const, Array.toList, GTrue] at hd; (try go_split_ands); unfold toldAt; go_simp; refine ⟨Below.refl _ _, ?_⟩; exact (D2 w').mono (by rintro e w4 ⟨u, rfl, lu, eu, bu⟩; exact ⟨_, rfl, bu, u, rfl, lu, eu⟩)) ?_)
        (refine told_step (fun v _ => v = .bool (flt (farz zs o p t) (farz zs o p b))) (Stays.eq _) (by intro y w' hw' hd; simp only [depsOf, updG, Region.binds, Nat.reduceAdd, Nat.reduceEqDiff, if_false, if_true, and_true, true_and, forall_const, Array.toList, GTrue] at hd; obtain ⟨⟨u, hu, lu, eu⟩, v, hv, lv, ev⟩ := hd; have ho : flt (farz zs o p t) (farz zs o p b) = (FloatKind.f64.format.order u v == some .lt) := by { rw [← eu, ← ev]; unfold flt; rw [ford_mk]; rfl }; rw [ho]; clear ho eu ev; unfold toldAt; go_simp; exact Below.refl _ _) ?_)
        (refine told_nil ?_; intro z w' hw' hd)
        have H12 : z 22 = .bool (flt (farz zs o p t) (farz zs o p b)) := hd 22 (by decide)
        clear hd C1 C2 C3 C4 D1 D2
        rw [H12]
        have HW := Lib.hid (HBEL.out.trans (hw'.mono hs))
        clear hw' H12
        cases hf : flt (farz zs o p t) (farz zs o p b)
        · have HB2 := Lib.hid (show best zs o p (t + 1) = b by rw [HB.out, hf]; rfl)
          clear hf
          go_wp2_with fail
          go_roundw
          case rel => exact ⟨t + 1, by omega, by omega, by go_num, by rw [HB2.out], HW.out⟩
          case measure => simp [intOf]; omega
        · have HB2 := Lib.hid (show best zs o p (t + 1) = t by rw [HB.out, hf]; rfl)
          clear hf
          go_wp2_with fail
          go_roundw
          case rel => exact ⟨t + 1, by omega, by omega, by go_num, by rw [HB2.out], HW.out⟩
          case measure => simp [intOf]; omega
      · obtain rfl : n = t := by omega
        go_wp2_with fail
        go_ret2
        exact ⟨by rw [HF.out]; rfl, hbel⟩
  · have hz : fitN n = 4 ∨ fitN n = 2 := (fit_bad hok).imp (·.1) id
    have HF := Lib.hid (show nearN zs o p = 0 by unfold nearN; rw [hl, if_neg (by omega)])
    clear hok hl
    rcases hz with e0 | e0 <;> rw [e0] at hF ⊢ <;> clear e0
    all_goals
      go_enter Try.func28, Try.ntmps28
      go_wp2_with (go_at_call 33; refine hF.mono ?_; rintro e w1 ⟨rfl, rfl⟩)
      go_ret2
      exact ⟨by rw [HF.out]; rfl, Below.refl _ _⟩
end Go.Proofs.Ytlagbacljobbcaa
