/- How far points lie around their mean. -/
import Derived.Test.YtlagbacljobbcaaP6
import Derived.Deep.MidRow
namespace Go.Proofs.Ytlagbacljobbcaa
set_option linter.unusedSimpArgs false
set_option linter.unusedVariables false
open Go.RowKit
attribute [local go_sem] toldUpon_value toldUpon_skip toldUpon_enter

/-- the square of a point's distance from a mean -/
def fsq (u v : Option Nat) : Option Nat := fop .add (fop .mul u u) (fop .mul v v)
def sqd (m1 m2 : Option Nat) (z : Nat × Nat) : Option Nat := fsq (fop .sub (mk z.1) m1) (fop .sub (mk z.2) m2)
def fsqs (m1 m2 : Option Nat) (zs : List (Nat × Nat)) : Option Nat := zs.foldl (fun x z => fop .add x (sqd m1 m2 z)) (mk 0)
theorem fsqs_take (m1 m2 : Option Nat) {zs : List (Nat × Nat)} {k : Nat} (h : k < zs.length) : fsqs m1 m2 (zs.take (k + 1)) = fop .add (fsqs m1 m2 (zs.take k)) (sqd m1 m2 zs[k]) := by
  rw [List.take_succ_eq_append_getElem h]; unfold fsqs; rw [List.foldl_append]; rfl
def fspread (zs : List (Nat × Nat)) : Option Nat := if fitN zs.length = 0 then fop .quo (fsqs (fmean (zs.map Prod.fst)) (fmean (zs.map Prod.snd)) zs) (fcnt zs.length) else mk 0
theorem spread1_any (w : World) {x p q g m1 m2 : Nat} {o r1 r2 : Option Nat} (hx : mk x = o) (h1 : mk m1 = r1) (h2 : mk m2 = r2) (hg : g < w.heap.size) (hc : w.cell? ⟨g, 0, none⟩ = some (.complex .f64 m1 m2)) :
    Calls Try.prog 38 #[.float .f64 x, .complex .f64 p q, .pointer (some ⟨g, 0, none⟩)] w (FE (fop .add o (sqd r1 r2 (p, q))) w) := by
  have HC : ∀ w', Below w.heap.size w w' → w'.cell? ⟨g, 0, none⟩ = some (.complex .f64 m1 m2) := fun w' h => (h.cell (p := ⟨g, 0, none⟩) hg).trans hc
  have HS := Lib.hid (show sqd r1 r2 (p, q) = fsq (fop .sub (mk p) r1) (fop .sub (mk q) r2) from rfl)
  have HX := Lib.hid hx
  have H1 := Lib.hid h1
  have H2 := Lib.hid h2
  clear hc hx h1 h2
  go_enter Try.func38, Try.ntmps38
  go_upto_region 1 with (fail)
  (refine region_told _ (by kernel_rfl) (by kernel_rfl) (by simp only [putAll, Act.put, List.setIfInBounds_toArray, List.set_cons_zero, List.set_cons_succ, Nat.reduceAdd]; rfl) ?_)
  repeat (refine told_step (fun v _ => v = _) (Stays.eq _) (by intro y w' hw' hd; simp only [depsOf, updG, Region.binds, Nat.reduceAdd, Nat.reduceEqDiff, if_false, if_true, and_true, true_and, forall_const, Array.toList, GTrue] at hd; (try go_split_ands); unfold toldAt; go_simp; exact ⟨Below.refl _ _, rfl⟩) ?_)
  (refine told_step (fun v _ => FR (fop .sub (mk p) r1) v) (stays_FR _) (by intro y w' hw' hd; simp only [depsOf, updG, Region.binds, Nat.reduceAdd, Nat.reduceEqDiff, if_false, if_true, and_true, true_and, forall_const, Array.toList, GTrue] at hd; exact told_float_at rfl rfl (by exact hd.1) (by first | exact hd.2 | exact hd.2.1) op_sub rfl H1.out) ?_)
  repeat (refine told_step (fun v _ => v = _) (Stays.eq _) (by intro y w' hw' hd; simp only [depsOf, updG, Region.binds, Nat.reduceAdd, Nat.reduceEqDiff, if_false, if_true, and_true, true_and, forall_const, Array.toList, GTrue] at hd; (try go_split_ands); unfold toldAt; go_simp; exact ⟨Below.refl _ _, rfl⟩) ?_)
  (refine told_step (fun v _ => FR (fop .sub (mk q) r2) v) (stays_FR _) (by intro y w' hw' hd; simp only [depsOf, updG, Region.binds, Nat.reduceAdd, Nat.reduceEqDiff, if_false, if_true, and_true, true_and, forall_const, Array.toList, GTrue] at hd; exact told_float_at rfl rfl (by exact hd.1) (by first | exact hd.2 | exact hd.2.1) op_sub rfl H2.out) ?_)
  (refine told_step (fun v _ => FR (fop .sub (mk p) r1) v) (stays_FR _) (by intro y w' hw' hd; simp only [depsOf, updG, Region.binds, Nat.reduceAdd, Nat.reduceEqDiff, if_false, if_true, and_true, true_and, forall_const, Array.toList, GTrue] at hd; have h1 := hd.1; go_split_ands; unfold toldAt; go_simp; exact Below.refl _ _) ?_)
  (refine told_step (fun v _ => FR (fop .sub (mk q) r2) v) (stays_FR _) (by intro y w' hw' hd; simp only [depsOf, updG, Region.binds, Nat.reduceAdd, Nat.reduceEqDiff, if_false, if_true, and_true, true_and, forall_const, Array.toList, GTrue] at hd; have h1 := hd.1; go_split_ands; unfold toldAt; go_simp; exact Below.refl _ _) ?_)
  (refine told_nil ?_; intro y w' hw' hd)
  obtain ⟨u, hu, lu, eu⟩ : FR (fop .sub (mk p) r1) (y 10) := hd 10 (by decide)
  obtain ⟨v, hv, lv, ev⟩ : FR (fop .sub (mk q) r2) (y 11) := hd 11 (by decide)
  clear hd
  rw [hu, hv]
  clear hu hv
  go_wp2_with (first
    | ((with_reducible refine wpList_float rfl rfl (x := u) (y := u) rfl rfl op_mul eu eu ?_); rintro u2 nu hu2 eu2)
    | ((with_reducible refine wpList_float rfl rfl (x := v) (y := v) rfl rfl op_mul ev ev ?_); rintro v2 nv hv2 ev2)
    | ((with_reducible refine wpList_float rfl rfl (x := u2) (y := v2) rfl rfl op_add eu2 ev2 ?_); rintro s2 ns hs2 es2)
    | ((with_reducible refine wpList_float rfl rfl (x := x) (y := s2) rfl rfl op_add HX.out es2 ?_); rintro t2 nt ht2 et2))
  go_ret
  exact ⟨t2, rfl, ht2, by rw [et2, HS.out]; rfl, by (repeat (first | (with_reducible exact Below.refl _ _) | (with_reducible assumption) | (with_reducible refine Below.drew ?_) | (with_reducible refine below_drewN ?_ _) | ((with_reducible refine Below.setCell ?_ (p := ⟨_, _, _⟩) ?_ _); rotate_left; (simp <;> omega)) | ((with_reducible refine Below.alloc ?_ ?_ _); rotate_left; (simp <;> omega)) | ((with_reducible refine Below.trans ?_ (Below.mono (by with_reducible assumption) ?_)); rotate_left; (simp <;> omega))))⟩
theorem fold_spread (w : World) {A : Option Addr} {n c : Nat} {zs : List (Nat × Nat)} (hr : RdV w A n c (cvs zs)) {g m1 m2 : Nat} {r1 r2 : Option Nat} (h1 : mk m1 = r1) (h2 : mk m2 = r2) (hg : g < w.heap.size) (hc : w.cell? ⟨g, 0, none⟩ = some (.complex .f64 m1 m2)) :
    Calls Try.prog 37 #[.slice A n c, .float .f64 0, .func (.func 38) #[] #[.pointer (some ⟨g, 0, none⟩)]] w (FE (fsqs r1 r2 zs) w) := by
  have hl : zs.length = n := by have := hr.len; rwa [cvs_len] at this
  have hmx := hr.max
  go_enter Try.func37, Try.ntmps37
  go_wp2_with fail
  go_loopw [1, 11] (fun x i wr => ∃ (t a : Nat), t ≤ n ∧ i = .int .i64 (t : Int) ∧ x = .float .f64 a ∧ a < 2 ^ 64 ∧ mk a = fsqs r1 r2 (zs.take t) ∧ Below w.heap.size w wr) (fun _ i _ => n - (intOf i).toNat)
  case atStart => exact ⟨0, 0, Nat.zero_le _, rfl, rfl, by decide, rfl, Below.refl _ _⟩
  case round =>
    obtain ⟨t, a, ht, rfl, rfl, la, ea, hbel⟩ := hrel
    by_cases hlt : t < n
    · obtain ⟨ad, rfl, hab, hac⟩ := (hr.below hbel).form (by omega)
      obtain ⟨p, q, hz⟩ : ∃ p q, zs[t] = (p, q) := ⟨_, _, rfl⟩
      have cx := hac t (.complex .f64 p q) (by rw [cvs, List.getElem?_map, List.getElem?_eq_getElem (by omega), hz]; rfl)
      have a1 : (t : Int) < (n : Int) := by omega
      have a0 : (0 : Int) ≤ (t : Int) := by omega
      have HA := Lib.hid (show fop .add (fsqs r1 r2 (zs.take t)) (sqd r1 r2 (p, q)) = fsqs r1 r2 (zs.take (t + 1)) by
        rw [fsqs_take _ _ (by omega), hz])
      have EA := Lib.hid ea
      have HBEL := Lib.hid hbel
      have hs := hbel.size
      have i1 : IntKind.i64.wrap ((t : Int) + 1) = (t : Int) + 1 := IntWalk.i64_in _ (by omega)
      have hC := spread1_any wr (p := p) (q := q) EA.out h1 h2 (Nat.lt_of_lt_of_le hg hs) ((hbel.cell (p := ⟨g, 0, none⟩) hg).trans hc)
      have HH := Lib.hid hc
      clear ea hac hz hbel hc h1 h2
      go_wp2_with (go_at_call 38; refine hC.mono ?_; rintro e w2 ⟨a2, rfl, la2, ea2, bw⟩)
      go_roundw
      case rel => exact ⟨t + 1, a2, by omega, by go_num, rfl, la2, by rw [ea2, HA.out], HBEL.out.trans (bw.mono hs)⟩
      case measure => simp [intOf]; omega
    · obtain rfl : n = t := by omega
      clear hc h1 h2
      go_wp2_with fail
      go_ret
      refine ⟨a, rfl, la, ?_, hbel⟩
      rw [ea, List.take_of_length_le (by omega)]
theorem run_store_complex {P : Program} {w : World} {a : Addr} {m : Mode} (k : FloatKind) (x y : Nat) : (store a (.complex k x y) m).run P w = stored P w a (.complex k x y) m := run_store P w a _ m rfl
attribute [local go_sem] run_store_complex
def FIE (o : Option Nat) (z : Int) (w : World) (e : Ending) (w' : World) : Prop := ∃ a, e = .returned (.tuple #[.float .f64 a, .int .i64 z]) ∧ a < 2 ^ 64 ∧ mk a = o ∧ Below w.heap.size w w'
theorem spread_any (w : World) {A : Option Addr} {n c : Nat} {zs : List (Nat × Nat)} (hr : RdV w A n c (cvs zs)) : Calls Try.prog 25 #[.slice A n c] w (FIE (fspread zs) (fitN n) w) := by
  have hl : zs.length = n := by have := hr.len; rwa [cvs_len] at this
  have hM := mean_any w hr
  have hmx := hr.max
  by_cases hok : n ≠ 0 ∧ n ≤ 1024
  · have e0 := fit_ok hok.1 hok.2
    have HF := Lib.hid (show fspread zs = fop .quo (fsqs (fmean (zs.map Prod.fst)) (fmean (zs.map Prod.snd)) zs) (fcnt n) by unfold fspread; rw [hl, if_pos e0])
    rw [e0] at hM ⊢
    clear hok e0 hl
    generalize fmean (zs.map Prod.fst) = r1 at hM HF
    generalize fmean (zs.map Prod.snd) = r2 at hM HF
    go_enter Try.func25, Try.ntmps25
    go_upto_region 4 with (go_at_call 13; refine hM.mono ?_; rintro e w1 ⟨a, b, rfl, la, lb, ea, eb, bw⟩)
    clear hM
    have hS := fold_spread (w1.alloc (.cells #[.complex .f64 a b] 28)) ((hr.below bw).below ((Below.refl _ _).alloc (Nat.le_refl _) _)) (g := w1.heap.size) ea eb (by simp) (Bk.cell (Bk.new w1 28 #[.complex .f64 a b]) 0)
    have hsz := bw.size
    clear ea eb hr
    go_upto_region 5 with (go_at_call 37; refine hS.mono ?_; rintro e w2 ⟨s, rfl, ls, es, bs⟩)
    have ES := Lib.hid es
    clear es hS
    go_wp2_with (((with_reducible refine wpList_float rfl rfl (x := s) rfl rfl op_quo ES.out (rfl : mk (FloatKind.f64.nearest n) = fcnt n) ?_); rintro x nx hx ex))
    go_ret2
    exact ⟨x, rfl, hx, by rw [ex, HF.out], by
      have b1 := bw.trans (((Below.refl w1.heap.size w1).alloc (Nat.le_refl _) (.cells #[.complex .f64 a b] 28)).trans (bs.mono (by simp)) |>.mono hsz)
      exact below_drewN b1 _⟩
  · have hz : fitN n = 4 ∨ fitN n = 2 := (fit_bad hok).imp (·.1) id
    have HF := Lib.hid (show fspread zs = mk 0 by unfold fspread; rw [hl, if_neg (by omega)])
    clear hok hl
    rcases hz with e0 | e0 <;> rw [e0] at hM ⊢ <;> clear e0
    all_goals
      go_enter Try.func25, Try.ntmps25
      go_wp2_with (go_at_call 13; refine hM.mono ?_; rintro e w1 ⟨a, b, rfl, la, lb, ea, eb, bw⟩)
      go_ret2
      exact ⟨0, rfl, by decide, HF.out.symm, by have hsz := bw.size; exact bw.alloc hsz _⟩
end Go.Proofs.Ytlagbacljobbcaa
