/- Values that say the same; a row of values. -/
import Derived.Test.YtkmabfdnekphnaaJ7
import Derived.Test.YtkmabfdnekphnaaJa
import Derived.Test.YtkmabfdnekphnaaBs
namespace Go.Proofs.Ytkmabfdnekphnaa
set_option linter.unusedSimpArgs false
set_option linter.unusedVariables false
set_option maxRecDepth 100000
open Go.RowKit Go.Deep
attribute [local go_sem] toldUpon_value toldUpon_skip toldUpon_enter

set_option maxHeartbeats 2000000 in
theorem same_true (w : World) (a b : Vl) (ha : VR w a) (hb : VR w b) (h : same a b) : Calls Try.prog 13 #[vv a, vv b] w fun e w' => e = .returned (.bool true) ∧ Below w.heap.size w w' := by
  obtain ⟨ts, fs, A, n, c', ds, B, m, d, ss⟩ := a
  obtain ⟨ts2, fs2, A2, n2, c2', ds2, B2, m2, d2, ss2⟩ := b
  obtain ⟨s1, s2, s3, s4, _, _⟩ := h
  replace s1 : ts = ts2 := s1
  replace s2 : fs = fs2 := s2
  replace s3 : ds = ds2 := s3
  replace s4 : ss = ss2 := s4
  subst s1 s2 s3 s4
  have HA := Lib.hid ha
  have HB := Lib.hid hb
  clear ha hb
  unfold vv
  go_enter Try.func13, Try.ntmps13
  go_upto_region 1 with (fail)
  obtain ⟨w1, hw1⟩ : ∃ z, (w.alloc (.cells #[.int .u32 (ts : Int), .int .u32 (fs : Int), .slice A n c', .slice B m d] 25)).alloc (.cells #[.int .u32 (ts : Int), .int .u32 (fs : Int), .slice A2 n2 c2', .slice B2 m2 d2] 25) = z := ⟨_, rfl⟩
  have hb1 : Below w.heap.size w w1 := by rw [← hw1]; exact ((Below.refl _ _).alloc (Nat.le_refl _) _).alloc (by simp) _
  have k1 : Bk w1 w.heap.size 25 #[.int .u32 (ts : Int), .int .u32 (fs : Int), .slice A n c', .slice B m d] := by rw [← hw1]; exact (Bk.new w _ _).alloc _
  have k2 : Bk w1 (w.heap.size + 1) 25 #[.int .u32 (ts : Int), .int .u32 (fs : Int), .slice A2 n2 c2', .slice B2 m2 d2] := by rw [← hw1]; exact Bk.at_new _ _ (by simp)
  rw [hw1]
  have q1 := conv_btx (HA.out.1.below hb1)
  have q2 := conv_btx (HB.out.1.below hb1)
  have q3 := conv_btx (HA.out.2.1.below hb1)
  have q4 := conv_btx (HB.out.2.1.below hb1)
  have a0 := k1.cell 0
  have a1 := k1.cell 1
  have a2 := k1.cell 2
  have a3 := k1.cell 3
  have b0 := k2.cell 0
  have b1 := k2.cell 1
  have b2 := k2.cell 2
  have b3 := k2.cell 3
  have HB1 := Lib.hid hb1
  clear hw1 hb1 k1 k2
  go_wp2_with fail
  go_ret
  exact ⟨rfl, HB1.out⟩
/-- a place of a list of values -/
def vg (vs : List Vl) (j : Nat) : Vl := vs.getD j z0
/-- a slice that reads as these values -/
def RdVs (w : World) (A : Option Addr) (n c : Nat) (vs : List Vl) : Prop := vs.length = n ∧ n ≤ c ∧ n ≤ 9223372036854775807 ∧ (∀ j, j < n → VR w (vg vs j)) ∧ (0 < n → ∃ ad, A = some ad ∧ ad.block < w.heap.size ∧ ∀ j, j < n →
  w.cell? (ad.add (j * 4)) = some (.int .u32 ((vg vs j).ts : Int)) ∧ w.cell? (ad.add (j * 4 + 1)) = some (.int .u32 ((vg vs j).fs : Int)) ∧ w.cell? (ad.add (j * 4 + 2)) = some (.slice (vg vs j).A (vg vs j).n (vg vs j).c) ∧ w.cell? (ad.add (j * 4 + 3)) = some (.slice (vg vs j).B (vg vs j).m (vg vs j).d))
theorem RdVs.below {w w' : World} {A : Option Addr} {n c : Nat} {vs : List Vl} (h : RdVs w A n c vs) (hb : Below w.heap.size w w') : RdVs w' A n c vs := by
  obtain ⟨h1, h2, h2', h4, h3⟩ := h
  refine ⟨h1, h2, h2', fun j hj => (h4 j hj).below hb, fun hn => ?_⟩
  obtain ⟨ad, rfl, hlt, hc⟩ := h3 hn
  refine ⟨ad, rfl, Nat.lt_of_lt_of_le hlt hb.size, fun j hj => ?_⟩
  obtain ⟨c0, c1, c2, c3⟩ := hc j hj
  exact ⟨(hb.cell (p := ad.add _) (adlt hlt _)).trans c0, (hb.cell (p := ad.add _) (adlt hlt _)).trans c1, (hb.cell (p := ad.add _) (adlt hlt _)).trans c2, (hb.cell (p := ad.add _) (adlt hlt _)).trans c3⟩
theorem ad_fieldv (ad : Addr) (m k : Nat) (hk : k ≠ 0) : ad.add (m + k) = ⟨(ad.add m).block, (ad.add m).off + k, none⟩ := by
  unfold Addr.add; rw [if_neg (by omega)]; by_cases h : m = 0
  · subst h; simp
  · simp [h, Nat.add_assoc]
/-- the four cells of the value at place t, in every later world -/
def V4 (w : World) (ad : Addr) (t : Nat) (v : Vl) : Prop := w.cell? (ad.add (t * 4)) = some (.int .u32 (v.ts : Int)) ∧ w.cell? ⟨(ad.add (t * 4)).block, (ad.add (t * 4)).off + 1, none⟩ = some (.int .u32 (v.fs : Int)) ∧ w.cell? ⟨(ad.add (t * 4)).block, (ad.add (t * 4)).off + 2, none⟩ = some (.slice v.A v.n v.c) ∧ w.cell? ⟨(ad.add (t * 4)).block, (ad.add (t * 4)).off + 3, none⟩ = some (.slice v.B v.m v.d)
theorem RdVs.form {w : World} {A : Option Addr} {n c : Nat} {vs : List Vl} (h : RdVs w A n c vs) (hn : 0 < n) : ∃ ad, A = some ad ∧ ad.block < w.heap.size ∧ ∀ w', Below w.heap.size w w' → ∀ t, t < n → V4 w' ad t (vg vs t) := by
  obtain ⟨_, _, _, _, h3⟩ := h
  obtain ⟨ad, rfl, hab, hac⟩ := h3 hn
  refine ⟨ad, rfl, hab, fun w' hb t ht => ?_⟩
  obtain ⟨c0, c1, c2, c3⟩ := hac t ht
  rw [← hb.cell (p := ad.add _) (adlt hab _)] at c0 c1 c2 c3
  rw [ad_fieldv _ _ 1 (by decide)] at c1
  rw [ad_fieldv _ _ 2 (by decide)] at c2
  rw [ad_fieldv _ _ 3 (by decide)] at c3
  exact ⟨c0, c1, c2, c3⟩
section
variable {H : Type} {enc : TypeId × Value → H} {P : Program} {w : World} {base : Nat} {spare : Nat → Bool} {held : Bool}
theorem open_slice_fieldsv {t e : TypeId} {fs : Array Field} {fuel : Nat} {cs : List Value} {x : DataW H × List MemPlace} (ht : P.underlying t = some (.slice e)) (he : P.underlying e = some (.struct fs))
    (hone : oneCellFields P fs = true) (hC : P.cellsOf e = fs.size) (h : DataW.trod enc P w base spare held fuel t cs = some x) :
    (cs = [.slice none 0 0] ∧ x = (.nil, [])) ∨
    ∃ (a : Addr) (len cap m : Nat) (D : Nat → DataW H) (Pl : Nat → List MemPlace), cs = [.slice (some a) len cap] ∧ base ≤ a.block ∧ len ≤ cap ∧ cap ≤ maxLen ∧ m = (if spare a.block then cap else len) ∧
      x = (.slice ((List.range len).map D) ((List.range (m - len)).map fun j => D (len + j)), MemPlace.row a (m * fs.size) ++ (List.range m).flatMap Pl) ∧
      ∀ i, i < m → ∃ (ys : List (DataW H × List MemPlace)) (n : Nat), D i = .agg (ys.map (·.1)) ∧ Pl i = ys.flatMap (·.2) ∧ ys.length = fs.size ∧
        ∀ (j : Nat) (f : Field), fs[j]? = some f → ∃ (v : Value) (y : DataW H × List MemPlace), w.cell? (a.add (i * fs.size + j)) = some v ∧ ys[j]? = some y ∧ DataW.trod enc P w base spare held n f.type [v] = some y := by
  rcases open_slice ht h with h0 | ⟨a, len, cap, m, n, D, Pl, hcs, hb, hl, hm, hmm, hx, hi⟩
  · exact .inl h0
  · refine .inr ⟨a, len, cap, m, D, Pl, hcs, hb, hl, hm, hmm, by rw [hC] at hx; exact hx, fun i him => ?_⟩
    obtain ⟨cs', hc, ht'⟩ := hi i him
    rw [hC] at hc
    obtain ⟨ys, n', hn', hy, hlen, hyl, hf⟩ := DataW.trod_struct he ht'
    obtain ⟨_, hcl, hat⟩ := World.cells?_some hc
    simp only [Prod.mk.injEq] at hy
    refine ⟨ys, n', hy.1, hy.2, hyl, fun j f hj => ?_⟩
    obtain ⟨ho, hk⟩ := hone_of hone j f hj
    have hjl : j < fs.size := (Array.getElem?_eq_some_iff.1 hj).1
    have hcell := hat j hjl
    have hv : cs'[j]? = some (cs'[j]'(by omega)) := List.getElem?_eq_getElem (by omega)
    have h1 := hf j f hj
    rw [ho, hk] at h1
    have hone' : (cs'.drop j).take 1 = [cs'[j]'(by omega)] := by
      rw [List.drop_eq_getElem_cons (by omega)]
      rfl
    rw [hone'] at h1
    have hys : ys[j]? = some (ys[j]'(by omega)) := List.getElem?_eq_getElem (by omega)
    refine ⟨_, _, ?_, hys, h1.trans hys⟩
    rw [← Go.Deep.add_add, hcell, hv]
end
theorem vals_arg {H : Type} {enc : TypeId × Value → H} {W : World} {A : Option Addr} {n c : Nat} {d : DataW H} {p : List MemPlace}
    (h0 : DataW.Trod enc Try.prog W 0 (fun _ => true) true 29 (.slice A n c) d p) : ∃ vs : List Vl, RdVs W A n c vs := by
  obtain ⟨fuel, hf⟩ := h0
  rcases open_slice_fieldsv Try.underlying29 Try.underlying25 (by kernel_rfl) (by kernel_rfl) hf with ⟨hcs, _⟩ | ⟨ad, len, cap, m, D, Pl, hcs, hb, hl, hm, hmm, _, hi⟩
  · simp [Value.cells] at hcs
    obtain ⟨rfl, rfl, rfl⟩ := hcs
    exact ⟨[], rfl, Nat.le_refl _, by decide, fun j hj => absurd hj (by omega), fun h => absurd h (by decide)⟩
  · simp [Value.cells] at hcs
    obtain ⟨rfl, rfl, rfl⟩ := hcs
    simp only [if_true] at hmm
    have H : ∀ i, ∃ s : Vl, i < n → VR W s ∧ W.cell? (ad.add (i * 4)) = some (.int .u32 (s.ts : Int)) ∧ W.cell? (ad.add (i * 4 + 1)) = some (.int .u32 (s.fs : Int)) ∧ W.cell? (ad.add (i * 4 + 2)) = some (.slice s.A s.n s.c) ∧ W.cell? (ad.add (i * 4 + 3)) = some (.slice s.B s.m s.d) := by
      intro i
      by_cases hin : i < n
      · obtain ⟨ys, k, _, _, _, hfj⟩ := hi i (by omega)
        obtain ⟨v0, y0, c0, _, q0⟩ := hfj 0 _ rfl
        obtain ⟨v1, y1, c1, _, q1⟩ := hfj 1 _ rfl
        obtain ⟨v2, y2, c2, _, q2⟩ := hfj 2 _ rfl
        obtain ⟨v3, y3, c3, _, q3⟩ := hfj 3 _ rfl
        obtain ⟨x, rfl, rfl, rfl, rfl, hr⟩ := val_of q0 q1 q2 q3
        exact ⟨x, fun _ => ⟨hr, c0, c1, c2, c3⟩⟩
      · exact ⟨z0, fun h => absurd h hin⟩
    obtain ⟨f, hf⟩ := Classical.axiomOfChoice H
    have e : ∀ j, j < n → vg ((List.range n).map f) j = f j := fun j hj => by
      unfold vg; rw [List.getD_eq_getElem?_getD, List.getElem?_map, List.getElem?_range hj]; rfl
    refine ⟨(List.range n).map f, by simp, hl, by unfold maxLen at hm; omega, fun j hj => by rw [e j hj]; exact (hf j hj).1, fun hn => ⟨ad, rfl, ?_, fun j hj => ?_⟩⟩
    · have := World.block_lt_of_cell? W _ (hf 0 hn).2.1
      rwa [Go.ChangeShapes.block_add] at this
    · rw [e j hj]
      exact (hf j hj).2
end Go.Proofs.Ytkmabfdnekphnaa
