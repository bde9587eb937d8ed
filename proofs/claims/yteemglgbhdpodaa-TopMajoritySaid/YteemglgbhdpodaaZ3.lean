/- The ends of intervals put in order; intervals that are none. -/
import Derived.Test.YteemglgbhdpodaaZ2
namespace Go.Proofs.Yteemglgbhdpodaa
set_option linter.unusedSimpArgs false
set_option linter.unusedVariables false
set_option maxRecDepth 100000
open Go.RowKit

theorem cfE_lt (x y : En) : Go.Proofs.ltOf cfE x y = ahB x y := by
  unfold Go.Proofs.ltOf cfE
  cases h : ahB x y
  · simp only [Bool.false_eq_true, if_false]
    by_cases h1 : (decide (x.1 = y.1) && decide (x.2 = y.2)) = true
    · rw [if_pos h1]; rfl
    · rw [if_neg h1]; rfl
  · rfl
theorem ahB_iff (x y : En) : ahB x y = true ↔ x.1 < y.1 ∨ x.1 = y.1 ∧ y.2 < x.2 := by unfold ahB; simp
theorem ahB_not (x y : En) : ahB x y = false ↔ ¬ (x.1 < y.1 ∨ x.1 = y.1 ∧ y.2 < x.2) := by rw [← ahB_iff]; simp
theorem swoE : Go.Sort.SWO (Go.Proofs.ltOf cfE) where
  irrefl x := by rw [cfE_lt, ahB_not]; omega
  trans x y z h1 h2 := by rw [cfE_lt, ahB_iff] at *; omega
  ntrans x y z h1 h2 := by rw [cfE_lt, ahB_not] at *; omega
theorem heap_row {w : World} {g n : Nat} {os : Array Obj} (F : Array Value) : w.grownBy (Go.Sort.grow (Go.Sort.putRow id (Go.Sort.ahead w n) g 0 F) os) (some g) := by
  refine ⟨rfl, rfl, rfl, by simp [Go.Sort.grow, Go.Sort.ahead], fun k hk hne => ?_⟩
  rw [Go.Sort.heap_grow_old _ _ (by simpa [Go.Sort.ahead] using hk)]
  have : g ≠ k := fun e => hne (by rw [e])
  simp [Go.Sort.putRow, Go.Sort.mapBlock, Go.Sort.ahead, Array.getElem?_modify, this]
theorem sort_ends (w : World) {base n c : Nat} {A : Option Addr} {xs : List En} (h : OwnK enE 2 123 w base A n c xs) (h0 : 0 < n) (hn : n ≤ 1000000) (hbase : base ≤ w.heap.size) :
    Calls Try.prog 58 #[.slice A n c, .func (.func 59) #[] #[]] w fun e w' => e = .returned (.tuple #[]) ∧ ∃ ys : List En, ys.Perm xs ∧ ys.Pairwise (fun a b => ahB b a = false) ∧ RdK enE 2 w' A n c ys ∧ Below base w w' := by
  obtain ⟨g, rfl, hbg, hg, hnc, hcm⟩ : ∃ g, A = some ⟨g, 0, none⟩ ∧ base ≤ g ∧ g < w.heap.size ∧ n ≤ c ∧ c ≤ 9223372036854775807 := by
    rcases h.ways with ⟨_, h1, _, _⟩ | h1
    · omega
    · exact h1
  have hl : xs.length = n := h.2
  have hH : Go.Sort.HoldsK enE 2 w g 0 xs.toArray := by
    intro j hj
    have hj2 : j < n * 2 := by simpa [hl] using hj
    refine ⟨?_, by rw [Nat.zero_add]; exact World.ownsRow.frozenAt h.1 j⟩
    have hq : j / 2 < xs.length := by omega
    rw [Nat.zero_add, World.ownsRow.cellAt h.1 j hj2, Go.Sort.get_flatK _ _ _ _ (by simpa [hl] using hj2)]
    have e1 := flat_at enE 2 enE_len xs (j / 2) (j % 2) xs[j / 2] (List.getElem?_eq_getElem hq) (Nat.mod_lt _ (by decide))
    rw [show j / 2 * 2 + j % 2 = j by omega] at e1
    rw [e1, show (xs.toArray)[j / 2]! = xs[j / 2] by simp [hq]]
    have hm : j % 2 < (enE xs[j / 2]).length := by rw [enE_len]; exact Nat.mod_lt _ (by decide)
    rw [List.getElem?_eq_getElem hm]; simp [hm]
  have eg : ∀ args w, (callFunc 59 args).run Try.prog w = .ok (.enter 59 args) w := Go.Proofs.enters_of Try.func59 (by kernel_rfl) rfl
  have hcon := Go.Proofs.AnyQ.slices_SortFunc Yteemglgbhdpodaa.endL 2 Try.isAgg123 Try.sizeOf123 enE enE_len enE_one cfE swoE 59 #[] g 0 c xs.toArray w eg (fun _ _ _ _ x y => ends_any x y _) hH hg (by simp [hl]; omega)
  change Calls Try.prog 58 _ _ _ at hcon
  rw [show xs.toArray.size = n by simpa using hl] at hcon
  refine hcon.mono ?_
  rintro e w' ⟨rfl, d', m, os, hp, hs, rfl⟩
  have hds : d'.size = n := by rw [hp.1]; simpa using hl
  have hpm : d'.toList.Perm xs := by
    have h1 := hp.2.2
    rw [Array.extract_eq_self_of_le (by omega), Array.extract_eq_self_of_le (by simp; omega)] at h1
    exact h1
  have hH2 : Go.Sort.HoldsK enE 2 (Go.Proofs.sortWorldK enE 2 w g 0 m d' os) g 0 d' := by
    unfold Go.Proofs.sortWorldK
    exact Go.Sort.holdsK_grow enE 2 _ _ _ _ _ (by show g < (Go.Sort.putRow id (Go.Sort.ahead w m) g 0 (Go.Sort.flatK enE 2 d')).heap.size; simpa [Go.Sort.ahead] using hg) (Go.Sort.holdsK_putRowK enE 2 _ _ _ xs.toArray d' (Go.Sort.holdsK_ahead enE 2 w m g 0 _ hH) (by rw [hds]; simpa using hl.symm))
  have hgb : w.grownBy (Go.Proofs.sortWorldK enE 2 w g 0 m d' os) (some g) := heap_row _
  refine ⟨rfl, d'.toList, hpm, ?_, ⟨by simpa using hds, hnc, by omega, fun _ => ⟨_, rfl, Nat.lt_of_lt_of_le hg hgb.size, fun j x hx i hi => ?_⟩⟩, (Below.refl _ _).grown hgb hbase (fun k hk => by cases hk; exact hbg)⟩
  · rw [List.pairwise_iff_getElem]
    intro i j hi hj hij
    have h1 := hs i j (Nat.zero_le _) hij (by simpa [hds] using hj)
    rw [cfE_lt] at h1
    simpa [getElem!_pos, show i < d'.size by simpa using hi, show j < d'.size by simpa using hj] using h1
  · have hj : j < d'.size := by
      rcases Nat.lt_or_ge j d'.size with h | h
      · exact h
      · rw [List.getElem?_eq_none (by simpa using h)] at hx; cases hx
    have e1 := (hH2.cell hj hi).1
    have e2 : d'[j]! = x := by
      rw [Array.getElem?_toList, Array.getElem?_eq_getElem hj] at hx
      rw [getElem!_pos d' j hj]
      exact Option.some.inj hx
    rw [ad_plain]
    rw [Nat.zero_add] at e1
    rw [e1, e2]
    have hm : i < (enE x).length := by rw [enE_len]; exact hi
    rw [List.getElem?_eq_getElem hm]; simp [hm]
theorem sp_field {w : World} {A : Option Addr} {n c : Nat} {xs : List Sp} (h : RdK spE 3 w A n c xs) {t : Nat} (ht : t < n) : ∃ ad, A = some ad ∧ ad.block < w.heap.size ∧ ∀ w', Below w.heap.size w w' → ∀ x, xs[t]? = some x →
    w'.cell? (ad.add (t * 3)) = some (.int .i64 x.1) ∧ w'.cell? ⟨(ad.add (t * 3)).block, (ad.add (t * 3)).off + 1, none⟩ = some (.int .i64 x.2.1) ∧ w'.cell? ⟨(ad.add (t * 3)).block, (ad.add (t * 3)).off + 2, none⟩ = some (.int .i64 x.2.2) := by
  obtain ⟨ad, rfl, hb, hc⟩ := h.form (by omega)
  refine ⟨ad, rfl, hb, fun w' hw x hx => ?_⟩
  have h0 := hc t x hx 0 (by omega)
  have h1 := hc t x hx 1 (by omega)
  have h2 := hc t x hx 2 (by omega)
  rw [ad_field _ _ _ (by decide)] at h1 h2
  rw [Nat.add_zero] at h0
  have hbl : (ad.add (t * 3)).block < w.heap.size := adlt hb _
  exact ⟨(hw.cell hbl).trans h0, (hw.cell (p := ⟨(ad.add (t * 3)).block, _, none⟩) hbl).trans h1, (hw.cell (p := ⟨(ad.add (t * 3)).block, _, none⟩) hbl).trans h2⟩
theorem en_field {w : World} {A : Option Addr} {n c : Nat} {xs : List En} (h : RdK enE 2 w A n c xs) {t : Nat} (ht : t < n) : ∃ ad, A = some ad ∧ ad.block < w.heap.size ∧ ∀ w', Below w.heap.size w w' → ∀ x, xs[t]? = some x →
    w'.cell? (ad.add (t * 2)) = some (.int .i64 x.1) ∧ w'.cell? ⟨(ad.add (t * 2)).block, (ad.add (t * 2)).off + 1, none⟩ = some (.int .i64 x.2) := by
  obtain ⟨ad, rfl, hb, hc⟩ := h.form (by omega)
  refine ⟨ad, rfl, hb, fun w' hw x hx => ?_⟩
  have h0 := hc t x hx 0 (by omega)
  have h1 := hc t x hx 1 (by omega)
  rw [ad_field _ _ _ (by decide)] at h1
  rw [Nat.add_zero] at h0
  have hbl : (ad.add (t * 2)).block < w.heap.size := adlt hb _
  exact ⟨(hw.cell hbl).trans h0, (hw.cell (p := ⟨(ad.add (t * 2)).block, _, none⟩) hbl).trans h1⟩
set_option maxHeartbeats 1000000 in
theorem indexS_any (w : World) {A : Option Addr} {n c : Nat} {xs : List Sp} (h : RdK spE 3 w A n c xs) (hgood : ∀ x ∈ xs, badB x = false) :
    Calls Try.prog 81 #[.slice A n c, .func (.func 57) #[] #[]] w fun e w' => e = .returned (.int .i64 (-1)) ∧ Below w.heap.size w w' := by
  have hl : xs.length = n := h.len
  have hmax := h.max
  go_enter Try.func81, Try.ntmps81
  go_wp2_with fail
  go_loopw [8] (fun i wr => ∃ k : Nat, k ≤ n ∧ i = .int .i64 (k : Int) ∧ Below w.heap.size w wr) (fun i _ => n - (intOf i).toNat)
  case atStart => exact ⟨0, Nat.zero_le _, rfl, Below.refl _ _⟩
  case round =>
    obtain ⟨k, hk, rfl, hbel⟩ := hrel
    have HBEL := Lib.hid hbel
    by_cases hlt : k < n
    · obtain ⟨ad, rfl, hab, hac⟩ := sp_field h hlt
      obtain ⟨c0, c1, c2⟩ := hac wr hbel _ (List.getElem?_eq_getElem (show k < xs.length by omega))
      have hg := hgood xs[k] (List.getElem_mem _)
      obtain ⟨⟨x, y, z⟩, hx⟩ : ∃ q, xs[k] = q := ⟨_, rfl⟩
      rw [hx] at c0 c1 c2 hg
      have a1 : (k : Int) < (n : Int) := by omega
      have a0 : (0 : Int) ≤ (k : Int) := by omega
      have i1 : IntKind.i64.wrap ((k : Int) + 1) = (k : Int) + 1 := IntWalk.i64_in _ (by omega)
      have HL := Lib.hid (fun w => bad_any w x y z)
      rw [hg] at HL
      clear hac hbel hg hx
      go_wp2_with fail
      refine (HL.out _).mono ?_
      rintro e w1 ⟨rfl, hb1⟩
      have HB1 := Lib.hid (HBEL.out.trans (hb1.mono HBEL.out.size))
      clear hb1 c0 c1 c2
      go_wp2_with fail
      exact ⟨⟨k + 1, by omega, by go_num, HB1.out⟩, by simp [intOf]; omega⟩
    · obtain rfl : n = k := by omega
      clear hbel
      go_wp2_with fail
      go_ret
      exact ⟨rfl, HBEL.out⟩
theorem containsS_any (w : World) {A : Option Addr} {n c : Nat} {xs : List Sp} (h : RdK spE 3 w A n c xs) (hgood : ∀ x ∈ xs, badB x = false) :
    Calls Try.prog 56 #[.slice A n c, .func (.func 57) #[] #[]] w fun e w' => e = .returned (.bool false) ∧ Below w.heap.size w w' := by
  have HI := Lib.hid (indexS_any w h hgood)
  clear h
  go_enter Try.func56, Try.ntmps56
  go_wp2_with fail
  refine HI.out.mono ?_
  rintro e w1 ⟨rfl, hb1⟩
  go_wp2_with fail
  go_ret
  exact ⟨rfl, hb1⟩
end Go.Proofs.Yteemglgbhdpodaa
