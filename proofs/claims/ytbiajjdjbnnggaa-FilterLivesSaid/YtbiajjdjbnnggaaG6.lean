/- Samples that came in; filters filled with them; what must come of fixed calls. -/
import Derived.Test.YtbiajjdjbnnggaaG5
import Derived.Test.YtbiajjdjbnnggaaBy
import Derived.Deep.Slices
import Derived.Deep.Fields
import Derived.ChangeSame
namespace Go.Proofs.Ytbiajjdjbnnggaa
set_option linter.unusedSimpArgs false
set_option linter.unusedVariables false
set_option maxRecDepth 100000
open Go.RowKit Go.ChangeShapes Go.WideShapes Go.Deep
attribute [local go_sem] toldUpon_value toldUpon_skip toldUpon_enter

/-- a slice that reads as these samples -/
def RdS (w : World) (A : Option Addr) (n c : Nat) (ss : List Smp) : Prop := ss.length = n ∧ n ≤ c ∧ n ≤ 9223372036854775807 ∧ (0 < n → ∃ ad, A = some ad ∧ ad.block < w.heap.size ∧ ∀ j, j < n →
  w.cell? (ad.add (j * 4)) = some (.int .i64 (rg ss j).o) ∧ w.cell? (ad.add (j * 4 + 1)) = some (.int .i64 (rg ss j).d) ∧ w.cell? (ad.add (j * 4 + 2)) = some (.int .i64 (rg ss j).p) ∧ w.cell? (ad.add (j * 4 + 3)) = some (.int .i64 (rg ss j).a))
theorem ad_field (ad : Addr) (m k : Nat) (hk : k ≠ 0) : ad.add (m + k) = ⟨(ad.add m).block, (ad.add m).off + k, none⟩ := by
  unfold Addr.add; rw [if_neg (by omega)]; by_cases h : m = 0
  · subst h; simp
  · simp [h, Nat.add_assoc]
theorem RdS.below {w w' : World} {A : Option Addr} {n c : Nat} {ss : List Smp} (h : RdS w A n c ss) (hb : Below w.heap.size w w') : RdS w' A n c ss := by
  obtain ⟨h1, h2, h2', h3⟩ := h
  refine ⟨h1, h2, h2', fun hn => ?_⟩
  obtain ⟨ad, rfl, hlt, hc⟩ := h3 hn
  refine ⟨ad, rfl, Nat.lt_of_lt_of_le hlt hb.size, fun j hj => ?_⟩
  obtain ⟨c0, c1, c2, c3⟩ := hc j hj
  exact ⟨(hb.cell (p := ad.add _) (adlt hlt _)).trans c0, (hb.cell (p := ad.add _) (adlt hlt _)).trans c1, (hb.cell (p := ad.add _) (adlt hlt _)).trans c2, (hb.cell (p := ad.add _) (adlt hlt _)).trans c3⟩
theorem SB.rds {w : World} {g c : Nat} {ss : List Smp} (h : SB w g ss) (hc : ss.length ≤ c) (hm : ss.length ≤ 9223372036854775807) : RdS w (some ⟨g, 0, none⟩) ss.length c ss :=
  ⟨rfl, hc, hm, fun _ => ⟨_, rfl, h.lt, fun j hj => by rw [ad_plain, ad_plain, ad_plain, ad_plain]; exact h.at hj⟩⟩
/-- a filter's state behind a sample -/
def addN (S : List Smp × Nat) (s : Smp) : List Smp × Nat := (if mayB s = true then S.1.set (S.2 % 8) s else S.1, if mayB s = true then S.2 + 1 else S.2)
def fillN (ss : List Smp) : List Smp × Nat := ss.foldl addN (R0, 0)
theorem fillN_snoc (ss : List Smp) (s : Smp) : fillN (ss ++ [s]) = addN (fillN ss) s := by simp [fillN]
theorem addN_le (S : List Smp × Nat) (s : Smp) : (addN S s).2 ≤ S.2 + 1 := by unfold addN; split <;> simp
theorem foldN_le : ∀ (ss : List Smp) (S : List Smp × Nat), (ss.foldl addN S).2 ≤ S.2 + ss.length
  | [], S => by simp
  | s :: ss, S => by
    have h1 := foldN_le ss (addN S s)
    have h2 := addN_le S s
    simp only [List.foldl_cons, List.length_cons]; omega
theorem fillN_le (ss : List Smp) : (fillN ss).2 ≤ ss.length := by have := foldN_le ss (R0, 0); simpa [fillN] using this
theorem take_snoc {ss : List Smp} {t : Nat} (h : t < ss.length) : ss.take (t + 1) = ss.take t ++ [rg ss t] := by
  rw [List.take_succ_eq_append_getElem h]; unfold rg; rw [List.getD_eq_getElem?_getD, List.getElem?_eq_getElem h]; rfl
def FIL (ss : List Smp) (w : World) (e : Ending) (w' : World) : Prop := ∃ g, e = .returned (.pointer (some ⟨g, 0, none⟩)) ∧ w.heap.size ≤ g ∧ FB w' g (fillN (ss.take 100)).1 (fillN (ss.take 100)).2 ∧ Below w.heap.size w w'
set_option maxHeartbeats 2000000 in
theorem filled_any (w : World) {A : Option Addr} {n c : Nat} {ss : List Smp} (h : RdS w A n c ss) : Calls Try.prog 8 #[.slice A n c] w (FIL ss w) := by
  have hl := h.1
  have hmx := h.2.2.1
  go_enter Try.func8, Try.ntmps8
  go_upto_region 2 with (go_at_call 19; refine (new_any _).mono ?_; rintro e w1 ⟨rfl, hf, hb1⟩)
  have hz1 := hb1.size
  have hlt1 := hf.1.lt
  go_wp2_with fail
  go_loopw [4] (fun i wr => ∃ (t : Nat), t ≤ n ∧ t ≤ 100 ∧ i = .int .i64 (t : Int) ∧ FB wr w.heap.size (fillN (ss.take t)).1 (fillN (ss.take t)).2 ∧ Below w.heap.size w wr ∧ w1.heap.size ≤ wr.heap.size) (fun i _ => 100 - (intOf i).toNat)
  case atStart => exact ⟨0, Nat.zero_le _, Nat.zero_le _, rfl, hf, hb1, Nat.le_refl _⟩
  case round =>
    obtain ⟨t, ht, ht1, rfl, hfb, hbel, hsz⟩ := hrel
    by_cases hlt : t < n ∧ t < 100
    · obtain ⟨hlt, hlt1⟩ := hlt
      obtain ⟨_, _, _, h3⟩ := h.below hbel
      obtain ⟨ad, rfl, hab, hac⟩ := h3 (by omega)
      obtain ⟨c0, c1, c2, c3⟩ := hac t hlt
      rw [ad_field _ _ 1 (by decide)] at c1
      rw [ad_field _ _ 2 (by decide)] at c2
      rw [ad_field _ _ 3 (by decide)] at c3
      have HT := Lib.hid (take_snoc (ss := ss) (t := t) (by omega))
      have hcnt := fillN_le (ss.take t)
      rw [List.length_take] at hcnt
      have hA := add_any wr (B := w.heap.size) (rg ss t) hfb (Nat.le_refl _) (by omega)
      have HF := Lib.hid (show addN (fillN (ss.take t)) (rg ss t) = (if mayB (rg ss t) = true then (fillN (ss.take t)).1.set ((fillN (ss.take t)).2 % 8) (rg ss t) else (fillN (ss.take t)).1, if mayB (rg ss t) = true then (fillN (ss.take t)).2 + 1 else (fillN (ss.take t)).2) from rfl)
      generalize hS : fillN (ss.take t) = S at hfb hA HF hcnt
      have HS := Lib.hid hS
      clear hS
      generalize rg ss t = s at c0 c1 c2 c3 hA HT HF
      obtain ⟨xo, xd, xp, xa⟩ := s
      have a1 : (t : Int) < (n : Int) := by omega
      have a2 : (t : Int) < 100 := by omega
      have a0 : (0 : Int) ≤ (t : Int) := by omega
      have i1 : IntKind.i64.wrap ((t : Int) + 1) = (t : Int) + 1 := IntWalk.i64_in _ (by omega)
      have HB := Lib.hid hbel
      unfold sv at hA
      clear hac h3 hbel h hfb hf hcnt
      go_wp2_with (go_at_call 15; refine hA.mono ?_; rintro e w2 ⟨rfl, hf2, hb2, hs2⟩)
      have HG := Lib.hid (And.intro hf2 (HB.out.trans hb2))
      clear hf2 hb2 hA c0 c1 c2 c3
      go_roundw
      case rel => exact ⟨t + 1, by omega, by omega, by go_num, by rw [HT.out, fillN_snoc, HS.out, HF.out]; exact HG.out.1, HG.out.2, by omega⟩
      case measure => simp [intOf]; omega
    · have e1 : ss.take t = ss.take 100 := by
        rcases Nat.lt_or_ge t n with h1 | h1
        · rw [show t = 100 by omega]
        · rw [List.take_of_length_le (by omega), List.take_of_length_le (by omega)]
      rw [e1] at hfb
      have HG := Lib.hid (And.intro hfb hbel)
      clear e1 hfb hbel h hf
      by_cases h1 : t < n
      · have a1 : (t : Int) < (n : Int) := by omega
        have a2 : ¬ (t : Int) < 100 := by omega
        go_wp2_with fail
        go_ret
        exact ⟨w.heap.size, rfl, Nat.le_refl _, HG.out.1, HG.out.2⟩
      · have a1 : ¬ (t : Int) < (n : Int) := by omega
        go_wp2_with fail
        go_ret
        exact ⟨w.heap.size, rfl, Nat.le_refl _, HG.out.1, HG.out.2⟩
def s3 : Smp := ⟨3, 7, 2, 0⟩
set_option maxHeartbeats 2000000 in
theorem falive_any (w : World) : Calls Try.prog 12 #[] w fun e w' => e = .returned (.bool true) ∧ Below w.heap.size w w' := by
  have hR := fun w => root_any w (n := 17) (by decide)
  rw [show rootN 17 = 4 by decide +kernel] at hR
  have hD := fun w => dist_any w s3 65536
  rw [show distN s3 65536 = 6 by decide +kernel] at hD
  have hBa : ∀ w' g, FB w' g R0 0 → Calls Try.prog 11 #[.pointer (some ⟨g, 0, none⟩), .int .i64 0] w' (BES s0 4 w') := fun w' g h => by
    have := best_any w' 0 h (by decide)
    rwa [show bestN R0 0 0 = s0 from rfl, if_pos rfl] at this
  have hBb : ∀ w' g, FB w' g (R0.set 0 s3) 1 → Calls Try.prog 11 #[.pointer (some ⟨g, 0, none⟩), .int .i64 65536] w' (BES s3 0 w') := fun w' g h => by
    have := best_any w' 65536 h (by decide)
    rwa [show bestN (R0.set 0 s3) 1 65536 = s3 from rfl, if_neg (by decide)] at this
  have hAd : ∀ w' g, FB w' g R0 0 → w.heap.size ≤ g → Calls Try.prog 15 #[.pointer (some ⟨g, 0, none⟩), sv s3] w' fun e w'' => e = .returned (.int .i64 0) ∧ FB w'' g (R0.set 0 s3) 1 ∧ Below w.heap.size w' w'' ∧ w'.heap.size ≤ w''.heap.size := fun w' g h hg => by
    have := add_any w' (B := w.heap.size) s3 h hg (by decide)
    rwa [show mayB s3 = true by decide, if_pos rfl, if_pos rfl, if_pos rfl] at this
  have hLn : ∀ w' g, FB w' g (R0.set 0 s3) 1 → Calls Try.prog 13 #[.pointer (some ⟨g, 0, none⟩)] w' fun e w'' => e = .returned (.int .i64 1) ∧ w' = w'' := fun w' g h => len_any w' h (by decide)
  unfold BES at hBa hBb
  simp only [sv, s3, s0] at hBa hBb hAd hD
  go_enter Try.func12, Try.ntmps12
  go_upto_region 4 with (go_at_call 19; refine (new_any _).mono ?_; rintro e w1 ⟨rfl, hf1, hb1⟩)
  have hz1 := hb1.size
  have hlt1 := hf1.1.lt
  have hBa1 := hBa w1 _ hf1
  go_upto_region 5 with (go_at_call 11; refine hBa1.mono ?_; rintro e w2 ⟨rfl, hb2⟩)
  obtain ⟨w2', hw2'⟩ : ∃ x, w2.alloc (.cells #[.int .i64 0, .int .i64 0, .int .i64 0, .int .i64 0] 27) = x := ⟨_, rfl⟩
  have hb12 := hb1.trans (hb2.mono hz1)
  have hn2 : Below w2.heap.size w2 w2' := by rw [← hw2']; exact (Below.refl _ _).alloc (Nat.le_refl _) _
  have hf2 := (hf1.below hb2).below hn2
  have hb13 := hb12.trans (hn2.mono hb12.size)
  rw [hw2']
  clear hw2' hn2 hb2 hBa1 hBa
  have hA1 := hAd w2' _ hf2 (Nat.le_refl _)
  go_upto_region 6 with (go_at_call 15; refine hA1.mono ?_; rintro e w3 ⟨rfl, hf3, hb3, hs3⟩)
  have hb14 := hb13.trans hb3
  have hz4 := hb14.size
  have hB1 := hBb w3 _ hf3
  go_upto_region 7 with (go_at_call 11; refine hB1.mono ?_; rintro e w4 ⟨rfl, hb4⟩)
  have hb15 := hb14.trans (hb4.mono hz4)
  have hf4 := hf3.below hb4
  obtain ⟨w5, hw5⟩ : ∃ x, w4.alloc (.cells #[.int .i64 3, .int .i64 7, .int .i64 2, .int .i64 0] 27) = x := ⟨_, rfl⟩
  have hk : Bk w5 w4.heap.size 27 #[.int .i64 3, .int .i64 7, .int .i64 2, .int .i64 0] := by rw [← hw5]; exact Bk.new w4 _ _
  have hn5 : Below w4.heap.size w4 w5 := by rw [← hw5]; exact (Below.refl _ _).alloc (Nat.le_refl _) _
  rw [hw5]
  clear hw5
  have hf5 := hf4.below hn5
  have HB := Lib.hid (hb15.trans (hn5.mono hb15.size))
  have hL1 := hLn w5 _ hf5
  have c0 := hk.cell 0
  have c1 := hk.cell 1
  have c2 := hk.cell 2
  have c3 := hk.cell 3
  clear hA1 hB1 hAd hBb hLn hb1 hb3 hb4 hb12 hb13 hb14 hb15 hn5 hf1 hf2 hf3 hf4 hf5 hk
  go_wp2_with (first
    | (go_at_call 13; refine hL1.mono ?_; rintro e w6 ⟨rfl, rfl⟩)
    | (go_at_call 10; refine (hD _).mono ?_; rintro e w7 ⟨rfl, hb7⟩)
    | (go_at_call 27; refine (hR _).mono ?_; rintro e w8 ⟨rfl, rfl⟩))
  go_ret
  exact ⟨rfl, HB.out.trans (hb7.mono HB.out.size)⟩
end Go.Proofs.Ytbiajjdjbnnggaa
