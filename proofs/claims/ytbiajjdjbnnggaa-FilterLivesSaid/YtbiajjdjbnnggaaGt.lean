/- FilterTrue: the walk. -/
import Derived.Test.YtbiajjdjbnnggaaG7
import Derived.Test.YtbiajjdjbnnggaaGm
namespace Go.Proofs.Ytbiajjdjbnnggaa
set_option linter.unusedSimpArgs false
set_option linter.unusedVariables false
set_option maxRecDepth 100000
open Go.RowKit Go.ChangeShapes Go.WideShapes Go.Deep
attribute [local go_sem] toldUpon_value toldUpon_skip toldUpon_enter

theorem INV.mono {l l' : List Smp} {S : List Smp × Nat} (h : INV l S) (hs : ∀ x ∈ l, x ∈ l') : INV l' S := ⟨h.1, fun j hj => ⟨hs _ (h.2 j hj).1, (h.2 j hj).2⟩⟩
theorem RdS.cells4 {w : World} {A : Option Addr} {n c t : Nat} {ss : List Smp} (h : RdS w A n c ss) (ht : t < n) : ∃ ad, A = some ad ∧ ad.block < w.heap.size ∧
    (∀ w', Below w.heap.size w w' → w'.cell? (ad.add (t * 4)) = some (.int .i64 (rg ss t).o)) ∧ (∀ w', Below w.heap.size w w' → w'.cell? ⟨(ad.add (t * 4)).block, (ad.add (t * 4)).off + 1, none⟩ = some (.int .i64 (rg ss t).d)) ∧
    (∀ w', Below w.heap.size w w' → w'.cell? ⟨(ad.add (t * 4)).block, (ad.add (t * 4)).off + 2, none⟩ = some (.int .i64 (rg ss t).p)) ∧ (∀ w', Below w.heap.size w w' → w'.cell? ⟨(ad.add (t * 4)).block, (ad.add (t * 4)).off + 3, none⟩ = some (.int .i64 (rg ss t).a)) := by
  obtain ⟨_, _, _, h3⟩ := h
  obtain ⟨ad, rfl, hab, hac⟩ := h3 (by omega)
  obtain ⟨c0, c1, c2, c3⟩ := hac t ht
  rw [ad_field _ _ 1 (by decide)] at c1
  rw [ad_field _ _ 2 (by decide)] at c2
  rw [ad_field _ _ 3 (by decide)] at c3
  exact ⟨ad, rfl, hab, fun w' h => (h.cell (p := ad.add (t * 4)) (adlt hab _)).trans c0, fun w' h => (h.cell (p := ⟨(ad.add (t * 4)).block, (ad.add (t * 4)).off + 1, none⟩) (adlt hab _)).trans c1, fun w' h => (h.cell (p := ⟨(ad.add (t * 4)).block, (ad.add (t * 4)).off + 2, none⟩) (adlt hab _)).trans c2, fun w' h => (h.cell (p := ⟨(ad.add (t * 4)).block, (ad.add (t * 4)).off + 3, none⟩) (adlt hab _)).trans c3⟩
def trueB (right now : Int) (s : Smp) : Prop := mayB s = true ∧ s.o - right ≤ distN s now ∧ -(s.o - right) ≤ distN s now
set_option maxHeartbeats 4000000 in
theorem walk_FilterTrue (A : Option Addr) (n c : Nat) (ss : List Smp) (now right0 : Int) (w : World) (h : RdS w A n c ss) : Calls Try.prog 4 #[.slice A n c, .int .i64 now, .int .i64 right0] w fun e w' => e = .returned (.bool true) ∧ Below w.heap.size w w' := by
  have hl := h.1
  have hmx := h.2.2.1
  obtain ⟨right, hr⟩ : ∃ r, Int.tmod right0 1152921504606846976 = r := ⟨_, rfl⟩
  have hrb : -1152921504606846976 < right ∧ right < 1152921504606846976 := by
    have h1 := Int.tmod_lt_of_pos right0 (show (0 : Int) < 1152921504606846976 by decide)
    have h2 : -1152921504606846976 < Int.tmod right0 1152921504606846976 := by
      have := Int.tmod_lt_of_pos (-right0) (show (0 : Int) < 1152921504606846976 by decide)
      rw [Int.neg_tmod] at this; omega
    rw [← hr]
    exact ⟨h2, h1⟩
  have hAl := fun w => falive_any w
  go_enter Try.func4, Try.ntmps4
  go_wp2_with fail
  clear hr
  go_loopw [7] (fun i wr => ∃ (t : Nat), t ≤ n ∧ i = .int .i64 (t : Int) ∧ (∀ j, j < t → trueB right now (rg ss j)) ∧ Below w.heap.size w wr) (fun i _ => n - (intOf i).toNat)
  case atStart => exact ⟨0, Nat.zero_le _, rfl, fun j hj => absurd hj (by omega), Below.refl _ _⟩
  case round =>
    obtain ⟨t, ht, rfl, hall, hbel⟩ := hrel
    by_cases hlt : t < n
    · obtain ⟨ad, rfl, hab, C0, C1, C2, C3⟩ := (h.below hbel).cells4 hlt
      have HALL := Lib.hid hall
      have HB := Lib.hid hbel
      have hM := fun w => rmay_any w (rg ss t)
      have hD := fun w => dist_any w (rg ss t) now
      have HT := Lib.hid (show trueB right now (rg ss t) ↔ (mayB (rg ss t) = true ∧ (rg ss t).o - right ≤ distN (rg ss t) now ∧ -((rg ss t).o - right) ≤ distN (rg ss t) now) from Iff.rfl)
      have HM := Lib.hid (fun h => (mayB_iff (s := rg ss t)).1 h)
      have HD := Lib.hid (show distN (rg ss t) now = distN (rg ss t) now from rfl)
      have HA := Lib.hid (Below.refl wr.heap.size wr)
      clear hall hbel h HD
      generalize distN (rg ss t) now = dx at hD HT
      obtain ⟨s, hs⟩ : ∃ s, rg ss t = s := ⟨_, rfl⟩
      rw [hs] at hM hD HM C0 C1 C2 C3
      have HS := Lib.hid hs
      rw [hs] at HT
      clear hs
      obtain ⟨xo, xd, xp, xa⟩ := s
      unfold sv at hM hD
      have c0 := C0 _ HA.out; have c1 := C1 _ HA.out; have c2 := C2 _ HA.out; have c3 := C3 _ HA.out
      have a1 : (t : Int) < (n : Int) := by omega
      have a0 : (0 : Int) ≤ (t : Int) := by omega
      have i1 : IntKind.i64.wrap ((t : Int) + 1) = (t : Int) + 1 := IntWalk.i64_in _ (by omega)
      cases hm : mayB ⟨xo, xd, xp, xa⟩
      · rw [hm] at hM
        clear hm
        go_wp2_with (first
          | (go_at_call 14; refine (hM _).mono ?_; (rintro e wn ⟨rfl, hbn⟩; replace HA := Lib.hid (HA.out.trans (hbn.mono HA.out.size)); have c0 := C0 _ HA.out; have c1 := C1 _ HA.out; have c2 := C2 _ HA.out; have c3 := C3 _ HA.out; clear hbn))
          | (go_at_call 10; refine (hD _).mono ?_; (rintro e wn ⟨rfl, hbn⟩; replace HA := Lib.hid (HA.out.trans (hbn.mono HA.out.size)); have c0 := C0 _ HA.out; have c1 := C1 _ HA.out; have c2 := C2 _ HA.out; have c3 := C3 _ HA.out; clear hbn))
          | (go_at_call 12; refine (hAl _).mono ?_; (rintro e wn ⟨rfl, hbn⟩; replace HA := Lib.hid (HA.out.trans (hbn.mono HA.out.size)); have c0 := C0 _ HA.out; have c1 := C1 _ HA.out; have c2 := C2 _ HA.out; have c3 := C3 _ HA.out; clear hbn)))
        go_ret
        exact ⟨rfl, HB.out.trans (HA.out.mono HB.out.size)⟩
      · rw [hm] at hM
        obtain ⟨⟨o1, o2⟩, _⟩ := HM.out hm
        replace o1 : -1152921504606846976 ≤ xo := o1
        replace o2 : xo ≤ 1152921504606846976 := o2
        replace HT := Lib.hid (show trueB right now ⟨xo, xd, xp, xa⟩ ↔ (True ∧ xo - right ≤ dx ∧ -(xo - right) ≤ dx) from HT.out.trans (by rw [hm]; simp))
        obtain ⟨q, hq⟩ : ∃ q, xo - right = q := ⟨_, rfl⟩
        rw [hq] at HT
        have i2 : IntKind.i64.wrap (xo - right) = q := by rw [IntWalk.i64_in _ (by omega)]; exact hq
        have i3 : IntKind.i64.wrap (-q) = -q := IntWalk.i64_in _ (by omega)
        clear hm hq o1 o2
        by_cases g1 : dx < q
        · skip
          go_wp2_with (first
            | (go_at_call 14; refine (hM _).mono ?_; (rintro e wn ⟨rfl, hbn⟩; replace HA := Lib.hid (HA.out.trans (hbn.mono HA.out.size)); have c0 := C0 _ HA.out; have c1 := C1 _ HA.out; have c2 := C2 _ HA.out; have c3 := C3 _ HA.out; clear hbn))
            | (go_at_call 10; refine (hD _).mono ?_; (rintro e wn ⟨rfl, hbn⟩; replace HA := Lib.hid (HA.out.trans (hbn.mono HA.out.size)); have c0 := C0 _ HA.out; have c1 := C1 _ HA.out; have c2 := C2 _ HA.out; have c3 := C3 _ HA.out; clear hbn))
            | (go_at_call 12; refine (hAl _).mono ?_; (rintro e wn ⟨rfl, hbn⟩; replace HA := Lib.hid (HA.out.trans (hbn.mono HA.out.size)); have c0 := C0 _ HA.out; have c1 := C1 _ HA.out; have c2 := C2 _ HA.out; have c3 := C3 _ HA.out; clear hbn)))
          go_ret
          exact ⟨rfl, HB.out.trans (HA.out.mono HB.out.size)⟩
        · by_cases g2 : dx < -q
          · skip
            go_wp2_with (first
              | (go_at_call 14; refine (hM _).mono ?_; (rintro e wn ⟨rfl, hbn⟩; replace HA := Lib.hid (HA.out.trans (hbn.mono HA.out.size)); have c0 := C0 _ HA.out; have c1 := C1 _ HA.out; have c2 := C2 _ HA.out; have c3 := C3 _ HA.out; clear hbn))
              | (go_at_call 10; refine (hD _).mono ?_; (rintro e wn ⟨rfl, hbn⟩; replace HA := Lib.hid (HA.out.trans (hbn.mono HA.out.size)); have c0 := C0 _ HA.out; have c1 := C1 _ HA.out; have c2 := C2 _ HA.out; have c3 := C3 _ HA.out; clear hbn))
              | (go_at_call 12; refine (hAl _).mono ?_; (rintro e wn ⟨rfl, hbn⟩; replace HA := Lib.hid (HA.out.trans (hbn.mono HA.out.size)); have c0 := C0 _ HA.out; have c1 := C1 _ HA.out; have c2 := C2 _ HA.out; have c3 := C3 _ HA.out; clear hbn)))
            go_ret
            exact ⟨rfl, HB.out.trans (HA.out.mono HB.out.size)⟩
          · have HG := Lib.hid (HT.out.2 ⟨trivial, by omega, by omega⟩)
            go_wp2_with (first
              | (go_at_call 14; refine (hM _).mono ?_; (rintro e wn ⟨rfl, hbn⟩; replace HA := Lib.hid (HA.out.trans (hbn.mono HA.out.size)); have c0 := C0 _ HA.out; have c1 := C1 _ HA.out; have c2 := C2 _ HA.out; have c3 := C3 _ HA.out; clear hbn))
              | (go_at_call 10; refine (hD _).mono ?_; (rintro e wn ⟨rfl, hbn⟩; replace HA := Lib.hid (HA.out.trans (hbn.mono HA.out.size)); have c0 := C0 _ HA.out; have c1 := C1 _ HA.out; have c2 := C2 _ HA.out; have c3 := C3 _ HA.out; clear hbn)))
            go_roundw
            case rel => exact ⟨t + 1, by omega, by go_num, fun j hj => by
              rcases Nat.lt_or_ge j t with h1 | h1
              · exact HALL.out j h1
              · obtain rfl : j = t := by omega
                rw [HS.out]; exact HG.out, HB.out.trans (HA.out.mono HB.out.size)⟩
            case measure => simp [intOf]; omega
    · obtain rfl : t = n := by omega
      have hF := filled_any wr (h.below hbel)
      have hI := INV.fill (ss.take 100)
      have hle := fillN_le (ss.take 100)
      have hfa : (∀ x ∈ ss, trueB right now x) := fun x hx => by
        obtain ⟨k, hk, rfl⟩ := mem_rg hx
        exact hall k (by omega)
      have hN : (fillN (ss.take 100)).2 = min 100 t := by rw [fill_all (fun x hx => (hfa x (List.mem_of_mem_take hx)).1), List.length_take, hl]
      have hBm := fun hn => hfa _ (List.mem_of_mem_take (best_mem hI now hn).1)
      have HB := Lib.hid hbel
      unfold FIL at hF
      generalize hS : fillN (ss.take 100) = S at hF hN hBm
      obtain ⟨R, N⟩ := S
      replace hN : N = min 100 t := hN
      replace hBm : N ≠ 0 → trueB right now (bestN R N now) := hBm
      have hBest : ∀ w' g, FB w' g R N → Calls Try.prog 11 #[.pointer (some ⟨g, 0, none⟩), .int .i64 now] w' (BES (bestN R N now) (if N = 0 then 4 else 0) w') := fun w' g h => best_any w' now h (by omega)
      generalize bestN R N now = B at hBest hBm
      clear hS hI hle hfa hall h hbel
      have a1 : ¬ (t : Int) < (t : Int) := by omega
      unfold BES at hBest
      by_cases hz : t = 0
      · subst hz
        obtain rfl : N = 0 := by omega
        simp only [if_true] at hBest
        clear hN hBm hl hmx ht
        obtain ⟨xo, xd, xp, xa⟩ := B
        unfold sv at hBest
        go_wp2_with (first
          | (go_at_call 8; refine hF.mono ?_; rintro e w2 ⟨g, rfl, hg, hfb, hb2⟩)
          | (go_at_call 11; refine (hBest _ _ hfb).mono ?_; rintro e w3 ⟨rfl, hb3⟩)
          | (go_at_call 12; refine (hAl _).mono ?_; rintro e w4 ⟨rfl, hb4⟩))
        go_ret
        have k1 := HB.out.trans (hb2.mono HB.out.size)
        have k2 := k1.trans (hb3.mono k1.size)
        have k3 := k2.alloc k2.size (.cells #[.int .i64 xo, .int .i64 xd, .int .i64 xp, .int .i64 xa] 27)
        exact ⟨rfl, k3.trans (hb4.mono k3.size)⟩
      · have hN0 : ¬ N = 0 := by omega
        simp only [if_neg hN0] at hBest
        obtain ⟨t1, t2, t3⟩ := hBm hN0
        obtain ⟨⟨o1, o2⟩, _⟩ := mayB_iff.1 t1
        have hD := fun w => dist_any w B now
        generalize distN B now = dx at hD t2 t3
        obtain ⟨xo, xd, xp, xa⟩ := B
        replace o1 : -1152921504606846976 ≤ xo := o1
        replace o2 : xo ≤ 1152921504606846976 := o2
        replace t2 : xo - right ≤ dx := t2
        replace t3 : -(xo - right) ≤ dx := t3
        unfold sv at hBest hD
        obtain ⟨q, hq⟩ : ∃ q, xo - right = q := ⟨_, rfl⟩
        have i2 : IntKind.i64.wrap (xo - right) = q := by rw [IntWalk.i64_in _ (by omega)]; exact hq
        have i3 : IntKind.i64.wrap (-q) = -q := IntWalk.i64_in _ (by omega)
        rw [hq] at t2 t3
        clear hq o1 o2 t1 hBm hN
        go_upto_region 9 with (first
          | (go_at_call 8; refine hF.mono ?_; rintro e w2 ⟨g, rfl, hg, hfb, hb2⟩)
          | (go_at_call 11; refine (hBest _ _ hfb).mono ?_; rintro e w3 ⟨rfl, hb3⟩))
        obtain ⟨w5, hw5⟩ : ∃ x, w3.alloc (.cells #[.int .i64 xo, .int .i64 xd, .int .i64 xp, .int .i64 xa] 27) = x := ⟨_, rfl⟩
        have hk : Bk w5 w3.heap.size 27 #[.int .i64 xo, .int .i64 xd, .int .i64 xp, .int .i64 xa] := by rw [← hw5]; exact Bk.new w3 _ _
        have k1 := HB.out.trans (hb2.mono HB.out.size)
        have k2 := k1.trans (hb3.mono k1.size)
        have k3 := k2.alloc k2.size (.cells #[.int .i64 xo, .int .i64 xd, .int .i64 xp, .int .i64 xa] 27)
        rw [hw5] at k3 ⊢
        clear hw5
        have C0 := fun w' (h : Below w5.heap.size w5 w') => (hk.below h hk.lt).cell 0
        have C1 := fun w' (h : Below w5.heap.size w5 w') => (hk.below h hk.lt).cell 1
        have C2 := fun w' (h : Below w5.heap.size w5 w') => (hk.below h hk.lt).cell 2
        have C3 := fun w' (h : Below w5.heap.size w5 w') => (hk.below h hk.lt).cell 3
        have HA := Lib.hid (Below.refl w5.heap.size w5)
        have HK := Lib.hid k3
        have c0 := C0 _ HA.out; have c1 := C1 _ HA.out; have c2 := C2 _ HA.out; have c3 := C3 _ HA.out
        clear k1 k2 k3 hb2 hb3 hfb hF hBest hk
        go_wp2_with (first
          | (go_at_call 10; refine (hD _).mono ?_; (rintro e wn ⟨rfl, hbn⟩; replace HA := Lib.hid (HA.out.trans (hbn.mono HA.out.size)); have c0 := C0 _ HA.out; have c1 := C1 _ HA.out; have c2 := C2 _ HA.out; have c3 := C3 _ HA.out; clear hbn))
          | (go_at_call 12; refine (hAl _).mono ?_; (rintro e wn ⟨rfl, hbn⟩; replace HA := Lib.hid (HA.out.trans (hbn.mono HA.out.size)); have c0 := C0 _ HA.out; have c1 := C1 _ HA.out; have c2 := C2 _ HA.out; have c3 := C3 _ HA.out; clear hbn)))
        go_ret
        exact ⟨rfl, HK.out.trans (HA.out.mono HK.out.size)⟩
end Go.Proofs.Ytbiajjdjbnnggaa
