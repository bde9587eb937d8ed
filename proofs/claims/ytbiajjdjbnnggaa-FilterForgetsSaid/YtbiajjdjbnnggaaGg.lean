/- FilterForgets: the walk. -/
import Derived.Test.YtbiajjdjbnnggaaGf
import Derived.Test.YtbiajjdjbnnggaaGt
import Derived.Test.YtbiajjdjbnnggaaGc
namespace Go.Proofs.Ytbiajjdjbnnggaa
set_option linter.unusedSimpArgs false
set_option linter.unusedVariables false
set_option maxRecDepth 100000
open Go.RowKit Go.ChangeShapes Go.WideShapes Go.Deep
attribute [local go_sem] toldUpon_value toldUpon_skip toldUpon_enter

theorem RS.below {w w' : World} {b : Nat} {A : Option Addr} {n : Nat} {ss : List Smp} (h : RS w b A n ss) (hb : Below w.heap.size w w') : RS w' b A n ss :=
  ⟨h.1, h.2.imp id fun ⟨g, e, h1, h2⟩ => ⟨g, e, h1, h2.below hb⟩⟩
theorem filter_snoc {ss : List Smp} {t : Nat} (h : t < ss.length) : ((ss.take (t + 1)).filter mayB).length = ((ss.take t).filter mayB).length + (if mayB (rg ss t) = true then 1 else 0) := by
  rw [take_snoc h, List.filter_append, List.length_append]
  by_cases hm : mayB (rg ss t) = true
  · rw [if_pos hm, List.filter_cons_of_pos hm]; rfl
  · rw [if_neg hm, List.filter_cons_of_neg hm]; rfl
theorem take_50 {ss : List Smp} {t : Nat} (h : t ≤ ss.length) (h1 : t ≤ 50) (hlt : ¬ (t < ss.length ∧ t < 50)) : ss.take t = ss.take 50 := by
  rcases Nat.lt_or_ge t ss.length with h2 | h2
  · rw [show t = 50 by omega]
  · rw [List.take_of_length_le (by omega), List.take_of_length_le (by omega)]
def afterN (sa : List Smp × Nat) (sl : List Smp) (t : Nat) : List Smp × Nat := (sl.take t).foldl addN sa
theorem afterN_snoc (sa : List Smp × Nat) {sl : List Smp} {t : Nat} (h : t < sl.length) : afterN sa sl (t + 1) = addN (afterN sa sl t) (rg sl t) := by
  unfold afterN; rw [take_snoc h, List.foldl_append]; rfl
theorem afterN_le {sa : List Smp × Nat} (h : sa.2 ≤ 100) (sl : List Smp) (t : Nat) : (afterN sa sl t).2 ≤ 100 + t := by
  have h1 := foldN_le (sl.take t) sa
  rw [List.length_take] at h1
  unfold afterN; omega
set_option maxHeartbeats 1500000 in
theorem walk_FilterForgets (A1 : Option Addr) (n1 c1 : Nat) (sa : List Smp) (A2 : Option Addr) (n2 c2 : Nat) (sb : List Smp) (A3 : Option Addr) (n3 c3 : Nat) (sl : List Smp) (now : Int) (w : World) (h1 : RdS w A1 n1 c1 sa) (h2 : RdS w A2 n2 c2 sb) (h3 : RdS w A3 n3 c3 sl) :
    Calls Try.prog 5 #[.slice A1 n1 c1, .slice A2 n2 c2, .slice A3 n3 c3, .int .i64 now] w fun e w' => e = .returned (.bool true) ∧ Below w.heap.size w w' := by
  have hl := h3.1
  have hmx := h3.2.2.1
  have hAl := fun w => falive_any w
  have H1 := Lib.hid h1
  have H2 := Lib.hid h2
  have H3 := Lib.hid h3
  clear h1 h2 h3
  go_enter Try.func5, Try.ntmps5
  go_wp2_with fail
  go_loopw [9, 10] (fun u i wr => ∃ (t : Nat), t ≤ n3 ∧ t ≤ 50 ∧ i = .int .i64 (t : Int) ∧ u = .int .i64 ((((sl.take t).filter mayB).length : Nat) : Int) ∧ Below w.heap.size w wr) (fun _ i _ => 100 - (intOf i).toNat)
  case atStart => exact ⟨0, Nat.zero_le _, Nat.zero_le _, rfl, rfl, Below.refl _ _⟩
  case round =>
    obtain ⟨t, ht, ht5, rfl, rfl, hbel⟩ := hrel
    by_cases hlt : t < n3 ∧ t < 50
    · obtain ⟨l1, l2⟩ := hlt
      have a1 : (t : Int) < (n3 : Int) := by omega
      have a2 : (t : Int) < 50 := by omega
      have a0 : (0 : Int) ≤ (t : Int) := by omega
      have i1 : IntKind.i64.wrap ((t : Int) + 1) = (t : Int) + 1 := IntWalk.i64_in _ (by omega)
      obtain ⟨ad, rfl, hab, C0, C1, C2, C3⟩ := (H3.out.below hbel).cells4 l1
      have HC := Lib.hid (filter_snoc (ss := sl) (t := t) (by omega))
      have hcl : ((sl.take t).filter mayB).length ≤ t := by
        have := List.length_filter_le mayB (sl.take t)
        rw [List.length_take] at this; omega
      obtain ⟨q, hq⟩ : ∃ q, ((sl.take t).filter mayB).length = q := ⟨_, rfl⟩
      rw [hq] at HC hcl ⊢
      have i2 : IntKind.i64.wrap ((q : Int) + 1) = (q : Int) + 1 := IntWalk.i64_in _ (by omega)
      have c0 := C0 _ (Below.refl _ _)
      have c1 := C1 _ (Below.refl _ _)
      have c2 := C2 _ (Below.refl _ _)
      have c3 := C3 _ (Below.refl _ _)
      have HB := Lib.hid hbel
      have hM := fun w => rmay_any w (rg sl t)
      generalize rg sl t = s at c0 c1 c2 c3 HC hM
      obtain ⟨xo, xd, xp, xa⟩ := s
      unfold sv at hM
      clear C0 C1 C2 C3 hbel hq
      cases hm : mayB ⟨xo, xd, xp, xa⟩
      · rw [hm] at hM HC
        clear hm
        go_wp2_with (go_at_call 14; refine (hM _).mono ?_; rintro e w2 ⟨rfl, hb2⟩)
        go_roundw
        case rel => exact ⟨t + 1, by omega, by omega, by go_num, congrArg (Value.int .i64) (by rw [HC.out]; simp), HB.out.trans (hb2.mono HB.out.size)⟩
        case measure => simp [intOf]; omega
      · rw [hm] at hM HC
        clear hm
        go_wp2_with (go_at_call 14; refine (hM _).mono ?_; rintro e w2 ⟨rfl, hb2⟩)
        go_roundw
        case rel => exact ⟨t + 1, by omega, by omega, by go_num, congrArg (Value.int .i64) (by rw [HC.out]; simp), HB.out.trans (hb2.mono HB.out.size)⟩
        case measure => simp [intOf]; omega
    · rw [take_50 (by omega) ht5 (by omega)]
      obtain ⟨q, hq⟩ : ∃ q, ((sl.take 50).filter mayB).length = q := ⟨_, rfl⟩
      have HQ := Lib.hid hq
      rw [hq]
      have HB := Lib.hid hbel
      clear hbel hq
      have hend : ∀ (Q : Exit → Act → World → Prop), True := fun _ => trivial
      clear hend
      by_cases hq8 : q < 8
      · have a5 : (q : Int) < 8 := by omega
        rcases (show (t < n3 ∧ t = 50) ∨ t = n3 by omega) with ⟨l1, l2⟩ | l1
        · have a1 : (t : Int) < (n3 : Int) := by omega
          have a2 : ¬ (t : Int) < 50 := by omega
          clear l2
          go_wp2_with (go_at_call 12; refine (hAl _).mono ?_; rintro e w4 ⟨rfl, hb4⟩)
          go_ret
          exact ⟨rfl, HB.out.trans (hb4.mono HB.out.size)⟩
        · have a1 : ¬ (t : Int) < (n3 : Int) := by omega
          clear l1
          go_wp2_with (go_at_call 12; refine (hAl _).mono ?_; rintro e w4 ⟨rfl, hb4⟩)
          go_ret
          exact ⟨rfl, HB.out.trans (hb4.mono HB.out.size)⟩
      · have a5 : ¬ (q : Int) < 8 := by omega
        have hF1 := filled_any wr (H1.out.below HB.out)
        have hF2 := fun w' (h : Below wr.heap.size wr w') => filled_any w' (H2.out.below (HB.out.trans (h.mono HB.out.size)))
        have HI1 := Lib.hid (And.intro (INV.fill (sa.take 100)) (show (fillN (sa.take 100)).2 ≤ 100 by have := fillN_le (sa.take 100); rw [List.length_take] at this; omega))
        have HI2 := Lib.hid (And.intro (INV.fill (sb.take 100)) (show (fillN (sb.take 100)).2 ≤ 100 by have := fillN_le (sb.take 100); rw [List.length_take] at this; omega))
        unfold FIL at hF1
        unfold FIL at hF2
        generalize fillN (sa.take 100) = Sa at hF1 HI1
        generalize fillN (sb.take 100) = Sb at hF2 HI2
        have HTT := Lib.hid (show (t < n3 ∧ t = 50) ∨ t = n3 by omega)
        rcases HTT.out with ⟨l1, l2⟩ | l1
        · have a1 : (t : Int) < (n3 : Int) := by omega
          have a2 : ¬ (t : Int) < 50 := by omega
          clear l2
          go_upto_region 10 with (first
            | (have hmk := hb2; clear hmk; go_at_call 8; refine (hF2 _ hb2).mono ?_; rintro e w3 ⟨g2, rfl, hg2, hf2, hb3⟩)
            | (go_at_call 8; refine hF1.mono ?_; rintro e w2 ⟨g1, rfl, hg1, hf1, hb2⟩))
          have hzr := HB.out.size
          have hz2 := hb2.size
          have hz3 := hb3.size
          have hne : g2 ≠ g1 := by have := hf1.1.lt; omega
          have hB1 : w.heap.size ≤ g1 := by omega
          have hB2 : w.heap.size ≤ g2 := by omega
          have HB3 := Lib.hid ((HB.out.trans (hb2.mono hzr)).trans (hb3.mono (by omega)))
          have hf1' := hf1.below hb3
          clear hF1 hF2 hb2 hb3 hf1
          go_wp2_with fail
          clear a1
          go_loopw [13] (fun i wr => ∃ (t : Nat), t ≤ n3 ∧ t ≤ 50 ∧ i = .int .i64 (t : Int) ∧ FB wr g1 (afterN Sa sl t).1 (afterN Sa sl t).2 ∧ FB wr g2 (afterN Sb sl t).1 (afterN Sb sl t).2 ∧ Below w.heap.size w wr) (fun i _ => 100 - (intOf i).toNat)
          case atStart => exact ⟨0, Nat.zero_le _, Nat.zero_le _, rfl, by simpa [afterN] using hf1', by simpa [afterN] using hf2, HB3.out⟩
          case round =>
            obtain ⟨t, ht, ht5, rfl, hf1, hf2, hbel⟩ := hrel
            have hk1 := afterN_le HI1.out.2 sl t
            have hk2 := afterN_le HI2.out.2 sl t
            by_cases hlt : t < n3 ∧ t < 50
            · obtain ⟨l1, l2⟩ := hlt
              have a1 : (t : Int) < (n3 : Int) := by omega
              have a2 : (t : Int) < 50 := by omega
              have a0 : (0 : Int) ≤ (t : Int) := by omega
              have i1 : IntKind.i64.wrap ((t : Int) + 1) = (t : Int) + 1 := IntWalk.i64_in _ (by omega)
              have hR := H3.out.below hbel
              obtain ⟨ad, hA3, hab, C0, C1, C2, C3⟩ := hR.cells4 l1
              subst hA3
              have HS1 := Lib.hid (afterN_snoc Sa (sl := sl) (t := t) (by omega))
              have HS2 := Lib.hid (afterN_snoc Sb (sl := sl) (t := t) (by omega))
              have hA1 := add_far wr (B := w.heap.size) (rg sl t) hf1 hB1 (by omega)
              have hA2 := fun w' (h : FB w' g2 (afterN Sb sl t).1 (afterN Sb sl t).2) => add_far w' (B := w.heap.size) (rg sl t) h hB2 (by omega)
              have HE1 := Lib.hid (show addN (afterN Sa sl t) (rg sl t) = (if mayB (rg sl t) = true then (afterN Sa sl t).1.set ((afterN Sa sl t).2 % 8) (rg sl t) else (afterN Sa sl t).1, if mayB (rg sl t) = true then (afterN Sa sl t).2 + 1 else (afterN Sa sl t).2) from rfl)
              have HE2 := Lib.hid (show addN (afterN Sb sl t) (rg sl t) = (if mayB (rg sl t) = true then (afterN Sb sl t).1.set ((afterN Sb sl t).2 % 8) (rg sl t) else (afterN Sb sl t).1, if mayB (rg sl t) = true then (afterN Sb sl t).2 + 1 else (afterN Sb sl t).2) from rfl)
              have hsa : sv (rg sl t) = .agg #[.int .i64 (rg sl t).o, .int .i64 (rg sl t).d, .int .i64 (rg sl t).p, .int .i64 (rg sl t).a] := rfl
              rw [hsa] at hA1 hA2
              have HB := Lib.hid hbel
              have HF2 := Lib.hid hf2
              have HA2 := Lib.hid hA2
              have c0 := C0 _ (Below.refl _ _)
              have c1 := C1 _ (Below.refl _ _)
              have c2 := C2 _ (Below.refl _ _)
              have c3 := C3 _ (Below.refl _ _)
              clear hsa hf1 hf2 hbel hR C0 C1 C2 C3 hA2 hk1 hk2 hf1' 
              go_upto_region 14 with (go_at_call 15; refine hA1.mono ?_; rintro e w4 ⟨rfl, hf4, hb4, hs4, hfar4⟩)
              have hf24 : FB w4 g2 (afterN Sb sl t).1 (afterN Sb sl t).2 := ⟨hfar4 _ _ _ HF2.out.1 hne, HF2.out.2⟩
              have HB4 := Lib.hid (HB.out.trans hb4)
              obtain ⟨ad', hA3', _, C0, C1, C2, C3⟩ := (H3.out.below HB4.out).cells4 l1
              simp only [Option.some.injEq] at hA3'
              subst hA3'
              replace c0 := C0 _ (Below.refl _ _)
              replace c1 := C1 _ (Below.refl _ _)
              replace c2 := C2 _ (Below.refl _ _)
              replace c3 := C3 _ (Below.refl _ _)
              have hA4 := HA2.out w4 hf24
              have HF4 := Lib.hid hf4
              clear C0 C1 C2 C3 hA1 hf4 hb4 hfar4 hf24
              go_wp2_with (go_at_call 15; refine hA4.mono ?_; rintro e w5 ⟨rfl, hf5, hb5, hs5, hfar5⟩)
              have hf15 : FB w5 g1 _ _ := ⟨hfar5 _ _ _ HF4.out.1 (Ne.symm hne), HF4.out.2⟩
              have HW := Lib.hid (And.intro hf15 (And.intro hf5 (HB4.out.trans hb5)))
              clear hA4 hf5 hb5 hfar5 hf15 c0 c1 c2 c3
              go_roundw
              case rel => exact ⟨t + 1, by omega, by omega, by go_num, by rw [HS1.out, HE1.out]; exact HW.out.1, by rw [HS2.out, HE2.out]; exact HW.out.2.1, HW.out.2.2⟩
              case measure => simp [intOf]; omega
            · have e50 : sl.take t = sl.take 50 := take_50 (by omega) ht5 (by omega)
              have hfg := forget (sl.take 50) Sa Sb HI1.out.1.1 HI2.out.1.1 (by rw [HQ.out]; omega)
              have hi1 := INV.fold (sl.take 50) _ _ HI1.out.1
              unfold afterN at hf1 hf2 hk1 hk2
              rw [e50] at hf1 hf2 hk1 hk2
              generalize (sl.take 50).foldl addN Sa = S1 at hf1 hfg hi1 hk1
              generalize (sl.take 50).foldl addN Sb = S2 at hf2 hfg hk2
              obtain ⟨f1, f2, f3⟩ := hfg
              have hre : rowN S2.1 S2.2 now = rowN S1.1 S1.2 now := by unfold rowN; rw [f1, f2, f3]
              have hmr := fun x hx => (row_mem hi1 now x hx).2
              have hrl := rowN_len S1.1 S1.2 now
              rw [f2] at hrl
              have hR1 := fun w' (h : Below wr.heap.size wr w') => row_any w' now (hf1.below h) (by omega)
              have hR2 := fun w' (h : Below wr.heap.size wr w') => row_any w' now (hf2.below h) (by omega)
              have hL1 := fun w' (h : Below wr.heap.size wr w') => len_any w' (hf1.below h) (by omega)
              rw [hre] at hR2
              rw [f2] at hL1
              generalize rowN S1.1 S1.2 now = rs at hR1 hR2 hmr hrl
              have hmj : ∀ j, j < rs.length → mayB (rg rs j) = true := fun j hj => hmr _ (rg_mem hj)
              have hJ1 := fun w' h => jit_gen w' _ now rs hmj (by omega) (hR1 w' h)
              have hJ2 := fun w' h => jit_gen w' _ now rs hmj (by omega) (hR2 w' h)
              have hD1 := fun w' h => disp_gen w' _ now rs hmj (by omega) (hR1 w' h)
              have hD2 := fun w' h => disp_gen w' _ now rs hmj (by omega) (hR2 w' h)
              generalize dispN rs now = dv at hD1 hD2
              generalize jitN rs = jv at hJ1 hJ2
              unfold ROW at hR1 hR2
              rw [hrl] at hR1 hR2
              have HB := Lib.hid hbel
              have HA := Lib.hid (Below.refl wr.heap.size wr)
              clear hbel hf1 hf2 hf1' hmj hmr hi1 hre f1 f2 f3 e50 hk1 hk2 HI1 HI2
              rcases (show (t < n3 ∧ t = 50) ∨ t = n3 by omega) with ⟨l1, l2⟩ | l1
              · have a1 : (t : Int) < (n3 : Int) := by omega
                have a2 : ¬ (t : Int) < 50 := by omega
                clear l2 hlt
                go_wp2_with (first
                  | (go_at_call 12; refine (hAl _).mono ?_; rintro e wn ⟨rfl, hbn⟩; replace HA := Lib.hid (HA.out.trans (hbn.mono HA.out.size)))
                  | (have _ := hrs7; go_at_call 9; refine (hR2 _ HA.out).mono ?_; rintro e w8 ⟨A8, c8, rfl, hrs8, hbn⟩; replace HA := Lib.hid (HA.out.trans (hbn.mono HA.out.size)); have hS := same_any w8 (c := c7) (c2 := c8) (hrs7.1.below hbn) hrs8.1 (by omega))
                  | (go_at_call 9; refine (hR1 _ HA.out).mono ?_; rintro e w7 ⟨A7, c7, rfl, hrs7, hbn⟩; replace HA := Lib.hid (HA.out.trans (hbn.mono HA.out.size)))
                  | (go_at_call 16; refine hS.mono ?_; rintro e wn ⟨rfl, hbn⟩; replace HA := Lib.hid (HA.out.trans (hbn.mono HA.out.size)))
                  | (have _ := mkj; go_at_call 17; refine (hJ2 _ HA.out).mono ?_; rintro e wn ⟨rfl, hbn⟩; replace HA := Lib.hid (HA.out.trans (hbn.mono HA.out.size)))
                  | (go_at_call 17; refine (hJ1 _ HA.out).mono ?_; rintro e wn ⟨rfl, hbn⟩; replace HA := Lib.hid (HA.out.trans (hbn.mono HA.out.size)); have mkj : True := trivial)
                  | (have _ := mkd; go_at_call 18; refine (hD2 _ HA.out).mono ?_; rintro e wn ⟨rfl, hbn⟩; replace HA := Lib.hid (HA.out.trans (hbn.mono HA.out.size)))
                  | (go_at_call 18; refine (hD1 _ HA.out).mono ?_; rintro e wn ⟨rfl, hbn⟩; replace HA := Lib.hid (HA.out.trans (hbn.mono HA.out.size)); have mkd : True := trivial)
                  | (go_at_call 13; refine (hL1 _ HA.out).mono ?_; rintro e w9 ⟨rfl, rfl⟩))
                go_ret
                exact ⟨rfl, HB.out.trans (HA.out.mono HB.out.size)⟩
              · have a1 : ¬ (t : Int) < (n3 : Int) := by omega
                clear l1 hlt
                go_wp2_with (first
                  | (go_at_call 12; refine (hAl _).mono ?_; rintro e wn ⟨rfl, hbn⟩; replace HA := Lib.hid (HA.out.trans (hbn.mono HA.out.size)))
                  | (have _ := hrs7; go_at_call 9; refine (hR2 _ HA.out).mono ?_; rintro e w8 ⟨A8, c8, rfl, hrs8, hbn⟩; replace HA := Lib.hid (HA.out.trans (hbn.mono HA.out.size)); have hS := same_any w8 (c := c7) (c2 := c8) (hrs7.1.below hbn) hrs8.1 (by omega))
                  | (go_at_call 9; refine (hR1 _ HA.out).mono ?_; rintro e w7 ⟨A7, c7, rfl, hrs7, hbn⟩; replace HA := Lib.hid (HA.out.trans (hbn.mono HA.out.size)))
                  | (go_at_call 16; refine hS.mono ?_; rintro e wn ⟨rfl, hbn⟩; replace HA := Lib.hid (HA.out.trans (hbn.mono HA.out.size)))
                  | (have _ := mkj; go_at_call 17; refine (hJ2 _ HA.out).mono ?_; rintro e wn ⟨rfl, hbn⟩; replace HA := Lib.hid (HA.out.trans (hbn.mono HA.out.size)))
                  | (go_at_call 17; refine (hJ1 _ HA.out).mono ?_; rintro e wn ⟨rfl, hbn⟩; replace HA := Lib.hid (HA.out.trans (hbn.mono HA.out.size)); have mkj : True := trivial)
                  | (have _ := mkd; go_at_call 18; refine (hD2 _ HA.out).mono ?_; rintro e wn ⟨rfl, hbn⟩; replace HA := Lib.hid (HA.out.trans (hbn.mono HA.out.size)))
                  | (go_at_call 18; refine (hD1 _ HA.out).mono ?_; rintro e wn ⟨rfl, hbn⟩; replace HA := Lib.hid (HA.out.trans (hbn.mono HA.out.size)); have mkd : True := trivial)
                  | (go_at_call 13; refine (hL1 _ HA.out).mono ?_; rintro e w9 ⟨rfl, rfl⟩))
                go_ret
                exact ⟨rfl, HB.out.trans (HA.out.mono HB.out.size)⟩
        · have a1 : ¬ (t : Int) < (n3 : Int) := by omega
          clear l1
          go_upto_region 10 with (first
            | (have hmk := hb2; clear hmk; go_at_call 8; refine (hF2 _ hb2).mono ?_; rintro e w3 ⟨g2, rfl, hg2, hf2, hb3⟩)
            | (go_at_call 8; refine hF1.mono ?_; rintro e w2 ⟨g1, rfl, hg1, hf1, hb2⟩))
          have hzr := HB.out.size
          have hz2 := hb2.size
          have hz3 := hb3.size
          have hne : g2 ≠ g1 := by have := hf1.1.lt; omega
          have hB1 : w.heap.size ≤ g1 := by omega
          have hB2 : w.heap.size ≤ g2 := by omega
          have HB3 := Lib.hid ((HB.out.trans (hb2.mono hzr)).trans (hb3.mono (by omega)))
          have hf1' := hf1.below hb3
          clear hF1 hF2 hb2 hb3 hf1
          go_wp2_with fail
          clear a1
          go_loopw [13] (fun i wr => ∃ (t : Nat), t ≤ n3 ∧ t ≤ 50 ∧ i = .int .i64 (t : Int) ∧ FB wr g1 (afterN Sa sl t).1 (afterN Sa sl t).2 ∧ FB wr g2 (afterN Sb sl t).1 (afterN Sb sl t).2 ∧ Below w.heap.size w wr) (fun i _ => 100 - (intOf i).toNat)
          case atStart => exact ⟨0, Nat.zero_le _, Nat.zero_le _, rfl, by simpa [afterN] using hf1', by simpa [afterN] using hf2, HB3.out⟩
          case round =>
            obtain ⟨t, ht, ht5, rfl, hf1, hf2, hbel⟩ := hrel
            have hk1 := afterN_le HI1.out.2 sl t
            have hk2 := afterN_le HI2.out.2 sl t
            by_cases hlt : t < n3 ∧ t < 50
            · obtain ⟨l1, l2⟩ := hlt
              have a1 : (t : Int) < (n3 : Int) := by omega
              have a2 : (t : Int) < 50 := by omega
              have a0 : (0 : Int) ≤ (t : Int) := by omega
              have i1 : IntKind.i64.wrap ((t : Int) + 1) = (t : Int) + 1 := IntWalk.i64_in _ (by omega)
              have hR := H3.out.below hbel
              obtain ⟨ad, hA3, hab, C0, C1, C2, C3⟩ := hR.cells4 l1
              subst hA3
              have HS1 := Lib.hid (afterN_snoc Sa (sl := sl) (t := t) (by omega))
              have HS2 := Lib.hid (afterN_snoc Sb (sl := sl) (t := t) (by omega))
              have hA1 := add_far wr (B := w.heap.size) (rg sl t) hf1 hB1 (by omega)
              have hA2 := fun w' (h : FB w' g2 (afterN Sb sl t).1 (afterN Sb sl t).2) => add_far w' (B := w.heap.size) (rg sl t) h hB2 (by omega)
              have HE1 := Lib.hid (show addN (afterN Sa sl t) (rg sl t) = (if mayB (rg sl t) = true then (afterN Sa sl t).1.set ((afterN Sa sl t).2 % 8) (rg sl t) else (afterN Sa sl t).1, if mayB (rg sl t) = true then (afterN Sa sl t).2 + 1 else (afterN Sa sl t).2) from rfl)
              have HE2 := Lib.hid (show addN (afterN Sb sl t) (rg sl t) = (if mayB (rg sl t) = true then (afterN Sb sl t).1.set ((afterN Sb sl t).2 % 8) (rg sl t) else (afterN Sb sl t).1, if mayB (rg sl t) = true then (afterN Sb sl t).2 + 1 else (afterN Sb sl t).2) from rfl)
              have hsa : sv (rg sl t) = .agg #[.int .i64 (rg sl t).o, .int .i64 (rg sl t).d, .int .i64 (rg sl t).p, .int .i64 (rg sl t).a] := rfl
              rw [hsa] at hA1 hA2
              have HB := Lib.hid hbel
              have HF2 := Lib.hid hf2
              have HA2 := Lib.hid hA2
              have c0 := C0 _ (Below.refl _ _)
              have c1 := C1 _ (Below.refl _ _)
              have c2 := C2 _ (Below.refl _ _)
              have c3 := C3 _ (Below.refl _ _)
              clear hsa hf1 hf2 hbel hR C0 C1 C2 C3 hA2 hk1 hk2 hf1' 
              go_upto_region 14 with (go_at_call 15; refine hA1.mono ?_; rintro e w4 ⟨rfl, hf4, hb4, hs4, hfar4⟩)
              have hf24 : FB w4 g2 (afterN Sb sl t).1 (afterN Sb sl t).2 := ⟨hfar4 _ _ _ HF2.out.1 hne, HF2.out.2⟩
              have HB4 := Lib.hid (HB.out.trans hb4)
              obtain ⟨ad', hA3', _, C0, C1, C2, C3⟩ := (H3.out.below HB4.out).cells4 l1
              simp only [Option.some.injEq] at hA3'
              subst hA3'
              replace c0 := C0 _ (Below.refl _ _)
              replace c1 := C1 _ (Below.refl _ _)
              replace c2 := C2 _ (Below.refl _ _)
              replace c3 := C3 _ (Below.refl _ _)
              have hA4 := HA2.out w4 hf24
              have HF4 := Lib.hid hf4
              clear C0 C1 C2 C3 hA1 hf4 hb4 hfar4 hf24
              go_wp2_with (go_at_call 15; refine hA4.mono ?_; rintro e w5 ⟨rfl, hf5, hb5, hs5, hfar5⟩)
              have hf15 : FB w5 g1 _ _ := ⟨hfar5 _ _ _ HF4.out.1 (Ne.symm hne), HF4.out.2⟩
              have HW := Lib.hid (And.intro hf15 (And.intro hf5 (HB4.out.trans hb5)))
              clear hA4 hf5 hb5 hfar5 hf15 c0 c1 c2 c3
              go_roundw
              case rel => exact ⟨t + 1, by omega, by omega, by go_num, by rw [HS1.out, HE1.out]; exact HW.out.1, by rw [HS2.out, HE2.out]; exact HW.out.2.1, HW.out.2.2⟩
              case measure => simp [intOf]; omega
            · have e50 : sl.take t = sl.take 50 := take_50 (by omega) ht5 (by omega)
              have hfg := forget (sl.take 50) Sa Sb HI1.out.1.1 HI2.out.1.1 (by rw [HQ.out]; omega)
              have hi1 := INV.fold (sl.take 50) _ _ HI1.out.1
              unfold afterN at hf1 hf2 hk1 hk2
              rw [e50] at hf1 hf2 hk1 hk2
              generalize (sl.take 50).foldl addN Sa = S1 at hf1 hfg hi1 hk1
              generalize (sl.take 50).foldl addN Sb = S2 at hf2 hfg hk2
              obtain ⟨f1, f2, f3⟩ := hfg
              have hre : rowN S2.1 S2.2 now = rowN S1.1 S1.2 now := by unfold rowN; rw [f1, f2, f3]
              have hmr := fun x hx => (row_mem hi1 now x hx).2
              have hrl := rowN_len S1.1 S1.2 now
              rw [f2] at hrl
              have hR1 := fun w' (h : Below wr.heap.size wr w') => row_any w' now (hf1.below h) (by omega)
              have hR2 := fun w' (h : Below wr.heap.size wr w') => row_any w' now (hf2.below h) (by omega)
              have hL1 := fun w' (h : Below wr.heap.size wr w') => len_any w' (hf1.below h) (by omega)
              rw [hre] at hR2
              rw [f2] at hL1
              generalize rowN S1.1 S1.2 now = rs at hR1 hR2 hmr hrl
              have hmj : ∀ j, j < rs.length → mayB (rg rs j) = true := fun j hj => hmr _ (rg_mem hj)
              have hJ1 := fun w' h => jit_gen w' _ now rs hmj (by omega) (hR1 w' h)
              have hJ2 := fun w' h => jit_gen w' _ now rs hmj (by omega) (hR2 w' h)
              have hD1 := fun w' h => disp_gen w' _ now rs hmj (by omega) (hR1 w' h)
              have hD2 := fun w' h => disp_gen w' _ now rs hmj (by omega) (hR2 w' h)
              generalize dispN rs now = dv at hD1 hD2
              generalize jitN rs = jv at hJ1 hJ2
              unfold ROW at hR1 hR2
              rw [hrl] at hR1 hR2
              have HB := Lib.hid hbel
              have HA := Lib.hid (Below.refl wr.heap.size wr)
              clear hbel hf1 hf2 hf1' hmj hmr hi1 hre f1 f2 f3 e50 hk1 hk2 HI1 HI2
              rcases (show (t < n3 ∧ t = 50) ∨ t = n3 by omega) with ⟨l1, l2⟩ | l1
              · have a1 : (t : Int) < (n3 : Int) := by omega
                have a2 : ¬ (t : Int) < 50 := by omega
                clear l2 hlt
                go_wp2_with (first
                  | (go_at_call 12; refine (hAl _).mono ?_; rintro e wn ⟨rfl, hbn⟩; replace HA := Lib.hid (HA.out.trans (hbn.mono HA.out.size)))
                  | (have _ := hrs7; go_at_call 9; refine (hR2 _ HA.out).mono ?_; rintro e w8 ⟨A8, c8, rfl, hrs8, hbn⟩; replace HA := Lib.hid (HA.out.trans (hbn.mono HA.out.size)); have hS := same_any w8 (c := c7) (c2 := c8) (hrs7.1.below hbn) hrs8.1 (by omega))
                  | (go_at_call 9; refine (hR1 _ HA.out).mono ?_; rintro e w7 ⟨A7, c7, rfl, hrs7, hbn⟩; replace HA := Lib.hid (HA.out.trans (hbn.mono HA.out.size)))
                  | (go_at_call 16; refine hS.mono ?_; rintro e wn ⟨rfl, hbn⟩; replace HA := Lib.hid (HA.out.trans (hbn.mono HA.out.size)))
                  | (have _ := mkj; go_at_call 17; refine (hJ2 _ HA.out).mono ?_; rintro e wn ⟨rfl, hbn⟩; replace HA := Lib.hid (HA.out.trans (hbn.mono HA.out.size)))
                  | (go_at_call 17; refine (hJ1 _ HA.out).mono ?_; rintro e wn ⟨rfl, hbn⟩; replace HA := Lib.hid (HA.out.trans (hbn.mono HA.out.size)); have mkj : True := trivial)
                  | (have _ := mkd; go_at_call 18; refine (hD2 _ HA.out).mono ?_; rintro e wn ⟨rfl, hbn⟩; replace HA := Lib.hid (HA.out.trans (hbn.mono HA.out.size)))
                  | (go_at_call 18; refine (hD1 _ HA.out).mono ?_; rintro e wn ⟨rfl, hbn⟩; replace HA := Lib.hid (HA.out.trans (hbn.mono HA.out.size)); have mkd : True := trivial)
                  | (go_at_call 13; refine (hL1 _ HA.out).mono ?_; rintro e w9 ⟨rfl, rfl⟩))
                go_ret
                exact ⟨rfl, HB.out.trans (HA.out.mono HB.out.size)⟩
              · have a1 : ¬ (t : Int) < (n3 : Int) := by omega
                clear l1 hlt
                go_wp2_with (first
                  | (go_at_call 12; refine (hAl _).mono ?_; rintro e wn ⟨rfl, hbn⟩; replace HA := Lib.hid (HA.out.trans (hbn.mono HA.out.size)))
                  | (have _ := hrs7; go_at_call 9; refine (hR2 _ HA.out).mono ?_; rintro e w8 ⟨A8, c8, rfl, hrs8, hbn⟩; replace HA := Lib.hid (HA.out.trans (hbn.mono HA.out.size)); have hS := same_any w8 (c := c7) (c2 := c8) (hrs7.1.below hbn) hrs8.1 (by omega))
                  | (go_at_call 9; refine (hR1 _ HA.out).mono ?_; rintro e w7 ⟨A7, c7, rfl, hrs7, hbn⟩; replace HA := Lib.hid (HA.out.trans (hbn.mono HA.out.size)))
                  | (go_at_call 16; refine hS.mono ?_; rintro e wn ⟨rfl, hbn⟩; replace HA := Lib.hid (HA.out.trans (hbn.mono HA.out.size)))
                  | (have _ := mkj; go_at_call 17; refine (hJ2 _ HA.out).mono ?_; rintro e wn ⟨rfl, hbn⟩; replace HA := Lib.hid (HA.out.trans (hbn.mono HA.out.size)))
                  | (go_at_call 17; refine (hJ1 _ HA.out).mono ?_; rintro e wn ⟨rfl, hbn⟩; replace HA := Lib.hid (HA.out.trans (hbn.mono HA.out.size)); have mkj : True := trivial)
                  | (have _ := mkd; go_at_call 18; refine (hD2 _ HA.out).mono ?_; rintro e wn ⟨rfl, hbn⟩; replace HA := Lib.hid (HA.out.trans (hbn.mono HA.out.size)))
                  | (go_at_call 18; refine (hD1 _ HA.out).mono ?_; rintro e wn ⟨rfl, hbn⟩; replace HA := Lib.hid (HA.out.trans (hbn.mono HA.out.size)); have mkd : True := trivial)
                  | (go_at_call 13; refine (hL1 _ HA.out).mono ?_; rintro e w9 ⟨rfl, rfl⟩))
                go_ret
                exact ⟨rfl, HB.out.trans (HA.out.mono HB.out.size)⟩
end Go.Proofs.Ytbiajjdjbnnggaa
