/- FilterLives: the walk. -/
import Derived.Test.YtbiajjdjbnnggaaGx
import Derived.Test.YtbiajjdjbnnggaaGi
import Derived.Test.YtbiajjdjbnnggaaGt
import Derived.Test.YtbiajjdjbnnggaaGd
import Derived.Test.YtbiajjdjbnnggaaGb
import Derived.RegionTactic
import Derived.ChangeAlike
import Derived.Deep.CutRange
namespace Go.Proofs.Ytbiajjdjbnnggaa
set_option linter.unusedSimpArgs false
set_option linter.unusedVariables false
set_option maxRecDepth 100000
open Go.RowKit Go.ChangeShapes Go.WideShapes Go.Deep
attribute [local go_sem] toldUpon_value toldUpon_skip toldUpon_enter neq_smp neqg_smp

theorem RS.bel {w w' : World} {b : Nat} {A : Option Addr} {n : Nat} {ss : List Smp} (h : RS w b A n ss) (hb : Below w.heap.size w w') : RS w' b A n ss :=
  ⟨h.1, h.2.imp id fun ⟨g, e, h1, h2⟩ => ⟨g, e, h1, h2.below hb⟩⟩
theorem RF.frame {w w' : World} {gx gf : Nat} {L : List Smp} (h : RF w gx L) (hlt : gf < gx) (hf : ∀ g' t' cs', Bk w g' t' cs' → g' ≠ gf → Bk w' g' t' cs') : RF w' gx L := by
  obtain ⟨A, c, h1, h2, h3⟩ := h
  exact ⟨A, c, hf _ _ _ h1 (by omega), h2, h3.imp id fun ⟨g, pre, rest, a1, a2, a3, a4, a5, a6⟩ => ⟨g, pre, rest, a1, a2, a3, a4, a5, hf _ _ _ a6 (by omega)⟩⟩
theorem RF.new (w : World) : RF (w.alloc (.cells #[.slice none 0 0] 45)) w.heap.size [] := ⟨none, 0, Bk.new w _ _, rfl, .inl ⟨rfl, rfl, rfl⟩⟩
/-- what the loop keeps -/
def LIV (ss : List Smp) (w0 w : World) (gx : Nat) (S : List Smp × Nat) (L : List Smp) (t : Nat) : Prop := FB w w0.heap.size S.1 S.2 ∧ RF w gx L ∧ Twin S L ∧ S.2 ≤ t ∧ INV S.1 S ∧ w0.heap.size < gx ∧ Below w0.heap.size w0 w
set_option maxHeartbeats 2000000 in
theorem walk_FilterLives (A : Option Addr) (n c : Nat) (ss : List Smp) (T : Option Addr) (tn tc : Nat) (ts : List Int) (reset : Int) (w : World) (h : RdS w A n c ss) (hT : RdV w T tn tc (ivs ts)) : Calls Try.prog 6 #[.slice A n c, .slice T tn tc, .int .i64 reset] w fun e w' => e = .returned (.bool true) ∧ Below w.heap.size w w' := by
  have hl := h.1
  have hmx := h.2.2.1
  have hAl := fun w => falive_any w
  have H1 := Lib.hid h
  have H2 := Lib.hid hT
  clear h hT
  go_enter Try.func6, Try.ntmps6
  go_upto_region 4 with (go_at_call 19; refine (new_any _).mono ?_; rintro e w1 ⟨rfl, hf1, hb1⟩)
  have hz1 := hb1.size
  have hlt1 := hf1.1.lt
  obtain ⟨w2, hw2⟩ : ∃ x, w1.alloc (.cells #[.slice none 0 0] 45) = x := ⟨_, rfl⟩
  have hn : Below w1.heap.size w1 w2 := by rw [← hw2]; exact (Below.refl _ _).alloc (Nat.le_refl _) _
  have hrf : RF w2 w1.heap.size [] := by rw [← hw2]; exact RF.new w1
  have HL := Lib.hid (show LIV ss w w2 w1.heap.size (R0, 0) [] 0 from ⟨hf1.below hn, hrf, Twin.start, Nat.le_refl _, ⟨rfl, fun j hj => absurd hj (by show ¬ j < min 0 8; omega)⟩, hlt1, hb1.trans (hn.mono hz1)⟩)
  rw [hw2]
  clear hw2 hn hrf hf1 hb1
  go_wp2_with fail
  go_loopw [8, 9] (fun x i wr => ∃ (t gx : Nat) (S : List Smp × Nat) (L : List Smp), t ≤ n ∧ t ≤ 24 ∧ i = .int .i64 (t : Int) ∧ x = .pointer (some ⟨gx, 0, none⟩) ∧ LIV ss w wr gx S L t) (fun _ i _ => 100 - (intOf i).toNat)
  case atStart => exact ⟨0, _, _, _, Nat.zero_le _, Nat.zero_le _, rfl, rfl, HL.out⟩
  case round =>
    obtain ⟨t, gx, S, L, ht, ht5, rfl, rfl, hliv⟩ := hrel
    clear HL
    have HL := Lib.hid hliv
    by_cases hlt : t < n ∧ t < 24
    · obtain ⟨l1, l2⟩ := hlt
      have a1 : (t : Int) < (n : Int) := by omega
      have a2 : (t : Int) < 24 := by omega
      have a0 : (0 : Int) ≤ (t : Int) := by omega
      have i1 : IntKind.i64.wrap ((t : Int) + 1) = (t : Int) + 1 := IntWalk.i64_in _ (by omega)
      clear hliv
      go_upto_if 32 with (fail)
      go_cut [8] from 28 to 37 (fun x wx => ∃ (gx : Nat) (S : List Smp × Nat) (L : List Smp), x = .pointer (some ⟨gx, 0, none⟩) ∧ LIV ss w wx gx S L t)
      case first =>
        by_cases hre : (t : Int) = reset
        · have r1 : ((t : Int) == reset) = true := by simpa using hre
          obtain ⟨hfb0, hrf0, htw0, hSt0, hinv0, hgx0, hbel0⟩ := HL.out
          have hRe := reset_any wr (B := w.heap.size) hfb0 (Nat.le_refl _)
          have HB0 := Lib.hid hbel0
          clear hre HL hfb0 hrf0 htw0 hSt0 hinv0 hgx0 hbel0
          go_wp2_with (go_at_call 20; refine hRe.mono ?_; rintro e w3 ⟨rfl, hf3, hb3, hs3⟩; clear hs3)
          go_meet
          case rel =>
            have hlt3 := hf3.1.lt
            have hb30 := HB0.out.trans hb3
            have hz3 := hb30.size
            have hn : Below w3.heap.size w3 (w3.alloc (.cells #[.slice none 0 0] 45)) := (Below.refl _ _).alloc (Nat.le_refl _) _
            exact ⟨w3.heap.size, (R0, 0), [], rfl, hf3.below hn, RF.new w3, Twin.start, Nat.zero_le _, ⟨rfl, fun j hj => absurd hj (by show ¬ j < min 0 8; omega)⟩, hlt3, hb30.trans (hn.mono hz3)⟩
        · have r1 : ((t : Int) == reset) = false := by simpa using hre
          go_wp2_with fail
          go_meet
          case rel => exact ⟨gx, S, L, rfl, HL.out⟩
      case rest =>
        clear HL
        obtain ⟨gx, S, L, rfl, hl4⟩ := hcut
        have HL := Lib.hid hl4
        clear hl4
        obtain ⟨wr, rfl⟩ : ∃ x, x = wc := ⟨_, rfl⟩
        go_upto_region 11 with (fail)
        obtain ⟨hfb, hrf, htw, hSt, hinv, hgx, hbel⟩ := HL.out
        obtain ⟨ad, hA3, hab, C0, C1, C2, C3⟩ := (H1.out.below hbel).cells4 l1
        subst hA3
        have hA : ∀ w', Below wr.heap.size wr w' → Calls Try.prog 15 #[.pointer (some ⟨w.heap.size, 0, none⟩), sv (rg ss t)] w' fun e w'' => e = .returned (.int .i64 (if mayB (rg ss t) = true then 0 else 1)) ∧ FB w'' w.heap.size (addN S (rg ss t)).1 (addN S (rg ss t)).2 ∧ Below w.heap.size w' w'' ∧ w'.heap.size ≤ w''.heap.size ∧ ∀ g' t' cs', Bk w' g' t' cs' → g' ≠ w.heap.size → Bk w'' g' t' cs' := fun w' h => add_far w' (B := w.heap.size) (rg ss t) (hfb.below h) (Nat.le_refl _) (by omega)
        have hX := fun w' (h : RF w' gx L) => radd_any w' (rg ss t) h (by have := htw.len; omega)
        have htw' := htw.add (rg ss t)
        have HLE := Lib.hid (show (addN S (rg ss t)).2 ≤ t + 1 by have := addN_le S (rg ss t); omega)
        have HRF := Lib.hid (show ∀ w', Below wr.heap.size wr w' → RF w' gx L from fun w' h => hrf.below h)
        have HCC := Lib.hid (show ∀ w', Below w.heap.size w w' → w'.cell? (ad.add (t * 4)) = some (.int .i64 (rg ss t).o) ∧ w'.cell? ⟨(ad.add (t * 4)).block, (ad.add (t * 4)).off + 1, none⟩ = some (.int .i64 (rg ss t).d) ∧ w'.cell? ⟨(ad.add (t * 4)).block, (ad.add (t * 4)).off + 2, none⟩ = some (.int .i64 (rg ss t).p) ∧ w'.cell? ⟨(ad.add (t * 4)).block, (ad.add (t * 4)).off + 3, none⟩ = some (.int .i64 (rg ss t).a) from fun w' hb => by
          obtain ⟨ad', e, _, C0, C1, C2, C3⟩ := (H1.out.below hb).cells4 l1
          simp only [Option.some.injEq] at e
          subst e
          exact ⟨C0 _ (Below.refl _ _), C1 _ (Below.refl _ _), C2 _ (Below.refl _ _), C3 _ (Below.refl _ _)⟩)
        obtain ⟨c0, c1, c2, c3⟩ := HCC.out _ hbel
        have HGX := Lib.hid hgx
        have HBEL := Lib.hid hbel
        have HINV := Lib.hid (show ∀ j, j < min (addN S (rg ss t)).2 8 → mayB (rg (addN S (rg ss t)).1 j) = true from fun j hj => ((hinv.add (rg ss t)).2 j hj).2)
        have hsv : sv (rg ss t) = .agg #[.int .i64 (rg ss t).o, .int .i64 (rg ss t).d, .int .i64 (rg ss t).p, .int .i64 (rg ss t).a] := rfl
        rw [hsv] at hA hX
        generalize rg ss t = s at hA hX htw' HLE HCC HINV c0 c1 c2 c3
        generalize (if mayB s = true then (0 : Int) else 1) = z at hA hX
        generalize (if mayB s = true then pushL L s else L) = L' at hX htw'
        generalize addN S s = S' at hA htw' HLE HINV
        have HTW := Lib.hid htw'
        have hlen := htw'.len
        have HX := Lib.hid hX
        have HAA := Lib.hid hA
        have hle := HLE.out
        clear hsv hfb hrf htw hinv hbel C0 C1 C2 C3 htw' hX hA
        go_cut [60] from 20 to 116 (fun b wx => b = .bool false ∧ FB wx w.heap.size S'.1 S'.2 ∧ RF wx gx L' ∧ Below w.heap.size w wx)
        case first =>
          go_region_with (first
            | (go_at_call 15; refine (HAA.out _ (by first | exact Below.refl _ _ | exact (Below.refl _ _).drew)).mono ?_; rintro e w4 ⟨rfl, hf4, hb4, hs4, hfar4⟩; have hx4 := RF.frame (HRF.out _ (by first | exact Below.refl _ _ | exact (Below.refl _ _).drew)) HGX.out hfar4; have hbl4 : Below w.heap.size w w4 := by { first | exact HBEL.out.trans hb4 | exact (HBEL.out.drew).trans hb4 }; obtain ⟨d0, d1, d2, d3⟩ := HCC.out w4 hbl4)
            | (go_at_call 21; refine (HX.out _ hx4).mono ?_; rintro e w5 ⟨rfl, hx5, hb5, hs5⟩; have hf5 : FB w5 w.heap.size S'.1 S'.2 := ⟨hf4.1.below hb5 HGX.out, hf4.2⟩; obtain ⟨A5, c5, k5, sl5⟩ := hx5; have cx := k5.cell 0; rw [hlen] at cx; have hl5 := len_any w5 hf5 (by omega))
            | (go_at_call 13; refine hl5.mono ?_; rintro e w6 ⟨rfl, rfl⟩))
          all_goals
            go_wp2_with fail
            go_meet
            case rel => exact ⟨rfl, hf5, ⟨A5, c5, k5, sl5⟩, hbl4.trans (hb5.mono (Nat.le_of_lt HGX.out))⟩
        case rest =>
          obtain ⟨rfl, hfc, hrc, hbc⟩ := hcut
          have HT0 := Lib.hid (H2.out.below hbc)
          clear c0 c1 c2 c3
          go_upto_if 64 with (fail)
          go_cut [10] from 61 to 68 (fun x wx => (∃ now : Int, x = .int .i64 now) ∧ wc = wx)
          case first =>
            by_cases htt : t < tn
            · have a3 : (t : Int) < (tn : Int) := by omega
              obtain ⟨ad2, hTe, hab2, hcell⟩ := HT0.out.form (by omega)
              subst hTe
              have cx : wc.cell? (ad2.add t) = some (.int .i64 (ts.getD t 0)) := hcell t _ (by
                have h1 : t < ts.length := by have := HT0.out.len; rw [ivs_len] at this; omega
                unfold ivs; rw [List.getElem?_map, List.getElem?_eq_getElem h1, List.getD_eq_getElem?_getD, List.getElem?_eq_getElem h1]; rfl)
              generalize ts.getD t 0 = now at cx
              clear hcell hab2 HT0
              go_wp2_with fail
              go_meet
              case rel => exact ⟨⟨_, rfl⟩, rfl⟩
            · have a3 : ¬ (t : Int) < (tn : Int) := by omega
              clear HT0
              go_wp2_with fail
              go_meet
              case rel => exact ⟨⟨_, rfl⟩, rfl⟩
          case rest =>
            obtain ⟨⟨now, rfl⟩, rfl⟩ := hcut
            clear HT0
            go_upto_region 16 with (fail)
            have hbt := HTW.out.best now
            have hro := HTW.out.row now
            have hI : INV S'.1 S' := ⟨HTW.out.1, fun j hj => ⟨rg_mem (by have := HTW.out.1; omega), HINV.out j hj⟩⟩
            have hmr := fun x hx => (row_mem hI now x hx).2
            have hrl := rowN_len S'.1 S'.2 now
            have HFC := Lib.hid hfc
            have HRC := Lib.hid hrc
            have HI := Lib.hid hI
            have HB := Lib.hid hbc
            have hB1 := best_any wc now hfc (by omega)
            have hB2 := fun w' (h : RF w' gx L') => rbest_any w' now h hlen (by omega)
            rw [← hbt, show (if min S'.2 8 = 0 then (4 : Int) else 0) = (if S'.2 = 0 then 4 else 0) by by_cases h : S'.2 = 0 <;> simp [h] <;> omega] at hB2
            have hR1 := fun w' (h : Below wc.heap.size wc w') => row_any w' now (hfc.below h) (by omega)
            have hR2 := fun w' (h : Below wc.heap.size wc w') => rrow_any w' now (hrc.below h) (by omega)
            rw [← hro] at hR2
            generalize bestN S'.1 S'.2 now = B at hB1 hB2
            generalize (if S'.2 = 0 then (4 : Int) else 0) = zz at hB1 hB2
            generalize rowN S'.1 S'.2 now = rs at hR1 hR2 hmr hrl
            have hmj : ∀ j, j < rs.length → mayB (rg rs j) = true := fun j hj => hmr _ (rg_mem hj)
            have hJ1 := fun w' h => jit_gen w' _ now rs hmj (by omega) (hR1 w' h)
            have hJ2 := fun w' h => rjit_gen w' _ now rs hmj (by omega) (hR2 w' h)
            have hD1 := fun w' h => disp_gen w' _ now rs hmj (by omega) (hR1 w' h)
            have hD2 := fun w' h => rdisp_gen w' _ now rs hmj (by omega) (hR2 w' h)
            generalize dispN rs now = dv at hD1 hD2
            generalize jitN rs = jv at hJ1 hJ2
            obtain ⟨rn, hrn⟩ : ∃ q, rs.length = q := ⟨_, rfl⟩
            unfold ROW at hR1 hR2
            unfold BES at hB1 hB2
            rw [hrn] at hR1 hR2 hrl
            have hr8 : rn ≤ 8 := by omega
            obtain ⟨xo, xd, xp, xa⟩ := B
            unfold sv at hB1 hB2
            have hsz := HB.out.size
            clear hbt hro hI hmr hmj hrn hrl hfc hrc hbc HX HAA HCC HRF
            go_upto_region 17 with (go_at_call 11; refine hB1.mono ?_; rintro e w3 ⟨rfl, hb3⟩)
            have k0 : Below wc.heap.size wc (w3.alloc (.cells #[.int .i64 xo, .int .i64 xd, .int .i64 xp, .int .i64 xa] 27)) := hb3.alloc hb3.size _
            obtain ⟨w5, hw5⟩ : ∃ x, w3.alloc (.cells #[.int .i64 xo, .int .i64 xd, .int .i64 xp, .int .i64 xa] 27) = x := ⟨_, rfl⟩
            have hk : Bk w5 w3.heap.size 27 #[.int .i64 xo, .int .i64 xd, .int .i64 xp, .int .i64 xa] := by rw [← hw5]; exact Bk.new w3 _ _
            rw [hw5] at k0 ⊢
            have hB25 := hB2 w5 (HRC.out.below k0)
            have HK0 := Lib.hid k0
            clear hw5 hb3 hB1 hB2 k0
            go_upto_region 18 with (go_at_call 22; refine hB25.mono ?_; rintro e w6 ⟨rfl, hb6⟩)
            have k1 : Below w5.heap.size w5 (w6.alloc (.cells #[.int .i64 xo, .int .i64 xd, .int .i64 xp, .int .i64 xa] 27)) := hb6.alloc hb6.size _
            obtain ⟨w7, hw7⟩ : ∃ x, w6.alloc (.cells #[.int .i64 xo, .int .i64 xd, .int .i64 xp, .int .i64 xa] 27) = x := ⟨_, rfl⟩
            have hk7 : Bk w7 w6.heap.size 27 #[.int .i64 xo, .int .i64 xd, .int .i64 xp, .int .i64 xa] := by rw [← hw7]; exact Bk.new w6 _ _
            rw [hw7] at k1 ⊢
            have hk5 := hk.below k1 hk.lt
            have c0 := hk5.cell 0; have c1 := hk5.cell 1; have c2 := hk5.cell 2; have c3 := hk5.cell 3
            have d0 := hk7.cell 0; have d1 := hk7.cell 1; have d2 := hk7.cell 2; have d3 := hk7.cell 3
            have k2 := HK0.out.trans (k1.mono HK0.out.size)
            have HA := Lib.hid k2
            clear hw7 hb6 hB25 k1 k2 hk hk5 hk7
            go_wp2_with (first
              | (have _ := hrs7; go_at_call 23; refine (hR2 _ HA.out).mono ?_; rintro e w8 ⟨A8, ca8, rfl, hrs8, hbn⟩; replace HA := Lib.hid (HA.out.trans (hbn.mono HA.out.size)); have hS := same_any w8 (c := ca7) (c2 := ca8) (hrs7.1.bel hbn) hrs8.1 (by omega))
              | (go_at_call 9; refine (hR1 _ HA.out).mono ?_; rintro e wn ⟨A7, ca7, rfl, hrs7, hbn⟩; replace HA := Lib.hid (HA.out.trans (hbn.mono HA.out.size)))
              | (go_at_call 16; refine hS.mono ?_; rintro e wn ⟨rfl, hbn⟩; replace HA := Lib.hid (HA.out.trans (hbn.mono HA.out.size)))
              | (go_at_call 17; refine (hJ1 _ HA.out).mono ?_; rintro e wn ⟨rfl, hbn⟩; replace HA := Lib.hid (HA.out.trans (hbn.mono HA.out.size)))
              | (go_at_call 24; refine (hJ2 _ HA.out).mono ?_; rintro e wn ⟨rfl, hbn⟩; replace HA := Lib.hid (HA.out.trans (hbn.mono HA.out.size)))
              | (go_at_call 18; refine (hD1 _ HA.out).mono ?_; rintro e wn ⟨rfl, hbn⟩; replace HA := Lib.hid (HA.out.trans (hbn.mono HA.out.size)))
              | (go_at_call 25; refine (hD2 _ HA.out).mono ?_; rintro e wn ⟨rfl, hbn⟩; replace HA := Lib.hid (HA.out.trans (hbn.mono HA.out.size))))
            go_roundw
            case rel => exact ⟨t + 1, gx, S', L', by omega, by omega, by go_num, rfl, HFC.out.below HA.out, HRC.out.below HA.out, HTW.out, HLE.out, HI.out, HGX.out, HB.out.trans (HA.out.mono HB.out.size)⟩
            case measure => simp [intOf]; omega
    · have HB := Lib.hid hliv.2.2.2.2.2.2
      clear hliv HL
      rcases (show (t < n ∧ t = 24) ∨ t = n by omega) with ⟨l1, l2⟩ | l1
      · have a1 : (t : Int) < (n : Int) := by omega
        have a2 : ¬ (t : Int) < 24 := by omega
        clear l2 hlt
        go_wp2_with (go_at_call 12; refine (hAl _).mono ?_; rintro e w4 ⟨rfl, hb4⟩)
        go_ret
        exact ⟨rfl, HB.out.trans (hb4.mono HB.out.size)⟩
      · have a1 : ¬ (t : Int) < (n : Int) := by omega
        clear l1 hlt
        go_wp2_with (go_at_call 12; refine (hAl _).mono ?_; rintro e w4 ⟨rfl, hb4⟩)
        go_ret
        exact ⟨rfl, HB.out.trans (hb4.mono HB.out.size)⟩
end Go.Proofs.Ytbiajjdjbnnggaa
