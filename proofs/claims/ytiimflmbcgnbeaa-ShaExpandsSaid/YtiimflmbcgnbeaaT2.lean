/- The document's digest: the walk. -/
import Derived.Test.YtiimflmbcgnbeaaT1
import Derived.Test.YtiimflmbcgnbeaaSd
import Derived.Test.YtiimflmbcgnbeaaSe
namespace Go.Proofs.Ytiimflmbcgnbeaa
set_option linter.unusedSimpArgs false
set_option linter.unusedVariables false
open Go.RowKit

theorem info_u32 : (Try.prog.info? 41).map (fun i => (i.zero, i.size, i.bytes)) = some (some (.int .u32 0), 1, 4) := by kernel_rfl
/-- a slot of a row -/
theorem Own.slot {w : World} {k : IntKind} {e : TypeId} {base g n c : Nat} {xs : List Nat} (h : Own k e w base (some ⟨g, 0, none⟩) n c xs) {j x : Nat} (hj : j < n) (hx : gd xs j = x) : w.cell? ⟨g, j, none⟩ = some (.int k (x : Int)) := by
  rw [h.cellAt hj, hx]
theorem set_same (l : List Nat) (j : Nat) : l.set j (gd l j) = l := by
  apply List.ext_getElem (by simp)
  intro i h1 h2
  rw [List.getElem_set]
  split
  · rename_i e; subst e; exact gd_lt h2
  · rfl
theorem shr_cast (x k : Nat) : ((x / 2 ^ k % 256 : Nat) : Int) = (x : Int) / 2 ^ k % 256 := by
  rw [Int.natCast_emod, Int.natCast_ediv, Int.natCast_pow]; rfl
set_option maxRecDepth 100000 in
set_option maxHeartbeats 20000000 in
theorem refSum_any (w : World) {b : List Nat} {B : Option Addr} {n d : Nat} (hb : Rd .u8 w B n d b) (b8 : B8 b) (hn : n < 1000000000000) :
    Calls Try.prog 21 #[.slice B n d] w fun e w' => e = .returned (.agg (va .u8 (shaN b))) ∧ Below w.heap.size w w' := by
  have hbl := hb.len
  have B8' := Lib.hid b8
  clear b8
  go_enter Try.func21, Try.ntmps21
  go_upto_region 1 with (fail)
  rw [show Obj.cells #[.int .u8 0, .int .u8 0, .int .u8 0, .int .u8 0, .int .u8 0, .int .u8 0, .int .u8 0, .int .u8 0, .int .u8 0, .int .u8 0, .int .u8 0, .int .u8 0, .int .u8 0, .int .u8 0, .int .u8 0, .int .u8 0, .int .u8 0, .int .u8 0, .int .u8 0, .int .u8 0, .int .u8 0, .int .u8 0, .int .u8 0, .int .u8 0, .int .u8 0, .int .u8 0, .int .u8 0, .int .u8 0, .int .u8 0, .int .u8 0, .int .u8 0, .int .u8 0] 26 = Obj.cells (va .u8 (List.replicate 32 0)) 26 from rfl]
  have ho := Bk.new w 26 (va .u8 (List.replicate 32 0))
  have hl1 := (Below.refl w.heap.size w).alloc (Nat.le_refl _) (.cells (va .u8 (List.replicate 32 0)) 26)
  have hs1 : (w.alloc (.cells (va .u8 (List.replicate 32 0)) 26)).heap.size = w.heap.size + 1 := by simp
  obtain ⟨g0, hg0⟩ : ∃ z, w.heap.size = z := ⟨_, rfl⟩
  generalize w.alloc (.cells (va .u8 (List.replicate 32 0)) 26) = w1 at ho hl1 hs1 ⊢
  rw [hg0] at ho hl1 hs1 ⊢
  have hb1 := hb.below (by rw [hg0]; exact hl1)
  go_upto_region 2 with (first
    | (go_at_call 50; refine (rconstants_any _).mono ?_; rintro e w2 ⟨A3, c3, rfl, ok, bk⟩)
    | (go_at_call 51; refine (rfirst_any _).mono ?_; rintro e w3 ⟨A4, c4, rfl, oh, bh⟩))
  have hb3 := (hb1.below bk).below bh
  have hsk := bk.size
  have hsh := bh.size
  obtain ⟨T, hT⟩ : ∃ z, b ++ padN n = z := ⟨_, rfl⟩
  obtain ⟨L, hL⟩ : ∃ z, T.length = z := ⟨_, rfl⟩
  have hpad := rpadded_any _ hb3 hn
  rw [hT, hL] at hpad
  go_upto_region 3 with (go_at_call 52; refine hpad.mono ?_; rintro e w4 ⟨A5, c5, rfl, ot, bt⟩)
  clear hpad
  have hst := bt.size
  obtain ⟨gk, rfl, hk1, hk2⟩ := ok.blk (by omega)
  obtain ⟨gh, rfl, hh1, hh2⟩ := oh.blk (by omega)
  have ok4 := (ok.below bh).below bt
  have oh4 := oh.below bt
  have ho4 : Bk w4 g0 26 (va .u8 (List.replicate 32 0)) := ((ho.below bk (by omega)).below bh (by omega)).below bt (by omega)
  have bel4 : Below g0 w w4 := ((hl1.trans (bk.mono (by omega))).trans (bh.mono (by omega))).trans (bt.mono (by omega))
  have hTm : T.length % 64 = 0 := by rw [← hT, ← hbl]; exact pad_full b
  have hTl : T.length < 2000000000000 := by rw [← hT, List.length_append, padN_length]; omega
  have T8 : B8 T := by rw [← hT]; exact B8'.out.append (padN_b8 _)
  rw [hL] at hTm hTl
  have HFIN := Lib.hid (show ∀ j, 64 * j = L → outN (foldB hN T j) = shaN b from fun j hj => by
    rw [← hT, ← hbl]; exact shaN_eq b j (by rw [hbl, hT, hL]; exact hj))
  have OT := Lib.hid ot.rd
  have OTB := Lib.hid (show ∀ ad, A5 = some ad → ad.block ≠ gh by
    intro ad e
    rcases ot.ways with ⟨h, _⟩ | ⟨g, h, h1, _⟩
    · rw [h] at e; cases e
    · rw [h] at e; cases e; show g ≠ gh; omega)
  have OK := Lib.hid ok4
  have OH := Lib.hid oh4
  have HO := Lib.hid ho4
  have BEL4 := Lib.hid bel4
  have hcap := ot.rd.cap
  have T8' := Lib.hid T8
  have hkh : gk ≠ gh := by omega
  have hg4 : g0 < gk ∧ gk < w4.heap.size ∧ g0 < gh ∧ gh < w4.heap.size ∧ g0 ≤ w4.heap.size := by omega
  clear ok oh ot ok4 oh4 ho ho4 bel4 hb1 hb3 hb bk bh bt hl1 T8 hT
  go_wp2_with fail
  go_loopw [6] (fun i wr => ∃ a j : Nat, a = 64 * j ∧ a ≤ L ∧ i = .int .i64 (a : Int) ∧ Own .u32 41 wr 0 (some ⟨gh, 0, none⟩) 8 c4 (foldB hN T j) ∧ w4.grownBy wr (some gh)) (fun i _ => L - (intOf i).toNat)
  case atStart => exact ⟨0, 0, rfl, by omega, rfl, OH.out.lower (Nat.zero_le _), grown_refl _ _⟩
  case round =>
    obtain ⟨a, j, haj, haL, rfl, hh, hgr⟩ := hrel
    have HH := Lib.hid hh
    have HG := Lib.hid hgr
    have HAJ := Lib.hid haj
    have hstep : a < L → a + 64 ≤ L := by omega
    have hends : ¬ a < L → a = L := by omega
    have hsr := hgr.size
    clear hh hgr haj
    by_cases hlt : a < L
    · have t1 : (a : Int) < (L : Int) := by omega
      have i1 : IntKind.i64.wrap ((a : Int) + 64) = (a : Int) + 64 := IntWalk.i64_in _ (by omega)
      have haL2 := hstep hlt
      have hrt := OT.out.grown HG.out OTB.out
      have hp := hrt.cut (lo := a) (hi := a + 64) (by omega) haL2
      have X := run_cut A5 L c5 a (a + 64) (by omega) haL2 hcap
      rw [show a + 64 - a = 64 by omega] at hp X
      rw [Int.natCast_add] at X
      have X' : ∀ W : World, (Instr.slice 22 (.slice A5 L c5) (some (.int .i64 (a : Int))) (some (.int .i64 ((a : Int) + 64))) none).run Try.prog W = .ok (.slice (cutA c5 a A5) 64 (c5 - a)) W := X
      clear X
      obtain ⟨p, hpp⟩ : ∃ z, (T.drop a).take 64 = z := ⟨_, rfl⟩
      rw [hpp] at hp
      have p8 : B8 p := by rw [← hpp]; exact (T8'.out.drop a).take 64
      have hsch := rschedule_any wr hp p8
      go_upto_region 7 with (go_at_call 53; refine hsch.mono ?_; rintro e w7 ⟨A7, c7, rfl, ow, bw⟩)
      clear hsch hrt
      obtain ⟨g7, rfl, h71, h72⟩ := ow.blk (by omega)
      obtain ⟨H, hH⟩ : ∃ z, foldB hN T j = z := ⟨_, rfl⟩
      have hh7 := HH.out.below bw
      rw [hH] at hh7
      have lH : H.length = 8 := by rw [← hH]; exact foldB_length hN_length T j
      have bH : B32 H := by rw [← hH]; exact foldB_b32 hN_b32 T j
      have hg7 : w4.grownBy w7 (some gh) := grown_later HG.out (grown_of_below bw none) (fun k e => by cases e)
      obtain ⟨ws, hws⟩ : ∃ z, sched 48 (w16 p) = z := ⟨_, rfl⟩
      rw [hws] at ow
      have bws : B32 ws := by rw [← hws]; exact sched_b32 (w16_b32 p8) 48
      have lws : ws.length = 64 := by rw [← hws, sched_length, w16_length]
      obtain ⟨i0, hi0, hz0, hz1, hz2⟩ := info_parts info_u32
      go_upto_region 8 with (fail)
      go_wp2_with (at_builtin; refine wpList_append_rd _ rfl (.tmp 34) (.tmp 35) _ rfl .u32 w7.heap.size 41 i0 (.int .u32 0) 4 Try.underlying48 hi0 hz0 hz1 hz2 rfl none 0 0 [] rfl (Own.nil _ _ _ _) (some ⟨gh, 0, none⟩) 8 c4 H rfl hh7.rd (by unfold maxLen; omega) (by omega) (Nat.le_refl _) ?_)
      intro A8 c8 w8 ov bv _ _
      obtain ⟨gv, rfl, hv1, hv2⟩ := ov.blk (by omega)
      have OV := Lib.hid ((by simpa using ov : Own .u32 41 w8 w7.heap.size (some ⟨gv, 0, none⟩) 8 c8 H).lower (Nat.zero_le _))
      have hsv := bv.size
      have hh8 := hh7.below bv
      have ow8 := ow.below bv
      have hg8 : w4.grownBy w8 (some gh) := grown_later hg7 (grown_of_below bv none) (fun k e => by cases e)
      have ok8 := OK.out.grown hg8 (fun e => hkh (by cases e; rfl))
      have HH8 := Lib.hid hh8
      have OW8 := Lib.hid ow8
      have OK8 := Lib.hid ok8
      have HG8 := Lib.hid hg8
      have BH := Lib.hid bH
      have LH := Lib.hid lH
      have BWS := Lib.hid bws
      have LWS := Lib.hid lws
      have HWS := Lib.hid hws
      have HHH := Lib.hid hH
      have HPP := Lib.hid hpp
      have nv1 : gk ≠ gv := by omega
      have nv2 : g7 ≠ gv := by omega
      have nv3 : gh ≠ gv := by omega
      have hgv : gv < w8.heap.size := hv2
      have hgv4 : w4.heap.size ≤ gv := by omega
      have hw48 : w4.heap.size ≤ w8.heap.size := by omega
      clear ov ow hh7 hg7 hh8 ow8 hg8 ok8 bH lH bws lws hws hH hpp bv bw hp p8 hv1 hv2 h71 h72 hsv hi0 hz0 hz1 hz2 i0 X' HH
      go_wp2_with fail
      go_loopw [9] (fun i w2 => ∃ t : Nat, t ≤ 64 ∧ i = .int .i64 (t : Int) ∧ Own .u32 41 w2 0 (some ⟨gv, 0, none⟩) 8 c8 (rounds ws H t) ∧ w8.grownBy w2 (some gv)) (fun i _ => 64 - (intOf i).toNat)
      case atStart => exact ⟨0, by omega, rfl, OV.out, grown_refl _ _⟩
      case round =>
        obtain ⟨t, ht, rfl, hv, hgr⟩ := hrel
        have lv : (rounds ws H t).length = 8 := rounds_length LH.out t
        have vb : B32 (rounds ws H t) := rounds_b32 BH.out t
        obtain ⟨v, hvv⟩ : ∃ z, rounds ws H t = z := ⟨_, rfl⟩
        rw [hvv] at hv lv vb
        have HVV := Lib.hid hvv
        have HGR := Lib.hid hgr
        have HV := Lib.hid hv
        have LV := Lib.hid lv
        clear hvv
        by_cases hlt : t < 64
        ·
          -- <B>
          have a1 : (t : Int) < 64 := by omega
          have a0 : (0 : Int) ≤ (t : Int) := by omega
          obtain ⟨v0, ev0⟩ : ∃ z, gd v 0 = z := ⟨_, rfl⟩
          have lv0 : v0 < 4294967296 := by rw [← ev0]; exact vb.gd _
          have cv0 := hv.slot (j := 0) (by omega) ev0
          have Ev0 := Lib.hid ev0
          clear ev0
          obtain ⟨v1, ev1⟩ : ∃ z, gd v 1 = z := ⟨_, rfl⟩
          have lv1 : v1 < 4294967296 := by rw [← ev1]; exact vb.gd _
          have cv1 := hv.slot (j := 1) (by omega) ev1
          have Ev1 := Lib.hid ev1
          clear ev1
          obtain ⟨v2, ev2⟩ : ∃ z, gd v 2 = z := ⟨_, rfl⟩
          have lv2 : v2 < 4294967296 := by rw [← ev2]; exact vb.gd _
          have cv2 := hv.slot (j := 2) (by omega) ev2
          have Ev2 := Lib.hid ev2
          clear ev2
          obtain ⟨v3, ev3⟩ : ∃ z, gd v 3 = z := ⟨_, rfl⟩
          have lv3 : v3 < 4294967296 := by rw [← ev3]; exact vb.gd _
          have cv3 := hv.slot (j := 3) (by omega) ev3
          have Ev3 := Lib.hid ev3
          clear ev3
          obtain ⟨v4, ev4⟩ : ∃ z, gd v 4 = z := ⟨_, rfl⟩
          have lv4 : v4 < 4294967296 := by rw [← ev4]; exact vb.gd _
          have cv4 := hv.slot (j := 4) (by omega) ev4
          have Ev4 := Lib.hid ev4
          clear ev4
          obtain ⟨v5, ev5⟩ : ∃ z, gd v 5 = z := ⟨_, rfl⟩
          have lv5 : v5 < 4294967296 := by rw [← ev5]; exact vb.gd _
          have cv5 := hv.slot (j := 5) (by omega) ev5
          have Ev5 := Lib.hid ev5
          clear ev5
          obtain ⟨v6, ev6⟩ : ∃ z, gd v 6 = z := ⟨_, rfl⟩
          have lv6 : v6 < 4294967296 := by rw [← ev6]; exact vb.gd _
          have cv6 := hv.slot (j := 6) (by omega) ev6
          have Ev6 := Lib.hid ev6
          clear ev6
          obtain ⟨v7, ev7⟩ : ∃ z, gd v 7 = z := ⟨_, rfl⟩
          have lv7 : v7 < 4294967296 := by rw [← ev7]; exact vb.gd _
          have cv7 := hv.slot (j := 7) (by omega) ev7
          have Ev7 := Lib.hid ev7
          clear ev7
          obtain ⟨kt, ekt⟩ : ∃ z, gd kN t = z := ⟨_, rfl⟩
          have ck := (OK8.out.grown hgr (fun e => nv1 (by cases e; rfl))).slot (j := t) (by omega) ekt
          have lkt : kt < 4294967296 := by rw [← ekt]; exact kN_b32.gd t
          obtain ⟨wt, ewt⟩ : ∃ z, gd ws t = z := ⟨_, rfl⟩
          have cw := (OW8.out.grown hgr (fun e => nv2 (by cases e; rfl))).slot (j := t) (by omega) ewt
          have lwt : wt < 4294967296 := by rw [← ewt]; exact BWS.out.gd t
          obtain ⟨r6, er6⟩ : ∃ z, rot v4 6 = z := ⟨_, rfl⟩
          have lr6 : r6 < 4294967296 := by rw [← er6]; exact rot_lt lv4 6
          have Cr6 := Lib.hid (fun W => rturned_any W (n := 6) 6 rfl lv4 (by omega) (by omega) er6)
          have Er6 := Lib.hid er6
          clear er6
          obtain ⟨r11, er11⟩ : ∃ z, rot v4 11 = z := ⟨_, rfl⟩
          have lr11 : r11 < 4294967296 := by rw [← er11]; exact rot_lt lv4 11
          have Cr11 := Lib.hid (fun W => rturned_any W (n := 11) 11 rfl lv4 (by omega) (by omega) er11)
          have Er11 := Lib.hid er11
          clear er11
          obtain ⟨r25, er25⟩ : ∃ z, rot v4 25 = z := ⟨_, rfl⟩
          have lr25 : r25 < 4294967296 := by rw [← er25]; exact rot_lt lv4 25
          have Cr25 := Lib.hid (fun W => rturned_any W (n := 25) 25 rfl lv4 (by omega) (by omega) er25)
          have Er25 := Lib.hid er25
          clear er25
          obtain ⟨r2, er2⟩ : ∃ z, rot v0 2 = z := ⟨_, rfl⟩
          have lr2 : r2 < 4294967296 := by rw [← er2]; exact rot_lt lv0 2
          have Cr2 := Lib.hid (fun W => rturned_any W (n := 2) 2 rfl lv0 (by omega) (by omega) er2)
          have Er2 := Lib.hid er2
          clear er2
          obtain ⟨r13, er13⟩ : ∃ z, rot v0 13 = z := ⟨_, rfl⟩
          have lr13 : r13 < 4294967296 := by rw [← er13]; exact rot_lt lv0 13
          have Cr13 := Lib.hid (fun W => rturned_any W (n := 13) 13 rfl lv0 (by omega) (by omega) er13)
          have Er13 := Lib.hid er13
          clear er13
          obtain ⟨r22, er22⟩ : ∃ z, rot v0 22 = z := ⟨_, rfl⟩
          have lr22 : r22 < 4294967296 := by rw [← er22]; exact rot_lt lv0 22
          have Cr22 := Lib.hid (fun W => rturned_any W (n := 22) 22 rfl lv0 (by omega) (by omega) er22)
          have Er22 := Lib.hid er22
          clear er22
          obtain ⟨q1, eq1⟩ : ∃ z, r6 ^^^ r11 = z := ⟨_, rfl⟩
          have lq1 : q1 < 4294967296 := by rw [← eq1]; exact xor32 lr6 lr11
          have kq1 : Go.bits .xor .u32 (r6 : Int) (r11 : Int) = (q1 : Int) := by rw [← eq1]; exact u32_xor_nat _ _ lr6 lr11
          have Eq1 := Lib.hid eq1
          clear eq1
          obtain ⟨q2, eq2⟩ : ∃ z, q1 ^^^ r25 = z := ⟨_, rfl⟩
          have lq2 : q2 < 4294967296 := by rw [← eq2]; exact xor32 lq1 lr25
          have kq2 : Go.bits .xor .u32 (q1 : Int) (r25 : Int) = (q2 : Int) := by rw [← eq2]; exact u32_xor_nat _ _ lq1 lr25
          have Eq2 := Lib.hid eq2
          clear eq2
          obtain ⟨s1, es1⟩ : ∃ z, (v7 + q2) % 4294967296 = z := ⟨_, rfl⟩
          have ls1 : s1 < 4294967296 := by rw [← es1]; exact Nat.mod_lt _ (by omega)
          have ks1 : IntKind.u32.wrap ((v7 : Int) + (q2 : Int)) = (s1 : Int) := by rw [← es1]; exact add_u32 _ _
          have Es1 := Lib.hid es1
          clear es1
          obtain ⟨f1, ef1⟩ : ∃ z, v4 &&& v5 = z := ⟨_, rfl⟩
          have lf1 : f1 < 4294967296 := by rw [← ef1]; exact and32 lv4
          have kf1 : Go.bits .and .u32 (v4 : Int) (v5 : Int) = (f1 : Int) := by rw [← ef1]; exact u32_and_nat _ _ lv4 lv5
          have Ef1 := Lib.hid ef1
          clear ef1
          obtain ⟨ne, ene⟩ : ∃ z, 4294967295 - v4 = z := ⟨_, rfl⟩
          have lne : ne < 4294967296 := by rw [← ene]; exact Nat.lt_of_le_of_lt (Nat.sub_le _ _) (by omega)
          have kne := not_u32 lv4 ene
          obtain ⟨f2, ef2⟩ : ∃ z, ne &&& v6 = z := ⟨_, rfl⟩
          have lf2 : f2 < 4294967296 := by rw [← ef2]; exact and32 lne
          have kf2 : Go.bits .and .u32 (ne : Int) (v6 : Int) = (f2 : Int) := by rw [← ef2]; exact u32_and_nat _ _ lne lv6
          have Ef2 := Lib.hid ef2
          clear ef2
          obtain ⟨f3, ef3⟩ : ∃ z, f1 ^^^ f2 = z := ⟨_, rfl⟩
          have lf3 : f3 < 4294967296 := by rw [← ef3]; exact xor32 lf1 lf2
          have kf3 : Go.bits .xor .u32 (f1 : Int) (f2 : Int) = (f3 : Int) := by rw [← ef3]; exact u32_xor_nat _ _ lf1 lf2
          have Ef3 := Lib.hid ef3
          clear ef3
          obtain ⟨s2, es2⟩ : ∃ z, (s1 + f3) % 4294967296 = z := ⟨_, rfl⟩
          have ls2 : s2 < 4294967296 := by rw [← es2]; exact Nat.mod_lt _ (by omega)
          have ks2 : IntKind.u32.wrap ((s1 : Int) + (f3 : Int)) = (s2 : Int) := by rw [← es2]; exact add_u32 _ _
          have Es2 := Lib.hid es2
          clear es2
          obtain ⟨s3, es3⟩ : ∃ z, (s2 + kt) % 4294967296 = z := ⟨_, rfl⟩
          have ls3 : s3 < 4294967296 := by rw [← es3]; exact Nat.mod_lt _ (by omega)
          have ks3 : IntKind.u32.wrap ((s2 : Int) + (kt : Int)) = (s3 : Int) := by rw [← es3]; exact add_u32 _ _
          have Es3 := Lib.hid es3
          clear es3
          obtain ⟨X, eX⟩ : ∃ z, (s3 + wt) % 4294967296 = z := ⟨_, rfl⟩
          have lX : X < 4294967296 := by rw [← eX]; exact Nat.mod_lt _ (by omega)
          have kX : IntKind.u32.wrap ((s3 : Int) + (wt : Int)) = (X : Int) := by rw [← eX]; exact add_u32 _ _
          have EX := Lib.hid eX
          clear eX
          obtain ⟨q3, eq3⟩ : ∃ z, r2 ^^^ r13 = z := ⟨_, rfl⟩
          have lq3 : q3 < 4294967296 := by rw [← eq3]; exact xor32 lr2 lr13
          have kq3 : Go.bits .xor .u32 (r2 : Int) (r13 : Int) = (q3 : Int) := by rw [← eq3]; exact u32_xor_nat _ _ lr2 lr13
          have Eq3 := Lib.hid eq3
          clear eq3
          obtain ⟨q4, eq4⟩ : ∃ z, q3 ^^^ r22 = z := ⟨_, rfl⟩
          have lq4 : q4 < 4294967296 := by rw [← eq4]; exact xor32 lq3 lr22
          have kq4 : Go.bits .xor .u32 (q3 : Int) (r22 : Int) = (q4 : Int) := by rw [← eq4]; exact u32_xor_nat _ _ lq3 lr22
          have Eq4 := Lib.hid eq4
          clear eq4
          obtain ⟨m1, em1⟩ : ∃ z, v0 &&& v1 = z := ⟨_, rfl⟩
          have lm1 : m1 < 4294967296 := by rw [← em1]; exact and32 lv0
          have km1 : Go.bits .and .u32 (v0 : Int) (v1 : Int) = (m1 : Int) := by rw [← em1]; exact u32_and_nat _ _ lv0 lv1
          have Em1 := Lib.hid em1
          clear em1
          obtain ⟨m2, em2⟩ : ∃ z, v0 &&& v2 = z := ⟨_, rfl⟩
          have lm2 : m2 < 4294967296 := by rw [← em2]; exact and32 lv0
          have km2 : Go.bits .and .u32 (v0 : Int) (v2 : Int) = (m2 : Int) := by rw [← em2]; exact u32_and_nat _ _ lv0 lv2
          have Em2 := Lib.hid em2
          clear em2
          obtain ⟨m12, em12⟩ : ∃ z, m1 ^^^ m2 = z := ⟨_, rfl⟩
          have lm12 : m12 < 4294967296 := by rw [← em12]; exact xor32 lm1 lm2
          have km12 : Go.bits .xor .u32 (m1 : Int) (m2 : Int) = (m12 : Int) := by rw [← em12]; exact u32_xor_nat _ _ lm1 lm2
          have Em12 := Lib.hid em12
          clear em12
          obtain ⟨m3, em3⟩ : ∃ z, v1 &&& v2 = z := ⟨_, rfl⟩
          have lm3 : m3 < 4294967296 := by rw [← em3]; exact and32 lv1
          have km3 : Go.bits .and .u32 (v1 : Int) (v2 : Int) = (m3 : Int) := by rw [← em3]; exact u32_and_nat _ _ lv1 lv2
          have Em3 := Lib.hid em3
          clear em3
          obtain ⟨m4, em4⟩ : ∃ z, m12 ^^^ m3 = z := ⟨_, rfl⟩
          have lm4 : m4 < 4294967296 := by rw [← em4]; exact xor32 lm12 lm3
          have km4 : Go.bits .xor .u32 (m12 : Int) (m3 : Int) = (m4 : Int) := by rw [← em4]; exact u32_xor_nat _ _ lm12 lm3
          have Em4 := Lib.hid em4
          clear em4
          obtain ⟨Y, eY⟩ : ∃ z, (q4 + m4) % 4294967296 = z := ⟨_, rfl⟩
          have lY : Y < 4294967296 := by rw [← eY]; exact Nat.mod_lt _ (by omega)
          have kY : IntKind.u32.wrap ((q4 : Int) + (m4 : Int)) = (Y : Int) := by rw [← eY]; exact add_u32 _ _
          have EY := Lib.hid eY
          clear eY
          obtain ⟨n0, en0⟩ : ∃ z, (X + Y) % 4294967296 = z := ⟨_, rfl⟩
          have ln0 : n0 < 4294967296 := by rw [← en0]; exact Nat.mod_lt _ (by omega)
          have kn0 : IntKind.u32.wrap ((X : Int) + (Y : Int)) = (n0 : Int) := by rw [← en0]; exact add_u32 _ _
          have En0 := Lib.hid en0
          clear en0
          obtain ⟨n4, en4⟩ : ∃ z, (v3 + X) % 4294967296 = z := ⟨_, rfl⟩
          have ln4 : n4 < 4294967296 := by rw [← en4]; exact Nat.mod_lt _ (by omega)
          have kn4 : IntKind.u32.wrap ((v3 : Int) + (X : Int)) = (n4 : Int) := by rw [← en4]; exact add_u32 _ _
          have En4 := Lib.hid en4
          clear en4
          have HLT := Lib.hid hlt
          have ENE := Lib.hid ene
          have EKT := Lib.hid ekt
          have EWT := Lib.hid ewt
          clear hv lv vb hgr hlt ene ekt ewt
          go_wp2_with fail
          go_quiet (fail)
          go_wp2_with fail
          refine wp_region_quiet_lit (by kernel_rfl) (by kernel_rfl) ?_
          iterate 4 quiet_step (fail)
          quiet_step ((go_at_call 54; exact quiet_add (Cr6.out _)))
          quiet_step (fail)
          quiet_step ((go_at_call 54; exact quiet_add (Cr11.out _)))
          iterate 2 quiet_step (fail)
          quiet_step ((go_at_call 54; exact quiet_add (Cr25.out _)))
          repeat quiet_step (fail)
          refine wpQuiet_nil ?_
          intro _ hw'
          obtain ⟨nq2, hw''⟩ := hw'
          subst hw''
          rw [World.drewN_drewN]
          generalize hn2 : nq + nq2 = n2
          clear hn2
          go_wp2_with fail
          refine wp_region_quiet_lit (by kernel_rfl) (by kernel_rfl) ?_
          quiet_step (fail)
          quiet_step ((go_at_call 54; exact quiet_add (Cr2.out _)))
          quiet_step (fail)
          quiet_step ((go_at_call 54; exact quiet_add (Cr13.out _)))
          iterate 2 quiet_step (fail)
          quiet_step ((go_at_call 54; exact quiet_add (Cr22.out _)))
          repeat quiet_step (fail)
          refine wpQuiet_nil ?_
          intro _ hw'
          obtain ⟨nq3, hw''⟩ := hw'
          subst hw''
          rw [World.drewN_drewN]
          generalize hn3 : n2 + nq3 = n3
          clear hn3
          have HRND := Lib.hid (show [n0, v0, v1, v2, n4, v4, v5, v6] = rounds ws H (t + 1) by
            show _ = rnd (rounds ws H t) (gd kN t) (gd ws t)
            rw [HVV.out, EKT.out, EWT.out]
            unfold rnd rndX rndY bg1 bg0 chN mjN
            rw [Ev0.out, Ev1.out, Ev2.out, Ev3.out, Ev4.out, Ev5.out, Ev6.out, Ev7.out, Er6.out, Er11.out, Er25.out, Eq1.out, Eq2.out, Ef1.out, ENE.out, Ef2.out, Ef3.out, sum5 Es1.out Es2.out Es3.out EX.out, Er2.out, Er13.out, Eq3.out, Er22.out, Eq4.out, Em1.out, Em2.out, Em12.out, Em3.out, Em4.out, EY.out, En0.out, En4.out])
          have HSH := Lib.hid (show ((shf v 0).set 0 n0).set 4 n4 = rounds ws H (t + 1) by
            rw [shf_end LV.out, Ev0.out, Ev1.out, Ev2.out, Ev4.out, Ev5.out, Ev6.out]; exact HRND.out)
          have HV3 := Lib.hid (show gd (shf v 0) 4 = v3 by
            have := shf_four LV.out (gd (shf v 0) 0)
            rw [← Ev3.out, ← this]
            rw [show (shf v 0).set 0 (gd (shf v 0) 0) = shf v 0 from set_same _ _]
            )
          have HVD := Lib.hid (show Own .u32 41 (wr.drewN n3) 0 (some ⟨gv, 0, none⟩) 8 c8 (shf v 7) by rw [shf_seven LV.out]; exact HV.out.drewN n3)
          have HGD := Lib.hid (grown_drewN HGR.out n3)
          generalize wr.drewN n3 = wd at HVD HGD ⊢
          clear Cr6 Cr11 Cr25 Cr2 Cr13 Cr22 HRND HV HGR cv0 cv1 cv2 cv3 cv4 cv5 cv6 cv7 ck cw
          clear Ev0 Ev1 Ev2 Ev3 Ev4 Ev5 Ev6 Ev7 Er6 Er11 Er25 Eq1 Eq2 Ef1 ENE Ef2 Ef3 Es1 Es2 Es3 EX Er2 Er13 Eq3 Er22 Eq4 Em1 Em2 Em12 Em3 Em4 EY En0 En4 EKT EWT HVV kq1 kq2 ks1 kf1 kne kf2 kf3 ks2 ks3 kX kq3 kq4 km1 km2 km12 km3 km4 kY
          go_wp2_with fail
          go_loopw [14] (fun i wx => ∃ s : Nat, s ≤ 7 ∧ i = .int .i64 (s : Int) ∧ Own .u32 41 wx 0 (some ⟨gv, 0, none⟩) 8 c8 (shf v s) ∧ wd.grownBy wx (some gv)) (fun i _ => (intOf i).toNat)
          case atStart => exact ⟨7, by omega, rfl, HVD.out, grown_refl _ _⟩
          case round =>
            obtain ⟨s, hs, rfl, hvs, hgs⟩ := hrel
            have HVS := Lib.hid hvs
            have HGS := Lib.hid hgs
            by_cases hs0 : 0 < s
            · obtain ⟨j1, hj1⟩ : ∃ z, s - 1 = z := ⟨_, rfl⟩
              have b0 : (0 : Int) < (s : Int) := by omega
              have b1 : IntKind.i64.wrap ((s : Int) - 1) = (s : Int) - 1 := IntWalk.i64_in _ (by omega)
              have b2 : ((s : Int) - 1).toNat = j1 := by omega
              have b3 : (0 : Int) ≤ (s : Int) - 1 := by omega
              have b4 : (s : Int) - 1 < 8 := by omega
              have b5 : (0 : Int) ≤ (s : Int) := by omega
              have b6 : (s : Int) < 8 := by omega
              have b7 : 1 ≤ (s : Int) := by omega
              have b8' : (s : Int) < 9 := by omega
              have b9 : (s : Int) - 1 = (j1 : Int) := by omega
              obtain ⟨y, hy⟩ : ∃ z, gd v j1 = z := ⟨_, rfl⟩
              have cy := hvs.slot (j := j1) (x := y) (by omega) (by rw [← hj1, shf_gd LV.out hs0 hs, hj1]; exact hy)
              obtain ⟨y2, hy2⟩ : ∃ z, gd (shf v s) s = z := ⟨_, rfl⟩
              have cs := hvs.slot (j := s) (by omega) hy2
              have fs := hvs.frozenAt s
              have HSET := Lib.hid (show (shf v s).set s y = shf v j1 by rw [← hy, ← hj1]; exact shf_set LV.out hs0 hs)
              have HJ1 := Lib.hid hj1
              clear hj1 hy hy2 hvs hgs
              go_wp2_with fail
              have hst := HVS.out.store s y
              rw [HSET.out] at hst
              exact ⟨⟨j1, by have := HJ1.out; omega, by go_num, hst, grown_set HGS.out s _⟩, by have := HJ1.out; simp [intOf]; omega⟩
            · obtain rfl : s = 0 := by omega
              obtain ⟨z0, hz0⟩ : ∃ z, gd (shf v 0) 0 = z := ⟨_, rfl⟩
              have d0 := hvs.slot (j := 0) (by omega) hz0
              have d4 := hvs.slot (j := 4) (by omega) HV3.out
              have f0 := hvs.frozenAt 0
              have f4 := hvs.frozenAt 4
              have i2 : IntKind.i64.wrap ((t : Int) + 1) = (t : Int) + 1 := IntWalk.i64_in _ (by omega)
              rw [show ((0 : Nat) : Int) = 0 from rfl]
              clear hz0 hvs hgs
              go_wp2_with fail
              have hst := (HVS.out.store 0 n0).store 4 n4
              rw [HSH.out] at hst
              have hlt := HLT.out
              exact ⟨⟨t + 1, hlt, by go_num, hst, grown_set (grown_set (grown_trans HGD.out HGS.out) 0 _) 4 _⟩, by simp [intOf]; omega⟩
          -- </B>
        · obtain rfl : t = 64 := by omega
          -- <C>
          have HG9 := Lib.hid (show w4.grownBy wr (some gh) from grown_later HG8.out hgr (fun k e => by cases e; exact hgv4))
          have hh9 := HH8.out.grown hgr (fun e => nv3 (by cases e; rfl))
          have HH9 := Lib.hid (show Own .u32 41 wr 0 (some ⟨gh, 0, none⟩) 8 c4 (addW H v 0 ++ H.drop 0) from hh9)
          have HV9 := Lib.hid hv
          have hsr9 := hgr.size
          clear hh9 hv lv vb hgr HV HGR
          rw [show ((64 : Nat) : Int) = (64 : Int) from rfl]
          go_wp2_with fail
          go_loopw [15] (fun i wz => ∃ s : Nat, s ≤ 8 ∧ i = .int .i64 (s : Int) ∧ Own .u32 41 wz 0 (some ⟨gh, 0, none⟩) 8 c4 (addW H v s ++ H.drop s) ∧ wr.grownBy wz (some gh)) (fun i _ => 8 - (intOf i).toNat)
          case atStart => exact ⟨0, by omega, rfl, HH9.out, grown_refl _ _⟩
          case round =>
            obtain ⟨s, hs, rfl, hhs, hgs⟩ := hrel
            have HHS := Lib.hid hhs
            have HGS := Lib.hid hgs
            by_cases hlt : s < 8
            · have hlH : s < H.length := by rw [LH.out]; exact hlt
              obtain ⟨x, ex⟩ : ∃ z, gd H s = z := ⟨_, rfl⟩
              obtain ⟨y, ey⟩ : ∃ z, gd v s = z := ⟨_, rfl⟩
              have cx := hhs.slot (j := s) (x := x) hlt (by rw [gd_addW hlH]; exact ex)
              have cy := (HV9.out.grown hgs (fun e => nv3 (by cases e; rfl))).slot (j := s) hlt ey
              have fx := hhs.frozenAt s
              obtain ⟨r, er⟩ : ∃ z, (x + y) % 4294967296 = z := ⟨_, rfl⟩
              have kr : IntKind.u32.wrap ((x : Int) + (y : Int)) = (r : Int) := by rw [← er]; exact add_u32 _ _
              have HSET := Lib.hid (set_addW (h := H) (v := v) (i := s) (y := r) hlH (by rw [ex, ey]; exact er))
              have b5 : (0 : Int) ≤ (s : Int) := by omega
              have b6 : (s : Int) < 8 := by omega
              have b1 : IntKind.i64.wrap ((s : Int) + 1) = (s : Int) + 1 := IntWalk.i64_in _ (by omega)
              clear ex ey er hhs hgs
              go_wp2_with fail
              go_still_tail 12, (by kernel_rfl)
              go_wp2_with fail
              have hst := HHS.out.store s r
              rw [HSET.out] at hst
              exact ⟨⟨s + 1, hlt, by go_num, hst.drewN 1, grown_drewN (grown_set HGS.out s _) 1⟩, by simp [intOf]; omega⟩
            · obtain rfl : s = 8 := by omega
              have e8 : addW H v 8 ++ H.drop 8 = foldB hN T (j + 1) := by
                rw [List.drop_of_length_le (Nat.le_of_eq LH.out), List.append_nil]
                show _ = blkN (foldB hN T j) T j
                unfold blkN blockN
                rw [HHH.out, ← HAJ.out, HPP.out, HWS.out, HVV.out]
              rw [e8] at hhs
              have HHE := Lib.hid hhs
              clear hhs HHS
              rw [show ((8 : Nat) : Int) = (8 : Int) from rfl]
              go_wp2_with fail
              have haj := HAJ.out
              exact ⟨⟨a + 64, j + 1, by omega, haL2, by go_num, HHE.out, grown_trans HG9.out hgs⟩, by simp [intOf]; omega⟩
          -- </C>
    · obtain rfl := hends hlt
      -- <D>
      obtain ⟨H, hH⟩ : ∃ z, foldB hN T j = z := ⟨_, rfl⟩
      have hfin := HFIN.out j HAJ.out.symm
      have hhl := HH.out
      rw [hH] at hfin hhl
      have lH : H.length = 8 := by rw [← hH]; exact foldB_length hN_length T j
      have bH : B32 H := by rw [← hH]; exact foldB_b32 hN_b32 T j
      have hbe : Below g0 w wr := BEL4.out.grown HG.out hg4.2.2.2.2 (fun k e => by cases e; omega)
      have hoo : Bk wr g0 26 (va .u8 (List.replicate 32 0)) := (HG.out.block _ HO.out.lt (fun e => by have := Option.some.inj e; omega)).trans HO.out
      have HFIN2 := Lib.hid hfin
      have HBE := Lib.hid hbe
      have HOO := Lib.hid hoo
      have HHL := Lib.hid hhl
      have LH := Lib.hid lH
      have BH := Lib.hid bH
      have hgo : g0 < wr.heap.size := by omega
      have hgh : gh < wr.heap.size := by omega
      clear hfin hhl lH bH hbe hoo hH HFIN HH OT OTB OK OH HO T8' HAJ hstep hends HG
      go_upto_region 26 with (fail)
      rw [show Obj.cells #[.int .u8 0, .int .u8 0, .int .u8 0, .int .u8 0, .int .u8 0, .int .u8 0, .int .u8 0, .int .u8 0, .int .u8 0, .int .u8 0, .int .u8 0, .int .u8 0, .int .u8 0, .int .u8 0, .int .u8 0, .int .u8 0, .int .u8 0, .int .u8 0, .int .u8 0, .int .u8 0, .int .u8 0, .int .u8 0, .int .u8 0, .int .u8 0, .int .u8 0, .int .u8 0, .int .u8 0, .int .u8 0, .int .u8 0, .int .u8 0, .int .u8 0, .int .u8 0] 26 = Obj.cells (va .u8 (List.replicate 32 0)) 26 from rfl]
      have hz := Bk.new wr 26 (va .u8 (List.replicate 32 0))
      have hbz := (Below.refl wr.heap.size wr).alloc (Nat.le_refl _) (.cells (va .u8 (List.replicate 32 0)) 26)
      have hsz : (wr.alloc (.cells (va .u8 (List.replicate 32 0)) 26)).heap.size = wr.heap.size + 1 := by simp
      obtain ⟨go, hgo2⟩ : ∃ z, wr.heap.size = z := ⟨_, rfl⟩
      have hhz := HHL.out.below hbz
      have hbez := HBE.out.trans (hbz.mono (Nat.le_of_lt hgo))
      have hoz := HOO.out.below hbz hgo
      generalize wr.alloc (.cells (va .u8 (List.replicate 32 0)) 26) = wz at hz hbz hsz hhz hbez hoz ⊢
      rw [hgo2] at hz hbz hsz hgo hgh ⊢
      have HZ := Lib.hid hz
      have HHZ := Lib.hid hhz
      have HBEZ := Lib.hid hbez
      have HOZ := Lib.hid hoz
      clear hz hbz hhz hbez hoz HHL HBE HOO hgo2
      go_wp2_with fail
      go_loopw [17] (fun i wx => ∃ s : Nat, s ≤ 32 ∧ i = .int .i64 (s : Int) ∧ Bk wx go 26 (va .u8 (outJ H s)) ∧ wz.grownBy wx (some go)) (fun i _ => 32 - (intOf i).toNat)
      case atStart => exact ⟨0, by omega, rfl, by rw [outJ_zero]; exact HZ.out, grown_refl _ _⟩
      case round =>
        obtain ⟨s, hs, rfl, hbk, hbl⟩ := hrel
        have HBK := Lib.hid hbk
        have HBL := Lib.hid hbl
        by_cases hlt : s < 32
        · obtain ⟨q, hq⟩ : ∃ z, s / 4 = z := ⟨_, rfl⟩
          obtain ⟨r, hr⟩ : ∃ z, s % 4 = z := ⟨_, rfl⟩
          have hs4 : 4 * q + r = s := by omega
          have hr4 : r < 4 := by omega
          have hq8 : q < 8 := by omega
          obtain ⟨x, ex⟩ : ∃ z, gd H q = z := ⟨_, rfl⟩
          have lx : x < 4294967296 := by rw [← ex]; exact BH.out.gd q
          have cx := (HHZ.out.grown hbl (fun e => by cases e; omega)).slot (j := q) hq8 ex
          have co := (hbk.cell s).trans (va_at .u8 (by rw [outJ_length LH.out hs]; exact hlt))
          have fo := hbk.frozen s
          have a1 : (s : Int) < 32 := by omega
          have a0 : (0 : Int) ≤ (s : Int) := by omega
          have d1 : (s : Int).tdiv 4 = (q : Int) := by rw [Int.tdiv_eq_ediv_of_nonneg (by omega)]; omega
          have d2 : (s : Int).tmod 4 = (r : Int) := by rw [Int.tmod_eq_emod_of_nonneg (by omega)]; omega
          obtain ⟨k, hk⟩ : ∃ z, 24 - 8 * r = z := ⟨_, rfl⟩
          have d3 : IntKind.i64.wrap (q : Int) = (q : Int) := IntWalk.i64_in _ (by omega)
          have d4 : IntKind.i64.wrap (r : Int) = (r : Int) := IntWalk.i64_in _ (by omega)
          have d5 : IntKind.i64.wrap (8 * (r : Int)) = 8 * (r : Int) := IntWalk.i64_in _ (by omega)
          have d6 : 24 - 8 * (r : Int) = (k : Int) := by omega
          have d7 : IntKind.i64.wrap (k : Int) = (k : Int) := IntWalk.i64_in _ (by omega)
          have d8 : IntKind.u64.wrap (k : Int) = (k : Int) := by rw [IntKind.wrap_u64]; omega
          have q0 : (0 : Int) ≤ (q : Int) := by omega
          have q1 : (q : Int) < 8 := by omega
          have k1 : (k : Int) < 32 := by omega
          have b1 : IntKind.i64.wrap ((s : Int) + 1) = (s : Int) + 1 := IntWalk.i64_in _ (by omega)
          have HSET := Lib.hid (show (outJ H s).set s (x / 2 ^ k % 256) = outJ H (s + 1) by
            have := outJ_set LH.out hlt
            rwa [← hs4, outN_gd H q r (by rw [LH.out]; exact hq8) hr4, hk, ex, hs4] at this)
          clear hq hr hs4 hk ex hbk hbl
          go_wp2_with fail
          have hst := HBK.out.set s (.int .u8 ((x / 2 ^ k % 256 : Nat) : Int))
          rw [va_set, HSET.out, shr_cast] at hst
          exact ⟨⟨s + 1, hlt, by go_num, hst, grown_set HBL.out s _⟩, by simp [intOf]; omega⟩
        · obtain rfl : s = 32 := by omega
          rw [outJ_end LH.out] at hbk
          have lo : (outN H).length = 32 := by rw [outN_length, LH.out]
          have hst := HOZ.out
          have ho2 := (hbl.block _ hst.lt (fun e => by have := Option.some.inj e; omega)).trans hst
          have hbe2 := HBEZ.out.grown hbl (by omega) (fun k e => by cases e; omega)
          clear HBK HBL hbl hst
          rw [show ((32 : Nat) : Int) = (32 : Int) from rfl]
          go_upto_region 30 with (fail)
          refine wp_region_lit ?_
          refine wpList_load_row rfl 26 _ rfl go (by kernel_rfl) 26 (va .u8 (outN H)) (0, 0) (.array 32 5) hbk Try.underlying26 rfl (out_info.trans (by rw [va_size, lo])) ?_
          refine wpList_store_row rfl 26 _ _ rfl g0 (va .u8 (outN H)) (by kernel_rfl) (by kernel_rfl) 26 (va .u8 (List.replicate 32 0)) ho2 (out_info.trans (by rw [va_size, lo])) (by rw [va_size, va_size, lo, List.length_replicate]) (va_all _ _) ?_
          refine wpList_nil ?_
          have hst := Bk.row ho2 (va .u8 (outN H))
          have hbl := below_row hbe2 (Nat.le_refl _) (va .u8 (outN H))
          generalize wr.setRow g0 (va .u8 (outN H)) = wq at hst hbl ⊢
          go_wp2_with fail
          rw [hg0, ← HFIN2.out]
          refine bodyPost_ret (v := .agg (va .u8 (outN H))) ?_ rfl ⟨rfl, hbl⟩
          simp [results, Try.results21, asAddr, Result.andThen]
          exact run_loadVar_row _ _ _ _ _ _ _ hst Try.underlying26 rfl (out_info.trans (by rw [va_size, lo]))
      -- </D>
end Go.Proofs.Ytiimflmbcgnbeaa
