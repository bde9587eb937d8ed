/- Where the majority lies: choose.Region, the walk. -/
import Derived.Test.YteemglgbhdpodaaZ3
namespace Go.Proofs.Yteemglgbhdpodaa
set_option linter.unusedSimpArgs false
set_option linter.unusedVariables false
set_option maxRecDepth 100000
open Go.RowKit

theorem info_en : (Try.prog.info? 123).map (fun i => (i.zero, i.size, i.bytes)) = some (some (.agg #[.int .i64 0, .int .i64 0]), 2, 16) := by kernel_rfl
theorem endsN_take (sp : List Sp) (t : Nat) (h : t < sp.length) : endsN (sp.take t) ++ [(sp[t].1, 1), (sp[t].2.2, -1)] = endsN (sp.take (t + 1)) := by
  unfold endsN
  rw [List.take_add_one, List.flatMap_append, List.getElem?_eq_getElem h]
  simp
theorem runR_take (L : Int) (l : List En) (t : Nat) (h : t < l.length) (s : Int × Bool × Int × Int) : runR L (l.take (t + 1)) s = stepR L (runR L (l.take t) s) l[t] := by
  unfold runR
  rw [List.take_add_one, List.getElem?_eq_getElem h, List.foldl_append]
  rfl
theorem runR_bd (L : Int) (l : List En) (t : Nat) : -(t : Int) ≤ (runR L (l.take t) (0, false, 0, 0)).1 ∧ (runR L (l.take t) (0, false, 0, 0)).1 ≤ t := by
  have key : ∀ (m : List En) (s : Int × Bool × Int × Int), s.1 - m.length ≤ (runR L m s).1 ∧ (runR L m s).1 ≤ s.1 + m.length := by
    intro m
    induction m with
    | nil => intro s; simp [runR]
    | cons e m ih =>
      intro s
      have h1 := ih (stepR L s e)
      have h2 : s.1 - 1 ≤ (stepR L s e).1 ∧ (stepR L s e).1 ≤ s.1 + 1 := by
        unfold stepR
        split
        · split <;> simp <;> omega
        · simp; omega
      show _ ≤ (runR L m (stepR L s e)).1 ∧ (runR L m (stepR L s e)).1 ≤ _
      simp only [List.length_cons]
      omega
  have h := key (l.take t) (0, false, 0, 0)
  have h2 : (l.take t).length ≤ t := by simp; omega
  simp only [Int.zero_sub, Int.zero_add] at h
  omega
def REG (sp : List Sp) (w : World) (e : Ending) (w' : World) : Prop := ∃ l : List En, l.Perm (endsN sp) ∧ l.Pairwise (fun a b => ahB b a = false) ∧ Below w.heap.size w w' ∧
  e = .returned (.tuple (if (runR sp.length l (0, false, 0, 0)).2.1 = true then #[.int .i64 (runR sp.length l (0, false, 0, 0)).2.2.1, .int .i64 (runR sp.length l (0, false, 0, 0)).2.2.2, .int .i64 0] else #[.int .i64 0, .int .i64 0, .int .i64 150]))
set_option maxHeartbeats 4000000 in
theorem region_any (w : World) {A : Option Addr} {n c : Nat} {sp : List Sp} (h : RdK spE 3 w A n c sp) (hgood : ∀ x ∈ sp, badB x = false) (h0 : 0 < n) (hn : n ≤ 64) :
    Calls Try.prog 29 #[.slice A n c] w (REG sp w) := by
  obtain ⟨i1, hi1, hz1, hz1', hz1''⟩ := info_parts info_en
  have hl : sp.length = n := h.len
  have HC := Lib.hid (containsS_any w h hgood)
  have a64 : ¬ (64 : Int) < (n : Int) := by omega
  have HREG := Lib.hid (show REG sp w = fun e w' => ∃ l : List En, l.Perm (endsN sp) ∧ l.Pairwise (fun a b => ahB b a = false) ∧ Below w.heap.size w w' ∧
    e = .returned (.tuple (if (runR sp.length l (0, false, 0, 0)).2.1 = true then #[.int .i64 (runR sp.length l (0, false, 0, 0)).2.2.1, .int .i64 (runR sp.length l (0, false, 0, 0)).2.2.2, .int .i64 0] else #[.int .i64 0, .int .i64 0, .int .i64 150])) from rfl)
  generalize REG sp w = QQ at HREG ⊢
  go_enter Try.func29, Try.ntmps29
  go_wp2_with ((with_reducible refine HC.out.mono ?_); rintro e w0 ⟨rfl, hb0⟩; have HB0 := Lib.hid hb0; clear hb0)
  go_loopw [5, 7, 23] (fun v _ i wr => ∃ (t : Nat) (A1 : Option Addr) (k1 : Nat), t ≤ n ∧ v = .slice A1 (2 * t) k1 ∧ i = .int .i64 (t : Int) ∧ OwnK enE 2 123 wr w.heap.size A1 (2 * t) k1 (endsN (sp.take t)) ∧ Below w.heap.size w wr) (fun _ _ i _ => n - (intOf i).toNat)
  case atStart => exact ⟨0, none, 0, Nat.zero_le _, rfl, rfl, OwnK.nil _ _ _ _ _, HB0.out⟩
  case round =>
    obtain ⟨t, A1, k1, ht, rfl, rfl, o1, hbel⟩ := hrel
    have hsr := hbel.size
    by_cases hlt : t < n
    · obtain ⟨ad, rfl, hab, hac⟩ := sp_field h hlt
      have htl : t < sp.length := by omega
      obtain ⟨c0, c1, c2⟩ := hac wr hbel _ (List.getElem?_eq_getElem htl)
      have N1 := Lib.hid (endsN_take sp t htl)
      obtain ⟨⟨x, y, z⟩, hx⟩ : ∃ q, sp[t] = q := ⟨_, rfl⟩
      rw [hx] at c0 c1 c2 N1
      have a1 : (t : Int) < (n : Int) := by omega
      have a0 : (0 : Int) ≤ (t : Int) := by omega
      have i1' : IntKind.i64.wrap ((t : Int) + 1) = (t : Int) + 1 := IntWalk.i64_in _ (by omega)
      have HBEL := Lib.hid hbel
      have HO1 := Lib.hid o1
      clear hac hx o1 hbel
      go_upto_region 7 with (fail)
      refine wp_region_lit ?_
      iterate 8 (refine wpList_plain rfl (fun K hK => ?_); go_simp; refine hK _ _ ?_; clear hK K)
      have hn1 : Below wr.heap.size wr ((wr.alloc (.cells #[.int .i64 x, .int .i64 y, .int .i64 z] 72)).alloc (.cells #[.int .i64 x, .int .i64 1, .int .i64 z, .int .i64 (-1)] 123)) := ((Below.refl _ _).alloc (Nat.le_refl _) _).alloc (by simp) _
      have hr1 : Bk ((wr.alloc (.cells #[.int .i64 x, .int .i64 y, .int .i64 z] 72)).alloc (.cells #[.int .i64 x, .int .i64 1, .int .i64 z, .int .i64 (-1)] 123)) (wr.heap.size + 1) 123 ([((x, 1) : En), (z, -1)].flatMap enE).toArray := Bk.at_new _ _ (by simp)
      have o1 := HO1.out.below hn1
      have hb3 := HBEL.out.trans (hn1.mono (by omega))
      generalize (wr.alloc (.cells #[.int .i64 x, .int .i64 y, .int .i64 z] 72)).alloc (.cells #[.int .i64 x, .int .i64 1, .int .i64 z, .int .i64 (-1)] 123) = w3 at hr1 hn1 o1 hb3 ⊢
      have hs3 := hb3.size
      clear c0 c1 c2 HBEL HO1
      go_wp2_with (at_builtin; refine wpList_append_k _ rfl (.tmp 27) (.tmp 34) _ rfl enE_len enE_one w.heap.size i1 (.agg #[.int .i64 0, .int .i64 0]) 16 Try.underlying121 hi1 hz1 hz1' hz1'' rfl (by decide) A1 (2 * t) k1 (endsN (sp.take t)) rfl o1 (wr.heap.size + 1) 2 [((x, 1) : En), (z, -1)] rfl hr1 (by unfold maxLen; simp only [List.length_cons, List.length_nil]; omega) (by simp only [List.length_cons, List.length_nil]; omega) (by omega) ?_; intro B2 l2 w4 o2 hb4 hsz4)
      rw [N1.out] at o2
      have HF := Lib.hid (And.intro o2 (hb3.trans hb4))
      clear o2 hb4 hb3 hr1 hn1 o1
      go_roundw
      case rel => exact ⟨t + 1, B2, l2, by omega, by go_num, by go_num, HF.out.1, HF.out.2⟩
      case measure => simp [intOf]; omega
    · obtain rfl : t = n := by omega
      rw [List.take_of_length_le (by omega)] at o1
      have HS := Lib.hid (sort_ends wr o1 (by omega) (by omega) hsr)
      have HBEL := Lib.hid hbel
      have hcap : 2 * t ≤ k1 := by rcases o1.ways with ⟨_, h, _, _⟩ | ⟨_, _, _, _, h, _⟩ <;> omega
      clear o1 hbel
      go_upto_region 12 with ((with_reducible refine HS.out.mono ?_); rintro e w2 ⟨rfl, ys, hp, hs, hrd, hb2⟩; have HB2 := Lib.hid (HBEL.out.trans hb2); have HP := Lib.hid (And.intro hp hs); clear hb2 hp hs HBEL HS)
      have hyl : ys.length = 2 * t := hrd.len
      have HRD := Lib.hid hrd
      clear hrd
      have hs2 := HB2.out.size
      go_loopw [8, 9, 10, 11, 13, 41] (fun a b x d _ i wr => ∃ (j : Nat) (S : Int × Bool × Int × Int), j ≤ 2 * t ∧ runR (t : Int) (ys.take j) (0, false, 0, 0) = S ∧ i = .int .i64 (j : Int) ∧ a = .int .i64 S.2.2.1 ∧ b = .int .i64 S.2.2.2 ∧ x = .int .i64 S.1 ∧ d = .bool S.2.1 ∧ Below w2.heap.size w2 wr) (fun _ _ _ _ _ i _ => 2 * t - (intOf i).toNat)
      case atStart => exact ⟨0, (0, false, 0, 0), Nat.zero_le _, rfl, rfl, rfl, rfl, rfl, rfl, Below.refl _ _⟩
      case round =>
        obtain ⟨j, ⟨a, f, lo, hi⟩, hj, hS, rfl, rfl, rfl, rfl, rfl, hbel⟩ := hrel
        have hbd := runR_bd (t : Int) ys j
        rw [hS] at hbd
        replace hbd : -(j : Int) ≤ a ∧ a ≤ (j : Int) := hbd
        have hsr2 := hbel.size
        dsimp only
        by_cases hlt : j < 2 * t
        · obtain ⟨ad, he1, hab, hac⟩ := en_field HRD.out hlt
          have hjl : j < ys.length := by omega
          obtain ⟨c0, c1⟩ := hac wr hbel _ (List.getElem?_eq_getElem hjl)
          have N1 := Lib.hid (runR_take (t : Int) ys j hjl (0, false, 0, 0))
          rw [hS] at N1
          obtain ⟨⟨p, q⟩, hx⟩ : ∃ q, ys[j] = q := ⟨_, rfl⟩
          rw [hx] at c0 c1 N1
          subst he1
          have a1 : (j : Int) < 2 * (t : Int) := by omega
          have a0 : (0 : Int) ≤ (j : Int) := by omega
          have i1' : IntKind.i64.wrap ((j : Int) + 1) = (j : Int) + 1 := IntWalk.i64_in _ (by omega)
          have i2' : IntKind.i64.wrap (a + 1) = a + 1 := IntWalk.i64_in _ (by omega)
          have i3' : IntKind.i64.wrap (2 * (a + 1)) = 2 * (a + 1) := IntWalk.i64_in _ (by omega)
          have i4' : IntKind.i64.wrap (2 * a) = 2 * a := IntWalk.i64_in _ (by omega)
          have i5' : IntKind.i64.wrap (a - 1) = a - 1 := IntWalk.i64_in _ (by omega)
          have HBR := Lib.hid (hbel.alloc hsr2 (.cells #[.int .i64 p, .int .i64 q] 123))
          clear hac hx hbel hbd hS
          by_cases hq : 0 < q
          · by_cases hL : (t : Int) < 2 * (a + 1)
            · cases f
              · have N2 := Lib.hid (show stepR (t : Int) (a, false, lo, hi) (p, q) = (a + 1, true, p, hi) by unfold stepR; simp [hq, hL])
                go_wp2_with fail
                go_roundw
                case rel => exact ⟨j + 1, _, by omega, N1.out.trans N2.out, by go_num, rfl, rfl, rfl, rfl, HBR.out⟩
                case measure => simp [intOf]; omega
              · have N2 := Lib.hid (show stepR (t : Int) (a, true, lo, hi) (p, q) = (a + 1, true, lo, hi) by unfold stepR; simp [hq])
                go_wp2_with fail
                go_roundw
                case rel => exact ⟨j + 1, _, by omega, N1.out.trans N2.out, by go_num, rfl, rfl, rfl, rfl, HBR.out⟩
                case measure => simp [intOf]; omega
            · have N2 := Lib.hid (show stepR (t : Int) (a, f, lo, hi) (p, q) = (a + 1, f, lo, hi) by unfold stepR; simp [hq, hL])
              go_wp2_with fail
              go_roundw
              case rel => exact ⟨j + 1, _, by omega, N1.out.trans N2.out, by go_num, rfl, rfl, rfl, rfl, HBR.out⟩
              case measure => simp [intOf]; omega
          · by_cases hL : (t : Int) < 2 * a
            · have N2 := Lib.hid (show stepR (t : Int) (a, f, lo, hi) (p, q) = (a - 1, f, lo, p) by unfold stepR; simp [hq, hL])
              go_wp2_with fail
              go_roundw
              case rel => exact ⟨j + 1, _, by omega, N1.out.trans N2.out, by go_num, rfl, rfl, rfl, rfl, HBR.out⟩
              case measure => simp [intOf]; omega
            · have N2 := Lib.hid (show stepR (t : Int) (a, f, lo, hi) (p, q) = (a - 1, f, lo, hi) by unfold stepR; simp [hq, hL])
              go_wp2_with fail
              go_roundw
              case rel => exact ⟨j + 1, _, by omega, N1.out.trans N2.out, by go_num, rfl, rfl, rfl, rfl, HBR.out⟩
              case measure => simp [intOf]; omega
        · obtain rfl : j = 2 * t := by omega
          rw [List.take_of_length_le (by omega)] at hS
          have HSS := Lib.hid hS
          have HBF := Lib.hid (HB2.out.trans (hbel.mono hs2))
          have hcast : ((2 * t : Nat) : Int) = 2 * (t : Int) := by omega
          rw [hcast]
          clear hS hbel hbd hcast
          cases f
          · go_wp2_with fail
            refine bodyPost_ret (v := .tuple #[.int .i64 0, .int .i64 0, .int .i64 150]) (by simp [results, Try.results29, go_sem]) rfl ?_
            rw [HREG.out, hl]
            exact ⟨ys, HP.out.1, HP.out.2, HBF.out, by rw [HSS.out]; rfl⟩
          · go_wp2_with fail
            refine bodyPost_ret (v := .tuple #[.int .i64 lo, .int .i64 hi, .int .i64 0]) (by simp [results, Try.results29, go_sem]) rfl ?_
            rw [HREG.out, hl]
            exact ⟨ys, HP.out.1, HP.out.2, HBF.out, by rw [HSS.out]; rfl⟩
end Go.Proofs.Yteemglgbhdpodaa
