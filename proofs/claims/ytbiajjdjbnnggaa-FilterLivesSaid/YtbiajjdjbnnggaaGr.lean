/- The document's filter: a sample put in. -/
import Derived.Test.YtbiajjdjbnnggaaGq
import Derived.Test.YtbiajjdjbnnggaaG8
import Derived.RegionTactic
import Derived.ChangeAlike
namespace Go.Proofs.Ytbiajjdjbnnggaa
set_option linter.unusedSimpArgs false
set_option linter.unusedVariables false
set_option maxRecDepth 100000
open Go.RowKit
attribute [local go_sem] toldUpon_value toldUpon_skip toldUpon_enter

/-- the document's filter in block gx: its samples, the oldest first -/
def RF (w : World) (gx : Nat) (L : List Smp) : Prop := ∃ A c, Bk w gx 45 #[.slice A L.length c] ∧ SL w gx A L.length c L
theorem RF.below {w w' : World} {gx : Nat} {L : List Smp} (h : RF w gx L) (hb : Below w.heap.size w w') : RF w' gx L := by
  obtain ⟨A, c, h1, h2⟩ := h
  exact ⟨A, c, h1.below hb h1.lt, h2.below hb⟩
def pushL (L : List Smp) (s : Smp) : List Smp := if 8 ≤ L.length then (L ++ [s]).drop 1 else L ++ [s]
theorem SL.far {w : World} {gx : Nat} {A : Option Addr} {n c : Nat} {L : List Smp} (h : SL w gx A n c L) (u : Value) : SL (w.setCell ⟨gx, 0, none⟩ u) gx A n c L :=
  ⟨h.1, h.2.imp id fun ⟨g, pre, rest, h1, h2, h3, h4, h5, h6⟩ => ⟨g, pre, rest, h1, h2, h3, h4, h5, h6.far (p := ⟨gx, 0, none⟩) (Nat.ne_of_gt h2) _⟩⟩
theorem SL.tail {w : World} {gx : Nat} {A : Option Addr} {n c : Nat} {L : List Smp} (h : SL w gx A (n + 1) c L) : ∃ g o, A = some ⟨g, o, none⟩ ∧ n + 1 ≤ c ∧ SL w gx (some ⟨g, o + 4, none⟩) n (c - 1) (L.drop 1) := by
  rcases h.2 with ⟨_, h0, _⟩ | ⟨g, pre, rest, h1, h2, h3, h4, h5, h6⟩
  · omega
  · match L, h.1 with
    | y :: T, hl =>
      refine ⟨g, pre.length, h1, h3, by simpa using hl, .inr ⟨g, pre ++ sc y, rest, by simp [sc], h2, by omega, by omega, by omega, ?_⟩⟩
      simpa using h6
set_option maxHeartbeats 1000000 in
theorem radd_any (w : World) {gx : Nat} {L : List Smp} (s : Smp) (h : RF w gx L) (hl : L.length ≤ 8) : Calls Try.prog 21 #[.pointer (some ⟨gx, 0, none⟩), sv s] w fun e w' => e = .returned (.int .i64 (if mayB s = true then 0 else 1)) ∧ RF w' gx (if mayB s = true then pushL L s else L) ∧ Below gx w w' ∧ w.heap.size ≤ w'.heap.size := by
  have hM := fun w => rmay_any w s
  obtain ⟨A, c, hbk, hsl⟩ := h
  have hgs := hbk.lt
  obtain ⟨i0, hi0, hz0, hz1, hz2⟩ := info_parts info_s
  by_cases hm : mayB s = true
  · rw [hm] at hM
    simp only [hm, if_true]
    clear hm
    have HP := Lib.hid (show pushL L s = if 8 ≤ L.length then (L ++ [s]).drop 1 else L ++ [s] from rfl)
    obtain ⟨n, hn⟩ : ∃ n, L.length = n := ⟨_, rfl⟩
    rw [hn] at hbk hsl hl HP
    have HN := Lib.hid hn
    have HSL := Lib.hid hsl
    have HBK := Lib.hid hbk
    have hsv : sv s = .agg #[.int .i64 s.o, .int .i64 s.d, .int .i64 s.p, .int .i64 s.a] := rfl
    rw [hsv] at hM ⊢
    clear hsv hsl hbk hn
    go_enter Try.func21, Try.ntmps21
    go_upto_region 3 with (go_at_call 14; refine (hM _).mono ?_; rintro e w1 ⟨rfl, hb1⟩; obtain ⟨B1, z1, bb1⟩ := box1 hb1)
    have hb1 := bb1
    have hs := bb1.size
    have hgs1 : gx < w1.heap.size := Nat.lt_of_lt_of_le hgs hs
    have hbk1 := HBK.out.below bb1 hgs
    have HSL1 := Lib.hid (HSL.out.below bb1)
    have HBK1 := Lib.hid hbk1
    have c0 := B1.cell 0
    have c1 := B1.cell 1
    have c2 := B1.cell 2
    have c3 := B1.cell 3
    have c4 := hbk1.cell 0
    have fz := hbk1.frozen 0
    have HB1 := Lib.hid bb1
    clear bb1 hM B1 hb1 hbk1
    go_region_law (refine step_append_rf rfl (.tmp 12) (.tmp 14) _ rfl i0 _ Try.underlying22 hi0 hz0 hz1 hz2 rfl gx A n c L (by simp [Act.eval, Act.put]) (HSL1.out.below ((Below.refl _ _).drew.alloc (Nat.le_refl _) _)) w1.heap.size 1 s (by simp [Act.eval, Act.put]) (Bk.new w1.drew _ _) (by omega) (by simp; omega) ?_; intro A' c' w4 hsl4 hb4 hs4; obtain ⟨g', o', rfl, hc', htl⟩ := SL.tail hsl4; have HTL := Lib.hid htl; have HSL4 := Lib.hid hsl4; have HB4 := Lib.hid (((HB1.out.mono (Nat.le_of_lt hgs)).drew.alloc (Nat.le_of_lt hgs1) _).trans (hb4.mono (Nat.le_succ gx))); have hbk4 := (Bk.alloc (Bk.drew HBK1.out) _).below hb4 (Nat.lt_succ_self gx); have c4' := hbk4.cell 0; have fz' := hbk4.frozen 0; have HBK4 := Lib.hid hbk4; clear hb4 hsl4 htl hbk4)
    all_goals
      have hsz := HB4.out.size
      by_cases h8 : n = 8
      · subst h8
        have k1 : ¬ c' = 1 := by omega
        go_wp2_with fail
        go_ret
        refine ⟨rfl, ?_, ((HB4.out.setCell (p := ⟨gx, 0, none⟩) (Nat.le_refl _) _).setCell (p := ⟨gx, 0, none⟩) (Nat.le_refl _) _), by simpa using hsz⟩
        rw [HP.out, if_pos (Nat.le_refl _)]
        have hlen : ((L ++ [s]).drop 1).length = 8 := by simp [HN.out]
        refine ⟨some ⟨g', o' + 4, none⟩, c' - 1, ?_, ?_⟩
        · rw [hlen]; exact (HBK4.out.set 0 _).set 0 _
        · rw [hlen]; exact (HTL.out.far _).far _
      · have k1 : ¬ (8 : Int) < (n : Int) + 1 := by omega
        have h9 : ¬ 8 ≤ n := by omega
        go_wp2_with fail
        go_ret
        refine ⟨rfl, ?_, (HB4.out.setCell (p := ⟨gx, 0, none⟩) (Nat.le_refl _) _), by simpa using hsz⟩
        rw [HP.out, if_neg h9]
        have hlen : (L ++ [s]).length = n + 1 := by simp [HN.out]
        refine ⟨some ⟨g', o', none⟩, c', ?_, ?_⟩
        · rw [hlen]; exact HBK4.out.set 0 _
        · rw [hlen]; exact HSL4.out.far _
  · have hm' : mayB s = false := by simpa using hm
    rw [hm'] at hM
    simp only [hm, if_false, Bool.false_eq_true]
    obtain ⟨o, d, p, a⟩ := s
    unfold sv at hM ⊢
    have HR := Lib.hid (show RF w gx L from ⟨A, c, hbk, hsl⟩)
    clear hm hm' hbk hsl
    go_enter Try.func21, Try.ntmps21
    go_wp2_with (go_at_call 14; refine (hM _).mono ?_; rintro e w1 ⟨rfl, hb1⟩; obtain ⟨B1, z1, bb1⟩ := box1 hb1)
    go_ret
    exact ⟨rfl, HR.out.below bb1, bb1.mono (by omega), bb1.size⟩
end Go.Proofs.Ytbiajjdjbnnggaa
