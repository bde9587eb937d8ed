/- Asking for a sum changes nothing: the walk. -/
import Derived.Test.YtiimflmbcgnbeaaSe
namespace Go.Proofs.Ytiimflmbcgnbeaa
set_option linter.unusedSimpArgs false
set_option linter.unusedVariables false
open Go.RowKit Go.Proofs.YtiimflmbcgnbeaaW.PrintWords

theorem HS.far {w w' : World} {g g' base : Nat} {m : List Nat} (h : HS w g base m) (hw : Wrote g' w w') (hne : g' ≠ g) (hb : g' < base) : HS w' g base m := by
  obtain ⟨h1, h2, bg, ws, A, n, c, hk, h3, h4, hr, hA, h5, h6⟩ := h
  exact ⟨h1, h2, bg, ws, A, n, c, (hw.block _ hk.lt (fun e => hne (Option.some.inj e).symm)).trans hk, h3, h4, hr.kept hw (fun ad e r er => by cases er; have := (hA ad e).1; omega),
    fun ad e => ⟨(hA ad e).1, (hA ad e).2.1, Nat.lt_of_lt_of_le (hA ad e).2.2 hw.size⟩, h5, h6⟩
set_option maxHeartbeats 1000000 in
theorem walk_ShaAsked (A0 : Option Addr) (n0 c0 : Nat) (a : List Nat) (A1 : Option Addr) (n1 c1 : Nat) (b : List Nat) (m : Int) (W : World) (rd0 : Rd .u8 W A0 n0 c0 a) (a8 : B8 a) (al0 : ∀ ad, A0 = some ad → ad.block < W.heap.size) (y0 : n0 * 1 ≤ 140737488351232)
    (rd1 : Rd .u8 W A1 n1 c1 b) (b8 : B8 b) (al1 : ∀ ad, A1 = some ad → ad.block < W.heap.size) (y1 : n1 * 1 ≤ 140737488351232) (w2 : (Lit.int .i64 m).wf = true) :
    Calls Try.prog 4 #[.slice A0 n0 c0, .slice A1 n1 c1, .int .i64 m] W fun e w' => e = .returned (.bool true) ∧ Below W.heap.size W w' := by
  have e1 : IntKind.i64.wrap ((n0 : Int) + (n1 : Int)) = (n0 : Int) + (n1 : Int) := IntWalk.i64_in _ (by omega)
  go_enter Try.func4, Try.ntmps4
  by_cases h1 : (4000 : Int) < (n0 : Int) + (n1 : Int)
  · skip
    go_wp2_with (go_at_call 18; refine (alive_any _).mono ?_; rintro e w1 ⟨rfl, hb1⟩)
    go_ret
    exact ⟨rfl, hb1⟩
  have t1 := decide_eq_false h1
  have ln0 := rd0.len
  have ln1 := rd1.len
  have hnew := new_hs W (W.heap.size + 2)
  go_upto_region 4 with (first
    | (go_at_call 22; refine hnew2.mono ?_; rintro e wb ⟨rfl, hb, bb⟩)
    | (go_at_call 22; refine hnew.mono ?_; rintro e wa ⟨rfl, ha, ba⟩; have hnew2 := new_hs wa (wa.heap.size + 2)))
  have ha2 := ha.below bb
  have hla := ha.lt
  have hlb := hb.lt
  have bb2 := ba.trans (bb.mono (Nat.le_of_lt hla))
  have rb0 := rd0.below bb2
  have q0 : ∀ ad, A0 = some ad → ad.block ≠ W.heap.size := fun ad e => by have := al0 ad e; omega
  have hw1 := wr_any wb ha2 rb0 q0 a8 (by simp; omega)
  go_upto_region 5 with (go_at_call 23; refine hw1.mono ?_; rintro e wc ⟨rfl, gc, hc⟩)
  have hb2 := hb.far gc (by omega) (by omega)
  have bc := bb2.trans (gc.below (base := W.heap.size) (by omega) (Nat.le_refl _))
  have rc0 := rd0.below bc
  have q1 : ∀ ad, A0 = some ad → ad.block ≠ wa.heap.size := fun ad e => by have := al0 ad e; omega
  have hw2 := wr_any wc hb2 rc0 q1 a8 (by simp; omega)
  have hlc := hc.lt
  have hlc2 := hb2.lt
  go_upto_region 6 with (go_at_call 23; refine hw2.mono ?_; rintro e wd ⟨rfl, gd, hd⟩)
  have hc2 := hc.far gd (by omega) (by omega)
  have bd := bc.trans (gd.below (base := W.heap.size) (by omega) (by omega))
  have hsd := gd.size
  have HC := Lib.hid hc2
  have HD := Lib.hid hd
  have BD := Lib.hid bd
  have hszd := bd.size
  obtain ⟨D, hD⟩ : ∃ z, shaN a = z := ⟨_, rfl⟩
  have lD : D.length = 32 := by rw [← hD]; exact shaN_length a
  have EQ := fun w' => run_eq32 w' lD lD
  have EG := eq32_guard
  simp only [decide_true] at EQ
  have hgw : W.heap.size < wa.heap.size := hla
  obtain ⟨gg, hgg⟩ : ∃ z, W.heap.size = z := ⟨_, rfl⟩
  obtain ⟨gh, hgh⟩ : ∃ z, wa.heap.size = z := ⟨_, rfl⟩
  have hghd : gh < wd.heap.size := by omega
  have hggh : gg < gh := by omega
  have hbc : wb.heap.size ≤ wc.heap.size := gc.size
  have hbb : gh < wb.heap.size := by omega
  rw [List.nil_append] at *
  rw [hgg] at HC BD hszd
  rw [hgh] at HD
  clear hw1 hw2 hnew hnew2 ha hb bb ha2 hb2 hc gc gd hd hc2 rb0 rc0 bc bd bb2 hla hlb hlc hlc2 ba hgw
  rw [hgg, hgh]
  clear hgh
  go_wp2_with fail
  go_loopw [9] (fun i wr => ∃ t : Nat, t ≤ 4 ∧ i = .int .i64 (t : Int) ∧ Below wd.heap.size wd wr) (fun i _ => 4 - (intOf i).toNat)
  case atStart => exact ⟨0, by omega, rfl, Below.refl _ _⟩
  case round =>
    obtain ⟨t, ht, rfl, hbl⟩ := hrel
    have hsr := hbl.size
    by_cases hlt : (t : Int) < m ∧ t < 4
    · have p1 := hlt.1
      have p2 : (t : Int) < 4 := by omega
      have i1 : IntKind.i64.wrap ((t : Int) + 1) = (t : Int) + 1 := IntWalk.i64_in _ (by omega)
      have hS := sum_any wr (HD.out.below hbl) (by omega)
      rw [hD] at hS
      have hP := fun w' (hb' : Below wr.heap.size wr w') => pk_any w' (rd0.below (by rw [hgg]; exact BD.out.trans ((hbl.mono hszd).trans (hb'.mono (by omega))))) a8 (by omega) (fun ad e => by have := al0 ad e; have := hb'.size; omega)
      rw [hD] at hP
      go_wp2_with (first
        | (go_at_call 20; refine (hP _ hb1).mono ?_; rintro e w2 ⟨rfl, hb2⟩)
        | (go_at_call 24; refine hS.mono ?_; rintro e w1 ⟨rfl, hb1⟩))
      exact ⟨⟨t + 1, by omega, by go_num, hbl.trans ((hb1.trans (hb2.mono hb1.size)).mono hsr)⟩, by simp [intOf]; omega⟩
    · have hg2 := HC.out.below hbl
      have hh2 := HD.out.below hbl
      have br := BD.out.trans (hbl.mono hszd)
      have rr1 := rd1.below (by rw [hgg]; exact br)
      have q0 : ∀ ad, A1 = some ad → ad.block ≠ gg := fun ad e => by have := al1 ad e; omega
      have q1 : ∀ ad, A1 = some ad → ad.block ≠ gh := fun ad e => by have := al1 ad e; omega
      have hw1 := wr_any wr hg2 rr1 q0 b8 (by omega)
      have X : ∀ (we wf : World), Below gg W wf → HS wf gg wr.heap.size (a ++ b) → HS wf gh we.heap.size (a ++ b) → gg ≤ wf.heap.size → True := fun _ _ _ _ _ _ => trivial
      obtain ⟨DD, hDD⟩ : ∃ z, shaN (a ++ b) = z := ⟨_, rfl⟩
      have lDD : DD.length = 32 := by rw [← hDD]; exact shaN_length (a ++ b)
      have EQ2 := fun w' => run_eq32 w' lDD lDD
      simp only [decide_true] at EQ2
      clear EQ X
      by_cases hlt1 : (t : Int) < m
      · have p2 : ¬ (t : Int) < 4 := by omega
        go_upto_region 12 with (go_at_call 23; refine hw1.mono ?_; rintro e we ⟨rfl, ge, he⟩)
        have hh3 := hh2.far ge (by omega) (by omega)
        have be := br.trans (ge.below (base := gg) (by omega) (Nat.le_refl _))
        have re1 := rd1.below (by rw [hgg]; exact be)
        have hw2 := wr_any we hh3 re1 q1 b8 (by omega)
        have hse := ge.size
        go_upto_region 13 with (go_at_call 23; refine hw2.mono ?_; rintro e wf ⟨rfl, gf, hf⟩)
        have he2 := he.far gf (by omega) (by omega)
        have bf := be.trans (gf.below (base := gg) (by omega) (by omega))
        have hsf := gf.size
        have lab : (a ++ b).length = n0 + n1 := by rw [List.length_append, ln0, ln1]
        have hal := alive_any wf
        have hS1 := fun w' (hb' : Below wf.heap.size wf w') => sum_any w' (he2.below hb') (by omega)
        have hS2 := fun w' (hb' : Below wf.heap.size wf w') => sum_any w' (hf.below hb') (by omega)
        have hL := fun w' (hb' : Below wf.heap.size wf w') => len_below w' (he2.below hb')
        rw [hDD] at hS1 hS2
        rw [lab] at hL
        have e2 : ((n0 + n1 : Nat) : Int) = (n0 : Int) + (n1 : Int) := Int.natCast_add _ _
        rw [e2] at hL
        clear hw1 hw2
        go_wp2_with (first
          | (go_at_call 25; refine (hL _ bu).mono ?_; rintro e w4 ⟨rfl, hb4⟩)
          | (go_at_call 24; refine (hS2 _ bt).mono ?_; rintro e w3 ⟨rfl, hb3⟩; have bu := bt.trans (hb3.mono bt.size))
          | (go_at_call 24; refine (hS1 _ hb1).mono ?_; rintro e w2 ⟨rfl, hb2⟩; have bt := hb1.trans (hb2.mono hb1.size))
          | (go_at_call 18; refine hal.mono ?_; rintro e w1 ⟨rfl, hb1⟩))
        go_ret
        exact ⟨rfl, by rw [hgg]; exact bf.trans ((bu.trans (hb4.mono bu.size)).mono (by omega))⟩
      · skip
        go_upto_region 12 with (go_at_call 23; refine hw1.mono ?_; rintro e we ⟨rfl, ge, he⟩)
        have hh3 := hh2.far ge (by omega) (by omega)
        have be := br.trans (ge.below (base := gg) (by omega) (Nat.le_refl _))
        have re1 := rd1.below (by rw [hgg]; exact be)
        have hw2 := wr_any we hh3 re1 q1 b8 (by omega)
        have hse := ge.size
        go_upto_region 13 with (go_at_call 23; refine hw2.mono ?_; rintro e wf ⟨rfl, gf, hf⟩)
        have he2 := he.far gf (by omega) (by omega)
        have bf := be.trans (gf.below (base := gg) (by omega) (by omega))
        have hsf := gf.size
        have lab : (a ++ b).length = n0 + n1 := by rw [List.length_append, ln0, ln1]
        have hal := alive_any wf
        have hS1 := fun w' (hb' : Below wf.heap.size wf w') => sum_any w' (he2.below hb') (by omega)
        have hS2 := fun w' (hb' : Below wf.heap.size wf w') => sum_any w' (hf.below hb') (by omega)
        have hL := fun w' (hb' : Below wf.heap.size wf w') => len_below w' (he2.below hb')
        rw [hDD] at hS1 hS2
        rw [lab] at hL
        have e2 : ((n0 + n1 : Nat) : Int) = (n0 : Int) + (n1 : Int) := Int.natCast_add _ _
        rw [e2] at hL
        clear hw1 hw2
        go_wp2_with (first
          | (go_at_call 25; refine (hL _ bu).mono ?_; rintro e w4 ⟨rfl, hb4⟩)
          | (go_at_call 24; refine (hS2 _ bt).mono ?_; rintro e w3 ⟨rfl, hb3⟩; have bu := bt.trans (hb3.mono bt.size))
          | (go_at_call 24; refine (hS1 _ hb1).mono ?_; rintro e w2 ⟨rfl, hb2⟩; have bt := hb1.trans (hb2.mono hb1.size))
          | (go_at_call 18; refine hal.mono ?_; rintro e w1 ⟨rfl, hb1⟩))
        go_ret
        exact ⟨rfl, by rw [hgg]; exact bf.trans ((bu.trans (hb4.mono bu.size)).mono (by omega))⟩
end Go.Proofs.Ytiimflmbcgnbeaa
