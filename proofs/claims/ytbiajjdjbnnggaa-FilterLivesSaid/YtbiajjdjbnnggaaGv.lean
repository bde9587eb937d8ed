/- The document's row: the best of those that are left, again and again. -/
import Derived.Test.YtbiajjdjbnnggaaGu
import Derived.Test.YtbiajjdjbnnggaaG9
namespace Go.Proofs.Ytbiajjdjbnnggaa
set_option linter.unusedSimpArgs false
set_option linter.unusedVariables false
set_option maxRecDepth 100000
open Go.RowKit Go.Deep
attribute [local go_sem] toldUpon_value toldUpon_skip toldUpon_enter

theorem SL.src {w : World} {gx : Nat} {A : Option Addr} {n c : Nat} {L : List Smp} (h : SL w gx A n c L) : n = 0 ∧ A = none ∨ ∃ ad, A = some ad ∧ ∀ j u, (L.flatMap sc)[j]? = some u → w.cell? (ad.add j) = some u := by
  rcases h.2 with ⟨h1, h2, _⟩ | ⟨g, pre, rest, rfl, _, _, _, _, hbk⟩
  · exact .inl ⟨h2, h1⟩
  · refine .inr ⟨_, rfl, fun j u hu => ?_⟩
    rw [show (⟨g, pre.length, none⟩ : Addr).add j = ⟨g, pre.length + j, none⟩ by unfold Addr.add; split <;> simp_all]
    rw [hbk.cell, List.getElem?_toArray, List.getElem?_append_right (by omega), List.getElem?_append_left (by have := (List.getElem?_eq_some_iff.1 hu).1; omega)]
    rw [show pre.length + j - pre.length = j by omega]; exact hu
theorem SB.src {w : World} {g : Nat} {L : List Smp} (h : SB w g L) (X Y Z : List Smp) (e : L = X ++ (Y ++ Z)) : ∀ j u, (Y.flatMap sc)[j]? = some u → w.cell? ⟨g, X.length * 4 + j, none⟩ = some u := by
  obtain ⟨r, hb⟩ := h
  subst e
  intro j u hu
  have hj := (List.getElem?_eq_some_iff.1 hu).1
  have hX := sc_len X
  rw [hb.cell, List.getElem?_toArray, List.flatMap_append, List.flatMap_append, List.append_assoc, List.getElem?_append_right (by omega), List.append_assoc, List.getElem?_append_left (by omega)]
  rw [show X.length * 4 + j - (X.flatMap sc).length = j by omega]; exact hu
theorem OwnS.lt {w : World} {base : Nat} {A : Option Addr} {n c : Nat} {ss : List Smp} (h : OwnS w base A n c ss) : ∀ ad, A = some ad → ad.block < w.heap.size := by
  rintro ad rfl
  rcases h.2 with ⟨h1, _⟩ | ⟨g, cap, cur, h1, _, hh, _⟩
  · simp at h1
  · simp only [Value.slice.injEq, Option.some.injEq] at h1
    rw [h1.1]; exact (Array.getElem?_eq_some_iff.1 hh).1
theorem rg_drop (L : List Smp) (k j : Nat) : rg (L.drop k) j = rg L (k + j) := by
  unfold rg; rw [List.getD_eq_getElem?_getD, List.getD_eq_getElem?_getD, List.getElem?_drop]
theorem rg_take {L : List Smp} {k j : Nat} (h : j < k) : rg (L.take k) j = rg L j := by
  unfold rg; rw [List.getD_eq_getElem?_getD, List.getD_eq_getElem?_getD, List.getElem?_take, if_pos h]
/-- one taken: the newest of the least ones -/
theorem srt_take {now : Int} {L : List Smp} {q : Nat} (hq : q < L.length) (hgt : ∀ j, q < j → j < L.length → distN (rg L q) now < distN (rg L j) now) (hge : ∀ j, j < q → distN (rg L q) now ≤ distN (rg L j) now) :
    srt now L.reverse = rg L q :: srt now (L.take q ++ L.drop (q + 1)).reverse := by
  have eL : L = L.take q ++ (rg L q :: L.drop (q + 1)) := by
    have e1 := List.take_append_drop q L
    rw [List.drop_eq_getElem_cons hq, rg_get] at e1
    exact e1.symm
  have e2 : L.reverse = (L.drop (q + 1)).reverse ++ rg L q :: (L.take q).reverse := by
    conv => lhs; rw [eL]
    simp
  rw [e2, srt_least (fun z hz => ?_) (fun z hz => ?_), List.reverse_append]
  · obtain ⟨j, hj, rfl⟩ := mem_rg (List.mem_reverse.1 hz)
    rw [List.length_drop] at hj
    rw [rg_drop]; exact hgt _ (by omega) (by omega)
  · obtain ⟨j, hj, rfl⟩ := mem_rg (List.mem_reverse.1 hz)
    rw [List.length_take] at hj
    rw [rg_take (by omega)]; exact hge _ (by omega)
def sliceLen : Value → Nat
  | .slice _ n _ => n
  | _ => 0
set_option maxHeartbeats 2000000 in
theorem rrow_any (w : World) {gx : Nat} {L : List Smp} (now : Int) (h : RF w gx L) (hl8 : L.length ≤ 8) : Calls Try.prog 23 #[.pointer (some ⟨gx, 0, none⟩), .int .i64 now] w (ROW (srt now L.reverse) w) := by
  obtain ⟨A, c, hbk, hsl⟩ := h
  obtain ⟨i0, hi0, hz0, hz1, hz2⟩ := info_parts info_s
  obtain ⟨n, hn⟩ : ∃ n, L.length = n := ⟨_, rfl⟩
  rw [hn] at hbk hsl hl8
  have HN := Lib.hid hn
  have hsrc := Lib.hid hsl.src
  have c4 := hbk.cell 0
  have hgx := hbk.lt
  clear hn hsl hbk
  go_enter Try.func23, Try.ntmps23
  go_wp2_with (at_builtin; refine wpList_append_m _ rfl (.tmp 10) (.tmp 14) _ rfl w.heap.size i0 _ Try.underlying22 hi0 hz0 hz1 hz2 rfl none 0 0 [] rfl (OwnS.nil _ _) A n c L rfl HN.out hsrc.out (by omega) (Nat.le_refl _) ?_)
  intro A1 c1 w1 ho1 hap1 hb1 hs1
  try rw [List.nil_append] at ho1
  have HB1 := Lib.hid hb1
  clear hap1 hb1
  go_wp2_with fail
  go_loopw [5, 6] (fun u v wr => ∃ (A1 A2 : Option Addr) (c1 c2 n1 n2 : Nat) (left out : List Smp), u = .slice A1 n1 c1 ∧ v = .slice A2 n2 c2 ∧ OwnS wr w.heap.size A1 n1 c1 left ∧ OwnS wr w.heap.size A2 n2 c2 out ∧ (∀ e ad, A1 = some e → A2 = some ad → e.block ≠ ad.block) ∧ out ++ srt now left.reverse = srt now L.reverse ∧ n1 + n2 = n ∧ Below w.heap.size w wr) (fun u _ _ => sliceLen u)
  case atStart => exact ⟨A1, none, c1, 0, n, 0, L, [], rfl, rfl, ho1, OwnS.nil _ _, fun e ad _ h => absurd h (by simp), rfl, rfl, HB1.out⟩
  case round =>
    obtain ⟨A1, A2, c1, c2, n1, n2, left, out, rfl, rfl, ho1, ho2, hne, hsrt, hnn, hbel⟩ := hrel
    have hl1 := ho1.len
    have hl2 := ho2.len
    rcases Nat.eq_zero_or_pos n1 with h0 | h0
    · have a1 : ¬ (0 : Int) < (n1 : Int) := by omega
      obtain rfl : left = [] := List.eq_nil_of_length_eq_zero (by omega)
      have he : out = srt now L.reverse := by rw [← hsrt]; simp [srt]
      obtain ⟨hrs, hcc⟩ := ho2.rs
      have HB := Lib.hid hbel
      have HR := Lib.hid (And.intro hrs (And.intro hcc (And.intro he hl2)))
      clear hsrt ho1 ho2 hrs hcc he hbel hne hl1 hl2 c4
      go_wp2_with fail
      go_ret
      obtain ⟨r1, r2, r3, r4⟩ := HR.out
      rw [r3] at r1 r4
      exact ⟨A2, c2, by rw [r4]; rfl, by rw [r4]; exact ⟨r1, r2⟩, HB.out⟩
    · have a1 : (0 : Int) < (n1 : Int) := by omega
      obtain ⟨⟨_, hrs⟩, hcc⟩ := ho1.rs
      obtain ⟨g, rfl, hg, hsb⟩ : ∃ g, A1 = some ⟨g, 0, none⟩ ∧ w.heap.size ≤ g ∧ SB wr g left := by
        rcases hrs with ⟨_, h⟩ | h
        · omega
        · exact h
      have i1 : IntKind.i64.wrap ((n1 : Int) - 1) = ((n1 - 1 : Nat) : Int) := by rw [IntWalk.i64_in _ (by omega)]; omega
      have i2 : IntKind.i64.wrap ((n1 : Int) - 2) = (n1 : Int) - 2 := IntWalk.i64_in _ (by omega)
      have HSB := Lib.hid hsb
      have HO1 := Lib.hid ho1
      have HO2 := Lib.hid ho2
      have HNE := Lib.hid hne
      have HBEL := Lib.hid hbel
      have HSRT := Lib.hid hsrt
      have HL := Lib.hid (And.intro hl1 hl2)
      have hgl := hsb.lt
      clear hrs hsb ho1 ho2 hne hbel hsrt hl1 hl2 c4
      obtain ⟨wo, hwo⟩ : ∃ x, wr = x := ⟨_, rfl⟩
      go_wp2_with fail
      go_loopw [7, 8] (fun u v wi => ∃ (q k : Nat), u = .int .i64 (q : Int) ∧ v = .int .i64 ((k : Int) - 1) ∧ k ≤ q ∧ q < n1 ∧ (∀ j, q < j → j < n1 → distN (rg left q) now < distN (rg left j) now) ∧ (∀ j, k ≤ j → j < q → distN (rg left q) now ≤ distN (rg left j) now) ∧ Below wo.heap.size wo wi) (fun _ v _ => (intOf v + 1).toNat)
      case atStart => exact ⟨n1 - 1, n1 - 1, rfl, congrArg (Value.int .i64) (by omega), Nat.le_refl _, by omega, fun j h1 h2 => absurd h2 (by omega), fun j h1 h2 => absurd h2 (by omega), by rw [← hwo]; exact Below.refl _ _⟩
      case round =>
        obtain ⟨q, k, rfl, rfl, hkq, hqn, hgt, hge, hbi⟩ := hrel
        have HGT := Lib.hid hgt
        have HGE := Lib.hid hge
        have HBI := Lib.hid hbi
        have hszi := hbi.size
        rw [hwo] at HSB HO1 HO2 HBEL hgl
        clear hgt hge
        rcases Nat.eq_zero_or_pos k with hk0 | hk0
        · subst hk0
          clear hbi
          rw [show ((0 : Nat) : Int) - 1 = -1 from rfl]
          have q0 : (0 : Int) ≤ (q : Int) := by omega
          have q1 : (q : Int) < (n1 : Int) := by omega
          have hlq := HL.out.1
          have hlo := HL.out.2
          have hb0 := HBEL.out.trans (HBI.out.mono HBEL.out.size)
          have ho1 := HO1.out.below HBI.out
          have ho2 := HO2.out.below HBI.out
          obtain ⟨c0, c1', c2', c3⟩ := (HSB.out.below HBI.out).at (j := q) (by omega)
          have HB0 := Lib.hid hb0
          obtain ⟨m, hm⟩ : ∃ m, rg left q = m := ⟨_, rfl⟩
          rw [hm] at c0 c1' c2' c3
          have HM := Lib.hid hm
          have hsz0 := hb0.size
          clear hm hb0
          go_wp2_with (at_builtin; refine wpList_append_m _ rfl (.tmp 43) (.tmp 48) _ rfl w.heap.size i0 _ Try.underlying22 hi0 hz0 hz1 hz2 rfl A2 n2 c2 out rfl (ho2.below ((Below.refl _ _).alloc (Nat.le_refl _) _)) (some ⟨wr.heap.size, 0, none⟩) 1 1 [m] rfl rfl (.inr ⟨_, rfl, fun j u hu => by rw [ad_plain]; refine ((Bk.new wr 27 (sc m).toArray).cell j).trans ?_; rw [List.getElem?_toArray]; simpa using hu⟩) (by omega) (by simp; omega) ?_)
          intro A3 c4 w4 ho3 hap3 hb4 hs4
          have ho14 := (ho1.below ((Below.refl _ _).alloc (Nat.le_refl _) _)).apart hap3 HNE.out
          have HB4 := Lib.hid ((HB0.out.alloc hsz0 (.cells (sc m).toArray 27)).trans hb4)
          have hsz4 := HB4.out.size
          have hsb4 : SB w4 g left := by
            rcases ho14.rs.1.2 with ⟨h, _⟩ | ⟨g', e, _, h⟩
            · cases h
            · simp only [Option.some.injEq, Addr.mk.injEq] at e; rw [e.1]; exact h
          have hg4 := hsb4.lt
          have eL : left = left.take q ++ (m :: left.drop (q + 1)) := by
            have e1 := List.take_append_drop q left
            rw [List.drop_eq_getElem_cons (by omega), rg_get, HM.out] at e1
            exact e1.symm
          have hs1 := hsb4.src [] (left.take q) (m :: left.drop (q + 1)) (by simpa using eL)
          have HS1 := Lib.hid (show ∀ j u, ((left.take q).flatMap sc)[j]? = some u → w4.cell? ((⟨g, 0, none⟩ : Addr).add j) = some u from fun j u hu => by rw [ad_plain]; simpa using hs1 j u hu)
          have HO3 := Lib.hid ho3
          have HO14 := Lib.hid ho14
          have HEL := Lib.hid eL
          have qc : q ≤ c1 := by omega
          have qci : (q : Int) ≤ (c1 : Int) := by omega
          have i4 : IntKind.i64.wrap ((q : Int) + 1) = ((q + 1 : Nat) : Int) := by rw [IntWalk.i64_in _ (by omega)]; omega
          clear ho3 hap3 hb4 ho14 hsb4 eL hs1 ho1 ho2 c0 c1' c2' c3
          go_wp2_with (at_builtin; refine wpList_append_m _ rfl (.tmp 50) (.tmp 53) _ rfl w.heap.size i0 _ Try.underlying22 hi0 hz0 hz1 hz2 rfl none 0 0 [] rfl (OwnS.nil _ _) (some ⟨g, 0, none⟩) q c1 (left.take q) rfl (by rw [List.length_take]; omega) (.inr ⟨_, rfl, HS1.out⟩) (by omega) hsz4 ?_)
          intro A5 c5 w5 ho5 hap5 hb5 hs5
          have ho5' : OwnS w5 w.heap.size A5 q c5 (left.take q) := by simpa using ho5
          have ho15 := HO14.out.apart hap5 (fun _ _ _ h => absurd h (by simp))
          have ho35 := HO3.out.apart hap5 (fun _ _ _ h => absurd h (by simp))
          have HB5 := Lib.hid (HB4.out.trans hb5)
          have hsz5 := HB5.out.size
          have hsb5 : SB w5 g left := by
            rcases ho15.rs.1.2 with ⟨h, _⟩ | ⟨g', e, _, h⟩
            · cases h
            · simp only [Option.some.injEq, Addr.mk.injEq] at e; rw [e.1]; exact h
          have hs2 := hsb5.src (left.take q ++ [m]) (left.drop (q + 1)) [] (by rw [List.append_assoc]; simpa using HEL.out)
          have hlx : (left.take q ++ [m]).length = q + 1 := by rw [List.length_append, List.length_take]; simp; omega
          rw [hlx] at hs2
          have HA5 := Lib.hid (show ∀ ad, A5 = some ad → ad.block = w4.heap.size from fun ad h => by
            rcases hap5.2 ad h with ⟨_, h', _⟩ | h'
            · simp at h'
            · exact h')
          have HO5 := Lib.hid ho5'
          have HO35 := Lib.hid ho35
          have HL3 := Lib.hid HO3.out.lt
          have HS5 := Lib.hid hs5
          have k1 : q + 1 ≤ n1 := by omega
          have HLD := Lib.hid (show (left.drop (q + 1)).length = n1 - (q + 1) by rw [List.length_drop]; omega)
          have HQ := Lib.hid (srt_take (now := now) (L := left) (q := q) (by omega) (fun j h1 h2 => HGT.out j h1 (by omega)) (fun j h => HGE.out j (Nat.zero_le _) h))
          clear ho5 ho5' hap5 hb5 ho15 ho35 hsb5 hlx
          by_cases hcq : c1 = q + 1
          · have HS2 := Lib.hid (show ∀ j u, ((left.drop (q + 1)).flatMap sc)[j]? = some u → w5.cell? ((⟨g, 0, none⟩ : Addr).add j) = some u from fun j u hu => by
              have : left.drop (q + 1) = [] := List.eq_nil_of_length_eq_zero (by rw [HLD.out]; omega)
              rw [this] at hu; simp at hu)
            clear hs2
            go_wp2_with (at_builtin; refine wpList_append_m _ rfl (.tmp 55) (.tmp 59) _ rfl w.heap.size i0 _ Try.underlying22 hi0 hz0 hz1 hz2 rfl A5 q c5 (left.take q) rfl HO5.out (some ⟨g, 0, none⟩) (n1 - (q + 1)) _ (left.drop (q + 1)) rfl HLD.out (.inr ⟨_, rfl, HS2.out⟩) (by omega) hsz5 ?_)
            intro A6 c6 w6 ho6 hap6 hb6 hs6
            have HW := Lib.hid (And.intro ho6 (And.intro (HO35.out.apart hap6 (fun e ad h1 h2 => by have := HL3.out e h1; have := HA5.out ad h2; omega)) (And.intro (show ∀ e ad, A6 = some e → A3 = some ad → e.block ≠ ad.block from fun e ad h1 h2 => by
              have h3 := HL3.out ad h2
              have h4 := HS5.out
              rcases hap6.2 e h1 with ⟨ad0, h5, h6⟩ | h6
              · have := HA5.out ad0 h5; omega
              · omega) (HB5.out.trans hb6))))
            clear ho6 hap6 hb6
            go_wp2_with fail
            go_roundw
            case rel => exact ⟨A6, A3, c6, c4, _, n2 + 1, left.take q ++ left.drop (q + 1), out ++ [m], rfl, rfl, HW.out.1, HW.out.2.1, HW.out.2.2.1, by rw [← HSRT.out, HQ.out, HM.out]; simp, by omega, HW.out.2.2.2⟩
            case measure => simp [sliceLen]; omega
          · have HS2 := Lib.hid (show ∀ j u, ((left.drop (q + 1)).flatMap sc)[j]? = some u → w5.cell? ((⟨g, (q + 1) * 4, none⟩ : Addr).add j) = some u from fun j u hu => by
              rw [show (⟨g, (q + 1) * 4, none⟩ : Addr).add j = ⟨g, (q + 1) * 4 + j, none⟩ by unfold Addr.add; split <;> simp_all]
              exact hs2 j u hu)
            clear hs2
            go_wp2_with (at_builtin; refine wpList_append_m _ rfl (.tmp 55) (.tmp 59) _ rfl w.heap.size i0 _ Try.underlying22 hi0 hz0 hz1 hz2 rfl A5 q c5 (left.take q) rfl HO5.out (some ⟨g, (q + 1) * 4, none⟩) (n1 - (q + 1)) _ (left.drop (q + 1)) rfl HLD.out (.inr ⟨_, rfl, HS2.out⟩) (by omega) hsz5 ?_)
            intro A6 c6 w6 ho6 hap6 hb6 hs6
            have HW := Lib.hid (And.intro ho6 (And.intro (HO35.out.apart hap6 (fun e ad h1 h2 => by have := HL3.out e h1; have := HA5.out ad h2; omega)) (And.intro (show ∀ e ad, A6 = some e → A3 = some ad → e.block ≠ ad.block from fun e ad h1 h2 => by
              have h3 := HL3.out ad h2
              have h4 := HS5.out
              rcases hap6.2 e h1 with ⟨ad0, h5, h6⟩ | h6
              · have := HA5.out ad0 h5; omega
              · omega) (HB5.out.trans hb6))))
            clear ho6 hap6 hb6
            go_wp2_with fail
            go_roundw
            case rel => exact ⟨A6, A3, c6, c4, _, n2 + 1, left.take q ++ left.drop (q + 1), out ++ [m], rfl, rfl, HW.out.1, HW.out.2.1, HW.out.2.2.1, by rw [← HSRT.out, HQ.out, HM.out]; simp, by omega, HW.out.2.2.2⟩
            case measure => simp [sliceLen]; omega
        · obtain ⟨p, rfl⟩ : ∃ p, k = p + 1 := ⟨k - 1, by omega⟩
          rw [show ((p + 1 : Nat) : Int) - 1 = (p : Int) by omega]
          have p0 : (0 : Int) ≤ (p : Int) := by omega
          have p1 : (p : Int) < (n1 : Int) := by omega
          have q0 : (0 : Int) ≤ (q : Int) := by omega
          have q1 : (q : Int) < (n1 : Int) := by omega
          have i3 : IntKind.i64.wrap ((p : Int) - 1) = (p : Int) - 1 := IntWalk.i64_in _ (by omega)
          have DD := fun j (hj : j < n1) w' (h : Below wr.heap.size wr w') => ((HSB.out.below hbi).below h).at (j := j) (by have := HL.out.1; omega)
          have C0 : ∀ w', Below wr.heap.size wr w' → w'.cell? ⟨g, p * 4, none⟩ = some (.int .i64 (rg left p).o) := fun w' h => (DD p (by omega) w' h).1
          have C1 : ∀ w', Below wr.heap.size wr w' → w'.cell? ⟨g, p * 4 + 1, none⟩ = some (.int .i64 (rg left p).d) := fun w' h => (DD p (by omega) w' h).2.1
          have C2 : ∀ w', Below wr.heap.size wr w' → w'.cell? ⟨g, p * 4 + 2, none⟩ = some (.int .i64 (rg left p).p) := fun w' h => (DD p (by omega) w' h).2.2.1
          have C3 : ∀ w', Below wr.heap.size wr w' → w'.cell? ⟨g, p * 4 + 3, none⟩ = some (.int .i64 (rg left p).a) := fun w' h => (DD p (by omega) w' h).2.2.2
          have D0 : ∀ w', Below wr.heap.size wr w' → w'.cell? ⟨g, q * 4, none⟩ = some (.int .i64 (rg left q).o) := fun w' h => (DD q hqn w' h).1
          have D1 : ∀ w', Below wr.heap.size wr w' → w'.cell? ⟨g, q * 4 + 1, none⟩ = some (.int .i64 (rg left q).d) := fun w' h => (DD q hqn w' h).2.1
          have D2 : ∀ w', Below wr.heap.size wr w' → w'.cell? ⟨g, q * 4 + 2, none⟩ = some (.int .i64 (rg left q).p) := fun w' h => (DD q hqn w' h).2.2.1
          have D3 : ∀ w', Below wr.heap.size wr w' → w'.cell? ⟨g, q * 4 + 3, none⟩ = some (.int .i64 (rg left q).a) := fun w' h => (DD q hqn w' h).2.2.2
          have hD1 := fun w => rdist_any w (rg left p) now
          have hD2 := fun w => rdist_any w (rg left q) now
          have HE := Lib.hid (And.intro (show distN (rg left p) now = distN (rg left p) now from rfl) trivial)
          obtain ⟨d1, hd1⟩ : ∃ d, distN (rg left p) now = d := ⟨_, rfl⟩
          obtain ⟨d2, hd2⟩ : ∃ d, distN (rg left q) now = d := ⟨_, rfl⟩
          have HD := Lib.hid (And.intro hd1 hd2)
          rw [hd1] at hD1
          rw [hd2] at hD2
          clear HE hd1 hd2 DD hbi
          obtain ⟨u, hu⟩ : ∃ u, rg left p = u := ⟨_, rfl⟩
          rw [hu] at hD1 C0 C1 C2 C3
          clear hu
          obtain ⟨v, hv⟩ : ∃ v, rg left q = v := ⟨_, rfl⟩
          rw [hv] at hD2 D0 D1 D2 D3
          clear hv
          obtain ⟨uo, ud, up, ua⟩ := u
          obtain ⟨vo, vd, vp, va⟩ := v
          unfold sv at hD1 hD2
          go_upto_region 8 with (fail)
          (refine region_told _ (by kernel_rfl) (by kernel_rfl) (by simp only [putAll, Act.put, List.setIfInBounds_toArray, List.set_cons_zero, List.set_cons_succ, Nat.reduceAdd]; rfl) ?_)
          iterate 5 (refine told_step (fun v _ => v = _) (Stays.eq _) (by intro y w' hw' hd; simp only [depsOf, updG, Region.binds, Nat.reduceAdd, Nat.reduceEqDiff, if_false, if_true, and_true, true_and, forall_const, Array.toList, GTrue] at hd; (try go_split_ands); unfold toldAt; go_simp; exact ⟨Below.refl _ _, rfl⟩) ?_)
          (refine told_step (fun v _ => v = _) (Stays.eq _) (by intro y w' hw' hd; simp only [depsOf, updG, Region.binds, Nat.reduceAdd, Nat.reduceEqDiff, if_false, if_true, and_true, true_and, forall_const, Array.toList, GTrue] at hd; (try go_split_ands); unfold toldAt; go_simp; refine ⟨Below.refl _ _, ?_⟩; exact hD1 w') ?_)
          iterate 5 (refine told_step (fun v _ => v = _) (Stays.eq _) (by intro y w' hw' hd; simp only [depsOf, updG, Region.binds, Nat.reduceAdd, Nat.reduceEqDiff, if_false, if_true, and_true, true_and, forall_const, Array.toList, GTrue] at hd; (try go_split_ands); unfold toldAt; go_simp; exact ⟨Below.refl _ _, rfl⟩) ?_)
          (refine told_step (fun v _ => v = _) (Stays.eq _) (by intro y w' hw' hd; simp only [depsOf, updG, Region.binds, Nat.reduceAdd, Nat.reduceEqDiff, if_false, if_true, and_true, true_and, forall_const, Array.toList, GTrue] at hd; (try go_split_ands); unfold toldAt; go_simp; refine ⟨Below.refl _ _, ?_⟩; exact hD2 w') ?_)
          repeat (refine told_step (fun v _ => v = _) (Stays.eq _) (by intro y w' hw' hd; simp only [depsOf, updG, Region.binds, Nat.reduceAdd, Nat.reduceEqDiff, if_false, if_true, and_true, true_and, forall_const, Array.toList, GTrue] at hd; (try go_split_ands); unfold toldAt; go_simp; exact ⟨Below.refl _ _, rfl⟩) ?_)
          (refine told_nil ?_; intro y w3 hw3 hd)
          have H12 : y 12 = .bool (decide (d1 < d2)) := hd 12 (by decide)
          rw [H12]
          clear hd H12 C0 C1 C2 C3 D0 D1 D2 D3
          have HW := Lib.hid (HBI.out.trans (hw3.mono hszi))
          clear hw3
          by_cases hlt : d1 < d2
          · rw [decide_eq_true hlt]
            go_wp2_with fail
            go_roundw
            case rel =>
              obtain ⟨e1, e2⟩ := HD.out
              refine ⟨p, p, rfl, by go_num, Nat.le_refl _, by omega, fun j h1 h2 => ?_, fun j h1 h2 => absurd h2 (by omega), HW.out⟩
              rw [e1]
              rcases Nat.lt_trichotomy j q with h3 | h3 | h3
              · have := HGE.out j (by omega) h3; omega
              · subst h3; omega
              · have := HGT.out j h3 h2; omega
            case measure => simp [intOf]
          · rw [decide_eq_false hlt]
            go_wp2_with fail
            go_roundw
            case rel =>
              obtain ⟨e1, e2⟩ := HD.out
              refine ⟨q, p, rfl, by go_num, by omega, hqn, HGT.out, fun j h1 h2 => ?_, HW.out⟩
              rcases Nat.eq_or_lt_of_le h1 with h3 | h3
              · subst h3; omega
              · exact HGE.out j h3 h2
            case measure => simp [intOf]
end Go.Proofs.Ytbiajjdjbnnggaa
