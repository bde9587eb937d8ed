/- Texts of this claim, joined: T3, T4, T5, Br, T6. -/
import Derived.Test.YtiimflmbcgnbeaaT2
import Derived.Test.YtiimflmbcgnbeaaSf
import Derived.Test.YtiimflmbcgnbeaaBy
import Derived.SizedLaws
import Derived.Test.YtiimflmbcgnbeaaWSized

/- The document's digest: a digest's bytes, its beginning, a key's, an expansion: the walks. -/
namespace Go.Proofs.Ytiimflmbcgnbeaa
set_option linter.unusedSimpArgs false
set_option linter.unusedVariables false
open Go.RowKit Go.Proofs.YtiimflmbcgnbeaaW.PrintWords Go.Proofs.YtiimflmbcgnbeaaW.PrintMore Go.Proofs.Ytiimflmbcgnbeaa.Sa

theorem four_f (n : Nat) (hn : n < 4294967296) : clepsydraref02_Four.f 5 (n : Int) = some (cI (four4 n)) := by
  have s : ∀ (k i : Nat), i ≤ 3 → ∀ ys : List Nat, ys.length < 10 → clepsydraref02_Four.l0 (k + 1) (n : Int) (cI ys) (i : Int) = clepsydraref02_Four.l0 k (n : Int) (cI (ys ++ [n / 256 ^ i % 256])) (wrap64 ((i : Int) - 1)) := by
    intro k i hi ys hy
    have e1 : wrap64 (8 * (i : Int)) = ((8 * i : Nat) : Int) := by unfold wrap64; omega
    have e2 : IntKind.u64.wrap ((8 * i : Nat) : Int) = ((8 * i : Nat) : Int) := by rw [IntKind.wrap_u64]; omega
    have e3 : shr .u32 (n : Int) ((8 * i : Nat) : Int) % 256 = ((n / 256 ^ i % 256 : Nat) : Int) := by
      unfold shr
      rw [Int.toNat_natCast, Nat.min_eq_left (by show 8 * i ≤ 32; omega)]
      exact shr_by8 n i
    rw [clepsydraref02_Four.l0, e1, e2, if_pos (by omega), if_pos (by omega), cI_length, if_pos (by omega), e3, cI_append, cI_one]
  have h3 := s 4 3 (by omega) [] (by simp)
  have w3 : wrap64 (((3 : Nat) : Int) - 1) = ((2 : Nat) : Int) := by unfold wrap64; omega
  have w2 : wrap64 (((2 : Nat) : Int) - 1) = ((1 : Nat) : Int) := by unfold wrap64; omega
  have w1 : wrap64 (((1 : Nat) : Int) - 1) = ((0 : Nat) : Int) := by unfold wrap64; omega
  have w0 : wrap64 (((0 : Nat) : Int) - 1) = -1 := by unfold wrap64; omega
  unfold clepsydraref02_Four.f
  rw [show (3 : Int) = ((3 : Nat) : Int) from rfl, show ([] : List Int) = cI [] from rfl, h3, w3, s 3 2 (by omega) _ (by simp), w2, s 2 1 (by omega) _ (by simp), w1, s 1 0 (by omega) _ (by simp), w0]
  rw [clepsydraref02_Four.l0, if_neg (by omega)]
  simp [four4]
theorem rfour_any (w : World) {n : Nat} (hn : n < 4294967296) :
    Calls Try.prog 59 #[.int .u32 (n : Int)] w fun e w' => ∃ A c, e = .returned (.slice A 4 c) ∧ Own .u8 5 w' w.heap.size A 4 c (four4 n) ∧ Below w.heap.size w w' :=
  (clepsydraref02_Four.calls 5 _ _ w (four_f n hn)).mono fun e w' ⟨v, he, hr, hb⟩ => by
    obtain ⟨A, c, rfl, ho⟩ := own_of_ret hr
    exact ⟨A, c, he, ho, hb⟩
theorem rslice_any (w : World) {D : List Nat} (hD : D.length = 32) :
    Calls Try.prog 58 #[.agg (va .u8 D)] w fun e w' => ∃ A c, e = .returned (.slice A 32 c) ∧ Own .u8 5 w' w.heap.size A 32 c D ∧ Below w.heap.size w w' := by
  go_enter Try.func58, Try.ntmps58
  obtain ⟨i0, hi0, hz0, hz1, hz2⟩ := info_parts u8_info
  go_upto_region 1 with (fail)
  have hk := Bk.new w 26 (va .u8 D)
  have hl := (Below.refl w.heap.size w).alloc (Nat.le_refl _) (.cells (va .u8 D) 26)
  have hs : (w.alloc (.cells (va .u8 D) 26)).heap.size = w.heap.size + 1 := by simp
  obtain ⟨g, hg⟩ : ∃ z, w.heap.size = z := ⟨_, rfl⟩
  generalize w.alloc (.cells (va .u8 D) 26) = w1 at hk hl hs ⊢
  rw [hg] at hk hl hs ⊢
  have HK := Lib.hid hk
  have HL := Lib.hid hl
  clear hk hl
  go_wp2_with fail
  go_loopw [3, 4] (fun o i wr => ∃ (t : Nat) (A : Option Addr) (c : Nat), t ≤ 32 ∧ i = .int .i64 (t : Int) ∧ o = .slice A t c ∧ Own .u8 5 wr (g + 1) A t c (D.take t) ∧ Below (g + 1) w1 wr) (fun _ i _ => 32 - (intOf i).toNat)
  case atStart => exact ⟨0, none, 0, by omega, rfl, rfl, Own.nil _ _ _ _, Below.refl _ _⟩
  case round =>
    obtain ⟨t, A, c, ht, rfl, rfl, hown, hbel⟩ := hrel
    have hsr := hbel.size
    by_cases hlt : t < 32
    · obtain ⟨x, ex⟩ : ∃ z, gd D t = z := ⟨_, rfl⟩
      have cx := ((HK.out.below hbel (by omega)).cell t).trans (va_at .u8 (by rw [hD]; exact hlt))
      rw [ex] at cx
      have a1 : (t : Int) < 32 := by omega
      have a0 : (0 : Int) ≤ (t : Int) := by omega
      have htk : D.take t ++ [x] = D.take (t + 1) := by rw [List.take_succ_eq_append_getElem (by omega), ← gd_lt (by omega), ex]
      have HTK := Lib.hid htk
      have HOWN := Lib.hid hown
      have HBEL := Lib.hid hbel
      clear ex htk hown hbel
      go_upto_region 5 with (fail)
      refine wp_region_lit ?_
      (refine wpList_plain rfl (fun K hK => ?_); go_simp; refine hK _ _ ?_; clear hK K)
      (refine wpList_plain rfl (fun K hK => ?_); go_simp; refine hK _ _ ?_; clear hK K)
      (refine wpList_plain rfl (fun K hK => ?_); go_simp; refine hK _ _ ?_; clear hK K)
      (refine wpList_plain rfl (fun K hK => ?_); go_simp; refine hK _ _ ?_; clear hK K)
      (refine wpList_plain rfl (fun K hK => ?_); go_simp; refine hK _ _ ?_; clear hK K)
      have hr := (Own.of_bk (k := .u8) (xs := [x]) (base := 0) (Bk.new wr 5 (va .u8 [x])) (Nat.zero_le _) rfl (by simp)).rd
      have hn := (Below.refl wr.heap.size wr).alloc (Nat.le_refl _) (.cells (va .u8 [x]) 5)
      have ho := HOWN.out.below hn
      have hb := HBEL.out.trans (hn.mono (by omega))
      rw [show Obj.cells #[.int .u8 (x : Int)] 5 = Obj.cells (va .u8 [x]) 5 from rfl]
      generalize wr.alloc (.cells (va .u8 [x]) 5) = w2 at hr hn ho hb ⊢
      have hsb := hb.size
      have i1 : IntKind.i64.wrap ((t : Int) + 1) = (t : Int) + 1 := IntWalk.i64_in _ (by omega)
      go_wp2_with (at_builtin; refine wpList_append_rd _ rfl (.tmp 9) (.tmp 13) _ rfl .u8 (g + 1) 5 i0 (.int .u8 0) 1 Try.underlying22 hi0 hz0 hz1 hz2 rfl A t c (D.take t) rfl ho _ _ _ _ rfl hr (by unfold maxLen; omega) (by omega) (by omega) ?_)
      intro A' c' w3 ho' hb' _ _
      go_wp2_with fail
      rw [HTK.out] at ho'
      exact ⟨⟨t + 1, A', c', by omega, by go_num, rfl, ho', hb.trans hb'⟩, by simp [intOf]; omega⟩
    · obtain rfl : t = 32 := by omega
      rw [show ((32 : Nat) : Int) = (32 : Int) from rfl]
      rw [List.take_of_length_le (by omega)] at hown
      have hbe := HL.out.trans (hbel.mono (by omega))
      go_wp2_with fail
      go_ret
      rw [hg]
      exact ⟨A, c, rfl, hown.lower (by omega), hbe⟩
theorem rkeyed_any (w : World) {a b : List Nat} {A B : Option Addr} {n c m d : Nat} (ha : Rd .u8 w A n c a) (a8 : B8 a) (hb : Rd .u8 w B m d b) (b8 : B8 b) (hlen : n + m < 1000000000000) :
    Calls Try.prog 30 #[.slice A n c, .slice B m d] w fun e w' => e = .returned (.agg (va .u8 (shaN (a ++ b)))) ∧ Below w.heap.size w w' := by
  go_enter Try.func30, Try.ntmps30
  go_upto_region 1 with (fail)
  rw [show Obj.cells #[.int .u8 0, .int .u8 0, .int .u8 0, .int .u8 0, .int .u8 0, .int .u8 0, .int .u8 0, .int .u8 0, .int .u8 0, .int .u8 0, .int .u8 0, .int .u8 0, .int .u8 0, .int .u8 0, .int .u8 0, .int .u8 0, .int .u8 0, .int .u8 0, .int .u8 0, .int .u8 0, .int .u8 0, .int .u8 0, .int .u8 0, .int .u8 0, .int .u8 0, .int .u8 0, .int .u8 0, .int .u8 0, .int .u8 0, .int .u8 0, .int .u8 0, .int .u8 0] 26 = Obj.cells (va .u8 (List.replicate 32 0)) 26 from rfl]
  have ho1 := Bk.new w 26 (va .u8 (List.replicate 32 0))
  have hl1 := (Below.refl w.heap.size w).alloc (Nat.le_refl _) (.cells (va .u8 (List.replicate 32 0)) 26)
  generalize w.alloc (.cells (va .u8 (List.replicate 32 0)) 26) = w1 at ho1 hl1 ⊢
  have hlt := ho1.lt
  refine wp_region_lit ?_
  (refine wpList_plain rfl (fun K hK => ?_); go_simp; refine hK _ _ ?_; clear hK K)
  (refine wpList_plain rfl (fun K hK => ?_); go_simp; refine hK _ _ ?_; clear hK K)
  refine wpl_call rfl (w' := w1) (f := 19) (args := #[.slice A n c, .slice B m d]) (by kernel_rfl) (rjoin_any w1 (ha.below hl1) (hb.below hl1) (by omega)) ?_
  rintro e w2 ⟨A2, c2, rfl, o2, b2⟩
  refine ⟨_, rfl, ?_⟩
  refine wpl_call rfl (w' := w2) (f := 21) (args := #[.slice A2 (n + m) c2]) (by kernel_rfl) (refSum_any w2 o2.rd (a8.append b8) hlen) ?_
  rintro e w3 ⟨rfl, b3⟩
  refine ⟨_, rfl, ?_⟩
  have hsz2 := b2.size
  have ho3 := (ho1.below b2 hlt).below b3 (by omega)
  have hl3 := (hl1.trans (b2.mono (by omega))).trans (b3.mono (by omega))
  have ls : (shaN (a ++ b)).length = 32 := shaN_length _
  refine wpList_store_row rfl 26 _ _ rfl w.heap.size (va .u8 (shaN (a ++ b))) (by kernel_rfl) (by kernel_rfl) 26 (va .u8 (List.replicate 32 0)) ho3 (out_info.trans (by rw [va_size, ls])) (by rw [va_size, va_size, ls, List.length_replicate]) (va_all _ _) ?_
  refine wpList_nil ?_
  have hst := Bk.row ho3 (va .u8 (shaN (a ++ b)))
  have hbl := below_row hl3 (Nat.le_refl _) (va .u8 (shaN (a ++ b)))
  generalize w3.setRow w.heap.size (va .u8 (shaN (a ++ b))) = wq at hst hbl ⊢
  go_wp2_with fail
  refine bodyPost_ret (v := .agg (va .u8 (shaN (a ++ b)))) ?_ rfl ⟨rfl, hbl⟩
  simp [results, Try.results30, asAddr, Result.andThen]
  exact run_loadVar_row _ _ _ _ _ _ _ hst Try.underlying26 rfl (out_info.trans (by rw [va_size, ls]))
theorem rtrunc_out (w : World) (v : Value) (z : Int) (hz : z < 0 ∨ 32 < z) : Calls Try.prog 29 #[v, .int .i64 z] w fun e w' => e = .returned (.tuple #[.slice none 0 0, .int .i64 1]) ∧ Below w.heap.size w w' := by
  go_enter Try.func29, Try.ntmps29
  rcases hz with hz | hz
  · go_wp2
    go_ret2
    exact ⟨rfl, Below.refl _ _⟩
  · have hz2 : ¬ z < 0 := by omega
    go_wp2
    go_ret2
    exact ⟨rfl, Below.refl _ _⟩
theorem rtrunc_any (w : World) {b : List Nat} {B : Option Addr} {m d n : Nat} (hb : Rd .u8 w B m d b) (b8 : B8 b) (hlen : m < 1000000000000) (hn : n ≤ 32) :
    Calls Try.prog 29 #[.slice B m d, .int .i64 (n : Int)] w fun e w' => ∃ A c, e = .returned (.tuple #[.slice A n c, .int .i64 0]) ∧ Rd .u8 w' A n c ((shaN b).take n) ∧ Below w.heap.size w w' := by
  have h1 : ¬ (n : Int) < 0 := by omega
  have h2 : ¬ 32 < (n : Int) := by omega
  have hs := refSum_any w hb b8 hlen
  obtain ⟨D, hD⟩ : ∃ z, shaN b = z := ⟨_, rfl⟩
  have ls : D.length = 32 := by rw [← hD]; exact shaN_length b
  rw [hD] at hs
  rw [hD]
  go_enter Try.func29, Try.ntmps29
  go_upto_region 4 with (first
    | (go_at_call 58; refine (rslice_any _ ls).mono ?_; rintro e w2 ⟨A, c, rfl, o2, b2⟩)
    | (go_at_call 21; refine hs.mono ?_; rintro e w1 ⟨rfl, b1⟩))
  have hcap := o2.rd.cap
  have h3 : (0 : Int) ≤ (n : Int) := by omega
  have h4 : (n : Int) ≤ (c : Int) := by omega
  have hbe := b1.trans (b2.mono b1.size)
  go_wp2_with fail
  go_ret2
  exact ⟨A, c, rfl, o2.rd.take hn, hbe⟩
theorem rexpand_low (w : World) (v : Value) (z : Int) (hz : z < 0) : Calls Try.prog 32 #[v, .int .i64 z] w fun e w' => e = .returned (.tuple #[.slice none 0 0, .int .i64 1]) ∧ Below w.heap.size w w' := by
  go_enter Try.func32, Try.ntmps32
  go_wp2
  go_ret2
  exact ⟨rfl, Below.refl _ _⟩
theorem rexpand_high (w : World) (v : Value) (z : Int) (hz : 4096 < z) : Calls Try.prog 32 #[v, .int .i64 z] w fun e w' => e = .returned (.tuple #[.slice none 0 0, .int .i64 2]) ∧ Below w.heap.size w w' := by
  have hz2 : ¬ z < 0 := by omega
  go_enter Try.func32, Try.ntmps32
  go_wp2
  go_ret2
  exact ⟨rfl, Below.refl _ _⟩
set_option maxHeartbeats 1000000 in
theorem rexpand_any (w : World) {s : List Nat} {B : Option Addr} {m d n : Nat} (hb : Rd .u8 w B m d s) (b8 : B8 s) (hlen : m < 100000000000) (hn : n ≤ 4096) :
    Calls Try.prog 32 #[.slice B m d, .int .i64 (n : Int)] w fun e w' => ∃ A c, e = .returned (.tuple #[.slice A n c, .int .i64 0]) ∧ Rd .u8 w' A n c (expN s n) ∧ Below w.heap.size w w' := by
  have h1 : ¬ (n : Int) < 0 := by omega
  have h2 : ¬ 4096 < (n : Int) := by omega
  obtain ⟨i0, hi0, hz0, hz1, hz2⟩ := info_parts u8_info
  go_enter Try.func32, Try.ntmps32
  go_wp2_with fail
  go_loopw [6, 7] (fun o i wr => ∃ (k : Nat) (A : Option Addr) (c : Nat), k ≤ 128 ∧ i = .int .i64 (k : Int) ∧ o = .slice A (32 * k) c ∧ Own .u8 5 wr w.heap.size A (32 * k) c (expL s k) ∧ Below w.heap.size w wr) (fun _ i _ => 128 - (intOf i).toNat)
  case atStart => exact ⟨0, none, 0, by omega, rfl, rfl, Own.nil _ _ _ _, Below.refl _ _⟩
  case round =>
    obtain ⟨k, A, c, hk, rfl, rfl, hown, hbel⟩ := hrel
    have e1 : IntKind.i64.wrap (32 * (k : Int)) = 32 * (k : Int) := IntWalk.i64_in _ (by omega)
    have hsr := hbel.size
    have HOWN := Lib.hid hown
    have HBEL := Lib.hid hbel
    by_cases hlt : 32 * k < n
    · have t1 : 32 * (k : Int) < (n : Int) := by omega
      have e2 : IntKind.u32.wrap (k : Int) = (k : Int) := by rw [IntKind.wrap_u32]; omega
      have hf := rfour_any wr (n := k) (by omega)
      obtain ⟨D, hD⟩ : ∃ z, shaN (s ++ four4 k) = z := ⟨_, rfl⟩
      have ls : D.length = 32 := by rw [← hD]; exact shaN_length _
      have HD := Lib.hid (show expL s k ++ D = expL s (k + 1) by rw [← hD]; rfl)
      go_upto_region 9 with (fail)
      refine wp_region_lit ?_
      (refine wpList_plain rfl (fun K hK => ?_); go_simp; refine hK _ _ ?_; clear hK K)
      (refine wpList_plain rfl (fun K hK => ?_); go_simp; refine hK _ _ ?_; clear hK K)
      (refine wpList_plain rfl (fun K hK => ?_); go_simp; refine hK _ _ ?_; clear hK K)
      (refine wpList_plain rfl (fun K hK => ?_); go_simp; refine hK _ _ ?_; clear hK K)
      refine wpl_call rfl (w' := wr) (f := 59) (args := #[.int .u32 (k : Int)]) (by kernel_rfl) hf ?_
      rintro e w2 ⟨A2, c2, rfl, o2, b2⟩
      refine ⟨_, rfl, ?_⟩
      have hs2 := b2.size
      refine wpl_call rfl (w' := w2) (f := 19) (args := #[.slice B m d, .slice A2 4 c2]) (by kernel_rfl) (rjoin_any w2 ((hb.below hbel).below b2) o2.rd (by omega)) ?_
      rintro e w3 ⟨A3, c3, rfl, o3, b3⟩
      refine ⟨_, rfl, ?_⟩
      have hs3 := b3.size
      have hS := refSum_any w3 o3.rd (b8.append (four4_b8 k)) (by omega)
      rw [hD] at hS
      refine wpl_call rfl (w' := w3) (f := 21) (args := #[.slice A3 (m + 4) c3]) (by kernel_rfl) hS ?_
      rintro e w4 ⟨rfl, b4⟩
      refine ⟨_, rfl, ?_⟩
      have hs4 := b4.size
      refine wpl_call rfl (w' := w4) (f := 58) (args := #[.agg (va .u8 D)]) (by kernel_rfl) (rslice_any w4 ls) ?_
      rintro e w5 ⟨A5, c5, rfl, o5, b5⟩
      refine ⟨_, rfl, ?_⟩
      have ho := (((HOWN.out.below b2).below b3).below b4).below b5
      have hbe := (((HBEL.out.trans (b2.mono (by omega))).trans (b3.mono (by omega))).trans (b4.mono (by omega))).trans (b5.mono (by omega))
      have hsb := hbe.size
      have i1 : IntKind.i64.wrap ((k : Int) + 1) = (k : Int) + 1 := IntWalk.i64_in _ (by omega)
      clear hown hbel hf hS b2 b3 b4 b5 o2 o3
      go_wp2_with (at_builtin; refine wpList_append_rd _ rfl (.tmp 18) (.tmp 25) _ rfl .u8 w.heap.size 5 i0 (.int .u8 0) 1 Try.underlying22 hi0 hz0 hz1 hz2 rfl A (32 * k) c (expL s k) rfl ho _ _ _ _ rfl o5.rd (by unfold maxLen; omega) (by omega) hsb ?_)
      intro A' c' w6 ho' hb' _ _
      rw [HD.out] at ho'
      go_wp2_with fail
      exact ⟨⟨k + 1, A', c', by omega, by go_num, rfl, ho', hbe.trans hb'⟩, by simp [intOf]; omega⟩
    · have t1 : decide (32 * (k : Int) < (n : Int)) = false := decide_eq_false (by omega)
      have hR := hown.rd
      have h3 : (0 : Int) ≤ (n : Int) := by omega
      have hcap := hR.cap
      have h4 : (n : Int) ≤ (c : Int) := by omega
      go_wp2_with fail
      go_ret2
      refine ⟨A, c, rfl, ?_, hbel⟩
      rw [← expN_of s n k (by omega)]
      exact hR.take (by omega)
end Go.Proofs.Ytiimflmbcgnbeaa

/- Each text has just its digest; a digest's beginning; an expansion; a Hash that is nil: the walks. -/
namespace Go.Proofs.Ytiimflmbcgnbeaa
set_option linter.unusedSimpArgs false
set_option linter.unusedVariables false
open Go.RowKit Go.Proofs.YtiimflmbcgnbeaaW.PrintWords

theorem long_any (w : World) (A : Option Addr) (n c : Nat) : Calls Try.prog 17 #[.slice A n c] w fun e w' => e = .returned (.bool (decide (400 < (n : Int)))) ∧ w' = w := by
  go_enter Try.func17, Try.ntmps17
  go_wp2
  go_ret
  exact ⟨rfl, rfl⟩
theorem walk_ShaSums (A0 : Option Addr) (n0 c0 : Nat) (b : List Nat) (W : World) (rd0 : Rd .u8 W A0 n0 c0 b) (b8 : B8 b) (al0 : ∀ ad, A0 = some ad → ad.block < W.heap.size) (y0 : n0 * 1 ≤ 140737488351232) :
    Calls Try.prog 3 #[.slice A0 n0 c0] W fun e w' => e = .returned (.bool true) ∧ Below W.heap.size W w' := by
  go_enter Try.func3, Try.ntmps3
  by_cases h1 : (400 : Int) < (n0 : Int)
  · have t1 := decide_eq_true h1
    go_wp2_with (first
      | (go_at_call 17; refine (long_any _ _ _ _).mono ?_; rintro e wl ⟨rfl, rfl⟩)
      | (go_at_call 18; refine (alive_any _).mono ?_; rintro e w1 ⟨rfl, hb1⟩))
    go_ret
    exact ⟨rfl, hb1⟩
  have t1 := decide_eq_false h1
  obtain ⟨D, hD⟩ : ∃ z, shaN b = z := ⟨_, rfl⟩
  have lD : D.length = 32 := by rw [← hD]; exact shaN_length b
  have EQ := fun w' => run_eq32 w' lD lD
  have EG := eq32_guard
  simp only [decide_true] at EQ
  have hj := rjoin_any W rd0 (Rd.nil .u8 W none 0) (by omega)
  rw [List.append_nil, Nat.add_zero] at hj
  go_upto_region 4 with (first
    | (go_at_call 17; refine (long_any _ _ _ _).mono ?_; rintro e wl ⟨rfl, rfl⟩)
    | (go_at_call 19; refine hj.mono ?_; rintro e w1 ⟨A1, c1, rfl, o1, b1⟩))
  have hb := fun w' (h : Below w1.heap.size w1 w') => (b1.trans (h.mono b1.size) : Below wl.heap.size wl w')
  have hS := fun w' (h : Below w1.heap.size w1 w') => pk_any w' (o1.rd.below h) b8 (by omega) (fun ad e => by
    rcases o1.ways with ⟨h', _⟩ | ⟨g, h', _, h2, _⟩
    · rw [h'] at e; cases e
    · rw [h'] at e; cases e; exact Nat.lt_of_lt_of_le h2 h.size)
  have hR := fun w' (h : Below w1.heap.size w1 w') => refSum_any w' (rd0.below (hb w' h)) b8 (by omega)
  have Z1 := fun w' (h : Below w1.heap.size w1 w') => conv_rd (o1.rd.below h)
  have Z2 := fun w' (h : Below w1.heap.size w1 w') => conv_rd (rd0.below (hb w' h))
  rw [hD] at hS hR
  go_wp2_with (first
    | (go_at_call 18; refine (alive_any _).mono ?_; rintro e w2 ⟨rfl, b2⟩)
    | (go_at_call 20; refine (hS _ b2).mono ?_; rintro e w3 ⟨rfl, b3⟩; have b3' := b2.trans (b3.mono b2.size))
    | (go_at_call 21; refine (hR _ b3').mono ?_; rintro e w4 ⟨rfl, b4⟩; have b4' := b3'.trans (b4.mono b3'.size); have z1 := Z1 _ b4'; have z2 := Z2 _ b4'))
  go_ret
  exact ⟨rfl, hb _ b4'⟩
theorem walk_ShaExpands (A0 : Option Addr) (n0 c0 : Nat) (b : List Nat) (n : Int) (W : World) (rd0 : Rd .u8 W A0 n0 c0 b) (b8 : B8 b) (al0 : ∀ ad, A0 = some ad → ad.block < W.heap.size) (y0 : n0 * 1 ≤ 140737488351232) (w1 : (Lit.int .i64 n).wf = true) :
    Calls Try.prog 9 #[.slice A0 n0 c0, .int .i64 n] W fun e w' => e = .returned (.bool true) ∧ Below W.heap.size W w' := by
  go_enter Try.func9, Try.ntmps9
  by_cases h1 : (400 : Int) < (n0 : Int)
  · have t1 := decide_eq_true h1
    go_wp2_with (first
      | (go_at_call 17; refine (long_any _ _ _ _).mono ?_; rintro e wl ⟨rfl, rfl⟩)
      | (go_at_call 18; refine (alive_any _).mono ?_; rintro e w1 ⟨rfl, hb1⟩))
    go_ret
    exact ⟨rfl, hb1⟩
  have t1 := decide_eq_false h1
  have hlen := rd0.len
  by_cases h2 : 4096 < n
  · have t2 : decide (200 < n) = true := decide_eq_true (by omega)
    have t3 : decide (n ≤ 4096) = false := decide_eq_false (by omega)
    have hE := expand_high W (.slice A0 n0 c0) n h2
    go_upto_region 4 with (first
      | (go_at_call 17; refine (long_any _ _ _ _).mono ?_; rintro e wl ⟨rfl, rfl⟩)
      | (go_at_call 31; refine hE.mono ?_; rintro e w1 ⟨rfl, b1⟩))
    have hF := rexpand_high w1 (.slice A0 n0 c0) n h2
    go_wp2_with (first
      | (go_at_call 18; refine (alive_any _).mono ?_; rintro e w3 ⟨rfl, b3⟩; have z1 := conv_rd (Rd.nil .u8 w3 none 0))
      | (go_at_call 32; refine hF.mono ?_; rintro e w2 ⟨rfl, b2⟩))
    go_ret
    exact ⟨rfl, b1.trans ((b2.trans (b3.mono b2.size)).mono b1.size)⟩
  by_cases h3 : 200 < n
  · have t2 : decide (200 < n) = true := decide_eq_true (by omega)
    have t3 : decide (n ≤ 4096) = true := decide_eq_true (by omega)
    go_wp2_with (first
      | (go_at_call 17; refine (long_any _ _ _ _).mono ?_; rintro e wl ⟨rfl, rfl⟩)
      | (go_at_call 18; refine (alive_any _).mono ?_; rintro e w1 ⟨rfl, hb1⟩))
    go_ret
    exact ⟨rfl, hb1⟩
  have t2 : decide (200 < n) = false := decide_eq_false (by omega)
  by_cases h4 : n < 0
  · have hE := expand_low W (.slice A0 n0 c0) n h4
    go_upto_region 4 with (first
      | (go_at_call 17; refine (long_any _ _ _ _).mono ?_; rintro e wl ⟨rfl, rfl⟩)
      | (go_at_call 31; refine hE.mono ?_; rintro e w1 ⟨rfl, b1⟩))
    have hF := rexpand_low w1 (.slice A0 n0 c0) n h4
    go_wp2_with (first
      | (go_at_call 18; refine (alive_any _).mono ?_; rintro e w3 ⟨rfl, b3⟩; have z1 := conv_rd (Rd.nil .u8 w3 none 0))
      | (go_at_call 32; refine hF.mono ?_; rintro e w2 ⟨rfl, b2⟩))
    go_ret
    exact ⟨rfl, b1.trans ((b2.trans (b3.mono b2.size)).mono b1.size)⟩
  obtain ⟨i, rfl⟩ : ∃ i : Nat, n = (i : Int) := ⟨n.toNat, by omega⟩
  obtain rfl := hlen
  have hE := expand_any W rd0 b8 (by omega) al0 (n := i) (by omega)
  go_upto_region 4 with (first
    | (go_at_call 17; refine (long_any _ _ _ _).mono ?_; rintro e wl ⟨rfl, rfl⟩)
    | (go_at_call 31; refine hE.mono ?_; rintro e w1 ⟨A1, c1, rfl, r1, _, b1⟩))
  have hF := rexpand_any w1 (rd0.below b1) b8 (by omega) (n := i) (by omega)
  go_wp2_with (first
    | (go_at_call 18; refine (alive_any _).mono ?_; rintro e w3 ⟨rfl, b3⟩; have z1 := conv_rd ((r1.below b2).below b3); have z2 := conv_rd (r2.below b3))
    | (go_at_call 32; refine hF.mono ?_; rintro e w2 ⟨A2, c2, rfl, r2, b2⟩))
  go_ret
  exact ⟨rfl, b1.trans ((b2.trans (b3.mono b2.size)).mono b1.size)⟩
theorem walk_ShaKeyed (A0 : Option Addr) (n0 c0 : Nat) (a : List Nat) (A1 : Option Addr) (n1 c1 : Nat) (b : List Nat) (n : Int) (W : World) (rd0 : Rd .u8 W A0 n0 c0 a) (a8 : B8 a) (al0 : ∀ ad, A0 = some ad → ad.block < W.heap.size) (y0 : n0 * 1 ≤ 140737488351232)
    (rd1 : Rd .u8 W A1 n1 c1 b) (b8 : B8 b) (al1 : ∀ ad, A1 = some ad → ad.block < W.heap.size) (y1 : n1 * 1 ≤ 140737488351232) (w2 : (Lit.int .i64 n).wf = true) :
    Calls Try.prog 8 #[.slice A0 n0 c0, .slice A1 n1 c1, .int .i64 n] W fun e w' => e = .returned (.bool true) ∧ Below W.heap.size W w' := by
  go_enter Try.func8, Try.ntmps8
  by_cases h1 : (400 : Int) < (n0 : Int)
  · have t1 := decide_eq_true h1
    go_wp2_with (first
      | (go_at_call 17; refine (long_any _ _ _ _).mono ?_; rintro e wl ⟨rfl, rfl⟩)
      | (go_at_call 18; refine (alive_any _).mono ?_; rintro e w1 ⟨rfl, hb1⟩))
    go_ret
    exact ⟨rfl, hb1⟩
  have t1 := decide_eq_false h1
  by_cases h2 : (400 : Int) < (n1 : Int)
  · have t2 := decide_eq_true h2
    go_wp2_with (first
      | (go_at_call 17; refine (long_any _ _ _ _).mono ?_; rintro e wl ⟨rfl, rfl⟩)
      | (go_at_call 18; refine (alive_any _).mono ?_; rintro e w1 ⟨rfl, hb1⟩))
    go_ret
    exact ⟨rfl, hb1⟩
  have t2 := decide_eq_false h2
  obtain ⟨D, hD⟩ : ∃ z, shaN (a ++ b) = z := ⟨_, rfl⟩
  have lD : D.length = 32 := by rw [← hD]; exact shaN_length _
  have EQ := fun w' => run_eq32 w' lD lD
  have EG := eq32_guard
  simp only [decide_true] at EQ
  have hK := fun w' (h : Below W.heap.size W w') => ky_any w' (rd0.below h) a8 (fun ad e => by have := al0 ad e; have := h.size; omega) (rd1.below h) b8 (by omega) (fun ad e => by have := al1 ad e; have := h.size; omega)
  have hR := fun w' (h : Below W.heap.size W w') => rkeyed_any w' (rd0.below h) a8 (rd1.below h) b8 (by omega)
  rw [hD] at hK hR
  by_cases h3 : n < 0 ∨ 32 < n
  · have hE := trunc_out W (.slice A1 n1 c1) n h3
    go_upto_region 4 with (first
      | (go_at_call 17; refine (long_any _ _ _ _).mono ?_; rintro e wl ⟨rfl, rfl⟩)
      | (go_at_call 28; refine hE.mono ?_; rintro e w1 ⟨rfl, b1⟩))
    have hF := rtrunc_out w1 (.slice A1 n1 c1) n h3
    go_wp2_with (first
      | (go_at_call 30; refine (hR _ b4').mono ?_; rintro e w5 ⟨rfl, b5⟩; have b5' := b4'.trans (b5.mono b4'.size))
      | (go_at_call 26; refine (hK _ b3').mono ?_; rintro e w4 ⟨rfl, b4⟩; have b4' := b3'.trans (b4.mono b3'.size))
      | (go_at_call 18; refine (alive_any _).mono ?_; rintro e w3 ⟨rfl, b3⟩; have z1 := conv_rd (Rd.nil .u8 w3 none 0); have b3' := b1.trans ((b2.trans (b3.mono b2.size)).mono b1.size))
      | (go_at_call 29; refine hF.mono ?_; rintro e w2 ⟨rfl, b2⟩))
    go_ret
    exact ⟨rfl, b5'⟩
  obtain ⟨i, rfl⟩ : ∃ i : Nat, n = (i : Int) := ⟨n.toNat, by omega⟩
  obtain rfl := rd1.len
  have hE := trunc_any W rd1 b8 (by omega) al1 (n := i) (by omega)
  go_upto_region 4 with (first
    | (go_at_call 17; refine (long_any _ _ _ _).mono ?_; rintro e wl ⟨rfl, rfl⟩)
    | (go_at_call 28; refine hE.mono ?_; rintro e w1 ⟨A2, c2, rfl, o1, b1⟩))
  have hF := rtrunc_any w1 (rd1.below b1) b8 (by omega) (n := i) (by omega)
  go_wp2_with (first
    | (go_at_call 30; refine (hR _ b4').mono ?_; rintro e w5 ⟨rfl, b5⟩; have b5' := b4'.trans (b5.mono b4'.size))
    | (go_at_call 26; refine (hK _ b3').mono ?_; rintro e w4 ⟨rfl, b4⟩; have b4' := b3'.trans (b4.mono b3'.size))
    | (go_at_call 18; refine (alive_any _).mono ?_; rintro e w3 ⟨rfl, b3⟩; have z1 := conv_rd ((o1.rd.below b2).below b3); have z2 := conv_rd (r2.below b3); have b3' := b1.trans ((b2.trans (b3.mono b2.size)).mono b1.size))
    | (go_at_call 29; refine hF.mono ?_; rintro e w2 ⟨A3, c3, rfl, r2, b2⟩))
  go_ret
  exact ⟨rfl, b5'⟩
end Go.Proofs.Ytiimflmbcgnbeaa

/- A Hash that is nil says so; one that no call made has taken nothing: the walk. -/
namespace Go.Proofs.Ytiimflmbcgnbeaa
set_option linter.unusedSimpArgs false
set_option linter.unusedVariables false
open Go.RowKit Go.Proofs.YtiimflmbcgnbeaaW.PrintWords

set_option maxHeartbeats 1000000 in
theorem walk_ShaNobody (A0 : Option Addr) (n0 c0 : Nat) (b : List Nat) (W : World) (rd0 : Rd .u8 W A0 n0 c0 b) (b8 : B8 b) (al0 : ∀ ad, A0 = some ad → ad.block < W.heap.size) (y0 : n0 * 1 ≤ 140737488351232) :
    Calls Try.prog 7 #[.slice A0 n0 c0] W fun e w' => e = .returned (.bool true) ∧ Below W.heap.size W w' := by
  go_enter Try.func7, Try.ntmps7
  by_cases h1 : (400 : Int) < (n0 : Int)
  · have t1 := decide_eq_true h1
    go_wp2_with (first
      | (go_at_call 17; refine (long_any _ _ _ _).mono ?_; rintro e wl ⟨rfl, rfl⟩)
      | (go_at_call 18; refine (alive_any _).mono ?_; rintro e w1 ⟨rfl, hb1⟩))
    go_ret
    exact ⟨rfl, hb1⟩
  have t1 := decide_eq_false h1
  have hlen := rd0.len
  obtain ⟨D, hD⟩ : ∃ z, shaN b = z := ⟨_, rfl⟩
  have lD : D.length = 32 := by rw [← hD]; exact shaN_length b
  obtain ⟨D0, hD0⟩ : ∃ z, shaN [] = z := ⟨_, rfl⟩
  have lD0 : D0.length = 32 := by rw [← hD0]; exact shaN_length []
  have EQ := fun w' => run_eq32 w' lD lD
  have EQ0 := fun w' => run_eq32 w' lD0 lD0
  obtain ⟨Z, hZ⟩ : ∃ z, List.replicate 32 0 = z := ⟨_, rfl⟩
  have lZ : Z.length = 32 := by rw [← hZ]; rfl
  have EQZ := fun w' => run_eq32 w' lZ lZ
  have EG := eq32_guard
  simp only [decide_true] at EQ EQ0 EQZ
  go_upto_region 5 with (go_at_call 17; refine (long_any _ _ _ _).mono ?_; rintro e wl ⟨rfl, rfl⟩)
  have hk := HS.new wl (wl.heap.size + 5)
  have hl := (Below.refl wl.heap.size wl).alloc (Nat.le_refl _) (.cells (hcells false (List.replicate 8 0) none 0 0 0) 44)
  have hsz : (wl.alloc (.cells (hcells false (List.replicate 8 0) none 0 0 0) 44)).heap.size = wl.heap.size + 1 := by simp
  rw [show Obj.cells #[.bool false, .int .u32 0, .int .u32 0, .int .u32 0, .int .u32 0, .int .u32 0, .int .u32 0, .int .u32 0, .int .u32 0, .slice none 0 0, .int .i64 0] 44 = Obj.cells (hcells false (List.replicate 8 0) none 0 0 0) 44 from rfl]
  obtain ⟨g, hg⟩ : ∃ z, wl.heap.size = z := ⟨_, rfl⟩
  generalize wl.alloc (.cells (hcells false (List.replicate 8 0) none 0 0 0) 44) = w1 at hk hl hsz ⊢
  have al1 : ∀ ad, A0 = some ad → ad.block ≠ g := fun ad e => by have := al0 ad e; omega
  rw [hg] at hk hl hsz ⊢
  have rd1 := rd0.below (by rw [hg]; exact hl)
  have hz : ∀ w', (Op.equalIn 10000 26 (.agg (va .u8 Z)) (.agg #[.int .u8 0, .int .u8 0, .int .u8 0, .int .u8 0, .int .u8 0, .int .u8 0, .int .u8 0, .int .u8 0, .int .u8 0, .int .u8 0, .int .u8 0, .int .u8 0, .int .u8 0, .int .u8 0, .int .u8 0, .int .u8 0, .int .u8 0, .int .u8 0, .int .u8 0, .int .u8 0, .int .u8 0, .int .u8 0, .int .u8 0, .int .u8 0, .int .u8 0, .int .u8 0, .int .u8 0, .int .u8 0, .int .u8 0, .int .u8 0, .int .u8 0, .int .u8 0])).run Try.prog w' = .ok true w' := by
    intro w'
    have := EQZ w'
    rw [← hZ] at this ⊢
    exact this
  have hN := fun w' => sum_nil w'
  rw [hZ] at hN
  go_upto_region 7 with (first
    | (go_at_call 23; refine (write_nil _ _).mono ?_; rintro e w2 ⟨rfl, b2⟩)
    | (go_at_call 27; refine (reset_nil _).mono ?_; rintro e w3 ⟨rfl, rfl⟩)
    | (go_at_call 25; refine (len_nil _).mono ?_; rintro e w4 ⟨rfl, rfl⟩)
    | (go_at_call 24; refine (hN _).mono ?_; rintro e w5 ⟨rfl, b5⟩))
  have b15 := b2.trans (b5.mono b2.size)
  have hk5 := hk.below b15
  have hl5 := hl.trans (b15.mono (by omega))
  have hs5 := b15.size
  have hS0 := fun w' (h : Below w5.heap.size w5 w') => sum_any w' (hk5.below h) (by simp)
  have hR0 := fun w' => refSum_any w' (Rd.nil .u8 w' none 0) B8.nil (by omega)
  have hL := fun w' (h : Below w5.heap.size w5 w') => len_any w' (hk5.below h)
  rw [hD0] at hS0 hR0
  rw [List.length_nil, show ((0 : Nat) : Int) = 0 from rfl] at hL
  have hW := fun w' (h : Below w5.heap.size w5 w') => wr_any w' (hk5.below h) (rd0.below (by rw [hg]; exact hl5.trans (h.mono (by omega)))) al1 b8 (by simp; omega)
  have hR := fun w' (h : Below g wl w') => refSum_any w' (rd0.below (by rw [hg]; exact h)) b8 (by omega)
  rw [hD] at hR
  clear hk hk5 b2 b5 hN hz EQZ
  go_wp2_with (first
    | (go_at_call 21; refine (hR _ be').mono ?_; rintro e wf ⟨rfl, bf⟩; have hge : g ≤ we.heap.size := Nat.le_trans hgd be.size; have bf' := be'.trans (bf.mono hge))
    | (go_at_call 24; refine hSd.mono ?_; rintro e we ⟨rfl, be⟩; have be' := bd'.trans (be.mono hgd))
    | (go_at_call 23; refine (hW _ bc').mono ?_; rintro e wd ⟨rfl, gd, hd⟩
       have hsd : g ≤ wc.heap.size := Nat.le_trans (by omega) bc'.size
       have bd' := (hl5.trans (bc'.mono (by omega))).trans (gd.below (base := g) hsd (Nat.le_refl _))
       have hgd : g ≤ wd.heap.size := by have := bd'.size; omega
       have hSd := sum_any wd hd (by simp; omega)
       rw [List.nil_append, hD] at hSd)
    | (go_at_call 21; refine (hR0 _).mono ?_; rintro e wc ⟨rfl, bc⟩; have bc' := bb'.trans (bc.mono bb'.size))
    | (go_at_call 24; refine (hS0 _ ba).mono ?_; rintro e wb ⟨rfl, bb⟩; have bb' := ba.trans (bb.mono ba.size))
    | (go_at_call 25; refine (hL _ ba).mono ?_; rintro e wx ⟨rfl, rfl⟩)
    | (go_at_call 18; refine (alive_any _).mono ?_; rintro e wa ⟨rfl, ba⟩))
  go_ret
  exact ⟨rfl, by rw [hg]; exact bf'⟩
end Go.Proofs.Ytiimflmbcgnbeaa

/- A statement's arguments: slices of slices of bytes, and of whole numbers, opened. -/
namespace Go.Proofs.Ytiimflmbcgnbeaa
set_option linter.unusedSimpArgs false
set_option linter.unusedVariables false
open Go.ChangeShapes Go.WideShapes Go.ChangeAt Go.RowKit

theorem weights_mem_all {H : Type} {P : Program} {e : TypeId} : ∀ {ds : List (DataW H)} {j : Nat} {d : DataW H}, ds[j]? = some d → ∀ n ∈ d.weights P e, n ∈ DataW.weightsAll P e ds
  | d0 :: ds, 0, d, hd, n, hn => by
    simp only [List.getElem?_cons_zero, Option.some.injEq] at hd
    subst hd
    simp only [DataW.weightsAll, List.mem_append]
    exact Or.inl hn
  | d0 :: ds, j + 1, d, hd, n, hn => by
    simp only [List.getElem?_cons_succ] at hd
    simp only [DataW.weightsAll, List.mem_append]
    exact Or.inr (weights_mem_all hd n hn)
  | [], _, _, hd, _, _ => by simp at hd
/-- a slice whose cells are slices of bytes -/
def RowsOf (W : World) (A : Option Addr) (n : Nat) (bs : List (List Nat)) : Prop :=
  bs.length = n ∧ (0 < n → ∃ ad, A = some ad ∧ ad.block < W.heap.size ∧ ∀ (j : Nat) (b : List Nat), bs[j]? = some b → ∃ Aj nj cj, W.cell? (ad.add j) = some (.slice Aj nj cj) ∧ Rd .u8 W Aj nj cj b ∧ (∀ x ∈ b, x < 256) ∧ nj ≤ 140737488351232)
theorem rows_arg {H : Type} {enc : TypeId × Value → H} {P : Program} {W : World} {t u e : TypeId} {A : Option Addr} {n c : Nat} {d : DataW H} {p : List MemPlace} {ts : List TypeId} {ds : List (DataW H)} {i : Nat}
    (hsz : (DataW.weightsEach P ts ds).all (· ≤ reachBytes) = true) (hti : ts[i]? = some t) (hdi : ds[i]? = some d)
    (ht : P.underlying t = some (.slice u)) (hu : P.underlying u = some (.slice e)) (he : P.underlying e = some (.int .u8)) (hc : P.cellsOf e = 1) (hcu : P.cellsOf u = 1) (hB : P.bytesOf e = 1)
    (h0 : DataW.Trod enc P W 0 (fun _ => true) true t (.slice A n c) d p) : ∃ bs, RowsOf W A n bs ∧ n ≤ 9223372036854775807 ∧ n ≤ c := by
  obtain ⟨fuel, hf⟩ := h0
  rcases DataW.trod_slice ht hf with ⟨hcs, _⟩ | ⟨a, len, cap, elems, rest, m, _, hcs, hx, _, hl, hm, hlen, hel, _⟩
  · simp [Value.cells] at hcs
    obtain ⟨rfl, rfl, rfl⟩ := hcs
    exact ⟨[], ⟨rfl, fun h => absurd h (by omega)⟩, by omega, by omega⟩
  · simp [Value.cells] at hcs
    obtain ⟨rfl, rfl, rfl⟩ := hcs
    have each : ∀ j, j < n → ∃ b : List Nat, ∃ Aj nj cj, W.cell? (a.add j) = some (.slice Aj nj cj) ∧ Rd .u8 W Aj nj cj b ∧ (∀ x ∈ b, x < 256) ∧ nj ≤ 140737488351232 := by
      intro j hj
      have hE := hel j hj
      obtain ⟨y, hy⟩ : ∃ y, elems[j]? = some y := ⟨_, List.getElem?_eq_getElem (by omega)⟩
      rw [hy, hcu, Nat.mul_one, Option.bind_eq_some_iff] at hE
      obtain ⟨cs, hcs, hT⟩ := hE
      have hcell : ∃ v, cs = [v] ∧ W.cell? (a.add j) = some v := by
        have e0 : (a.add j).add 0 = a.add j := by simp [Addr.add]
        unfold World.cells? at hcs
        split at hcs
        · simp only [List.range_succ, List.range_zero, List.nil_append, List.mapM_cons, List.mapM_nil, e0] at hcs
          cases hcc : W.cell? (a.add j) with
          | none => simp [hcc] at hcs
          | some c => simp [hcc] at hcs; exact ⟨c, hcs.symm, rfl⟩
        · cases hcs
      obtain ⟨v, rfl, hv⟩ := hcell
      have hv' : ∃ Aj nj cj, v = .slice Aj nj cj := by
        rcases open_ints hu he hc hT with ⟨h, _⟩ | ⟨x, l, c', zs, h, _⟩
        · exact ⟨none, 0, 0, by simpa using h⟩
        · exact ⟨some x, l, c', by simpa using h⟩
      obtain ⟨Aj, nj, cj, rfl⟩ := hv'
      have hTr : DataW.Trod enc P W 0 (fun _ => true) true u (.slice Aj nj cj) y.1 y.2 := ⟨m, hT⟩
      obtain ⟨xs, _, hr, hw⟩ := nums_arg hu he hc hTr (fun z h => (u8_wf h).1)
      refine ⟨xs, Aj, nj, cj, hv, hr, fun x hx => by have := (u8_wf (hw x hx)).2; omega, ?_⟩
      have hmem : ∀ z ∈ y.1.weights P u, z ≤ reachBytes := by
        intro z hz
        have h1 : z ∈ d.weights P t := by
          obtain ⟨hx1, _⟩ := Prod.mk.inj hx
          rw [hx1]
          have h2 : z ∈ DataW.weightsAll P u (elems.map (·.1)) := weights_mem_all (j := j) (d := y.1) (by rw [List.getElem?_map, hy]; rfl) z hz
          simp only [DataW.weights, ht, List.mem_cons, List.mem_append]
          exact .inr (.inl h2)
        have := List.all_eq_true.1 hsz z (DataW.weights_mem_each hti hdi z h1)
        simpa using this
      have hs1 : (DataW.weightsEach P [u] [y.1]).all (· ≤ reachBytes) = true := by
        rw [List.all_eq_true]
        intro z hz
        simp only [DataW.weightsEach, List.append_nil] at hz
        simpa using hmem z hz
      have := Go.Proofs.YtiimflmbcgnbeaaW.PrintWords.sized_ints hs1 (j := 0) rfl rfl hu he hc hB hTr
      omega
    have hlist : ∀ k, k ≤ n → ∃ bs : List (List Nat), bs.length = k ∧ ∀ (j : Nat) (b : List Nat), bs[j]? = some b → ∃ Aj nj cj, W.cell? (a.add j) = some (.slice Aj nj cj) ∧ Rd .u8 W Aj nj cj b ∧ (∀ x ∈ b, x < 256) ∧ nj ≤ 140737488351232 := by
      intro k
      induction k with
      | zero => exact fun _ => ⟨[], rfl, fun j b h => by simp at h⟩
      | succ k ih =>
        intro hk
        obtain ⟨bs, h1, h2⟩ := ih (by omega)
        obtain ⟨b, hb⟩ := each k (by omega)
        refine ⟨bs ++ [b], by simp [h1], fun j b' h => ?_⟩
        rcases Nat.lt_or_ge j k with hj | hj
        · rw [List.getElem?_append_left (by omega)] at h
          exact h2 j b' h
        · rw [List.getElem?_append_right (by omega)] at h
          have : j - bs.length = 0 := by
            rcases Nat.eq_zero_or_pos (j - bs.length) with h' | h'
            · exact h'
            · rw [List.getElem?_eq_none (by simp; omega)] at h; cases h
          rw [this] at h
          simp only [List.getElem?_cons_zero, Option.some.injEq] at h
          subst h
          obtain rfl : j = k := by omega
          exact hb
    obtain ⟨bs, h1, h2⟩ := hlist n (Nat.le_refl _)
    refine ⟨bs, ⟨h1, fun hn => ⟨a, rfl, ?_, h2⟩⟩, by unfold maxLen at hm; omega, hl⟩
    obtain ⟨b, hb⟩ : ∃ b, bs[0]? = some b := ⟨_, List.getElem?_eq_getElem (by omega)⟩
    obtain ⟨_, _, _, hc0, _⟩ := h2 0 b hb
    have := World.block_lt_of_cell? W _ hc0
    rwa [Go.ChangeShapes.block_add] at this
/-- a slice of whole numbers, of which no more is known than that each is one -/
def IntsOf (W : World) (A : Option Addr) (n : Nat) : Prop := 0 < n → ∃ ad, A = some ad ∧ ad.block < W.heap.size ∧ ∀ j, j < n → ∃ z : Int, W.cell? (ad.add j) = some (.int .i64 z)
theorem ints_arg {H : Type} {enc : TypeId × Value → H} {P : Program} {W : World} {t e : TypeId} {A : Option Addr} {n c : Nat} {d : DataW H} {p : List MemPlace} (ht : P.underlying t = some (.slice e)) (he : P.underlying e = some (.int .i64)) (hc : P.cellsOf e = 1)
    (h0 : DataW.Trod enc P W 0 (fun _ => true) true t (.slice A n c) d p) : IntsOf W A n ∧ n ≤ 9223372036854775807 ∧ n ≤ c := by
  obtain ⟨fuel, hf⟩ := h0
  rcases open_ints ht he hc hf with ⟨hcs, _⟩ | ⟨x, l, c', zs, hcs, _, hl, hm, hz, _, hcell, hwz⟩
  · simp [Value.cells] at hcs
    obtain ⟨rfl, rfl, rfl⟩ := hcs
    exact ⟨fun h => absurd h (by omega), by omega, by omega⟩
  · simp [Value.cells] at hcs
    obtain ⟨rfl, rfl, rfl⟩ := hcs
    simp only [if_true] at hz
    refine ⟨fun hn => ⟨x, rfl, ?_, fun j hj => ⟨_, hcell j (by omega)⟩⟩, by unfold maxLen at hm; omega, hl⟩
    have := World.block_lt_of_cell? W _ (hcell 0 (by omega))
    rwa [Go.ChangeShapes.block_add] at this
end Go.Proofs.Ytiimflmbcgnbeaa

/- A Hash tells the digest of all that it has taken, piece by piece, since it was reset: the walk. -/
namespace Go.Proofs.Ytiimflmbcgnbeaa
set_option linter.unusedSimpArgs false
set_option linter.unusedVariables false
open Go.RowKit Go.Proofs.YtiimflmbcgnbeaaW.PrintWords

theorem HS.lower {w : World} {g base b' : Nat} {m : List Nat} (h : HS w g base m) (hb : b' ≤ base) : HS w g b' m := by
  obtain ⟨h1, h2, bg, ws, A, n, c, hk, h3, h4, hr, hA, h5, h6⟩ := h
  exact ⟨h1, h2, bg, ws, A, n, c, hk, h3, h4, hr, fun ad e => ⟨Nat.le_trans hb (hA ad e).1, (hA ad e).2⟩, h5, h6⟩
theorem HS.kept {w w' : World} {g base : Nat} {m : List Nat} {row : Option Nat} (h : HS w g base m) (hw : w.grownBy w' row) (hne : ∀ r, row = some r → r ≠ g ∧ r < base) : HS w' g base m := by
  obtain ⟨h1, h2, bg, ws, A, n, c, hk, h3, h4, hr, hA, h5, h6⟩ := h
  exact ⟨h1, h2, bg, ws, A, n, c, (hw.block _ hk.lt (fun e => (hne g (by rw [e])).1 rfl)).trans hk, h3, h4, hr.kept hw (fun ad e r er => by have := (hA ad e).1; have := (hne r er).2; omega),
    fun ad e => ⟨(hA ad e).1, (hA ad e).2.1, Nat.lt_of_lt_of_le (hA ad e).2.2 hw.size⟩, h5, h6⟩
theorem Own.kept {k : IntKind} {e : TypeId} {w w' : World} {base n c : Nat} {A : Option Addr} {xs : List Nat} {row : Option Nat} (h : Own k e w base A n c xs) (hg : w.grownBy w' row) (hne : ∀ g, A = some ⟨g, 0, none⟩ → row ≠ some g) : Own k e w' base A n c xs := by
  refine ⟨h.1, ?_⟩
  rcases h.2 with h2 | ⟨g', cap, cur, h1, hg', hh, r⟩
  · exact .inl h2
  · refine .inr ⟨g', cap, cur, h1, hg', (hg.block g' (Array.getElem?_eq_some_iff.1 hh).1 ?_).trans hh, r⟩
    simp only [Value.slice.injEq] at h1
    exact fun e => hne g' h1.1 e.symm
theorem grown_append {w w' : World} {base : Nat} {A : Option Addr} (hb : Below base w w') (hs : w.heap.size ≤ w'.heap.size) (hk : ∀ g, g < w.heap.size → (∀ o, A ≠ some ⟨g, o, none⟩) → w'.heap[g]? = w.heap[g]?) (hA : ∀ ad, A = some ad → ∃ g, ad = ⟨g, 0, none⟩) : w.grownBy w' (A.map (·.block)) := by
  refine ⟨hb.os, hb.tape, hb.output, hs, fun k hk' hne => hk k hk' fun o e => ?_⟩
  obtain ⟨g, hg⟩ := hA _ e
  rw [e] at hne
  simp at hne
theorem Own.plain {k : IntKind} {e : TypeId} {w : World} {base n c : Nat} {A : Option Addr} {xs : List Nat} (h : Own k e w base A n c xs) : ∀ ad, A = some ad → ∃ g, ad = ⟨g, 0, none⟩ ∧ base ≤ g ∧ g < w.heap.size := by
  intro ad e
  rcases h.ways with ⟨h', _⟩ | ⟨g, h', h1, h2, _⟩
  · rw [h'] at e; cases e
  · rw [h'] at e; cases e; exact ⟨g, rfl, h1, h2⟩
set_option maxRecDepth 100000 in
set_option maxHeartbeats 4000000 in
theorem walk_ShaTakes (A0 : Option Addr) (n0 c0 : Nat) (bs : List (List Nat)) (A1 : Option Addr) (n1 c1 : Nat) (W : World) (rd0 : RowsOf W A0 n0 bs) (m0 : n0 ≤ 9223372036854775807) (l0 : n0 ≤ c0) (rd1 : IntsOf W A1 n1) (m1 : n1 ≤ 9223372036854775807) (l1 : n1 ≤ c1) :
    Calls Try.prog 6 #[.slice A0 n0 c0, .slice A1 n1 c1] W fun e w' => e = .returned (.bool true) ∧ Below W.heap.size W w' := by
  have RD0 := Lib.hid rd0
  have RD1 := Lib.hid rd1
  clear rd0 rd1
  obtain ⟨i0, hi0, hz0, hz1, hz2⟩ := info_parts u8_info
  have EG := eq32_guard
  go_enter Try.func6, Try.ntmps6
  go_upto_region 5 with (go_at_call 22; refine (new_hs W 0).mono ?_; rintro e w1 ⟨rfl, h1, b1⟩)
  obtain ⟨gh, hgh⟩ : ∃ z, W.heap.size = z := ⟨_, rfl⟩
  rw [hgh] at h1 b1 ⊢
  have H1 := Lib.hid h1
  have B1 := Lib.hid b1
  have hs1 := h1.lt
  clear h1 b1
  go_wp2_with fail
  go_loopw [5, 7] (fun o i wr => ∃ (t n c : Nat) (A : Option Addr) (m : List Nat), t ≤ 12 ∧ t ≤ n0 ∧ i = .int .i64 (t : Int) ∧ o = .slice A n c ∧ Own .u8 5 wr (gh + 1) A n c m ∧ n ≤ 400 ∧ HS wr gh 0 m ∧ Below gh W wr) (fun _ i _ => 12 - (intOf i).toNat)
  case atStart => exact ⟨0, 0, 0, none, [], by omega, by omega, rfl, rfl, Own.nil _ _ _ _, by omega, H1.out, B1.out⟩
  case round =>
    obtain ⟨t, n, c, A, m, ht, ht0, rfl, rfl, hown, hn4, hhs, hbel⟩ := hrel
    have HOWN := Lib.hid hown
    have HHS := Lib.hid hhs
    have HBEL := Lib.hid hbel
    have hsr := hhs.lt
    have m8 := hhs.1
    have lm := hown.len
    clear hown hhs hbel
    by_cases hlt : t < n0 ∧ t < 12
    · obtain ⟨hlt0, hlt2⟩ := hlt
      have p1 : (t : Int) < (n0 : Int) := by omega
      have p2 : (t : Int) < 12 := by omega
      have p0 : (0 : Int) ≤ (t : Int) := by omega
      have hblen := RD0.out.1
      obtain ⟨a0, rfl, ha0, hrows⟩ := RD0.out.2 (by omega)
      obtain ⟨b, hb⟩ : ∃ b, bs[t]? = some b := ⟨_, List.getElem?_eq_getElem (by omega)⟩
      obtain ⟨Aj, nj, cj, hcw, rdj, bj8, hnj⟩ := hrows t b hb
      have HCELL := Lib.hid (fun w' (h : Below gh W w') => (h.cell (p := a0.add t) (by rw [← hgh]; exact adlt ha0 t)).trans hcw)
      have HRDJ := Lib.hid (fun w' (h : Below gh W w') => rdj.below (by rw [hgh]; exact h))
      have cl := HCELL.out _ HBEL.out
      have e1 : IntKind.i64.wrap ((n : Int) + (nj : Int)) = (n : Int) + (nj : Int) := IntWalk.i64_in _ (by omega)
      clear hrows hcw rdj
      by_cases h4 : (400 : Int) < (n : Int) + (nj : Int)
      · go_wp2_with (go_at_call 18; refine (alive_any _).mono ?_; rintro e wz ⟨rfl, hz⟩)
        go_ret
        rw [hgh]
        exact ⟨rfl, HBEL.out.trans (hz.mono (by omega))⟩
      · have t4 := decide_eq_false h4
        have hsum : n + nj ≤ 400 := by omega
        go_upto_region 11 with (fail)
        go_loopw [5, 8] (fun o i wr2 => ∃ (s n2 c2 : Nat) (A2 : Option Addr) (m2 : List Nat), s ≤ n1 ∧ i = .int .i64 (s : Int) ∧ o = .slice A2 n2 c2 ∧ Own .u8 5 wr2 (gh + 1) A2 n2 c2 m2 ∧ n2 + nj ≤ 400 ∧ HS wr2 gh 0 m2 ∧ Below gh W wr2) (fun _ i _ => n1 - (intOf i).toNat)
        case atStart => exact ⟨0, n, c, A, m, by omega, rfl, rfl, HOWN.out, hsum, HHS.out, HBEL.out⟩
        case round =>
          obtain ⟨s, n2, c2, A2, m2, hs, rfl, rfl, hown, hn2, hhs, hbel⟩ := hrel
          have HOWN2 := Lib.hid hown
          have HHS2 := Lib.hid hhs
          have HBEL2 := Lib.hid hbel
          have hsr2 := hhs.lt
          have lm2 := hown.len
          have m28 := hhs.1
          clear hown hhs hbel
          by_cases hls : s < n1
          · obtain ⟨a1, rfl, ha1, hints⟩ := RD1.out (by omega)
            obtain ⟨z, hz⟩ := hints s hls
            have cz := (HBEL2.out.cell (p := a1.add s) (by rw [← hgh]; exact adlt ha1 s)).trans hz
            have q1 : (s : Int) < (n1 : Int) := by omega
            have q0 : (0 : Int) ≤ (s : Int) := by omega
            have q3 : IntKind.i64.wrap ((s : Int) + 1) = (s : Int) + 1 := IntWalk.i64_in _ (by omega)
            clear hz hints
            by_cases hzt : z = (t : Int)
            · subst hzt
              have hres := reset_any _ HHS2.out
              go_wp2_with (go_at_call 27; refine hres.mono ?_; rintro e wy ⟨rfl, gy, hy⟩)
              exact ⟨⟨s + 1, 0, 0, none, [], by omega, by go_num, rfl, Own.nil _ _ _ _, by omega, hy.lower (Nat.zero_le _), HBEL2.out.trans (gy.below (Nat.le_of_lt hsr2) (Nat.le_refl _))⟩, by simp [intOf]; omega⟩
            · have t5 : decide (z = (t : Int)) = false := decide_eq_false hzt
              go_wp2_with fail
              exact ⟨⟨s + 1, n2, c2, A2, m2, by omega, by go_num, rfl, HOWN2.out, hn2, HHS2.out, HBEL2.out⟩, by simp [intOf]; omega⟩
          · obtain rfl : s = n1 := by omega
            have cl2 := HCELL.out _ HBEL2.out
            have hj := rjoin_any wr (HRDJ.out _ HBEL2.out) (Rd.nil .u8 wr none 0) (by omega)
            rw [List.append_nil, Nat.add_zero] at hj
            go_upto_region 18 with (go_at_call 19; refine hj.mono ?_; rintro e w3 ⟨A9, c9, rfl, o9, b3⟩)
            have hp9 := o9.plain
            have hs3 := b3.size
            have h3 := HHS2.out.below b3
            have q9 : ∀ ad, A9 = some ad → ad.block ≠ gh := fun ad e => by obtain ⟨g, rfl, h1, _⟩ := hp9 ad e; show g ≠ gh; omega
            have hw := wr_any w3 h3 o9.rd q9 bj8 (by omega)
            have hpA := HOWN2.out.plain
            clear hj
            go_upto_region 20 with (go_at_call 23; refine hw.mono ?_; rintro e w4 ⟨rfl, g4, h4'⟩)
            have hs4 := g4.size
            have oa4 := (HOWN2.out.below b3).kept g4 (fun g e e' => by obtain ⟨g', h, h1, _⟩ := hpA _ e; cases h; have := Option.some.inj e'; omega)
            have o94 := o9.kept g4 (fun g e e' => by obtain ⟨g', h, h1, _⟩ := hp9 _ e; cases h; have := Option.some.inj e'; omega)
            have b4 := (HBEL2.out.trans (b3.mono (Nat.le_of_lt hsr2))).trans (g4.below (by omega) (Nat.le_refl _))
            have OA4 := Lib.hid oa4
            have O94 := Lib.hid o94
            have H4 := Lib.hid h4'
            have B4 := Lib.hid b4
            have HP9 := Lib.hid hp9
            have HPA := Lib.hid hpA
            have hblk := fun h => o9.blk h
            have HBLK := Lib.hid hblk
            clear oa4 o94 h4' b4 hp9 hpA hw h3 g4 o9 b3 q9 hblk
            go_wp2_with fail
            go_loopw [10] (fun i w5 => ∃ (k : Nat) (ys : List Nat), k ≤ nj ∧ i = .int .i64 (k : Int) ∧ Own .u8 5 w5 wr.heap.size A9 nj c9 ys ∧ w4.grownBy w5 (A9.map (·.block))) (fun i _ => nj - (intOf i).toNat)
            case atStart => exact ⟨0, b, by omega, rfl, O94.out, grown_refl _ _⟩
            case round =>
              obtain ⟨k, ys, hk, rfl, hown, hgr⟩ := hrel
              have HOW := Lib.hid hown
              have HGR := Lib.hid hgr
              clear hgr
              by_cases hkn : k < nj
              · obtain ⟨gp, rfl, hg1, hg2⟩ := HBLK.out (by omega)
                obtain ⟨y, ey⟩ : ∃ z, gd ys k = z := ⟨_, rfl⟩
                have cy := hown.slot (j := k) hkn ey
                have fy := hown.frozenAt k
                have r0 : (0 : Int) ≤ (k : Int) := by omega
                have r1 : (k : Int) < (nj : Int) := by omega
                have r2 : IntKind.i64.wrap ((k : Int) + 1) = (k : Int) + 1 := IntWalk.i64_in _ (by omega)
                clear ey hown
                go_wp2_with fail
                exact ⟨⟨k + 1, ys.set k 99, by omega, by go_num, HOW.out.store k 99, grown_set HGR.out k _⟩, by simp [intOf]; omega⟩
              · obtain rfl : nj = k := by omega
                -- <E>
                have hs5 := HGR.out.size
                have oa5 := OA4.out.kept HGR.out (fun g e e' => by
                  obtain ⟨g', h, h1, h2⟩ := HPA.out _ e
                  cases h
                  rcases A9 with _ | ad9
                  · cases e'
                  · obtain ⟨g9, h9, h91, _⟩ := HP9.out ad9 rfl
                    subst h9
                    have := Option.some.inj e'
                    simp only at this
                    omega)
                have h5 := H4.out.kept HGR.out (fun r e => by
                  rcases A9 with _ | ad9
                  · cases e
                  · obtain ⟨g9, h9, h91, h92⟩ := HP9.out ad9 rfl
                    subst h9
                    have := Option.some.inj e
                    simp only at this
                    omega)
                have b5 := B4.out.trans ((Below.refl gh w4).grown HGR.out (by omega) (fun r e => by
                  rcases A9 with _ | ad9
                  · cases e
                  · obtain ⟨g9, h9, h91, h92⟩ := HP9.out ad9 rfl
                    subst h9
                    have := Option.some.inj e
                    simp only at this
                    omega))
                have OA5 := Lib.hid oa5
                have H5 := Lib.hid h5
                have B5 := Lib.hid b5
                have cl5 := HCELL.out _ b5
                have rd5 := HRDJ.out _ b5
                clear oa5 h5 b5 hown HOW
                have hlab : (m2 ++ b).length = n2 + nj := by rw [List.length_append, lm2, rd5.len]
                go_upto_region 24 with (fail)
                go_wp2_with (at_builtin; refine wpList_append_rd _ rfl (.tmp 67) (.tmp 71) _ rfl .u8 (gh + 1) 5 i0 (.int .u8 0) 1 Try.underlying22 hi0 hz0 hz1 hz2 rfl A2 n2 c2 m2 rfl OA5.out _ _ _ _ rfl rd5 (by unfold maxLen; omega) (by omega) (by omega) ?_)
                intro A6 c6 w6 o6 b6 hz6 hk6
                have g6 := grown_append b6 hz6 hk6 (fun ad e => by obtain ⟨g, h, _⟩ := OA5.out.plain ad e; exact ⟨g, h⟩)
                have h6 := H5.out.kept g6 (fun r e => by
                  rcases A2 with _ | ad2
                  · cases e
                  · obtain ⟨g2, h2, h21, h22⟩ := HPA.out ad2 rfl
                    subst h2
                    have := Option.some.inj e
                    simp only at this
                    omega)
                have bb6 := B5.out.trans (b6.mono (by omega))
                have O6 := Lib.hid o6
                have H6 := Lib.hid h6
                have B6 := Lib.hid bb6
                have hs6 := h6.lt
                have ab8 : B8 (m2 ++ b) := m28.append bj8
                clear o6 h6 bb6 b6 hk6 g6 cl5 rd5
                obtain ⟨D, hD⟩ : ∃ z, shaN (m2 ++ b) = z := ⟨_, rfl⟩
                have lD : D.length = 32 := by rw [← hD]; exact shaN_length _
                have EQ := fun w' => run_eq32 w' lD lD
                simp only [decide_true] at EQ
                have hS := sum_any w6 H6.out (by omega)
                have hR := fun w' (h : Below w6.heap.size w6 w') => refSum_any w' (O6.out.below h).rd ab8 (by omega)
                rw [hD] at hS hR
                have i1 : IntKind.i64.wrap ((t : Int) + 1) = (t : Int) + 1 := IntWalk.i64_in _ (by omega)
                obtain ⟨r, hr⟩ : ∃ z, t % 3 = z := ⟨_, rfl⟩
                have d1 : (t : Int).tmod 3 = (r : Int) := by rw [Int.tmod_eq_emod_of_nonneg (by omega)]; omega
                have d2 : IntKind.i64.wrap (r : Int) = (r : Int) := IntWalk.i64_in _ (by omega)
                clear hr hlab
                by_cases hr0 : r = 0
                · subst hr0
                  rw [show ((0 : Nat) : Int) = 0 from rfl] at d1 d2
                  go_wp2_with (first
                    | (go_at_call 24; refine hS.mono ?_; rintro e w7 ⟨rfl, b7⟩)
                    | (go_at_call 21; refine (hR _ b7).mono ?_; rintro e w8 ⟨rfl, b8⟩))
                  have b78 := b7.trans (b8.mono b7.size)
                  exact ⟨⟨t + 1, n2 + nj, c6, A6, m2 ++ b, by omega, by omega, by go_num, rfl, O6.out.below b78, hn2, (H6.out.below b78).lower (Nat.zero_le _), B6.out.trans (b78.mono (by omega))⟩, by simp [intOf]; omega⟩
                · have d3 : ¬ (r : Int) = 0 := by omega
                  have d4 : decide ((r : Int) = 0) = false := decide_eq_false d3
                  go_wp2_with fail
                  exact ⟨⟨t + 1, n2 + nj, c6, A6, m2 ++ b, by omega, by omega, by go_num, rfl, O6.out, hn2, H6.out.lower (Nat.zero_le _), B6.out⟩, by simp [intOf]; omega⟩
                -- </E>
    · have hR := fun w' (h : Below wr.heap.size wr w') => refSum_any w' (HOWN.out.below h).rd m8 (by omega)
      have hS := fun w' (h : Below wr.heap.size wr w') => sum_any w' (HHS.out.below h) (by omega)
      have hL := fun w' (h : Below wr.heap.size wr w') => len_any w' (HHS.out.below h)
      obtain ⟨D, hD⟩ : ∃ z, shaN m = z := ⟨_, rfl⟩
      have lD : D.length = 32 := by rw [← hD]; exact shaN_length _
      have EQ := fun w' => run_eq32 w' lD lD
      simp only [decide_true] at EQ
      rw [hD] at hR hS
      rw [lm] at hL
      by_cases hlt1 : (t : Int) < (n0 : Int)
      · have p2 : ¬ (t : Int) < 12 := by omega
        go_wp2_with (first
          | (go_at_call 25; refine (hL _ bc').mono ?_; rintro e w4 ⟨rfl, rfl⟩)
          | (go_at_call 21; refine (hR _ bb').mono ?_; rintro e wc ⟨rfl, bc⟩; have bc' := bb'.trans (bc.mono bb'.size))
          | (go_at_call 24; refine (hS _ ba).mono ?_; rintro e wb ⟨rfl, bb⟩; have bb' := ba.trans (bb.mono ba.size))
          | (go_at_call 18; refine (alive_any _).mono ?_; rintro e wa ⟨rfl, ba⟩))
        go_ret
        exact ⟨rfl, by rw [hgh]; exact HBEL.out.trans (bc'.mono (by omega))⟩
      · skip
        go_wp2_with (first
          | (go_at_call 25; refine (hL _ bc').mono ?_; rintro e w4 ⟨rfl, rfl⟩)
          | (go_at_call 21; refine (hR _ bb').mono ?_; rintro e wc ⟨rfl, bc⟩; have bc' := bb'.trans (bc.mono bb'.size))
          | (go_at_call 24; refine (hS _ ba).mono ?_; rintro e wb ⟨rfl, bb⟩; have bb' := ba.trans (bb.mono ba.size))
          | (go_at_call 18; refine (alive_any _).mono ?_; rintro e wa ⟨rfl, ba⟩))
        go_ret
        exact ⟨rfl, by rw [hgh]; exact HBEL.out.trans (bc'.mono (by omega))⟩
end Go.Proofs.Ytiimflmbcgnbeaa
