/- Words of four bytes, pairs of words. -/
import Derived.Test.YtkmabfdnekphnaaJ3
namespace Go.Proofs.Ytkmabfdnekphnaa
set_option linter.unusedSimpArgs false
set_option linter.unusedVariables false
set_option maxRecDepth 100000
open Go.RowKit
attribute [local go_sem] toldUpon_value toldUpon_skip toldUpon_enter

/-- a number's four bytes -/
def fourN (n : Nat) : List Nat := [n / 16777216, n / 65536 % 256, n / 256 % 256, n % 256]
def fourV (n : Nat) : Value := .agg #[.int .u8 ((n / 16777216 : Nat) : Int), .int .u8 ((n / 65536 % 256 : Nat) : Int), .int .u8 ((n / 256 % 256 : Nat) : Int), .int .u8 ((n % 256 : Nat) : Int)]
set_option maxHeartbeats 1000000 in
theorem word_any (w : World) (n : Nat) (hn : n < 4294967296) : Calls Try.prog 31 #[.int .u32 (n : Int)] w fun e w' => e = .returned (fourV n) ∧ Below w.heap.size w w' := by
  go_enter Try.func31, Try.ntmps31
  go_wp2_with fail
  exact bodyPost_ret (v := fourV n) (by simp [results, Try.results31, go_sem, fourV]) rfl ⟨rfl, (Below.refl _ _).alloc (Nat.le_refl _) _⟩
set_option maxHeartbeats 1000000 in
theorem grow_any (w : World) : Calls Try.prog 37 #[.slice none 0 0, .int .i64 8] w fun e w' => ∃ A' c', e = .returned (.slice A' 0 c') ∧ Own .u8 5 w' w.heap.size A' 0 c' [] ∧ Below w.heap.size w w' := by
  go_enter Try.func37, Try.ntmps37
  go_wp2_with fail
  go_ret
  have hge := grownCap_ge w 8 0 5
  have hle := grownCap_le_maxLen w 8 0 5 (by unfold maxLen; omega)
  refine ⟨_, _, rfl, ⟨rfl, .inr ⟨w.heap.size, _, _, rfl, Nat.le_refl _, heap_alloc_new w _, Nat.zero_le _, hle, ?_, rfl⟩⟩, ((Below.refl _ _).alloc (Nat.le_refl _) _).drew⟩
  rw [Array.size_append, size_zeroCells, size_zeroCells]
  show 8 * 1 + (grownCap w 8 0 5 - 8) * 1 = grownCap w 8 0 5 * 1
  omega
set_option maxHeartbeats 2000000 in
theorem concat_any (w : World) {gg : Nat} {A1 A2 : Option Addr} {c1 c2 : Nat} {xs ys : List Nat} (h : Bk w gg 23 #[.slice A1 4 c1, .slice A2 4 c2]) (hx : Rd .u8 w A1 4 c1 xs) (hy : Rd .u8 w A2 4 c2 ys) :
    Calls Try.prog 32 #[.slice (some ⟨gg, 0, none⟩) 2 2] w fun e w' => ∃ A' c', e = .returned (.slice A' 8 c') ∧ Own .u8 5 w' w.heap.size A' 8 c' (xs ++ ys) ∧ Below w.heap.size w w' := by
  obtain ⟨i0, hi0, hz0, hz1, hz2⟩ := info_parts info_u8
  have d0 := h.cell 0
  have d1 := h.cell 1
  have HX := Lib.hid hx
  have HY := Lib.hid hy
  have HG := Lib.hid h
  have hG := fun w' => grow_any w'
  clear hx hy h
  go_enter Try.func32, Try.ntmps32
  go_wp2_with fail
  go_loop [3, 5, 11] (fun s _ i => ∃ k : Nat, k ≤ 2 ∧ i = .int .i64 (k : Int) ∧ s = .int .i64 ((4 * k : Nat) : Int)) (fun _ _ i => 2 - (intOf i).toNat)
  case atStart => exact ⟨0, Nat.zero_le _, rfl, rfl⟩
  case round =>
    obtain ⟨k, hk, rfl, rfl⟩ := hrel
    rcases (show k = 0 ∨ k = 1 ∨ k = 2 by omega) with rfl | rfl | rfl
    · go_wp2_with fail
      go_round
      case rel => exact ⟨1, by omega, rfl, rfl⟩
      case measure => simp [intOf]
    · go_wp2_with fail
      go_round
      case rel => exact ⟨2, by omega, rfl, rfl⟩
      case measure => simp [intOf]
    · go_wp2_with (go_at_call 37; refine (hG _).mono ?_; rintro e w2 ⟨A0, c0, rfl, ho, hb⟩; have HO := Lib.hid (And.intro ho hb); clear ho hb)
      go_loopw [6, 8, 27] (fun r _ i wr => ∃ (k : Nat) (A : Option Addr) (c : Nat), k ≤ 2 ∧ i = .int .i64 (k : Int) ∧ r = .slice A (4 * k) c ∧ Own .u8 5 wr w.heap.size A (4 * k) c ((xs ++ ys).take (4 * k)) ∧ Below w.heap.size w wr) (fun _ _ i _ => 2 - (intOf i).toNat)
      case atStart => exact ⟨0, A0, c0, Nat.zero_le _, rfl, rfl, HO.out.1, HO.out.2⟩
      case round =>
        obtain ⟨k, A, c, hk, rfl, rfl, ho, hb⟩ := hrel
        have hx := HX.out.below hb
        have hy := HY.out.below hb
        have lx := hx.len
        have ly := hy.len
        have hg := HG.out.below hb HG.out.lt
        have e0 := hg.cell 0
        have e1 := hg.cell 1
        have hsz := hb.size
        have HB := Lib.hid hb
        have HO2 := Lib.hid ho
        have HXX := Lib.hid hx
        have HYY := Lib.hid hy
        clear ho hb hx hy hg
        rcases (show k = 0 ∨ k = 1 ∨ k = 2 by omega) with rfl | rfl | rfl
        · go_wp2_with (at_builtin; refine wpList_append_rd _ rfl (.tmp 31) (.tmp 32) _ rfl .u8 w.heap.size _ i0 _ 1 Try.underlying23 hi0 hz0 hz1 hz2 rfl A 0 c _ rfl HO2.out A1 4 c1 xs rfl HXX.out (by unfold maxLen; omega) (by omega) hsz ?_; intro A' c' w4 ho4 hb4 hs4 hk4; have HO4 := Lib.hid (And.intro ho4 hb4); clear ho4 hb4 hs4 hk4)
          go_roundw
          case rel => exact ⟨1, A', c', by omega, rfl, rfl, by have h := HO4.out.1; rw [show (xs ++ ys).take (4 * 0) ++ xs = (xs ++ ys).take (4 * 1) by simp [List.take_append_of_le_length, lx, List.take_of_length_le]] at h; exact h, HB.out.trans HO4.out.2⟩
          case measure => simp [intOf]
        · go_wp2_with (at_builtin; refine wpList_append_rd _ rfl (.tmp 31) (.tmp 32) _ rfl .u8 w.heap.size _ i0 _ 1 Try.underlying23 hi0 hz0 hz1 hz2 rfl A 4 c _ rfl HO2.out A2 4 c2 ys rfl HYY.out (by unfold maxLen; omega) (by omega) hsz ?_; intro A' c' w4 ho4 hb4 hs4 hk4; have HO4 := Lib.hid (And.intro ho4 hb4); clear ho4 hb4 hs4 hk4)
          go_roundw
          case rel => exact ⟨2, A', c', by omega, rfl, rfl, by have h := HO4.out.1; rw [show (xs ++ ys).take (4 * 1) ++ ys = (xs ++ ys).take (4 * 2) by rw [List.take_of_length_le (i := 4 * 2) (by simp; omega), List.take_append_of_le_length (by omega), List.take_of_length_le (by omega)]] at h; exact h, HB.out.trans HO4.out.2⟩
          case measure => simp [intOf]
        · go_wp2_with fail
          go_ret
          exact ⟨A, c, rfl, by have h := HO2.out; rw [List.take_of_length_le (by simp; omega)] at h; exact h, HB.out⟩
end Go.Proofs.Ytkmabfdnekphnaa
