/- As many bytes of a seed as are asked for. -/
import Derived.Test.YtiimflmbcgnbeaaSa
namespace Go.Proofs.Ytiimflmbcgnbeaa
set_option linter.unusedSimpArgs false
set_option linter.unusedVariables false
open Go.RowKit

def four4 (i : Nat) : List Nat := [i / 16777216 % 256, i / 65536 % 256, i / 256 % 256, i % 256]
def expL (s : List Nat) : Nat → List Nat
  | 0 => []
  | k + 1 => expL s k ++ shaN (s ++ four4 k)
/-- the bytes that come of a seed -/
def expN (s : List Nat) (n : Nat) : List Nat := (expL s ((n + 31) / 32)).take n
theorem expL_length (s : List Nat) (k : Nat) : (expL s k).length = 32 * k := by
  induction k with
  | zero => rfl
  | succ k ih => rw [expL, List.length_append, ih, shaN_length]; omega
theorem expL_take (s : List Nat) (k j : Nat) (h : k ≤ j) : (expL s j).take (32 * k) = expL s k := by
  induction j with
  | zero => obtain rfl : k = 0 := by omega
            rfl
  | succ j ih =>
    by_cases e : k = j + 1
    · subst e; rw [List.take_of_length_le (by rw [expL_length]; omega)]
    · rw [expL, List.take_append_of_le_length (by rw [expL_length]; omega), ih (by omega)]
theorem expN_length (s : List Nat) (n : Nat) : (expN s n).length = n := by
  unfold expN
  rw [List.length_take, expL_length]; omega
theorem expN_of (s : List Nat) (n k : Nat) (h : n ≤ 32 * k) : (expL s k).take n = expN s n := by
  unfold expN
  rw [← expL_take s ((n + 31) / 32) k (by omega), List.take_take, Nat.min_eq_left (by omega)]
/-- a shorter one is the beginning of a longer one -/
theorem expN_take (s : List Nat) {n m : Nat} (h : n ≤ m) : (expN s m).take n = expN s n := by
  rw [← expN_of s m ((m + 31) / 32) (by omega), List.take_take, Nat.min_eq_left h, expN_of s n _ (by omega)]
theorem expL_b8 (s : List Nat) (k : Nat) : B8 (expL s k) := by
  induction k with
  | zero => exact B8.nil
  | succ k ih => exact B8.append ih (shaN_b8 _)
theorem expN_b8 (s : List Nat) (n : Nat) : B8 (expN s n) := (expL_b8 _ _).take _
theorem four4_b8 (i : Nat) : B8 (four4 i) := by
  unfold four4
  repeat (refine B8.cons (Nat.mod_lt _ (by omega)) ?_)
  exact B8.nil

theorem u8_of24 (k : Nat) : IntKind.u8.wrap ((k : Int) / 16777216) = ((k / 16777216 % 256 : Nat) : Int) := by rw [IntKind.wrap_u8]; omega
theorem u8_of16 (k : Nat) : IntKind.u8.wrap ((k : Int) / 65536) = ((k / 65536 % 256 : Nat) : Int) := by rw [IntKind.wrap_u8]; omega
theorem u8_of8 (k : Nat) : IntKind.u8.wrap ((k : Int) / 256) = ((k / 256 % 256 : Nat) : Int) := by rw [IntKind.wrap_u8]; omega
theorem u8_of0 (k : Nat) : IntKind.u8.wrap (k : Int) = ((k % 256 : Nat) : Int) := by rw [IntKind.wrap_u8]; omega
theorem expand_low (w : World) (v : Value) (z : Int) (hz : z < 0) : Calls Try.prog 31 #[v, .int .i64 z] w fun e w' => e = .returned (.tuple #[.slice none 0 0, .int .i64 1]) ∧ Below w.heap.size w w' := by
  go_enter Try.func31, Try.ntmps31
  go_wp2
  go_ret2
  exact ⟨rfl, Below.refl _ _⟩
theorem expand_high (w : World) (v : Value) (z : Int) (hz : 4096 < z) : Calls Try.prog 31 #[v, .int .i64 z] w fun e w' => e = .returned (.tuple #[.slice none 0 0, .int .i64 2]) ∧ Below w.heap.size w w' := by
  have hz2 : ¬ z < 0 := by omega
  go_enter Try.func31, Try.ntmps31
  go_wp2
  go_ret2
  exact ⟨rfl, Below.refl _ _⟩
set_option maxRecDepth 100000 in
set_option maxHeartbeats 4000000 in
theorem expand_any (w : World) {s : List Nat} {B : Option Addr} {d n : Nat} (hb : Rd .u8 w B s.length d s) (b8 : B8 s) (hlen : s.length < 60000000000000) (hB : ∀ ad, B = some ad → ad.block < w.heap.size) (hn : n ≤ 4096) :
    Calls Try.prog 31 #[.slice B s.length d, .int .i64 (n : Int)] w fun e w' => ∃ A c, e = .returned (.tuple #[.slice A n c, .int .i64 0]) ∧ Rd .u8 w' A n c (expN s n) ∧ (∀ ad, A = some ad → w.heap.size ≤ ad.block ∧ ad.block < w'.heap.size) ∧ Below w.heap.size w w' := by
  have h1 : ¬ (n : Int) < 0 := by omega
  have h2 : ¬ 4096 < (n : Int) := by omega
  go_enter Try.func31, Try.ntmps31
  go_wp2_with fail
  go_loopw [6, 7] (fun o i wr => ∃ (k : Nat) (A : Option Addr) (c : Nat), k ≤ 128 ∧ i = .int .i64 (k : Int) ∧ o = .slice A (32 * k) c ∧ Own .u8 5 wr w.heap.size A (32 * k) c (expL s k) ∧ Below w.heap.size w wr) (fun _ i _ => 128 - (intOf i).toNat)
  case atStart => exact ⟨0, none, 0, by omega, rfl, rfl, Own.nil _ _ _ _, Below.refl _ _⟩
  case round =>
    obtain ⟨k, A, c, hk, rfl, rfl, hown, hbel⟩ := hrel
    by_cases hlt : 32 * k < n
    · have t1 : decide (((32 * k : Nat) : Int) < (n : Int)) = true := by simp; omega
      go_upto_region 9 with (fail)
      refine wp_region_lit ?_
      (refine wpList_plain rfl (fun K hK => ?_); go_simp; refine hK _ _ ?_; clear hK K)
      (refine wpList_plain rfl (fun K hK => ?_); go_simp; refine hK _ _ ?_; clear hK K)
      (refine wpList_plain rfl (fun K hK => ?_); go_simp; refine hK _ _ ?_; clear hK K)
      (refine wpList_plain rfl (fun K hK => ?_); go_simp; refine hK _ _ ?_; clear hK K)
      (refine wpList_plain rfl (fun K hK => ?_); go_simp; refine hK _ _ ?_; clear hK K)
      (refine wpList_plain rfl (fun K hK => ?_); go_simp; refine hK _ _ ?_; clear hK K)
      (refine wpList_plain rfl (fun K hK => ?_); go_simp; refine hK _ _ ?_; clear hK K)
      (refine wpList_plain rfl (fun K hK => ?_); go_simp; refine hK _ _ ?_; clear hK K)
      (refine wpList_plain rfl (fun K hK => ?_); go_simp; refine hK _ _ ?_; clear hK K)
      (refine wpList_plain rfl (fun K hK => ?_); go_simp; refine hK _ _ ?_; clear hK K)
      (refine wpList_plain rfl (fun K hK => ?_); go_simp; refine hK _ _ ?_; clear hK K)
      (refine wpList_plain rfl (fun K hK => ?_); go_simp; refine hK _ _ ?_; clear hK K)
      (refine wpList_plain rfl (fun K hK => ?_); go_simp; refine hK _ _ ?_; clear hK K)
      rw [show Obj.cells #[.int .u8 (IntKind.u8.wrap ((k : Int) / 16777216)), .int .u8 (IntKind.u8.wrap ((k : Int) / 65536)), .int .u8 (IntKind.u8.wrap ((k : Int) / 256)), .int .u8 (IntKind.u8.wrap (k : Int))] 5 = Obj.cells (va .u8 (four4 k)) 5 by rw [u8_of24, u8_of16, u8_of8, u8_of0]; rfl]
      have ho1 := Bk.new wr 5 (va .u8 (four4 k))
      have hl1 := (Below.refl wr.heap.size wr).alloc (Nat.le_refl _) (.cells (va .u8 (four4 k)) 5)
      have hs1 : (wr.alloc (.cells (va .u8 (four4 k)) 5)).heap.size = wr.heap.size + 1 := by simp
      generalize wr.alloc (.cells (va .u8 (four4 k)) 5) = w1 at ho1 hl1 hs1 ⊢
      have hw := hbel.size
      have l4 : (four4 k).length = 4 := rfl
      have hr4 : Rd .u8 w1 (some ⟨wr.heap.size, 0, none⟩) (four4 k).length 4 (four4 k) := (Own.of_bk (k := .u8) (base := 0) (n := 4) ho1 (Nat.zero_le _) rfl (by omega)).rd
      have hlt1 : wr.heap.size < w1.heap.size := by omega
      have hkd := keyed_any w1 ((hb.below hbel).below hl1) b8 (fun ad e => by have := hB ad e; omega) hr4 (four4_b8 k) (by rw [List.length_append, l4]; omega) (fun ad e => by cases e; exact hlt1)
      rw [l4] at hkd
      refine wpl_call rfl (w' := w1) (f := 26) (args := #[.slice B s.length d, .slice (some ⟨wr.heap.size, 0, none⟩) 4 4]) (by kernel_rfl) hkd ?_
      rintro e w2 ⟨rfl, hb2⟩
      refine ⟨_, rfl, ?_⟩
      have ls : (shaN (s ++ four4 k)).length = 32 := shaN_length _
      have hbl2 : Below w.heap.size w w2 := (hbel.trans (hl1.mono hw)).trans (hb2.mono (by omega))
      have hown2 := (hown.below hl1).below hb2
      obtain ⟨D, hD⟩ : ∃ z, shaN (s ++ four4 k) = z := ⟨_, rfl⟩
      rw [hD] at ls ⊢
      clear ho1 hl1 hr4 hb2 hbel hown
      (refine wpList_plain rfl (fun K hK => ?_); go_simp; refine hK _ _ ?_; clear hK K)
      rw [show Obj.cells #[.int .u8 0, .int .u8 0, .int .u8 0, .int .u8 0, .int .u8 0, .int .u8 0, .int .u8 0, .int .u8 0, .int .u8 0, .int .u8 0, .int .u8 0, .int .u8 0, .int .u8 0, .int .u8 0, .int .u8 0, .int .u8 0, .int .u8 0, .int .u8 0, .int .u8 0, .int .u8 0, .int .u8 0, .int .u8 0, .int .u8 0, .int .u8 0, .int .u8 0, .int .u8 0, .int .u8 0, .int .u8 0, .int .u8 0, .int .u8 0, .int .u8 0, .int .u8 0] 26 = Obj.cells (va .u8 (List.replicate 32 0)) 26 from rfl]
      have ho := Bk.new w2 26 (va .u8 (List.replicate 32 0))
      have hl := hbl2.alloc hbl2.size (.cells (va .u8 (List.replicate 32 0)) 26)
      have hl2 := (Below.refl w2.heap.size w2).alloc (Nat.le_refl _) (.cells (va .u8 (List.replicate 32 0)) 26)
      generalize w2.alloc (.cells (va .u8 (List.replicate 32 0)) 26) = w5 at ho hl hl2 ⊢
      have hown5 := hown2.below hl2
      have hgw : w.heap.size ≤ w2.heap.size := hbl2.size
      obtain ⟨g, hg⟩ : ∃ g, w2.heap.size = g := ⟨_, rfl⟩
      rw [hg] at ho hl2 hgw ⊢
      have hne : A ≠ some ⟨g, 0, none⟩ := by
        rintro rfl
        rcases hown2.ways with ⟨h, _⟩ | ⟨g', h, _, h4, _⟩
        · cases h
        · cases h; omega
      refine wpList_store_row rfl 26 _ _ rfl g (va .u8 D) (by kernel_rfl) (by kernel_rfl) 26 (va .u8 (List.replicate 32 0)) ho (out_info.trans (by rw [va_size, ls])) (by rw [va_size, va_size, ls, List.length_replicate]) (va_all _ _) ?_
      refine wpList_nil ?_
      have hst := Bk.row ho (va .u8 D)
      have hbl := below_row hl hgw (va .u8 D)
      have hgr : w5.grownBy (w5.setRow g (va .u8 D)) (some g) := ⟨rfl, rfl, rfl, by simp [World.setRow], fun k hk hne => by simp only [World.setRow, Array.getElem?_modify]; rw [if_neg (fun e => hne (by rw [e]))]⟩
      have hown6 := hown5.grown hgr hne
      generalize w5.setRow g (va .u8 D) = w6 at hst hbl hown6 ⊢
      clear hgr hown5 hown2 ho hl hl2 hbl2
      have HT : Rd .u8 w6 (some ⟨g, 0, none⟩) 32 32 D := (Own.of_bk (k := .u8) (base := 0) hst (Nat.zero_le _) ls (by omega)).rd
      obtain ⟨i0, hi0, hz0, hz1, hz2⟩ := info_parts u8_info
      have hsz := hbl.size
      go_wp2_with (at_builtin; refine wpList_append_rd _ rfl (.tmp 33) (.tmp 34) _ rfl .u8 w.heap.size 5 i0 (.int .u8 0) 1 Try.underlying22 hi0 hz0 hz1 hz2 rfl A (32 * k) c (expL s k) rfl hown6 _ _ _ _ rfl HT (by unfold maxLen; omega) (by omega) hsz ?_)
      intro A' c' w' ho' hb' _ _
      have i1 : IntKind.i64.wrap ((k : Int) + 1) = (k : Int) + 1 := IntWalk.i64_in _ (by omega)
      go_wp2_with fail
      refine ⟨⟨k + 1, A', c', by omega, by go_num, rfl, ?_, hbl.trans hb'⟩, by simp [intOf]; omega⟩
      rw [← hD] at ho'
      exact ho'
    · have t1 : decide (((32 * k : Nat) : Int) < (n : Int)) = false := by simp; omega
      have hR := hown.rd
      have h3 : (0 : Int) ≤ (n : Int) := by omega
      have hcap := hR.cap
      have h4 : (n : Int) ≤ (c : Int) := by omega
      have hways := hown.ways
      go_wp2_with fail
      go_ret2
      refine ⟨A, n, rfl, ?_, ?_, hbel⟩
      · have hl := expN_of s n k (by omega)
        rw [← hl]
        obtain ⟨q1, q2, q3, q4⟩ := hR.take (m := n) (by omega)
        exact ⟨q1, Nat.le_refl _, q3, q4⟩
      · intro ad e
        rcases hways with ⟨h, _⟩ | ⟨g', h, h5, h6, _⟩
        · rw [h] at e; cases e
        · rw [h] at e; cases e; exact ⟨h5, h6⟩
end Go.Proofs.Ytiimflmbcgnbeaa
