/- Texts of this claim, joined: Sb, Sc, Sd, Se, Sf. -/
import Derived.Test.YtiimflmbcgnbeaaSa
import Derived.Test.YtiimflmbcgnbeaaEq
import Derived.Test.YtiimflmbcgnbeaaBy

/- As many bytes of a seed as are asked for. -/
namespace Go.Proofs.Ytiimflmbcgnbeaa
set_option linter.unusedSimpArgs false
set_option linter.unusedVariables false
open Go.RowKit

def four4 (i : Nat) : List Nat := [i / 16777216 % 256, i / 65536 % 256, i / 256 % 256, i % 256]
def expL (s : List Nat) : Nat → List Nat
  | 0 => []
  | k + 1 => expL s k ++ shaN (s ++ four4 k)
/-- the bytes that come of a seed -/
def expN (s : List Nat) (n : Nat) : List Nat := (expL s ((n + 31) / 32)).take n
theorem expL_length (s : List Nat) (k : Nat) : (expL s k).length = 32 * k := by
  induction k with
  | zero => rfl
  | succ k ih => rw [expL, List.length_append, ih, shaN_length]; omega
theorem expL_take (s : List Nat) (k j : Nat) (h : k ≤ j) : (expL s j).take (32 * k) = expL s k := by
  induction j with
  | zero => obtain rfl : k = 0 := by omega
            rfl
  | succ j ih =>
    by_cases e : k = j + 1
    · subst e; rw [List.take_of_length_le (by rw [expL_length]; omega)]
    · rw [expL, List.take_append_of_le_length (by rw [expL_length]; omega), ih (by omega)]
theorem expN_length (s : List Nat) (n : Nat) : (expN s n).length = n := by
  unfold expN
  rw [List.length_take, expL_length]; omega
theorem expN_of (s : List Nat) (n k : Nat) (h : n ≤ 32 * k) : (expL s k).take n = expN s n := by
  unfold expN
  rw [← expL_take s ((n + 31) / 32) k (by omega), List.take_take, Nat.min_eq_left (by omega)]
/-- a shorter one is the beginning of a longer one -/
theorem expN_take (s : List Nat) {n m : Nat} (h : n ≤ m) : (expN s m).take n = expN s n := by
  rw [← expN_of s m ((m + 31) / 32) (by omega), List.take_take, Nat.min_eq_left h, expN_of s n _ (by omega)]
theorem expL_b8 (s : List Nat) (k : Nat) : B8 (expL s k) := by
  induction k with
  | zero => exact B8.nil
  | succ k ih => exact B8.append ih (shaN_b8 _)
theorem expN_b8 (s : List Nat) (n : Nat) : B8 (expN s n) := (expL_b8 _ _).take _
theorem four4_b8 (i : Nat) : B8 (four4 i) := by
  unfold four4
  repeat (refine B8.cons (Nat.mod_lt _ (by omega)) ?_)
  exact B8.nil

theorem u8_of24 (k : Nat) : IntKind.u8.wrap ((k : Int) / 16777216) = ((k / 16777216 % 256 : Nat) : Int) := by rw [IntKind.wrap_u8]; omega
theorem u8_of16 (k : Nat) : IntKind.u8.wrap ((k : Int) / 65536) = ((k / 65536 % 256 : Nat) : Int) := by rw [IntKind.wrap_u8]; omega
theorem u8_of8 (k : Nat) : IntKind.u8.wrap ((k : Int) / 256) = ((k / 256 % 256 : Nat) : Int) := by rw [IntKind.wrap_u8]; omega
theorem u8_of0 (k : Nat) : IntKind.u8.wrap (k : Int) = ((k % 256 : Nat) : Int) := by rw [IntKind.wrap_u8]; omega
theorem expand_low (w : World) (v : Value) (z : Int) (hz : z < 0) : Calls Try.prog 31 #[v, .int .i64 z] w fun e w' => e = .returned (.tuple #[.slice none 0 0, .int .i64 1]) ∧ Below w.heap.size w w' := by
  go_enter Try.func31, Try.ntmps31
  go_wp2
  go_ret2
  exact ⟨rfl, Below.refl _ _⟩
theorem expand_high (w : World) (v : Value) (z : Int) (hz : 4096 < z) : Calls Try.prog 31 #[v, .int .i64 z] w fun e w' => e = .returned (.tuple #[.slice none 0 0, .int .i64 2]) ∧ Below w.heap.size w w' := by
  have hz2 : ¬ z < 0 := by omega
  go_enter Try.func31, Try.ntmps31
  go_wp2
  go_ret2
  exact ⟨rfl, Below.refl _ _⟩
set_option maxRecDepth 100000 in
set_option maxHeartbeats 4000000 in
theorem expand_any (w : World) {s : List Nat} {B : Option Addr} {d n : Nat} (hb : Rd .u8 w B s.length d s) (b8 : B8 s) (hlen : s.length < 60000000000000) (hB : ∀ ad, B = some ad → ad.block < w.heap.size) (hn : n ≤ 4096) :
    Calls Try.prog 31 #[.slice B s.length d, .int .i64 (n : Int)] w fun e w' => ∃ A c, e = .returned (.tuple #[.slice A n c, .int .i64 0]) ∧ Rd .u8 w' A n c (expN s n) ∧ (∀ ad, A = some ad → w.heap.size ≤ ad.block ∧ ad.block < w'.heap.size) ∧ Below w.heap.size w w' := by
  have h1 : ¬ (n : Int) < 0 := by omega
  have h2 : ¬ 4096 < (n : Int) := by omega
  go_enter Try.func31, Try.ntmps31
  go_wp2_with fail
  go_loopw [6, 7] (fun o i wr => ∃ (k : Nat) (A : Option Addr) (c : Nat), k ≤ 128 ∧ i = .int .i64 (k : Int) ∧ o = .slice A (32 * k) c ∧ Own .u8 5 wr w.heap.size A (32 * k) c (expL s k) ∧ Below w.heap.size w wr) (fun _ i _ => 128 - (intOf i).toNat)
  case atStart => exact ⟨0, none, 0, by omega, rfl, rfl, Own.nil _ _ _ _, Below.refl _ _⟩
  case round =>
    obtain ⟨k, A, c, hk, rfl, rfl, hown, hbel⟩ := hrel
    by_cases hlt : 32 * k < n
    · have t1 : decide (((32 * k : Nat) : Int) < (n : Int)) = true := by simp; omega
      go_upto_region 9 with (fail)
      refine wp_region_lit ?_
      (refine wpList_plain rfl (fun K hK => ?_); go_simp; refine hK _ _ ?_; clear hK K)
      (refine wpList_plain rfl (fun K hK => ?_); go_simp; refine hK _ _ ?_; clear hK K)
      (refine wpList_plain rfl (fun K hK => ?_); go_simp; refine hK _ _ ?_; clear hK K)
      (refine wpList_plain rfl (fun K hK => ?_); go_simp; refine hK _ _ ?_; clear hK K)
      (refine wpList_plain rfl (fun K hK => ?_); go_simp; refine hK _ _ ?_; clear hK K)
      (refine wpList_plain rfl (fun K hK => ?_); go_simp; refine hK _ _ ?_; clear hK K)
      (refine wpList_plain rfl (fun K hK => ?_); go_simp; refine hK _ _ ?_; clear hK K)
      (refine wpList_plain rfl (fun K hK => ?_); go_simp; refine hK _ _ ?_; clear hK K)
      (refine wpList_plain rfl (fun K hK => ?_); go_simp; refine hK _ _ ?_; clear hK K)
      (refine wpList_plain rfl (fun K hK => ?_); go_simp; refine hK _ _ ?_; clear hK K)
      (refine wpList_plain rfl (fun K hK => ?_); go_simp; refine hK _ _ ?_; clear hK K)
      (refine wpList_plain rfl (fun K hK => ?_); go_simp; refine hK _ _ ?_; clear hK K)
      (refine wpList_plain rfl (fun K hK => ?_); go_simp; refine hK _ _ ?_; clear hK K)
      rw [show Obj.cells #[.int .u8 (IntKind.u8.wrap ((k : Int) / 16777216)), .int .u8 (IntKind.u8.wrap ((k : Int) / 65536)), .int .u8 (IntKind.u8.wrap ((k : Int) / 256)), .int .u8 (IntKind.u8.wrap (k : Int))] 5 = Obj.cells (va .u8 (four4 k)) 5 by rw [u8_of24, u8_of16, u8_of8, u8_of0]; rfl]
      have ho1 := Bk.new wr 5 (va .u8 (four4 k))
      have hl1 := (Below.refl wr.heap.size wr).alloc (Nat.le_refl _) (.cells (va .u8 (four4 k)) 5)
      have hs1 : (wr.alloc (.cells (va .u8 (four4 k)) 5)).heap.size = wr.heap.size + 1 := by simp
      generalize wr.alloc (.cells (va .u8 (four4 k)) 5) = w1 at ho1 hl1 hs1 ⊢
      have hw := hbel.size
      have l4 : (four4 k).length = 4 := rfl
      have hr4 : Rd .u8 w1 (some ⟨wr.heap.size, 0, none⟩) (four4 k).length 4 (four4 k) := (Own.of_bk (k := .u8) (base := 0) (n := 4) ho1 (Nat.zero_le _) rfl (by omega)).rd
      have hlt1 : wr.heap.size < w1.heap.size := by omega
      have hkd := keyed_any w1 ((hb.below hbel).below hl1) b8 (fun ad e => by have := hB ad e; omega) hr4 (four4_b8 k) (by rw [List.length_append, l4]; omega) (fun ad e => by cases e; exact hlt1)
      rw [l4] at hkd
      refine wpl_call rfl (w' := w1) (f := 26) (args := #[.slice B s.length d, .slice (some ⟨wr.heap.size, 0, none⟩) 4 4]) (by kernel_rfl) hkd ?_
      rintro e w2 ⟨rfl, hb2⟩
      refine ⟨_, rfl, ?_⟩
      have ls : (shaN (s ++ four4 k)).length = 32 := shaN_length _
      have hbl2 : Below w.heap.size w w2 := (hbel.trans (hl1.mono hw)).trans (hb2.mono (by omega))
      have hown2 := (hown.below hl1).below hb2
      obtain ⟨D, hD⟩ : ∃ z, shaN (s ++ four4 k) = z := ⟨_, rfl⟩
      rw [hD] at ls ⊢
      clear ho1 hl1 hr4 hb2 hbel hown
      (refine wpList_plain rfl (fun K hK => ?_); go_simp; refine hK _ _ ?_; clear hK K)
      rw [show Obj.cells #[.int .u8 0, .int .u8 0, .int .u8 0, .int .u8 0, .int .u8 0, .int .u8 0, .int .u8 0, .int .u8 0, .int .u8 0, .int .u8 0, .int .u8 0, .int .u8 0, .int .u8 0, .int .u8 0, .int .u8 0, .int .u8 0, .int .u8 0, .int .u8 0, .int .u8 0, .int .u8 0, .int .u8 0, .int .u8 0, .int .u8 0, .int .u8 0, .int .u8 0, .int .u8 0, .int .u8 0, .int .u8 0, .int .u8 0, .int .u8 0, .int .u8 0, .int .u8 0] 26 = Obj.cells (va .u8 (List.replicate 32 0)) 26 from rfl]
      have ho := Bk.new w2 26 (va .u8 (List.replicate 32 0))
      have hl := hbl2.alloc hbl2.size (.cells (va .u8 (List.replicate 32 0)) 26)
      have hl2 := (Below.refl w2.heap.size w2).alloc (Nat.le_refl _) (.cells (va .u8 (List.replicate 32 0)) 26)
      generalize w2.alloc (.cells (va .u8 (List.replicate 32 0)) 26) = w5 at ho hl hl2 ⊢
      have hown5 := hown2.below hl2
      have hgw : w.heap.size ≤ w2.heap.size := hbl2.size
      obtain ⟨g, hg⟩ : ∃ g, w2.heap.size = g := ⟨_, rfl⟩
      rw [hg] at ho hl2 hgw ⊢
      have hne : A ≠ some ⟨g, 0, none⟩ := by
        rintro rfl
        rcases hown2.ways with ⟨h, _⟩ | ⟨g', h, _, h4, _⟩
        · cases h
        · cases h; omega
      refine wpList_store_row rfl 26 _ _ rfl g (va .u8 D) (by kernel_rfl) (by kernel_rfl) 26 (va .u8 (List.replicate 32 0)) ho (out_info.trans (by rw [va_size, ls])) (by rw [va_size, va_size, ls, List.length_replicate]) (va_all _ _) ?_
      refine wpList_nil ?_
      have hst := Bk.row ho (va .u8 D)
      have hbl := below_row hl hgw (va .u8 D)
      have hgr : w5.grownBy (w5.setRow g (va .u8 D)) (some g) := ⟨rfl, rfl, rfl, by simp [World.setRow], fun k hk hne => by simp only [World.setRow, Array.getElem?_modify]; rw [if_neg (fun e => hne (by rw [e]))]⟩
      have hown6 := hown5.grown hgr hne
      generalize w5.setRow g (va .u8 D) = w6 at hst hbl hown6 ⊢
      clear hgr hown5 hown2 ho hl hl2 hbl2
      have HT : Rd .u8 w6 (some ⟨g, 0, none⟩) 32 32 D := (Own.of_bk (k := .u8) (base := 0) hst (Nat.zero_le _) ls (by omega)).rd
      obtain ⟨i0, hi0, hz0, hz1, hz2⟩ := info_parts u8_info
      have hsz := hbl.size
      go_wp2_with (at_builtin; refine wpList_append_rd _ rfl (.tmp 33) (.tmp 34) _ rfl .u8 w.heap.size 5 i0 (.int .u8 0) 1 Try.underlying22 hi0 hz0 hz1 hz2 rfl A (32 * k) c (expL s k) rfl hown6 _ _ _ _ rfl HT (by unfold maxLen; omega) (by omega) hsz ?_)
      intro A' c' w' ho' hb' _ _
      have i1 : IntKind.i64.wrap ((k : Int) + 1) = (k : Int) + 1 := IntWalk.i64_in _ (by omega)
      go_wp2_with fail
      refine ⟨⟨k + 1, A', c', by omega, by go_num, rfl, ?_, hbl.trans hb'⟩, by simp [intOf]; omega⟩
      rw [← hD] at ho'
      exact ho'
    · have t1 : decide (((32 * k : Nat) : Int) < (n : Int)) = false := by simp; omega
      have hR := hown.rd
      have h3 : (0 : Int) ≤ (n : Int) := by omega
      have hcap := hR.cap
      have h4 : (n : Int) ≤ (c : Int) := by omega
      have hways := hown.ways
      go_wp2_with fail
      go_ret2
      refine ⟨A, n, rfl, ?_, ?_, hbel⟩
      · have hl := expN_of s n k (by omega)
        rw [← hl]
        obtain ⟨q1, q2, q3, q4⟩ := hR.take (m := n) (by omega)
        exact ⟨q1, Nat.le_refl _, q3, q4⟩
      · intro ad e
        rcases hways with ⟨h, _⟩ | ⟨g', h, h5, h6, _⟩
        · rw [h] at e; cases e
        · rw [h] at e; cases e; exact ⟨h5, h6⟩
end Go.Proofs.Ytiimflmbcgnbeaa

/- A region that draws its order and whose calls only make memory: one walk, over all worlds in which the old memory stands. -/

namespace Go.Proofs.Ytiimflmbcgnbeaa
set_option linter.unusedSimpArgs false
set_option linter.unusedVariables false
open Go.RowKit

def abcN : List Nat := [97, 98, 99]
set_option maxRecDepth 100000 in
theorem sha_nil0 : gd (shaN []) 0 = 227 := by decide +kernel
set_option maxRecDepth 100000 in
theorem sha_nil3 : gd (shaN []) 3 = 66 := by decide +kernel
set_option maxRecDepth 100000 in
theorem sha_abc0 : gd (shaN abcN) 0 = 186 := by decide +kernel
set_option maxRecDepth 100000 in
theorem sha_abc1 : gd (shaN abcN) 1 = 120 := by decide +kernel
theorem abc_b8 : B8 abcN := B8.cons (by omega) (B8.cons (by omega) (B8.cons (by omega) B8.nil))

theorem abc_len : abcN.length = 3 := rfl
theorem conv_abc (w : World) : (do let v ← convert 22 22 (.slice (some ⟨w.heap.size, 0, none⟩) 3 3); pure (Next.value v)).run Try.prog (w.alloc (.cells (va .u8 abcN) 5)) = .ok (Next.value (.slice (some ⟨w.heap.size, 0, none⟩) 3 3)) (w.alloc (.cells (va .u8 abcN) 5 (3, 4))) := by
  rw [Sem.run_bind, Lib.run_convert_bytes_const w 22 5 (va .u8 abcN) 3 3 Try.underlying22 Try.underlying5]
  rfl
theorem run_eq32 (w : World) {xs ys : List Nat} (hx : xs.length = 32) (hy : ys.length = 32) : (Op.equalIn 10000 26 (.agg (va .u8 xs)) (.agg (va .u8 ys))).run Try.prog w = .ok (decide (xs = ys)) w := by
  obtain ⟨i0, hi0, _⟩ := info_parts u8_info
  exact run_eqArray w 9998 32 .u8 Try.underlying26 hi0 (by kernel_rfl) Try.underlying5 (by kernel_rfl) hx hy
theorem eq32_guard : Try.prog.eqGuardType Try.prog.depth 26 = false := by kernel_rfl
theorem len_below (w : World) {g base : Nat} {m : List Nat} (h : HS w g base m) : Calls Try.prog 25 #[.pointer (some ⟨g, 0, none⟩)] w fun e w' => e = .returned (.int .i64 (m.length : Int)) ∧ Below w.heap.size w w' := by
  refine (len_any w h).mono ?_
  rintro e w' ⟨rfl, rfl⟩
  exact ⟨rfl, Below.refl _ _⟩
theorem new_hs (w : World) (base : Nat) : Calls Try.prog 22 #[] w fun e w' => e = .returned (.pointer (some ⟨w.heap.size, 0, none⟩)) ∧ HS w' w.heap.size base [] ∧ Below w.heap.size w w' := by
  refine (new_any w).mono ?_
  rintro e w' ⟨rfl, rfl⟩
  exact ⟨rfl, HS.new w base, (Below.refl _ _).alloc (Nat.le_refl _) _⟩
theorem alive_any (w : World) : Calls Try.prog 18 #[] w fun e w' => e = .returned (.bool true) ∧ Below w.heap.size w w' := by
  obtain ⟨D0, hD0⟩ : ∃ z, shaN [] = z := ⟨_, rfl⟩
  have d0 := sha_nil0
  have d3 := sha_nil3
  have hp0 := pkgSum_any w (Rd.nil .u8 w none 0) B8.nil (by simp) (fun _ h => by cases h)
  obtain ⟨D1, hD1⟩ : ∃ z, shaN abcN = z := ⟨_, rfl⟩
  have e0 := sha_abc0
  have e1 := sha_abc1
  have l0 := shaN_length []
  have l1 := shaN_length abcN
  rw [hD0] at d0 d3 hp0 l0
  rw [hD1] at e0 e1 l1
  rw [List.length_nil] at hp0
  go_enter Try.func18, Try.ntmps18
  go_upto_region 1 with (fail)
  refine wp_region_lit ?_
  refine wpl_call rfl (w' := w) (f := 20) (args := #[.slice none 0 0]) (by kernel_rfl) hp0 ?_
  rintro e w1 ⟨rfl, hb1⟩
  refine ⟨_, rfl, ?_⟩
  (refine wpList_plain rfl (fun K hK => ?_); go_simp; refine hK _ _ ?_; clear hK K)
  rw [show Obj.cells #[.int .u8 97, .int .u8 98, .int .u8 99] 5 = Obj.cells (va .u8 abcN) 5 from rfl]
  refine wpl_val rfl (v := .slice (some ⟨w1.heap.size, 0, none⟩) 3 3) (w' := w1.alloc (.cells (va .u8 abcN) 5 (3, 4))) ?_ ?_
  · exact conv_abc w1
  have hr : Rd .u8 (w1.alloc (.cells (va .u8 abcN) 5 (3, 4))) (some ⟨w1.heap.size, 0, none⟩) abcN.length 3 abcN := rd_marked w1 .u8 abcN 3 rfl (by omega) _ _
  have hl1 := hb1.alloc hb1.size (.cells (va .u8 abcN) 5 (3, 4))
  have hlt : w1.heap.size < (w1.alloc (.cells (va .u8 abcN) 5 (3, 4))).heap.size := by simp
  generalize w1.alloc (.cells (va .u8 abcN) 5 (3, 4)) = w2 at hr hl1 hlt ⊢
  have hpk := pkgSum_any w2 hr abc_b8 (by rw [abc_len]; omega) (fun ad h => by cases h; exact hlt)
  rw [abc_len, hD1] at hpk
  refine wpl_call rfl (w' := w2) (f := 20) (args := #[.slice (some ⟨w1.heap.size, 0, none⟩) 3 3]) (by kernel_rfl) hpk ?_
  rintro e w3 ⟨rfl, hb3⟩
  refine ⟨_, rfl, ?_⟩
  (refine wpList_plain rfl (fun K hK => ?_); go_simp; refine hK _ _ ?_; clear hK K)
  (refine wpList_plain rfl (fun K hK => ?_); go_simp; refine hK _ _ ?_; clear hK K)
  rw [show Obj.cells #[.int .u8 0, .int .u8 0, .int .u8 0, .int .u8 0, .int .u8 0, .int .u8 0, .int .u8 0, .int .u8 0, .int .u8 0, .int .u8 0, .int .u8 0, .int .u8 0, .int .u8 0, .int .u8 0, .int .u8 0, .int .u8 0, .int .u8 0, .int .u8 0, .int .u8 0, .int .u8 0, .int .u8 0, .int .u8 0, .int .u8 0, .int .u8 0, .int .u8 0, .int .u8 0, .int .u8 0, .int .u8 0, .int .u8 0, .int .u8 0, .int .u8 0, .int .u8 0] 26 = Obj.cells (va .u8 (List.replicate 32 0)) 26 from rfl]
  have ho1 := Bk.new w3 26 (va .u8 (List.replicate 32 0))
  have hb3' : Below w.heap.size w w3 := hl1.trans (hb3.mono hl1.size)
  have hl3 := hb3'.alloc hb3'.size (.cells (va .u8 (List.replicate 32 0)) 26)
  have hs3 : (w3.alloc (.cells (va .u8 (List.replicate 32 0)) 26)).heap.size = w3.heap.size + 1 := by simp
  have hw3 := hb3'.size
  generalize w3.alloc (.cells (va .u8 (List.replicate 32 0)) 26) = w4 at ho1 hl3 hs3 ⊢
  have ho2 := Bk.new w4 26 (va .u8 (List.replicate 32 0))
  have ho1' := ho1.alloc (.cells (va .u8 (List.replicate 32 0)) 26)
  have hl4 := hl3.alloc hl3.size (.cells (va .u8 (List.replicate 32 0)) 26)
  have hs4 : (w4.alloc (.cells (va .u8 (List.replicate 32 0)) 26)).heap.size = w3.heap.size + 2 := by simp; omega
  generalize w4.alloc (.cells (va .u8 (List.replicate 32 0)) 26) = w5 at ho1' ho2 hl4 hs4 ⊢
  rw [hs3] at ho2
  obtain ⟨ga, hga⟩ : ∃ z, w3.heap.size = z := ⟨_, rfl⟩
  obtain ⟨gb, hgb⟩ : ∃ z, w3.heap.size + 1 = z := ⟨_, rfl⟩
  rw [hgb] at ho2 ⊢
  rw [hga] at ho1' ⊢
  refine wpList_store_row rfl 26 _ _ rfl ga (va .u8 D0) (by kernel_rfl) (by kernel_rfl) 26 (va .u8 (List.replicate 32 0)) ho1' (out_info.trans (by rw [va_size, l0])) (by rw [va_size, va_size, l0, List.length_replicate]) (va_all _ _) ?_
  have hx1 := Bk.row ho1' (va .u8 D0)
  have hx2 := Bk.rowFar ho2 (g' := ga) (by omega) (va .u8 D0)
  have hl5 := below_row hl4 (g := ga) (by omega) (va .u8 D0)
  have hs5 : (w5.setRow ga (va .u8 D0)).heap.size = w5.heap.size := by simp [World.setRow]
  generalize w5.setRow ga (va .u8 D0) = w6 at hx1 hx2 hl5 hs5 ⊢
  refine wpList_store_row rfl 26 _ _ rfl gb (va .u8 D1) (by kernel_rfl) (by kernel_rfl) 26 (va .u8 (List.replicate 32 0)) hx2 (out_info.trans (by rw [va_size, l1])) (by rw [va_size, va_size, l1, List.length_replicate]) (va_all _ _) ?_
  have hy2 := Bk.row hx2 (va .u8 D1)
  have hy1 := Bk.rowFar hx1 (g' := gb) (by omega) (va .u8 D1)
  have hl6 := below_row hl5 (g := gb) (by omega) (va .u8 D1)
  have hs6 : (w6.setRow gb (va .u8 D1)).heap.size = w6.heap.size := by simp [World.setRow]
  generalize w6.setRow gb (va .u8 D1) = w7 at hy1 hy2 hl6 hs6 ⊢
  refine wpList_nil ?_
  clear hx1 hx2 hl5 ho1 ho1' ho2 hl3 hl4 hb3' hpk hp0 hr hl1 hb1 hlt hb3 
  have hnew := new_hs w7 0
  obtain ⟨gh, hgh⟩ : ∃ z, w7.heap.size = z := ⟨_, rfl⟩
  have hga7 : ga < w7.heap.size := by omega
  have hgb7 : gb < w7.heap.size := by omega
  have hsz7 := hl6.size
  rw [hgh] at hnew hga7 hgb7 hsz7
  clear hs6 hs5 hs4 hs3 hgh hga hgb
  go_upto_region 3 with (go_at_call 22; refine hnew.mono ?_; rintro e w8 ⟨rfl, h8, hb8⟩)
  refine wp_region_lit ?_
  (refine wpList_plain rfl (fun K hK => ?_); go_simp; refine hK _ _ ?_; clear hK K)
  (refine wpList_plain rfl (fun K hK => ?_); go_simp; refine hK _ _ ?_; clear hK K)
  rw [show Obj.cells #[.int .u8 97, .int .u8 98, .int .u8 99] 5 = Obj.cells (va .u8 abcN) 5 from rfl]
  refine wpl_val rfl (v := .slice (some ⟨w8.heap.size, 0, none⟩) 3 3) (w' := w8.alloc (.cells (va .u8 abcN) 5 (3, 4))) ?_ ?_
  · exact conv_abc w8
  have hr : Rd .u8 (w8.alloc (.cells (va .u8 abcN) 5 (3, 4))) (some ⟨w8.heap.size, 0, none⟩) abcN.length 3 abcN := rd_marked w8 .u8 abcN 3 rfl (by omega) _ _
  have hbn := (Below.refl w8.heap.size w8).alloc (Nat.le_refl _) (.cells (va .u8 abcN) 5 (3, 4))
  have h9 := h8.below hbn
  have hn8 := h8.lt
  have hb9 : Below gh w7 (w8.alloc (.cells (va .u8 abcN) 5 (3, 4))) := hb8.trans (hbn.mono (by omega))
  generalize w8.alloc (.cells (va .u8 abcN) 5 (3, 4)) = w9 at hr h9 hb9 ⊢
  have hwr := write_any w9 h9 hr (fun ad e => by cases e; show w8.heap.size ≠ gh; omega) abc_b8 (by rw [List.length_append, abc_len]; simp)
  rw [List.nil_append, abc_len] at hwr
  refine wpl_call rfl (w' := w9) (f := 23) (args := #[.pointer (some ⟨gh, 0, none⟩), .slice (some ⟨w8.heap.size, 0, none⟩) 3 3]) (by kernel_rfl) hwr ?_
  rintro e w10 ⟨rfl, h10, hs10⟩
  refine ⟨_, rfl, ?_⟩
  (refine wpList_plain rfl (fun K hK => ?_); go_simp; refine hK _ _ ?_; clear hK K)
  refine wpList_nil ?_
  have hl10 : Below gh w7 w10 := hb9.grown h10 (by have := h9.lt; omega) (fun k e => by cases e; exact Nat.le_refl _)
  have hz1 := Bk.below hy1 hl10 hga7
  have hz2 := Bk.below hy2 hl10 hgb7
  have hl11 : Below w.heap.size w w10 := hl6.trans (hl10.mono hsz7)
  clear hl10 hwr hb9 h9 hr hbn h8 hb8 hnew hy1 hy2 hl6
  have S : ∀ i : Bels w10.heap.size w10, i.w.cell? ⟨ga, 0, none⟩ = some (.int .u8 227) ∧ i.w.cell? ⟨ga, 3, none⟩ = some (.int .u8 66) ∧ i.w.cell? ⟨gb, 0, none⟩ = some (.int .u8 186) ∧ i.w.cell? ⟨gb, 1, none⟩ = some (.int .u8 120) ∧ Bk i.w gb 26 (va .u8 D1) := by
    intro i
    have k1 := Bk.below hz1 i.h hz1.lt
    have k2 := Bk.below hz2 i.h hz2.lt
    refine ⟨(k1.cell 0).trans ?_, (k1.cell 3).trans ?_, (k2.cell 0).trans ?_, (k2.cell 1).trans ?_, k2⟩
    · rw [va_at .u8 (by omega), d0]; rfl
    · rw [va_at .u8 (by omega), d3]; rfl
    · rw [va_at .u8 (by omega), e0]; rfl
    · rw [va_at .u8 (by omega), e1]; rfl
  have S1 := fun i => (S i).1
  have S2 := fun i => (S i).2.1
  have S3 := fun i => (S i).2.2.1
  have S4 := fun i => (S i).2.2.2.1
  have S5 := fun i => (S i).2.2.2.2
  go_upto_region 4 with (fail)
  refine bels_region (by kernel_rfl) (by kernel_rfl) ?_
  repeat (refine wpQuiet_step (fun K hK => ?_); go_simp; refine hK _ ?_; clear hK K)
  refine wpQuiet_step (fun K hK => ?_)
  go_simp
  apply Exists.intro
  refine ⟨fun i => ?_, hK _ ?_⟩
  · exact bels_call (Nat.le_refl _) (sum_any i.w (hs10.below i.h) (by rw [abc_len]; omega))
  clear hK K
  rw [hD1]
  repeat (refine wpQuiet_step (fun K hK => ?_); go_simp; refine hK _ ?_; clear hK K)
  refine wpQuiet_load_row (by kernel_rfl) 26 _ rfl gb (by kernel_rfl) 26 (va .u8 D1) (.array 32 5) (fun w' h => by obtain ⟨i, rfl⟩ := h; exact S5 i) Try.underlying26 rfl (out_info.trans (by rw [va_size, l1])) ?_
  have EQ := fun w' => run_eq32 w' l1 l1
  have EG := eq32_guard
  simp only [decide_true] at EQ
  repeat (refine wpQuiet_step (fun K hK => ?_); go_simp; refine hK _ ?_; clear hK K)
  refine wpQuiet_step (fun K hK => ?_)
  go_simp
  apply Exists.intro
  refine ⟨fun i => ?_, hK _ ?_⟩
  · exact bels_call (Nat.le_refl _) (len_below i.w (hs10.below i.h))
  clear hK K
  rw [abc_len]
  repeat (refine wpQuiet_step (fun K hK => ?_); go_simp; refine hK _ ?_; clear hK K)
  refine wpQuiet_nil ?_
  intro i
  go_wp2_with fail
  go_ret
  exact ⟨rfl, hl11.trans (i.h.mono hl11.size)⟩
end Go.Proofs.Ytiimflmbcgnbeaa

/- A shorter expansion is the beginning of a longer one: the walk. -/
namespace Go.Proofs.Ytiimflmbcgnbeaa
set_option linter.unusedSimpArgs false
set_option linter.unusedVariables false
open Go.RowKit Go.Proofs.YtiimflmbcgnbeaaW.PrintWords

/-- a text as a value -/
def bstr (xs : List Nat) : ByteArray := strOfNums (cI xs)
theorem conv_rd {w : World} {A : Option Addr} {n c : Nat} {xs : List Nat} (h : Rd .u8 w A n c xs) : (convert 22 9 (.slice A n c)).run Try.prog w = .ok (.string (bstr xs)) w := by
  have hc := C_of_Rd h
  rw [cI_length, h.len] at hc
  exact Kd.C_string Try.underlying22 Try.underlying5 Try.underlying9 hc
theorem walk_ShaBegins (A0 : Option Addr) (n0 c0 : Nat) (b0 : List Nat) (n m : Int) (W : World) (rd0 : Rd .u8 W A0 n0 c0 b0) (b8 : B8 b0) (al0 : ∀ ad, A0 = some ad → ad.block < W.heap.size) (w1 : (Lit.int .i64 n).wf = true) (w2 : (Lit.int .i64 m).wf = true) :
    Calls Try.prog 10 #[.slice A0 n0 c0, .int .i64 n, .int .i64 m] W fun e w' => e = .returned (.bool true) ∧ Below W.heap.size W w' := by
  go_enter Try.func10, Try.ntmps10
  by_cases h1 : (400 : Int) < (n0 : Int)
  · skip
    go_wp2_with (go_at_call 18; refine (alive_any _).mono ?_; rintro e w1 ⟨rfl, hb1⟩)
    go_ret
    exact ⟨rfl, hb1⟩
  by_cases h2 : n < 0
  · skip
    go_wp2_with (go_at_call 18; refine (alive_any _).mono ?_; rintro e w1 ⟨rfl, hb1⟩)
    go_ret
    exact ⟨rfl, hb1⟩
  by_cases h3 : m < n
  · skip
    go_wp2_with (go_at_call 18; refine (alive_any _).mono ?_; rintro e w1 ⟨rfl, hb1⟩)
    go_ret
    exact ⟨rfl, hb1⟩
  by_cases h4 : 600 < m
  · skip
    go_wp2_with (go_at_call 18; refine (alive_any _).mono ?_; rintro e w1 ⟨rfl, hb1⟩)
    go_ret
    exact ⟨rfl, hb1⟩
  obtain ⟨i, rfl⟩ : ∃ i : Nat, n = (i : Int) := ⟨n.toNat, by omega⟩
  obtain ⟨j, rfl⟩ : ∃ j : Nat, m = (j : Int) := ⟨m.toNat, by omega⟩
  obtain rfl := rd0.len
  have t1 := decide_eq_false h1
  have t2 := decide_eq_false h2
  have t3 := decide_eq_false h3
  have t4 := decide_eq_false h4
  have hE1 := expand_any W rd0 b8 (by omega) al0 (n := i) (by omega)
  go_upto_region 4 with (go_at_call 31; refine hE1.mono ?_; rintro e w1 ⟨A1, c1, rfl, r1, al1, hb1⟩)
  have hs1 := hb1.size
  have hE2 := expand_any w1 (rd0.below hb1) b8 (by omega) (fun ad e => by have := al0 ad e; omega) (n := j) (by omega)
  go_upto_region 5 with (go_at_call 31; refine hE2.mono ?_; rintro e w2 ⟨A2, c2, rfl, r2, al2, hb2⟩)
  have hs2 := hb2.size
  have hcap := r2.cap
  have q1 : (0 : Int) ≤ (i : Int) := by omega
  have q2 : (i : Int) ≤ (c2 : Int) := by omega
  have Z1 : ∀ k : Bels w2.heap.size w2, (convert 22 9 (.slice A1 i c1)).run Try.prog k.w = .ok (.string (bstr (expN b0 i))) k.w := fun k => conv_rd ((r1.below hb2).below k.h)
  have Z2 : ∀ k : Bels w2.heap.size w2, (convert 22 9 (.slice A2 i c2)).run Try.prog k.w = .ok (.string (bstr (expN b0 i))) k.w := fun k => by
    have h := (r2.below k.h).take (m := i) (by omega)
    rw [expN_take b0 (by omega)] at h
    exact conv_rd h
  refine bels_region (by kernel_rfl) (by kernel_rfl) ?_
  (refine wpQuiet_step (fun K hK => ?_); go_simp; apply Exists.intro; refine ⟨fun i => ?_, hK _ ?_⟩)
  · exact bels_call (Nat.le_refl _) (alive_any i.w)
  clear hK K
  (repeat (refine wpQuiet_step (fun K hK => ?_); go_simp; refine hK _ ?_; clear hK K))
  refine wpQuiet_nil ?_
  intro k
  go_wp2_with fail
  go_ret
  exact ⟨rfl, hb1.trans ((hb2.mono hs1).trans (k.h.mono (by omega)))⟩
end Go.Proofs.Ytiimflmbcgnbeaa

/- In whatever pieces a text comes, its digest is the same; asking for a sum changes nothing: the walks. -/
namespace Go.Proofs.Ytiimflmbcgnbeaa
set_option linter.unusedSimpArgs false
set_option linter.unusedVariables false
open Go.RowKit Go.Proofs.YtiimflmbcgnbeaaW.PrintWords

/-- where a cut begins -/
def cutA (c lo : Nat) (A : Option Addr) : Option Addr := if c = lo then A else A.map (·.add lo)
theorem cutA_lt {c lo : Nat} {A : Option Addr} {B : Nat} (h : ∀ ad, A = some ad → ad.block < B) : ∀ ad, cutA c lo A = some ad → ad.block < B := by
  intro ad e
  unfold cutA at e
  split at e
  · exact h ad e
  · rcases A with _ | a
    · cases e
    · simp only [Option.map_some, Option.some.injEq] at e
      rw [← e]
      exact adlt (h a rfl) lo
theorem Rd.cut {k : IntKind} {w : World} {A : Option Addr} {n c : Nat} {xs : List Nat} (h : Rd k w A n c xs) {lo hi : Nat} (h1 : lo ≤ hi) (h2 : hi ≤ n) : Rd k w (cutA c lo A) (hi - lo) (c - lo) ((xs.drop lo).take (hi - lo)) :=
  (h.drop (m := lo) (by omega)).take (by omega)
theorem run_cut (A : Option Addr) (n c lo hi : Nat) (h1 : lo ≤ hi) (h2 : hi ≤ n) (hc : n ≤ c) (W : World) : (Instr.slice 22 (.slice A n c) (some (.int .i64 (lo : Int))) (some (.int .i64 (hi : Int))) none).run Try.prog W = .ok (.slice (cutA c lo A) (hi - lo) (c - lo)) W := by
  obtain ⟨i0, hi0, _, hz1, _⟩ := info_parts u8_info
  have := cut_mid (P := Try.prog) 22 5 .i64 .i64 Try.underlying22 hi0 1 hz1 A n c (lo : Int) (hi : Int) (by omega) (by omega) (by omega) hc W
  rw [this]
  simp [cutA]
theorem run_from (A : Option Addr) (n c lo : Nat) (h1 : lo ≤ n) (W : World) : (Instr.slice 22 (.slice A n c) (some (.int .i64 (lo : Int))) none none).run Try.prog W = .ok (.slice (cutA c lo A) (n - lo) (c - lo)) W := by
  obtain ⟨i0, hi0, _, hz1, _⟩ := info_parts u8_info
  have := cut_from (P := Try.prog) 22 5 .i64 Try.underlying22 hi0 1 hz1 A n c (lo : Int) (by omega) (by omega) W
  rw [this]
  simp [cutA]
theorem wr_any (w : World) {g base : Nat} {m b : List Nat} {A : Option Addr} {n c : Nat} (h : HS w g base m) (hb : Rd .u8 w A n c b) (hg : ∀ ad, A = some ad → ad.block ≠ g) (b8 : B8 b) (hlen : m.length + n < 140737488355328) :
    Calls Try.prog 23 #[.pointer (some ⟨g, 0, none⟩), .slice A n c] w fun e w' => e = .returned (.int .i64 0) ∧ Wrote g w w' ∧ HS w' g w.heap.size (m ++ b) := by
  obtain rfl := hb.len
  exact write_any w h hb hg b8 (by rw [List.length_append]; exact hlen)
theorem pk_any (w : World) {b : List Nat} {A : Option Addr} {n c : Nat} (hb : Rd .u8 w A n c b) (b8 : B8 b) (hlen : n < 70000000000000) (hB : ∀ ad, A = some ad → ad.block < w.heap.size) :
    Calls Try.prog 20 #[.slice A n c] w fun e w' => e = .returned (.agg (va .u8 (shaN b))) ∧ Below w.heap.size w w' := by
  obtain rfl := hb.len
  exact pkgSum_any w hb b8 hlen hB
theorem ky_any (w : World) {a b : List Nat} {A B : Option Addr} {n c m d : Nat} (ha : Rd .u8 w A n c a) (a8 : B8 a) (hA : ∀ ad, A = some ad → ad.block < w.heap.size) (hb : Rd .u8 w B m d b) (b8 : B8 b) (hlen : n + m < 70000000000000) (hB : ∀ ad, B = some ad → ad.block < w.heap.size) :
    Calls Try.prog 26 #[.slice A n c, .slice B m d] w fun e w' => e = .returned (.agg (va .u8 (shaN (a ++ b)))) ∧ Below w.heap.size w w' := by
  obtain rfl := hb.len
  obtain rfl := ha.len
  exact keyed_any w ha a8 hA hb b8 (by rw [List.length_append]; exact hlen) hB
theorem Wrote.later {g base : Nat} {w w' : World} (h : Wrote g w w') (hb : base ≤ w.heap.size) (hg : base ≤ g) : Below base w w' := h.below hb hg
theorem take_mid {b : List Nat} {i k : Nat} (h : i ≤ k) : b.take i ++ (b.drop i).take (k - i) = b.take k := by
  rw [List.take_drop, show i + (k - i) = k by omega]
  conv => rhs; rw [← List.take_append_drop i (b.take k), List.take_take, Nat.min_eq_left h]
set_option maxHeartbeats 1000000 in
theorem walk_ShaPieces (A0 : Option Addr) (n0 c0 : Nat) (b : List Nat) (n m : Int) (W : World) (rd0 : Rd .u8 W A0 n0 c0 b) (b8 : B8 b) (al0 : ∀ ad, A0 = some ad → ad.block < W.heap.size) (y0 : n0 * 1 ≤ 140737488351232) (w1 : (Lit.int .i64 n).wf = true) (w2 : (Lit.int .i64 m).wf = true) :
    Calls Try.prog 5 #[.slice A0 n0 c0, .int .i64 n, .int .i64 m] W fun e w' => e = .returned (.bool true) ∧ Below W.heap.size W w' := by
  go_enter Try.func5, Try.ntmps5
  by_cases h1 : (4000 : Int) < (n0 : Int)
  · skip
    go_wp2_with (go_at_call 18; refine (alive_any _).mono ?_; rintro e w1 ⟨rfl, hb1⟩)
    go_ret
    exact ⟨rfl, hb1⟩
  by_cases h2 : n < 0
  · skip
    go_wp2_with (go_at_call 18; refine (alive_any _).mono ?_; rintro e w1 ⟨rfl, hb1⟩)
    go_ret
    exact ⟨rfl, hb1⟩
  by_cases h3 : (n0 : Int) < n
  · skip
    go_wp2_with (go_at_call 18; refine (alive_any _).mono ?_; rintro e w1 ⟨rfl, hb1⟩)
    go_ret
    exact ⟨rfl, hb1⟩
  by_cases h4 : m < n
  · skip
    go_wp2_with (go_at_call 18; refine (alive_any _).mono ?_; rintro e w1 ⟨rfl, hb1⟩)
    go_ret
    exact ⟨rfl, hb1⟩
  by_cases h5 : (n0 : Int) < m
  · skip
    go_wp2_with (go_at_call 18; refine (alive_any _).mono ?_; rintro e w1 ⟨rfl, hb1⟩)
    go_ret
    exact ⟨rfl, hb1⟩
  obtain ⟨i, rfl⟩ : ∃ i : Nat, n = (i : Int) := ⟨n.toNat, by omega⟩
  obtain ⟨k, rfl⟩ : ∃ j : Nat, m = (j : Int) := ⟨m.toNat, by omega⟩
  have hlen := rd0.len
  have hcap := rd0.cap
  have t1 := decide_eq_false h1
  have t2 := decide_eq_false h2
  have t3 := decide_eq_false h3
  have t4 := decide_eq_false h4
  have t5 := decide_eq_false h5
  have hik : i ≤ k := by omega
  have hkn : k ≤ n0 := by omega
  have hic : (i : Int) ≤ (c0 : Int) := by omega
  have hkc : (k : Int) ≤ (c0 : Int) := by omega
  have i0 : (0 : Int) ≤ (i : Int) := by omega
  have k0 : (0 : Int) ≤ (k : Int) := by omega
  have X1 := fun W' => run_cut A0 n0 c0 i k hik hkn hcap W'
  have X2 := fun W' => run_from A0 n0 c0 k hkn W'
  have hnew := new_hs W 0
  go_upto_region 6 with (go_at_call 22; refine hnew.mono ?_; rintro e wa ⟨rfl, ha, ba⟩)
  have ra := rd0.below ba
  have hla := ha.lt
  have hwr1 := wr_any wa ha (ra.take (m := i) (by omega)) (fun ad e => by have := al0 ad e; omega) (b8.take i) (by simp; omega)
  clear hnew
  go_upto_region 8 with (first
    | (go_at_call 23; refine hwr3.mono ?_; rintro e wd ⟨rfl, gd, hd⟩)
    | (go_at_call 23; refine hwr2.mono ?_; rintro e wc ⟨rfl, gc, hc⟩
       have bc := gc.below (base := W.heap.size) (Nat.le_of_lt hb.lt) (Nat.le_refl _)
       have rc := rd0.below ((ba.trans bb).trans bc)
       have u1 : Rd .u8 wc (cutA c0 k A0) (n0 - k) (c0 - k) (b.drop k) := rc.drop (m := k) hkn
       have u2 : ∀ ad, cutA c0 k A0 = some ad → ad.block ≠ W.heap.size := fun ad e => by have := cutA_lt al0 ad e; omega
       have u3 : B8 (b.drop k) := b8.drop k
       have u4 : ([] ++ b.take i ++ (b.drop i).take (k - i)).length + (n0 - k) < 140737488355328 := by simp; omega
       have hwr3 := wr_any wc hc u1 u2 u3 u4)
    | (go_at_call 23; refine hwr1.mono ?_; rintro e wb ⟨rfl, gb, hb⟩
       have bb := gb.below (base := W.heap.size) (by omega) (Nat.le_refl _)
       have rb := rd0.below (ba.trans bb)
       have q1 := rb.cut hik hkn
       have q2 : ∀ ad, cutA c0 i A0 = some ad → ad.block ≠ W.heap.size := fun ad e => by have := cutA_lt al0 ad e; omega
       have q3 : B8 ((b.drop i).take (k - i)) := (b8.drop i).take _
       have q4 : ([] ++ b.take i).length + (k - i) < 140737488355328 := by simp; omega
       have hwr2 := wr_any wb hb q1 q2 q3 q4))
  have bd := ((ba.trans bb).trans bc).trans (gd.below (base := W.heap.size) (Nat.le_of_lt hc.lt) (Nat.le_refl _))
  have hm : [] ++ b.take i ++ (b.drop i).take (k - i) ++ b.drop k = b := by
    rw [List.nil_append, take_mid hik, List.take_append_drop]
  rw [hm] at hd
  have HD := Lib.hid hd
  have BD := Lib.hid bd
  have hsz := bd.size
  clear hwr1 hwr2 hwr3 q1 q2 q3 q4 u1 u2 u3 u4 ha hb hc gb gc gd rb rc bb bc ra ba hla
  obtain ⟨D, hD⟩ : ∃ z, shaN b = z := ⟨_, rfl⟩
  have lD : D.length = 32 := by rw [← hD]; exact shaN_length b
  have EQ := fun w' => run_eq32 w' lD lD
  have EG := eq32_guard
  simp only [decide_true] at EQ
  refine bels_region (by kernel_rfl) (by kernel_rfl) ?_
  (refine wpQuiet_step (fun K hK => ?_); go_simp; apply Exists.intro; refine ⟨fun i => ?_, hK _ ?_⟩)
  · exact bels_call (Nat.le_refl _) (alive_any i.w)
  clear hK K
  (repeat (refine wpQuiet_step (fun K hK => ?_); go_simp; refine hK _ ?_; clear hK K))
  (refine wpQuiet_step (fun K hK => ?_); go_simp; apply Exists.intro; refine ⟨fun i => ?_, hK _ ?_⟩)
  · exact bels_call (Nat.le_refl _) (sum_any i.w (HD.out.below i.h) (by omega))
  clear hK K
  rw [hD]
  (repeat (refine wpQuiet_step (fun K hK => ?_); go_simp; refine hK _ ?_; clear hK K))
  (refine wpQuiet_step (fun K hK => ?_); go_simp; apply Exists.intro; refine ⟨fun i => ?_, hK _ ?_⟩)
  · exact bels_call (Nat.le_refl _) (pk_any i.w (rd0.below (BD.out.trans (i.h.mono hsz))) b8 (by omega) (fun ad e => by have := al0 ad e; have := i.h.size; omega))
  clear hK K
  rw [hD]
  (repeat (refine wpQuiet_step (fun K hK => ?_); go_simp; refine hK _ ?_; clear hK K))
  (refine wpQuiet_step (fun K hK => ?_); go_simp; apply Exists.intro; refine ⟨fun i => ?_, hK _ ?_⟩)
  · have hbi := BD.out.trans (i.h.mono hsz)
    have hal : ∀ ad, A0 = some ad → ad.block < i.w.heap.size := fun ad e => by have := al0 ad e; have := i.h.size; omega
    have u1 : Rd .u8 i.w (cutA c0 k A0) (n0 - k) (c0 - k) (b.drop k) := (rd0.below hbi).drop (m := k) hkn
    exact bels_call (Nat.le_refl _) (ky_any i.w ((rd0.below hbi).take (m := k) hkn) (b8.take k) hal u1 (b8.drop k) (by omega) (cutA_lt hal))
  clear hK K
  rw [List.take_append_drop, hD]
  (repeat (refine wpQuiet_step (fun K hK => ?_); go_simp; refine hK _ ?_; clear hK K))
  (refine wpQuiet_step (fun K hK => ?_); go_simp; apply Exists.intro; refine ⟨fun i => ?_, hK _ ?_⟩)
  · exact bels_call (Nat.le_refl _) (pk_any i.w (rd0.below (BD.out.trans (i.h.mono hsz))) b8 (by omega) (fun ad e => by have := al0 ad e; have := i.h.size; omega))
  clear hK K
  rw [hD]
  (repeat (refine wpQuiet_step (fun K hK => ?_); go_simp; refine hK _ ?_; clear hK K))
  refine wpQuiet_nil ?_
  intro z
  go_wp2_with fail
  go_ret
  exact ⟨rfl, BD.out.trans (z.h.mono hsz)⟩
end Go.Proofs.Ytiimflmbcgnbeaa

/- Asking for a sum changes nothing: the walk. -/
namespace Go.Proofs.Ytiimflmbcgnbeaa
set_option linter.unusedSimpArgs false
set_option linter.unusedVariables false
open Go.RowKit Go.Proofs.YtiimflmbcgnbeaaW.PrintWords

theorem HS.far {w w' : World} {g g' base : Nat} {m : List Nat} (h : HS w g base m) (hw : Wrote g' w w') (hne : g' ≠ g) (hb : g' < base) : HS w' g base m := by
  obtain ⟨h1, h2, bg, ws, A, n, c, hk, h3, h4, hr, hA, h5, h6⟩ := h
  exact ⟨h1, h2, bg, ws, A, n, c, (hw.block _ hk.lt (fun e => hne (Option.some.inj e).symm)).trans hk, h3, h4, hr.kept hw (fun ad e r er => by cases er; have := (hA ad e).1; omega),
    fun ad e => ⟨(hA ad e).1, (hA ad e).2.1, Nat.lt_of_lt_of_le (hA ad e).2.2 hw.size⟩, h5, h6⟩
set_option maxHeartbeats 1000000 in
theorem walk_ShaAsked (A0 : Option Addr) (n0 c0 : Nat) (a : List Nat) (A1 : Option Addr) (n1 c1 : Nat) (b : List Nat) (m : Int) (W : World) (rd0 : Rd .u8 W A0 n0 c0 a) (a8 : B8 a) (al0 : ∀ ad, A0 = some ad → ad.block < W.heap.size) (y0 : n0 * 1 ≤ 140737488351232)
    (rd1 : Rd .u8 W A1 n1 c1 b) (b8 : B8 b) (al1 : ∀ ad, A1 = some ad → ad.block < W.heap.size) (y1 : n1 * 1 ≤ 140737488351232) (w2 : (Lit.int .i64 m).wf = true) :
    Calls Try.prog 4 #[.slice A0 n0 c0, .slice A1 n1 c1, .int .i64 m] W fun e w' => e = .returned (.bool true) ∧ Below W.heap.size W w' := by
  have e1 : IntKind.i64.wrap ((n0 : Int) + (n1 : Int)) = (n0 : Int) + (n1 : Int) := IntWalk.i64_in _ (by omega)
  go_enter Try.func4, Try.ntmps4
  by_cases h1 : (4000 : Int) < (n0 : Int) + (n1 : Int)
  · skip
    go_wp2_with (go_at_call 18; refine (alive_any _).mono ?_; rintro e w1 ⟨rfl, hb1⟩)
    go_ret
    exact ⟨rfl, hb1⟩
  have t1 := decide_eq_false h1
  have ln0 := rd0.len
  have ln1 := rd1.len
  have hnew := new_hs W (W.heap.size + 2)
  go_upto_region 4 with (first
    | (go_at_call 22; refine hnew2.mono ?_; rintro e wb ⟨rfl, hb, bb⟩)
    | (go_at_call 22; refine hnew.mono ?_; rintro e wa ⟨rfl, ha, ba⟩; have hnew2 := new_hs wa (wa.heap.size + 2)))
  have ha2 := ha.below bb
  have hla := ha.lt
  have hlb := hb.lt
  have bb2 := ba.trans (bb.mono (Nat.le_of_lt hla))
  have rb0 := rd0.below bb2
  have q0 : ∀ ad, A0 = some ad → ad.block ≠ W.heap.size := fun ad e => by have := al0 ad e; omega
  have hw1 := wr_any wb ha2 rb0 q0 a8 (by simp; omega)
  go_upto_region 5 with (go_at_call 23; refine hw1.mono ?_; rintro e wc ⟨rfl, gc, hc⟩)
  have hb2 := hb.far gc (by omega) (by omega)
  have bc := bb2.trans (gc.below (base := W.heap.size) (by omega) (Nat.le_refl _))
  have rc0 := rd0.below bc
  have q1 : ∀ ad, A0 = some ad → ad.block ≠ wa.heap.size := fun ad e => by have := al0 ad e; omega
  have hw2 := wr_any wc hb2 rc0 q1 a8 (by simp; omega)
  have hlc := hc.lt
  have hlc2 := hb2.lt
  go_upto_region 6 with (go_at_call 23; refine hw2.mono ?_; rintro e wd ⟨rfl, gd, hd⟩)
  have hc2 := hc.far gd (by omega) (by omega)
  have bd := bc.trans (gd.below (base := W.heap.size) (by omega) (by omega))
  have hsd := gd.size
  have HC := Lib.hid hc2
  have HD := Lib.hid hd
  have BD := Lib.hid bd
  have hszd := bd.size
  obtain ⟨D, hD⟩ : ∃ z, shaN a = z := ⟨_, rfl⟩
  have lD : D.length = 32 := by rw [← hD]; exact shaN_length a
  have EQ := fun w' => run_eq32 w' lD lD
  have EG := eq32_guard
  simp only [decide_true] at EQ
  have hgw : W.heap.size < wa.heap.size := hla
  obtain ⟨gg, hgg⟩ : ∃ z, W.heap.size = z := ⟨_, rfl⟩
  obtain ⟨gh, hgh⟩ : ∃ z, wa.heap.size = z := ⟨_, rfl⟩
  have hghd : gh < wd.heap.size := by omega
  have hggh : gg < gh := by omega
  have hbc : wb.heap.size ≤ wc.heap.size := gc.size
  have hbb : gh < wb.heap.size := by omega
  rw [List.nil_append] at *
  rw [hgg] at HC BD hszd
  rw [hgh] at HD
  clear hw1 hw2 hnew hnew2 ha hb bb ha2 hb2 hc gc gd hd hc2 rb0 rc0 bc bd bb2 hla hlb hlc hlc2 ba hgw
  rw [hgg, hgh]
  clear hgh
  go_wp2_with fail
  go_loopw [9] (fun i wr => ∃ t : Nat, t ≤ 4 ∧ i = .int .i64 (t : Int) ∧ Below wd.heap.size wd wr) (fun i _ => 4 - (intOf i).toNat)
  case atStart => exact ⟨0, by omega, rfl, Below.refl _ _⟩
  case round =>
    obtain ⟨t, ht, rfl, hbl⟩ := hrel
    have hsr := hbl.size
    by_cases hlt : (t : Int) < m ∧ t < 4
    · have p1 := hlt.1
      have p2 : (t : Int) < 4 := by omega
      have i1 : IntKind.i64.wrap ((t : Int) + 1) = (t : Int) + 1 := IntWalk.i64_in _ (by omega)
      have hS := sum_any wr (HD.out.below hbl) (by omega)
      rw [hD] at hS
      have hP := fun w' (hb' : Below wr.heap.size wr w') => pk_any w' (rd0.below (by rw [hgg]; exact BD.out.trans ((hbl.mono hszd).trans (hb'.mono (by omega))))) a8 (by omega) (fun ad e => by have := al0 ad e; have := hb'.size; omega)
      rw [hD] at hP
      go_wp2_with (first
        | (go_at_call 20; refine (hP _ hb1).mono ?_; rintro e w2 ⟨rfl, hb2⟩)
        | (go_at_call 24; refine hS.mono ?_; rintro e w1 ⟨rfl, hb1⟩))
      exact ⟨⟨t + 1, by omega, by go_num, hbl.trans ((hb1.trans (hb2.mono hb1.size)).mono hsr)⟩, by simp [intOf]; omega⟩
    · have hg2 := HC.out.below hbl
      have hh2 := HD.out.below hbl
      have br := BD.out.trans (hbl.mono hszd)
      have rr1 := rd1.below (by rw [hgg]; exact br)
      have q0 : ∀ ad, A1 = some ad → ad.block ≠ gg := fun ad e => by have := al1 ad e; omega
      have q1 : ∀ ad, A1 = some ad → ad.block ≠ gh := fun ad e => by have := al1 ad e; omega
      have hw1 := wr_any wr hg2 rr1 q0 b8 (by omega)
      have X : ∀ (we wf : World), Below gg W wf → HS wf gg wr.heap.size (a ++ b) → HS wf gh we.heap.size (a ++ b) → gg ≤ wf.heap.size → True := fun _ _ _ _ _ _ => trivial
      obtain ⟨DD, hDD⟩ : ∃ z, shaN (a ++ b) = z := ⟨_, rfl⟩
      have lDD : DD.length = 32 := by rw [← hDD]; exact shaN_length (a ++ b)
      have EQ2 := fun w' => run_eq32 w' lDD lDD
      simp only [decide_true] at EQ2
      clear EQ X
      by_cases hlt1 : (t : Int) < m
      · have p2 : ¬ (t : Int) < 4 := by omega
        go_upto_region 12 with (go_at_call 23; refine hw1.mono ?_; rintro e we ⟨rfl, ge, he⟩)
        have hh3 := hh2.far ge (by omega) (by omega)
        have be := br.trans (ge.below (base := gg) (by omega) (Nat.le_refl _))
        have re1 := rd1.below (by rw [hgg]; exact be)
        have hw2 := wr_any we hh3 re1 q1 b8 (by omega)
        have hse := ge.size
        go_upto_region 13 with (go_at_call 23; refine hw2.mono ?_; rintro e wf ⟨rfl, gf, hf⟩)
        have he2 := he.far gf (by omega) (by omega)
        have bf := be.trans (gf.below (base := gg) (by omega) (by omega))
        have hsf := gf.size
        have lab : (a ++ b).length = n0 + n1 := by rw [List.length_append, ln0, ln1]
        have hal := alive_any wf
        have hS1 := fun w' (hb' : Below wf.heap.size wf w') => sum_any w' (he2.below hb') (by omega)
        have hS2 := fun w' (hb' : Below wf.heap.size wf w') => sum_any w' (hf.below hb') (by omega)
        have hL := fun w' (hb' : Below wf.heap.size wf w') => len_below w' (he2.below hb')
        rw [hDD] at hS1 hS2
        rw [lab] at hL
        have e2 : ((n0 + n1 : Nat) : Int) = (n0 : Int) + (n1 : Int) := Int.natCast_add _ _
        rw [e2] at hL
        clear hw1 hw2
        go_wp2_with (first
          | (go_at_call 25; refine (hL _ bu).mono ?_; rintro e w4 ⟨rfl, hb4⟩)
          | (go_at_call 24; refine (hS2 _ bt).mono ?_; rintro e w3 ⟨rfl, hb3⟩; have bu := bt.trans (hb3.mono bt.size))
          | (go_at_call 24; refine (hS1 _ hb1).mono ?_; rintro e w2 ⟨rfl, hb2⟩; have bt := hb1.trans (hb2.mono hb1.size))
          | (go_at_call 18; refine hal.mono ?_; rintro e w1 ⟨rfl, hb1⟩))
        go_ret
        exact ⟨rfl, by rw [hgg]; exact bf.trans ((bu.trans (hb4.mono bu.size)).mono (by omega))⟩
      · skip
        go_upto_region 12 with (go_at_call 23; refine hw1.mono ?_; rintro e we ⟨rfl, ge, he⟩)
        have hh3 := hh2.far ge (by omega) (by omega)
        have be := br.trans (ge.below (base := gg) (by omega) (Nat.le_refl _))
        have re1 := rd1.below (by rw [hgg]; exact be)
        have hw2 := wr_any we hh3 re1 q1 b8 (by omega)
        have hse := ge.size
        go_upto_region 13 with (go_at_call 23; refine hw2.mono ?_; rintro e wf ⟨rfl, gf, hf⟩)
        have he2 := he.far gf (by omega) (by omega)
        have bf := be.trans (gf.below (base := gg) (by omega) (by omega))
        have hsf := gf.size
        have lab : (a ++ b).length = n0 + n1 := by rw [List.length_append, ln0, ln1]
        have hal := alive_any wf
        have hS1 := fun w' (hb' : Below wf.heap.size wf w') => sum_any w' (he2.below hb') (by omega)
        have hS2 := fun w' (hb' : Below wf.heap.size wf w') => sum_any w' (hf.below hb') (by omega)
        have hL := fun w' (hb' : Below wf.heap.size wf w') => len_below w' (he2.below hb')
        rw [hDD] at hS1 hS2
        rw [lab] at hL
        have e2 : ((n0 + n1 : Nat) : Int) = (n0 : Int) + (n1 : Int) := Int.natCast_add _ _
        rw [e2] at hL
        clear hw1 hw2
        go_wp2_with (first
          | (go_at_call 25; refine (hL _ bu).mono ?_; rintro e w4 ⟨rfl, hb4⟩)
          | (go_at_call 24; refine (hS2 _ bt).mono ?_; rintro e w3 ⟨rfl, hb3⟩; have bu := bt.trans (hb3.mono bt.size))
          | (go_at_call 24; refine (hS1 _ hb1).mono ?_; rintro e w2 ⟨rfl, hb2⟩; have bt := hb1.trans (hb2.mono hb1.size))
          | (go_at_call 18; refine hal.mono ?_; rintro e w1 ⟨rfl, hb1⟩))
        go_ret
        exact ⟨rfl, by rw [hgg]; exact bf.trans ((bu.trans (hb4.mono bu.size)).mono (by omega))⟩
end Go.Proofs.Ytiimflmbcgnbeaa
