/- The digest of what a Hash has taken. -/
import Derived.Test.YtiimflmbcgnbeaaS7
namespace Go.Proofs.Ytiimflmbcgnbeaa
set_option linter.unusedSimpArgs false
set_option linter.unusedVariables false
open Go.RowKit

/-- the padding, with i bytes of the length laid -/
def padI (n i : Nat) : List Nat := 128 :: (List.replicate (71 - (n + 8) % 64 - i) 0 ++ (be8 (8 * n)).drop (8 - i))
theorem padI_zero (n : Nat) : padI n 0 = 128 :: List.replicate (71 - (n + 8) % 64) 0 := by simp [padI, be8]
theorem padI_eight (n : Nat) : padI n 8 = padN n := by
  unfold padI padN
  rw [show 71 - (n + 8) % 64 - 8 = 63 - (n + 8) % 64 by omega]
  rfl
theorem padI_length {n i : Nat} (hi : i ≤ 8) : (padI n i).length = 72 - (n + 8) % 64 := by
  simp [padI, be8]; omega
theorem be8_drop {n i : Nat} (hi : i < 8) : (be8 n).drop (8 - (i + 1)) = n / 256 ^ i % 256 :: (be8 n).drop (8 - i) := by
  match i, hi with
  | 0, _ => simp [be8]
  | 1, _ => simp [be8]
  | 2, _ => simp [be8]
  | 3, _ => simp [be8]
  | 4, _ => simp [be8]
  | 5, _ => simp [be8]
  | 6, _ => simp [be8]
  | 7, _ => simp [be8]
theorem padI_set {n i : Nat} (hi : i < 8) : (padI n i).set (71 - (n + 8) % 64 - i) (8 * n / 256 ^ i % 256) = padI n (i + 1) := by
  obtain ⟨k, hk⟩ : ∃ k, 71 - (n + 8) % 64 - i = k + 1 := ⟨70 - (n + 8) % 64 - i, by omega⟩
  unfold padI
  rw [hk, show 71 - (n + 8) % 64 - (i + 1) = k by omega, List.set_cons_succ, be8_drop hi, List.replicate_succ', List.append_assoc, List.set_append_right _ _ (by simp)]
  simp
theorem run_mk8 (n : Nat) (hn : n ≤ 4194304) (w : World) : (Instr.makeSlice 22 (.int .i64 (n : Int)) (.int .i64 (n : Int))).run Try.prog w = .ok (.slice (some ⟨w.heap.size, 0, none⟩) n n) (w.alloc (.cells (va .u8 (List.replicate n 0)) 5)) := by
  obtain ⟨i0, hi0, hz0, hz1, hz2⟩ := info_parts u8_info
  have h := run_make (P := Try.prog) w 22 5 i0 (.int .u8 0) Try.underlying22 hi0 hz0 .i64 .i64 n n (by omega) (by omega) (by rw [hz2]; omega) (by omega)
  rw [h, hz1]
  simp only [Int.toNat_natCast, Nat.mul_one]
  rw [show (Value.int IntKind.u8 0).cells = #[.int .u8 0] from rfl, made_va]
theorem shr_byte (sz t : Nat) : (sz : Int) / 2 ^ (8 * t) % 256 = ((sz / 256 ^ t % 256 : Nat) : Int) := by
  have h : ((2 : Int) ^ (8 * t)) = ((256 ^ t : Nat) : Int) := by
    rw [show (256 : Nat) = 2 ^ 8 from rfl, ← Nat.pow_mul]; push_cast; rfl
  rw [h]; rfl
/-- the digest's bytes, with t words laid -/
def outI (ws : List Nat) (t : Nat) : List Nat := outN (ws.take t) ++ List.replicate (32 - 4 * t) 0
theorem outI_zero (ws : List Nat) : outI ws 0 = List.replicate 32 0 := by simp [outI, outN]
theorem outI_eight {ws : List Nat} (h : ws.length = 8) : outI ws 8 = outN ws := by
  unfold outI
  rw [List.take_of_length_le (by omega)]; simp
theorem outI_length {ws : List Nat} {t : Nat} (h : ws.length = 8) (ht : t ≤ 8) : (outI ws t).length = 32 := by
  unfold outI
  rw [List.length_append, outN_length, List.length_take, List.length_replicate]; omega
theorem outI_set {ws : List Nat} {t : Nat} (h : ws.length = 8) (ht : t < 8) :
    ((((outI ws t).set (4 * t) (gd ws t / 16777216 % 256)).set (4 * t + 1) (gd ws t / 65536 % 256)).set (4 * t + 2) (gd ws t / 256 % 256)).set (4 * t + 3) (gd ws t % 256) = outI ws (t + 1) := by
  have hl : (outN (ws.take t)).length = 4 * t := by rw [outN_length, List.length_take]; omega
  have e : outN (ws.take (t + 1)) = outN (ws.take t) ++ [gd ws t / 16777216 % 256, gd ws t / 65536 % 256, gd ws t / 256 % 256, gd ws t % 256] := by
    rw [List.take_succ_eq_append_getElem (by omega)]
    unfold outN
    rw [List.flatMap_append, gd_lt (by omega)]; simp
  obtain ⟨k, hk⟩ : ∃ k, 32 - 4 * t = k + 4 := ⟨28 - 4 * t, by omega⟩
  unfold outI
  rw [e, hk, show 32 - 4 * (t + 1) = k by omega, List.append_assoc]
  rw [List.set_append_right _ _ (by omega), List.set_append_right _ _ (by omega), List.set_append_right _ _ (by omega), List.set_append_right _ _ (by omega), hl]
  congr 1
  rw [show 4 * t - 4 * t = 0 by omega, show 4 * t + 1 - 4 * t = 1 by omega, show 4 * t + 2 - 4 * t = 2 by omega, show 4 * t + 3 - 4 * t = 3 by omega]
  simp [List.replicate_succ]
theorem run_index8 (ws : List Nat) (t x : Nat) (hl : ws.length = 8) (ht : t < 8) (hx : gd ws t = x) (w : World) : (Instr.index 42 (.agg (va .u32 ws)) (.int .i64 (t : Int))).run Try.prog w = .ok (.int .u32 (x : Int)) w := by
  have h0 : (0 : Int) ≤ (t : Int) := by omega
  have h1 : (t : Int) < 8 := by omega
  have hix := va_at .u32 (j := t) (xs := ws) (by omega)
  rw [hx] at hix
  simp [Instr.index, asIntOf, run_underlying Try.underlying42, h0, h1, part, hix, go_sem]
  exact fun h => absurd h (by omega)
theorem out_info : (Try.prog.info? 26).map (·.size) = some 32 := by kernel_rfl
theorem cells11 {w' : World} {g : Nat} {bg : Bool} {ws : List Nat} {A : Option Addr} {n c k : Nat} (hk1 : Bk w' g 44 (hcells bg ws A n c k)) : w'.cell? ⟨g, 0, none⟩ = some (.bool bg) ∧ w'.cell? ⟨g, 1, none⟩ = some (.int .u32 (gd ws 0 : Int)) ∧ w'.cell? ⟨g, 2, none⟩ = some (.int .u32 (gd ws 1 : Int)) ∧ w'.cell? ⟨g, 3, none⟩ = some (.int .u32 (gd ws 2 : Int)) ∧ w'.cell? ⟨g, 4, none⟩ = some (.int .u32 (gd ws 3 : Int)) ∧ w'.cell? ⟨g, 5, none⟩ = some (.int .u32 (gd ws 4 : Int)) ∧ w'.cell? ⟨g, 6, none⟩ = some (.int .u32 (gd ws 5 : Int)) ∧ w'.cell? ⟨g, 7, none⟩ = some (.int .u32 (gd ws 6 : Int)) ∧ w'.cell? ⟨g, 8, none⟩ = some (.int .u32 (gd ws 7 : Int)) ∧ w'.cell? ⟨g, 9, none⟩ = some (.slice A n c) ∧ w'.cell? ⟨g, 10, none⟩ = some (.int .i64 (k : Int)) := ⟨hk1.cell 0, hk1.cell 1, hk1.cell 2, hk1.cell 3, hk1.cell 4, hk1.cell 5, hk1.cell 6, hk1.cell 7, hk1.cell 8, hk1.cell 9, hk1.cell 10⟩
set_option maxRecDepth 100000 in
set_option maxHeartbeats 8000000 in
theorem sum_any (w : World) {g base : Nat} {m : List Nat} (h : HS w g base m) (hm : m.length < 70000000000000) : Calls Try.prog 24 #[.pointer (some ⟨g, 0, none⟩)] w fun e w' => e = .returned (.agg (va .u8 (shaN m))) ∧ Below w.heap.size w w' := by
  have HH := Lib.hid h
  obtain ⟨h1, h2, bg, ws, A, n, c, hk, hwb, hwl, hr, hA, hT, hF⟩ := h
  have HK := Lib.hid hk
  have HCP := Lib.hid (show ∀ w2 g2, Below w.heap.size w w2 → w.heap.size ≤ g2 → Bk w2 g2 44 (hcells bg ws A n c m.length) → HS w2 g2 0 m from
    fun w2 g2 hb hg hk2 => ⟨h1, h2, bg, ws, A, n, c, hk2, hwb, hwl, hr.below hb, fun ad e => ⟨Nat.zero_le _, by have := (hA ad e).2.2; omega, Nat.lt_of_lt_of_le (hA ad e).2.2 hb.size⟩, hT, hF⟩)
  clear hr
  go_enter Try.func24, Try.ntmps24
  go_upto_region 3 with (fail)
  have hz : Obj.cells #[.int .u8 0, .int .u8 0, .int .u8 0, .int .u8 0, .int .u8 0, .int .u8 0, .int .u8 0, .int .u8 0, .int .u8 0, .int .u8 0, .int .u8 0, .int .u8 0, .int .u8 0, .int .u8 0, .int .u8 0, .int .u8 0, .int .u8 0, .int .u8 0, .int .u8 0, .int .u8 0, .int .u8 0, .int .u8 0, .int .u8 0, .int .u8 0, .int .u8 0, .int .u8 0, .int .u8 0, .int .u8 0, .int .u8 0, .int .u8 0, .int .u8 0, .int .u8 0] 26 = Obj.cells (va .u8 (List.replicate 32 0)) 26 := rfl
  rw [hz]
  have hk1 := hk.alloc (.cells (va .u8 (List.replicate 32 0)) 26)
  have ho1 := Bk.new w 26 (va .u8 (List.replicate 32 0))
  have hb1 := (Below.refl w.heap.size w).alloc (Nat.le_refl _) (.cells (va .u8 (List.replicate 32 0)) 26)
  have hs1 : (w.alloc (.cells (va .u8 (List.replicate 32 0)) 26)).heap.size = w.heap.size + 1 := by simp
  generalize w.alloc (.cells (va .u8 (List.replicate 32 0)) 26) = w1 at hk1 ho1 hb1 hs1 ⊢
  have S0 : w1.drew.cell? ⟨g, 0, none⟩ = some (.bool bg) ∧ w1.drew.cell? ⟨g, 1, none⟩ = some (.int .u32 (gd ws 0 : Int)) ∧ w1.drew.cell? ⟨g, 2, none⟩ = some (.int .u32 (gd ws 1 : Int)) ∧ w1.drew.cell? ⟨g, 3, none⟩ = some (.int .u32 (gd ws 2 : Int)) ∧ w1.drew.cell? ⟨g, 4, none⟩ = some (.int .u32 (gd ws 3 : Int)) ∧ w1.drew.cell? ⟨g, 5, none⟩ = some (.int .u32 (gd ws 4 : Int)) ∧ w1.drew.cell? ⟨g, 6, none⟩ = some (.int .u32 (gd ws 5 : Int)) ∧ w1.drew.cell? ⟨g, 7, none⟩ = some (.int .u32 (gd ws 6 : Int)) ∧ w1.drew.cell? ⟨g, 8, none⟩ = some (.int .u32 (gd ws 7 : Int)) ∧ w1.drew.cell? ⟨g, 9, none⟩ = some (.slice A n c) ∧ w1.drew.cell? ⟨g, 10, none⟩ = some (.int .i64 (m.length : Int)) := ⟨hk1.cell 0, hk1.cell 1, hk1.cell 2, hk1.cell 3, hk1.cell 4, hk1.cell 5, hk1.cell 6, hk1.cell 7, hk1.cell 8, hk1.cell 9, hk1.cell 10⟩
  have HK1 := Lib.hid hk1
  have HO1 := Lib.hid ho1
  have HB1 := Lib.hid hb1
  have hgl := hk.lt
  clear hk hk1 ho1 hb1 hz hA hT hF
  go_region_held3 (fun w' => w'.cell? ⟨g, 0, none⟩ = some (.bool bg) ∧ w'.cell? ⟨g, 1, none⟩ = some (.int .u32 (gd ws 0 : Int)) ∧ w'.cell? ⟨g, 2, none⟩ = some (.int .u32 (gd ws 1 : Int)) ∧ w'.cell? ⟨g, 3, none⟩ = some (.int .u32 (gd ws 2 : Int)) ∧ w'.cell? ⟨g, 4, none⟩ = some (.int .u32 (gd ws 3 : Int)) ∧ w'.cell? ⟨g, 5, none⟩ = some (.int .u32 (gd ws 4 : Int)) ∧ w'.cell? ⟨g, 6, none⟩ = some (.int .u32 (gd ws 5 : Int)) ∧ w'.cell? ⟨g, 7, none⟩ = some (.int .u32 (gd ws 6 : Int)) ∧ w'.cell? ⟨g, 8, none⟩ = some (.int .u32 (gd ws 7 : Int)) ∧ w'.cell? ⟨g, 9, none⟩ = some (.slice A n c) ∧ w'.cell? ⟨g, 10, none⟩ = some (.int .i64 (m.length : Int))) (first | with_reducible assumption | exact cells11 (by repeat (first | with_reducible exact HK1.out | with_reducible refine Bk.drew ?_ | with_reducible refine Bk.alloc ?_ _ | with_reducible refine Bk.far ?_ (by show g ≠ _; omega) _))) (fail)
  have hs2 : ((w1.alloc (.cells (hcells bg ws A n c m.length) 44)).drew).heap.size = w.heap.size + 2 := by show (w1.alloc _).heap.size = _; simp; omega
  have hb2 : Below w.heap.size w ((w1.alloc (.cells (hcells bg ws A n c m.length) 44)).drew) := (HB1.out.alloc (by omega) _).drew
  have ho2 := (HO1.out.alloc (.cells (hcells bg ws A n c m.length) 44)).drew
  have hk2 := (HK1.out.alloc (.cells (hcells bg ws A n c m.length) 44)).drew
  have hn2 : Bk ((w1.alloc (.cells (hcells bg ws A n c m.length) 44)).drew) (w.heap.size + 1) 44 (hcells bg ws A n c m.length) := (Bk.at_new _ _ (by omega)).drew
  obtain ⟨w2, hw2⟩ : ∃ w2, (w1.alloc (.cells (hcells bg ws A n c m.length) 44)).drew = w2 := ⟨_, rfl⟩
  rw [hw2] at hs2 hb2 ho2 hk2 hn2
  have HN2 := Lib.hid hn2
  change Exit.then _ _ _ _ ((w1.alloc (.cells (hcells bg ws A n c m.length) 44)).drew)
  rw [hw2]
  clear hw2 HK1 HO1 HB1 S0 hn2
  have HO2 := Lib.hid ho2
  have HB2 := Lib.hid hb2
  have HK2 := Lib.hid hk2
  have c10 : w2.cell? ⟨g, 10, none⟩ = some (.int .i64 (m.length : Int)) := hk2.cell 10
  obtain ⟨ml, hml⟩ : ∃ z, m.length = z := ⟨_, rfl⟩
  rw [hml] at c10 hm
  obtain ⟨r, hr⟩ : ∃ z, (ml + 8) % 64 = z := ⟨_, rfl⟩
  have hr64 : r < 64 := by omega
  have e1 : IntKind.i64.wrap ((ml : Int) + 8) = (ml : Int) + 8 := IntWalk.i64_in _ (by omega)
  have e2 : ((ml : Int) + 8).tmod 64 = (r : Int) := by rw [Int.tmod_eq_emod_of_nonneg (by omega)]; omega
  have e3 : IntKind.i64.wrap (r : Int) = (r : Int) := IntWalk.i64_in _ (by omega)
  have e4 : IntKind.i64.wrap (64 - (r : Int)) = 64 - (r : Int) := IntWalk.i64_in _ (by omega)
  obtain ⟨pl, hpl⟩ : ∃ z, 72 - r = z := ⟨_, rfl⟩
  have e5 : 64 - (r : Int) + 8 = (pl : Int) := by omega
  have e6 : IntKind.i64.wrap (pl : Int) = (pl : Int) := IntWalk.i64_in _ (by omega)
  have hmk := fun w' => run_mk8 pl (by omega) w'
  have e0 : (0 : Int) < (pl : Int) := by omega
  clear hk2 hb2 ho2
  go_upto_region 5 with (fail)
  rw [show w.heap.size + 2 = w2.heap.size from hs2.symm]
  have hb3 := Bk.new w2 5 (va .u8 (List.replicate pl 0))
  have hB3 := HB2.out.alloc (by omega) (.cells (va .u8 (List.replicate pl 0)) 5)
  have hc3 := HN2.out.alloc (.cells (va .u8 (List.replicate pl 0)) 5)
  have ho3 := HO2.out.alloc (.cells (va .u8 (List.replicate pl 0)) 5)
  have hk3 := HK2.out.alloc (.cells (va .u8 (List.replicate pl 0)) 5)
  have hs3 : (w2.alloc (.cells (va .u8 (List.replicate pl 0)) 5)).heap.size = w2.heap.size + 1 := by simp
  generalize w2.alloc (.cells (va .u8 (List.replicate pl 0)) 5) = w3 at hb3 hB3 hc3 ho3 hk3 hs3 ⊢
  obtain ⟨gp, hgp⟩ : ∃ z, w2.heap.size = z := ⟨_, rfl⟩
  rw [hgp] at hb3 hs3 hs2 ⊢
  replace hs2 : w.heap.size + 2 ≤ gp := by omega
  have e0' : 0 < pl := by omega
  clear hs3 hgp
  have q0 := (hb3.cell 0).trans (va_at .u8 (by rw [List.length_replicate]; omega))
  have qf := hb3.frozen 0
  have HB3 := Lib.hid hb3
  have HO3 := Lib.hid ho3
  have HK3 := Lib.hid hk3
  have HBL3 := Lib.hid hB3
  have HC3 := Lib.hid hc3
  clear hb3 ho3 hk3 hB3 hc3 HN2 HO2 HB2 HK2 c10 hmk e1 e2 e3 e4 e5
  go_upto_region 6 with (fail)
  have hb4 := HB3.out.set 0 (.int .u8 ((128 : Nat) : Int))
  have hpad : (List.replicate pl 0).set 0 128 = padI ml 0 := by
    rw [padI_zero, hr, show pl = (71 - r) + 1 by omega]; rfl
  rw [va_set, hpad] at hb4
  have hbl4 : Below (w.heap.size + 2) w3 (w3.setCell ⟨gp, 0, none⟩ (.int .u8 ((128 : Nat) : Int))) := (Below.refl _ _).setCell (p := ⟨gp, 0, none⟩) (by show _ ≤ gp; omega) _
  obtain ⟨w4, hw4⟩ : ∃ w4, w3.setCell ⟨gp, 0, none⟩ (.int .u8 ((128 : Nat) : Int)) = w4 := ⟨_, rfl⟩
  rw [hw4] at hb4 hbl4
  change Code.wp _ _ _ _ (w3.setCell ⟨gp, 0, none⟩ (.int .u8 ((128 : Nat) : Int)))
  rw [hw4]
  clear hw4 q0 qf hpad
  have c10 : w4.cell? ⟨g, 10, none⟩ = some (.int .i64 (m.length : Int)) := (hbl4.cell (p := ⟨g, 10, none⟩) (by show g < _; omega)).trans (HK3.out.cell 10)
  rw [hml] at c10
  have HB4 := Lib.hid hb4
  have HBL4 := Lib.hid hbl4
  have k1 : IntKind.u64.wrap (ml : Int) = (ml : Int) := by rw [IntKind.wrap_u64]; omega
  obtain ⟨sz, hsz⟩ : ∃ z, 8 * ml = z := ⟨_, rfl⟩
  have k2 : (ml : Int) * 8 = (sz : Int) := by omega
  have k3 : IntKind.u64.wrap (sz : Int) = (sz : Int) := by rw [IntKind.wrap_u64]; omega
  clear hb4 hbl4
  go_wp2_with fail
  go_loopw [47] (fun i wr => ∃ t : Nat, t ≤ 8 ∧ i = .int .i64 (t : Int) ∧ Bk wr gp 5 (va .u8 (padI ml t)) ∧ Below (w.heap.size + 2) w4 wr) (fun i _ => 8 - (intOf i).toNat)
  case atStart => exact ⟨0, by omega, rfl, HB4.out, Below.refl _ _⟩
  case round =>
    obtain ⟨t, ht, rfl, hbk, hbel⟩ := hrel
    have HBK := Lib.hid hbk
    have HBEL := Lib.hid hbel
    clear k1 k2 k3 c10
    by_cases hlt : t < 8
    · obtain ⟨j, hj⟩ : ∃ z, pl - 1 - t = z := ⟨_, rfl⟩
      have q1 := (hbk.cell j).trans (va_at .u8 (by rw [padI_length ht, hr]; omega))
      have qf := hbk.frozen j
      have i1 : IntKind.i64.wrap ((pl : Int) - 1) = (pl : Int) - 1 := IntWalk.i64_in _ (by omega)
      have i2 : (pl : Int) - 1 - (t : Int) = (j : Int) := by omega
      have i3 : IntKind.i64.wrap (j : Int) = (j : Int) := IntWalk.i64_in _ (by omega)
      have i4 : IntKind.i64.wrap (8 * (t : Int)) = 8 * (t : Int) := IntWalk.i64_in _ (by omega)
      have i5 : (j : Int) < (pl : Int) := by omega
      have i6 : (0 : Int) ≤ 8 * (t : Int) := by omega
      have i7 : 8 * (t : Int) < 64 := by omega
      clear hbk hbel
      go_wp2_with fail
      have hst := HBK.out.set j (.int .u8 ((8 * ml / 256 ^ t % 256 : Nat) : Int))
      rw [va_set, show j = 71 - (ml + 8) % 64 - t by omega, padI_set hlt, show 71 - (ml + 8) % 64 - t = j by omega, hsz, ← shr_byte] at hst
      exact ⟨⟨t + 1, hlt, by go_num, hst, HBEL.out.setCell (p := ⟨gp, j, none⟩) (by show _ ≤ gp; omega) _⟩, by simp [intOf]; omega⟩
    · obtain rfl : t = 8 := by omega
      rw [padI_eight] at hbk
      have hpl2 : (padN ml).length = pl := by rw [padN_length, hr]; omega
      have hrd : Rd .u8 wr (some ⟨gp, 0, none⟩) (padN ml).length pl (padN ml) := by
        rw [hpl2]; exact (Own.of_bk (k := .u8) (base := 0) hbk (Nat.zero_le _) hpl2 (by omega)).rd
      have hb4r : Below (w.heap.size + 2) w3 wr := HBL4.out.trans hbel
      have hw0 : w.heap.size + 2 ≤ w3.heap.size := by have := HB3.out.lt; omega
      have hwr := write_any wr (HCP.out wr (w.heap.size + 1) (HBL3.out.trans (hb4r.mono (by omega))) (by omega) (HC3.out.below hb4r (by omega))) hrd (fun ad e => by cases e; show gp ≠ _; omega) (padN_b8 _) (by rw [List.length_append, hpl2]; omega)
      rw [hpl2] at hwr
      rw [show ((8 : Nat) : Int) = (8 : Int) from rfl]
      go_upto_region 13 with (go_at_call 23; refine hwr.mono ?_; rintro e w5 ⟨rfl, hw5, hs5⟩)
      obtain ⟨_, _, bgx, wsx, Ax, nx, cx', hkx, _, _, _, _, hTx, hFx⟩ := hs5
      obtain rfl : bgx = true := by
        cases bgx with
        | true => rfl
        | false => have := hFx rfl; simp [padN] at this
      obtain rfl := hTx rfl
      obtain ⟨W8, hW8⟩ : ∃ z, stN (m ++ padN ml) = z := ⟨_, rfl⟩
      have l8 : W8.length = 8 := by rw [← hW8]; exact stN_length _
      have b8 : B32 W8 := by rw [← hW8]; exact stN_b32 _
      have HSHA := Lib.hid (show shaN m = outN W8 by unfold shaN; rw [hml, hW8])
      rw [hW8] at hkx
      have hbl5 : Below w.heap.size w w5 := (HBL3.out.trans (hb4r.mono (by omega))).trans ((Below.refl _ _).grown hw5 (by have := hb4r.size; omega) (fun k e => by cases e; omega))
      have ho5 : Bk w5 w.heap.size 26 (va .u8 (List.replicate 32 0)) := (hw5.block _ (HO3.out.below hb4r (by omega)).lt (fun e => by have := Option.some.inj e; omega)).trans (HO3.out.below hb4r (by omega))
      clear hbk HBK hbel HBEL hb4r HB4 HBL4 HB3 HO3 HK3 HBL3 HC3 HCP hwr hrd hTx hFx hw5 hpl2 e0 e0' e6 hpl hr hr64 HH HK hwb hwl
      go_upto_region 14 with (fail)
      rw [show Obj.cells #[.int .u8 0, .int .u8 0, .int .u8 0, .int .u8 0, .int .u8 0, .int .u8 0, .int .u8 0, .int .u8 0, .int .u8 0, .int .u8 0, .int .u8 0, .int .u8 0, .int .u8 0, .int .u8 0, .int .u8 0, .int .u8 0, .int .u8 0, .int .u8 0, .int .u8 0, .int .u8 0, .int .u8 0, .int .u8 0, .int .u8 0, .int .u8 0, .int .u8 0, .int .u8 0, .int .u8 0, .int .u8 0, .int .u8 0, .int .u8 0, .int .u8 0, .int .u8 0] 26 = Obj.cells (va .u8 (List.replicate 32 0)) 26 from rfl]
      have hk6 := hkx.alloc (.cells (va .u8 (List.replicate 32 0)) 26)
      have ho6 := ho5.alloc (.cells (va .u8 (List.replicate 32 0)) 26)
      have hn6 := Bk.new w5 26 (va .u8 (List.replicate 32 0))
      have hl6 := hbl5.alloc hbl5.size (.cells (va .u8 (List.replicate 32 0)) 26)
      have hg5 := hbl5.size
      generalize w5.alloc (.cells (va .u8 (List.replicate 32 0)) 26) = w6 at hk6 ho6 hn6 hl6 ⊢
      have x1 : w6.cell? ⟨w.heap.size + 1, 1, none⟩ = some (.int .u32 (gd W8 0 : Int)) := hk6.cell 1
      have x2 : w6.cell? ⟨w.heap.size + 1, 2, none⟩ = some (.int .u32 (gd W8 1 : Int)) := hk6.cell 2
      have x3 : w6.cell? ⟨w.heap.size + 1, 3, none⟩ = some (.int .u32 (gd W8 2 : Int)) := hk6.cell 3
      have x4 : w6.cell? ⟨w.heap.size + 1, 4, none⟩ = some (.int .u32 (gd W8 3 : Int)) := hk6.cell 4
      have x5 : w6.cell? ⟨w.heap.size + 1, 5, none⟩ = some (.int .u32 (gd W8 4 : Int)) := hk6.cell 5
      have x6 : w6.cell? ⟨w.heap.size + 1, 6, none⟩ = some (.int .u32 (gd W8 5 : Int)) := hk6.cell 6
      have x7 : w6.cell? ⟨w.heap.size + 1, 7, none⟩ = some (.int .u32 (gd W8 6 : Int)) := hk6.cell 7
      have x8 : w6.cell? ⟨w.heap.size + 1, 8, none⟩ = some (.int .u32 (gd W8 7 : Int)) := hk6.cell 8
      have HN6 := Lib.hid hn6
      have HO6 := Lib.hid ho6
      have HL6 := Lib.hid hl6
      have HG5 := Lib.hid (show w.heap.size ≤ w5.heap.size from hg5)
      have hne : w.heap.size ≠ w5.heap.size := by have := ho5.lt; omega
      obtain ⟨go, hgo⟩ : ∃ z, w5.heap.size = z := ⟨_, rfl⟩
      rw [hgo] at HN6 HG5 hne ⊢
      clear hn6 ho6 hl6 hg5 hk6 hkx hbl5 ho5 hgo
      go_upto_block 1 with (fail)
      rw [← va_eight l8]
      go_loopw [67] (fun i w' => ∃ t : Nat, t ≤ 8 ∧ i = .int .i64 (t : Int) ∧ Bk w' go 26 (va .u8 (outI W8 t)) ∧ Below go w6 w') (fun i _ => 8 - (intOf i).toNat)
      case atStart => exact ⟨0, by omega, rfl, by rw [outI_zero]; exact HN6.out, Below.refl _ _⟩
      case round =>
        obtain ⟨t, ht, rfl, hbk, hbel⟩ := hrel
        have HBK := Lib.hid hbk
        have HBEL := Lib.hid hbel
        clear x1 x2 x3 x4 x5 x6 x7 x8
        by_cases hlt : t < 8
        · have hix := va_at .u32 (j := t) (xs := W8) (by omega)
          obtain ⟨x, hx⟩ : ∃ z, gd W8 t = z := ⟨_, rfl⟩
          have lx : x < 4294967296 := by rw [← hx]; exact b8.gd t
          have hidx := run_index8 W8 t x l8 hlt hx
          clear hix
          obtain ⟨j0, hj0⟩ : ∃ z, 4 * t = z := ⟨_, rfl⟩
          obtain ⟨j1, hj1⟩ : ∃ z, 4 * t + 1 = z := ⟨_, rfl⟩
          obtain ⟨j2, hj2⟩ : ∃ z, 4 * t + 2 = z := ⟨_, rfl⟩
          obtain ⟨j3, hj3⟩ : ∃ z, 4 * t + 3 = z := ⟨_, rfl⟩
          have q0 := (hbk.cell j0).trans (va_at .u8 (by rw [outI_length l8 ht]; omega))
          have q1 := (hbk.cell j1).trans (va_at .u8 (by rw [outI_length l8 ht]; omega))
          have q2 := (hbk.cell j2).trans (va_at .u8 (by rw [outI_length l8 ht]; omega))
          have q3 := (hbk.cell j3).trans (va_at .u8 (by rw [outI_length l8 ht]; omega))
          have f0 := hbk.frozen j0
          have f1 := hbk.frozen j1
          have f2 := hbk.frozen j2
          have f3 := hbk.frozen j3
          have m0 : (4 : Int) * (t : Int) = (j0 : Int) := by omega
          have w0 : IntKind.i64.wrap (j0 : Int) = (j0 : Int) := IntWalk.i64_in _ (by omega)
          have m1 : (j0 : Int) + 1 = (j1 : Int) := by omega
          have w1' : IntKind.i64.wrap (j1 : Int) = (j1 : Int) := IntWalk.i64_in _ (by omega)
          have m2 : (j0 : Int) + 2 = (j2 : Int) := by omega
          have w2' : IntKind.i64.wrap (j2 : Int) = (j2 : Int) := IntWalk.i64_in _ (by omega)
          have m3 : (j0 : Int) + 3 = (j3 : Int) := by omega
          have w3' : IntKind.i64.wrap (j3 : Int) = (j3 : Int) := IntWalk.i64_in _ (by omega)
          have n0 : (j0 : Int) < 32 := by omega
          have n1 : (j1 : Int) < 32 := by omega
          have n2 : (j2 : Int) < 32 := by omega
          have n3 : (j3 : Int) < 32 := by omega
          have a1 : (t : Int) < 8 := by omega
          have d01 : j1 ≠ j0 := by omega
          have d02 : j2 ≠ j0 := by omega
          have d03 : j3 ≠ j0 := by omega
          have d12 : j2 ≠ j1 := by omega
          have d13 : j3 ≠ j1 := by omega
          have d23 : j3 ≠ j2 := by omega
          clear hbk hbel
          go_wp2_with fail
          have hst := (((HBK.out.set j0 (.int .u8 ((x / 16777216 % 256 : Nat) : Int))).set j1 (.int .u8 ((x / 65536 % 256 : Nat) : Int))).set j2 (.int .u8 ((x / 256 % 256 : Nat) : Int))).set j3 (.int .u8 ((x % 256 : Nat) : Int))
          have e := outI_set l8 hlt
          rw [hx, hj3, hj2, hj1, hj0] at e
          rw [va_set, va_set, va_set, va_set, e, show ((x / 16777216 % 256 : Nat) : Int) = (x : Int) / 16777216 by omega, show ((x / 65536 % 256 : Nat) : Int) = (x : Int) / 65536 % 256 from rfl, show ((x / 256 % 256 : Nat) : Int) = (x : Int) / 256 % 256 from rfl, show ((x % 256 : Nat) : Int) = (x : Int) % 256 from rfl] at hst
          exact ⟨⟨t + 1, hlt, by go_num, hst, (((HBEL.out.setCell (p := ⟨go, j0, none⟩) (Nat.le_refl _) _).setCell (p := ⟨go, j1, none⟩) (Nat.le_refl _) _).setCell (p := ⟨go, j2, none⟩) (Nat.le_refl _) _).setCell (p := ⟨go, j3, none⟩) (Nat.le_refl _) _⟩, by simp [intOf]; omega⟩
        · obtain rfl : t = 8 := by omega
          rw [outI_eight l8] at hbk
          have lo : (outN W8).length = 32 := by rw [outN_length, l8]
          have hgo := HG5.out
          have ho := HO6.out.below hbel (by omega)
          have hl := HL6.out.trans (hbel.mono hgo)
          clear HBK HBEL hbel
          rw [show ((8 : Nat) : Int) = (8 : Int) from rfl]
          go_upto_region 19 with (fail)
          refine wp_region_lit ?_
          refine wpList_load_row rfl 26 _ rfl go (by kernel_rfl) 26 (va .u8 (outN W8)) (0, 0) (.array 32 5) hbk Try.underlying26 rfl (out_info.trans (by rw [va_size, lo])) ?_
          refine wpList_store_row rfl 26 _ _ rfl w.heap.size (va .u8 (outN W8)) (by kernel_rfl) (by kernel_rfl) 26 (va .u8 (List.replicate 32 0)) ho (out_info.trans (by rw [va_size, lo])) (by rw [va_size, va_size, lo, List.length_replicate]) (va_all _ _) ?_
          refine wpList_nil ?_
          have hst := ho.row (va .u8 (outN W8))
          have hbl := below_row hl (Nat.le_refl _) (va .u8 (outN W8))
          generalize wr.setRow w.heap.size (va .u8 (outN W8)) = wq at hst hbl ⊢
          go_wp2_with fail
          rw [HSHA.out]
          refine bodyPost_ret (v := .agg (va .u8 (outN W8))) ?_ rfl ⟨rfl, hbl⟩
          simp [results, Try.results24, asAddr, Result.andThen]
          exact run_loadVar_row _ _ _ _ _ _ _ hst Try.underlying26 rfl (out_info.trans (by rw [va_size, lo]))
end Go.Proofs.Ytiimflmbcgnbeaa
