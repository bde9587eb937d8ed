/- What was sealed is sealed, and with one bit of its sum turned it is not: the walk. -/
import Derived.Test.YtiimflmbcgnbeaaKj
import Derived.WideShapes
namespace Go.Proofs.Ytiimflmbcgnbeaa
set_option linter.unusedSimpArgs false
set_option linter.unusedVariables false
open Go.RowKit Go.Proofs.YtiimflmbcgnbeaaW.PrintWords

theorem bstr_inj {xs ys : List Nat} (hx : B8 xs) (hy : B8 ys) (h : bstr xs = bstr ys) : xs = ys := by
  have h1 := congrArg (fun b : ByteArray => b.data.toList) h
  simp only [bstr, strOfNums_data, cI, List.map_map] at h1
  have key : ∀ (xs ys : List Nat), B8 xs → B8 ys → xs.map ((fun n : Int => UInt8.ofNat n.toNat) ∘ fun (x : Nat) => (x : Int)) = ys.map ((fun n : Int => UInt8.ofNat n.toNat) ∘ fun (x : Nat) => (x : Int)) → xs = ys := by
    intro xs
    induction xs with
    | nil => intro ys _ _ h; cases ys with
      | nil => rfl
      | cons y ys => simp at h
    | cons x xs ih => intro ys hx hy h; cases ys with
      | nil => simp at h
      | cons y ys =>
        simp only [List.map_cons, List.cons.injEq, Function.comp, Int.toNat_natCast] at h
        have hx0 := hx x (by simp)
        have hy0 := hy y (by simp)
        have e := congrArg UInt8.toNat h.1
        simp only [UInt8.toNat_ofNat'] at e
        rw [Nat.mod_eq_of_lt (by simpa using hx0), Nat.mod_eq_of_lt (by simpa using hy0)] at e
        rw [e, ih ys (fun z hz => hx z (by simp [hz])) (fun z hz => hy z (by simp [hz])) h.2]
  exact key xs ys hx hy h1
theorem bstr_ne {xs ys : List Nat} (hx : B8 xs) (hy : B8 ys) (h : xs ≠ ys) : ((bstr xs).toList == (bstr ys).toList) = false := by
  refine beq_eq_false_iff_ne.2 fun e => h (bstr_inj hx hy ?_)
  rw [ByteArray.toList_eq, ByteArray.toList_eq] at e
  exact Go.WideShapes.bytes_inj e
theorem mask7 (z : Int) : Go.bits .and .i64 z 127 = z % 128 := by
  have e1 : (BitVec.ofInt 64 (127 : Int)).toNat = 127 := by decide
  have e2 : (BitVec.ofInt 64 z).toNat = (z % 18446744073709551616).toNat := by simp [BitVec.toNat_ofInt]
  have e3 : (z % 18446744073709551616).toNat &&& 127 = (z % 18446744073709551616).toNat % 128 := Nat.and_two_pow_sub_one_eq_mod _ 7
  show IntKind.i64.wrap (((BitVec.ofInt 64 z &&& BitVec.ofInt 64 127).toNat : Nat) : Int) = _
  rw [BitVec.toNat_and, e1, e2, e3, IntKind.wrap_i64]
  omega
theorem mask3 (t : Nat) (h : t < 128) : Go.bits .and .i64 (t : Int) 7 = ((t % 8 : Nat) : Int) := by
  have h1 := (bits_nat .i64 63 (by decide) (fun n h0 h1 => by rw [IntKind.wrap_i64]; omega) t 7 (by omega) (by decide)).1
  rw [show ((7 : Nat) : Int) = 7 from rfl] at h1
  rw [h1, show t &&& 7 = t % 8 from Nat.and_two_pow_sub_one_eq_mod t 3]
theorem xor_u8 {a b : Nat} (ha : a < 256) (hb : b < 256) : Go.bits .xor .u8 (a : Int) (b : Int) = ((a ^^^ b : Nat) : Int) := by
  have e1 : (BitVec.ofInt 8 (a : Int)).toNat = a := by simp [BitVec.toNat_ofInt]; omega
  have e2 : (BitVec.ofInt 8 (b : Int)).toNat = b := by simp [BitVec.toNat_ofInt]; omega
  have e3 : a ^^^ b < 256 := Nat.xor_lt_two_pow (n := 8) ha hb
  show IntKind.u8.wrap (((BitVec.ofInt 8 (a : Int) ^^^ BitVec.ofInt 8 (b : Int)).toNat : Nat) : Int) = _
  rw [BitVec.toNat_xor, e1, e2, IntKind.wrap_u8]
  omega
theorem xor_ne (y r : Nat) : y ^^^ 2 ^ r ≠ y := by
  intro h
  have h1 : y ^^^ (y ^^^ 2 ^ r) = y ^^^ y := by rw [h]
  rw [← Nat.xor_assoc, Nat.xor_self, Nat.zero_xor] at h1
  have := Nat.two_pow_pos r
  omega
theorem b8_set {xs : List Nat} (h : B8 xs) {q v : Nat} (hv : v < 256) : B8 (xs.set q v) := fun x hx => by
  rcases List.mem_or_eq_of_mem_set hx with h1 | h1
  · exact h x h1
  · rw [h1]; exact hv
theorem rd_set16 {w : World} {g q v : Nat} {t : TypeId} {xs ys : List Nat} (h : Bk w g t (va .u8 (xs.set q v))) (hl : xs.length = 32) (hy : ys = xs.take 16) : Rd .u8 w (some ⟨g, 0, none⟩) 16 16 (ys.set q v) := by
  have h1 := (Own.of_bk (k := .u8) (base := 0) (n := 32) h (Nat.zero_le _) (by simp [hl]) (by omega)).rd.take (m := 16) (by omega)
  obtain ⟨q1, _, q3, q4⟩ := h1
  rw [hy, ← List.take_set]
  exact ⟨q1, Nat.le_refl _, q3, q4⟩
theorem set_ne {xs : List Nat} {q y' : Nat} (hq : q < xs.length) (h : y' ≠ gd xs q) : xs ≠ xs.set q y' := by
  intro e
  have h1 := congrArg (fun l => gd l q) e
  rw [gd_lt hq, gd_lt (by simpa using hq), List.getElem_set_self, ← gd_lt hq] at h1
  exact h h1.symm
set_option maxHeartbeats 4000000 in
theorem walk_KeysSealed (a b c d : Int) (A0 : Option Addr) (n0 c0 : Nat) (f : List Nat) (z : Int) (W : World) (wa : (Lit.int .u32 a).wf = true) (wb : (Lit.int .u32 b).wf = true) (wc : (Lit.int .u32 c).wf = true) (wd : (Lit.int .u32 d).wf = true)
    (rd0 : Rd .u8 W A0 n0 c0 f) (f8 : B8 f) (al0 : ∀ ad, A0 = some ad → ad.block < W.heap.size) (y0 : n0 * 1 ≤ 140737488351232) (wz : (Lit.int .i64 z).wf = true) :
    Calls Try.prog 15 #[.int .u32 a, .int .u32 b, .int .u32 c, .int .u32 d, .slice A0 n0 c0, .int .i64 z] W fun e w' => e = .returned (.bool true) ∧ Below W.heap.size W w' := by
  obtain ⟨a, rfl, la⟩ := u32_nat wa
  obtain ⟨b, rfl, lb⟩ := u32_nat wb
  obtain ⟨c, rfl, lc⟩ := u32_nat wc
  obtain ⟨d, rfl, ld⟩ := u32_nat wd
  go_enter Try.func15, Try.ntmps15
  by_cases h1 : (2000 : Int) < (n0 : Int)
  · skip
    go_wp2_with (go_at_call 33; refine (kalive_any _).mono ?_; rintro e w1 ⟨rfl, hb1⟩)
    go_ret
    exact ⟨rfl, hb1⟩
  have hn0 : n0 ≤ 2000 := by omega
  have hS := session_any W la lb lc ld
  go_upto_region 4 with (go_at_call 43; refine hS.mono ?_; rintro e w1 ⟨A1, k1, rfl, o1, b1⟩)
  obtain ⟨g1, rfl, hg1, hg1'⟩ := o1.blk (by omega)
  have hM := mac_any w1 o1.rd (sessN_b8 a b c d) (fun ad e => by cases e; exact hg1') (rd0.below b1) f8 (fun ad e => Nat.lt_of_lt_of_le (al0 ad e) b1.size) (by omega)
  go_upto_region 5 with (go_at_call 41; refine hM.mono ?_; rintro e w2 ⟨g, rfl, hk, hg, b2⟩)
  have b12 := b1.trans (b2.mono b1.size)
  have hSe := sealed_any w2 la lb lc ld (rd0.below b12) f8 (fun ad e => Nat.lt_of_lt_of_le (al0 ad e) b12.size) (by omega) (mac_rd hk)
  rw [beq_self_eq_true] at hSe
  have o2 := o1.below b2
  have hs2 := b12.size
  clear hS hM h1
  go_upto_region 7 with (go_at_call 42; refine hSe.mono ?_; rintro e w3 ⟨rfl, b3⟩)
  have b13 := b12.trans (b3.mono hs2)
  have o3 := o2.below b3
  have hk3 := Bk.below hk b3 hk.lt
  obtain ⟨x, ex⟩ : ∃ v, gd (sessN a b c d) 0 = v := ⟨_, rfl⟩
  have cx := o3.slot (j := 0) (by omega) ex
  have fx := o3.frozenAt 0
  obtain ⟨xb, hxb⟩ : ∃ v, Go.bits .xor .u8 (x : Int) 255 = v := ⟨_, rfl⟩
  have hne : g ≠ g1 := by omega
  have HK3 := Lib.hid hk3
  have B13 := Lib.hid b13
  have hgs : W.heap.size ≤ g1 := hg1
  have hs3 := b13.size
  have hgs2 : W.heap.size ≤ g := by have := b1.size; omega
  clear o1 o2 o3 hk hk3 b1 b2 b3 b12 b13 hSe ex
  go_upto_region 8 with (fail)
  have hk4 := HK3.out.far (p := ⟨g1, 0, none⟩) (by show g ≠ g1; exact hne) (.int .u8 xb)
  have b4 := B13.out.setCell (p := ⟨g1, 0, none⟩) (by show W.heap.size ≤ g1; exact hgs) (.int .u8 xb)
  obtain ⟨t, ht⟩ : ∃ t : Nat, z % 128 = (t : Int) := ⟨(z % 128).toNat, by omega⟩
  have ht1 : t < 128 := by omega
  have e1 : Go.bits .and .i64 z 127 = (t : Int) := by rw [mask7, ht]
  obtain ⟨q, hq⟩ : ∃ q, t / 8 = q := ⟨_, rfl⟩
  have hq1 : q < 16 := by omega
  have e2 : Int.tdiv (t : Int) 8 = (q : Int) := by rw [Int.tdiv_eq_ediv_of_nonneg (by omega)]; omega
  have e3 := mask3 t ht1
  obtain ⟨r, hr⟩ : ∃ r, t % 8 = r := ⟨_, rfl⟩
  rw [hr] at e3
  have hr1 : r < 8 := by omega
  obtain ⟨y, ey⟩ : ∃ v, gd (shaN (sessN a b c d ++ f)) q = v := ⟨_, rfl⟩
  clear ht
  go_upto_region 9 with (fail)
  have hkg := mac_rd hk4
  have cy : (w3.setCell ⟨g1, 0, none⟩ (.int .u8 xb)).cell? ⟨g, q, none⟩ = some (.int .u8 (y : Int)) := by
    rw [Bk.cell hk4 q, va_at _ (by rw [shaN_length]; omega), ey]
  have fq : w3.frozen? ⟨g, q, none⟩ = false := HK3.out.frozen q
  have q1 : (q : Int) < 16 := by omega
  have q0 : (0 : Int) ≤ (q : Int) := by omega
  go_upto_region 10 with (fail)
  clear e2 e3 q1 q0 hkg
  have y8 : y < 256 := by rw [← ey]; exact (shaN_b8 _).gd q
  have r8 : 2 ^ r < 256 := Nat.pow_lt_pow_right (m := r) (n := 8) (by decide) hr1
  have ev : Go.bits .xor .u8 (y : Int) (2 ^ r % 256) = ((y ^^^ 2 ^ r : Nat) : Int) := by
    rw [← xor_u8 y8 r8]
    congr 1
    have e : ((2 : Int) ^ r) = ((2 ^ r : Nat) : Int) := by simp
    rw [e]
    exact Int.emod_eq_of_lt (Int.natCast_nonneg _) (Int.ofNat_lt.2 r8)
  rw [ev]
  have hne' : g1 ≠ g := fun e => hne e.symm
  have hk5 := (hk4.set q (.int .u8 ((y ^^^ 2 ^ r : Nat) : Int)))
  rw [va_set] at hk5
  have b5 := b4.setCell (p := ⟨g, q, none⟩) (by show W.heap.size ≤ g; exact hgs2) (.int .u8 ((y ^^^ 2 ^ r : Nat) : Int))
  have hrd : Rd .u8 _ (some ⟨g, 0, none⟩) 16 16 ((macN a b c d f).set q (y ^^^ 2 ^ r)) := rd_set16 hk5 (shaN_length _) rfl
  have hl : (macN a b c d f).length = 16 := by simp [macN, shaN_length]
  have m8 : B8 (macN a b c d f) := (shaN_b8 _).take _
  have hv : y ^^^ 2 ^ r < 256 := Nat.xor_lt_two_pow (n := 8) y8 r8
  have hfa : ((bstr (macN a b c d f)).toList == (bstr ((macN a b c d f).set q (y ^^^ 2 ^ r))).toList) = false := bstr_ne m8 (b8_set m8 hv) (set_ne (by rw [hl]; exact hq1) (by
    rw [show gd (macN a b c d f) q = y from by rw [← ey]; exact gd_take hq1]
    exact xor_ne y r))
  clear hk5 hk4 m8 hl hv ev y8 r8 ey hr hr1 hq hq1 cy cx fx fq hxb hgs hgs2
  generalize ((w3.setCell ⟨g1, 0, none⟩ (.int .u8 xb)).setCell ⟨g, q, none⟩ (.int .u8 ((y ^^^ 2 ^ r : Nat) : Int))) = w5 at hrd b5 ⊢
  have hs5 := b5.size
  have hSe2 := fun w' (h : Below w5.heap.size w5 w') => sealed_any w' la lb lc ld ((rd0.below b5).below h) f8 (fun ad e => Nat.lt_of_lt_of_le (al0 ad e) (Nat.le_trans b5.size h.size)) (by omega) (hrd.below h)
  rw [hfa] at hSe2
  clear hfa hrd
  go_wp2_with (first
    | (go_at_call 42; refine (hSe2 _ b6).mono ?_; rintro e w7 ⟨rfl, b7⟩)
    | (go_at_call 33; refine (kalive_any _).mono ?_; rintro e w6 ⟨rfl, b6⟩))
  go_ret
  exact ⟨rfl, b5.trans ((b6.trans (b7.mono b6.size)).mono hs5)⟩
end Go.Proofs.Ytiimflmbcgnbeaa
