/- Texts of this claim, joined: Ra, Rb, Rc, Rd. -/
import Derived.Test.YtgdogaehiikngaaMC

/- Binary digits, and the reference's 'cut' and 'number' walked over whatever row is read. -/
namespace Go.Proofs.Ytgdogaehiikngaa
set_option linter.unusedSimpArgs false
set_option linter.unusedVariables false
open Go.RowKit

/-- the number that binary digits make, the least one first -/
def bvN : List Nat → Nat
  | [] => 0
  | x :: xs => x + 2 * bvN xs
def Bin (xs : List Nat) : Prop := ∀ x ∈ xs, x ≤ 1
theorem Bin.take {xs : List Nat} (h : Bin xs) (k : Nat) : Bin (xs.take k) := fun x hx => h x (List.mem_of_mem_take hx)
theorem Bin.drop {xs : List Nat} (h : Bin xs) (k : Nat) : Bin (xs.drop k) := fun x hx => h x (List.mem_of_mem_drop hx)
theorem Bin.gd {xs : List Nat} (h : Bin xs) (j : Nat) : gd xs j ≤ 1 := by
  rcases Nat.lt_or_ge j xs.length with hj | hj
  · exact h _ (List.mem_of_getElem? (gd_get hj))
  · rw [gd_ge hj]; omega
theorem Bin.tail {x : Nat} {xs : List Nat} (h : Bin (x :: xs)) : Bin xs := fun y hy => h y (by simp [hy])
theorem bvN_append (xs ys : List Nat) : bvN (xs ++ ys) = bvN xs + 2 ^ xs.length * bvN ys := by
  induction xs with
  | nil => simp [bvN]
  | cons x xs ih => simp only [List.cons_append, bvN, ih, List.length_cons, Nat.pow_succ]; rw [Nat.mul_add, Nat.mul_comm (2 ^ xs.length) 2, Nat.mul_assoc]; omega
theorem bvN_lt {xs : List Nat} (h : Bin xs) : bvN xs < 2 ^ xs.length := by
  induction xs with
  | nil => simp [bvN]
  | cons x xs ih =>
    have := ih h.tail
    have hx := h x (by simp)
    simp only [bvN, List.length_cons, Nat.pow_succ]
    omega
theorem bvN_take_succ {xs : List Nat} {k : Nat} (h : k < xs.length) : bvN (xs.take (k + 1)) = bvN (xs.take k) + 2 ^ k * gd xs k := by
  rw [List.take_succ_eq_append_getElem h, bvN_append, List.length_take, Nat.min_eq_left (by omega), gd_lt h]; simp [bvN]
theorem bvN_take_lt {xs : List Nat} (h : Bin xs) (k : Nat) : bvN (xs.take k) < 2 ^ k := by
  refine Nat.lt_of_lt_of_le (bvN_lt (h.take k)) (Nat.pow_le_pow_right (by omega) ?_)
  rw [List.length_take]; omega
/-- a row whose length is just what its number needs is its number's -/
theorem limbs_of_len {ws : List Nat} (h : B64 ws) (hl : ws.length = ln (nv ws)) : limbs (nv ws) = ws := by
  refine limbs_nv h fun x hx h0 => ?_
  have hne : ws.length ≠ 0 := by rintro e; rw [List.length_eq_zero_iff] at e; subst e; cases hx
  rw [List.getLast?_eq_getElem?] at hx
  have e := nv_take_succ (xs := ws) (k := ws.length - 1) (by omega)
  rw [List.take_of_length_le (by omega), gd_some hx, h0, Nat.mul_zero, Nat.add_zero] at e
  have h1 := nv_take_lt h (ws.length - 1)
  rw [← e] at h1
  have := ln_le.2 h1
  omega
/-- binary digits whose last one is 1 need so many limbs -/
theorem ln_bits {m v : Nat} (h : v < 2 ^ m) (h1 : m = 0 ∨ 2 ^ (m - 1) ≤ v) : ln v = (m + 63) / 64 := by
  refine Nat.le_antisymm ?_ ?_
  · rw [ln_le, wpow]
    exact Nat.lt_of_lt_of_le h (Nat.pow_le_pow_right (by omega) (by omega))
  · rcases Nat.lt_or_ge (ln v) ((m + 63) / 64) with hlt | hge
    · exfalso
      have := lt_ln v
      rw [wpow] at this
      have h3 : 2 ^ (64 * ln v) ≤ 2 ^ (m - 1) := Nat.pow_le_pow_right (by omega) (by omega)
      rcases h1 with h1 | h1
      · omega
      · omega
    · exact hge

/-- how much of a row stays when noughts are taken off its end -/
def CutTo (xs : List Nat) (m : Nat) : Prop := m ≤ xs.length ∧ bvN (xs.take m) = bvN xs ∧ (m = 0 ∨ gd xs (m - 1) ≠ 0)

set_option maxHeartbeats 400000 in
theorem cut_any (w : World) {A : Option Addr} {n c : Nat} {xs : List Nat} (hx : Rd .i64 w A n c xs) (hn : n ≤ 1073741824) :
    Calls Try.prog 50 #[.slice A n c] w fun e w' => ∃ m, e = .returned (.slice A m c) ∧ CutTo xs m ∧ w = w' := by
  have hmax := hx.max
  have hcap := hx.cap
  have HX := Lib.hid hx
  clear hx
  go_enter Try.func50, Try.ntmps50
  go_wp2
  go_loop [3] (fun i => ∃ k : Nat, k ≤ n ∧ bvN (xs.take k) = bvN xs ∧ i = .int .i64 (k : Int)) (fun i => (intOf i).toNat)
  case atStart => exact ⟨n, Nat.le_refl _, by rw [List.take_of_length_le (by rw [HX.out.len]; exact Nat.le_refl _)], rfl⟩
  case round =>
    obtain ⟨k, hk, hv, rfl⟩ := hrel
    have HV := Lib.hid hv
    clear hv
    by_cases hk0 : k = 0
    · subst hk0
      go_wp2_with fail
      go_ret
      exact ⟨0, rfl, ⟨by omega, HV.out, .inl rfl⟩, rfl⟩
    · obtain ⟨k, rfl⟩ : ∃ j, k = j + 1 := ⟨k - 1, by omega⟩
      obtain ⟨ad, rfl, hb, hc⟩ := HX.out.form (by omega)
      have hxc := hc k (by omega)
      clear hc hk0
      by_cases h0 : gd xs k = 0
      · have HM := Lib.hid (show bvN (xs.take k) = bvN xs by rw [← HV.out, bvN_take_succ (by rw [HX.out.len]; omega), h0]; simp)
        rw [h0] at hxc
        clear h0
        go_wp2_with fail
        refine ⟨⟨k, by omega, HM.out, ?_⟩, ?_⟩
        · first | rfl | (congr 1; omega)
        · simp [intOf]
      · have h0' : (((gd xs k : Nat) : Int) == 0) = false := by simp; omega
        have H0 := Lib.hid h0
        have hl : k + 1 ≤ xs.length := by rw [HX.out.len]; omega
        clear h0
        go_wp2_with fail
        go_ret
        exact ⟨k + 1, rfl, ⟨hl, HV.out, .inr H0.out⟩, rfl⟩
end Go.Proofs.Ytgdogaehiikngaa

/- The reference's 'number', walked over whatever row of binary digits is read. -/
namespace Go.Proofs.Ytgdogaehiikngaa
set_option linter.unusedSimpArgs false
set_option linter.unusedVariables false
open Go.RowKit

/-- the relation while digits become limbs: i digits are done -/
structure NumSt (ds ws : List Nat) (i : Nat) : Prop where
  b : B64 ws
  len : ws.length = (i + 63) / 64
  val : nv ws = bvN (ds.take i)
theorem NumSt.zero (ds : List Nat) : NumSt ds [] 0 := ⟨B64.nil, rfl, rfl⟩
theorem NumSt.grow {ds ws : List Nat} {i : Nat} (h : NumSt ds ws i) (hi : i % 64 = 0) : B64 (ws ++ [0]) ∧ (ws ++ [0]).length = i / 64 + 1 ∧ nv (ws ++ [0]) = bvN (ds.take i) := by
  refine ⟨h.b.append (B64.cons (by omega) B64.nil), by rw [List.length_append, h.len]; simp; omega, ?_⟩
  rw [nv_append, h.val]; simp [nv]
theorem NumSt.keep {ds ws : List Nat} {i : Nat} (h : NumSt ds ws i) (hi : i % 64 ≠ 0) : ws.length = i / 64 + 1 := by rw [h.len]; omega
theorem num_zero {ds ws : List Nat} {i : Nat} (b : B64 ws) (hl : ws.length = i / 64 + 1) (hv : nv ws = bvN (ds.take i)) (hi : i < ds.length) (h0 : gd ds i = 0) : NumSt ds ws (i + 1) :=
  ⟨b, by rw [hl]; omega, by rw [bvN_take_succ hi, h0, hv]; simp⟩
theorem num_room {ds ws : List Nat} {i : Nat} (hd : Bin ds) (hv : nv ws = bvN (ds.take i)) : gd ws (i / 64) + 2 ^ (i % 64) < 18446744073709551616 := by
  have h1 := bvN_take_lt hd i
  rw [← hv] at h1
  have h2 : gd ws (i / 64) < 2 ^ (i % 64) := gd_small (by rw [wpow, ← Nat.pow_add, show 64 * (i / 64) + i % 64 = i by omega]; exact h1)
  have h3 : 2 ^ (i % 64) ≤ 2 ^ 63 := Nat.pow_le_pow_right (by omega) (by omega)
  omega
theorem num_one {ds ws : List Nat} {i : Nat} (hd : Bin ds) (b : B64 ws) (hl : ws.length = i / 64 + 1) (hv : nv ws = bvN (ds.take i)) (hi : i < ds.length) (h1 : gd ds i = 1) : NumSt ds (ws.set (i / 64) (gd ws (i / 64) + 2 ^ (i % 64))) (i + 1) := by
  refine ⟨b.set (num_room hd hv), by rw [List.length_set, hl]; omega, ?_⟩
  have e := nv_set (zs := ws) (j := i / 64) (gd ws (i / 64) + 2 ^ (i % 64)) (by omega)
  rw [Nat.mul_add, wpow, ← Nat.pow_add, show 64 * (i / 64) + i % 64 = i by omega] at e
  rw [bvN_take_succ hi, h1, ← hv]; omega
theorem num_done {xs ds ws : List Nat} {m : Nat} (hx : Bin xs) (hc : CutTo xs m) (hd : ds = xs.take m) (h : NumSt ds ws m) : ws = limbs (bvN xs) ∧ ws.length = ln (bvN xs) := by
  have hl : ds.length = m := by rw [hd, List.length_take]; have := hc.1; omega
  have hv : nv ws = bvN xs := by rw [h.val, List.take_of_length_le (by omega), hd, hc.2.1]
  have e : ln (bvN xs) = (m + 63) / 64 := by
    refine ln_bits ?_ ?_
    · rw [← hc.2.1]; exact bvN_take_lt hx m
    · rcases hc.2.2 with h0 | h0
      · exact .inl h0
      · rcases Nat.eq_zero_or_pos m with hm | hm
        · exact .inl hm
        · right
          have h1 : gd xs (m - 1) = 1 := by have := hx.gd (m - 1); omega
          have h2 := bvN_take_succ (xs := xs) (k := m - 1) (by have := hc.1; omega)
          rw [show m - 1 + 1 = m by omega, hc.2.1, h1] at h2; omega
  refine ⟨?_, by rw [h.len, e]⟩
  rw [← hv]; exact (limbs_of_len h.b (by rw [hv, e, h.len])).symm

set_option maxHeartbeats 1000000 in
theorem number_any (w : World) {A : Option Addr} {n c : Nat} {xs : List Nat} (hx : Rd .i64 w A n c xs) (hb : Bin xs) (hn : n ≤ 1073741824) :
    Calls Try.prog 44 #[.slice A n c] w (RetN (bvN xs) w) := by
  obtain ⟨i0, hi0, hz0, hz1, hz2⟩ := info_parts u64_info
  have HX := Lib.hid hx
  have HB := Lib.hid hb
  clear hx hb
  go_enter Try.func44, Try.ntmps44
  go_wp2_with fail
  refine (cut_any w HX.out hn).mono ?_
  rintro e w' ⟨m, rfl, hcut, hw'⟩
  obtain rfl : w = w' := hw'
  have hmn : m ≤ n := by have := hcut.1; rw [HX.out.len] at this; exact this
  have HR := Lib.hid (HX.out.take hmn)
  have hmc : m ≤ c := HR.out.cap
  have HC := Lib.hid hcut
  have HBD := Lib.hid (HB.out.take m)
  obtain ⟨ds, hds⟩ : ∃ ds, ds = xs.take m := ⟨_, rfl⟩
  rw [← hds] at HR HBD
  have HDS := Lib.hid hds
  clear hcut hds
  go_wp2_with fail
  go_loopw [3, 4] (fun v i wr => ∃ (k : Nat) (A1 : Option Addr) (c1 : Nat) (ws : List Nat), k ≤ m ∧ i = .int .i64 (k : Int) ∧ v = .slice A1 ((k + 63) / 64) c1 ∧ Own .u64 41 wr w.heap.size A1 ((k + 63) / 64) c1 ws ∧ Below w.heap.size w wr ∧ NumSt ds ws k) (fun _ i _ => m - (intOf i).toNat)
  case atStart => exact ⟨0, none, 0, [], by omega, rfl, rfl, Own.nil _ _ _ _, Below.refl _ _, NumSt.zero _⟩
  case round =>
    obtain ⟨k, A1, c1, ws, hk, rfl, rfl, how, hbl, hst⟩ := hrel
    have HO := Lib.hid how
    have HST := Lib.hid hst
    have hsz := hbl.size
    clear how hst
    obtain ⟨L, hL⟩ : ∃ L, (k + 63) / 64 = L := ⟨_, rfl⟩
    rw [hL] at HO ⊢
    have HL := Lib.hid hL
    have hLb : L ≤ 16777216 := by omega
    clear hL
    by_cases hlt : k < m
    · obtain ⟨ad, rfl, hb, hc⟩ := (HR.out.below hbl).form (by omega)
      have hdc := hc k hlt
      have hxd := HR.out.form (show 0 < m by omega)
      obtain ⟨ad', had', hbb, _⟩ := hxd
      obtain rfl := Option.some.inj had'
      clear hc had'
      obtain ⟨q, hq⟩ : ∃ q, k / 64 = q := ⟨_, rfl⟩
      obtain ⟨r, hr⟩ : ∃ r, k % 64 = r := ⟨_, rfl⟩
      have hr63 : r ≤ 63 := by omega
      have d1 : (k : Int) / 64 = (q : Int) := by omega
      have d2 : (k : Int).tdiv 64 = (q : Int) := by rw [Int.tdiv_eq_ediv_of_nonneg (by omega)]; omega
      have d3 : (k : Int) % 64 = (r : Int) := by omega
      have d4 : (k : Int).tmod 64 = (r : Int) := by rw [Int.tmod_eq_emod_of_nonneg (by omega)]; omega
      have d5 : IntKind.i64.wrap (q : Int) = (q : Int) := IntWalk.i64_in _ (by omega)
      have HQ := Lib.hid hq
      have HRR := Lib.hid hr
      have hds1 : gd ds k ≤ 1 := HBD.out.gd k
      have hdl : k < ds.length := by rw [HR.out.len]; exact hlt
      have hdg := Ytgdogaehiikngaa.num_room (i := k) HBD.out HST.out.val
      by_cases hr0 : r = 0
      · have hr0' : ((r : Int) == 0) = true := by simp; omega
        obtain ⟨gb, gl, gv⟩ := HST.out.grow (by rw [HRR.out]; exact hr0)
        have GB := Lib.hid gb
        have GL := Lib.hid gl
        have GV := Lib.hid gv
        have HO1 := Lib.hid (HO.out.below ((Below.refl _ _).alloc (Nat.le_refl _) (.cells #[.int .u64 0] 41)))
        have HR4 := Lib.hid ((Own.of_bk (k := .u64) (xs := [0]) (base := 0) (Bk.new wr 41 (va .u64 [0])) (by omega) rfl (by simp)).rd : Rd .u64 (wr.alloc (.cells #[.int .u64 0] 41)) (some ⟨wr.heap.size, 0, none⟩) 1 1 [0])
        have hb9 : w.heap.size ≤ (wr.alloc (.cells #[.int .u64 0] 41)).heap.size := by simp; omega
        have HB5 := Lib.hid (show Below w.heap.size w (wr.alloc (.cells #[.int .u64 0] 41)) from hbl.alloc hsz _)
        clear gb gl gv hr0
        go_wp2_with (at_builtin; refine wpList_append_rd _ rfl (.tmp 16) (.tmp 17) _ rfl .u64 w.heap.size 41 i0 (.int .u64 0) 8 Try.underlying22 hi0 hz0 hz1 hz2 rfl A1 L c1 _ rfl HO1.out _ _ _ _ rfl HR4.out (by simp only [maxLen]; omega) (by omega) hb9 ?_)
        intro A2 c2 w2 ho2 hb2 hs2 _
        have hLq : L + 1 = q + 1 := by have := GL.out; rw [List.length_append, HO.out.len, HQ.out] at this; simpa using this
        rw [hLq] at ho2 ⊢
        have hb2' : Below w.heap.size w w2 := HB5.out.trans hb2
        have hdc2 : w2.cell? (ad.add k) = some (.int .i64 ((gd ds k : Nat) : Int)) := by
          obtain ⟨ad2, had2, _, hc2⟩ := (HR.out.below hb2').form (by omega)
          obtain rfl := Option.some.inj had2
          exact hc2 k hlt
        clear hdc hb2 hs2
        obtain ⟨gx, hAx, hgx1, hgx2⟩ := ho2.blk (by omega)
        subst hAx
        have hk1 : (k + 1 + 63) / 64 = q + 1 := by have := HQ.out; omega
        have HK1 := Lib.hid hk1
        clear hk1
        rcases (show gd ds k = 0 ∨ gd ds k = 1 by omega) with hd0 | hd1
        · have HN := Lib.hid (num_zero GB.out GL.out GV.out hdl hd0)
          rw [hd0] at hdc2
          have HO3 := Lib.hid ho2
          have HB3 := Lib.hid hb2'
          clear hd0 ho2 hb2'
          go_wp2_with fail
          refine ⟨⟨k + 1, some ⟨gx, 0, none⟩, c2, (ws++[0]), by omega, by go_num, ?_, ?_, HB3.out, HN.out⟩, by simp [intOf]; omega⟩
          · rw [HK1.out]
          · rw [HK1.out]; exact HO3.out
        · have HN := Lib.hid (num_one HBD.out GB.out GL.out GV.out hdl hd1)
          rw [HQ.out, HRR.out] at HN
          rw [hd1] at hdc2
          have hroom := Ytgdogaehiikngaa.num_room (i := k) HBD.out GV.out
          rw [HQ.out, HRR.out] at hroom
          have hcell := ho2.cellAt (j := q) (by omega)
          have hfr := ho2.frozenAt q
          have hcap := ho2.rd.cap
          obtain ⟨x0, hx0⟩ : ∃ x0, gd (ws++[0]) q = x0 := ⟨_, rfl⟩
          rw [hx0] at hcell hroom HN
          obtain ⟨p, hp⟩ : ∃ p, 2 ^ r = p := ⟨_, rfl⟩
          rw [hp] at hroom HN
          have e1 : IntKind.u64.wrap ((2 : Int) ^ r) = (p : Int) := by rw [show (2 : Int) ^ r = ((2 ^ r : Nat) : Int) by push_cast; rfl, hp]; exact wrap_of (by omega)
          have e2 : IntKind.u64.wrap ((x0 : Int) + (p : Int)) = ((x0 + p : Nat) : Int) := wrap_of (by omega)
          have e3 : IntKind.u64.wrap (r : Int) = (r : Int) := wrap_of (by omega)
          have HST3 := Lib.hid (ho2.store q (x0 + p))
          have HB3 := Lib.hid (hb2'.setCell (p := ⟨gx, q, none⟩) hgx1 (.int .u64 ((x0 + p : Nat) : Int)))
          clear hd1 hx0 hp ho2 hb2'
          go_wp2_with fail
          refine ⟨⟨k + 1, some ⟨gx, 0, none⟩, c2, ((ws++[0])).set q (x0 + p), by omega, by go_num, ?_, ?_, HB3.out, HN.out⟩, by simp [intOf]; omega⟩
          · rw [HK1.out]
          · rw [HK1.out]; exact HST3.out
      · have hLq : L = q + 1 := by have := HST.out.keep (by rw [HRR.out]; exact hr0); rw [HO.out.len, HQ.out] at this; exact this
        subst hLq
        have GB := Lib.hid HST.out.b
        have GL := Lib.hid (show ws.length = k / 64 + 1 by rw [HO.out.len, HQ.out])
        have GV := Lib.hid HST.out.val
        have ho2 := HO.out
        have hb2' := hbl
        have hdc2 := hdc
        have hr0' : ((r : Int) == 0) = false := by simp; omega
        clear hdc
        obtain ⟨gx, hAx, hgx1, hgx2⟩ := ho2.blk (by omega)
        subst hAx
        have hk1 : (k + 1 + 63) / 64 = q + 1 := by have := HQ.out; omega
        have HK1 := Lib.hid hk1
        clear hk1
        rcases (show gd ds k = 0 ∨ gd ds k = 1 by omega) with hd0 | hd1
        · have HN := Lib.hid (num_zero GB.out GL.out GV.out hdl hd0)
          rw [hd0] at hdc2
          have HO3 := Lib.hid ho2
          have HB3 := Lib.hid hb2'
          clear hd0 ho2 hb2'
          go_wp2_with fail
          refine ⟨⟨k + 1, some ⟨gx, 0, none⟩, c1, ws, by omega, by go_num, ?_, ?_, HB3.out, HN.out⟩, by simp [intOf]; omega⟩
          · rw [HK1.out]
          · rw [HK1.out]; exact HO3.out
        · have HN := Lib.hid (num_one HBD.out GB.out GL.out GV.out hdl hd1)
          rw [HQ.out, HRR.out] at HN
          rw [hd1] at hdc2
          have hroom := Ytgdogaehiikngaa.num_room (i := k) HBD.out GV.out
          rw [HQ.out, HRR.out] at hroom
          have hcell := ho2.cellAt (j := q) (by omega)
          have hfr := ho2.frozenAt q
          have hcap := ho2.rd.cap
          obtain ⟨x0, hx0⟩ : ∃ x0, gd ws q = x0 := ⟨_, rfl⟩
          rw [hx0] at hcell hroom HN
          obtain ⟨p, hp⟩ : ∃ p, 2 ^ r = p := ⟨_, rfl⟩
          rw [hp] at hroom HN
          have e1 : IntKind.u64.wrap ((2 : Int) ^ r) = (p : Int) := by rw [show (2 : Int) ^ r = ((2 ^ r : Nat) : Int) by push_cast; rfl, hp]; exact wrap_of (by omega)
          have e2 : IntKind.u64.wrap ((x0 : Int) + (p : Int)) = ((x0 + p : Nat) : Int) := wrap_of (by omega)
          have e3 : IntKind.u64.wrap (r : Int) = (r : Int) := wrap_of (by omega)
          have HST3 := Lib.hid (ho2.store q (x0 + p))
          have HB3 := Lib.hid (hb2'.setCell (p := ⟨gx, q, none⟩) hgx1 (.int .u64 ((x0 + p : Nat) : Int)))
          clear hd1 hx0 hp ho2 hb2'
          go_wp2_with fail
          refine ⟨⟨k + 1, some ⟨gx, 0, none⟩, c1, (ws).set q (x0 + p), by omega, by go_num, ?_, ?_, HB3.out, HN.out⟩, by simp [intOf]; omega⟩
          · rw [HK1.out]
          · rw [HK1.out]; exact HST3.out
    · obtain rfl : m = k := by omega
      have HF := Lib.hid (num_done HB.out HC.out HDS.out HST.out)
      go_wp2_with fail
      go_ret
      refine ⟨A1, c1, ?_, ?_, hbl⟩
      · rw [← HF.out.2, HO.out.len]; rfl
      · have := HO.out
        rw [← HO.out.len, HF.out.2] at this
        rw [← HF.out.1]; exact this
end Go.Proofs.Ytgdogaehiikngaa

/- The reference's 'number' in the words of the printed texts. -/
namespace Go.Proofs.Ytgdogaehiikngaa
set_option linter.unusedSimpArgs false
set_option linter.unusedVariables false
open Go.RowKit Go.Proofs.YtgdogaehiikngaaW.PrintWords Go.Proofs.YtgdogaehiikngaaW.PrintLast

def binI (m : Nat) (l : List Int) : Prop := l.length ≤ m ∧ ∀ x ∈ l, x = 0 ∨ x = 1
instance (m : Nat) (l : List Int) : Decidable (binI m l) := by unfold binI; exact inferInstance
theorem binI.bin {m : Nat} {l : List Int} (h : binI m l) : Bin (toN l) := by
  intro x hx
  simp only [toN, List.mem_map] at hx
  obtain ⟨y, hy, rfl⟩ := hx
  have := h.2 y hy
  omega
/-- any row of numbers that are not below nought -/
theorem rd_of_C' {k : IntKind} {w : World} {A : Option Addr} {c : Nat} {l : List Int} (h : Kd.C (Kd.int k) w A l.length l) (hc : l.length ≤ c) (ho : ∀ x ∈ l, 0 ≤ x) : Rd k w A l.length c (toN l) := by
  obtain ⟨_, h2, h3⟩ := Kd.reads_of_C (d := (0 : Int)) h
  refine ⟨toN_length l, hc, h2, fun hn => ?_⟩
  obtain ⟨ad, e, hcell⟩ := h3 hn
  refine ⟨ad, e, ?_, fun j x hx => ?_⟩
  · have := World.block_lt_of_cell? w _ (hcell 0 hn)
    rwa [Go.ChangeShapes.block_add] at this
  · have hj : j < l.length := by
      rcases Nat.lt_or_ge j (toN l).length with h | h
      · rwa [toN_length] at h
      · rw [List.getElem?_eq_none h] at hx; cases hx
    rw [hcell j hj]
    have hl : l[j]? = some (l.getD j 0) := by rw [List.getD_eq_getElem?_getD, List.getElem?_eq_getElem hj]; rfl
    have hb := ho (l.getD j 0) (List.mem_of_getElem? hl)
    simp only [toN, List.getElem?_map, hl, Option.map_some, Option.some.injEq] at hx
    congr 2
    omega
theorem number_giv {A0 : Option Addr} {c0 : Nat} {l0 : List Int} {w : World} {r : List Int} (hr0 : Kd.C (Kd.int .i64) w A0 l0.length l0) (hc0 : l0.length ≤ c0) (h : (if binI 1073741824 l0 then some (ofN (bvN (toN l0))) else none) = some r) :
    Calls Try.prog 44 #[.slice A0 l0.length c0] w fun e w' => ∃ v0_ : Value, e = .returned (v0_) ∧ Kd.R (Kd.int .u64) 41 w' w.heap.size (fun _ => True) v0_ r ∧ Below w.heap.size w w' := by
  obtain ⟨h0, rfl⟩ := of_ite h
  exact (number_any w (rd_of_C' hr0 hc0 fun x hx => by have := h0.2 x hx; omega) h0.bin h0.1).mono fun _ _ h => retN_R h
theorem lz_giv {a0 r : Int} {w : World} (h : (if 0 ≤ a0 ∧ a0 < 18446744073709551616 then some (64 - (Lib.bitLen a0.toNat : Int)) else none) = some r) :
    Calls Try.prog 46 #[.int .u64 a0] w fun e w' => e = .returned (.int .i64 r) ∧ Drawn0 w w' := by
  obtain ⟨h0, rfl⟩ := of_ite h
  refine (Ytgdogaehiikngaa.bits_LeadingZeros64 a0 w h0.1 (by omega)).mono ?_
  rintro e w' ⟨rfl, rfl⟩
  exact ⟨rfl, Drawn0.refl _⟩
end Go.Proofs.Ytgdogaehiikngaa

/- Rows of binary digits over whole numbers: plain laws. -/
namespace Go.Proofs.Ytgdogaehiikngaa
set_option linter.unusedSimpArgs false
set_option linter.unusedVariables false
open Go.RowKit Go.Proofs.YtgdogaehiikngaaW.PrintWords Go.Proofs.YtgdogaehiikngaaW.PrintLast

/-- the binary digits of a number, without noughts at the end -/
def dg (n : Nat) : List Int := if h : n = 0 then [] else ((n % 2 : Nat) : Int) :: dg (n / 2)
termination_by n
decreasing_by exact Nat.div_lt_self (Nat.pos_of_ne_zero h) (by omega)
theorem dg_zero : dg 0 = [] := by rw [dg]; simp
theorem dgp {n : Nat} (h : n ≠ 0) : dg n = ((n % 2 : Nat) : Int) :: dg (n / 2) := by rw [dg]; simp [h]
def blen (n : Nat) : Nat := (dg n).length
theorem blen_zero : blen 0 = 0 := by unfold blen; rw [dg_zero]; rfl
theorem blen_pos {n : Nat} (h : n ≠ 0) : blen n = blen (n / 2) + 1 := by unfold blen; rw [dgp h]; rfl
theorem blen_le {n k : Nat} : blen n ≤ k ↔ n < 2 ^ k := by
  induction k generalizing n with
  | zero =>
    by_cases h : n = 0
    · subst h; simp [blen_zero]
    · rw [blen_pos h]; simp; omega
  | succ k ih =>
    by_cases h : n = 0
    · subst h; rw [blen_zero]; exact ⟨fun _ => Nat.pow_pos (by omega), fun _ => by omega⟩
    · rw [blen_pos h, Nat.add_le_add_iff_right, ih, Nat.pow_succ, Nat.div_lt_iff_lt_mul (by omega)]
theorem lt_blen (n : Nat) : n < 2 ^ blen n := blen_le.1 (Nat.le_refl _)
theorem dg_length (n : Nat) : (dg n).length = blen n := rfl

/-- only noughts and ones -/
def BinL (l : List Int) : Prop := ∀ x ∈ l, x = 0 ∨ x = 1
theorem BinL.nil : BinL [] := fun x h => by cases h
theorem BinL.append {l m : List Int} (h : BinL l) (h' : BinL m) : BinL (l ++ m) := fun x hx => by
  rcases List.mem_append.1 hx with hx | hx
  · exact h x hx
  · exact h' x hx
theorem BinL.one {x : Int} (h : x = 0 ∨ x = 1) : BinL [x] := fun y hy => by rw [List.mem_singleton.1 hy]; exact h
theorem BinL.take {l : List Int} (h : BinL l) (k : Nat) : BinL (l.take k) := fun x hx => h x (List.mem_of_mem_take hx)
theorem BinL.drop {l : List Int} (h : BinL l) (k : Nat) : BinL (l.drop k) := fun x hx => h x (List.mem_of_mem_drop hx)
theorem BinL.set {l : List Int} (h : BinL l) (j : Nat) {y : Int} (hy : y = 0 ∨ y = 1) : BinL (l.set j y) := fun x hx => by
  rcases List.mem_or_eq_of_mem_set hx with hx | rfl
  · exact h x hx
  · exact hy
theorem BinL.replicate (n : Nat) : BinL (List.replicate n 0) := fun x hx => .inl (List.eq_of_mem_replicate hx)
theorem BinL.tail {x : Int} {l : List Int} (h : BinL (x :: l)) : BinL l := fun y hy => h y (by simp [hy])
theorem BinL.binI {l : List Int} (h : BinL l) {m : Nat} (hl : l.length ≤ m) : binI m l := ⟨hl, h⟩

/-- the number of a row of digits -/
def bz (l : List Int) : Nat := bvN (toN l)
theorem bz_nil : bz [] = 0 := rfl
theorem bz_cons (x : Int) (l : List Int) : bz (x :: l) = x.toNat + 2 * bz l := rfl
theorem bz_append (l m : List Int) : bz (l ++ m) = bz l + 2 ^ l.length * bz m := by
  unfold bz; rw [show toN (l ++ m) = toN l ++ toN m by simp [toN], bvN_append, toN_length]
theorem bz_lt {l : List Int} (h : BinL l) : bz l < 2 ^ l.length := by
  have := bvN_lt (show Bin (toN l) from (h.binI (Nat.le_refl _)).bin)
  rwa [toN_length] at this
theorem bz_dg (n : Nat) : bz (dg n) = n := by
  induction n using Nat.strongRecOn with
  | ind n ih =>
    by_cases h : n = 0
    · subst h; rw [dg_zero]; rfl
    · rw [dgp h, bz_cons, ih _ (Nat.div_lt_self (Nat.pos_of_ne_zero h) (by omega))]; omega
theorem dg_bin (n : Nat) : BinL (dg n) := by
  induction n using Nat.strongRecOn with
  | ind n ih =>
    by_cases h : n = 0
    · subst h; rw [dg_zero]; exact BinL.nil
    · rw [dgp h]
      intro x hx
      rcases List.mem_cons.1 hx with rfl | hx
      · omega
      · exact ih _ (Nat.div_lt_self (Nat.pos_of_ne_zero h) (by omega)) x hx
/-- a row of digits whose last one is 1 is its number's -/
theorem dg_bz {l : List Int} (h : BinL l) (hl : ∀ x, l.getLast? = some x → x ≠ 0) : dg (bz l) = l := by
  induction l with
  | nil => exact dg_zero
  | cons x l ih =>
    have hx := h x (by simp)
    have e : bz l = 0 → l = [] := by
      intro h0
      rcases l with _ | ⟨y, ys⟩
      · rfl
      · exfalso
        have := ih h.tail fun z hz => hl z (by simpa [List.getLast?_cons_cons] using hz)
        rw [h0, dg_zero] at this
        cases this
    have hne : bz (x :: l) ≠ 0 := by
      intro h0
      rw [bz_cons] at h0
      have h2 := e (by omega)
      subst h2
      exact hl x (by simp) (by omega)
    rw [dgp hne]
    have e1 : ((bz (x :: l) % 2 : Nat) : Int) = x := by rw [bz_cons]; omega
    have e2 : bz (x :: l) / 2 = bz l := by rw [bz_cons]; omega
    rw [e1, e2]
    rcases l with _ | ⟨y, ys⟩
    · rw [bz_nil, dg_zero]
    · rw [ih h.tail fun z hz => hl z (by simpa [List.getLast?_cons_cons] using hz)]
theorem bz_drop (l : List Int) (h : BinL l) (j : Nat) : bz (l.drop j) = bz l / 2 ^ j := by
  rcases Nat.lt_or_ge j l.length with hj | hj
  · have e := bz_append (l.take j) (l.drop j)
    rw [List.take_append_drop, List.length_take, Nat.min_eq_left (by omega)] at e
    have hl := bz_lt (h.take j)
    rw [List.length_take, Nat.min_eq_left (by omega)] at hl
    rw [e, Nat.add_mul_div_left _ _ (Nat.pow_pos (by omega)), Nat.div_eq_of_lt hl, Nat.zero_add]
  · rw [List.drop_eq_nil_of_le hj, Nat.div_eq_of_lt]
    · rfl
    · exact Nat.lt_of_lt_of_le (bz_lt h) (Nat.pow_le_pow_right (by omega) hj)
theorem rd_getD (l : List Int) (j : Nat) : rd l (j : Int) = l.getD j 0 := rfl
/-- a digit is a digit of the number -/
theorem bz_digit {l : List Int} (h : BinL l) (j : Nat) : l.getD j 0 = ((bz l / 2 ^ j % 2 : Nat) : Int) := by
  rw [← bz_drop l h j]
  rcases Nat.lt_or_ge j l.length with hj | hj
  · rw [List.drop_eq_getElem_cons hj, bz_cons, List.getD_eq_getElem?_getD, List.getElem?_eq_getElem hj, Option.getD_some]
    have := h l[j] (List.getElem_mem hj)
    omega
  · rw [List.drop_eq_nil_of_le hj, List.getD_eq_getElem?_getD, List.getElem?_eq_none hj]; rfl
theorem mod_next (a i : Nat) : a % 2 ^ (i + 1) = a % 2 ^ i + 2 ^ i * (a / 2 ^ i % 2) := Nat.mod_pow_succ
theorem div_next (a i : Nat) : a / 2 ^ i = 2 * (a / 2 ^ (i + 1)) + a / 2 ^ i % 2 := by
  rw [Nat.pow_succ, ← Nat.div_div_eq_div_mul]; omega
theorem mod_done {a i : Nat} (h : a < 2 ^ i) : a % 2 ^ i = a := Nat.mod_eq_of_lt h
theorem wr {x : Int} (h : -9223372036854775808 ≤ x) (h' : x ≤ 9223372036854775807) : wrap64 x = x := by unfold wrap64; omega
theorem wn {n : Nat} (h : n ≤ 9223372036854775807) : wrap64 (n : Int) = n := wr (by omega) (by omega)
theorem wn1 {n : Nat} (h : n ≤ 9223372036854775806) : wrap64 ((n : Int) + 1) = ((n + 1 : Nat) : Int) := by rw [wr (by omega) (by omega)]; omega
theorem wnd8 {i : Nat} (h : i ≤ 9223372036854775807) : wrap64 (Int.tdiv (i : Int) 8) = ((i / 8 : Nat) : Int) := by rw [Int.tdiv_eq_ediv_of_nonneg (by omega), wr (by omega) (by omega)]; omega
theorem wnm8 {i : Nat} : wrap64 (8 * Int.tmod (i : Int) 8) = ((8 * (i % 8) : Nat) : Int) := by rw [Int.tmod_eq_emod_of_nonneg (by omega), wr (by omega) (by omega)]; omega
theorem wn_sub1 {n i : Nat} (h : i < n) (hn : n ≤ 9223372036854775807) : wrap64 (wrap64 ((n : Int) - 1) - (i : Int)) = ((n - 1 - i : Nat) : Int) := by
  rw [wr (x := (n : Int) - 1) (by omega) (by omega), wr (by omega) (by omega)]; omega
theorem nv_bits_and (a : Nat) (ha : a < 18446744073709551616) : Go.bits .and .u64 (a : Int) 1 = ((a % 2 : Nat) : Int) := by
  have := and_u64 ha (show 1 < 18446744073709551616 by omega)
  rw [show (1 : Int) = ((1 : Nat) : Int) from rfl, this, show 1 = 2 ^ 1 - 1 from rfl, and_mask]
theorem ln2 {a b k m : Nat} (h : ln a ≤ k) (h' : ln b ≤ k) (hk : k + 1 ≤ m) : ln (a + b) ≤ m := Nat.le_trans (ln_add a b k h h') hk
theorem lnm {a b k k' m : Nat} (h : ln a ≤ k) (h' : ln b ≤ k') (hk : k + k' ≤ m) : ln (a * b) ≤ m := by have := ln_mul a b; omega
theorem lnd {a b k : Nat} (h : ln a ≤ k) : ln (a / b) ≤ k := Nat.le_trans (ln_div a b) h
theorem lnr {a b k : Nat} (h : ln a ≤ k) : ln (a % b) ≤ k := Nat.le_trans (ln_mod a b) h
theorem lns {a b k : Nat} (h : ln a ≤ k) : ln (a - b) ≤ k := Nat.le_trans (ln_mono (Nat.sub_le a b)) h
theorem lnp {a k n m : Nat} (h : ln a ≤ k) (hk : k + (n + 63) / 64 ≤ m) : ln (a * 2 ^ n) ≤ m := by
  rw [ln_le] at h ⊢
  have e := Nat.mul_lt_mul_of_pos_right h (show 0 < 2 ^ n from Nat.pow_pos (by omega))
  refine Nat.lt_of_lt_of_le e ?_
  rw [wpow, wpow, ← Nat.pow_add]
  exact Nat.pow_le_pow_right (by omega) (by omega)
end Go.Proofs.Ytgdogaehiikngaa
