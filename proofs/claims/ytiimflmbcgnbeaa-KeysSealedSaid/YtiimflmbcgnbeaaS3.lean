/- A block changes the words: the walk. -/
import Derived.Test.YtiimflmbcgnbeaaS2
namespace Go.Proofs.Ytiimflmbcgnbeaa
set_option linter.unusedSimpArgs false
set_option linter.unusedVariables false
open Go.RowKit

theorem first_any (w : World) : Calls Try.prog 55 #[] w fun e w' => e = .returned (.agg (va .u32 hN)) ∧ Below w.heap.size w w' := by
  go_enter Try.func55, Try.ntmps55
  go_wp2
  refine bodyPost_ret (v := .agg (va .u32 hN)) (by simp [results, Try.results55, go_sem]; rfl) rfl ⟨rfl, ?_⟩
  (repeat (first | (with_reducible exact Below.refl _ _) | (with_reducible assumption) | (with_reducible refine Below.drew ?_) | (with_reducible refine below_drewN ?_ _) | ((with_reducible refine Below.setCell ?_ (p := ⟨_, _, _⟩) ?_ _); rotate_left; (simp <;> omega)) | ((with_reducible refine Below.alloc ?_ ?_ _); rotate_left; (simp <;> omega)) | ((with_reducible refine Below.trans ?_ (Below.mono (by with_reducible assumption) ?_)); rotate_left; (simp <;> omega))))

theorem Bk.row {w : World} {g : Nat} {t : TypeId} {cs : Array Value} (h : Bk w g t cs) (cs' : Array Value) : Bk (w.setRow g cs') g t cs' := by
  unfold Bk at h ⊢
  simp [World.setRow, Array.getElem?_modify, h]
theorem Bk.rowFar {w : World} {g g' : Nat} {t : TypeId} {cs : Array Value} (h : Bk w g t cs) (hne : g' ≠ g) (cs' : Array Value) : Bk (w.setRow g' cs') g t cs := by
  unfold Bk at h ⊢
  simp [World.setRow, Array.getElem?_modify, h, hne]
theorem below_row {B g : Nat} {a w : World} (h : Below B a w) (hg : B ≤ g) (cs : Array Value) : Below B a (w.setRow g cs) :=
  h.trans ⟨rfl, rfl, rfl, by simp [World.setRow], fun k hk => by
    simp only [World.setRow, Array.getElem?_modify]
    rw [if_neg (by omega)]⟩
theorem Bk.drewN {w : World} {g : Nat} {t : TypeId} {cs : Array Value} (h : Bk w g t cs) (n : Nat) : Bk (w.drewN n) g t cs := h
theorem below_drewN {B : Nat} {a w : World} (h : Below B a w) (n : Nat) : Below B a (w.drewN n) := h.trans ⟨rfl, rfl, rfl, Nat.le_refl _, fun _ _ => rfl⟩
theorem sum5 {a b c d e s1 s2 s3 s4 : Nat} (h1 : (a + b) % 4294967296 = s1) (h2 : (s1 + c) % 4294967296 = s2) (h3 : (s2 + d) % 4294967296 = s3) (h4 : (s3 + e) % 4294967296 = s4) : (a + b + c + d + e) % 4294967296 = s4 := by omega
theorem gd_addW {h v : List Nat} {i : Nat} (hi : i < h.length) : gd (addW h v i ++ h.drop i) i = gd h i := by
  rw [gd_append_right (by rw [addW_length]; omega), addW_length, gd_drop]
  congr 1; omega
theorem set_addW {h v : List Nat} {i y : Nat} (hi : i < h.length) (hy : (gd h i + gd v i) % 4294967296 = y) : (addW h v i ++ h.drop i).set i y = addW h v (i + 1) ++ h.drop (i + 1) := by
  rw [addW_succ, hy, List.set_append_right _ _ (by rw [addW_length]; omega), addW_length, Nat.sub_self, List.drop_eq_getElem_cons hi, List.set_cons_zero, List.append_assoc]
  rfl
theorem eight_info : (Try.prog.info? 42).map (·.size) = some 8 := by kernel_rfl
theorem u32w {x : Nat} (h : x < 4294967296) : IntKind.u32.wrap (x : Int) = (x : Int) := by rw [IntKind.wrap_u32]; omega
theorem or_sum {a b : Nat} (i : Nat) (hb : b < 2 ^ i) (ha : a % 2 ^ i = 0) (hs : a + b < 4294967296) : Go.bits .or .u32 (a : Int) (b : Int) = ((a + b : Nat) : Int) := by
  rw [u32_or_nat _ _ (by omega) (by omega), or_apart hb ha]
theorem be4_sum {b0 b1 b2 b3 v0 v1 v2 y1 y2 y3 : Nat} (hv0 : b0 * 16777216 = v0) (hv1 : b1 * 65536 = v1) (hv2 : b2 * 256 = v2) (h1 : v0 + v1 = y1) (h2 : y1 + v2 = y2) (h3 : y2 + b3 = y3) (q0 : b0 < 256) (q1 : b1 < 256) (q2 : b2 < 256) (q3 : b3 < 256) : b0 * 16777216 + b1 * 65536 + b2 * 256 + b3 = y3 ∧ y3 < 4294967296 := by omega
theorem take_set_succ {xs : List Nat} {t y : Nat} (h : t < xs.length) : (xs.set t y).take (t + 1) = xs.take t ++ [y] := by
  rw [List.take_succ_eq_append_getElem (by rw [List.length_set]; exact h), List.take_set_of_le (Nat.le_refl t), List.getElem_set_self]
theorem B32.replicate (n : Nat) : B32 (List.replicate n 0) := fun x hx => by rw [List.eq_of_mem_replicate hx]; omega
theorem sum4 {a b c d s1 s2 s3 : Nat} (h1 : (a + b) % 4294967296 = s1) (h2 : (s1 + c) % 4294967296 = s2) (h3 : (s2 + d) % 4294967296 = s3) : s3 = (a + b + c + d) % 4294967296 := by omega
theorem nextW_take {xs : List Nat} {t : Nat} (h : 16 ≤ t) (hl : t ≤ xs.length) : nextW (xs.take t) t = nextW xs t := by
  unfold nextW
  rw [gd_take (by omega), gd_take (by omega), gd_take (by omega), gd_take (by omega)]
theorem sched_next {ws xs : List Nat} {t : Nat} (hw : ws.length = 16) (h : 16 ≤ t) (hlt : t < 64) (hl : xs.length = 64) (htk : xs.take t = sched (t - 16) ws) (y : Nat) (hy : y = nextW xs t) : (xs.set t y).take (t + 1) = sched (t + 1 - 16) ws := by
  have hs : (sched (t - 16) ws).length = t := by rw [sched_length]; omega
  have e : sched (t - 16 + 1) ws = sched (t - 16) ws ++ [nextW (sched (t - 16) ws) (sched (t - 16) ws).length] := rfl
  rw [take_set_succ (by omega), show t + 1 - 16 = t - 16 + 1 by omega, e, hs, ← htk, nextW_take h (by omega), hy]
theorem turn_q {x n r : Nat} (z : Int) (hz : z = (n : Int)) (hx : x < 4294967296) (hn : 0 < n) (hn2 : n < 32) (hr : rot x n = r) (W : World) :
    Calls Try.prog 66 #[.int .u32 x, .int .i64 z] W fun e w' => e = .returned (.int .u32 ((r : Nat) : Int)) ∧ w' = W := by subst hr; exact turn_any W z hz hx hn hn2
theorem va_eight {l : List Nat} (h : l.length = 8) : va .u32 l = #[.int .u32 (gd l 0 : Int), .int .u32 (gd l 1 : Int), .int .u32 (gd l 2 : Int), .int .u32 (gd l 3 : Int), .int .u32 (gd l 4 : Int), .int .u32 (gd l 5 : Int), .int .u32 (gd l 6 : Int), .int .u32 (gd l 7 : Int)] := by
  match l, h with
  | [_, _, _, _, _, _, _, _], _ => rfl
theorem not_u32 {e n : Nat} (h : e < 4294967296) (hn : 4294967295 - e = n) : Go.bits .xor .u32 (if IntKind.u32.signed = true then -1 else IntKind.u32.max) (e : Int) = (n : Int) := by
  have e1 : (if IntKind.u32.signed = true then -1 else IntKind.u32.max) = ((4294967295 : Nat) : Int) := rfl
  rw [e1, u32_xor_nat _ _ (by omega) h, ← hn]
  congr 1
  have h2 : (BitVec.allOnes 32 ^^^ BitVec.ofNat 32 e).toNat = 4294967295 - e := by
    rw [BitVec.allOnes_xor, BitVec.toNat_not, BitVec.toNat_ofNat, Nat.mod_eq_of_lt (by omega)]
  rw [← h2, BitVec.toNat_xor, BitVec.toNat_allOnes, BitVec.toNat_ofNat, Nat.mod_eq_of_lt (by omega)]
theorem quiet_add_same {P : Program} {f : FuncId} {args : Array Value} {w : World} {a n : Nat} {v : Value}
    (h : Calls P f args (w.drewN (a + n)) fun e w' => e = .returned v ∧ w' = w.drewN (a + n)) :
    Calls P f args (w.drewN (a + n)) fun e w'' => e = .returned v ∧ ∃ m, w'' = w.drewN (a + m) :=
  h.mono fun _ _ ⟨he, hm⟩ => ⟨he, n, hm⟩
set_option maxRecDepth 100000 in
set_option maxHeartbeats 20000000 in
theorem block_any (w : World) {B : Option Addr} {d : Nat} {h p : List Nat} (hb : B32 h) (hl : h.length = 8) (hp : Rd .u8 w B 64 d p) (p8 : B8 p) :
    Calls Try.prog 57 #[.agg (va .u32 h), .slice B 64 d] w fun e w' => e = .returned (.agg (va .u32 (blockN h p))) ∧ Below w.heap.size w w' := by
  have HB := Lib.hid hb
  have HL := Lib.hid hl
  have HP := Lib.hid hp
  have P8 := Lib.hid p8
  clear hb hl hp p8
  go_enter Try.func57, Try.ntmps57
  go_upto_block 0 with (fail)
  rw [zeros64]
  generalize hW : (((w.alloc (.cells (va .u32 h) 42)).alloc _).alloc (.cells (va .u32 (List.replicate 64 0)) 82)) = w3
  have hs3 : w3.heap.size = w.heap.size + 3 := by rw [← hW]; simp
  have bel3 : Below w.heap.size w w3 := by rw [← hW]; (repeat (first | (with_reducible exact Below.refl _ _) | (with_reducible assumption) | (with_reducible refine Below.drew ?_) | (with_reducible refine below_drewN ?_ _) | ((with_reducible refine Below.setCell ?_ (p := ⟨_, _, _⟩) ?_ _); rotate_left; (simp <;> omega)) | ((with_reducible refine Below.alloc ?_ ?_ _); rotate_left; (simp <;> omega)) | ((with_reducible refine Below.trans ?_ (Below.mono (by with_reducible assumption) ?_)); rotate_left; (simp <;> omega))))
  have B2 : Bk w3 w.heap.size 42 (va .u32 h) := by rw [← hW]; exact ((Bk.new _ _ _).alloc _).alloc _
  have B4 : ∃ cs : Array Value, cs.size = 8 ∧ Bk w3 (w.heap.size + 1) 42 cs := ⟨_, rfl, by rw [← hW]; exact (Bk.at_new _ _ (by simp)).alloc _⟩
  have B5 : Bk w3 (w.heap.size + 1 + 1) 82 (va .u32 (List.replicate 64 0)) := by rw [← hW]; exact Bk.at_new _ _ (by simp)
  clear hW
  have HB2 := Lib.hid B2
  have HB4 := Lib.hid B4
  have HB5 := Lib.hid B5
  have HBL3 := Lib.hid bel3
  clear B2 B4 B5 bel3
  go_wp2_with fail
  go_loopw [18] (fun i wr => ∃ (t : Nat) (xs : List Nat), t ≤ 16 ∧ i = .int .i64 (t : Int) ∧ xs.length = 64 ∧ B32 xs ∧ xs.take t = (w16 p).take t ∧ Bk wr (w.heap.size + 1 + 1) 82 (va .u32 xs) ∧ Below (w.heap.size + 2) w3 wr) (fun i _ => 16 - (intOf i).toNat)
  case atStart => exact ⟨0, List.replicate 64 0, by omega, rfl, by simp, B32.replicate 64, rfl, HB5.out, Below.refl _ _⟩
  case round =>
    obtain ⟨t, xs, ht, rfl, hxl, hxb, htk, hbk, hbel⟩ := hrel
    have HXL := Lib.hid hxl
    have HXB := Lib.hid hxb
    have HTK := Lib.hid htk
    have HBK := Lib.hid hbk
    have HBEL := Lib.hid hbel
    have hw3 := hbel.size
    clear hxl hxb htk hbk
    by_cases hlt : t < 16
    ·
      -- <A>
      obtain ⟨ad, rfl, hab, hac⟩ := (HP.out.below (HBL3.out.trans (hbel.mono (by omega)))).form (by omega)
      obtain ⟨j0, hj0⟩ : ∃ j, 4 * t = j := ⟨_, rfl⟩
      obtain ⟨j1, hj1⟩ : ∃ j, 4 * t + 1 = j := ⟨_, rfl⟩
      obtain ⟨j2, hj2⟩ : ∃ j, 4 * t + 2 = j := ⟨_, rfl⟩
      obtain ⟨j3, hj3⟩ : ∃ j, 4 * t + 3 = j := ⟨_, rfl⟩
      have c0 := hac j0 (by omega)
      have q0 := P8.out.gd j0
      obtain ⟨b0, e0⟩ : ∃ b, gd p j0 = b := ⟨_, rfl⟩
      rw [e0] at c0 q0
      have c1 := hac j1 (by omega)
      have q1 := P8.out.gd j1
      obtain ⟨b1, e1⟩ : ∃ b, gd p j1 = b := ⟨_, rfl⟩
      rw [e1] at c1 q1
      have c2 := hac j2 (by omega)
      have q2 := P8.out.gd j2
      obtain ⟨b2, e2⟩ : ∃ b, gd p j2 = b := ⟨_, rfl⟩
      rw [e2] at c2 q2
      have c3 := hac j3 (by omega)
      have q3 := P8.out.gd j3
      obtain ⟨b3, e3⟩ : ∃ b, gd p j3 = b := ⟨_, rfl⟩
      rw [e3] at c3 q3
      have HE := Lib.hid (show be4 p t = b0 * 16777216 + b1 * 65536 + b2 * 256 + b3 by unfold be4; rw [hj3, hj2, hj1, hj0, e0, e1, e2, e3])
      have i0 : IntKind.i64.wrap ((4 : Int) * (t : Int)) = (4 : Int) * (t : Int) := IntWalk.i64_in _ (by omega)
      have i1 : IntKind.i64.wrap ((4 : Int) * (t : Int) + 1) = (4 : Int) * (t : Int) + 1 := IntWalk.i64_in _ (by omega)
      have i2 : IntKind.i64.wrap ((4 : Int) * (t : Int) + 2) = (4 : Int) * (t : Int) + 2 := IntWalk.i64_in _ (by omega)
      have i3 : IntKind.i64.wrap ((4 : Int) * (t : Int) + 3) = (4 : Int) * (t : Int) + 3 := IntWalk.i64_in _ (by omega)
      have n0 : ((4 : Int) * (t : Int)).toNat = j0 := by omega
      have z0 : (0 : Int) ≤ 4 * (t : Int) := by omega
      have s0 : (4 : Int) * (t : Int) < 64 := by omega
      have n1 : ((4 : Int) * (t : Int) + 1).toNat = j1 := by omega
      have z1 : (0 : Int) ≤ 4 * (t : Int) + 1 := by omega
      have s1 : (4 : Int) * (t : Int) + 1 < 64 := by omega
      have n2 : ((4 : Int) * (t : Int) + 2).toNat = j2 := by omega
      have z2 : (0 : Int) ≤ 4 * (t : Int) + 2 := by omega
      have s2 : (4 : Int) * (t : Int) + 2 < 64 := by omega
      have n3 : ((4 : Int) * (t : Int) + 3).toNat = j3 := by omega
      have z3 : (0 : Int) ≤ 4 * (t : Int) + 3 := by omega
      have s3 : (4 : Int) * (t : Int) + 3 < 64 := by omega
      have u0 : IntKind.u32.wrap (b0 : Int) = (b0 : Int) := u32w (by omega)
      have u1 : IntKind.u32.wrap (b1 : Int) = (b1 : Int) := u32w (by omega)
      have u2 : IntKind.u32.wrap (b2 : Int) = (b2 : Int) := u32w (by omega)
      have u3 : IntKind.u32.wrap (b3 : Int) = (b3 : Int) := u32w (by omega)
      obtain ⟨v0, hv0⟩ : ∃ v, b0 * 16777216 = v := ⟨_, rfl⟩
      obtain ⟨v1, hv1⟩ : ∃ v, b1 * 65536 = v := ⟨_, rfl⟩
      obtain ⟨v2, hv2⟩ : ∃ v, b2 * 256 = v := ⟨_, rfl⟩
      obtain ⟨y1, hy1⟩ : ∃ y, v0 + v1 = y := ⟨_, rfl⟩
      obtain ⟨y2, hy2⟩ : ∃ y, y1 + v2 = y := ⟨_, rfl⟩
      obtain ⟨y3, hy3⟩ : ∃ y, y2 + b3 = y := ⟨_, rfl⟩
      obtain ⟨hye, hy32⟩ := be4_sum hv0 hv1 hv2 hy1 hy2 hy3 q0 q1 q2 q3
      have HY := Lib.hid (HE.out.trans hye)
      clear hye
      have o1 : Go.bits .or .u32 (v0 : Int) (v1 : Int) = (y1 : Int) := by rw [← hy1]; exact or_sum 24 (by omega) (by omega) (by omega)
      have o2 : Go.bits .or .u32 (y1 : Int) (v2 : Int) = (y2 : Int) := by rw [← hy2]; exact or_sum 16 (by omega) (by omega) (by omega)
      have o3 : Go.bits .or .u32 (y2 : Int) (b3 : Int) = (y3 : Int) := by rw [← hy3]; exact or_sum 8 (by omega) (by omega) (by omega)
      have m0 : IntKind.u32.wrap ((b0 : Int) * 16777216) = (v0 : Int) := by rw [IntKind.wrap_u32]; clear o1 o2 o3; omega
      have m1 : IntKind.u32.wrap ((b1 : Int) * 65536) = (v1 : Int) := by rw [IntKind.wrap_u32]; clear o1 o2 o3 m0; omega
      have m2 : IntKind.u32.wrap ((b2 : Int) * 256) = (v2 : Int) := by rw [IntKind.wrap_u32]; clear o1 o2 o3 m0 m1; omega
      have HY32 := Lib.hid hy32
      have a1 : (t : Int) < 64 := by clear o1 o2 o3 m0 m1 m2; omega
      have a0 : (0 : Int) ≤ (t : Int) := by clear o1 o2 o3 m0 m1 m2; omega
      have a2 : ((t : Int)).toNat = t := by clear o1 o2 o3 m0 m1 m2; omega
      have HLT := Lib.hid hlt
      clear hac e0 e1 e2 e3 hbel hj0 hj1 hj2 hj3 hv0 hv1 hv2 hy1 hy2 hy3
      go_wp2_with fail
      go_still_tail 35, (by kernel_rfl)
      have hcell := HBK.out.cell t
      rw [va_at .u32 (by rw [HXL.out]; omega)] at hcell
      have hfr := HBK.out.frozen t
      go_wp2_with fail
      have hst := (HBK.out.set t (.int .u32 (y3 : Int))).drew
      rw [va_set] at hst
      refine ⟨⟨t + 1, xs.set t y3, by have := HLT.out; omega, by go_num, by rw [List.length_set]; exact HXL.out, HXB.out.set HY32.out, ?_, hst, (HBEL.out.setCell (p := ⟨w.heap.size + 1 + 1, t, none⟩) (by simp) _).drew⟩, by have := HLT.out; simp [intOf]; omega⟩
      have h1 := HLT.out
      rw [take_set_succ (by rw [HXL.out]; omega), HTK.out, List.take_succ_eq_append_getElem (by rw [w16_length]; omega)]
      congr 2
      rw [← HY.out]
      unfold w16
      rw [List.getElem_map, List.getElem_range]
      -- </A>
    · obtain rfl : t = 16 := by omega
      have hsch : xs.take 16 = sched 0 (w16 p) := by
        rw [HTK.out]; unfold sched; exact List.take_of_length_le (by rw [w16_length]; omega)
      have HSC := Lib.hid hsch
      clear hsch
      rw [show ((16 : Nat) : Int) = (16 : Int) from rfl]
      go_wp2_with fail
      go_loopw [7] (fun i wr => ∃ (t : Nat) (xs : List Nat), 16 ≤ t ∧ t ≤ 64 ∧ i = .int .i64 (t : Int) ∧ xs.length = 64 ∧ B32 xs ∧ xs.take t = sched (t - 16) (w16 p) ∧ Bk wr (w.heap.size + 1 + 1) 82 (va .u32 xs) ∧ Below (w.heap.size + 2) w3 wr) (fun i _ => 64 - (intOf i).toNat)
      case atStart => exact ⟨16, xs, by omega, by omega, rfl, HXL.out, HXB.out, HSC.out, HBK.out, HBEL.out⟩
      clear HXL HXB HTK HBK HBEL HSC hw3 hbel
      case round =>
        obtain ⟨t, xs, ht, ht2, rfl, hxl, hxb, htk, hbk, hbel⟩ := hrel
        have HXL := Lib.hid hxl
        have HXB := Lib.hid hxb
        have HTK := Lib.hid htk
        have HBK := Lib.hid hbk
        have HBEL := Lib.hid hbel
        have hw3 := hbel.size
        by_cases hlt : t < 64
        ·
          -- <B>
          have HNX := Lib.hid (sched_next (ws := w16 p) (xs := xs) (w16_length p) ht hlt hxl htk)
          have HSTEP := Lib.hid (nextW_take (xs := xs) ht (by omega : t ≤ xs.length))
          have cw1 := hbk.cell (t - 16)
          rw [va_at .u32 (by rw [hxl]; omega)] at cw1
          obtain ⟨w1, ew1⟩ : ∃ z, gd xs (t - 16) = z := ⟨_, rfl⟩
          obtain ⟨jw1, hjw1⟩ : ∃ z, t - 16 = z := ⟨_, rfl⟩
          have lw1 : w1 < 4294967296 := by rw [← ew1]; exact hxb.gd _
          rw [ew1, hjw1] at cw1
          have iw1 : IntKind.i64.wrap ((t : Int) - 16) = (t : Int) - 16 := IntWalk.i64_in _ (by omega)
          have nw1 : ((t : Int) - 16).toNat = jw1 := by omega
          have zw1 : (0 : Int) ≤ (t : Int) - 16 := by omega
          have sw1 : (t : Int) - 16 < 64 := by omega
          have yw1 : 16 ≤ (t : Int) := by omega
          have xw1 : (t : Int) < 64 + 16 := by omega
          have cx := hbk.cell (t - 15)
          rw [va_at .u32 (by rw [hxl]; omega)] at cx
          obtain ⟨x, ex⟩ : ∃ z, gd xs (t - 15) = z := ⟨_, rfl⟩
          obtain ⟨jx, hjx⟩ : ∃ z, t - 15 = z := ⟨_, rfl⟩
          have lx : x < 4294967296 := by rw [← ex]; exact hxb.gd _
          rw [ex, hjx] at cx
          have ix : IntKind.i64.wrap ((t : Int) - 15) = (t : Int) - 15 := IntWalk.i64_in _ (by omega)
          have nx : ((t : Int) - 15).toNat = jx := by omega
          have zx : (0 : Int) ≤ (t : Int) - 15 := by omega
          have sx : (t : Int) - 15 < 64 := by omega
          have yx : 15 ≤ (t : Int) := by omega
          have xx : (t : Int) < 64 + 15 := by omega
          have cw7 := hbk.cell (t - 7)
          rw [va_at .u32 (by rw [hxl]; omega)] at cw7
          obtain ⟨w7, ew7⟩ : ∃ z, gd xs (t - 7) = z := ⟨_, rfl⟩
          obtain ⟨jw7, hjw7⟩ : ∃ z, t - 7 = z := ⟨_, rfl⟩
          have lw7 : w7 < 4294967296 := by rw [← ew7]; exact hxb.gd _
          rw [ew7, hjw7] at cw7
          have iw7 : IntKind.i64.wrap ((t : Int) - 7) = (t : Int) - 7 := IntWalk.i64_in _ (by omega)
          have nw7 : ((t : Int) - 7).toNat = jw7 := by omega
          have zw7 : (0 : Int) ≤ (t : Int) - 7 := by omega
          have sw7 : (t : Int) - 7 < 64 := by omega
          have yw7 : 7 ≤ (t : Int) := by omega
          have xw7 : (t : Int) < 64 + 7 := by omega
          have cy := hbk.cell (t - 2)
          rw [va_at .u32 (by rw [hxl]; omega)] at cy
          obtain ⟨y, ey⟩ : ∃ z, gd xs (t - 2) = z := ⟨_, rfl⟩
          obtain ⟨jy, hjy⟩ : ∃ z, t - 2 = z := ⟨_, rfl⟩
          have ly : y < 4294967296 := by rw [← ey]; exact hxb.gd _
          rw [ey, hjy] at cy
          have iy : IntKind.i64.wrap ((t : Int) - 2) = (t : Int) - 2 := IntWalk.i64_in _ (by omega)
          have ny : ((t : Int) - 2).toNat = jy := by omega
          have zy : (0 : Int) ≤ (t : Int) - 2 := by omega
          have sy : (t : Int) - 2 < 64 := by omega
          have yy : 2 ≤ (t : Int) := by omega
          have xy : (t : Int) < 64 + 2 := by omega
          have HX := Lib.hid (show nextW xs t = (w1 + sg0 x + w7 + sg1 y) % 4294967296 by unfold nextW; rw [ew1, ex, ew7, ey])
          have a1 : (t : Int) < 64 := by omega
          have a0 : (0 : Int) ≤ (t : Int) := by omega
          clear hxl hxb htk hbk hbel ew1 ex ew7 ey
          obtain ⟨r7, er7⟩ : ∃ z, rot x 7 = z := ⟨_, rfl⟩
          have lr7 : r7 < 4294967296 := by rw [← er7]; exact rot_lt lx 7
          have Cr7 := Lib.hid (turn_q (n := 7) 7 rfl lx (by omega) (by omega) er7)
          have Er7 := Lib.hid er7
          clear er7
          obtain ⟨r18, er18⟩ : ∃ z, rot x 18 = z := ⟨_, rfl⟩
          have lr18 : r18 < 4294967296 := by rw [← er18]; exact rot_lt lx 18
          have Cr18 := Lib.hid (turn_q (n := 18) 18 rfl lx (by omega) (by omega) er18)
          have Er18 := Lib.hid er18
          clear er18
          obtain ⟨r17, er17⟩ : ∃ z, rot y 17 = z := ⟨_, rfl⟩
          have lr17 : r17 < 4294967296 := by rw [← er17]; exact rot_lt ly 17
          have Cr17 := Lib.hid (turn_q (n := 17) 17 rfl ly (by omega) (by omega) er17)
          have Er17 := Lib.hid er17
          clear er17
          obtain ⟨r19, er19⟩ : ∃ z, rot y 19 = z := ⟨_, rfl⟩
          have lr19 : r19 < 4294967296 := by rw [← er19]; exact rot_lt ly 19
          have Cr19 := Lib.hid (turn_q (n := 19) 19 rfl ly (by omega) (by omega) er19)
          have Er19 := Lib.hid er19
          clear er19
          obtain ⟨p1, ep1⟩ : ∃ z, r7 ^^^ r18 = z := ⟨_, rfl⟩
          have lp1 : p1 < 4294967296 := by rw [← ep1]; exact xor32 lr7 lr18
          have kp1 : Go.bits .xor .u32 (r7 : Int) (r18 : Int) = (p1 : Int) := by rw [← ep1]; exact u32_xor_nat _ _ lr7 lr18
          have Ep1 := Lib.hid ep1
          clear ep1
          obtain ⟨d1, ed1⟩ : ∃ z, x / 8 = z := ⟨_, rfl⟩
          have ld1 : d1 < 4294967296 := by rw [← ed1]; exact Nat.lt_of_le_of_lt (Nat.div_le_self _ _) lx
          have kd1 : (x : Int) / 8 = (d1 : Int) := by rw [← ed1]; rfl
          have Ed1 := Lib.hid ed1
          clear ed1
          obtain ⟨p2, ep2⟩ : ∃ z, p1 ^^^ d1 = z := ⟨_, rfl⟩
          have lp2 : p2 < 4294967296 := by rw [← ep2]; exact xor32 lp1 ld1
          have kp2 : Go.bits .xor .u32 (p1 : Int) (d1 : Int) = (p2 : Int) := by rw [← ep2]; exact u32_xor_nat _ _ lp1 ld1
          have Ep2 := Lib.hid ep2
          clear ep2
          obtain ⟨s1, es1⟩ : ∃ z, (w1 + p2) % 4294967296 = z := ⟨_, rfl⟩
          have ls1 : s1 < 4294967296 := by rw [← es1]; exact Nat.mod_lt _ (by omega)
          have ks1 : IntKind.u32.wrap ((w1 : Int) + (p2 : Int)) = (s1 : Int) := by rw [← es1]; exact add_u32 _ _
          have Es1 := Lib.hid es1
          clear es1
          obtain ⟨s2, es2⟩ : ∃ z, (s1 + w7) % 4294967296 = z := ⟨_, rfl⟩
          have ls2 : s2 < 4294967296 := by rw [← es2]; exact Nat.mod_lt _ (by omega)
          have ks2 : IntKind.u32.wrap ((s1 : Int) + (w7 : Int)) = (s2 : Int) := by rw [← es2]; exact add_u32 _ _
          have Es2 := Lib.hid es2
          clear es2
          obtain ⟨p3, ep3⟩ : ∃ z, r17 ^^^ r19 = z := ⟨_, rfl⟩
          have lp3 : p3 < 4294967296 := by rw [← ep3]; exact xor32 lr17 lr19
          have kp3 : Go.bits .xor .u32 (r17 : Int) (r19 : Int) = (p3 : Int) := by rw [← ep3]; exact u32_xor_nat _ _ lr17 lr19
          have Ep3 := Lib.hid ep3
          clear ep3
          obtain ⟨d2, ed2⟩ : ∃ z, y / 1024 = z := ⟨_, rfl⟩
          have ld2 : d2 < 4294967296 := by rw [← ed2]; exact Nat.lt_of_le_of_lt (Nat.div_le_self _ _) ly
          have kd2 : (y : Int) / 1024 = (d2 : Int) := by rw [← ed2]; rfl
          have Ed2 := Lib.hid ed2
          clear ed2
          obtain ⟨p4, ep4⟩ : ∃ z, p3 ^^^ d2 = z := ⟨_, rfl⟩
          have lp4 : p4 < 4294967296 := by rw [← ep4]; exact xor32 lp3 ld2
          have kp4 : Go.bits .xor .u32 (p3 : Int) (d2 : Int) = (p4 : Int) := by rw [← ep4]; exact u32_xor_nat _ _ lp3 ld2
          have Ep4 := Lib.hid ep4
          clear ep4
          obtain ⟨s3, es3⟩ : ∃ z, (s2 + p4) % 4294967296 = z := ⟨_, rfl⟩
          have ls3 : s3 < 4294967296 := by rw [← es3]; exact Nat.mod_lt _ (by omega)
          have ks3 : IntKind.u32.wrap ((s2 : Int) + (p4 : Int)) = (s3 : Int) := by rw [← es3]; exact add_u32 _ _
          have Es3 := Lib.hid es3
          clear es3
          have HV := Lib.hid (show s3 = nextW xs t by
            rw [HX.out]; unfold sg0 sg1
            rw [Er7.out, Er18.out, Er17.out, Er19.out, Ep1.out, Ed1.out, Ep2.out, Ep3.out, Ed2.out, Ep4.out]
            exact sum4 Es1.out Es2.out Es3.out)
          go_wp2_with fail
          go_still_tail 9, (by kernel_rfl)
          change wpList _ _ _ _ _ wr.drew
          go_wp2_with fail
          refine wp_region_still_tail 29 (by kernel_rfl) (by kernel_rfl) ?_
          simp only [List.take_succ_cons, List.take_zero, List.drop_succ_cons, List.drop_zero, World.drew_eq]
          repeat still_step
          still_call (Cr7.out _)
          repeat still_step
          still_call (Cr18.out _)
          repeat still_step
          still_call (Cr17.out _)
          repeat still_step
          still_call (Cr19.out _)
          repeat still_step
          refine wpStill_nil ?_
          have hcell := HBK.out.cell t
          rw [va_at .u32 (by rw [HXL.out]; omega)] at hcell
          have hfr := HBK.out.frozen t
          go_wp2_with fail
          have hst := (HBK.out.set t (.int .u32 (s3 : Int))).drew.drew
          rw [va_set] at hst
          refine ⟨⟨t + 1, xs.set t s3, Nat.le_succ_of_le ht, hlt, by go_num, by rw [List.length_set]; exact HXL.out, HXB.out.set ls3, HNX.out s3 HV.out, hst, ((HBEL.out.setCell (p := ⟨w.heap.size + 1 + 1, t, none⟩) (by simp) _).drew).drew⟩, by simp [intOf]; omega⟩
          -- </B>
        · obtain rfl : t = 64 := by omega
          obtain ⟨ws, hws⟩ : ∃ ws, sched 48 (w16 p) = ws := ⟨_, rfl⟩
          have hxw : xs = ws := by rw [← hws, ← htk, List.take_of_length_le (by omega)]
          subst hxw
          have HWS := Lib.hid hws
          clear htk hws
          rw [show ((64 : Nat) : Int) = (64 : Int) from rfl]
          go_upto_region 12 with (fail)
          refine wp_region_lit ?_
          refine wpl_call rfl (w' := wr) (f := 67) (args := #[]) (by kernel_rfl) (constants_any wr) ?_
          rintro e w5 ⟨rfl, hb5⟩
          refine ⟨_, rfl, ?_⟩
          have HST := Lib.hid (run_storeAt_new (P := Try.prog) w5 82 (va .u32 (List.replicate 64 0)) (va .u32 kN) (words_info.trans (by rfl)) (by rfl) (va_all _ _))
          refine wpl_val rfl (v := .pointer (some ⟨w5.heap.size, 0, none⟩)) (w' := w5.alloc (.cells (va .u32 (List.replicate 64 0)) 82)) (by kernel_rfl) ?_
          refine wpl_skip rfl (w' := w5.alloc (.cells (va .u32 kN) 82)) ?_ ?_
          · show (Instr.storeAt 82 (.pointer (some ⟨w5.heap.size, 0, none⟩)) (.agg (va .u32 kN)) >>= fun _ => pure Next.skip).run Try.prog _ = .ok Next.skip _
            rw [Sem.run_bind, HST.out]; rfl
          refine wpList_nil ?_
          clear HST
          have hs5 := hb5.size
          have bel5 : Below (w.heap.size + 2) w3 (w5.alloc (.cells (va .u32 kN) 82)) := (HBEL.out.trans (hb5.mono (by omega))).alloc (by omega) _
          have b2 : Bk (w5.alloc (.cells (va .u32 kN) 82)) w.heap.size 42 (va .u32 h) := HB2.out.below bel5 (by omega)
          have b5 : Bk (w5.alloc (.cells (va .u32 kN) 82)) (w.heap.size + 1 + 1) 82 (va .u32 xs) := (HBK.out.below hb5 (by omega)).alloc _
          have b10 : Bk (w5.alloc (.cells (va .u32 kN) 82)) w5.heap.size 82 (va .u32 kN) := Bk.new _ _ _
          generalize hw6 : w5.alloc (.cells (va .u32 kN) 82) = w6 at *
          have hs6 : w6.heap.size = w5.heap.size + 1 := by rw [← hw6]; simp
          obtain ⟨g10, hg10⟩ : ∃ g, w5.heap.size = g := ⟨_, rfl⟩
          rw [hg10] at b10 hs6 ⊢
          have c20 := (b2.cell 0).trans (va_at .u32 (by rw [HL.out]; omega))
          have c21 := (b2.cell 1).trans (va_at .u32 (by rw [HL.out]; omega))
          have c22 := (b2.cell 2).trans (va_at .u32 (by rw [HL.out]; omega))
          have c23 := (b2.cell 3).trans (va_at .u32 (by rw [HL.out]; omega))
          have c24 := (b2.cell 4).trans (va_at .u32 (by rw [HL.out]; omega))
          have c25 := (b2.cell 5).trans (va_at .u32 (by rw [HL.out]; omega))
          have c26 := (b2.cell 6).trans (va_at .u32 (by rw [HL.out]; omega))
          have c27 := (b2.cell 7).trans (va_at .u32 (by rw [HL.out]; omega))
          have HB5' := Lib.hid b5
          have HB2' := Lib.hid b2
          have HB10 := Lib.hid b10
          have HBL6 := Lib.hid bel5
          clear hw6 b5 b2 b10 bel5 HBK HBEL hb5
          go_wp2_with fail
          rw [← va_eight HL.out]
          generalize hw7 : w6.alloc (.cells (va .u32 h) 42) = w7
          have b11 : Bk w7 (g10 + 1) 42 (va .u32 h) := by rw [← hw7]; exact Bk.at_new _ _ (by omega)
          have bel7 : Below (g10 + 1) w6 w7 := by rw [← hw7]; exact (Below.refl _ _).alloc (by omega) _
          have hs7 : w7.heap.size = g10 + 1 + 1 := by rw [← hw7]; simp; omega
          have HB11 := Lib.hid b11
          have HBL7 := Lib.hid bel7
          clear hw7 b11 bel7 c20 c21 c22 c23 c24 c25 c26 c27
          go_loopw [100] (fun i wr => ∃ (t : Nat) (v : List Nat), t ≤ 64 ∧ i = .int .i64 (t : Int) ∧ v = rounds xs h t ∧ Bk wr (g10 + 1) 42 (va .u32 v) ∧ Below (g10 + 1) w7 wr) (fun i _ => 64 - (intOf i).toNat)
          case atStart => exact ⟨0, h, by omega, rfl, rfl, HB11.out, Below.refl _ _⟩
          case round =>
            obtain ⟨t, v, ht, rfl, hv, hbk, hbel⟩ := hrel
            have hvl : v.length = 8 := by rw [hv]; exact rounds_length HL.out t
            have hvb : B32 v := by rw [hv]; exact rounds_b32 HB.out t
            have HV := Lib.hid hv
            have HVL := Lib.hid hvl
            have HBK := Lib.hid hbk
            have HBEL := Lib.hid hbel
            have hsr := hbel.size
            clear hv
            by_cases hlt : t < 64
            ·
              -- <C>
              have hbw := HBL7.out.trans hbel
              have cv0 := (hbk.cell 0).trans (va_at .u32 (by rw [hvl]; omega))
              obtain ⟨v0, ev0⟩ : ∃ z, gd v 0 = z := ⟨_, rfl⟩
              have lv0 : v0 < 4294967296 := by rw [← ev0]; exact hvb.gd _
              rw [ev0] at cv0
              have Ev0 := Lib.hid ev0
              clear ev0
              have cv1 := (hbk.cell 1).trans (va_at .u32 (by rw [hvl]; omega))
              obtain ⟨v1, ev1⟩ : ∃ z, gd v 1 = z := ⟨_, rfl⟩
              have lv1 : v1 < 4294967296 := by rw [← ev1]; exact hvb.gd _
              rw [ev1] at cv1
              have Ev1 := Lib.hid ev1
              clear ev1
              have cv2 := (hbk.cell 2).trans (va_at .u32 (by rw [hvl]; omega))
              obtain ⟨v2, ev2⟩ : ∃ z, gd v 2 = z := ⟨_, rfl⟩
              have lv2 : v2 < 4294967296 := by rw [← ev2]; exact hvb.gd _
              rw [ev2] at cv2
              have Ev2 := Lib.hid ev2
              clear ev2
              have cv3 := (hbk.cell 3).trans (va_at .u32 (by rw [hvl]; omega))
              obtain ⟨v3, ev3⟩ : ∃ z, gd v 3 = z := ⟨_, rfl⟩
              have lv3 : v3 < 4294967296 := by rw [← ev3]; exact hvb.gd _
              rw [ev3] at cv3
              have Ev3 := Lib.hid ev3
              clear ev3
              have cv4 := (hbk.cell 4).trans (va_at .u32 (by rw [hvl]; omega))
              obtain ⟨v4, ev4⟩ : ∃ z, gd v 4 = z := ⟨_, rfl⟩
              have lv4 : v4 < 4294967296 := by rw [← ev4]; exact hvb.gd _
              rw [ev4] at cv4
              have Ev4 := Lib.hid ev4
              clear ev4
              have cv5 := (hbk.cell 5).trans (va_at .u32 (by rw [hvl]; omega))
              obtain ⟨v5, ev5⟩ : ∃ z, gd v 5 = z := ⟨_, rfl⟩
              have lv5 : v5 < 4294967296 := by rw [← ev5]; exact hvb.gd _
              rw [ev5] at cv5
              have Ev5 := Lib.hid ev5
              clear ev5
              have cv6 := (hbk.cell 6).trans (va_at .u32 (by rw [hvl]; omega))
              obtain ⟨v6, ev6⟩ : ∃ z, gd v 6 = z := ⟨_, rfl⟩
              have lv6 : v6 < 4294967296 := by rw [← ev6]; exact hvb.gd _
              rw [ev6] at cv6
              have Ev6 := Lib.hid ev6
              clear ev6
              have cv7 := (hbk.cell 7).trans (va_at .u32 (by rw [hvl]; omega))
              obtain ⟨v7, ev7⟩ : ∃ z, gd v 7 = z := ⟨_, rfl⟩
              have lv7 : v7 < 4294967296 := by rw [← ev7]; exact hvb.gd _
              rw [ev7] at cv7
              have Ev7 := Lib.hid ev7
              clear ev7
              have ck := ((HB10.out.below hbw (by omega)).cell t).trans (va_at .u32 (by show t < 64; exact hlt))
              obtain ⟨kt, ekt⟩ : ∃ z, gd kN t = z := ⟨_, rfl⟩
              have lkt : kt < 4294967296 := by rw [← ekt]; exact kN_b32.gd t
              rw [ekt] at ck
              have cw := ((HB5'.out.below hbw (by omega)).cell t).trans (va_at .u32 (by rw [HXL.out]; exact hlt))
              obtain ⟨wt, ewt⟩ : ∃ z, gd xs t = z := ⟨_, rfl⟩
              have lwt : wt < 4294967296 := by rw [← ewt]; exact HXB.out.gd t
              rw [ewt] at cw
              have a1 : (t : Int) < 64 := by omega
              have a0 : (0 : Int) ≤ (t : Int) := by omega
              obtain ⟨r6, er6⟩ : ∃ z, rot v4 6 = z := ⟨_, rfl⟩
              have lr6 : r6 < 4294967296 := by rw [← er6]; exact rot_lt lv4 6
              have Cr6 := Lib.hid (turn_q (n := 6) 6 rfl lv4 (by omega) (by omega) er6)
              have Er6 := Lib.hid er6
              clear er6
              obtain ⟨r11, er11⟩ : ∃ z, rot v4 11 = z := ⟨_, rfl⟩
              have lr11 : r11 < 4294967296 := by rw [← er11]; exact rot_lt lv4 11
              have Cr11 := Lib.hid (turn_q (n := 11) 11 rfl lv4 (by omega) (by omega) er11)
              have Er11 := Lib.hid er11
              clear er11
              obtain ⟨r25, er25⟩ : ∃ z, rot v4 25 = z := ⟨_, rfl⟩
              have lr25 : r25 < 4294967296 := by rw [← er25]; exact rot_lt lv4 25
              have Cr25 := Lib.hid (turn_q (n := 25) 25 rfl lv4 (by omega) (by omega) er25)
              have Er25 := Lib.hid er25
              clear er25
              obtain ⟨r2, er2⟩ : ∃ z, rot v0 2 = z := ⟨_, rfl⟩
              have lr2 : r2 < 4294967296 := by rw [← er2]; exact rot_lt lv0 2
              have Cr2 := Lib.hid (turn_q (n := 2) 2 rfl lv0 (by omega) (by omega) er2)
              have Er2 := Lib.hid er2
              clear er2
              obtain ⟨r13, er13⟩ : ∃ z, rot v0 13 = z := ⟨_, rfl⟩
              have lr13 : r13 < 4294967296 := by rw [← er13]; exact rot_lt lv0 13
              have Cr13 := Lib.hid (turn_q (n := 13) 13 rfl lv0 (by omega) (by omega) er13)
              have Er13 := Lib.hid er13
              clear er13
              obtain ⟨r22, er22⟩ : ∃ z, rot v0 22 = z := ⟨_, rfl⟩
              have lr22 : r22 < 4294967296 := by rw [← er22]; exact rot_lt lv0 22
              have Cr22 := Lib.hid (turn_q (n := 22) 22 rfl lv0 (by omega) (by omega) er22)
              have Er22 := Lib.hid er22
              clear er22
              obtain ⟨q1, eq1⟩ : ∃ z, r6 ^^^ r11 = z := ⟨_, rfl⟩
              have lq1 : q1 < 4294967296 := by rw [← eq1]; exact xor32 lr6 lr11
              have kq1 : Go.bits .xor .u32 (r6 : Int) (r11 : Int) = (q1 : Int) := by rw [← eq1]; exact u32_xor_nat _ _ lr6 lr11
              have Eq1 := Lib.hid eq1
              clear eq1
              obtain ⟨q2, eq2⟩ : ∃ z, q1 ^^^ r25 = z := ⟨_, rfl⟩
              have lq2 : q2 < 4294967296 := by rw [← eq2]; exact xor32 lq1 lr25
              have kq2 : Go.bits .xor .u32 (q1 : Int) (r25 : Int) = (q2 : Int) := by rw [← eq2]; exact u32_xor_nat _ _ lq1 lr25
              have Eq2 := Lib.hid eq2
              clear eq2
              obtain ⟨s1, es1⟩ : ∃ z, (v7 + q2) % 4294967296 = z := ⟨_, rfl⟩
              have ls1 : s1 < 4294967296 := by rw [← es1]; exact Nat.mod_lt _ (by omega)
              have ks1 : IntKind.u32.wrap ((v7 : Int) + (q2 : Int)) = (s1 : Int) := by rw [← es1]; exact add_u32 _ _
              have Es1 := Lib.hid es1
              clear es1
              obtain ⟨f1, ef1⟩ : ∃ z, v4 &&& v5 = z := ⟨_, rfl⟩
              have lf1 : f1 < 4294967296 := by rw [← ef1]; exact and32 lv4
              have kf1 : Go.bits .and .u32 (v4 : Int) (v5 : Int) = (f1 : Int) := by rw [← ef1]; exact u32_and_nat _ _ lv4 lv5
              have Ef1 := Lib.hid ef1
              clear ef1
              obtain ⟨ne, ene⟩ : ∃ z, 4294967295 - v4 = z := ⟨_, rfl⟩
              have lne : ne < 4294967296 := by rw [← ene]; exact Nat.lt_of_le_of_lt (Nat.sub_le _ _) (by omega)
              have kne := not_u32 lv4 ene
              obtain ⟨f2, ef2⟩ : ∃ z, ne &&& v6 = z := ⟨_, rfl⟩
              have lf2 : f2 < 4294967296 := by rw [← ef2]; exact and32 lne
              have kf2 : Go.bits .and .u32 (ne : Int) (v6 : Int) = (f2 : Int) := by rw [← ef2]; exact u32_and_nat _ _ lne lv6
              have Ef2 := Lib.hid ef2
              clear ef2
              obtain ⟨f3, ef3⟩ : ∃ z, f1 ^^^ f2 = z := ⟨_, rfl⟩
              have lf3 : f3 < 4294967296 := by rw [← ef3]; exact xor32 lf1 lf2
              have kf3 : Go.bits .xor .u32 (f1 : Int) (f2 : Int) = (f3 : Int) := by rw [← ef3]; exact u32_xor_nat _ _ lf1 lf2
              have Ef3 := Lib.hid ef3
              clear ef3
              obtain ⟨s2, es2⟩ : ∃ z, (s1 + f3) % 4294967296 = z := ⟨_, rfl⟩
              have ls2 : s2 < 4294967296 := by rw [← es2]; exact Nat.mod_lt _ (by omega)
              have ks2 : IntKind.u32.wrap ((s1 : Int) + (f3 : Int)) = (s2 : Int) := by rw [← es2]; exact add_u32 _ _
              have Es2 := Lib.hid es2
              clear es2
              obtain ⟨s3, es3⟩ : ∃ z, (s2 + kt) % 4294967296 = z := ⟨_, rfl⟩
              have ls3 : s3 < 4294967296 := by rw [← es3]; exact Nat.mod_lt _ (by omega)
              have ks3 : IntKind.u32.wrap ((s2 : Int) + (kt : Int)) = (s3 : Int) := by rw [← es3]; exact add_u32 _ _
              have Es3 := Lib.hid es3
              clear es3
              obtain ⟨X, eX⟩ : ∃ z, (s3 + wt) % 4294967296 = z := ⟨_, rfl⟩
              have lX : X < 4294967296 := by rw [← eX]; exact Nat.mod_lt _ (by omega)
              have kX : IntKind.u32.wrap ((s3 : Int) + (wt : Int)) = (X : Int) := by rw [← eX]; exact add_u32 _ _
              have EX := Lib.hid eX
              clear eX
              obtain ⟨q3, eq3⟩ : ∃ z, r2 ^^^ r13 = z := ⟨_, rfl⟩
              have lq3 : q3 < 4294967296 := by rw [← eq3]; exact xor32 lr2 lr13
              have kq3 : Go.bits .xor .u32 (r2 : Int) (r13 : Int) = (q3 : Int) := by rw [← eq3]; exact u32_xor_nat _ _ lr2 lr13
              have Eq3 := Lib.hid eq3
              clear eq3
              obtain ⟨q4, eq4⟩ : ∃ z, q3 ^^^ r22 = z := ⟨_, rfl⟩
              have lq4 : q4 < 4294967296 := by rw [← eq4]; exact xor32 lq3 lr22
              have kq4 : Go.bits .xor .u32 (q3 : Int) (r22 : Int) = (q4 : Int) := by rw [← eq4]; exact u32_xor_nat _ _ lq3 lr22
              have Eq4 := Lib.hid eq4
              clear eq4
              obtain ⟨m1, em1⟩ : ∃ z, v0 &&& v1 = z := ⟨_, rfl⟩
              have lm1 : m1 < 4294967296 := by rw [← em1]; exact and32 lv0
              have km1 : Go.bits .and .u32 (v0 : Int) (v1 : Int) = (m1 : Int) := by rw [← em1]; exact u32_and_nat _ _ lv0 lv1
              have Em1 := Lib.hid em1
              clear em1
              obtain ⟨m2, em2⟩ : ∃ z, v0 &&& v2 = z := ⟨_, rfl⟩
              have lm2 : m2 < 4294967296 := by rw [← em2]; exact and32 lv0
              have km2 : Go.bits .and .u32 (v0 : Int) (v2 : Int) = (m2 : Int) := by rw [← em2]; exact u32_and_nat _ _ lv0 lv2
              have Em2 := Lib.hid em2
              clear em2
              obtain ⟨m12, em12⟩ : ∃ z, m1 ^^^ m2 = z := ⟨_, rfl⟩
              have lm12 : m12 < 4294967296 := by rw [← em12]; exact xor32 lm1 lm2
              have km12 : Go.bits .xor .u32 (m1 : Int) (m2 : Int) = (m12 : Int) := by rw [← em12]; exact u32_xor_nat _ _ lm1 lm2
              have Em12 := Lib.hid em12
              clear em12
              obtain ⟨m3, em3⟩ : ∃ z, v1 &&& v2 = z := ⟨_, rfl⟩
              have lm3 : m3 < 4294967296 := by rw [← em3]; exact and32 lv1
              have km3 : Go.bits .and .u32 (v1 : Int) (v2 : Int) = (m3 : Int) := by rw [← em3]; exact u32_and_nat _ _ lv1 lv2
              have Em3 := Lib.hid em3
              clear em3
              obtain ⟨m4, em4⟩ : ∃ z, m12 ^^^ m3 = z := ⟨_, rfl⟩
              have lm4 : m4 < 4294967296 := by rw [← em4]; exact xor32 lm12 lm3
              have km4 : Go.bits .xor .u32 (m12 : Int) (m3 : Int) = (m4 : Int) := by rw [← em4]; exact u32_xor_nat _ _ lm12 lm3
              have Em4 := Lib.hid em4
              clear em4
              obtain ⟨Y, eY⟩ : ∃ z, (q4 + m4) % 4294967296 = z := ⟨_, rfl⟩
              have lY : Y < 4294967296 := by rw [← eY]; exact Nat.mod_lt _ (by omega)
              have kY : IntKind.u32.wrap ((q4 : Int) + (m4 : Int)) = (Y : Int) := by rw [← eY]; exact add_u32 _ _
              have EY := Lib.hid eY
              clear eY
              obtain ⟨n0, en0⟩ : ∃ z, (X + Y) % 4294967296 = z := ⟨_, rfl⟩
              have ln0 : n0 < 4294967296 := by rw [← en0]; exact Nat.mod_lt _ (by omega)
              have kn0 : IntKind.u32.wrap ((X : Int) + (Y : Int)) = (n0 : Int) := by rw [← en0]; exact add_u32 _ _
              have En0 := Lib.hid en0
              clear en0
              obtain ⟨n4, en4⟩ : ∃ z, (v3 + X) % 4294967296 = z := ⟨_, rfl⟩
              have ln4 : n4 < 4294967296 := by rw [← en4]; exact Nat.mod_lt _ (by omega)
              have kn4 : IntKind.u32.wrap ((v3 : Int) + (X : Int)) = (n4 : Int) := by rw [← en4]; exact add_u32 _ _
              have En4 := Lib.hid en4
              clear en4
              have HLT := Lib.hid hlt
              have ENE := Lib.hid ene
              have EKT := Lib.hid ekt
              have EWT := Lib.hid ewt
              clear hvl hvb hbk hbel hbw hlt ene ekt ewt
              go_wp2_with fail
              go_quiet (fail)
              go_wp2_with fail
              refine wp_region_quiet_lit (by kernel_rfl) (by kernel_rfl) ?_
              iterate 3 quiet_step (fail)
              quiet_step ((go_at_call 66; exact quiet_add_same (Cr6.out _)))
              quiet_step (fail)
              quiet_step ((go_at_call 66; exact quiet_add_same (Cr11.out _)))
              iterate 2 quiet_step (fail)
              quiet_step ((go_at_call 66; exact quiet_add_same (Cr25.out _)))
              repeat quiet_step (fail)
              refine wpQuiet_nil ?_
              intro _ hw'
              obtain ⟨nq2, hw''⟩ := hw'
              subst hw''
              rw [World.drewN_drewN]
              generalize hn2 : nq + nq2 = n2
              clear hn2
              go_wp2_with fail
              refine wp_region_quiet_lit (by kernel_rfl) (by kernel_rfl) ?_
              quiet_step (fail)
              quiet_step ((go_at_call 66; exact quiet_add_same (Cr2.out _)))
              quiet_step (fail)
              quiet_step ((go_at_call 66; exact quiet_add_same (Cr13.out _)))
              iterate 2 quiet_step (fail)
              quiet_step ((go_at_call 66; exact quiet_add_same (Cr22.out _)))
              repeat quiet_step (fail)
              refine wpQuiet_nil ?_
              intro _ hw'
              obtain ⟨nq3, hw''⟩ := hw'
              subst hw''
              rw [World.drewN_drewN]
              generalize hn3 : n2 + nq3 = n3
              clear hn3
              have HRND := Lib.hid (show [n0, v0, v1, v2, n4, v4, v5, v6] = rounds xs h (t + 1) by
                show _ = rnd (rounds xs h t) (gd kN t) (gd xs t)
                rw [← HV.out, EKT.out, EWT.out]
                unfold rnd rndX rndY bg1 bg0 chN mjN
                rw [Ev0.out, Ev1.out, Ev2.out, Ev3.out, Ev4.out, Ev5.out, Ev6.out, Ev7.out, Er6.out, Er11.out, Er25.out, Eq1.out, Eq2.out, Ef1.out, ENE.out, Ef2.out, Ef3.out, sum5 Es1.out Es2.out Es3.out EX.out, Er2.out, Er13.out, Eq3.out, Er22.out, Eq4.out, Em1.out, Em2.out, Em12.out, Em3.out, Em4.out, EY.out, En0.out, En4.out])
              clear Cr6 Cr11 Cr25 Cr2 Cr13 Cr22
              go_upto_region 20 with (fail)
              refine wp_region_lit ?_
              iterate 20 (refine wpList_plain rfl (fun K hK => ?_); go_simp; refine hK _ _ ?_; clear hK K)
              refine wpList_store_row rfl 42 _ _ rfl (g10 + 1) (va .u32 [n0, v0, v1, v2, n4, v4, v5, v6]) (by kernel_rfl) (by kernel_rfl) 42 (va .u32 v) (HBK.out.drewN n3) eight_info (by rw [va_size, HVL.out]; rfl) (va_all _ _) ?_
              refine wpList_nil ?_
              have hst := (HBK.out.drewN n3).row (va .u32 [n0, v0, v1, v2, n4, v4, v5, v6])
              have hbl := below_row (below_drewN HBEL.out n3) (Nat.le_refl _) (va .u32 [n0, v0, v1, v2, n4, v4, v5, v6])
              generalize hwq : (wr.drewN n3).setRow (g10 + 1) (va .u32 [n0, v0, v1, v2, n4, v4, v5, v6]) = wq at hst hbl ⊢
              clear hwq
              go_wp2_with fail
              have hlt := HLT.out
              exact ⟨⟨t + 1, [n0, v0, v1, v2, n4, v4, v5, v6], hlt, by go_num, HRND.out, hst, hbl⟩, by simp [intOf]; omega⟩
              -- </C>
            · obtain rfl : t = 64 := by omega
              -- <D>
              rw [show ((64 : Nat) : Int) = (64 : Int) from rfl]
              have B2r := Lib.hid (HB2'.out.below (HBL7.out.trans hbel) (by omega))
              have B4r := Lib.hid ((show ∃ cs : Array Value, cs.size = 8 ∧ Bk wr (w.heap.size + 1) 42 cs from by
                obtain ⟨cs, hcs, hb4⟩ := HB4.out
                exact ⟨cs, hcs, (hb4.below HBL6.out (by omega)).below (HBL7.out.trans hbel) (by omega)⟩))
              have hblr := Lib.hid ((HBL3.out.trans (HBL6.out.mono (by omega))).trans ((HBL7.out.trans hbel).mono (by omega)))
              clear hvl hvb hbk hbel HBEL HBL7 HBL6 HB2' HB10 HB5' HB11
              have hg3 : w.heap.size + 3 ≤ g10 := by have := hbel.size; omega
              clear hbk hbel hxl hxb
              go_wp2_with fail
              go_loopw [182] (fun i w' => ∃ (t : Nat), t ≤ 8 ∧ i = .int .i64 (t : Int) ∧ Bk w' w.heap.size 42 (va .u32 (addW h v t ++ h.drop t)) ∧ Below w.heap.size w w' ∧ Bk w' (g10 + 1) 42 (va .u32 v) ∧ ∃ cs : Array Value, cs.size = 8 ∧ Bk w' (w.heap.size + 1) 42 cs) (fun i _ => 8 - (intOf i).toNat)
              case atStart => exact ⟨0, by omega, rfl, by rw [show addW h v 0 ++ h.drop 0 = h from rfl]; exact B2r.out, hblr.out, HBK.out, B4r.out⟩
              case round =>
                obtain ⟨i, hi, rfl, hb2, hbl, hb11, cs, hcs, hb4⟩ := hrel
                clear HBK
                have HL2 := Lib.hid hb2
                have HBL := Lib.hid hbl
                have H11 := Lib.hid hb11
                have H4 := Lib.hid hb4
                by_cases hlt : i < 8
                · have c2 := hb2.cell i
                  rw [va_at .u32 (by rw [List.length_append, addW_length, List.length_drop, HL.out]; omega), gd_addW (by rw [HL.out]; exact hlt)] at c2
                  have c11 := (hb11.cell i).trans (va_at .u32 (by rw [HVL.out]; exact hlt))
                  obtain ⟨x, ex⟩ : ∃ z, gd h i = z := ⟨_, rfl⟩
                  obtain ⟨y, ey⟩ : ∃ z, gd v i = z := ⟨_, rfl⟩
                  rw [ex] at c2
                  rw [ey] at c11
                  obtain ⟨s, es⟩ : ∃ z, (x + y) % 4294967296 = z := ⟨_, rfl⟩
                  have ks : IntKind.u32.wrap ((x : Int) + (y : Int)) = (s : Int) := by rw [← es]; exact add_u32 _ _
                  have ES := Lib.hid (show (gd h i + gd v i) % 4294967296 = s by rw [ex, ey]; exact es)
                  have hf := hb2.frozen i
                  have a1 : (i : Int) < 8 := by omega
                  have a0 : (0 : Int) ≤ (i : Int) := by omega
                  clear ex ey es hb2 hbl hb11 hb4
                  go_wp2_with fail
                  go_still_tail 8, (by kernel_rfl)
                  go_wp2_with fail
                  have hst := (HL2.out.set i (.int .u32 (s : Int))).drew
                  rw [va_set, set_addW (by rw [HL.out]; exact hlt) ES.out] at hst
                  exact ⟨⟨i + 1, hlt, by go_num, hst, (HBL.out.setCell (p := ⟨w.heap.size, i, none⟩) (Nat.le_refl _) _).drew, (H11.out.far (by show g10 + 1 ≠ w.heap.size; omega) _).drew, cs, hcs, (H4.out.far (by show w.heap.size + 1 ≠ w.heap.size; omega) _).drew⟩, by simp [intOf]; omega⟩
                · obtain rfl : i = 8 := by omega
                  rw [show ((8 : Nat) : Int) = (8 : Int) from rfl]
                  have hh : addW h v 8 ++ h.drop 8 = blockN h p := by
                    rw [List.drop_eq_nil_of_le (by rw [HL.out]; exact Nat.le_refl _), List.append_nil]
                    unfold blockN
                    rw [HWS.out, ← HV.out]
                  rw [hh] at hb2
                  have hbl8 : (blockN h p).length = 8 := by unfold blockN; exact addW_length _ _ _
                  clear HL2 HBL H11 H4 hb11
                  have HL2 := Lib.hid hb2
                  have HBL := Lib.hid hbl
                  have H4 := Lib.hid hb4
                  clear hb2 hbl hb4
                  go_upto_region 27 with (fail)
                  refine wp_region_lit ?_
                  refine wpList_load_row rfl 42 _ rfl w.heap.size (by kernel_rfl) 42 (va .u32 (blockN h p)) (0, 0) (.array 8 41) HL2.out Try.underlying42 rfl (eight_info.trans (by rw [va_size, hbl8])) ?_
                  refine wpList_store_row rfl 42 _ _ rfl (w.heap.size + 1) (va .u32 (blockN h p)) (by kernel_rfl) (by kernel_rfl) 42 cs H4.out (eight_info.trans (by rw [va_size, hbl8])) (by rw [va_size, hbl8, hcs]) (va_all _ _) ?_
                  refine wpList_nil ?_
                  have hst := H4.out.row (va .u32 (blockN h p))
                  have hbl := below_row HBL.out (Nat.le_succ w.heap.size) (va .u32 (blockN h p))
                  generalize hwq : wr.setRow (w.heap.size + 1) (va .u32 (blockN h p)) = wq at hst hbl ⊢
                  clear hwq
                  go_wp2_with fail
                  refine bodyPost_ret (v := .agg (va .u32 (blockN h p))) ?_ rfl ⟨rfl, hbl⟩
                  simp [results, Try.results57, asAddr, Result.andThen]
                  exact run_loadVar_row _ _ _ _ _ _ _ hst Try.underlying42 rfl (eight_info.trans (by rw [va_size, hbl8]))
              -- </D>
end Go.Proofs.Ytiimflmbcgnbeaa
