/- Pairs of words, both ways; the document's too. -/
import Derived.Test.YtkmabfdnekphnaaJ4
import Derived.Test.YtkmabfdnekphnaaBt
namespace Go.Proofs.Ytkmabfdnekphnaa
set_option linter.unusedSimpArgs false
set_option linter.unusedVariables false
set_option maxRecDepth 100000
open Go.RowKit
attribute [local go_sem] toldUpon_value toldUpon_skip toldUpon_enter

theorem bk_rd4 {w : World} {g : Nat} {t : TypeId} {a b c d : Nat} (h : Bk w g t #[.int .u8 (a : Int), .int .u8 (b : Int), .int .u8 (c : Int), .int .u8 (d : Int)]) : Rd .u8 w (some ⟨g, 0, none⟩) 4 4 [a, b, c, d] := by
  refine ⟨rfl, Nat.le_refl _, by omega, fun _ => ⟨_, rfl, h.lt, fun j x hx => ?_⟩⟩
  rw [ad_plain, h.cell]
  match j, hx with
  | 0, hx => simp at hx; subst hx; rfl
  | 1, hx => simp at hx; subst hx; rfl
  | 2, hx => simp at hx; subst hx; rfl
  | 3, hx => simp at hx; subst hx; rfl
  | j + 4, hx => simp at hx
theorem four_form (n : Nat) : ∃ a b c d : Nat, fourN n = [a, b, c, d] ∧ fourV n = .agg #[.int .u8 (a : Int), .int .u8 (b : Int), .int .u8 (c : Int), .int .u8 (d : Int)] := ⟨_, _, _, _, rfl, rfl⟩
def ROWu8 (xs : List Nat) (n : Nat) (w : World) (e : Ending) (w' : World) : Prop := ∃ A c, e = .returned (.slice A n c) ∧ Own .u8 5 w' w.heap.size A n c xs ∧ Below w.heap.size w w'
set_option maxHeartbeats 2000000 in
theorem pair_any (w : World) (a b : Nat) (ha : a < 4294967296) (hb : b < 4294967296) : Calls Try.prog 23 #[.int .u32 (a : Int), .int .u32 (b : Int)] w (ROWu8 (fourN a ++ fourN b) 8 w) := by
  have hA := fun w => word_any w a ha
  have hB := fun w => word_any w b hb
  obtain ⟨a0, a1, a2, a3, ea, va⟩ := four_form a
  obtain ⟨b0, b1, b2, b3, eb, vb⟩ := four_form b
  have HE := Lib.hid (And.intro ea eb)
  rw [va] at hA
  rw [vb] at hB
  clear va vb ea eb
  go_enter Try.func23, Try.ntmps23
  go_upto_region 2 with (first
    | (have _ := hk1; go_at_call 31; refine (hB _).mono ?_; rintro e w2 ⟨rfl, hb2⟩)
    | (go_at_call 31; refine (hA _).mono ?_; rintro e w1 ⟨rfl, hb1⟩; have hk1 : True := trivial))
  have hbb : Below w.heap.size w w2 := hb1.trans (hb2.mono hb1.size)
  obtain ⟨w3, hw3⟩ : ∃ x, (w2.alloc (.cells #[.int .u8 (a0 : Int), .int .u8 (a1 : Int), .int .u8 (a2 : Int), .int .u8 (a3 : Int)] 68)).alloc (.cells #[.int .u8 (b0 : Int), .int .u8 (b1 : Int), .int .u8 (b2 : Int), .int .u8 (b3 : Int)] 68) = x := ⟨_, rfl⟩
  have hb3 : Below w2.heap.size w2 w3 := by rw [← hw3]; exact ((Below.refl _ _).alloc (Nat.le_refl _) _).alloc (by simp) _
  have k1 : Bk w3 w2.heap.size 68 #[.int .u8 (a0 : Int), .int .u8 (a1 : Int), .int .u8 (a2 : Int), .int .u8 (a3 : Int)] := by rw [← hw3]; exact (Bk.new w2 _ _).alloc _
  have k2 : Bk w3 (w2.heap.size + 1) 68 #[.int .u8 (b0 : Int), .int .u8 (b1 : Int), .int .u8 (b2 : Int), .int .u8 (b3 : Int)] := by rw [← hw3]; exact Bk.at_new _ _ (by simp)
  rw [hw3]
  have K1 := Lib.hid k1
  have K2 := Lib.hid k2
  have HB3 := Lib.hid (hbb.trans (hb3.mono hbb.size))
  clear hw3 hb1 hb2 hbb hb3 k1 k2 hk1
  (refine region_told_tail 2 _ (by kernel_rfl) (by kernel_rfl) (by simp only [List.take_succ_cons, List.take_zero, putAll, Act.put, List.setIfInBounds_toArray, List.set_cons_zero, List.set_cons_succ, Nat.reduceAdd]; rfl) ?_; simp only [List.take_succ_cons, List.take_zero, List.drop_succ_cons, List.drop_zero])
  iterate 2 (refine told_step (fun v _ => v = _) (Stays.eq _) (by intro y w' hw' hd; simp only [depsOf, updG, Region.binds, Nat.reduceAdd, Nat.reduceEqDiff, if_false, if_true, and_true, true_and, forall_const, Array.toList, GTrue] at hd; (try go_split_ands); unfold toldAt; go_simp; exact ⟨Below.refl _ _, rfl⟩) ?_)
  (refine told_nil ?_; intro y w4 hw4 hd)
  have e0 : y 0 = .slice (some ⟨w2.heap.size, 0, none⟩) 4 4 := hd 0 (by decide)
  have e1 : y 1 = .slice (some ⟨w2.heap.size + 1, 0, none⟩) 4 4 := hd 1 (by decide)
  rw [e0, e1]
  have hB4 := HB3.out.trans (hw4.mono HB3.out.size)
  have hC := concat_any (w4.alloc (.cells #[.slice (some ⟨w2.heap.size, 0, none⟩) 4 4, .slice (some ⟨w2.heap.size + 1, 0, none⟩) 4 4] 23)) (Bk.new w4 _ _) ((bk_rd4 (K1.out.below hw4 K1.out.lt)).alloc _) ((bk_rd4 (K2.out.below hw4 K2.out.lt)).alloc _)
  have HB4 := Lib.hid hB4
  clear hd e0 e1 hw4 hB4
  go_wp2_with (go_at_call 32; refine hC.mono ?_; rintro e w5 ⟨A', c', rfl, ho, hb5⟩; have HO := Lib.hid (And.intro ho hb5); clear ho hb5)
  go_ret
  have hz := HB4.out.size
  have h5 := HO.out.2
  refine ⟨A', c', rfl, ?_, ?_⟩
  · rw [HE.out.1, HE.out.2]; exact HO.out.1.lower (by simp; omega)
  · exact (HB4.out.alloc hz _).trans (h5.mono (by simp; omega))
set_option maxHeartbeats 1000000 in
/-- the document's: two texts joined -/
theorem join_any (w : World) {A B : Option Addr} {n c m d : Nat} {xs ys : List Nat} (hx : Rd .u8 w A n c xs) (hy : Rd .u8 w B m d ys) (hn : n + m ≤ 140737488355328) :
    Calls Try.prog 28 #[.slice A n c, .slice B m d] w (ROWu8 (xs ++ ys) (n + m) w) := by
  obtain ⟨i0, hi0, hz0, hz1, hz2⟩ := info_parts info_u8
  have HX := Lib.hid hx
  have HY := Lib.hid hy
  clear hx hy
  go_enter Try.func28, Try.ntmps28
  go_upto_region 3 with (at_builtin; refine wpList_append_rd _ rfl (.tmp 6) (.tmp 7) _ rfl .u8 w.heap.size _ i0 _ 1 Try.underlying23 hi0 hz0 hz1 hz2 rfl none 0 0 [] rfl (Own.nil _ _ _ _) A n c xs rfl HX.out (by unfold maxLen; omega) (by omega) (Nat.le_refl _) ?_; intro A1 c1 w1 ho1 hb1 hs1 hk1)
  have ho1' : Own .u8 5 w1 w.heap.size A1 n c1 xs := by simpa using ho1
  have hy1 := HY.out.below hb1
  have HO1 := Lib.hid ho1'
  have HY1 := Lib.hid hy1
  have HB1 := Lib.hid hb1
  clear ho1 ho1' hy1 hk1 hb1
  go_wp2_with (at_builtin; refine wpList_append_rd _ rfl (.tmp 9) (.tmp 10) _ rfl .u8 w.heap.size _ i0 _ 1 Try.underlying23 hi0 hz0 hz1 hz2 rfl A1 n c1 xs rfl HO1.out B m d ys rfl HY1.out (by unfold maxLen; omega) (by omega) hs1 ?_; intro A2 c2 w2 ho2 hb2 hs2 hk2; have HO2 := Lib.hid (And.intro ho2 hb2); clear ho2 hb2 hs2 hk2)
  go_ret
  exact ⟨A2, c2, rfl, HO2.out.1, HB1.out.trans HO2.out.2⟩
abbrev md0 (n : Nat) : Nat := n / 16777216
abbrev md1 (n : Nat) : Nat := n / 65536 % 256
abbrev md2 (n : Nat) : Nat := n / 256 % 256
abbrev md3 (n : Nat) : Nat := n % 256
theorem bk_rd1 {w : World} {g : Nat} {t : TypeId} {a : Nat} (h : Bk w g t #[.int .u8 (a : Int)]) : Rd .u8 w (some ⟨g, 0, none⟩) 1 1 [a] := by
  refine ⟨rfl, Nat.le_refl _, by omega, fun _ => ⟨_, rfl, h.lt, fun j x hx => ?_⟩⟩
  rw [ad_plain, h.cell]
  match j, hx with
  | 0, hx => simp at hx; subst hx; rfl
  | j + 1, hx => simp at hx
set_option maxHeartbeats 1000000 in
theorem four_any (w : World) (n : Nat) (hn : n < 4294967296) : Calls Try.prog 33 #[.int .u32 (n : Int)] w (ROWu8 (fourN n) 4 w) := by
  obtain ⟨i0, hi0, hz0, hz1, hz2⟩ := info_parts info_u8
  go_enter Try.func33, Try.ntmps33
  go_wp2_with fail
  go_loopw [3, 4] (fun r i wr => ∃ (k : Nat) (A : Option Addr) (c : Nat), k ≤ 4 ∧ i = .int .i64 (3 - (k : Int)) ∧ r = .slice A k c ∧ Own .u8 5 wr w.heap.size A k c ((fourN n).take k) ∧ Below w.heap.size w wr) (fun _ i _ => (intOf i + 1).toNat)
  case atStart => exact ⟨0, none, 0, Nat.zero_le _, rfl, rfl, Own.nil _ _ _ _, Below.refl _ _⟩
  case round =>
    obtain ⟨k, A, c, hk, rfl, rfl, ho, hb⟩ := hrel
    have hsz := hb.size
    have HO := Lib.hid ho
    have HB := Lib.hid hb
    clear ho hb
    rcases (show k = 0 ∨ k = 1 ∨ k = 2 ∨ k = 3 ∨ k = 4 by omega) with rfl | rfl | rfl | rfl | rfl
    · skip
      go_wp2_with (at_builtin; refine wpList_append_rd _ rfl (.tmp 9) (.tmp 16) _ rfl .u8 w.heap.size _ i0 _ 1 Try.underlying23 hi0 hz0 hz1 hz2 rfl A 0 c _ rfl (HO.out.alloc _) (some ⟨wr.heap.size, 0, none⟩) 1 1 [md0 n] rfl (bk_rd1 (Bk.new wr _ _)) (by unfold maxLen; omega) (by omega) (by simp; omega) ?_; intro A' c' w4 ho4 hb4 hs4 hk4; have HO4 := Lib.hid (And.intro ho4 (((Below.refl w.heap.size wr).alloc hsz _).trans hb4)); clear ho4 hb4 hs4 hk4)
      go_roundw
      case rel => exact ⟨0 + 1, A', c', by omega, rfl, rfl, HO4.out.1, HB.out.trans HO4.out.2⟩
      case measure => simp [intOf]
    · skip
      go_wp2_with (at_builtin; refine wpList_append_rd _ rfl (.tmp 9) (.tmp 16) _ rfl .u8 w.heap.size _ i0 _ 1 Try.underlying23 hi0 hz0 hz1 hz2 rfl A 1 c _ rfl (HO.out.alloc _) (some ⟨wr.heap.size, 0, none⟩) 1 1 [md1 n] rfl (bk_rd1 (Bk.new wr _ _)) (by unfold maxLen; omega) (by omega) (by simp; omega) ?_; intro A' c' w4 ho4 hb4 hs4 hk4; have HO4 := Lib.hid (And.intro ho4 (((Below.refl w.heap.size wr).alloc hsz _).trans hb4)); clear ho4 hb4 hs4 hk4)
      go_roundw
      case rel => exact ⟨1 + 1, A', c', by omega, rfl, rfl, HO4.out.1, HB.out.trans HO4.out.2⟩
      case measure => simp [intOf]
    · skip
      go_wp2_with (at_builtin; refine wpList_append_rd _ rfl (.tmp 9) (.tmp 16) _ rfl .u8 w.heap.size _ i0 _ 1 Try.underlying23 hi0 hz0 hz1 hz2 rfl A 2 c _ rfl (HO.out.alloc _) (some ⟨wr.heap.size, 0, none⟩) 1 1 [md2 n] rfl (bk_rd1 (Bk.new wr _ _)) (by unfold maxLen; omega) (by omega) (by simp; omega) ?_; intro A' c' w4 ho4 hb4 hs4 hk4; have HO4 := Lib.hid (And.intro ho4 (((Below.refl w.heap.size wr).alloc hsz _).trans hb4)); clear ho4 hb4 hs4 hk4)
      go_roundw
      case rel => exact ⟨2 + 1, A', c', by omega, rfl, rfl, HO4.out.1, HB.out.trans HO4.out.2⟩
      case measure => simp [intOf]
    · skip
      go_wp2_with (at_builtin; refine wpList_append_rd _ rfl (.tmp 9) (.tmp 16) _ rfl .u8 w.heap.size _ i0 _ 1 Try.underlying23 hi0 hz0 hz1 hz2 rfl A 3 c _ rfl (HO.out.alloc _) (some ⟨wr.heap.size, 0, none⟩) 1 1 [md3 n] rfl (bk_rd1 (Bk.new wr _ _)) (by unfold maxLen; omega) (by omega) (by simp; omega) ?_; intro A' c' w4 ho4 hb4 hs4 hk4; have HO4 := Lib.hid (And.intro ho4 (((Below.refl w.heap.size wr).alloc hsz _).trans hb4)); clear ho4 hb4 hs4 hk4)
      go_roundw
      case rel => exact ⟨3 + 1, A', c', by omega, rfl, rfl, HO4.out.1, HB.out.trans HO4.out.2⟩
      case measure => simp [intOf]
    · go_wp2_with fail
      go_ret
      exact ⟨A, c, rfl, HO.out, HB.out⟩
set_option maxHeartbeats 1000000 in
theorem rpair_any (w : World) (a b : Nat) (ha : a < 4294967296) (hb : b < 4294967296) : Calls Try.prog 24 #[.int .u32 (a : Int), .int .u32 (b : Int)] w (ROWu8 (fourN a ++ fourN b) 8 w) := by
  have hA := fun w => four_any w a ha
  have hB := fun w => four_any w b hb
  unfold ROWu8 at hA hB ⊢
  go_enter Try.func24, Try.ntmps24
  go_wp2_with (first
    | (have _ := hk1; go_at_call 33; refine (hB _).mono ?_; rintro e w2 ⟨A2, c2, rfl, ho2, hb2⟩; have hj := join_any w2 (ho1.rd.below hb2) ho2.rd (by omega); unfold ROWu8 at hj)
    | (go_at_call 33; refine (hA _).mono ?_; rintro e w1 ⟨A1, c1, rfl, ho1, hb1⟩; have hk1 : True := trivial)
    | (go_at_call 28; refine hj.mono ?_; rintro e w3 ⟨A3, c3, rfl, ho3, hb3⟩))
  go_ret
  have k2 := hb1.trans (hb2.mono hb1.size)
  exact ⟨A3, c3, rfl, ho3.lower k2.size, k2.trans (hb3.mono k2.size)⟩
/-- the number of some bytes, the greatest first -/
def beN (xs : List Nat) : Nat := xs.foldl (fun a x => 256 * a + x) 0
theorem beN_snoc (xs : List Nat) (x : Nat) : beN (xs ++ [x]) = 256 * beN xs + x := by unfold beN; rw [List.foldl_append]; rfl
theorem beN_take {xs : List Nat} {k : Nat} (h : k < xs.length) : beN (xs.take (k + 1)) = 256 * beN (xs.take k) + gd xs k := by
  rw [List.take_succ_eq_append_getElem h, beN_snoc, gd_lt h]
theorem beN_fold : ∀ (xs : List Nat) (a : Nat), (∀ x ∈ xs, x < 256) → xs.foldl (fun a x => 256 * a + x) a < (a + 1) * 256 ^ xs.length
  | [], a, _ => by simp
  | x :: xs, a, h => by
    have h1 := beN_fold xs (256 * a + x) (fun y hy => h y (by simp [hy]))
    have h2 := h x (by simp)
    rw [List.foldl_cons, List.length_cons, Nat.pow_succ]
    refine Nat.lt_of_lt_of_le h1 ?_
    rw [Nat.mul_comm (256 ^ xs.length) 256, ← Nat.mul_assoc]
    exact Nat.mul_le_mul_right _ (by omega)
theorem beN_lt {xs : List Nat} (h : ∀ x ∈ xs, x < 256) : beN xs < 256 ^ xs.length := by
  have := beN_fold xs 0 h
  unfold beN; omega
set_option maxHeartbeats 1000000 in
theorem pairof_any (w : World) {A : Option Addr} {n c : Nat} {xs : List Nat} (h : Rd .u8 w A n c xs) (hx : ∀ x ∈ xs, x < 256) : Calls Try.prog 21 #[.slice A n c] w fun e w' => e = .returned (.tuple #[.int .u32 ((if n = 8 then beN xs / 4294967296 else 0 : Nat) : Int), .int .u32 ((if n = 8 then beN xs % 4294967296 else 0 : Nat) : Int), .int .i64 (if n = 8 then 0 else 3)]) ∧ w = w' := by
  have hl := h.len
  by_cases h8 : n = 8
  · subst h8
    simp only [if_true]
    obtain ⟨ad, rfl, hlt, hc⟩ := h.form (by omega)
    have HX := Lib.hid hx
    have HC := Lib.hid hc
    clear h hx hc
    go_enter Try.func21, Try.ntmps21
    go_wp2_with fail
    go_loop [5, 7, 13] (fun m _ i => ∃ (k : Nat), k ≤ 8 ∧ i = .int .i64 (k : Int) ∧ m = .int .u64 ((beN (xs.take k) : Nat) : Int)) (fun _ _ i => 8 - (intOf i).toNat)
    case atStart => exact ⟨0, Nat.zero_le _, rfl, rfl⟩
    case round =>
      obtain ⟨k, hk, rfl, rfl⟩ := hrel
      rcases Nat.lt_or_ge k 8 with h0 | h0
      · have a1 : (k : Int) < 8 := by omega
        have a0 : (0 : Int) ≤ (k : Int) := by omega
        have cx := HC.out k h0
        have HT := Lib.hid (beN_take (xs := xs) (k := k) (by omega))
        have hg : gd xs k < 256 := HX.out _ (by rw [gd_lt (by omega)]; exact List.getElem_mem _)
        have hb : beN (xs.take k) < 72057594037927936 := by
          have h1 := beN_lt (xs := xs.take k) (fun x hx => HX.out x (List.mem_of_mem_take hx))
          have h2 : (xs.take k).length ≤ 7 := by rw [List.length_take]; omega
          have h3 := Nat.pow_le_pow_right (show 0 < 256 by omega) h2
          have h4 : 256 ^ 7 = 72057594037927936 := by decide
          omega
        generalize gd xs k = x at cx HT hg
        generalize beN (xs.take k) = m at HT hb ⊢
        have i1 : IntKind.i64.wrap ((k : Int) + 1) = (k : Int) + 1 := IntWalk.i64_in _ (by omega)
        have o1 : bits .or .u64 ((m : Int) * 256) (x : Int) = ((256 * m + x : Nat) : Int) := by
          rw [show (m : Int) * 256 = ((256 * m : Nat) : Int) by omega, or_u64 (by omega) (by omega), or_apart (i := 8) (by omega) (by simp [Nat.mul_mod_right])]
        go_wp2_with fail
        go_round
        case rel => exact ⟨k + 1, by omega, by go_num, congrArg (Value.int .u64) (by rw [HT.out]; omega)⟩
        case measure => simp [intOf]; omega
      · obtain rfl : k = 8 := by omega
        have HB := Lib.hid (show beN (xs.take 8) = beN xs by rw [List.take_of_length_le (by omega)])
        have hb : beN xs < 18446744073709551616 := by
          have h1 := beN_lt HX.out
          have h4 : 256 ^ 8 = 18446744073709551616 := by decide
          rw [hl, h4] at h1; exact h1
        rw [HB.out]
        obtain ⟨m, hm⟩ : ∃ m, beN xs = m := ⟨_, rfl⟩
        rw [hm] at hb ⊢
        have HM := Lib.hid hm
        clear HB hm
        go_wp2_with fail
        go_ret3
        exact ⟨by simp [HM.out, Int.natCast_ediv, Int.natCast_emod], rfl⟩
  · simp only [if_neg h8]
    have a1 : ((n : Int) == 8) = false := by simp; omega
    have a2 : ((n : Int) != 8) = true := by simp; omega
    clear h hx
    go_enter Try.func21, Try.ntmps21
    go_wp2_with fail
    go_ret3
    exact ⟨rfl, rfl⟩
theorem beN_foldl : ∀ (ys : List Nat) (a : Nat), ys.foldl (fun a x => 256 * a + x) a = a * 256 ^ ys.length + beN ys
  | [], a => by simp [beN]
  | y :: ys, a => by
    unfold beN
    rw [List.foldl_cons, List.foldl_cons, beN_foldl ys (256 * a + y), beN_foldl ys (256 * 0 + y), List.length_cons, Nat.pow_succ]
    rw [Nat.add_mul, Nat.mul_zero, Nat.zero_add, Nat.mul_comm 256 a, Nat.mul_comm (256 ^ ys.length) 256, ← Nat.mul_assoc]
    omega
theorem beN_append (xs ys : List Nat) : beN (xs ++ ys) = beN xs * 256 ^ ys.length + beN ys := by
  unfold beN; rw [List.foldl_append, beN_foldl]; rfl
theorem beN_halves {xs : List Nat} (h : xs.length = 8) (hx : ∀ x ∈ xs, x < 256) : beN (xs.take 4) = beN xs / 4294967296 ∧ beN (xs.drop 4) = beN xs % 4294967296 := by
  have h1 : beN xs = beN (xs.take 4) * 256 ^ (xs.drop 4).length + beN (xs.drop 4) := by rw [← beN_append, List.take_append_drop]
  have h2 : (xs.drop 4).length = 4 := by rw [List.length_drop, h]
  have h3 := beN_lt (xs := xs.drop 4) (fun x hm => hx x (List.mem_of_mem_drop hm))
  have h4 : 256 ^ 4 = 4294967296 := by decide
  rw [h2, h4] at h1 h3
  omega
set_option maxHeartbeats 1000000 in
theorem rpairof_any (w : World) {A : Option Addr} {n c : Nat} {xs : List Nat} (h : Rd .u8 w A n c xs) (hx : ∀ x ∈ xs, x < 256) : Calls Try.prog 22 #[.slice A n c] w fun e w' => e = .returned (.tuple #[.int .u32 ((if n = 8 then beN xs / 4294967296 else 0 : Nat) : Int), .int .u32 ((if n = 8 then beN xs % 4294967296 else 0 : Nat) : Int), .int .i64 (if n = 8 then 0 else 3)]) ∧ w = w' := by
  have hl := h.len
  by_cases h8 : n = 8
  · subst h8
    simp only [if_true]
    obtain ⟨ad, rfl, hlt, hc⟩ := h.form (by omega)
    have HX := Lib.hid hx
    have HC := Lib.hid hc
    have HH := Lib.hid (beN_halves hl hx)
    clear h hx hc
    go_enter Try.func22, Try.ntmps22
    go_wp2_with fail
    go_loop [5, 6, 7] (fun x y i => ∃ (k : Nat), k ≤ 4 ∧ i = .int .i64 (k : Int) ∧ x = .int .u32 ((beN (xs.take k) : Nat) : Int) ∧ y = .int .u32 ((beN ((xs.drop 4).take k) : Nat) : Int)) (fun _ _ i => 4 - (intOf i).toNat)
    case atStart => exact ⟨0, Nat.zero_le _, rfl, rfl, rfl⟩
    case round =>
      obtain ⟨k, hk, rfl, rfl, rfl⟩ := hrel
      rcases Nat.lt_or_ge k 4 with h0 | h0
      · have a1 : (k : Int) < 4 := by omega
        have a0 : (0 : Int) ≤ (k : Int) := by omega
        have cx := HC.out k (by omega)
        have cy := HC.out (4 + k) (by omega)
        have HT := Lib.hid (beN_take (xs := xs) (k := k) (by omega))
        have HU := Lib.hid (beN_take (xs := xs.drop 4) (k := k) (by rw [List.length_drop]; omega))
        rw [gd_drop] at HU
        have hg : ∀ j, j < 8 → gd xs j < 256 := fun j hj => HX.out _ (by rw [gd_lt (by omega)]; exact List.getElem_mem _)
        have hg1 := hg k (by omega)
        have hg2 := hg (4 + k) (by omega)
        have hb : ∀ zs : List Nat, (∀ z ∈ zs, z < 256) → beN (zs.take k) < 16777216 := fun zs hz => by
          have h1 := beN_lt (xs := zs.take k) (fun x hx => hz x (List.mem_of_mem_take hx))
          have h2 : (zs.take k).length ≤ 3 := by rw [List.length_take]; omega
          have h3 := Nat.pow_le_pow_right (show 0 < 256 by omega) h2
          have h4 : 256 ^ 3 = 16777216 := by decide
          omega
        have hb1 := hb xs HX.out
        have hb2 := hb (xs.drop 4) (fun z hz => HX.out z (List.mem_of_mem_drop hz))
        generalize gd xs k = x at cx HT hg1
        generalize gd xs (4 + k) = y at cy HU hg2
        generalize beN (xs.take k) = m at HT hb1 ⊢
        generalize beN ((xs.drop 4).take k) = p at HU hb2 ⊢
        have i1 : IntKind.i64.wrap ((k : Int) + 1) = (k : Int) + 1 := IntWalk.i64_in _ (by omega)
        have i2 : IntKind.i64.wrap (4 + (k : Int)) = 4 + (k : Int) := IntWalk.i64_in _ (by omega)
        have i3 : (4 + (k : Int)).toNat = 4 + k := by omega
        clear hg hb
        go_wp2_with fail
        go_round
        case rel => exact ⟨k + 1, by omega, by go_num, congrArg (Value.int .u32) (by rw [HT.out]; omega), congrArg (Value.int .u32) (by rw [HU.out]; omega)⟩
        case measure => simp [intOf]; omega
      · obtain rfl : k = 4 := by omega
        rw [HH.out.1, show (xs.drop 4).take 4 = xs.drop 4 by rw [List.take_of_length_le (by rw [List.length_drop]; omega)], HH.out.2]
        obtain ⟨p, hp⟩ : ∃ p, beN xs / 4294967296 = p := ⟨_, rfl⟩
        obtain ⟨q, hq⟩ : ∃ q, beN xs % 4294967296 = q := ⟨_, rfl⟩
        rw [hp, hq]
        have HP := Lib.hid (And.intro hp hq)
        clear hp hq
        go_wp2_with fail
        go_ret3
        exact ⟨by have h1 := HP.out.1; have h2 := HP.out.2; subst h1 h2; simp [Int.natCast_ediv, Int.natCast_emod], rfl⟩
  · simp only [if_neg h8]
    have a1 : ((n : Int) == 8) = false := by simp; omega
    have a2 : ((n : Int) != 8) = true := by simp; omega
    clear h hx
    go_enter Try.func22, Try.ntmps22
    go_wp2_with fail
    go_ret3
    exact ⟨rfl, rfl⟩
end Go.Proofs.Ytkmabfdnekphnaa
