/- The document's digest: its pieces, as printed, and what they reckon in plain numbers. -/
import Derived.Test.YtiimflmbcgnbeaaSax
import Derived.Test.YtiimflmbcgnbeaaS4
namespace Go.Proofs.Ytiimflmbcgnbeaa
set_option linter.unusedSimpArgs false
set_option linter.unusedVariables false
open Go.RowKit Go.Proofs.YtiimflmbcgnbeaaW.PrintWords Go.Proofs.YtiimflmbcgnbeaaW.PrintLast Go.Proofs.YtiimflmbcgnbeaaW.PrintMore Go.Proofs.Ytiimflmbcgnbeaa.Sa

theorem own_of_ret {k : IntKind} {e : Nat} {w : World} {base : Nat} {ok : Nat → Prop} {v : Value} {xs : List Nat} (h : Kd.R (Kd.int k) e w base ok v (cI xs)) : ∃ A c, v = .slice A xs.length c ∧ Own k e w base A xs.length c xs := by
  obtain ⟨A, c, rfl, ho⟩ := Own.of_R h (fun x hx => by simp only [cI, List.mem_map] at hx; obtain ⟨y, _, rfl⟩ := hx; omega)
  rw [cI_length, toN_cI] at *
  exact ⟨A, c, rfl, ho⟩
theorem cI_append (xs ys : List Nat) : cI (xs ++ ys) = cI xs ++ cI ys := by simp [cI]
theorem cI_one (x : Nat) : cI [x] = [(x : Int)] := rfl
theorem cI_rd (xs : List Nat) (j : Nat) : rd (cI xs) (j : Int) = ((gd xs j : Nat) : Int) := by
  unfold rd cI gd
  simp only [Int.toNat_natCast, List.getD_eq_getElem?_getD, List.getElem?_map]
  cases xs[j]? <;> rfl
theorem join_f (a b : List Nat) (h : a.length + b.length < 140737488355328) : clepsydraref02_Join.f (cI a) (cI b) = some (cI (a ++ b)) := by
  unfold clepsydraref02_Join.f
  simp only [List.nil_append, List.length_nil, cI_length, Nat.zero_add]
  rw [if_pos (by omega)]
  simp only [Option.bind_some, cI_length]
  rw [if_pos h, cI_append]
theorem turned_f {x n : Nat} (hx : x < 4294967296) (h0 : 0 < n) (h1 : n < 32) : clepsydraref02_turned.f (x : Int) (n : Int) = some ((rot x n : Nat) : Int) := by
  have e1 : IntKind.u64.wrap (n : Int) = (n : Int) := by rw [IntKind.wrap_u64]; omega
  have e2 : wrap64 (32 - (n : Int)) = ((32 - n : Nat) : Int) := by unfold wrap64; omega
  have e3 : IntKind.u64.wrap ((32 - n : Nat) : Int) = ((32 - n : Nat) : Int) := by rw [IntKind.wrap_u64]; omega
  unfold clepsydraref02_turned.f
  rw [e1, e2, e3, if_pos (by omega), if_pos (by omega)]
  have s1 : shr .u32 (x : Int) (n : Int) = ((x / 2 ^ n : Nat) : Int) := by
    unfold shr
    rw [Int.toNat_natCast, Nat.min_eq_left (by show n ≤ 32; omega), Int.natCast_ediv, Int.natCast_pow]
    rfl
  have s2 : shl .u32 (x : Int) ((32 - n : Nat) : Int) = ((x * 2 ^ (32 - n) % 4294967296 : Nat) : Int) := by
    unfold shl
    rw [Int.toNat_natCast, Nat.min_eq_left (by show 32 - n ≤ 32; omega), IntKind.wrap_u32, Int.natCast_emod, Int.natCast_mul, Int.natCast_pow]
    rfl
  rw [s1, s2, u32_or_nat _ _ (Nat.lt_of_le_of_lt (Nat.div_le_self _ _) hx) (Nat.mod_lt _ (by omega))]
  rfl
theorem constants_f : clepsydraref02_constants.f = some (cI kN) := rfl
theorem first_f : clepsydraref02_first.f = some (cI hN) := rfl
theorem shr_by8 (sz t : Nat) : (sz : Int) / 2 ^ (8 * t) % 256 = ((sz / 256 ^ t % 256 : Nat) : Int) := by
  have h : ((2 : Int) ^ (8 * t)) = ((256 ^ t : Nat) : Int) := by
    rw [show (256 : Nat) = 2 ^ 8 from rfl, ← Nat.pow_mul]; push_cast; rfl
  rw [h]; rfl
theorem pad_l1 (xs : List Nat) (n : Nat) (hn : n < 1000000000000) (hl : xs.length < 100000000000000) : clepsydraref02_padded.l1 9 (cI xs) (8 * (n : Int)) 7 = some (cI (xs ++ be8 (8 * n))) := by
  have s : ∀ (k i : Nat), i ≤ 7 → ∀ ys : List Nat, ys.length < 100000000000010 → clepsydraref02_padded.l1 (k + 1) (cI ys) (8 * (n : Int)) (i : Int) = clepsydraref02_padded.l1 k (cI (ys ++ [8 * n / 256 ^ i % 256])) (8 * (n : Int)) (wrap64 ((i : Int) - 1)) := by
    intro k i hi ys hy
    have e1 : wrap64 (8 * (i : Int)) = ((8 * i : Nat) : Int) := by unfold wrap64; omega
    have e2 : IntKind.u64.wrap ((8 * i : Nat) : Int) = ((8 * i : Nat) : Int) := by rw [IntKind.wrap_u64]; omega
    have e3 : shr .i64 (8 * (n : Int)) ((8 * i : Nat) : Int) % 256 = ((8 * n / 256 ^ i % 256 : Nat) : Int) := by
      unfold shr
      rw [Int.toNat_natCast, Nat.min_eq_left (by show 8 * i ≤ 64; omega)]
      exact shr_by8 (8 * n) i
    rw [clepsydraref02_padded.l1, e1, e2, if_pos (by omega), if_pos (by omega), cI_length, if_pos (by omega), e3, cI_append, cI_one]
  have h7 := s 8 7 (by omega) xs (by omega)
  have w7 : wrap64 (((7 : Nat) : Int) - 1) = ((6 : Nat) : Int) := by unfold wrap64; omega
  have w6 : wrap64 (((6 : Nat) : Int) - 1) = ((5 : Nat) : Int) := by unfold wrap64; omega
  have w5 : wrap64 (((5 : Nat) : Int) - 1) = ((4 : Nat) : Int) := by unfold wrap64; omega
  have w4 : wrap64 (((4 : Nat) : Int) - 1) = ((3 : Nat) : Int) := by unfold wrap64; omega
  have w3 : wrap64 (((3 : Nat) : Int) - 1) = ((2 : Nat) : Int) := by unfold wrap64; omega
  have w2 : wrap64 (((2 : Nat) : Int) - 1) = ((1 : Nat) : Int) := by unfold wrap64; omega
  have w1 : wrap64 (((1 : Nat) : Int) - 1) = ((0 : Nat) : Int) := by unfold wrap64; omega
  have w0 : wrap64 (((0 : Nat) : Int) - 1) = -1 := by unfold wrap64; omega
  rw [show (7 : Int) = ((7 : Nat) : Int) from rfl, h7, w7, s 7 6 (by omega) _ (by simp; omega), w6, s 6 5 (by omega) _ (by simp; omega), w5, s 5 4 (by omega) _ (by simp; omega), w4, s 4 3 (by omega) _ (by simp; omega), w3,
    s 3 2 (by omega) _ (by simp; omega), w2, s 2 1 (by omega) _ (by simp; omega), w1, s 1 0 (by omega) _ (by simp; omega), w0]
  rw [clepsydraref02_padded.l1, if_neg (by omega)]
  simp [be8]
theorem pad_l0 (b : List Nat) (hb : b.length < 1000000000000) : ∀ (j k : Nat) (xs : List Nat), (xs.length + j) % 64 = 56 → j < 64 → xs.length + j < 10000000000000 →
    clepsydraref02_padded.l0 (k + j + 10) (cI b) (cI xs) = some (cI (xs ++ (List.replicate j 0 ++ be8 (8 * b.length))))
  | 0, k, xs, h, _, hx => by
    have hc : ((xs.length : Int) % 64) = 56 := by omega
    rw [show k + 0 + 10 = (k + 9) + 1 by omega, clepsydraref02_padded.l0, cI_length, if_pos hc, cI_length]
    rw [show wrap64 (8 * (b.length : Int)) = 8 * (b.length : Int) by unfold wrap64; omega]
    rw [at_rounds (g := fun k => clepsydraref02_padded.l1 k (cI xs) (8 * (b.length : Int)) 7) (fun k => (clepsydraref02_padded.mono_l k).2 _ _ _) (show 9 ≤ k + 9 by omega) (pad_l1 xs b.length hb (by omega))]
    simp
  | j + 1, k, xs, h, hj, hx => by
    have hc : ¬ ((xs.length : Int) % 64) = 56 := by omega
    rw [show k + (j + 1) + 10 = (k + j + 10) + 1 by omega, clepsydraref02_padded.l0, cI_length, if_neg hc, if_pos (by omega)]
    have ih := pad_l0 b hb j k (xs ++ [0]) (by rw [List.length_append, List.length_singleton]; omega) (by omega) (by rw [List.length_append, List.length_singleton]; omega)
    rw [cI_append, cI_one] at ih
    rw [show ((0 : Nat) : Int) = 0 from rfl] at ih
    rw [ih]
    simp [List.replicate_succ]
theorem padded_f (b : List Nat) (hb : b.length < 1000000000000) : clepsydraref02_padded.f 74 (cI b) = some (cI (b ++ padN b.length)) := by
  unfold clepsydraref02_padded.f
  simp only [List.nil_append, List.length_nil, cI_length, Nat.zero_add]
  rw [if_pos (by omega)]
  simp only [Option.bind_some, cI_length]
  rw [if_pos (by omega)]
  obtain ⟨j, hj⟩ : ∃ j, 63 - (b.length + 8) % 64 = j := ⟨_, rfl⟩
  have h := pad_l0 b hb j (64 - j) (b ++ [128]) (by simp; omega) (by omega) (by simp; omega)
  rw [show 64 - j + j + 10 = 74 by omega, cI_append, cI_one] at h
  rw [show ((128 : Nat) : Int) = 128 from rfl] at h
  rw [h]
  unfold padN
  rw [hj]
  simp
theorem sch_l1 (p : List Nat) (hp : p.length = 64) (b8 : B8 p) (xs : List Nat) (t : Nat) (ht : t < 16) (k : Nat) (hx : xs.length < 100) :
    clepsydraref02_schedule.l1 (k + 5) (cI p) (cI xs) (t : Int) 0 0 = clepsydraref02_schedule.l0 k (cI p) (cI (xs ++ [be4 p t])) ((t + 1 : Nat) : Int) := by
  have s : ∀ (k i y : Nat), i < 4 → clepsydraref02_schedule.l1 (k + 1) (cI p) (cI xs) (t : Int) (y : Int) (i : Int) = clepsydraref02_schedule.l1 k (cI p) (cI xs) (t : Int) (((y * 256 + gd p (4 * t + i)) % 4294967296 : Nat) : Int) ((i + 1 : Nat) : Int) := by
    intro k i y hi
    have e1 : wrap64 (wrap64 (4 * (t : Int)) + (i : Int)) = ((4 * t + i : Nat) : Int) := by unfold wrap64; omega
    have e2 : wrap64 ((i : Int) + 1) = ((i + 1 : Nat) : Int) := by unfold wrap64; omega
    have hc : (i : Int) < 4 := by omega
    have hg := b8.gd (4 * t + i)
    rw [clepsydraref02_schedule.l1, if_pos hc, e1, e2, if_pos (by omega), cI_length, if_pos (by omega), cI_rd]
    congr 1
    omega
  have e2 : wrap64 ((t : Int) + 1) = ((t + 1 : Nat) : Int) := by unfold wrap64; omega
  have hc : ¬ ((4 : Nat) : Int) < 4 := by omega
  have h0 := s (k + 4) 0 0 (by omega)
  have q0 := b8.gd (4 * t)
  have q1 := b8.gd (4 * t + 1)
  have q2 := b8.gd (4 * t + 2)
  have q3 := b8.gd (4 * t + 3)
  rw [show ((0 : Nat) : Int) = 0 from rfl] at h0
  rw [h0, s (k + 3) 1 _ (by omega), s (k + 2) 2 _ (by omega), s (k + 1) 3 _ (by omega), clepsydraref02_schedule.l1, if_neg hc, cI_length, if_pos (by omega), e2, cI_append, cI_one]
  congr 3
  unfold be4
  rw [Nat.add_zero]
  omega
theorem sch_sum (s1 w7 s0 w16 : Nat) : ((((((s1 : Nat) : Int) + (w7 : Int)) % 4294967296 + (s0 : Int)) % 4294967296 + (w16 : Int)) % 4294967296) = (((w16 + s0 + w7 + s1) % 4294967296 : Nat) : Int) := by omega
theorem sch_l2 (F : Nat → List Nat) (lF : ∀ m, (F m).length = m + 16) (bF : ∀ m, B32 (F m)) (nF : ∀ m, F (m + 1) = F m ++ [nextW (F m) (m + 16)]) : ∀ (j k m : Nat), m + j = 48 → clepsydraref02_schedule.l2 (k + j + 1) (cI (F m)) ((m + 16 : Nat) : Int) = some (cI (F 48)) := by
  intro j
  induction j with
  | zero =>
    intro k m hm
    obtain rfl : m = 48 := by omega
    have hc : ¬ ((48 + 16 : Nat) : Int) < 64 := by omega
    rw [clepsydraref02_schedule.l2, if_neg hc]
  | succ j ih0 =>
    intro k m hm
    have ih := ih0 k (m + 1) (by omega)
    obtain ⟨R, hR⟩ : ∃ z, F 48 = z := ⟨_, rfl⟩
    rw [hR] at ih ⊢
    rw [nF m] at ih
    have bx := bF m
    have hl := lF m
    obtain ⟨xs, hxs⟩ : ∃ z, F m = z := ⟨_, rfl⟩
    obtain ⟨t, ht⟩ : ∃ t, m + 16 = t := ⟨_, rfl⟩
    rw [show m + 1 + 16 = t + 1 by omega, hxs, ht] at ih
    rw [hxs, ht] at hl
    rw [hxs] at bx
    rw [hxs, ht]
    have c0 : (t : Int) < 64 := by omega
    have p1 : (0 : Int) ≤ ((t - 15 : Nat) : Int) := by omega
    have p2 : ((t - 15 : Nat) : Int) < (xs.length : Int) := by omega
    have p3 : (0 : Int) ≤ ((t - 2 : Nat) : Int) := by omega
    have p4 : ((t - 2 : Nat) : Int) < (xs.length : Int) := by omega
    have p5 : (0 : Int) ≤ ((t - 7 : Nat) : Int) := by omega
    have p6 : ((t - 7 : Nat) : Int) < (xs.length : Int) := by omega
    have p7 : (0 : Int) ≤ ((t - 16 : Nat) : Int) := by omega
    have p8 : ((t - 16 : Nat) : Int) < (xs.length : Int) := by omega
    have p9 : xs.length < 35184372088832 := by omega
    have kk : k + (j + 1) + 1 = (k + j + 1) + 1 := by omega
    have e1 : wrap64 ((t : Int) - 15) = ((t - 15 : Nat) : Int) := by unfold wrap64; omega
    have e2 : wrap64 ((t : Int) - 2) = ((t - 2 : Nat) : Int) := by unfold wrap64; omega
    have e3 : wrap64 ((t : Int) - 7) = ((t - 7 : Nat) : Int) := by unfold wrap64; omega
    have e4 : wrap64 ((t : Int) - 16) = ((t - 16 : Nat) : Int) := by unfold wrap64; omega
    have e5 : wrap64 ((t : Int) + 1) = ((t + 1 : Nat) : Int) := by unfold wrap64; omega
    have x1 := bx.gd (t - 15)
    have x2 := bx.gd (t - 2)
    have x3 := bx.gd (t - 7)
    have x4 := bx.gd (t - 16)
    have r1 := turned_f x1 (n := 7) (by decide) (by decide)
    have r2 := turned_f x1 (n := 18) (by decide) (by decide)
    have r3 := turned_f x2 (n := 17) (by decide) (by decide)
    have r4 := turned_f x2 (n := 19) (by decide) (by decide)
    rw [show ((7 : Nat) : Int) = 7 from rfl] at r1
    rw [show ((18 : Nat) : Int) = 18 from rfl] at r2
    rw [show ((17 : Nat) : Int) = 17 from rfl] at r3
    rw [show ((19 : Nat) : Int) = 19 from rfl] at r4
    have v1 := rot_lt x1 7
    have v2 := rot_lt x1 18
    have v3 := rot_lt x2 17
    have v4 := rot_lt x2 19
    have hxor : ∀ a b : Nat, a < 4294967296 → b < 4294967296 → Go.bits .xor .u32 (a : Int) (b : Int) = ((a ^^^ b : Nat) : Int) := fun a b ha hb => u32_xor_nat _ _ ha hb
    rw [kk, clepsydraref02_schedule.l2, if_pos c0, e1, if_pos p1, cI_length, if_pos p2, e2, if_pos p3, if_pos p4, cI_rd, cI_rd, r1, r2, r3, r4]
    simp only [Option.bind_some]
    rw [e3, if_pos p5, if_pos p6, e4, if_pos p7, if_pos p8, if_pos p9, cI_rd, cI_rd, e5]
    rw [hxor _ _ v3 v4, hxor _ _ v1 v2]
    rw [show ((gd xs (t - 2) : Nat) : Int) / 1024 = ((gd xs (t - 2) / 1024 : Nat) : Int) from rfl, show ((gd xs (t - 15) : Nat) : Int) / 8 = ((gd xs (t - 15) / 8 : Nat) : Int) from rfl]
    rw [hxor _ _ (xor32 v3 v4) (Nat.lt_of_le_of_lt (Nat.div_le_self _ _) x2), hxor _ _ (xor32 v1 v2) (Nat.lt_of_le_of_lt (Nat.div_le_self _ _) x1)]
    rw [← ih, cI_append, cI_one]
    rw [sch_sum]
    rfl
theorem sched_step {ws : List Nat} (hw : ws.length = 16) (m : Nat) : sched (m + 1) ws = sched m ws ++ [nextW (sched m ws) (m + 16)] := by
  have hl := sched_length m ws
  rw [hw] at hl
  show sched m ws ++ [nextW (sched m ws) (sched m ws).length] = _
  rw [hl]
theorem w16_take (p : List Nat) (t : Nat) : (List.range (t + 1)).map (be4 p) = (List.range t).map (be4 p) ++ [be4 p t] := by simp [List.range_succ]
theorem sch_l0 (p : List Nat) (hp : p.length = 64) (b8 : B8 p) : ∀ (j k : Nat), j ≤ 16 → clepsydraref02_schedule.l0 (k + 6 * j + 50) (cI p) (cI ((List.range (16 - j)).map (be4 p))) ((16 - j : Nat) : Int) = some (cI (sched 48 (w16 p)))
  | 0, k, _ => by
    have h := sch_l2 (fun m => sched m (w16 p)) (fun m => by rw [sched_length, w16_length]) (fun m => sched_b32 (w16_b32 b8) m) (fun m => sched_step (w16_length p) m) 48 k 0 (by omega)
    rw [show k + 6 * 0 + 50 = (k + 48 + 1) + 1 by omega, clepsydraref02_schedule.l0, if_neg (by omega)]
    exact h
  | j + 1, k, hj => by
    have ih := sch_l0 p hp b8 j k (by omega)
    obtain ⟨t, ht⟩ : ∃ t, 16 - (j + 1) = t := ⟨_, rfl⟩
    rw [show 16 - j = t + 1 by omega, w16_take] at ih
    have c0 : (t : Int) < 16 := by omega
    rw [ht, show k + 6 * (j + 1) + 50 = (k + 6 * j + 50 + 5) + 1 by omega, clepsydraref02_schedule.l0, if_pos c0, sch_l1 p hp b8 _ t (by omega) _ (by simp; omega)]
    exact ih
theorem schedule_f (p : List Nat) (hp : p.length = 64) (b8 : B8 p) : clepsydraref02_schedule.f 146 (cI p) = some (cI (sched 48 (w16 p))) := sch_l0 p hp b8 16 0 (by omega)
end Go.Proofs.Ytiimflmbcgnbeaa
