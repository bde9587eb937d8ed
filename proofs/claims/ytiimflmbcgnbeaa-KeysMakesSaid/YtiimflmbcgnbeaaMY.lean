/- Texts of this claim, joined: T0, T1, T2, T3, T4, T5, Br, T6. -/
import Derived.Test.YtiimflmbcgnbeaaSax
import Derived.Test.YtiimflmbcgnbeaaS4
import Derived.Test.YtiimflmbcgnbeaaSa
import Derived.Test.YtiimflmbcgnbeaaMX
import Derived.Test.YtiimflmbcgnbeaaBy
import Derived.SizedLaws
import Derived.Test.YtiimflmbcgnbeaaWSized

/- The document's digest: its pieces, as printed, and what they reckon in plain numbers. -/
namespace Go.Proofs.Ytiimflmbcgnbeaa
set_option linter.unusedSimpArgs false
set_option linter.unusedVariables false
open Go.RowKit Go.Proofs.YtiimflmbcgnbeaaW.PrintWords Go.Proofs.YtiimflmbcgnbeaaW.PrintLast Go.Proofs.YtiimflmbcgnbeaaW.PrintMore Go.Proofs.Ytiimflmbcgnbeaa.Sa

theorem own_of_ret {k : IntKind} {e : Nat} {w : World} {base : Nat} {ok : Nat → Prop} {v : Value} {xs : List Nat} (h : Kd.R (Kd.int k) e w base ok v (cI xs)) : ∃ A c, v = .slice A xs.length c ∧ Own k e w base A xs.length c xs := by
  obtain ⟨A, c, rfl, ho⟩ := Own.of_R h (fun x hx => by simp only [cI, List.mem_map] at hx; obtain ⟨y, _, rfl⟩ := hx; omega)
  rw [cI_length, toN_cI] at *
  exact ⟨A, c, rfl, ho⟩
theorem cI_append (xs ys : List Nat) : cI (xs ++ ys) = cI xs ++ cI ys := by simp [cI]
theorem cI_one (x : Nat) : cI [x] = [(x : Int)] := rfl
theorem cI_rd (xs : List Nat) (j : Nat) : rd (cI xs) (j : Int) = ((gd xs j : Nat) : Int) := by
  unfold rd cI gd
  simp only [Int.toNat_natCast, List.getD_eq_getElem?_getD, List.getElem?_map]
  cases xs[j]? <;> rfl
theorem join_f (a b : List Nat) (h : a.length + b.length < 140737488355328) : clepsydraref02_Join.f (cI a) (cI b) = some (cI (a ++ b)) := by
  unfold clepsydraref02_Join.f
  simp only [List.nil_append, List.length_nil, cI_length, Nat.zero_add]
  rw [if_pos (by omega)]
  simp only [Option.bind_some, cI_length]
  rw [if_pos h, cI_append]
theorem turned_f {x n : Nat} (hx : x < 4294967296) (h0 : 0 < n) (h1 : n < 32) : clepsydraref02_turned.f (x : Int) (n : Int) = some ((rot x n : Nat) : Int) := by
  have e1 : IntKind.u64.wrap (n : Int) = (n : Int) := by rw [IntKind.wrap_u64]; omega
  have e2 : wrap64 (32 - (n : Int)) = ((32 - n : Nat) : Int) := by unfold wrap64; omega
  have e3 : IntKind.u64.wrap ((32 - n : Nat) : Int) = ((32 - n : Nat) : Int) := by rw [IntKind.wrap_u64]; omega
  unfold clepsydraref02_turned.f
  rw [e1, e2, e3, if_pos (by omega), if_pos (by omega)]
  have s1 : shr .u32 (x : Int) (n : Int) = ((x / 2 ^ n : Nat) : Int) := by
    unfold shr
    rw [Int.toNat_natCast, Nat.min_eq_left (by show n ≤ 32; omega), Int.natCast_ediv, Int.natCast_pow]
    rfl
  have s2 : shl .u32 (x : Int) ((32 - n : Nat) : Int) = ((x * 2 ^ (32 - n) % 4294967296 : Nat) : Int) := by
    unfold shl
    rw [Int.toNat_natCast, Nat.min_eq_left (by show 32 - n ≤ 32; omega), IntKind.wrap_u32, Int.natCast_emod, Int.natCast_mul, Int.natCast_pow]
    rfl
  rw [s1, s2, u32_or_nat _ _ (Nat.lt_of_le_of_lt (Nat.div_le_self _ _) hx) (Nat.mod_lt _ (by omega))]
  rfl
theorem constants_f : clepsydraref02_constants.f = some (cI kN) := rfl
theorem first_f : clepsydraref02_first.f = some (cI hN) := rfl
theorem shr_by8 (sz t : Nat) : (sz : Int) / 2 ^ (8 * t) % 256 = ((sz / 256 ^ t % 256 : Nat) : Int) := by
  have h : ((2 : Int) ^ (8 * t)) = ((256 ^ t : Nat) : Int) := by
    rw [show (256 : Nat) = 2 ^ 8 from rfl, ← Nat.pow_mul]; push_cast; rfl
  rw [h]; rfl
theorem pad_l1 (xs : List Nat) (n : Nat) (hn : n < 1000000000000) (hl : xs.length < 100000000000000) : clepsydraref02_padded.l1 9 (cI xs) (8 * (n : Int)) 7 = some (cI (xs ++ be8 (8 * n))) := by
  have s : ∀ (k i : Nat), i ≤ 7 → ∀ ys : List Nat, ys.length < 100000000000010 → clepsydraref02_padded.l1 (k + 1) (cI ys) (8 * (n : Int)) (i : Int) = clepsydraref02_padded.l1 k (cI (ys ++ [8 * n / 256 ^ i % 256])) (8 * (n : Int)) (wrap64 ((i : Int) - 1)) := by
    intro k i hi ys hy
    have e1 : wrap64 (8 * (i : Int)) = ((8 * i : Nat) : Int) := by unfold wrap64; omega
    have e2 : IntKind.u64.wrap ((8 * i : Nat) : Int) = ((8 * i : Nat) : Int) := by rw [IntKind.wrap_u64]; omega
    have e3 : shr .i64 (8 * (n : Int)) ((8 * i : Nat) : Int) % 256 = ((8 * n / 256 ^ i % 256 : Nat) : Int) := by
      unfold shr
      rw [Int.toNat_natCast, Nat.min_eq_left (by show 8 * i ≤ 64; omega)]
      exact shr_by8 (8 * n) i
    rw [clepsydraref02_padded.l1, e1, e2, if_pos (by omega), if_pos (by omega), cI_length, if_pos (by omega), e3, cI_append, cI_one]
  have h7 := s 8 7 (by omega) xs (by omega)
  have w7 : wrap64 (((7 : Nat) : Int) - 1) = ((6 : Nat) : Int) := by unfold wrap64; omega
  have w6 : wrap64 (((6 : Nat) : Int) - 1) = ((5 : Nat) : Int) := by unfold wrap64; omega
  have w5 : wrap64 (((5 : Nat) : Int) - 1) = ((4 : Nat) : Int) := by unfold wrap64; omega
  have w4 : wrap64 (((4 : Nat) : Int) - 1) = ((3 : Nat) : Int) := by unfold wrap64; omega
  have w3 : wrap64 (((3 : Nat) : Int) - 1) = ((2 : Nat) : Int) := by unfold wrap64; omega
  have w2 : wrap64 (((2 : Nat) : Int) - 1) = ((1 : Nat) : Int) := by unfold wrap64; omega
  have w1 : wrap64 (((1 : Nat) : Int) - 1) = ((0 : Nat) : Int) := by unfold wrap64; omega
  have w0 : wrap64 (((0 : Nat) : Int) - 1) = -1 := by unfold wrap64; omega
  rw [show (7 : Int) = ((7 : Nat) : Int) from rfl, h7, w7, s 7 6 (by omega) _ (by simp; omega), w6, s 6 5 (by omega) _ (by simp; omega), w5, s 5 4 (by omega) _ (by simp; omega), w4, s 4 3 (by omega) _ (by simp; omega), w3,
    s 3 2 (by omega) _ (by simp; omega), w2, s 2 1 (by omega) _ (by simp; omega), w1, s 1 0 (by omega) _ (by simp; omega), w0]
  rw [clepsydraref02_padded.l1, if_neg (by omega)]
  simp [be8]
theorem pad_l0 (b : List Nat) (hb : b.length < 1000000000000) : ∀ (j k : Nat) (xs : List Nat), (xs.length + j) % 64 = 56 → j < 64 → xs.length + j < 10000000000000 →
    clepsydraref02_padded.l0 (k + j + 10) (cI b) (cI xs) = some (cI (xs ++ (List.replicate j 0 ++ be8 (8 * b.length))))
  | 0, k, xs, h, _, hx => by
    have hc : ((xs.length : Int) % 64) = 56 := by omega
    rw [show k + 0 + 10 = (k + 9) + 1 by omega, clepsydraref02_padded.l0, cI_length, if_pos hc, cI_length]
    rw [show wrap64 (8 * (b.length : Int)) = 8 * (b.length : Int) by unfold wrap64; omega]
    rw [at_rounds (g := fun k => clepsydraref02_padded.l1 k (cI xs) (8 * (b.length : Int)) 7) (fun k => (clepsydraref02_padded.mono_l k).2 _ _ _) (show 9 ≤ k + 9 by omega) (pad_l1 xs b.length hb (by omega))]
    simp
  | j + 1, k, xs, h, hj, hx => by
    have hc : ¬ ((xs.length : Int) % 64) = 56 := by omega
    rw [show k + (j + 1) + 10 = (k + j + 10) + 1 by omega, clepsydraref02_padded.l0, cI_length, if_neg hc, if_pos (by omega)]
    have ih := pad_l0 b hb j k (xs ++ [0]) (by rw [List.length_append, List.length_singleton]; omega) (by omega) (by rw [List.length_append, List.length_singleton]; omega)
    rw [cI_append, cI_one] at ih
    rw [show ((0 : Nat) : Int) = 0 from rfl] at ih
    rw [ih]
    simp [List.replicate_succ]
theorem padded_f (b : List Nat) (hb : b.length < 1000000000000) : clepsydraref02_padded.f 74 (cI b) = some (cI (b ++ padN b.length)) := by
  unfold clepsydraref02_padded.f
  simp only [List.nil_append, List.length_nil, cI_length, Nat.zero_add]
  rw [if_pos (by omega)]
  simp only [Option.bind_some, cI_length]
  rw [if_pos (by omega)]
  obtain ⟨j, hj⟩ : ∃ j, 63 - (b.length + 8) % 64 = j := ⟨_, rfl⟩
  have h := pad_l0 b hb j (64 - j) (b ++ [128]) (by simp; omega) (by omega) (by simp; omega)
  rw [show 64 - j + j + 10 = 74 by omega, cI_append, cI_one] at h
  rw [show ((128 : Nat) : Int) = 128 from rfl] at h
  rw [h]
  unfold padN
  rw [hj]
  simp
theorem sch_l1 (p : List Nat) (hp : p.length = 64) (b8 : B8 p) (xs : List Nat) (t : Nat) (ht : t < 16) (k : Nat) (hx : xs.length < 100) :
    clepsydraref02_schedule.l1 (k + 5) (cI p) (cI xs) (t : Int) 0 0 = clepsydraref02_schedule.l0 k (cI p) (cI (xs ++ [be4 p t])) ((t + 1 : Nat) : Int) := by
  have s : ∀ (k i y : Nat), i < 4 → clepsydraref02_schedule.l1 (k + 1) (cI p) (cI xs) (t : Int) (y : Int) (i : Int) = clepsydraref02_schedule.l1 k (cI p) (cI xs) (t : Int) (((y * 256 + gd p (4 * t + i)) % 4294967296 : Nat) : Int) ((i + 1 : Nat) : Int) := by
    intro k i y hi
    have e1 : wrap64 (wrap64 (4 * (t : Int)) + (i : Int)) = ((4 * t + i : Nat) : Int) := by unfold wrap64; omega
    have e2 : wrap64 ((i : Int) + 1) = ((i + 1 : Nat) : Int) := by unfold wrap64; omega
    have hc : (i : Int) < 4 := by omega
    have hg := b8.gd (4 * t + i)
    rw [clepsydraref02_schedule.l1, if_pos hc, e1, e2, if_pos (by omega), cI_length, if_pos (by omega), cI_rd]
    congr 1
    omega
  have e2 : wrap64 ((t : Int) + 1) = ((t + 1 : Nat) : Int) := by unfold wrap64; omega
  have hc : ¬ ((4 : Nat) : Int) < 4 := by omega
  have h0 := s (k + 4) 0 0 (by omega)
  have q0 := b8.gd (4 * t)
  have q1 := b8.gd (4 * t + 1)
  have q2 := b8.gd (4 * t + 2)
  have q3 := b8.gd (4 * t + 3)
  rw [show ((0 : Nat) : Int) = 0 from rfl] at h0
  rw [h0, s (k + 3) 1 _ (by omega), s (k + 2) 2 _ (by omega), s (k + 1) 3 _ (by omega), clepsydraref02_schedule.l1, if_neg hc, cI_length, if_pos (by omega), e2, cI_append, cI_one]
  congr 3
  unfold be4
  rw [Nat.add_zero]
  omega
theorem sch_sum (s1 w7 s0 w16 : Nat) : ((((((s1 : Nat) : Int) + (w7 : Int)) % 4294967296 + (s0 : Int)) % 4294967296 + (w16 : Int)) % 4294967296) = (((w16 + s0 + w7 + s1) % 4294967296 : Nat) : Int) := by omega
theorem sch_l2 (F : Nat → List Nat) (lF : ∀ m, (F m).length = m + 16) (bF : ∀ m, B32 (F m)) (nF : ∀ m, F (m + 1) = F m ++ [nextW (F m) (m + 16)]) : ∀ (j k m : Nat), m + j = 48 → clepsydraref02_schedule.l2 (k + j + 1) (cI (F m)) ((m + 16 : Nat) : Int) = some (cI (F 48)) := by
  intro j
  induction j with
  | zero =>
    intro k m hm
    obtain rfl : m = 48 := by omega
    have hc : ¬ ((48 + 16 : Nat) : Int) < 64 := by omega
    rw [clepsydraref02_schedule.l2, if_neg hc]
  | succ j ih0 =>
    intro k m hm
    have ih := ih0 k (m + 1) (by omega)
    obtain ⟨R, hR⟩ : ∃ z, F 48 = z := ⟨_, rfl⟩
    rw [hR] at ih ⊢
    rw [nF m] at ih
    have bx := bF m
    have hl := lF m
    obtain ⟨xs, hxs⟩ : ∃ z, F m = z := ⟨_, rfl⟩
    obtain ⟨t, ht⟩ : ∃ t, m + 16 = t := ⟨_, rfl⟩
    rw [show m + 1 + 16 = t + 1 by omega, hxs, ht] at ih
    rw [hxs, ht] at hl
    rw [hxs] at bx
    rw [hxs, ht]
    have c0 : (t : Int) < 64 := by omega
    have p1 : (0 : Int) ≤ ((t - 15 : Nat) : Int) := by omega
    have p2 : ((t - 15 : Nat) : Int) < (xs.length : Int) := by omega
    have p3 : (0 : Int) ≤ ((t - 2 : Nat) : Int) := by omega
    have p4 : ((t - 2 : Nat) : Int) < (xs.length : Int) := by omega
    have p5 : (0 : Int) ≤ ((t - 7 : Nat) : Int) := by omega
    have p6 : ((t - 7 : Nat) : Int) < (xs.length : Int) := by omega
    have p7 : (0 : Int) ≤ ((t - 16 : Nat) : Int) := by omega
    have p8 : ((t - 16 : Nat) : Int) < (xs.length : Int) := by omega
    have p9 : xs.length < 35184372088832 := by omega
    have kk : k + (j + 1) + 1 = (k + j + 1) + 1 := by omega
    have e1 : wrap64 ((t : Int) - 15) = ((t - 15 : Nat) : Int) := by unfold wrap64; omega
    have e2 : wrap64 ((t : Int) - 2) = ((t - 2 : Nat) : Int) := by unfold wrap64; omega
    have e3 : wrap64 ((t : Int) - 7) = ((t - 7 : Nat) : Int) := by unfold wrap64; omega
    have e4 : wrap64 ((t : Int) - 16) = ((t - 16 : Nat) : Int) := by unfold wrap64; omega
    have e5 : wrap64 ((t : Int) + 1) = ((t + 1 : Nat) : Int) := by unfold wrap64; omega
    have x1 := bx.gd (t - 15)
    have x2 := bx.gd (t - 2)
    have x3 := bx.gd (t - 7)
    have x4 := bx.gd (t - 16)
    have r1 := turned_f x1 (n := 7) (by decide) (by decide)
    have r2 := turned_f x1 (n := 18) (by decide) (by decide)
    have r3 := turned_f x2 (n := 17) (by decide) (by decide)
    have r4 := turned_f x2 (n := 19) (by decide) (by decide)
    rw [show ((7 : Nat) : Int) = 7 from rfl] at r1
    rw [show ((18 : Nat) : Int) = 18 from rfl] at r2
    rw [show ((17 : Nat) : Int) = 17 from rfl] at r3
    rw [show ((19 : Nat) : Int) = 19 from rfl] at r4
    have v1 := rot_lt x1 7
    have v2 := rot_lt x1 18
    have v3 := rot_lt x2 17
    have v4 := rot_lt x2 19
    have hxor : ∀ a b : Nat, a < 4294967296 → b < 4294967296 → Go.bits .xor .u32 (a : Int) (b : Int) = ((a ^^^ b : Nat) : Int) := fun a b ha hb => u32_xor_nat _ _ ha hb
    rw [kk, clepsydraref02_schedule.l2, if_pos c0, e1, if_pos p1, cI_length, if_pos p2, e2, if_pos p3, if_pos p4, cI_rd, cI_rd, r1, r2, r3, r4]
    simp only [Option.bind_some]
    rw [e3, if_pos p5, if_pos p6, e4, if_pos p7, if_pos p8, if_pos p9, cI_rd, cI_rd, e5]
    rw [hxor _ _ v3 v4, hxor _ _ v1 v2]
    rw [show ((gd xs (t - 2) : Nat) : Int) / 1024 = ((gd xs (t - 2) / 1024 : Nat) : Int) from rfl, show ((gd xs (t - 15) : Nat) : Int) / 8 = ((gd xs (t - 15) / 8 : Nat) : Int) from rfl]
    rw [hxor _ _ (xor32 v3 v4) (Nat.lt_of_le_of_lt (Nat.div_le_self _ _) x2), hxor _ _ (xor32 v1 v2) (Nat.lt_of_le_of_lt (Nat.div_le_self _ _) x1)]
    rw [← ih, cI_append, cI_one]
    rw [sch_sum]
    rfl
theorem sched_step {ws : List Nat} (hw : ws.length = 16) (m : Nat) : sched (m + 1) ws = sched m ws ++ [nextW (sched m ws) (m + 16)] := by
  have hl := sched_length m ws
  rw [hw] at hl
  show sched m ws ++ [nextW (sched m ws) (sched m ws).length] = _
  rw [hl]
theorem w16_take (p : List Nat) (t : Nat) : (List.range (t + 1)).map (be4 p) = (List.range t).map (be4 p) ++ [be4 p t] := by simp [List.range_succ]
theorem sch_l0 (p : List Nat) (hp : p.length = 64) (b8 : B8 p) : ∀ (j k : Nat), j ≤ 16 → clepsydraref02_schedule.l0 (k + 6 * j + 50) (cI p) (cI ((List.range (16 - j)).map (be4 p))) ((16 - j : Nat) : Int) = some (cI (sched 48 (w16 p)))
  | 0, k, _ => by
    have h := sch_l2 (fun m => sched m (w16 p)) (fun m => by rw [sched_length, w16_length]) (fun m => sched_b32 (w16_b32 b8) m) (fun m => sched_step (w16_length p) m) 48 k 0 (by omega)
    rw [show k + 6 * 0 + 50 = (k + 48 + 1) + 1 by omega, clepsydraref02_schedule.l0, if_neg (by omega)]
    exact h
  | j + 1, k, hj => by
    have ih := sch_l0 p hp b8 j k (by omega)
    obtain ⟨t, ht⟩ : ∃ t, 16 - (j + 1) = t := ⟨_, rfl⟩
    rw [show 16 - j = t + 1 by omega, w16_take] at ih
    have c0 : (t : Int) < 16 := by omega
    rw [ht, show k + 6 * (j + 1) + 50 = (k + 6 * j + 50 + 5) + 1 by omega, clepsydraref02_schedule.l0, if_pos c0, sch_l1 p hp b8 _ t (by omega) _ (by simp; omega)]
    exact ih
theorem schedule_f (p : List Nat) (hp : p.length = 64) (b8 : B8 p) : clepsydraref02_schedule.f 146 (cI p) = some (cI (sched 48 (w16 p))) := sch_l0 p hp b8 16 0 (by omega)
end Go.Proofs.Ytiimflmbcgnbeaa

/- The document's digest: contracts of its pieces. -/
namespace Go.Proofs.Ytiimflmbcgnbeaa
set_option linter.unusedSimpArgs false
set_option linter.unusedVariables false
open Go.RowKit Go.Proofs.YtiimflmbcgnbeaaW.PrintWords Go.Proofs.YtiimflmbcgnbeaaW.PrintLast Go.Proofs.YtiimflmbcgnbeaaW.PrintMore Go.Proofs.Ytiimflmbcgnbeaa.Sa

theorem rconstants_any (w : World) : Calls Try.prog 50 #[] w fun e w' => ∃ A c, e = .returned (.slice A 64 c) ∧ Own .u32 41 w' w.heap.size A 64 c kN ∧ Below w.heap.size w w' :=
  (clepsydraref02_constants.calls _ w constants_f).mono fun e w' ⟨v, he, hr, hb⟩ => by
    obtain ⟨A, c, rfl, ho⟩ := own_of_ret hr
    exact ⟨A, c, he, ho, hb⟩
theorem rfirst_any (w : World) : Calls Try.prog 51 #[] w fun e w' => ∃ A c, e = .returned (.slice A 8 c) ∧ Own .u32 41 w' w.heap.size A 8 c hN ∧ Below w.heap.size w w' :=
  (clepsydraref02_first.calls _ w first_f).mono fun e w' ⟨v, he, hr, hb⟩ => by
    obtain ⟨A, c, rfl, ho⟩ := own_of_ret hr
    exact ⟨A, c, he, ho, hb⟩
theorem rpadded_any (w : World) {b : List Nat} {B : Option Addr} {n d : Nat} (hb : Rd .u8 w B n d b) (hn : n < 1000000000000) :
    Calls Try.prog 52 #[.slice B n d] w fun e w' => ∃ A c, e = .returned (.slice A (b ++ padN n).length c) ∧ Own .u8 5 w' w.heap.size A (b ++ padN n).length c (b ++ padN n) ∧ Below w.heap.size w w' := by
  obtain rfl := hb.len
  have h := clepsydraref02_padded.calls 74 B d (cI b) _ w (C_of_Rd hb) (by rw [cI_length]; exact hb.cap) (padded_f b hn)
  rw [cI_length] at h
  exact h.mono fun e w' ⟨v, he, hr, hb⟩ => by
    obtain ⟨A, c, rfl, ho⟩ := own_of_ret hr
    exact ⟨A, c, he, ho, hb⟩
theorem rschedule_any (w : World) {p : List Nat} {B : Option Addr} {d : Nat} (hp : Rd .u8 w B 64 d p) (b8 : B8 p) :
    Calls Try.prog 53 #[.slice B 64 d] w fun e w' => ∃ A c, e = .returned (.slice A 64 c) ∧ Own .u32 41 w' w.heap.size A 64 c (sched 48 (w16 p)) ∧ Below w.heap.size w w' := by
  have h := clepsydraref02_schedule.calls 146 B d (cI p) _ w (C_of_Rd hp) (by rw [cI_length, hp.len]; exact hp.cap) (schedule_f p hp.len b8)
  rw [cI_length, hp.len] at h
  exact h.mono fun e w' ⟨v, he, hr, hb⟩ => by
    obtain ⟨A, c, rfl, ho⟩ := own_of_ret hr
    have hl : (sched 48 (w16 p)).length = 64 := by rw [sched_length, w16_length]
    rw [hl] at he ho
    exact ⟨A, c, he, ho, hb⟩
theorem rjoin_any (w : World) {a b : List Nat} {A B : Option Addr} {n m c d : Nat} (ha : Rd .u8 w A n c a) (hb : Rd .u8 w B m d b) (hlen : n + m < 140737488355328) :
    Calls Try.prog 19 #[.slice A n c, .slice B m d] w fun e w' => ∃ A' c', e = .returned (.slice A' (n + m) c') ∧ Own .u8 5 w' w.heap.size A' (n + m) c' (a ++ b) ∧ Below w.heap.size w w' := by
  obtain rfl := ha.len
  obtain rfl := hb.len
  have h := clepsydraref02_Join.calls A c (cI a) B d (cI b) _ w (C_of_Rd ha) (by rw [cI_length]; exact ha.cap) (C_of_Rd hb) (by rw [cI_length]; exact hb.cap) (join_f a b hlen)
  rw [cI_length, cI_length] at h
  exact h.mono fun e w' ⟨v, he, hr, hb⟩ => by
    obtain ⟨A, c, rfl, ho⟩ := own_of_ret hr
    rw [List.length_append] at he ho
    exact ⟨A, c, he, ho, hb⟩
theorem rturned_any (w : World) {x n r : Nat} (z : Int) (hz : z = (n : Int)) (hx : x < 4294967296) (h0 : 0 < n) (h1 : n < 32) (hr : rot x n = r) :
    Calls Try.prog 54 #[.int .u32 x, .int .i64 z] w fun e w' => e = .returned (.int .u32 ((r : Nat) : Int)) ∧ ∃ k, w' = w.drewN k := by
  subst hz hr
  exact (clepsydraref02_turned.calls _ _ _ w (turned_f hx h0 h1)).mono fun e w' ⟨he, hd⟩ => ⟨he, hd.out⟩
theorem quiet_add {P : Program} {f : FuncId} {args : Array Value} {w : World} {a n : Nat} {v : Value}
    (h : Calls P f args (w.drewN (a + n)) fun e w' => e = .returned v ∧ ∃ m, w' = (w.drewN (a + n)).drewN m) :
    Calls P f args (w.drewN (a + n)) fun e w'' => e = .returned v ∧ ∃ m, w'' = w.drewN (a + m) :=
  h.mono fun _ _ ⟨he, m, hm⟩ => ⟨he, n + m, by rw [hm, World.drewN_drewN, Nat.add_assoc]⟩
/-- the words with all behind place s moved up by one -/
def shf (v : List Nat) (s : Nat) : List Nat := v.take (s + 1) ++ (v.drop s).take (7 - s)
theorem shf_length {v : List Nat} (h : v.length = 8) {s : Nat} (hs : s ≤ 7) : (shf v s).length = 8 := by
  simp [shf, h]; omega
theorem shf_seven {v : List Nat} (h : v.length = 8) : shf v 7 = v := by
  unfold shf; rw [List.take_of_length_le (by omega)]; simp
theorem shf_gd {v : List Nat} (h : v.length = 8) {s : Nat} (h0 : 0 < s) (hs : s ≤ 7) : gd (shf v s) (s - 1) = gd v (s - 1) := by
  unfold shf
  rw [gd_append_left (by rw [List.length_take]; omega), gd_take (by omega)]
theorem shf_set {v : List Nat} (h : v.length = 8) {s : Nat} (h0 : 0 < s) (hs : s ≤ 7) : (shf v s).set s (gd v (s - 1)) = shf v (s - 1) := by
  match v, h with
  | [_, _, _, _, _, _, _, _], _ =>
    match s, h0, hs with
    | 1, _, _ => rfl
    | 2, _, _ => rfl
    | 3, _, _ => rfl
    | 4, _, _ => rfl
    | 5, _, _ => rfl
    | 6, _, _ => rfl
    | 7, _, _ => rfl
theorem shf_end {v : List Nat} (h : v.length = 8) (x y : Nat) : ((shf v 0).set 0 x).set 4 y = [x, gd v 0, gd v 1, gd v 2, y, gd v 4, gd v 5, gd v 6] := by
  match v, h with
  | [_, _, _, _, _, _, _, _], _ => rfl
theorem shf_four {v : List Nat} (h : v.length = 8) (x : Nat) : gd ((shf v 0).set 0 x) 4 = gd v 3 := by
  match v, h with
  | [_, _, _, _, _, _, _, _], _ => rfl
/-- the i-th byte of the digest -/
theorem outN_gd (ws : List Nat) (t r : Nat) (ht : t < ws.length) (hr : r < 4) : gd (outN ws) (4 * t + r) = gd ws t / 2 ^ (24 - 8 * r) % 256 := by
  have e : outN ws = outN (ws.take t) ++ outN (ws.drop t) := by
    unfold outN
    rw [← List.flatMap_append, List.take_append_drop]
  have hl : (outN (ws.take t)).length = 4 * t := by rw [outN_length, List.length_take]; omega
  rw [e, gd_append_right (by omega), hl, show 4 * t + r - 4 * t = r by omega, List.drop_eq_getElem_cons ht, gd_lt ht]
  match r, hr with
  | 0, _ => rfl
  | 1, _ => rfl
  | 2, _ => rfl
  | 3, _ =>
    show ws[t] % 256 = ws[t] / 1 % 256
    rw [Nat.div_one]
/-- the digest's bytes, with i of them laid -/
def outJ (ws : List Nat) (i : Nat) : List Nat := (outN ws).take i ++ List.replicate (32 - i) 0
theorem outJ_length {ws : List Nat} (h : ws.length = 8) {i : Nat} (hi : i ≤ 32) : (outJ ws i).length = 32 := by
  unfold outJ
  rw [List.length_append, List.length_take, outN_length, List.length_replicate]; omega
theorem outJ_set {ws : List Nat} (h : ws.length = 8) {i : Nat} (hi : i < 32) : (outJ ws i).set i (gd (outN ws) i) = outJ ws (i + 1) := by
  have hl : (outN ws).length = 32 := by rw [outN_length, h]
  unfold outJ
  obtain ⟨k, hk⟩ : ∃ k, 32 - i = k + 1 := ⟨31 - i, by omega⟩
  rw [hk, show 32 - (i + 1) = k by omega, List.set_append_right _ _ (by rw [List.length_take]; omega), List.length_take, Nat.min_eq_left (by omega), Nat.sub_self, List.take_succ_eq_append_getElem (by omega), List.replicate_succ, List.set_cons_zero, gd_lt (by omega), List.append_assoc]
  rfl
theorem outJ_zero (ws : List Nat) : outJ ws 0 = List.replicate 32 0 := by simp [outJ]
theorem outJ_end {ws : List Nat} (h : ws.length = 8) : outJ ws 32 = outN ws := by
  unfold outJ
  rw [List.take_of_length_le (by rw [outN_length, h]; decide)]; simp
theorem shaN_eq (b : List Nat) (j : Nat) (h : 64 * j = (b ++ padN b.length).length) : outN (foldB hN (b ++ padN b.length) j) = shaN b := by
  unfold shaN stN
  rw [← h, Nat.mul_div_cancel_left j (by omega)]
theorem pad_full (b : List Nat) : (b ++ padN b.length).length % 64 = 0 := by
  rw [List.length_append, padN_length]; omega
end Go.Proofs.Ytiimflmbcgnbeaa

/- The document's digest: the walk. -/
namespace Go.Proofs.Ytiimflmbcgnbeaa
set_option linter.unusedSimpArgs false
set_option linter.unusedVariables false
open Go.RowKit

theorem info_u32 : (Try.prog.info? 41).map (fun i => (i.zero, i.size, i.bytes)) = some (some (.int .u32 0), 1, 4) := by kernel_rfl
/-- a slot of a row -/
theorem Own.slot {w : World} {k : IntKind} {e : TypeId} {base g n c : Nat} {xs : List Nat} (h : Own k e w base (some ⟨g, 0, none⟩) n c xs) {j x : Nat} (hj : j < n) (hx : gd xs j = x) : w.cell? ⟨g, j, none⟩ = some (.int k (x : Int)) := by
  rw [h.cellAt hj, hx]
theorem set_same (l : List Nat) (j : Nat) : l.set j (gd l j) = l := by
  apply List.ext_getElem (by simp)
  intro i h1 h2
  rw [List.getElem_set]
  split
  · rename_i e; subst e; exact gd_lt h2
  · rfl
theorem shr_cast (x k : Nat) : ((x / 2 ^ k % 256 : Nat) : Int) = (x : Int) / 2 ^ k % 256 := by
  rw [Int.natCast_emod, Int.natCast_ediv, Int.natCast_pow]; rfl
set_option maxRecDepth 100000 in
set_option maxHeartbeats 20000000 in
theorem refSum_any (w : World) {b : List Nat} {B : Option Addr} {n d : Nat} (hb : Rd .u8 w B n d b) (b8 : B8 b) (hn : n < 1000000000000) :
    Calls Try.prog 21 #[.slice B n d] w fun e w' => e = .returned (.agg (va .u8 (shaN b))) ∧ Below w.heap.size w w' := by
  have hbl := hb.len
  have B8' := Lib.hid b8
  clear b8
  go_enter Try.func21, Try.ntmps21
  go_upto_region 1 with (fail)
  rw [show Obj.cells #[.int .u8 0, .int .u8 0, .int .u8 0, .int .u8 0, .int .u8 0, .int .u8 0, .int .u8 0, .int .u8 0, .int .u8 0, .int .u8 0, .int .u8 0, .int .u8 0, .int .u8 0, .int .u8 0, .int .u8 0, .int .u8 0, .int .u8 0, .int .u8 0, .int .u8 0, .int .u8 0, .int .u8 0, .int .u8 0, .int .u8 0, .int .u8 0, .int .u8 0, .int .u8 0, .int .u8 0, .int .u8 0, .int .u8 0, .int .u8 0, .int .u8 0, .int .u8 0] 26 = Obj.cells (va .u8 (List.replicate 32 0)) 26 from rfl]
  have ho := Bk.new w 26 (va .u8 (List.replicate 32 0))
  have hl1 := (Below.refl w.heap.size w).alloc (Nat.le_refl _) (.cells (va .u8 (List.replicate 32 0)) 26)
  have hs1 : (w.alloc (.cells (va .u8 (List.replicate 32 0)) 26)).heap.size = w.heap.size + 1 := by simp
  obtain ⟨g0, hg0⟩ : ∃ z, w.heap.size = z := ⟨_, rfl⟩
  generalize w.alloc (.cells (va .u8 (List.replicate 32 0)) 26) = w1 at ho hl1 hs1 ⊢
  rw [hg0] at ho hl1 hs1 ⊢
  have hb1 := hb.below (by rw [hg0]; exact hl1)
  go_upto_region 2 with (first
    | (go_at_call 50; refine (rconstants_any _).mono ?_; rintro e w2 ⟨A3, c3, rfl, ok, bk⟩)
    | (go_at_call 51; refine (rfirst_any _).mono ?_; rintro e w3 ⟨A4, c4, rfl, oh, bh⟩))
  have hb3 := (hb1.below bk).below bh
  have hsk := bk.size
  have hsh := bh.size
  obtain ⟨T, hT⟩ : ∃ z, b ++ padN n = z := ⟨_, rfl⟩
  obtain ⟨L, hL⟩ : ∃ z, T.length = z := ⟨_, rfl⟩
  have hpad := rpadded_any _ hb3 hn
  rw [hT, hL] at hpad
  go_upto_region 3 with (go_at_call 52; refine hpad.mono ?_; rintro e w4 ⟨A5, c5, rfl, ot, bt⟩)
  clear hpad
  have hst := bt.size
  obtain ⟨gk, rfl, hk1, hk2⟩ := ok.blk (by omega)
  obtain ⟨gh, rfl, hh1, hh2⟩ := oh.blk (by omega)
  have ok4 := (ok.below bh).below bt
  have oh4 := oh.below bt
  have ho4 : Bk w4 g0 26 (va .u8 (List.replicate 32 0)) := ((ho.below bk (by omega)).below bh (by omega)).below bt (by omega)
  have bel4 : Below g0 w w4 := ((hl1.trans (bk.mono (by omega))).trans (bh.mono (by omega))).trans (bt.mono (by omega))
  have hTm : T.length % 64 = 0 := by rw [← hT, ← hbl]; exact pad_full b
  have hTl : T.length < 2000000000000 := by rw [← hT, List.length_append, padN_length]; omega
  have T8 : B8 T := by rw [← hT]; exact B8'.out.append (padN_b8 _)
  rw [hL] at hTm hTl
  have HFIN := Lib.hid (show ∀ j, 64 * j = L → outN (foldB hN T j) = shaN b from fun j hj => by
    rw [← hT, ← hbl]; exact shaN_eq b j (by rw [hbl, hT, hL]; exact hj))
  have OT := Lib.hid ot.rd
  have OTB := Lib.hid (show ∀ ad, A5 = some ad → ad.block ≠ gh by
    intro ad e
    rcases ot.ways with ⟨h, _⟩ | ⟨g, h, h1, _⟩
    · rw [h] at e; cases e
    · rw [h] at e; cases e; show g ≠ gh; omega)
  have OK := Lib.hid ok4
  have OH := Lib.hid oh4
  have HO := Lib.hid ho4
  have BEL4 := Lib.hid bel4
  have hcap := ot.rd.cap
  have T8' := Lib.hid T8
  have hkh : gk ≠ gh := by omega
  have hg4 : g0 < gk ∧ gk < w4.heap.size ∧ g0 < gh ∧ gh < w4.heap.size ∧ g0 ≤ w4.heap.size := by omega
  clear ok oh ot ok4 oh4 ho ho4 bel4 hb1 hb3 hb bk bh bt hl1 T8 hT
  go_wp2_with fail
  go_loopw [6] (fun i wr => ∃ a j : Nat, a = 64 * j ∧ a ≤ L ∧ i = .int .i64 (a : Int) ∧ Own .u32 41 wr 0 (some ⟨gh, 0, none⟩) 8 c4 (foldB hN T j) ∧ w4.grownBy wr (some gh)) (fun i _ => L - (intOf i).toNat)
  case atStart => exact ⟨0, 0, rfl, by omega, rfl, OH.out.lower (Nat.zero_le _), grown_refl _ _⟩
  case round =>
    obtain ⟨a, j, haj, haL, rfl, hh, hgr⟩ := hrel
    have HH := Lib.hid hh
    have HG := Lib.hid hgr
    have HAJ := Lib.hid haj
    have hstep : a < L → a + 64 ≤ L := by omega
    have hends : ¬ a < L → a = L := by omega
    have hsr := hgr.size
    clear hh hgr haj
    by_cases hlt : a < L
    · have t1 : (a : Int) < (L : Int) := by omega
      have i1 : IntKind.i64.wrap ((a : Int) + 64) = (a : Int) + 64 := IntWalk.i64_in _ (by omega)
      have haL2 := hstep hlt
      have hrt := OT.out.grown HG.out OTB.out
      have hp := hrt.cut (lo := a) (hi := a + 64) (by omega) haL2
      have X := run_cut A5 L c5 a (a + 64) (by omega) haL2 hcap
      rw [show a + 64 - a = 64 by omega] at hp X
      rw [Int.natCast_add] at X
      have X' : ∀ W : World, (Instr.slice 22 (.slice A5 L c5) (some (.int .i64 (a : Int))) (some (.int .i64 ((a : Int) + 64))) none).run Try.prog W = .ok (.slice (cutA c5 a A5) 64 (c5 - a)) W := X
      clear X
      obtain ⟨p, hpp⟩ : ∃ z, (T.drop a).take 64 = z := ⟨_, rfl⟩
      rw [hpp] at hp
      have p8 : B8 p := by rw [← hpp]; exact (T8'.out.drop a).take 64
      have hsch := rschedule_any wr hp p8
      go_upto_region 7 with (go_at_call 53; refine hsch.mono ?_; rintro e w7 ⟨A7, c7, rfl, ow, bw⟩)
      clear hsch hrt
      obtain ⟨g7, rfl, h71, h72⟩ := ow.blk (by omega)
      obtain ⟨H, hH⟩ : ∃ z, foldB hN T j = z := ⟨_, rfl⟩
      have hh7 := HH.out.below bw
      rw [hH] at hh7
      have lH : H.length = 8 := by rw [← hH]; exact foldB_length hN_length T j
      have bH : B32 H := by rw [← hH]; exact foldB_b32 hN_b32 T j
      have hg7 : w4.grownBy w7 (some gh) := grown_later HG.out (grown_of_below bw none) (fun k e => by cases e)
      obtain ⟨ws, hws⟩ : ∃ z, sched 48 (w16 p) = z := ⟨_, rfl⟩
      rw [hws] at ow
      have bws : B32 ws := by rw [← hws]; exact sched_b32 (w16_b32 p8) 48
      have lws : ws.length = 64 := by rw [← hws, sched_length, w16_length]
      obtain ⟨i0, hi0, hz0, hz1, hz2⟩ := info_parts info_u32
      go_upto_region 8 with (fail)
      go_wp2_with (at_builtin; refine wpList_append_rd _ rfl (.tmp 34) (.tmp 35) _ rfl .u32 w7.heap.size 41 i0 (.int .u32 0) 4 Try.underlying48 hi0 hz0 hz1 hz2 rfl none 0 0 [] rfl (Own.nil _ _ _ _) (some ⟨gh, 0, none⟩) 8 c4 H rfl hh7.rd (by unfold maxLen; omega) (by omega) (Nat.le_refl _) ?_)
      intro A8 c8 w8 ov bv _ _
      obtain ⟨gv, rfl, hv1, hv2⟩ := ov.blk (by omega)
      have OV := Lib.hid ((by simpa using ov : Own .u32 41 w8 w7.heap.size (some ⟨gv, 0, none⟩) 8 c8 H).lower (Nat.zero_le _))
      have hsv := bv.size
      have hh8 := hh7.below bv
      have ow8 := ow.below bv
      have hg8 : w4.grownBy w8 (some gh) := grown_later hg7 (grown_of_below bv none) (fun k e => by cases e)
      have ok8 := OK.out.grown hg8 (fun e => hkh (by cases e; rfl))
      have HH8 := Lib.hid hh8
      have OW8 := Lib.hid ow8
      have OK8 := Lib.hid ok8
      have HG8 := Lib.hid hg8
      have BH := Lib.hid bH
      have LH := Lib.hid lH
      have BWS := Lib.hid bws
      have LWS := Lib.hid lws
      have HWS := Lib.hid hws
      have HHH := Lib.hid hH
      have HPP := Lib.hid hpp
      have nv1 : gk ≠ gv := by omega
      have nv2 : g7 ≠ gv := by omega
      have nv3 : gh ≠ gv := by omega
      have hgv : gv < w8.heap.size := hv2
      have hgv4 : w4.heap.size ≤ gv := by omega
      have hw48 : w4.heap.size ≤ w8.heap.size := by omega
      clear ov ow hh7 hg7 hh8 ow8 hg8 ok8 bH lH bws lws hws hH hpp bv bw hp p8 hv1 hv2 h71 h72 hsv hi0 hz0 hz1 hz2 i0 X' HH
      go_wp2_with fail
      go_loopw [9] (fun i w2 => ∃ t : Nat, t ≤ 64 ∧ i = .int .i64 (t : Int) ∧ Own .u32 41 w2 0 (some ⟨gv, 0, none⟩) 8 c8 (rounds ws H t) ∧ w8.grownBy w2 (some gv)) (fun i _ => 64 - (intOf i).toNat)
      case atStart => exact ⟨0, by omega, rfl, OV.out, grown_refl _ _⟩
      case round =>
        obtain ⟨t, ht, rfl, hv, hgr⟩ := hrel
        have lv : (rounds ws H t).length = 8 := rounds_length LH.out t
        have vb : B32 (rounds ws H t) := rounds_b32 BH.out t
        obtain ⟨v, hvv⟩ : ∃ z, rounds ws H t = z := ⟨_, rfl⟩
        rw [hvv] at hv lv vb
        have HVV := Lib.hid hvv
        have HGR := Lib.hid hgr
        have HV := Lib.hid hv
        have LV := Lib.hid lv
        clear hvv
        by_cases hlt : t < 64
        ·
          -- <B>
          have a1 : (t : Int) < 64 := by omega
          have a0 : (0 : Int) ≤ (t : Int) := by omega
          obtain ⟨v0, ev0⟩ : ∃ z, gd v 0 = z := ⟨_, rfl⟩
          have lv0 : v0 < 4294967296 := by rw [← ev0]; exact vb.gd _
          have cv0 := hv.slot (j := 0) (by omega) ev0
          have Ev0 := Lib.hid ev0
          clear ev0
          obtain ⟨v1, ev1⟩ : ∃ z, gd v 1 = z := ⟨_, rfl⟩
          have lv1 : v1 < 4294967296 := by rw [← ev1]; exact vb.gd _
          have cv1 := hv.slot (j := 1) (by omega) ev1
          have Ev1 := Lib.hid ev1
          clear ev1
          obtain ⟨v2, ev2⟩ : ∃ z, gd v 2 = z := ⟨_, rfl⟩
          have lv2 : v2 < 4294967296 := by rw [← ev2]; exact vb.gd _
          have cv2 := hv.slot (j := 2) (by omega) ev2
          have Ev2 := Lib.hid ev2
          clear ev2
          obtain ⟨v3, ev3⟩ : ∃ z, gd v 3 = z := ⟨_, rfl⟩
          have lv3 : v3 < 4294967296 := by rw [← ev3]; exact vb.gd _
          have cv3 := hv.slot (j := 3) (by omega) ev3
          have Ev3 := Lib.hid ev3
          clear ev3
          obtain ⟨v4, ev4⟩ : ∃ z, gd v 4 = z := ⟨_, rfl⟩
          have lv4 : v4 < 4294967296 := by rw [← ev4]; exact vb.gd _
          have cv4 := hv.slot (j := 4) (by omega) ev4
          have Ev4 := Lib.hid ev4
          clear ev4
          obtain ⟨v5, ev5⟩ : ∃ z, gd v 5 = z := ⟨_, rfl⟩
          have lv5 : v5 < 4294967296 := by rw [← ev5]; exact vb.gd _
          have cv5 := hv.slot (j := 5) (by omega) ev5
          have Ev5 := Lib.hid ev5
          clear ev5
          obtain ⟨v6, ev6⟩ : ∃ z, gd v 6 = z := ⟨_, rfl⟩
          have lv6 : v6 < 4294967296 := by rw [← ev6]; exact vb.gd _
          have cv6 := hv.slot (j := 6) (by omega) ev6
          have Ev6 := Lib.hid ev6
          clear ev6
          obtain ⟨v7, ev7⟩ : ∃ z, gd v 7 = z := ⟨_, rfl⟩
          have lv7 : v7 < 4294967296 := by rw [← ev7]; exact vb.gd _
          have cv7 := hv.slot (j := 7) (by omega) ev7
          have Ev7 := Lib.hid ev7
          clear ev7
          obtain ⟨kt, ekt⟩ : ∃ z, gd kN t = z := ⟨_, rfl⟩
          have ck := (OK8.out.grown hgr (fun e => nv1 (by cases e; rfl))).slot (j := t) (by omega) ekt
          have lkt : kt < 4294967296 := by rw [← ekt]; exact kN_b32.gd t
          obtain ⟨wt, ewt⟩ : ∃ z, gd ws t = z := ⟨_, rfl⟩
          have cw := (OW8.out.grown hgr (fun e => nv2 (by cases e; rfl))).slot (j := t) (by omega) ewt
          have lwt : wt < 4294967296 := by rw [← ewt]; exact BWS.out.gd t
          obtain ⟨r6, er6⟩ : ∃ z, rot v4 6 = z := ⟨_, rfl⟩
          have lr6 : r6 < 4294967296 := by rw [← er6]; exact rot_lt lv4 6
          have Cr6 := Lib.hid (fun W => rturned_any W (n := 6) 6 rfl lv4 (by omega) (by omega) er6)
          have Er6 := Lib.hid er6
          clear er6
          obtain ⟨r11, er11⟩ : ∃ z, rot v4 11 = z := ⟨_, rfl⟩
          have lr11 : r11 < 4294967296 := by rw [← er11]; exact rot_lt lv4 11
          have Cr11 := Lib.hid (fun W => rturned_any W (n := 11) 11 rfl lv4 (by omega) (by omega) er11)
          have Er11 := Lib.hid er11
          clear er11
          obtain ⟨r25, er25⟩ : ∃ z, rot v4 25 = z := ⟨_, rfl⟩
          have lr25 : r25 < 4294967296 := by rw [← er25]; exact rot_lt lv4 25
          have Cr25 := Lib.hid (fun W => rturned_any W (n := 25) 25 rfl lv4 (by omega) (by omega) er25)
          have Er25 := Lib.hid er25
          clear er25
          obtain ⟨r2, er2⟩ : ∃ z, rot v0 2 = z := ⟨_, rfl⟩
          have lr2 : r2 < 4294967296 := by rw [← er2]; exact rot_lt lv0 2
          have Cr2 := Lib.hid (fun W => rturned_any W (n := 2) 2 rfl lv0 (by omega) (by omega) er2)
          have Er2 := Lib.hid er2
          clear er2
          obtain ⟨r13, er13⟩ : ∃ z, rot v0 13 = z := ⟨_, rfl⟩
          have lr13 : r13 < 4294967296 := by rw [← er13]; exact rot_lt lv0 13
          have Cr13 := Lib.hid (fun W => rturned_any W (n := 13) 13 rfl lv0 (by omega) (by omega) er13)
          have Er13 := Lib.hid er13
          clear er13
          obtain ⟨r22, er22⟩ : ∃ z, rot v0 22 = z := ⟨_, rfl⟩
          have lr22 : r22 < 4294967296 := by rw [← er22]; exact rot_lt lv0 22
          have Cr22 := Lib.hid (fun W => rturned_any W (n := 22) 22 rfl lv0 (by omega) (by omega) er22)
          have Er22 := Lib.hid er22
          clear er22
          obtain ⟨q1, eq1⟩ : ∃ z, r6 ^^^ r11 = z := ⟨_, rfl⟩
          have lq1 : q1 < 4294967296 := by rw [← eq1]; exact xor32 lr6 lr11
          have kq1 : Go.bits .xor .u32 (r6 : Int) (r11 : Int) = (q1 : Int) := by rw [← eq1]; exact u32_xor_nat _ _ lr6 lr11
          have Eq1 := Lib.hid eq1
          clear eq1
          obtain ⟨q2, eq2⟩ : ∃ z, q1 ^^^ r25 = z := ⟨_, rfl⟩
          have lq2 : q2 < 4294967296 := by rw [← eq2]; exact xor32 lq1 lr25
          have kq2 : Go.bits .xor .u32 (q1 : Int) (r25 : Int) = (q2 : Int) := by rw [← eq2]; exact u32_xor_nat _ _ lq1 lr25
          have Eq2 := Lib.hid eq2
          clear eq2
          obtain ⟨s1, es1⟩ : ∃ z, (v7 + q2) % 4294967296 = z := ⟨_, rfl⟩
          have ls1 : s1 < 4294967296 := by rw [← es1]; exact Nat.mod_lt _ (by omega)
          have ks1 : IntKind.u32.wrap ((v7 : Int) + (q2 : Int)) = (s1 : Int) := by rw [← es1]; exact add_u32 _ _
          have Es1 := Lib.hid es1
          clear es1
          obtain ⟨f1, ef1⟩ : ∃ z, v4 &&& v5 = z := ⟨_, rfl⟩
          have lf1 : f1 < 4294967296 := by rw [← ef1]; exact and32 lv4
          have kf1 : Go.bits .and .u32 (v4 : Int) (v5 : Int) = (f1 : Int) := by rw [← ef1]; exact u32_and_nat _ _ lv4 lv5
          have Ef1 := Lib.hid ef1
          clear ef1
          obtain ⟨ne, ene⟩ : ∃ z, 4294967295 - v4 = z := ⟨_, rfl⟩
          have lne : ne < 4294967296 := by rw [← ene]; exact Nat.lt_of_le_of_lt (Nat.sub_le _ _) (by omega)
          have kne := not_u32 lv4 ene
          obtain ⟨f2, ef2⟩ : ∃ z, ne &&& v6 = z := ⟨_, rfl⟩
          have lf2 : f2 < 4294967296 := by rw [← ef2]; exact and32 lne
          have kf2 : Go.bits .and .u32 (ne : Int) (v6 : Int) = (f2 : Int) := by rw [← ef2]; exact u32_and_nat _ _ lne lv6
          have Ef2 := Lib.hid ef2
          clear ef2
          obtain ⟨f3, ef3⟩ : ∃ z, f1 ^^^ f2 = z := ⟨_, rfl⟩
          have lf3 : f3 < 4294967296 := by rw [← ef3]; exact xor32 lf1 lf2
          have kf3 : Go.bits .xor .u32 (f1 : Int) (f2 : Int) = (f3 : Int) := by rw [← ef3]; exact u32_xor_nat _ _ lf1 lf2
          have Ef3 := Lib.hid ef3
          clear ef3
          obtain ⟨s2, es2⟩ : ∃ z, (s1 + f3) % 4294967296 = z := ⟨_, rfl⟩
          have ls2 : s2 < 4294967296 := by rw [← es2]; exact Nat.mod_lt _ (by omega)
          have ks2 : IntKind.u32.wrap ((s1 : Int) + (f3 : Int)) = (s2 : Int) := by rw [← es2]; exact add_u32 _ _
          have Es2 := Lib.hid es2
          clear es2
          obtain ⟨s3, es3⟩ : ∃ z, (s2 + kt) % 4294967296 = z := ⟨_, rfl⟩
          have ls3 : s3 < 4294967296 := by rw [← es3]; exact Nat.mod_lt _ (by omega)
          have ks3 : IntKind.u32.wrap ((s2 : Int) + (kt : Int)) = (s3 : Int) := by rw [← es3]; exact add_u32 _ _
          have Es3 := Lib.hid es3
          clear es3
          obtain ⟨X, eX⟩ : ∃ z, (s3 + wt) % 4294967296 = z := ⟨_, rfl⟩
          have lX : X < 4294967296 := by rw [← eX]; exact Nat.mod_lt _ (by omega)
          have kX : IntKind.u32.wrap ((s3 : Int) + (wt : Int)) = (X : Int) := by rw [← eX]; exact add_u32 _ _
          have EX := Lib.hid eX
          clear eX
          obtain ⟨q3, eq3⟩ : ∃ z, r2 ^^^ r13 = z := ⟨_, rfl⟩
          have lq3 : q3 < 4294967296 := by rw [← eq3]; exact xor32 lr2 lr13
          have kq3 : Go.bits .xor .u32 (r2 : Int) (r13 : Int) = (q3 : Int) := by rw [← eq3]; exact u32_xor_nat _ _ lr2 lr13
          have Eq3 := Lib.hid eq3
          clear eq3
          obtain ⟨q4, eq4⟩ : ∃ z, q3 ^^^ r22 = z := ⟨_, rfl⟩
          have lq4 : q4 < 4294967296 := by rw [← eq4]; exact xor32 lq3 lr22
          have kq4 : Go.bits .xor .u32 (q3 : Int) (r22 : Int) = (q4 : Int) := by rw [← eq4]; exact u32_xor_nat _ _ lq3 lr22
          have Eq4 := Lib.hid eq4
          clear eq4
          obtain ⟨m1, em1⟩ : ∃ z, v0 &&& v1 = z := ⟨_, rfl⟩
          have lm1 : m1 < 4294967296 := by rw [← em1]; exact and32 lv0
          have km1 : Go.bits .and .u32 (v0 : Int) (v1 : Int) = (m1 : Int) := by rw [← em1]; exact u32_and_nat _ _ lv0 lv1
          have Em1 := Lib.hid em1
          clear em1
          obtain ⟨m2, em2⟩ : ∃ z, v0 &&& v2 = z := ⟨_, rfl⟩
          have lm2 : m2 < 4294967296 := by rw [← em2]; exact and32 lv0
          have km2 : Go.bits .and .u32 (v0 : Int) (v2 : Int) = (m2 : Int) := by rw [← em2]; exact u32_and_nat _ _ lv0 lv2
          have Em2 := Lib.hid em2
          clear em2
          obtain ⟨m12, em12⟩ : ∃ z, m1 ^^^ m2 = z := ⟨_, rfl⟩
          have lm12 : m12 < 4294967296 := by rw [← em12]; exact xor32 lm1 lm2
          have km12 : Go.bits .xor .u32 (m1 : Int) (m2 : Int) = (m12 : Int) := by rw [← em12]; exact u32_xor_nat _ _ lm1 lm2
          have Em12 := Lib.hid em12
          clear em12
          obtain ⟨m3, em3⟩ : ∃ z, v1 &&& v2 = z := ⟨_, rfl⟩
          have lm3 : m3 < 4294967296 := by rw [← em3]; exact and32 lv1
          have km3 : Go.bits .and .u32 (v1 : Int) (v2 : Int) = (m3 : Int) := by rw [← em3]; exact u32_and_nat _ _ lv1 lv2
          have Em3 := Lib.hid em3
          clear em3
          obtain ⟨m4, em4⟩ : ∃ z, m12 ^^^ m3 = z := ⟨_, rfl⟩
          have lm4 : m4 < 4294967296 := by rw [← em4]; exact xor32 lm12 lm3
          have km4 : Go.bits .xor .u32 (m12 : Int) (m3 : Int) = (m4 : Int) := by rw [← em4]; exact u32_xor_nat _ _ lm12 lm3
          have Em4 := Lib.hid em4
          clear em4
          obtain ⟨Y, eY⟩ : ∃ z, (q4 + m4) % 4294967296 = z := ⟨_, rfl⟩
          have lY : Y < 4294967296 := by rw [← eY]; exact Nat.mod_lt _ (by omega)
          have kY : IntKind.u32.wrap ((q4 : Int) + (m4 : Int)) = (Y : Int) := by rw [← eY]; exact add_u32 _ _
          have EY := Lib.hid eY
          clear eY
          obtain ⟨n0, en0⟩ : ∃ z, (X + Y) % 4294967296 = z := ⟨_, rfl⟩
          have ln0 : n0 < 4294967296 := by rw [← en0]; exact Nat.mod_lt _ (by omega)
          have kn0 : IntKind.u32.wrap ((X : Int) + (Y : Int)) = (n0 : Int) := by rw [← en0]; exact add_u32 _ _
          have En0 := Lib.hid en0
          clear en0
          obtain ⟨n4, en4⟩ : ∃ z, (v3 + X) % 4294967296 = z := ⟨_, rfl⟩
          have ln4 : n4 < 4294967296 := by rw [← en4]; exact Nat.mod_lt _ (by omega)
          have kn4 : IntKind.u32.wrap ((v3 : Int) + (X : Int)) = (n4 : Int) := by rw [← en4]; exact add_u32 _ _
          have En4 := Lib.hid en4
          clear en4
          have HLT := Lib.hid hlt
          have ENE := Lib.hid ene
          have EKT := Lib.hid ekt
          have EWT := Lib.hid ewt
          clear hv lv vb hgr hlt ene ekt ewt
          go_wp2_with fail
          go_quiet (fail)
          go_wp2_with fail
          refine wp_region_quiet_lit (by kernel_rfl) (by kernel_rfl) ?_
          iterate 4 quiet_step (fail)
          quiet_step ((go_at_call 54; exact quiet_add (Cr6.out _)))
          quiet_step (fail)
          quiet_step ((go_at_call 54; exact quiet_add (Cr11.out _)))
          iterate 2 quiet_step (fail)
          quiet_step ((go_at_call 54; exact quiet_add (Cr25.out _)))
          repeat quiet_step (fail)
          refine wpQuiet_nil ?_
          intro _ hw'
          obtain ⟨nq2, hw''⟩ := hw'
          subst hw''
          rw [World.drewN_drewN]
          generalize hn2 : nq + nq2 = n2
          clear hn2
          go_wp2_with fail
          refine wp_region_quiet_lit (by kernel_rfl) (by kernel_rfl) ?_
          quiet_step (fail)
          quiet_step ((go_at_call 54; exact quiet_add (Cr2.out _)))
          quiet_step (fail)
          quiet_step ((go_at_call 54; exact quiet_add (Cr13.out _)))
          iterate 2 quiet_step (fail)
          quiet_step ((go_at_call 54; exact quiet_add (Cr22.out _)))
          repeat quiet_step (fail)
          refine wpQuiet_nil ?_
          intro _ hw'
          obtain ⟨nq3, hw''⟩ := hw'
          subst hw''
          rw [World.drewN_drewN]
          generalize hn3 : n2 + nq3 = n3
          clear hn3
          have HRND := Lib.hid (show [n0, v0, v1, v2, n4, v4, v5, v6] = rounds ws H (t + 1) by
            show _ = rnd (rounds ws H t) (gd kN t) (gd ws t)
            rw [HVV.out, EKT.out, EWT.out]
            unfold rnd rndX rndY bg1 bg0 chN mjN
            rw [Ev0.out, Ev1.out, Ev2.out, Ev3.out, Ev4.out, Ev5.out, Ev6.out, Ev7.out, Er6.out, Er11.out, Er25.out, Eq1.out, Eq2.out, Ef1.out, ENE.out, Ef2.out, Ef3.out, sum5 Es1.out Es2.out Es3.out EX.out, Er2.out, Er13.out, Eq3.out, Er22.out, Eq4.out, Em1.out, Em2.out, Em12.out, Em3.out, Em4.out, EY.out, En0.out, En4.out])
          have HSH := Lib.hid (show ((shf v 0).set 0 n0).set 4 n4 = rounds ws H (t + 1) by
            rw [shf_end LV.out, Ev0.out, Ev1.out, Ev2.out, Ev4.out, Ev5.out, Ev6.out]; exact HRND.out)
          have HV3 := Lib.hid (show gd (shf v 0) 4 = v3 by
            have := shf_four LV.out (gd (shf v 0) 0)
            rw [← Ev3.out, ← this]
            rw [show (shf v 0).set 0 (gd (shf v 0) 0) = shf v 0 from set_same _ _]
            )
          have HVD := Lib.hid (show Own .u32 41 (wr.drewN n3) 0 (some ⟨gv, 0, none⟩) 8 c8 (shf v 7) by rw [shf_seven LV.out]; exact HV.out.drewN n3)
          have HGD := Lib.hid (grown_drewN HGR.out n3)
          generalize wr.drewN n3 = wd at HVD HGD ⊢
          clear Cr6 Cr11 Cr25 Cr2 Cr13 Cr22 HRND HV HGR cv0 cv1 cv2 cv3 cv4 cv5 cv6 cv7 ck cw
          clear Ev0 Ev1 Ev2 Ev3 Ev4 Ev5 Ev6 Ev7 Er6 Er11 Er25 Eq1 Eq2 Ef1 ENE Ef2 Ef3 Es1 Es2 Es3 EX Er2 Er13 Eq3 Er22 Eq4 Em1 Em2 Em12 Em3 Em4 EY En0 En4 EKT EWT HVV kq1 kq2 ks1 kf1 kne kf2 kf3 ks2 ks3 kX kq3 kq4 km1 km2 km12 km3 km4 kY
          go_wp2_with fail
          go_loopw [14] (fun i wx => ∃ s : Nat, s ≤ 7 ∧ i = .int .i64 (s : Int) ∧ Own .u32 41 wx 0 (some ⟨gv, 0, none⟩) 8 c8 (shf v s) ∧ wd.grownBy wx (some gv)) (fun i _ => (intOf i).toNat)
          case atStart => exact ⟨7, by omega, rfl, HVD.out, grown_refl _ _⟩
          case round =>
            obtain ⟨s, hs, rfl, hvs, hgs⟩ := hrel
            have HVS := Lib.hid hvs
            have HGS := Lib.hid hgs
            by_cases hs0 : 0 < s
            · obtain ⟨j1, hj1⟩ : ∃ z, s - 1 = z := ⟨_, rfl⟩
              have b0 : (0 : Int) < (s : Int) := by omega
              have b1 : IntKind.i64.wrap ((s : Int) - 1) = (s : Int) - 1 := IntWalk.i64_in _ (by omega)
              have b2 : ((s : Int) - 1).toNat = j1 := by omega
              have b3 : (0 : Int) ≤ (s : Int) - 1 := by omega
              have b4 : (s : Int) - 1 < 8 := by omega
              have b5 : (0 : Int) ≤ (s : Int) := by omega
              have b6 : (s : Int) < 8 := by omega
              have b7 : 1 ≤ (s : Int) := by omega
              have b8' : (s : Int) < 9 := by omega
              have b9 : (s : Int) - 1 = (j1 : Int) := by omega
              obtain ⟨y, hy⟩ : ∃ z, gd v j1 = z := ⟨_, rfl⟩
              have cy := hvs.slot (j := j1) (x := y) (by omega) (by rw [← hj1, shf_gd LV.out hs0 hs, hj1]; exact hy)
              obtain ⟨y2, hy2⟩ : ∃ z, gd (shf v s) s = z := ⟨_, rfl⟩
              have cs := hvs.slot (j := s) (by omega) hy2
              have fs := hvs.frozenAt s
              have HSET := Lib.hid (show (shf v s).set s y = shf v j1 by rw [← hy, ← hj1]; exact shf_set LV.out hs0 hs)
              have HJ1 := Lib.hid hj1
              clear hj1 hy hy2 hvs hgs
              go_wp2_with fail
              have hst := HVS.out.store s y
              rw [HSET.out] at hst
              exact ⟨⟨j1, by have := HJ1.out; omega, by go_num, hst, grown_set HGS.out s _⟩, by have := HJ1.out; simp [intOf]; omega⟩
            · obtain rfl : s = 0 := by omega
              obtain ⟨z0, hz0⟩ : ∃ z, gd (shf v 0) 0 = z := ⟨_, rfl⟩
              have d0 := hvs.slot (j := 0) (by omega) hz0
              have d4 := hvs.slot (j := 4) (by omega) HV3.out
              have f0 := hvs.frozenAt 0
              have f4 := hvs.frozenAt 4
              have i2 : IntKind.i64.wrap ((t : Int) + 1) = (t : Int) + 1 := IntWalk.i64_in _ (by omega)
              rw [show ((0 : Nat) : Int) = 0 from rfl]
              clear hz0 hvs hgs
              go_wp2_with fail
              have hst := (HVS.out.store 0 n0).store 4 n4
              rw [HSH.out] at hst
              have hlt := HLT.out
              exact ⟨⟨t + 1, hlt, by go_num, hst, grown_set (grown_set (grown_trans HGD.out HGS.out) 0 _) 4 _⟩, by simp [intOf]; omega⟩
          -- </B>
        · obtain rfl : t = 64 := by omega
          -- <C>
          have HG9 := Lib.hid (show w4.grownBy wr (some gh) from grown_later HG8.out hgr (fun k e => by cases e; exact hgv4))
          have hh9 := HH8.out.grown hgr (fun e => nv3 (by cases e; rfl))
          have HH9 := Lib.hid (show Own .u32 41 wr 0 (some ⟨gh, 0, none⟩) 8 c4 (addW H v 0 ++ H.drop 0) from hh9)
          have HV9 := Lib.hid hv
          have hsr9 := hgr.size
          clear hh9 hv lv vb hgr HV HGR
          rw [show ((64 : Nat) : Int) = (64 : Int) from rfl]
          go_wp2_with fail
          go_loopw [15] (fun i wz => ∃ s : Nat, s ≤ 8 ∧ i = .int .i64 (s : Int) ∧ Own .u32 41 wz 0 (some ⟨gh, 0, none⟩) 8 c4 (addW H v s ++ H.drop s) ∧ wr.grownBy wz (some gh)) (fun i _ => 8 - (intOf i).toNat)
          case atStart => exact ⟨0, by omega, rfl, HH9.out, grown_refl _ _⟩
          case round =>
            obtain ⟨s, hs, rfl, hhs, hgs⟩ := hrel
            have HHS := Lib.hid hhs
            have HGS := Lib.hid hgs
            by_cases hlt : s < 8
            · have hlH : s < H.length := by rw [LH.out]; exact hlt
              obtain ⟨x, ex⟩ : ∃ z, gd H s = z := ⟨_, rfl⟩
              obtain ⟨y, ey⟩ : ∃ z, gd v s = z := ⟨_, rfl⟩
              have cx := hhs.slot (j := s) (x := x) hlt (by rw [gd_addW hlH]; exact ex)
              have cy := (HV9.out.grown hgs (fun e => nv3 (by cases e; rfl))).slot (j := s) hlt ey
              have fx := hhs.frozenAt s
              obtain ⟨r, er⟩ : ∃ z, (x + y) % 4294967296 = z := ⟨_, rfl⟩
              have kr : IntKind.u32.wrap ((x : Int) + (y : Int)) = (r : Int) := by rw [← er]; exact add_u32 _ _
              have HSET := Lib.hid (set_addW (h := H) (v := v) (i := s) (y := r) hlH (by rw [ex, ey]; exact er))
              have b5 : (0 : Int) ≤ (s : Int) := by omega
              have b6 : (s : Int) < 8 := by omega
              have b1 : IntKind.i64.wrap ((s : Int) + 1) = (s : Int) + 1 := IntWalk.i64_in _ (by omega)
              clear ex ey er hhs hgs
              go_wp2_with fail
              go_still_tail 12, (by kernel_rfl)
              go_wp2_with fail
              have hst := HHS.out.store s r
              rw [HSET.out] at hst
              exact ⟨⟨s + 1, hlt, by go_num, hst.drewN 1, grown_drewN (grown_set HGS.out s _) 1⟩, by simp [intOf]; omega⟩
            · obtain rfl : s = 8 := by omega
              have e8 : addW H v 8 ++ H.drop 8 = foldB hN T (j + 1) := by
                rw [List.drop_of_length_le (Nat.le_of_eq LH.out), List.append_nil]
                show _ = blkN (foldB hN T j) T j
                unfold blkN blockN
                rw [HHH.out, ← HAJ.out, HPP.out, HWS.out, HVV.out]
              rw [e8] at hhs
              have HHE := Lib.hid hhs
              clear hhs HHS
              rw [show ((8 : Nat) : Int) = (8 : Int) from rfl]
              go_wp2_with fail
              have haj := HAJ.out
              exact ⟨⟨a + 64, j + 1, by omega, haL2, by go_num, HHE.out, grown_trans HG9.out hgs⟩, by simp [intOf]; omega⟩
          -- </C>
    · obtain rfl := hends hlt
      -- <D>
      obtain ⟨H, hH⟩ : ∃ z, foldB hN T j = z := ⟨_, rfl⟩
      have hfin := HFIN.out j HAJ.out.symm
      have hhl := HH.out
      rw [hH] at hfin hhl
      have lH : H.length = 8 := by rw [← hH]; exact foldB_length hN_length T j
      have bH : B32 H := by rw [← hH]; exact foldB_b32 hN_b32 T j
      have hbe : Below g0 w wr := BEL4.out.grown HG.out hg4.2.2.2.2 (fun k e => by cases e; omega)
      have hoo : Bk wr g0 26 (va .u8 (List.replicate 32 0)) := (HG.out.block _ HO.out.lt (fun e => by have := Option.some.inj e; omega)).trans HO.out
      have HFIN2 := Lib.hid hfin
      have HBE := Lib.hid hbe
      have HOO := Lib.hid hoo
      have HHL := Lib.hid hhl
      have LH := Lib.hid lH
      have BH := Lib.hid bH
      have hgo : g0 < wr.heap.size := by omega
      have hgh : gh < wr.heap.size := by omega
      clear hfin hhl lH bH hbe hoo hH HFIN HH OT OTB OK OH HO T8' HAJ hstep hends HG
      go_upto_region 26 with (fail)
      rw [show Obj.cells #[.int .u8 0, .int .u8 0, .int .u8 0, .int .u8 0, .int .u8 0, .int .u8 0, .int .u8 0, .int .u8 0, .int .u8 0, .int .u8 0, .int .u8 0, .int .u8 0, .int .u8 0, .int .u8 0, .int .u8 0, .int .u8 0, .int .u8 0, .int .u8 0, .int .u8 0, .int .u8 0, .int .u8 0, .int .u8 0, .int .u8 0, .int .u8 0, .int .u8 0, .int .u8 0, .int .u8 0, .int .u8 0, .int .u8 0, .int .u8 0, .int .u8 0, .int .u8 0] 26 = Obj.cells (va .u8 (List.replicate 32 0)) 26 from rfl]
      have hz := Bk.new wr 26 (va .u8 (List.replicate 32 0))
      have hbz := (Below.refl wr.heap.size wr).alloc (Nat.le_refl _) (.cells (va .u8 (List.replicate 32 0)) 26)
      have hsz : (wr.alloc (.cells (va .u8 (List.replicate 32 0)) 26)).heap.size = wr.heap.size + 1 := by simp
      obtain ⟨go, hgo2⟩ : ∃ z, wr.heap.size = z := ⟨_, rfl⟩
      have hhz := HHL.out.below hbz
      have hbez := HBE.out.trans (hbz.mono (Nat.le_of_lt hgo))
      have hoz := HOO.out.below hbz hgo
      generalize wr.alloc (.cells (va .u8 (List.replicate 32 0)) 26) = wz at hz hbz hsz hhz hbez hoz ⊢
      rw [hgo2] at hz hbz hsz hgo hgh ⊢
      have HZ := Lib.hid hz
      have HHZ := Lib.hid hhz
      have HBEZ := Lib.hid hbez
      have HOZ := Lib.hid hoz
      clear hz hbz hhz hbez hoz HHL HBE HOO hgo2
      go_wp2_with fail
      go_loopw [17] (fun i wx => ∃ s : Nat, s ≤ 32 ∧ i = .int .i64 (s : Int) ∧ Bk wx go 26 (va .u8 (outJ H s)) ∧ wz.grownBy wx (some go)) (fun i _ => 32 - (intOf i).toNat)
      case atStart => exact ⟨0, by omega, rfl, by rw [outJ_zero]; exact HZ.out, grown_refl _ _⟩
      case round =>
        obtain ⟨s, hs, rfl, hbk, hbl⟩ := hrel
        have HBK := Lib.hid hbk
        have HBL := Lib.hid hbl
        by_cases hlt : s < 32
        · obtain ⟨q, hq⟩ : ∃ z, s / 4 = z := ⟨_, rfl⟩
          obtain ⟨r, hr⟩ : ∃ z, s % 4 = z := ⟨_, rfl⟩
          have hs4 : 4 * q + r = s := by omega
          have hr4 : r < 4 := by omega
          have hq8 : q < 8 := by omega
          obtain ⟨x, ex⟩ : ∃ z, gd H q = z := ⟨_, rfl⟩
          have lx : x < 4294967296 := by rw [← ex]; exact BH.out.gd q
          have cx := (HHZ.out.grown hbl (fun e => by cases e; omega)).slot (j := q) hq8 ex
          have co := (hbk.cell s).trans (va_at .u8 (by rw [outJ_length LH.out hs]; exact hlt))
          have fo := hbk.frozen s
          have a1 : (s : Int) < 32 := by omega
          have a0 : (0 : Int) ≤ (s : Int) := by omega
          have d1 : (s : Int).tdiv 4 = (q : Int) := by rw [Int.tdiv_eq_ediv_of_nonneg (by omega)]; omega
          have d2 : (s : Int).tmod 4 = (r : Int) := by rw [Int.tmod_eq_emod_of_nonneg (by omega)]; omega
          obtain ⟨k, hk⟩ : ∃ z, 24 - 8 * r = z := ⟨_, rfl⟩
          have d3 : IntKind.i64.wrap (q : Int) = (q : Int) := IntWalk.i64_in _ (by omega)
          have d4 : IntKind.i64.wrap (r : Int) = (r : Int) := IntWalk.i64_in _ (by omega)
          have d5 : IntKind.i64.wrap (8 * (r : Int)) = 8 * (r : Int) := IntWalk.i64_in _ (by omega)
          have d6 : 24 - 8 * (r : Int) = (k : Int) := by omega
          have d7 : IntKind.i64.wrap (k : Int) = (k : Int) := IntWalk.i64_in _ (by omega)
          have d8 : IntKind.u64.wrap (k : Int) = (k : Int) := by rw [IntKind.wrap_u64]; omega
          have q0 : (0 : Int) ≤ (q : Int) := by omega
          have q1 : (q : Int) < 8 := by omega
          have k1 : (k : Int) < 32 := by omega
          have b1 : IntKind.i64.wrap ((s : Int) + 1) = (s : Int) + 1 := IntWalk.i64_in _ (by omega)
          have HSET := Lib.hid (show (outJ H s).set s (x / 2 ^ k % 256) = outJ H (s + 1) by
            have := outJ_set LH.out hlt
            rwa [← hs4, outN_gd H q r (by rw [LH.out]; exact hq8) hr4, hk, ex, hs4] at this)
          clear hq hr hs4 hk ex hbk hbl
          go_wp2_with fail
          have hst := HBK.out.set s (.int .u8 ((x / 2 ^ k % 256 : Nat) : Int))
          rw [va_set, HSET.out, shr_cast] at hst
          exact ⟨⟨s + 1, hlt, by go_num, hst, grown_set HBL.out s _⟩, by simp [intOf]; omega⟩
        · obtain rfl : s = 32 := by omega
          rw [outJ_end LH.out] at hbk
          have lo : (outN H).length = 32 := by rw [outN_length, LH.out]
          have hst := HOZ.out
          have ho2 := (hbl.block _ hst.lt (fun e => by have := Option.some.inj e; omega)).trans hst
          have hbe2 := HBEZ.out.grown hbl (by omega) (fun k e => by cases e; omega)
          clear HBK HBL hbl hst
          rw [show ((32 : Nat) : Int) = (32 : Int) from rfl]
          go_upto_region 30 with (fail)
          refine wp_region_lit ?_
          refine wpList_load_row rfl 26 _ rfl go (by kernel_rfl) 26 (va .u8 (outN H)) (0, 0) (.array 32 5) hbk Try.underlying26 rfl (out_info.trans (by rw [va_size, lo])) ?_
          refine wpList_store_row rfl 26 _ _ rfl g0 (va .u8 (outN H)) (by kernel_rfl) (by kernel_rfl) 26 (va .u8 (List.replicate 32 0)) ho2 (out_info.trans (by rw [va_size, lo])) (by rw [va_size, va_size, lo, List.length_replicate]) (va_all _ _) ?_
          refine wpList_nil ?_
          have hst := Bk.row ho2 (va .u8 (outN H))
          have hbl := below_row hbe2 (Nat.le_refl _) (va .u8 (outN H))
          generalize wr.setRow g0 (va .u8 (outN H)) = wq at hst hbl ⊢
          go_wp2_with fail
          rw [hg0, ← HFIN2.out]
          refine bodyPost_ret (v := .agg (va .u8 (outN H))) ?_ rfl ⟨rfl, hbl⟩
          simp [results, Try.results21, asAddr, Result.andThen]
          exact run_loadVar_row _ _ _ _ _ _ _ hst Try.underlying26 rfl (out_info.trans (by rw [va_size, lo]))
      -- </D>
end Go.Proofs.Ytiimflmbcgnbeaa

/- The document's digest: a digest's bytes, its beginning, a key's, an expansion: the walks. -/
namespace Go.Proofs.Ytiimflmbcgnbeaa
set_option linter.unusedSimpArgs false
set_option linter.unusedVariables false
open Go.RowKit Go.Proofs.YtiimflmbcgnbeaaW.PrintWords Go.Proofs.YtiimflmbcgnbeaaW.PrintMore Go.Proofs.Ytiimflmbcgnbeaa.Sa

theorem four_f (n : Nat) (hn : n < 4294967296) : clepsydraref02_Four.f 5 (n : Int) = some (cI (four4 n)) := by
  have s : ∀ (k i : Nat), i ≤ 3 → ∀ ys : List Nat, ys.length < 10 → clepsydraref02_Four.l0 (k + 1) (n : Int) (cI ys) (i : Int) = clepsydraref02_Four.l0 k (n : Int) (cI (ys ++ [n / 256 ^ i % 256])) (wrap64 ((i : Int) - 1)) := by
    intro k i hi ys hy
    have e1 : wrap64 (8 * (i : Int)) = ((8 * i : Nat) : Int) := by unfold wrap64; omega
    have e2 : IntKind.u64.wrap ((8 * i : Nat) : Int) = ((8 * i : Nat) : Int) := by rw [IntKind.wrap_u64]; omega
    have e3 : shr .u32 (n : Int) ((8 * i : Nat) : Int) % 256 = ((n / 256 ^ i % 256 : Nat) : Int) := by
      unfold shr
      rw [Int.toNat_natCast, Nat.min_eq_left (by show 8 * i ≤ 32; omega)]
      exact shr_by8 n i
    rw [clepsydraref02_Four.l0, e1, e2, if_pos (by omega), if_pos (by omega), cI_length, if_pos (by omega), e3, cI_append, cI_one]
  have h3 := s 4 3 (by omega) [] (by simp)
  have w3 : wrap64 (((3 : Nat) : Int) - 1) = ((2 : Nat) : Int) := by unfold wrap64; omega
  have w2 : wrap64 (((2 : Nat) : Int) - 1) = ((1 : Nat) : Int) := by unfold wrap64; omega
  have w1 : wrap64 (((1 : Nat) : Int) - 1) = ((0 : Nat) : Int) := by unfold wrap64; omega
  have w0 : wrap64 (((0 : Nat) : Int) - 1) = -1 := by unfold wrap64; omega
  unfold clepsydraref02_Four.f
  rw [show (3 : Int) = ((3 : Nat) : Int) from rfl, show ([] : List Int) = cI [] from rfl, h3, w3, s 3 2 (by omega) _ (by simp), w2, s 2 1 (by omega) _ (by simp), w1, s 1 0 (by omega) _ (by simp), w0]
  rw [clepsydraref02_Four.l0, if_neg (by omega)]
  simp [four4]
theorem rfour_any (w : World) {n : Nat} (hn : n < 4294967296) :
    Calls Try.prog 59 #[.int .u32 (n : Int)] w fun e w' => ∃ A c, e = .returned (.slice A 4 c) ∧ Own .u8 5 w' w.heap.size A 4 c (four4 n) ∧ Below w.heap.size w w' :=
  (clepsydraref02_Four.calls 5 _ _ w (four_f n hn)).mono fun e w' ⟨v, he, hr, hb⟩ => by
    obtain ⟨A, c, rfl, ho⟩ := own_of_ret hr
    exact ⟨A, c, he, ho, hb⟩
theorem rslice_any (w : World) {D : List Nat} (hD : D.length = 32) :
    Calls Try.prog 58 #[.agg (va .u8 D)] w fun e w' => ∃ A c, e = .returned (.slice A 32 c) ∧ Own .u8 5 w' w.heap.size A 32 c D ∧ Below w.heap.size w w' := by
  go_enter Try.func58, Try.ntmps58
  obtain ⟨i0, hi0, hz0, hz1, hz2⟩ := info_parts u8_info
  go_upto_region 1 with (fail)
  have hk := Bk.new w 26 (va .u8 D)
  have hl := (Below.refl w.heap.size w).alloc (Nat.le_refl _) (.cells (va .u8 D) 26)
  have hs : (w.alloc (.cells (va .u8 D) 26)).heap.size = w.heap.size + 1 := by simp
  obtain ⟨g, hg⟩ : ∃ z, w.heap.size = z := ⟨_, rfl⟩
  generalize w.alloc (.cells (va .u8 D) 26) = w1 at hk hl hs ⊢
  rw [hg] at hk hl hs ⊢
  have HK := Lib.hid hk
  have HL := Lib.hid hl
  clear hk hl
  go_wp2_with fail
  go_loopw [3, 4] (fun o i wr => ∃ (t : Nat) (A : Option Addr) (c : Nat), t ≤ 32 ∧ i = .int .i64 (t : Int) ∧ o = .slice A t c ∧ Own .u8 5 wr (g + 1) A t c (D.take t) ∧ Below (g + 1) w1 wr) (fun _ i _ => 32 - (intOf i).toNat)
  case atStart => exact ⟨0, none, 0, by omega, rfl, rfl, Own.nil _ _ _ _, Below.refl _ _⟩
  case round =>
    obtain ⟨t, A, c, ht, rfl, rfl, hown, hbel⟩ := hrel
    have hsr := hbel.size
    by_cases hlt : t < 32
    · obtain ⟨x, ex⟩ : ∃ z, gd D t = z := ⟨_, rfl⟩
      have cx := ((HK.out.below hbel (by omega)).cell t).trans (va_at .u8 (by rw [hD]; exact hlt))
      rw [ex] at cx
      have a1 : (t : Int) < 32 := by omega
      have a0 : (0 : Int) ≤ (t : Int) := by omega
      have htk : D.take t ++ [x] = D.take (t + 1) := by rw [List.take_succ_eq_append_getElem (by omega), ← gd_lt (by omega), ex]
      have HTK := Lib.hid htk
      have HOWN := Lib.hid hown
      have HBEL := Lib.hid hbel
      clear ex htk hown hbel
      go_upto_region 5 with (fail)
      refine wp_region_lit ?_
      (refine wpList_plain rfl (fun K hK => ?_); go_simp; refine hK _ _ ?_; clear hK K)
      (refine wpList_plain rfl (fun K hK => ?_); go_simp; refine hK _ _ ?_; clear hK K)
      (refine wpList_plain rfl (fun K hK => ?_); go_simp; refine hK _ _ ?_; clear hK K)
      (refine wpList_plain rfl (fun K hK => ?_); go_simp; refine hK _ _ ?_; clear hK K)
      (refine wpList_plain rfl (fun K hK => ?_); go_simp; refine hK _ _ ?_; clear hK K)
      have hr := (Own.of_bk (k := .u8) (xs := [x]) (base := 0) (Bk.new wr 5 (va .u8 [x])) (Nat.zero_le _) rfl (by simp)).rd
      have hn := (Below.refl wr.heap.size wr).alloc (Nat.le_refl _) (.cells (va .u8 [x]) 5)
      have ho := HOWN.out.below hn
      have hb := HBEL.out.trans (hn.mono (by omega))
      rw [show Obj.cells #[.int .u8 (x : Int)] 5 = Obj.cells (va .u8 [x]) 5 from rfl]
      generalize wr.alloc (.cells (va .u8 [x]) 5) = w2 at hr hn ho hb ⊢
      have hsb := hb.size
      have i1 : IntKind.i64.wrap ((t : Int) + 1) = (t : Int) + 1 := IntWalk.i64_in _ (by omega)
      go_wp2_with (at_builtin; refine wpList_append_rd _ rfl (.tmp 9) (.tmp 13) _ rfl .u8 (g + 1) 5 i0 (.int .u8 0) 1 Try.underlying22 hi0 hz0 hz1 hz2 rfl A t c (D.take t) rfl ho _ _ _ _ rfl hr (by unfold maxLen; omega) (by omega) (by omega) ?_)
      intro A' c' w3 ho' hb' _ _
      go_wp2_with fail
      rw [HTK.out] at ho'
      exact ⟨⟨t + 1, A', c', by omega, by go_num, rfl, ho', hb.trans hb'⟩, by simp [intOf]; omega⟩
    · obtain rfl : t = 32 := by omega
      rw [show ((32 : Nat) : Int) = (32 : Int) from rfl]
      rw [List.take_of_length_le (by omega)] at hown
      have hbe := HL.out.trans (hbel.mono (by omega))
      go_wp2_with fail
      go_ret
      rw [hg]
      exact ⟨A, c, rfl, hown.lower (by omega), hbe⟩
theorem rkeyed_any (w : World) {a b : List Nat} {A B : Option Addr} {n c m d : Nat} (ha : Rd .u8 w A n c a) (a8 : B8 a) (hb : Rd .u8 w B m d b) (b8 : B8 b) (hlen : n + m < 1000000000000) :
    Calls Try.prog 30 #[.slice A n c, .slice B m d] w fun e w' => e = .returned (.agg (va .u8 (shaN (a ++ b)))) ∧ Below w.heap.size w w' := by
  go_enter Try.func30, Try.ntmps30
  go_upto_region 1 with (fail)
  rw [show Obj.cells #[.int .u8 0, .int .u8 0, .int .u8 0, .int .u8 0, .int .u8 0, .int .u8 0, .int .u8 0, .int .u8 0, .int .u8 0, .int .u8 0, .int .u8 0, .int .u8 0, .int .u8 0, .int .u8 0, .int .u8 0, .int .u8 0, .int .u8 0, .int .u8 0, .int .u8 0, .int .u8 0, .int .u8 0, .int .u8 0, .int .u8 0, .int .u8 0, .int .u8 0, .int .u8 0, .int .u8 0, .int .u8 0, .int .u8 0, .int .u8 0, .int .u8 0, .int .u8 0] 26 = Obj.cells (va .u8 (List.replicate 32 0)) 26 from rfl]
  have ho1 := Bk.new w 26 (va .u8 (List.replicate 32 0))
  have hl1 := (Below.refl w.heap.size w).alloc (Nat.le_refl _) (.cells (va .u8 (List.replicate 32 0)) 26)
  generalize w.alloc (.cells (va .u8 (List.replicate 32 0)) 26) = w1 at ho1 hl1 ⊢
  have hlt := ho1.lt
  refine wp_region_lit ?_
  (refine wpList_plain rfl (fun K hK => ?_); go_simp; refine hK _ _ ?_; clear hK K)
  (refine wpList_plain rfl (fun K hK => ?_); go_simp; refine hK _ _ ?_; clear hK K)
  refine wpl_call rfl (w' := w1) (f := 19) (args := #[.slice A n c, .slice B m d]) (by kernel_rfl) (rjoin_any w1 (ha.below hl1) (hb.below hl1) (by omega)) ?_
  rintro e w2 ⟨A2, c2, rfl, o2, b2⟩
  refine ⟨_, rfl, ?_⟩
  refine wpl_call rfl (w' := w2) (f := 21) (args := #[.slice A2 (n + m) c2]) (by kernel_rfl) (refSum_any w2 o2.rd (a8.append b8) hlen) ?_
  rintro e w3 ⟨rfl, b3⟩
  refine ⟨_, rfl, ?_⟩
  have hsz2 := b2.size
  have ho3 := (ho1.below b2 hlt).below b3 (by omega)
  have hl3 := (hl1.trans (b2.mono (by omega))).trans (b3.mono (by omega))
  have ls : (shaN (a ++ b)).length = 32 := shaN_length _
  refine wpList_store_row rfl 26 _ _ rfl w.heap.size (va .u8 (shaN (a ++ b))) (by kernel_rfl) (by kernel_rfl) 26 (va .u8 (List.replicate 32 0)) ho3 (out_info.trans (by rw [va_size, ls])) (by rw [va_size, va_size, ls, List.length_replicate]) (va_all _ _) ?_
  refine wpList_nil ?_
  have hst := Bk.row ho3 (va .u8 (shaN (a ++ b)))
  have hbl := below_row hl3 (Nat.le_refl _) (va .u8 (shaN (a ++ b)))
  generalize w3.setRow w.heap.size (va .u8 (shaN (a ++ b))) = wq at hst hbl ⊢
  go_wp2_with fail
  refine bodyPost_ret (v := .agg (va .u8 (shaN (a ++ b)))) ?_ rfl ⟨rfl, hbl⟩
  simp [results, Try.results30, asAddr, Result.andThen]
  exact run_loadVar_row _ _ _ _ _ _ _ hst Try.underlying26 rfl (out_info.trans (by rw [va_size, ls]))
theorem rtrunc_out (w : World) (v : Value) (z : Int) (hz : z < 0 ∨ 32 < z) : Calls Try.prog 29 #[v, .int .i64 z] w fun e w' => e = .returned (.tuple #[.slice none 0 0, .int .i64 1]) ∧ Below w.heap.size w w' := by
  go_enter Try.func29, Try.ntmps29
  rcases hz with hz | hz
  · go_wp2
    go_ret2
    exact ⟨rfl, Below.refl _ _⟩
  · have hz2 : ¬ z < 0 := by omega
    go_wp2
    go_ret2
    exact ⟨rfl, Below.refl _ _⟩
theorem rtrunc_any (w : World) {b : List Nat} {B : Option Addr} {m d n : Nat} (hb : Rd .u8 w B m d b) (b8 : B8 b) (hlen : m < 1000000000000) (hn : n ≤ 32) :
    Calls Try.prog 29 #[.slice B m d, .int .i64 (n : Int)] w fun e w' => ∃ A c, e = .returned (.tuple #[.slice A n c, .int .i64 0]) ∧ Rd .u8 w' A n c ((shaN b).take n) ∧ Below w.heap.size w w' := by
  have h1 : ¬ (n : Int) < 0 := by omega
  have h2 : ¬ 32 < (n : Int) := by omega
  have hs := refSum_any w hb b8 hlen
  obtain ⟨D, hD⟩ : ∃ z, shaN b = z := ⟨_, rfl⟩
  have ls : D.length = 32 := by rw [← hD]; exact shaN_length b
  rw [hD] at hs
  rw [hD]
  go_enter Try.func29, Try.ntmps29
  go_upto_region 4 with (first
    | (go_at_call 58; refine (rslice_any _ ls).mono ?_; rintro e w2 ⟨A, c, rfl, o2, b2⟩)
    | (go_at_call 21; refine hs.mono ?_; rintro e w1 ⟨rfl, b1⟩))
  have hcap := o2.rd.cap
  have h3 : (0 : Int) ≤ (n : Int) := by omega
  have h4 : (n : Int) ≤ (c : Int) := by omega
  have hbe := b1.trans (b2.mono b1.size)
  go_wp2_with fail
  go_ret2
  exact ⟨A, c, rfl, o2.rd.take hn, hbe⟩
theorem rexpand_low (w : World) (v : Value) (z : Int) (hz : z < 0) : Calls Try.prog 32 #[v, .int .i64 z] w fun e w' => e = .returned (.tuple #[.slice none 0 0, .int .i64 1]) ∧ Below w.heap.size w w' := by
  go_enter Try.func32, Try.ntmps32
  go_wp2
  go_ret2
  exact ⟨rfl, Below.refl _ _⟩
theorem rexpand_high (w : World) (v : Value) (z : Int) (hz : 4096 < z) : Calls Try.prog 32 #[v, .int .i64 z] w fun e w' => e = .returned (.tuple #[.slice none 0 0, .int .i64 2]) ∧ Below w.heap.size w w' := by
  have hz2 : ¬ z < 0 := by omega
  go_enter Try.func32, Try.ntmps32
  go_wp2
  go_ret2
  exact ⟨rfl, Below.refl _ _⟩
set_option maxHeartbeats 1000000 in
theorem rexpand_any (w : World) {s : List Nat} {B : Option Addr} {m d n : Nat} (hb : Rd .u8 w B m d s) (b8 : B8 s) (hlen : m < 100000000000) (hn : n ≤ 4096) :
    Calls Try.prog 32 #[.slice B m d, .int .i64 (n : Int)] w fun e w' => ∃ A c, e = .returned (.tuple #[.slice A n c, .int .i64 0]) ∧ Rd .u8 w' A n c (expN s n) ∧ Below w.heap.size w w' := by
  have h1 : ¬ (n : Int) < 0 := by omega
  have h2 : ¬ 4096 < (n : Int) := by omega
  obtain ⟨i0, hi0, hz0, hz1, hz2⟩ := info_parts u8_info
  go_enter Try.func32, Try.ntmps32
  go_wp2_with fail
  go_loopw [6, 7] (fun o i wr => ∃ (k : Nat) (A : Option Addr) (c : Nat), k ≤ 128 ∧ i = .int .i64 (k : Int) ∧ o = .slice A (32 * k) c ∧ Own .u8 5 wr w.heap.size A (32 * k) c (expL s k) ∧ Below w.heap.size w wr) (fun _ i _ => 128 - (intOf i).toNat)
  case atStart => exact ⟨0, none, 0, by omega, rfl, rfl, Own.nil _ _ _ _, Below.refl _ _⟩
  case round =>
    obtain ⟨k, A, c, hk, rfl, rfl, hown, hbel⟩ := hrel
    have e1 : IntKind.i64.wrap (32 * (k : Int)) = 32 * (k : Int) := IntWalk.i64_in _ (by omega)
    have hsr := hbel.size
    have HOWN := Lib.hid hown
    have HBEL := Lib.hid hbel
    by_cases hlt : 32 * k < n
    · have t1 : 32 * (k : Int) < (n : Int) := by omega
      have e2 : IntKind.u32.wrap (k : Int) = (k : Int) := by rw [IntKind.wrap_u32]; omega
      have hf := rfour_any wr (n := k) (by omega)
      obtain ⟨D, hD⟩ : ∃ z, shaN (s ++ four4 k) = z := ⟨_, rfl⟩
      have ls : D.length = 32 := by rw [← hD]; exact shaN_length _
      have HD := Lib.hid (show expL s k ++ D = expL s (k + 1) by rw [← hD]; rfl)
      go_upto_region 9 with (fail)
      refine wp_region_lit ?_
      (refine wpList_plain rfl (fun K hK => ?_); go_simp; refine hK _ _ ?_; clear hK K)
      (refine wpList_plain rfl (fun K hK => ?_); go_simp; refine hK _ _ ?_; clear hK K)
      (refine wpList_plain rfl (fun K hK => ?_); go_simp; refine hK _ _ ?_; clear hK K)
      (refine wpList_plain rfl (fun K hK => ?_); go_simp; refine hK _ _ ?_; clear hK K)
      refine wpl_call rfl (w' := wr) (f := 59) (args := #[.int .u32 (k : Int)]) (by kernel_rfl) hf ?_
      rintro e w2 ⟨A2, c2, rfl, o2, b2⟩
      refine ⟨_, rfl, ?_⟩
      have hs2 := b2.size
      refine wpl_call rfl (w' := w2) (f := 19) (args := #[.slice B m d, .slice A2 4 c2]) (by kernel_rfl) (rjoin_any w2 ((hb.below hbel).below b2) o2.rd (by omega)) ?_
      rintro e w3 ⟨A3, c3, rfl, o3, b3⟩
      refine ⟨_, rfl, ?_⟩
      have hs3 := b3.size
      have hS := refSum_any w3 o3.rd (b8.append (four4_b8 k)) (by omega)
      rw [hD] at hS
      refine wpl_call rfl (w' := w3) (f := 21) (args := #[.slice A3 (m + 4) c3]) (by kernel_rfl) hS ?_
      rintro e w4 ⟨rfl, b4⟩
      refine ⟨_, rfl, ?_⟩
      have hs4 := b4.size
      refine wpl_call rfl (w' := w4) (f := 58) (args := #[.agg (va .u8 D)]) (by kernel_rfl) (rslice_any w4 ls) ?_
      rintro e w5 ⟨A5, c5, rfl, o5, b5⟩
      refine ⟨_, rfl, ?_⟩
      have ho := (((HOWN.out.below b2).below b3).below b4).below b5
      have hbe := (((HBEL.out.trans (b2.mono (by omega))).trans (b3.mono (by omega))).trans (b4.mono (by omega))).trans (b5.mono (by omega))
      have hsb := hbe.size
      have i1 : IntKind.i64.wrap ((k : Int) + 1) = (k : Int) + 1 := IntWalk.i64_in _ (by omega)
      clear hown hbel hf hS b2 b3 b4 b5 o2 o3
      go_wp2_with (at_builtin; refine wpList_append_rd _ rfl (.tmp 18) (.tmp 25) _ rfl .u8 w.heap.size 5 i0 (.int .u8 0) 1 Try.underlying22 hi0 hz0 hz1 hz2 rfl A (32 * k) c (expL s k) rfl ho _ _ _ _ rfl o5.rd (by unfold maxLen; omega) (by omega) hsb ?_)
      intro A' c' w6 ho' hb' _ _
      rw [HD.out] at ho'
      go_wp2_with fail
      exact ⟨⟨k + 1, A', c', by omega, by go_num, rfl, ho', hbe.trans hb'⟩, by simp [intOf]; omega⟩
    · have t1 : decide (32 * (k : Int) < (n : Int)) = false := decide_eq_false (by omega)
      have hR := hown.rd
      have h3 : (0 : Int) ≤ (n : Int) := by omega
      have hcap := hR.cap
      have h4 : (n : Int) ≤ (c : Int) := by omega
      go_wp2_with fail
      go_ret2
      refine ⟨A, c, rfl, ?_, hbel⟩
      rw [← expN_of s n k (by omega)]
      exact hR.take (by omega)
end Go.Proofs.Ytiimflmbcgnbeaa

/- Each text has just its digest; a digest's beginning; an expansion; a Hash that is nil: the walks. -/
namespace Go.Proofs.Ytiimflmbcgnbeaa
set_option linter.unusedSimpArgs false
set_option linter.unusedVariables false
open Go.RowKit Go.Proofs.YtiimflmbcgnbeaaW.PrintWords

theorem long_any (w : World) (A : Option Addr) (n c : Nat) : Calls Try.prog 17 #[.slice A n c] w fun e w' => e = .returned (.bool (decide (400 < (n : Int)))) ∧ w' = w := by
  go_enter Try.func17, Try.ntmps17
  go_wp2
  go_ret
  exact ⟨rfl, rfl⟩
theorem walk_ShaSums (A0 : Option Addr) (n0 c0 : Nat) (b : List Nat) (W : World) (rd0 : Rd .u8 W A0 n0 c0 b) (b8 : B8 b) (al0 : ∀ ad, A0 = some ad → ad.block < W.heap.size) (y0 : n0 * 1 ≤ 140737488351232) :
    Calls Try.prog 3 #[.slice A0 n0 c0] W fun e w' => e = .returned (.bool true) ∧ Below W.heap.size W w' := by
  go_enter Try.func3, Try.ntmps3
  by_cases h1 : (400 : Int) < (n0 : Int)
  · have t1 := decide_eq_true h1
    go_wp2_with (first
      | (go_at_call 17; refine (long_any _ _ _ _).mono ?_; rintro e wl ⟨rfl, rfl⟩)
      | (go_at_call 18; refine (alive_any _).mono ?_; rintro e w1 ⟨rfl, hb1⟩))
    go_ret
    exact ⟨rfl, hb1⟩
  have t1 := decide_eq_false h1
  obtain ⟨D, hD⟩ : ∃ z, shaN b = z := ⟨_, rfl⟩
  have lD : D.length = 32 := by rw [← hD]; exact shaN_length b
  have EQ := fun w' => run_eq32 w' lD lD
  have EG := eq32_guard
  simp only [decide_true] at EQ
  have hj := rjoin_any W rd0 (Rd.nil .u8 W none 0) (by omega)
  rw [List.append_nil, Nat.add_zero] at hj
  go_upto_region 4 with (first
    | (go_at_call 17; refine (long_any _ _ _ _).mono ?_; rintro e wl ⟨rfl, rfl⟩)
    | (go_at_call 19; refine hj.mono ?_; rintro e w1 ⟨A1, c1, rfl, o1, b1⟩))
  have hb := fun w' (h : Below w1.heap.size w1 w') => (b1.trans (h.mono b1.size) : Below wl.heap.size wl w')
  have hS := fun w' (h : Below w1.heap.size w1 w') => pk_any w' (o1.rd.below h) b8 (by omega) (fun ad e => by
    rcases o1.ways with ⟨h', _⟩ | ⟨g, h', _, h2, _⟩
    · rw [h'] at e; cases e
    · rw [h'] at e; cases e; exact Nat.lt_of_lt_of_le h2 h.size)
  have hR := fun w' (h : Below w1.heap.size w1 w') => refSum_any w' (rd0.below (hb w' h)) b8 (by omega)
  have Z1 := fun w' (h : Below w1.heap.size w1 w') => conv_rd (o1.rd.below h)
  have Z2 := fun w' (h : Below w1.heap.size w1 w') => conv_rd (rd0.below (hb w' h))
  rw [hD] at hS hR
  go_wp2_with (first
    | (go_at_call 18; refine (alive_any _).mono ?_; rintro e w2 ⟨rfl, b2⟩)
    | (go_at_call 20; refine (hS _ b2).mono ?_; rintro e w3 ⟨rfl, b3⟩; have b3' := b2.trans (b3.mono b2.size))
    | (go_at_call 21; refine (hR _ b3').mono ?_; rintro e w4 ⟨rfl, b4⟩; have b4' := b3'.trans (b4.mono b3'.size); have z1 := Z1 _ b4'; have z2 := Z2 _ b4'))
  go_ret
  exact ⟨rfl, hb _ b4'⟩
theorem walk_ShaExpands (A0 : Option Addr) (n0 c0 : Nat) (b : List Nat) (n : Int) (W : World) (rd0 : Rd .u8 W A0 n0 c0 b) (b8 : B8 b) (al0 : ∀ ad, A0 = some ad → ad.block < W.heap.size) (y0 : n0 * 1 ≤ 140737488351232) (w1 : (Lit.int .i64 n).wf = true) :
    Calls Try.prog 9 #[.slice A0 n0 c0, .int .i64 n] W fun e w' => e = .returned (.bool true) ∧ Below W.heap.size W w' := by
  go_enter Try.func9, Try.ntmps9
  by_cases h1 : (400 : Int) < (n0 : Int)
  · have t1 := decide_eq_true h1
    go_wp2_with (first
      | (go_at_call 17; refine (long_any _ _ _ _).mono ?_; rintro e wl ⟨rfl, rfl⟩)
      | (go_at_call 18; refine (alive_any _).mono ?_; rintro e w1 ⟨rfl, hb1⟩))
    go_ret
    exact ⟨rfl, hb1⟩
  have t1 := decide_eq_false h1
  have hlen := rd0.len
  by_cases h2 : 4096 < n
  · have t2 : decide (200 < n) = true := decide_eq_true (by omega)
    have t3 : decide (n ≤ 4096) = false := decide_eq_false (by omega)
    have hE := expand_high W (.slice A0 n0 c0) n h2
    go_upto_region 4 with (first
      | (go_at_call 17; refine (long_any _ _ _ _).mono ?_; rintro e wl ⟨rfl, rfl⟩)
      | (go_at_call 31; refine hE.mono ?_; rintro e w1 ⟨rfl, b1⟩))
    have hF := rexpand_high w1 (.slice A0 n0 c0) n h2
    go_wp2_with (first
      | (go_at_call 18; refine (alive_any _).mono ?_; rintro e w3 ⟨rfl, b3⟩; have z1 := conv_rd (Rd.nil .u8 w3 none 0))
      | (go_at_call 32; refine hF.mono ?_; rintro e w2 ⟨rfl, b2⟩))
    go_ret
    exact ⟨rfl, b1.trans ((b2.trans (b3.mono b2.size)).mono b1.size)⟩
  by_cases h3 : 200 < n
  · have t2 : decide (200 < n) = true := decide_eq_true (by omega)
    have t3 : decide (n ≤ 4096) = true := decide_eq_true (by omega)
    go_wp2_with (first
      | (go_at_call 17; refine (long_any _ _ _ _).mono ?_; rintro e wl ⟨rfl, rfl⟩)
      | (go_at_call 18; refine (alive_any _).mono ?_; rintro e w1 ⟨rfl, hb1⟩))
    go_ret
    exact ⟨rfl, hb1⟩
  have t2 : decide (200 < n) = false := decide_eq_false (by omega)
  by_cases h4 : n < 0
  · have hE := expand_low W (.slice A0 n0 c0) n h4
    go_upto_region 4 with (first
      | (go_at_call 17; refine (long_any _ _ _ _).mono ?_; rintro e wl ⟨rfl, rfl⟩)
      | (go_at_call 31; refine hE.mono ?_; rintro e w1 ⟨rfl, b1⟩))
    have hF := rexpand_low w1 (.slice A0 n0 c0) n h4
    go_wp2_with (first
      | (go_at_call 18; refine (alive_any _).mono ?_; rintro e w3 ⟨rfl, b3⟩; have z1 := conv_rd (Rd.nil .u8 w3 none 0))
      | (go_at_call 32; refine hF.mono ?_; rintro e w2 ⟨rfl, b2⟩))
    go_ret
    exact ⟨rfl, b1.trans ((b2.trans (b3.mono b2.size)).mono b1.size)⟩
  obtain ⟨i, rfl⟩ : ∃ i : Nat, n = (i : Int) := ⟨n.toNat, by omega⟩
  obtain rfl := hlen
  have hE := expand_any W rd0 b8 (by omega) al0 (n := i) (by omega)
  go_upto_region 4 with (first
    | (go_at_call 17; refine (long_any _ _ _ _).mono ?_; rintro e wl ⟨rfl, rfl⟩)
    | (go_at_call 31; refine hE.mono ?_; rintro e w1 ⟨A1, c1, rfl, r1, _, b1⟩))
  have hF := rexpand_any w1 (rd0.below b1) b8 (by omega) (n := i) (by omega)
  go_wp2_with (first
    | (go_at_call 18; refine (alive_any _).mono ?_; rintro e w3 ⟨rfl, b3⟩; have z1 := conv_rd ((r1.below b2).below b3); have z2 := conv_rd (r2.below b3))
    | (go_at_call 32; refine hF.mono ?_; rintro e w2 ⟨A2, c2, rfl, r2, b2⟩))
  go_ret
  exact ⟨rfl, b1.trans ((b2.trans (b3.mono b2.size)).mono b1.size)⟩
theorem walk_ShaKeyed (A0 : Option Addr) (n0 c0 : Nat) (a : List Nat) (A1 : Option Addr) (n1 c1 : Nat) (b : List Nat) (n : Int) (W : World) (rd0 : Rd .u8 W A0 n0 c0 a) (a8 : B8 a) (al0 : ∀ ad, A0 = some ad → ad.block < W.heap.size) (y0 : n0 * 1 ≤ 140737488351232)
    (rd1 : Rd .u8 W A1 n1 c1 b) (b8 : B8 b) (al1 : ∀ ad, A1 = some ad → ad.block < W.heap.size) (y1 : n1 * 1 ≤ 140737488351232) (w2 : (Lit.int .i64 n).wf = true) :
    Calls Try.prog 8 #[.slice A0 n0 c0, .slice A1 n1 c1, .int .i64 n] W fun e w' => e = .returned (.bool true) ∧ Below W.heap.size W w' := by
  go_enter Try.func8, Try.ntmps8
  by_cases h1 : (400 : Int) < (n0 : Int)
  · have t1 := decide_eq_true h1
    go_wp2_with (first
      | (go_at_call 17; refine (long_any _ _ _ _).mono ?_; rintro e wl ⟨rfl, rfl⟩)
      | (go_at_call 18; refine (alive_any _).mono ?_; rintro e w1 ⟨rfl, hb1⟩))
    go_ret
    exact ⟨rfl, hb1⟩
  have t1 := decide_eq_false h1
  by_cases h2 : (400 : Int) < (n1 : Int)
  · have t2 := decide_eq_true h2
    go_wp2_with (first
      | (go_at_call 17; refine (long_any _ _ _ _).mono ?_; rintro e wl ⟨rfl, rfl⟩)
      | (go_at_call 18; refine (alive_any _).mono ?_; rintro e w1 ⟨rfl, hb1⟩))
    go_ret
    exact ⟨rfl, hb1⟩
  have t2 := decide_eq_false h2
  obtain ⟨D, hD⟩ : ∃ z, shaN (a ++ b) = z := ⟨_, rfl⟩
  have lD : D.length = 32 := by rw [← hD]; exact shaN_length _
  have EQ := fun w' => run_eq32 w' lD lD
  have EG := eq32_guard
  simp only [decide_true] at EQ
  have hK := fun w' (h : Below W.heap.size W w') => ky_any w' (rd0.below h) a8 (fun ad e => by have := al0 ad e; have := h.size; omega) (rd1.below h) b8 (by omega) (fun ad e => by have := al1 ad e; have := h.size; omega)
  have hR := fun w' (h : Below W.heap.size W w') => rkeyed_any w' (rd0.below h) a8 (rd1.below h) b8 (by omega)
  rw [hD] at hK hR
  by_cases h3 : n < 0 ∨ 32 < n
  · have hE := trunc_out W (.slice A1 n1 c1) n h3
    go_upto_region 4 with (first
      | (go_at_call 17; refine (long_any _ _ _ _).mono ?_; rintro e wl ⟨rfl, rfl⟩)
      | (go_at_call 28; refine hE.mono ?_; rintro e w1 ⟨rfl, b1⟩))
    have hF := rtrunc_out w1 (.slice A1 n1 c1) n h3
    go_wp2_with (first
      | (go_at_call 30; refine (hR _ b4').mono ?_; rintro e w5 ⟨rfl, b5⟩; have b5' := b4'.trans (b5.mono b4'.size))
      | (go_at_call 26; refine (hK _ b3').mono ?_; rintro e w4 ⟨rfl, b4⟩; have b4' := b3'.trans (b4.mono b3'.size))
      | (go_at_call 18; refine (alive_any _).mono ?_; rintro e w3 ⟨rfl, b3⟩; have z1 := conv_rd (Rd.nil .u8 w3 none 0); have b3' := b1.trans ((b2.trans (b3.mono b2.size)).mono b1.size))
      | (go_at_call 29; refine hF.mono ?_; rintro e w2 ⟨rfl, b2⟩))
    go_ret
    exact ⟨rfl, b5'⟩
  obtain ⟨i, rfl⟩ : ∃ i : Nat, n = (i : Int) := ⟨n.toNat, by omega⟩
  obtain rfl := rd1.len
  have hE := trunc_any W rd1 b8 (by omega) al1 (n := i) (by omega)
  go_upto_region 4 with (first
    | (go_at_call 17; refine (long_any _ _ _ _).mono ?_; rintro e wl ⟨rfl, rfl⟩)
    | (go_at_call 28; refine hE.mono ?_; rintro e w1 ⟨A2, c2, rfl, o1, b1⟩))
  have hF := rtrunc_any w1 (rd1.below b1) b8 (by omega) (n := i) (by omega)
  go_wp2_with (first
    | (go_at_call 30; refine (hR _ b4').mono ?_; rintro e w5 ⟨rfl, b5⟩; have b5' := b4'.trans (b5.mono b4'.size))
    | (go_at_call 26; refine (hK _ b3').mono ?_; rintro e w4 ⟨rfl, b4⟩; have b4' := b3'.trans (b4.mono b3'.size))
    | (go_at_call 18; refine (alive_any _).mono ?_; rintro e w3 ⟨rfl, b3⟩; have z1 := conv_rd ((o1.rd.below b2).below b3); have z2 := conv_rd (r2.below b3); have b3' := b1.trans ((b2.trans (b3.mono b2.size)).mono b1.size))
    | (go_at_call 29; refine hF.mono ?_; rintro e w2 ⟨A3, c3, rfl, r2, b2⟩))
  go_ret
  exact ⟨rfl, b5'⟩
end Go.Proofs.Ytiimflmbcgnbeaa

/- A Hash that is nil says so; one that no call made has taken nothing: the walk. -/
namespace Go.Proofs.Ytiimflmbcgnbeaa
set_option linter.unusedSimpArgs false
set_option linter.unusedVariables false
open Go.RowKit Go.Proofs.YtiimflmbcgnbeaaW.PrintWords

set_option maxHeartbeats 1000000 in
theorem walk_ShaNobody (A0 : Option Addr) (n0 c0 : Nat) (b : List Nat) (W : World) (rd0 : Rd .u8 W A0 n0 c0 b) (b8 : B8 b) (al0 : ∀ ad, A0 = some ad → ad.block < W.heap.size) (y0 : n0 * 1 ≤ 140737488351232) :
    Calls Try.prog 7 #[.slice A0 n0 c0] W fun e w' => e = .returned (.bool true) ∧ Below W.heap.size W w' := by
  go_enter Try.func7, Try.ntmps7
  by_cases h1 : (400 : Int) < (n0 : Int)
  · have t1 := decide_eq_true h1
    go_wp2_with (first
      | (go_at_call 17; refine (long_any _ _ _ _).mono ?_; rintro e wl ⟨rfl, rfl⟩)
      | (go_at_call 18; refine (alive_any _).mono ?_; rintro e w1 ⟨rfl, hb1⟩))
    go_ret
    exact ⟨rfl, hb1⟩
  have t1 := decide_eq_false h1
  have hlen := rd0.len
  obtain ⟨D, hD⟩ : ∃ z, shaN b = z := ⟨_, rfl⟩
  have lD : D.length = 32 := by rw [← hD]; exact shaN_length b
  obtain ⟨D0, hD0⟩ : ∃ z, shaN [] = z := ⟨_, rfl⟩
  have lD0 : D0.length = 32 := by rw [← hD0]; exact shaN_length []
  have EQ := fun w' => run_eq32 w' lD lD
  have EQ0 := fun w' => run_eq32 w' lD0 lD0
  obtain ⟨Z, hZ⟩ : ∃ z, List.replicate 32 0 = z := ⟨_, rfl⟩
  have lZ : Z.length = 32 := by rw [← hZ]; rfl
  have EQZ := fun w' => run_eq32 w' lZ lZ
  have EG := eq32_guard
  simp only [decide_true] at EQ EQ0 EQZ
  go_upto_region 5 with (go_at_call 17; refine (long_any _ _ _ _).mono ?_; rintro e wl ⟨rfl, rfl⟩)
  have hk := HS.new wl (wl.heap.size + 5)
  have hl := (Below.refl wl.heap.size wl).alloc (Nat.le_refl _) (.cells (hcells false (List.replicate 8 0) none 0 0 0) 44)
  have hsz : (wl.alloc (.cells (hcells false (List.replicate 8 0) none 0 0 0) 44)).heap.size = wl.heap.size + 1 := by simp
  rw [show Obj.cells #[.bool false, .int .u32 0, .int .u32 0, .int .u32 0, .int .u32 0, .int .u32 0, .int .u32 0, .int .u32 0, .int .u32 0, .slice none 0 0, .int .i64 0] 44 = Obj.cells (hcells false (List.replicate 8 0) none 0 0 0) 44 from rfl]
  obtain ⟨g, hg⟩ : ∃ z, wl.heap.size = z := ⟨_, rfl⟩
  generalize wl.alloc (.cells (hcells false (List.replicate 8 0) none 0 0 0) 44) = w1 at hk hl hsz ⊢
  have al1 : ∀ ad, A0 = some ad → ad.block ≠ g := fun ad e => by have := al0 ad e; omega
  rw [hg] at hk hl hsz ⊢
  have rd1 := rd0.below (by rw [hg]; exact hl)
  have hz : ∀ w', (Op.equalIn 10000 26 (.agg (va .u8 Z)) (.agg #[.int .u8 0, .int .u8 0, .int .u8 0, .int .u8 0, .int .u8 0, .int .u8 0, .int .u8 0, .int .u8 0, .int .u8 0, .int .u8 0, .int .u8 0, .int .u8 0, .int .u8 0, .int .u8 0, .int .u8 0, .int .u8 0, .int .u8 0, .int .u8 0, .int .u8 0, .int .u8 0, .int .u8 0, .int .u8 0, .int .u8 0, .int .u8 0, .int .u8 0, .int .u8 0, .int .u8 0, .int .u8 0, .int .u8 0, .int .u8 0, .int .u8 0, .int .u8 0])).run Try.prog w' = .ok true w' := by
    intro w'
    have := EQZ w'
    rw [← hZ] at this ⊢
    exact this
  have hN := fun w' => sum_nil w'
  rw [hZ] at hN
  go_upto_region 7 with (first
    | (go_at_call 23; refine (write_nil _ _).mono ?_; rintro e w2 ⟨rfl, b2⟩)
    | (go_at_call 27; refine (reset_nil _).mono ?_; rintro e w3 ⟨rfl, rfl⟩)
    | (go_at_call 25; refine (len_nil _).mono ?_; rintro e w4 ⟨rfl, rfl⟩)
    | (go_at_call 24; refine (hN _).mono ?_; rintro e w5 ⟨rfl, b5⟩))
  have b15 := b2.trans (b5.mono b2.size)
  have hk5 := hk.below b15
  have hl5 := hl.trans (b15.mono (by omega))
  have hs5 := b15.size
  have hS0 := fun w' (h : Below w5.heap.size w5 w') => sum_any w' (hk5.below h) (by simp)
  have hR0 := fun w' => refSum_any w' (Rd.nil .u8 w' none 0) B8.nil (by omega)
  have hL := fun w' (h : Below w5.heap.size w5 w') => len_any w' (hk5.below h)
  rw [hD0] at hS0 hR0
  rw [List.length_nil, show ((0 : Nat) : Int) = 0 from rfl] at hL
  have hW := fun w' (h : Below w5.heap.size w5 w') => wr_any w' (hk5.below h) (rd0.below (by rw [hg]; exact hl5.trans (h.mono (by omega)))) al1 b8 (by simp; omega)
  have hR := fun w' (h : Below g wl w') => refSum_any w' (rd0.below (by rw [hg]; exact h)) b8 (by omega)
  rw [hD] at hR
  clear hk hk5 b2 b5 hN hz EQZ
  go_wp2_with (first
    | (go_at_call 21; refine (hR _ be').mono ?_; rintro e wf ⟨rfl, bf⟩; have hge : g ≤ we.heap.size := Nat.le_trans hgd be.size; have bf' := be'.trans (bf.mono hge))
    | (go_at_call 24; refine hSd.mono ?_; rintro e we ⟨rfl, be⟩; have be' := bd'.trans (be.mono hgd))
    | (go_at_call 23; refine (hW _ bc').mono ?_; rintro e wd ⟨rfl, gd, hd⟩
       have hsd : g ≤ wc.heap.size := Nat.le_trans (by omega) bc'.size
       have bd' := (hl5.trans (bc'.mono (by omega))).trans (gd.below (base := g) hsd (Nat.le_refl _))
       have hgd : g ≤ wd.heap.size := by have := bd'.size; omega
       have hSd := sum_any wd hd (by simp; omega)
       rw [List.nil_append, hD] at hSd)
    | (go_at_call 21; refine (hR0 _).mono ?_; rintro e wc ⟨rfl, bc⟩; have bc' := bb'.trans (bc.mono bb'.size))
    | (go_at_call 24; refine (hS0 _ ba).mono ?_; rintro e wb ⟨rfl, bb⟩; have bb' := ba.trans (bb.mono ba.size))
    | (go_at_call 25; refine (hL _ ba).mono ?_; rintro e wx ⟨rfl, rfl⟩)
    | (go_at_call 18; refine (alive_any _).mono ?_; rintro e wa ⟨rfl, ba⟩))
  go_ret
  exact ⟨rfl, by rw [hg]; exact bf'⟩
end Go.Proofs.Ytiimflmbcgnbeaa

/- A statement's arguments: slices of slices of bytes, and of whole numbers, opened. -/
namespace Go.Proofs.Ytiimflmbcgnbeaa
set_option linter.unusedSimpArgs false
set_option linter.unusedVariables false
open Go.ChangeShapes Go.WideShapes Go.ChangeAt Go.RowKit

theorem weights_mem_all {H : Type} {P : Program} {e : TypeId} : ∀ {ds : List (DataW H)} {j : Nat} {d : DataW H}, ds[j]? = some d → ∀ n ∈ d.weights P e, n ∈ DataW.weightsAll P e ds
  | d0 :: ds, 0, d, hd, n, hn => by
    simp only [List.getElem?_cons_zero, Option.some.injEq] at hd
    subst hd
    simp only [DataW.weightsAll, List.mem_append]
    exact Or.inl hn
  | d0 :: ds, j + 1, d, hd, n, hn => by
    simp only [List.getElem?_cons_succ] at hd
    simp only [DataW.weightsAll, List.mem_append]
    exact Or.inr (weights_mem_all hd n hn)
  | [], _, _, hd, _, _ => by simp at hd
/-- a slice whose cells are slices of bytes -/
def RowsOf (W : World) (A : Option Addr) (n : Nat) (bs : List (List Nat)) : Prop :=
  bs.length = n ∧ (0 < n → ∃ ad, A = some ad ∧ ad.block < W.heap.size ∧ ∀ (j : Nat) (b : List Nat), bs[j]? = some b → ∃ Aj nj cj, W.cell? (ad.add j) = some (.slice Aj nj cj) ∧ Rd .u8 W Aj nj cj b ∧ (∀ x ∈ b, x < 256) ∧ nj ≤ 140737488351232)
theorem rows_arg {H : Type} {enc : TypeId × Value → H} {P : Program} {W : World} {t u e : TypeId} {A : Option Addr} {n c : Nat} {d : DataW H} {p : List MemPlace} {ts : List TypeId} {ds : List (DataW H)} {i : Nat}
    (hsz : (DataW.weightsEach P ts ds).all (· ≤ reachBytes) = true) (hti : ts[i]? = some t) (hdi : ds[i]? = some d)
    (ht : P.underlying t = some (.slice u)) (hu : P.underlying u = some (.slice e)) (he : P.underlying e = some (.int .u8)) (hc : P.cellsOf e = 1) (hcu : P.cellsOf u = 1) (hB : P.bytesOf e = 1)
    (h0 : DataW.Trod enc P W 0 (fun _ => true) true t (.slice A n c) d p) : ∃ bs, RowsOf W A n bs ∧ n ≤ 9223372036854775807 ∧ n ≤ c := by
  obtain ⟨fuel, hf⟩ := h0
  rcases DataW.trod_slice ht hf with ⟨hcs, _⟩ | ⟨a, len, cap, elems, rest, m, _, hcs, hx, _, hl, hm, hlen, hel, _⟩
  · simp [Value.cells] at hcs
    obtain ⟨rfl, rfl, rfl⟩ := hcs
    exact ⟨[], ⟨rfl, fun h => absurd h (by omega)⟩, by omega, by omega⟩
  · simp [Value.cells] at hcs
    obtain ⟨rfl, rfl, rfl⟩ := hcs
    have each : ∀ j, j < n → ∃ b : List Nat, ∃ Aj nj cj, W.cell? (a.add j) = some (.slice Aj nj cj) ∧ Rd .u8 W Aj nj cj b ∧ (∀ x ∈ b, x < 256) ∧ nj ≤ 140737488351232 := by
      intro j hj
      have hE := hel j hj
      obtain ⟨y, hy⟩ : ∃ y, elems[j]? = some y := ⟨_, List.getElem?_eq_getElem (by omega)⟩
      rw [hy, hcu, Nat.mul_one, Option.bind_eq_some_iff] at hE
      obtain ⟨cs, hcs, hT⟩ := hE
      have hcell : ∃ v, cs = [v] ∧ W.cell? (a.add j) = some v := by
        have e0 : (a.add j).add 0 = a.add j := by simp [Addr.add]
        unfold World.cells? at hcs
        split at hcs
        · simp only [List.range_succ, List.range_zero, List.nil_append, List.mapM_cons, List.mapM_nil, e0] at hcs
          cases hcc : W.cell? (a.add j) with
          | none => simp [hcc] at hcs
          | some c => simp [hcc] at hcs; exact ⟨c, hcs.symm, rfl⟩
        · cases hcs
      obtain ⟨v, rfl, hv⟩ := hcell
      have hv' : ∃ Aj nj cj, v = .slice Aj nj cj := by
        rcases open_ints hu he hc hT with ⟨h, _⟩ | ⟨x, l, c', zs, h, _⟩
        · exact ⟨none, 0, 0, by simpa using h⟩
        · exact ⟨some x, l, c', by simpa using h⟩
      obtain ⟨Aj, nj, cj, rfl⟩ := hv'
      have hTr : DataW.Trod enc P W 0 (fun _ => true) true u (.slice Aj nj cj) y.1 y.2 := ⟨m, hT⟩
      obtain ⟨xs, _, hr, hw⟩ := nums_arg hu he hc hTr (fun z h => (u8_wf h).1)
      refine ⟨xs, Aj, nj, cj, hv, hr, fun x hx => by have := (u8_wf (hw x hx)).2; omega, ?_⟩
      have hmem : ∀ z ∈ y.1.weights P u, z ≤ reachBytes := by
        intro z hz
        have h1 : z ∈ d.weights P t := by
          obtain ⟨hx1, _⟩ := Prod.mk.inj hx
          rw [hx1]
          have h2 : z ∈ DataW.weightsAll P u (elems.map (·.1)) := weights_mem_all (j := j) (d := y.1) (by rw [List.getElem?_map, hy]; rfl) z hz
          simp only [DataW.weights, ht, List.mem_cons, List.mem_append]
          exact .inr (.inl h2)
        have := List.all_eq_true.1 hsz z (DataW.weights_mem_each hti hdi z h1)
        simpa using this
      have hs1 : (DataW.weightsEach P [u] [y.1]).all (· ≤ reachBytes) = true := by
        rw [List.all_eq_true]
        intro z hz
        simp only [DataW.weightsEach, List.append_nil] at hz
        simpa using hmem z hz
      have := Go.Proofs.YtiimflmbcgnbeaaW.PrintWords.sized_ints hs1 (j := 0) rfl rfl hu he hc hB hTr
      omega
    have hlist : ∀ k, k ≤ n → ∃ bs : List (List Nat), bs.length = k ∧ ∀ (j : Nat) (b : List Nat), bs[j]? = some b → ∃ Aj nj cj, W.cell? (a.add j) = some (.slice Aj nj cj) ∧ Rd .u8 W Aj nj cj b ∧ (∀ x ∈ b, x < 256) ∧ nj ≤ 140737488351232 := by
      intro k
      induction k with
      | zero => exact fun _ => ⟨[], rfl, fun j b h => by simp at h⟩
      | succ k ih =>
        intro hk
        obtain ⟨bs, h1, h2⟩ := ih (by omega)
        obtain ⟨b, hb⟩ := each k (by omega)
        refine ⟨bs ++ [b], by simp [h1], fun j b' h => ?_⟩
        rcases Nat.lt_or_ge j k with hj | hj
        · rw [List.getElem?_append_left (by omega)] at h
          exact h2 j b' h
        · rw [List.getElem?_append_right (by omega)] at h
          have : j - bs.length = 0 := by
            rcases Nat.eq_zero_or_pos (j - bs.length) with h' | h'
            · exact h'
            · rw [List.getElem?_eq_none (by simp; omega)] at h; cases h
          rw [this] at h
          simp only [List.getElem?_cons_zero, Option.some.injEq] at h
          subst h
          obtain rfl : j = k := by omega
          exact hb
    obtain ⟨bs, h1, h2⟩ := hlist n (Nat.le_refl _)
    refine ⟨bs, ⟨h1, fun hn => ⟨a, rfl, ?_, h2⟩⟩, by unfold maxLen at hm; omega, hl⟩
    obtain ⟨b, hb⟩ : ∃ b, bs[0]? = some b := ⟨_, List.getElem?_eq_getElem (by omega)⟩
    obtain ⟨_, _, _, hc0, _⟩ := h2 0 b hb
    have := World.block_lt_of_cell? W _ hc0
    rwa [Go.ChangeShapes.block_add] at this
/-- a slice of whole numbers, of which no more is known than that each is one -/
def IntsOf (W : World) (A : Option Addr) (n : Nat) : Prop := 0 < n → ∃ ad, A = some ad ∧ ad.block < W.heap.size ∧ ∀ j, j < n → ∃ z : Int, W.cell? (ad.add j) = some (.int .i64 z)
theorem ints_arg {H : Type} {enc : TypeId × Value → H} {P : Program} {W : World} {t e : TypeId} {A : Option Addr} {n c : Nat} {d : DataW H} {p : List MemPlace} (ht : P.underlying t = some (.slice e)) (he : P.underlying e = some (.int .i64)) (hc : P.cellsOf e = 1)
    (h0 : DataW.Trod enc P W 0 (fun _ => true) true t (.slice A n c) d p) : IntsOf W A n ∧ n ≤ 9223372036854775807 ∧ n ≤ c := by
  obtain ⟨fuel, hf⟩ := h0
  rcases open_ints ht he hc hf with ⟨hcs, _⟩ | ⟨x, l, c', zs, hcs, _, hl, hm, hz, _, hcell, hwz⟩
  · simp [Value.cells] at hcs
    obtain ⟨rfl, rfl, rfl⟩ := hcs
    exact ⟨fun h => absurd h (by omega), by omega, by omega⟩
  · simp [Value.cells] at hcs
    obtain ⟨rfl, rfl, rfl⟩ := hcs
    simp only [if_true] at hz
    refine ⟨fun hn => ⟨x, rfl, ?_, fun j hj => ⟨_, hcell j (by omega)⟩⟩, by unfold maxLen at hm; omega, hl⟩
    have := World.block_lt_of_cell? W _ (hcell 0 (by omega))
    rwa [Go.ChangeShapes.block_add] at this
end Go.Proofs.Ytiimflmbcgnbeaa

/- A Hash tells the digest of all that it has taken, piece by piece, since it was reset: the walk. -/
namespace Go.Proofs.Ytiimflmbcgnbeaa
set_option linter.unusedSimpArgs false
set_option linter.unusedVariables false
open Go.RowKit Go.Proofs.YtiimflmbcgnbeaaW.PrintWords

theorem HS.lower {w : World} {g base b' : Nat} {m : List Nat} (h : HS w g base m) (hb : b' ≤ base) : HS w g b' m := by
  obtain ⟨h1, h2, bg, ws, A, n, c, hk, h3, h4, hr, hA, h5, h6⟩ := h
  exact ⟨h1, h2, bg, ws, A, n, c, hk, h3, h4, hr, fun ad e => ⟨Nat.le_trans hb (hA ad e).1, (hA ad e).2⟩, h5, h6⟩
theorem HS.kept {w w' : World} {g base : Nat} {m : List Nat} {row : Option Nat} (h : HS w g base m) (hw : w.grownBy w' row) (hne : ∀ r, row = some r → r ≠ g ∧ r < base) : HS w' g base m := by
  obtain ⟨h1, h2, bg, ws, A, n, c, hk, h3, h4, hr, hA, h5, h6⟩ := h
  exact ⟨h1, h2, bg, ws, A, n, c, (hw.block _ hk.lt (fun e => (hne g (by rw [e])).1 rfl)).trans hk, h3, h4, hr.kept hw (fun ad e r er => by have := (hA ad e).1; have := (hne r er).2; omega),
    fun ad e => ⟨(hA ad e).1, (hA ad e).2.1, Nat.lt_of_lt_of_le (hA ad e).2.2 hw.size⟩, h5, h6⟩
theorem Own.kept {k : IntKind} {e : TypeId} {w w' : World} {base n c : Nat} {A : Option Addr} {xs : List Nat} {row : Option Nat} (h : Own k e w base A n c xs) (hg : w.grownBy w' row) (hne : ∀ g, A = some ⟨g, 0, none⟩ → row ≠ some g) : Own k e w' base A n c xs := by
  refine ⟨h.1, ?_⟩
  rcases h.2 with h2 | ⟨g', cap, cur, h1, hg', hh, r⟩
  · exact .inl h2
  · refine .inr ⟨g', cap, cur, h1, hg', (hg.block g' (Array.getElem?_eq_some_iff.1 hh).1 ?_).trans hh, r⟩
    simp only [Value.slice.injEq] at h1
    exact fun e => hne g' h1.1 e.symm
theorem grown_append {w w' : World} {base : Nat} {A : Option Addr} (hb : Below base w w') (hs : w.heap.size ≤ w'.heap.size) (hk : ∀ g, g < w.heap.size → (∀ o, A ≠ some ⟨g, o, none⟩) → w'.heap[g]? = w.heap[g]?) (hA : ∀ ad, A = some ad → ∃ g, ad = ⟨g, 0, none⟩) : w.grownBy w' (A.map (·.block)) := by
  refine ⟨hb.os, hb.tape, hb.output, hs, fun k hk' hne => hk k hk' fun o e => ?_⟩
  obtain ⟨g, hg⟩ := hA _ e
  rw [e] at hne
  simp at hne
theorem Own.plain {k : IntKind} {e : TypeId} {w : World} {base n c : Nat} {A : Option Addr} {xs : List Nat} (h : Own k e w base A n c xs) : ∀ ad, A = some ad → ∃ g, ad = ⟨g, 0, none⟩ ∧ base ≤ g ∧ g < w.heap.size := by
  intro ad e
  rcases h.ways with ⟨h', _⟩ | ⟨g, h', h1, h2, _⟩
  · rw [h'] at e; cases e
  · rw [h'] at e; cases e; exact ⟨g, rfl, h1, h2⟩
set_option maxRecDepth 100000 in
set_option maxHeartbeats 4000000 in
theorem walk_ShaTakes (A0 : Option Addr) (n0 c0 : Nat) (bs : List (List Nat)) (A1 : Option Addr) (n1 c1 : Nat) (W : World) (rd0 : RowsOf W A0 n0 bs) (m0 : n0 ≤ 9223372036854775807) (l0 : n0 ≤ c0) (rd1 : IntsOf W A1 n1) (m1 : n1 ≤ 9223372036854775807) (l1 : n1 ≤ c1) :
    Calls Try.prog 6 #[.slice A0 n0 c0, .slice A1 n1 c1] W fun e w' => e = .returned (.bool true) ∧ Below W.heap.size W w' := by
  have RD0 := Lib.hid rd0
  have RD1 := Lib.hid rd1
  clear rd0 rd1
  obtain ⟨i0, hi0, hz0, hz1, hz2⟩ := info_parts u8_info
  have EG := eq32_guard
  go_enter Try.func6, Try.ntmps6
  go_upto_region 5 with (go_at_call 22; refine (new_hs W 0).mono ?_; rintro e w1 ⟨rfl, h1, b1⟩)
  obtain ⟨gh, hgh⟩ : ∃ z, W.heap.size = z := ⟨_, rfl⟩
  rw [hgh] at h1 b1 ⊢
  have H1 := Lib.hid h1
  have B1 := Lib.hid b1
  have hs1 := h1.lt
  clear h1 b1
  go_wp2_with fail
  go_loopw [5, 7] (fun o i wr => ∃ (t n c : Nat) (A : Option Addr) (m : List Nat), t ≤ 12 ∧ t ≤ n0 ∧ i = .int .i64 (t : Int) ∧ o = .slice A n c ∧ Own .u8 5 wr (gh + 1) A n c m ∧ n ≤ 400 ∧ HS wr gh 0 m ∧ Below gh W wr) (fun _ i _ => 12 - (intOf i).toNat)
  case atStart => exact ⟨0, 0, 0, none, [], by omega, by omega, rfl, rfl, Own.nil _ _ _ _, by omega, H1.out, B1.out⟩
  case round =>
    obtain ⟨t, n, c, A, m, ht, ht0, rfl, rfl, hown, hn4, hhs, hbel⟩ := hrel
    have HOWN := Lib.hid hown
    have HHS := Lib.hid hhs
    have HBEL := Lib.hid hbel
    have hsr := hhs.lt
    have m8 := hhs.1
    have lm := hown.len
    clear hown hhs hbel
    by_cases hlt : t < n0 ∧ t < 12
    · obtain ⟨hlt0, hlt2⟩ := hlt
      have p1 : (t : Int) < (n0 : Int) := by omega
      have p2 : (t : Int) < 12 := by omega
      have p0 : (0 : Int) ≤ (t : Int) := by omega
      have hblen := RD0.out.1
      obtain ⟨a0, rfl, ha0, hrows⟩ := RD0.out.2 (by omega)
      obtain ⟨b, hb⟩ : ∃ b, bs[t]? = some b := ⟨_, List.getElem?_eq_getElem (by omega)⟩
      obtain ⟨Aj, nj, cj, hcw, rdj, bj8, hnj⟩ := hrows t b hb
      have HCELL := Lib.hid (fun w' (h : Below gh W w') => (h.cell (p := a0.add t) (by rw [← hgh]; exact adlt ha0 t)).trans hcw)
      have HRDJ := Lib.hid (fun w' (h : Below gh W w') => rdj.below (by rw [hgh]; exact h))
      have cl := HCELL.out _ HBEL.out
      have e1 : IntKind.i64.wrap ((n : Int) + (nj : Int)) = (n : Int) + (nj : Int) := IntWalk.i64_in _ (by omega)
      clear hrows hcw rdj
      by_cases h4 : (400 : Int) < (n : Int) + (nj : Int)
      · go_wp2_with (go_at_call 18; refine (alive_any _).mono ?_; rintro e wz ⟨rfl, hz⟩)
        go_ret
        rw [hgh]
        exact ⟨rfl, HBEL.out.trans (hz.mono (by omega))⟩
      · have t4 := decide_eq_false h4
        have hsum : n + nj ≤ 400 := by omega
        go_upto_region 11 with (fail)
        go_loopw [5, 8] (fun o i wr2 => ∃ (s n2 c2 : Nat) (A2 : Option Addr) (m2 : List Nat), s ≤ n1 ∧ i = .int .i64 (s : Int) ∧ o = .slice A2 n2 c2 ∧ Own .u8 5 wr2 (gh + 1) A2 n2 c2 m2 ∧ n2 + nj ≤ 400 ∧ HS wr2 gh 0 m2 ∧ Below gh W wr2) (fun _ i _ => n1 - (intOf i).toNat)
        case atStart => exact ⟨0, n, c, A, m, by omega, rfl, rfl, HOWN.out, hsum, HHS.out, HBEL.out⟩
        case round =>
          obtain ⟨s, n2, c2, A2, m2, hs, rfl, rfl, hown, hn2, hhs, hbel⟩ := hrel
          have HOWN2 := Lib.hid hown
          have HHS2 := Lib.hid hhs
          have HBEL2 := Lib.hid hbel
          have hsr2 := hhs.lt
          have lm2 := hown.len
          have m28 := hhs.1
          clear hown hhs hbel
          by_cases hls : s < n1
          · obtain ⟨a1, rfl, ha1, hints⟩ := RD1.out (by omega)
            obtain ⟨z, hz⟩ := hints s hls
            have cz := (HBEL2.out.cell (p := a1.add s) (by rw [← hgh]; exact adlt ha1 s)).trans hz
            have q1 : (s : Int) < (n1 : Int) := by omega
            have q0 : (0 : Int) ≤ (s : Int) := by omega
            have q3 : IntKind.i64.wrap ((s : Int) + 1) = (s : Int) + 1 := IntWalk.i64_in _ (by omega)
            clear hz hints
            by_cases hzt : z = (t : Int)
            · subst hzt
              have hres := reset_any _ HHS2.out
              go_wp2_with (go_at_call 27; refine hres.mono ?_; rintro e wy ⟨rfl, gy, hy⟩)
              exact ⟨⟨s + 1, 0, 0, none, [], by omega, by go_num, rfl, Own.nil _ _ _ _, by omega, hy.lower (Nat.zero_le _), HBEL2.out.trans (gy.below (Nat.le_of_lt hsr2) (Nat.le_refl _))⟩, by simp [intOf]; omega⟩
            · have t5 : decide (z = (t : Int)) = false := decide_eq_false hzt
              go_wp2_with fail
              exact ⟨⟨s + 1, n2, c2, A2, m2, by omega, by go_num, rfl, HOWN2.out, hn2, HHS2.out, HBEL2.out⟩, by simp [intOf]; omega⟩
          · obtain rfl : s = n1 := by omega
            have cl2 := HCELL.out _ HBEL2.out
            have hj := rjoin_any wr (HRDJ.out _ HBEL2.out) (Rd.nil .u8 wr none 0) (by omega)
            rw [List.append_nil, Nat.add_zero] at hj
            go_upto_region 18 with (go_at_call 19; refine hj.mono ?_; rintro e w3 ⟨A9, c9, rfl, o9, b3⟩)
            have hp9 := o9.plain
            have hs3 := b3.size
            have h3 := HHS2.out.below b3
            have q9 : ∀ ad, A9 = some ad → ad.block ≠ gh := fun ad e => by obtain ⟨g, rfl, h1, _⟩ := hp9 ad e; show g ≠ gh; omega
            have hw := wr_any w3 h3 o9.rd q9 bj8 (by omega)
            have hpA := HOWN2.out.plain
            clear hj
            go_upto_region 20 with (go_at_call 23; refine hw.mono ?_; rintro e w4 ⟨rfl, g4, h4'⟩)
            have hs4 := g4.size
            have oa4 := (HOWN2.out.below b3).kept g4 (fun g e e' => by obtain ⟨g', h, h1, _⟩ := hpA _ e; cases h; have := Option.some.inj e'; omega)
            have o94 := o9.kept g4 (fun g e e' => by obtain ⟨g', h, h1, _⟩ := hp9 _ e; cases h; have := Option.some.inj e'; omega)
            have b4 := (HBEL2.out.trans (b3.mono (Nat.le_of_lt hsr2))).trans (g4.below (by omega) (Nat.le_refl _))
            have OA4 := Lib.hid oa4
            have O94 := Lib.hid o94
            have H4 := Lib.hid h4'
            have B4 := Lib.hid b4
            have HP9 := Lib.hid hp9
            have HPA := Lib.hid hpA
            have hblk := fun h => o9.blk h
            have HBLK := Lib.hid hblk
            clear oa4 o94 h4' b4 hp9 hpA hw h3 g4 o9 b3 q9 hblk
            go_wp2_with fail
            go_loopw [10] (fun i w5 => ∃ (k : Nat) (ys : List Nat), k ≤ nj ∧ i = .int .i64 (k : Int) ∧ Own .u8 5 w5 wr.heap.size A9 nj c9 ys ∧ w4.grownBy w5 (A9.map (·.block))) (fun i _ => nj - (intOf i).toNat)
            case atStart => exact ⟨0, b, by omega, rfl, O94.out, grown_refl _ _⟩
            case round =>
              obtain ⟨k, ys, hk, rfl, hown, hgr⟩ := hrel
              have HOW := Lib.hid hown
              have HGR := Lib.hid hgr
              clear hgr
              by_cases hkn : k < nj
              · obtain ⟨gp, rfl, hg1, hg2⟩ := HBLK.out (by omega)
                obtain ⟨y, ey⟩ : ∃ z, gd ys k = z := ⟨_, rfl⟩
                have cy := hown.slot (j := k) hkn ey
                have fy := hown.frozenAt k
                have r0 : (0 : Int) ≤ (k : Int) := by omega
                have r1 : (k : Int) < (nj : Int) := by omega
                have r2 : IntKind.i64.wrap ((k : Int) + 1) = (k : Int) + 1 := IntWalk.i64_in _ (by omega)
                clear ey hown
                go_wp2_with fail
                exact ⟨⟨k + 1, ys.set k 99, by omega, by go_num, HOW.out.store k 99, grown_set HGR.out k _⟩, by simp [intOf]; omega⟩
              · obtain rfl : nj = k := by omega
                -- <E>
                have hs5 := HGR.out.size
                have oa5 := OA4.out.kept HGR.out (fun g e e' => by
                  obtain ⟨g', h, h1, h2⟩ := HPA.out _ e
                  cases h
                  rcases A9 with _ | ad9
                  · cases e'
                  · obtain ⟨g9, h9, h91, _⟩ := HP9.out ad9 rfl
                    subst h9
                    have := Option.some.inj e'
                    simp only at this
                    omega)
                have h5 := H4.out.kept HGR.out (fun r e => by
                  rcases A9 with _ | ad9
                  · cases e
                  · obtain ⟨g9, h9, h91, h92⟩ := HP9.out ad9 rfl
                    subst h9
                    have := Option.some.inj e
                    simp only at this
                    omega)
                have b5 := B4.out.trans ((Below.refl gh w4).grown HGR.out (by omega) (fun r e => by
                  rcases A9 with _ | ad9
                  · cases e
                  · obtain ⟨g9, h9, h91, h92⟩ := HP9.out ad9 rfl
                    subst h9
                    have := Option.some.inj e
                    simp only at this
                    omega))
                have OA5 := Lib.hid oa5
                have H5 := Lib.hid h5
                have B5 := Lib.hid b5
                have cl5 := HCELL.out _ b5
                have rd5 := HRDJ.out _ b5
                clear oa5 h5 b5 hown HOW
                have hlab : (m2 ++ b).length = n2 + nj := by rw [List.length_append, lm2, rd5.len]
                go_upto_region 24 with (fail)
                go_wp2_with (at_builtin; refine wpList_append_rd _ rfl (.tmp 67) (.tmp 71) _ rfl .u8 (gh + 1) 5 i0 (.int .u8 0) 1 Try.underlying22 hi0 hz0 hz1 hz2 rfl A2 n2 c2 m2 rfl OA5.out _ _ _ _ rfl rd5 (by unfold maxLen; omega) (by omega) (by omega) ?_)
                intro A6 c6 w6 o6 b6 hz6 hk6
                have g6 := grown_append b6 hz6 hk6 (fun ad e => by obtain ⟨g, h, _⟩ := OA5.out.plain ad e; exact ⟨g, h⟩)
                have h6 := H5.out.kept g6 (fun r e => by
                  rcases A2 with _ | ad2
                  · cases e
                  · obtain ⟨g2, h2, h21, h22⟩ := HPA.out ad2 rfl
                    subst h2
                    have := Option.some.inj e
                    simp only at this
                    omega)
                have bb6 := B5.out.trans (b6.mono (by omega))
                have O6 := Lib.hid o6
                have H6 := Lib.hid h6
                have B6 := Lib.hid bb6
                have hs6 := h6.lt
                have ab8 : B8 (m2 ++ b) := m28.append bj8
                clear o6 h6 bb6 b6 hk6 g6 cl5 rd5
                obtain ⟨D, hD⟩ : ∃ z, shaN (m2 ++ b) = z := ⟨_, rfl⟩
                have lD : D.length = 32 := by rw [← hD]; exact shaN_length _
                have EQ := fun w' => run_eq32 w' lD lD
                simp only [decide_true] at EQ
                have hS := sum_any w6 H6.out (by omega)
                have hR := fun w' (h : Below w6.heap.size w6 w') => refSum_any w' (O6.out.below h).rd ab8 (by omega)
                rw [hD] at hS hR
                have i1 : IntKind.i64.wrap ((t : Int) + 1) = (t : Int) + 1 := IntWalk.i64_in _ (by omega)
                obtain ⟨r, hr⟩ : ∃ z, t % 3 = z := ⟨_, rfl⟩
                have d1 : (t : Int).tmod 3 = (r : Int) := by rw [Int.tmod_eq_emod_of_nonneg (by omega)]; omega
                have d2 : IntKind.i64.wrap (r : Int) = (r : Int) := IntWalk.i64_in _ (by omega)
                clear hr hlab
                by_cases hr0 : r = 0
                · subst hr0
                  rw [show ((0 : Nat) : Int) = 0 from rfl] at d1 d2
                  go_wp2_with (first
                    | (go_at_call 24; refine hS.mono ?_; rintro e w7 ⟨rfl, b7⟩)
                    | (go_at_call 21; refine (hR _ b7).mono ?_; rintro e w8 ⟨rfl, b8⟩))
                  have b78 := b7.trans (b8.mono b7.size)
                  exact ⟨⟨t + 1, n2 + nj, c6, A6, m2 ++ b, by omega, by omega, by go_num, rfl, O6.out.below b78, hn2, (H6.out.below b78).lower (Nat.zero_le _), B6.out.trans (b78.mono (by omega))⟩, by simp [intOf]; omega⟩
                · have d3 : ¬ (r : Int) = 0 := by omega
                  have d4 : decide ((r : Int) = 0) = false := decide_eq_false d3
                  go_wp2_with fail
                  exact ⟨⟨t + 1, n2 + nj, c6, A6, m2 ++ b, by omega, by omega, by go_num, rfl, O6.out, hn2, H6.out.lower (Nat.zero_le _), B6.out⟩, by simp [intOf]; omega⟩
                -- </E>
    · have hR := fun w' (h : Below wr.heap.size wr w') => refSum_any w' (HOWN.out.below h).rd m8 (by omega)
      have hS := fun w' (h : Below wr.heap.size wr w') => sum_any w' (HHS.out.below h) (by omega)
      have hL := fun w' (h : Below wr.heap.size wr w') => len_any w' (HHS.out.below h)
      obtain ⟨D, hD⟩ : ∃ z, shaN m = z := ⟨_, rfl⟩
      have lD : D.length = 32 := by rw [← hD]; exact shaN_length _
      have EQ := fun w' => run_eq32 w' lD lD
      simp only [decide_true] at EQ
      rw [hD] at hR hS
      rw [lm] at hL
      by_cases hlt1 : (t : Int) < (n0 : Int)
      · have p2 : ¬ (t : Int) < 12 := by omega
        go_wp2_with (first
          | (go_at_call 25; refine (hL _ bc').mono ?_; rintro e w4 ⟨rfl, rfl⟩)
          | (go_at_call 21; refine (hR _ bb').mono ?_; rintro e wc ⟨rfl, bc⟩; have bc' := bb'.trans (bc.mono bb'.size))
          | (go_at_call 24; refine (hS _ ba).mono ?_; rintro e wb ⟨rfl, bb⟩; have bb' := ba.trans (bb.mono ba.size))
          | (go_at_call 18; refine (alive_any _).mono ?_; rintro e wa ⟨rfl, ba⟩))
        go_ret
        exact ⟨rfl, by rw [hgh]; exact HBEL.out.trans (bc'.mono (by omega))⟩
      · skip
        go_wp2_with (first
          | (go_at_call 25; refine (hL _ bc').mono ?_; rintro e w4 ⟨rfl, rfl⟩)
          | (go_at_call 21; refine (hR _ bb').mono ?_; rintro e wc ⟨rfl, bc⟩; have bc' := bb'.trans (bc.mono bb'.size))
          | (go_at_call 24; refine (hS _ ba).mono ?_; rintro e wb ⟨rfl, bb⟩; have bb' := ba.trans (bb.mono ba.size))
          | (go_at_call 18; refine (alive_any _).mono ?_; rintro e wa ⟨rfl, ba⟩))
        go_ret
        exact ⟨rfl, by rw [hgh]; exact HBEL.out.trans (bc'.mono (by omega))⟩
end Go.Proofs.Ytiimflmbcgnbeaa
