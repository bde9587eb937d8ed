/- Texts of this claim, joined: what its laws use. -/
import Derived.Test.YtdmglajfmfjmlaaKF
namespace Go.Proofs.Ytdmglajfmfjmlaa.Cv
open Go.RowKit Go.Proofs.YtdmglajfmfjmlaaW.PrintWords Go.Proofs.YtdmglajfmfjmlaaW.PrintLast Go.Proofs.YtdmglajfmfjmlaaW.PrintMore
attribute [local go_sem] max2_int min2_int max_two min_two max_three min_three max_four min_four   -- for this text's walks alone
set_option linter.unusedVariables false
set_option linter.unusedSimpArgs false
def pkey_Sign.f (l0_0 : List Int) (l0_1 : List Int) (l0_2 : List Int) (l1 : List Int) : Option (List Int × Int) := Cp.pkey_Sign.f 1 l0_0 l0_1 l0_2 l1
theorem pkey_Sign.calls (A0_0 : Option Addr) (c0_0 : Nat) (l0_0 : List Int) (A0_1 : Option Addr) (c0_1 : Nat) (l0_1 : List Int) (A0_2 : Option Addr) (c0_2 : Nat) (l0_2 : List Int) (A1 : Option Addr) (c1 : Nat) (l1 : List Int) (r1 : List Int) (r2 : Int) (w : World) (hr0_0 : Kd.C (Kd.int .u64) w A0_0 l0_0.length l0_0) (hc0_0 : l0_0.length ≤ c0_0) (hr0_1 : Kd.C (Kd.int .u64) w A0_1 l0_1.length l0_1) (hc0_1 : l0_1.length ≤ c0_1) (hr0_2 : Kd.C (Kd.int .u64) w A0_2 l0_2.length l0_2) (hc0_2 : l0_2.length ≤ c0_2) (hr1 : Kd.C (Kd.int .u8) w A1 l1.length l1) (hc1 : l1.length ≤ c1) (h : pkey_Sign.f l0_0 l0_1 l0_2 l1 = some (r1, r2)) :
    Calls Try.prog 13 #[.agg #[.slice A0_0 l0_0.length c0_0, .slice A0_1 l0_1.length c0_1, .slice A0_2 l0_2.length c0_2], .slice A1 l1.length c1] w fun e w' => ∃ v0_ : Value, e = .returned (.tuple #[v0_, .int .i64 r2]) ∧ Kd.R (Kd.int .u8) 5 w' w.heap.size (fun _ => True) v0_ r1 ∧ Below w.heap.size w w' := by
  exact Cp.pkey_Sign.calls 1 _ _ _ _ _ _ _ _ _ _ _ _ _ _ _ hr0_0 hc0_0 hr0_1 hc0_1 hr0_2 hc0_2 hr1 hc1 h
def pkey_Size.f (l0_0 : List Int) (l0_1 : List Int) (l0_2 : List Int) : Option (Int) := Ck.pkey_Size.f l0_0 l0_1 l0_2
theorem pkey_Size.calls (A0_0 : Option Addr) (c0_0 : Nat) (l0_0 : List Int) (A0_1 : Option Addr) (c0_1 : Nat) (l0_1 : List Int) (A0_2 : Option Addr) (c0_2 : Nat) (l0_2 : List Int) (r : Int) (w : World) (hr0_0 : Kd.C (Kd.int .u64) w A0_0 l0_0.length l0_0) (hc0_0 : l0_0.length ≤ c0_0) (hr0_1 : Kd.C (Kd.int .u64) w A0_1 l0_1.length l0_1) (hc0_1 : l0_1.length ≤ c0_1) (hr0_2 : Kd.C (Kd.int .u64) w A0_2 l0_2.length l0_2) (hc0_2 : l0_2.length ≤ c0_2) (h : pkey_Size.f l0_0 l0_1 l0_2 = some r) :
    Calls Try.prog 17 #[.agg #[.slice A0_0 l0_0.length c0_0, .slice A0_1 l0_1.length c0_1, .slice A0_2 l0_2.length c0_2]] w fun e w' => e = .returned (.int .i64 r) ∧ Below w.heap.size w w' := by
  exact Ck.pkey_Size.calls _ _ _ _ _ _ _ _ _ _ _ hr0_0 hc0_0 hr0_1 hc0_1 hr0_2 hc0_2 h
def nat_Of.f (a0 : Int) : Option (List Int) := if 0 ≤ a0 ∧ a0 < 18446744073709551616 then some (ofN a0.toNat) else none
theorem nat_Of.calls (a0 : Int) (r : List Int) (w : World) (h : nat_Of.f a0 = some r) :
    Calls Try.prog 22 #[.int .u64 a0] w fun e w' => ∃ v0_ : Value, e = .returned (v0_) ∧ Kd.R (Kd.int .u64) 40 w' w.heap.size (fun _ => True) v0_ r ∧ Below w.heap.size w w' := by
  exact of_giv h
def nat_Cmp.f (l0 : List Int) (l1 : List Int) : Option (Int) := if okN 262144 l0 ∧ okN 262144 l1 then some (cmpN (nI l0) (nI l1)) else none
theorem nat_Cmp.calls (A0 : Option Addr) (c0 : Nat) (l0 : List Int) (A1 : Option Addr) (c1 : Nat) (l1 : List Int) (r : Int) (w : World) (hr0 : Kd.C (Kd.int .u64) w A0 l0.length l0) (hc0 : l0.length ≤ c0) (hr1 : Kd.C (Kd.int .u64) w A1 l1.length l1) (hc1 : l1.length ≤ c1) (h : nat_Cmp.f l0 l1 = some r) :
    Calls Try.prog 33 #[.slice A0 l0.length c0, .slice A1 l1.length c1] w fun e w' => e = .returned (.int .i64 r) ∧ Drawn0 w w' := by
  exact cmp_giv hr0 hc0 hr1 hc1 h
def pkey_Make.f (l0 : List Int) (l1 : List Int) (a2 : Int) : Option (List Int × List Int × List Int × Int) := Ck.pkey_Make.f 1 l0 l1 a2
theorem pkey_Make.calls (A0 : Option Addr) (c0 : Nat) (l0 : List Int) (A1 : Option Addr) (c1 : Nat) (l1 : List Int) (a2 : Int) (r1 : List Int) (r2 : List Int) (r3 : List Int) (r4 : Int) (w : World) (hr0 : Kd.C (Kd.int .u64) w A0 l0.length l0) (hc0 : l0.length ≤ c0) (hr1 : Kd.C (Kd.int .u64) w A1 l1.length l1) (hc1 : l1.length ≤ c1) (h : pkey_Make.f l0 l1 a2 = some (r1, r2, r3, r4)) :
    Calls Try.prog 47 #[.slice A0 l0.length c0, .slice A1 l1.length c1, .int .u64 a2] w fun e w' => ∃ v0_ v1_ v2_ : Value, e = .returned (.tuple #[.agg #[v0_, v1_, v2_], .int .i64 r4]) ∧ Kd.R (Kd.int .u64) 40 w' w.heap.size (fun k_ => some k_ ≠ (v1_ : Value).ownBlock ∧ some k_ ≠ (v2_ : Value).ownBlock) v0_ r1 ∧ Kd.R (Kd.int .u64) 40 w' w.heap.size (fun k_ => some k_ ≠ (v0_ : Value).ownBlock ∧ some k_ ≠ (v2_ : Value).ownBlock) v1_ r2 ∧ Kd.R (Kd.int .u64) 40 w' w.heap.size (fun k_ => some k_ ≠ (v0_ : Value).ownBlock ∧ some k_ ≠ (v1_ : Value).ownBlock) v2_ r3 ∧ Below w.heap.size w w' := by
  exact Ck.pkey_Make.calls 1 _ _ _ _ _ _ _ _ _ _ _ _ hr0 hc0 hr1 hc1 h
def clepsydralaw05_alive.f  : Option (Bool) := (nat_Of.f 251).bind fun t101 => ((nat_Of.f 257).bind fun t104 => ((pkey_Make.f t101 t104 17).bind fun bt107 => ((pkey_Sign.f bt107.1 bt107.2.1 bt107.2.2.1 ([] : List Int)).bind fun bt118 => ((nat_Of.f 251).bind fun t122 => ((nat_Of.f 251).bind fun t125 => ((pkey_Make.f t122 t125 17).bind fun bt128 => (if bt107.2.2.2 = 0 then ((nat_Of.f 64507).bind fun t139 => ((nat_Cmp.f bt107.1 t139).bind fun t142 => (if t142 = 0 then ((nat_Of.f 26353).bind fun t143 => ((nat_Cmp.f bt107.2.2.1 t143).bind fun t146 => (if t146 = 0 then (if bt118.2 = 51 then (if bt128.2.2.2 = 50 then ((pkey_Size.f bt107.1 bt107.2.1 bt107.2.2.1).bind fun t147 => (some (t147 == 2))) else (some false)) else (some false)) else (some false)))) else (some false)))) else (some false))))))))
end Go.Proofs.Ytdmglajfmfjmlaa.Cv
namespace Go.Proofs.Ytdmglajfmfjmlaa.Cv
open Go.RowKit Go.Proofs.YtdmglajfmfjmlaaW.PrintWords Go.Proofs.YtdmglajfmfjmlaaW.PrintLast Go.Proofs.YtdmglajfmfjmlaaW.PrintMore
attribute [local go_sem] max2_int min2_int max_two min_two max_three min_three max_four min_four   -- for this text's walks alone
set_option linter.unusedVariables false
set_option linter.unusedSimpArgs false
end Go.Proofs.Ytdmglajfmfjmlaa.Cv
namespace Go.Proofs.Ytdmglajfmfjmlaa
set_option linter.unusedSimpArgs false
set_option linter.unusedVariables false
set_option maxRecDepth 100000
open Go.RowKit Go.Proofs.YtdmglajfmfjmlaaW.PrintWords Go.Proofs.YtdmglajfmfjmlaaW.PrintLast Go.Proofs.YtdmglajfmfjmlaaW.PrintMore
theorem pr_251 : IsPrime 251 := prime_trial (k := 5) (by decide) (by decide) (by decide +kernel)
theorem pr_257 : IsPrime 257 := prime_trial (k := 5) (by decide) (by decide) (by decide +kernel)
theorem mk_small : Ck.pkey_Make.f 1 (ofN 251) (ofN 257) 17 = some (ofN 64507, ofN 17, ofN 26353, 0) :=
  make_two (e := 17) (D := 26353) pr_251 pr_257 (by decide) (by decide +kernel) (by decide +kernel) (by decide) (by decide) (by decide) (by decide +kernel) (by decide +kernel) (by decide +kernel) (by decide +kernel) (by decide +kernel) (by decide +kernel) (by decide +kernel) 1 (Nat.le_refl _)
theorem mk_same : Ck.pkey_Make.f 1 (ofN 251) (ofN 251) 17 = some ([], [], [], 50) := by
  have l1 : ln 251 ≤ 1 := ln_small (by omega)
  unfold Ck.pkey_Make.f
  rw [ck_may pr_251 (by decide +kernel), Option.bind_some, if_pos rfl, Option.bind_some, if_pos rfl, ck_cmp (by omega) (by omega), Option.bind_some, show cmpN 251 251 = 0 by decide, if_pos rfl]
  rfl
theorem sg_small (t : List Int) : Cp.pkey_Sign.f 1 (ofN 64507) (ofN 17) (ofN 26353) t = some ([], 51) := by
  have hr : Cp.pkey_Right.f (ofN 64507) (ofN 17) (ofN 26353) = some 0 := ck_right (by decide) (by decide +kernel) (by decide) (by decide) (by decide) (by decide) (by decide)
  have hb : ∀ a : Nat, ln a ≤ 262144 → Cp.nat_Bits.f (ofN a) = some ((blen a : Nat) : Int) := fun a h => ck_bits h
  have l1 : ln 64507 ≤ 1 := ln_small (by omega)
  have l2 : ln 26353 ≤ 1 := ln_small (by omega)
  unfold Cp.pkey_Sign.f
  rw [hr, Option.bind_some, if_pos rfl, hb _ (by omega), Option.bind_some, show ((((blen 26353 : Nat) : Int)) == 0) = false by decide +kernel]
  simp only [Cp.pkey_Sign.j0, Bool.false_eq_true, if_false]
  unfold Cp.pkey_Size.f
  rw [hb _ (by omega), Option.bind_some, Option.bind_some, if_pos (by decide +kernel)]
theorem sz_small : Ck.pkey_Size.f (ofN 64507) (ofN 17) (ofN 26353) = some 2 := by
  have l1 : ln 64507 ≤ 1 := ln_small (by omega)
  unfold Ck.pkey_Size.f
  rw [ck_bits (by omega), Option.bind_some, show wrap64 (Int.tdiv (wrap64 (((blen 64507 : Nat) : Int) + 7)) 8) = 2 by decide +kernel]
theorem alive5_pure : Cv.clepsydralaw05_alive.f = some true := by
  have l1 : ln 64507 ≤ 1 := ln_small (by omega)
  have l2 : ln 26353 ≤ 1 := ln_small (by omega)
  have o : ∀ a : Nat, a < 18446744073709551616 → Cv.nat_Of.f (a : Int) = some (ofN a) := fun a h => ck_of h
  have c : ∀ a : Nat, ln a ≤ 262144 → Cv.nat_Cmp.f (ofN a) (ofN a) = some 0 := fun a h => by
    have h1 : Cv.nat_Cmp.f (ofN a) (ofN a) = some (cmpN a a) := ck_cmp h h
    rw [h1]; unfold cmpN; rw [if_neg (by omega), if_neg (by omega)]
  have o1 : Cv.nat_Of.f 251 = some (ofN 251) := o 251 (by omega)
  have o2 : Cv.nat_Of.f 257 = some (ofN 257) := o 257 (by omega)
  have o3 : Cv.nat_Of.f 64507 = some (ofN 64507) := o 64507 (by omega)
  have o4 : Cv.nat_Of.f 26353 = some (ofN 26353) := o 26353 (by omega)
  have m1 : Cv.pkey_Make.f (ofN 251) (ofN 257) 17 = some (ofN 64507, ofN 17, ofN 26353, 0) := mk_small
  have m2 : Cv.pkey_Make.f (ofN 251) (ofN 251) 17 = some ([], [], [], 50) := mk_same
  have s1 : Cv.pkey_Sign.f (ofN 64507) (ofN 17) (ofN 26353) [] = some ([], 51) := sg_small []
  have s2 : Cv.pkey_Size.f (ofN 64507) (ofN 17) (ofN 26353) = some 2 := sz_small
  unfold Cv.clepsydralaw05_alive.f
  rw [o1, Option.bind_some, o2, Option.bind_some, m1, Option.bind_some, s1, Option.bind_some, Option.bind_some, Option.bind_some, m2, Option.bind_some, if_pos rfl, o3, Option.bind_some, c _ (by omega), Option.bind_some, if_pos rfl, o4, Option.bind_some, c _ (by omega), Option.bind_some, if_pos rfl, if_pos rfl, if_pos rfl, s2, Option.bind_some]
  rfl
set_option maxRecDepth 100000 in
theorem sha_nilh : gd (shaN []) 0 = 227 := by decide +kernel
theorem ofI_any (a : Nat) (ha : a < 18446744073709551616) (w : World) : Calls Try.prog 22 #[.int .u64 (a : Int)] w fun e w' => ∃ A c, e = .returned (.slice A (ofN a).length c) ∧ Own .u64 40 w' w.heap.size A (ofN a).length c (toN (ofN a)) ∧ Below w.heap.size w w' := by
  refine (Cv.nat_Of.calls (a : Int) (ofN a) w (ck_of ha)).mono ?_
  rintro e w' ⟨v, rfl, hr, hb⟩
  obtain ⟨A, c, rfl, ho⟩ := Own.of_R hr (fun x hx => ((okN_ofN (m := 262144) (Nat.le_trans (ln_small ha) (by omega))).2 x hx).1)
  exact ⟨A, c, rfl, ho, hb⟩
theorem ofN_pos {a : Nat} (h : ln a ≤ 262144) : ∀ x ∈ ofN a, 0 ≤ x := fun x hx => ((okN_ofN (m := 262144) h).2 x hx).1
theorem C_ofI {k : IntKind} {w : World} {A : Option Addr} {c : Nat} {l : List Int} (h : Rd k w A l.length c (toN l)) (h0 : ∀ x ∈ l, 0 ≤ x) : Kd.C (Kd.int k) w A l.length l := by
  have h1 := C_of_Rd h
  have h2 : cI (toN l) = l := back_cI h0
  rwa [h2] at h1
theorem mks_any {w : World} {A1 A2 : Option Addr} {c1 c2 : Nat} (h1 : Rd .u64 w A1 (ofN 251).length c1 (toN (ofN 251))) (h2 : Rd .u64 w A2 (ofN 257).length c2 (toN (ofN 257))) :
    Calls Try.prog 47 #[.slice A1 (ofN 251).length c1, .slice A2 (ofN 257).length c2, .int .u64 17] w fun e w' => ∃ B1 d1 B2 d2 B3 d3, e = .returned (.tuple #[.agg #[.slice B1 (ofN 64507).length d1, .slice B2 (ofN 17).length d2, .slice B3 (ofN 26353).length d3], .int .i64 0]) ∧
      Own .u64 40 w' w.heap.size B1 (ofN 64507).length d1 (toN (ofN 64507)) ∧ Own .u64 40 w' w.heap.size B2 (ofN 17).length d2 (toN (ofN 17)) ∧ Own .u64 40 w' w.heap.size B3 (ofN 26353).length d3 (toN (ofN 26353)) ∧ Below w.heap.size w w' := by
  have s : ∀ a : Nat, a < 18446744073709551616 → ln a ≤ 262144 := fun a h => Nat.le_trans (ln_small h) (by omega)
  refine (Ck.pkey_Make.calls 1 A1 c1 (ofN 251) A2 c2 (ofN 257) 17 _ _ _ _ w (C_ofI h1 (ofN_pos (s _ (by omega)))) h1.cap (C_ofI h2 (ofN_pos (s _ (by omega)))) h2.cap mk_small).mono ?_
  rintro e w' ⟨v0, v1, v2, rfl, r0, r1, r2, hb⟩
  obtain ⟨B1, d1, rfl, o1⟩ := Own.of_R r0 (ofN_pos (s _ (by omega)))
  obtain ⟨B2, d2, rfl, o2⟩ := Own.of_R r1 (ofN_pos (s _ (by omega)))
  obtain ⟨B3, d3, rfl, o3⟩ := Own.of_R r2 (ofN_pos (s _ (by omega)))
  exact ⟨_, _, _, _, _, _, rfl, o1, o2, o3, hb⟩
theorem sgs_any {w : World} {A1 A2 A3 : Option Addr} {c1 c2 c3 : Nat} (h1 : Rd .u64 w A1 (ofN 64507).length c1 (toN (ofN 64507))) (h2 : Rd .u64 w A2 (ofN 17).length c2 (toN (ofN 17))) (h3 : Rd .u64 w A3 (ofN 26353).length c3 (toN (ofN 26353))) :
    Calls Try.prog 13 #[.agg #[.slice A1 (ofN 64507).length c1, .slice A2 (ofN 17).length c2, .slice A3 (ofN 26353).length c3], .slice none 0 0] w fun e w' => ∃ v, e = .returned (.tuple #[v, .int .i64 51]) ∧ Below w.heap.size w w' := by
  have s : ∀ a : Nat, a < 18446744073709551616 → ln a ≤ 262144 := fun a h => Nat.le_trans (ln_small h) (by omega)
  refine (Cp.pkey_Sign.calls 1 A1 c1 (ofN 64507) A2 c2 (ofN 17) A3 c3 (ofN 26353) none 0 [] _ _ w (C_ofI h1 (ofN_pos (s _ (by omega)))) h1.cap (C_ofI h2 (ofN_pos (s _ (by omega)))) h2.cap (C_ofI h3 (ofN_pos (s _ (by omega)))) h3.cap (C_ofI (Rd.nil .u8 w none 0) (by simp)) (Nat.zero_le _) (sg_small [])).mono ?_
  rintro e w' ⟨v, rfl, _, hb⟩
  exact ⟨v, rfl, hb⟩
theorem of26353 : ofN 26353 = [26353] := by decide +kernel
theorem run_index32 (ws : List Nat) (hl : ws.length = 32) (x : Nat) (hx : gd ws 0 = x) (w : World) : (Instr.index 83 (.agg (va .u8 ws)) (.int .i64 0)).run Try.prog w = .ok (.int .u8 (x : Int)) w := by
  subst hx
  have hix := va_at .u8 (xs := ws) (j := 0) (by omega)
  have h1 : ¬ (va IntKind.u8 ws).size = 0 := by rw [va_size, hl]; decide
  simp [Instr.index, asIntOf, run_underlying Try.underlying83, part, hix, go_sem]
set_option maxHeartbeats 2000000 in
theorem top3_giv {r : Bool} {w : World} (h : some true = some r) : Calls Try.prog 44 #[] w fun e w' => e = .returned (.bool r) ∧ Below w.heap.size w w' := by
  obtain rfl := Option.some.inj h
  clear h
  have o1 := ofI_any 251 (by omega)
  have o2 := ofI_any 257 (by omega)
  have hm := @mks_any
  have hg := @sgs_any
  simp only [show ((251 : Nat) : Int) = 251 from rfl, show ((257 : Nat) : Int) = 257 from rfl] at o1 o2
  rw [of26353] at hm hg
  simp only [List.length_singleton] at hm hg
  generalize ofN 251 = L1 at o1 hm
  generalize ofN 257 = L2 at o2 hm
  generalize ofN 64507 = L3 at hm hg
  generalize ofN 17 = L4 at hm hg
  obtain ⟨n1, hn1⟩ : ∃ n, L1.length = n := ⟨_, rfl⟩
  obtain ⟨n2, hn2⟩ : ∃ n, L2.length = n := ⟨_, rfl⟩
  obtain ⟨n3, hn3⟩ : ∃ n, L3.length = n := ⟨_, rfl⟩
  obtain ⟨n4, hn4⟩ : ∃ n, L4.length = n := ⟨_, rfl⟩
  rw [hn1] at o1 hm
  rw [hn2] at o2 hm
  rw [hn3, hn4] at hm hg
  clear hn1 hn2 hn3 hn4
  have hp0 := fun w : World => pkgSum_rd w (Rd.nil .u8 w none 0) B8.nil (by simp)
  have d0 := sha_nilh
  have l0 := shaN_length []
  simp only [List.length_nil] at hp0
  generalize shaN [] = D0 at hp0 d0 l0
  go_enter Try.func44, Try.ntmps44
  go_upto_region 1 with (fail)
  go_upto_region 2 with (first
    | (go_at_call 22; refine (o1 _).mono ?_; rintro e w1 ⟨A1, c1, rfl, ho1, hb1⟩)
    | (go_at_call 22; refine (o2 _).mono ?_; rintro e w2 ⟨A2, c2, rfl, ho2, hb2⟩)
    | (go_at_call 47; refine (hm (ho1.below hb2).rd ho2.rd).mono ?_; rintro e w3 ⟨B1, d1, B2, d2, B3, d3, rfl, k1, k2, k3, hb3⟩; have HB := Lib.hid (hb1.trans ((hb2.mono hb1.size).trans (hb3.mono (Nat.le_trans hb1.size hb2.size)))); have K := Lib.hid (And.intro k1 (And.intro k2 k3)); clear k1 k2 k3 ho1 ho2 hb1 hb2 hb3 hm o1 o2))
  have g1 := (Own.rd K.out.1).alloc (.cells #[.slice B1 n3 d1, .slice B2 n4 d2, .slice B3 1 d3] 26)
  have g2 := (Own.rd K.out.2.1).alloc (.cells #[.slice B1 n3 d1, .slice B2 n4 d2, .slice B3 1 d3] 26)
  have g3 := (Own.rd K.out.2.2).alloc (.cells #[.slice B1 n3 d1, .slice B2 n4 d2, .slice B3 1 d3] 26)
  have HG := Lib.hid (hg g1 g2 g3)
  clear hg g1 g2 g3
  go_upto_region 3 with (go_at_call 13; refine HG.out.mono ?_; rintro e w5 ⟨v5, rfl, hb5⟩)
  have bk := (Bk.new w3 26 #[.slice B1 n3 d1, .slice B2 n4 d2, .slice B3 1 d3]).below hb5 (by simp)
  have cd := bk.cell 2
  have fz := bk.frozen 2
  have hro : Rd .u64 w5 B3 1 d3 (toN [26353]) := ((Own.rd K.out.2.2).alloc _).below hb5
  obtain ⟨ad, rfl, hlt, hcell⟩ := hro.form (by omega)
  have ce : w5.cell? ad = some (.int .u64 26353) := hcell 0 (by omega)
  have HB5 := Lib.hid (HB.out.trans ((((Below.refl _ _).alloc (Nat.le_refl _) _).trans (hb5.mono (by simp))).mono HB.out.size))
  clear hcell hlt hro hb5 HB HG
  have hv := run_index32 D0 (by omega) 227 d0
  simp only [show ((227 : Nat) : Int) = 227 from rfl] at hv
  go_wp2_with (go_at_call 53; refine (hp0 _).mono ?_; rintro e w6 ⟨rfl, hb6⟩)
  go_ret
  exact ⟨rfl, HB5.out.trans (hb6.mono HB5.out.size)⟩
end Go.Proofs.Ytdmglajfmfjmlaa
