/- In whatever pieces a text comes, its digest is the same; asking for a sum changes nothing: the walks. -/
import Derived.Test.YtiimflmbcgnbeaaSd
namespace Go.Proofs.Ytiimflmbcgnbeaa
set_option linter.unusedSimpArgs false
set_option linter.unusedVariables false
open Go.RowKit Go.Proofs.YtiimflmbcgnbeaaW.PrintWords

/-- where a cut begins -/
def cutA (c lo : Nat) (A : Option Addr) : Option Addr := if c = lo then A else A.map (·.add lo)
theorem cutA_lt {c lo : Nat} {A : Option Addr} {B : Nat} (h : ∀ ad, A = some ad → ad.block < B) : ∀ ad, cutA c lo A = some ad → ad.block < B := by
  intro ad e
  unfold cutA at e
  split at e
  · exact h ad e
  · rcases A with _ | a
    · cases e
    · simp only [Option.map_some, Option.some.injEq] at e
      rw [← e]
      exact adlt (h a rfl) lo
theorem Rd.cut {k : IntKind} {w : World} {A : Option Addr} {n c : Nat} {xs : List Nat} (h : Rd k w A n c xs) {lo hi : Nat} (h1 : lo ≤ hi) (h2 : hi ≤ n) : Rd k w (cutA c lo A) (hi - lo) (c - lo) ((xs.drop lo).take (hi - lo)) :=
  (h.drop (m := lo) (by omega)).take (by omega)
theorem run_cut (A : Option Addr) (n c lo hi : Nat) (h1 : lo ≤ hi) (h2 : hi ≤ n) (hc : n ≤ c) (W : World) : (Instr.slice 22 (.slice A n c) (some (.int .i64 (lo : Int))) (some (.int .i64 (hi : Int))) none).run Try.prog W = .ok (.slice (cutA c lo A) (hi - lo) (c - lo)) W := by
  obtain ⟨i0, hi0, _, hz1, _⟩ := info_parts u8_info
  have := cut_mid (P := Try.prog) 22 5 .i64 .i64 Try.underlying22 hi0 1 hz1 A n c (lo : Int) (hi : Int) (by omega) (by omega) (by omega) hc W
  rw [this]
  simp [cutA]
theorem run_from (A : Option Addr) (n c lo : Nat) (h1 : lo ≤ n) (W : World) : (Instr.slice 22 (.slice A n c) (some (.int .i64 (lo : Int))) none none).run Try.prog W = .ok (.slice (cutA c lo A) (n - lo) (c - lo)) W := by
  obtain ⟨i0, hi0, _, hz1, _⟩ := info_parts u8_info
  have := cut_from (P := Try.prog) 22 5 .i64 Try.underlying22 hi0 1 hz1 A n c (lo : Int) (by omega) (by omega) W
  rw [this]
  simp [cutA]
theorem wr_any (w : World) {g base : Nat} {m b : List Nat} {A : Option Addr} {n c : Nat} (h : HS w g base m) (hb : Rd .u8 w A n c b) (hg : ∀ ad, A = some ad → ad.block ≠ g) (b8 : B8 b) (hlen : m.length + n < 140737488355328) :
    Calls Try.prog 23 #[.pointer (some ⟨g, 0, none⟩), .slice A n c] w fun e w' => e = .returned (.int .i64 0) ∧ Wrote g w w' ∧ HS w' g w.heap.size (m ++ b) := by
  obtain rfl := hb.len
  exact write_any w h hb hg b8 (by rw [List.length_append]; exact hlen)
theorem pk_any (w : World) {b : List Nat} {A : Option Addr} {n c : Nat} (hb : Rd .u8 w A n c b) (b8 : B8 b) (hlen : n < 70000000000000) (hB : ∀ ad, A = some ad → ad.block < w.heap.size) :
    Calls Try.prog 20 #[.slice A n c] w fun e w' => e = .returned (.agg (va .u8 (shaN b))) ∧ Below w.heap.size w w' := by
  obtain rfl := hb.len
  exact pkgSum_any w hb b8 hlen hB
theorem ky_any (w : World) {a b : List Nat} {A B : Option Addr} {n c m d : Nat} (ha : Rd .u8 w A n c a) (a8 : B8 a) (hA : ∀ ad, A = some ad → ad.block < w.heap.size) (hb : Rd .u8 w B m d b) (b8 : B8 b) (hlen : n + m < 70000000000000) (hB : ∀ ad, B = some ad → ad.block < w.heap.size) :
    Calls Try.prog 26 #[.slice A n c, .slice B m d] w fun e w' => e = .returned (.agg (va .u8 (shaN (a ++ b)))) ∧ Below w.heap.size w w' := by
  obtain rfl := hb.len
  obtain rfl := ha.len
  exact keyed_any w ha a8 hA hb b8 (by rw [List.length_append]; exact hlen) hB
theorem Wrote.later {g base : Nat} {w w' : World} (h : Wrote g w w') (hb : base ≤ w.heap.size) (hg : base ≤ g) : Below base w w' := h.below hb hg
theorem take_mid {b : List Nat} {i k : Nat} (h : i ≤ k) : b.take i ++ (b.drop i).take (k - i) = b.take k := by
  rw [List.take_drop, show i + (k - i) = k by omega]
  conv => rhs; rw [← List.take_append_drop i (b.take k), List.take_take, Nat.min_eq_left h]
set_option maxHeartbeats 1000000 in
theorem walk_ShaPieces (A0 : Option Addr) (n0 c0 : Nat) (b : List Nat) (n m : Int) (W : World) (rd0 : Rd .u8 W A0 n0 c0 b) (b8 : B8 b) (al0 : ∀ ad, A0 = some ad → ad.block < W.heap.size) (y0 : n0 * 1 ≤ 140737488351232) (w1 : (Lit.int .i64 n).wf = true) (w2 : (Lit.int .i64 m).wf = true) :
    Calls Try.prog 5 #[.slice A0 n0 c0, .int .i64 n, .int .i64 m] W fun e w' => e = .returned (.bool true) ∧ Below W.heap.size W w' := by
  go_enter Try.func5, Try.ntmps5
  by_cases h1 : (4000 : Int) < (n0 : Int)
  · skip
    go_wp2_with (go_at_call 18; refine (alive_any _).mono ?_; rintro e w1 ⟨rfl, hb1⟩)
    go_ret
    exact ⟨rfl, hb1⟩
  by_cases h2 : n < 0
  · skip
    go_wp2_with (go_at_call 18; refine (alive_any _).mono ?_; rintro e w1 ⟨rfl, hb1⟩)
    go_ret
    exact ⟨rfl, hb1⟩
  by_cases h3 : (n0 : Int) < n
  · skip
    go_wp2_with (go_at_call 18; refine (alive_any _).mono ?_; rintro e w1 ⟨rfl, hb1⟩)
    go_ret
    exact ⟨rfl, hb1⟩
  by_cases h4 : m < n
  · skip
    go_wp2_with (go_at_call 18; refine (alive_any _).mono ?_; rintro e w1 ⟨rfl, hb1⟩)
    go_ret
    exact ⟨rfl, hb1⟩
  by_cases h5 : (n0 : Int) < m
  · skip
    go_wp2_with (go_at_call 18; refine (alive_any _).mono ?_; rintro e w1 ⟨rfl, hb1⟩)
    go_ret
    exact ⟨rfl, hb1⟩
  obtain ⟨i, rfl⟩ : ∃ i : Nat, n = (i : Int) := ⟨n.toNat, by omega⟩
  obtain ⟨k, rfl⟩ : ∃ j : Nat, m = (j : Int) := ⟨m.toNat, by omega⟩
  have hlen := rd0.len
  have hcap := rd0.cap
  have t1 := decide_eq_false h1
  have t2 := decide_eq_false h2
  have t3 := decide_eq_false h3
  have t4 := decide_eq_false h4
  have t5 := decide_eq_false h5
  have hik : i ≤ k := by omega
  have hkn : k ≤ n0 := by omega
  have hic : (i : Int) ≤ (c0 : Int) := by omega
  have hkc : (k : Int) ≤ (c0 : Int) := by omega
  have i0 : (0 : Int) ≤ (i : Int) := by omega
  have k0 : (0 : Int) ≤ (k : Int) := by omega
  have X1 := fun W' => run_cut A0 n0 c0 i k hik hkn hcap W'
  have X2 := fun W' => run_from A0 n0 c0 k hkn W'
  have hnew := new_hs W 0
  go_upto_region 6 with (go_at_call 22; refine hnew.mono ?_; rintro e wa ⟨rfl, ha, ba⟩)
  have ra := rd0.below ba
  have hla := ha.lt
  have hwr1 := wr_any wa ha (ra.take (m := i) (by omega)) (fun ad e => by have := al0 ad e; omega) (b8.take i) (by simp; omega)
  clear hnew
  go_upto_region 8 with (first
    | (go_at_call 23; refine hwr3.mono ?_; rintro e wd ⟨rfl, gd, hd⟩)
    | (go_at_call 23; refine hwr2.mono ?_; rintro e wc ⟨rfl, gc, hc⟩
       have bc := gc.below (base := W.heap.size) (Nat.le_of_lt hb.lt) (Nat.le_refl _)
       have rc := rd0.below ((ba.trans bb).trans bc)
       have u1 : Rd .u8 wc (cutA c0 k A0) (n0 - k) (c0 - k) (b.drop k) := rc.drop (m := k) hkn
       have u2 : ∀ ad, cutA c0 k A0 = some ad → ad.block ≠ W.heap.size := fun ad e => by have := cutA_lt al0 ad e; omega
       have u3 : B8 (b.drop k) := b8.drop k
       have u4 : ([] ++ b.take i ++ (b.drop i).take (k - i)).length + (n0 - k) < 140737488355328 := by simp; omega
       have hwr3 := wr_any wc hc u1 u2 u3 u4)
    | (go_at_call 23; refine hwr1.mono ?_; rintro e wb ⟨rfl, gb, hb⟩
       have bb := gb.below (base := W.heap.size) (by omega) (Nat.le_refl _)
       have rb := rd0.below (ba.trans bb)
       have q1 := rb.cut hik hkn
       have q2 : ∀ ad, cutA c0 i A0 = some ad → ad.block ≠ W.heap.size := fun ad e => by have := cutA_lt al0 ad e; omega
       have q3 : B8 ((b.drop i).take (k - i)) := (b8.drop i).take _
       have q4 : ([] ++ b.take i).length + (k - i) < 140737488355328 := by simp; omega
       have hwr2 := wr_any wb hb q1 q2 q3 q4))
  have bd := ((ba.trans bb).trans bc).trans (gd.below (base := W.heap.size) (Nat.le_of_lt hc.lt) (Nat.le_refl _))
  have hm : [] ++ b.take i ++ (b.drop i).take (k - i) ++ b.drop k = b := by
    rw [List.nil_append, take_mid hik, List.take_append_drop]
  rw [hm] at hd
  have HD := Lib.hid hd
  have BD := Lib.hid bd
  have hsz := bd.size
  clear hwr1 hwr2 hwr3 q1 q2 q3 q4 u1 u2 u3 u4 ha hb hc gb gc gd rb rc bb bc ra ba hla
  obtain ⟨D, hD⟩ : ∃ z, shaN b = z := ⟨_, rfl⟩
  have lD : D.length = 32 := by rw [← hD]; exact shaN_length b
  have EQ := fun w' => run_eq32 w' lD lD
  have EG := eq32_guard
  simp only [decide_true] at EQ
  refine bels_region (by kernel_rfl) (by kernel_rfl) ?_
  (refine wpQuiet_step (fun K hK => ?_); go_simp; apply Exists.intro; refine ⟨fun i => ?_, hK _ ?_⟩)
  · exact bels_call (Nat.le_refl _) (alive_any i.w)
  clear hK K
  (repeat (refine wpQuiet_step (fun K hK => ?_); go_simp; refine hK _ ?_; clear hK K))
  (refine wpQuiet_step (fun K hK => ?_); go_simp; apply Exists.intro; refine ⟨fun i => ?_, hK _ ?_⟩)
  · exact bels_call (Nat.le_refl _) (sum_any i.w (HD.out.below i.h) (by omega))
  clear hK K
  rw [hD]
  (repeat (refine wpQuiet_step (fun K hK => ?_); go_simp; refine hK _ ?_; clear hK K))
  (refine wpQuiet_step (fun K hK => ?_); go_simp; apply Exists.intro; refine ⟨fun i => ?_, hK _ ?_⟩)
  · exact bels_call (Nat.le_refl _) (pk_any i.w (rd0.below (BD.out.trans (i.h.mono hsz))) b8 (by omega) (fun ad e => by have := al0 ad e; have := i.h.size; omega))
  clear hK K
  rw [hD]
  (repeat (refine wpQuiet_step (fun K hK => ?_); go_simp; refine hK _ ?_; clear hK K))
  (refine wpQuiet_step (fun K hK => ?_); go_simp; apply Exists.intro; refine ⟨fun i => ?_, hK _ ?_⟩)
  · have hbi := BD.out.trans (i.h.mono hsz)
    have hal : ∀ ad, A0 = some ad → ad.block < i.w.heap.size := fun ad e => by have := al0 ad e; have := i.h.size; omega
    have u1 : Rd .u8 i.w (cutA c0 k A0) (n0 - k) (c0 - k) (b.drop k) := (rd0.below hbi).drop (m := k) hkn
    exact bels_call (Nat.le_refl _) (ky_any i.w ((rd0.below hbi).take (m := k) hkn) (b8.take k) hal u1 (b8.drop k) (by omega) (cutA_lt hal))
  clear hK K
  rw [List.take_append_drop, hD]
  (repeat (refine wpQuiet_step (fun K hK => ?_); go_simp; refine hK _ ?_; clear hK K))
  (refine wpQuiet_step (fun K hK => ?_); go_simp; apply Exists.intro; refine ⟨fun i => ?_, hK _ ?_⟩)
  · exact bels_call (Nat.le_refl _) (pk_any i.w (rd0.below (BD.out.trans (i.h.mono hsz))) b8 (by omega) (fun ad e => by have := al0 ad e; have := i.h.size; omega))
  clear hK K
  rw [hD]
  (repeat (refine wpQuiet_step (fun K hK => ?_); go_simp; refine hK _ ?_; clear hK K))
  refine wpQuiet_nil ?_
  intro z
  go_wp2_with fail
  go_ret
  exact ⟨rfl, BD.out.trans (z.h.mono hsz)⟩
end Go.Proofs.Ytiimflmbcgnbeaa
