/- Texts of this claim, joined: what its laws use. -/
import Derived.Test.YtdmglajfmfjmlaaVHC
import Derived.Deep.RegionHeld3
import Derived.Laws.BitsAllLaws
import Derived.Deep.WholeRow
import Derived.Deep.DeepCutAuto
import Derived.RangeFuncNested
import Derived.RangeFuncBound
import Derived.RangeFuncCalls
import Derived.RangeFuncLeaves
import Derived.OrdersIn
import Derived.StillTail
import Derived.OwnWalkIn
import Derived.TacticsInMore
import Derived.ArgAppend
import Derived.Still
import Derived.LoopNIn
import Derived.LoopIn
import Derived.Shelf.RegionOpen
import Derived.Laws.CopyOwn
import Derived.BigQuiet
import Derived.Lib.Bytes
namespace Go.Proofs.Ytdmglajfmfjmlaa
set_option linter.unusedSimpArgs false
set_option linter.unusedVariables false
set_option maxRecDepth 100000
open Go.RowKit Go.Proofs.YtdmglajfmfjmlaaW.PrintWords Go.Proofs.YtdmglajfmfjmlaaW.PrintLast Go.Proofs.YtdmglajfmfjmlaaW.PrintMore
def powR (a e n : Nat) : List Int × Int := (ofN (if n = 0 then 0 else powM a e n), if n = 0 then 11 else 0)
theorem powR_pos {a e n : Nat} (h : n ≠ 0) : powR a e n = (ofN (powM a e n), 0) := by unfold powR; rw [if_neg h, if_neg h]
theorem invR_pos {a n : Nat} (h : n ≠ 0) (h' : Nat.gcd a n = 1) : invR a n = (ofN (invN a n), 0) := by unfold invR; rw [if_neg h, if_pos h']
section
variable {A0 A1 A2 : Option Addr} {c0 c1 c2 : Nat} {l0 l1 l2 : List Int} {w : World}
theorem pow_giv {r1 : List Int} {r2 : Int} (hr0 : Kd.C (Kd.int .u64) w A0 l0.length l0) (hc0 : l0.length ≤ c0) (hr1 : Kd.C (Kd.int .u64) w A1 l1.length l1) (hc1 : l1.length ≤ c1) (hr2 : Kd.C (Kd.int .u64) w A2 l2.length l2) (hc2 : l2.length ≤ c2) (h : (if okN 4096 l0 ∧ okN 4096 l1 ∧ okN 1024 l2 then some (powR (nI l0) (nI l1) (nI l2)) else none) = some (r1, r2)) :
    Calls Try.prog 21 #[.slice A0 l0.length c0, .slice A1 l1.length c1, .slice A2 l2.length c2] w fun e w' => ∃ v0_ : Value, e = .returned (.tuple #[v0_, .int .i64 r2]) ∧ Kd.R (Kd.int .u64) 40 w' w.heap.size (fun _ => True) v0_ r1 ∧ Below w.heap.size w w' := by
  obtain ⟨⟨h0, h1, h2⟩, h⟩ := of_ite h
  exact Cm.modn_Pow.calls (blen (nI l1) + 1) _ _ _ _ _ _ _ _ _ _ _ _ hr0 hc0 hr1 hc1 hr2 hc2 ((pow_pure h0 h1 h2 _ (by omega)).trans (congrArg some h))
theorem inverse_giv {r1 : List Int} {r2 : Int} (hr0 : Kd.C (Kd.int .u64) w A0 l0.length l0) (hc0 : l0.length ≤ c0) (hr1 : Kd.C (Kd.int .u64) w A1 l1.length l1) (hc1 : l1.length ≤ c1) (h : (if okN 65536 l0 ∧ okN 65536 l1 then some (invR (nI l0) (nI l1)) else none) = some (r1, r2)) :
    Calls Try.prog 77 #[.slice A0 l0.length c0, .slice A1 l1.length c1] w fun e w' => ∃ v0_ : Value, e = .returned (.tuple #[v0_, .int .i64 r2]) ∧ Kd.R (Kd.int .u64) 40 w' w.heap.size (fun _ => True) v0_ r1 ∧ Below w.heap.size w w' := by
  obtain ⟨⟨h0, h1⟩, h⟩ := of_ite h
  obtain ⟨k, hk⟩ := inverse_pure h0 h1
  exact Cm.modn_Inverse.calls k _ _ _ _ _ _ _ _ _ hr0 hc0 hr1 hc1 ((hk k (Nat.le_refl _)).trans (congrArg some h))
theorem tells_giv {a1 : Int} {r : Bool} (hr0 : Kd.C (Kd.int .u64) w A0 l0.length l0) (hc0 : l0.length ≤ c0) (h : (if okN 1024 l0 ∧ 0 ≤ a1 ∧ a1 < 18446744073709551616 then some (tellsN (nI l0) a1.toNat) else none) = some r) :
    Calls Try.prog 107 #[.slice A0 l0.length c0, .int .u64 a1] w fun e w' => e = .returned (.bool r) ∧ Below w.heap.size w w' := by
  obtain ⟨⟨h0, h1, h2⟩, rfl⟩ := of_ite h
  obtain ⟨b, rfl⟩ : ∃ b : Nat, a1 = b := ⟨a1.toNat, by omega⟩
  obtain ⟨k, hk⟩ := tells_pure h0 (b := b) (by omega)
  exact Cm.modn_Tells.calls k _ _ _ _ _ _ hr0 hc0 (hk k (Nat.le_refl _))
end
end Go.Proofs.Ytdmglajfmfjmlaa
namespace Go.Proofs.Ytdmglajfmfjmlaa
set_option linter.unusedSimpArgs false
set_option linter.unusedVariables false
set_option maxRecDepth 100000
open Go.RowKit
theorem cong_gcd_inv {n a G : Nat} : ∀ (r o l x : Nat), l < n → x < n → Cong n a l o → Cong n a x r → Nat.gcd o r = 1 → 0 < n → ∃ y, y < n ∧ a * y % n = 1 % n := by
  intro r
  induction r using Nat.strongRecOn with
  | ind r ih =>
    intro o l x hlt hxt c1 c2 hg hn
    by_cases h0 : r = 0
    · rw [h0, Nat.gcd_zero_right] at hg
      exact ⟨l, hlt, cong_gcd c1 hg⟩
    · have hp : 0 < r := by omega
      exact ih (o % r) (Nat.mod_lt o hp) r x _ hxt (subM_lt hlt (Nat.mod_lt _ hn)) c2 (c1.next c2 hp hn) (by rw [← hg, Nat.gcd_comm o r, Nat.gcd_rec r o, Nat.gcd_comm r]) hn
theorem cong_start1 (n a : Nat) : Cong n a 0 n := ⟨-1, by simp⟩
theorem cong_start2 (m x : Nat) : Cong m x (1 % m) (x % m) := by
  have h1 := Nat.div_add_mod x m
  have h2 := Nat.div_add_mod 1 m
  refine ⟨(x / m : Nat) - (1 / m : Nat) * x, ?_⟩
  have h1' : ((x % m : Nat) : Int) = x - m * (x / m : Nat) := by
    have : ((m * (x / m) + x % m : Nat) : Int) = x := by rw [h1]
    rw [← this]; push_cast; omega
  have h2' : ((1 % m : Nat) : Int) = 1 - m * (1 / m : Nat) := by
    have : ((m * (1 / m) + 1 % m : Nat) : Int) = (1 : Nat) := by rw [h2]
    rw [← Int.natCast_one, ← this]; push_cast; omega
  rw [h1', h2']
  grind
theorem invN_gcd {a n : Nat} (hn : n ≠ 0) (hg : Nat.gcd a n = 1) : invN a n < n ∧ a * invN a n % n = 1 % n :=
  invN_spec (cong_gcd_inv (G := 1) (a % n) n 0 (1 % n) (by omega) (Nat.mod_lt _ (by omega)) (cong_start1 n a) (cong_start2 n a) (by rw [← hg, Nat.gcd_comm a n, Nat.gcd_rec n a, Nat.gcd_comm n]) (by omega))
end Go.Proofs.Ytdmglajfmfjmlaa
namespace Go.Proofs.Ytdmglajfmfjmlaa
set_option linter.unusedSimpArgs false
set_option linter.unusedVariables false
set_option maxRecDepth 100000
open Go.RowKit Go.Proofs.YtdmglajfmfjmlaaW.PrintWords Go.Proofs.YtdmglajfmfjmlaaW.PrintLast
theorem lit_any (w : World) {A : Option Addr} {c g b : Nat} {l : List Int} (hc : Kd.C (Kd.int .u64) w A l.length l) (hlc : l.length ≤ c) (ho : okN 1024 l) (hb : b < 18446744073709551616) (hcell : w.cell? ⟨g, 0, none⟩ = some (.slice A l.length c)) :
    Calls Try.prog 106 #[.int .u64 b, .pointer (some ⟨g, 0, none⟩)] w fun e w' => e = .returned (.bool (tellsN (nI l) b)) ∧ Below w.heap.size w w' := by
  have HT := Lib.hid (tells_giv (a1 := (b : Int)) (r := tellsN (nI l) b) hc hlc (by rw [if_pos ⟨ho, by omega, by omega⟩, Int.toNat_natCast]))
  clear hc ho
  go_enter Try.func106, Try.ntmps106
  go_wp2_with fail
  refine HT.out.mono ?_
  rintro e w' ⟨rfl, hbel⟩
  go_wp2_with fail
  go_ret
  exact ⟨rfl, hbel⟩
def firstT (n : Nat) : List Nat → Nat → Int
  | [], _ => -1
  | b :: bs, i => if tellsN n b then (i : Int) else firstT n bs (i + 1)
theorem firstT_neg (n : Nat) (bs : List Nat) : ∀ i, (decide (0 ≤ firstT n bs i)) = bs.any (tellsN n) := by
  induction bs with
  | nil => intro i; rfl
  | cons b bs ih =>
    intro i
    unfold firstT
    rw [List.any_cons]
    cases h : tellsN n b
    · rw [if_neg (by simp), ih]; rfl
    · rw [if_pos rfl]; simp
theorem firstT_drop {n : Nat} {bs : List Nat} {k : Nat} (h : k < bs.length) : firstT n (bs.drop k) k = if tellsN n (gd bs k) then (k : Int) else firstT n (bs.drop (k + 1)) (k + 1) := by
  rw [List.drop_eq_getElem_cons h, gd_lt h]; rfl
structure PrW (w : World) (A : Option Addr) (c g : Nat) (l : List Int) : Prop where
  rd : Kd.C (Kd.int .u64) w A l.length l
  cap : l.length ≤ c
  ok : okN 1024 l
  box : w.cell? ⟨g, 0, none⟩ = some (.slice A l.length c)
  lt : g < w.heap.size
theorem PrW.below {w w' : World} {A : Option Addr} {c g : Nat} {l : List Int} (h : PrW w A c g l) (hb : Below w.heap.size w w') : PrW w' A c g l :=
  ⟨Kd.C_below h.rd hb, h.cap, h.ok, (hb.cell (p := ⟨g, 0, none⟩) h.lt).trans h.box, Nat.lt_of_lt_of_le h.lt hb.size⟩
set_option maxHeartbeats 400000 in
theorem index_any (w : World) {A B : Option Addr} {c g n d : Nat} {l : List Int} {bs : List Nat} (h : PrW w A c g l) (hb : Rd .u64 w B n d bs) (bb : B64 bs) (hn : n ≤ 1099511627776) :
    Calls Try.prog 124 #[.slice B n d, .func (.func 106) #[] #[.pointer (some ⟨g, 0, none⟩)]] w fun e w' => e = .returned (.int .i64 (firstT (nI l) bs 0)) ∧ Below w.heap.size w w' := by
  have H := Lib.hid h
  have HB := Lib.hid hb
  have BB := Lib.hid bb
  have hmax := hb.max
  have hcap := hb.cap
  clear h hb bb
  go_enter Try.func124, Try.ntmps124
  go_wp2_with fail
  go_loopw [8] (fun i wr => ∃ k : Nat, k ≤ n ∧ i = .int .i64 (k : Int) ∧ Below w.heap.size w wr ∧ firstT (nI l) (bs.drop k) k = firstT (nI l) bs 0) (fun i _ => n - (intOf i).toNat)
  case atStart => exact ⟨0, Nat.zero_le _, rfl, Below.refl _ _, rfl⟩
  case round =>
    obtain ⟨k, hk, rfl, hbel, hf⟩ := hrel
    have HBEL := Lib.hid hbel
    have HF := Lib.hid hf
    clear hf
    by_cases hlt : k < n
    · obtain ⟨ad, rfl, hab, hac⟩ := (HB.out.below hbel).form (by omega)
      have hx := hac k hlt
      obtain ⟨b, hb⟩ : ∃ b, gd bs k = b := ⟨_, rfl⟩
      rw [hb] at hx
      have hb64 : b < 18446744073709551616 := by rw [← hb]; exact BB.out.gd k
      have HST := Lib.hid (firstT_drop (n := nI l) (bs := bs) (k := k) (by rw [HB.out.len]; exact hlt))
      have HP := Lib.hid (H.out.below HBEL.out)
      have HGB := Lib.hid hb
      clear hac hbel hb
      have HL := Lib.hid (lit_any wr HP.out.rd HP.out.cap HP.out.ok hb64 HP.out.box)
      by_cases htl : tellsN (nI l) b = true
      · have HTL := Lib.hid htl
        rw [htl] at HL
        clear htl
        go_wp2_with fail
        refine HL.out.mono ?_
        rintro e w1 ⟨rfl, hb1⟩
        have HB1 := Lib.hid (HBEL.out.trans (hb1.mono HBEL.out.size))
        clear hb1
        go_wp2_with fail
        go_ret
        refine ⟨?_, HB1.out⟩
        rw [← HF.out, HST.out, HGB.out, if_pos HTL.out]; rfl
      · have htl' : tellsN (nI l) b = false := by simpa using htl
        have HTL := Lib.hid htl'
        rw [htl'] at HL
        clear htl htl'
        go_wp2_with fail
        refine HL.out.mono ?_
        rintro e w1 ⟨rfl, hb1⟩
        have HB1 := Lib.hid (HBEL.out.trans (hb1.mono HBEL.out.size))
        clear hb1
        go_wp2_with fail
        refine ⟨⟨k + 1, by omega, by go_num, HB1.out, ?_⟩, by simp [intOf]; omega⟩
        rw [← HF.out, HST.out, HGB.out, HTL.out]; rfl
    · obtain rfl : n = k := by omega
      have HZ := Lib.hid (show firstT (nI l) bs 0 = -1 by rw [← HF.out, List.drop_eq_nil_of_le (by rw [HB.out.len]; exact Nat.le_refl _)]; rfl)
      clear hbel
      go_wp2_with fail
      go_ret
      exact ⟨by rw [HZ.out]; rfl, HBEL.out⟩
theorem contains_any (w : World) {A B : Option Addr} {c g n d : Nat} {l : List Int} {bs : List Nat} (h : PrW w A c g l) (hb : Rd .u64 w B n d bs) (bb : B64 bs) (hn : n ≤ 1099511627776) :
    Calls Try.prog 105 #[.slice B n d, .func (.func 106) #[] #[.pointer (some ⟨g, 0, none⟩)]] w fun e w' => e = .returned (.bool (bs.any (tellsN (nI l)))) ∧ Below w.heap.size w w' := by
  have HI := Lib.hid (index_any w h hb bb hn)
  have HN := Lib.hid (firstT_neg (nI l) bs 0)
  obtain ⟨z, hz⟩ : ∃ z, firstT (nI l) bs 0 = z := ⟨_, rfl⟩
  rw [hz] at HI HN
  clear h hb bb hz
  go_enter Try.func105, Try.ntmps105
  go_wp2_with fail
  refine HI.out.mono ?_
  rintro e w1 ⟨rfl, hb1⟩
  go_wp2_with fail
  go_ret
  exact ⟨by rw [← HN.out]; rfl, hb1⟩
set_option maxHeartbeats 1000000 in
theorem prime_any (w : World) {A B : Option Addr} {c n d : Nat} {l : List Int} {bs : List Nat} (hc : Kd.C (Kd.int .u64) w A l.length l) (hlc : l.length ≤ c) (ho : okN 1024 l) (hb : Rd .u64 w B n d bs) (bb : B64 bs) (hn : n ≤ 1099511627776) :
    Calls Try.prog 70 #[.slice A l.length c, .slice B n d] w fun e w' => e = .returned (.bool (primeN (nI l) bs)) ∧ Below w.heap.size w w' := by
  have hP0 : PrW (w.alloc (.cells #[.slice A l.length c] 24)).drew A c w.heap.size l :=
    ⟨Kd.C_drew (Kd.C_alloc hc _), hlc, ho, ((Bk.new w 24 #[.slice A l.length c]).cell 0).trans rfl, by simp⟩
  have S0 := hP0.box
  have HP := Lib.hid hP0
  have B0 : Below w.heap.size w (w.alloc (.cells #[.slice A l.length c] 24)).drew := by (repeat (first | (with_reducible exact Below.refl _ _) | (with_reducible assumption) | (with_reducible refine Below.drew ?_) | (with_reducible refine below_drewN ?_ _) | ((with_reducible refine Below.setCell ?_ (p := ⟨_, _, _⟩) ?_ _); rotate_left; (simp <;> omega)) | ((with_reducible refine Below.alloc ?_ ?_ _); rotate_left; (simp <;> omega)) | ((with_reducible refine Below.trans ?_ (Below.mono (by with_reducible assumption) ?_)); rotate_left; (simp <;> omega))))
  have hs0 : (w.alloc (.cells #[.slice A l.length c] 24)).drew.heap.size = w.heap.size + 1 := by simp
  have HB := Lib.hid hb
  have BB := Lib.hid bb
  have HO := Lib.hid (show Calls Try.prog 22 #[.int .u64 2] (w.alloc (.cells #[.slice A l.length c] 24)).drew (RetN 2 (w.alloc (.cells #[.slice A l.length c] 24)).drew) from of_any _ 2 (by omega))
  have hlen := ho.1
  have HCMP := Lib.hid (fun (W : World) (hW : PrW W A c w.heap.size l) (A1 : Option Addr) (c1 : Nat) (h1 : NA W A1 (ln 2) c1 2) => cmp_any W (na_of_C hW.rd hW.cap hW.ok) h1 (by omega) (Nat.le_trans (ln_small (by omega)) (by omega)))
  obtain ⟨z, hz⟩ : ∃ z, cmpN (nI l) 2 = z := ⟨_, rfl⟩
  rw [hz] at HCMP
  have hz2 : (z < 0) ↔ nI l < 2 := by
    rw [← hz]; unfold cmpN
    constructor
    · intro h
      by_cases h1 : nI l < 2
      · exact h1
      · rw [if_neg h1] at h; split at h <;> omega
    · intro h; rw [if_pos h]; omega
  have HZ := Lib.hid hz2
  clear hc ho hb bb hP0 hz hz2
  go_enter Try.func70, Try.ntmps70
  go_wp2_with fail
  go_region_held3 (fun w' => w'.cell? ⟨w.heap.size, 0, none⟩ = some (.slice A l.length c))
    (with_reducible assumption)
    ((first | (go_at_call 22; (with_reducible refine HO.out.mono ?_); rintro e w1 ⟨A1, c1, rfl, ho1, hb1⟩; have hp1 := HP.out.below hb1; have S1 := hp1.box) | (go_at_call 33; refine (HCMP.out _ hp1 A1 c1 ho1.na).mono ?_; rintro e w2 ⟨rfl, rfl⟩)))
  have HB1 := Lib.hid (B0.trans (hb1.mono (by simp)))
  have HP1 := Lib.hid hp1
  clear S0 S1 hb1 ho1 B0 hp1
  by_cases h2 : nI l < 2
  · have hzd : z < 0 := HZ.out.2 h2
    have HPR := Lib.hid (show primeN (nI l) bs = false by unfold primeN; rw [if_pos h2])
    clear h2
    go_wp2_with fail
    go_ret
    exact ⟨by rw [HPR.out]; rfl, HB1.out⟩
  · have hzd : ¬ z < 0 := fun h => h2 (HZ.out.1 h)
    have HC := Lib.hid (contains_any w1 HP1.out (HB.out.below HB1.out) BB.out hn)
    have HPR := Lib.hid (show primeN (nI l) bs = !(bs.any (tellsN (nI l))) by unfold primeN; rw [if_neg h2, List.not_any_eq_all_not])
    obtain ⟨q, hq⟩ : ∃ q, bs.any (tellsN (nI l)) = q := ⟨_, rfl⟩
    rw [hq] at HC HPR
    clear h2 hq
    go_wp2_with fail
    refine HC.out.mono ?_
    rintro e w2 ⟨rfl, hb2⟩
    have HB2 := Lib.hid (HB1.out.trans (hb2.mono HB1.out.size))
    clear hb2
    go_wp2_with fail
    go_ret
    exact ⟨by rw [HPR.out]; rfl, HB2.out⟩
theorem prime_giv {A0 A1 : Option Addr} {c0 c1 : Nat} {l0 l1 : List Int} {w : World} {r : Bool} (hr0 : Kd.C (Kd.int .u64) w A0 l0.length l0) (hc0 : l0.length ≤ c0) (hr1 : Kd.C (Kd.int .u64) w A1 l1.length l1) (hc1 : l1.length ≤ c1) (h : (if okN 1024 l0 ∧ okN 1048576 l1 then some (primeN (nI l0) (toN l1)) else none) = some r) :
    Calls Try.prog 70 #[.slice A0 l0.length c0, .slice A1 l1.length c1] w fun e w' => e = .returned (.bool r) ∧ Below w.heap.size w w' := by
  obtain ⟨⟨h0, h1⟩, rfl⟩ := of_ite h
  exact prime_any w hr0 hc0 h0 (rd_of_C hr1 hc1 h1) h1.b64 (by have := h1.1; omega)
end Go.Proofs.Ytdmglajfmfjmlaa
namespace Go.Proofs.Ytdmglajfmfjmlaa
set_option linter.unusedSimpArgs false
set_option linter.unusedVariables false
set_option maxRecDepth 100000
open Go.RowKit
def B32 (xs : List Nat) : Prop := ∀ x ∈ xs, x < 4294967296
def B8 (xs : List Nat) : Prop := ∀ x ∈ xs, x < 256
def rot (x n : Nat) : Nat := (x / 2 ^ n) ||| (x * 2 ^ (32 - n) % 4294967296)
def sg0 (x : Nat) : Nat := rot x 7 ^^^ rot x 18 ^^^ x / 8
def sg1 (x : Nat) : Nat := rot x 17 ^^^ rot x 19 ^^^ x / 1024
def bg1 (x : Nat) : Nat := rot x 6 ^^^ rot x 11 ^^^ rot x 25
def bg0 (x : Nat) : Nat := rot x 2 ^^^ rot x 13 ^^^ rot x 22
def chN (e f g : Nat) : Nat := (e &&& f) ^^^ ((4294967295 - e) &&& g)
def mjN (a b c : Nat) : Nat := (a &&& b) ^^^ (a &&& c) ^^^ (b &&& c)
def nextW (ws : List Nat) (t : Nat) : Nat := (gd ws (t - 16) + sg0 (gd ws (t - 15)) + gd ws (t - 7) + sg1 (gd ws (t - 2))) % 4294967296
def sched : Nat → List Nat → List Nat
  | 0, ws => ws
  | n + 1, ws => (fun us => us ++ [nextW us us.length]) (sched n ws)
def kN : List Nat := [1116352408, 1899447441, 3049323471, 3921009573, 961987163, 1508970993, 2453635748, 2870763221, 3624381080, 310598401, 607225278, 1426881987, 1925078388, 2162078206, 2614888103, 3248222580, 3835390401, 4022224774, 264347078, 604807628, 770255983, 1249150122, 1555081692, 1996064986, 2554220882, 2821834349, 2952996808, 3210313671, 3336571891, 3584528711, 113926993, 338241895, 666307205, 773529912, 1294757372, 1396182291, 1695183700, 1986661051, 2177026350, 2456956037, 2730485921, 2820302411, 3259730800, 3345764771, 3516065817, 3600352804, 4094571909, 275423344, 430227734, 506948616, 659060556, 883997877, 958139571, 1322822218, 1537002063, 1747873779, 1955562222, 2024104815, 2227730452, 2361852424, 2428436474, 2756734187, 3204031479, 3329325298]
def hN : List Nat := [1779033703, 3144134277, 1013904242, 2773480762, 1359893119, 2600822924, 528734635, 1541459225]
def rndX (v : List Nat) (k w : Nat) : Nat := (gd v 7 + bg1 (gd v 4) + chN (gd v 4) (gd v 5) (gd v 6) + k + w) % 4294967296
def rndY (v : List Nat) : Nat := (bg0 (gd v 0) + mjN (gd v 0) (gd v 1) (gd v 2)) % 4294967296
def rnd (v : List Nat) (k w : Nat) : List Nat := [(rndX v k w + rndY v) % 4294967296, gd v 0, gd v 1, gd v 2, (gd v 3 + rndX v k w) % 4294967296, gd v 4, gd v 5, gd v 6]
def rounds (ws h : List Nat) : Nat → List Nat
  | 0 => h
  | t + 1 => rnd (rounds ws h t) (gd kN t) (gd ws t)
def be4 (p : List Nat) (i : Nat) : Nat := gd p (4 * i) * 16777216 + gd p (4 * i + 1) * 65536 + gd p (4 * i + 2) * 256 + gd p (4 * i + 3)
def w16 (p : List Nat) : List Nat := (List.range 16).map (be4 p)
def addW (h v : List Nat) (i : Nat) : List Nat := (List.range i).map fun j => (gd h j + gd v j) % 4294967296
def blockN (h p : List Nat) : List Nat := addW h (rounds (sched 48 (w16 p)) h 64) 8
theorem B32.nil : B32 [] := fun x hx => by cases hx
theorem B32.cons {x : Nat} {xs : List Nat} (h : x < 4294967296) (hs : B32 xs) : B32 (x :: xs) := fun y hy => by
  rcases List.mem_cons.1 hy with rfl | hy
  · exact h
  · exact hs y hy
theorem B32.gd {xs : List Nat} (h : B32 xs) (j : Nat) : gd xs j < 4294967296 := by
  rcases Nat.lt_or_ge j xs.length with hj | hj
  · exact h _ (List.mem_of_getElem? (gd_get hj))
  · rw [gd_ge hj]; omega
theorem B32.append {xs ys : List Nat} (h : B32 xs) (h' : B32 ys) : B32 (xs ++ ys) := fun x hx => by
  rcases List.mem_append.1 hx with hx | hx
  · exact h x hx
  · exact h' x hx
theorem B32.set {xs : List Nat} (h : B32 xs) {j y : Nat} (hy : y < 4294967296) : B32 (xs.set j y) := fun x hx => by
  rcases List.mem_or_eq_of_mem_set hx with hx | rfl
  · exact h x hx
  · exact hy
theorem B8.nil : B8 [] := fun x hx => by cases hx
theorem B8.cons {x : Nat} {xs : List Nat} (h : x < 256) (hs : B8 xs) : B8 (x :: xs) := fun y hy => by
  rcases List.mem_cons.1 hy with rfl | hy
  · exact h
  · exact hs y hy
theorem B8.gd {xs : List Nat} (h : B8 xs) (j : Nat) : gd xs j < 256 := by
  rcases Nat.lt_or_ge j xs.length with hj | hj
  · exact h _ (List.mem_of_getElem? (gd_get hj))
  · rw [gd_ge hj]; omega
theorem B8.append {xs ys : List Nat} (h : B8 xs) (h' : B8 ys) : B8 (xs ++ ys) := fun x hx => by
  rcases List.mem_append.1 hx with hx | hx
  · exact h x hx
  · exact h' x hx
theorem B8.take {xs : List Nat} (h : B8 xs) (k : Nat) : B8 (xs.take k) := fun x hx => h x (List.mem_of_mem_take hx)
theorem B8.drop {xs : List Nat} (h : B8 xs) (k : Nat) : B8 (xs.drop k) := fun x hx => h x (List.mem_of_mem_drop hx)
theorem or32 {a b : Nat} (ha : a < 4294967296) (hb : b < 4294967296) : a ||| b < 4294967296 := Nat.or_lt_two_pow (n := 32) ha hb
theorem xor32 {a b : Nat} (ha : a < 4294967296) (hb : b < 4294967296) : a ^^^ b < 4294967296 := Nat.xor_lt_two_pow (n := 32) ha hb
theorem and32 {a b : Nat} (ha : a < 4294967296) : a &&& b < 4294967296 := Nat.lt_of_le_of_lt Nat.and_le_left ha
theorem rot_lt {x : Nat} (h : x < 4294967296) (n : Nat) : rot x n < 4294967296 := or32 (Nat.lt_of_le_of_lt (Nat.div_le_self _ _) h) (Nat.mod_lt _ (by omega))
theorem sched_length (n : Nat) (ws : List Nat) : (sched n ws).length = n + ws.length := by
  induction n with
  | zero => simp [sched]
  | succ n ih => simp only [sched, List.length_append, ih, List.length_cons, List.length_nil]; omega
theorem sched_b32 {ws : List Nat} (h : B32 ws) (n : Nat) : B32 (sched n ws) := by
  induction n with
  | zero => exact h
  | succ n ih => exact ih.append (B32.cons (Nat.mod_lt _ (by omega)) B32.nil)
theorem w16_length (p : List Nat) : (w16 p).length = 16 := by simp [w16]
theorem rnd_b32 {v : List Nat} (h : B32 v) (k w : Nat) : B32 (rnd v k w) := by
  unfold rnd
  exact B32.cons (Nat.mod_lt _ (by omega)) (B32.cons (h.gd 0) (B32.cons (h.gd 1) (B32.cons (h.gd 2) (B32.cons (Nat.mod_lt _ (by omega)) (B32.cons (h.gd 4) (B32.cons (h.gd 5) (B32.cons (h.gd 6) B32.nil)))))))
theorem rounds_b32 {ws h : List Nat} (hb : B32 h) (t : Nat) : B32 (rounds ws h t) := by
  induction t with
  | zero => exact hb
  | succ t ih => exact rnd_b32 ih _ _
theorem rounds_length {ws h : List Nat} (hl : h.length = 8) (t : Nat) : (rounds ws h t).length = 8 := by
  cases t with
  | zero => exact hl
  | succ t => rfl
theorem addW_length (h v : List Nat) (i : Nat) : (addW h v i).length = i := by simp [addW]
theorem addW_b32 (h v : List Nat) (i : Nat) : B32 (addW h v i) := fun x hx => by
  unfold addW at hx
  rw [List.mem_map] at hx
  obtain ⟨j, _, rfl⟩ := hx
  exact Nat.mod_lt _ (by omega)
theorem addW_succ (h v : List Nat) (i : Nat) : addW h v (i + 1) = addW h v i ++ [(gd h i + gd v i) % 4294967296] := by simp [addW, List.range_succ]
theorem hN_b32 : B32 hN := by unfold B32 hN; decide
theorem kN_b32 : B32 kN := by unfold B32 kN; decide
theorem add_u32 (a b : Nat) : IntKind.u32.wrap ((a : Int) + (b : Int)) = (((a + b) % 4294967296 : Nat) : Int) := by rw [IntKind.wrap_u32]; omega
end Go.Proofs.Ytdmglajfmfjmlaa
namespace Go.Proofs.Ytdmglajfmfjmlaa
set_option linter.unusedSimpArgs false
set_option linter.unusedVariables false
set_option maxRecDepth 100000
open Go.RowKit
theorem neg_and {n m : Nat} (hm : m + n = 32) (hn : 0 < n) (h2 : 0 < m) : Go.bits .and .u64 (IntKind.u64.wrap (-(n : Int))) 31 = (m : Int) := by
  have e : IntKind.u64.wrap (-(n : Int)) = ((18446744073709551616 - n : Nat) : Int) := by rw [IntKind.wrap_u64]; omega
  have := and_u64 (a := 18446744073709551616 - n) (b := 31) (by omega) (by omega)
  rw [show ((31 : Nat) : Int) = 31 from rfl] at this
  rw [e, this, show (31 : Nat) = 2 ^ 5 - 1 from rfl, Nat.and_two_pow_sub_one_eq_mod]
  omega
set_option maxHeartbeats 400000 in
theorem rotl_any (w : World) {x n : Nat} (hx : x < 4294967296) (hn : 0 < n) (hn2 : n < 32) :
    Calls Try.prog 130 #[.int .u32 x, .int .i64 (-(n : Int))] w fun e w' => e = .returned (.int .u32 ((rot x n : Nat) : Int)) ∧ w = w' := by
  obtain ⟨m, hm⟩ : ∃ m, m + n = 32 := ⟨32 - n, by omega⟩
  have hb := neg_and hm hn (by omega)
  have HM := Lib.hid hm
  have hs : (32 : Int) - (m : Int) = (n : Int) := by omega
  have h63 : ((m : Int)).toNat = m := by omega
  clear hm
  go_enter Try.func130, Try.ntmps130
  go_wp2
  go_ret
  refine ⟨?_, rfl⟩
  refine ret_int ?_
  have e1 : (x : Int) * 2 ^ m % 4294967296 = ((x * 2 ^ m % 4294967296 : Nat) : Int) := by rw [Int.natCast_emod, Int.natCast_mul, Int.natCast_pow]; rfl
  have e2 : (x : Int) / 2 ^ n = ((x / 2 ^ n : Nat) : Int) := by rw [Int.natCast_ediv, Int.natCast_pow]; rfl
  rw [e1, e2, u32_or_nat _ _ (Nat.mod_lt _ (by omega)) (Nat.lt_of_le_of_lt (Nat.div_le_self _ _) hx), Nat.or_comm]
  unfold rot
  rw [show 32 - n = m by have := HM.out; omega]
theorem turn_any (w : World) (z : Int) {x n : Nat} (hz : z = (n : Int)) (hx : x < 4294967296) (hn : 0 < n) (hn2 : n < 32) :
    Calls Try.prog 128 #[.int .u32 x, .int .i64 z] w fun e w' => e = .returned (.int .u32 ((rot x n : Nat) : Int)) ∧ w' = w := by
  subst hz
  have HR := Lib.hid (rotl_any w hx hn hn2)
  go_enter Try.func128, Try.ntmps128
  go_wp2_with fail
  refine HR.out.mono ?_
  rintro e w' ⟨rfl, rfl⟩
  go_wp2_with fail
  go_ret
  exact ⟨rfl, rfl⟩
end Go.Proofs.Ytdmglajfmfjmlaa
namespace Go.Proofs.Ytdmglajfmfjmlaa
set_option linter.unusedSimpArgs false
set_option linter.unusedVariables false
set_option maxRecDepth 100000
open Go.RowKit
section
variable {P : Program} {ops : Array Oper} {rest : List Oper} {o : Oper} {a : Act} {w w' : World} {Q : Exit → Act → World → Prop}
theorem wpl_val {v : Value} (hgd : o.guard = none) (h : (execOp a.eval o).run P w = .ok (.value v) w') (hn : wpList P ops Q rest (a.put o.dst v) w') : wpList P ops Q (o :: rest) a w :=
  wpList_plain hgd fun K hK => by unfold Oper.wp; rw [h]; exact hK _ _ hn
theorem wpl_skip (hgd : o.guard = none) (h : (execOp a.eval o).run P w = .ok .skip w') (hn : wpList P ops Q rest (a.put o.dst undef) w') : wpList P ops Q (o :: rest) a w :=
  wpList_plain hgd fun K hK => by unfold Oper.wp; rw [h]; exact hK _ _ hn
end
section
variable {P : Program} {ops : Array Oper} {rest : List Oper} {o : Oper} {a : Act} {w w' : World} {Q : Exit → Act → World → Prop}
theorem wpl_call {f : FuncId} {args : Array Value} {R : Ending → World → Prop} (hgd : o.guard = none) (h : (execOp a.eval o).run P w = .ok (.enter f args) w') (hc : Calls P f args w' R) (hr : ∀ e w'', R e w'' → ∃ v, e = .returned v ∧ wpList P ops Q rest (a.put o.dst v) w'') : wpList P ops Q (o :: rest) a w :=
  wpList_plain hgd fun K hK => by
    unfold Oper.wp; rw [h]
    refine hc.mono fun e w'' hR => ?_
    obtain ⟨v, rfl, hn⟩ := hr e w'' hR
    exact hK _ _ hn
end
theorem va_all (k : IntKind) (xs : List Nat) : (va k xs).all (·.oneCell') = true := by
  rw [Array.all_eq_true_iff_forall_mem]
  intro u hu
  exact vs_one k xs u (by simpa [va] using hu)
theorem words_info : (Try.prog.info? 155).map (·.size) = some 64 := by kernel_rfl
set_option maxRecDepth 100000 in
theorem zeros64 : (#[.int .u32 0, .int .u32 0, .int .u32 0, .int .u32 0, .int .u32 0, .int .u32 0, .int .u32 0, .int .u32 0, .int .u32 0, .int .u32 0, .int .u32 0, .int .u32 0, .int .u32 0, .int .u32 0, .int .u32 0, .int .u32 0, .int .u32 0, .int .u32 0, .int .u32 0, .int .u32 0, .int .u32 0, .int .u32 0, .int .u32 0, .int .u32 0, .int .u32 0, .int .u32 0, .int .u32 0, .int .u32 0, .int .u32 0, .int .u32 0, .int .u32 0, .int .u32 0, .int .u32 0, .int .u32 0, .int .u32 0, .int .u32 0, .int .u32 0, .int .u32 0, .int .u32 0, .int .u32 0, .int .u32 0, .int .u32 0, .int .u32 0, .int .u32 0, .int .u32 0, .int .u32 0, .int .u32 0, .int .u32 0, .int .u32 0, .int .u32 0, .int .u32 0, .int .u32 0, .int .u32 0, .int .u32 0, .int .u32 0, .int .u32 0, .int .u32 0, .int .u32 0, .int .u32 0, .int .u32 0, .int .u32 0, .int .u32 0, .int .u32 0, .int .u32 0] : Array Value) = va .u32 (List.replicate 64 0) := rfl
set_option maxRecDepth 100000 in
set_option maxHeartbeats 1000000 in
theorem constants_any (w : World) : Calls Try.prog 129 #[] w fun e w' => e = .returned (.agg (va .u32 kN)) ∧ Below w.heap.size w w' := by
  have HST := Lib.hid (run_storeAt_new (P := Try.prog) w 155 (va .u32 (List.replicate 64 0)) (va .u32 kN) (words_info.trans (by rfl)) (by rfl) (va_all _ _))
  have HLD := Lib.hid (run_loadVar_new (P := Try.prog) w 155 (va .u32 kN) 64 64 Try.underlying155 (words_info.trans (by rfl)))
  go_enter Try.func129, Try.ntmps129
  go_upto_region 1 with (fail)
  rw [zeros64]
  refine wp_region_lit ?_
  refine wpl_val rfl (v := .agg (va .u32 kN)) (w' := w.alloc (.cells (va .u32 (List.replicate 64 0)) 155)) (by kernel_rfl) ?_
  refine wpl_skip rfl (w' := w.alloc (.cells (va .u32 kN) 155)) ?_ ?_
  · show (Instr.storeAt 155 (.pointer (some ⟨w.heap.size, 0, none⟩)) (.agg (va .u32 kN)) >>= fun _ => pure Next.skip).run Try.prog _ = .ok Next.skip _
    rw [Sem.run_bind, HST.out]; rfl
  refine wpList_nil ?_
  go_wp2_with fail
  refine bodyPost_ret (v := .agg (va .u32 kN)) ?_ rfl ⟨rfl, (Below.refl _ _).alloc (Nat.le_refl _) _⟩
  simp [results, Try.results129, asAddr, Result.andThen]
  exact HLD.out
end Go.Proofs.Ytdmglajfmfjmlaa
namespace Go.Proofs.Ytdmglajfmfjmlaa
set_option linter.unusedSimpArgs false
set_option linter.unusedVariables false
set_option maxRecDepth 100000
open Go.RowKit
theorem Bk.row {w : World} {g : Nat} {t : TypeId} {cs : Array Value} (h : Bk w g t cs) (cs' : Array Value) : Bk (w.setRow g cs') g t cs' := by
  unfold Bk at h ⊢
  simp [World.setRow, Array.getElem?_modify, h]
theorem below_rowS {B g : Nat} {a w : World} (h : Below B a w) (hg : B ≤ g) (cs : Array Value) : Below B a (w.setRow g cs) :=
  h.trans ⟨rfl, rfl, rfl, by simp [World.setRow], fun k hk => by
    simp only [World.setRow, Array.getElem?_modify]
    rw [if_neg (by omega)]⟩
theorem below_drewN {B : Nat} {a w : World} (h : Below B a w) (n : Nat) : Below B a (w.drewN n) := h.trans ⟨rfl, rfl, rfl, Nat.le_refl _, fun _ _ => rfl⟩
theorem sum5 {a b c d e s1 s2 s3 s4 : Nat} (h1 : (a + b) % 4294967296 = s1) (h2 : (s1 + c) % 4294967296 = s2) (h3 : (s2 + d) % 4294967296 = s3) (h4 : (s3 + e) % 4294967296 = s4) : (a + b + c + d + e) % 4294967296 = s4 := by omega
theorem gd_addW {h v : List Nat} {i : Nat} (hi : i < h.length) : gd (addW h v i ++ h.drop i) i = gd h i := by
  rw [gd_append_right (by rw [addW_length]; omega), addW_length, gd_drop]
  congr 1; omega
theorem set_addW {h v : List Nat} {i y : Nat} (hi : i < h.length) (hy : (gd h i + gd v i) % 4294967296 = y) : (addW h v i ++ h.drop i).set i y = addW h v (i + 1) ++ h.drop (i + 1) := by
  rw [addW_succ, hy, List.set_append_right _ _ (by rw [addW_length]; omega), addW_length, Nat.sub_self, List.drop_eq_getElem_cons hi, List.set_cons_zero, List.append_assoc]
  rfl
theorem eight_info : (Try.prog.info? 142).map (·.size) = some 8 := by kernel_rfl
theorem u32w {x : Nat} (h : x < 4294967296) : IntKind.u32.wrap (x : Int) = (x : Int) := by rw [IntKind.wrap_u32]; omega
theorem or_sum {a b : Nat} (i : Nat) (hb : b < 2 ^ i) (ha : a % 2 ^ i = 0) (hs : a + b < 4294967296) : Go.bits .or .u32 (a : Int) (b : Int) = ((a + b : Nat) : Int) := by
  rw [u32_or_nat _ _ (by omega) (by omega), or_apart hb ha]
theorem be4_sum {b0 b1 b2 b3 v0 v1 v2 y1 y2 y3 : Nat} (hv0 : b0 * 16777216 = v0) (hv1 : b1 * 65536 = v1) (hv2 : b2 * 256 = v2) (h1 : v0 + v1 = y1) (h2 : y1 + v2 = y2) (h3 : y2 + b3 = y3) (q0 : b0 < 256) (q1 : b1 < 256) (q2 : b2 < 256) (q3 : b3 < 256) : b0 * 16777216 + b1 * 65536 + b2 * 256 + b3 = y3 ∧ y3 < 4294967296 := by omega
theorem take_set_succ {xs : List Nat} {t y : Nat} (h : t < xs.length) : (xs.set t y).take (t + 1) = xs.take t ++ [y] := by
  rw [List.take_succ_eq_append_getElem (by rw [List.length_set]; exact h), List.take_set_of_le (Nat.le_refl t), List.getElem_set_self]
theorem B32.replicate (n : Nat) : B32 (List.replicate n 0) := fun x hx => by rw [List.eq_of_mem_replicate hx]; omega
theorem sum4 {a b c d s1 s2 s3 : Nat} (h1 : (a + b) % 4294967296 = s1) (h2 : (s1 + c) % 4294967296 = s2) (h3 : (s2 + d) % 4294967296 = s3) : s3 = (a + b + c + d) % 4294967296 := by omega
theorem nextW_take {xs : List Nat} {t : Nat} (h : 16 ≤ t) (hl : t ≤ xs.length) : nextW (xs.take t) t = nextW xs t := by
  unfold nextW
  rw [gd_take (by omega), gd_take (by omega), gd_take (by omega), gd_take (by omega)]
theorem sched_next {ws xs : List Nat} {t : Nat} (hw : ws.length = 16) (h : 16 ≤ t) (hlt : t < 64) (hl : xs.length = 64) (htk : xs.take t = sched (t - 16) ws) (y : Nat) (hy : y = nextW xs t) : (xs.set t y).take (t + 1) = sched (t + 1 - 16) ws := by
  have hs : (sched (t - 16) ws).length = t := by rw [sched_length]; omega
  have e : sched (t - 16 + 1) ws = sched (t - 16) ws ++ [nextW (sched (t - 16) ws) (sched (t - 16) ws).length] := rfl
  rw [take_set_succ (by omega), show t + 1 - 16 = t - 16 + 1 by omega, e, hs, ← htk, nextW_take h (by omega), hy]
theorem turn_q {x n r : Nat} (z : Int) (hz : z = (n : Int)) (hx : x < 4294967296) (hn : 0 < n) (hn2 : n < 32) (hr : rot x n = r) (W : World) :
    Calls Try.prog 128 #[.int .u32 x, .int .i64 z] W fun e w' => e = .returned (.int .u32 ((r : Nat) : Int)) ∧ w' = W := by subst hr; exact turn_any W z hz hx hn hn2
theorem va_eight {l : List Nat} (h : l.length = 8) : va .u32 l = #[.int .u32 (gd l 0 : Int), .int .u32 (gd l 1 : Int), .int .u32 (gd l 2 : Int), .int .u32 (gd l 3 : Int), .int .u32 (gd l 4 : Int), .int .u32 (gd l 5 : Int), .int .u32 (gd l 6 : Int), .int .u32 (gd l 7 : Int)] := by
  match l, h with
  | [_, _, _, _, _, _, _, _], _ => rfl
theorem not_u32 {e n : Nat} (h : e < 4294967296) (hn : 4294967295 - e = n) : Go.bits .xor .u32 (if IntKind.u32.signed = true then -1 else IntKind.u32.max) (e : Int) = (n : Int) := by
  have e1 : (if IntKind.u32.signed = true then -1 else IntKind.u32.max) = ((4294967295 : Nat) : Int) := rfl
  rw [e1, u32_xor_nat _ _ (by omega) h, ← hn]
  congr 1
  have h2 : (BitVec.allOnes 32 ^^^ BitVec.ofNat 32 e).toNat = 4294967295 - e := by
    rw [BitVec.allOnes_xor, BitVec.toNat_not, BitVec.toNat_ofNat, Nat.mod_eq_of_lt (by omega)]
  rw [← h2, BitVec.toNat_xor, BitVec.toNat_allOnes, BitVec.toNat_ofNat, Nat.mod_eq_of_lt (by omega)]
theorem quiet_add_same {P : Program} {f : FuncId} {args : Array Value} {w : World} {a n : Nat} {v : Value}
    (h : Calls P f args (w.drewN (a + n)) fun e w' => e = .returned v ∧ w' = w.drewN (a + n)) :
    Calls P f args (w.drewN (a + n)) fun e w'' => e = .returned v ∧ ∃ m, w'' = w.drewN (a + m) :=
  h.mono fun _ _ ⟨he, hm⟩ => ⟨he, n, hm⟩
set_option maxRecDepth 100000 in
set_option maxHeartbeats 20000000 in
theorem block_any (w : World) {B : Option Addr} {d : Nat} {h p : List Nat} (hb : B32 h) (hl : h.length = 8) (hp : Rd .u8 w B 64 d p) (p8 : B8 p) :
    Calls Try.prog 122 #[.agg (va .u32 h), .slice B 64 d] w fun e w' => e = .returned (.agg (va .u32 (blockN h p))) ∧ Below w.heap.size w w' := by
  have HB := Lib.hid hb
  have HL := Lib.hid hl
  have HP := Lib.hid hp
  have P8 := Lib.hid p8
  clear hb hl hp p8
  go_enter Try.func122, Try.ntmps122
  go_upto_block 0 with (fail)
  rw [zeros64]
  generalize hW : (((w.alloc (.cells (va .u32 h) 142)).alloc _).alloc (.cells (va .u32 (List.replicate 64 0)) 155)) = w3
  have hs3 : w3.heap.size = w.heap.size + 3 := by rw [← hW]; simp
  have bel3 : Below w.heap.size w w3 := by rw [← hW]; (repeat (first | (with_reducible exact Below.refl _ _) | (with_reducible assumption) | (with_reducible refine Below.drew ?_) | (with_reducible refine below_drewN ?_ _) | ((with_reducible refine Below.setCell ?_ (p := ⟨_, _, _⟩) ?_ _); rotate_left; (simp <;> omega)) | ((with_reducible refine Below.alloc ?_ ?_ _); rotate_left; (simp <;> omega)) | ((with_reducible refine Below.trans ?_ (Below.mono (by with_reducible assumption) ?_)); rotate_left; (simp <;> omega))))
  have B2 : Bk w3 w.heap.size 142 (va .u32 h) := by rw [← hW]; exact ((Bk.new _ _ _).alloc _).alloc _
  have B4 : ∃ cs : Array Value, cs.size = 8 ∧ Bk w3 (w.heap.size + 1) 142 cs := ⟨_, rfl, by rw [← hW]; exact (Bk.at_new _ _ (by simp)).alloc _⟩
  have B5 : Bk w3 (w.heap.size + 1 + 1) 155 (va .u32 (List.replicate 64 0)) := by rw [← hW]; exact Bk.at_new _ _ (by simp)
  clear hW
  have HB2 := Lib.hid B2
  have HB4 := Lib.hid B4
  have HB5 := Lib.hid B5
  have HBL3 := Lib.hid bel3
  clear B2 B4 B5 bel3
  go_wp2_with fail
  go_loopw [18] (fun i wr => ∃ (t : Nat) (xs : List Nat), t ≤ 16 ∧ i = .int .i64 (t : Int) ∧ xs.length = 64 ∧ B32 xs ∧ xs.take t = (w16 p).take t ∧ Bk wr (w.heap.size + 1 + 1) 155 (va .u32 xs) ∧ Below (w.heap.size + 2) w3 wr) (fun i _ => 16 - (intOf i).toNat)
  case atStart => exact ⟨0, List.replicate 64 0, by omega, rfl, by simp, B32.replicate 64, rfl, HB5.out, Below.refl _ _⟩
  case round =>
    obtain ⟨t, xs, ht, rfl, hxl, hxb, htk, hbk, hbel⟩ := hrel
    have HXL := Lib.hid hxl
    have HXB := Lib.hid hxb
    have HTK := Lib.hid htk
    have HBK := Lib.hid hbk
    have HBEL := Lib.hid hbel
    have hw3 := hbel.size
    clear hxl hxb htk hbk
    by_cases hlt : t < 16
    ·
      -- <A>
      obtain ⟨ad, rfl, hab, hac⟩ := (HP.out.below (HBL3.out.trans (hbel.mono (by omega)))).form (by omega)
      obtain ⟨j0, hj0⟩ : ∃ j, 4 * t = j := ⟨_, rfl⟩
      obtain ⟨j1, hj1⟩ : ∃ j, 4 * t + 1 = j := ⟨_, rfl⟩
      obtain ⟨j2, hj2⟩ : ∃ j, 4 * t + 2 = j := ⟨_, rfl⟩
      obtain ⟨j3, hj3⟩ : ∃ j, 4 * t + 3 = j := ⟨_, rfl⟩
      have c0 := hac j0 (by omega)
      have q0 := P8.out.gd j0
      obtain ⟨b0, e0⟩ : ∃ b, gd p j0 = b := ⟨_, rfl⟩
      rw [e0] at c0 q0
      have c1 := hac j1 (by omega)
      have q1 := P8.out.gd j1
      obtain ⟨b1, e1⟩ : ∃ b, gd p j1 = b := ⟨_, rfl⟩
      rw [e1] at c1 q1
      have c2 := hac j2 (by omega)
      have q2 := P8.out.gd j2
      obtain ⟨b2, e2⟩ : ∃ b, gd p j2 = b := ⟨_, rfl⟩
      rw [e2] at c2 q2
      have c3 := hac j3 (by omega)
      have q3 := P8.out.gd j3
      obtain ⟨b3, e3⟩ : ∃ b, gd p j3 = b := ⟨_, rfl⟩
      rw [e3] at c3 q3
      have HE := Lib.hid (show be4 p t = b0 * 16777216 + b1 * 65536 + b2 * 256 + b3 by unfold be4; rw [hj3, hj2, hj1, hj0, e0, e1, e2, e3])
      have i0 : IntKind.i64.wrap ((4 : Int) * (t : Int)) = (4 : Int) * (t : Int) := IntWalk.i64_in _ (by omega)
      have i1 : IntKind.i64.wrap ((4 : Int) * (t : Int) + 1) = (4 : Int) * (t : Int) + 1 := IntWalk.i64_in _ (by omega)
      have i2 : IntKind.i64.wrap ((4 : Int) * (t : Int) + 2) = (4 : Int) * (t : Int) + 2 := IntWalk.i64_in _ (by omega)
      have i3 : IntKind.i64.wrap ((4 : Int) * (t : Int) + 3) = (4 : Int) * (t : Int) + 3 := IntWalk.i64_in _ (by omega)
      have n0 : ((4 : Int) * (t : Int)).toNat = j0 := by omega
      have z0 : (0 : Int) ≤ 4 * (t : Int) := by omega
      have s0 : (4 : Int) * (t : Int) < 64 := by omega
      have n1 : ((4 : Int) * (t : Int) + 1).toNat = j1 := by omega
      have z1 : (0 : Int) ≤ 4 * (t : Int) + 1 := by omega
      have s1 : (4 : Int) * (t : Int) + 1 < 64 := by omega
      have n2 : ((4 : Int) * (t : Int) + 2).toNat = j2 := by omega
      have z2 : (0 : Int) ≤ 4 * (t : Int) + 2 := by omega
      have s2 : (4 : Int) * (t : Int) + 2 < 64 := by omega
      have n3 : ((4 : Int) * (t : Int) + 3).toNat = j3 := by omega
      have z3 : (0 : Int) ≤ 4 * (t : Int) + 3 := by omega
      have s3 : (4 : Int) * (t : Int) + 3 < 64 := by omega
      have u0 : IntKind.u32.wrap (b0 : Int) = (b0 : Int) := u32w (by omega)
      have u1 : IntKind.u32.wrap (b1 : Int) = (b1 : Int) := u32w (by omega)
      have u2 : IntKind.u32.wrap (b2 : Int) = (b2 : Int) := u32w (by omega)
      have u3 : IntKind.u32.wrap (b3 : Int) = (b3 : Int) := u32w (by omega)
      obtain ⟨v0, hv0⟩ : ∃ v, b0 * 16777216 = v := ⟨_, rfl⟩
      obtain ⟨v1, hv1⟩ : ∃ v, b1 * 65536 = v := ⟨_, rfl⟩
      obtain ⟨v2, hv2⟩ : ∃ v, b2 * 256 = v := ⟨_, rfl⟩
      obtain ⟨y1, hy1⟩ : ∃ y, v0 + v1 = y := ⟨_, rfl⟩
      obtain ⟨y2, hy2⟩ : ∃ y, y1 + v2 = y := ⟨_, rfl⟩
      obtain ⟨y3, hy3⟩ : ∃ y, y2 + b3 = y := ⟨_, rfl⟩
      obtain ⟨hye, hy32⟩ := be4_sum hv0 hv1 hv2 hy1 hy2 hy3 q0 q1 q2 q3
      have HY := Lib.hid (HE.out.trans hye)
      clear hye
      have o1 : Go.bits .or .u32 (v0 : Int) (v1 : Int) = (y1 : Int) := by rw [← hy1]; exact or_sum 24 (by omega) (by omega) (by omega)
      have o2 : Go.bits .or .u32 (y1 : Int) (v2 : Int) = (y2 : Int) := by rw [← hy2]; exact or_sum 16 (by omega) (by omega) (by omega)
      have o3 : Go.bits .or .u32 (y2 : Int) (b3 : Int) = (y3 : Int) := by rw [← hy3]; exact or_sum 8 (by omega) (by omega) (by omega)
      have m0 : IntKind.u32.wrap ((b0 : Int) * 16777216) = (v0 : Int) := by rw [IntKind.wrap_u32]; clear o1 o2 o3; omega
      have m1 : IntKind.u32.wrap ((b1 : Int) * 65536) = (v1 : Int) := by rw [IntKind.wrap_u32]; clear o1 o2 o3 m0; omega
      have m2 : IntKind.u32.wrap ((b2 : Int) * 256) = (v2 : Int) := by rw [IntKind.wrap_u32]; clear o1 o2 o3 m0 m1; omega
      have HY32 := Lib.hid hy32
      have a1 : (t : Int) < 64 := by clear o1 o2 o3 m0 m1 m2; omega
      have a0 : (0 : Int) ≤ (t : Int) := by clear o1 o2 o3 m0 m1 m2; omega
      have a2 : ((t : Int)).toNat = t := by clear o1 o2 o3 m0 m1 m2; omega
      have HLT := Lib.hid hlt
      clear hac e0 e1 e2 e3 hbel hj0 hj1 hj2 hj3 hv0 hv1 hv2 hy1 hy2 hy3
      go_wp2_with fail
      go_still_tail 35, (by kernel_rfl)
      have hcell := HBK.out.cell t
      rw [va_at .u32 (by rw [HXL.out]; omega)] at hcell
      have hfr := HBK.out.frozen t
      go_wp2_with fail
      have hst := (HBK.out.set t (.int .u32 (y3 : Int))).drew
      rw [va_set] at hst
      refine ⟨⟨t + 1, xs.set t y3, by have := HLT.out; omega, by go_num, by rw [List.length_set]; exact HXL.out, HXB.out.set HY32.out, ?_, hst, (HBEL.out.setCell (p := ⟨w.heap.size + 1 + 1, t, none⟩) (by simp) _).drew⟩, by have := HLT.out; simp [intOf]; omega⟩
      have h1 := HLT.out
      rw [take_set_succ (by rw [HXL.out]; omega), HTK.out, List.take_succ_eq_append_getElem (by rw [w16_length]; omega)]
      congr 2
      rw [← HY.out]
      unfold w16
      rw [List.getElem_map, List.getElem_range]
      -- </A>
    · obtain rfl : t = 16 := by omega
      have hsch : xs.take 16 = sched 0 (w16 p) := by
        rw [HTK.out]; unfold sched; exact List.take_of_length_le (by rw [w16_length]; omega)
      have HSC := Lib.hid hsch
      clear hsch
      rw [show ((16 : Nat) : Int) = (16 : Int) from rfl]
      go_wp2_with fail
      go_loopw [7] (fun i wr => ∃ (t : Nat) (xs : List Nat), 16 ≤ t ∧ t ≤ 64 ∧ i = .int .i64 (t : Int) ∧ xs.length = 64 ∧ B32 xs ∧ xs.take t = sched (t - 16) (w16 p) ∧ Bk wr (w.heap.size + 1 + 1) 155 (va .u32 xs) ∧ Below (w.heap.size + 2) w3 wr) (fun i _ => 64 - (intOf i).toNat)
      case atStart => exact ⟨16, xs, by omega, by omega, rfl, HXL.out, HXB.out, HSC.out, HBK.out, HBEL.out⟩
      clear HXL HXB HTK HBK HBEL HSC hw3 hbel
      case round =>
        obtain ⟨t, xs, ht, ht2, rfl, hxl, hxb, htk, hbk, hbel⟩ := hrel
        have HXL := Lib.hid hxl
        have HXB := Lib.hid hxb
        have HTK := Lib.hid htk
        have HBK := Lib.hid hbk
        have HBEL := Lib.hid hbel
        have hw3 := hbel.size
        by_cases hlt : t < 64
        ·
          -- <B>
          have HNX := Lib.hid (sched_next (ws := w16 p) (xs := xs) (w16_length p) ht hlt hxl htk)
          have HSTEP := Lib.hid (nextW_take (xs := xs) ht (by omega : t ≤ xs.length))
          have cw1 := hbk.cell (t - 16)
          rw [va_at .u32 (by rw [hxl]; omega)] at cw1
          obtain ⟨w1, ew1⟩ : ∃ z, gd xs (t - 16) = z := ⟨_, rfl⟩
          obtain ⟨jw1, hjw1⟩ : ∃ z, t - 16 = z := ⟨_, rfl⟩
          have lw1 : w1 < 4294967296 := by rw [← ew1]; exact hxb.gd _
          rw [ew1, hjw1] at cw1
          have iw1 : IntKind.i64.wrap ((t : Int) - 16) = (t : Int) - 16 := IntWalk.i64_in _ (by omega)
          have nw1 : ((t : Int) - 16).toNat = jw1 := by omega
          have zw1 : (0 : Int) ≤ (t : Int) - 16 := by omega
          have sw1 : (t : Int) - 16 < 64 := by omega
          have yw1 : 16 ≤ (t : Int) := by omega
          have xw1 : (t : Int) < 64 + 16 := by omega
          have cx := hbk.cell (t - 15)
          rw [va_at .u32 (by rw [hxl]; omega)] at cx
          obtain ⟨x, ex⟩ : ∃ z, gd xs (t - 15) = z := ⟨_, rfl⟩
          obtain ⟨jx, hjx⟩ : ∃ z, t - 15 = z := ⟨_, rfl⟩
          have lx : x < 4294967296 := by rw [← ex]; exact hxb.gd _
          rw [ex, hjx] at cx
          have ix : IntKind.i64.wrap ((t : Int) - 15) = (t : Int) - 15 := IntWalk.i64_in _ (by omega)
          have nx : ((t : Int) - 15).toNat = jx := by omega
          have zx : (0 : Int) ≤ (t : Int) - 15 := by omega
          have sx : (t : Int) - 15 < 64 := by omega
          have yx : 15 ≤ (t : Int) := by omega
          have xx : (t : Int) < 64 + 15 := by omega
          have cw7 := hbk.cell (t - 7)
          rw [va_at .u32 (by rw [hxl]; omega)] at cw7
          obtain ⟨w7, ew7⟩ : ∃ z, gd xs (t - 7) = z := ⟨_, rfl⟩
          obtain ⟨jw7, hjw7⟩ : ∃ z, t - 7 = z := ⟨_, rfl⟩
          have lw7 : w7 < 4294967296 := by rw [← ew7]; exact hxb.gd _
          rw [ew7, hjw7] at cw7
          have iw7 : IntKind.i64.wrap ((t : Int) - 7) = (t : Int) - 7 := IntWalk.i64_in _ (by omega)
          have nw7 : ((t : Int) - 7).toNat = jw7 := by omega
          have zw7 : (0 : Int) ≤ (t : Int) - 7 := by omega
          have sw7 : (t : Int) - 7 < 64 := by omega
          have yw7 : 7 ≤ (t : Int) := by omega
          have xw7 : (t : Int) < 64 + 7 := by omega
          have cy := hbk.cell (t - 2)
          rw [va_at .u32 (by rw [hxl]; omega)] at cy
          obtain ⟨y, ey⟩ : ∃ z, gd xs (t - 2) = z := ⟨_, rfl⟩
          obtain ⟨jy, hjy⟩ : ∃ z, t - 2 = z := ⟨_, rfl⟩
          have ly : y < 4294967296 := by rw [← ey]; exact hxb.gd _
          rw [ey, hjy] at cy
          have iy : IntKind.i64.wrap ((t : Int) - 2) = (t : Int) - 2 := IntWalk.i64_in _ (by omega)
          have ny : ((t : Int) - 2).toNat = jy := by omega
          have zy : (0 : Int) ≤ (t : Int) - 2 := by omega
          have sy : (t : Int) - 2 < 64 := by omega
          have yy : 2 ≤ (t : Int) := by omega
          have xy : (t : Int) < 64 + 2 := by omega
          have HX := Lib.hid (show nextW xs t = (w1 + sg0 x + w7 + sg1 y) % 4294967296 by unfold nextW; rw [ew1, ex, ew7, ey])
          have a1 : (t : Int) < 64 := by omega
          have a0 : (0 : Int) ≤ (t : Int) := by omega
          clear hxl hxb htk hbk hbel ew1 ex ew7 ey
          obtain ⟨r7, er7⟩ : ∃ z, rot x 7 = z := ⟨_, rfl⟩
          have lr7 : r7 < 4294967296 := by rw [← er7]; exact rot_lt lx 7
          have Cr7 := Lib.hid (turn_q (n := 7) 7 rfl lx (by omega) (by omega) er7)
          have Er7 := Lib.hid er7
          clear er7
          obtain ⟨r18, er18⟩ : ∃ z, rot x 18 = z := ⟨_, rfl⟩
          have lr18 : r18 < 4294967296 := by rw [← er18]; exact rot_lt lx 18
          have Cr18 := Lib.hid (turn_q (n := 18) 18 rfl lx (by omega) (by omega) er18)
          have Er18 := Lib.hid er18
          clear er18
          obtain ⟨r17, er17⟩ : ∃ z, rot y 17 = z := ⟨_, rfl⟩
          have lr17 : r17 < 4294967296 := by rw [← er17]; exact rot_lt ly 17
          have Cr17 := Lib.hid (turn_q (n := 17) 17 rfl ly (by omega) (by omega) er17)
          have Er17 := Lib.hid er17
          clear er17
          obtain ⟨r19, er19⟩ : ∃ z, rot y 19 = z := ⟨_, rfl⟩
          have lr19 : r19 < 4294967296 := by rw [← er19]; exact rot_lt ly 19
          have Cr19 := Lib.hid (turn_q (n := 19) 19 rfl ly (by omega) (by omega) er19)
          have Er19 := Lib.hid er19
          clear er19
          obtain ⟨p1, ep1⟩ : ∃ z, r7 ^^^ r18 = z := ⟨_, rfl⟩
          have lp1 : p1 < 4294967296 := by rw [← ep1]; exact xor32 lr7 lr18
          have kp1 : Go.bits .xor .u32 (r7 : Int) (r18 : Int) = (p1 : Int) := by rw [← ep1]; exact u32_xor_nat _ _ lr7 lr18
          have Ep1 := Lib.hid ep1
          clear ep1
          obtain ⟨d1, ed1⟩ : ∃ z, x / 8 = z := ⟨_, rfl⟩
          have ld1 : d1 < 4294967296 := by rw [← ed1]; exact Nat.lt_of_le_of_lt (Nat.div_le_self _ _) lx
          have kd1 : (x : Int) / 8 = (d1 : Int) := by rw [← ed1]; rfl
          have Ed1 := Lib.hid ed1
          clear ed1
          obtain ⟨p2, ep2⟩ : ∃ z, p1 ^^^ d1 = z := ⟨_, rfl⟩
          have lp2 : p2 < 4294967296 := by rw [← ep2]; exact xor32 lp1 ld1
          have kp2 : Go.bits .xor .u32 (p1 : Int) (d1 : Int) = (p2 : Int) := by rw [← ep2]; exact u32_xor_nat _ _ lp1 ld1
          have Ep2 := Lib.hid ep2
          clear ep2
          obtain ⟨s1, es1⟩ : ∃ z, (w1 + p2) % 4294967296 = z := ⟨_, rfl⟩
          have ls1 : s1 < 4294967296 := by rw [← es1]; exact Nat.mod_lt _ (by omega)
          have ks1 : IntKind.u32.wrap ((w1 : Int) + (p2 : Int)) = (s1 : Int) := by rw [← es1]; exact add_u32 _ _
          have Es1 := Lib.hid es1
          clear es1
          obtain ⟨s2, es2⟩ : ∃ z, (s1 + w7) % 4294967296 = z := ⟨_, rfl⟩
          have ls2 : s2 < 4294967296 := by rw [← es2]; exact Nat.mod_lt _ (by omega)
          have ks2 : IntKind.u32.wrap ((s1 : Int) + (w7 : Int)) = (s2 : Int) := by rw [← es2]; exact add_u32 _ _
          have Es2 := Lib.hid es2
          clear es2
          obtain ⟨p3, ep3⟩ : ∃ z, r17 ^^^ r19 = z := ⟨_, rfl⟩
          have lp3 : p3 < 4294967296 := by rw [← ep3]; exact xor32 lr17 lr19
          have kp3 : Go.bits .xor .u32 (r17 : Int) (r19 : Int) = (p3 : Int) := by rw [← ep3]; exact u32_xor_nat _ _ lr17 lr19
          have Ep3 := Lib.hid ep3
          clear ep3
          obtain ⟨d2, ed2⟩ : ∃ z, y / 1024 = z := ⟨_, rfl⟩
          have ld2 : d2 < 4294967296 := by rw [← ed2]; exact Nat.lt_of_le_of_lt (Nat.div_le_self _ _) ly
          have kd2 : (y : Int) / 1024 = (d2 : Int) := by rw [← ed2]; rfl
          have Ed2 := Lib.hid ed2
          clear ed2
          obtain ⟨p4, ep4⟩ : ∃ z, p3 ^^^ d2 = z := ⟨_, rfl⟩
          have lp4 : p4 < 4294967296 := by rw [← ep4]; exact xor32 lp3 ld2
          have kp4 : Go.bits .xor .u32 (p3 : Int) (d2 : Int) = (p4 : Int) := by rw [← ep4]; exact u32_xor_nat _ _ lp3 ld2
          have Ep4 := Lib.hid ep4
          clear ep4
          obtain ⟨s3, es3⟩ : ∃ z, (s2 + p4) % 4294967296 = z := ⟨_, rfl⟩
          have ls3 : s3 < 4294967296 := by rw [← es3]; exact Nat.mod_lt _ (by omega)
          have ks3 : IntKind.u32.wrap ((s2 : Int) + (p4 : Int)) = (s3 : Int) := by rw [← es3]; exact add_u32 _ _
          have Es3 := Lib.hid es3
          clear es3
          have HV := Lib.hid (show s3 = nextW xs t by
            rw [HX.out]; unfold sg0 sg1
            rw [Er7.out, Er18.out, Er17.out, Er19.out, Ep1.out, Ed1.out, Ep2.out, Ep3.out, Ed2.out, Ep4.out]
            exact sum4 Es1.out Es2.out Es3.out)
          go_wp2_with fail
          go_still_tail 9, (by kernel_rfl)
          change wpList _ _ _ _ _ wr.drew
          go_wp2_with fail
          refine wp_region_still_tail 29 (by kernel_rfl) (by kernel_rfl) ?_
          simp only [List.take_succ_cons, List.take_zero, List.drop_succ_cons, List.drop_zero, World.drew_eq]
          repeat still_step
          still_call (Cr7.out _)
          repeat still_step
          still_call (Cr18.out _)
          repeat still_step
          still_call (Cr17.out _)
          repeat still_step
          still_call (Cr19.out _)
          repeat still_step
          refine wpStill_nil ?_
          have hcell := HBK.out.cell t
          rw [va_at .u32 (by rw [HXL.out]; omega)] at hcell
          have hfr := HBK.out.frozen t
          go_wp2_with fail
          have hst := (HBK.out.set t (.int .u32 (s3 : Int))).drew.drew
          rw [va_set] at hst
          refine ⟨⟨t + 1, xs.set t s3, Nat.le_succ_of_le ht, hlt, by go_num, by rw [List.length_set]; exact HXL.out, HXB.out.set ls3, HNX.out s3 HV.out, hst, ((HBEL.out.setCell (p := ⟨w.heap.size + 1 + 1, t, none⟩) (by simp) _).drew).drew⟩, by simp [intOf]; omega⟩
          -- </B>
        · obtain rfl : t = 64 := by omega
          obtain ⟨ws, hws⟩ : ∃ ws, sched 48 (w16 p) = ws := ⟨_, rfl⟩
          have hxw : xs = ws := by rw [← hws, ← htk, List.take_of_length_le (by omega)]
          subst hxw
          have HWS := Lib.hid hws
          clear htk hws
          rw [show ((64 : Nat) : Int) = (64 : Int) from rfl]
          go_upto_region 12 with (fail)
          refine wp_region_lit ?_
          refine wpl_call rfl (w' := wr) (f := 129) (args := #[]) (by kernel_rfl) (constants_any wr) ?_
          rintro e w5 ⟨rfl, hb5⟩
          refine ⟨_, rfl, ?_⟩
          have HST := Lib.hid (run_storeAt_new (P := Try.prog) w5 155 (va .u32 (List.replicate 64 0)) (va .u32 kN) (words_info.trans (by rfl)) (by rfl) (va_all _ _))
          refine wpl_val rfl (v := .pointer (some ⟨w5.heap.size, 0, none⟩)) (w' := w5.alloc (.cells (va .u32 (List.replicate 64 0)) 155)) (by kernel_rfl) ?_
          refine wpl_skip rfl (w' := w5.alloc (.cells (va .u32 kN) 155)) ?_ ?_
          · show (Instr.storeAt 155 (.pointer (some ⟨w5.heap.size, 0, none⟩)) (.agg (va .u32 kN)) >>= fun _ => pure Next.skip).run Try.prog _ = .ok Next.skip _
            rw [Sem.run_bind, HST.out]; rfl
          refine wpList_nil ?_
          clear HST
          have hs5 := hb5.size
          have bel5 : Below (w.heap.size + 2) w3 (w5.alloc (.cells (va .u32 kN) 155)) := (HBEL.out.trans (hb5.mono (by omega))).alloc (by omega) _
          have b2 : Bk (w5.alloc (.cells (va .u32 kN) 155)) w.heap.size 142 (va .u32 h) := HB2.out.below bel5 (by omega)
          have b5 : Bk (w5.alloc (.cells (va .u32 kN) 155)) (w.heap.size + 1 + 1) 155 (va .u32 xs) := (HBK.out.below hb5 (by omega)).alloc _
          have b10 : Bk (w5.alloc (.cells (va .u32 kN) 155)) w5.heap.size 155 (va .u32 kN) := Bk.new _ _ _
          generalize hw6 : w5.alloc (.cells (va .u32 kN) 155) = w6 at *
          have hs6 : w6.heap.size = w5.heap.size + 1 := by rw [← hw6]; simp
          obtain ⟨g10, hg10⟩ : ∃ g, w5.heap.size = g := ⟨_, rfl⟩
          rw [hg10] at b10 hs6 ⊢
          have c20 := (b2.cell 0).trans (va_at .u32 (by rw [HL.out]; omega))
          have c21 := (b2.cell 1).trans (va_at .u32 (by rw [HL.out]; omega))
          have c22 := (b2.cell 2).trans (va_at .u32 (by rw [HL.out]; omega))
          have c23 := (b2.cell 3).trans (va_at .u32 (by rw [HL.out]; omega))
          have c24 := (b2.cell 4).trans (va_at .u32 (by rw [HL.out]; omega))
          have c25 := (b2.cell 5).trans (va_at .u32 (by rw [HL.out]; omega))
          have c26 := (b2.cell 6).trans (va_at .u32 (by rw [HL.out]; omega))
          have c27 := (b2.cell 7).trans (va_at .u32 (by rw [HL.out]; omega))
          have HB5' := Lib.hid b5
          have HB2' := Lib.hid b2
          have HB10 := Lib.hid b10
          have HBL6 := Lib.hid bel5
          clear hw6 b5 b2 b10 bel5 HBK HBEL hb5
          go_wp2_with fail
          rw [← va_eight HL.out]
          generalize hw7 : w6.alloc (.cells (va .u32 h) 142) = w7
          have b11 : Bk w7 (g10 + 1) 142 (va .u32 h) := by rw [← hw7]; exact Bk.at_new _ _ (by omega)
          have bel7 : Below (g10 + 1) w6 w7 := by rw [← hw7]; exact (Below.refl _ _).alloc (by omega) _
          have hs7 : w7.heap.size = g10 + 1 + 1 := by rw [← hw7]; simp; omega
          have HB11 := Lib.hid b11
          have HBL7 := Lib.hid bel7
          clear hw7 b11 bel7 c20 c21 c22 c23 c24 c25 c26 c27
          go_loopw [100] (fun i wr => ∃ (t : Nat) (v : List Nat), t ≤ 64 ∧ i = .int .i64 (t : Int) ∧ v = rounds xs h t ∧ Bk wr (g10 + 1) 142 (va .u32 v) ∧ Below (g10 + 1) w7 wr) (fun i _ => 64 - (intOf i).toNat)
          case atStart => exact ⟨0, h, by omega, rfl, rfl, HB11.out, Below.refl _ _⟩
          case round =>
            obtain ⟨t, v, ht, rfl, hv, hbk, hbel⟩ := hrel
            have hvl : v.length = 8 := by rw [hv]; exact rounds_length HL.out t
            have hvb : B32 v := by rw [hv]; exact rounds_b32 HB.out t
            have HV := Lib.hid hv
            have HVL := Lib.hid hvl
            have HBK := Lib.hid hbk
            have HBEL := Lib.hid hbel
            have hsr := hbel.size
            clear hv
            by_cases hlt : t < 64
            ·
              -- <C>
              have hbw := HBL7.out.trans hbel
              have cv0 := (hbk.cell 0).trans (va_at .u32 (by rw [hvl]; omega))
              obtain ⟨v0, ev0⟩ : ∃ z, gd v 0 = z := ⟨_, rfl⟩
              have lv0 : v0 < 4294967296 := by rw [← ev0]; exact hvb.gd _
              rw [ev0] at cv0
              have Ev0 := Lib.hid ev0
              clear ev0
              have cv1 := (hbk.cell 1).trans (va_at .u32 (by rw [hvl]; omega))
              obtain ⟨v1, ev1⟩ : ∃ z, gd v 1 = z := ⟨_, rfl⟩
              have lv1 : v1 < 4294967296 := by rw [← ev1]; exact hvb.gd _
              rw [ev1] at cv1
              have Ev1 := Lib.hid ev1
              clear ev1
              have cv2 := (hbk.cell 2).trans (va_at .u32 (by rw [hvl]; omega))
              obtain ⟨v2, ev2⟩ : ∃ z, gd v 2 = z := ⟨_, rfl⟩
              have lv2 : v2 < 4294967296 := by rw [← ev2]; exact hvb.gd _
              rw [ev2] at cv2
              have Ev2 := Lib.hid ev2
              clear ev2
              have cv3 := (hbk.cell 3).trans (va_at .u32 (by rw [hvl]; omega))
              obtain ⟨v3, ev3⟩ : ∃ z, gd v 3 = z := ⟨_, rfl⟩
              have lv3 : v3 < 4294967296 := by rw [← ev3]; exact hvb.gd _
              rw [ev3] at cv3
              have Ev3 := Lib.hid ev3
              clear ev3
              have cv4 := (hbk.cell 4).trans (va_at .u32 (by rw [hvl]; omega))
              obtain ⟨v4, ev4⟩ : ∃ z, gd v 4 = z := ⟨_, rfl⟩
              have lv4 : v4 < 4294967296 := by rw [← ev4]; exact hvb.gd _
              rw [ev4] at cv4
              have Ev4 := Lib.hid ev4
              clear ev4
              have cv5 := (hbk.cell 5).trans (va_at .u32 (by rw [hvl]; omega))
              obtain ⟨v5, ev5⟩ : ∃ z, gd v 5 = z := ⟨_, rfl⟩
              have lv5 : v5 < 4294967296 := by rw [← ev5]; exact hvb.gd _
              rw [ev5] at cv5
              have Ev5 := Lib.hid ev5
              clear ev5
              have cv6 := (hbk.cell 6).trans (va_at .u32 (by rw [hvl]; omega))
              obtain ⟨v6, ev6⟩ : ∃ z, gd v 6 = z := ⟨_, rfl⟩
              have lv6 : v6 < 4294967296 := by rw [← ev6]; exact hvb.gd _
              rw [ev6] at cv6
              have Ev6 := Lib.hid ev6
              clear ev6
              have cv7 := (hbk.cell 7).trans (va_at .u32 (by rw [hvl]; omega))
              obtain ⟨v7, ev7⟩ : ∃ z, gd v 7 = z := ⟨_, rfl⟩
              have lv7 : v7 < 4294967296 := by rw [← ev7]; exact hvb.gd _
              rw [ev7] at cv7
              have Ev7 := Lib.hid ev7
              clear ev7
              have ck := ((HB10.out.below hbw (by omega)).cell t).trans (va_at .u32 (by show t < 64; exact hlt))
              obtain ⟨kt, ekt⟩ : ∃ z, gd kN t = z := ⟨_, rfl⟩
              have lkt : kt < 4294967296 := by rw [← ekt]; exact kN_b32.gd t
              rw [ekt] at ck
              have cw := ((HB5'.out.below hbw (by omega)).cell t).trans (va_at .u32 (by rw [HXL.out]; exact hlt))
              obtain ⟨wt, ewt⟩ : ∃ z, gd xs t = z := ⟨_, rfl⟩
              have lwt : wt < 4294967296 := by rw [← ewt]; exact HXB.out.gd t
              rw [ewt] at cw
              have a1 : (t : Int) < 64 := by omega
              have a0 : (0 : Int) ≤ (t : Int) := by omega
              obtain ⟨r6, er6⟩ : ∃ z, rot v4 6 = z := ⟨_, rfl⟩
              have lr6 : r6 < 4294967296 := by rw [← er6]; exact rot_lt lv4 6
              have Cr6 := Lib.hid (turn_q (n := 6) 6 rfl lv4 (by omega) (by omega) er6)
              have Er6 := Lib.hid er6
              clear er6
              obtain ⟨r11, er11⟩ : ∃ z, rot v4 11 = z := ⟨_, rfl⟩
              have lr11 : r11 < 4294967296 := by rw [← er11]; exact rot_lt lv4 11
              have Cr11 := Lib.hid (turn_q (n := 11) 11 rfl lv4 (by omega) (by omega) er11)
              have Er11 := Lib.hid er11
              clear er11
              obtain ⟨r25, er25⟩ : ∃ z, rot v4 25 = z := ⟨_, rfl⟩
              have lr25 : r25 < 4294967296 := by rw [← er25]; exact rot_lt lv4 25
              have Cr25 := Lib.hid (turn_q (n := 25) 25 rfl lv4 (by omega) (by omega) er25)
              have Er25 := Lib.hid er25
              clear er25
              obtain ⟨r2, er2⟩ : ∃ z, rot v0 2 = z := ⟨_, rfl⟩
              have lr2 : r2 < 4294967296 := by rw [← er2]; exact rot_lt lv0 2
              have Cr2 := Lib.hid (turn_q (n := 2) 2 rfl lv0 (by omega) (by omega) er2)
              have Er2 := Lib.hid er2
              clear er2
              obtain ⟨r13, er13⟩ : ∃ z, rot v0 13 = z := ⟨_, rfl⟩
              have lr13 : r13 < 4294967296 := by rw [← er13]; exact rot_lt lv0 13
              have Cr13 := Lib.hid (turn_q (n := 13) 13 rfl lv0 (by omega) (by omega) er13)
              have Er13 := Lib.hid er13
              clear er13
              obtain ⟨r22, er22⟩ : ∃ z, rot v0 22 = z := ⟨_, rfl⟩
              have lr22 : r22 < 4294967296 := by rw [← er22]; exact rot_lt lv0 22
              have Cr22 := Lib.hid (turn_q (n := 22) 22 rfl lv0 (by omega) (by omega) er22)
              have Er22 := Lib.hid er22
              clear er22
              obtain ⟨q1, eq1⟩ : ∃ z, r6 ^^^ r11 = z := ⟨_, rfl⟩
              have lq1 : q1 < 4294967296 := by rw [← eq1]; exact xor32 lr6 lr11
              have kq1 : Go.bits .xor .u32 (r6 : Int) (r11 : Int) = (q1 : Int) := by rw [← eq1]; exact u32_xor_nat _ _ lr6 lr11
              have Eq1 := Lib.hid eq1
              clear eq1
              obtain ⟨q2, eq2⟩ : ∃ z, q1 ^^^ r25 = z := ⟨_, rfl⟩
              have lq2 : q2 < 4294967296 := by rw [← eq2]; exact xor32 lq1 lr25
              have kq2 : Go.bits .xor .u32 (q1 : Int) (r25 : Int) = (q2 : Int) := by rw [← eq2]; exact u32_xor_nat _ _ lq1 lr25
              have Eq2 := Lib.hid eq2
              clear eq2
              obtain ⟨s1, es1⟩ : ∃ z, (v7 + q2) % 4294967296 = z := ⟨_, rfl⟩
              have ls1 : s1 < 4294967296 := by rw [← es1]; exact Nat.mod_lt _ (by omega)
              have ks1 : IntKind.u32.wrap ((v7 : Int) + (q2 : Int)) = (s1 : Int) := by rw [← es1]; exact add_u32 _ _
              have Es1 := Lib.hid es1
              clear es1
              obtain ⟨f1, ef1⟩ : ∃ z, v4 &&& v5 = z := ⟨_, rfl⟩
              have lf1 : f1 < 4294967296 := by rw [← ef1]; exact and32 lv4
              have kf1 : Go.bits .and .u32 (v4 : Int) (v5 : Int) = (f1 : Int) := by rw [← ef1]; exact u32_and_nat _ _ lv4 lv5
              have Ef1 := Lib.hid ef1
              clear ef1
              obtain ⟨ne, ene⟩ : ∃ z, 4294967295 - v4 = z := ⟨_, rfl⟩
              have lne : ne < 4294967296 := by rw [← ene]; exact Nat.lt_of_le_of_lt (Nat.sub_le _ _) (by omega)
              have kne := not_u32 lv4 ene
              obtain ⟨f2, ef2⟩ : ∃ z, ne &&& v6 = z := ⟨_, rfl⟩
              have lf2 : f2 < 4294967296 := by rw [← ef2]; exact and32 lne
              have kf2 : Go.bits .and .u32 (ne : Int) (v6 : Int) = (f2 : Int) := by rw [← ef2]; exact u32_and_nat _ _ lne lv6
              have Ef2 := Lib.hid ef2
              clear ef2
              obtain ⟨f3, ef3⟩ : ∃ z, f1 ^^^ f2 = z := ⟨_, rfl⟩
              have lf3 : f3 < 4294967296 := by rw [← ef3]; exact xor32 lf1 lf2
              have kf3 : Go.bits .xor .u32 (f1 : Int) (f2 : Int) = (f3 : Int) := by rw [← ef3]; exact u32_xor_nat _ _ lf1 lf2
              have Ef3 := Lib.hid ef3
              clear ef3
              obtain ⟨s2, es2⟩ : ∃ z, (s1 + f3) % 4294967296 = z := ⟨_, rfl⟩
              have ls2 : s2 < 4294967296 := by rw [← es2]; exact Nat.mod_lt _ (by omega)
              have ks2 : IntKind.u32.wrap ((s1 : Int) + (f3 : Int)) = (s2 : Int) := by rw [← es2]; exact add_u32 _ _
              have Es2 := Lib.hid es2
              clear es2
              obtain ⟨s3, es3⟩ : ∃ z, (s2 + kt) % 4294967296 = z := ⟨_, rfl⟩
              have ls3 : s3 < 4294967296 := by rw [← es3]; exact Nat.mod_lt _ (by omega)
              have ks3 : IntKind.u32.wrap ((s2 : Int) + (kt : Int)) = (s3 : Int) := by rw [← es3]; exact add_u32 _ _
              have Es3 := Lib.hid es3
              clear es3
              obtain ⟨X, eX⟩ : ∃ z, (s3 + wt) % 4294967296 = z := ⟨_, rfl⟩
              have lX : X < 4294967296 := by rw [← eX]; exact Nat.mod_lt _ (by omega)
              have kX : IntKind.u32.wrap ((s3 : Int) + (wt : Int)) = (X : Int) := by rw [← eX]; exact add_u32 _ _
              have EX := Lib.hid eX
              clear eX
              obtain ⟨q3, eq3⟩ : ∃ z, r2 ^^^ r13 = z := ⟨_, rfl⟩
              have lq3 : q3 < 4294967296 := by rw [← eq3]; exact xor32 lr2 lr13
              have kq3 : Go.bits .xor .u32 (r2 : Int) (r13 : Int) = (q3 : Int) := by rw [← eq3]; exact u32_xor_nat _ _ lr2 lr13
              have Eq3 := Lib.hid eq3
              clear eq3
              obtain ⟨q4, eq4⟩ : ∃ z, q3 ^^^ r22 = z := ⟨_, rfl⟩
              have lq4 : q4 < 4294967296 := by rw [← eq4]; exact xor32 lq3 lr22
              have kq4 : Go.bits .xor .u32 (q3 : Int) (r22 : Int) = (q4 : Int) := by rw [← eq4]; exact u32_xor_nat _ _ lq3 lr22
              have Eq4 := Lib.hid eq4
              clear eq4
              obtain ⟨m1, em1⟩ : ∃ z, v0 &&& v1 = z := ⟨_, rfl⟩
              have lm1 : m1 < 4294967296 := by rw [← em1]; exact and32 lv0
              have km1 : Go.bits .and .u32 (v0 : Int) (v1 : Int) = (m1 : Int) := by rw [← em1]; exact u32_and_nat _ _ lv0 lv1
              have Em1 := Lib.hid em1
              clear em1
              obtain ⟨m2, em2⟩ : ∃ z, v0 &&& v2 = z := ⟨_, rfl⟩
              have lm2 : m2 < 4294967296 := by rw [← em2]; exact and32 lv0
              have km2 : Go.bits .and .u32 (v0 : Int) (v2 : Int) = (m2 : Int) := by rw [← em2]; exact u32_and_nat _ _ lv0 lv2
              have Em2 := Lib.hid em2
              clear em2
              obtain ⟨m12, em12⟩ : ∃ z, m1 ^^^ m2 = z := ⟨_, rfl⟩
              have lm12 : m12 < 4294967296 := by rw [← em12]; exact xor32 lm1 lm2
              have km12 : Go.bits .xor .u32 (m1 : Int) (m2 : Int) = (m12 : Int) := by rw [← em12]; exact u32_xor_nat _ _ lm1 lm2
              have Em12 := Lib.hid em12
              clear em12
              obtain ⟨m3, em3⟩ : ∃ z, v1 &&& v2 = z := ⟨_, rfl⟩
              have lm3 : m3 < 4294967296 := by rw [← em3]; exact and32 lv1
              have km3 : Go.bits .and .u32 (v1 : Int) (v2 : Int) = (m3 : Int) := by rw [← em3]; exact u32_and_nat _ _ lv1 lv2
              have Em3 := Lib.hid em3
              clear em3
              obtain ⟨m4, em4⟩ : ∃ z, m12 ^^^ m3 = z := ⟨_, rfl⟩
              have lm4 : m4 < 4294967296 := by rw [← em4]; exact xor32 lm12 lm3
              have km4 : Go.bits .xor .u32 (m12 : Int) (m3 : Int) = (m4 : Int) := by rw [← em4]; exact u32_xor_nat _ _ lm12 lm3
              have Em4 := Lib.hid em4
              clear em4
              obtain ⟨Y, eY⟩ : ∃ z, (q4 + m4) % 4294967296 = z := ⟨_, rfl⟩
              have lY : Y < 4294967296 := by rw [← eY]; exact Nat.mod_lt _ (by omega)
              have kY : IntKind.u32.wrap ((q4 : Int) + (m4 : Int)) = (Y : Int) := by rw [← eY]; exact add_u32 _ _
              have EY := Lib.hid eY
              clear eY
              obtain ⟨n0, en0⟩ : ∃ z, (X + Y) % 4294967296 = z := ⟨_, rfl⟩
              have ln0 : n0 < 4294967296 := by rw [← en0]; exact Nat.mod_lt _ (by omega)
              have kn0 : IntKind.u32.wrap ((X : Int) + (Y : Int)) = (n0 : Int) := by rw [← en0]; exact add_u32 _ _
              have En0 := Lib.hid en0
              clear en0
              obtain ⟨n4, en4⟩ : ∃ z, (v3 + X) % 4294967296 = z := ⟨_, rfl⟩
              have ln4 : n4 < 4294967296 := by rw [← en4]; exact Nat.mod_lt _ (by omega)
              have kn4 : IntKind.u32.wrap ((v3 : Int) + (X : Int)) = (n4 : Int) := by rw [← en4]; exact add_u32 _ _
              have En4 := Lib.hid en4
              clear en4
              have HLT := Lib.hid hlt
              have ENE := Lib.hid ene
              have EKT := Lib.hid ekt
              have EWT := Lib.hid ewt
              clear hvl hvb hbk hbel hbw hlt ene ekt ewt
              go_wp2_with fail
              go_quiet (fail)
              go_wp2_with fail
              refine wp_region_quiet_lit (by kernel_rfl) (by kernel_rfl) ?_
              iterate 3 quiet_step (fail)
              quiet_step ((go_at_call 128; exact quiet_add_same (Cr6.out _)))
              quiet_step (fail)
              quiet_step ((go_at_call 128; exact quiet_add_same (Cr11.out _)))
              iterate 2 quiet_step (fail)
              quiet_step ((go_at_call 128; exact quiet_add_same (Cr25.out _)))
              repeat quiet_step (fail)
              refine wpQuiet_nil ?_
              intro _ hw'
              obtain ⟨nq2, hw''⟩ := hw'
              subst hw''
              rw [World.drewN_drewN]
              generalize hn2 : nq + nq2 = n2
              clear hn2
              go_wp2_with fail
              refine wp_region_quiet_lit (by kernel_rfl) (by kernel_rfl) ?_
              quiet_step (fail)
              quiet_step ((go_at_call 128; exact quiet_add_same (Cr2.out _)))
              quiet_step (fail)
              quiet_step ((go_at_call 128; exact quiet_add_same (Cr13.out _)))
              iterate 2 quiet_step (fail)
              quiet_step ((go_at_call 128; exact quiet_add_same (Cr22.out _)))
              repeat quiet_step (fail)
              refine wpQuiet_nil ?_
              intro _ hw'
              obtain ⟨nq3, hw''⟩ := hw'
              subst hw''
              rw [World.drewN_drewN]
              generalize hn3 : n2 + nq3 = n3
              clear hn3
              have HRND := Lib.hid (show [n0, v0, v1, v2, n4, v4, v5, v6] = rounds xs h (t + 1) by
                show _ = rnd (rounds xs h t) (gd kN t) (gd xs t)
                rw [← HV.out, EKT.out, EWT.out]
                unfold rnd rndX rndY bg1 bg0 chN mjN
                rw [Ev0.out, Ev1.out, Ev2.out, Ev3.out, Ev4.out, Ev5.out, Ev6.out, Ev7.out, Er6.out, Er11.out, Er25.out, Eq1.out, Eq2.out, Ef1.out, ENE.out, Ef2.out, Ef3.out, sum5 Es1.out Es2.out Es3.out EX.out, Er2.out, Er13.out, Eq3.out, Er22.out, Eq4.out, Em1.out, Em2.out, Em12.out, Em3.out, Em4.out, EY.out, En0.out, En4.out])
              clear Cr6 Cr11 Cr25 Cr2 Cr13 Cr22
              go_upto_region 20 with (fail)
              refine wp_region_lit ?_
              iterate 20 (refine wpList_plain rfl (fun K hK => ?_); go_simp; refine hK _ _ ?_; clear hK K)
              refine wpList_store_row rfl 142 _ _ rfl (g10 + 1) (va .u32 [n0, v0, v1, v2, n4, v4, v5, v6]) (by kernel_rfl) (by kernel_rfl) 142 (va .u32 v) (HBK.out.drewN n3) eight_info (by rw [va_size, HVL.out]; rfl) (va_all _ _) ?_
              refine wpList_nil ?_
              have hst := (HBK.out.drewN n3).row (va .u32 [n0, v0, v1, v2, n4, v4, v5, v6])
              have hbl := below_rowS (below_drewN HBEL.out n3) (Nat.le_refl _) (va .u32 [n0, v0, v1, v2, n4, v4, v5, v6])
              generalize hwq : (wr.drewN n3).setRow (g10 + 1) (va .u32 [n0, v0, v1, v2, n4, v4, v5, v6]) = wq at hst hbl ⊢
              clear hwq
              go_wp2_with fail
              have hlt := HLT.out
              exact ⟨⟨t + 1, [n0, v0, v1, v2, n4, v4, v5, v6], hlt, by go_num, HRND.out, hst, hbl⟩, by simp [intOf]; omega⟩
              -- </C>
            · obtain rfl : t = 64 := by omega
              -- <D>
              rw [show ((64 : Nat) : Int) = (64 : Int) from rfl]
              have B2r := Lib.hid (HB2'.out.below (HBL7.out.trans hbel) (by omega))
              have B4r := Lib.hid ((show ∃ cs : Array Value, cs.size = 8 ∧ Bk wr (w.heap.size + 1) 142 cs from by
                obtain ⟨cs, hcs, hb4⟩ := HB4.out
                exact ⟨cs, hcs, (hb4.below HBL6.out (by omega)).below (HBL7.out.trans hbel) (by omega)⟩))
              have hblr := Lib.hid ((HBL3.out.trans (HBL6.out.mono (by omega))).trans ((HBL7.out.trans hbel).mono (by omega)))
              clear hvl hvb hbk hbel HBEL HBL7 HBL6 HB2' HB10 HB5' HB11
              have hg3 : w.heap.size + 3 ≤ g10 := by have := hbel.size; omega
              clear hbk hbel hxl hxb
              go_wp2_with fail
              go_loopw [182] (fun i w' => ∃ (t : Nat), t ≤ 8 ∧ i = .int .i64 (t : Int) ∧ Bk w' w.heap.size 142 (va .u32 (addW h v t ++ h.drop t)) ∧ Below w.heap.size w w' ∧ Bk w' (g10 + 1) 142 (va .u32 v) ∧ ∃ cs : Array Value, cs.size = 8 ∧ Bk w' (w.heap.size + 1) 142 cs) (fun i _ => 8 - (intOf i).toNat)
              case atStart => exact ⟨0, by omega, rfl, by rw [show addW h v 0 ++ h.drop 0 = h from rfl]; exact B2r.out, hblr.out, HBK.out, B4r.out⟩
              case round =>
                obtain ⟨i, hi, rfl, hb2, hbl, hb11, cs, hcs, hb4⟩ := hrel
                clear HBK
                have HL2 := Lib.hid hb2
                have HBL := Lib.hid hbl
                have H11 := Lib.hid hb11
                have H4 := Lib.hid hb4
                by_cases hlt : i < 8
                · have c2 := hb2.cell i
                  rw [va_at .u32 (by rw [List.length_append, addW_length, List.length_drop, HL.out]; omega), gd_addW (by rw [HL.out]; exact hlt)] at c2
                  have c11 := (hb11.cell i).trans (va_at .u32 (by rw [HVL.out]; exact hlt))
                  obtain ⟨x, ex⟩ : ∃ z, gd h i = z := ⟨_, rfl⟩
                  obtain ⟨y, ey⟩ : ∃ z, gd v i = z := ⟨_, rfl⟩
                  rw [ex] at c2
                  rw [ey] at c11
                  obtain ⟨s, es⟩ : ∃ z, (x + y) % 4294967296 = z := ⟨_, rfl⟩
                  have ks : IntKind.u32.wrap ((x : Int) + (y : Int)) = (s : Int) := by rw [← es]; exact add_u32 _ _
                  have ES := Lib.hid (show (gd h i + gd v i) % 4294967296 = s by rw [ex, ey]; exact es)
                  have hf := hb2.frozen i
                  have a1 : (i : Int) < 8 := by omega
                  have a0 : (0 : Int) ≤ (i : Int) := by omega
                  clear ex ey es hb2 hbl hb11 hb4
                  go_wp2_with fail
                  go_still_tail 8, (by kernel_rfl)
                  go_wp2_with fail
                  have hst := (HL2.out.set i (.int .u32 (s : Int))).drew
                  rw [va_set, set_addW (by rw [HL.out]; exact hlt) ES.out] at hst
                  exact ⟨⟨i + 1, hlt, by go_num, hst, (HBL.out.setCell (p := ⟨w.heap.size, i, none⟩) (Nat.le_refl _) _).drew, (H11.out.far (by show g10 + 1 ≠ w.heap.size; omega) _).drew, cs, hcs, (H4.out.far (by show w.heap.size + 1 ≠ w.heap.size; omega) _).drew⟩, by simp [intOf]; omega⟩
                · obtain rfl : i = 8 := by omega
                  rw [show ((8 : Nat) : Int) = (8 : Int) from rfl]
                  have hh : addW h v 8 ++ h.drop 8 = blockN h p := by
                    rw [List.drop_eq_nil_of_le (by rw [HL.out]; exact Nat.le_refl _), List.append_nil]
                    unfold blockN
                    rw [HWS.out, ← HV.out]
                  rw [hh] at hb2
                  have hbl8 : (blockN h p).length = 8 := by unfold blockN; exact addW_length _ _ _
                  clear HL2 HBL H11 H4 hb11
                  have HL2 := Lib.hid hb2
                  have HBL := Lib.hid hbl
                  have H4 := Lib.hid hb4
                  clear hb2 hbl hb4
                  go_upto_region 27 with (fail)
                  refine wp_region_lit ?_
                  refine wpList_load_row rfl 142 _ rfl w.heap.size (by kernel_rfl) 142 (va .u32 (blockN h p)) (0, 0) (.array 8 64) HL2.out Try.underlying142 rfl (eight_info.trans (by rw [va_size, hbl8])) ?_
                  refine wpList_store_row rfl 142 _ _ rfl (w.heap.size + 1) (va .u32 (blockN h p)) (by kernel_rfl) (by kernel_rfl) 142 cs H4.out (eight_info.trans (by rw [va_size, hbl8])) (by rw [va_size, hbl8, hcs]) (va_all _ _) ?_
                  refine wpList_nil ?_
                  have hst := H4.out.row (va .u32 (blockN h p))
                  have hbl := below_rowS HBL.out (Nat.le_succ w.heap.size) (va .u32 (blockN h p))
                  generalize hwq : wr.setRow (w.heap.size + 1) (va .u32 (blockN h p)) = wq at hst hbl ⊢
                  clear hwq
                  go_wp2_with fail
                  refine bodyPost_ret (v := .agg (va .u32 (blockN h p))) ?_ rfl ⟨rfl, hbl⟩
                  simp [results, Try.results122, asAddr, Result.andThen]
                  exact run_loadVar_row _ _ _ _ _ _ _ hst Try.underlying142 rfl (eight_info.trans (by rw [va_size, hbl8]))
              -- </D>
end Go.Proofs.Ytdmglajfmfjmlaa
namespace Go.Proofs.Ytdmglajfmfjmlaa
set_option linter.unusedSimpArgs false
set_option linter.unusedVariables false
set_option maxRecDepth 100000
open Go.RowKit
def blkN (h m : List Nat) (i : Nat) : List Nat := blockN h ((m.drop (64 * i)).take 64)
def foldB (h m : List Nat) : Nat → List Nat
  | 0 => h
  | k + 1 => blkN (foldB h m k) m k
def stN (m : List Nat) : List Nat := foldB hN m (m.length / 64)
def restN (m : List Nat) : List Nat := m.drop (m.length / 64 * 64)
def be8 (n : Nat) : List Nat := [n / 72057594037927936 % 256, n / 281474976710656 % 256, n / 1099511627776 % 256, n / 4294967296 % 256, n / 16777216 % 256, n / 65536 % 256, n / 256 % 256, n % 256]
def padN (n : Nat) : List Nat := 128 :: (List.replicate (63 - (n + 8) % 64) 0 ++ be8 (8 * n))
def outN (ws : List Nat) : List Nat := ws.flatMap fun w => [w / 16777216 % 256, w / 65536 % 256, w / 256 % 256, w % 256]
def shaN (m : List Nat) : List Nat := outN (stN (m ++ padN m.length))
theorem blockN_length (h p : List Nat) : (blockN h p).length = 8 := by unfold blockN; exact addW_length _ _ _
theorem blockN_b32 (h p : List Nat) : B32 (blockN h p) := by unfold blockN; exact addW_b32 _ _ _
theorem hN_length : hN.length = 8 := rfl
theorem foldB_length {h : List Nat} (hl : h.length = 8) (m : List Nat) (k : Nat) : (foldB h m k).length = 8 := by
  cases k with
  | zero => exact hl
  | succ k => exact blockN_length _ _
theorem foldB_b32 {h : List Nat} (hb : B32 h) (m : List Nat) (k : Nat) : B32 (foldB h m k) := by
  cases k with
  | zero => exact hb
  | succ k => exact blockN_b32 _ _
theorem stN_length (m : List Nat) : (stN m).length = 8 := foldB_length hN_length _ _
theorem stN_b32 (m : List Nat) : B32 (stN m) := foldB_b32 hN_b32 _ _
theorem foldB_add (h m : List Nat) (k j : Nat) : foldB h m (k + j) = foldB (foldB h m k) (m.drop (64 * k)) j := by
  induction j with
  | zero => rfl
  | succ j ih =>
    rw [show k + (j + 1) = k + j + 1 by omega]
    simp only [foldB, ih, blkN, List.drop_drop]
    rw [Nat.mul_add]
theorem foldB_prefix (h m b : List Nat) (k : Nat) (hk : 64 * k ≤ m.length) : foldB h (m ++ b) k = foldB h m k := by
  induction k with
  | zero => rfl
  | succ k ih =>
    simp only [foldB, blkN]
    rw [ih (by omega), List.drop_append_of_le_length (by omega), List.take_append_of_le_length (by rw [List.length_drop]; omega)]
theorem restN_length (m : List Nat) : (restN m).length = m.length - m.length / 64 * 64 := by unfold restN; rw [List.length_drop]
theorem rest_append (m b : List Nat) : (m ++ b).drop (64 * (m.length / 64)) = restN m ++ b := by
  unfold restN
  rw [Nat.mul_comm, List.drop_append_of_le_length (by omega)]
theorem blocks_append (m b : List Nat) : (m ++ b).length / 64 = m.length / 64 + (restN m ++ b).length / 64 := by
  rw [List.length_append, List.length_append, restN_length]; omega
theorem stN_append (m b : List Nat) : foldB (stN m) (restN m ++ b) ((restN m ++ b).length / 64) = stN (m ++ b) := by
  show _ = foldB hN (m ++ b) ((m ++ b).length / 64)
  rw [blocks_append m b, foldB_add, rest_append, foldB_prefix hN m b (m.length / 64) (by omega)]
  rfl
theorem restN_append (m b : List Nat) : restN (restN m ++ b) = restN (m ++ b) := by
  have h := rest_append m b
  have hb := blocks_append m b
  have e : restN (m ++ b) = ((m ++ b).drop (64 * (m.length / 64))).drop ((restN m ++ b).length / 64 * 64) := by
    show (m ++ b).drop ((m ++ b).length / 64 * 64) = _
    rw [List.drop_drop]; congr 1; omega
  rw [e, h]; rfl
theorem stN_nil : stN [] = hN := rfl
theorem padN_length (n : Nat) : (padN n).length = 64 - (n + 8) % 64 + 8 := by
  unfold padN
  simp [be8]; omega
theorem padN_b8 (n : Nat) : B8 (padN n) := by
  unfold padN be8
  refine B8.cons (by omega) (B8.append (fun x hx => by rw [List.eq_of_mem_replicate hx]; omega) ?_)
  repeat (refine B8.cons (Nat.mod_lt _ (by omega)) ?_)
  exact B8.nil
theorem outN_length (ws : List Nat) : (outN ws).length = 4 * ws.length := by
  unfold outN
  induction ws with
  | nil => rfl
  | cons w ws ih => simp only [List.flatMap_cons, List.length_append, ih, List.length_cons, List.length_nil]; omega
theorem outN_b8 (ws : List Nat) : B8 (outN ws) := by
  unfold outN
  intro x hx
  obtain ⟨w, _, hx⟩ := List.mem_flatMap.1 hx
  simp only [List.mem_cons, List.not_mem_nil, or_false] at hx
  rcases hx with rfl | rfl | rfl | rfl <;> exact Nat.mod_lt _ (by omega)
theorem shaN_length (m : List Nat) : (shaN m).length = 32 := by unfold shaN; rw [outN_length, stN_length]
theorem shaN_b8 (m : List Nat) : B8 (shaN m) := outN_b8 _
end Go.Proofs.Ytdmglajfmfjmlaa
namespace Go.Proofs.Ytdmglajfmfjmlaa
set_option linter.unusedSimpArgs false
set_option linter.unusedVariables false
set_option maxRecDepth 100000
open Go.RowKit
def AbidesBox {β : Type} (Bn : Nat) (J : β → World → Prop) : Prop := ∀ s W W' row, J s W → W.grownBy W' row → (∀ r, row = some r → r = Bn) → J s W'
theorem AbidesBox.and {β : Type} {Bn : Nat} {I I' : β → World → Prop} (h : AbidesBox Bn I) (h' : AbidesBox Bn I') : AbidesBox Bn (fun s W => I s W ∧ I' s W) := fun s W W' row hs hg hr => ⟨h s W W' row hs.1 hg hr, h' s W W' row hs.2 hg hr⟩
def goesOn {β : Type} (Bn : Nat) (I : β → World → Prop) (s : β) (W : World) : Exit → Act → World → Prop
  | .normal, _, W' => KeepsOthers W W' ∧ W'.heap[Bn]? = W.heap[Bn]? ∧ I s W'
  | _, _, _ => False
section
variable {F : Fence} {n : Nat} {P : Program}
theorem range_box {α : Type} {g : Operand} {ps : Array Tmp} {assign body : Code} {Q : Exit → Act → World → Prop} {a : Act} {w : World}
    (hro : F.round = none) (h1 : 1 ≤ n) {gf : Nat} {lb : Array Value} (hg : a.eval g = .func (.func gf) #[] lb) (hFg : F.fn gf) (eg : ∀ args w, (callFunc gf args).run P w = .ok (.enter gf args) w)
    {encs : α → Array Value} {S : List α → Prop} {Ok : List α → α → Prop} {Bn : Nat} (hBn : Bn < w.heap.size)
    (hseq : ∀ (l : Nat) (J : List α → World → Prop) (W : World), Below w.heap.size w W → AbidesBox Bn J →
      (∀ pre x W1, J pre W1 → Ok pre x → YieldAt F (n - 1 - 1) P l (encs x) W1 fun e W' => e = .returned (.bool true) ∧ J (pre ++ [x]) W' ∧ W'.heap[Bn]? = W1.heap[Bn]?) →
      J [] W → CallsIn F (n - 1) P gf (#[.func (.yield l) #[] #[]] ++ lb) W fun e W' => (∃ v, e = .returned v) ∧ ∃ xs, S xs ∧ J xs W')
    (hps : ∀ x, (encs x).size = ps.size)
    (I : List α → World → Prop) (hI : OwnFrom w.heap.size I) (hIB : AbidesBox Bn I) (h0 : I [] w) (a₁ : α → Act)
    (hassign : ∀ (l : Nat) (x : α) (W : World) (K : Act → World → Prop), K (a₁ x) W →
      assign.wpIn (F.inRound l) (n - 1 - 1) P (Exit.then K (fun _ _ _ => False)) { tmps := (ps.zip (encs x)).foldl (fun t (p, v) => t.setIfInBounds p v) a.tmps, defers := [] } W)
    (hbody : ∀ (l : Nat) (pre : List α) (x : α) (W : World), I pre W → Ok pre x → body.wpIn (F.inRound l) (n - 1 - 1) P (goesOn Bn I (pre ++ [x]) W) (a₁ x) W)
    (hdone : ∀ (D : Nat) (xs : List α) (W : World), w.heap.size ≤ D → S xs → I xs W → W.heap[D]? = some (.deferred (some [])) → Q .normal { a with defers := { target := .collected D, args := #[] } :: a.defers } W) :
    (Code.rangeFunc g ps assign body).wpIn F n P Q a w := by
  refine wpIn_rangeFunc fun fn hfn => ?_
  rw [hro]
  obtain ⟨rec, hrec⟩ : ∃ rec : LoopState → Option Code → Loop, rec = fun st pe => { state := st, pending := pe, fn, tmps := a.tmps, params := ps, assign, body, defers := w.heap.size } := ⟨_, rfl⟩
  obtain ⟨W1, hW1⟩ : ∃ W1, (w.alloc (.deferred (some []))).alloc (.loop (rec .ready none)) = W1 := ⟨_, rfl⟩
  have hL1 : W1.heap[w.heap.size + 1]? = some (.loop (rec .ready none)) := by
    have := World.alloc_heap_new (w.alloc (.deferred (some []))) (.loop (rec .ready none))
    rw [World.size_alloc, hW1] at this; exact this
  have hK1 : W1.heap[w.heap.size]? = some (.deferred (some [])) := by
    rw [← hW1]; exact (Below.heap_alloc _ _ _ (by simp)).trans (World.alloc_heap_new w _)
  have hI1 : I [] W1 := by rw [← hW1]; exact hI.alloc _ (hI.alloc _ h0)
  have hb1 : Below w.heap.size w W1 := by rw [← hW1]; exact ((Below.refl _ w).alloc (Nat.le_refl _) _).alloc (by simp) _
  refine ⟨w.heap.size + 1, [{ target := .collected w.heap.size, args := #[] }], W1, { target := .fn (.func gf) lb, args := #[.func (.yield (w.heap.size + 1)) #[] #[]] }, W1, gf, #[.func (.yield (w.heap.size + 1)) #[] #[]] ++ lb, W1, ?_, ?_, ?_, ?_, fun _ => h1, ?_⟩
  · rw [← hW1, hrec]; exact run_enterLoop_outer _ _ _ _ _
  · simp only [resolve, hg]
    simp [go_sem]
  · intro f' hf'; simp [Target.leads] at hf'; subst hf'; exact hFg
  · simp [invoke, go_sem, eg]
  · have hrow : ∀ {row : Option Nat}, (∀ r, row = some r → r = Bn) → ∀ k, w.heap.size ≤ k → some k ≠ row := fun hr k hk e => by
      have := hr k e.symm; omega
    refine (hseq (w.heap.size + 1) (fun pre W => I pre W ∧ W.heap[w.heap.size + 1]? = some (.loop (rec .ready none)) ∧ W.heap[w.heap.size]? = some (.deferred (some []))) W1 hb1 ?_ ?_ ⟨hI1, hL1, hK1⟩).mono ?_
    · intro s A B row hs hg' hr
      exact ⟨hIB s A B row hs.1 hg' hr, (hg'.block _ (Array.getElem?_eq_some_iff.1 hs.2.1).1 (hrow hr _ (by omega))).trans hs.2.1, (hg'.block _ (Array.getElem?_eq_some_iff.1 hs.2.2).1 (hrow hr _ (by omega))).trans hs.2.2⟩
    · rintro pre x W ⟨hi, hl, hk⟩ hok
      have hlt : w.heap.size + 1 < W.heap.size := (Array.getElem?_eq_some_iff.1 hl).1
      have hy := run_yield (P := P) (args := encs x) hl (by rw [hrec]; exact hps x)
      rw [hrec] at hy
      refine ⟨fn, _, assign, body, hy, roundIn_of_wpIn hfn (hassign _ x W _ ⟨_, run_beginRound hl (by rw [hrec]), ?_⟩)⟩
      have hl2 : (W.putObj (w.heap.size + 1) (.loop { rec .ready none with state := .busy })).heap[w.heap.size + 1]? = some (.loop { rec .ready none with state := .busy }) := World.putObj_heap_same hlt
      have hk2 : (W.putObj (w.heap.size + 1) (.loop { rec .ready none with state := .busy })).heap[w.heap.size]? = some (.deferred (some [])) := (World.putObj_heap_other (by omega)).trans hk
      have hB2 : (W.putObj (w.heap.size + 1) (.loop { rec .ready none with state := .busy })).heap[Bn]? = W.heap[Bn]? := World.putObj_heap_other (by omega)
      refine wpIn_mono (hbody _ pre x _ (hI.putObj _ hi (by omega) hl rfl) hok) ?_
      rintro e a3 W3 hp
      cases e with
      | normal =>
        obtain ⟨hk3, hB3, hi3⟩ := hp
        have hl3 := hk3.same _ _ hl2 rfl
        have hr := run_endRound (P := P) none hl3
        have hlt3 := (Array.getElem?_eq_some_iff.1 hl3).1
        rw [hrec] at hr
        refine ⟨_, _, hr, rfl, ⟨hI.putObj _ hi3 (by omega) hl3 rfl, ?_, (World.putObj_heap_other (by omega)).trans (hk3.same _ _ hk2 rfl)⟩, ?_⟩
        · rw [hrec]; exact World.putObj_heap_same hlt3
        · exact (World.putObj_heap_other (by omega)).trans (hB3.trans hB2)
      | _ => exact hp.elim
    · rintro e W2 ⟨⟨v, rfl⟩, xs, hS, hi, hl, hk⟩
      have hend := run_endLoop (P := P) hl (by rw [hrec]; simp)
      rw [hrec] at hend
      exact ⟨none, _, hend, hdone _ xs _ (Nat.le_refl _) hS (hI.putObj _ hi (by omega) hl rfl) ((World.putObj_heap_other (by omega)).trans hk)⟩
end
def onlyN (R : Act → World → Prop) : Exit → Act → World → Prop
  | .normal, a, w => R a w
  | _, _, _ => False
theorem wp_only {P : Program} {s : Code} {Q : Exit → Act → World → Prop} {a : Act} {w : World} (h : s.wp P (onlyN (Q .normal)) a w) : s.wp P Q a w :=
  wp_mono h (fun e a' w' hq => by cases e <;> first | exact hq | exact hq.elim)
end Go.Proofs.Ytdmglajfmfjmlaa
namespace Go.Proofs.Ytdmglajfmfjmlaa
set_option linter.unusedSimpArgs false
set_option linter.unusedVariables false
set_option maxRecDepth 100000
open Go.RowKit
section
variable {P : Program} (w : World)
theorem run_append_full (k : IntKind) (t ty e : TypeId) (i : TypeInfo) (z : Value) (bytes : Nat) (ht : P.underlying t = some (.slice e)) (hi : P.info? e = some i) (hz : i.zero = some z)
    (hsize : i.size = 1) (hby : i.bytes = bytes) (hzs : z.cells.size = 1)
    (A : Option Addr) (n : Nat) (xs : List Nat) (hx : Rd k w A n n xs) (B : Option Addr) (m d : Nat) (ys : List Nat) (hr : Rd k w B m d ys)
    (h63 : n + m ≤ maxLen) (hbytes : (n + m) * bytes ≤ 140737488355328) :
    ∃ A' c' w', (Builtin.append_ #[t, t] ty #[.slice A n n, .slice B m d]).run P w = .ok (.slice A' (n + m) c') w' ∧ Rd k w' A' (n + m) c' (xs ++ ys) ∧ Below w.heap.size w w' ∧
      ((A' = A ∧ m = 0) ∨ ∃ g, A' = some ⟨g, 0, none⟩ ∧ w.heap.size ≤ g ∧ 0 < m) := by
  rcases Nat.eq_zero_or_pos m with h0 | h0
  · subst h0
    have hy : ys = [] := List.eq_nil_of_length_eq_zero hr.len
    subst hy
    refine ⟨A, n, w, ?_, by simpa using hx, Below.refl _ _, .inl ⟨rfl, rfl⟩⟩
    rcases A with _ | ad
    · have hn : n = 0 := by
        rcases Nat.eq_zero_or_pos n with h | h
        · exact h
        · obtain ⟨_, h2, _⟩ := hx.form h; cases h2
      subst hn
      rcases B with _ | bd <;> simp [Builtin.append_, run_underlying ht, sizeOf, typeInfo, hi, Builtin.lenOf, Builtin.firstCells, loadCells, loadCellsFrom]
    · rcases B with _ | bd <;> simp [Builtin.append_, run_underlying ht, sizeOf, typeInfo, hi, Builtin.lenOf, Builtin.firstCells, loadCells, loadCellsFrom, storeCells]
  · obtain ⟨ad, rfl, hlt, hc⟩ := hr.form h0
    have key : ∃ v' w', (Builtin.append_ #[t, t] ty #[.slice A n n, .slice (some ad) m d]).run P w = .ok v' w' ∧ w'.ownsRow w.heap.size e 1 v' (n + m) (vs k xs ++ vs k ys) ∧ w.grownBy w' none := by
      rcases A with _ | b
      · have hn : n = 0 := by
          rcases Nat.eq_zero_or_pos n with h | h
          · exact h
          · obtain ⟨_, h2, _⟩ := hx.form h; cases h2
        subst hn
        have hxs : xs = [] := List.eq_nil_of_length_eq_zero hx.len
        subst hxs
        obtain ⟨v', w', hrun, r1, r2, _⟩ := run_append_own (P := P) w w.heap.size t ty e i z 1 bytes ht hi hz hsize hby hzs (by omega) (.slice none 0 0) 0 [] (World.ownsRow_nil w _ e 1) ad m d (vs k ys) (by rw [vs_length, hr.len]; omega) (hr.cells rfl) (vs_one k ys) h63 hbytes (Nat.le_refl _)
        exact ⟨v', w', hrun, r1, r2⟩
      · exact run_append_arg_grows (P := P) w t ty e i z 1 bytes ht hi hz hsize hby hzs (by omega) b n n (vs k xs) (by rw [vs_length, hx.len]; omega) (hx.cells rfl) ad m d (vs k ys) (by rw [vs_length, hr.len]; omega) (hr.cells rfl) (by omega) h63 hbytes
    obtain ⟨v', w', hrun, h2, h3⟩ := key
    rw [← vs_append] at h2
    have hb : Below w.heap.size w w' := (Below.refl _ _).grown h3 (Nat.le_refl _) (fun g hg => by cases hg)
    rcases h2.2 with ⟨h1, h2'⟩ | ⟨g, cap, cur, h1, hg, _⟩
    · exact absurd h2' (by omega)
    · subst h1
      exact ⟨some ⟨g, 0, none⟩, cap, w', hrun, Own.rd (k := k) (e := e) (base := w.heap.size) h2, hb, .inr ⟨g, rfl, hg, h0⟩⟩
theorem wpList_append_full {ops : Array Oper} {rest : List Oper} {o : Oper} {a : Act} {Q : Exit → Act → World → Prop} (hgd : o.guard = none) (s x : Operand) (t : TypeId)
    (ho : o.op = .call { callee := .builtin .append, args := #[s, x], argTypes := #[t, t] })
    (k : IntKind) (e : TypeId) (i : TypeInfo) (z : Value) (bytes : Nat) (ht : P.underlying t = some (.slice e)) (hi : P.info? e = some i) (hz : i.zero = some z)
    (hsize : i.size = 1) (hby : i.bytes = bytes) (hzs : z.cells.size = 1)
    (A : Option Addr) (n : Nat) (xs : List Nat) (hs : a.eval s = .slice A n n) (hrx : Rd k w A n n xs) (B : Option Addr) (m d : Nat) (ys : List Nat) (hx : a.eval x = .slice B m d) (hr : Rd k w B m d ys)
    (h63 : n + m ≤ maxLen) (hbytes : (n + m) * bytes ≤ 140737488355328)
    (h : ∀ A' c' w', Rd k w' A' (n + m) c' (xs ++ ys) → Below w.heap.size w w' → ((A' = A ∧ m = 0) ∨ ∃ g, A' = some ⟨g, 0, none⟩ ∧ w.heap.size ≤ g ∧ 0 < m) → (∀ g, A' = some ⟨g, 0, none⟩ → 0 < n + m → g < w'.heap.size) → wpList P ops Q rest (a.put o.dst (.slice A' (n + m) c')) w') : wpList P ops Q (o :: rest) a w :=
  wpList_plain hgd fun _ hK => by
    obtain ⟨A', c', w', hrun, h2, h3, h4⟩ := run_append_full (P := P) w k t o.type e i z bytes ht hi hz hsize hby hzs A n xs hrx B m d ys hr h63 hbytes
    unfold Oper.wp execOp
    simp only [ho, resolve, invoke, builtin, Sem.run_bind, Sem.run_pure, Result.andThen_ok, List.map_toArray, List.map_cons, List.map_nil, hs, hx, hrun]
    exact hK _ _ (h A' c' w' h2 h3 h4 (fun g e h0 => by obtain ⟨ad, h5, h6, _⟩ := h2.form h0; rw [e] at h5; cases h5; exact h6))
end
end Go.Proofs.Ytdmglajfmfjmlaa
namespace Go.Proofs.Ytdmglajfmfjmlaa
set_option linter.unusedSimpArgs false
set_option linter.unusedVariables false
set_option maxRecDepth 100000
open Go.RowKit
attribute [local go_sem] Oper.semAt_some
theorem grown_box (W : World) (B : Nat) (u : Value) : W.grownBy (W.setCell ⟨B, 0, none⟩ u) (some B) :=
  ⟨rfl, rfl, rfl, by simp [World.setCell], fun k _ hk => Below.heap_setCell W ⟨B, 0, none⟩ u k (fun e => hk (by rw [e]))⟩
def boxLen (W : World) (B : Nat) : Nat := match W.cell? ⟨B, 0, none⟩ with
  | some (.slice _ n _) => n
  | _ => 0
def blkV (A : Option Addr) (i : Nat) : Value := .slice (A.map (·.add (64 * i))) 64 64
theorem blocks_maker (w : World) (A : Option Addr) (L c : Nat) : Calls Try.prog 121 #[.slice A L c] w fun e w' => e = .returned (.func (.func 127) #[] #[.pointer (some ⟨w.heap.size, 0, none⟩)]) ∧ w' = w.alloc (.cells #[.slice A L c] 22) := by
  go_enter Try.func121, Try.ntmps121
  go_wp2
  exact bodyPost_ret (by simp [results, Try.results121, go_sem]) rfl ⟨rfl, rfl⟩
set_option maxRecDepth 100000 in
theorem blocks_gives (n : Nat) (hn : 1 ≤ n) (Bn : Nat) (A : Option Addr) (L c : Nat) (hA : ∀ i, 64 * (i + 1) ≤ L → ∃ ad, A = some ad) (hLc : L ≤ c) (l : Nat) (J : List Nat → World → Prop)
    (hJ : AbidesBox Bn J)
    (hY : ∀ pre x W, J pre W → (pre = List.range x ∧ x < L / 64) → YieldAt Fence.wide (n - 1) Try.prog l #[blkV A x] W fun e W' => e = .returned (.bool true) ∧ J (pre ++ [x]) W' ∧ W'.heap[Bn]? = W.heap[Bn]?)
    (W : World) (hB : Bk W Bn 22 #[.slice A L c]) (h0 : J [] W) :
    CallsIn Fence.wide n Try.prog 127 #[.func (.yield l) #[] #[], .pointer (some ⟨Bn, 0, none⟩)] W fun e W' => (∃ v, e = .returned v) ∧ ∃ xs, xs = List.range (L / 64) ∧ J xs W' := by
  refine callsIn_of_wp Try.func127 rfl trivial ?_ rfl
  simp only [Try.ntmps127, List.size_toArray, List.length_cons, List.length_nil, Nat.reduceAdd, Nat.reduceSub, Array.replicate_succ, Array.replicate_zero, List.push_toArray, List.append_toArray, List.nil_append, List.cons_append]
  gi_wp2
  gi_loopw [] (fun wr => ∃ (k r q : Nat) (A' : Option Addr), r + 64 * k = L ∧ q + 64 * k = c ∧ Bk wr Bn 22 #[.slice A' r q] ∧ (64 ≤ r → A' = A.map (·.add (64 * k))) ∧ J (List.range k) wr) (fun wr => boxLen wr Bn)
  case atStart => exact ⟨0, L, c, A, rfl, rfl, hB, fun _ => by cases A <;> rfl, h0⟩
  case round =>
    obtain ⟨k, r, q, A', hr, hq, hbk, hA', hj⟩ := hrel
    have hc0 : wr.cell? ⟨Bn, 0, none⟩ = some (.slice A' r q) := hbk.cell 0
    by_cases h64 : 64 ≤ r
    · obtain ⟨ad, rfl⟩ := hA k (by omega)
      obtain rfl : A' = some (ad.add (64 * k)) := hA' h64
      obtain ⟨ak, hak⟩ : ∃ x, ad.add (64 * k) = x := ⟨_, rfl⟩
      obtain ⟨fn, tmps, assign, body, hy, hR⟩ := hY (List.range k) k wr hj ⟨rfl, by omega⟩
      simp only [blkV, Option.map_some, hak] at hy hc0 hbk
      have hr64 : (64 : Int) ≤ (r : Int) := by omega
      have hq64 : (64 : Int) ≤ (q : Int) := by omega
      gi_wp2
      refine hR.mono ?_
      rintro e W' ⟨rfl, hj', hB'⟩
      have hbk' : Bk W' Bn 22 #[.slice (some ak) r q] := hB'.trans hbk
      have hc' : W'.cell? ⟨Bn, 0, none⟩ = some (.slice (some ak) r q) := hbk'.cell 0
      have hf' := hbk'.frozen 0
      gi_wp2
      go_roundw
      case rel => 
        have hst := hbk'.set 0 (.slice (if q = 64 then some ak else some ⟨ak.block, ak.off + 64, none⟩) (r - 64) (q - 64))
        refine ⟨k + 1, r - 64, q - 64, (if q = 64 then some ak else some ⟨ak.block, ak.off + 64, none⟩), by omega, by omega, hst, fun h => ?_, ?_⟩
        · rw [if_neg (by omega), Option.map_some, show 64 * (k + 1) = 64 * k + 64 by omega, ← Addr.add_add, hak]
          rfl
        · rw [List.range_succ]
          exact hJ _ _ _ (some Bn) hj' (grown_box W' Bn _) (fun r hr => by cases hr; rfl)
      case measure =>
        have e1 : boxLen (W'.setCell ⟨Bn, 0, none⟩ (.slice (if q = 64 then some ak else some ⟨ak.block, ak.off + 64, none⟩) (r - 64) (q - 64))) Bn = r - 64 := by
          unfold boxLen
          rw [(hbk'.set 0 _).cell 0]; rfl
        have e2 : boxLen wr Bn = r := by unfold boxLen; rw [hc0]
        rw [e1, e2]; omega
    · gi_wp2
      go_end0
      refine ⟨⟨_, rfl⟩, _, rfl, ?_⟩
      have : L / 64 = k := by omega
      rw [this]; exact hj
end Go.Proofs.Ytdmglajfmfjmlaa
namespace Go.Proofs.Ytdmglajfmfjmlaa
set_option linter.unusedSimpArgs false
set_option linter.unusedVariables false
set_option maxRecDepth 100000
open Go.RowKit
attribute [local go_sem] Oper.semAt_some
theorem grown_drew {w w' : World} {r : Option Nat} (h : w.grownBy w' r) : w.grownBy w'.drew r := ⟨h.os, h.tape, h.output, h.size, h.block⟩
theorem grown_allocs {w w' : World} {r : Option Nat} (h : w.grownBy w' r) (o : Obj) : w.grownBy (w'.alloc o) r := grown_trans h (grown_alloc w' r o)
def hcells (bg : Bool) (ws : List Nat) (A : Option Addr) (n c k : Nat) : Array Value :=
  #[.bool bg, .int .u32 (gd ws 0 : Int), .int .u32 (gd ws 1 : Int), .int .u32 (gd ws 2 : Int), .int .u32 (gd ws 3 : Int), .int .u32 (gd ws 4 : Int), .int .u32 (gd ws 5 : Int), .int .u32 (gd ws 6 : Int), .int .u32 (gd ws 7 : Int), .slice A n c, .int .i64 (k : Int)]
def HS (w : World) (g base : Nat) (m : List Nat) : Prop :=
  B8 m ∧ m.length < 140737488355328 ∧ ∃ (bg : Bool) (ws : List Nat) (A : Option Addr) (n c : Nat), Bk w g 144 (hcells bg ws A n c m.length) ∧ B32 ws ∧ ws.length = 8 ∧
    Rd .u8 w A n c (restN m) ∧ (∀ ad, A = some ad → base ≤ ad.block ∧ ad.block ≠ g ∧ ad.block < w.heap.size) ∧ (bg = true → ws = stN m) ∧ (bg = false → m = [])
def Wrote (g : Nat) (w w' : World) : Prop := w.grownBy w' (some g)
theorem first_new (w : World) : Calls Try.prog 120 #[] w fun e w' => e = .returned (.agg (va .u32 hN)) ∧ w' = w.alloc (.cells (va .u32 hN) 142) := by
  go_enter Try.func120, Try.ntmps120
  go_wp2
  refine bodyPost_ret (v := .agg (va .u32 hN)) (by simp [results, Try.results120, go_sem]; rfl) rfl ⟨rfl, ?_⟩
  rfl
theorem va_hN : va .u32 hN = #[.int .u32 1779033703, .int .u32 3144134277, .int .u32 1013904242, .int .u32 2773480762, .int .u32 1359893119, .int .u32 2600822924, .int .u32 528734635, .int .u32 1541459225] := rfl
theorem hcells_n (bg : Bool) (ws : List Nat) (A : Option Addr) (n c k k' l : Nat) : (hcells bg ws A n c k).setIfInBounds 10 (.int .i64 ((k' : Int) + (l : Int))) = hcells bg ws A n c (k' + l) := by
  simp [hcells]
theorem hcells_left (bg : Bool) (ws : List Nat) (A A' : Option Addr) (n c n' c' k : Nat) : (hcells bg ws A n c k).setIfInBounds 9 (.slice A' n' c') = hcells bg ws A' n' c' k := by
  simp [hcells]
theorem u8_info : (Try.prog.info? 5).map (fun i => (i.zero, i.size, i.bytes)) = some (some (.int .u8 0), 1, 1) := by kernel_rfl
theorem Rd.full {k : IntKind} {w : World} {A : Option Addr} {n c : Nat} {xs : List Nat} (h : Rd k w A n c xs) : Rd k w A n n xs := ⟨h.1, Nat.le_refl _, h.2.2.1, h.2.2.2⟩
theorem grown_of_below {w w' : World} (h : Below w.heap.size w w') (r : Option Nat) : w.grownBy w' r := ⟨h.os, h.tape, h.output, h.size, fun k hk _ => h.block k hk⟩
theorem grown_later {w W W' : World} {r row : Option Nat} (h : w.grownBy W r) (hg : W.grownBy W' row) (hr : ∀ k, row = some k → w.heap.size ≤ k) : w.grownBy W' r :=
  ⟨hg.os.trans h.os, hg.tape.trans h.tape, hg.output.trans h.output, Nat.le_trans h.size hg.size, fun k hk hne => (hg.block k (Nat.lt_of_lt_of_le hk h.size) (fun e => by have := hr k e.symm; omega)).trans (h.block k hk hne)⟩
theorem Bk.later {W W' : World} {g : Nat} {t : TypeId} {cs : Array Value} {row : Option Nat} (h : Bk W g t cs) (hg : W.grownBy W' row) (hr : ∀ k, row = some k → g < k) : Bk W' g t cs :=
  (hg.block g h.lt (fun e => by have := hr g e.symm; omega)).trans h
theorem Rd.later {k : IntKind} {w w' : World} {A : Option Addr} {n c : Nat} {xs : List Nat} {row : Option Nat} (h : Rd k w A n c xs) (hg : w.grownBy w' row) (hne : ∀ ad, A = some ad → ∀ r, row = some r → ad.block < r) : Rd k w' A n c xs := by
  obtain ⟨h1, h2, h3, h4⟩ := h
  refine ⟨h1, h2, h3, fun hn => ?_⟩
  obtain ⟨ad, rfl, hlt, hc⟩ := h4 hn
  refine ⟨ad, rfl, Nat.lt_of_lt_of_le hlt hg.size, fun j x hx => ?_⟩
  have hb : w'.heap[ad.block]? = w.heap[ad.block]? := hg.block _ hlt (fun e => by have := hne ad rfl _ e.symm; omega)
  rw [World.cell?_of_block (w := w) (by rw [Go.ChangeShapes.block_add]; exact hb)]
  exact hc j x hx
def Between (w : World) (g W0 : Nat) (ws0 all : List Nat) (A : Option Addr) (n c k : Nat) (A2 : Option Addr) (L c2 : Nat) (pre : List Nat) (W : World) : Prop :=
  (Bk W g 144 (hcells true (foldB ws0 all pre.length) A n c k) ∧ Bk W w.heap.size 118 #[.pointer (some ⟨g, 0, none⟩)]) ∧ w.grownBy W (some g) ∧ Rd .u8 W A2 L c2 all ∧ W0 < W.heap.size
theorem Between.later {w W W' : World} {g W0 : Nat} {ws0 all : List Nat} {A : Option Addr} {n c k : Nat} {A2 : Option Addr} {L c2 : Nat} {pre : List Nat} {row : Option Nat} (h : Between w g W0 ws0 all A n c k A2 L c2 pre W) (hg : W.grownBy W' row)
    (hA : ∀ ad, A2 = some ad → ad.block < W0) (hgl : g < W0) (hwl : w.heap.size < W0) (hr : ∀ k, row = some k → W0 ≤ k) : Between w g W0 ws0 all A n c k A2 L c2 pre W' :=
  ⟨⟨h.1.1.later hg (fun k e => by have := hr k e; omega), h.1.2.later hg (fun k e => by have := hr k e; omega)⟩, grown_later h.2.1 hg (fun k e => by have := hr k e; omega), h.2.2.1.later hg (fun ad e r e' => by have := hr r e'; have := hA ad e; omega), Nat.lt_of_lt_of_le h.2.2.2 hg.size⟩
theorem hcells_words (bg : Bool) (ws vs2 : List Nat) (A : Option Addr) (n c k : Nat) : ((((((((hcells bg ws A n c k).setIfInBounds 1 (.int .u32 (gd vs2 0 : Int))).setIfInBounds 2 (.int .u32 (gd vs2 1 : Int))).setIfInBounds 3 (.int .u32 (gd vs2 2 : Int))).setIfInBounds 4 (.int .u32 (gd vs2 3 : Int))).setIfInBounds 5 (.int .u32 (gd vs2 4 : Int))).setIfInBounds 6 (.int .u32 (gd vs2 5 : Int))).setIfInBounds 7 (.int .u32 (gd vs2 6 : Int))).setIfInBounds 8 (.int .u32 (gd vs2 7 : Int)) = hcells bg vs2 A n c k := by
  simp [hcells]
theorem words_cells {w1 : World} {g : Nat} {bg : Bool} {ws : List Nat} {A : Option Addr} {n c k : Nat} (hk : Bk w1 g 144 (hcells bg ws A n c k)) (vs2 : List Nat) :
    Bk (((((((((w1).setCell ⟨g, 1, none⟩ (.int .u32 (gd vs2 0 : Int))).setCell ⟨g, 2, none⟩ (.int .u32 (gd vs2 1 : Int))).setCell ⟨g, 3, none⟩ (.int .u32 (gd vs2 2 : Int))).setCell ⟨g, 4, none⟩ (.int .u32 (gd vs2 3 : Int))).setCell ⟨g, 5, none⟩ (.int .u32 (gd vs2 4 : Int))).setCell ⟨g, 6, none⟩ (.int .u32 (gd vs2 5 : Int))).setCell ⟨g, 7, none⟩ (.int .u32 (gd vs2 6 : Int))).setCell ⟨g, 8, none⟩ (.int .u32 (gd vs2 7 : Int))) g 144 (hcells bg vs2 A n c k) := by
  rw [← hcells_words bg ws vs2 A n c k]
  exact ((((((((hk).set 1 (.int .u32 (gd vs2 0 : Int))).set 2 (.int .u32 (gd vs2 1 : Int))).set 3 (.int .u32 (gd vs2 2 : Int))).set 4 (.int .u32 (gd vs2 3 : Int))).set 5 (.int .u32 (gd vs2 4 : Int))).set 6 (.int .u32 (gd vs2 5 : Int))).set 7 (.int .u32 (gd vs2 6 : Int))).set 8 (.int .u32 (gd vs2 7 : Int))
theorem grown_drew_below {W w5 : World} (h : Below W.drew.heap.size W.drew w5) (r : Option Nat) : W.grownBy w5 r := ⟨h.os, h.tape, h.output, h.size, fun k hk _ => h.block k hk⟩
theorem Between.next {w W W' : World} {g W0 : Nat} {ws0 all ws2 : List Nat} {A : Option Addr} {n c k : Nat} {A2 : Option Addr} {L c2 : Nat} {pre : List Nat} {x : Nat} (h : Between w g W0 ws0 all A n c k A2 L c2 pre W) (hg : W.grownBy W' (some g))
    (hA : ∀ ad, A2 = some ad → ad.block ≠ g) (hx : (pre ++ [x]).length = x + 1) (hgl : g < w.heap.size) (hwl : w.heap.size < W0) {a : Act} (hk : Bk W' g 144 (hcells true ws2 A n c k)) (he : foldB ws0 all (x + 1) = ws2) : goesOn W0 (Between w g W0 ws0 all A n c k A2 L c2) (pre ++ [x]) W .normal a W' := by
  refine ⟨KeepsOthers.of_grownBy hg (fun j o e ho => ?_), ?_, ⟨?_, ?_⟩, grown_trans h.2.1 hg, h.2.2.1.grown hg hA, Nat.lt_of_lt_of_le h.2.2.2 hg.size⟩
  · cases e
    have := h.1.1
    unfold Bk at this
    rw [this] at ho
    cases ho; rfl
  · exact hg.block _ h.2.2.2 (fun e => by cases e; omega)
  · rw [hx, he]; exact hk
  · exact (hg.block _ h.1.2.lt (fun e => by cases e; omega)).trans h.1.2
theorem body_end {w W w5 : World} {g W0 : Nat} {ws0 all ws1 ws2 : List Nat} {A : Option Addr} {n c k : Nat} {A2 : Option Addr} {L c2 : Nat} {pre : List Nat} {x : Nat} (h : Between w g W0 ws0 all A n c k A2 L c2 pre W)
    (hb5 : Below W.drew.heap.size W.drew w5) (hk5 : Bk w5 g 144 (hcells true ws1 A n c k))
    (hA : ∀ ad, A2 = some ad → ad.block ≠ g) (hx : (pre ++ [x]).length = x + 1) (hgl : g < w.heap.size) (hwl : w.heap.size < W0) (he : foldB ws0 all (x + 1) = ws2) {a : Act} :
    Exit.inBlock 1 (goesOn W0 (Between w g W0 ws0 all A n c k A2 L c2) (pre ++ [x]) W) .normal a (((((((((w5).setCell ⟨g, 1, none⟩ (.int .u32 (gd ws2 0 : Int))).setCell ⟨g, 2, none⟩ (.int .u32 (gd ws2 1 : Int))).setCell ⟨g, 3, none⟩ (.int .u32 (gd ws2 2 : Int))).setCell ⟨g, 4, none⟩ (.int .u32 (gd ws2 3 : Int))).setCell ⟨g, 5, none⟩ (.int .u32 (gd ws2 4 : Int))).setCell ⟨g, 6, none⟩ (.int .u32 (gd ws2 5 : Int))).setCell ⟨g, 7, none⟩ (.int .u32 (gd ws2 6 : Int))).setCell ⟨g, 8, none⟩ (.int .u32 (gd ws2 7 : Int))) := by
  show goesOn W0 (Between w g W0 ws0 all A n c k A2 L c2) (pre ++ [x]) W .normal a _
  refine h.next ?_ hA hx hgl hwl (words_cells hk5 ws2) he
  repeat (first | with_reducible refine grown_set ?_ _ _ | exact grown_drew_below hb5 _)
theorem Rd.kept {k : IntKind} {w w' : World} {A : Option Addr} {n c : Nat} {xs : List Nat} {row : Option Nat} (h : Rd k w A n c xs) (hg : w.grownBy w' row) (hne : ∀ ad, A = some ad → ∀ r, row = some r → ad.block ≠ r) : Rd k w' A n c xs := by
  obtain ⟨h1, h2, h3, h4⟩ := h
  refine ⟨h1, h2, h3, fun hn => ?_⟩
  obtain ⟨ad, rfl, hlt, hc⟩ := h4 hn
  refine ⟨ad, rfl, Nat.lt_of_lt_of_le hlt hg.size, fun j x hx => ?_⟩
  have hb : w'.heap[ad.block]? = w.heap[ad.block]? := hg.block _ hlt (fun e => hne ad rfl _ e.symm rfl)
  rw [World.cell?_of_block (w := w) (by rw [Go.ChangeShapes.block_add]; exact hb)]
  exact hc j x hx
theorem write_end {w W w5 : World} {g D : Nat} {mb : List Nat} {A A' : Option Addr} {n c k N c' : Nat} {e : TypeId} {o : Obj} (HGW : w.grownBy W (some g)) (hb5 : Below W.heap.size W.drew w5)
    (hk5 : Bk w5 g 144 (hcells true (stN mb) A n c k)) (hkl : k = mb.length) (ho5 : Own .u8 e w5 W.heap.size A' N c' (restN mb)) (hgl : g < w.heap.size) (hWs : w.heap.size < W.heap.size)
    (hD1 : w.heap.size ≤ D) (hD2 : D < W.heap.size) (mb8 : B8 mb) (hlen : mb.length < 140737488355328) :
    Wrote g w ((w5.setCell ⟨g, 9, none⟩ (.slice A' N c')).putObj D o) ∧ HS ((w5.setCell ⟨g, 9, none⟩ (.slice A' N c')).putObj D o) g w.heap.size mb := by
  have h1 : w.grownBy w5 (some g) := grown_later HGW (grown_drew_below hb5 none) (fun k e => by cases e)
  have h2 : w.grownBy (w5.setCell ⟨g, 9, none⟩ (.slice A' N c')) (some g) := grown_set h1 9 _
  have hp := grownBy_putObj' (w5.setCell ⟨g, 9, none⟩ (.slice A' N c')) D o
  have hA : ∀ ad, A' = some ad → W.heap.size ≤ ad.block ∧ ad.block < w5.heap.size := fun ad e => by
    rcases ho5.ways with ⟨h, _⟩ | ⟨g', h, h3, h4, _⟩
    · rw [h] at e; cases e
    · rw [h] at e; cases e; exact ⟨h3, h4⟩
  have hs6 : (w5.setCell ⟨g, 9, none⟩ (.slice A' N c')).heap.size = w5.heap.size := by simp [World.setCell]
  refine ⟨grown_later h2 hp (fun k e => by cases e; exact hD1), mb8, hlen, true, stN mb, A', N, c', ?_, stN_b32 _, stN_length _, ?_, ?_, fun _ => rfl, fun h => by cases h⟩
  · have h3 := hk5.set 9 (.slice A' N c')
    rw [hcells_left, hkl] at h3
    exact h3.later hp (fun k e => by cases e; omega)
  · refine (ho5.rd.far (p := ⟨g, 9, none⟩) (fun ad e => ?_) _).kept hp (fun ad e r e' => ?_)
    · have := hA ad e
      show ad.block ≠ g
      omega
    · have := hA ad e
      cases e'
      omega
  · intro ad e
    have := hA ad e
    have h4 := hp.size
    rw [hs6] at h4
    omega
theorem hcells_begin (ws : List Nat) (A : Option Addr) (n c k : Nat) : (((((((((hcells false ws A n c k).setIfInBounds 0 (.bool true)).setIfInBounds 1 (.int .u32 1779033703)).setIfInBounds 2 (.int .u32 3144134277)).setIfInBounds 3 (.int .u32 1013904242)).setIfInBounds 4 (.int .u32 2773480762)).setIfInBounds 5 (.int .u32 1359893119)).setIfInBounds 6 (.int .u32 2600822924)).setIfInBounds 7 (.int .u32 528734635)).setIfInBounds 8 (.int .u32 1541459225) = hcells true hN A n c k := by
  simp [hcells, hN, gd]
theorem begin_cells {w1 : World} {g : Nat} {ws : List Nat} {A : Option Addr} {n c k : Nat} (hk : Bk w1 g 144 (hcells false ws A n c k)) (o : Obj) :
    Bk (((((((((((w1.setCell ⟨g, 0, none⟩ (.bool true)).setCell ⟨g, 1, none⟩ (.int .u32 1779033703)).setCell ⟨g, 2, none⟩ (.int .u32 3144134277)).setCell ⟨g, 3, none⟩ (.int .u32 1013904242)).setCell ⟨g, 4, none⟩ (.int .u32 2773480762)).setCell ⟨g, 5, none⟩ (.int .u32 1359893119)).setCell ⟨g, 6, none⟩ (.int .u32 2600822924)).setCell ⟨g, 7, none⟩ (.int .u32 528734635)).setCell ⟨g, 8, none⟩ (.int .u32 1541459225)).alloc o).drew) g 144 (hcells true hN A n c k) := by
  rw [← hcells_begin ws A n c k]
  exact ((((((((((hk.set 0 (.bool true)).set 1 (.int .u32 1779033703)).set 2 (.int .u32 3144134277)).set 3 (.int .u32 1013904242)).set 4 (.int .u32 2773480762)).set 5 (.int .u32 1359893119)).set 6 (.int .u32 2600822924)).set 7 (.int .u32 528734635)).set 8 (.int .u32 1541459225)).alloc o).drew
set_option maxRecDepth 100000 in
theorem Rd.grown_if {k : IntKind} {w w' : World} {A : Option Addr} {n c : Nat} {xs : List Nat} {g : Nat} (h : Rd k w A n c xs) (hg : w.grownBy w' (some g)) (hne : 0 < n → ∀ ad, A = some ad → ad.block ≠ g) : Rd k w' A n c xs := by
  rcases Nat.eq_zero_or_pos n with h0 | h0
  · exact ⟨h.1, h.2.1, h.2.2.1, fun h1 => absurd h1 (by omega)⟩
  · exact h.grown hg (hne h0)
set_option maxHeartbeats 20000000 in
theorem write_rd (w : World) {g base : Nat} {m b : List Nat} {B : Option Addr} {d : Nat} (h : HS w g base m) (hb : Rd .u8 w B b.length d b) (hg : 0 < b.length → ∀ ad, B = some ad → ad.block ≠ g) (b8 : B8 b) (hlen : (m ++ b).length < 140737488355328) :
    Calls Try.prog 93 #[.pointer (some ⟨g, 0, none⟩), .slice B b.length d] w fun e w' => e = .returned (.int .i64 0) ∧ Wrote g w w' ∧ HS w' g w.heap.size (m ++ b) := by
  obtain ⟨m8, hml, bg, ws, A, n, c, hk, hwb, hwl, hr, hA, hT, hF⟩ := h
  refine (callsIn_wide (n := 7)).1 (callsIn_of_wp_marks Try.func93 rfl trivial ?_ rfl)
  simp only [Try.ntmps93, List.size_toArray, List.length_cons, List.length_nil, Nat.reduceAdd, Nat.reduceSub, Array.replicate_succ, Array.replicate_zero, List.push_toArray, List.append_toArray, List.nil_append, List.cons_append]
  refine wpIn_wide.2 ?_
  have HR := Lib.hid hr
  have HB := Lib.hid hb
  have HA := Lib.hid hA
  have HT := Lib.hid hT
  have HG := Lib.hid hg
  have hgl := hk.lt
  clear hr hb hA hT hg
  go_upto_region 3 with (fail)
  have HK1 := Lib.hid (hk.alloc (.cells #[.pointer (some ⟨g, 0, none⟩)] 118))
  have HX1 := Lib.hid (Bk.new w 118 #[.pointer (some ⟨g, 0, none⟩)])
  have HW1 := Lib.hid (World.grownBy_alloc w (.cells #[.pointer (some ⟨g, 0, none⟩)] 118) (some g))
  have hs1 : (w.alloc (.cells #[.pointer (some ⟨g, 0, none⟩)] 118)).heap.size = w.heap.size + 1 := by simp
  generalize w.alloc (.cells #[.pointer (some ⟨g, 0, none⟩)] 118) = w1 at HK1 HX1 HW1 hs1 ⊢
  have cx : w1.cell? ⟨w.heap.size, 0, none⟩ = some (.pointer (some ⟨g, 0, none⟩)) := HX1.out.cell 0
  have c0 : w1.cell? ⟨g, 0, none⟩ = some (.bool bg) := HK1.out.cell 0
  clear hk
  go_upto_if 13 with (fail)
  go_cut [] from 14 (fun wx => Bk wx g 144 (hcells true (stN m) A n c m.length) ∧ Bk wx w.heap.size 118 #[.pointer (some ⟨g, 0, none⟩)] ∧ w.grownBy wx (some g) ∧ w.heap.size < wx.heap.size)
  case first =>
    cases bg with
    | true =>
      obtain rfl : ws = stN m := HT.out rfl
      go_wp2
      go_meet
      case rel =>
        exact ⟨HK1.out, HX1.out, HW1.out, by omega⟩
    | false =>
      have c1 : w1.cell? ⟨g, 1, none⟩ = some (.int .u32 (gd ws 0 : Int)) := HK1.out.cell 1
      have c2 : w1.cell? ⟨g, 2, none⟩ = some (.int .u32 (gd ws 1 : Int)) := HK1.out.cell 2
      have c3 : w1.cell? ⟨g, 3, none⟩ = some (.int .u32 (gd ws 2 : Int)) := HK1.out.cell 3
      have c4 : w1.cell? ⟨g, 4, none⟩ = some (.int .u32 (gd ws 3 : Int)) := HK1.out.cell 4
      have c5 : w1.cell? ⟨g, 5, none⟩ = some (.int .u32 (gd ws 4 : Int)) := HK1.out.cell 5
      have c6 : w1.cell? ⟨g, 6, none⟩ = some (.int .u32 (gd ws 5 : Int)) := HK1.out.cell 6
      have c7 : w1.cell? ⟨g, 7, none⟩ = some (.int .u32 (gd ws 6 : Int)) := HK1.out.cell 7
      have c8 : w1.cell? ⟨g, 8, none⟩ = some (.int .u32 (gd ws 7 : Int)) := HK1.out.cell 8
      have f0 := HK1.out.frozen 0
      have f1 := HK1.out.frozen 1
      have f2 := HK1.out.frozen 2
      have f3 := HK1.out.frozen 3
      have f4 := HK1.out.frozen 4
      have f5 := HK1.out.frozen 5
      have f6 := HK1.out.frozen 6
      have f7 := HK1.out.frozen 7
      have f8 := HK1.out.frozen 8
      have HFN := first_new
      rw [va_hN] at HFN
      go_wp2_with fail
      refine wp_only ?_
      go_region_with (go_at_call 120; refine (HFN _).mono ?_; rintro e w' ⟨rfl, rfl⟩)
      all_goals (simp only [onlyN])
      all_goals
        obtain rfl : m = [] := hF trivial
        go_wp2
        go_meet
        case rel =>
          rw [stN_nil]
          refine ⟨by with_reducible exact begin_cells HK1.out _, ?_, ?_, ?_⟩
          · repeat (first | with_reducible exact HX1.out | with_reducible refine Bk.drew ?_ | with_reducible refine Bk.alloc ?_ _ | with_reducible refine Bk.far ?_ (by show w.heap.size ≠ g; omega) _)
          · repeat (first | with_reducible exact HW1.out | with_reducible refine grown_drew ?_ | with_reducible refine grown_allocs ?_ _ | with_reducible refine grown_set ?_ _ _)
          · simp [World.setCell]; omega
  case rest =>
    obtain ⟨hk, hx, hgr, hsz⟩ := hcut
    clear HX1 HW1 HK1 c0 cx HT
    have cx : wc.cell? ⟨w.heap.size, 0, none⟩ = some (.pointer (some ⟨g, 0, none⟩)) := hx.cell 0
    have c10 : wc.cell? ⟨g, 10, none⟩ = some (.int .i64 (m.length : Int)) := hk.cell 10
    have f10 := hk.frozen 10
    obtain ⟨ml, hml'⟩ : ∃ z, m.length = z := ⟨_, rfl⟩
    obtain ⟨bl, hbl'⟩ : ∃ z, b.length = z := ⟨_, rfl⟩
    have hsum : ml + bl < 140737488355328 := by rw [List.length_append] at hlen; omega
    have kn : IntKind.i64.wrap ((ml : Int) + (bl : Int)) = (ml : Int) + (bl : Int) := IntWalk.i64_in _ (by omega)
    rw [hml'] at hk c10
    rw [hbl']
    have HK := Lib.hid hk
    have HX := Lib.hid hx
    have HW := Lib.hid hgr
    clear hk hx hgr
    go_upto_region 6 with (fail)
    have hk2 := HK.out.set 10 (.int .i64 ((ml : Int) + (bl : Int)))
    rw [hcells_n] at hk2
    have hx2 := HX.out.far (p := ⟨g, 10, none⟩) (by show w.heap.size ≠ g; omega) (.int .i64 ((ml : Int) + (bl : Int)))
    have hw2 := grown_set HW.out 10 (.int .i64 ((ml : Int) + (bl : Int)))
    have hs2 : (wc.setCell ⟨g, 10, none⟩ (.int .i64 ((ml : Int) + (bl : Int)))).heap.size = wc.heap.size := by simp [World.setCell]
    generalize wc.setCell ⟨g, 10, none⟩ (.int .i64 ((ml : Int) + (bl : Int))) = w2 at hk2 hx2 hw2 hs2 ⊢
    clear HK HX HW c10 f10 cx
    have cx : w2.cell? ⟨w.heap.size, 0, none⟩ = some (.pointer (some ⟨g, 0, none⟩)) := hx2.cell 0
    have c9 : w2.cell? ⟨g, 9, none⟩ = some (.slice A n c) := hk2.cell 9
    have hnc : (n : Int) ≤ (c : Int) := by have := HR.out.cap; omega
    have hn0 : (0 : Int) ≤ (n : Int) := by omega
    have HK2 := Lib.hid hk2
    have HX2 := Lib.hid hx2
    have HW2 := Lib.hid hw2
    clear hk2 hx2 hw2
    refine wp_region_still_tail 16 (by kernel_rfl) (by kernel_rfl) ?_
    simp only [List.take_succ_cons, List.take_zero, List.drop_succ_cons, List.drop_zero, World.drew_eq]
    repeat still_step
    refine wpStill_nil ?_
    have hgr2 : w.grownBy w2.drew (some g) := grown_drew HW2.out
    have RA := (HR.out.grown hgr2 (fun ad h => (HA.out ad h).2.1)).full
    have RB := Rd.grown_if HB.out hgr2 HG.out
    rw [hbl'] at RB
    have hnl : n ≤ ml := by have := HR.out.len; rw [restN_length, hml'] at this; omega
    obtain ⟨i0, hi0, hz0, hz1, hz2⟩ := info_parts u8_info
    refine wpList_append_full _ rfl (.tmp 44) (.tmp 45) 22 rfl .u8 5 i0 (.int .u8 0) 1 Try.underlying22 hi0 hz0 hz1 hz2 rfl A n (restN m) rfl RA B bl d b rfl RB (by unfold maxLen; omega) (by omega) ?_
    intro A2 c2 w3 r3 hb3 hway hnew
    obtain ⟨L, hL⟩ : ∃ L, n + bl = L := ⟨_, rfl⟩
    rw [hL] at r3 hnew ⊢
    (refine wpList_plain rfl (fun K hK => ?_); go_simp; refine hK _ _ ?_; clear hK K)
    refine wpList_nil ?_
    have HK3 := Lib.hid (HK2.out.drew.below hb3 (by show g < w2.heap.size; omega))
    have HX3 := Lib.hid (HX2.out.drew.below hb3 (by show w.heap.size < w2.heap.size; omega))
    have HW3 := Lib.hid (grown_trans hgr2 (grown_of_below hb3 (some g)))
    have HR3 := Lib.hid r3
    have hs3 : w.heap.size < w3.heap.size := by have := hb3.size; have e : w2.drew.heap.size = w2.heap.size := rfl; omega
    have HA3 := Lib.hid (show ∀ ad, A2 = some ad → ad.block ≠ g ∧ ad.block ≠ w.heap.size ∧ ad.block < w3.heap.size from fun ad h => by
      rcases hway with ⟨h1, _⟩ | ⟨gg, h1, h2, h3⟩
      · rw [h1] at h
        have := HA.out ad h
        have := hb3.size
        have e : w2.drew.heap.size = w2.heap.size := rfl
        omega
      · have h0 := h1 ▸ h
        have e : w2.drew.heap.size = w2.heap.size := rfl
        have e2 : gg < w3.heap.size := hnew gg h1 (by omega)
        simp only [Option.some.injEq] at h0
        subst h0
        show gg ≠ _ ∧ gg ≠ _ ∧ gg < _
        omega)
    clear RA RB HK2 HX2 HW2 hgr2 cx c9 hb3 r3 hway
    go_wp2_with (go_at_call 121; refine (blocks_maker _ _ _ _).mono ?_; rintro e w' ⟨rfl, rfl⟩)
    have hgl3 : g < w3.heap.size := by omega
    have HB4 := Lib.hid (Bk.new w3 22 #[.slice A2 L c2])
    have HI4 := Lib.hid (show Between w g w3.heap.size (stN m) (restN m ++ b) A n c (ml + bl) A2 L c2 [] (w3.alloc (.cells #[.slice A2 L c2] 22)) from ⟨⟨HK3.out.alloc _, HX3.out.alloc _⟩, grown_allocs HW3.out _, HR3.out.alloc _, by simp⟩)
    have hs4 : (w3.alloc (.cells #[.slice A2 L c2] 22)).heap.size = w3.heap.size + 1 := by simp
    generalize w3.alloc (.cells #[.slice A2 L c2] 22) = w4 at HB4 HI4 hs4 ⊢
    clear HK3 HX3
    refine (wpIn_wide (n := 7)).1 ?_
    have hsome : ∀ i, 64 * (i + 1) ≤ L → ∃ ad, A2 = some ad := fun i hi => by
      obtain ⟨ad, h1, _⟩ := HR3.out.form (by omega)
      exact ⟨ad, h1⟩
    apply range_box (F := Fence.wide) rfl (by omega) (gf := 127) (lb := #[.pointer (some ⟨w3.heap.size, 0, none⟩)]) rfl trivial (enters_of Try.func127 (by kernel_rfl) rfl)
      (encs := fun i => #[blkV A2 i]) (S := fun xs => xs = List.range (L / 64)) (Ok := fun pre x => pre = List.range x ∧ x < L / 64) (Bn := w3.heap.size) (by omega)
      (fun l J W hW hJ hY h0 => blocks_gives 6 (by omega) w3.heap.size A2 L c2 hsome HR3.out.cap l J hJ hY W (HB4.out.below hW (by omega)) h0) (fun _ => rfl)
      (Between w g w3.heap.size (stN m) (restN m ++ b) A n c (ml + bl) A2 L c2)
      (fun s W W' row hs hg hr => hs.later hg (fun ad h => (HA3.out ad h).2.2) hgl3 hs3 (fun k e => by have := (hr k e).1; omega))
      (fun s W W' row hs hg hr => hs.later hg (fun ad h => (HA3.out ad h).2.2) hgl3 hs3 (fun k e => by have := hr k e; omega))
      HI4.out
    case hassign =>
      intro l x W K hK
      gi_wp2
      exact hK
    case hbody =>
      rintro l pre x W hI ⟨hpre, hx⟩
      have HI := Lib.hid hI
      obtain ⟨⟨hkW, hxW⟩, hgW, hrW, hsW⟩ := hI
      have hpl : pre.length = x := by rw [hpre, List.length_range]
      rw [hpl] at hkW
      obtain ⟨ad, rfl⟩ := hsome x (by omega)
      obtain ⟨ak, hak⟩ : ∃ z, ad.add (64 * x) = z := ⟨_, rfl⟩
      have hrB : Rd .u8 W (some ak) 64 64 (((restN m ++ b).drop (64 * x)).take 64) := by
        have h1 := hrW.drop (m := 64 * x) (by omega)
        rw [if_neg (by have := hrW.cap; omega), Option.map_some, hak] at h1
        exact (h1.take (m := 64) (by omega)).full
      obtain ⟨ws1, hws1⟩ : ∃ z, foldB (stN m) (restN m ++ b) x = z := ⟨_, rfl⟩
      have l1 : ws1.length = 8 := by rw [← hws1]; exact foldB_length (stN_length m) _ _
      have b1 : B32 ws1 := by rw [← hws1]; exact foldB_b32 (stN_b32 m) _ _
      obtain ⟨ws2, hws2⟩ : ∃ z, blockN ws1 (((restN m ++ b).drop (64 * x)).take 64) = z := ⟨_, rfl⟩
      have l2 : ws2.length = 8 := by rw [← hws2]; exact blockN_length _ _
      have HN := Lib.hid (show foldB (stN m) (restN m ++ b) (x + 1) = ws2 by simp only [foldB, blkN]; rw [hws1, hws2])
      have HBLK : Calls Try.prog 122 #[.agg #[.int .u32 (gd ws1 0 : Int), .int .u32 (gd ws1 1 : Int), .int .u32 (gd ws1 2 : Int), .int .u32 (gd ws1 3 : Int), .int .u32 (gd ws1 4 : Int), .int .u32 (gd ws1 5 : Int), .int .u32 (gd ws1 6 : Int), .int .u32 (gd ws1 7 : Int)], .slice (some ak) 64 64] W.drew fun e w' => e = .returned (.agg #[.int .u32 (gd ws2 0 : Int), .int .u32 (gd ws2 1 : Int), .int .u32 (gd ws2 2 : Int), .int .u32 (gd ws2 3 : Int), .int .u32 (gd ws2 4 : Int), .int .u32 (gd ws2 5 : Int), .int .u32 (gd ws2 6 : Int), .int .u32 (gd ws2 7 : Int)]) ∧ Below W.drew.heap.size W.drew w' := by
        rw [← va_eight l1, ← va_eight l2, ← hws2]
        exact block_any W.drew b1 l1 hrB.drew ((((m8.drop _).append b8).drop _).take _)
      rw [hws1] at hkW
      have HKW := Lib.hid hkW
      have cx : W.cell? ⟨w.heap.size, 0, none⟩ = some (.pointer (some ⟨g, 0, none⟩)) := hxW.cell 0
      have c1 : W.cell? ⟨g, 1, none⟩ = some (.int .u32 (gd ws1 0 : Int)) := hkW.cell 1
      have c2 : W.cell? ⟨g, 2, none⟩ = some (.int .u32 (gd ws1 1 : Int)) := hkW.cell 2
      have c3 : W.cell? ⟨g, 3, none⟩ = some (.int .u32 (gd ws1 2 : Int)) := hkW.cell 3
      have c4 : W.cell? ⟨g, 4, none⟩ = some (.int .u32 (gd ws1 3 : Int)) := hkW.cell 4
      have c5 : W.cell? ⟨g, 5, none⟩ = some (.int .u32 (gd ws1 4 : Int)) := hkW.cell 5
      have c6 : W.cell? ⟨g, 6, none⟩ = some (.int .u32 (gd ws1 5 : Int)) := hkW.cell 6
      have c7 : W.cell? ⟨g, 7, none⟩ = some (.int .u32 (gd ws1 6 : Int)) := hkW.cell 7
      have c8 : W.cell? ⟨g, 8, none⟩ = some (.int .u32 (gd ws1 7 : Int)) := hkW.cell 8
      have HXW := Lib.hid hxW
      simp only [blkV, Option.map_some, hak]
      clear hkW hxW hgW hrW hrB hws1 hws2 b1
      have hm : Try.prog.follows .mixedOrders = true := by kernel_rfl
      have hAA : ∀ a', some ad = some a' → a'.block ≠ g := fun a' e => (HA3.out a' e).1
      have hxx : (pre ++ [x]).length = x + 1 := by rw [List.length_append, hpl]; rfl
      gi_wp2
      gi_region_with_o (refine ⟨trivial, ?_⟩; gi_at_call 122; refine (CallsIn.inRound l (callsIn_wide.2 HBLK)).mono ?_; rintro e w5 ⟨rfl, hb5⟩; have hk5 := HKW.out.drew.below hb5 HKW.out.lt; have cx5 : w5.cell? ⟨w.heap.size, 0, none⟩ = some (.pointer (some ⟨g, 0, none⟩)) := (HXW.out.drew.below hb5 HXW.out.lt).cell 0; have d1 : w5.cell? ⟨g, 1, none⟩ = some (.int .u32 (gd ws1 0 : Int)) := hk5.cell 1; have d2 : w5.cell? ⟨g, 2, none⟩ = some (.int .u32 (gd ws1 1 : Int)) := hk5.cell 2; have d3 : w5.cell? ⟨g, 3, none⟩ = some (.int .u32 (gd ws1 2 : Int)) := hk5.cell 3; have d4 : w5.cell? ⟨g, 4, none⟩ = some (.int .u32 (gd ws1 3 : Int)) := hk5.cell 4; have d5 : w5.cell? ⟨g, 5, none⟩ = some (.int .u32 (gd ws1 4 : Int)) := hk5.cell 5; have d6 : w5.cell? ⟨g, 6, none⟩ = some (.int .u32 (gd ws1 5 : Int)) := hk5.cell 6; have d7 : w5.cell? ⟨g, 7, none⟩ = some (.int .u32 (gd ws1 6 : Int)) := hk5.cell 7; have d8 : w5.cell? ⟨g, 8, none⟩ = some (.int .u32 (gd ws1 7 : Int)) := hk5.cell 8; have e1 := hk5.frozen 1; have e2 := hk5.frozen 2; have e3 := hk5.frozen 3; have e4 := hk5.frozen 4; have e5 := hk5.frozen 5; have e6 := hk5.frozen 6; have e7 := hk5.frozen 7; have e8 := hk5.frozen 8)
      all_goals (with_reducible exact body_end HI.out hb5 hk5 hAA hxx hgl hs3 HN.out)
    case hdone =>
      rintro D xs W hD rfl hI hdef
      obtain ⟨⟨hkW, hxW⟩, hgW, hrW, hsW⟩ := hI
      have hlen2 : (restN m ++ b).length = L := HR3.out.len
      rw [List.length_range, ← hlen2, stN_append] at hkW
      have cx : W.cell? ⟨w.heap.size, 0, none⟩ = some (.pointer (some ⟨g, 0, none⟩)) := hxW.cell 0
      have c9 : W.cell? ⟨g, 9, none⟩ = some (.slice A n c) := hkW.cell 9
      have f9 := hkW.frozen 9
      have HKW := Lib.hid hkW
      have HXW := Lib.hid hxW
      have HGW := Lib.hid hgW
      have HRW := Lib.hid hrW
      clear hkW hxW hgW hrW HB4 HI4 HW3 HR3 hsome
      obtain ⟨q, hq⟩ : ∃ q, L / 64 = q := ⟨_, rfl⟩
      obtain ⟨p, hp⟩ : ∃ p, q * 64 = p := ⟨_, rfl⟩
      have hLb : L < 140737488355328 := by omega
      have d1 : (L : Int).tdiv 64 = (q : Int) := by rw [Int.tdiv_eq_ediv_of_nonneg (by omega)]; omega
      have d2 : IntKind.i64.wrap (q : Int) = (q : Int) := IntWalk.i64_in _ (by omega)
      have d3 : (q : Int) * 64 = (p : Int) := by omega
      have d4 : IntKind.i64.wrap (p : Int) = (p : Int) := IntWalk.i64_in _ (by omega)
      have hpL : p ≤ L := by omega
      have d5 : (p : Int) ≤ (L : Int) := by omega
      have d6 : (0 : Int) ≤ (p : Int) := by omega
      have hrest : (restN m ++ b).drop p = restN (m ++ b) := by
        rw [← restN_append]
        show _ = (restN m ++ b).drop ((restN m ++ b).length / 64 * 64)
        rw [hlen2, hq, hp]
      have hR5 := (HRW.out.drop hpL).drew
      rw [hrest] at hR5
      have HR5 := Lib.hid hR5
      have hWs : w.heap.size < W.heap.size := by omega
      clear hR5 hq hp hrest hsW
      dsimp only
      go_upto_region 10 with (fail)
      refine wp_only ?_
      rcases A2 with _ | ad
      · simp only [Option.map_none, ite_self] at HR5
        have S0 : W.drew.cell? ⟨w.heap.size, 0, none⟩ = some (.pointer (some ⟨g, 0, none⟩)) := cx
        go_region_held3 (fun w' => w'.cell? ⟨w.heap.size, 0, none⟩ = some (.pointer (some ⟨g, 0, none⟩)))
          (first | with_reducible assumption | exact (cell_set_ne (by show w.heap.size ≠ g; omega) _).trans S5)
          ((refine step_append_rd _ (by rfl) _ _ _ (by rfl) .u8 W.heap.size 5 i0 (.int .u8 0) 1 Try.underlying22 hi0 hz0 hz1 hz2 rfl none 0 0 [] (by rfl) (Own.nil _ _ _ _) none (L - p) (c2 - p) (restN (m ++ b)) (by rfl) HR5.out (by unfold maxLen; omega) (by omega) (Nat.le_refl _) ?_; intro A' c' w5 ho5 hb5 hz5 hn5; have hk5 := HKW.out.drew.below hb5 HKW.out.lt; have S5 : w5.cell? ⟨w.heap.size, 0, none⟩ = some (.pointer (some ⟨g, 0, none⟩)) := (HXW.out.drew.below hb5 HXW.out.lt).cell 0; have d9 : w5.cell? ⟨g, 9, none⟩ = some (.slice A n c) := hk5.cell 9; have e9 := hk5.frozen 9))
        simp only [onlyN]
        have hDW : D < W.heap.size := (Array.getElem?_eq_some_iff.1 hdef).1
        have hdef5 : (w5.setCell ⟨g, 9, none⟩ (.slice A' (L - p) c')).heap[D]? = some (.deferred (some [])) :=
          (Below.heap_setCell w5 ⟨g, 9, none⟩ _ D (by show D ≠ g; omega)).trans ((hb5.block D hDW).trans hdef)
        have HE := Lib.hid (write_end (D := D) (o := .deferred none) HGW.out hb5 hk5 (by rw [List.length_append, hml', hbl']) (by simpa using ho5) hgl hWs (by omega) hDW (m8.append b8) hlen)
        go_wp2
        all_goals
          refine ⟨by simp, .inl ⟨_, _, rfl, run_takeDeferred hdef5, ?_⟩⟩
          exact ⟨_, results_tmp rfl _ _ _, rfl, HE.out⟩
      · simp only [Option.map_some] at HR5
        have S0 : W.drew.cell? ⟨w.heap.size, 0, none⟩ = some (.pointer (some ⟨g, 0, none⟩)) := cx
        go_region_held3 (fun w' => w'.cell? ⟨w.heap.size, 0, none⟩ = some (.pointer (some ⟨g, 0, none⟩)))
          (first | with_reducible assumption | exact (cell_set_ne (by show w.heap.size ≠ g; omega) _).trans S5)
          ((refine step_append_rd _ (by rfl) _ _ _ (by rfl) .u8 W.heap.size 5 i0 (.int .u8 0) 1 Try.underlying22 hi0 hz0 hz1 hz2 rfl none 0 0 [] (by rfl) (Own.nil _ _ _ _) (if c2 = p then some ad else some (ad.add p)) (L - p) (c2 - p) (restN (m ++ b)) (by rfl) HR5.out (by unfold maxLen; omega) (by omega) (Nat.le_refl _) ?_; intro A' c' w5 ho5 hb5 hz5 hn5; have hk5 := HKW.out.drew.below hb5 HKW.out.lt; have S5 : w5.cell? ⟨w.heap.size, 0, none⟩ = some (.pointer (some ⟨g, 0, none⟩)) := (HXW.out.drew.below hb5 HXW.out.lt).cell 0; have d9 : w5.cell? ⟨g, 9, none⟩ = some (.slice A n c) := hk5.cell 9; have e9 := hk5.frozen 9))
        simp only [onlyN]
        have hDW : D < W.heap.size := (Array.getElem?_eq_some_iff.1 hdef).1
        have hdef5 : (w5.setCell ⟨g, 9, none⟩ (.slice A' (L - p) c')).heap[D]? = some (.deferred (some [])) :=
          (Below.heap_setCell w5 ⟨g, 9, none⟩ _ D (by show D ≠ g; omega)).trans ((hb5.block D hDW).trans hdef)
        have HE := Lib.hid (write_end (D := D) (o := .deferred none) HGW.out hb5 hk5 (by rw [List.length_append, hml', hbl']) (by simpa using ho5) hgl hWs (by omega) hDW (m8.append b8) hlen)
        go_wp2
        all_goals
          refine ⟨by simp, .inl ⟨_, _, rfl, run_takeDeferred hdef5, ?_⟩⟩
          exact ⟨_, results_tmp rfl _ _ _, rfl, HE.out⟩
theorem write_any (w : World) {g base : Nat} {m b : List Nat} {B : Option Addr} {d : Nat} (h : HS w g base m) (hb : Rd .u8 w B b.length d b) (hg : ∀ ad, B = some ad → ad.block ≠ g) (b8 : B8 b) (hlen : (m ++ b).length < 140737488355328) :
    Calls Try.prog 93 #[.pointer (some ⟨g, 0, none⟩), .slice B b.length d] w fun e w' => e = .returned (.int .i64 0) ∧ Wrote g w w' ∧ HS w' g w.heap.size (m ++ b) := write_rd w h hb (fun _ => hg) b8 hlen
end Go.Proofs.Ytdmglajfmfjmlaa
namespace Go.Proofs.Ytdmglajfmfjmlaa
set_option linter.unusedSimpArgs false
set_option linter.unusedVariables false
set_option maxRecDepth 100000
open Go.RowKit
theorem HS.new (w : World) (base : Nat) : HS (w.alloc (.cells (hcells false (List.replicate 8 0) none 0 0 0) 144)) w.heap.size base [] :=
  ⟨B8.nil, by decide, false, List.replicate 8 0, none, 0, 0, Bk.new _ _ _, B32.replicate 8, rfl, Rd.nil _ _ _ _, fun _ h => (by cases h), fun h => (by cases h), fun _ => rfl⟩
theorem HS.below {w w' : World} {g base : Nat} {m : List Nat} (h : HS w g base m) (hb : Below w.heap.size w w') : HS w' g base m := by
  obtain ⟨h1, h2, bg, ws, A, n, c, hk, h3, h4, hr, hA, h5, h6⟩ := h
  exact ⟨h1, h2, bg, ws, A, n, c, hk.below hb hk.lt, h3, h4, hr.below hb, fun ad e => ⟨(hA ad e).1, (hA ad e).2.1, Nat.lt_of_lt_of_le (hA ad e).2.2 hb.size⟩, h5, h6⟩
theorem HS.lt {w : World} {g base : Nat} {m : List Nat} (h : HS w g base m) : g < w.heap.size := by
  obtain ⟨_, _, _, _, _, _, _, hk, _⟩ := h; exact hk.lt
theorem new_any (w : World) : Calls Try.prog 92 #[] w fun e w' => e = .returned (.pointer (some ⟨w.heap.size, 0, none⟩)) ∧ w' = w.alloc (.cells (hcells false (List.replicate 8 0) none 0 0 0) 144) := by
  go_enter Try.func92, Try.ntmps92
  go_wp2
  exact bodyPost_ret (v := .pointer (some ⟨w.heap.size, 0, none⟩)) (by simp [results, Try.results92, go_sem]) rfl ⟨rfl, rfl⟩
end Go.Proofs.Ytdmglajfmfjmlaa
namespace Go.Proofs.Ytdmglajfmfjmlaa
set_option linter.unusedSimpArgs false
set_option linter.unusedVariables false
set_option maxRecDepth 100000
open Go.RowKit
def padI (n i : Nat) : List Nat := 128 :: (List.replicate (71 - (n + 8) % 64 - i) 0 ++ (be8 (8 * n)).drop (8 - i))
theorem padI_zero (n : Nat) : padI n 0 = 128 :: List.replicate (71 - (n + 8) % 64) 0 := by simp [padI, be8]
theorem padI_eight (n : Nat) : padI n 8 = padN n := by
  unfold padI padN
  rw [show 71 - (n + 8) % 64 - 8 = 63 - (n + 8) % 64 by omega]
  rfl
theorem padI_length {n i : Nat} (hi : i ≤ 8) : (padI n i).length = 72 - (n + 8) % 64 := by
  simp [padI, be8]; omega
theorem be8_drop {n i : Nat} (hi : i < 8) : (be8 n).drop (8 - (i + 1)) = n / 256 ^ i % 256 :: (be8 n).drop (8 - i) := by
  match i, hi with
  | 0, _ => simp [be8]
  | 1, _ => simp [be8]
  | 2, _ => simp [be8]
  | 3, _ => simp [be8]
  | 4, _ => simp [be8]
  | 5, _ => simp [be8]
  | 6, _ => simp [be8]
  | 7, _ => simp [be8]
theorem padI_set {n i : Nat} (hi : i < 8) : (padI n i).set (71 - (n + 8) % 64 - i) (8 * n / 256 ^ i % 256) = padI n (i + 1) := by
  obtain ⟨k, hk⟩ : ∃ k, 71 - (n + 8) % 64 - i = k + 1 := ⟨70 - (n + 8) % 64 - i, by omega⟩
  unfold padI
  rw [hk, show 71 - (n + 8) % 64 - (i + 1) = k by omega, List.set_cons_succ, be8_drop hi, List.replicate_succ', List.append_assoc, List.set_append_right _ _ (by simp)]
  simp
theorem run_mk8 (n : Nat) (hn : n ≤ 4194304) (w : World) : (Instr.makeSlice 22 (.int .i64 (n : Int)) (.int .i64 (n : Int))).run Try.prog w = .ok (.slice (some ⟨w.heap.size, 0, none⟩) n n) (w.alloc (.cells (va .u8 (List.replicate n 0)) 5)) := by
  obtain ⟨i0, hi0, hz0, hz1, hz2⟩ := info_parts u8_info
  have h := run_make (P := Try.prog) w 22 5 i0 (.int .u8 0) Try.underlying22 hi0 hz0 .i64 .i64 n n (by omega) (by omega) (by rw [hz2]; omega) (by omega)
  rw [h, hz1]
  simp only [Int.toNat_natCast, Nat.mul_one]
  rw [show (Value.int IntKind.u8 0).cells = #[.int .u8 0] from rfl, made_va]
theorem shr_byte (sz t : Nat) : (sz : Int) / 2 ^ (8 * t) % 256 = ((sz / 256 ^ t % 256 : Nat) : Int) := by
  have h : ((2 : Int) ^ (8 * t)) = ((256 ^ t : Nat) : Int) := by
    rw [show (256 : Nat) = 2 ^ 8 from rfl, ← Nat.pow_mul]; push_cast; rfl
  rw [h]; rfl
def outI (ws : List Nat) (t : Nat) : List Nat := outN (ws.take t) ++ List.replicate (32 - 4 * t) 0
theorem outI_zero (ws : List Nat) : outI ws 0 = List.replicate 32 0 := by simp [outI, outN]
theorem outI_eight {ws : List Nat} (h : ws.length = 8) : outI ws 8 = outN ws := by
  unfold outI
  rw [List.take_of_length_le (by omega)]; simp
theorem outI_length {ws : List Nat} {t : Nat} (h : ws.length = 8) (ht : t ≤ 8) : (outI ws t).length = 32 := by
  unfold outI
  rw [List.length_append, outN_length, List.length_take, List.length_replicate]; omega
theorem outI_set {ws : List Nat} {t : Nat} (h : ws.length = 8) (ht : t < 8) :
    ((((outI ws t).set (4 * t) (gd ws t / 16777216 % 256)).set (4 * t + 1) (gd ws t / 65536 % 256)).set (4 * t + 2) (gd ws t / 256 % 256)).set (4 * t + 3) (gd ws t % 256) = outI ws (t + 1) := by
  have hl : (outN (ws.take t)).length = 4 * t := by rw [outN_length, List.length_take]; omega
  have e : outN (ws.take (t + 1)) = outN (ws.take t) ++ [gd ws t / 16777216 % 256, gd ws t / 65536 % 256, gd ws t / 256 % 256, gd ws t % 256] := by
    rw [List.take_succ_eq_append_getElem (by omega)]
    unfold outN
    rw [List.flatMap_append, gd_lt (by omega)]; simp
  obtain ⟨k, hk⟩ : ∃ k, 32 - 4 * t = k + 4 := ⟨28 - 4 * t, by omega⟩
  unfold outI
  rw [e, hk, show 32 - 4 * (t + 1) = k by omega, List.append_assoc]
  rw [List.set_append_right _ _ (by omega), List.set_append_right _ _ (by omega), List.set_append_right _ _ (by omega), List.set_append_right _ _ (by omega), hl]
  congr 1
  rw [show 4 * t - 4 * t = 0 by omega, show 4 * t + 1 - 4 * t = 1 by omega, show 4 * t + 2 - 4 * t = 2 by omega, show 4 * t + 3 - 4 * t = 3 by omega]
  simp [List.replicate_succ]
theorem run_index8 (ws : List Nat) (t x : Nat) (hl : ws.length = 8) (ht : t < 8) (hx : gd ws t = x) (w : World) : (Instr.index 142 (.agg (va .u32 ws)) (.int .i64 (t : Int))).run Try.prog w = .ok (.int .u32 (x : Int)) w := by
  have h0 : (0 : Int) ≤ (t : Int) := by omega
  have h1 : (t : Int) < 8 := by omega
  have hix := va_at .u32 (j := t) (xs := ws) (by omega)
  rw [hx] at hix
  simp [Instr.index, asIntOf, run_underlying Try.underlying142, h0, h1, part, hix, go_sem]
  exact fun h => absurd h (by omega)
theorem out_info : (Try.prog.info? 83).map (·.size) = some 32 := by kernel_rfl
theorem cells11 {w' : World} {g : Nat} {bg : Bool} {ws : List Nat} {A : Option Addr} {n c k : Nat} (hk1 : Bk w' g 144 (hcells bg ws A n c k)) : w'.cell? ⟨g, 0, none⟩ = some (.bool bg) ∧ w'.cell? ⟨g, 1, none⟩ = some (.int .u32 (gd ws 0 : Int)) ∧ w'.cell? ⟨g, 2, none⟩ = some (.int .u32 (gd ws 1 : Int)) ∧ w'.cell? ⟨g, 3, none⟩ = some (.int .u32 (gd ws 2 : Int)) ∧ w'.cell? ⟨g, 4, none⟩ = some (.int .u32 (gd ws 3 : Int)) ∧ w'.cell? ⟨g, 5, none⟩ = some (.int .u32 (gd ws 4 : Int)) ∧ w'.cell? ⟨g, 6, none⟩ = some (.int .u32 (gd ws 5 : Int)) ∧ w'.cell? ⟨g, 7, none⟩ = some (.int .u32 (gd ws 6 : Int)) ∧ w'.cell? ⟨g, 8, none⟩ = some (.int .u32 (gd ws 7 : Int)) ∧ w'.cell? ⟨g, 9, none⟩ = some (.slice A n c) ∧ w'.cell? ⟨g, 10, none⟩ = some (.int .i64 (k : Int)) := ⟨hk1.cell 0, hk1.cell 1, hk1.cell 2, hk1.cell 3, hk1.cell 4, hk1.cell 5, hk1.cell 6, hk1.cell 7, hk1.cell 8, hk1.cell 9, hk1.cell 10⟩
set_option maxRecDepth 100000 in
set_option maxHeartbeats 8000000 in
theorem sum_any (w : World) {g base : Nat} {m : List Nat} (h : HS w g base m) (hm : m.length < 70000000000000) : Calls Try.prog 94 #[.pointer (some ⟨g, 0, none⟩)] w fun e w' => e = .returned (.agg (va .u8 (shaN m))) ∧ Below w.heap.size w w' := by
  have HH := Lib.hid h
  obtain ⟨h1, h2, bg, ws, A, n, c, hk, hwb, hwl, hr, hA, hT, hF⟩ := h
  have HK := Lib.hid hk
  have HCP := Lib.hid (show ∀ w2 g2, Below w.heap.size w w2 → w.heap.size ≤ g2 → Bk w2 g2 144 (hcells bg ws A n c m.length) → HS w2 g2 0 m from
    fun w2 g2 hb hg hk2 => ⟨h1, h2, bg, ws, A, n, c, hk2, hwb, hwl, hr.below hb, fun ad e => ⟨Nat.zero_le _, by have := (hA ad e).2.2; omega, Nat.lt_of_lt_of_le (hA ad e).2.2 hb.size⟩, hT, hF⟩)
  clear hr
  go_enter Try.func94, Try.ntmps94
  go_upto_region 3 with (fail)
  have hz : Obj.cells #[.int .u8 0, .int .u8 0, .int .u8 0, .int .u8 0, .int .u8 0, .int .u8 0, .int .u8 0, .int .u8 0, .int .u8 0, .int .u8 0, .int .u8 0, .int .u8 0, .int .u8 0, .int .u8 0, .int .u8 0, .int .u8 0, .int .u8 0, .int .u8 0, .int .u8 0, .int .u8 0, .int .u8 0, .int .u8 0, .int .u8 0, .int .u8 0, .int .u8 0, .int .u8 0, .int .u8 0, .int .u8 0, .int .u8 0, .int .u8 0, .int .u8 0, .int .u8 0] 83 = Obj.cells (va .u8 (List.replicate 32 0)) 83 := rfl
  rw [hz]
  have hk1 := hk.alloc (.cells (va .u8 (List.replicate 32 0)) 83)
  have ho1 := Bk.new w 83 (va .u8 (List.replicate 32 0))
  have hb1 := (Below.refl w.heap.size w).alloc (Nat.le_refl _) (.cells (va .u8 (List.replicate 32 0)) 83)
  have hs1 : (w.alloc (.cells (va .u8 (List.replicate 32 0)) 83)).heap.size = w.heap.size + 1 := by simp
  generalize w.alloc (.cells (va .u8 (List.replicate 32 0)) 83) = w1 at hk1 ho1 hb1 hs1 ⊢
  have S0 : w1.drew.cell? ⟨g, 0, none⟩ = some (.bool bg) ∧ w1.drew.cell? ⟨g, 1, none⟩ = some (.int .u32 (gd ws 0 : Int)) ∧ w1.drew.cell? ⟨g, 2, none⟩ = some (.int .u32 (gd ws 1 : Int)) ∧ w1.drew.cell? ⟨g, 3, none⟩ = some (.int .u32 (gd ws 2 : Int)) ∧ w1.drew.cell? ⟨g, 4, none⟩ = some (.int .u32 (gd ws 3 : Int)) ∧ w1.drew.cell? ⟨g, 5, none⟩ = some (.int .u32 (gd ws 4 : Int)) ∧ w1.drew.cell? ⟨g, 6, none⟩ = some (.int .u32 (gd ws 5 : Int)) ∧ w1.drew.cell? ⟨g, 7, none⟩ = some (.int .u32 (gd ws 6 : Int)) ∧ w1.drew.cell? ⟨g, 8, none⟩ = some (.int .u32 (gd ws 7 : Int)) ∧ w1.drew.cell? ⟨g, 9, none⟩ = some (.slice A n c) ∧ w1.drew.cell? ⟨g, 10, none⟩ = some (.int .i64 (m.length : Int)) := ⟨hk1.cell 0, hk1.cell 1, hk1.cell 2, hk1.cell 3, hk1.cell 4, hk1.cell 5, hk1.cell 6, hk1.cell 7, hk1.cell 8, hk1.cell 9, hk1.cell 10⟩
  have HK1 := Lib.hid hk1
  have HO1 := Lib.hid ho1
  have HB1 := Lib.hid hb1
  have hgl := hk.lt
  clear hk hk1 ho1 hb1 hz hA hT hF
  go_region_held3 (fun w' => w'.cell? ⟨g, 0, none⟩ = some (.bool bg) ∧ w'.cell? ⟨g, 1, none⟩ = some (.int .u32 (gd ws 0 : Int)) ∧ w'.cell? ⟨g, 2, none⟩ = some (.int .u32 (gd ws 1 : Int)) ∧ w'.cell? ⟨g, 3, none⟩ = some (.int .u32 (gd ws 2 : Int)) ∧ w'.cell? ⟨g, 4, none⟩ = some (.int .u32 (gd ws 3 : Int)) ∧ w'.cell? ⟨g, 5, none⟩ = some (.int .u32 (gd ws 4 : Int)) ∧ w'.cell? ⟨g, 6, none⟩ = some (.int .u32 (gd ws 5 : Int)) ∧ w'.cell? ⟨g, 7, none⟩ = some (.int .u32 (gd ws 6 : Int)) ∧ w'.cell? ⟨g, 8, none⟩ = some (.int .u32 (gd ws 7 : Int)) ∧ w'.cell? ⟨g, 9, none⟩ = some (.slice A n c) ∧ w'.cell? ⟨g, 10, none⟩ = some (.int .i64 (m.length : Int))) (first | with_reducible assumption | exact cells11 (by repeat (first | with_reducible exact HK1.out | with_reducible refine Bk.drew ?_ | with_reducible refine Bk.alloc ?_ _ | with_reducible refine Bk.far ?_ (by show g ≠ _; omega) _))) (fail)
  have hs2 : ((w1.alloc (.cells (hcells bg ws A n c m.length) 144)).drew).heap.size = w.heap.size + 2 := by show (w1.alloc _).heap.size = _; simp; omega
  have hb2 : Below w.heap.size w ((w1.alloc (.cells (hcells bg ws A n c m.length) 144)).drew) := (HB1.out.alloc (by omega) _).drew
  have ho2 := (HO1.out.alloc (.cells (hcells bg ws A n c m.length) 144)).drew
  have hk2 := (HK1.out.alloc (.cells (hcells bg ws A n c m.length) 144)).drew
  have hn2 : Bk ((w1.alloc (.cells (hcells bg ws A n c m.length) 144)).drew) (w.heap.size + 1) 144 (hcells bg ws A n c m.length) := (Bk.at_new _ _ (by omega)).drew
  obtain ⟨w2, hw2⟩ : ∃ w2, (w1.alloc (.cells (hcells bg ws A n c m.length) 144)).drew = w2 := ⟨_, rfl⟩
  rw [hw2] at hs2 hb2 ho2 hk2 hn2
  have HN2 := Lib.hid hn2
  change Exit.then _ _ _ _ ((w1.alloc (.cells (hcells bg ws A n c m.length) 144)).drew)
  rw [hw2]
  clear hw2 HK1 HO1 HB1 S0 hn2
  have HO2 := Lib.hid ho2
  have HB2 := Lib.hid hb2
  have HK2 := Lib.hid hk2
  have c10 : w2.cell? ⟨g, 10, none⟩ = some (.int .i64 (m.length : Int)) := hk2.cell 10
  obtain ⟨ml, hml⟩ : ∃ z, m.length = z := ⟨_, rfl⟩
  rw [hml] at c10 hm
  obtain ⟨r, hr⟩ : ∃ z, (ml + 8) % 64 = z := ⟨_, rfl⟩
  have hr64 : r < 64 := by omega
  have e1 : IntKind.i64.wrap ((ml : Int) + 8) = (ml : Int) + 8 := IntWalk.i64_in _ (by omega)
  have e2 : ((ml : Int) + 8).tmod 64 = (r : Int) := by rw [Int.tmod_eq_emod_of_nonneg (by omega)]; omega
  have e3 : IntKind.i64.wrap (r : Int) = (r : Int) := IntWalk.i64_in _ (by omega)
  have e4 : IntKind.i64.wrap (64 - (r : Int)) = 64 - (r : Int) := IntWalk.i64_in _ (by omega)
  obtain ⟨pl, hpl⟩ : ∃ z, 72 - r = z := ⟨_, rfl⟩
  have e5 : 64 - (r : Int) + 8 = (pl : Int) := by omega
  have e6 : IntKind.i64.wrap (pl : Int) = (pl : Int) := IntWalk.i64_in _ (by omega)
  have hmk := fun w' => run_mk8 pl (by omega) w'
  have e0 : (0 : Int) < (pl : Int) := by omega
  clear hk2 hb2 ho2
  go_upto_region 5 with (fail)
  rw [show w.heap.size + 2 = w2.heap.size from hs2.symm]
  have hb3 := Bk.new w2 5 (va .u8 (List.replicate pl 0))
  have hB3 := HB2.out.alloc (by omega) (.cells (va .u8 (List.replicate pl 0)) 5)
  have hc3 := HN2.out.alloc (.cells (va .u8 (List.replicate pl 0)) 5)
  have ho3 := HO2.out.alloc (.cells (va .u8 (List.replicate pl 0)) 5)
  have hk3 := HK2.out.alloc (.cells (va .u8 (List.replicate pl 0)) 5)
  have hs3 : (w2.alloc (.cells (va .u8 (List.replicate pl 0)) 5)).heap.size = w2.heap.size + 1 := by simp
  generalize w2.alloc (.cells (va .u8 (List.replicate pl 0)) 5) = w3 at hb3 hB3 hc3 ho3 hk3 hs3 ⊢
  obtain ⟨gp, hgp⟩ : ∃ z, w2.heap.size = z := ⟨_, rfl⟩
  rw [hgp] at hb3 hs3 hs2 ⊢
  replace hs2 : w.heap.size + 2 ≤ gp := by omega
  have e0' : 0 < pl := by omega
  clear hs3 hgp
  have q0 := (hb3.cell 0).trans (va_at .u8 (by rw [List.length_replicate]; omega))
  have qf := hb3.frozen 0
  have HB3 := Lib.hid hb3
  have HO3 := Lib.hid ho3
  have HK3 := Lib.hid hk3
  have HBL3 := Lib.hid hB3
  have HC3 := Lib.hid hc3
  clear hb3 ho3 hk3 hB3 hc3 HN2 HO2 HB2 HK2 c10 hmk e1 e2 e3 e4 e5
  go_upto_region 6 with (fail)
  have hb4 := HB3.out.set 0 (.int .u8 ((128 : Nat) : Int))
  have hpad : (List.replicate pl 0).set 0 128 = padI ml 0 := by
    rw [padI_zero, hr, show pl = (71 - r) + 1 by omega]; rfl
  rw [va_set, hpad] at hb4
  have hbl4 : Below (w.heap.size + 2) w3 (w3.setCell ⟨gp, 0, none⟩ (.int .u8 ((128 : Nat) : Int))) := (Below.refl _ _).setCell (p := ⟨gp, 0, none⟩) (by show _ ≤ gp; omega) _
  obtain ⟨w4, hw4⟩ : ∃ w4, w3.setCell ⟨gp, 0, none⟩ (.int .u8 ((128 : Nat) : Int)) = w4 := ⟨_, rfl⟩
  rw [hw4] at hb4 hbl4
  change Code.wp _ _ _ _ (w3.setCell ⟨gp, 0, none⟩ (.int .u8 ((128 : Nat) : Int)))
  rw [hw4]
  clear hw4 q0 qf hpad
  have c10 : w4.cell? ⟨g, 10, none⟩ = some (.int .i64 (m.length : Int)) := (hbl4.cell (p := ⟨g, 10, none⟩) (by show g < _; omega)).trans (HK3.out.cell 10)
  rw [hml] at c10
  have HB4 := Lib.hid hb4
  have HBL4 := Lib.hid hbl4
  have k1 : IntKind.u64.wrap (ml : Int) = (ml : Int) := by rw [IntKind.wrap_u64]; omega
  obtain ⟨sz, hsz⟩ : ∃ z, 8 * ml = z := ⟨_, rfl⟩
  have k2 : (ml : Int) * 8 = (sz : Int) := by omega
  have k3 : IntKind.u64.wrap (sz : Int) = (sz : Int) := by rw [IntKind.wrap_u64]; omega
  clear hb4 hbl4
  go_wp2_with fail
  go_loopw [47] (fun i wr => ∃ t : Nat, t ≤ 8 ∧ i = .int .i64 (t : Int) ∧ Bk wr gp 5 (va .u8 (padI ml t)) ∧ Below (w.heap.size + 2) w4 wr) (fun i _ => 8 - (intOf i).toNat)
  case atStart => exact ⟨0, by omega, rfl, HB4.out, Below.refl _ _⟩
  case round =>
    obtain ⟨t, ht, rfl, hbk, hbel⟩ := hrel
    have HBK := Lib.hid hbk
    have HBEL := Lib.hid hbel
    clear k1 k2 k3 c10
    by_cases hlt : t < 8
    · obtain ⟨j, hj⟩ : ∃ z, pl - 1 - t = z := ⟨_, rfl⟩
      have q1 := (hbk.cell j).trans (va_at .u8 (by rw [padI_length ht, hr]; omega))
      have qf := hbk.frozen j
      have i1 : IntKind.i64.wrap ((pl : Int) - 1) = (pl : Int) - 1 := IntWalk.i64_in _ (by omega)
      have i2 : (pl : Int) - 1 - (t : Int) = (j : Int) := by omega
      have i3 : IntKind.i64.wrap (j : Int) = (j : Int) := IntWalk.i64_in _ (by omega)
      have i4 : IntKind.i64.wrap (8 * (t : Int)) = 8 * (t : Int) := IntWalk.i64_in _ (by omega)
      have i5 : (j : Int) < (pl : Int) := by omega
      have i6 : (0 : Int) ≤ 8 * (t : Int) := by omega
      have i7 : 8 * (t : Int) < 64 := by omega
      clear hbk hbel
      go_wp2_with fail
      have hst := HBK.out.set j (.int .u8 ((8 * ml / 256 ^ t % 256 : Nat) : Int))
      rw [va_set, show j = 71 - (ml + 8) % 64 - t by omega, padI_set hlt, show 71 - (ml + 8) % 64 - t = j by omega, hsz, ← shr_byte] at hst
      exact ⟨⟨t + 1, hlt, by go_num, hst, HBEL.out.setCell (p := ⟨gp, j, none⟩) (by show _ ≤ gp; omega) _⟩, by simp [intOf]; omega⟩
    · obtain rfl : t = 8 := by omega
      rw [padI_eight] at hbk
      have hpl2 : (padN ml).length = pl := by rw [padN_length, hr]; omega
      have hrd : Rd .u8 wr (some ⟨gp, 0, none⟩) (padN ml).length pl (padN ml) := by
        rw [hpl2]; exact (Own.of_bk (k := .u8) (base := 0) hbk (Nat.zero_le _) hpl2 (by omega)).rd
      have hb4r : Below (w.heap.size + 2) w3 wr := HBL4.out.trans hbel
      have hw0 : w.heap.size + 2 ≤ w3.heap.size := by have := HB3.out.lt; omega
      have hwr := write_any wr (HCP.out wr (w.heap.size + 1) (HBL3.out.trans (hb4r.mono (by omega))) (by omega) (HC3.out.below hb4r (by omega))) hrd (fun ad e => by cases e; show gp ≠ _; omega) (padN_b8 _) (by rw [List.length_append, hpl2]; omega)
      rw [hpl2] at hwr
      rw [show ((8 : Nat) : Int) = (8 : Int) from rfl]
      go_upto_region 13 with (go_at_call 93; refine hwr.mono ?_; rintro e w5 ⟨rfl, hw5, hs5⟩)
      obtain ⟨_, _, bgx, wsx, Ax, nx, cx', hkx, _, _, _, _, hTx, hFx⟩ := hs5
      obtain rfl : bgx = true := by
        cases bgx with
        | true => rfl
        | false => have := hFx rfl; simp [padN] at this
      obtain rfl := hTx rfl
      obtain ⟨W8, hW8⟩ : ∃ z, stN (m ++ padN ml) = z := ⟨_, rfl⟩
      have l8 : W8.length = 8 := by rw [← hW8]; exact stN_length _
      have b8 : B32 W8 := by rw [← hW8]; exact stN_b32 _
      have HSHA := Lib.hid (show shaN m = outN W8 by unfold shaN; rw [hml, hW8])
      rw [hW8] at hkx
      have hbl5 : Below w.heap.size w w5 := (HBL3.out.trans (hb4r.mono (by omega))).trans ((Below.refl _ _).grown hw5 (by have := hb4r.size; omega) (fun k e => by cases e; omega))
      have ho5 : Bk w5 w.heap.size 83 (va .u8 (List.replicate 32 0)) := (hw5.block _ (HO3.out.below hb4r (by omega)).lt (fun e => by have := Option.some.inj e; omega)).trans (HO3.out.below hb4r (by omega))
      clear hbk HBK hbel HBEL hb4r HB4 HBL4 HB3 HO3 HK3 HBL3 HC3 HCP hwr hrd hTx hFx hw5 hpl2 e0 e0' e6 hpl hr hr64 HH HK hwb hwl
      go_upto_region 14 with (fail)
      rw [show Obj.cells #[.int .u8 0, .int .u8 0, .int .u8 0, .int .u8 0, .int .u8 0, .int .u8 0, .int .u8 0, .int .u8 0, .int .u8 0, .int .u8 0, .int .u8 0, .int .u8 0, .int .u8 0, .int .u8 0, .int .u8 0, .int .u8 0, .int .u8 0, .int .u8 0, .int .u8 0, .int .u8 0, .int .u8 0, .int .u8 0, .int .u8 0, .int .u8 0, .int .u8 0, .int .u8 0, .int .u8 0, .int .u8 0, .int .u8 0, .int .u8 0, .int .u8 0, .int .u8 0] 83 = Obj.cells (va .u8 (List.replicate 32 0)) 83 from rfl]
      have hk6 := hkx.alloc (.cells (va .u8 (List.replicate 32 0)) 83)
      have ho6 := ho5.alloc (.cells (va .u8 (List.replicate 32 0)) 83)
      have hn6 := Bk.new w5 83 (va .u8 (List.replicate 32 0))
      have hl6 := hbl5.alloc hbl5.size (.cells (va .u8 (List.replicate 32 0)) 83)
      have hg5 := hbl5.size
      generalize w5.alloc (.cells (va .u8 (List.replicate 32 0)) 83) = w6 at hk6 ho6 hn6 hl6 ⊢
      have x1 : w6.cell? ⟨w.heap.size + 1, 1, none⟩ = some (.int .u32 (gd W8 0 : Int)) := hk6.cell 1
      have x2 : w6.cell? ⟨w.heap.size + 1, 2, none⟩ = some (.int .u32 (gd W8 1 : Int)) := hk6.cell 2
      have x3 : w6.cell? ⟨w.heap.size + 1, 3, none⟩ = some (.int .u32 (gd W8 2 : Int)) := hk6.cell 3
      have x4 : w6.cell? ⟨w.heap.size + 1, 4, none⟩ = some (.int .u32 (gd W8 3 : Int)) := hk6.cell 4
      have x5 : w6.cell? ⟨w.heap.size + 1, 5, none⟩ = some (.int .u32 (gd W8 4 : Int)) := hk6.cell 5
      have x6 : w6.cell? ⟨w.heap.size + 1, 6, none⟩ = some (.int .u32 (gd W8 5 : Int)) := hk6.cell 6
      have x7 : w6.cell? ⟨w.heap.size + 1, 7, none⟩ = some (.int .u32 (gd W8 6 : Int)) := hk6.cell 7
      have x8 : w6.cell? ⟨w.heap.size + 1, 8, none⟩ = some (.int .u32 (gd W8 7 : Int)) := hk6.cell 8
      have HN6 := Lib.hid hn6
      have HO6 := Lib.hid ho6
      have HL6 := Lib.hid hl6
      have HG5 := Lib.hid (show w.heap.size ≤ w5.heap.size from hg5)
      have hne : w.heap.size ≠ w5.heap.size := by have := ho5.lt; omega
      obtain ⟨go, hgo⟩ : ∃ z, w5.heap.size = z := ⟨_, rfl⟩
      rw [hgo] at HN6 HG5 hne ⊢
      clear hn6 ho6 hl6 hg5 hk6 hkx hbl5 ho5 hgo
      go_upto_block 1 with (fail)
      rw [← va_eight l8]
      go_loopw [67] (fun i w' => ∃ t : Nat, t ≤ 8 ∧ i = .int .i64 (t : Int) ∧ Bk w' go 83 (va .u8 (outI W8 t)) ∧ Below go w6 w') (fun i _ => 8 - (intOf i).toNat)
      case atStart => exact ⟨0, by omega, rfl, by rw [outI_zero]; exact HN6.out, Below.refl _ _⟩
      case round =>
        obtain ⟨t, ht, rfl, hbk, hbel⟩ := hrel
        have HBK := Lib.hid hbk
        have HBEL := Lib.hid hbel
        clear x1 x2 x3 x4 x5 x6 x7 x8
        by_cases hlt : t < 8
        · have hix := va_at .u32 (j := t) (xs := W8) (by omega)
          obtain ⟨x, hx⟩ : ∃ z, gd W8 t = z := ⟨_, rfl⟩
          have lx : x < 4294967296 := by rw [← hx]; exact b8.gd t
          have hidx := run_index8 W8 t x l8 hlt hx
          clear hix
          obtain ⟨j0, hj0⟩ : ∃ z, 4 * t = z := ⟨_, rfl⟩
          obtain ⟨j1, hj1⟩ : ∃ z, 4 * t + 1 = z := ⟨_, rfl⟩
          obtain ⟨j2, hj2⟩ : ∃ z, 4 * t + 2 = z := ⟨_, rfl⟩
          obtain ⟨j3, hj3⟩ : ∃ z, 4 * t + 3 = z := ⟨_, rfl⟩
          have q0 := (hbk.cell j0).trans (va_at .u8 (by rw [outI_length l8 ht]; omega))
          have q1 := (hbk.cell j1).trans (va_at .u8 (by rw [outI_length l8 ht]; omega))
          have q2 := (hbk.cell j2).trans (va_at .u8 (by rw [outI_length l8 ht]; omega))
          have q3 := (hbk.cell j3).trans (va_at .u8 (by rw [outI_length l8 ht]; omega))
          have f0 := hbk.frozen j0
          have f1 := hbk.frozen j1
          have f2 := hbk.frozen j2
          have f3 := hbk.frozen j3
          have m0 : (4 : Int) * (t : Int) = (j0 : Int) := by omega
          have w0 : IntKind.i64.wrap (j0 : Int) = (j0 : Int) := IntWalk.i64_in _ (by omega)
          have m1 : (j0 : Int) + 1 = (j1 : Int) := by omega
          have w1' : IntKind.i64.wrap (j1 : Int) = (j1 : Int) := IntWalk.i64_in _ (by omega)
          have m2 : (j0 : Int) + 2 = (j2 : Int) := by omega
          have w2' : IntKind.i64.wrap (j2 : Int) = (j2 : Int) := IntWalk.i64_in _ (by omega)
          have m3 : (j0 : Int) + 3 = (j3 : Int) := by omega
          have w3' : IntKind.i64.wrap (j3 : Int) = (j3 : Int) := IntWalk.i64_in _ (by omega)
          have n0 : (j0 : Int) < 32 := by omega
          have n1 : (j1 : Int) < 32 := by omega
          have n2 : (j2 : Int) < 32 := by omega
          have n3 : (j3 : Int) < 32 := by omega
          have a1 : (t : Int) < 8 := by omega
          have d01 : j1 ≠ j0 := by omega
          have d02 : j2 ≠ j0 := by omega
          have d03 : j3 ≠ j0 := by omega
          have d12 : j2 ≠ j1 := by omega
          have d13 : j3 ≠ j1 := by omega
          have d23 : j3 ≠ j2 := by omega
          clear hbk hbel
          go_wp2_with fail
          have hst := (((HBK.out.set j0 (.int .u8 ((x / 16777216 % 256 : Nat) : Int))).set j1 (.int .u8 ((x / 65536 % 256 : Nat) : Int))).set j2 (.int .u8 ((x / 256 % 256 : Nat) : Int))).set j3 (.int .u8 ((x % 256 : Nat) : Int))
          have e := outI_set l8 hlt
          rw [hx, hj3, hj2, hj1, hj0] at e
          rw [va_set, va_set, va_set, va_set, e, show ((x / 16777216 % 256 : Nat) : Int) = (x : Int) / 16777216 by omega, show ((x / 65536 % 256 : Nat) : Int) = (x : Int) / 65536 % 256 from rfl, show ((x / 256 % 256 : Nat) : Int) = (x : Int) / 256 % 256 from rfl, show ((x % 256 : Nat) : Int) = (x : Int) % 256 from rfl] at hst
          exact ⟨⟨t + 1, hlt, by go_num, hst, (((HBEL.out.setCell (p := ⟨go, j0, none⟩) (Nat.le_refl _) _).setCell (p := ⟨go, j1, none⟩) (Nat.le_refl _) _).setCell (p := ⟨go, j2, none⟩) (Nat.le_refl _) _).setCell (p := ⟨go, j3, none⟩) (Nat.le_refl _) _⟩, by simp [intOf]; omega⟩
        · obtain rfl : t = 8 := by omega
          rw [outI_eight l8] at hbk
          have lo : (outN W8).length = 32 := by rw [outN_length, l8]
          have hgo := HG5.out
          have ho := HO6.out.below hbel (by omega)
          have hl := HL6.out.trans (hbel.mono hgo)
          clear HBK HBEL hbel
          rw [show ((8 : Nat) : Int) = (8 : Int) from rfl]
          go_upto_region 19 with (fail)
          refine wp_region_lit ?_
          refine wpList_load_row rfl 83 _ rfl go (by kernel_rfl) 83 (va .u8 (outN W8)) (0, 0) (.array 32 5) hbk Try.underlying83 rfl (out_info.trans (by rw [va_size, lo])) ?_
          refine wpList_store_row rfl 83 _ _ rfl w.heap.size (va .u8 (outN W8)) (by kernel_rfl) (by kernel_rfl) 83 (va .u8 (List.replicate 32 0)) ho (out_info.trans (by rw [va_size, lo])) (by rw [va_size, va_size, lo, List.length_replicate]) (va_all _ _) ?_
          refine wpList_nil ?_
          have hst := ho.row (va .u8 (outN W8))
          have hbl := below_rowS hl (Nat.le_refl _) (va .u8 (outN W8))
          generalize wr.setRow w.heap.size (va .u8 (outN W8)) = wq at hst hbl ⊢
          go_wp2_with fail
          rw [HSHA.out]
          refine bodyPost_ret (v := .agg (va .u8 (outN W8))) ?_ rfl ⟨rfl, hbl⟩
          simp [results, Try.results94, asAddr, Result.andThen]
          exact run_loadVar_row _ _ _ _ _ _ _ hst Try.underlying83 rfl (out_info.trans (by rw [va_size, lo]))
end Go.Proofs.Ytdmglajfmfjmlaa
namespace Go.Proofs.Ytdmglajfmfjmlaa
set_option linter.unusedSimpArgs false
set_option linter.unusedVariables false
set_option maxRecDepth 100000
open Go.RowKit
theorem Wrote.below {g base : Nat} {w w' : World} (h : Wrote g w w') (hb : base ≤ w.heap.size) (hg : base ≤ g) : Below base w w' := (Below.refl _ _).grown h hb (fun k e => by cases e; exact hg)
theorem pkgSum_rd (w : World) {b : List Nat} {B : Option Addr} {d : Nat} (hb : Rd .u8 w B b.length d b) (b8 : B8 b) (hlen : b.length < 70000000000000) :
    Calls Try.prog 53 #[.slice B b.length d] w fun e w' => e = .returned (.agg (va .u8 (shaN b))) ∧ Below w.heap.size w w' := by
  go_enter Try.func53, Try.ntmps53
  go_upto_region 1 with (fail)
  rw [show Obj.cells #[.int .u8 0, .int .u8 0, .int .u8 0, .int .u8 0, .int .u8 0, .int .u8 0, .int .u8 0, .int .u8 0, .int .u8 0, .int .u8 0, .int .u8 0, .int .u8 0, .int .u8 0, .int .u8 0, .int .u8 0, .int .u8 0, .int .u8 0, .int .u8 0, .int .u8 0, .int .u8 0, .int .u8 0, .int .u8 0, .int .u8 0, .int .u8 0, .int .u8 0, .int .u8 0, .int .u8 0, .int .u8 0, .int .u8 0, .int .u8 0, .int .u8 0, .int .u8 0] 83 = Obj.cells (va .u8 (List.replicate 32 0)) 83 from rfl]
  have ho1 := Bk.new w 83 (va .u8 (List.replicate 32 0))
  have hl1 := (Below.refl w.heap.size w).alloc (Nat.le_refl _) (.cells (va .u8 (List.replicate 32 0)) 83)
  have hs1 : (w.alloc (.cells (va .u8 (List.replicate 32 0)) 83)).heap.size = w.heap.size + 1 := by simp
  generalize w.alloc (.cells (va .u8 (List.replicate 32 0)) 83) = w1 at ho1 hl1 hs1 ⊢
  have hh := HS.new w1 0
  have hl2 := hl1.alloc hl1.size (.cells (hcells false (List.replicate 8 0) none 0 0 0) 144)
  have ho2 := ho1.alloc (.cells (hcells false (List.replicate 8 0) none 0 0 0) 144)
  have hs2 : (w1.alloc (.cells (hcells false (List.replicate 8 0) none 0 0 0) 144)).heap.size = w.heap.size + 2 := by simp; omega
  obtain ⟨w2, hw2⟩ : ∃ w2, w1.alloc (.cells (hcells false (List.replicate 8 0) none 0 0 0) 144) = w2 := ⟨_, rfl⟩
  have hnew := new_any w1
  rw [hw2] at hnew hh hl2 ho2 hs2
  rw [hs1] at hnew hh
  have hwr := write_rd w2 hh (hb.below hl2) (fun h0 ad e => by obtain ⟨ad', e', hlt, _⟩ := hb.form h0; rw [e] at e'; cases e'; omega) b8 (by simpa using (by omega : b.length < 140737488355328))
  rw [List.nil_append] at hwr
  have HO2 := Lib.hid ho2
  have HL2 := Lib.hid hl2
  clear hh ho1 hl1 ho2 hl2
  go_upto_region 3 with (first | (go_at_call 92; refine hnew.mono ?_; rintro e w3 ⟨rfl, rfl⟩) | (go_at_call 93; refine hwr.mono ?_; rintro e w3 ⟨rfl, h3, hs3⟩))
  rename_i wz
  refine wp_region_lit ?_
  (refine wpList_plain rfl (fun K hK => ?_); go_simp; refine hK _ _ ?_; clear hK K)
  refine wpl_call rfl (w' := w3) (f := 94) (args := #[.pointer (some ⟨w.heap.size + 1, 0, none⟩)]) (by kernel_rfl) (sum_any w3 hs3 hlen) ?_
  rintro e w4 ⟨rfl, hb4⟩
  refine ⟨_, rfl, ?_⟩
  have ho3 := (h3.block _ HO2.out.lt (fun e => by have := Option.some.inj e; omega)).trans HO2.out
  have ho4 := Bk.below (w := w3) ho3 hb4 (Bk.lt ho3)
  have hl4 := (HL2.out.trans (h3.below (by omega) (by omega))).trans (hb4.mono (by have := h3.size; omega))
  have ls : (shaN b).length = 32 := shaN_length b
  refine wpList_store_row rfl 83 _ _ rfl w.heap.size (va .u8 (shaN b)) (by kernel_rfl) (by kernel_rfl) 83 (va .u8 (List.replicate 32 0)) ho4 (out_info.trans (by rw [va_size, ls])) (by rw [va_size, va_size, ls, List.length_replicate]) (va_all _ _) ?_
  refine wpList_nil ?_
  have hst := Bk.row ho4 (va .u8 (shaN b))
  have hbl := below_rowS hl4 (Nat.le_refl _) (va .u8 (shaN b))
  generalize w4.setRow w.heap.size (va .u8 (shaN b)) = wq at hst hbl ⊢
  go_wp2_with fail
  refine bodyPost_ret (v := .agg (va .u8 (shaN b))) ?_ rfl ⟨rfl, hbl⟩
  simp [results, Try.results53, asAddr, Result.andThen]
  exact run_loadVar_row _ _ _ _ _ _ _ hst Try.underlying83 rfl (out_info.trans (by rw [va_size, ls]))
end Go.Proofs.Ytdmglajfmfjmlaa
namespace Go.Proofs.Ytdmglajfmfjmlaa
set_option linter.unusedSimpArgs false
set_option linter.unusedVariables false
set_option maxRecDepth 100000
open Go.RowKit
theorem trunc_rd (w : World) {b : List Nat} {B : Option Addr} {d n : Nat} (hb : Rd .u8 w B b.length d b) (b8 : B8 b) (hlen : b.length < 70000000000000) (hn : n ≤ 32) :
    Calls Try.prog 16 #[.slice B b.length d, .int .i64 (n : Int)] w fun e w' => ∃ A c, e = .returned (.tuple #[.slice A n c, .int .i64 0]) ∧ Own .u8 5 w' w.heap.size A n c ((shaN b).take n) ∧ Below w.heap.size w w' := by
  have h1 : ¬ (n : Int) < 0 := by omega
  have h2 : ¬ 32 < (n : Int) := by omega
  have hs := pkgSum_rd w hb b8 hlen
  go_enter Try.func16, Try.ntmps16
  go_upto_region 3 with (fail)
  refine wp_region_lit ?_
  (refine wpList_plain rfl (fun K hK => ?_); go_simp; refine hK _ _ ?_; clear hK K)
  refine wpl_call rfl (w' := w) (f := 53) (args := #[.slice B b.length d]) (by kernel_rfl) hs ?_
  rintro e w4 ⟨rfl, hb4⟩
  refine ⟨_, rfl, ?_⟩
  (refine wpList_plain rfl (fun K hK => ?_); go_simp; refine hK _ _ ?_; clear hK K)
  rw [show Obj.cells #[.int .u8 0, .int .u8 0, .int .u8 0, .int .u8 0, .int .u8 0, .int .u8 0, .int .u8 0, .int .u8 0, .int .u8 0, .int .u8 0, .int .u8 0, .int .u8 0, .int .u8 0, .int .u8 0, .int .u8 0, .int .u8 0, .int .u8 0, .int .u8 0, .int .u8 0, .int .u8 0, .int .u8 0, .int .u8 0, .int .u8 0, .int .u8 0, .int .u8 0, .int .u8 0, .int .u8 0, .int .u8 0, .int .u8 0, .int .u8 0, .int .u8 0, .int .u8 0] 83 = Obj.cells (va .u8 (List.replicate 32 0)) 83 from rfl]
  have ho := Bk.new w4 83 (va .u8 (List.replicate 32 0))
  have hl := hb4.alloc hb4.size (.cells (va .u8 (List.replicate 32 0)) 83)
  generalize w4.alloc (.cells (va .u8 (List.replicate 32 0)) 83) = w5 at ho hl ⊢
  obtain ⟨g, hg⟩ : ∃ g, w4.heap.size = g := ⟨_, rfl⟩
  have hgw : w.heap.size ≤ g := by rw [← hg]; exact hb4.size
  rw [hg] at ho ⊢
  have ls : (shaN b).length = 32 := shaN_length b
  refine wpList_store_row rfl 83 _ _ rfl g (va .u8 (shaN b)) (by kernel_rfl) (by kernel_rfl) 83 (va .u8 (List.replicate 32 0)) ho (out_info.trans (by rw [va_size, ls])) (by rw [va_size, va_size, ls, List.length_replicate]) (va_all _ _) ?_
  refine wpList_nil ?_
  have hst := Bk.row ho (va .u8 (shaN b))
  have hbl := below_rowS hl hgw (va .u8 (shaN b))
  generalize w5.setRow g (va .u8 (shaN b)) = w6 at hst hbl ⊢
  go_upto_region 4 with (fail)
  have HT : Rd .u8 w6 (some ⟨g, 0, none⟩) n 32 ((shaN b).take n) := ((Own.of_bk (k := .u8) (base := 0) hst (Nat.zero_le _) ls (by omega)).rd).take hn
  obtain ⟨i0, hi0, hz0, hz1, hz2⟩ := info_parts u8_info
  have h3 : (0 : Int) ≤ (n : Int) := by omega
  have h4 : (n : Int) ≤ 32 := by omega
  have hsz := hbl.size
  go_wp2_with (at_builtin; refine wpList_append_rd _ rfl (.const (.slice none 0 0)) (.tmp 16) _ rfl .u8 w.heap.size 5 i0 (.int .u8 0) 1 Try.underlying22 hi0 hz0 hz1 hz2 rfl none 0 0 [] rfl (Own.nil _ _ _ _) _ _ _ _ rfl HT (by unfold maxLen; omega) (by omega) hsz ?_)
  intro A' c' w' ho' hb' _ _
  go_wp2_with fail
  go_ret2
  exact ⟨A', c', rfl, ho', hbl.trans hb'⟩
end Go.Proofs.Ytdmglajfmfjmlaa
namespace Go.Proofs.Ytdmglajfmfjmlaa
set_option linter.unusedSimpArgs false
set_option linter.unusedVariables false
set_option maxRecDepth 100000
open Go.RowKit Go.Proofs.YtdmglajfmfjmlaaW.PrintWords Go.Proofs.YtdmglajfmfjmlaaW.PrintLast
theorem rd_any {k : IntKind} {w : World} {A : Option Addr} {c : Nat} {l : List Int} (h : Kd.C (Kd.int k) w A l.length l) (hc : l.length ≤ c) (ho : ∀ x ∈ l, 0 ≤ x) : Rd k w A l.length c (toN l) := by
  obtain ⟨_, h2, h3⟩ := Kd.reads_of_C (d := (0 : Int)) h
  refine ⟨toN_length l, hc, h2, fun hn => ?_⟩
  obtain ⟨ad, e, hcell⟩ := h3 hn
  refine ⟨ad, e, ?_, fun j x hx => ?_⟩
  · have := World.block_lt_of_cell? w _ (hcell 0 hn)
    rwa [Go.ChangeShapes.block_add] at this
  · have hj : j < l.length := by
      rcases Nat.lt_or_ge j (toN l).length with h | h
      · rwa [toN_length] at h
      · rw [List.getElem?_eq_none h] at hx; cases hx
    rw [hcell j hj]
    have hl : l[j]? = some (l.getD j 0) := by rw [List.getD_eq_getElem?_getD, List.getElem?_eq_getElem hj]; rfl
    have hb := ho (l.getD j 0) (List.mem_of_getElem? hl)
    simp only [toN, List.getElem?_map, hl, Option.map_some, Option.some.injEq] at hx
    congr 2
    omega
theorem back_cI {l : List Int} (h : ∀ x ∈ l, 0 ≤ x) : (toN l).map (fun (x : Nat) => (x : Int)) = l := by
  induction l with
  | nil => rfl
  | cons x t ih =>
    have h0 := h x (by simp)
    simp only [toN, List.map_cons, Int.toNat_of_nonneg h0, List.cons.injEq, true_and]
    exact ih fun y hy => h y (by simp [hy])
theorem okB_b8 {l : List Int} (h : okB l) : B8 (toN l) := by
  intro x hx
  simp only [toN, List.mem_map] at hx
  obtain ⟨y, hy, rfl⟩ := hx
  have := h y hy; omega
section
variable {A0 A1 : Option Addr} {c0 c1 : Nat} {l0 l1 : List Int} {w : World}
def truncL (l : List Int) (n : Nat) : List Int := ((shaN (toN l)).take n).map fun (x : Nat) => (x : Int)
theorem trunc_giv {a1 : Int} {r1 : List Int} {r2 : Int} (hr0 : Kd.C (Kd.int .u8) w A0 l0.length l0) (hc0 : l0.length ≤ c0) (h : (if okB l0 ∧ l0.length ≤ 2097152 ∧ 0 ≤ a1 ∧ a1 ≤ 32 then some (truncL l0 a1.toNat, (0 : Int)) else none) = some (r1, r2)) :
    Calls Try.prog 16 #[.slice A0 l0.length c0, .int .i64 a1] w fun e w' => ∃ v0_ : Value, e = .returned (.tuple #[v0_, .int .i64 r2]) ∧ Kd.R (Kd.int .u8) 5 w' w.heap.size (fun _ => True) v0_ r1 ∧ Below w.heap.size w w' := by
  obtain ⟨⟨h0, hn, h1, h2⟩, h⟩ := of_ite h
  simp only [Prod.mk.injEq] at h
  obtain ⟨rfl, rfl⟩ := h
  have hrd := rd_any hr0 hc0 (fun x hx => (h0 x hx).1)
  have hl : (toN l0).length = l0.length := toN_length l0
  rw [← hl] at hrd
  obtain ⟨n, rfl⟩ : ∃ n : Nat, a1 = n := ⟨a1.toNat, by omega⟩
  have := trunc_rd w hrd (okB_b8 h0) (by omega) (n := n) (by omega)
  rw [hl] at this
  refine this.mono ?_
  rintro e w' ⟨A, c, rfl, ho, hb⟩
  refine ⟨_, rfl, ?_, hb⟩
  have h1 := R_of_Own (ok := fun _ => True) ho (fun _ _ => trivial)
  exact h1
end
end Go.Proofs.Ytdmglajfmfjmlaa
namespace Go.Proofs.Ytdmglajfmfjmlaa
set_option linter.unusedSimpArgs false
set_option linter.unusedVariables false
set_option maxRecDepth 100000
open Go.RowKit
abbrev GFact := Value → World → Prop
def GTrue : GFact := fun _ _ => True
def updV (y : Nat → Value) (k : Nat) (v : Value) : Nat → Value := fun i => if i = k then v else y i
def updG (Gs : Nat → GFact) (k : Nat) (G : GFact) : Nat → GFact := fun i => if i = k then G else Gs i
def putAll : List Oper → Nat → (Nat → Value) → Act → Act
  | [], _, _, a => a
  | o :: os, k, y, a => putAll os (k + 1) y (a.put o.dst (y k))
def depsOf (Gs : Nat → GFact) (y : Nat → Value) (w : World) : List Edge → Prop
  | [] => True
  | e :: es => (Region.binds .any e = true → Gs e.on (y e.on) w) ∧ depsOf Gs y w es
def toldUpon (P : Program) (w : World) (G : GFact) : Result Next → Prop
  | .ok (.value v) w' => Below w.heap.size w w' ∧ G v w'
  | .ok .skip w' => Below w.heap.size w w' ∧ G undef w'
  | .ok (.enter f args) w' => Below w.heap.size w w' ∧ Calls P f args w' fun e w'' => ∃ v, e = .returned v ∧ Below w'.heap.size w' w'' ∧ G v w''
  | _ => False
theorem toldUpon_value (P : Program) (w w' : World) (G : GFact) (v : Value) : toldUpon P w G (.ok (.value v) w') = (Below w.heap.size w w' ∧ G v w') := rfl
theorem toldUpon_skip (P : Program) (w w' : World) (G : GFact) : toldUpon P w G (.ok .skip w') = (Below w.heap.size w w' ∧ G undef w') := rfl
theorem toldUpon_enter (P : Program) (w w' : World) (G : GFact) (f : FuncId) (args : Array Value) : toldUpon P w G (.ok (.enter f args) w') = (Below w.heap.size w w' ∧ Calls P f args w' fun e w'' => ∃ v, e = .returned v ∧ Below w'.heap.size w' w'' ∧ G v w'') := rfl
def toldAt (P : Program) (ops : Array Oper) (o : Oper) (a : Act) (w : World) (G : GFact) : Prop :=
  if Region.wanted o (yielded ops a.tmps) = true then toldUpon P w G ((execOp a.eval o).run P w) else G undef w
def Stays (G : GFact) : Prop := ∀ v w w', Below w.heap.size w w' → G v w → G v w'
theorem Stays.eq (c : Value) : Stays (fun v _ => v = c) := fun _ _ _ _ h => h
def Told (P : Program) (ops : Array Oper) (w0 : World) (F : (Nat → Value) → Act) (Q : Exit → Act → World → Prop) : Nat → (Nat → GFact) → List Oper → Prop
  | k, Gs, [] => ∀ y w, Below w0.heap.size w0 w → (∀ i, i < k → Gs i (y i) w) → Q .normal (F y) w
  | k, Gs, o :: rest => ∃ G, Stays G ∧ (∀ y w, Below w0.heap.size w0 w → depsOf Gs y w o.after.toList → toldAt P ops o (F y) w G) ∧ Told P ops w0 F Q (k + 1) (updG Gs k G) rest
theorem depsOf_mono {Gs Gs' : Nat → GFact} {y : Nat → Value} {w : World} : ∀ {es : List Edge}, (∀ i, Gs i (y i) w → Gs' i (y i) w) → depsOf Gs y w es → depsOf Gs' y w es
  | [], _, _ => trivial
  | _ :: _, h, hd => ⟨fun hb => h _ (hd.1 hb), depsOf_mono h hd.2⟩
theorem depsOf_all {Gs : Nat → GFact} {y : Nat → Value} {w : World} : ∀ {es : List Edge}, (∀ e ∈ es, Region.binds .any e = true → Gs e.on (y e.on) w) → depsOf Gs y w es
  | [], _ => trivial
  | e :: es, h => ⟨h e (by simp), depsOf_all fun e' he' => h e' (by simp [he'])⟩
def GRd (k : IntKind) (n : Nat) (xs : List Nat) : GFact := fun v w => ∃ A c, v = .slice A n c ∧ Rd k w A n c xs
theorem GRd.stays (k : IntKind) (n : Nat) (xs : List Nat) : Stays (GRd k n xs) := fun _ _ _ hb ⟨A, c, e, hr⟩ => ⟨A, c, e, hr.below hb⟩
section
variable {P : Program} {ops : Array Oper} {w0 : World} {F : (Nat → Value) → Act} {Q : Exit → Act → World → Prop}
theorem told_family : ∀ (rest : List Oper) (k : Nat) (Gs : Nat → GFact), (∀ i, k ≤ i → Gs i = GTrue) → Told P ops w0 F Q k Gs rest →
    ∃ GG : Nat → GFact, (∀ i, i < k → GG i = Gs i) ∧ (∀ j o, rest[j]? = some o → Stays (GG (k + j)) ∧ ∀ y w, Below w0.heap.size w0 w → depsOf GG y w o.after.toList → toldAt P ops o (F y) w (GG (k + j))) ∧
      ∀ y w, Below w0.heap.size w0 w → (∀ i, i < k + rest.length → GG i (y i) w) → Q .normal (F y) w
  | [], k, Gs, _, h => ⟨Gs, fun _ _ => rfl, fun j o hj => by simp at hj, fun y w hb hg => h y w hb hg⟩
  | o :: rest, k, Gs, hT, h => by
    obtain ⟨G, hst, hstep, hrest⟩ := h
    obtain ⟨GG, g1, g2, g3⟩ := told_family rest (k + 1) (updG Gs k G) (fun i hi => by
      unfold updG
      rw [if_neg (by omega)]
      exact hT i (by omega)) hrest
    have gk : GG k = G := by rw [g1 k (by omega)]; unfold updG; rw [if_pos rfl]
    refine ⟨GG, fun i hi => ?_, fun j o' hj => ?_, fun y w hb hg => g3 y w hb fun i hi => hg i (by simp only [List.length_cons]; omega)⟩
    · rw [g1 i (by omega)]; unfold updG; rw [if_neg (by omega)]
    · cases j with
      | zero =>
        obtain rfl : o = o' := by simpa using hj
        rw [Nat.add_zero, gk]
        refine ⟨hst, fun y w hb hd => hstep y w hb (depsOf_mono (fun i hi => ?_) hd)⟩
        rcases Nat.lt_or_ge i k with hik | hik
        · have e : GG i = Gs i := by rw [g1 i (by omega)]; unfold updG; rw [if_neg (by omega)]
          rwa [e] at hi
        · rw [hT i hik]; trivial
      | succ j =>
        have := g2 j o' (by simpa using hj)
        rwa [show k + 1 + j = k + (j + 1) by omega] at this
end
theorem put_put (a : Act) (d : Option Tmp) (v u : Value) : (a.put d v).put d u = a.put d u := by
  cases d with
  | none => rfl
  | some d => simp [Act.put]
def dsts (os : List Oper) : List Tmp := os.filterMap (·.dst)
theorem putAll_put : ∀ (os : List Oper) (k : Nat) (y : Nat → Value) (a : Act) (d : Tmp) (v : Value), d ∉ dsts os → (putAll os k y a).put (some d) v = putAll os k y (a.put (some d) v)
  | [], _, _, _, _, _, _ => rfl
  | o :: os, k, y, a, d, v, h => by
    have h1 : d ∉ dsts os := fun hd => h (by unfold dsts at *; rw [List.filterMap_cons]; cases o.dst <;> simp_all)
    have h2 : o.dst ≠ some d := fun e => h (by unfold dsts; rw [List.filterMap_cons, e]; simp)
    show (putAll os (k + 1) y (a.put o.dst (y k))).put (some d) v = putAll os (k + 1) y ((a.put (some d) v).put o.dst (y k))
    rw [putAll_put os (k + 1) y _ d v h1, Act.put_comm a (y k) v (x := o.dst) (y := some d) (fun e he hc => h2 (by rw [he, Option.some.inj hc]))]
theorem putAll_far : ∀ (os : List Oper) (k i : Nat) (y : Nat → Value) (a : Act) (v : Value), i < k → putAll os k (updV y i v) a = putAll os k y a
  | [], _, _, _, _, _, _ => rfl
  | o :: os, k, i, y, a, v, h => by
    show putAll os (k + 1) (updV y i v) (a.put o.dst (updV y i v k)) = putAll os (k + 1) y (a.put o.dst (y k))
    rw [putAll_far os (k + 1) i y _ v (by omega)]
    have : updV y i v k = y k := by unfold updV; rw [if_neg (by omega)]
    rw [this]
theorem putAll_upd : ∀ (os : List Oper) (k j : Nat) (y : Nat → Value) (a : Act) (o : Oper) (v : Value), (dsts os).Nodup → os[j]? = some o → o.dst ≠ none → (putAll os k y a).put o.dst v = putAll os k (updV y (k + j) v) a
  | [], _, _, _, _, _, _, _, h, _ => by simp at h
  | o' :: os, k, 0, y, a, o, v, hn, h, hd => by
    obtain rfl : o' = o := by simpa using h
    obtain ⟨d, hd⟩ := Option.ne_none_iff_exists'.1 hd
    have hn' : d ∉ dsts os := by
      unfold dsts at hn ⊢
      rw [List.filterMap_cons, hd] at hn
      exact (List.nodup_cons.1 hn).1
    show (putAll os (k + 1) y (a.put o'.dst (y k))).put o'.dst v = putAll os (k + 1) (updV y k v) (a.put o'.dst (updV y k v k))
    rw [putAll_far os (k + 1) k y _ v (by omega), hd, putAll_put os (k + 1) y _ d v hn', put_put]
    have : updV y k v k = v := by unfold updV; rw [if_pos rfl]
    rw [this]
  | o' :: os, k, j + 1, y, a, o, v, hn, h, hd => by
    have hn' : (dsts os).Nodup := by
      unfold dsts at hn ⊢
      rw [List.filterMap_cons] at hn
      cases e : o'.dst with
      | none => rw [e] at hn; exact hn
      | some d => rw [e] at hn; exact (List.nodup_cons.1 hn).2
    show (putAll os (k + 1) y (a.put o'.dst (y k))).put o.dst v = putAll os (k + 1) (updV y (k + (j + 1)) v) (a.put o'.dst (updV y (k + (j + 1)) v k))
    have : updV y (k + (j + 1)) v k = y k := by unfold updV; rw [if_neg (by omega)]
    rw [putAll_upd os (k + 1) j y _ o v hn' (by simpa using h) hd, this, show k + 1 + j = k + (j + 1) by omega]
theorem putAll_none : ∀ (os : List Oper) (k j : Nat) (y : Nat → Value) (a : Act) (o : Oper) (v : Value), os[j]? = some o → o.dst = none → putAll os k y a = putAll os k (updV y (k + j) v) a
  | [], _, _, _, _, _, _, h, _ => by simp at h
  | o' :: os, k, 0, y, a, o, v, h, hd => by
    obtain rfl : o' = o := by simpa using h
    show putAll os (k + 1) y (a.put o'.dst (y k)) = putAll os (k + 1) (updV y k v) (a.put o'.dst (updV y k v k))
    rw [putAll_far os (k + 1) k y _ v (by omega), hd]
    rfl
  | o' :: os, k, j + 1, y, a, o, v, h, hd => by
    show putAll os (k + 1) y (a.put o'.dst (y k)) = putAll os (k + 1) (updV y (k + (j + 1)) v) (a.put o'.dst (updV y (k + (j + 1)) v k))
    have : updV y (k + (j + 1)) v k = y k := by unfold updV; rw [if_neg (by omega)]
    rw [this, ← show k + 1 + j = k + (j + 1) by omega]
    exact putAll_none os (k + 1) j y _ o v (by simpa using h) hd
def nowAt (os : List Oper) (a : Act) : Nat → Value := fun i => ((os[i]?.bind (·.dst)).bind (a.tmps[·]?)).getD undef
theorem put_same (a : Act) (d : Tmp) : a.put (some d) ((a.tmps[d]?).getD undef) = a := by
  unfold Act.put
  have : a.tmps.setIfInBounds d ((a.tmps[d]?).getD undef) = a.tmps := by
    apply Array.ext
    · simp
    · intro i h1 h2
      rw [Array.getElem_setIfInBounds h2]
      split
      · rename_i e
        subst e
        rw [Array.getElem?_eq_getElem h2]
        rfl
      · rfl
  show { a with tmps := a.tmps.setIfInBounds d ((a.tmps[d]?).getD undef) } = a
  rw [this]
theorem putAll_now (all : List Oper) (a : Act) : ∀ (os : List Oper) (k : Nat), (∀ j, os[j]? = all[k + j]?) → putAll os k (nowAt all a) a = a
  | [], _, _ => rfl
  | o :: os, k, h => by
    have h0 : all[k]? = some o := by simpa using (h 0).symm
    have e : a.put o.dst (nowAt all a k) = a := by
      unfold nowAt
      rw [h0]
      cases hd : o.dst with
      | none => rfl
      | some d => simpa [hd] using put_same a d
    show putAll os (k + 1) (nowAt all a) (a.put o.dst (nowAt all a k)) = a
    rw [e]
    exact putAll_now all a os (k + 1) fun j => by
      have := h (j + 1)
      rw [show k + 1 + j = k + (j + 1) by omega, ← this]
      simp
def backB (ops : List Oper) : Bool := (List.range ops.length).all fun i => (ops[i]?.map fun o => o.after.toList.all fun e => !Region.binds .any e || decide (e.on < i)).getD true
def nodupB : List Tmp → Bool
  | [] => true
  | d :: ds => !ds.contains d && nodupB ds
theorem nodup_of : ∀ {ds : List Tmp}, nodupB ds = true → ds.Nodup
  | [], _ => List.nodup_nil
  | d :: ds, h => by
    simp only [nodupB, Bool.and_eq_true, Bool.not_eq_true'] at h
    exact List.nodup_cons.2 ⟨fun hm => by simp [hm] at h, nodup_of h.2⟩
section
variable {P : Program} {ops : List Oper} {w0 : World} {a0 : Act} {Q : Exit → Act → World → Prop}
theorem told_wp {o : Oper} {a : Act} {w : World} {G : GFact} {K : Act → World → Prop} (hw : Region.wanted o (yielded ops.toArray a.tmps) = true) (h : toldAt P ops.toArray o a w G)
    (hK : ∀ v w', Below w.heap.size w w' → G v w' → K (a.put o.dst v) w') : Oper.wp P o a w K Q := by
  unfold toldAt at h
  rw [if_pos hw] at h
  unfold Oper.wp
  generalize (execOp a.eval o).run P w = r at *
  cases r with
  | ok n w' =>
    cases n <;> simp only [toldUpon] at h <;> simp only [Oper.upon]
    case value v => exact hK v w' h.1 h.2
    case skip => exact hK undef w' h.1 h.2
    case enter f args => exact h.2.mono fun e w'' ⟨v, he, hb, hg⟩ => by subst he; exact hK v w'' (h.1.trans (hb.mono h.1.size)) hg
  | halt x w' => simp only [toldUpon] at h
theorem told_any (GG : Nat → GFact) (hback : backB ops = true) (hnd : (dsts ops).Nodup)
    (hG : ∀ j o, ops[j]? = some o → Stays (GG j) ∧ ∀ y w, Below w0.heap.size w0 w → depsOf GG y w o.after.toList → toldAt P ops.toArray o (putAll ops 0 y a0) w (GG j))
    (hQ : ∀ y w, Below w0.heap.size w0 w → (∀ i, i < ops.length → GG i (y i) w) → Q .normal (putAll ops 0 y a0) w) :
    ∀ (fuel : Nat) (listed : Array Bool) (y : Nat → Value) (w : World), listed.size = ops.length → listed.toList.countP (! ·) ≤ fuel → Below w0.heap.size w0 w → (∀ i, listed.getD i false = true → GG i (y i) w) →
      wpAny P .any ops.toArray Q fuel listed (putAll ops 0 y a0) w := by
  have hend : ∀ (listed : Array Bool) (y : Nat → Value) (w : World), listed.size = ops.length → Below w0.heap.size w0 w → (∀ i, listed.getD i false = true → GG i (y i) w) → Region.ready .any ops.toArray listed = [] → Q .normal (putAll ops 0 y a0) w := by
    intro listed y w hs hb hg hr
    refine hQ y w hb fun i hi => hg i ?_
    have key : ∀ n, n ≤ ops.length → ∀ j, j < n → listed.getD j false = true := by
      intro n
      induction n with
      | zero => intro _ j hj; omega
      | succ n ih =>
        intro hn j hj
        rcases Nat.lt_or_ge j n with h1 | h1
        · exact ih (by omega) j h1
        · obtain rfl : j = n := by omega
          apply Decidable.byContradiction
          intro hne
          have hj' : j < listed.size := by omega
          have hlj : listed.getD j true = false := by
            simp only [Array.getD, hj', dif_pos] at hne ⊢
            simpa using hne
          have ho : ops[j]? = some ops[j] := List.getElem?_eq_getElem (by omega)
          have hbk := hback
          unfold backB at hbk
          rw [List.all_eq_true] at hbk
          have hbj := hbk j (by simp; omega)
          rw [ho] at hbj
          simp only [Option.map_some, Option.getD_some, List.all_eq_true] at hbj
          have : j ∈ Region.ready .any ops.toArray listed := mem_ready.2 ⟨hlj, ops[j], by simp [ho], fun e he hbe => by
            have h2 := hbj e (by simpa using he)
            rw [hbe] at h2
            simp only [Bool.not_true, Bool.false_or, decide_eq_true_eq] at h2
            exact ih (by omega) _ h2⟩
          rw [hr] at this
          cases this
    exact key ops.length (Nat.le_refl _) i hi
  intro fuel
  induction fuel with
  | zero =>
    intro listed y w hs hc hb hg
    have h0 : Region.ready .any ops.toArray listed = [] := by
      cases hr : Region.ready .any ops.toArray listed with
      | nil => rfl
      | cons i is =>
        obtain ⟨hl, o, ho, _⟩ := mem_ready.1 (show i ∈ Region.ready .any ops.toArray listed by rw [hr]; simp)
        have hi : i < listed.size := by
          rw [hs]
          have := (Array.getElem?_eq_some_iff.1 ho).1
          simpa using this
        have : 0 < listed.toList.countP (! ·) := List.countP_pos_iff.2 ⟨listed[i], by simp, by simpa [Array.getD, hi] using hl⟩
        omega
    exact ⟨h0, hend listed y w hs hb hg h0⟩
  | succ fuel ih =>
    intro listed y w hs hc hb hg
    refine ⟨hend listed y w hs hb hg, fun i hi => ?_⟩
    obtain ⟨hl, o, ho, hed⟩ := mem_ready.1 hi
    have ho' : ops[i]? = some o := by simpa using ho
    have hi' : i < listed.size := by
      rw [hs]
      have := (Array.getElem?_eq_some_iff.1 ho).1
      simpa using this
    have hli : listed.toList[i]'(by simpa using hi') = false := by simpa [Array.getD, hi'] using hl
    have hcnt : (listed.setIfInBounds i true).toList.countP (! ·) ≤ fuel := by
      rw [Array.toList_setIfInBounds, List.countP_set (by simpa using hi')]
      simp only [hli, Bool.not_false, if_true, Bool.not_true, Bool.false_eq_true, if_false, Nat.add_zero]
      omega
    have hstep := hG i o ho'
    have ht := hstep.2 y w hb (depsOf_all fun e he hbe => hg _ (hed e (by simpa using he) hbe))
    have hnext : ∀ v w', Below w.heap.size w w' → GG i v w' → wpAny P .any ops.toArray Q fuel (listed.setIfInBounds i true) ((putAll ops 0 y a0).put o.dst v) w' := by
      intro v w' hbw hgv
      have e : (putAll ops 0 y a0).put o.dst v = putAll ops 0 (updV y i v) a0 := by
        cases hd : o.dst with
        | none => show putAll ops 0 y a0 = _; have := putAll_none ops 0 i y a0 o v ho' hd; simpa using this
        | some d => have := putAll_upd ops 0 i y a0 o v hnd ho' (by rw [hd]; simp); rw [hd] at this; simpa using this
      rw [e]
      refine ih _ _ _ (by simp [hs]) hcnt (hb.trans (hbw.mono hb.size)) fun j hj => ?_
      by_cases hji : j = i
      · subst hji
        have : updV y j v j = v := by unfold updV; rw [if_pos rfl]
        rw [this]; exact hgv
      · have e2 : updV y i v j = y j := by unfold updV; rw [if_neg hji]
        rw [e2]
        have hj2 : listed.getD j false = true := by
          rw [getD_set_ne false (fun h => hji h.symm)] at hj
          exact hj
        have hjl : j < ops.length := by
          rw [← hs]
          rcases Nat.lt_or_ge j listed.size with h' | h'
          · exact h'
          · simp [Array.getD, Nat.not_lt.2 h'] at hj2
        exact (hG j ops[j] (List.getElem?_eq_getElem hjl)).1 _ _ _ hbw (hg j hj2)
    unfold wpOp
    rw [ho]
    show if Region.wanted o (yielded ops.toArray (putAll ops 0 y a0).tmps) = true then _ else _
    split
    · rename_i hw
      exact .inl (told_wp hw ht hnext)
    · rename_i hw
      refine hnext undef w (Below.refl _ _) ?_
      unfold toldAt at ht
      rwa [if_neg hw] at ht
theorem region_told {id : Nat} (F : (Nat → Value) → Act) (hm : P.follows .mixedOrders = true) (hB : (backB ops && nodupB (dsts ops)) = true) (hF : (fun y => putAll ops 0 y a0) = F)
    (h : Told P ops.toArray w0 F Q 0 (fun _ => GTrue) ops) : (Code.region id ops.toArray true).wp P Q a0 w0 := by
  subst hF
  rw [Bool.and_eq_true] at hB
  obtain ⟨GG, _, g2, g3⟩ := told_family ops 0 _ (fun _ _ => rfl) h
  refine wp_region_any hm ?_
  have := told_any (P := P) (w0 := w0) (a0 := a0) (Q := Q) GG hB.1 (nodup_of hB.2) (fun j o hj => by simpa using g2 j o hj) (fun y w hb hg => g3 y w hb (by simpa using hg)) ops.toArray.size (Array.replicate ops.toArray.size false) (nowAt ops a0) { w0 with drawn := w0.drawn + 1 }
    (by simp) (Nat.le_trans List.countP_le_length (by simp)) (Below.drew (Below.refl _ _)) (fun i hi => by
      rcases Nat.lt_or_ge i ops.length with h' | h'
      · simp [Array.getD, h'] at hi
      · simp [Array.getD, Nat.not_lt.2 h'] at hi)
  rwa [putAll_now ops a0 ops 0 (by simp)] at this
theorem told_nil {F : (Nat → Value) → Act} {k : Nat} {Gs : Nat → GFact} {os : Array Oper} (h : ∀ y w, Below w0.heap.size w0 w → (∀ i, i < k → Gs i (y i) w) → Q .normal (F y) w) : Told P os w0 F Q k Gs [] := h
theorem told_step {F : (Nat → Value) → Act} {k : Nat} {Gs : Nat → GFact} {os : Array Oper} {o : Oper} {rest : List Oper} (G : GFact) (hst : Stays G)
    (h : ∀ y w, Below w0.heap.size w0 w → depsOf Gs y w o.after.toList → toldAt P os o (F y) w G)
    (hr : Told P os w0 F Q (k + 1) (updG Gs k G) rest) : Told P os w0 F Q k Gs (o :: rest) := ⟨G, hst, h, hr⟩
end
end Go.Proofs.Ytdmglajfmfjmlaa
namespace Go.Proofs.Ytdmglajfmfjmlaa
set_option linter.unusedSimpArgs false
set_option linter.unusedVariables false
set_option maxRecDepth 100000
open Go.RowKit Go.Proofs.YtdmglajfmfjmlaaW.PrintWords Go.Proofs.YtdmglajfmfjmlaaW.PrintLast Go.Proofs.YtdmglajfmfjmlaaW.PrintMore
def LI (k : IntKind) (w : World) (v : Value) (l : List Int) : Prop := ∃ A c, v = .slice A l.length c ∧ Kd.C (Kd.int k) w A l.length l ∧ l.length ≤ c
theorem LI.below {k : IntKind} {w w' : World} {v : Value} {l : List Int} (h : LI k w v l) (hb : Below w.heap.size w w') : LI k w' v l := by
  obtain ⟨A, c, e, h1, h2⟩ := h
  exact ⟨A, c, e, Kd.C_below h1 hb, h2⟩
theorem LI.of_R {k : IntKind} {e : Nat} {w : World} {base : Nat} {ok : Nat → Prop} {v : Value} {l : List Int} (h : Kd.R (Kd.int k) e w base ok v l) : LI k w v l := by
  obtain ⟨A, c, he, hl, hc⟩ := Kd.R_reads h
  exact ⟨A, c, he, hc, hl⟩
theorem LI.nil (k : IntKind) (w : World) : LI k w (.slice none 0 0) [] := ⟨none, 0, rfl, Kd.C_nil _ _, Nat.le_refl _⟩
theorem LI.of_Rd {k : IntKind} {w : World} {A : Option Addr} {n c : Nat} {xs : List Nat} (h : Rd k w A n c xs) : LI k w (.slice A n c) (cI xs) := by
  refine ⟨A, c, by rw [cI_length, h.len], C_of_Rd h, by rw [cI_length, h.len]; exact h.cap⟩
theorem LI.of_Rdl {k : IntKind} {w : World} {A : Option Addr} {n c : Nat} {l : List Int} (h : Rd k w A n c (toN l)) (h0 : ∀ x ∈ l, 0 ≤ x) : LI k w (.slice A n c) l := by
  have := LI.of_Rd h
  rwa [cI_toN h0] at this
theorem LI.conv {w : World} {v : Value} {l : List Int} (h : LI .u8 w v l) : (convert 22 9 v).run Try.prog w = .ok (.string (strOfNums l)) w := by
  obtain ⟨A, c, rfl, h1, h2⟩ := h
  exact Kd.C_string (P := Try.prog) (A := A) (c := c) Try.underlying22 Try.underlying5 Try.underlying9 h1
theorem LI.form {k : IntKind} {w : World} {v : Value} {l : List Int} (h : LI k w v l) : ∃ A c, v = .slice A l.length c ∧ LI k w (.slice A l.length c) l := by
  obtain ⟨A, c, e, h1, h2⟩ := h
  exact ⟨A, c, e, A, c, rfl, h1, h2⟩
theorem okN_pos {m : Nat} {l : List Int} (h : okN m l) : ∀ x ∈ l, 0 ≤ x := fun x hx => (h.2 x hx).1
theorem okB_pos {l : List Int} (h : okB l) : ∀ x ∈ l, 0 ≤ x := fun x hx => (h x hx).1
def GLI (k : IntKind) (l : List Int) : GFact := fun v w => LI k w v l
theorem GLI.stays (k : IntKind) (l : List Int) : Stays (GLI k l) := fun _ _ _ hb h => LI.below h hb
def PLI (k : IntKind) (l : List Int) (w : World) (e : Ending) (w' : World) : Prop := ∃ v, e = .returned v ∧ Below w.heap.size w w' ∧ GLI k l v w'
def PLE (k : IntKind) (r : List Int × Int) (w : World) (e : Ending) (w' : World) : Prop := ∃ v, e = .returned (.tuple #[v, .int .i64 r.2]) ∧ Below w.heap.size w w' ∧ GLI k r.1 v w'
def PIN (z : Int) (w : World) (e : Ending) (w' : World) : Prop := e = .returned (.int .i64 z) ∧ Below w.heap.size w w'
def PBO (b : Bool) (w : World) (e : Ending) (w' : World) : Prop := e = .returned (.bool b) ∧ Below w.heap.size w w'
section
variable {w : World} {v0 v1 v2 : Value} {a b c : List Int}
theorem of_li (x : Nat) (hx : x < 18446744073709551616) (w : World) : Calls Try.prog 22 #[.int .u64 (x : Int)] w (PLI .u64 (ofN x) w) := by
  refine (of_any w x hx).mono ?_
  rintro e w' ⟨A, c, rfl, ho, hb⟩
  exact ⟨_, rfl, hb, LI.of_Rd ho.rd⟩
theorem cmp_li (h0 : LI .u64 w v0 a) (h1 : LI .u64 w v1 b) (oa : okN 262144 a) (ob : okN 262144 b) : Calls Try.prog 33 #[v0, v1] w (PIN (cmpN (nI a) (nI b)) w) := by
  obtain ⟨A0, c0, rfl, h0, k0⟩ := h0
  obtain ⟨A1, c1, rfl, h1, k1⟩ := h1
  refine (cmp_giv (r := cmpN (nI a) (nI b)) h0 k0 h1 k1 (by rw [if_pos ⟨oa, ob⟩])).mono ?_
  rintro e w' ⟨rfl, hd⟩
  obtain ⟨n, rfl⟩ := hd.out
  exact ⟨rfl, below_drewN (Below.refl _ _) n⟩
theorem bits_li (h0 : LI .u64 w v0 a) (oa : okN 262144 a) : Calls Try.prog 19 #[v0] w (PIN ((blen (nI a) : Nat) : Int) w) := by
  obtain ⟨A0, c0, rfl, h0, k0⟩ := h0
  exact bits_giv h0 k0 (by rw [if_pos oa])
theorem bit0_li (h0 : LI .u64 w v0 a) (oa : okN 262144 a) : Calls Try.prog 60 #[v0, .int .i64 0] w (PIN ((nI a % 2 : Nat) : Int) w) := by
  obtain ⟨A0, c0, rfl, h0, k0⟩ := h0
  refine (bit_giv (a1 := 0) (r := ((nI a % 2 : Nat) : Int)) h0 k0 (by rw [if_pos ⟨oa, by omega⟩, if_neg (by omega), Int.toNat_zero, Nat.pow_zero, Nat.div_one])).mono ?_
  rintro e w' ⟨rfl, hd⟩
  obtain ⟨n, rfl⟩ := hd.out
  exact ⟨rfl, below_drewN (Below.refl _ _) n⟩
theorem sub_li (h0 : LI .u64 w v0 a) (h1 : LI .u64 w v1 b) (oa : okN 262144 a) (ob : okN 262144 b) : Calls Try.prog 69 #[v0, v1] w (PLE .u64 (ofN (nI a - nI b), if nI a < nI b then 10 else 0) w) := by
  obtain ⟨A0, c0, rfl, h0, k0⟩ := h0
  obtain ⟨A1, c1, rfl, h1, k1⟩ := h1
  refine (sub_giv h0 k0 h1 k1 (by rw [if_pos ⟨oa, ob⟩])).mono ?_
  rintro e w' ⟨v, rfl, hR, hb⟩
  exact ⟨v, rfl, hb, .of_R hR⟩
theorem mul_li (h0 : LI .u64 w v0 a) (h1 : LI .u64 w v1 b) (oa : okN 262144 a) (ob : okN 262144 b) : Calls Try.prog 75 #[v0, v1] w (PLI .u64 (ofN (nI a * nI b)) w) := by
  obtain ⟨A0, c0, rfl, h0, k0⟩ := h0
  obtain ⟨A1, c1, rfl, h1, k1⟩ := h1
  refine (mul_giv h0 k0 h1 k1 (by rw [if_pos ⟨oa, ob⟩])).mono ?_
  rintro e w' ⟨v, rfl, hR, hb⟩
  exact ⟨v, rfl, hb, .of_R hR⟩
theorem read_li (h0 : LI .u8 w v0 a) (oa : okB a) (la : a.length ≤ 2097152) : Calls Try.prog 90 #[v0] w (PLI .u64 (ofN (beV a)) w) := by
  obtain ⟨A0, c0, rfl, h0, k0⟩ := h0
  refine (read_giv h0 k0 (by rw [if_pos ⟨oa, la⟩])).mono ?_
  rintro e w' ⟨v, rfl, hR, hb⟩
  exact ⟨v, rfl, hb, .of_R hR⟩
theorem pow_li (h0 : LI .u64 w v0 a) (h1 : LI .u64 w v1 b) (h2 : LI .u64 w v2 c) (oa : okN 4096 a) (ob : okN 4096 b) (oc : okN 1024 c) : Calls Try.prog 21 #[v0, v1, v2] w (PLE .u64 (powR (nI a) (nI b) (nI c)) w) := by
  obtain ⟨A0, c0, rfl, h0, k0⟩ := h0
  obtain ⟨A1, c1, rfl, h1, k1⟩ := h1
  obtain ⟨A2, c2, rfl, h2, k2⟩ := h2
  refine (pow_giv h0 k0 h1 k1 h2 k2 (by rw [if_pos ⟨oa, ob, oc⟩])).mono ?_
  rintro e w' ⟨v, rfl, hR, hb⟩
  exact ⟨v, rfl, hb, .of_R hR⟩
theorem shift_li (h0 : LI .u64 w v0 a) (oa : okN 262144 a) (i : Int) : Calls Try.prog 84 #[v0, .int .i64 i] w (PLI .u64 (ofN (shiftN (nI a) i)) w) := by
  obtain ⟨A0, c0, rfl, h0, k0⟩ := h0
  refine (shift_giv h0 k0 (by rw [if_pos oa])).mono ?_
  rintro e w' ⟨v, rfl, hR, hb⟩
  exact ⟨v, rfl, hb, .of_R hR⟩
theorem primes_li (h0 : LI .u64 w v0 a) (h1 : LI .u64 w v1 b) (oa : okN 1024 a) (ob : okN 1048576 b) : Calls Try.prog 70 #[v0, v1] w (PBO (primeN (nI a) (toN b)) w) := by
  obtain ⟨A0, c0, rfl, h0, k0⟩ := h0
  obtain ⟨A1, c1, rfl, h1, k1⟩ := h1
  exact prime_giv h0 k0 h1 k1 (by rw [if_pos ⟨oa, ob⟩])
theorem trunc_li (ht : LI .u8 w v0 a) (ot : okB a) (lt : a.length ≤ 2097152) {k : Nat} (hk : k ≤ 32) :
    Calls Try.prog 16 #[v0, .int .i64 (k : Int)] w fun e_ w' => ∃ v, e_ = .returned (.tuple #[v, .int .i64 0]) ∧ LI .u8 w' v (truncL a k) ∧ Below w.heap.size w w' := by
  obtain ⟨A0, c0, rfl, h0, k0⟩ := ht
  refine (trunc_giv (a1 := (k : Int)) (r1 := truncL a k) (r2 := 0) h0 k0 (by rw [if_pos ⟨ot, lt, by omega, by omega⟩, Int.toNat_natCast])).mono ?_
  rintro e_ w' ⟨v, rfl, hR, hb⟩
  exact ⟨v, rfl, .of_R hR, hb⟩
end
structure KB (w wa : World) (g : Nat) (t : TypeId) (V0 V1 V2 : Value) (n e d : List Int) : Prop where
  bk : Bk wa g t #[V0, V1, V2]
  h0 : LI .u64 wa V0 n
  h1 : LI .u64 wa V1 e
  h2 : LI .u64 wa V2 d
  bel : Below w.heap.size w wa
theorem KB.new {w : World} {t : TypeId} {V0 V1 V2 : Value} {n e d : List Int} (h0 : LI .u64 w V0 n) (h1 : LI .u64 w V1 e) (h2 : LI .u64 w V2 d) : KB w (w.alloc (.cells #[V0, V1, V2] t)) w.heap.size t V0 V1 V2 n e d := by
  have hb : Below w.heap.size w (w.alloc (.cells #[V0, V1, V2] t)) := (Below.refl _ _).alloc (Nat.le_refl _) _
  exact ⟨Bk.new w _ _, h0.below hb, h1.below hb, h2.below hb, hb⟩
section
variable {w wa w' : World} {g : Nat} {t : TypeId} {V0 V1 V2 : Value} {n e d : List Int}
theorem KB.below (h : KB w wa g t V0 V1 V2 n e d) (hb : Below wa.heap.size wa w') : KB w w' g t V0 V1 V2 n e d :=
  ⟨h.bk.below hb h.bk.lt, h.h0.below hb, h.h1.below hb, h.h2.below hb, h.bel.trans (hb.mono h.bel.size)⟩
theorem KB.c0 (h : KB w wa g t V0 V1 V2 n e d) : wa.cell? ⟨g, 0, none⟩ = some V0 := h.bk.cell 0
theorem KB.c1 (h : KB w wa g t V0 V1 V2 n e d) : wa.cell? ⟨g, 1, none⟩ = some V1 := h.bk.cell 1
theorem KB.c2 (h : KB w wa g t V0 V1 V2 n e d) : wa.cell? ⟨g, 2, none⟩ = some V2 := h.bk.cell 2
end
end Go.Proofs.Ytdmglajfmfjmlaa
namespace Go.Proofs.Ytdmglajfmfjmlaa
set_option linter.unusedSimpArgs false
set_option linter.unusedVariables false
set_option maxRecDepth 100000
open Go.RowKit Go.Proofs.YtdmglajfmfjmlaaW.PrintWords Go.Proofs.YtdmglajfmfjmlaaW.PrintLast
def NI (xs : List Nat) : List Int := xs.map fun (x : Nat) => (x : Int)
def padZ (s k : Nat) : List Nat := (List.replicate s 0).set 1 k
def padF (s k : Nat) (f : List Nat) : List Nat := splice (padZ s k) 2 (f.take (s - 2))
def padP (s k : Nat) (f t : List Nat) : List Nat := splice (padF s k f) (s - t.length) t
theorem vs_splice (xs ys : List Nat) (o : Nat) : splice (vs .u8 xs) o (vs .u8 ys) = vs .u8 (splice xs o ys) := by
  unfold splice; rw [vs_append, vs_append, vs_length]; simp [vs, List.map_take, List.map_drop]
theorem vs_take (xs : List Nat) (n : Nat) : (vs .u8 xs).take n = vs .u8 (xs.take n) := by simp [vs, List.map_take]
theorem padF_length {s k : Nat} {f : List Nat} (hs : 3 ≤ s) : (padF s k f).length = s := by
  unfold padF padZ
  rw [length_splice _ _ _ (by rw [List.length_take, List.length_set, List.length_replicate]; omega), List.length_set, List.length_replicate]
theorem padP_length {s k : Nat} {f t : List Nat} (hs : 3 ≤ s) (ht : t.length ≤ s) : (padP s k f t).length = s := by
  unfold padP
  rw [length_splice _ _ _ (by rw [padF_length hs]; omega), padF_length hs]
set_option maxHeartbeats 2000000 in
theorem padded_any (w : World) {s k n m c d : Nat} {F T : Option Addr} {f t : List Nat} (hs : 3 ≤ s) (hs2 : s ≤ 4194304) (hk : k < 256) (hf : Rd .u8 w F n c f) (ht : Rd .u8 w T m d t) (hm : m ≤ s) (hn : n ≤ 2097152) :
    Calls Try.prog 66 #[.int .i64 (s : Int), .int .u8 (k : Int), .slice F n c, .slice T m d] w fun e w' => ∃ A' c', e = .returned (.slice A' s c') ∧ Own .u8 5 w' w.heap.size A' s c' (padP s k f t) ∧ Below w.heap.size w w' := by
  have hmk := fun w => run_mk8 s hs2 w
  have hlf := hf.len
  have hlt := ht.len
  have HF := Lib.hid hf
  have HT := Lib.hid ht
  have hsz : (Try.prog.info? 5).map (·.size) = some 1 := by kernel_rfl
  have s2 : ¬ s = 2 := by omega
  have j0 : (2 : Int) ≤ (s : Int) := by omega
  have j1 : (1 : Int) < (s : Int) := by omega
  have j2 : IntKind.i64.wrap ((s : Int) - (m : Int)) = (s : Int) - (m : Int) := IntWalk.i64_in _ (by omega)
  have j3 : (0 : Int) ≤ (s : Int) - (m : Int) := by omega
  have j4 : (s : Int) - (m : Int) ≤ (s : Int) := by omega
  have j5 : ((s : Int) - (m : Int)).toNat = s - m := by omega
  have HP := Lib.hid (And.intro (show padF s k f = splice (padZ s k) 2 (f.take (s - 2)) from rfl) (show padP s k f t = splice (padF s k f) (s - t.length) t from rfl))
  have HL := Lib.hid (And.intro (padF_length (k := k) (f := f) hs) (padP_length (k := k) (f := f) (t := t) hs (by omega)))
  have HZ := Lib.hid (show (padZ s k).length = s by unfold padZ; rw [List.length_set, List.length_replicate])
  have HZ2 := Lib.hid (show (va .u8 (List.replicate s 0)).setIfInBounds 1 (.int .u8 (k : Int)) = va .u8 (padZ s k) from va_set .u8 _ 1 k)
  generalize padP s k f t = PN at HP HL ⊢
  generalize padF s k f = PF at HP HL
  generalize padZ s k = PZ at HP HZ HZ2
  clear hf ht
  go_enter Try.func66, Try.ntmps66
  go_upto_region 2 with (fail)
  obtain ⟨w1, hw1⟩ : ∃ z, w.alloc (.cells (va .u8 (List.replicate s 0)) 5) = z := ⟨_, rfl⟩
  have k1 : Bk w1 w.heap.size 5 (va .u8 (List.replicate s 0)) := by rw [← hw1]; exact Bk.new w _ _
  have b1 : Below w.heap.size w w1 := by rw [← hw1]; exact (Below.refl _ _).alloc (Nat.le_refl _) _
  rw [hw1]
  have f1 : w1.frozen? ⟨w.heap.size, 1, none⟩ = false := k1.frozen 1
  have c1 : w1.cell? ⟨w.heap.size, 1, none⟩ = some (.int .u8 ((0 : Nat) : Int)) := (k1.cell 1).trans (by rw [va_at .u8 (by rw [List.length_replicate]; omega)]; rw [gd_replicate])
  have HK1 := Lib.hid k1
  have HB1 := Lib.hid b1
  clear hw1 k1 b1 hmk
  go_upto_region 3 with (fail)
  obtain ⟨w2, hw2⟩ : ∃ z, w1.setCell ⟨w.heap.size, 1, none⟩ (.int .u8 (k : Int)) = z := ⟨_, rfl⟩
  have k2 : Bk w2 w.heap.size 5 (va .u8 PZ) := by rw [← hw2, ← HZ2.out]; exact HK1.out.set 1 _
  have b2 : Below w.heap.size w w2 := by rw [← hw2]; exact HB1.out.setCell (p := ⟨w.heap.size, 1, none⟩) (Nat.le_refl _) _
  rw [hw2]
  have HB2 := Lib.hid b2
  have hr2 := HF.out.below b2
  clear hw2 b2 f1 c1 HB1 HK1
  refine wp_region_lit ?_
  iterate 3 (refine wpList_plain rfl (fun K hK => ?_); go_simp; refine hK _ _ ?_; clear hK K)
  refine wpList_copy_splice rfl (.tmp 16) (.tmp 17) 22 22 rfl 5 Try.underlying22 hsz (some ⟨w.heap.size, 2, none⟩) F (s - 2) (s - 2) n c rfl rfl w.heap.size 2 (vs .u8 PZ) 5 k2 (vs .u8 (f.take (s - 2))) (by rw [vs_length, List.length_take, hlf]; exact Nat.min_comm _ _) (fun h0 => ⟨rfl, by rw [vs_length, List.length_take] at h0; obtain ⟨ad, h1, _⟩ := hr2.form (by omega); exact ⟨ad, h1, fun j v hj => hr2.cells h1 j v (by rw [← vs_take, List.getElem?_take] at hj; split at hj; exact hj; cases hj)⟩⟩) (by rw [vs_length, vs_length, HZ.out, List.length_take]; omega) (vs_one _ _) w.heap.size w2 (Below.refl _ _) (Nat.le_refl _) ?_
  intro w3 hk3 hb3
  have k3 : Bk w3 w.heap.size 5 (va .u8 PF) := by
    have hq := hk3.out
    rw [vs_splice, ← HP.out.1] at hq
    exact hq
  have b3 := HB2.out.trans hb3
  have HB3 := Lib.hid b3
  have hr3 := HT.out.below b3
  clear hk3 hb3 hr2 k2 b3 HB2
  refine wpList_nil ?_
  go_upto_region 4 with (fail)
  refine wp_region_lit ?_
  iterate 7 (refine wpList_plain rfl (fun K hK => ?_); go_simp; refine hK _ _ ?_; clear hK K)
  obtain ⟨dp, hdp⟩ : ∃ dp, (if s = s - m then some (⟨w.heap.size, 0, none⟩ : Addr) else some ⟨w.heap.size, s - m, none⟩) = dp := ⟨_, rfl⟩
  rw [hdp]
  refine wpList_copy_splice rfl (.tmp 24) (.tmp 25) 22 22 rfl 5 Try.underlying22 hsz dp T (s - (s - m)) (s - (s - m)) m d rfl rfl w.heap.size (s - m) (vs .u8 PF) 5 k3 (vs .u8 t) (by rw [vs_length, hlt, show s - (s - m) = m by omega]; exact (Nat.min_self m).symm) (fun h0 => ⟨by rw [← hdp, if_neg (by rw [vs_length] at h0; omega)], by rw [vs_length] at h0; obtain ⟨ad, h1, _⟩ := hr3.form (by omega); exact ⟨ad, h1, hr3.cells h1⟩⟩) (by rw [vs_length, vs_length, HL.out.1]; omega) (vs_one _ _) w.heap.size w3 (Below.refl _ _) (Nat.le_refl _) ?_
  intro w4 hk4 hb4
  have k4 : Bk w4 w.heap.size 5 (va .u8 PN) := by
    have hq := hk4.out
    rw [vs_splice, ← hlt, ← HP.out.2] at hq
    exact hq
  have b4 := HB3.out.trans hb4
  have HF4 := Lib.hid (And.intro k4 b4)
  clear hk4 hb4 hr3 k3 k4 b4 hdp HB3
  refine wpList_nil ?_
  go_wp2_with fail
  go_ret
  exact ⟨_, _, rfl, Own.of_bk HF4.out.1 (Nat.le_refl _) HL.out.2 (by omega), HF4.out.2⟩
end Go.Proofs.Ytdmglajfmfjmlaa
namespace Go.Proofs.Ytdmglajfmfjmlaa
set_option linter.unusedSimpArgs false
set_option linter.unusedVariables false
set_option maxRecDepth 100000
open Go.RowKit Go.Proofs.YtdmglajfmfjmlaaW.PrintWords Go.Proofs.YtdmglajfmfjmlaaW.PrintLast
def ff (m k : Nat) : List Nat := List.replicate k 255 ++ List.replicate (m - k) 0
theorem ff_step {m k : Nat} (h : k < m) : (ff m k).set k 255 = ff m (k + 1) := by
  unfold ff
  rw [List.set_append_right _ _ (by simp), List.length_replicate, Nat.sub_self, show m - k = (m - (k + 1)) + 1 by omega, List.replicate_succ, List.set_cons_zero, List.replicate_succ', List.append_assoc]
  rfl
theorem ff_length {m k : Nat} (h : k ≤ m) : (ff m k).length = m := by unfold ff; rw [List.length_append, List.length_replicate, List.length_replicate]; omega
theorem ff_zero (m : Nat) : ff m 0 = List.replicate m 0 := by simp [ff]
theorem ff_end (m : Nat) : ff m m = List.replicate m 255 := by simp [ff]
def sgnN (s : Nat) (t : List Nat) : List Nat := padP s 1 (List.replicate (s - 19) 255) ((shaN t).take 16)
set_option maxHeartbeats 2000000 in
theorem signed_any (w : World) {s c : Nat} {T : Option Addr} {t : List Nat} (hs : 27 ≤ s) (hs2 : s ≤ 1000000) (ht : Rd .u8 w T t.length c t) (t8 : B8 t) (hn : t.length ≤ 2097152) :
    Calls Try.prog 50 #[.int .i64 (s : Int), .slice T t.length c] w fun e w' => ∃ A' c', e = .returned (.slice A' s c') ∧ Own .u8 5 w' w.heap.size A' s c' (sgnN s t) ∧ Below w.heap.size w w' := by
  have hTr := trunc_rd w ht t8 (by omega) (n := 16) (by omega)
  simp only [show ((16 : Nat) : Int) = 16 from rfl] at hTr
  obtain ⟨m, hm⟩ : ∃ m, s - 19 = m := ⟨_, rfl⟩
  have hmk := fun w => run_mk8 m (by omega) w
  have HS := Lib.hid (show sgnN s t = padP s 1 (List.replicate m 255) ((shaN t).take 16) by rw [← hm]; rfl)
  have lD : ((shaN t).take 16).length = 16 := by rw [List.length_take, shaN_length]; rfl
  generalize sgnN s t = SG at HS ⊢
  generalize (shaN t).take 16 = D at HS hTr lD
  have i1 : IntKind.i64.wrap ((s : Int) - 3) = (s : Int) - 3 := IntWalk.i64_in _ (by omega)
  have i2 : IntKind.i64.wrap ((s : Int) - 3 - 16) = (m : Int) := by rw [IntWalk.i64_in _ (by omega)]; omega
  have HL := Lib.hid lD
  have HM := Lib.hid hm
  have hmb : m ≤ 1000000 := by omega
  clear ht lD hm
  generalize t.length = n at *
  go_enter Try.func50, Try.ntmps50
  go_upto_region 3 with (go_at_call 16; refine hTr.mono ?_; rintro e w1 ⟨A1, c1, rfl, ho1, hb1⟩; have hk1 : True := trivial)
  obtain ⟨w2, hw2⟩ : ∃ z, w1.alloc (.cells (va .u8 (List.replicate m 0)) 5) = z := ⟨_, rfl⟩
  have k2 : Bk w2 w1.heap.size 5 (va .u8 (List.replicate m 0)) := by rw [← hw2]; exact Bk.new w1 _ _
  have b2 : Below w1.heap.size w1 w2 := by rw [← hw2]; exact (Below.refl _ _).alloc (Nat.le_refl _) _
  rw [hw2]
  have HO := Lib.hid (And.intro ho1 b2)
  have HB := Lib.hid (hb1.trans (b2.mono hb1.size))
  have HK := Lib.hid k2
  have hz := hb1.size
  clear hw2 ho1 hb1 hk1 b2 k2 hmk hTr
  go_wp2_with fail
  go_loopw [8, 20] (fun _ i wr => ∃ k : Nat, k ≤ m ∧ i = .int .i64 (k : Int) ∧ Bk wr w1.heap.size 5 (va .u8 (ff m k)) ∧ Below w1.heap.size w2 wr) (fun _ i _ => m - (intOf i).toNat)
  case atStart => exact ⟨0, Nat.zero_le _, rfl, by rw [ff_zero]; exact HK.out, Below.refl _ _⟩
  case round =>
    obtain ⟨k, hk, rfl, hbk, hbl⟩ := hrel
    rcases Nat.lt_or_ge k m with h0 | h0
    · have a1 : (k : Int) < (m : Int) := by omega
      have a0 : (0 : Int) ≤ (k : Int) := by omega
      have i3 : IntKind.i64.wrap ((k : Int) + 1) = (k : Int) + 1 := IntWalk.i64_in _ (by omega)
      have fz := hbk.frozen k
      have cz : wr.cell? ⟨w1.heap.size, k, none⟩ = some (.int .u8 ((gd (ff m k) k : Nat) : Int)) := (hbk.cell k).trans (va_at .u8 (by rw [ff_length hk]; exact h0))
      have HF := Lib.hid (And.intro (ff_step h0) (And.intro hbk hbl))
      clear hbk hbl
      go_wp2_with fail
      go_roundw
      case rel => exact ⟨k + 1, by omega, by go_num, by have h := HF.out.2.1.set k (.int .u8 ((255 : Nat) : Int)); rw [va_set, HF.out.1] at h; exact h, HF.out.2.2.setCell (p := ⟨w1.heap.size, k, none⟩) (Nat.le_refl _) _⟩
      case measure => simp [intOf]; omega
    · obtain rfl : k = m := by omega
      rw [ff_end] at hbk
      have hro : Own .u8 5 wr w.heap.size A1 16 c1 D := HO.out.1.below (HO.out.2.trans hbl)
      have hrf : Rd .u8 wr (some ⟨w1.heap.size, 0, none⟩) k k (List.replicate k 255) := (Own.of_bk (base := 0) hbk (Nat.zero_le _) (by rw [List.length_replicate]) (by omega)).rd
      have hP := padded_any wr (s := s) (k := 1) (by omega) (by omega) (by omega) hrf hro.rd (by omega) (by have := HM.out; omega)
      rw [← HS.out] at hP
      simp only [show ((1 : Nat) : Int) = 1 from rfl] at hP
      have HB2 := Lib.hid (HB.out.trans (hbl.mono hz))
      have hz2 := HB2.out.size
      clear hbk hbl hro hrf
      go_wp2_with (go_at_call 66; refine hP.mono ?_; rintro e w3 ⟨A', c', rfl, ho, hb⟩; have HF := Lib.hid (And.intro ho hb); clear ho hb)
      go_ret
      exact ⟨A', c', rfl, HF.out.1.lower hz2, HB2.out.trans (HF.out.2.mono hz2)⟩
end Go.Proofs.Ytdmglajfmfjmlaa
namespace Go.Proofs.Ytdmglajfmfjmlaa
set_option linter.unusedSimpArgs false
set_option linter.unusedVariables false
set_option maxRecDepth 100000
open Go.RowKit Go.Proofs.YtdmglajfmfjmlaaW.PrintWords Go.Proofs.YtdmglajfmfjmlaaW.PrintLast Go.Proofs.YtdmglajfmfjmlaaW.PrintMore
theorem str_eq {a b : List Int} (ha : okB a) (hb : okB b) : ((strOfNums a).toList == (strOfNums b).toList) = decide (a = b) := by
  rw [Go.Lib.strOfNums_toList, Go.Lib.strOfNums_toList]
  by_cases h : a = b
  · subst h; simp
  · rw [decide_eq_false h, beq_eq_false_iff_ne]
    intro e
    apply h
    have key : ∀ l : List Int, okB l → (Go.Lib.bytesOf l).map (fun b : UInt8 => (b.toNat : Int)) = l := by
      intro l hl
      unfold Go.Lib.bytesOf
      rw [List.map_map]
      conv => rhs; rw [← List.map_id l]
      apply List.map_congr_left
      intro x hx
      have := hl x hx
      simp only [Function.comp, id, UInt8.toNat_ofNat']
      omega
    rw [← key a ha, ← key b hb, e]
def szN (n : Nat) : Nat := (blen n + 7) / 8
def keyR (n e d : Nat) : Int := if 16 ≤ blen n ∧ blen n ≤ 1024 ∧ n % 2 = 1 ∧ e % 2 = 1 ∧ 2 ≤ blen e ∧ e < n ∧ d < n then 0 else 50
theorem keyR_or (n e d : Nat) : keyR n e d = 0 ∨ keyR n e d = 50 := by unfold keyR; split <;> simp
theorem keyR_zero {n e d : Nat} (h : keyR n e d = 0) : 16 ≤ blen n ∧ blen n ≤ 1024 ∧ n % 2 = 1 ∧ e % 2 = 1 ∧ 2 ≤ blen e ∧ e < n ∧ d < n := by
  unfold keyR at h
  split at h
  · assumption
  · cases h
theorem blen_lt (n : Nat) : n < 2 ^ blen n := blen_le.1 (Nat.le_refl _)
theorem szN_fit (n : Nat) : n < 256 ^ szN n := by
  have h1 := blen_lt n
  rw [show (256 : Nat) = 2 ^ 8 by decide, ← Nat.pow_mul]
  exact Nat.lt_of_lt_of_le h1 (Nat.pow_le_pow_right (by decide) (by unfold szN; omega))
theorem blen_mono {a b : Nat} (h : a ≤ b) : blen a ≤ blen b := blen_le.2 (Nat.lt_of_le_of_lt h (blen_lt b))
def workR (n x : Nat) (b : List Int) : List Int := beB (powM (beV b) x n) (szN n)
def sgnR (s : Nat) (t : List Int) : List Int := NI (sgnN s (toN t))
def signR (n e d : Nat) (t : List Int) : List Int × Int := if keyR n e d = 0 ∧ d ≠ 0 then (if szN n < 27 then ([], 51) else (workR n d (sgnR (szN n) t), 0)) else ([], 50)
def fitsR (n : Nat) (s : List Int) : Bool := decide (s.length = szN n) && decide (beV s < n)
def verifyR (n e d : Nat) (t s : List Int) : Bool := decide (keyR n e d = 0) && decide (27 ≤ szN n) && fitsR n s && decide (workR n e s = sgnR (szN n) t)
theorem ln_beV {l : List Int} (h : okB l) {m : Nat} (hl : l.length ≤ 8 * m) : ln (beV l) ≤ m := ln_le.2 (by
  rw [show (18446744073709551616 : Nat) = 256 ^ 8 by decide, ← Nat.pow_mul]
  exact Nat.lt_of_lt_of_le (beV_lt h) (Nat.pow_le_pow_right (by decide) hl))
section
variable {a b c n e d t s : List Int}
theorem blen_okN {m : Nat} (h : okN m a) : blen (nI a) ≤ 64 * m := by
  have h1 := ln_le.1 (ln_nI h)
  refine blen_le.2 ?_
  rw [show (18446744073709551616 : Nat) = 2 ^ 64 by decide, ← Nat.pow_mul] at h1
  exact h1
theorem szN_bounds {n : Nat} (h : blen n ≤ 1024) : szN n ≤ 128 := by unfold szN; omega
theorem okB_NI {l : List Nat} (h : B8 l) : okB (NI l) := by
  intro x hx
  simp only [NI, List.mem_map] at hx
  obtain ⟨y, hy, rfl⟩ := hx
  have := h y hy
  omega
theorem sgn_form (s : Nat) (hs : 19 ≤ s) (t : List Int) : sgnR s t = 0 :: 1 :: (List.replicate (s - 19) 255 ++ 0 :: truncL t 16) := by
  obtain ⟨u, rfl⟩ : ∃ u, s = u + 19 := ⟨s - 19, by omega⟩
  have hl : ((shaN (toN t)).take 16).length = 16 := by rw [List.length_take, shaN_length]; rfl
  have e : sgnN (u + 19) (toN t) = 0 :: 1 :: (List.replicate u 255 ++ 0 :: (shaN (toN t)).take 16) := by
    unfold sgnN padP padF padZ splice
    generalize (shaN (toN t)).take 16 = D at hl ⊢
    rw [hl, Nat.add_sub_cancel, show u + 19 - 16 = u + 3 by omega, show u + 19 - 2 = u + 17 by omega]
    rw [List.take_of_length_le (l := List.replicate u 255) (by rw [List.length_replicate]; omega), List.length_replicate]
    rw [show List.replicate (u + 19) 0 = 0 :: 0 :: List.replicate (u + 17) 0 from rfl, List.set_cons_succ, List.set_cons_zero]
    rw [show 2 + u = u + 2 by omega]
    simp only [List.take_succ_cons, List.take_zero, List.drop_succ_cons, List.drop_replicate, List.cons_append, List.nil_append]
    rw [show u + 17 - u = 17 by omega, List.take_append, List.length_replicate, List.take_of_length_le (by rw [List.length_replicate]; omega), show u + 1 - u = 1 by omega]
    rw [List.drop_eq_nil_of_le (by simp), show List.take 1 (List.replicate 17 0) = [0] from rfl]
    simp
  unfold sgnR truncL
  rw [e, Nat.add_sub_cancel]
  simp [NI]
theorem truncL_okB (t : List Int) (k : Nat) : okB (truncL t k) := by
  intro x hx
  simp only [truncL, List.mem_map] at hx
  obtain ⟨y, hy, rfl⟩ := hx
  have := shaN_b8 (toN t) y (List.mem_of_mem_take hy)
  omega
theorem truncL_length (t : List Int) {k : Nat} (h : k ≤ 32) : (truncL t k).length = k := by unfold truncL; rw [List.length_map, List.length_take, shaN_length]; omega
theorem sgnR_length (s : Nat) (hs : 19 ≤ s) (t : List Int) : (sgnR s t).length = s := by
  rw [sgn_form s hs]; simp [truncL_length t (show 16 ≤ 32 by omega)]; omega
theorem sgnR_okB (s : Nat) (hs : 19 ≤ s) (t : List Int) : okB (sgnR s t) := by
  rw [sgn_form s hs]
  intro x hx
  simp only [List.mem_cons, List.mem_append, List.mem_replicate] at hx
  rcases hx with rfl | rfl | ⟨-, rfl⟩ | rfl | hx
  · omega
  · omega
  · omega
  · omega
  · exact truncL_okB t 16 x hx
theorem sgnR_inj (s : Nat) (hs : 19 ≤ s) (t u : List Int) : sgnR s t = sgnR s u ↔ truncL t 16 = truncL u 16 := by
  rw [sgn_form s hs, sgn_form s hs]
  simp
theorem sgnR_lt {n : Nat} (hs : 19 ≤ szN n) (t : List Int) : beV (sgnR (szN n) t) < n := by
  have hb := sgnR_okB (szN n) hs t
  have hl := sgnR_length (szN n) hs t
  rw [sgn_form _ hs] at hb hl ⊢
  generalize List.replicate (szN n - 19) 255 ++ 0 :: truncL t 16 = R at hb hl ⊢
  have h1 : beV R < 256 ^ R.length := beV_lt fun x hx => hb x (by simp [hx])
  have h2 : beV (0 :: 1 :: R) = 256 ^ R.length + beV R := by simp [beV]
  have h3 : R.length = szN n - 2 := by simp at hl; omega
  have h4 : 2 ^ (blen n - 1) ≤ n := by
    rcases Nat.lt_or_ge n (2 ^ (blen n - 1)) with h | h
    · have := blen_le.2 h
      unfold szN at hs; omega
    · exact h
  have h5 : 2 * 256 ^ (szN n - 2) ≤ 2 ^ (blen n - 1) := by
    rw [show (256 : Nat) = 2 ^ 8 by decide, ← Nat.pow_mul, ← Nat.pow_succ']
    exact Nat.pow_le_pow_right (by decide) (by unfold szN at hs ⊢; omega)
  rw [h2, h3]
  rw [h3] at h1
  omega
theorem workR_length (n x : Nat) (b : List Int) : (workR n x b).length = szN n := beB_length _ _
theorem workR_okB (n x : Nat) (b : List Int) : okB (workR n x b) := okB_beB _ _
theorem workR_val {n : Nat} (h : 0 < n) (x : Nat) (b : List Int) : beV (workR n x b) = powM (beV b) x n := by
  unfold workR
  rw [beV_beB]
  exact Nat.mod_eq_of_lt (Nat.lt_trans (powM_lt h) (szN_fit n))
end
end Go.Proofs.Ytdmglajfmfjmlaa
namespace Go.Proofs.Ytdmglajfmfjmlaa
set_option linter.unusedSimpArgs false
set_option linter.unusedVariables false
set_option maxRecDepth 100000
open Go.RowKit Go.Proofs.YtdmglajfmfjmlaaW.PrintWords Go.Proofs.YtdmglajfmfjmlaaW.PrintLast Go.Proofs.YtdmglajfmfjmlaaW.PrintMore
attribute [local go_sem] toldUpon_value toldUpon_skip toldUpon_enter
section
variable {w : World} {v0 v1 v2 vt vs vx : Value} {n e d t s x : List Int}
theorem size_li (h0 : LI .u64 w v0 n) (h1 : LI .u64 w v1 e) (h2 : LI .u64 w v2 d) (on : okN 64 n) : Calls Try.prog 17 #[.agg #[v0, v1, v2]] w (PIN ((szN (nI n) : Nat) : Int) w) := by
  obtain ⟨A0, c0, rfl, h0⟩ := h0.form
  obtain ⟨A1, c1, rfl, h1⟩ := h1.form
  obtain ⟨A2, c2, rfl, h2⟩ := h2.form
  have HN := Lib.hid (KB.new (t := 26) h0 h1 h2)
  obtain ⟨wa, hwa⟩ : ∃ z, w.alloc (.cells #[.slice A0 n.length c0, .slice A1 e.length c1, .slice A2 d.length c2] 26) = z := ⟨_, rfl⟩
  rw [hwa] at HN
  have y0 := HN.out.c0
  have y1 := HN.out.c1
  have y2 := HN.out.c2
  have hB := Lib.hid (bits_li HN.out.h0 (on.le (by omega)))
  have hb4 := blen_okN on
  obtain ⟨z, hz⟩ : ∃ z, blen (nI n) = z := ⟨_, rfl⟩
  have HS := Lib.hid (show szN (nI n) = (z + 7) / 8 by unfold szN; rw [hz])
  rw [hz] at hB hb4
  have i1 : IntKind.i64.wrap ((z : Int) + 7) = ((z + 7 : Nat) : Int) := by rw [IntWalk.i64_in _ (by omega)]; omega
  have i2 : IntKind.i64.wrap (Int.tdiv ((z + 7 : Nat) : Int) 8) = (((z + 7) / 8 : Nat) : Int) := by rw [Int.tdiv_eq_ediv_of_nonneg (by omega), IntWalk.i64_in _ (by omega)]; omega
  clear hz h0 h1 h2
  go_enter Try.func17, Try.ntmps17
  go_wp2_with (go_at_call 19; refine hB.out.mono ?_; rintro e_ w1 ⟨rfl, hb⟩)
  go_ret
  exact ⟨by have e1 : (((z + 7) / 8 : Nat) : Int) = ((z : Int) + 7) / 8 := by omega
            rw [HS.out, e1]; rfl, HN.out.bel.trans (hb.mono HN.out.bel.size)⟩
set_option maxHeartbeats 2000000 in
theorem right_li (h0 : LI .u64 w v0 n) (h1 : LI .u64 w v1 e) (h2 : LI .u64 w v2 d) (on : okN 64 n) (oe : okN 64 e) (od : okN 64 d) : Calls Try.prog 20 #[.agg #[v0, v1, v2]] w (PIN (keyR (nI n) (nI e) (nI d)) w) := by
  obtain ⟨A0, c0, rfl, h0⟩ := h0.form
  obtain ⟨A1, c1, rfl, h1⟩ := h1.form
  obtain ⟨A2, c2, rfl, h2⟩ := h2.form
  have HN := Lib.hid (KB.new (t := 26) h0 h1 h2)
  obtain ⟨wa, hwa⟩ : ∃ z, w.alloc (.cells #[.slice A0 n.length c0, .slice A1 e.length c1, .slice A2 d.length c2] 26) = z := ⟨_, rfl⟩
  rw [hwa] at HN
  have y0 := HN.out.c0
  have y1 := HN.out.c1
  have y2 := HN.out.c2
  have on' := on.le (m' := 262144) (by omega)
  have oe' := oe.le (m' := 262144) (by omega)
  have od' := od.le (m' := 262144) (by omega)
  have HB0 := Lib.hid (fun w' (h : LI .u64 w' (.slice A0 n.length c0) n) => bits_li h on')
  have HB1 := Lib.hid (fun w' (h : LI .u64 w' (.slice A1 e.length c1) e) => bits_li h oe')
  have HT0 := Lib.hid (fun w' (h : LI .u64 w' (.slice A0 n.length c0) n) => bit0_li h on')
  have HT1 := Lib.hid (fun w' (h : LI .u64 w' (.slice A1 e.length c1) e) => bit0_li h oe')
  have HC1 := Lib.hid (fun w' (h : LI .u64 w' (.slice A1 e.length c1) e) (h' : LI .u64 w' (.slice A0 n.length c0) n) => cmp_li h h' oe' on')
  have HC2 := Lib.hid (fun w' (h : LI .u64 w' (.slice A2 d.length c2) d) (h' : LI .u64 w' (.slice A0 n.length c0) n) => cmp_li h h' od' on')
  obtain ⟨z, hz⟩ : ∃ z : Int, ((blen (nI n) : Nat) : Int) = z := ⟨_, rfl⟩
  obtain ⟨y, hy⟩ : ∃ y : Int, ((blen (nI e) : Nat) : Int) = y := ⟨_, rfl⟩
  obtain ⟨q1, hq1⟩ : ∃ q : Int, cmpN (nI e) (nI n) = q := ⟨_, rfl⟩
  obtain ⟨q2, hq2⟩ : ∃ q : Int, cmpN (nI d) (nI n) = q := ⟨_, rfl⟩
  have c1' : (0 ≤ q1) ↔ nI n ≤ nI e := by rw [← hq1]; unfold cmpN; split <;> (try split) <;> omega
  have c2' : (0 ≤ q2) ↔ nI n ≤ nI d := by rw [← hq2]; unfold cmpN; split <;> (try split) <;> omega
  have K : ∀ r, (keyR (nI n) (nI e) (nI d) = r) → Calls Try.prog 20 #[.agg #[.slice A0 n.length c0, .slice A1 e.length c1, .slice A2 d.length c2]] w (PIN r w) → Calls Try.prog 20 #[.agg #[.slice A0 n.length c0, .slice A1 e.length c1, .slice A2 d.length c2]] w (PIN (keyR (nI n) (nI e) (nI d)) w) := fun r h h' => by rw [h]; exact h'
  rw [hz] at HB0
  rw [hy] at HB1
  rw [hq1] at HC1
  rw [hq2] at HC2
  clear h0 h1 h2 on' oe' od' on oe od
  by_cases g1 : z < 16
  · refine K 50 (by unfold keyR; rw [if_neg (by omega)]) ?_
    clear c1' c2' hz hy hq1 hq2 K
    go_enter Try.func20, Try.ntmps20
    go_wp2_with (first
      | (go_at_call 19; (with_reducible refine (HB0.out _ HN.out.h0).mono ?_); rintro e_ w1 ⟨rfl, hb⟩; clear y0 y1 y2; replace HN := Lib.hid (HN.out.below hb); clear hb; have y0 := HN.out.c0; have y1 := HN.out.c1; have y2 := HN.out.c2)
      | (go_at_call 19; (with_reducible refine (HB1.out _ HN.out.h1).mono ?_); rintro e_ w1 ⟨rfl, hb⟩; clear y0 y1 y2; replace HN := Lib.hid (HN.out.below hb); clear hb; have y0 := HN.out.c0; have y1 := HN.out.c1; have y2 := HN.out.c2)
      | (go_at_call 60; (with_reducible refine (HT0.out _ HN.out.h0).mono ?_); rintro e_ w1 ⟨rfl, hb⟩; clear y0 y1 y2; replace HN := Lib.hid (HN.out.below hb); clear hb; have y0 := HN.out.c0; have y1 := HN.out.c1; have y2 := HN.out.c2)
      | (go_at_call 60; (with_reducible refine (HT1.out _ HN.out.h1).mono ?_); rintro e_ w1 ⟨rfl, hb⟩; clear y0 y1 y2; replace HN := Lib.hid (HN.out.below hb); clear hb; have y0 := HN.out.c0; have y1 := HN.out.c1; have y2 := HN.out.c2)
      | (go_at_call 33; (with_reducible refine (HC1.out _ HN.out.h1 HN.out.h0).mono ?_); rintro e_ w1 ⟨rfl, hb⟩; clear y0 y1 y2; replace HN := Lib.hid (HN.out.below hb); clear hb; have y0 := HN.out.c0; have y1 := HN.out.c1; have y2 := HN.out.c2)
      | (go_at_call 33; (with_reducible refine (HC2.out _ HN.out.h2 HN.out.h0).mono ?_); rintro e_ w1 ⟨rfl, hb⟩; clear y0 y1 y2; replace HN := Lib.hid (HN.out.below hb); clear hb; have y0 := HN.out.c0; have y1 := HN.out.c1; have y2 := HN.out.c2))
    go_ret
    exact ⟨rfl, HN.out.bel⟩
  by_cases g2 : 1024 < z
  · refine K 50 (by unfold keyR; rw [if_neg (by omega)]) ?_
    clear c1' c2' hz hy hq1 hq2 K
    go_enter Try.func20, Try.ntmps20
    go_wp2_with (first
      | (go_at_call 19; (with_reducible refine (HB0.out _ HN.out.h0).mono ?_); rintro e_ w1 ⟨rfl, hb⟩; clear y0 y1 y2; replace HN := Lib.hid (HN.out.below hb); clear hb; have y0 := HN.out.c0; have y1 := HN.out.c1; have y2 := HN.out.c2)
      | (go_at_call 19; (with_reducible refine (HB1.out _ HN.out.h1).mono ?_); rintro e_ w1 ⟨rfl, hb⟩; clear y0 y1 y2; replace HN := Lib.hid (HN.out.below hb); clear hb; have y0 := HN.out.c0; have y1 := HN.out.c1; have y2 := HN.out.c2)
      | (go_at_call 60; (with_reducible refine (HT0.out _ HN.out.h0).mono ?_); rintro e_ w1 ⟨rfl, hb⟩; clear y0 y1 y2; replace HN := Lib.hid (HN.out.below hb); clear hb; have y0 := HN.out.c0; have y1 := HN.out.c1; have y2 := HN.out.c2)
      | (go_at_call 60; (with_reducible refine (HT1.out _ HN.out.h1).mono ?_); rintro e_ w1 ⟨rfl, hb⟩; clear y0 y1 y2; replace HN := Lib.hid (HN.out.below hb); clear hb; have y0 := HN.out.c0; have y1 := HN.out.c1; have y2 := HN.out.c2)
      | (go_at_call 33; (with_reducible refine (HC1.out _ HN.out.h1 HN.out.h0).mono ?_); rintro e_ w1 ⟨rfl, hb⟩; clear y0 y1 y2; replace HN := Lib.hid (HN.out.below hb); clear hb; have y0 := HN.out.c0; have y1 := HN.out.c1; have y2 := HN.out.c2)
      | (go_at_call 33; (with_reducible refine (HC2.out _ HN.out.h2 HN.out.h0).mono ?_); rintro e_ w1 ⟨rfl, hb⟩; clear y0 y1 y2; replace HN := Lib.hid (HN.out.below hb); clear hb; have y0 := HN.out.c0; have y1 := HN.out.c1; have y2 := HN.out.c2))
    go_ret
    exact ⟨rfl, HN.out.bel⟩
  rcases Nat.mod_two_eq_zero_or_one (nI n) with g3 | g3
  · rw [g3] at HT0
    refine K 50 (by unfold keyR; rw [if_neg (by omega)]) ?_
    clear c1' c2' hz hy hq1 hq2 K
    go_enter Try.func20, Try.ntmps20
    go_wp2_with (first
      | (go_at_call 19; (with_reducible refine (HB0.out _ HN.out.h0).mono ?_); rintro e_ w1 ⟨rfl, hb⟩; clear y0 y1 y2; replace HN := Lib.hid (HN.out.below hb); clear hb; have y0 := HN.out.c0; have y1 := HN.out.c1; have y2 := HN.out.c2)
      | (go_at_call 19; (with_reducible refine (HB1.out _ HN.out.h1).mono ?_); rintro e_ w1 ⟨rfl, hb⟩; clear y0 y1 y2; replace HN := Lib.hid (HN.out.below hb); clear hb; have y0 := HN.out.c0; have y1 := HN.out.c1; have y2 := HN.out.c2)
      | (go_at_call 60; (with_reducible refine (HT0.out _ HN.out.h0).mono ?_); rintro e_ w1 ⟨rfl, hb⟩; clear y0 y1 y2; replace HN := Lib.hid (HN.out.below hb); clear hb; have y0 := HN.out.c0; have y1 := HN.out.c1; have y2 := HN.out.c2)
      | (go_at_call 60; (with_reducible refine (HT1.out _ HN.out.h1).mono ?_); rintro e_ w1 ⟨rfl, hb⟩; clear y0 y1 y2; replace HN := Lib.hid (HN.out.below hb); clear hb; have y0 := HN.out.c0; have y1 := HN.out.c1; have y2 := HN.out.c2)
      | (go_at_call 33; (with_reducible refine (HC1.out _ HN.out.h1 HN.out.h0).mono ?_); rintro e_ w1 ⟨rfl, hb⟩; clear y0 y1 y2; replace HN := Lib.hid (HN.out.below hb); clear hb; have y0 := HN.out.c0; have y1 := HN.out.c1; have y2 := HN.out.c2)
      | (go_at_call 33; (with_reducible refine (HC2.out _ HN.out.h2 HN.out.h0).mono ?_); rintro e_ w1 ⟨rfl, hb⟩; clear y0 y1 y2; replace HN := Lib.hid (HN.out.below hb); clear hb; have y0 := HN.out.c0; have y1 := HN.out.c1; have y2 := HN.out.c2))
    go_ret
    exact ⟨rfl, HN.out.bel⟩
  rw [g3] at HT0
  rcases Nat.mod_two_eq_zero_or_one (nI e) with g4 | g4
  · rw [g4] at HT1
    refine K 50 (by unfold keyR; rw [if_neg (by omega)]) ?_
    clear c1' c2' hz hy hq1 hq2 K
    go_enter Try.func20, Try.ntmps20
    go_wp2_with (first
      | (go_at_call 19; (with_reducible refine (HB0.out _ HN.out.h0).mono ?_); rintro e_ w1 ⟨rfl, hb⟩; clear y0 y1 y2; replace HN := Lib.hid (HN.out.below hb); clear hb; have y0 := HN.out.c0; have y1 := HN.out.c1; have y2 := HN.out.c2)
      | (go_at_call 19; (with_reducible refine (HB1.out _ HN.out.h1).mono ?_); rintro e_ w1 ⟨rfl, hb⟩; clear y0 y1 y2; replace HN := Lib.hid (HN.out.below hb); clear hb; have y0 := HN.out.c0; have y1 := HN.out.c1; have y2 := HN.out.c2)
      | (go_at_call 60; (with_reducible refine (HT0.out _ HN.out.h0).mono ?_); rintro e_ w1 ⟨rfl, hb⟩; clear y0 y1 y2; replace HN := Lib.hid (HN.out.below hb); clear hb; have y0 := HN.out.c0; have y1 := HN.out.c1; have y2 := HN.out.c2)
      | (go_at_call 60; (with_reducible refine (HT1.out _ HN.out.h1).mono ?_); rintro e_ w1 ⟨rfl, hb⟩; clear y0 y1 y2; replace HN := Lib.hid (HN.out.below hb); clear hb; have y0 := HN.out.c0; have y1 := HN.out.c1; have y2 := HN.out.c2)
      | (go_at_call 33; (with_reducible refine (HC1.out _ HN.out.h1 HN.out.h0).mono ?_); rintro e_ w1 ⟨rfl, hb⟩; clear y0 y1 y2; replace HN := Lib.hid (HN.out.below hb); clear hb; have y0 := HN.out.c0; have y1 := HN.out.c1; have y2 := HN.out.c2)
      | (go_at_call 33; (with_reducible refine (HC2.out _ HN.out.h2 HN.out.h0).mono ?_); rintro e_ w1 ⟨rfl, hb⟩; clear y0 y1 y2; replace HN := Lib.hid (HN.out.below hb); clear hb; have y0 := HN.out.c0; have y1 := HN.out.c1; have y2 := HN.out.c2))
    go_ret
    exact ⟨rfl, HN.out.bel⟩
  rw [g4] at HT1
  by_cases g5 : y < 2
  · refine K 50 (by unfold keyR; rw [if_neg (by omega)]) ?_
    clear c1' c2' hz hy hq1 hq2 K
    go_enter Try.func20, Try.ntmps20
    go_wp2_with (first
      | (go_at_call 19; (with_reducible refine (HB0.out _ HN.out.h0).mono ?_); rintro e_ w1 ⟨rfl, hb⟩; clear y0 y1 y2; replace HN := Lib.hid (HN.out.below hb); clear hb; have y0 := HN.out.c0; have y1 := HN.out.c1; have y2 := HN.out.c2)
      | (go_at_call 19; (with_reducible refine (HB1.out _ HN.out.h1).mono ?_); rintro e_ w1 ⟨rfl, hb⟩; clear y0 y1 y2; replace HN := Lib.hid (HN.out.below hb); clear hb; have y0 := HN.out.c0; have y1 := HN.out.c1; have y2 := HN.out.c2)
      | (go_at_call 60; (with_reducible refine (HT0.out _ HN.out.h0).mono ?_); rintro e_ w1 ⟨rfl, hb⟩; clear y0 y1 y2; replace HN := Lib.hid (HN.out.below hb); clear hb; have y0 := HN.out.c0; have y1 := HN.out.c1; have y2 := HN.out.c2)
      | (go_at_call 60; (with_reducible refine (HT1.out _ HN.out.h1).mono ?_); rintro e_ w1 ⟨rfl, hb⟩; clear y0 y1 y2; replace HN := Lib.hid (HN.out.below hb); clear hb; have y0 := HN.out.c0; have y1 := HN.out.c1; have y2 := HN.out.c2)
      | (go_at_call 33; (with_reducible refine (HC1.out _ HN.out.h1 HN.out.h0).mono ?_); rintro e_ w1 ⟨rfl, hb⟩; clear y0 y1 y2; replace HN := Lib.hid (HN.out.below hb); clear hb; have y0 := HN.out.c0; have y1 := HN.out.c1; have y2 := HN.out.c2)
      | (go_at_call 33; (with_reducible refine (HC2.out _ HN.out.h2 HN.out.h0).mono ?_); rintro e_ w1 ⟨rfl, hb⟩; clear y0 y1 y2; replace HN := Lib.hid (HN.out.below hb); clear hb; have y0 := HN.out.c0; have y1 := HN.out.c1; have y2 := HN.out.c2))
    go_ret
    exact ⟨rfl, HN.out.bel⟩
  by_cases g6 : 0 ≤ q1
  · refine K 50 (by unfold keyR; rw [if_neg (by have := c1'.1 g6; omega)]) ?_
    clear c1' c2' hz hy hq1 hq2 K
    go_enter Try.func20, Try.ntmps20
    go_wp2_with (first
      | (go_at_call 19; (with_reducible refine (HB0.out _ HN.out.h0).mono ?_); rintro e_ w1 ⟨rfl, hb⟩; clear y0 y1 y2; replace HN := Lib.hid (HN.out.below hb); clear hb; have y0 := HN.out.c0; have y1 := HN.out.c1; have y2 := HN.out.c2)
      | (go_at_call 19; (with_reducible refine (HB1.out _ HN.out.h1).mono ?_); rintro e_ w1 ⟨rfl, hb⟩; clear y0 y1 y2; replace HN := Lib.hid (HN.out.below hb); clear hb; have y0 := HN.out.c0; have y1 := HN.out.c1; have y2 := HN.out.c2)
      | (go_at_call 60; (with_reducible refine (HT0.out _ HN.out.h0).mono ?_); rintro e_ w1 ⟨rfl, hb⟩; clear y0 y1 y2; replace HN := Lib.hid (HN.out.below hb); clear hb; have y0 := HN.out.c0; have y1 := HN.out.c1; have y2 := HN.out.c2)
      | (go_at_call 60; (with_reducible refine (HT1.out _ HN.out.h1).mono ?_); rintro e_ w1 ⟨rfl, hb⟩; clear y0 y1 y2; replace HN := Lib.hid (HN.out.below hb); clear hb; have y0 := HN.out.c0; have y1 := HN.out.c1; have y2 := HN.out.c2)
      | (go_at_call 33; (with_reducible refine (HC1.out _ HN.out.h1 HN.out.h0).mono ?_); rintro e_ w1 ⟨rfl, hb⟩; clear y0 y1 y2; replace HN := Lib.hid (HN.out.below hb); clear hb; have y0 := HN.out.c0; have y1 := HN.out.c1; have y2 := HN.out.c2)
      | (go_at_call 33; (with_reducible refine (HC2.out _ HN.out.h2 HN.out.h0).mono ?_); rintro e_ w1 ⟨rfl, hb⟩; clear y0 y1 y2; replace HN := Lib.hid (HN.out.below hb); clear hb; have y0 := HN.out.c0; have y1 := HN.out.c1; have y2 := HN.out.c2))
    go_ret
    exact ⟨rfl, HN.out.bel⟩
  by_cases g7 : 0 ≤ q2
  · refine K 50 (by unfold keyR; rw [if_neg (by have := c2'.1 g7; omega)]) ?_
    clear c1' c2' hz hy hq1 hq2 K
    go_enter Try.func20, Try.ntmps20
    go_wp2_with (first
      | (go_at_call 19; (with_reducible refine (HB0.out _ HN.out.h0).mono ?_); rintro e_ w1 ⟨rfl, hb⟩; clear y0 y1 y2; replace HN := Lib.hid (HN.out.below hb); clear hb; have y0 := HN.out.c0; have y1 := HN.out.c1; have y2 := HN.out.c2)
      | (go_at_call 19; (with_reducible refine (HB1.out _ HN.out.h1).mono ?_); rintro e_ w1 ⟨rfl, hb⟩; clear y0 y1 y2; replace HN := Lib.hid (HN.out.below hb); clear hb; have y0 := HN.out.c0; have y1 := HN.out.c1; have y2 := HN.out.c2)
      | (go_at_call 60; (with_reducible refine (HT0.out _ HN.out.h0).mono ?_); rintro e_ w1 ⟨rfl, hb⟩; clear y0 y1 y2; replace HN := Lib.hid (HN.out.below hb); clear hb; have y0 := HN.out.c0; have y1 := HN.out.c1; have y2 := HN.out.c2)
      | (go_at_call 60; (with_reducible refine (HT1.out _ HN.out.h1).mono ?_); rintro e_ w1 ⟨rfl, hb⟩; clear y0 y1 y2; replace HN := Lib.hid (HN.out.below hb); clear hb; have y0 := HN.out.c0; have y1 := HN.out.c1; have y2 := HN.out.c2)
      | (go_at_call 33; (with_reducible refine (HC1.out _ HN.out.h1 HN.out.h0).mono ?_); rintro e_ w1 ⟨rfl, hb⟩; clear y0 y1 y2; replace HN := Lib.hid (HN.out.below hb); clear hb; have y0 := HN.out.c0; have y1 := HN.out.c1; have y2 := HN.out.c2)
      | (go_at_call 33; (with_reducible refine (HC2.out _ HN.out.h2 HN.out.h0).mono ?_); rintro e_ w1 ⟨rfl, hb⟩; clear y0 y1 y2; replace HN := Lib.hid (HN.out.below hb); clear hb; have y0 := HN.out.c0; have y1 := HN.out.c1; have y2 := HN.out.c2))
    go_ret
    exact ⟨rfl, HN.out.bel⟩
  · refine K 0 (if_pos ⟨by omega, by omega, g3, g4, by omega, Nat.lt_of_not_le fun h => g6 (c1'.2 h), Nat.lt_of_not_le fun h => g7 (c2'.2 h)⟩) ?_
    clear c1' c2' hz hy hq1 hq2 K
    go_enter Try.func20, Try.ntmps20
    go_wp2_with (first
      | (go_at_call 19; (with_reducible refine (HB0.out _ HN.out.h0).mono ?_); rintro e_ w1 ⟨rfl, hb⟩; clear y0 y1 y2; replace HN := Lib.hid (HN.out.below hb); clear hb; have y0 := HN.out.c0; have y1 := HN.out.c1; have y2 := HN.out.c2)
      | (go_at_call 19; (with_reducible refine (HB1.out _ HN.out.h1).mono ?_); rintro e_ w1 ⟨rfl, hb⟩; clear y0 y1 y2; replace HN := Lib.hid (HN.out.below hb); clear hb; have y0 := HN.out.c0; have y1 := HN.out.c1; have y2 := HN.out.c2)
      | (go_at_call 60; (with_reducible refine (HT0.out _ HN.out.h0).mono ?_); rintro e_ w1 ⟨rfl, hb⟩; clear y0 y1 y2; replace HN := Lib.hid (HN.out.below hb); clear hb; have y0 := HN.out.c0; have y1 := HN.out.c1; have y2 := HN.out.c2)
      | (go_at_call 60; (with_reducible refine (HT1.out _ HN.out.h1).mono ?_); rintro e_ w1 ⟨rfl, hb⟩; clear y0 y1 y2; replace HN := Lib.hid (HN.out.below hb); clear hb; have y0 := HN.out.c0; have y1 := HN.out.c1; have y2 := HN.out.c2)
      | (go_at_call 33; (with_reducible refine (HC1.out _ HN.out.h1 HN.out.h0).mono ?_); rintro e_ w1 ⟨rfl, hb⟩; clear y0 y1 y2; replace HN := Lib.hid (HN.out.below hb); clear hb; have y0 := HN.out.c0; have y1 := HN.out.c1; have y2 := HN.out.c2)
      | (go_at_call 33; (with_reducible refine (HC2.out _ HN.out.h2 HN.out.h0).mono ?_); rintro e_ w1 ⟨rfl, hb⟩; clear y0 y1 y2; replace HN := Lib.hid (HN.out.below hb); clear hb; have y0 := HN.out.c0; have y1 := HN.out.c1; have y2 := HN.out.c2))
    go_ret
    exact ⟨rfl, HN.out.bel⟩
end
end Go.Proofs.Ytdmglajfmfjmlaa
namespace Go.Proofs.Ytdmglajfmfjmlaa
set_option linter.unusedSimpArgs false
set_option linter.unusedVariables false
set_option maxRecDepth 100000
open Go.RowKit
def headArr (n m : Nat) : Array Bool := Array.ofFn (n := m) fun i => decide (i.val < n)
theorem headArr_of {n m : Nat} {l : Array Bool} (hs : l.size = m) (h1 : ∀ i, i < n → i < m → l.getD i false = true) (h2 : ∀ i, n ≤ i → i < m → l.getD i true = false) : l = headArr n m := by
  apply Array.ext
  · simp [headArr, hs]
  · intro i hi hj
    have him : i < m := by simpa [hs] using hi
    simp only [headArr, Array.getElem_ofFn]
    by_cases hin : i < n
    · have := h1 i hin him
      simp only [Array.getD, hi, dif_pos] at this
      simpa [hin] using this
    · have := h2 i (by omega) him
      simp only [Array.getD, hi, dif_pos] at this
      simpa [hin] using this
section
variable {P : Program} {ops : List Oper} {w0 : World} {a0 : Act} {Q : Exit → Act → World → Prop}
theorem told_head (n : Nat) (GG : Nat → GFact) (hback : backB ops = true) (hnd : (dsts (ops.take n)).Nodup) (hs : Region.sinkB .any ops.toArray n = true) (hc : Region.chainB .any ops.toArray n = true) (hn : n < ops.length)
    (hseq : Region.seqB .any ops.toArray (ops.length - n) n (headArr n ops.length) = true)
    (hG : ∀ j o, j < n → ops[j]? = some o → Stays (GG j) ∧ ∀ y w, Below w0.heap.size w0 w → depsOf GG y w o.after.toList → toldAt P ops.toArray o (putAll (ops.take n) 0 y a0) w (GG j))
    (hQ : ∀ y w, Below w0.heap.size w0 w → (∀ i, i < n → GG i (y i) w) → wpList P ops.toArray Q (ops.drop n) (putAll (ops.take n) 0 y a0) w) :
    ∀ (fuel : Nat) (listed : Array Bool) (y : Nat → Value) (w : World), HeadInv .any ops.toArray n listed → listed.toList.countP (! ·) = fuel → Below w0.heap.size w0 w → (∀ i, i < n → listed.getD i false = true → GG i (y i) w) →
      wpAny P .any ops.toArray Q fuel listed (putAll (ops.take n) 0 y a0) w := by
  intro fuel
  induction fuel with
  | zero =>
    intro listed y w inv hcnt _ _
    exfalso
    have h1 := inv.tail n (Nat.le_refl _) (by simpa using hn)
    have hlt : n < listed.size := by rw [inv.size]; simpa using hn
    have : 0 < listed.toList.countP (! ·) := List.countP_pos_iff.2 ⟨listed[n], by simp, by simpa [Array.getD, hlt] using h1⟩
    omega
  | succ fuel ih =>
    intro listed y w inv hcnt hb hg
    have hsz : listed.size = ops.length := by simpa using inv.size
    by_cases hall : ∀ i, i < n → listed.getD i false = true
    · have hl : listed = headArr n ops.length := headArr_of hsz (fun i hi _ => hall i hi) (fun i h1 h2 => inv.tail i h1 (by simpa using h2))
      have hdl : (ops.drop n).length = fuel + 1 := by
        rw [← hcnt, hl, List.length_drop]
        have : (headArr n ops.length).toList.countP (! ·) = ops.length - n := by
          have e : (headArr n ops.length).toList = (List.replicate n true) ++ List.replicate (ops.length - n) false := by
            apply List.ext_getElem
            · simp [headArr]; omega
            · intro i h1 h2
              simp only [headArr, Array.toList_ofFn, List.getElem_ofFn]
              by_cases hin : i < n
              · rw [List.getElem_append_left (by simpa using hin)]; simp [hin]
              · rw [List.getElem_append_right (by simpa using hin)]; simp [hin]
          rw [e, List.countP_append, List.countP_replicate, List.countP_replicate]
          simp
        omega
      have := wpAny_of_seq (md := .any) (Q' := Q) (ops.drop n) n listed (putAll (ops.take n) 0 y a0) w (fun j => by simp [List.getElem?_drop]) (by rw [List.length_drop, hl]; exact hseq) (hQ y w hb fun i hi => hg i hi (hall i hi))
      rwa [hdl] at this
    · -- some of the first is not done yet
      obtain ⟨i0, hi0, hl0⟩ : ∃ i, i < n ∧ listed.getD i false = false := by
        apply Classical.byContradiction
        intro hne
        exact hall fun i hi => by
          cases hv : listed.getD i false with
          | true => rfl
          | false => exact absurd ⟨i, hi, hv⟩ hne
      have hun : listed.getD i0 true = false := getD_in (by rw [hsz]; omega) hl0
      have hwait := tail_waits hs hc (by simpa using hn) inv (n - i0) i0 rfl hi0 hun
      have hne : Region.ready .any ops.toArray listed ≠ [] := by
        intro hr
        have key : ∀ m, m ≤ ops.length → ∀ j, j < m → listed.getD j false = true := by
          intro m
          induction m with
          | zero => intro _ j hj; omega
          | succ m ih2 =>
            intro hm j hj
            rcases Nat.lt_or_ge j m with h1 | h1
            · exact ih2 (by omega) j h1
            · obtain rfl : j = m := by omega
              cases hv : listed.getD j false with
              | true => rfl
              | false =>
                have ho : ops[j]? = some ops[j] := List.getElem?_eq_getElem (by omega)
                have hbk := hback
                unfold backB at hbk
                rw [List.all_eq_true] at hbk
                have hbj := hbk j (by simp; omega)
                rw [ho] at hbj
                simp only [Option.map_some, Option.getD_some, List.all_eq_true] at hbj
                have : j ∈ Region.ready .any ops.toArray listed := mem_ready.2 ⟨getD_in (by rw [hsz]; omega) hv, ops[j], by simp [ho], fun e he hbe => by
                  have h2 := hbj e (by simpa using he)
                  rw [hbe] at h2
                  simp only [Bool.not_true, Bool.false_or, decide_eq_true_eq] at h2
                  exact ih2 (by omega) _ h2⟩
                rw [hr] at this
                cases this
        have := key ops.length (Nat.le_refl _) i0 (by omega)
        rw [hl0] at this
        cases this
      refine ⟨fun h => absurd h hne, fun i hi => ?_⟩
      have hin : i < n := by
        rcases Nat.lt_or_ge i n with h | h
        · exact h
        · exact absurd hi (hwait i h)
      obtain ⟨hl, o, ho, hed⟩ := mem_ready.1 hi
      have ho' : ops[i]? = some o := by simpa using ho
      have hi' : i < listed.size := by rw [hsz]; omega
      have hli : listed.toList[i]'(by simpa using hi') = false := by simpa [Array.getD, hi'] using hl
      have hcnt2 : (listed.setIfInBounds i true).toList.countP (! ·) = fuel := by
        rw [Array.toList_setIfInBounds, List.countP_set (by simpa using hi')]
        simp only [hli, Bool.not_false, if_true, Bool.not_true, Bool.false_eq_true, if_false, Nat.add_zero]
        omega
      have hlt : ∀ e ∈ o.after.toList, Region.binds .any e = true → e.on < n := by
        intro e he hbe
        have hbk := hback
        unfold backB at hbk
        rw [List.all_eq_true] at hbk
        have hbj := hbk i (by simp; omega)
        rw [ho'] at hbj
        simp only [Option.map_some, Option.getD_some, List.all_eq_true] at hbj
        have h2 := hbj e he
        rw [hbe] at h2
        simp only [Bool.not_true, Bool.false_or, decide_eq_true_eq] at h2
        omega
      have hstep := hG i o hin ho'
      have ht := hstep.2 y w hb (depsOf_all fun e he hbe => hg _ (hlt e (by simpa using he) hbe) (hed e (by simpa using he) hbe))
      have hot : (ops.take n)[i]? = some o := by rw [List.getElem?_take, if_pos hin]; exact ho'
      have hnext : ∀ v w', Below w.heap.size w w' → GG i v w' → wpAny P .any ops.toArray Q fuel (listed.setIfInBounds i true) ((putAll (ops.take n) 0 y a0).put o.dst v) w' := by
        intro v w' hbw hgv
        have e : (putAll (ops.take n) 0 y a0).put o.dst v = putAll (ops.take n) 0 (updV y i v) a0 := by
          cases hd : o.dst with
          | none => show putAll (ops.take n) 0 y a0 = _; have := putAll_none (ops.take n) 0 i y a0 o v hot hd; simpa using this
          | some d => have := putAll_upd (ops.take n) 0 i y a0 o v hnd hot (by rw [hd]; simp); rw [hd] at this; simpa using this
        rw [e]
        refine ih _ _ _ (inv.set hi hin) hcnt2 (hb.trans (hbw.mono hb.size)) fun j hjn hj => ?_
        by_cases hji : j = i
        · subst hji
          have : updV y j v j = v := by unfold updV; rw [if_pos rfl]
          rw [this]; exact hgv
        · have e2 : updV y i v j = y j := by unfold updV; rw [if_neg hji]
          rw [e2]
          have hj2 : listed.getD j false = true := by
            rw [getD_set_ne false (fun h => hji h.symm)] at hj
            exact hj
          exact (hG j ops[j] hjn (List.getElem?_eq_getElem (by omega))).1 _ _ _ hbw (hg j hjn hj2)
      unfold wpOp
      rw [ho]
      show if Region.wanted o (yielded ops.toArray (putAll (ops.take n) 0 y a0).tmps) = true then _ else _
      split
      · rename_i hw
        exact .inl (told_wp hw ht hnext)
      · rename_i hw
        refine hnext undef w (Below.refl _ _) ?_
        unfold toldAt at ht
        rwa [if_neg hw] at ht
def tailB (ops : List Oper) (n : Nat) : Bool := backB ops && nodupB (dsts (ops.take n)) && Region.sinkB .any ops.toArray n && Region.chainB .any ops.toArray n && decide (n < ops.length) && Region.seqB .any ops.toArray (ops.length - n) n (headArr n ops.length)
theorem region_told_tail {id : Nat} (n : Nat) (F : (Nat → Value) → Act) (hm : P.follows .mixedOrders = true) (hB : tailB ops n = true) (hF : (fun y => putAll (ops.take n) 0 y a0) = F)
    (h : Told P ops.toArray w0 F (fun _ a w => wpList P ops.toArray Q (ops.drop n) a w) 0 (fun _ => GTrue) (ops.take n)) : (Code.region id ops.toArray true).wp P Q a0 w0 := by
  subst hF
  simp only [tailB, Bool.and_eq_true, decide_eq_true_eq] at hB
  obtain ⟨⟨⟨⟨⟨h1, h2⟩, h3⟩, h4⟩, h5⟩, h6⟩ := hB
  have htl : (ops.take n).length = n := by rw [List.length_take]; omega
  obtain ⟨GG, _, g2, g3⟩ := told_family (ops.take n) 0 _ (fun _ _ => rfl) h
  refine wp_region_any hm ?_
  have := told_head (P := P) (w0 := w0) (a0 := a0) (Q := Q) n GG h1 (nodup_of h2) h3 h4 h5 h6
    (fun j o hj ho => by simpa using g2 j o (by rw [List.getElem?_take, if_pos hj]; exact ho)) (fun y w hb hg => g3 y w hb (by simpa [htl] using hg))
    ops.toArray.size (Array.replicate ops.toArray.size false) (nowAt (ops.take n) a0) { w0 with drawn := w0.drawn + 1 }
    ⟨by simp, fun j oj _ hl => (by rw [getD_replicate_false] at hl; cases hl), fun t _ ht => getD_in (by simpa using ht) (getD_replicate_false _ _)⟩
    (by simp [List.countP_replicate]) (Below.drew (Below.refl _ _)) (fun i _ hi => by rw [getD_replicate_false] at hi; cases hi)
  rwa [putAll_now (ops.take n) a0 (ops.take n) 0 (by simp)] at this
end
end Go.Proofs.Ytdmglajfmfjmlaa
namespace Go.Proofs.Ytdmglajfmfjmlaa
set_option linter.unusedSimpArgs false
set_option linter.unusedVariables false
set_option maxRecDepth 100000
open Go.RowKit Go.Proofs.YtdmglajfmfjmlaaW.PrintWords Go.Proofs.YtdmglajfmfjmlaaW.PrintLast Go.Proofs.YtdmglajfmfjmlaaW.PrintMore
attribute [local go_sem] toldUpon_value toldUpon_skip toldUpon_enter
def GOW (k : IntKind) (e : TypeId) (base : Nat) (l : List Int) : GFact := fun v w => ∃ A c, v = .slice A l.length c ∧ Own k e w base A l.length c (toN l)
theorem GOW.stays (k : IntKind) (e : TypeId) (base : Nat) (l : List Int) : Stays (GOW k e base l) := fun _ _ _ hb ⟨A, c, he, ho⟩ => ⟨A, c, he, ho.below hb⟩
theorem GOW.lower {k : IntKind} {e : TypeId} {base b' : Nat} {l : List Int} {v : Value} {w : World} (h : GOW k e base l v w) (hb : b' ≤ base) : GOW k e b' l v w := by
  obtain ⟨A, c, he, ho⟩ := h
  exact ⟨A, c, he, ho.lower hb⟩
theorem Own.lowL {k : IntKind} {e : TypeId} {w : World} {base n c : Nat} {A : Option Addr} {xs : List Nat} (h : Own k e w base A n c xs) {p : Addr} (hp : p.block < base) (u : Value) : Own k e (w.setCell p u) base A n c xs := by
  refine ⟨h.1, ?_⟩
  rcases h.2 with hn | ⟨g, cap, cur, h1, hg, hh, rest⟩
  · exact .inl hn
  · exact .inr ⟨g, cap, cur, h1, hg, (Below.heap_setCell w p u g (by omega)).trans hh, rest⟩
def GTU (l : List Int) : GFact := fun v w => ∃ u, v = .tuple #[u, .int .i64 0] ∧ LI .u64 w u l
theorem GTU.stays (l : List Int) : Stays (GTU l) := fun _ _ _ hb ⟨u, h, hl⟩ => ⟨u, h, hl.below hb⟩
section
variable {w : World} {v0 v1 v2 vt vs vx : Value} {n e d t s x : List Int}
theorem write_lo {base : Nat} (hbase : base ≤ w.heap.size) (h0 : LI .u64 w v0 n) (on : okN 262144 n) (z : Int) {r : List Int × Int} (hr : writeR (nI n) z = r) (ho : okB r.1) : Calls Try.prog 91 #[v0, .int .i64 z] w fun e_ w' => ∃ v, e_ = .returned (.tuple #[v, .int .i64 r.2]) ∧ Below w.heap.size w w' ∧ GOW .u8 5 base r.1 v w' := by
  obtain ⟨A0, c0, rfl, h0, k0⟩ := h0
  refine (write_giv (r1 := r.1) (r2 := r.2) h0 k0 (by rw [if_pos on, hr])).mono ?_
  rintro e_ w' ⟨v, rfl, hR, hb⟩
  obtain ⟨A, c, rfl, ho⟩ := Own.of_R hR (okB_pos ho)
  exact ⟨_, rfl, hb, A, c, rfl, ho.lower hbase⟩
theorem GOW.li {k : IntKind} {e : TypeId} {base : Nat} {l : List Int} {v : Value} {w : World} (h : GOW k e base l v w) (h0 : ∀ x ∈ l, 0 ≤ x) : LI k w v l := by
  obtain ⟨A, c, rfl, ho⟩ := h
  exact LI.of_Rdl ho.rd h0
theorem writeR_work {N x y : Nat} (h8 : blen N ≤ 1000000) (hN : N ≠ 0) (hz : szN N ≤ 65536) : writeR (powM x y N) ((szN N : Nat) : Int) = (beB (powM x y N) (szN N), 0) := by
  have hlt : powM x y N < N := powM_lt (by omega)
  have hbl := blen_mono (Nat.le_of_lt hlt)
  unfold writeR
  have hz2 : blen N ≤ 8 * szN N := by unfold szN; omega
  rw [if_neg (by omega), if_neg (by omega), Int.toNat_natCast]
set_option maxHeartbeats 2000000 in
theorem work_lo (h0 : LI .u64 w v0 n) (h1 : LI .u64 w v1 e) (h2 : LI .u64 w v2 d) (hs : LI .u8 w vs s) (hx : LI .u64 w vx x) (on : okN 64 n) (ox : okN 64 x) (os : okB s) (ls : s.length ≤ 32768) (hn : nI n ≠ 0) :
    Calls Try.prog 49 #[.agg #[v0, v1, v2], vs, vx] w fun e_ w' => ∃ v, e_ = .returned v ∧ Below w.heap.size w w' ∧ GOW .u8 5 w.heap.size (workR (nI n) (nI x) s) v w' := by
  obtain ⟨A0, c0, rfl, h0⟩ := h0.form
  obtain ⟨A1, c1, rfl, h1⟩ := h1.form
  obtain ⟨A2, c2, rfl, h2⟩ := h2.form
  have HN := Lib.hid (KB.new (t := 26) h0 h1 h2)
  obtain ⟨wa, hwa⟩ : ∃ z, w.alloc (.cells #[.slice A0 n.length c0, .slice A1 e.length c1, .slice A2 d.length c2] 26) = z := ⟨_, rfl⟩
  rw [hwa] at HN
  clear h0 h1 h2
  have HSX := Lib.hid (And.intro (hs.below HN.out.bel) (hx.below HN.out.bel))
  have hb4 := blen_okN on
  have hzz : szN (nI n) ≤ 65536 := by unfold szN; omega
  have HR := Lib.hid (fun w' (h : Below wa.heap.size wa w') => read_li (HSX.out.1.below h) os (by omega))
  have lr : okN 4096 (ofN (beV s)) := okN_ofN (ln_beV os (by omega))
  have HP := Lib.hid (fun w' v (h : Below wa.heap.size wa w') (hv : LI .u64 w' v (ofN (beV s))) => pow_li hv (HSX.out.2.below h) (HN.out.below h).h0 lr (ox.le (by omega)) (on.le (by omega)))
  rw [nI_ofN, powR_pos hn] at HP
  have lp : okN 262144 (ofN (powM (beV s) (nI x) (nI n))) := okN_ofN (Nat.le_trans (ln_mono (Nat.le_of_lt (powM_lt (by omega)))) (Nat.le_trans (ln_nI on) (by omega)))
  have HW := Lib.hid (fun w' v (hbs : w.heap.size ≤ w'.heap.size) (hv : LI .u64 w' v (ofN (powM (beV s) (nI x) (nI n)))) => write_lo hbs hv lp ((szN (nI n) : Nat) : Int) (r := (beB (powM (beV s) (nI x) (nI n)) (szN (nI n)), 0)) (by rw [nI_ofN]; exact writeR_work (by omega) hn hzz) (okB_beB _ _))
  have HZ := Lib.hid (fun w' (h : Below wa.heap.size wa w') => size_li (HN.out.below h).h0 (HN.out.below h).h1 (HN.out.below h).h2 on)
  unfold workR
  generalize beB (powM (beV s) (nI x) (nI n)) (szN (nI n)) = OUT at HW ⊢
  generalize ofN (powM (beV s) (nI x) (nI n)) = PW at HP HW lp
  generalize ofN (beV s) = RD at HR HP lr
  generalize szN (nI n) = z at HZ HW hzz
  clear hs hx hn hb4 hzz lr lp os ls on ox
  go_enter Try.func49, Try.ntmps49
  go_upto_region 1 with (fail)
  have z0 := fun w' (h : Below wa.heap.size wa w') => (HN.out.below h).c0
  (refine region_told _ (by kernel_rfl) (by kernel_rfl) (by simp only [putAll, Act.put, List.setIfInBounds_toArray, List.set_cons_zero, List.set_cons_succ, Nat.reduceAdd]; rfl) ?_)
  (refine told_step (fun v _ => v = _) (Stays.eq _) (by intro y w' hw' hd; simp only [depsOf, updG, Region.binds, Nat.reduceAdd, Nat.reduceEqDiff, if_false, if_true, and_true, true_and, forall_const, Array.toList, GTrue] at hd; (try go_split_ands); unfold toldAt; go_simp; exact ⟨Below.refl _ _, rfl⟩) ?_)
  (refine told_step (GLI .u64 RD) ( GLI.stays _ _) (by intro y w' hw' hd; simp only [depsOf, updG, Region.binds, Nat.reduceAdd, Nat.reduceEqDiff, if_false, if_true, and_true, true_and, forall_const, Array.toList, GTrue] at hd; (try go_split_ands); unfold toldAt; go_simp; refine ⟨Below.refl _ _, ?_⟩;  exact HR.out _ hw') ?_)
  (refine told_step (fun v _ => v = _) (Stays.eq _) (by intro y w' hw' hd; simp only [depsOf, updG, Region.binds, Nat.reduceAdd, Nat.reduceEqDiff, if_false, if_true, and_true, true_and, forall_const, Array.toList, GTrue] at hd; (try go_split_ands); unfold toldAt; go_simp; exact ⟨Below.refl _ _, rfl⟩) ?_)
  (refine told_step (fun v _ => v = _) (Stays.eq _) (by intro y w' hw' hd; simp only [depsOf, updG, Region.binds, Nat.reduceAdd, Nat.reduceEqDiff, if_false, if_true, and_true, true_and, forall_const, Array.toList, GTrue] at hd; (try go_split_ands); unfold toldAt; go_simp; exact ⟨Below.refl _ _, rfl⟩) ?_)
  (refine told_step (fun v _ => v = _) (Stays.eq _) (by intro y w' hw' hd; simp only [depsOf, updG, Region.binds, Nat.reduceAdd, Nat.reduceEqDiff, if_false, if_true, and_true, true_and, forall_const, Array.toList, GTrue] at hd; (try go_split_ands); unfold toldAt; go_simp; exact ⟨Below.refl _ _, rfl⟩) ?_)
  (refine told_step (GTU PW) ( GTU.stays _) (by intro y w' hw' hd; simp only [depsOf, updG, Region.binds, Nat.reduceAdd, Nat.reduceEqDiff, if_false, if_true, and_true, true_and, forall_const, Array.toList, GTrue] at hd;  obtain ⟨q1, q2⟩ := hd; unfold toldAt; go_simp; refine ⟨Below.refl _ _, ?_⟩; exact (HP.out _ _ hw' q1).mono (by rintro e_ w'' ⟨v, rfl, hb, hl⟩; exact ⟨_, rfl, hb, v, rfl, hl⟩)) ?_)
  (refine told_step (GTU PW) ( GTU.stays _) (by intro y w' hw' hd; simp only [depsOf, updG, Region.binds, Nat.reduceAdd, Nat.reduceEqDiff, if_false, if_true, and_true, true_and, forall_const, Array.toList, GTrue] at hd;  obtain ⟨u, eu, hu⟩ := hd; unfold toldAt; go_simp; exact ⟨Below.refl _ _, u, rfl, hu⟩) ?_)
  (refine told_step (GLI .u64 PW) ( GLI.stays _ _) (by intro y w' hw' hd; simp only [depsOf, updG, Region.binds, Nat.reduceAdd, Nat.reduceEqDiff, if_false, if_true, and_true, true_and, forall_const, Array.toList, GTrue] at hd;  obtain ⟨u, eu, hu⟩ := hd; unfold toldAt; go_simp; exact ⟨Below.refl _ _, hu⟩) ?_)
  (refine told_step (fun v _ => v = .int .i64 0) ( Stays.eq _) (by intro y w' hw' hd; simp only [depsOf, updG, Region.binds, Nat.reduceAdd, Nat.reduceEqDiff, if_false, if_true, and_true, true_and, forall_const, Array.toList, GTrue] at hd;  obtain ⟨⟨u, eu, hu⟩, q2⟩ := hd; unfold toldAt; go_simp; exact Below.refl _ _) ?_)
  (refine told_step (GLI .u64 PW) ( GLI.stays _ _) (by intro y w' hw' hd; simp only [depsOf, updG, Region.binds, Nat.reduceAdd, Nat.reduceEqDiff, if_false, if_true, and_true, true_and, forall_const, Array.toList, GTrue] at hd;  obtain ⟨q1, q2⟩ := hd; unfold toldAt; go_simp; first | exact Below.refl _ _ | exact ⟨Below.refl _ _, q1⟩) ?_)
  (refine told_step (fun v _ => v = _) (Stays.eq _) (by intro y w' hw' hd; simp only [depsOf, updG, Region.binds, Nat.reduceAdd, Nat.reduceEqDiff, if_false, if_true, and_true, true_and, forall_const, Array.toList, GTrue] at hd; (try go_split_ands); unfold toldAt; go_simp; exact ⟨Below.refl _ _, rfl⟩) ?_)
  (refine told_nil ?_; intro y w3 hw3 hd)
  have h9 := hd 9 (by decide)
  simp only [updG, Nat.reduceAdd, Nat.reduceEqDiff, if_false, if_true] at h9
  obtain ⟨u, hu⟩ : ∃ u, y 9 = u := ⟨_, rfl⟩
  rw [hu] at h9 ⊢
  have H9 := Lib.hid h9
  have HW3 := Lib.hid hw3
  have q0 := (HN.out.below hw3).c0
  have q1 := (HN.out.below hw3).c1
  have q2 := (HN.out.below hw3).c2
  clear hd hu h9 hw3 z0 HR HP
  go_wp2_with (first
    | (go_at_call 17; refine (HZ.out _ HW3.out).mono ?_; rintro e_ w4 ⟨rfl, hb4⟩)
    | (go_at_call 91; refine (HW.out _ _ (Nat.le_trans HN.out.bel.size (Nat.le_trans HW3.out.size hb4.size)) (LI.below H9.out hb4)).mono ?_; rintro e_ w5 ⟨v, rfl, hb5, hv⟩))
  go_ret
  have b3 := HN.out.bel.trans (HW3.out.mono HN.out.bel.size)
  have b4 := b3.trans (hb4.mono b3.size)
  exact ⟨v, rfl, b4.trans (hb5.mono b4.size), hv⟩
theorem work_li (h0 : LI .u64 w v0 n) (h1 : LI .u64 w v1 e) (h2 : LI .u64 w v2 d) (hs : LI .u8 w vs s) (hx : LI .u64 w vx x) (on : okN 64 n) (ox : okN 64 x) (os : okB s) (ls : s.length ≤ 32768) (hn : nI n ≠ 0) :
    Calls Try.prog 49 #[.agg #[v0, v1, v2], vs, vx] w (PLI .u8 (workR (nI n) (nI x) s) w) := by
  refine (work_lo h0 h1 h2 hs hx on ox os ls hn).mono ?_
  rintro e_ w' ⟨v, rfl, hb, hg⟩
  exact ⟨v, rfl, hb, hg.li (okB_pos (workR_okB _ _ _))⟩
set_option maxHeartbeats 2000000 in
theorem fits_li (h0 : LI .u64 w v0 n) (h1 : LI .u64 w v1 e) (h2 : LI .u64 w v2 d) (hs : LI .u8 w vs s) (on : okN 64 n) (os : okB s) (ls : s.length ≤ 2097152) :
    Calls Try.prog 51 #[.agg #[v0, v1, v2], vs] w (PBO (fitsR (nI n) s) w) := by
  obtain ⟨A0, c0, rfl, h0⟩ := h0.form
  obtain ⟨A1, c1, rfl, h1⟩ := h1.form
  obtain ⟨A2, c2, rfl, h2⟩ := h2.form
  have HN := Lib.hid (KB.new (t := 26) h0 h1 h2)
  obtain ⟨wa, hwa⟩ : ∃ z, w.alloc (.cells #[.slice A0 n.length c0, .slice A1 e.length c1, .slice A2 d.length c2] 26) = z := ⟨_, rfl⟩
  rw [hwa] at HN
  clear h0 h1 h2
  obtain ⟨A3, c3, rfl, hs⟩ := hs.form
  have HSX := Lib.hid (hs.below HN.out.bel)
  have HZ := Lib.hid (fun w' (h : Below wa.heap.size wa w') => size_li (HN.out.below h).h0 (HN.out.below h).h1 (HN.out.below h).h2 on)
  have HR := Lib.hid (fun w' (h : Below wa.heap.size wa w') => read_li (HSX.out.below h) os ls)
  have lr : okN 262144 (ofN (beV s)) := okN_ofN (ln_beV os (by omega))
  have HC := Lib.hid (fun w' v (h : Below wa.heap.size wa w') (hv : LI .u64 w' v (ofN (beV s))) => cmp_li hv (HN.out.below h).h0 lr (on.le (by omega)))
  rw [nI_ofN] at HC
  obtain ⟨q, hq⟩ : ∃ q : Int, cmpN (beV s) (nI n) = q := ⟨_, rfl⟩
  have hqlt : (q < 0) ↔ beV s < nI n := by rw [← hq]; unfold cmpN; split <;> (try split) <;> omega
  rw [hq] at HC
  have HQ := Lib.hid hqlt
  have K : ∀ r, (fitsR (nI n) s = r) → Calls Try.prog 51 #[.agg #[.slice A0 n.length c0, .slice A1 e.length c1, .slice A2 d.length c2], .slice A3 s.length c3] w (PBO r w) → Calls Try.prog 51 #[.agg #[.slice A0 n.length c0, .slice A1 e.length c1, .slice A2 d.length c2], .slice A3 s.length c3] w (PBO (fitsR (nI n) s) w) := fun r h h' => by rw [h]; exact h'
  have hF : fitsR (nI n) s = (decide (s.length = szN (nI n)) && decide (beV s < nI n)) := rfl
  generalize ofN (beV s) = RD at HR HC lr
  obtain ⟨z, hz⟩ : ∃ z, szN (nI n) = z := ⟨_, rfl⟩
  rw [hz] at HZ hF
  obtain ⟨m, hm⟩ : ∃ m, s.length = m := ⟨_, rfl⟩
  rw [hm] at hF K HR ⊢
  clear hs hq hqlt hz lr os ls on hm
  have z0 := fun w' (h : Below wa.heap.size wa w') => (HN.out.below h).c0
  have z1 := fun w' (h : Below wa.heap.size wa w') => (HN.out.below h).c1
  have z2 := fun w' (h : Below wa.heap.size wa w') => (HN.out.below h).c2
  by_cases hzm : m = z
  · subst hzm
    have hb : ((m : Int) == (m : Int)) = true := beq_self_eq_true _
    refine K (decide (q < 0)) (by rw [hF, decide_eq_true rfl, Bool.true_and]; exact decide_eq_decide.2 HQ.out.symm) ?_
    obtain ⟨b, hbq⟩ : ∃ b, decide (q < 0) = b := ⟨_, rfl⟩
    rw [hbq]
    clear K hF
    go_enter Try.func51, Try.ntmps51
    go_upto_region 1 with (fail)
    (refine region_told _ (by kernel_rfl) (by kernel_rfl) (by simp only [putAll, Act.put, List.setIfInBounds_toArray, List.set_cons_zero, List.set_cons_succ, Nat.reduceAdd]; rfl) ?_)
    repeat (refine told_step (fun v _ => v = _) (Stays.eq _) (by intro y w' hw' hd; simp only [depsOf, updG, Region.binds, Nat.reduceAdd, Nat.reduceEqDiff, if_false, if_true, and_true, true_and, forall_const, Array.toList, GTrue] at hd; (try go_split_ands); unfold toldAt; go_simp; exact ⟨Below.refl _ _, rfl⟩) ?_)
    (refine told_step (fun v _ => v = _) (Stays.eq _) (by intro y w' hw' hd; simp only [depsOf, updG, Region.binds, Nat.reduceAdd, Nat.reduceEqDiff, if_false, if_true, and_true, true_and, forall_const, Array.toList, GTrue] at hd; (try go_split_ands); unfold toldAt; go_simp; refine ⟨Below.refl _ _, ?_⟩; exact HZ.out _ hw') ?_)
    repeat (refine told_step (fun v _ => v = _) (Stays.eq _) (by intro y w' hw' hd; simp only [depsOf, updG, Region.binds, Nat.reduceAdd, Nat.reduceEqDiff, if_false, if_true, and_true, true_and, forall_const, Array.toList, GTrue] at hd; (try go_split_ands); unfold toldAt; go_simp; exact ⟨Below.refl _ _, rfl⟩) ?_)
    (refine told_step (GLI .u64 RD) ( GLI.stays _ _) (by intro y w' hw' hd; simp only [depsOf, updG, Region.binds, Nat.reduceAdd, Nat.reduceEqDiff, if_false, if_true, and_true, true_and, forall_const, Array.toList, GTrue] at hd; (try go_split_ands); unfold toldAt; go_simp; refine ⟨Below.refl _ _, ?_⟩;  exact HR.out _ hw') ?_)
    repeat (refine told_step (fun v _ => v = _) (Stays.eq _) (by intro y w' hw' hd; simp only [depsOf, updG, Region.binds, Nat.reduceAdd, Nat.reduceEqDiff, if_false, if_true, and_true, true_and, forall_const, Array.toList, GTrue] at hd; (try go_split_ands); unfold toldAt; go_simp; exact ⟨Below.refl _ _, rfl⟩) ?_)
    (refine told_step (fun v _ => v = .int .i64 q) ( Stays.eq _) (by intro y w' hw' hd; simp only [depsOf, updG, Region.binds, Nat.reduceAdd, Nat.reduceEqDiff, if_false, if_true, and_true, true_and, forall_const, Array.toList, GTrue] at hd;  obtain ⟨q1, q2⟩ := hd; unfold toldAt; go_simp; refine ⟨Below.refl _ _, ?_⟩; exact HC.out _ _ hw' q1) ?_)
    repeat (refine told_step (fun v _ => v = _) (Stays.eq _) (by intro y w' hw' hd; simp only [depsOf, updG, Region.binds, Nat.reduceAdd, Nat.reduceEqDiff, if_false, if_true, and_true, true_and, forall_const, Array.toList, GTrue] at hd; (try go_split_ands); unfold toldAt; go_simp; exact ⟨Below.refl _ _, rfl⟩) ?_)
    (refine told_nil ?_; intro y w' hw' hd; replace hd := hd 13 (by decide); simp only [updG, Nat.reduceAdd, Nat.reduceEqDiff, if_false, if_true] at hd)
    have H13 : y 13 = .bool b := hd
    go_wp2_with fail
    go_ret
    exact ⟨congrArg Ending.returned H13, HN.out.bel.trans (hw'.mono HN.out.bel.size)⟩
  · have hb : ((m : Int) == (z : Int)) = false := by rw [beq_eq_false_iff_ne]; omega
    refine K false (by rw [hF, decide_eq_false hzm, Bool.false_and]) ?_
    clear K hF
    go_enter Try.func51, Try.ntmps51
    go_upto_region 1 with (fail)
    (refine region_told _ (by kernel_rfl) (by kernel_rfl) (by simp only [putAll, Act.put, List.setIfInBounds_toArray, List.set_cons_zero, List.set_cons_succ, Nat.reduceAdd]; rfl) ?_)
    repeat (refine told_step (fun v _ => v = _) (Stays.eq _) (by intro y w' hw' hd; simp only [depsOf, updG, Region.binds, Nat.reduceAdd, Nat.reduceEqDiff, if_false, if_true, and_true, true_and, forall_const, Array.toList, GTrue] at hd; (try go_split_ands); unfold toldAt; go_simp; exact ⟨Below.refl _ _, rfl⟩) ?_)
    (refine told_step (fun v _ => v = _) (Stays.eq _) (by intro y w' hw' hd; simp only [depsOf, updG, Region.binds, Nat.reduceAdd, Nat.reduceEqDiff, if_false, if_true, and_true, true_and, forall_const, Array.toList, GTrue] at hd; (try go_split_ands); unfold toldAt; go_simp; refine ⟨Below.refl _ _, ?_⟩; exact HZ.out _ hw') ?_)
    repeat (refine told_step (fun v _ => v = _) (Stays.eq _) (by intro y w' hw' hd; simp only [depsOf, updG, Region.binds, Nat.reduceAdd, Nat.reduceEqDiff, if_false, if_true, and_true, true_and, forall_const, Array.toList, GTrue] at hd; (try go_split_ands); unfold toldAt; go_simp; exact ⟨Below.refl _ _, rfl⟩) ?_)
    trace_state
    iterate 6 (refine told_step (fun v _ => v = undef) (Stays.eq _) (by intro y w' hw' hd; simp only [depsOf, updG, Region.binds, Nat.reduceAdd, Nat.reduceEqDiff, if_false, if_true, and_true, true_and, forall_const, Array.toList, GTrue] at hd; (try go_split_ands); unfold toldAt; go_simp) ?_)
    repeat (refine told_step (fun v _ => v = _) (Stays.eq _) (by intro y w' hw' hd; simp only [depsOf, updG, Region.binds, Nat.reduceAdd, Nat.reduceEqDiff, if_false, if_true, and_true, true_and, forall_const, Array.toList, GTrue] at hd; (try go_split_ands); unfold toldAt; go_simp; exact ⟨Below.refl _ _, rfl⟩) ?_)
    (refine told_nil ?_; intro y w' hw' hd; replace hd := hd 13 (by decide); simp only [updG, Nat.reduceAdd, Nat.reduceEqDiff, if_false, if_true] at hd)
    have H13 : y 13 = .bool false := hd
    go_wp2_with fail
    go_ret
    exact ⟨congrArg Ending.returned H13, HN.out.bel.trans (hw'.mono HN.out.bel.size)⟩
end
end Go.Proofs.Ytdmglajfmfjmlaa
namespace Go.Proofs.Ytdmglajfmfjmlaa
set_option linter.unusedSimpArgs false
set_option linter.unusedVariables false
set_option maxRecDepth 100000
open Go.RowKit Go.Proofs.YtdmglajfmfjmlaaW.PrintWords Go.Proofs.YtdmglajfmfjmlaaW.PrintLast Go.Proofs.YtdmglajfmfjmlaaW.PrintMore
attribute [local go_sem] toldUpon_value toldUpon_skip toldUpon_enter
section
variable {w : World} {v0 v1 v2 vt vs vx : Value} {n e d t s x : List Int}
theorem signed_lo (z : Nat) (hz : 27 ≤ z) (hz2 : z ≤ 1000000) (ht : LI .u8 w vt t) (ot : okB t) (lt : t.length ≤ 2097152) : Calls Try.prog 50 #[.int .i64 (z : Int), vt] w (PLI .u8 (sgnR z t) w) := by
  obtain ⟨A0, c0, rfl, h0, k0⟩ := ht
  have hrd := rd_any h0 k0 (okB_pos ot)
  have hl : (toN t).length = t.length := toN_length t
  rw [← hl] at hrd
  have hS := signed_any w hz hz2 hrd (okB_b8 ot) (by omega)
  rw [hl] at hS
  refine hS.mono ?_
  rintro e_ w' ⟨A, c, rfl, ho, hb⟩
  exact ⟨_, rfl, hb, LI.of_Rd ho.rd⟩
set_option maxHeartbeats 4000000 in
theorem sign_li (h0 : LI .u64 w v0 n) (h1 : LI .u64 w v1 e) (h2 : LI .u64 w v2 d) (ht : LI .u8 w vt t) (on : okN 64 n) (oe : okN 64 e) (od : okN 64 d) (ot : okB t) (lt : t.length ≤ 2097152) {S : List Int} {r : Int} (hr : signR (nI n) (nI e) (nI d) t = (S, r)) :
    Calls Try.prog 13 #[.agg #[v0, v1, v2], vt] w fun e_ w' => ∃ A c, e_ = .returned (.tuple #[.slice A S.length c, .int .i64 r]) ∧ Own .u8 5 w' w.heap.size A S.length c (toN S) ∧ Below w.heap.size w w' := by
  obtain ⟨A0, c0, rfl, h0⟩ := h0.form
  obtain ⟨A1, c1, rfl, h1⟩ := h1.form
  obtain ⟨A2, c2, rfl, h2⟩ := h2.form
  have HN := Lib.hid (KB.new (t := 26) h0 h1 h2)
  obtain ⟨wa, hwa⟩ : ∃ z, w.alloc (.cells #[.slice A0 n.length c0, .slice A1 e.length c1, .slice A2 d.length c2] 26) = z := ⟨_, rfl⟩
  rw [hwa] at HN
  clear h0 h1 h2
  have y0 := HN.out.c0
  have y1 := HN.out.c1
  have y2 := HN.out.c2
  obtain ⟨A3, c3, rfl, ht⟩ := ht.form
  obtain ⟨m, hm⟩ : ∃ m, t.length = m := ⟨_, rfl⟩
  rw [hm] at ht ⊢
  have HT := Lib.hid (ht.below HN.out.bel)
  have hR := Lib.hid (right_li HN.out.h0 HN.out.h1 HN.out.h2 on oe od)
  have HBI := Lib.hid (fun w' (h : Below wa.heap.size wa w') => bits_li (HN.out.below h).h2 (od.le (by omega)))
  have HZ := Lib.hid (fun w' (h : Below wa.heap.size wa w') => size_li (HN.out.below h).h0 (HN.out.below h).h1 (HN.out.below h).h2 on)
  obtain ⟨kr, hkr⟩ : ∃ k, keyR (nI n) (nI e) (nI d) = k := ⟨_, rfl⟩
  rw [hkr] at hR
  unfold signR at hr
  rw [hkr] at hr
  have HKR := Lib.hid hkr
  clear hkr
  rcases (show kr = 0 ∨ kr = 50 by rw [← HKR.out]; exact keyR_or _ _ _) with hk | hk
  · have hkz := keyR_zero (HKR.out.trans hk)
    subst hk
    have hN0 : nI n ≠ 0 := by omega
    have hzb := szN_bounds hkz.2.1
    obtain ⟨bd, hbd⟩ : ∃ z : Int, ((blen (nI d) : Nat) : Int) = z := ⟨_, rfl⟩
    rw [hbd] at HBI
    obtain ⟨z, hz⟩ : ∃ z, szN (nI n) = z := ⟨_, rfl⟩
    rw [hz] at hr hzb HZ
    by_cases hd0 : nI d = 0
    · rw [if_neg (fun h => h.2 hd0)] at hr
      simp only [Prod.mk.injEq] at hr
      obtain ⟨rfl, rfl⟩ := hr
      obtain rfl : bd = 0 := by rw [← hbd, hd0, blen_zero]; rfl
      clear hbd
      go_enter Try.func13, Try.ntmps13
      go_wp2_with (first
        | (go_at_call 20; refine hR.out.mono ?_; rintro e_ w1 ⟨rfl, hb1⟩; clear y0 y1 y2; have y0 := (HN.out.below hb1).c0; have y1 := (HN.out.below hb1).c1; have y2 := (HN.out.below hb1).c2)
        | (go_at_call 19; refine (HBI.out _ hb1).mono ?_; rintro e_ w2 ⟨rfl, hb2⟩))
      have p1 := HN.out.bel.trans (hb1.mono HN.out.bel.size)
      refine bodyPost_ret (v := .tuple #[.slice none 0 0, .int .i64 50]) (by simp [results, Try.results13, go_sem]) rfl ⟨none, 0, rfl, Own.nil _ _ _ _, p1.trans (hb2.mono p1.size)⟩
    have hbdn : (bd == 0) = false := by rw [beq_eq_false_iff_ne, ← hbd, blen_pos hd0]; omega
    rw [if_pos ⟨rfl, hd0⟩] at hr
    by_cases h27 : z < 27
    · rw [if_pos h27] at hr
      simp only [Prod.mk.injEq] at hr
      obtain ⟨rfl, rfl⟩ := hr
      clear hbd
      go_enter Try.func13, Try.ntmps13
      go_wp2_with (first
        | (go_at_call 20; refine hR.out.mono ?_; rintro e_ w1 ⟨rfl, hb1⟩; clear y0 y1 y2; have y0 := (HN.out.below hb1).c0; have y1 := (HN.out.below hb1).c1; have y2 := (HN.out.below hb1).c2)
        | (go_at_call 19; refine (HBI.out _ hb1).mono ?_; rintro e_ w2 ⟨rfl, hb2⟩; have b2 := hb1.trans (hb2.mono hb1.size); clear y0 y1 y2; have y0 := (HN.out.below b2).c0; have y1 := (HN.out.below b2).c1; have y2 := (HN.out.below b2).c2)
        | (go_at_call 17; refine (HZ.out _ b2).mono ?_; rintro e_ w3 ⟨rfl, hb3⟩))
      have p1 := HN.out.bel.trans (b2.mono HN.out.bel.size)
      refine bodyPost_ret (v := .tuple #[.slice none 0 0, .int .i64 51]) (by simp [results, Try.results13, go_sem]) rfl ⟨none, 0, rfl, Own.nil _ _ _ _, p1.trans (hb3.mono p1.size)⟩
    · rw [if_neg h27] at hr
      simp only [Prod.mk.injEq] at hr
      obtain ⟨hS, rfl⟩ := hr
      have lsg := sgnR_length z (show 19 ≤ z by omega) t
      have osg := sgnR_okB z (show 19 ≤ z by omega) t
      have HSG := Lib.hid (fun w' (h : Below wa.heap.size wa w') => signed_lo z (by omega) (by omega) (HT.out.below h) ot lt)
      have HW := Lib.hid (fun w' v (h : Below wa.heap.size wa w') (hv : LI .u8 w' v (sgnR z t)) => work_lo (HN.out.below h).h0 (HN.out.below h).h1 (HN.out.below h).h2 hv (HN.out.below h).h2 on od osg (by omega) hN0)
      rw [hS] at HW
      generalize sgnR z t = SG at HSG HW
      clear hbd hS lsg osg hkz
      go_enter Try.func13, Try.ntmps13
      go_upto_region 5 with (first
        | (go_at_call 20; refine hR.out.mono ?_; rintro e_ w1 ⟨rfl, hb1⟩; clear y0 y1 y2; have y0 := (HN.out.below hb1).c0; have y1 := (HN.out.below hb1).c1; have y2 := (HN.out.below hb1).c2)
        | (go_at_call 19; refine (HBI.out _ hb1).mono ?_; rintro e_ w2 ⟨rfl, hb2⟩; have b2 := hb1.trans (hb2.mono hb1.size); clear y0 y1 y2; have y0 := (HN.out.below b2).c0; have y1 := (HN.out.below b2).c1; have y2 := (HN.out.below b2).c2)
        | (go_at_call 17; refine (HZ.out _ b2).mono ?_; rintro e_ w3 ⟨rfl, hb3⟩))
      have b3 := b2.trans (hb3.mono b2.size)
      clear y0 y1 y2 hb1 hb2 hb3 b2
      have z0 := fun w' (h : Below w3.heap.size w3 w') => (HN.out.below (b3.trans (h.mono b3.size))).c0
      have z1 := fun w' (h : Below w3.heap.size w3 w') => (HN.out.below (b3.trans (h.mono b3.size))).c1
      have z2 := fun w' (h : Below w3.heap.size w3 w') => (HN.out.below (b3.trans (h.mono b3.size))).c2
      (refine region_told _ (by kernel_rfl) (by kernel_rfl) (by simp only [putAll, Act.put, List.setIfInBounds_toArray, List.set_cons_zero, List.set_cons_succ, Nat.reduceAdd]; rfl) ?_)
      repeat (refine told_step (fun v _ => v = _) (Stays.eq _) (by intro y w' hw' hd; simp only [depsOf, updG, Region.binds, Nat.reduceAdd, Nat.reduceEqDiff, if_false, if_true, and_true, true_and, forall_const, Array.toList, GTrue] at hd; (try go_split_ands); unfold toldAt; go_simp; exact ⟨Below.refl _ _, rfl⟩) ?_)
      (refine told_step (fun v _ => v = _) (Stays.eq _) (by intro y w' hw' hd; simp only [depsOf, updG, Region.binds, Nat.reduceAdd, Nat.reduceEqDiff, if_false, if_true, and_true, true_and, forall_const, Array.toList, GTrue] at hd; (try go_split_ands); unfold toldAt; go_simp; refine ⟨Below.refl _ _, ?_⟩; exact HZ.out _ (b3.trans (hw'.mono b3.size))) ?_)
      repeat (refine told_step (fun v _ => v = _) (Stays.eq _) (by intro y w' hw' hd; simp only [depsOf, updG, Region.binds, Nat.reduceAdd, Nat.reduceEqDiff, if_false, if_true, and_true, true_and, forall_const, Array.toList, GTrue] at hd; (try go_split_ands); unfold toldAt; go_simp; exact ⟨Below.refl _ _, rfl⟩) ?_)
      (refine told_step (GLI .u8 SG) ( GLI.stays _ _) (by intro y w' hw' hd; simp only [depsOf, updG, Region.binds, Nat.reduceAdd, Nat.reduceEqDiff, if_false, if_true, and_true, true_and, forall_const, Array.toList, GTrue] at hd; (try go_split_ands); unfold toldAt; go_simp; refine ⟨Below.refl _ _, ?_⟩;  exact HSG.out _ (b3.trans (hw'.mono b3.size))) ?_)
      repeat (refine told_step (fun v _ => v = _) (Stays.eq _) (by intro y w' hw' hd; simp only [depsOf, updG, Region.binds, Nat.reduceAdd, Nat.reduceEqDiff, if_false, if_true, and_true, true_and, forall_const, Array.toList, GTrue] at hd; (try go_split_ands); unfold toldAt; go_simp; exact ⟨Below.refl _ _, rfl⟩) ?_)
      (refine told_step (GOW .u8 5 w.heap.size S) ( GOW.stays _ _ _ _) (by intro y w' hw' hd; simp only [depsOf, updG, Region.binds, Nat.reduceAdd, Nat.reduceEqDiff, if_false, if_true, and_true, true_and, forall_const, Array.toList, GTrue] at hd;  obtain ⟨q1, q2, q3⟩ := hd; unfold toldAt; go_simp; refine ⟨Below.refl _ _, ?_⟩; exact (HW.out _ _ (b3.trans (hw'.mono b3.size)) q2).mono (by rintro e_ w'' ⟨v, rfl, hb, hg⟩; exact ⟨v, rfl, hb, hg.lower (Nat.le_trans HN.out.bel.size (Nat.le_trans b3.size hw'.size))⟩)) ?_)
      (refine told_step (GOW .u8 5 w.heap.size S) ( GOW.stays _ _ _ _) (by intro y w' hw' hd; simp only [depsOf, updG, Region.binds, Nat.reduceAdd, Nat.reduceEqDiff, if_false, if_true, and_true, true_and, forall_const, Array.toList, GTrue] at hd;  obtain ⟨q1, q2⟩ := hd; unfold toldAt; go_simp; first | exact Below.refl _ _ | exact ⟨Below.refl _ _, q1⟩) ?_)
      (refine told_step (fun v _ => v = _) (Stays.eq _) (by intro y w' hw' hd; simp only [depsOf, updG, Region.binds, Nat.reduceAdd, Nat.reduceEqDiff, if_false, if_true, and_true, true_and, forall_const, Array.toList, GTrue] at hd; (try go_split_ands); unfold toldAt; go_simp; exact ⟨Below.refl _ _, rfl⟩) ?_)
      (refine told_nil ?_; intro y w4 hw4 hd)
      have h8 := hd 8 (by decide)
      have h9 := hd 9 (by decide)
      simp only [updG, Nat.reduceAdd, Nat.reduceEqDiff, if_false, if_true] at h8 h9
      obtain ⟨A, c, e8, o8⟩ := h8
      rw [e8, h9]
      have HO := Lib.hid o8
      clear hd e8 h9 o8 z0 z1 z2
      go_wp2_with fail
      have p3 := HN.out.bel.trans (b3.mono HN.out.bel.size)
      refine bodyPost_ret (v := .tuple #[.slice A S.length c, .int .i64 0]) (by simp [results, Try.results13, go_sem]) rfl ⟨A, c, rfl, HO.out, p3.trans (hw4.mono p3.size)⟩
  · subst hk
    rw [if_neg (fun h => by have := h.1; omega)] at hr
    simp only [Prod.mk.injEq] at hr
    obtain ⟨rfl, rfl⟩ := hr
    go_enter Try.func13, Try.ntmps13
    go_wp2_with (go_at_call 20; refine hR.out.mono ?_; rintro e_ w1 ⟨rfl, hb1⟩)
    refine bodyPost_ret (v := .tuple #[.slice none 0 0, .int .i64 50]) (by simp [results, Try.results13, go_sem]) rfl ⟨none, 0, rfl, Own.nil _ _ _ _, HN.out.bel.trans (hb1.mono HN.out.bel.size)⟩
set_option maxHeartbeats 4000000 in
theorem verify_li (h0 : LI .u64 w v0 n) (h1 : LI .u64 w v1 e) (h2 : LI .u64 w v2 d) (ht : LI .u8 w vt t) (hs : LI .u8 w vs s) (on : okN 64 n) (oe : okN 64 e) (od : okN 64 d) (ot : okB t) (lt : t.length ≤ 2097152) (os : okB s) (ls : s.length ≤ 2097152) :
    Calls Try.prog 14 #[.agg #[v0, v1, v2], vt, vs] w (PBO (verifyR (nI n) (nI e) (nI d) t s) w) := by
  obtain ⟨A0, c0, rfl, h0⟩ := h0.form
  obtain ⟨A1, c1, rfl, h1⟩ := h1.form
  obtain ⟨A2, c2, rfl, h2⟩ := h2.form
  have HN := Lib.hid (KB.new (t := 26) h0 h1 h2)
  obtain ⟨wa, hwa⟩ : ∃ z, w.alloc (.cells #[.slice A0 n.length c0, .slice A1 e.length c1, .slice A2 d.length c2] 26) = z := ⟨_, rfl⟩
  rw [hwa] at HN
  clear h0 h1 h2
  have y0 := HN.out.c0
  have y1 := HN.out.c1
  have y2 := HN.out.c2
  obtain ⟨A3, c3, rfl, ht⟩ := ht.form
  obtain ⟨A4, c4, rfl, hs⟩ := hs.form
  have HT := Lib.hid (ht.below HN.out.bel)
  have HSS := Lib.hid (hs.below HN.out.bel)
  have hR := Lib.hid (right_li HN.out.h0 HN.out.h1 HN.out.h2 on oe od)
  have HZ := Lib.hid (fun w' (h : Below wa.heap.size wa w') => size_li (HN.out.below h).h0 (HN.out.below h).h1 (HN.out.below h).h2 on)
  have HF := Lib.hid (fun w' (h : Below wa.heap.size wa w') => fits_li (HN.out.below h).h0 (HN.out.below h).h1 (HN.out.below h).h2 (HSS.out.below h) on os ls)
  have K : ∀ r, verifyR (nI n) (nI e) (nI d) t s = r → Calls Try.prog 14 #[.agg #[.slice A0 n.length c0, .slice A1 e.length c1, .slice A2 d.length c2], .slice A3 t.length c3, .slice A4 s.length c4] w (PBO r w) → Calls Try.prog 14 #[.agg #[.slice A0 n.length c0, .slice A1 e.length c1, .slice A2 d.length c2], .slice A3 t.length c3, .slice A4 s.length c4] w (PBO (verifyR (nI n) (nI e) (nI d) t s) w) := fun r h h' => by rw [h]; exact h'
  have hV : verifyR (nI n) (nI e) (nI d) t s = (decide (keyR (nI n) (nI e) (nI d) = 0) && decide (27 ≤ szN (nI n)) && fitsR (nI n) s && decide (workR (nI n) (nI e) s = sgnR (szN (nI n)) t)) := rfl
  obtain ⟨kr, hkr⟩ : ∃ k, keyR (nI n) (nI e) (nI d) = k := ⟨_, rfl⟩
  rw [hkr] at hR hV
  have HKR := Lib.hid hkr
  clear hkr
  rcases (show kr = 0 ∨ kr = 50 by rw [← HKR.out]; exact keyR_or _ _ _) with hk | hk
  · have hkz := keyR_zero (HKR.out.trans hk)
    subst hk
    have hN0 : nI n ≠ 0 := by omega
    have hzb := szN_bounds hkz.2.1
    clear hkz
    rw [decide_eq_true rfl, Bool.true_and] at hV
    obtain ⟨z, hz⟩ : ∃ z, szN (nI n) = z := ⟨_, rfl⟩
    rw [hz] at hV hzb HZ
    by_cases h27 : z < 27
    · refine K false (by rw [hV, decide_eq_false (by omega), Bool.false_and, Bool.false_and]) ?_
      clear K hV hz
      go_enter Try.func14, Try.ntmps14
      go_wp2_with (first
        | (go_at_call 20; refine hR.out.mono ?_; rintro e_ w1 ⟨rfl, hb1⟩; clear y0 y1 y2; have y0 := (HN.out.below hb1).c0; have y1 := (HN.out.below hb1).c1; have y2 := (HN.out.below hb1).c2)
        | (go_at_call 17; refine (HZ.out _ hb1).mono ?_; rintro e_ w3 ⟨rfl, hb3⟩))
      go_ret
      have p1 := HN.out.bel.trans (hb1.mono HN.out.bel.size)
      exact ⟨rfl, p1.trans (hb3.mono p1.size)⟩
    rw [decide_eq_true (by omega : 27 ≤ z), Bool.true_and] at hV
    obtain ⟨f, hf⟩ : ∃ f, fitsR (nI n) s = f := ⟨_, rfl⟩
    rw [hf] at hV HF
    cases f with
    | false =>
      refine K false (by rw [hV, Bool.false_and]) ?_
      clear K hV hz
      go_enter Try.func14, Try.ntmps14
      go_wp2_with (first
        | (go_at_call 20; refine hR.out.mono ?_; rintro e_ w1 ⟨rfl, hb1⟩; clear y0 y1 y2; have y0 := (HN.out.below hb1).c0; have y1 := (HN.out.below hb1).c1; have y2 := (HN.out.below hb1).c2)
        | (go_at_call 17; refine (HZ.out _ hb1).mono ?_; rintro e_ w3 ⟨rfl, hb3⟩; have b3 := hb1.trans (hb3.mono hb1.size); clear y0 y1 y2; have y0 := (HN.out.below b3).c0; have y1 := (HN.out.below b3).c1; have y2 := (HN.out.below b3).c2)
        | (go_at_call 51; refine (HF.out _ b3).mono ?_; rintro e_ w4 ⟨rfl, hb4⟩))
      go_ret
      have p1 := HN.out.bel.trans (b3.mono HN.out.bel.size)
      exact ⟨rfl, p1.trans (hb4.mono p1.size)⟩
    | true =>
      have hsl : s.length = z := by
        unfold fitsR at hf
        rw [Bool.and_eq_true] at hf
        rw [← hz]
        exact of_decide_eq_true hf.1
      have lsg := sgnR_length z (show 19 ≤ z by omega) t
      have osg := sgnR_okB z (show 19 ≤ z by omega) t
      obtain ⟨q, hq⟩ : ∃ q, decide (workR (nI n) (nI e) s = sgnR z t) = q := ⟨_, rfl⟩
      have HST := Lib.hid (show ((strOfNums (workR (nI n) (nI e) s)).toList == (strOfNums (sgnR z t)).toList) = q by rw [str_eq (workR_okB _ _ _) osg, hq])
      refine K q (by rw [hV, Bool.true_and, hq]) ?_
      have HSG := Lib.hid (fun w' (h : Below wa.heap.size wa w') => signed_lo z (by omega) (by omega) (HT.out.below h) ot lt)
      have HW := Lib.hid (fun w' (h : Below wa.heap.size wa w') => work_li (HN.out.below h).h0 (HN.out.below h).h1 (HN.out.below h).h2 (HSS.out.below h) (HN.out.below h).h1 on oe os (by omega) hN0)
      generalize sgnR z t = SG at HSG HST
      generalize workR (nI n) (nI e) s = WK at HW HST
      clear K hV hz hq lsg osg hf hsl
      go_enter Try.func14, Try.ntmps14
      go_upto_region 3 with (first
        | (go_at_call 20; refine hR.out.mono ?_; rintro e_ w1 ⟨rfl, hb1⟩; clear y0 y1 y2; have y0 := (HN.out.below hb1).c0; have y1 := (HN.out.below hb1).c1; have y2 := (HN.out.below hb1).c2)
        | (go_at_call 17; refine (HZ.out _ hb1).mono ?_; rintro e_ w3 ⟨rfl, hb3⟩; have b3 := hb1.trans (hb3.mono hb1.size); clear y0 y1 y2; have y0 := (HN.out.below b3).c0; have y1 := (HN.out.below b3).c1; have y2 := (HN.out.below b3).c2)
        | (go_at_call 51; refine (HF.out _ b3).mono ?_; rintro e_ w4 ⟨rfl, hb4⟩))
      have b4 := b3.trans (hb4.mono b3.size)
      clear y0 y1 y2 hb1 hb3 b3 hb4
      have z0 := fun w' (h : Below w4.heap.size w4 w') => (HN.out.below (b4.trans (h.mono b4.size))).c0
      have z1 := fun w' (h : Below w4.heap.size w4 w') => (HN.out.below (b4.trans (h.mono b4.size))).c1
      have z2 := fun w' (h : Below w4.heap.size w4 w') => (HN.out.below (b4.trans (h.mono b4.size))).c2
      (refine region_told _ (by kernel_rfl) (by kernel_rfl) (by simp only [putAll, Act.put, List.setIfInBounds_toArray, List.set_cons_zero, List.set_cons_succ, Nat.reduceAdd]; rfl) ?_)
      repeat (refine told_step (fun v _ => v = _) (Stays.eq _) (by intro y w' hw' hd; simp only [depsOf, updG, Region.binds, Nat.reduceAdd, Nat.reduceEqDiff, if_false, if_true, and_true, true_and, forall_const, Array.toList, GTrue] at hd; (try go_split_ands); unfold toldAt; go_simp; exact ⟨Below.refl _ _, rfl⟩) ?_)
      (refine told_step (GLI .u8 WK) ( GLI.stays _ _) (by intro y w' hw' hd; simp only [depsOf, updG, Region.binds, Nat.reduceAdd, Nat.reduceEqDiff, if_false, if_true, and_true, true_and, forall_const, Array.toList, GTrue] at hd; (try go_split_ands); unfold toldAt; go_simp; refine ⟨Below.refl _ _, ?_⟩;  exact HW.out _ (b4.trans (hw'.mono b4.size))) ?_)
      (refine told_step (fun v _ => v = .string (strOfNums WK)) ( Stays.eq _) (by intro y w' hw' hd; simp only [depsOf, updG, Region.binds, Nat.reduceAdd, Nat.reduceEqDiff, if_false, if_true, and_true, true_and, forall_const, Array.toList, GTrue] at hd;  have q1 : GLI .u8 WK (y 4) w' := (by first | exact hd | exact hd.1); have zc := LI.conv q1; unfold toldAt; go_simp; exact Below.refl _ _) ?_)
      repeat (refine told_step (fun v _ => v = _) (Stays.eq _) (by intro y w' hw' hd; simp only [depsOf, updG, Region.binds, Nat.reduceAdd, Nat.reduceEqDiff, if_false, if_true, and_true, true_and, forall_const, Array.toList, GTrue] at hd; (try go_split_ands); unfold toldAt; go_simp; exact ⟨Below.refl _ _, rfl⟩) ?_)
      (refine told_step (fun v _ => v = _) (Stays.eq _) (by intro y w' hw' hd; simp only [depsOf, updG, Region.binds, Nat.reduceAdd, Nat.reduceEqDiff, if_false, if_true, and_true, true_and, forall_const, Array.toList, GTrue] at hd; (try go_split_ands); unfold toldAt; go_simp; refine ⟨Below.refl _ _, ?_⟩; exact HZ.out _ (b4.trans (hw'.mono b4.size))) ?_)
      repeat (refine told_step (fun v _ => v = _) (Stays.eq _) (by intro y w' hw' hd; simp only [depsOf, updG, Region.binds, Nat.reduceAdd, Nat.reduceEqDiff, if_false, if_true, and_true, true_and, forall_const, Array.toList, GTrue] at hd; (try go_split_ands); unfold toldAt; go_simp; exact ⟨Below.refl _ _, rfl⟩) ?_)
      (refine told_step (GLI .u8 SG) ( GLI.stays _ _) (by intro y w' hw' hd; simp only [depsOf, updG, Region.binds, Nat.reduceAdd, Nat.reduceEqDiff, if_false, if_true, and_true, true_and, forall_const, Array.toList, GTrue] at hd; (try go_split_ands); unfold toldAt; go_simp; refine ⟨Below.refl _ _, ?_⟩;  exact HSG.out _ (b4.trans (hw'.mono b4.size))) ?_)
      (refine told_step (fun v _ => v = .string (strOfNums SG)) ( Stays.eq _) (by intro y w' hw' hd; simp only [depsOf, updG, Region.binds, Nat.reduceAdd, Nat.reduceEqDiff, if_false, if_true, and_true, true_and, forall_const, Array.toList, GTrue] at hd;  have q1 : GLI .u8 SG (y 9) w' := (by first | exact hd | exact hd.1); have zc := LI.conv q1; unfold toldAt; go_simp; exact Below.refl _ _) ?_)
      (refine told_step (fun v _ => v = .bool q) ( Stays.eq _) (by intro y w' hw' hd; simp only [depsOf, updG, Region.binds, Nat.reduceAdd, Nat.reduceEqDiff, if_false, if_true, and_true, true_and, forall_const, Array.toList, GTrue] at hd;  (try go_split_ands); have y0 := HST.out; unfold toldAt; go_simp; exact Below.refl _ _) ?_)
      (refine told_step (fun v _ => v = _) (Stays.eq _) (by intro y w' hw' hd; simp only [depsOf, updG, Region.binds, Nat.reduceAdd, Nat.reduceEqDiff, if_false, if_true, and_true, true_and, forall_const, Array.toList, GTrue] at hd; (try go_split_ands); unfold toldAt; go_simp; exact ⟨Below.refl _ _, rfl⟩) ?_)
      (refine told_nil ?_; intro y w' hw' hd; replace hd := hd 12 (by decide); simp only [updG, Nat.reduceAdd, Nat.reduceEqDiff, if_false, if_true] at hd)
      have H12 : y 12 = .bool q := hd
      go_wp2_with fail
      go_ret
      have p1 := HN.out.bel.trans (b4.mono HN.out.bel.size)
      exact ⟨congrArg Ending.returned H12, p1.trans (hw'.mono p1.size)⟩
  · subst hk
    refine K false (by rw [hV, decide_eq_false (by decide), Bool.false_and, Bool.false_and, Bool.false_and]) ?_
    clear K hV
    go_enter Try.func14, Try.ntmps14
    go_wp2_with (go_at_call 20; refine hR.out.mono ?_; rintro e_ w1 ⟨rfl, hb1⟩)
    go_ret
    exact ⟨rfl, HN.out.bel.trans (hb1.mono HN.out.bel.size)⟩
end
end Go.Proofs.Ytdmglajfmfjmlaa
