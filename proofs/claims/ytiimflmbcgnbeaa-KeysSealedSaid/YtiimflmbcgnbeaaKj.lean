/- Sums of fronts: the walks. -/
import Derived.Test.YtiimflmbcgnbeaaMZ
import Derived.Deep.RegionHeld3
namespace Go.Proofs.Ytiimflmbcgnbeaa
set_option linter.unusedSimpArgs false
set_option linter.unusedVariables false
open Go.RowKit Go.Proofs.YtiimflmbcgnbeaaW.PrintWords

/-- the sum of a front under a session's key -/
def macN (a b c d : Nat) (f : List Nat) : List Nat := (shaN (sessN a b c d ++ f)).take 16
theorem mac_rd {w : World} {g a b c d : Nat} {f : List Nat} (h : Bk w g 26 (va .u8 (shaN (sessN a b c d ++ f)))) : Rd .u8 w (some ⟨g, 0, none⟩) 16 16 (macN a b c d f) := by
  have h1 := (Own.of_bk (k := .u8) (base := 0) (n := 32) h (Nat.zero_le _) (shaN_length _) (by omega)).rd.take (m := 16) (by omega)
  obtain ⟨q1, _, q3, q4⟩ := h1
  exact ⟨q1, Nat.le_refl _, q3, q4⟩
theorem sealed_any (w : World) {a b c d n m c0 c1 : Nat} {A B : Option Addr} {f s : List Nat} (la : a < 4294967296) (lb : b < 4294967296) (lc : c < 4294967296) (ld : d < 4294967296) (hf : Rd .u8 w A n c0 f) (f8 : B8 f) (hA : ∀ ad, A = some ad → ad.block < w.heap.size) (hn : n < 100000) (hs : Rd .u8 w B m c1 s) :
    Calls Try.prog 42 #[.int .u32 (a : Int), .int .u32 (b : Int), .int .u32 (c : Int), .int .u32 (d : Int), .slice A n c0, .slice B m c1] w fun e w' => e = .returned (.bool ((bstr (macN a b c d f)).toList == (bstr s).toList)) ∧ Below w.heap.size w w' := by
  have hS := fun w' => session_any w' la lb lc ld
  have hs' := hs
  go_enter Try.func42, Try.ntmps42
  go_wp2_with fail
  have z0 : (convert 22 9 (.slice B m c1)).run Try.prog w.drew = .ok (.string (bstr s)) w.drew := conv_rd hs.drew
  go_region_with (first
    | (go_at_call 41; refine (mac_any _ o2.rd (sessN_b8 a b c d) hq (hf.below x2) f8 hqf (by omega)).mono ?_; rintro e w3 ⟨g, rfl, hk, hg, b3⟩
       have x3 := x2.trans (b3.mono x2.size)
       have r3 : Rd .u8 w3 (some ⟨g, 0, none⟩) 16 16 (macN a b c d f) := mac_rd hk
       have z3 := conv_rd r3
       have z3' := conv_rd (hs.below x3))
    | (go_at_call 43; refine (hS _).mono ?_; rintro e w2 ⟨A2, c2, rfl, o2, b2⟩
       have x2 := (Below.drew (Below.refl w.heap.size w)).trans b2
       have z2' := conv_rd (hs.below x2)
       have hq : ∀ ad, A2 = some ad → ad.block < w2.heap.size := fun ad e => by
         obtain ⟨g, h, _, h3⟩ := o2.blk (by omega)
         rw [h] at e; cases e; exact h3
       have hqf : ∀ ad, A = some ad → ad.block < w2.heap.size := fun ad e => Nat.lt_of_lt_of_le (hA ad e) x2.size))
  all_goals
    go_simp
    go_wp2_with fail
    go_ret
    exact ⟨rfl, x3⟩
end Go.Proofs.Ytiimflmbcgnbeaa
