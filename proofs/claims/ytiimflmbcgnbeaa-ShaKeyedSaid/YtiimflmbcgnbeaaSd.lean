/- A shorter expansion is the beginning of a longer one: the walk. -/
import Derived.Test.YtiimflmbcgnbeaaSc
import Derived.Test.YtiimflmbcgnbeaaBy
namespace Go.Proofs.Ytiimflmbcgnbeaa
set_option linter.unusedSimpArgs false
set_option linter.unusedVariables false
open Go.RowKit Go.Proofs.YtiimflmbcgnbeaaW.PrintWords

/-- a text as a value -/
def bstr (xs : List Nat) : ByteArray := strOfNums (cI xs)
theorem conv_rd {w : World} {A : Option Addr} {n c : Nat} {xs : List Nat} (h : Rd .u8 w A n c xs) : (convert 22 9 (.slice A n c)).run Try.prog w = .ok (.string (bstr xs)) w := by
  have hc := C_of_Rd h
  rw [cI_length, h.len] at hc
  exact Kd.C_string Try.underlying22 Try.underlying5 Try.underlying9 hc
theorem walk_ShaBegins (A0 : Option Addr) (n0 c0 : Nat) (b0 : List Nat) (n m : Int) (W : World) (rd0 : Rd .u8 W A0 n0 c0 b0) (b8 : B8 b0) (al0 : ∀ ad, A0 = some ad → ad.block < W.heap.size) (w1 : (Lit.int .i64 n).wf = true) (w2 : (Lit.int .i64 m).wf = true) :
    Calls Try.prog 10 #[.slice A0 n0 c0, .int .i64 n, .int .i64 m] W fun e w' => e = .returned (.bool true) ∧ Below W.heap.size W w' := by
  go_enter Try.func10, Try.ntmps10
  by_cases h1 : (400 : Int) < (n0 : Int)
  · skip
    go_wp2_with (go_at_call 18; refine (alive_any _).mono ?_; rintro e w1 ⟨rfl, hb1⟩)
    go_ret
    exact ⟨rfl, hb1⟩
  by_cases h2 : n < 0
  · skip
    go_wp2_with (go_at_call 18; refine (alive_any _).mono ?_; rintro e w1 ⟨rfl, hb1⟩)
    go_ret
    exact ⟨rfl, hb1⟩
  by_cases h3 : m < n
  · skip
    go_wp2_with (go_at_call 18; refine (alive_any _).mono ?_; rintro e w1 ⟨rfl, hb1⟩)
    go_ret
    exact ⟨rfl, hb1⟩
  by_cases h4 : 600 < m
  · skip
    go_wp2_with (go_at_call 18; refine (alive_any _).mono ?_; rintro e w1 ⟨rfl, hb1⟩)
    go_ret
    exact ⟨rfl, hb1⟩
  obtain ⟨i, rfl⟩ : ∃ i : Nat, n = (i : Int) := ⟨n.toNat, by omega⟩
  obtain ⟨j, rfl⟩ : ∃ j : Nat, m = (j : Int) := ⟨m.toNat, by omega⟩
  obtain rfl := rd0.len
  have t1 := decide_eq_false h1
  have t2 := decide_eq_false h2
  have t3 := decide_eq_false h3
  have t4 := decide_eq_false h4
  have hE1 := expand_any W rd0 b8 (by omega) al0 (n := i) (by omega)
  go_upto_region 4 with (go_at_call 31; refine hE1.mono ?_; rintro e w1 ⟨A1, c1, rfl, r1, al1, hb1⟩)
  have hs1 := hb1.size
  have hE2 := expand_any w1 (rd0.below hb1) b8 (by omega) (fun ad e => by have := al0 ad e; omega) (n := j) (by omega)
  go_upto_region 5 with (go_at_call 31; refine hE2.mono ?_; rintro e w2 ⟨A2, c2, rfl, r2, al2, hb2⟩)
  have hs2 := hb2.size
  have hcap := r2.cap
  have q1 : (0 : Int) ≤ (i : Int) := by omega
  have q2 : (i : Int) ≤ (c2 : Int) := by omega
  have Z1 : ∀ k : Bels w2.heap.size w2, (convert 22 9 (.slice A1 i c1)).run Try.prog k.w = .ok (.string (bstr (expN b0 i))) k.w := fun k => conv_rd ((r1.below hb2).below k.h)
  have Z2 : ∀ k : Bels w2.heap.size w2, (convert 22 9 (.slice A2 i c2)).run Try.prog k.w = .ok (.string (bstr (expN b0 i))) k.w := fun k => by
    have h := (r2.below k.h).take (m := i) (by omega)
    rw [expN_take b0 (by omega)] at h
    exact conv_rd h
  refine bels_region (by kernel_rfl) (by kernel_rfl) ?_
  (refine wpQuiet_step (fun K hK => ?_); go_simp; apply Exists.intro; refine ⟨fun i => ?_, hK _ ?_⟩)
  · exact bels_call (Nat.le_refl _) (alive_any i.w)
  clear hK K
  (repeat (refine wpQuiet_step (fun K hK => ?_); go_simp; refine hK _ ?_; clear hK K))
  refine wpQuiet_nil ?_
  intro k
  go_wp2_with fail
  go_ret
  exact ⟨rfl, hb1.trans ((hb2.mono hs1).trans (k.h.mono (by omega)))⟩
end Go.Proofs.Ytiimflmbcgnbeaa
