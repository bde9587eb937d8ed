/- Who proves it twice knows it: the plain law and the walk. -/
import Derived.Test.YtdmglajfmfjmlaaLIffKnowsx
import Derived.Test.YtdmglajfmfjmlaaIF
namespace Go.Proofs.Ytdmglajfmfjmlaa
set_option linter.unusedSimpArgs false
set_option linter.unusedVariables false
set_option maxRecDepth 100000
open Go.RowKit Go.Proofs.YtdmglajfmfjmlaaW.PrintWords Go.Proofs.YtdmglajfmfjmlaaW.PrintLast Go.Proofs.Ytdmglajfmfjmlaa.LIffKnows

theorem okA' {l : List Int} (hw : ∀ y ∈ l, 0 ≤ y ∧ y < 18446744073709551616) (h : ¬ (l.length : Int) > 3) : okN 64 l := ⟨by omega, hw⟩
section
variable {p q g b k r s : List Int}
theorem iffKnows_in (kp : okN 64 p) (kq : okN 64 q) (kg : okN 64 g) (kb : okN 64 b) (kk : okN 64 k) (kr : okN 64 r) (ks : okN 64 s) : clepsydralaw06_IffKnows.j0 1 b k r s false p q g = some true := by
  have A : iff_Answer.f p q g b k r = some (answerR (nI p) (nI q) (nI g) (nI b) (nI k) (nI r)) := if_pos ⟨kp, kq, kg, kb, kk, kr⟩
  have B : iff_Answer.f p q g b k s = some (answerR (nI p) (nI q) (nI g) (nI b) (nI k) (nI s)) := if_pos ⟨kp, kq, kg, kb, kk, ks⟩
  have al : clepsydralaw06_alive.f = some true := rfl
  simp only [clepsydralaw06_IffKnows.j0, Bool.false_eq_true, if_false]
  rcases rightN_or (nI p) (nI q) (nI g) with h0 | h0
  · obtain ⟨p2, q2, -, -, hG⟩ := rightN_zero h0
    have lq := ln_nI kq
    have oY : ∀ x, okN 64 (ofN (x % nI q)) := fun x => ofN_ok (Nat.le_of_lt (Nat.mod_lt _ (by omega))) lq
    have A' : answerR (nI p) (nI q) (nI g) (nI b) (nI k) (nI r) = (ofN ((nI k + nI b * nI r) % nI q), 0) := if_pos h0
    have B' : answerR (nI p) (nI q) (nI g) (nI b) (nI k) (nI s) = (ofN ((nI k + nI b * nI s) % nI q), 0) := if_pos h0
    have X : iff_Extract.f p q g r (ofN ((nI k + nI b * nI r) % nI q)) s (ofN ((nI k + nI b * nI s) % nI q)) = some (extractR (nI p) (nI q) (nI g) (nI r) ((nI k + nI b * nI r) % nI q) (nI s) ((nI k + nI b * nI s) % nI q)) := by
      unfold iff_Extract.f
      rw [if_pos ⟨kp, kq, kg, kr, oY _, ks, oY _⟩, nI_ofN, nI_ofN]
    have Md : modn_Mod.f b q = some (ofN (nI b % nI q), 0) := by
      unfold modn_Mod.f
      rw [if_pos ⟨kb.le (by omega), kq.le (by omega)⟩, modR_pos (by omega)]
    rw [A, A', Option.bind_some, B, B', Option.bind_some, if_pos rfl, X, Option.bind_some]
    unfold extractR
    rw [if_pos h0]
    by_cases hg : Nat.gcd (minusN (nI r) (nI s) (nI q)) (nI q) = 1
    · rw [if_pos hg, if_pos rfl, Md, Option.bind_some, al, Option.bind_some, if_pos rfl, knows q2 hg]
      simp [clepsydraref01_Same.f]
    · rw [if_neg hg, if_neg (by decide), al, Option.bind_some, if_pos rfl, if_pos rfl]
      rfl
  · have A' : answerR (nI p) (nI q) (nI g) (nI b) (nI k) (nI r) = ([], 60) := if_neg (by omega)
    have B' : answerR (nI p) (nI q) (nI g) (nI b) (nI k) (nI s) = ([], 60) := if_neg (by omega)
    rw [A, A', Option.bind_some, B, B', Option.bind_some, if_neg (by decide), al, Option.bind_some]
theorem iffKnows_pure (wp : ∀ y ∈ p, 0 ≤ y ∧ y < 18446744073709551616) (wq : ∀ y ∈ q, 0 ≤ y ∧ y < 18446744073709551616) (wg : ∀ y ∈ g, 0 ≤ y ∧ y < 18446744073709551616) (wb : ∀ y ∈ b, 0 ≤ y ∧ y < 18446744073709551616) (wk : ∀ y ∈ k, 0 ≤ y ∧ y < 18446744073709551616) (wr : ∀ y ∈ r, 0 ≤ y ∧ y < 18446744073709551616) (ws : ∀ y ∈ s, 0 ≤ y ∧ y < 18446744073709551616) : clepsydralaw06_IffKnows.f 1 p q g b k r s = some true := by
  have jt : clepsydralaw06_IffKnows.j0 1 b k r s true p q g = some true := rfl
  unfold clepsydralaw06_IffKnows.f clepsydraref06_Heavy.f clepsydralaw06_heavy.f
  by_cases a1 : (p.length : Int) > 3
  · rw [if_pos a1, Option.bind_some, if_pos rfl, jt]
  rw [if_neg a1]
  by_cases a2 : (q.length : Int) > 3
  · rw [if_pos a2, Option.bind_some, if_pos rfl, jt]
  rw [if_neg a2, Option.bind_some]
  by_cases a3 : (g.length : Int) > 3
  · rw [decide_eq_true a3, if_pos rfl, jt]
  rw [decide_eq_false a3, if_neg (by decide), Option.bind_some]
  by_cases a4 : (b.length : Int) > 3
  · rw [decide_eq_true a4, if_pos rfl, jt]
  rw [decide_eq_false a4, if_neg (by decide), Option.bind_some]
  by_cases a5 : (k.length : Int) > 3
  · rw [decide_eq_true a5, if_pos rfl, jt]
  rw [decide_eq_false a5, if_neg (by decide), Option.bind_some]
  by_cases a6 : (r.length : Int) > 3
  · rw [decide_eq_true a6, if_pos rfl, jt]
  rw [decide_eq_false a6, if_neg (by decide), Option.bind_some]
  by_cases a7 : (s.length : Int) > 3
  · rw [decide_eq_true a7, jt]
  rw [decide_eq_false a7]
  exact iffKnows_in (okA' wp a1) (okA' wq a2) (okA' wg a3) (okA' wb a4) (okA' wk a5) (okA' wr a6) (okA' ws a7)
end
theorem walk_IffKnows (x0 : PArg) (x1 x2 x3 x4 : NArg) (w : World) (h0 : x0.R w) (h1 : x1.R w) (h2 : x2.R w) (h3 : x3.R w) (h4 : x4.R w) : Calls Try.prog 7 #[x0.v, x1.v, x2.v, x3.v, x4.v] w fun e w' => e = .returned (.bool true) ∧ Below w.heap.size w w' :=
  clepsydralaw06_IffKnows.calls 1 _ _ _ _ _ _ _ _ _ _ _ _ _ _ _ _ _ _ _ _ _ true w h0.1.1 h0.1.2.1 h0.2.1.1 h0.2.1.2.1 h0.2.2.1 h0.2.2.2.1 h1.1 h1.2.1 h2.1 h2.2.1 h3.1 h3.2.1 h4.1 h4.2.1 (iffKnows_pure h0.1.2.2 h0.2.1.2.2 h0.2.2.2.2 h1.2.2 h2.2.2 h3.2.2 h4.2.2) rfl
end Go.Proofs.Ytdmglajfmfjmlaa
