/- Who knows it proves it: the plain law and the walk. -/
import Derived.Test.YtdmglajfmfjmlaaLIffProvesx
import Derived.Test.YtdmglajfmfjmlaaIF
namespace Go.Proofs.Ytdmglajfmfjmlaa
set_option linter.unusedSimpArgs false
set_option linter.unusedVariables false
set_option maxRecDepth 100000
open Go.RowKit Go.Proofs.YtdmglajfmfjmlaaW.PrintWords Go.Proofs.YtdmglajfmfjmlaaW.PrintLast Go.Proofs.Ytdmglajfmfjmlaa.LIffProves

theorem okA {l : List Int} (hw : ∀ y ∈ l, 0 ≤ y ∧ y < 18446744073709551616) (h : ¬ (l.length : Int) > 3) : okN 64 l := ⟨by omega, hw⟩
theorem cmpN_lt' {a b : Nat} (h : a < b) : cmpN a b < 0 := by unfold cmpN; rw [if_pos h]; decide
section
variable {p q g b k r : List Int}
theorem iffProves_in (kp : okN 64 p) (kq : okN 64 q) (kg : okN 64 g) (kb : okN 64 b) (kk : okN 64 k) (kr : okN 64 r) : clepsydralaw06_IffProves.j0 1 b k r false p q g = some true := by
  have F : iff_Face.f p q g b = some (faceR (nI p) (nI q) (nI g) (nI b)) := if_pos ⟨kp, kq, kg, kb⟩
  have M : iff_Mark.f p q g k = some (markR (nI p) (nI q) (nI g) (nI k)) := if_pos ⟨kp, kq, kg, kk⟩
  have A : iff_Answer.f p q g b k r = some (answerR (nI p) (nI q) (nI g) (nI b) (nI k) (nI r)) := if_pos ⟨kp, kq, kg, kb, kk, kr⟩
  have R : iff_Right.f p q g = some (rightN (nI p) (nI q) (nI g)) := if_pos ⟨kp, kq, kg⟩
  have al : clepsydralaw06_alive.f = some true := rfl
  simp only [clepsydralaw06_IffProves.j0, Bool.false_eq_true, if_false]
  rcases rightN_or (nI p) (nI q) (nI g) with h0 | h0
  · obtain ⟨p2, q2, -, -, hG⟩ := rightN_zero h0
    have lp := ln_nI kp
    have lq := ln_nI kq
    have oV : okN 64 (ofN (powM (nI g) (nI q - nI b % nI q) (nI p))) := ofN_ok (Nat.le_of_lt (powM_lt (by omega))) lp
    have hy : (nI k + nI b * nI r) % nI q < nI q := Nat.mod_lt _ (by omega)
    have oY : okN 64 (ofN ((nI k + nI b * nI r) % nI q)) := ofN_ok (Nat.le_of_lt hy) lq
    have F' : faceR (nI p) (nI q) (nI g) (nI b) = (ofN (powM (nI g) (nI q - nI b % nI q) (nI p)), 0) := if_pos h0
    have M' : markR (nI p) (nI q) (nI g) (nI k) = (hashR (powM (nI g) (nI k) (nI p)), 0) := if_pos h0
    have A' : answerR (nI p) (nI q) (nI g) (nI b) (nI k) (nI r) = (ofN ((nI k + nI b * nI r) % nI q), 0) := if_pos h0
    have C : nat_Cmp.f (ofN ((nI k + nI b * nI r) % nI q)) q = some (cmpN ((nI k + nI b * nI r) % nI q) (nI q)) := by
      unfold nat_Cmp.f
      rw [if_pos ⟨oY.le (by omega), kq.le (by omega)⟩, nI_ofN]
    have Hd : iff_Holds.f p q g (ofN (powM (nI g) (nI q - nI b % nI q) (nI p))) r (ofN ((nI k + nI b * nI r) % nI q)) (hashR (powM (nI g) (nI k) (nI p))) = some true := by
      unfold iff_Holds.f
      rw [if_pos ⟨kp, kq, kg, oV, kr, oY⟩, nI_ofN, nI_ofN]
      unfold holdsR
      rw [if_pos h0, proves (by omega) (by omega) hG, beq_self_eq_true]
    rw [F, F', Option.bind_some, if_pos rfl, M, M', Option.bind_some, A, A', Option.bind_some, al, Option.bind_some, if_pos rfl, if_pos rfl, if_pos rfl, C, Option.bind_some, if_pos (cmpN_lt' hy), Hd, Option.bind_some]
  · have F' : faceR (nI p) (nI q) (nI g) (nI b) = ([], 60) := if_neg (by omega)
    rw [F, F', Option.bind_some, if_neg (by decide), al, Option.bind_some, if_pos rfl, R, Option.bind_some, h0, if_pos rfl]
    rfl
theorem iffProves_pure (wp : ∀ y ∈ p, 0 ≤ y ∧ y < 18446744073709551616) (wq : ∀ y ∈ q, 0 ≤ y ∧ y < 18446744073709551616) (wg : ∀ y ∈ g, 0 ≤ y ∧ y < 18446744073709551616) (wb : ∀ y ∈ b, 0 ≤ y ∧ y < 18446744073709551616) (wk : ∀ y ∈ k, 0 ≤ y ∧ y < 18446744073709551616) (wr : ∀ y ∈ r, 0 ≤ y ∧ y < 18446744073709551616) : clepsydralaw06_IffProves.f 1 p q g b k r = some true := by
  have jt : clepsydralaw06_IffProves.j0 1 b k r true p q g = some true := rfl
  unfold clepsydralaw06_IffProves.f clepsydraref06_Heavy.f clepsydralaw06_heavy.f
  by_cases a1 : (p.length : Int) > 3
  · rw [if_pos a1, Option.bind_some, if_pos rfl, jt]
  rw [if_neg a1]
  by_cases a2 : (q.length : Int) > 3
  · rw [if_pos a2, Option.bind_some, if_pos rfl, jt]
  rw [if_neg a2, Option.bind_some]
  by_cases a3 : (g.length : Int) > 3
  · rw [decide_eq_true a3, if_pos rfl, jt]
  rw [decide_eq_false a3, if_neg (by decide), Option.bind_some]
  by_cases a4 : (b.length : Int) > 3
  · rw [decide_eq_true a4, if_pos rfl, jt]
  rw [decide_eq_false a4, if_neg (by decide), Option.bind_some]
  by_cases a5 : (k.length : Int) > 3
  · rw [decide_eq_true a5, if_pos rfl, jt]
  rw [decide_eq_false a5, if_neg (by decide), Option.bind_some]
  by_cases a6 : (r.length : Int) > 3
  · rw [decide_eq_true a6, jt]
  rw [decide_eq_false a6]
  exact iffProves_in (okA wp a1) (okA wq a2) (okA wg a3) (okA wb a4) (okA wk a5) (okA wr a6)
end
theorem walk_IffProves (x0 : PArg) (x1 x2 x3 : NArg) (w : World) (h0 : x0.R w) (h1 : x1.R w) (h2 : x2.R w) (h3 : x3.R w) : Calls Try.prog 6 #[x0.v, x1.v, x2.v, x3.v] w fun e w' => e = .returned (.bool true) ∧ Below w.heap.size w w' :=
  clepsydralaw06_IffProves.calls 1 _ _ _ _ _ _ _ _ _ _ _ _ _ _ _ _ _ _ true w h0.1.1 h0.1.2.1 h0.2.1.1 h0.2.1.2.1 h0.2.2.1 h0.2.2.2.1 h1.1 h1.2.1 h2.1 h2.2.1 h3.1 h3.2.1 (iffProves_pure h0.1.2.2 h0.2.1.2.2 h0.2.2.2.2 h1.2.2 h2.2.2 h3.2.2) rfl
end Go.Proofs.Ytdmglajfmfjmlaa
