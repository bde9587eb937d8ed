/- A key's two works undo each other: of any number, by a key of two primes. -/
import Derived.Test.YtdmglajfmfjmlaaLTopUndox1
import Derived.Test.YtdmglajfmfjmlaaKG
namespace Go.Proofs.Ytdmglajfmfjmlaa.Pure
open Go.RowKit Go.Proofs.Ytdmglajfmfjmlaa.LTopUndo Go.Proofs.YtdmglajfmfjmlaaW.PrintWords Go.Proofs.YtdmglajfmfjmlaaW.PrintLast

theorem undo {p q N e d : Nat} (hp : IsPrime p) (hq : IsPrime q) (hne : p ≠ q) (hN : N = p * q) (hed : e * d % ((p - 1) * (q - 1)) = 1) {r : Nat} (hr : r < N) : powM (powM r e N) d N = r := by
  subst hN
  unfold powM
  rw [← Nat.pow_mod, ← Nat.pow_mul, rsa hp hq hne hed r, Nat.mod_eq_of_lt hr]
theorem core {N E D : Nat} (hN : 1 < N) (hl : ln N ≤ 64) (hE : ln E ≤ 64) (hD : ln D ≤ 64) (h1 : ∀ r, r < N → powM (powM r E N) D N = r) (h2 : ∀ r, r < N → powM (powM r D N) E N = r) {l : List Int} (hl1 : okN 262144 l) :
    ((modn_Mod.f l (ofN N)).bind fun bt113 => ((modn_Pow.f bt113.1 (ofN E) (ofN N)).bind fun bt117 => ((modn_Pow.f bt117.1 (ofN D) (ofN N)).bind fun bt121 => ((modn_Pow.f bt113.1 (ofN D) (ofN N)).bind fun bt125 => ((modn_Pow.f bt125.1 (ofN E) (ofN N)).bind fun bt129 => ((clepsydratop_alive03.f).bind fun t133 => (if t133 = true then (if bt117.2 = 0 then (if bt121.2 = 0 then ((clepsydraref01_Same.f bt121.1 bt113.1).bind fun t134 => (if t134 = true then ((clepsydraref01_Same.f bt129.1 bt113.1).bind fun t135 => (some t135)) else (some false))) else (some false)) else (some false)) else (some false)))))))) = some true := by
  have P : ∀ a e : Nat, ln a ≤ 64 → ln e ≤ 64 → modn_Pow.f (ofN a) (ofN e) (ofN N) = some (ofN (powM a e N), 0) := fun a e ha he => by
    unfold modn_Pow.f
    rw [if_pos ⟨okN_ofN (by omega), okN_ofN (by omega), okN_ofN (by omega)⟩, nI_ofN, nI_ofN, nI_ofN, powR_pos (by omega)]
  have L : ∀ a, a < N → ln a ≤ 64 := fun a h => Nat.le_trans (ln_mono (Nat.le_of_lt h)) hl
  have LP : ∀ a e, ln (powM a e N) ≤ 64 := fun a e => L _ (powM_lt (by omega))
  have hr : nI l % N < N := Nat.mod_lt _ (by omega)
  unfold modn_Mod.f
  rw [if_pos ⟨hl1, okN_ofN (by omega)⟩, Option.bind_some, nI_ofN, modR_pos (by omega)]
  simp only []
  rw [P _ _ (L _ hr) hE, Option.bind_some, P _ _ (LP _ _) hD, Option.bind_some, P _ _ (L _ hr) hD, Option.bind_some, P _ _ (LP _ _) hE, Option.bind_some, h1 _ hr, h2 _ hr]
  simp [clepsydratop_alive03.f, clepsydraref01_Same.f]
theorem TopUndo : clepsydratop_TopUndo.Pure := by
  intro a0 l1 _ _ _ hw1
  unfold clepsydratop_TopUndo.f
  by_cases h0 : (l1.length : Int) > 8
  · rw [if_pos h0]; rfl
  rw [if_neg h0]
  have k1 : okN 262144 l1 := (okL (m := 8) (by omega) hw1).le (by omega)
  unfold clepsydratop_known.f knownR
  rw [Option.bind_some]
  split
  · simp only [if_true]
    exact core (by decide) (ln_le.2 (by decide +kernel)) (ln_le.2 (by decide +kernel)) (ln_le.2 (by decide +kernel)) (fun r hr => undo (e := 65537) (d := D1) pr_M127 pr_M107 (by decide) (by decide +kernel) (by decide +kernel) hr) (fun r hr => undo (e := D1) (d := 65537) pr_M127 pr_M107 (by decide) (by decide +kernel) (by decide +kernel) hr) k1
  · simp only [if_true]
    exact core (by decide) (ln_le.2 (by decide +kernel)) (ln_le.2 (by decide +kernel)) (ln_le.2 (by decide +kernel)) (fun r hr => undo (e := 65537) (d := D2) pr_M127 pr_M89 (by decide) (by decide +kernel) (by decide +kernel) hr) (fun r hr => undo (e := D2) (d := 65537) pr_M127 pr_M89 (by decide) (by decide +kernel) (by decide +kernel) hr) k1
end Go.Proofs.Ytdmglajfmfjmlaa.Pure
