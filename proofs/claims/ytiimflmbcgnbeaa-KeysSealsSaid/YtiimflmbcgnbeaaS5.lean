/- The whole blocks of a slice, one after the other: the iterator. -/
import Derived.Test.YtiimflmbcgnbeaaS4
import Derived.Test.YtiimflmbcgnbeaaLp
import Derived.Test.YtiimflmbcgnbeaaAp
import Derived.RangeFuncNested
import Derived.RangeFuncBound
import Derived.RangeFuncCalls
import Derived.RangeFuncLeaves
import Derived.LoopNIn
import Derived.LoopIn
import Derived.TacticsInMore
namespace Go.Proofs.Ytiimflmbcgnbeaa
set_option linter.unusedSimpArgs false
set_option linter.unusedVariables false
open Go.RowKit
attribute [local go_sem] Oper.semAt_some

theorem grown_box (W : World) (B : Nat) (u : Value) : W.grownBy (W.setCell ⟨B, 0, none⟩ u) (some B) :=
  ⟨rfl, rfl, rfl, by simp [World.setCell], fun k _ hk => Below.heap_setCell W ⟨B, 0, none⟩ u k (fun e => hk (by rw [e]))⟩
/-- how long the slice in a box is -/
def boxLen (W : World) (B : Nat) : Nat := match W.cell? ⟨B, 0, none⟩ with
  | some (.slice _ n _) => n
  | _ => 0
/-- the i-th block, as a value -/
def blkV (A : Option Addr) (i : Nat) : Value := .slice (A.map (·.add (64 * i))) 64 64

theorem blocks_maker (w : World) (A : Option Addr) (L c : Nat) : Calls Try.prog 56 #[.slice A L c] w fun e w' => e = .returned (.func (.func 65) #[] #[.pointer (some ⟨w.heap.size, 0, none⟩)]) ∧ w' = w.alloc (.cells #[.slice A L c] 22) := by
  go_enter Try.func56, Try.ntmps56
  go_wp2
  exact bodyPost_ret (by simp [results, Try.results56, go_sem]) rfl ⟨rfl, rfl⟩

set_option maxRecDepth 100000 in
theorem blocks_gives (n : Nat) (hn : 1 ≤ n) (Bn : Nat) (A : Option Addr) (L c : Nat) (hA : ∀ i, 64 * (i + 1) ≤ L → ∃ ad, A = some ad) (hLc : L ≤ c) (l : Nat) (J : List Nat → World → Prop)
    (hJ : AbidesBox Bn J)
    (hY : ∀ pre x W, J pre W → (pre = List.range x ∧ x < L / 64) → YieldAt Fence.wide (n - 1) Try.prog l #[blkV A x] W fun e W' => e = .returned (.bool true) ∧ J (pre ++ [x]) W' ∧ W'.heap[Bn]? = W.heap[Bn]?)
    (W : World) (hB : Bk W Bn 22 #[.slice A L c]) (h0 : J [] W) :
    CallsIn Fence.wide n Try.prog 65 #[.func (.yield l) #[] #[], .pointer (some ⟨Bn, 0, none⟩)] W fun e W' => (∃ v, e = .returned v) ∧ ∃ xs, xs = List.range (L / 64) ∧ J xs W' := by
  refine callsIn_of_wp Try.func65 rfl trivial ?_ rfl
  simp only [Try.ntmps65, List.size_toArray, List.length_cons, List.length_nil, Nat.reduceAdd, Nat.reduceSub, Array.replicate_succ, Array.replicate_zero, List.push_toArray, List.append_toArray, List.nil_append, List.cons_append]
  gi_wp2
  gi_loopw [] (fun wr => ∃ (k r q : Nat) (A' : Option Addr), r + 64 * k = L ∧ q + 64 * k = c ∧ Bk wr Bn 22 #[.slice A' r q] ∧ (64 ≤ r → A' = A.map (·.add (64 * k))) ∧ J (List.range k) wr) (fun wr => boxLen wr Bn)
  case atStart => exact ⟨0, L, c, A, rfl, rfl, hB, fun _ => by cases A <;> rfl, h0⟩
  case round =>
    obtain ⟨k, r, q, A', hr, hq, hbk, hA', hj⟩ := hrel
    have hc0 : wr.cell? ⟨Bn, 0, none⟩ = some (.slice A' r q) := hbk.cell 0
    by_cases h64 : 64 ≤ r
    · obtain ⟨ad, rfl⟩ := hA k (by omega)
      obtain rfl : A' = some (ad.add (64 * k)) := hA' h64
      obtain ⟨ak, hak⟩ : ∃ x, ad.add (64 * k) = x := ⟨_, rfl⟩
      obtain ⟨fn, tmps, assign, body, hy, hR⟩ := hY (List.range k) k wr hj ⟨rfl, by omega⟩
      simp only [blkV, Option.map_some, hak] at hy hc0 hbk
      have hr64 : (64 : Int) ≤ (r : Int) := by omega
      have hq64 : (64 : Int) ≤ (q : Int) := by omega
      gi_wp2
      refine hR.mono ?_
      rintro e W' ⟨rfl, hj', hB'⟩
      have hbk' : Bk W' Bn 22 #[.slice (some ak) r q] := hB'.trans hbk
      have hc' : W'.cell? ⟨Bn, 0, none⟩ = some (.slice (some ak) r q) := hbk'.cell 0
      have hf' := hbk'.frozen 0
      gi_wp2
      go_roundw
      case rel => 
        have hst := hbk'.set 0 (.slice (if q = 64 then some ak else some ⟨ak.block, ak.off + 64, none⟩) (r - 64) (q - 64))
        refine ⟨k + 1, r - 64, q - 64, (if q = 64 then some ak else some ⟨ak.block, ak.off + 64, none⟩), by omega, by omega, hst, fun h => ?_, ?_⟩
        · rw [if_neg (by omega), Option.map_some, show 64 * (k + 1) = 64 * k + 64 by omega, ← Addr.add_add, hak]
          rfl
        · rw [List.range_succ]
          exact hJ _ _ _ (some Bn) hj' (grown_box W' Bn _) (fun r hr => by cases hr; rfl)
      case measure =>
        have e1 : boxLen (W'.setCell ⟨Bn, 0, none⟩ (.slice (if q = 64 then some ak else some ⟨ak.block, ak.off + 64, none⟩) (r - 64) (q - 64))) Bn = r - 64 := by
          unfold boxLen
          rw [(hbk'.set 0 _).cell 0]; rfl
        have e2 : boxLen wr Bn = r := by unfold boxLen; rw [hc0]
        rw [e1, e2]; omega
    · gi_wp2
      go_end0
      refine ⟨⟨_, rfl⟩, _, rfl, ?_⟩
      have : L / 64 = k := by omega
      rw [this]; exact hj
end Go.Proofs.Ytiimflmbcgnbeaa
