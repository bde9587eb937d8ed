/- Values as arguments. -/
import Derived.Test.YtkmabfdnekphnaaJ0
import Derived.Test.YtkmabfdnekphnaaBy
import Derived.Test.YtkmabfdnekphnaaK0
import Derived.Lib.SmallJoins
namespace Go.Proofs.Ytkmabfdnekphnaa
set_option linter.unusedSimpArgs false
set_option linter.unusedVariables false
set_option maxRecDepth 100000
open Go.RowKit Go.ChangeShapes Go.WideShapes Go.Deep Go.ChangeAt Go.Joins

section
variable {H : Type} {enc : TypeId × Value → H} {W : World}
theorem bytes_fld {fuel : Nat} {v : Value} {y : DataW H × List MemPlace} (h : DataW.trod enc Try.prog W 0 (fun _ => true) true fuel 23 [v] = some y) : ∃ (A : Option Addr) (n c : Nat) (xs : List Nat), v = .slice A n c ∧ Rd .u8 W A n c xs ∧ ∀ x ∈ xs, x < 256 := by
  have hv : ∃ (A : Option Addr) (n c : Nat), v = .slice A n c := by
    rcases open_ints Try.underlying23 Try.underlying5 (by kernel_rfl) h with ⟨hcs, _⟩ | ⟨x, l, c', zs, hcs, _⟩
    · exact ⟨_, _, _, by simpa using hcs⟩
    · exact ⟨_, _, _, by simpa using hcs⟩
  obtain ⟨A, n, c, rfl⟩ := hv
  obtain ⟨xs, _, h1, h2⟩ := nums_arg (H := H) (enc := enc) (d := y.1) (p := y.2) Try.underlying23 Try.underlying5 (by kernel_rfl) ⟨fuel, by simpa [Value.cells] using h⟩ (fun z h => (u8_wf h).1)
  exact ⟨A, n, c, xs, rfl, h1, fun x hx => by have := (u8_wf (h2 x hx)).2; omega⟩
theorem val_of {n0 n1 n2 n3 : Nat} {c0 c1 c2 c3 : Value} {y0 y1 y2 y3 : DataW H × List MemPlace} (z0 : DataW.trod enc Try.prog W 0 (fun _ => true) true n0 22 [c0] = some y0) (z1 : DataW.trod enc Try.prog W 0 (fun _ => true) true n1 22 [c1] = some y1)
    (z2 : DataW.trod enc Try.prog W 0 (fun _ => true) true n2 23 [c2] = some y2) (z3 : DataW.trod enc Try.prog W 0 (fun _ => true) true n3 23 [c3] = some y3) : ∃ x : Vl, c0 = .int .u32 (x.ts : Int) ∧ c1 = .int .u32 (x.fs : Int) ∧ c2 = .slice x.A x.n x.c ∧ c3 = .slice x.B x.m x.d ∧ VR W x := by
  obtain ⟨t0, e0, _, u0⟩ := DataW.trod_int Try.underlying22 z0
  obtain ⟨t1, e1, _, u1⟩ := DataW.trod_int Try.underlying22 z1
  obtain ⟨A, n, c, xs, e2, r2, b2⟩ := bytes_fld z2
  obtain ⟨B, m, d, ys, e3, r3, b3⟩ := bytes_fld z3
  simp only [List.cons.injEq, and_true] at e0 e1
  have w0 := u32_wf u0
  have w1 := u32_wf u1
  subst e0 e1 e2 e3
  refine ⟨⟨t0.toNat, t1.toNat, A, n, c, xs, B, m, d, ys⟩, ?_, ?_, rfl, rfl, r2, r3, ?_, ?_, b2, b3⟩
  · show Value.int .u32 t0 = .int .u32 ((t0.toNat : Nat) : Int); rw [Int.toNat_of_nonneg w0.1]
  · show Value.int .u32 t1 = .int .u32 ((t1.toNat : Nat) : Int); rw [Int.toNat_of_nonneg w1.1]
  · show t0.toNat < _; omega
  · show t1.toNat < _; omega
theorem val_arg {base : Nat} {v : Value} {d : DataW H} {p : List MemPlace} (hv : Value.okWide Try.prog W .any base 25 v) (h : DataW.Trod enc Try.prog W 0 (fun _ => true) true 25 v d p) : ∃ x : Vl, v = vv x ∧ VR W x := by
  obtain ⟨c0, c1, c2, c3, y0, y1, y2, y3, n, rfl, _, _, z0, z1, z2, z3⟩ := open_agg4 Try.underlying25 (by kernel_rfl) (by kernel_rfl) hv h
  obtain ⟨x, rfl, rfl, rfl, rfl, hr⟩ := val_of z0 z1 z2 z3
  exact ⟨x, rfl, hr⟩
end
end Go.Proofs.Ytkmabfdnekphnaa
