/- The document's digest: contracts of its pieces. -/
import Derived.Test.YtiimflmbcgnbeaaT0
import Derived.Test.YtiimflmbcgnbeaaSa
namespace Go.Proofs.Ytiimflmbcgnbeaa
set_option linter.unusedSimpArgs false
set_option linter.unusedVariables false
open Go.RowKit Go.Proofs.YtiimflmbcgnbeaaW.PrintWords Go.Proofs.YtiimflmbcgnbeaaW.PrintLast Go.Proofs.YtiimflmbcgnbeaaW.PrintMore Go.Proofs.Ytiimflmbcgnbeaa.Sa

theorem rconstants_any (w : World) : Calls Try.prog 50 #[] w fun e w' => ∃ A c, e = .returned (.slice A 64 c) ∧ Own .u32 41 w' w.heap.size A 64 c kN ∧ Below w.heap.size w w' :=
  (clepsydraref02_constants.calls _ w constants_f).mono fun e w' ⟨v, he, hr, hb⟩ => by
    obtain ⟨A, c, rfl, ho⟩ := own_of_ret hr
    exact ⟨A, c, he, ho, hb⟩
theorem rfirst_any (w : World) : Calls Try.prog 51 #[] w fun e w' => ∃ A c, e = .returned (.slice A 8 c) ∧ Own .u32 41 w' w.heap.size A 8 c hN ∧ Below w.heap.size w w' :=
  (clepsydraref02_first.calls _ w first_f).mono fun e w' ⟨v, he, hr, hb⟩ => by
    obtain ⟨A, c, rfl, ho⟩ := own_of_ret hr
    exact ⟨A, c, he, ho, hb⟩
theorem rpadded_any (w : World) {b : List Nat} {B : Option Addr} {n d : Nat} (hb : Rd .u8 w B n d b) (hn : n < 1000000000000) :
    Calls Try.prog 52 #[.slice B n d] w fun e w' => ∃ A c, e = .returned (.slice A (b ++ padN n).length c) ∧ Own .u8 5 w' w.heap.size A (b ++ padN n).length c (b ++ padN n) ∧ Below w.heap.size w w' := by
  obtain rfl := hb.len
  have h := clepsydraref02_padded.calls 74 B d (cI b) _ w (C_of_Rd hb) (by rw [cI_length]; exact hb.cap) (padded_f b hn)
  rw [cI_length] at h
  exact h.mono fun e w' ⟨v, he, hr, hb⟩ => by
    obtain ⟨A, c, rfl, ho⟩ := own_of_ret hr
    exact ⟨A, c, he, ho, hb⟩
theorem rschedule_any (w : World) {p : List Nat} {B : Option Addr} {d : Nat} (hp : Rd .u8 w B 64 d p) (b8 : B8 p) :
    Calls Try.prog 53 #[.slice B 64 d] w fun e w' => ∃ A c, e = .returned (.slice A 64 c) ∧ Own .u32 41 w' w.heap.size A 64 c (sched 48 (w16 p)) ∧ Below w.heap.size w w' := by
  have h := clepsydraref02_schedule.calls 146 B d (cI p) _ w (C_of_Rd hp) (by rw [cI_length, hp.len]; exact hp.cap) (schedule_f p hp.len b8)
  rw [cI_length, hp.len] at h
  exact h.mono fun e w' ⟨v, he, hr, hb⟩ => by
    obtain ⟨A, c, rfl, ho⟩ := own_of_ret hr
    have hl : (sched 48 (w16 p)).length = 64 := by rw [sched_length, w16_length]
    rw [hl] at he ho
    exact ⟨A, c, he, ho, hb⟩
theorem rjoin_any (w : World) {a b : List Nat} {A B : Option Addr} {n m c d : Nat} (ha : Rd .u8 w A n c a) (hb : Rd .u8 w B m d b) (hlen : n + m < 140737488355328) :
    Calls Try.prog 19 #[.slice A n c, .slice B m d] w fun e w' => ∃ A' c', e = .returned (.slice A' (n + m) c') ∧ Own .u8 5 w' w.heap.size A' (n + m) c' (a ++ b) ∧ Below w.heap.size w w' := by
  obtain rfl := ha.len
  obtain rfl := hb.len
  have h := clepsydraref02_Join.calls A c (cI a) B d (cI b) _ w (C_of_Rd ha) (by rw [cI_length]; exact ha.cap) (C_of_Rd hb) (by rw [cI_length]; exact hb.cap) (join_f a b hlen)
  rw [cI_length, cI_length] at h
  exact h.mono fun e w' ⟨v, he, hr, hb⟩ => by
    obtain ⟨A, c, rfl, ho⟩ := own_of_ret hr
    rw [List.length_append] at he ho
    exact ⟨A, c, he, ho, hb⟩
theorem rturned_any (w : World) {x n r : Nat} (z : Int) (hz : z = (n : Int)) (hx : x < 4294967296) (h0 : 0 < n) (h1 : n < 32) (hr : rot x n = r) :
    Calls Try.prog 54 #[.int .u32 x, .int .i64 z] w fun e w' => e = .returned (.int .u32 ((r : Nat) : Int)) ∧ ∃ k, w' = w.drewN k := by
  subst hz hr
  exact (clepsydraref02_turned.calls _ _ _ w (turned_f hx h0 h1)).mono fun e w' ⟨he, hd⟩ => ⟨he, hd.out⟩
theorem quiet_add {P : Program} {f : FuncId} {args : Array Value} {w : World} {a n : Nat} {v : Value}
    (h : Calls P f args (w.drewN (a + n)) fun e w' => e = .returned v ∧ ∃ m, w' = (w.drewN (a + n)).drewN m) :
    Calls P f args (w.drewN (a + n)) fun e w'' => e = .returned v ∧ ∃ m, w'' = w.drewN (a + m) :=
  h.mono fun _ _ ⟨he, m, hm⟩ => ⟨he, n + m, by rw [hm, World.drewN_drewN, Nat.add_assoc]⟩
/-- the words with all behind place s moved up by one -/
def shf (v : List Nat) (s : Nat) : List Nat := v.take (s + 1) ++ (v.drop s).take (7 - s)
theorem shf_length {v : List Nat} (h : v.length = 8) {s : Nat} (hs : s ≤ 7) : (shf v s).length = 8 := by
  simp [shf, h]; omega
theorem shf_seven {v : List Nat} (h : v.length = 8) : shf v 7 = v := by
  unfold shf; rw [List.take_of_length_le (by omega)]; simp
theorem shf_gd {v : List Nat} (h : v.length = 8) {s : Nat} (h0 : 0 < s) (hs : s ≤ 7) : gd (shf v s) (s - 1) = gd v (s - 1) := by
  unfold shf
  rw [gd_append_left (by rw [List.length_take]; omega), gd_take (by omega)]
theorem shf_set {v : List Nat} (h : v.length = 8) {s : Nat} (h0 : 0 < s) (hs : s ≤ 7) : (shf v s).set s (gd v (s - 1)) = shf v (s - 1) := by
  match v, h with
  | [_, _, _, _, _, _, _, _], _ =>
    match s, h0, hs with
    | 1, _, _ => rfl
    | 2, _, _ => rfl
    | 3, _, _ => rfl
    | 4, _, _ => rfl
    | 5, _, _ => rfl
    | 6, _, _ => rfl
    | 7, _, _ => rfl
theorem shf_end {v : List Nat} (h : v.length = 8) (x y : Nat) : ((shf v 0).set 0 x).set 4 y = [x, gd v 0, gd v 1, gd v 2, y, gd v 4, gd v 5, gd v 6] := by
  match v, h with
  | [_, _, _, _, _, _, _, _], _ => rfl
theorem shf_four {v : List Nat} (h : v.length = 8) (x : Nat) : gd ((shf v 0).set 0 x) 4 = gd v 3 := by
  match v, h with
  | [_, _, _, _, _, _, _, _], _ => rfl
/-- the i-th byte of the digest -/
theorem outN_gd (ws : List Nat) (t r : Nat) (ht : t < ws.length) (hr : r < 4) : gd (outN ws) (4 * t + r) = gd ws t / 2 ^ (24 - 8 * r) % 256 := by
  have e : outN ws = outN (ws.take t) ++ outN (ws.drop t) := by
    unfold outN
    rw [← List.flatMap_append, List.take_append_drop]
  have hl : (outN (ws.take t)).length = 4 * t := by rw [outN_length, List.length_take]; omega
  rw [e, gd_append_right (by omega), hl, show 4 * t + r - 4 * t = r by omega, List.drop_eq_getElem_cons ht, gd_lt ht]
  match r, hr with
  | 0, _ => rfl
  | 1, _ => rfl
  | 2, _ => rfl
  | 3, _ =>
    show ws[t] % 256 = ws[t] / 1 % 256
    rw [Nat.div_one]
/-- the digest's bytes, with i of them laid -/
def outJ (ws : List Nat) (i : Nat) : List Nat := (outN ws).take i ++ List.replicate (32 - i) 0
theorem outJ_length {ws : List Nat} (h : ws.length = 8) {i : Nat} (hi : i ≤ 32) : (outJ ws i).length = 32 := by
  unfold outJ
  rw [List.length_append, List.length_take, outN_length, List.length_replicate]; omega
theorem outJ_set {ws : List Nat} (h : ws.length = 8) {i : Nat} (hi : i < 32) : (outJ ws i).set i (gd (outN ws) i) = outJ ws (i + 1) := by
  have hl : (outN ws).length = 32 := by rw [outN_length, h]
  unfold outJ
  obtain ⟨k, hk⟩ : ∃ k, 32 - i = k + 1 := ⟨31 - i, by omega⟩
  rw [hk, show 32 - (i + 1) = k by omega, List.set_append_right _ _ (by rw [List.length_take]; omega), List.length_take, Nat.min_eq_left (by omega), Nat.sub_self, List.take_succ_eq_append_getElem (by omega), List.replicate_succ, List.set_cons_zero, gd_lt (by omega), List.append_assoc]
  rfl
theorem outJ_zero (ws : List Nat) : outJ ws 0 = List.replicate 32 0 := by simp [outJ]
theorem outJ_end {ws : List Nat} (h : ws.length = 8) : outJ ws 32 = outN ws := by
  unfold outJ
  rw [List.take_of_length_le (by rw [outN_length, h]; decide)]; simp
theorem shaN_eq (b : List Nat) (j : Nat) (h : 64 * j = (b ++ padN b.length).length) : outN (foldB hN (b ++ padN b.length) j) = shaN b := by
  unfold shaN stN
  rw [← h, Nat.mul_div_cancel_left j (by omega)]
theorem pad_full (b : List Nat) : (b ++ padN b.length).length % 64 = 0 := by
  rw [List.length_append, padN_length]; omega
end Go.Proofs.Ytiimflmbcgnbeaa
