/- Texts of this claim, joined: what its laws use. -/
import Derived.Test.YtdmglajfmfjmlaaB9F
import Derived.ProofKit
import Derived.OpenShut
import Derived.ShutString
import Derived.ChangeOld
import Derived.Below
import Derived.Lib.SmallJoins
import Derived.LaidMore
import Derived.WalkKit
import Derived.ChangeSlices
namespace Go.Proofs.Ytdmglajfmfjmlaa
set_option linter.unusedSimpArgs false
set_option linter.unusedVariables false
set_option maxRecDepth 100000
open Go.RowKit Go.Proofs.YtdmglajfmfjmlaaW.PrintWords Go.Proofs.YtdmglajfmfjmlaaW.PrintLast Go.Proofs.YtdmglajfmfjmlaaW.PrintMore
def idxZ : List Int → Nat → Int
  | [], _ => -1
  | b :: l, i => if b = 0 then (i : Int) else idxZ l (i + 1)
theorem idxZ_range : ∀ (l : List Int) (i : Nat), idxZ l i = -1 ∨ ∃ k, k < l.length ∧ idxZ l i = ((i + k : Nat) : Int) := by
  intro l
  induction l with
  | nil => intro i; exact .inl rfl
  | cons b l ih =>
    intro i
    unfold idxZ
    split
    · exact .inr ⟨0, by simp, rfl⟩
    · rcases ih (i + 1) with h | ⟨k, h1, h2⟩
      · exact .inl h
      · exact .inr ⟨k + 1, by simp; omega, by rw [h2]; congr 1; omega⟩
theorem idxZ_app {f : List Int} (h : ∀ x ∈ f, x ≠ 0) (t : List Int) : ∀ i, idxZ (f ++ 0 :: t) i = ((i + f.length : Nat) : Int) := by
  induction f with
  | nil => intro i; simp [idxZ]
  | cons b f ih =>
    intro i
    rw [List.cons_append]
    unfold idxZ
    rw [if_neg (h b (by simp)), ih (fun x hx => h x (by simp [hx]))]
    congr 1; simp; omega
def unpadR (b : List Int) : List Int × Int := if rd b 0 = 0 ∧ rd b 1 = 2 ∧ 8 ≤ idxZ (b.drop 2) 0 then (b.drop ((idxZ (b.drop 2) 0).toNat + 3), 0) else ([], 51)
def decR (n e d : Nat) (c : List Int) : List Int × Int := if keyR n e d = 0 ∧ d ≠ 0 then (if fitsR n c = true then unpadR (workR n d c) else ([], 51)) else ([], 50)
theorem index_pure {l : List Int} (hl : l.length ≤ 4096) : ∀ (m j k : Nat), l.length - j = m → j ≤ l.length → m < k → Cp.slices_Index_byte_byte.l0 k l 0 (l.length : Int) (j : Int) = some (idxZ (l.drop j) j) := by
  intro m
  induction m with
  | zero =>
    intro j k h1 h2 hk
    obtain ⟨k, rfl⟩ : ∃ q, k = q + 1 := ⟨k - 1, by omega⟩
    unfold Cp.slices_Index_byte_byte.l0
    rw [if_neg (by omega), List.drop_eq_nil_of_le (by omega)]
    rfl
  | succ m ih =>
    intro j k h1 h2 hk
    obtain ⟨k, rfl⟩ : ∃ q, k = q + 1 := ⟨k - 1, by omega⟩
    have hj : j < l.length := by omega
    unfold Cp.slices_Index_byte_byte.l0
    rw [if_pos (by omega), if_pos (by omega), if_pos (by omega), List.drop_eq_getElem_cons hj]
    unfold idxZ
    have hr : rd l (j : Int) = l[j] := by unfold rd; rw [Int.toNat_natCast, List.getD_eq_getElem?_getD, List.getElem?_eq_getElem hj]; rfl
    rw [hr]
    by_cases h0 : l[j] = 0
    · rw [if_pos h0.symm, if_pos h0]
    · rw [if_neg (fun e => h0 e.symm), if_neg h0, wn1 (by omega)]
      exact ih (j + 1) k (by omega) (by omega) (by omega)
section
variable {n e d c : List Int}
theorem decrypt_pure (hn : okN 64 n) (he : okN 64 e) (hd : okN 64 d) (hc : okB c) (hl : c.length ≤ 2097152) : Cp.pkey_Decrypt.f 200 n e d c = some (decR (nI n) (nI e) (nI d) c) := by
  have jt : Cp.pkey_Decrypt.j0 200 c true n e d = some ([], 50) := rfl
  unfold Cp.pkey_Decrypt.f decR
  rw [cp_right hn he hd, Option.bind_some]
  rcases keyR_or (nI n) (nI e) (nI d) with h0 | h0
  · have hz := keyR_zero h0
    have hz2 := szN_bounds hz.2.1
    have hz3 : 2 ≤ szN (nI n) := by unfold szN; omega
    have hn0 : nI n ≠ 0 := by omega
    rw [h0, if_pos rfl, cp_bits (hd.le (by omega)), Option.bind_some]
    by_cases hd0 : nI d = 0
    · rw [hd0, blen_zero, if_neg (by simp)]; exact jt
    · have hb : (((blen (nI d) : Nat) : Int) == 0) = false := by
        rw [blen_pos hd0]; simp; omega
      rw [hb, if_pos ⟨rfl, hd0⟩]
      simp only [Cp.pkey_Decrypt.j0, Bool.false_eq_true, if_false]
      rw [fits_pure hn hc hl hz.2.1, Option.bind_some]
      cases hf : fitsR (nI n) c
      · rw [if_neg (by decide), if_neg (by decide)]
      · have hsz : c.length = szN (nI n) := by
          unfold fitsR at hf
          rw [Bool.and_eq_true] at hf
          exact of_decide_eq_true hf.1
        rw [if_pos rfl, if_pos rfl, cp_work hn hd hc (by omega) hn0, Option.bind_some]
        have hB := workR_length (nI n) (nI d) c
        have hBo := workR_okB (nI n) (nI d) c
        generalize workR (nI n) (nI d) c = b at hB hBo ⊢
        have j1t : Cp.pkey_Decrypt.j1 199 b true = some ([], 51) := rfl
        unfold unpadR
        rw [if_pos (by omega)]
        by_cases r0 : rd b 0 = 0
        · rw [if_pos r0, if_pos (by omega)]
          by_cases r1 : rd b 1 = 2
          · rw [r1, bne_self_eq_false]
            simp only [Cp.pkey_Decrypt.j1, Bool.false_eq_true, if_false]
            have hi := index_pure (l := b.drop 2) (by rw [List.length_drop]; omega) _ 0 198 rfl (by omega) (by rw [List.length_drop]; omega)
            simp only [Int.ofNat_zero, List.drop_zero] at hi
            unfold Cp.slices_Index_byte_byte.f
            have p0 : (2 : Int) ≤ (b.length : Int) := by omega
            rw [if_pos p0, hi, Option.bind_some]
            clear hi
            rcases idxZ_range (b.drop 2) 0 with hx | ⟨k, hk1, hk2⟩
            · rw [hx, if_pos (by decide), if_neg (fun h => absurd h.2.2 (by decide))]
            · rw [List.length_drop] at hk1
              rw [Nat.zero_add] at hk2
              rw [hk2]
              clear hk2
              by_cases h8 : k < 8
              · have p1 : ((k : Nat) : Int) < 8 := by omega
                have p2 : ¬ (8 : Int) ≤ ((k : Nat) : Int) := by omega
                rw [if_pos p1, if_neg (fun h => p2 h.2.2)]
              · have p1 : ¬ ((k : Nat) : Int) < 8 := by omega
                have p2 : (8 : Int) ≤ ((k : Nat) : Int) := by omega
                have p3 : (0 : Int) ≤ ((k + 3 : Nat) : Int) := by omega
                have p4 : ((k + 3 : Nat) : Int) ≤ (b.length : Int) := by omega
                have p5 : (b.drop (k + 3)).length ≤ 2097152 := by rw [List.length_drop]; omega
                have hw : wrap64 ((k : Int) + 3) = ((k + 3 : Nat) : Int) := by rw [show ((k : Int) + 3) = ((k + 3 : Nat) : Int) by omega, wn (by omega)]
                rw [if_neg p1, if_pos (show rd b 0 = 0 ∧ True ∧ (8 : Int) ≤ ((k : Nat) : Int) from ⟨r0, trivial, p2⟩), hw, if_pos p3, if_pos p4, Int.toNat_natCast, Int.toNat_natCast]
                unfold Cp.slices_Clone_byte_byte.f
                rw [if_pos ⟨fun x hx => hBo x (List.mem_of_mem_drop hx), p5⟩, Option.bind_some]
          · have hne : (rd b 1 != 2) = true := by simpa using r1
            rw [hne, if_neg (fun h => r1 h.2.1)]; exact j1t
        · rw [if_neg r0, if_neg (fun h => r0 h.1)]; exact j1t
  · rw [h0, if_neg (by decide), if_neg (by omega)]; exact jt
end
theorem decrypt_li {w : World} {v0 v1 v2 vc : Value} {n e d c : List Int} (h0 : LI .u64 w v0 n) (h1 : LI .u64 w v1 e) (h2 : LI .u64 w v2 d) (hc : LI .u8 w vc c) (on : okN 64 n) (oe : okN 64 e) (od : okN 64 d) (oc : okB c) (lc : c.length ≤ 2097152) {S : List Int} {r : Int} (hr : decR (nI n) (nI e) (nI d) c = (S, r)) :
    Calls Try.prog 25 #[.agg #[v0, v1, v2], vc] w fun e_ w' => ∃ v, e_ = .returned (.tuple #[v, .int .i64 r]) ∧ LI .u8 w' v S ∧ Below w.heap.size w w' := by
  obtain ⟨A0, c0, rfl, h0, k0⟩ := h0
  obtain ⟨A1, c1, rfl, h1, k1⟩ := h1
  obtain ⟨A2, c2, rfl, h2, k2⟩ := h2
  obtain ⟨A3, c3, rfl, h3, k3⟩ := hc
  refine (Cp.pkey_Decrypt.calls 200 _ _ _ _ _ _ _ _ _ _ _ _ S r w h0 k0 h1 k1 h2 k2 h3 k3 ((decrypt_pure on oe od oc lc).trans (congrArg some hr))).mono ?_
  rintro e_ w' ⟨v, rfl, hR, hb⟩
  exact ⟨v, rfl, .of_R hR, hb⟩
theorem padP_form {u k : Nat} {f t : List Nat} (hf : f.length = u) : padP (u + t.length + 3) k f t = 0 :: k :: (f ++ 0 :: t) := by
  unfold padP padF padZ splice
  rw [show List.replicate (u + t.length + 3) 0 = 0 :: 0 :: List.replicate (u + t.length + 1) 0 from rfl, List.set_cons_succ, List.set_cons_zero, List.take_of_length_le (l := f) (by omega), hf]
  rw [show u + t.length + 3 - t.length = u + 3 by omega, show 2 + u = u + 2 by omega]
  simp only [List.take_succ_cons, List.take_zero, List.drop_succ_cons, List.drop_replicate, List.cons_append, List.nil_append]
  rw [show u + t.length + 1 - u = t.length + 1 by omega, List.take_append, hf, List.take_of_length_le (by omega), show u + 1 - u = 1 by omega]
  rw [show u + 3 + t.length = (u + t.length + 1) + 2 by omega]
  simp only [List.drop_succ_cons]
  rw [List.drop_eq_nil_of_le (by simp; omega)]
  simp
theorem encP_lt {n : Nat} {t dr : List Int} (ot : okB t) (od : okB dr) (h8 : t.length + 11 ≤ szN n) (hl : szN n - 3 - t.length ≤ (nz (toN dr)).length) :
    encP (szN n) t dr = 0 :: 2 :: (NI ((nz (toN dr)).take (szN n - 3 - t.length)) ++ 0 :: t) ∧ beV (encP (szN n) t dr) < n := by
  have hb := encP_okB (z := szN n) ot od
  have hL := encP_length (z := szN n) (t := t) (dr := dr) (by omega)
  have hf : ((nz (toN dr)).take (szN n - 3 - t.length)).length = szN n - 3 - t.length := by rw [List.length_take]; omega
  have e1 := padP_form (k := 2) (t := toN t) hf
  rw [toN_length, show szN n - 3 - t.length + t.length + 3 = szN n by omega] at e1
  have e : encP (szN n) t dr = 0 :: 2 :: (NI ((nz (toN dr)).take (szN n - 3 - t.length)) ++ 0 :: t) := by
    unfold encP
    rw [e1]
    have := back_cI (okB_pos ot)
    simp only [NI, List.map_cons, List.map_append]
    rw [this]; rfl
  refine ⟨e, ?_⟩
  rw [e] at hb hL ⊢
  generalize NI ((nz (toN dr)).take (szN n - 3 - t.length)) ++ 0 :: t = R at hb hL ⊢
  have h1 : beV R < 256 ^ R.length := beV_lt fun x hx => hb x (by simp [hx])
  have h2 : beV (0 :: 2 :: R) = 2 * 256 ^ R.length + beV R := by simp [beV]
  have h3 : R.length = szN n - 2 := by simp at hL; omega
  have h4 : 2 ^ (blen n - 1) ≤ n := by
    rcases Nat.lt_or_ge n (2 ^ (blen n - 1)) with h | h
    · have := blen_le.2 h
      unfold szN at h8; omega
    · exact h
  have h5 : 4 * 256 ^ (szN n - 2) ≤ 2 ^ (blen n - 1) := by
    rw [show (256 : Nat) = 2 ^ 8 by decide, ← Nat.pow_mul, show (4 : Nat) = 2 ^ 2 by decide, ← Nat.pow_add]
    exact Nat.pow_le_pow_right (by decide) (by unfold szN at h8 ⊢; omega)
  rw [h2, h3]
  rw [h3] at h1
  omega
section
variable {N E D : Nat} (K : KF N E D)
include K
theorem KF.crypt {t dr : List Int} (ot : okB t) (od : okB dr) (h8 : t.length + 11 ≤ szN N) (hl : szN N - 3 - t.length ≤ (nz (toN dr)).length) : decR N E D (workR N E (encP (szN N) t dr)) = (t, 0) := by
  obtain ⟨e, hlt⟩ := encP_lt ot od h8 hl
  have hb := encP_okB (z := szN N) ot od
  have hL := encP_length (z := szN N) (t := t) (dr := dr) (by omega)
  unfold decR
  have hfit : fitsR N (workR N E (encP (szN N) t dr)) = true := by
    unfold fitsR
    rw [workR_length, workR_val K.pos, decide_eq_true rfl, decide_eq_true (powM_lt K.pos)]; rfl
  rw [if_pos ⟨K.key, K.d0⟩, if_pos hfit, K.back2 hb hL hlt, e]
  have hf : ((nz (toN dr)).take (szN N - 3 - t.length)).length = szN N - 3 - t.length := by rw [List.length_take]; omega
  have hnz : ∀ x ∈ NI ((nz (toN dr)).take (szN N - 3 - t.length)), x ≠ 0 := by
    intro x hx
    simp only [NI, List.mem_map] at hx
    obtain ⟨y, hy, rfl⟩ := hx
    have := (List.mem_filter.1 (List.mem_of_mem_take hy)).2
    simp at this
    omega
  generalize hG : NI ((nz (toN dr)).take (szN N - 3 - t.length)) = G at hnz
  have hGl : G.length = szN N - 3 - t.length := by rw [← hG, NI_length, hf]
  unfold unpadR
  rw [show (0 :: 2 :: (G ++ 0 :: t)).drop 2 = G ++ 0 :: t from rfl, idxZ_app hnz]
  rw [if_pos ⟨rfl, rfl, by omega⟩]
  congr 1
  rw [Int.toNat_natCast, Nat.zero_add]
  show (G ++ 0 :: t).drop (G.length + 1) = t
  rw [← List.drop_drop, List.drop_left]; rfl
end
end Go.Proofs.Ytdmglajfmfjmlaa
namespace Go.Proofs.Ytdmglajfmfjmlaa
set_option linter.unusedSimpArgs false
set_option linter.unusedVariables false
set_option maxRecDepth 100000
open Go.RowKit Go.Proofs.YtdmglajfmfjmlaaW.PrintWords Go.Proofs.YtdmglajfmfjmlaaW.PrintLast Go.Proofs.YtdmglajfmfjmlaaW.PrintMore
attribute [local go_sem] toldUpon_value toldUpon_skip toldUpon_enter
theorem okB_cIx {xs : List Nat} (h : B8 xs) : okB (cI xs) := fun x hx => by
  simp only [cI, List.mem_map] at hx
  obtain ⟨y, hy, rfl⟩ := hx
  have := h y hy
  omega
set_option maxHeartbeats 4000000 in
theorem walk_PkeyBack (x0 : Int) (A1 : Option Addr) (n1 c1 : Nat) (t : List Nat) (A2 : Option Addr) (n2 c2 : Nat) (u : List Nat) (w : World) (_ : (Lit.int .i64 x0).wf = true) (h1 : Rd .u8 w A1 n1 c1 t) (b1 : B8 t) (h2 : Rd .u8 w A2 n2 c2 u) (b2 : B8 u) :
    Calls Try.prog 5 #[.int .i64 x0, .slice A1 n1 c1, .slice A2 n2 c2] w fun e w' => e = .returned (.bool true) ∧ Below w.heap.size w w' := by
  have hal := alive5_any w
  by_cases g1 : (40 : Int) < (n1 : Int)
  · clear h1 h2
    go_enter Try.func5, Try.ntmps5
    go_wp2_with (go_at_call 11; refine hal.mono ?_; rintro e w1 ⟨rfl, hb⟩)
    go_ret
    exact ⟨rfl, hb⟩
  by_cases g2 : (400 : Int) < (n2 : Int)
  · clear h1 h2
    go_enter Try.func5, Try.ntmps5
    go_wp2_with (go_at_call 11; refine hal.mono ?_; rintro e w1 ⟨rfl, hb⟩)
    go_ret
    exact ⟨rfl, hb⟩
  clear hal
  obtain ⟨N, D, K, hk⟩ := known_or x0
  have hkn := fun w => known5_li (w := w) x0 hk
  have oN := okN_ofN K.lN
  have oE := okN_ofN K.lE
  have oD := okN_ofN K.lD
  have o0 : okN 64 [] := by decide
  have n0 : nI [] = 0 := rfl
  have h27 := K.sz
  have l1 := h1.len
  have l2 := h2.len
  obtain ⟨T, hT⟩ : ∃ T, cI t = T := ⟨_, rfl⟩
  obtain ⟨U, hU⟩ : ∃ U, cI u = U := ⟨_, rfl⟩
  have oT : okB T := by rw [← hT]; exact okB_cIx b1
  have oU : okB U := by rw [← hU]; exact okB_cIx b2
  have lT : T.length = n1 := by rw [← hT, cI_length]; omega
  have lU : U.length ≤ 400 := by rw [← hU, cI_length]; omega
  have LT := LI.of_Rd h1
  have LU := LI.of_Rd h2
  rw [hT] at LT
  rw [hU] at LU
  clear h1 h2 hT hU l1 l2 b1 b2
  have hz2 := szN_bounds (keyR_zero K.key).2.1
  obtain ⟨z, hz⟩ : ∃ z, szN N = z := ⟨_, rfl⟩
  obtain ⟨C, r, hC, hCb⟩ : ∃ C r, encR (nI (ofN N)) (nI (ofN 65537)) (nI []) T U = (C, r) ∧ okB C ∧ C.length ≤ 4096 ∧ ((r = 51 ∧ (n1 : Int) > (z : Int) - 11) ∨ (r = 52 ∧ ¬ (n1 : Int) > (z : Int) - 11) ∨ (r = 0 ∧ C.length = z ∧ decR N 65537 D C = (T, 0))) := by
    rw [nI_ofN, nI_ofN, n0]
    unfold encR
    rw [K.pub, if_pos rfl, hz, lT]
    by_cases a1 : (z : Int) - 3 - (n1 : Int) < 8
    · rw [if_pos a1]
      exact ⟨[], 51, rfl, by decide, by simp, .inl ⟨rfl, by omega⟩⟩
    · rw [if_neg a1]
      by_cases a2 : (nz (toN U)).length < z - 3 - n1
      · rw [if_pos a2]
        exact ⟨[], 52, rfl, by decide, by simp, .inr (.inl ⟨rfl, by omega⟩)⟩
      · rw [if_neg a2]
        refine ⟨_, 0, rfl, workR_okB _ _ _, by rw [workR_length, hz]; omega, .inr (.inr ⟨rfl, by rw [workR_length, hz], ?_⟩)⟩
        rw [← hz]
        exact K.crypt oT oU (by omega) (by rw [hz, lT]; omega)
  obtain ⟨hCo, hCl, hCc⟩ := hCb
  have HCC := Lib.hid hCc
  have HC := Lib.hid hC
  have HLT := Lib.hid (And.intro LT LU)
  have HO := Lib.hid (And.intro (And.intro oT oU) (And.intro (show T.length ≤ 2097152 by omega) (And.intro (show U.length ≤ 2097152 by omega) (And.intro hCo (show C.length ≤ 2097152 by omega)))))
  have hzn : szN (nI (ofN N)) = z := by rw [nI_ofN, hz]
  have HD : ∀ S r, decR N 65537 D C = (S, r) → decR (nI (ofN N)) (nI (ofN 65537)) (nI (ofN D)) C = (S, r) := fun S r h => by rw [nI_ofN, nI_ofN, nI_ofN]; exact h
  have HST := Lib.hid (show ((strOfNums T).toList == (strOfNums T).toList) = true from beq_self_eq_true _)
  have HZN := Lib.hid hzn
  have HTL := Lib.hid lT
  clear LT LU oT oU lT lU hC hCc hCo hCl K hk hzn n0 hz h27
  generalize hN1 : ofN N = L1 at *
  generalize hN2 : ofN 65537 = L2 at *
  generalize hN3 : ofN D = L3 at *
  obtain ⟨m1, hm1⟩ : ∃ m, L1.length = m := ⟨_, rfl⟩
  obtain ⟨m2, hm2⟩ : ∃ m, L2.length = m := ⟨_, rfl⟩
  obtain ⟨m3, hm3⟩ : ∃ m, L3.length = m := ⟨_, rfl⟩
  rw [hm1, hm2, hm3] at hkn
  clear hN1 hN2 hN3 hm1 hm2 hm3
  go_enter Try.func5, Try.ntmps5
  go_upto_region 4 with (go_at_call 12; refine (hkn _).mono ?_; rintro e w1 ⟨B1, d1, B2, d2, B3, d3, rfl, k1, k2, k3, hb1⟩)
  obtain ⟨g, hg⟩ : ∃ g, w1.heap.size = g := ⟨_, rfl⟩
  obtain ⟨wa, hwa⟩ : ∃ z, w1.alloc (.cells #[.slice B1 m1 d1, .slice B2 m2 d2, .slice B3 m3 d3] 26) = z := ⟨_, rfl⟩
  have hbk : Bk wa g 26 #[.slice B1 m1 d1, .slice B2 m2 d2, .slice B3 m3 d3] := by rw [← hwa, ← hg]; exact Bk.new w1 _ _
  have hba : Below w1.heap.size w1 wa := by rw [← hwa]; exact (Below.refl _ _).alloc (Nat.le_refl _) _
  rw [hwa, hg]
  have HB := Lib.hid (hb1.trans (hba.mono hb1.size))
  have HK := Lib.hid (And.intro (k1.below hba) (And.intro (k2.below hba) (k3.below hba)))
  have HBK := Lib.hid hbk
  have HG := Lib.hid hbk.lt
  have HT := Lib.hid (And.intro (HLT.out.1.below HB.out) (HLT.out.2.below HB.out))
  have c0 := hbk.cell 0
  have c1' := hbk.cell 1
  have c2' := hbk.cell 2
  clear hwa hg hb1 k1 k2 k3 hkn hba hbk HLT
  have hP := Lib.hid (public_li HK.out.1 HK.out.2.1 HK.out.2.2 oN oE)
  go_upto_region 7 with (first
    | (go_at_call 15; refine hP.out.mono ?_; rintro e w3 ⟨v, rfl, hb3, v0, v1, v2, rfl, r0, r1, r2⟩)
    | (go_at_call 24; refine (encrypt_li r0 r1 r2 (HT.out.1.below hb3) (HT.out.2.below hb3) oN oE o0 HO.out.1.1 HO.out.2.1 HO.out.1.2 HO.out.2.2.1 HC.out).mono ?_; rintro e w4 ⟨vc, rfl, hvc, hb4⟩))
  obtain ⟨Ac, cc, hvce, hcc⟩ : ∃ A c, vc = .slice A C.length c ∧ LI .u8 w4 vc C := by
    obtain ⟨A, c, e1, e2, e3⟩ := id hvc
    exact ⟨A, c, e1, hvc⟩
  subst hvce
  have B24 := hb3.trans (hb4.mono hb3.size)
  have HV := Lib.hid hvc
  have HBW := Lib.hid B24
  have y0 := (HBK.out.below B24 HG.out).cell 0
  have y1 := (HBK.out.below B24 HG.out).cell 1
  have y2 := (HBK.out.below B24 HG.out).cell 2
  have HK4 := Lib.hid (And.intro (HK.out.1.below B24) (And.intro (HK.out.2.1.below B24) (HK.out.2.2.below B24)))
  have HT4 := Lib.hid (HT.out.1.below B24)
  clear hvc hcc hb3 hb4 B24 r0 r1 r2 c0 c1' c2' hP
  obtain ⟨lc, hlc⟩ : ∃ l, C.length = l := ⟨_, rfl⟩
  rw [hlc] at HV
  rw [hlc]
  rcases HCC.out with ⟨hr, hr2⟩ | ⟨hr, hr2⟩ | ⟨hr, hr2, hr3⟩
  · subst hr
    have i1 : IntKind.i64.wrap ((z : Int) - 11) = (z : Int) - 11 := IntWalk.i64_in _ (by omega)
    have g3 : (z : Int) - 11 < (n1 : Int) := hr2
    have HS := Lib.hid (fun (w' : World) (h : Below w4.heap.size w4 w') => size_li (HK4.out.1.below h) (HK4.out.2.1.below h) (HK4.out.2.2.below h) oN)
    rw [HZN.out] at HS
    clear hr2
    go_wp2_with (first
      | (go_at_call 11; refine (alive5_any _).mono ?_; rintro e w8 ⟨rfl, hb8⟩; have q0 := (HBK.out.below (HBW.out.trans (hb8.mono HBW.out.size)) HG.out).cell 0; have q1 := (HBK.out.below (HBW.out.trans (hb8.mono HBW.out.size)) HG.out).cell 1; have q2 := (HBK.out.below (HBW.out.trans (hb8.mono HBW.out.size)) HG.out).cell 2)
      | (go_at_call 17; refine (HS.out _ hb8).mono ?_; rintro e w9 ⟨rfl, hb9⟩))
    go_ret
    have p4 := HB.out.trans (HBW.out.mono HB.out.size)
    have p8 := p4.trans (hb8.mono p4.size)
    exact ⟨rfl, p8.trans (hb9.mono p8.size)⟩
  · subst hr
    go_wp2_with (first
      | (go_at_call 11; refine (alive5_any _).mono ?_; rintro e w8 ⟨rfl, hb8⟩))
    go_ret
    have p4 := HB.out.trans (HBW.out.mono HB.out.size)
    exact ⟨rfl, p4.trans (hb8.mono p4.size)⟩
  · subst hr
    have hD := Lib.hid (decrypt_li HK4.out.1 HK4.out.2.1 HK4.out.2.2 HV.out oN oE oD HO.out.2.2.2.1 HO.out.2.2.2.2 (HD _ _ hr3))
    have hlz : lc = z := by rw [← hlc, hr2]
    subst hlz
    clear hr2 hr3
    go_upto_region 10 with (go_at_call 25; refine hD.out.mono ?_; rintro e w5 ⟨vb, rfl, hvb, hb5⟩)
    have HS := Lib.hid (fun (w' : World) (h : Below w4.heap.size w4 w') => size_li (HK4.out.1.below h) (HK4.out.2.1.below h) (HK4.out.2.2.below h) oN)
    rw [HZN.out] at HS
    have HVB := Lib.hid hvb
    clear hvb
    have hst := HST.out
    go_wp2_with (first
      | (go_at_call 11; refine (alive5_any _).mono ?_; rintro e w8 ⟨rfl, hb8⟩; have b48 := hb5.trans (hb8.mono hb5.size); have q0 := (HBK.out.below (HBW.out.trans (b48.mono HBW.out.size)) HG.out).cell 0; have q1 := (HBK.out.below (HBW.out.trans (b48.mono HBW.out.size)) HG.out).cell 1; have q2 := (HBK.out.below (HBW.out.trans (b48.mono HBW.out.size)) HG.out).cell 2; have z1 := LI.conv (HVB.out.below hb8); have z2 := LI.conv (HT4.out.below b48))
      | (go_at_call 17; refine (HS.out _ b48).mono ?_; rintro e w9 ⟨rfl, hb9⟩))
    go_ret
    have p4 := HB.out.trans (HBW.out.mono HB.out.size)
    have p8 := p4.trans (b48.mono p4.size)
    exact ⟨rfl, p8.trans (hb9.mono p8.size)⟩
end Go.Proofs.Ytdmglajfmfjmlaa
namespace Go.Proofs.Ytdmglajfmfjmlaa
set_option linter.unusedSimpArgs false
set_option linter.unusedVariables false
set_option maxRecDepth 100000
open Go.ChangeShapes Go.WideShapes Go.ChangeAt Go.RowKit Go.Joins Go.Deep
open Go.ChangeMaps (open_string shut_string)
theorem own_knob : ownKnob Try.prog.godebug = none := by kernel_rfl
theorem laid_out : laidOutB Try.prog = true := by kernel_rfl
end Go.Proofs.Ytdmglajfmfjmlaa
namespace Go.Proofs.Ytdmglajfmfjmlaa
set_option linter.unusedSimpArgs false
set_option linter.unusedVariables false
set_option maxRecDepth 100000
open Go.ChangeShapes Go.WideShapes Go.ChangeAt Go.RowKit
theorem okWide_block {P : Program} {W : World} {base : Nat} {t e : TypeId} {A : Option Addr} {n c : Nat} (ht : P.underlying t = some (.slice e)) (h : Value.okWide P W .any base t (.slice A n c)) : ∀ ad, A = some ad → ad.block < W.heap.size := by
  rintro ad rfl
  unfold Value.okWide at h
  simp only [ht] at h
  unfold Cell.okWide at h
  simp only [ht] at h
  unfold Cell.ok at h
  simp only [ht] at h
  obtain ⟨_, _, _, _, row, cells, hs, _⟩ := h
  rcases Nat.lt_or_ge ad.block W.heap.size with h | h
  · exact h
  · unfold World.shape? at hs
    rw [Array.getElem?_eq_none h] at hs
    cases hs
theorem nums_arg {H : Type} {enc : TypeId × Value → H} {P : Program} {W : World} {t e : TypeId} {k : IntKind} {A : Option Addr} {n c : Nat} {d : DataW H} {p : List MemPlace} (ht : P.underlying t = some (.slice e)) (he : P.underlying e = some (.int k)) (hc : P.cellsOf e = 1)
    (h0 : DataW.Trod enc P W 0 (fun _ => true) true t (.slice A n c) d p) (hk : ∀ z, (Lit.int k z).wf = true → 0 ≤ z) :
    ∃ xs : List Nat, (A = none → n = 0) ∧ Rd k W A n c xs ∧ ∀ x ∈ xs, (Lit.int k (x : Int)).wf = true := by
  obtain ⟨fuel, hf⟩ := h0
  rcases open_ints ht he hc hf with ⟨hcs, _⟩ | ⟨x, l, c', zs, hcs, _, hl, hm, hz, _, hcell, hwz⟩
  · simp [Value.cells] at hcs
    obtain ⟨rfl, rfl, rfl⟩ := hcs
    exact ⟨[], fun _ => rfl, Rd.nil _ _ _ _, by simp⟩
  · simp [Value.cells] at hcs
    obtain ⟨rfl, rfl, rfl⟩ := hcs
    simp only [if_true] at hz
    have nn : ∀ i, i < n → 0 ≤ zs.getD i 0 := fun i hi => by
      rw [List.getD_eq_getElem?_getD, List.getElem?_eq_getElem (by omega)]
      exact hk _ (hwz _ (List.getElem_mem _))
    refine ⟨(zs.take n).map Int.toNat, (fun h => by cases h), ⟨by rw [List.length_map, List.length_take]; omega, hl, by unfold maxLen at hm; omega, fun hn => ⟨x, rfl, ?_, fun j y hy => ?_⟩⟩, ?_⟩
    · have := World.block_lt_of_cell? W _ (hcell 0 (by omega))
      rwa [Go.ChangeShapes.block_add] at this
    · have hj : j < n := by
        rcases Nat.lt_or_ge j n with h | h
        · exact h
        · rw [List.getElem?_eq_none (by rw [List.length_map, List.length_take]; omega)] at hy; cases hy
      rw [hcell j (by omega)]
      have h1 := nn j hj
      rw [List.getD_eq_getElem?_getD, List.getElem?_eq_getElem (by omega)] at h1 ⊢
      rw [List.getElem?_map, List.getElem?_take, if_pos hj, List.getElem?_eq_getElem (by omega)] at hy
      simp only [Option.map_some, Option.some.injEq, Option.getD_some] at hy h1 ⊢
      congr 2; omega
    · intro y hy
      simp only [List.mem_map] at hy
      obtain ⟨z, hz', rfl⟩ := hy
      have hw := hwz z (List.mem_of_mem_take hz')
      rw [Int.toNat_of_nonneg (hk z hw)]
      exact hw
theorem u8_wf {z : Int} (h : (Lit.int .u8 z).wf = true) : 0 ≤ z ∧ z < 256 := by
  simp only [Lit.wf, Bool.and_eq_true, decide_eq_true_eq] at h
  have h1 : IntKind.u8.min = 0 := by decide
  have h2 : IntKind.u8.max = 255 := by decide
  omega
theorem bytes_arg {H : Type} {enc : TypeId × Value → H} {P : Program} {W : World} {t e : TypeId} {A : Option Addr} {n c : Nat} {d : DataW H} {p : List MemPlace} {base : Nat} (ht : P.underlying t = some (.slice e)) (he : P.underlying e = some (.int .u8)) (hc : P.cellsOf e = 1)
    (h0 : DataW.Trod enc P W 0 (fun _ => true) true t (.slice A n c) d p) (hv : Value.okWide P W .any base t (.slice A n c)) :
    ∃ xs : List Nat, Rd .u8 W A n c xs ∧ (∀ x ∈ xs, x < 256) ∧ ∀ ad, A = some ad → ad.block < W.heap.size := by
  obtain ⟨xs, _, h1, h2⟩ := nums_arg ht he hc h0 (fun z h => (u8_wf h).1)
  exact ⟨xs, h1, fun x hx => by have := (u8_wf (h2 x hx)).2; omega, okWide_block ht hv⟩
end Go.Proofs.Ytdmglajfmfjmlaa
