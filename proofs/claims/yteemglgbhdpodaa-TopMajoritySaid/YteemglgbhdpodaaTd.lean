/- A region that draws its order and whose calls only make memory, and hand back what is told of them by a fact that stays: one walk, in the order of the text, serves all orders. -/
import Derived.Test.YteemglgbhdpodaaN1
import Derived.BigQuiet
namespace Go.Proofs.Yteemglgbhdpodaa
set_option linter.unusedSimpArgs false
set_option linter.unusedVariables false
set_option maxRecDepth 100000
open Go.RowKit

/-- what is told of an operation's value, in a world -/
abbrev GFact := Value → World → Prop
def GTrue : GFact := fun _ _ => True
def updV (y : Nat → Value) (k : Nat) (v : Value) : Nat → Value := fun i => if i = k then v else y i
def updG (Gs : Nat → GFact) (k : Nat) (G : GFact) : Nat → GFact := fun i => if i = k then G else Gs i
def putAll : List Oper → Nat → (Nat → Value) → Act → Act
  | [], _, _, a => a
  | o :: os, k, y, a => putAll os (k + 1) y (a.put o.dst (y k))
def depsOf (Gs : Nat → GFact) (y : Nat → Value) (w : World) : List Edge → Prop
  | [] => True
  | e :: es => (Region.binds .any e = true → Gs e.on (y e.on) w) ∧ depsOf Gs y w es
def toldUpon (P : Program) (w : World) (G : GFact) : Result Next → Prop
  | .ok (.value v) w' => Below w.heap.size w w' ∧ G v w'
  | .ok .skip w' => Below w.heap.size w w' ∧ G undef w'
  | .ok (.enter f args) w' => Below w.heap.size w w' ∧ Calls P f args w' fun e w'' => ∃ v, e = .returned v ∧ Below w'.heap.size w' w'' ∧ G v w''
  | _ => False
theorem toldUpon_value (P : Program) (w w' : World) (G : GFact) (v : Value) : toldUpon P w G (.ok (.value v) w') = (Below w.heap.size w w' ∧ G v w') := rfl
theorem toldUpon_skip (P : Program) (w w' : World) (G : GFact) : toldUpon P w G (.ok .skip w') = (Below w.heap.size w w' ∧ G undef w') := rfl
theorem toldUpon_enter (P : Program) (w w' : World) (G : GFact) (f : FuncId) (args : Array Value) : toldUpon P w G (.ok (.enter f args) w') = (Below w.heap.size w w' ∧ Calls P f args w' fun e w'' => ∃ v, e = .returned v ∧ Below w'.heap.size w' w'' ∧ G v w'') := rfl
def toldAt (P : Program) (ops : Array Oper) (o : Oper) (a : Act) (w : World) (G : GFact) : Prop :=
  if Region.wanted o (yielded ops a.tmps) = true then toldUpon P w G ((execOp a.eval o).run P w) else G undef w
def Stays (G : GFact) : Prop := ∀ v w w', Below w.heap.size w w' → G v w → G v w'
theorem Stays.eq (c : Value) : Stays (fun v _ => v = c) := fun _ _ _ _ h => h
def Told (P : Program) (ops : Array Oper) (w0 : World) (F : (Nat → Value) → Act) (Q : Exit → Act → World → Prop) : Nat → (Nat → GFact) → List Oper → Prop
  | k, Gs, [] => ∀ y w, Below w0.heap.size w0 w → (∀ i, i < k → Gs i (y i) w) → Q .normal (F y) w
  | k, Gs, o :: rest => ∃ G, Stays G ∧ (∀ y w, Below w0.heap.size w0 w → depsOf Gs y w o.after.toList → toldAt P ops o (F y) w G) ∧ Told P ops w0 F Q (k + 1) (updG Gs k G) rest

theorem depsOf_mono {Gs Gs' : Nat → GFact} {y : Nat → Value} {w : World} : ∀ {es : List Edge}, (∀ i, Gs i (y i) w → Gs' i (y i) w) → depsOf Gs y w es → depsOf Gs' y w es
  | [], _, _ => trivial
  | _ :: _, h, hd => ⟨fun hb => h _ (hd.1 hb), depsOf_mono h hd.2⟩
theorem depsOf_all {Gs : Nat → GFact} {y : Nat → Value} {w : World} : ∀ {es : List Edge}, (∀ e ∈ es, Region.binds .any e = true → Gs e.on (y e.on) w) → depsOf Gs y w es
  | [], _ => trivial
  | e :: es, h => ⟨h e (by simp), depsOf_all fun e' he' => h e' (by simp [he'])⟩

/-- a slice that reads as these numbers -/
def GRd (k : IntKind) (n : Nat) (xs : List Nat) : GFact := fun v w => ∃ A c, v = .slice A n c ∧ Rd k w A n c xs
theorem GRd.stays (k : IntKind) (n : Nat) (xs : List Nat) : Stays (GRd k n xs) := fun _ _ _ hb ⟨A, c, e, hr⟩ => ⟨A, c, e, hr.below hb⟩
section
variable {P : Program} {ops : Array Oper} {w0 : World} {F : (Nat → Value) → Act} {Q : Exit → Act → World → Prop}
theorem told_family : ∀ (rest : List Oper) (k : Nat) (Gs : Nat → GFact), (∀ i, k ≤ i → Gs i = GTrue) → Told P ops w0 F Q k Gs rest →
    ∃ GG : Nat → GFact, (∀ i, i < k → GG i = Gs i) ∧ (∀ j o, rest[j]? = some o → Stays (GG (k + j)) ∧ ∀ y w, Below w0.heap.size w0 w → depsOf GG y w o.after.toList → toldAt P ops o (F y) w (GG (k + j))) ∧
      ∀ y w, Below w0.heap.size w0 w → (∀ i, i < k + rest.length → GG i (y i) w) → Q .normal (F y) w
  | [], k, Gs, _, h => ⟨Gs, fun _ _ => rfl, fun j o hj => by simp at hj, fun y w hb hg => h y w hb hg⟩
  | o :: rest, k, Gs, hT, h => by
    obtain ⟨G, hst, hstep, hrest⟩ := h
    obtain ⟨GG, g1, g2, g3⟩ := told_family rest (k + 1) (updG Gs k G) (fun i hi => by
      unfold updG
      rw [if_neg (by omega)]
      exact hT i (by omega)) hrest
    have gk : GG k = G := by rw [g1 k (by omega)]; unfold updG; rw [if_pos rfl]
    refine ⟨GG, fun i hi => ?_, fun j o' hj => ?_, fun y w hb hg => g3 y w hb fun i hi => hg i (by simp only [List.length_cons]; omega)⟩
    · rw [g1 i (by omega)]; unfold updG; rw [if_neg (by omega)]
    · cases j with
      | zero =>
        obtain rfl : o = o' := by simpa using hj
        rw [Nat.add_zero, gk]
        refine ⟨hst, fun y w hb hd => hstep y w hb (depsOf_mono (fun i hi => ?_) hd)⟩
        rcases Nat.lt_or_ge i k with hik | hik
        · have e : GG i = Gs i := by rw [g1 i (by omega)]; unfold updG; rw [if_neg (by omega)]
          rwa [e] at hi
        · rw [hT i hik]; trivial
      | succ j =>
        have := g2 j o' (by simpa using hj)
        rwa [show k + 1 + j = k + (j + 1) by omega] at this
end

theorem put_put (a : Act) (d : Option Tmp) (v u : Value) : (a.put d v).put d u = a.put d u := by
  cases d with
  | none => rfl
  | some d => simp [Act.put]
def dsts (os : List Oper) : List Tmp := os.filterMap (·.dst)
theorem putAll_put : ∀ (os : List Oper) (k : Nat) (y : Nat → Value) (a : Act) (d : Tmp) (v : Value), d ∉ dsts os → (putAll os k y a).put (some d) v = putAll os k y (a.put (some d) v)
  | [], _, _, _, _, _, _ => rfl
  | o :: os, k, y, a, d, v, h => by
    have h1 : d ∉ dsts os := fun hd => h (by unfold dsts at *; rw [List.filterMap_cons]; cases o.dst <;> simp_all)
    have h2 : o.dst ≠ some d := fun e => h (by unfold dsts; rw [List.filterMap_cons, e]; simp)
    show (putAll os (k + 1) y (a.put o.dst (y k))).put (some d) v = putAll os (k + 1) y ((a.put (some d) v).put o.dst (y k))
    rw [putAll_put os (k + 1) y _ d v h1, Act.put_comm a (y k) v (x := o.dst) (y := some d) (fun e he hc => h2 (by rw [he, Option.some.inj hc]))]
theorem putAll_far : ∀ (os : List Oper) (k i : Nat) (y : Nat → Value) (a : Act) (v : Value), i < k → putAll os k (updV y i v) a = putAll os k y a
  | [], _, _, _, _, _, _ => rfl
  | o :: os, k, i, y, a, v, h => by
    show putAll os (k + 1) (updV y i v) (a.put o.dst (updV y i v k)) = putAll os (k + 1) y (a.put o.dst (y k))
    rw [putAll_far os (k + 1) i y _ v (by omega)]
    have : updV y i v k = y k := by unfold updV; rw [if_neg (by omega)]
    rw [this]
theorem putAll_upd : ∀ (os : List Oper) (k j : Nat) (y : Nat → Value) (a : Act) (o : Oper) (v : Value), (dsts os).Nodup → os[j]? = some o → o.dst ≠ none → (putAll os k y a).put o.dst v = putAll os k (updV y (k + j) v) a
  | [], _, _, _, _, _, _, _, h, _ => by simp at h
  | o' :: os, k, 0, y, a, o, v, hn, h, hd => by
    obtain rfl : o' = o := by simpa using h
    obtain ⟨d, hd⟩ := Option.ne_none_iff_exists'.1 hd
    have hn' : d ∉ dsts os := by
      unfold dsts at hn ⊢
      rw [List.filterMap_cons, hd] at hn
      exact (List.nodup_cons.1 hn).1
    show (putAll os (k + 1) y (a.put o'.dst (y k))).put o'.dst v = putAll os (k + 1) (updV y k v) (a.put o'.dst (updV y k v k))
    rw [putAll_far os (k + 1) k y _ v (by omega), hd, putAll_put os (k + 1) y _ d v hn', put_put]
    have : updV y k v k = v := by unfold updV; rw [if_pos rfl]
    rw [this]
  | o' :: os, k, j + 1, y, a, o, v, hn, h, hd => by
    have hn' : (dsts os).Nodup := by
      unfold dsts at hn ⊢
      rw [List.filterMap_cons] at hn
      cases e : o'.dst with
      | none => rw [e] at hn; exact hn
      | some d => rw [e] at hn; exact (List.nodup_cons.1 hn).2
    show (putAll os (k + 1) y (a.put o'.dst (y k))).put o.dst v = putAll os (k + 1) (updV y (k + (j + 1)) v) (a.put o'.dst (updV y (k + (j + 1)) v k))
    have : updV y (k + (j + 1)) v k = y k := by unfold updV; rw [if_neg (by omega)]
    rw [putAll_upd os (k + 1) j y _ o v hn' (by simpa using h) hd, this, show k + 1 + j = k + (j + 1) by omega]
theorem putAll_none : ∀ (os : List Oper) (k j : Nat) (y : Nat → Value) (a : Act) (o : Oper) (v : Value), os[j]? = some o → o.dst = none → putAll os k y a = putAll os k (updV y (k + j) v) a
  | [], _, _, _, _, _, _, h, _ => by simp at h
  | o' :: os, k, 0, y, a, o, v, h, hd => by
    obtain rfl : o' = o := by simpa using h
    show putAll os (k + 1) y (a.put o'.dst (y k)) = putAll os (k + 1) (updV y k v) (a.put o'.dst (updV y k v k))
    rw [putAll_far os (k + 1) k y _ v (by omega), hd]
    rfl
  | o' :: os, k, j + 1, y, a, o, v, h, hd => by
    show putAll os (k + 1) y (a.put o'.dst (y k)) = putAll os (k + 1) (updV y (k + (j + 1)) v) (a.put o'.dst (updV y (k + (j + 1)) v k))
    have : updV y (k + (j + 1)) v k = y k := by unfold updV; rw [if_neg (by omega)]
    rw [this, ← show k + 1 + j = k + (j + 1) by omega]
    exact putAll_none os (k + 1) j y _ o v (by simpa using h) hd
/-- the frame as it stands -/
def nowAt (os : List Oper) (a : Act) : Nat → Value := fun i => ((os[i]?.bind (·.dst)).bind (a.tmps[·]?)).getD undef
theorem put_same (a : Act) (d : Tmp) : a.put (some d) ((a.tmps[d]?).getD undef) = a := by
  unfold Act.put
  have : a.tmps.setIfInBounds d ((a.tmps[d]?).getD undef) = a.tmps := by
    apply Array.ext
    · simp
    · intro i h1 h2
      rw [Array.getElem_setIfInBounds h2]
      split
      · rename_i e
        subst e
        rw [Array.getElem?_eq_getElem h2]
        rfl
      · rfl
  show { a with tmps := a.tmps.setIfInBounds d ((a.tmps[d]?).getD undef) } = a
  rw [this]
theorem putAll_now (all : List Oper) (a : Act) : ∀ (os : List Oper) (k : Nat), (∀ j, os[j]? = all[k + j]?) → putAll os k (nowAt all a) a = a
  | [], _, _ => rfl
  | o :: os, k, h => by
    have h0 : all[k]? = some o := by simpa using (h 0).symm
    have e : a.put o.dst (nowAt all a k) = a := by
      unfold nowAt
      rw [h0]
      cases hd : o.dst with
      | none => rfl
      | some d => simpa [hd] using put_same a d
    show putAll os (k + 1) (nowAt all a) (a.put o.dst (nowAt all a k)) = a
    rw [e]
    exact putAll_now all a os (k + 1) fun j => by
      have := h (j + 1)
      rw [show k + 1 + j = k + (j + 1) by omega, ← this]
      simp
def backB (ops : List Oper) : Bool := (List.range ops.length).all fun i => (ops[i]?.map fun o => o.after.toList.all fun e => !Region.binds .any e || decide (e.on < i)).getD true
def nodupB : List Tmp → Bool
  | [] => true
  | d :: ds => !ds.contains d && nodupB ds
theorem nodup_of : ∀ {ds : List Tmp}, nodupB ds = true → ds.Nodup
  | [], _ => List.nodup_nil
  | d :: ds, h => by
    simp only [nodupB, Bool.and_eq_true, Bool.not_eq_true'] at h
    exact List.nodup_cons.2 ⟨fun hm => by simp [hm] at h, nodup_of h.2⟩

section
variable {P : Program} {ops : List Oper} {w0 : World} {a0 : Act} {Q : Exit → Act → World → Prop}
theorem told_wp {o : Oper} {a : Act} {w : World} {G : GFact} {K : Act → World → Prop} (hw : Region.wanted o (yielded ops.toArray a.tmps) = true) (h : toldAt P ops.toArray o a w G)
    (hK : ∀ v w', Below w.heap.size w w' → G v w' → K (a.put o.dst v) w') : Oper.wp P o a w K Q := by
  unfold toldAt at h
  rw [if_pos hw] at h
  unfold Oper.wp
  generalize (execOp a.eval o).run P w = r at *
  cases r with
  | ok n w' =>
    cases n <;> simp only [toldUpon] at h <;> simp only [Oper.upon]
    case value v => exact hK v w' h.1 h.2
    case skip => exact hK undef w' h.1 h.2
    case enter f args => exact h.2.mono fun e w'' ⟨v, he, hb, hg⟩ => by subst he; exact hK v w'' (h.1.trans (hb.mono h.1.size)) hg
  | halt x w' => simp only [toldUpon] at h
theorem told_any (GG : Nat → GFact) (hback : backB ops = true) (hnd : (dsts ops).Nodup)
    (hG : ∀ j o, ops[j]? = some o → Stays (GG j) ∧ ∀ y w, Below w0.heap.size w0 w → depsOf GG y w o.after.toList → toldAt P ops.toArray o (putAll ops 0 y a0) w (GG j))
    (hQ : ∀ y w, Below w0.heap.size w0 w → (∀ i, i < ops.length → GG i (y i) w) → Q .normal (putAll ops 0 y a0) w) :
    ∀ (fuel : Nat) (listed : Array Bool) (y : Nat → Value) (w : World), listed.size = ops.length → listed.toList.countP (! ·) ≤ fuel → Below w0.heap.size w0 w → (∀ i, listed.getD i false = true → GG i (y i) w) →
      wpAny P .any ops.toArray Q fuel listed (putAll ops 0 y a0) w := by
  have hend : ∀ (listed : Array Bool) (y : Nat → Value) (w : World), listed.size = ops.length → Below w0.heap.size w0 w → (∀ i, listed.getD i false = true → GG i (y i) w) → Region.ready .any ops.toArray listed = [] → Q .normal (putAll ops 0 y a0) w := by
    intro listed y w hs hb hg hr
    refine hQ y w hb fun i hi => hg i ?_
    have key : ∀ n, n ≤ ops.length → ∀ j, j < n → listed.getD j false = true := by
      intro n
      induction n with
      | zero => intro _ j hj; omega
      | succ n ih =>
        intro hn j hj
        rcases Nat.lt_or_ge j n with h1 | h1
        · exact ih (by omega) j h1
        · obtain rfl : j = n := by omega
          apply Decidable.byContradiction
          intro hne
          have hj' : j < listed.size := by omega
          have hlj : listed.getD j true = false := by
            simp only [Array.getD, hj', dif_pos] at hne ⊢
            simpa using hne
          have ho : ops[j]? = some ops[j] := List.getElem?_eq_getElem (by omega)
          have hbk := hback
          unfold backB at hbk
          rw [List.all_eq_true] at hbk
          have hbj := hbk j (by simp; omega)
          rw [ho] at hbj
          simp only [Option.map_some, Option.getD_some, List.all_eq_true] at hbj
          have : j ∈ Region.ready .any ops.toArray listed := mem_ready.2 ⟨hlj, ops[j], by simp [ho], fun e he hbe => by
            have h2 := hbj e (by simpa using he)
            rw [hbe] at h2
            simp only [Bool.not_true, Bool.false_or, decide_eq_true_eq] at h2
            exact ih (by omega) _ h2⟩
          rw [hr] at this
          cases this
    exact key ops.length (Nat.le_refl _) i hi
  intro fuel
  induction fuel with
  | zero =>
    intro listed y w hs hc hb hg
    have h0 : Region.ready .any ops.toArray listed = [] := by
      cases hr : Region.ready .any ops.toArray listed with
      | nil => rfl
      | cons i is =>
        obtain ⟨hl, o, ho, _⟩ := mem_ready.1 (show i ∈ Region.ready .any ops.toArray listed by rw [hr]; simp)
        have hi : i < listed.size := by
          rw [hs]
          have := (Array.getElem?_eq_some_iff.1 ho).1
          simpa using this
        have : 0 < listed.toList.countP (! ·) := List.countP_pos_iff.2 ⟨listed[i], by simp, by simpa [Array.getD, hi] using hl⟩
        omega
    exact ⟨h0, hend listed y w hs hb hg h0⟩
  | succ fuel ih =>
    intro listed y w hs hc hb hg
    refine ⟨hend listed y w hs hb hg, fun i hi => ?_⟩
    obtain ⟨hl, o, ho, hed⟩ := mem_ready.1 hi
    have ho' : ops[i]? = some o := by simpa using ho
    have hi' : i < listed.size := by
      rw [hs]
      have := (Array.getElem?_eq_some_iff.1 ho).1
      simpa using this
    have hli : listed.toList[i]'(by simpa using hi') = false := by simpa [Array.getD, hi'] using hl
    have hcnt : (listed.setIfInBounds i true).toList.countP (! ·) ≤ fuel := by
      rw [Array.toList_setIfInBounds, List.countP_set (by simpa using hi')]
      simp only [hli, Bool.not_false, if_true, Bool.not_true, Bool.false_eq_true, if_false, Nat.add_zero]
      omega
    have hstep := hG i o ho'
    have ht := hstep.2 y w hb (depsOf_all fun e he hbe => hg _ (hed e (by simpa using he) hbe))
    have hnext : ∀ v w', Below w.heap.size w w' → GG i v w' → wpAny P .any ops.toArray Q fuel (listed.setIfInBounds i true) ((putAll ops 0 y a0).put o.dst v) w' := by
      intro v w' hbw hgv
      have e : (putAll ops 0 y a0).put o.dst v = putAll ops 0 (updV y i v) a0 := by
        cases hd : o.dst with
        | none => show putAll ops 0 y a0 = _; have := putAll_none ops 0 i y a0 o v ho' hd; simpa using this
        | some d => have := putAll_upd ops 0 i y a0 o v hnd ho' (by rw [hd]; simp); rw [hd] at this; simpa using this
      rw [e]
      refine ih _ _ _ (by simp [hs]) hcnt (hb.trans (hbw.mono hb.size)) fun j hj => ?_
      by_cases hji : j = i
      · subst hji
        have : updV y j v j = v := by unfold updV; rw [if_pos rfl]
        rw [this]; exact hgv
      · have e2 : updV y i v j = y j := by unfold updV; rw [if_neg hji]
        rw [e2]
        have hj2 : listed.getD j false = true := by
          rw [getD_set_ne false (fun h => hji h.symm)] at hj
          exact hj
        have hjl : j < ops.length := by
          rw [← hs]
          rcases Nat.lt_or_ge j listed.size with h' | h'
          · exact h'
          · simp [Array.getD, Nat.not_lt.2 h'] at hj2
        exact (hG j ops[j] (List.getElem?_eq_getElem hjl)).1 _ _ _ hbw (hg j hj2)
    unfold wpOp
    rw [ho]
    show if Region.wanted o (yielded ops.toArray (putAll ops 0 y a0).tmps) = true then _ else _
    split
    · rename_i hw
      exact .inl (told_wp hw ht hnext)
    · rename_i hw
      refine hnext undef w (Below.refl _ _) ?_
      unfold toldAt at ht
      rwa [if_neg hw] at ht
theorem region_told {id : Nat} (F : (Nat → Value) → Act) (hm : P.follows .mixedOrders = true) (hB : (backB ops && nodupB (dsts ops)) = true) (hF : (fun y => putAll ops 0 y a0) = F)
    (h : Told P ops.toArray w0 F Q 0 (fun _ => GTrue) ops) : (Code.region id ops.toArray true).wp P Q a0 w0 := by
  subst hF
  rw [Bool.and_eq_true] at hB
  obtain ⟨GG, _, g2, g3⟩ := told_family ops 0 _ (fun _ _ => rfl) h
  refine wp_region_any hm ?_
  have := told_any (P := P) (w0 := w0) (a0 := a0) (Q := Q) GG hB.1 (nodup_of hB.2) (fun j o hj => by simpa using g2 j o hj) (fun y w hb hg => g3 y w hb (by simpa using hg)) ops.toArray.size (Array.replicate ops.toArray.size false) (nowAt ops a0) { w0 with drawn := w0.drawn + 1 }
    (by simp) (Nat.le_trans List.countP_le_length (by simp)) (Below.drew (Below.refl _ _)) (fun i hi => by
      rcases Nat.lt_or_ge i ops.length with h' | h'
      · simp [Array.getD, h'] at hi
      · simp [Array.getD, Nat.not_lt.2 h'] at hi)
  rwa [putAll_now ops a0 ops 0 (by simp)] at this
theorem told_nil {F : (Nat → Value) → Act} {k : Nat} {Gs : Nat → GFact} {os : Array Oper} (h : ∀ y w, Below w0.heap.size w0 w → (∀ i, i < k → Gs i (y i) w) → Q .normal (F y) w) : Told P os w0 F Q k Gs [] := h
theorem told_step {F : (Nat → Value) → Act} {k : Nat} {Gs : Nat → GFact} {os : Array Oper} {o : Oper} {rest : List Oper} (G : GFact) (hst : Stays G)
    (h : ∀ y w, Below w0.heap.size w0 w → depsOf Gs y w o.after.toList → toldAt P os o (F y) w G)
    (hr : Told P os w0 F Q (k + 1) (updG Gs k G) rest) : Told P os w0 F Q k Gs (o :: rest) := ⟨G, hst, h, hr⟩
end
end Go.Proofs.Yteemglgbhdpodaa
