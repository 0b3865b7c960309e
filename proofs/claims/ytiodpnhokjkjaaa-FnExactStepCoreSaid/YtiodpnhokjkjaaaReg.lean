/- A rule for a region that draws its order: each operation is shown alone, in every state in which it may come up, and the end is shown once. No statement of the program stands here. -/
import Derived.Test.YtiodpnhokjkjaaaMem
import Derived.Orders
namespace Go.Proofs.Ytiodpnhokjkjaaa
open Go.RowKit Go.Sort
section
variable {P : Program}

def valOf (o : Oper) (a : Act) : Value := match o.dst with | some d => a.eval (.tmp d) | none => undef
def notDst (ops : Array Oper) (t : Nat) : Bool := ops.all fun o => o.dst != some t
def depB (ops : Array Oper) (i j : Nat) : Bool := match ops[i]? with | some o => o.after.toList.any (fun e => e.on == j && Region.binds .any e) | none => false
/-- Operation k waits for operation i, at once or through others. -/
def reachB (ops : Array Oper) : Nat → Nat → Nat → Bool
  | 0, _, _ => false
  | f + 1, k, i => match ops[k]? with | some o => o.after.toList.any (fun e => Region.binds .any e && (e.on == i || reachB ops f e.on i)) | none => false
/-- No guards, edges that lead back, slots that differ and lie in the frame. -/
def eachB (ops : Array Oper) (N : Nat) : Bool :=
  (List.range ops.size).all fun i => match ops[i]? with
    | none => true
    | some o => o.guard.isNone && o.after.all (fun e => !Region.binds .any e || decide (e.on < i)) && (match o.dst with | none => true | some d => decide (d < N) && (List.range i).all fun j => match ops[j]? with | none => true | some o' => o'.dst != some d)
def dv (o : Oper) (v : Value) : Value := match o.dst with | some _ => v | none => undef
def putAll (vs : Nat → Value) : List Oper → Nat → Act → Act
  | [], _, a => a
  | o :: r, i, a => putAll vs r (i + 1) (a.put o.dst (vs i))

theorem put_size (a : Act) (d : Option Tmp) (v : Value) : (a.put d v).tmps.size = a.tmps.size := by
  cases d <;> simp [Act.put]
theorem put_defers (a : Act) (d : Option Tmp) (v : Value) : (a.put d v).defers = a.defers := by
  cases d <;> rfl
theorem put_ne (a : Act) {d : Option Tmp} {t : Nat} (v : Value) (h : d ≠ some t) : (a.put d v).tmps[t]? = a.tmps[t]? := by
  cases d with
  | none => rfl
  | some d => simp only [Act.put]; rw [Array.getElem?_setIfInBounds_ne (fun e => h (by rw [e]))]
theorem put_eq (a : Act) {t : Nat} (v : Value) (h : t < a.tmps.size) : (a.put (some t) v).tmps[t]? = some v := by
  simp only [Act.put]; rw [Array.getElem?_setIfInBounds_self_of_lt h]
theorem eval_of {a : Act} {t : Nat} {v : Value} (h : a.tmps[t]? = some v) : a.eval (.tmp t) = v := by
  simp [Act.eval, h]

theorem putAll_eq (vs : Nat → Value) : ∀ (l : List Oper) (i : Nat) (a a' : Act), a'.tmps.size = a.tmps.size → a'.defers = a.defers →
    (∀ t, (∀ (k : Nat) (o : Oper), l[k]? = some o → o.dst ≠ some t) → a'.tmps[t]? = a.tmps[t]?) →
    (∀ (k : Nat) (o : Oper) (d : Nat), l[k]? = some o → o.dst = some d → d < a.tmps.size ∧ a'.tmps[d]? = some (vs (i + k))) → a' = putAll vs l i a
  | [], i, a, a', h1, h2, h3, _ => by
    obtain ⟨t, d⟩ := a
    obtain ⟨t', d'⟩ := a'
    simp only at h1 h2 h3
    subst h2
    have : t' = t := by
      apply Array.ext_getElem?
      intro k
      exact h3 k (fun k o h => by simp at h)
    subst this
    rfl
  | o :: r, i, a, a', h1, h2, h3, h4 => by
    refine putAll_eq vs r (i + 1) (a.put o.dst (vs i)) a' (by rw [h1, put_size]) (by rw [h2, put_defers]) (fun t ht => ?_) (fun k o' d hk hd => ?_)
    · by_cases e : o.dst = some t
      · obtain ⟨q1, q2⟩ := h4 0 o t rfl e
        rw [q2, e, put_eq a _ q1]; rfl
      · rw [put_ne a _ e]
        refine h3 t (fun k o' hk => ?_)
        cases k with
        | zero => simp at hk; subst hk; exact e
        | succ k => exact ht k o' (by simpa using hk)
    · obtain ⟨q1, q2⟩ := h4 (k + 1) o' d (by simpa using hk) hd
      rw [put_size]
      refine ⟨q1, ?_⟩
      rw [q2]; congr 2; omega

/-- What is to be shown of operation number i. -/
def EachStep (P : Program) (ops : Array Oper) (Q : Exit → Act → World → Prop) (a0 : Act) (kk : Nat) (J : Nat → Bool → World → Prop) (V : Nat → World → Value → Prop) (Ext : World → World → Prop) (i : Nat) (o : Oper) : Prop :=
  ∀ (n : Nat) (s : Bool) (a : Act) (w : World), J (n + 1) s w → (i = kk → s = false) → (reachB ops 8 kk i = true → s = false) → (∀ t, notDst ops t = true → a.eval (.tmp t) = a0.eval (.tmp t)) →
    (∀ j, depB ops i j = true → ∀ oj, ops[j]? = some oj → V j w (valOf oj a)) →
    ∀ K : Act → World → Prop, (∀ v w', J n (s || i == kk) w' → V i w' (dv o v) → Ext w w' → K (a.put o.dst v) w') → o.wp P a w K Q
def AllOps (F : Nat → Oper → Prop) : Nat → List Oper → Prop
  | _, [] => True
  | i, o :: r => F i o ∧ AllOps F (i + 1) r
theorem AllOps.get {F : Nat → Oper → Prop} : ∀ {l : List Oper} {i : Nat}, AllOps F i l → ∀ (k : Nat) (o : Oper), l[k]? = some o → F (i + k) o
  | [], _, _, k, o, h => by simp at h
  | x :: r, i, ⟨h1, _⟩, 0, o, h => by simp at h; subst h; exact h1
  | x :: r, i, ⟨_, h2⟩, k + 1, o, h => by
    have := AllOps.get h2 k o (by simpa using h)
    rw [show i + (k + 1) = i + 1 + k by omega]; exact this

section
variable {ops : Array Oper} {Q : Exit → Act → World → Prop} {a0 : Act} {kk : Nat} {J : Nat → Bool → World → Prop} {V : Nat → World → Value → Prop} {Ext : World → World → Prop}

structure EachInv (ops : Array Oper) (a0 : Act) (V : Nat → World → Value → Prop) (listed : Array Bool) (a : Act) (w : World) : Prop where
  lsize : listed.size = ops.size
  tsize : a.tmps.size = a0.tmps.size
  defs : a.defers = a0.defers
  old : ∀ t, (∀ (k : Nat) (o : Oper), ops[k]? = some o → o.dst ≠ some t) → a.tmps[t]? = a0.tmps[t]?
  val : ∀ (i : Nat) (o : Oper), ops[i]? = some o → listed.getD i false = true → V i w (valOf o a)
  closed : ∀ (i : Nat) (o : Oper), ops[i]? = some o → listed.getD i false = true → ∀ e ∈ o.after, Region.binds .any e = true → listed.getD e.on false = true

theorem notDst_iff {t : Nat} : notDst ops t = true → ∀ (k : Nat) (o : Oper), ops[k]? = some o → o.dst ≠ some t := by
  intro h k o hk
  unfold notDst at h
  rw [Array.all_eq_true_iff_forall_mem] at h
  have := h o (Array.mem_of_getElem? hk)
  simpa using this
theorem eachB_at {N : Nat} (hB : eachB ops N = true) {i : Nat} {o : Oper} (h : ops[i]? = some o) : o.guard = none ∧ (∀ e ∈ o.after, Region.binds .any e = true → e.on < i) ∧ ∀ (d : Nat), o.dst = some d → d < N ∧ ∀ (j : Nat) (o' : Oper), j < i → ops[j]? = some o' → o'.dst ≠ some d := by
  unfold eachB at hB
  rw [List.all_eq_true] at hB
  have := hB i (List.mem_range.2 (Array.getElem?_eq_some_iff.1 h).1)
  simp only [h] at this
  rw [Bool.and_eq_true, Bool.and_eq_true] at this
  obtain ⟨⟨h1, h2⟩, h3⟩ := this
  refine ⟨by simpa using h1, fun e he hb => ?_, fun d hd => ?_⟩
  · rw [Array.all_eq_true_iff_forall_mem] at h2
    have := h2 e he
    rw [hb] at this
    simpa using this
  · rw [hd] at h3
    simp only [Bool.and_eq_true, decide_eq_true_iff, List.all_eq_true, List.mem_range] at h3
    refine ⟨h3.1, fun j o' hj hj' => ?_⟩
    have := h3.2 j hj
    rw [hj'] at this
    simpa using this
theorem dst_ne {N : Nat} (hB : eachB ops N = true) {i j : Nat} {o o' : Oper} (h : ops[i]? = some o) (h' : ops[j]? = some o') (hne : i ≠ j) {d : Nat} (hd : o.dst = some d) : o'.dst ≠ some d := by
  rcases Nat.lt_or_ge j i with g | g
  · exact ((eachB_at hB h).2.2 d hd).2 j o' g h'
  · intro e
    exact ((eachB_at hB h').2.2 d e).2 i o (by omega) h hd

theorem all_listed {N : Nat} (hB : eachB ops N = true) {listed : Array Bool} (hs : listed.size = ops.size) (hr : Region.ready .any ops listed = []) : ∀ i, i < ops.size → listed.getD i false = true := by
  intro i
  induction i using Nat.strongRecOn with
  | ind i ih =>
    intro hi
    cases hq : listed.getD i false with
    | true => rfl
    | false =>
      exfalso
      have ho : ops[i]? = some ops[i] := Array.getElem?_eq_getElem hi
      have hm : i ∈ Region.ready .any ops listed := by
        rw [mem_ready]
        refine ⟨?_, ops[i], ho, fun e he hb => ?_⟩
        · have : i < listed.size := by omega
          simp [this] at hq ⊢
          exact hq
        · have := (eachB_at hB ho).2.1 e he hb
          exact ih e.on this (by omega)
      rw [hr] at hm
      cases hm

theorem each_any {N : Nat} (hB : eachB ops N = true) (hN : a0.tmps.size = N) (hE : ∀ j w w' u, Ext w w' → V j w u → V j w' u)
    (hS : AllOps (EachStep P ops Q a0 kk J V Ext) 0 ops.toList)
    (hQ : ∀ (vs : Nat → Value) (n : Nat) (s : Bool) (w : World), J n s w → (∀ (i : Nat) (o : Oper), ops[i]? = some o → V i w (vs i)) → Q .normal (putAll vs ops.toList 0 a0) w) :
    ∀ (fuel : Nat) (rem : List Nat) (listed : Array Bool) (a : Act) (w : World), rem.length ≤ fuel → (∀ i, i < ops.size → listed.getD i false = false → i ∈ rem) → J fuel (listed.getD kk false) w → EachInv ops a0 V listed a w → wpAny P .any ops Q fuel listed a w := by
  have fin : ∀ (n : Nat) (listed : Array Bool) (a : Act) (w : World), J n (listed.getD kk false) w → EachInv ops a0 V listed a w → (∀ i, i < ops.size → listed.getD i false = true) → Q .normal a w := by
    intro n listed a w hJ hI hl
    have e : a = putAll (fun i => match ops[i]? with | some o => valOf o a | none => undef) ops.toList 0 a0 := by
      refine putAll_eq _ ops.toList 0 a0 a hI.tsize hI.defs (fun t ht => hI.old t (fun k o hk => ht k o (by simpa using hk))) (fun k o d hk hd => ?_)
      have hk' : ops[k]? = some o := by simpa using hk
      have hd' := ((eachB_at hB hk').2.2 d hd).1
      refine ⟨by rw [hN]; exact hd', ?_⟩
      have hlt : d < a.tmps.size := by rw [hI.tsize, hN]; exact hd'
      rw [Nat.zero_add]
      simp only [hk', valOf, hd, Act.eval]
      simp [hlt]
    rw [e]
    refine hQ _ n _ w hJ (fun i o ho => ?_)
    simp only [ho]
    exact hI.val i o ho (hl i (Array.getElem?_eq_some_iff.1 ho).1)
  intro fuel
  induction fuel with
  | zero =>
    intro rem listed a w hrem hl hJ hI
    have hall : ∀ i, i < ops.size → listed.getD i false = true := fun i hi => by
      cases h : listed.getD i false with
      | true => rfl
      | false =>
        have := hl i hi h
        have hn : rem = [] := List.eq_nil_of_length_eq_zero (by omega)
        rw [hn] at this
        cases this
    refine ⟨?_, fin 0 listed a w hJ hI hall⟩
    cases hr : Region.ready .any ops listed with
    | nil => rfl
    | cons x xs =>
      exfalso
      have hx : x ∈ Region.ready .any ops listed := by rw [hr]; exact List.mem_cons_self
      rw [mem_ready] at hx
      obtain ⟨h1, o, ho, _⟩ := hx
      have hlt := (Array.getElem?_eq_some_iff.1 ho).1
      have := hall x hlt
      have hxl : x < listed.size := by rw [hI.lsize]; exact hlt
      simp [hxl] at h1 this
      rw [h1] at this
      cases this
  | succ fuel ih =>
    intro rem listed a w hrem hl hJ hI
    refine ⟨fun hr => fin _ listed a w hJ hI (all_listed hB hI.lsize hr), fun i hi => ?_⟩
    rw [mem_ready] at hi
    obtain ⟨h1, o, ho, hdeps⟩ := hi
    have hlt := (Array.getElem?_eq_some_iff.1 ho).1
    have hil : listed.getD i false = false := by
      have hxl : i < listed.size := by rw [hI.lsize]; exact hlt
      simp [hxl] at h1 ⊢
      exact h1
    obtain ⟨hg, _, hd⟩ := eachB_at hB ho
    unfold wpOp
    simp only [ho]
    rw [if_pos (by simp [Region.wanted, hg])]
    refine .inl ?_
    have hst := AllOps.get hS i o (by simpa using ho)
    rw [Nat.zero_add] at hst
    have hkd : reachB ops 8 kk i = true → listed.getD kk false = false := fun hdk => by
      have aux : ∀ (f k : Nat), reachB ops f k i = true → listed.getD k false = false := by
        intro f
        induction f with
        | zero => intro k h; cases h
        | succ f ihf =>
          intro k h
          cases hq : listed.getD k false with
          | false => rfl
          | true =>
            exfalso
            unfold reachB at h
            cases hok : ops[k]? with
            | none => rw [hok] at h; cases h
            | some ok =>
              rw [hok] at h
              simp only [List.any_eq_true, Bool.and_eq_true, Bool.or_eq_true, beq_iff_eq] at h
              obtain ⟨e, he, hb, h'⟩ := h
              have hl := hI.closed k ok hok hq e (by simpa using he) hb
              rcases h' with h' | h'
              · rw [h', hil] at hl; cases hl
              · rw [ihf e.on h'] at hl; cases hl
      exact aux 8 kk hdk
    refine hst fuel (listed.getD kk false) a w hJ (fun hik => by rw [← hik]; exact hil) hkd (fun t ht => ?_) (fun j hj oj hoj => ?_) _ (fun v w' hJ' hv hx => ?_)
    · have := hI.old t (notDst_iff ht)
      simp [Act.eval, this]
    · refine hI.val j oj hoj ?_
      unfold depB at hj
      rw [ho] at hj
      simp only [List.any_eq_true, Bool.and_eq_true, beq_iff_eq] at hj
      obtain ⟨e, he, rfl, hb⟩ := hj
      exact hdeps e (by simpa using he) hb
    · have hflag : (listed.setIfInBounds i true).getD kk false = (listed.getD kk false || i == kk) := by
        by_cases e : i = kk
        · subst e
          have hxl : i < listed.size := by rw [hI.lsize]; exact hlt
          simp [hxl]
        · rw [getD_set_ne false e, beq_eq_false_iff_ne.2 e, Bool.or_false]
      refine ih (rem.erase i) _ _ _ ?_ ?_ (by rw [hflag]; exact hJ') ?_
      · have := List.length_erase_of_mem (hl i hlt hil)
        have hp := List.length_pos_of_mem (hl i hlt hil)
        omega
      · intro k hk hkl
        have hne : i ≠ k := by
          rintro rfl
          have hxl : i < listed.size := by rw [hI.lsize]; exact hlt
          simp [hxl] at hkl
        rw [getD_set_ne false hne] at hkl
        exact (List.mem_erase_of_ne (Ne.symm hne)).2 (hl k hk hkl)
      · refine ⟨by simpa using hI.lsize, by rw [put_size]; exact hI.tsize, by rw [put_defers]; exact hI.defs, fun t ht => ?_, fun k ok hk hkl => ?_, fun k ok hk hkl e he hb => ?_⟩
        · rw [put_ne a v (ht i o ho)]; exact hI.old t ht
        · by_cases e : i = k
          · subst e
            rw [ho] at hk
            injection hk with hk
            subst hk
            unfold valOf
            cases hdd : o.dst with
            | none => rw [dv, hdd] at hv; exact hv
            | some d =>
              rw [dv, hdd] at hv
              have hlt' : d < a.tmps.size := by rw [hI.tsize, hN]; exact (hd d hdd).1
              show V i w' ((a.put (some d) v).eval (.tmp d))
              rw [eval_of (put_eq a v hlt')]; exact hv
          · rw [getD_set_ne false e] at hkl
            have h2 := hE k w w' _ hx (hI.val k ok hk hkl)
            have e2 : valOf ok (a.put o.dst v) = valOf ok a := by
              unfold valOf
              cases hkd : ok.dst with
              | none => rfl
              | some d =>
                have hne : o.dst ≠ some d := dst_ne hB hk ho (Ne.symm e) hkd
                show Act.eval _ _ = Act.eval _ _
                simp [Act.eval, put_ne a v hne]
            rw [e2]; exact h2
        · refine getD_set_true ?_
          by_cases e' : i = k
          · subst e'
            rw [ho] at hk
            injection hk with hk
            subst hk
            exact hdeps e he hb
          · rw [getD_set_ne false e'] at hkl
            exact hI.closed k ok hk hkl e he hb

theorem wp_region_each {id : Nat} {w : World} {N : Nat}
    (hm : P.follows .mixedOrders = true) (hB : eachB ops N = true) (hN : a0.tmps.size = N) (hE : ∀ j w w' u, Ext w w' → V j w u → V j w' u) (hJ : J ops.size false w.drew)
    (hS : AllOps (EachStep P ops Q a0 kk J V Ext) 0 ops.toList)
    (hQ : ∀ (vs : Nat → Value) (n : Nat) (s : Bool) (w : World), J n s w → (∀ (i : Nat) (o : Oper), ops[i]? = some o → V i w (vs i)) → Q .normal (putAll vs ops.toList 0 a0) w) :
    (Code.region id ops true).wp P Q a0 w := by
  refine wp_region_any hm ?_
  have h0 : ∀ i, (Array.replicate ops.size false).getD i false = false := fun i => by
    by_cases h : i < ops.size <;> simp [h]
  refine each_any (kk := kk) hB hN hE hS hQ ops.size (List.range ops.size) _ a0 _ (by simp) (fun i hi _ => List.mem_range.2 hi) (by rw [h0]; exact hJ) ?_
  refine ⟨by simp, rfl, rfl, fun t _ => rfl, fun i o ho hl => ?_, fun i o ho hl => ?_⟩
  · rw [h0] at hl; cases hl
  · rw [h0] at hl; cases hl
end
end
end Go.Proofs.Ytiodpnhokjkjaaa
