/- Frames of slots: what the laws say of the plain words. No program stands here. -/
import Derived.Test.YtbjhekkebnkejaaFra
namespace Go.Proofs.Ytbjhekkebnkejaa
open Go.RowKit Go.Sort

theorem sltsOk_take {xs : List Slt} {parts : Int} (h : sltsOk xs parts = true) {m : Nat} (h1 : 1 ≤ m) : sltsOk (xs.take m) parts = true := by
  obtain ⟨a, b, c⟩ := sltsOk_iff.1 h
  exact sltsOk_iff.2 ⟨a, by rw [List.length_take]; omega, fun s hs => c s (List.mem_of_mem_take hs)⟩
theorem sltsOk_drop {xs : List Slt} {parts : Int} (h : sltsOk xs parts = true) {m : Nat} (h1 : m < xs.length) : sltsOk (xs.drop m) parts = true := by
  obtain ⟨a, b, c⟩ := sltsOk_iff.1 h
  exact sltsOk_iff.2 ⟨a, by rw [List.length_drop]; omega, fun s hs => c s (List.mem_of_mem_drop hs)⟩
theorem frameTicks_halves {xs : List Slt} {parts : Int} (h : sltsOk xs parts = true) {m : Nat} (h1 : 1 ≤ m) (h2 : m < xs.length) : frameTicks xs parts = frameTicks (xs.take m) parts + frameTicks (xs.drop m) parts := by
  unfold frameTicks
  rw [if_pos h, if_pos (sltsOk_take h h1), if_pos (sltsOk_drop h h2)]
  have : fr xs = fr (xs.take m) ++ fr (xs.drop m) := by rw [← fr_app, List.take_append_drop]
  rw [this, List.length_append]; omega

theorem sltsOk_twice {xs : List Slt} {parts : Int} (h : sltsOk xs parts = true) (h2 : 2 * xs.length ≤ 12) : sltsOk (xs ++ xs) parts = true := by
  obtain ⟨a, b, c⟩ := sltsOk_iff.1 h
  refine sltsOk_iff.2 ⟨a, by rw [List.length_append]; omega, fun s hs => ?_⟩
  rcases List.mem_append.1 hs with h | h <;> exact c s h
theorem whoAt_twice (f : List Int) (t : Nat) (h0 : 0 < f.length) : whoAt (f ++ f) t = whoAt f t := by
  have hl : (f ++ f).length = f.length + f.length := List.length_append
  have h1 := Nat.mod_lt t (show 0 < (f ++ f).length by omega)
  have h2 : t % (f ++ f).length % f.length = t % f.length := by
    rw [hl, ← Nat.two_mul]
    exact Nat.mod_mod_of_dvd _ (Nat.dvd_mul_left _ _)
  rw [whoAt_mod h0, whoAt_mod (by omega)]
  by_cases h : t % (f ++ f).length < f.length
  · rw [List.getElem_append_left h]
    congr 1
    rw [← h2, Nat.mod_eq_of_lt h]
  · rw [List.getElem_append_right (by omega)]
    congr 1
    have h3 : t % (f ++ f).length % f.length = t % (f ++ f).length - f.length := by
      rw [Nat.mod_eq_sub_mod (a := t % (f ++ f).length) (by omega), Nat.mod_eq_of_lt (by omega)]
    rw [← h2, h3]
theorem whoRuns_twice {xs : List Slt} {parts t : Int} (h : sltsOk xs parts = true) (ht : tkOk t = true) (h2 : 2 * xs.length ≤ 12) : whoRuns (xs ++ xs) parts t = whoRuns xs parts t := by
  unfold whoRuns
  rw [h, ht, sltsOk_twice h h2, fr_app, whoAt_twice _ _ (by have := fr_bd h; omega)]

theorem who_in {xs : List Slt} {parts : Int} (h : sltsOk xs parts = true) (t : Nat) : -1 ≤ whoAt (fr xs) t ∧ whoAt (fr xs) t ≤ parts - 1 := by
  have h0 : 0 < (fr xs).length := by have := fr_bd h; omega
  rw [whoAt_mod h0]
  exact fr_mem h (List.getElem_mem _)
theorem who_first {xs : List Slt} {parts : Int} (h : sltsOk xs parts = true) (h1 : 0 < xs.length) : whoAt (fr xs) 0 = xs[0].who := by
  obtain ⟨_, _, c⟩ := sltsOk_iff.1 h
  have := sltOk_iff.1 (c xs[0] (List.getElem_mem h1))
  obtain ⟨hT, e⟩ := slot_who (xs := xs) (T := 0) (k := 0) (r := 0) ⟨h1, by simp [fr], by omega⟩
  rw [whoAt_lt hT, e]

/-! ### Counting -/

def csum (g : List Int) : Nat → Nat
  | 0 => 0
  | k + 1 => csum g k + g.count (k : Int)
theorem csum_countP (g : List Int) : ∀ P : Nat, csum g P = g.countP (fun x : Int => decide (0 ≤ x ∧ x < (P : Int)))
  | 0 => by
    symm
    rw [csum, List.countP_eq_zero]
    intro x _; simp only [decide_eq_true_eq]; omega
  | P + 1 => by
    rw [csum, csum_countP g P]
    induction g with
    | nil => simp
    | cons x g ih =>
      rw [List.countP_cons, List.countP_cons, List.count_cons]
      by_cases e : x = (P : Int)
      · subst e
        rw [if_neg (by simp), if_pos (by simp), if_pos (by simp; omega)]; omega
      · by_cases h2 : 0 ≤ x ∧ x < P
        · rw [if_pos (by simpa using h2), if_neg (by simpa using e), if_pos (by simp; omega)]; omega
        · rw [if_neg (by simpa using h2), if_neg (by simpa using e), if_neg (by simp; omega)]; omega
theorem csum_all {g : List Int} {P : Nat} (h : ∀ x ∈ g, -1 ≤ x ∧ x < P) : csum g P + g.count (-1) = g.length := by
  rw [csum_countP]
  induction g with
  | nil => simp
  | cons x g ih =>
    have h1 := h x (List.mem_cons_self ..)
    have h2 := ih (fun y hy => h y (List.mem_cons_of_mem _ hy))
    rw [List.countP_cons, List.count_cons, List.length_cons]
    by_cases e : x = -1
    · subst e
      rw [if_neg (by simp), if_pos (by simp)]; omega
    · rw [if_pos (by simp; omega), if_neg (by simpa using e)]; omega
theorem csum_le (g : List Int) (P : Nat) : csum g P ≤ g.length := by rw [csum_countP]; exact List.countP_le_length
/-- Who runs in the first ticks. -/
def runs (f : List Int) (t : Nat) : List Int := (List.range t).map (whoAt f)
theorem runs_succ (f : List Int) (t : Nat) : runs f (t + 1) = runs f t ++ [whoAt f t] := by unfold runs; rw [List.range_succ, List.map_append]; rfl
theorem runs_len (f : List Int) (t : Nat) : (runs f t).length = t := by simp [runs]
theorem own_runs {f : List Int} (h0 : 0 < f.length) (n : Int) : ∀ t, (runs f t).count n = ownAt f n t
  | 0 => by simp [runs, ownAt_zero]
  | t + 1 => by
    rw [runs_succ, List.count_append, own_runs h0 n t, ownAt_succ h0, List.count_singleton]
    simp
theorem count_runs_succ (f : List Int) (n : Int) (t : Nat) : (runs f (t + 1)).count n = (runs f t).count n + if whoAt f t = n then 1 else 0 := by
  rw [runs_succ, List.count_append, List.count_singleton]; simp
theorem csum_runs {xs : List Slt} {parts : Nat} (h : sltsOk xs parts = true) (t : Nat) : csum (runs (fr xs) t) parts + (runs (fr xs) t).count (-1) = t := by
  have := csum_all (g := runs (fr xs) t) (P := parts) (fun x hx => by
    obtain ⟨i, _, rfl⟩ := List.mem_map.1 hx
    have := who_in h i
    omega)
  rw [runs_len] at this
  exact this
theorem csum_fr {xs : List Slt} {parts : Nat} (h : sltsOk xs parts = true) : csum (fr xs) parts + (fr xs).count (-1) = (fr xs).length :=
  csum_all fun x hx => by have := fr_mem h hx; omega

/-! ### The next tick, and gaps -/

theorem own_still {f : List Int} (h0 : 0 < f.length) {n : Int} {t : Nat} : ∀ {m : Nat}, (∀ i, i < m → whoAt f (t + i) ≠ n) → ownAt f n (t + m) = ownAt f n t
  | 0, _ => rfl
  | m + 1, h => by
    rw [← Nat.add_assoc, ownAt_succ h0, own_still h0 fun i hi => h i (by omega), if_neg (h m (by omega))]; omega
theorem own_most {f : List Int} (h0 : 0 < f.length) (n : Int) (t : Nat) : ∀ m : Nat, ownAt f n (t + m) ≤ ownAt f n t + m
  | 0 => Nat.le_refl _
  | m + 1 => by
    have := own_most h0 n t m
    rw [← Nat.add_assoc, ownAt_succ h0]; split <;> omega
theorem next_never {f : List Int} (h0 : 0 < f.length) {n : Int} {t : Nat} (h : ∀ i, i < f.length → whoAt f (t + i) ≠ n) : f.count n = 0 := by
  have a := own_still h0 h
  have b := ownAt_frame h0 n t
  omega
theorem gapRun_ge {f : List Int} {n : Int} {t : Nat} : ∀ {j : Nat}, (∀ i, i < j → whoAt f (t + i) ≠ n) → j ≤ gapRun f n (t + j)
  | 0, _ => Nat.zero_le _
  | j + 1, h => by
    have := gapRun_ge (j := j) fun i hi => h i (by omega)
    rw [← Nat.add_assoc, gapRun, if_neg (h j (by omega))]; omega
theorem gapRun_back {f : List Int} {n : Int} : ∀ u, gapRun f n u ≤ u ∧ ∀ i, i < gapRun f n u → whoAt f (u - gapRun f n u + i) ≠ n
  | 0 => ⟨Nat.le_refl _, fun i hi => by simp [gapRun] at hi⟩
  | u + 1 => by
    obtain ⟨h1, h2⟩ := gapRun_back (f := f) (n := n) u
    unfold gapRun
    by_cases h : whoAt f u = n
    · rw [if_pos h]; exact ⟨by omega, fun i hi => by omega⟩
    · rw [if_neg h]
      refine ⟨by omega, fun i hi => ?_⟩
      rcases Nat.lt_or_ge i (gapRun f n u) with h' | h'
      · have := h2 i h'
        rwa [show u + 1 - (gapRun f n u + 1) + i = u - gapRun f n u + i by omega]
      · rwa [show u + 1 - (gapRun f n u + 1) + i = u by omega]
theorem gapMost_ge {f : List Int} {n : Int} {u : Nat} : ∀ {m : Nat}, u ≤ m → gapRun f n u ≤ gapMost f n m
  | 0, h => by
    have : u = 0 := by omega
    subst this; exact Nat.le_refl _
  | m + 1, h => by
    unfold gapMost
    rcases Nat.lt_or_ge m u with h' | h'
    · have : u = m + 1 := by omega
      subst this; omega
    · have := gapMost_ge (f := f) (n := n) (u := u) (m := m) h'
      omega
theorem gapMost_met {f : List Int} {n : Int} : ∀ m : Nat, ∃ u, u ≤ m ∧ gapRun f n u = gapMost f n m
  | 0 => ⟨0, Nat.le_refl _, rfl⟩
  | m + 1 => by
    obtain ⟨u, hu, e⟩ := gapMost_met (f := f) (n := n) m
    unfold gapMost
    rcases Nat.le_total (gapRun f n (m + 1)) (gapMost f n m) with h | h
    · exact ⟨u, by omega, by rw [Nat.max_eq_left h]; exact e⟩
    · exact ⟨m + 1, Nat.le_refl _, by rw [Nat.max_eq_right h]⟩

/-- How long it takes from tick t on. -/
theorem wait_some {f : List Int} {n : Int} (h0 : 0 < f.length) (hc : 1 ≤ f.count n) (t : Nat) : ∃ j, j < f.length ∧ whoAt f (t + j) = n ∧ (∀ i, i < j → whoAt f (t + i) ≠ n) ∧ nextAt f n t = ((t + j : Nat) : Int) := by
  rcases nextAt_cases f n t with h | ⟨h, _⟩
  · exact h
  · have := next_never h0 h; omega
theorem wait_le {f : List Int} {n : Int} (h0 : 0 < f.length) (hc : 1 ≤ f.count n) {t : Nat} (ht : t < f.length) : nextAt f n t - t ≤ gapMost f n (2 * f.length) := by
  obtain ⟨j, h1, h2, h3, h4⟩ := wait_some h0 hc t
  have a := gapRun_ge h3
  have b := gapMost_ge (f := f) (n := n) (u := t + j) (m := 2 * f.length) (by omega)
  omega
theorem wait_met {f : List Int} {n : Int} (h0 : 0 < f.length) (hc : 1 ≤ f.count n) : ∃ t, t < f.length ∧ nextAt f n t - t = gapMost f n (2 * f.length) := by
  obtain ⟨u, hu, e⟩ := gapMost_met (f := f) (n := n) (2 * f.length)
  obtain ⟨h1, h2⟩ := gapRun_back (f := f) (n := n) u
  have ht := Nat.mod_lt (u - gapRun f n u) h0
  refine ⟨_, ht, ?_⟩
  have hle := wait_le h0 hc ht
  obtain ⟨j, g1, g2, g3, g4⟩ := wait_some h0 hc ((u - gapRun f n u) % f.length)
  have : gapRun f n u ≤ j := by
    rcases Nat.lt_or_ge j (gapRun f n u) with h' | h'
    · exfalso
      refine h2 j h' ?_
      refine Eq.trans ?_ g2
      unfold whoAt
      congr 1
      exact (Nat.mod_add_mod _ _ _).symm
    · exact h'
  omega
theorem gap_share {f : List Int} {n : Int} (h0 : 0 < f.length) (hc : 1 ≤ f.count n) : gapMost f n (2 * f.length) + f.count n ≤ f.length := by
  obtain ⟨t, ht, e⟩ := wait_met h0 hc
  obtain ⟨j, g1, g2, g3, g4⟩ := wait_some h0 hc t
  have hj : j = gapMost f n (2 * f.length) := by omega
  have a := own_still h0 g3
  have b := own_most h0 n (t + j) (f.length - j)
  have c := ownAt_frame h0 n t
  rw [show t + j + (f.length - j) = t + f.length by omega] at b
  omega

/-! ### Slots follow each other -/

theorem slot_next {xs : List Slt} {parts : Int} (h : sltsOk xs parts = true) {T k r : Nat} (hs : SlotIs xs (T % (fr xs).length) k r) :
    SlotIs xs ((T + ((xs[k]'hs.1).ticks.toNat - r)) % (fr xs).length) ((k + 1) % xs.length) 0 := by
  obtain ⟨hk, h1, h2⟩ := hs
  obtain ⟨_, hl, c⟩ := sltsOk_iff.1 h
  have h0 : 0 < (fr xs).length := by have := fr_bd h; omega
  have hsn := fr_snoc hk
  have hsl : (fr (xs.take (k + 1))).length = (fr (xs.take k)).length + xs[k].ticks.toNat := by rw [hsn]; simp
  have e : (T + (xs[k].ticks.toNat - r)) % (fr xs).length = (fr (xs.take (k + 1))).length % (fr xs).length := by
    rw [Nat.add_mod, ← h1, hsl]
    conv => rhs; rw [show (fr (xs.take k)).length + xs[k].ticks.toNat = ((fr (xs.take k)).length + r) + (xs[k].ticks.toNat - r) by omega, Nat.add_mod]
    rw [h1, Nat.mod_mod]
  rw [e]
  by_cases hk1 : k + 1 < xs.length
  · have hm := fr_take_mono xs (k := k + 1) (k' := xs.length) hk1 hk1
    rw [List.take_length] at hm
    have hp := sltOk_iff.1 (c xs[k + 1] (List.getElem_mem hk1))
    rw [Nat.mod_eq_of_lt hk1, Nat.mod_eq_of_lt (by omega)]
    exact ⟨hk1, by omega, by omega⟩
  · have hke : k + 1 = xs.length := by omega
    have hp := sltOk_iff.1 (c (xs[0]'(by omega)) (List.getElem_mem _))
    rw [hke, Nat.mod_self, List.take_length, Nat.mod_self]
    exact ⟨by omega, by simp [fr], by omega⟩
end Go.Proofs.Ytbjhekkebnkejaa
