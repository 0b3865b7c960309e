/- Frames of slots: plain words. No program stands here. -/
import Derived.Test.YtapkgncmjinedaaData
namespace Go.Proofs.Ytapkgncmjinedaa
open Go.RowKit Go.Sort

def sltOk (parts : Int) (s : Slt) : Bool := inB s.ticks 1 20 && inB s.who (-1) (parts - 1)
theorem sltOk_iff {parts : Int} {s : Slt} : sltOk parts s = true ↔ 1 ≤ s.ticks ∧ s.ticks ≤ 20 ∧ -1 ≤ s.who ∧ s.who ≤ parts - 1 := by
  unfold sltOk; rw [Bool.and_eq_true, inB_iff, inB_iff]; omega
def sltsOk (xs : List Slt) (parts : Int) : Bool := inB parts 0 5 && (inB xs.length 1 12 && xs.all (sltOk parts))
theorem sltsOk_iff {xs : List Slt} {parts : Int} : sltsOk xs parts = true ↔ (0 ≤ parts ∧ parts ≤ 5) ∧ (1 ≤ xs.length ∧ xs.length ≤ 12) ∧ ∀ s ∈ xs, sltOk parts s = true := by
  unfold sltsOk
  rw [Bool.and_eq_true, Bool.and_eq_true, inB_iff, inB_iff, List.all_eq_true]
  exact ⟨fun ⟨a, b, c⟩ => ⟨a, by omega, c⟩, fun ⟨a, b, c⟩ => ⟨a, by omega, c⟩⟩

/-- Who runs in each tick of a frame. -/
def fr (xs : List Slt) : List Int := xs.flatMap fun s => List.replicate s.ticks.toNat s.who
theorem fr_app (xs ys : List Slt) : fr (xs ++ ys) = fr xs ++ fr ys := by simp [fr]
theorem fr_nil : fr [] = [] := rfl
theorem fr_one (s : Slt) : fr [s] = List.replicate s.ticks.toNat s.who := by simp [fr]
theorem fr_snoc {xs : List Slt} {k : Nat} (hk : k < xs.length) : fr (xs.take (k + 1)) = fr (xs.take k) ++ List.replicate xs[k].ticks.toNat xs[k].who := by
  rw [List.take_succ_eq_append_getElem hk, fr_app, fr_one]
theorem fr_len_le : ∀ {xs : List Slt}, (∀ s ∈ xs, s.ticks ≤ 20) → (fr xs).length ≤ 20 * xs.length
  | [], _ => by simp [fr]
  | s :: xs, h => by
    have h1 := h s (List.mem_cons_self ..)
    have h2 := fr_len_le (xs := xs) (fun s hs => h s (List.mem_cons_of_mem _ hs))
    show ((s :: xs).flatMap _).length ≤ _
    rw [List.flatMap_cons, List.length_append, List.length_replicate]
    show _ + (fr xs).length ≤ _
    simp only [List.length_cons]; omega
theorem fr_len_ge : ∀ {xs : List Slt}, (∀ s ∈ xs, 1 ≤ s.ticks) → xs.length ≤ (fr xs).length
  | [], _ => by simp [fr]
  | s :: xs, h => by
    have h1 := h s (List.mem_cons_self ..)
    have h2 := fr_len_ge (xs := xs) (fun s hs => h s (List.mem_cons_of_mem _ hs))
    show _ ≤ ((s :: xs).flatMap _).length
    rw [List.flatMap_cons, List.length_append, List.length_replicate]
    show _ ≤ _ + (fr xs).length
    simp only [List.length_cons]; omega
theorem fr_bd {xs : List Slt} {parts : Int} (h : sltsOk xs parts = true) : 1 ≤ (fr xs).length ∧ (fr xs).length ≤ 240 ∧ xs.length ≤ (fr xs).length := by
  obtain ⟨_, h2, h3⟩ := sltsOk_iff.1 h
  have a := fr_len_ge (xs := xs) (fun s hs => (sltOk_iff.1 (h3 s hs)).1)
  have b := fr_len_le (xs := xs) (fun s hs => (sltOk_iff.1 (h3 s hs)).2.1)
  omega
theorem fr_mem {xs : List Slt} {parts : Int} (h : sltsOk xs parts = true) {n : Int} (hn : n ∈ fr xs) : -1 ≤ n ∧ n ≤ parts - 1 := by
  obtain ⟨_, _, h3⟩ := sltsOk_iff.1 h
  obtain ⟨s, hs, hm⟩ := List.mem_flatMap.1 hn
  rw [List.mem_replicate] at hm
  have := sltOk_iff.1 (h3 s hs)
  omega

def tkOk (t : Int) : Bool := inB t 0 1000000
def frameTicks (xs : List Slt) (parts : Int) : Int := if sltsOk xs parts then ((fr xs).length : Int) else -1
def whoAt (f : List Int) (t : Nat) : Int := f.getD (t % f.length) 0
def whoRuns (xs : List Slt) (parts t : Int) : Int := if sltsOk xs parts && tkOk t then whoAt (fr xs) t.toNat else -2

/-- How many of the ticks before t are n's. -/
def ownAt (f : List Int) (n : Int) (t : Nat) : Nat := t / f.length * f.count n + (f.take (t % f.length)).count n
def ownTicks (xs : List Slt) (parts n t : Int) : Int := if sltsOk xs parts && (inB n 0 (parts - 1) && tkOk t) then (ownAt (fr xs) n t.toNat : Int) else -1
def shareOf (xs : List Slt) (parts n : Int) : Int := if sltsOk xs parts && inB n 0 (parts - 1) then ((fr xs).count n : Int) else -1

theorem count_snoc (f : List Int) (n : Int) {k : Nat} (hk : k < f.length) : (f.take (k + 1)).count n = (f.take k).count n + if f[k] = n then 1 else 0 := by
  rw [List.take_succ_eq_append_getElem hk, List.count_append, List.count_singleton]
  simp

theorem whoAt_lt {f : List Int} {t : Nat} (h : t < f.length) : whoAt f t = f[t] := by
  unfold whoAt; rw [Nat.mod_eq_of_lt h]; simp [List.getD_eq_getElem?_getD, List.getElem?_eq_getElem h]
theorem whoAt_mod {f : List Int} {t : Nat} (h0 : 0 < f.length) : whoAt f t = f[t % f.length]'(Nat.mod_lt _ h0) := by
  unfold whoAt; simp [List.getD_eq_getElem?_getD, List.getElem?_eq_getElem (Nat.mod_lt t h0)]
theorem whoAt_add {f : List Int} {t : Nat} : whoAt f (t + f.length) = whoAt f t := by
  unfold whoAt; rw [Nat.add_mod_right]
theorem whoAt_modEq {f : List Int} {t : Nat} : whoAt f (t % f.length) = whoAt f t := by
  unfold whoAt; rw [Nat.mod_mod]

theorem ownAt_zero (f : List Int) (n : Int) : ownAt f n 0 = 0 := by simp [ownAt]
theorem ownAt_succ {f : List Int} (h0 : 0 < f.length) (n : Int) (t : Nat) : ownAt f n (t + 1) = ownAt f n t + if whoAt f t = n then 1 else 0 := by
  unfold ownAt
  rw [whoAt_mod h0]
  have hlt := Nat.mod_lt t h0
  have hdm := Nat.div_add_mod t f.length
  by_cases h : t % f.length + 1 < f.length
  · have e1 : (t + 1) % f.length = t % f.length + 1 := by
      rw [Nat.add_mod, Nat.mod_eq_of_lt (a := 1) (by omega), Nat.mod_eq_of_lt (by omega)]
    have e2 : (t + 1) / f.length = t / f.length := by
      rw [Nat.div_eq_iff h0]
      have : f.length * (t / f.length) = t / f.length * f.length := Nat.mul_comm _ _
      constructor <;> omega
    rw [e1, e2, count_snoc f n hlt]
    omega
  · have hr : t % f.length = f.length - 1 := by omega
    have e0 : t + 1 = f.length * (t / f.length + 1) := by rw [Nat.mul_add]; omega
    have e1 : (t + 1) % f.length = 0 := by rw [e0]; exact Nat.mul_mod_right _ _
    have e2 : (t + 1) / f.length = t / f.length + 1 := by rw [e0]; exact Nat.mul_div_cancel_left _ h0
    have hs := count_snoc f n hlt
    rw [List.take_of_length_le (i := t % f.length + 1) (by omega)] at hs
    rw [e1, e2, Nat.add_mul, List.take_zero, List.count_nil]
    omega
theorem ownAt_le {f : List Int} (h0 : 0 < f.length) (n : Int) : ∀ t, ownAt f n t ≤ t
  | 0 => by simp [ownAt]
  | t + 1 => by
    have := ownAt_le h0 n t
    rw [ownAt_succ h0]; split <;> omega
theorem ownAt_frame {f : List Int} (h0 : 0 < f.length) (n : Int) (t : Nat) : ownAt f n (t + f.length) = ownAt f n t + f.count n := by
  unfold ownAt
  rw [Nat.add_mod_right, Nat.add_div_right _ h0, Nat.succ_mul]; omega
theorem ownAt_len {f : List Int} (h0 : 0 < f.length) (n : Int) : ownAt f n f.length = f.count n := by
  have := ownAt_frame h0 n 0
  rw [ownAt_zero] at this; simpa using this

/-- What the reference adds up, slot by slot. -/
theorem count_take_rep (A : List Int) (m : Nat) (v n : Int) (r : Nat) : ((A ++ List.replicate m v).take r).count n = (A.take r).count n + if v = n then min m (r - A.length) else 0 := by
  rw [List.take_append, List.count_append, List.take_replicate, List.count_replicate]
  congr 1
  by_cases h : v = n
  · rw [if_pos (by simpa using h), if_pos h]; omega
  · rw [if_neg (by simpa using h), if_neg h]
theorem count_rep (A : List Int) (m : Nat) (v n : Int) : (A ++ List.replicate m v).count n = A.count n + if v = n then m else 0 := by
  rw [List.count_append, List.count_replicate]
  congr 1
  by_cases h : v = n
  · rw [if_pos (by simpa using h), if_pos h]
  · rw [if_neg (by simpa using h), if_neg h]

/-- Tick T of a frame is in slot k, r ticks behind its begin. -/
def SlotIs (xs : List Slt) (T k r : Nat) : Prop := ∃ h : k < xs.length, (fr (xs.take k)).length + r = T ∧ r < xs[k].ticks.toNat
theorem slot_who {xs : List Slt} {T k r : Nat} (h : SlotIs xs T k r) : ∃ hT : T < (fr xs).length, (fr xs)[T] = (xs[k]'h.1).who := by
  obtain ⟨hk, h1, h2⟩ := h
  have e : fr xs = fr (xs.take k) ++ (List.replicate xs[k].ticks.toNat xs[k].who ++ fr (xs.drop (k + 1))) := by
    rw [← List.append_assoc, ← fr_snoc hk, ← fr_app, List.take_append_drop]
  have hT : T < (fr xs).length := by rw [e]; simp; omega
  refine ⟨hT, ?_⟩
  have : (fr xs)[T]? = some xs[k].who := by
    rw [e, List.getElem?_append_right (by omega), List.getElem?_append_left (by simp; omega), List.getElem?_replicate, if_pos (by omega)]
  rw [List.getElem?_eq_getElem hT] at this
  injection this
theorem fr_take_mono (xs : List Slt) {k k' : Nat} (h : k < k') (hk : k < xs.length) : (fr (xs.take k)).length + xs[k].ticks.toNat ≤ (fr (xs.take k')).length := by
  have e : xs.take k' = xs.take (k + 1) ++ (xs.take k').drop (k + 1) := by
    have := (List.take_append_drop (k + 1) (xs.take k')).symm
    rw [List.take_take, Nat.min_eq_left (by omega)] at this
    exact this
  rw [e, fr_app, fr_snoc hk]
  simp
theorem slot_same {xs : List Slt} {T k r k' r' : Nat} (h : SlotIs xs T k r) (h' : SlotIs xs T k' r') : k = k' ∧ r = r' := by
  obtain ⟨hk, h1, h2⟩ := h
  obtain ⟨hk', h3, h4⟩ := h'
  rcases Nat.lt_trichotomy k k' with h | h | h
  · have := fr_take_mono xs h hk; omega
  · subst h; omega
  · have := fr_take_mono xs h hk'; omega
theorem slot_some {xs : List Slt} {T : Nat} (hT : T < (fr xs).length) : ∃ k r, SlotIs xs T k r := by
  have main : ∀ m, m ≤ xs.length → T < (fr (xs.take m)).length → ∃ k r, SlotIs xs T k r := by
    intro m
    induction m with
    | zero => intro _ h; simp [fr] at h
    | succ m ih =>
      intro hm h
      by_cases hlt : T < (fr (xs.take m)).length
      · exact ih (by omega) hlt
      · have hk : m < xs.length := by omega
        rw [fr_snoc hk, List.length_append, List.length_replicate] at h
        exact ⟨m, T - (fr (xs.take m)).length, hk, by omega, by omega⟩
  exact main xs.length (Nat.le_refl _) (by rw [List.take_length]; exact hT)

/-- A round of the search: what is left, and whether this slot is it. -/
theorem slot_round {xs : List Slt} {T k r : Nat} (hk : k ≤ xs.length) (h : (fr (xs.take k)).length + r = T) (hT : T < (fr xs).length) : k < xs.length := by
  rcases Nat.lt_or_ge k xs.length with h' | h'
  · exact h'
  · rw [List.take_of_length_le h'] at h; omega

/-- The first tick, not before t, of n. -/
def nextAt (f : List Int) (n : Int) (t : Nat) : Int := match (List.range f.length).find? (fun j => decide (whoAt f (t + j) = n)) with | some j => ((t + j : Nat) : Int) | none => -1
theorem nextAt_at {f : List Int} {n : Int} {t j : Nat} (hj : j < f.length) (h : whoAt f (t + j) = n) (hl : ∀ i, i < j → whoAt f (t + i) ≠ n) : nextAt f n t = ((t + j : Nat) : Int) := by
  have : (List.range f.length).find? (fun j => decide (whoAt f (t + j) = n)) = some j := by
    rw [List.find?_range_eq_some]
    refine ⟨by simpa using h, by simpa using hj, fun i hi => by simpa using hl i hi⟩
  unfold nextAt; rw [this]
theorem nextAt_none {f : List Int} {n : Int} {t : Nat} (hl : ∀ i, i < f.length → whoAt f (t + i) ≠ n) : nextAt f n t = -1 := by
  have : (List.range f.length).find? (fun j => decide (whoAt f (t + j) = n)) = none := by
    rw [List.find?_eq_none]
    intro i hi
    simpa using hl i (by simpa using hi)
  unfold nextAt; rw [this]
theorem nextAt_cases (f : List Int) (n : Int) (t : Nat) : (∃ j, j < f.length ∧ whoAt f (t + j) = n ∧ (∀ i, i < j → whoAt f (t + i) ≠ n) ∧ nextAt f n t = ((t + j : Nat) : Int)) ∨ ((∀ i, i < f.length → whoAt f (t + i) ≠ n) ∧ nextAt f n t = -1) := by
  by_cases h : ∀ i, i < f.length → whoAt f (t + i) ≠ n
  · exact .inr ⟨h, nextAt_none h⟩
  · have : ∃ j, j < f.length ∧ whoAt f (t + j) = n := by
      apply Classical.byContradiction
      intro hc
      exact h fun i hi e => hc ⟨i, hi, e⟩
    have hm : ∀ m, (∃ j, j < m ∧ j < f.length ∧ whoAt f (t + j) = n) → ∃ j, j < f.length ∧ whoAt f (t + j) = n ∧ ∀ i, i < j → whoAt f (t + i) ≠ n := by
      intro m
      induction m with
      | zero => intro ⟨j, hj, _⟩; omega
      | succ m ih =>
        intro ⟨j, hj, hj2, hj3⟩
        by_cases hb : ∃ j, j < m ∧ j < f.length ∧ whoAt f (t + j) = n
        · exact ih hb
        · have : j = m := by
            rcases Nat.lt_or_ge j m with h' | h'
            · exact absurd ⟨j, h', hj2, hj3⟩ hb
            · omega
          subst this
          exact ⟨j, hj2, hj3, fun i hi e => hb ⟨i, hi, by omega, e⟩⟩
    obtain ⟨j, h1, h2⟩ := this
    obtain ⟨j, h1, h2, h3⟩ := hm (j + 1) ⟨j, by omega, h1, h2⟩
    exact .inl ⟨j, h1, h2, h3, nextAt_at h1 h2 h3⟩
def nextOwn (xs : List Slt) (parts n t : Int) : Int := if sltsOk xs parts && (inB n 0 (parts - 1) && tkOk t) then nextAt (fr xs) n t.toNat else -1

/-- The ticks since n has run; the most of them. -/
def gapRun (f : List Int) (n : Int) : Nat → Nat
  | 0 => 0
  | t + 1 => if whoAt f t = n then 0 else gapRun f n t + 1
def gapMost (f : List Int) (n : Int) : Nat → Nat
  | 0 => 0
  | t + 1 => max (gapMost f n t) (gapRun f n (t + 1))
def longestGap (xs : List Slt) (parts n : Int) : Int := if 1 ≤ shareOf xs parts n then (gapMost (fr xs) n (2 * (fr xs).length) : Int) else -1
theorem gapRun_le (f : List Int) (n : Int) : ∀ t, gapRun f n t ≤ t
  | 0 => Nat.le_refl _
  | t + 1 => by
    have := gapRun_le f n t
    unfold gapRun; split <;> omega
theorem gapMost_le (f : List Int) (n : Int) : ∀ t, gapMost f n t ≤ t
  | 0 => Nat.le_refl _
  | t + 1 => by
    have := gapMost_le f n t
    have := gapRun_le f n (t + 1)
    unfold gapMost; omega
end Go.Proofs.Ytapkgncmjinedaa
