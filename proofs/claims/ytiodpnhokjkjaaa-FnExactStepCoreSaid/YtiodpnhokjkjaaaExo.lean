/- Opening arguments: slices of elements of some cells each, by the encoding of an element. No statement of the program stands here. -/
import Derived.Test.YtiodpnhokjkjaaaMem
import Derived.Deep.Slices
import Derived.Deep.Strs
import Derived.ChangeSame
namespace Go.Proofs.Ytiodpnhokjkjaaa
open Go.RowKit Go.Sort Go.ChangeShapes Go.WideShapes Go.Deep
theorem list_of {α : Type} : ∀ (n : Nat) {p : Nat → α → Prop} (_ : ∀ i, i < n → ∃ a, p i a), ∃ xs : List α, xs.length = n ∧ ∀ i (h : i < xs.length), p i xs[i]
  | 0, p, _ => ⟨[], rfl, fun i h => absurd h (Nat.not_lt_zero _)⟩
  | n + 1, p, h => by
    obtain ⟨xs, hl, hx⟩ := list_of n (fun i hi => h i (Nat.lt_succ_of_lt hi))
    obtain ⟨a, ha⟩ := h n (Nat.lt_succ_self n)
    refine ⟨xs ++ [a], by simp [hl], fun i hi => ?_⟩
    by_cases hin : i < xs.length
    · rw [List.getElem_append_left hin]; exact hx i hin
    · have : i = n := by simp only [List.length_append, List.length_cons, List.length_nil] at hi; omega
      subst this
      rw [List.getElem_append_right (by omega)]
      simpa [hl] using ha
theorem list2 {l : List Value} (h : l.length = 2) : ∃ a b, l = [a, b] := by
  match l, h with
  | [a, b], _ => exact ⟨a, b, rfl⟩
theorem list3 {l : List Value} (h : l.length = 3) : ∃ a b c, l = [a, b, c] := by
  match l, h with
  | [a, b, c], _ => exact ⟨a, b, c, rfl⟩
section
variable {H : Type} {enc : TypeId × Value → H} {P : Program} {w : World} {base : Nat} {sp : Nat → Bool} {hd : Bool}
theorem open_rd {α : Type} (E : Enc α) (Q : α → Prop) {t e : TypeId} {fuel : Nat} {cs : List Value} {x : DataW H × List MemPlace} (ht : P.underlying t = some (.slice e)) (hc : P.cellsOf e = E.sz)
    (elem : ∀ fuel cs x, DataW.trod enc P w base sp hd fuel e cs = some x → ∃ a, cs = E.enc a ∧ Q a) (h : DataW.trod enc P w base sp hd fuel t cs = some x) :
    ∃ (A : Option Addr) (c : Nat) (xs : List α), cs = [.slice A xs.length c] ∧ xs.length ≤ c ∧ c ≤ maxLen ∧ Rd E w w.heap.size A xs ∧ ∀ a, a ∈ xs → Q a := by
  rcases open_slice ht h with ⟨rfl, _⟩ | ⟨a, len, cap, m, n, D, Pl, rfl, hb, hl, hm, hmm, _, hx⟩
  · exact ⟨none, 0, [], rfl, Nat.le_refl _, Nat.zero_le _, Rd.nil, fun a h => by cases h⟩
  have hlm : len ≤ m := by rw [hmm]; split <;> omega
  have each : ∀ i, i < len → ∃ y : α, w.cells? base (a.add (i * P.cellsOf e)) (P.cellsOf e) = some (E.enc y) ∧ Q y := fun i hi => by
    obtain ⟨cs', h1, h2⟩ := hx i (by omega)
    obtain ⟨y, rfl, hq⟩ := elem _ _ _ h2
    exact ⟨y, h1, hq⟩
  obtain ⟨xs, hxl, hxs⟩ := list_of len each
  subst hxl
  have cell : ∀ i y, xs[i]? = some y → ∀ j v, (E.enc y)[j]? = some v → w.cell? (a.add (i * E.sz + j)) = some v := fun i y hi j v hj => by
    obtain ⟨hi', rfl⟩ := List.getElem?_eq_some_iff.1 hi
    obtain ⟨_, hlen, hcell⟩ := World.cells?_some (hxs i hi').1
    have hj' : j < P.cellsOf e := by rw [← hlen]; exact (List.getElem?_eq_some_iff.1 hj).1
    have := hcell j hj'
    rw [add_add, hj, hc] at this
    exact this
  refine ⟨some a, cap, xs, rfl, hl, hm, fun hne => ?_, fun y hy => by obtain ⟨i, hi, rfl⟩ := List.getElem_of_mem hy; exact (hxs i hi).2⟩
  obtain ⟨y, ys, rfl⟩ := List.exists_cons_of_ne_nil hne
  have hy0 : 0 < (E.enc y).length := by rw [E.hl]; exact E.pos
  have h0 := cell 0 y rfl 0 _ (List.getElem?_eq_getElem hy0)
  obtain ⟨b, off, spot⟩ := a
  have hspot : spot = none := by simpa [Addr.add] using World.cell?_spot h0
  subst hspot
  have hlt : b < w.heap.size := by have := World.block_lt_of_cell? _ _ h0; simpa [Addr.add] using this
  refine ⟨b, off, rfl, hlt, fun i z hi j v hj => ?_⟩
  have := cell i z hi j v hj
  rw [add_off] at this
  rw [Nat.add_assoc]; exact this
end
end Go.Proofs.Ytiodpnhokjkjaaa
