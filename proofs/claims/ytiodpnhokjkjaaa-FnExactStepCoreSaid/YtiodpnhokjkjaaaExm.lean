/- Words for marking: what a call that only overwrites cells of some blocks leaves alone; what may be written. No statement of the program stands here. -/
import Derived.Test.YtiodpnhokjkjaaaBox
namespace Go.Proofs.Ytiodpnhokjkjaaa
open Go.RowKit Go.Sort
/-- Only cells of the blocks lo .. hi - 1 were overwritten. -/
structure Mk (lo hi : Nat) (w w' : World) : Prop where
  os : w'.os = w.os
  tape : w'.tape = w.tape
  output : w'.output = w.output
  size : w'.heap.size = w.heap.size
  block : ∀ k, k < lo ∨ hi ≤ k → w'.heap[k]? = w.heap[k]?
  cell : ∀ p, (∃ v, w.cell? p = some v) → ∃ v, w'.cell? p = some v
  frozen : ∀ p, w'.frozen? p = w.frozen? p
theorem Mk.refl (lo hi : Nat) (w : World) : Mk lo hi w w := ⟨rfl, rfl, rfl, rfl, fun _ _ => rfl, fun _ h => h, fun _ => rfl⟩
theorem Mk.trans {lo hi : Nat} {a b c : World} (h : Mk lo hi a b) (k : Mk lo hi b c) : Mk lo hi a c :=
  ⟨k.os.trans h.os, k.tape.trans h.tape, k.output.trans h.output, k.size.trans h.size, fun i hi => (k.block i hi).trans (h.block i hi), fun p hp => k.cell p (h.cell p hp), fun p => (k.frozen p).trans (h.frozen p)⟩
theorem Mk.wide {lo hi lo' hi' : Nat} {a b : World} (h : Mk lo hi a b) (h1 : lo' ≤ lo) (h2 : hi ≤ hi') : Mk lo' hi' a b :=
  ⟨h.os, h.tape, h.output, h.size, fun i hi => h.block i (by omega), h.cell, h.frozen⟩
theorem Mk.set {lo hi : Nat} {a b : World} (h : Mk lo hi a b) {g o : Nat} (h1 : lo ≤ g) (h2 : g < hi) (v : Value) : Mk lo hi a (b.setCell ⟨g, o, none⟩ v) := by
  refine ⟨h.os, h.tape, h.output, by simpa using h.size, fun i hi => ?_, fun p hp => ?_, fun p => ?_⟩
  · rw [Below.heap_setCell b ⟨g, o, none⟩ v i (by show i ≠ g; omega)]; exact h.block i hi
  · obtain ⟨u, hu⟩ := h.cell p hp
    by_cases e : (⟨g, o, none⟩ : Addr) = p
    · subst e; exact ⟨v, World.cell?_setCell_same _ _ _ hu⟩
    · exact ⟨u, (World.cell?_setCell_other _ _ _ _ e).trans hu⟩
  · rw [World.frozen?_setCell]; exact h.frozen p
theorem Mk.below {lo hi : Nat} {a b : World} (h : Mk lo hi a b) {B : Nat} (hB : B ≤ lo) : Below B a b := ⟨h.os, h.tape, h.output, by rw [h.size]; exact Nat.le_refl _, fun k hk => h.block k (.inl (by omega))⟩
theorem Mk.own {α : Type} {E : Enc α} {e : TypeId} {lo hi base : Nat} {a b : World} {v : Value} {xs : List α} (h : Mk lo hi a b) (ho : Own E e a base v xs) (hb : hi ≤ base) : Own E e b base v xs := by
  rcases ho with ho | ⟨g, c, cur, hv, hg, hh, h5⟩
  · exact .inl ho
  · exact .inr ⟨g, c, cur, hv, hg, (h.block g (.inr (by omega))).trans hh, h5⟩
theorem Mk.rdLow {α : Type} {E : Enc α} {lo hi B : Nat} {a b : World} {A : Option Addr} {xs : List α} (h : Mk lo hi a b) (hr : Rd E a B A xs) (hB : B ≤ lo) : Rd E b B A xs := hr.below (h.below hB)
/-- The first n elements of sz cells each may be written. -/
def Wr (sz : Nat) (w : World) (lo hi : Nat) (A : Option Addr) (n : Nat) : Prop := 0 < n → ∃ b, A = some ⟨b, 0, none⟩ ∧ lo ≤ b ∧ b < hi ∧ ∀ j, j < n * sz → (∃ v, w.cell? ⟨b, j, none⟩ = some v) ∧ w.frozen? ⟨b, j, none⟩ = false
theorem Wr.mk {sz : Nat} {w w' : World} {lo hi l h : Nat} {A : Option Addr} {n : Nat} (s : Wr sz w lo hi A n) (m : Mk l h w w') : Wr sz w' lo hi A n := fun hn => by
  obtain ⟨b, hA, h1, h2, h3⟩ := s hn
  exact ⟨b, hA, h1, h2, fun j hj => ⟨m.cell _ (h3 j hj).1, (m.frozen _).trans (h3 j hj).2⟩⟩
theorem Wr.below {sz : Nat} {w w' : World} {lo hi B : Nat} {A : Option Addr} {n : Nat} (s : Wr sz w lo hi A n) (h : Below B w w') (hB : hi ≤ B) : Wr sz w' lo hi A n := fun hn => by
  obtain ⟨b, hA, h1, h2, h3⟩ := s hn
  have hc := bcell h
  exact ⟨b, hA, h1, h2, fun j hj => ⟨by obtain ⟨v, hv⟩ := (h3 j hj).1; exact ⟨v, (hc.1 b j (by omega)).trans hv⟩, (hc.2 b j (by omega)).trans (h3 j hj).2⟩⟩
theorem Wr.lo {sz : Nat} {w : World} {lo lo' hi : Nat} {A : Option Addr} {n : Nat} (s : Wr sz w lo hi A n) (h : lo' ≤ lo) : Wr sz w lo' hi A n := fun hn => by
  obtain ⟨b, hA, h1, h2, h3⟩ := s hn
  exact ⟨b, hA, by omega, h2, h3⟩
theorem Own.wr {α : Type} {E : Enc α} {e : TypeId} {w : World} {base c : Nat} {A : Option Addr} {xs : List α} (h : Own E e w base (.slice A xs.length c) xs) : Wr E.sz w base w.heap.size A xs.length := fun hn => by
  have hne : xs ≠ [] := by intro e; simp [e] at hn
  obtain ⟨A', c', hv, _, hA⟩ := h.form
  injection hv with hA'
  subst hA'
  obtain ⟨b, rfl, h1, h2⟩ := hA hne
  refine ⟨b, rfl, h1, h2, fun j hj => ⟨?_, h.frozen hne⟩⟩
  obtain ⟨b', off, hAA, _, hcell⟩ := h.rd hne
  simp only [Option.some.injEq, Addr.mk.injEq, and_true] at hAA
  obtain ⟨rfl, rfl⟩ := hAA
  have hi : j / E.sz < xs.length := (Nat.div_lt_iff_lt_mul E.pos).2 hj
  have hm : j % E.sz < (E.enc xs[j / E.sz]).length := by rw [E.hl]; exact Nat.mod_lt _ E.pos
  have := hcell (j / E.sz) _ (List.getElem?_eq_getElem hi) (j % E.sz) _ (List.getElem?_eq_getElem hm)
  rw [show 0 + j / E.sz * E.sz + j % E.sz = j from by rw [Nat.zero_add, Nat.mul_comm]; exact Nat.div_add_mod j E.sz] at this
  exact ⟨_, this⟩
theorem Own.rdN {α : Type} {E : Enc α} {e : TypeId} {w : World} {base n c : Nat} {A : Option Addr} {xs : List α} (h : Own E e w base (.slice A n c) xs) : Rd E w w.heap.size A xs := h.rd
theorem Own.cellsAt {α : Type} {E : Enc α} {e : TypeId} {w : World} {base g n c k : Nat} {xs : List α} (h : Own E e w base (.slice (some ⟨g, 0, none⟩) n c) xs) (hk : k < xs.length) :
    base ≤ g ∧ g < w.heap.size ∧ ∀ j, j < E.sz → (∃ v, w.cell? ⟨g, k * E.sz + j, none⟩ = some v) ∧ w.frozen? ⟨g, k * E.sz + j, none⟩ = false := by
  obtain ⟨A', c', hv, _, _⟩ := h.form
  injection hv with _ hn _
  subst hn
  obtain ⟨b, hA, h1, h2, h3⟩ := h.wr (by omega)
  simp only [Option.some.injEq, Addr.mk.injEq, and_true] at hA
  subst hA
  refine ⟨h1, h2, fun j hj => h3 _ ?_⟩
  have : (k + 1) * E.sz ≤ xs.length * E.sz := Nat.mul_le_mul_right _ hk
  rw [Nat.add_mul, Nat.one_mul] at this
  omega
section
variable {α : Type} {E : Enc α} {e : TypeId} {w : World} {base g n cap i : Nat} {x x1 x2 y : α} {u v t : Value} {xs : List α}
theorem Own.set2 (h : Own E e w base (.slice (some ⟨g, 0, none⟩) n cap) xs) (hs : E.sz = 2) (hi : xs[i]? = some x) (h1 : E.enc x1 = (E.enc x).set 0 u) (h2 : E.enc y = (E.enc x1).set 1 v) :
    Own E e ((w.setCell ⟨g, i * 2, none⟩ u).setCell ⟨g, i * 2 + 1, none⟩ v) base (.slice (some ⟨g, 0, none⟩) n cap) (xs.set i y) := by
  have hlt : i < xs.length := (List.getElem?_eq_some_iff.1 hi).1
  have a := h.set (j := 0) hi E.pos h1
  have b := a.set (i := i) (j := 1) (x := x1) (by rw [List.getElem?_set_self hlt]) (by omega) h2
  rw [List.set_set, hs] at b
  exact b
theorem Own.set3 (h : Own E e w base (.slice (some ⟨g, 0, none⟩) n cap) xs) (hs : E.sz = 3) (hi : xs[i]? = some x) (h1 : E.enc x1 = (E.enc x).set 0 u) (h2 : E.enc x2 = (E.enc x1).set 1 v) (h3 : E.enc y = (E.enc x2).set 2 t) :
    Own E e (((w.setCell ⟨g, i * 3, none⟩ u).setCell ⟨g, i * 3 + 1, none⟩ v).setCell ⟨g, i * 3 + 2, none⟩ t) base (.slice (some ⟨g, 0, none⟩) n cap) (xs.set i y) := by
  have hlt : i < xs.length := (List.getElem?_eq_some_iff.1 hi).1
  have a := h.set (j := 0) hi E.pos h1
  have b := a.set (i := i) (j := 1) (x := x1) (by rw [List.getElem?_set_self hlt]) (by omega) h2
  rw [List.set_set] at b
  have c := b.set (i := i) (j := 2) (x := x2) (by rw [List.getElem?_set_self hlt]) (by omega) h3
  rw [List.set_set, hs] at c
  exact c
end
/-- What is left of a number behind n more. -/
def szF (n : Nat) (left : Int) : Int := if (n : Int) ≤ left then left - n else -1
/-- A list filled from the front. -/
def Fil {α : Type} (k : Nat) (ys xs : List α) : Prop := ys.length = xs.length ∧ ∀ i (h : i < ys.length) (h' : i < xs.length), i < k → ys[i] = xs[i]
theorem Fil.step {α : Type} {k : Nat} {ys xs : List α} (h : Fil k ys xs) (hk : k < xs.length) : Fil (k + 1) (ys.set k xs[k]) xs := by
  refine ⟨by rw [List.length_set]; exact h.1, fun i hi hx hik => ?_⟩
  rw [List.length_set] at hi
  by_cases e : i = k
  · subst e; rw [List.getElem_set_self]
  · rw [List.getElem_set_ne (fun e' => e e'.symm)]; exact h.2 i hi hx (by omega)
theorem Fil.done {α : Type} {k : Nat} {ys xs : List α} (h : Fil k ys xs) (hk : xs.length ≤ k) : ys = xs :=
  List.ext_getElem h.1 fun i h1 h2 => h.2 i h1 h2 (by omega)
theorem Fil.start {α : Type} (z : α) (xs : List α) : Fil 0 (List.replicate xs.length z) xs := ⟨by simp, fun i _ _ h => by omega⟩
end Go.Proofs.Ytiodpnhokjkjaaa
