/- Words for memory: a slice that reads as a list of elements of some cells each, a slice that the call owns, and the laws that carry both from world to world. No statement of the program stands here. -/
import Derived.WalkKit
import Derived.WalkSpells
import Derived.WalkLawsBesides
import Derived.Lib.Hide
import Derived.BigQuiet
import Derived.Lib.QuietBelow
import Derived.Deep.LoopGhost
import Derived.Deep.AppendLies
import Derived.Maps.AppendAt
namespace Go.Proofs.YtonhkadbiepedaaDoor
open Go.RowKit Go.Sort

/-- Below block B the later world reads as the earlier one did. -/
theorem bcell {W w1 : World} {B : Nat} (hb : Below B W w1) : (∀ b o, b < B → w1.cell? ⟨b, o, none⟩ = W.cell? ⟨b, o, none⟩) ∧ (∀ b o, b < B → w1.frozen? ⟨b, o, none⟩ = W.frozen? ⟨b, o, none⟩) :=
  ⟨fun b o h => hb.cell (p := ⟨b, o, none⟩) h, fun b o h => hb.frozen (p := ⟨b, o, none⟩) h⟩

theorem bel_trans {a b c : World} (h : Below a.heap.size a b) (k : Below b.heap.size b c) : Below a.heap.size a c := h.trans (k.mono h.size)

theorem below_drewN {B : Nat} {a w : World} (h : Below B a w) (n : Nat) : Below B a (w.drewN n) := ⟨h.os, h.tape, h.output, h.size, h.block⟩

theorem add_off (b off j : Nat) : (⟨b, off, none⟩ : Addr).add j = ⟨b, off + j, none⟩ := by
  unfold Addr.add; split <;> simp_all

/-! ### Elements of some cells each -/

structure Enc (α : Type) where
  sz : Nat
  enc : α → List Value
  hl : ∀ x, (enc x).length = sz
  h1 : ∀ x u, u ∈ enc x → u.oneCell' = true
  pos : 0 < sz

theorem flat_len {α : Type} (E : Enc α) (xs : List α) : (xs.flatMap E.enc).length = xs.length * E.sz := by
  induction xs with
  | nil => simp
  | cons x xs ih => simp [List.flatMap_cons, E.hl, ih, Nat.add_mul]; omega

theorem flat_one {α : Type} (E : Enc α) (xs : List α) : ∀ u ∈ xs.flatMap E.enc, u.oneCell' = true := by
  intro u hu
  obtain ⟨x, _, hx⟩ := List.mem_flatMap.1 hu
  exact E.h1 x u hx

theorem flat_get {α : Type} (E : Enc α) : ∀ (xs : List α) (i j : Nat) (x : α) (v : Value), xs[i]? = some x → (E.enc x)[j]? = some v → (xs.flatMap E.enc)[i * E.sz + j]? = some v
  | [], i, j, x, v, h, _ => by simp at h
  | y :: ys, 0, j, x, v, h, hv => by
    simp at h; subst h
    have hj : j < E.sz := by rw [← E.hl y]; exact (List.getElem?_eq_some_iff.1 hv).1
    rw [List.flatMap_cons, Nat.zero_mul, Nat.zero_add, List.getElem?_append_left (by rw [E.hl]; exact hj)]
    exact hv
  | y :: ys, i + 1, j, x, v, h, hv => by
    have ih := flat_get E ys i j x v (by simpa using h) hv
    rw [List.flatMap_cons, List.getElem?_append_right (by rw [E.hl, Nat.add_mul]; omega), E.hl]
    rw [show (i + 1) * E.sz + j - E.sz = i * E.sz + j by rw [Nat.add_mul]; omega]
    exact ih

theorem flat_inv {α : Type} (E : Enc α) (xs : List α) (k : Nat) (v : Value) (h : (xs.flatMap E.enc)[k]? = some v) : ∃ x, xs[k / E.sz]? = some x ∧ (E.enc x)[k % E.sz]? = some v := by
  have hk : k < xs.length * E.sz := by rw [← flat_len E]; exact (List.getElem?_eq_some_iff.1 h).1
  have hi : k / E.sz < xs.length := Nat.div_lt_of_lt_mul (by rw [Nat.mul_comm]; exact hk)
  refine ⟨xs[k / E.sz], List.getElem?_eq_getElem hi, ?_⟩
  have hj : k % E.sz < (E.enc xs[k / E.sz]).length := by rw [E.hl]; exact Nat.mod_lt _ E.pos
  have hg := flat_get E xs (k / E.sz) (k % E.sz) _ _ (List.getElem?_eq_getElem hi) (List.getElem?_eq_getElem hj)
  rw [Nat.mul_comm, Nat.div_add_mod, h] at hg
  rw [List.getElem?_eq_getElem hj]
  exact hg.symm

/-! ### A slice that reads as a list -/

def Rd {α : Type} (E : Enc α) (w : World) (B : Nat) (A : Option Addr) (xs : List α) : Prop :=
  xs ≠ [] → ∃ b off, A = some ⟨b, off, none⟩ ∧ b < B ∧ ∀ i x, xs[i]? = some x → ∀ j v, (E.enc x)[j]? = some v → w.cell? ⟨b, off + i * E.sz + j, none⟩ = some v

section
variable {α : Type} {E : Enc α} {w w' : World} {B B' : Nat} {A : Option Addr} {xs : List α}

theorem Rd.nil : Rd E w B A [] := fun h => absurd rfl h

theorem Rd.keep (h : Rd E w B A xs) (hk : ∀ p : Addr, p.block < B → w'.cell? p = w.cell? p) : Rd E w' B A xs := fun hx => by
  obtain ⟨b, off, hA, hlt, hc⟩ := h hx
  exact ⟨b, off, hA, hlt, fun i x hi j v hj => (hk _ hlt).trans (hc i x hi j v hj)⟩

theorem Rd.below (h : Rd E w B A xs) (hb : Below B w w') : Rd E w' B A xs := h.keep fun _ hp => hb.cell hp

theorem Rd.mono (h : Rd E w B A xs) (hB : B ≤ B') : Rd E w B' A xs := fun hx => by
  obtain ⟨b, off, hA, hlt, hc⟩ := h hx
  exact ⟨b, off, hA, Nat.lt_of_lt_of_le hlt hB, hc⟩

/-- Behind a call that leaves all that was there: the world's whole heap is the new bound. -/
theorem Rd.next (h : Rd E w w.heap.size A xs) (hb : Below w.heap.size w w') : Rd E w' w'.heap.size A xs := (h.below hb).mono hb.size

theorem Rd.alloc (h : Rd E w w.heap.size A xs) (o : Obj) : Rd E (w.alloc o) (w.alloc o).heap.size A xs := h.next ((Below.refl _ _).alloc (Nat.le_refl _) o)

theorem Rd.at1 {k : Nat} (h : Rd E w B A xs) (hs : E.sz = 1) (hk : k < xs.length) {v0 : Value} (he : E.enc xs[k] = [v0]) :
    ∃ b off, A = some ⟨b, off, none⟩ ∧ b < B ∧ w.cell? ⟨b, off + k, none⟩ = some v0 := by
  obtain ⟨b, off, hA, hlt, hc⟩ := h (by intro e; simp [e] at hk)
  have h0 := hc k _ (List.getElem?_eq_getElem hk) 0 v0 (by rw [he]; rfl)
  rw [hs] at h0
  simp only [Nat.mul_one, Nat.add_zero] at h0
  exact ⟨b, off, hA, hlt, h0⟩

theorem Rd.at2 {k : Nat} (h : Rd E w B A xs) (hs : E.sz = 2) (hk : k < xs.length) {v0 v1 : Value} (he : E.enc xs[k] = [v0, v1]) :
    ∃ b off, A = some ⟨b, off, none⟩ ∧ b < B ∧ w.cell? ⟨b, off + k * 2, none⟩ = some v0 ∧ w.cell? ⟨b, off + k * 2 + 1, none⟩ = some v1 := by
  obtain ⟨b, off, hA, hlt, hc⟩ := h (by intro e; simp [e] at hk)
  have hx := List.getElem?_eq_getElem hk
  rw [hs] at hc
  exact ⟨b, off, hA, hlt, hc k _ hx 0 v0 (by rw [he]; rfl), hc k _ hx 1 v1 (by rw [he]; rfl)⟩

theorem Rd.at3 {k : Nat} (h : Rd E w B A xs) (hs : E.sz = 3) (hk : k < xs.length) {v0 v1 v2 : Value} (he : E.enc xs[k] = [v0, v1, v2]) :
    ∃ b off, A = some ⟨b, off, none⟩ ∧ b < B ∧ w.cell? ⟨b, off + k * 3, none⟩ = some v0 ∧ w.cell? ⟨b, off + k * 3 + 1, none⟩ = some v1 ∧ w.cell? ⟨b, off + k * 3 + 2, none⟩ = some v2 := by
  obtain ⟨b, off, hA, hlt, hc⟩ := h (by intro e; simp [e] at hk)
  have hx := List.getElem?_eq_getElem hk
  rw [hs] at hc
  exact ⟨b, off, hA, hlt, hc k _ hx 0 v0 (by rw [he]; rfl), hc k _ hx 1 v1 (by rw [he]; rfl), hc k _ hx 2 v2 (by rw [he]; rfl)⟩

theorem Rd.at4 {k : Nat} (h : Rd E w B A xs) (hs : E.sz = 4) (hk : k < xs.length) {v0 v1 v2 v3 : Value} (he : E.enc xs[k] = [v0, v1, v2, v3]) :
    ∃ b off, A = some ⟨b, off, none⟩ ∧ b < B ∧ w.cell? ⟨b, off + k * 4, none⟩ = some v0 ∧ w.cell? ⟨b, off + k * 4 + 1, none⟩ = some v1 ∧ w.cell? ⟨b, off + k * 4 + 2, none⟩ = some v2 ∧ w.cell? ⟨b, off + k * 4 + 3, none⟩ = some v3 := by
  obtain ⟨b, off, hA, hlt, hc⟩ := h (by intro e; simp [e] at hk)
  have hx := List.getElem?_eq_getElem hk
  rw [hs] at hc
  exact ⟨b, off, hA, hlt, hc k _ hx 0 v0 (by rw [he]; rfl), hc k _ hx 1 v1 (by rw [he]; rfl), hc k _ hx 2 v2 (by rw [he]; rfl), hc k _ hx 3 v3 (by rw [he]; rfl)⟩

/-- The first elements. -/
theorem Rd.take (h : Rd E w B A xs) (m : Nat) : Rd E w B A (xs.take m) := fun hx => by
  obtain ⟨b, off, hA, hlt, hc⟩ := h (fun e => hx (by simp [e]))
  refine ⟨b, off, hA, hlt, fun i x hi j v hj => hc i x ?_ j v hj⟩
  rw [List.getElem?_take] at hi
  split at hi
  · exact hi
  · cases hi

/-- What is left behind the first m elements, as the model cuts it. -/
theorem Rd.drop (h : Rd E w B A xs) {m cap : Nat} (hc0 : xs.length ≤ cap) : Rd E w B (if cap = m then A else A.map (·.add (m * E.sz))) (xs.drop m) := fun hx => by
  have hm : m < xs.length := by
    rcases Nat.lt_or_ge m xs.length with h' | h'
    · exact h'
    · exact absurd (List.drop_eq_nil_of_le h') hx
  obtain ⟨b, off, rfl, hlt, hc⟩ := h (by intro e; simp [e] at hm)
  rw [if_neg (by omega)]
  refine ⟨b, off + m * E.sz, ?_, hlt, fun i x hi j v hj => ?_⟩
  · simp only [Option.map_some, add_off]
  · rw [List.getElem?_drop] at hi
    have := hc (m + i) x hi j v hj
    rw [Nat.add_mul, ← Nat.add_assoc] at this
    exact this

/-- As a source of an append. -/
theorem Rd.flat {ad : Addr} (h : Rd E w B (some ad) xs) : ∀ j u, (xs.flatMap E.enc)[j]? = some u → w.cell? (ad.add j) = some u := by
  intro j u hu
  obtain ⟨x, hx, hv⟩ := flat_inv E xs j u hu
  obtain ⟨b, off, hA, _, hc⟩ := h (by intro e; simp [e] at hx)
  injection hA with hA
  subst hA
  have := hc _ x hx _ u hv
  rw [Nat.add_assoc, Nat.mul_comm, Nat.div_add_mod] at this
  rw [add_off]
  exact this

/-- A new block of cells. -/
theorem Rd.new (w : World) (t : TypeId) (cs : Array Value) (h : cs.toList = xs.flatMap E.enc) : Rd E (w.alloc (.cells cs t)) (w.alloc (.cells cs t)).heap.size (some ⟨w.heap.size, 0, none⟩) xs := fun _ => by
  refine ⟨w.heap.size, 0, rfl, by simp, fun i x hi j v hj => ?_⟩
  rw [World.cell?_alloc_new, ← Array.getElem?_toList, h, Nat.zero_add]
  exact flat_get E xs i j x v hi hj
end

/-! ### A slice that the call owns -/

/-- The slice value v is the call's own: it reads as xs; its array is a whole block from 'base' on, with room at least for its capacity (or there is none: nil, or an empty slice without room). -/
def Own {α : Type} (E : Enc α) (e : TypeId) (w : World) (base : Nat) (v : Value) (xs : List α) : Prop :=
  (xs = [] ∧ ∃ A, v = .slice A 0 0) ∨ ∃ g cap cur, v = .slice (some ⟨g, 0, none⟩) xs.length cap ∧ base ≤ g ∧ w.heap[g]? = some (.cells cur e (0, 0)) ∧ xs.length ≤ cap ∧ cap ≤ maxLen ∧ cap * E.sz ≤ cur.size ∧ cur.toList.take (xs.length * E.sz) = xs.flatMap E.enc

section
variable {α : Type} {E : Enc α} {e : TypeId} {w w' : World} {base base' : Nat} {v : Value} {xs : List α}

theorem Own.nil : Own E e w base (.slice none 0 0) ([] : List α) := .inl ⟨rfl, _, rfl⟩
theorem Own.none_ {A : Option Addr} : Own E e w base (.slice A 0 0) ([] : List α) := .inl ⟨rfl, _, rfl⟩

theorem Own.of_row (h : w.ownsRow base e E.sz v xs.length (xs.flatMap E.enc)) : Own E e w base v xs := by
  rcases h.2 with ⟨rfl, hn⟩ | ⟨g, cap, cur, hv, hb, hg, hn, hm, hs, ht⟩
  · exact .inl ⟨List.eq_nil_of_length_eq_zero hn, _, rfl⟩
  · exact .inr ⟨g, cap, cur, hv, hb, hg, hn, hm, by omega, ht⟩

theorem Own.form (h : Own E e w base v xs) : ∃ A c, v = .slice A xs.length c ∧ xs.length ≤ c ∧ (xs ≠ [] → ∃ g, A = some ⟨g, 0, none⟩ ∧ base ≤ g ∧ g < w.heap.size) := by
  rcases h with ⟨rfl, A, rfl⟩ | ⟨g, cap, cur, hv, hb, hg, hn, _⟩
  · exact ⟨A, 0, rfl, by simp, fun hx => absurd rfl hx⟩
  · exact ⟨_, cap, hv, hn, fun _ => ⟨g, rfl, hb, (Array.getElem?_eq_some_iff.1 hg).1⟩⟩

/-- A cell of the block of a slice that is owned. -/
theorem own_cell {g : Nat} {cur : Array Value} (hg : w.heap[g]? = some (.cells cur e (0, 0))) (ht : cur.toList.take (xs.length * E.sz) = xs.flatMap E.enc) {i j : Nat} {x : α} {u : Value} (hi : xs[i]? = some x) (hj : (E.enc x)[j]? = some u) : w.cell? ⟨g, i * E.sz + j, none⟩ = some u := by
  have := flat_get E xs i j x u hi hj
  rw [cell_of_row w g _ cur e (0, 0) hg]
  rw [← ht, List.getElem?_take] at this
  split at this
  · simpa using this
  · cases this

theorem Own.rd {A : Option Addr} {n c : Nat} (h : Own E e w base (.slice A n c) xs) : Rd E w w.heap.size A xs := fun hx => by
  rcases h with ⟨rfl, _⟩ | ⟨g, cap, cur, hv, hb, hg, hn, hm, hs, ht⟩
  · exact absurd rfl hx
  · injection hv with hA
    subst hA
    refine ⟨g, 0, rfl, (Array.getElem?_eq_some_iff.1 hg).1, fun i x hi j u hj => ?_⟩
    rw [Nat.zero_add]
    exact own_cell hg ht hi hj

theorem Own.more (h : Own E e w base v xs) (hb : base' ≤ base) : Own E e w base' v xs := by
  rcases h with h | ⟨g, cap, cur, hv, hbg, rest⟩
  · exact .inl h
  · exact .inr ⟨g, cap, cur, hv, Nat.le_trans hb hbg, rest⟩

/-- Whatever is written elsewhere. -/
theorem Own.keptAt {row : Option Nat} (h : Own E e w base v xs) (hg : w.grownBy w' row) (hne : ∀ k, row = some k → v.ownBlock ≠ some k) : Own E e w' base v xs := by
  rcases h with h | ⟨g, cap, cur, hv, hbg, hh, rest⟩
  · exact .inl h
  · refine .inr ⟨g, cap, cur, hv, hbg, (hg.block g (Array.getElem?_eq_some_iff.1 hh).1 (fun e => ?_)).trans hh, rest⟩
    exact hne g e.symm (by rw [hv]; rfl)

theorem Own.kept {row : Option Nat} (h : Own E e w base v xs) (hg : w.grownBy w' row) (hne : ∀ k, row = some k → k < base) : Own E e w' base v xs := by
  rcases h with h | ⟨g, cap, cur, hv, hbg, hh, rest⟩
  · exact .inl h
  · refine .inr ⟨g, cap, cur, hv, hbg, (hg.block g (Array.getElem?_eq_some_iff.1 hh).1 (fun e => ?_)).trans hh, rest⟩
    have := hne g e.symm
    omega

/-- A block of another element type is written. -/
theorem Own.keptOther {row : Option Nat} (h : Own E e w base v xs) (hg : w.grownBy w' row) (hr : ∀ k, row = some k → k < base ∨ ∃ cur t fr, w.heap[k]? = some (.cells cur t fr) ∧ t ≠ e) : Own E e w' base v xs := by
  rcases h with h | ⟨g, cap, cur, hv, hbg, hh, rest⟩
  · exact .inl h
  · refine .inr ⟨g, cap, cur, hv, hbg, (hg.block g (Array.getElem?_eq_some_iff.1 hh).1 (fun e => ?_)).trans hh, rest⟩
    rcases hr g e.symm with h | ⟨cur', t, fr, h1, h2⟩
    · omega
    · rw [hh] at h1
      injection h1 with h1
      injection h1 with _ h3
      exact h2 h3.symm

/-- The block of an owned slice that is not empty. -/
theorem Own.blk {g n cap : Nat} (h : Own E e w base (.slice (some ⟨g, 0, none⟩) n cap) xs) (hx : xs ≠ []) : base ≤ g ∧ ∃ cur, w.heap[g]? = some (.cells cur e (0, 0)) := by
  rcases h with ⟨rfl, _⟩ | ⟨g', cap', cur, hv, hbg, hh, _⟩
  · exact absurd rfl hx
  · injection hv with hA
    injection hA with hA
    injection hA with hA
    subst hA
    exact ⟨hbg, cur, hh⟩

/-- Without spare room. -/
theorem Own.clip {A : Option Addr} {c : Nat} (h : Own E e w base (.slice A xs.length c) xs) : Own E e w base (.slice A xs.length xs.length) xs := by
  rcases h with ⟨rfl, A', hv⟩ | ⟨g, cap, cur, hv, hbg, hh, h1, h2, h3, h4⟩
  · exact .inl ⟨rfl, A, rfl⟩
  · injection hv with hA _ hc
    subst hA; subst hc
    exact .inr ⟨g, xs.length, cur, rfl, hbg, hh, Nat.le_refl _, Nat.le_trans h1 h2, Nat.le_trans (Nat.mul_le_mul_right _ h1) h3, h4⟩

theorem grownBy_of_below (h : Below w.heap.size w w') (row : Option Nat) : w.grownBy w' row := ⟨h.os, h.tape, h.output, h.size, fun i hi _ => h.block i hi⟩

theorem Own.next (h : Own E e w base v xs) (hb : Below w.heap.size w w') : Own E e w' base v xs := h.kept (grownBy_of_below hb none) (fun _ h => by cases h)
theorem Own.alloc (h : Own E e w base v xs) (o : Obj) : Own E e (w.alloc o) base v xs := h.next ((Below.refl _ _).alloc (Nat.le_refl _) o)
theorem Own.drew (h : Own E e w base v xs) : Own E e w.drew base v xs := h
theorem Own.drewN (h : Own E e w base v xs) (n : Nat) : Own E e (w.drewN n) base v xs := h

/-- A literal: a new block. -/
theorem Own.lit (w : World) (e : TypeId) (cs : Array Value) (hb : base ≤ w.heap.size) (hm : xs.length ≤ 1073741824) (h : cs.toList = xs.flatMap E.enc) : Own E e (w.alloc (.cells cs e)) base (.slice (some ⟨w.heap.size, 0, none⟩) xs.length xs.length) xs := by
  have hl : cs.size = xs.length * E.sz := by rw [← Array.length_toList, h, flat_len]
  refine .inr ⟨w.heap.size, xs.length, cs, rfl, hb, heap_alloc_new w _, Nat.le_refl _, by unfold maxLen; omega, by omega, ?_⟩
  rw [h, ← flat_len]
  exact List.take_of_length_le (Nat.le_refl _)

/-- The cells of one element, changed. -/
theorem flat_set (E : Enc α) : ∀ (xs : List α) (i j : Nat) (x y : α) (u : Value), xs[i]? = some x → j < E.sz → E.enc y = (E.enc x).set j u → (xs.flatMap E.enc).set (i * E.sz + j) u = (xs.set i y).flatMap E.enc
  | [], i, j, x, y, u, h, _, _ => by simp at h
  | z :: zs, 0, j, x, y, u, h, hj, he => by
    simp at h; subst h
    rw [List.flatMap_cons, Nat.zero_mul, Nat.zero_add, List.set_append_left _ _ (by rw [E.hl]; exact hj), List.set_cons_zero, List.flatMap_cons, he]
  | z :: zs, i + 1, j, x, y, u, h, hj, he => by
    have ih := flat_set E zs i j x y u (by simpa using h) hj he
    rw [List.flatMap_cons, List.set_append_right _ _ (by rw [E.hl, Nat.add_mul]; omega), E.hl, show (i + 1) * E.sz + j - E.sz = i * E.sz + j by rw [Nat.add_mul]; omega, ih, List.set_cons_succ, List.flatMap_cons]

/-- One cell of element i is written: the element is y then. -/
theorem Own.set {g n cap i j : Nat} {x y : α} {u : Value} (h : Own E e w base (.slice (some ⟨g, 0, none⟩) n cap) xs) (hi : xs[i]? = some x) (hj : j < E.sz) (he : E.enc y = (E.enc x).set j u) :
    Own E e (w.setCell ⟨g, i * E.sz + j, none⟩ u) base (.slice (some ⟨g, 0, none⟩) n cap) (xs.set i y) := by
  rcases h with ⟨rfl, _⟩ | ⟨g', cap', cur, hv, hbg, hh, h1, h2, h3, h4⟩
  · simp at hi
  · injection hv with hA hn hc
    injection hA with hA
    injection hA with hA
    subst hA; subst hn; subst hc
    have hlt : i < xs.length := (List.getElem?_eq_some_iff.1 hi).1
    refine .inr ⟨g, cap, cur.setIfInBounds (i * E.sz + j) u, by rw [List.length_set], hbg, heap_setCell_same w g _ cur e u hh, by rw [List.length_set]; exact h1, h2, by simpa using h3, ?_⟩
    rw [List.length_set, Array.toList_setIfInBounds, List.take_set, h4]
    exact flat_set E xs i j x y u hi hj he

/-- Where a cell of an owned slice may be written. -/
theorem Own.frozen {g n cap o : Nat} (h : Own E e w base (.slice (some ⟨g, 0, none⟩) n cap) xs) (hx : xs ≠ []) : w.frozen? ⟨g, o, none⟩ = false := by
  rcases h with ⟨rfl, _⟩ | ⟨g', cap', cur, hv, hbg, hh, _⟩
  · exact absurd rfl hx
  · injection hv with hA
    injection hA with hA
    injection hA with hA
    subst hA
    exact frozen_of_row w g o cur e hh
end

/-! ### The laws of append, for any element type -/

/-- What is asked of the element type in the program's table. -/
structure EI {α : Type} (P : Program) (t e : TypeId) (E : Enc α) : Prop where
  ht : P.underlying t = some (.slice e)
  info : ∃ i z, P.info? e = some i ∧ i.zero = some z ∧ i.size = E.sz ∧ i.bytes ≤ 64 ∧ z.cells.size = E.sz

theorem EI.mk' {α : Type} {P : Program} {t e : TypeId} {E : Enc α} {z : Value} {n : Nat} (ht : P.underlying t = some (.slice e)) (h : (P.info? e).map (fun i => (i.zero, i.size, i.bytes)) = some (some z, E.sz, n)) (hn : n ≤ 64) (hz : z.cells.size = E.sz) : EI P t e E := by
  obtain ⟨i, h1, h2, h3, h4⟩ := info_parts h
  exact ⟨ht, i, z, h1, h2, h3, by omega, hz⟩

section
variable {P : Program} {α : Type} {E : Enc α} {t e : TypeId}

theorem run_append_E (w : World) (I : EI P t e E) (ty : TypeId) (base : Nat) (v : Value) (xs ys : List α) (hown : Own E e w base v xs)
    (A : Option Addr) (c B : Nat) (hr : Rd E w B A ys) (hroom : xs.length + ys.length ≤ 1073741824) (hbase : base ≤ w.heap.size) :
    ∃ v' w' row, (Builtin.append_ #[t, t] ty #[v, .slice A ys.length c]).run P w = .ok v' w' ∧ Own E e w' base v' (xs ++ ys) ∧ w.grownBy w' row ∧ (∀ k, row = some k → base ≤ k ∧ v.ownBlock = some k ∧ ∃ cur, w.heap[k]? = some (.cells cur e (0, 0))) := by
  obtain ⟨i, z, hi, hz, hsz, hby, hzs⟩ := I.info
  have hE := E.pos
  by_cases hy : ys = []
  · subst hy
    refine ⟨v, w, none, ?_, by simpa using hown, World.grownBy.refl w _, fun _ h => by cases h⟩
    rcases hown with ⟨rfl, A', rfl⟩ | ⟨g, cap, cur, rfl, _, _, hnc, _⟩
    rotate_left
    · cases A <;> simp [Builtin.append_, run_underlying I.ht, sizeOf, typeInfo, hi, Builtin.lenOf, Builtin.firstCells, hnc, storeCells, loadCells, loadCellsFrom]
    · cases A <;> cases A' <;> simp [Builtin.append_, run_underlying I.ht, sizeOf, typeInfo, hi, Builtin.lenOf, Builtin.firstCells, storeCells, loadCells, loadCellsFrom]
  · have hAs : ∃ ad, A = some ad := by
      obtain ⟨b, off, hA, _⟩ := hr hy
      exact ⟨_, hA⟩
    obtain ⟨ad, rfl⟩ := hAs
    have hm : 0 < ys.length := List.length_pos_iff.2 hy
    have hbig : (xs.length + ys.length) * i.bytes ≤ 140737488355328 := Nat.le_trans (Nat.mul_le_mul hroom hby) (by decide)
    have grow : ∀ (b : Addr) (sCap : Nat), sCap < xs.length + ys.length → (∀ j v, (xs.flatMap E.enc)[j]? = some v → w.cell? (b.add j) = some v) → ∃ v' w' row, (Builtin.append_ #[t, t] ty #[.slice (some b) xs.length sCap, .slice (some ad) ys.length c]).run P w = .ok v' w' ∧ Own E e w' base v' (xs ++ ys) ∧ w.grownBy w' row ∧ (∀ k, row = some k → base ≤ k ∧ (Value.slice (some b) xs.length sCap).ownBlock = some k ∧ ∃ cur, w.heap[k]? = some (.cells cur e (0, 0))) := by
      intro b sCap hcap hold
      have hrun := run_append_grow (P := P) w t ty e i z I.ht hi hz b xs.length sCap (xs.flatMap E.enc) (by rw [hsz]; exact flat_len E xs) hold ad ys.length c (ys.flatMap E.enc) (by rw [hsz]; exact flat_len E ys) hr.flat hcap (by omega) (growslice_fits (by omega) hbig)
      refine ⟨_, _, none, hrun, .inr ⟨w.heap.size, grownCap w (xs.length + ys.length) sCap e, _, ?_, hbase, heap_alloc_new w.drew _, ?_, ?_, ?_, ?_⟩, grownBy_of_below (((Below.refl _ _).drew).alloc (Nat.le_refl _) _) none, fun _ h => by cases h⟩
      · rw [List.length_append]
      · rw [List.length_append]; exact grownCap_ge w _ sCap e
      · exact grownCap_le_maxLen w _ sCap e (by unfold maxLen; omega)
      · have hge := grownCap_ge w (xs.length + ys.length) sCap e
        simp only [Array.size_append, List.size_toArray, size_zeroCells, hzs, flat_len]
        rw [← Nat.add_mul, ← Nat.add_mul]
        exact Nat.mul_le_mul_right _ (by omega)
      · simp only [Array.toList_append]
        rw [← flat_len, List.flatMap_append]
        exact List.take_left
    rcases hown with ⟨rfl, A', rfl⟩ | ⟨g, cap, cur, rfl, hbg, hg, hnc, hcm, hcs, htake⟩
    · rcases A' with _ | b
      · obtain ⟨v', w', hrun, h2, h3, _⟩ := run_append_own (P := P) w base t ty e i z E.sz i.bytes I.ht hi hz hsz rfl hzs hE (.slice none 0 0) 0 [] (World.ownsRow_nil w base e E.sz) ad ys.length c (ys.flatMap E.enc) (flat_len E ys) hr.flat (flat_one E ys)
          (by unfold maxLen; simp only [List.length_nil, Nat.zero_add] at hroom; omega) (by simp only [List.length_nil, Nat.zero_add] at hbig ⊢; exact hbig) hbase
        refine ⟨v', w', none, hrun, Own.of_row ?_, h3, fun _ h => by cases h⟩
        simpa using h2
      · exact grow b 0 (by simp only [List.length_nil]; omega) (fun j v h => by simp at h)
    · by_cases hroom2 : xs.length + ys.length ≤ cap
      · have hfit : xs.length * i.size + (ys.flatMap E.enc).length ≤ cur.size := by
          rw [flat_len, hsz, ← Nat.add_mul]
          exact Nat.le_trans (Nat.mul_le_mul_right _ hroom2) hcs
        have hrun := run_append_room (P := P) w t ty e i I.ht hi g xs.length cap cur hg ad ys.length c (ys.flatMap E.enc) (by rw [hsz]; exact flat_len E ys) hr.flat (flat_one E ys) hroom2 hfit
        refine ⟨_, _, some g, hrun, .inr ⟨g, cap, _, by rw [List.length_append], hbg, setRow_heap w g cur _ e _ hg, by rw [List.length_append]; exact hroom2, hcm, ?_, ?_⟩, ⟨rfl, rfl, rfl, by simp, fun k _ hk => setRow_other w g k _ (fun e => hk (by rw [e]))⟩, fun k hk => by injection hk with hk; subst hk; exact ⟨hbg, rfl, cur, hg⟩⟩
        · simp only [List.size_toArray, List.length_append, List.length_take, List.length_drop, Array.length_toList]
          omega
        · rw [hsz, htake, List.length_append, List.flatMap_append, Nat.add_mul, ← flat_len E xs, ← flat_len E ys, ← List.length_append]
          exact List.take_left
      · refine grow ⟨g, 0, none⟩ cap (by omega) (fun j v h => ?_)
        obtain ⟨x, hx, hv⟩ := flat_inv E xs j v h
        have := own_cell hg htake hx hv
        rw [Nat.mul_comm, Nat.div_add_mod] at this
        rw [add_off, Nat.zero_add]
        exact this

theorem wpList_app {ops : Array Oper} {rest : List Oper} {o : Oper} {a : Act} {Q : Exit → Act → World → Prop} (w : World) (I : EI P t e E) (hgd : o.guard = none) (s x : Operand)
    (ho : o.op = .call { callee := .builtin .append, args := #[s, x], argTypes := #[t, t] })
    (base : Nat) {v : Value} {xs ys : List α} {n c : Nat} {A : Option Addr} {B : Nat} (hown : Own E e w base v xs) (hr : Rd E w B A ys) (hn : n = ys.length) (hs : a.eval s = v) (hx : a.eval x = .slice A n c)
    (hroom : xs.length + ys.length ≤ 1073741824) (hbase : base ≤ w.heap.size)
    (h : ∀ v' w' row, Own E e w' base v' (xs ++ ys) → w.grownBy w' row → (∀ k, row = some k → base ≤ k ∧ v.ownBlock = some k ∧ ∃ cur, w.heap[k]? = some (.cells cur e (0, 0))) → wpList P ops Q rest (a.put o.dst v') w') : wpList P ops Q (o :: rest) a w := by
  subst hn
  obtain ⟨v', w', row, hrun, h2, h3, h4⟩ := run_append_E (P := P) w I o.type base v xs ys hown A c B hr hroom hbase
  refine wpList_plain hgd fun K hK => ?_
  unfold Oper.wp execOp
  simp only [ho, resolve, invoke, builtin, Sem.run_bind, Sem.run_pure, Result.andThen_ok, List.map_toArray, List.map_cons, List.map_nil, hs, hx, hrun]
  exact hK _ _ (h v' w' row h2 h3 h4)
end

/-- A new slice of zero values. -/
theorem made_flat {α : Type} (E : Enc α) (z : Array Value) (zx : α) (hz : z.toList = E.enc zx) (n : Nat) : (madeCells z (n * E.sz)).toList = (List.replicate n zx).flatMap E.enc := by
  have hzs : z.size = E.sz := by rw [← Array.length_toList, hz, E.hl]
  apply List.ext_getElem?
  intro j
  by_cases hj : j < n * E.sz
  · have hj' : j < ((List.replicate n zx).flatMap E.enc).length := by rw [flat_len]; simpa using hj
    have hm : j % E.sz < (E.enc zx).length := by rw [E.hl]; exact Nat.mod_lt _ E.pos
    obtain ⟨x, hx, hv⟩ := flat_inv E _ j _ (List.getElem?_eq_getElem hj')
    rw [List.getElem?_eq_getElem hj', ← hv]
    have hxx : x = zx := by
      rw [List.getElem?_replicate] at hx
      split at hx
      · injection hx with hx; exact hx.symm
      · cases hx
    subst hxx
    rw [List.getElem?_eq_getElem hm, Array.getElem?_toList]
    have hz2 : z[j % E.sz]? = some (E.enc x)[j % E.sz] := by rw [← Array.getElem?_toList, hz, List.getElem?_eq_getElem hm]
    simp only [madeCells, hzs, Array.getElem?_map]
    rw [Array.getElem?_range, if_pos hj]
    simp only [Option.map_some]
    rw [Array.getElem!_eq_getD, Array.getD_eq_getD_getElem?, hz2]
    rfl
  · rw [List.getElem?_eq_none (l := (List.replicate n zx).flatMap E.enc) (by rw [flat_len, List.length_replicate]; omega), List.getElem?_eq_none (by rw [Array.length_toList, size_madeCells]; omega)]

theorem wpList_mkE {P : Program} {α : Type} {E : Enc α} {t e : TypeId} (w : World) {ops : Array Oper} {rest : List Oper} {o : Oper} {a : Act} {Q : Exit → Act → World → Prop} {z : Value}
    (ht : P.underlying t = some (.slice e)) {m : Nat} (hi : (P.info? e).map (fun i => (i.zero, i.size, i.bytes)) = some (some z, E.sz, m)) (hm : m ≤ 64) (zx : α) (hz : z.cells.toList = E.enc zx)
    (hg : o.guard = none) (l c : Operand) (hop : o.op = Op.makeSlice t l c) (base : Nat) (L C : Int) (n : Nat) (hl : a.eval l = .int .i64 L) (hc : a.eval c = .int .i64 C) (hL : L = (n : Int)) (hC : C = (n : Int)) (hn : n ≤ 1073741824) (hb : base ≤ w.heap.size)
    (hK : ∀ w', Own E e w' base (.slice (some ⟨w.heap.size, 0, none⟩) n n) (List.replicate n zx) → Below w.heap.size w w' → wpList P ops Q rest (a.put o.dst (.slice (some ⟨w.heap.size, 0, none⟩) n n)) w') : wpList P ops Q (o :: rest) a w := by
  obtain ⟨i, h1, h2, h3, h4⟩ := info_parts hi
  refine wpList_make_full w hg l c t hop base e i z E.sz ht h1 h2 h3 .i64 .i64 L C n hl hc hL hC ?_ (by unfold maxLen; omega) hb ?_
  · rw [h4]
    exact Nat.le_trans (Nat.mul_le_mul hm hn) (by decide)
  · intro w' hown hgr
    refine hK w' ?_ ⟨hgr.os, hgr.tape, hgr.output, hgr.size, fun k hk => hgr.block k hk (by simp)⟩
    rw [made_flat E z.cells zx hz n] at hown
    have hq : w'.ownsRow base e E.sz (.slice (some ⟨w.heap.size, 0, none⟩) n n) (List.replicate n zx).length ((List.replicate n zx).flatMap E.enc) := by simpa using hown
    exact Own.of_row hq

/-- A contract that leaves the world alone, met inside a region that only reads. -/
theorem quiet_left {P : Program} {f : FuncId} {args : Array Value} {w : World} {n : Nat} {v : Value}
    (h : Calls P f args (w.drewN n) fun e w' => e = .returned v ∧ w.drewN n = w') : Calls P f args (w.drewN n) fun e w'' => e = .returned v ∧ ∃ m, w'' = w.drewN m :=
  h.mono fun _ _ ⟨he, hm⟩ => ⟨he, n, hm.symm⟩

/-- A contract in every world that only grew behind W: for a region that draws its order. -/
def QCall (P : Program) (f : FuncId) (args : Array Value) (W : World) (v : Value) : Prop :=
  ∀ (d : Nat) (os : Array Obj), Calls P f args (grow (redrawn W d) os) fun e w'' => e = .returned v ∧ ∃ p : Regrown, w'' = grow (redrawn W p.d) p.os
theorem QCall.of {P : Program} {f : FuncId} {args : Array Value} {W : World} {v : Value} (h : ∀ W', Below W.heap.size W W' → Calls P f args W' fun e w'' => e = .returned v ∧ Below W'.heap.size W' w'') : QCall P f args W v :=
  fun d os => Calls.regrown_of (h _ (below_regrown W d os))
theorem QCall.same {P : Program} {f : FuncId} {args : Array Value} {W : World} {v : Value} (h : ∀ W', Calls P f args W' fun e w'' => e = .returned v ∧ W' = w'') : QCall P f args W v :=
  QCall.of fun W' _ => (h W').mono fun e w'' ⟨he, hw⟩ => ⟨he, by subst hw; exact Below.refl _ _⟩
theorem below_of_regrown {W w' : World} (h : ∃ p : Regrown, w' = grow (redrawn W p.d) p.os) : Below W.heap.size W w' := by obtain ⟨p, rfl⟩ := h; exact below_regrown _ _ _

/-- A function value of a function with a body is entered. -/
theorem enters_fn {P : Program} {f : FuncId} {fn : Func} {c : Code} (hf : P.funcs[f]? = some fn) (hn : (fn.name == "runtime.NumGoroutine") = false) (hb : fn.body = some c) : ∀ (args : Array Value) (w : World), (callFunc f args).run P w = .ok (.enter f args) w := by
  intro args w
  have h1 : fn.name ≠ "runtime.NumGoroutine" := by simpa using hn
  simp [callFunc, hf, h1, hb, mark]

/-- Making a function value. -/
theorem run_makeFunc (P : Program) (fn : Fn) (first cap : Array Value) (w : World) : (Instr.makeFunc fn first cap).run P w = .ok (.func fn first cap) w := rfl

/-- Only block g, and what is new, has turned. -/
theorem below_of_row {w w' : World} {row : Option Nat} {base : Nat} (hg : w.grownBy w' row) (hr : ∀ k, row = some k → base ≤ k) (hb : base ≤ w.heap.size) : Below base w w' :=
  (Below.refl _ _).grown hg hb hr
end Go.Proofs.YtonhkadbiepedaaDoor
