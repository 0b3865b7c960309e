/- Words for boxes: blocks of one, two or three cells that are known whole, and what becomes of them. No statement of the program stands here. -/
import Derived.Test.YtonhkadbiepedaaDoorData
namespace Go.Proofs.YtonhkadbiepedaaDoor
open Go.RowKit Go.Sort

theorem blkc {w w' : World} {b : Nat} {o : Obj} (h : w.heap[b]? = some o) (hb : Below w.heap.size w w') : w'.heap[b]? = some o :=
  (hb.block b (Array.getElem?_eq_some_iff.1 h).1).trans h
theorem blkn {w w' : World} {b base : Nat} {o : Obj} (h : w.heap[b]? = some o) (hb : Below base w w') (hlt : b < base) : w'.heap[b]? = some o :=
  (hb.block b hlt).trans h
theorem cell1 {w : World} {b : Nat} {v : Value} {T : TypeId} (h : w.heap[b]? = some (.cells #[v] T (0, 0))) : w.cell? ⟨b, 0, none⟩ = some v ∧ w.frozen? ⟨b, 0, none⟩ = false ∧ b < w.heap.size :=
  ⟨by rw [cell_of_row w b 0 _ _ _ h]; rfl, frozen_of_row w b 0 _ _ h, (Array.getElem?_eq_some_iff.1 h).1⟩
theorem set1 {w : World} {b : Nat} {v u : Value} {T : TypeId} (h : w.heap[b]? = some (.cells #[v] T (0, 0))) : (w.setCell ⟨b, 0, none⟩ u).heap[b]? = some (.cells #[u] T (0, 0)) := by
  rw [heap_setCell_same w b 0 _ _ _ h]; rfl

theorem gtrans {a b c : World} {row : Option Nat} (h : a.grownBy b row) (k : b.grownBy c row) : a.grownBy c row :=
  ⟨k.os.trans h.os, k.tape.trans h.tape, k.output.trans h.output, Nat.le_trans h.size k.size, fun i hi hne => (k.block i (Nat.lt_of_lt_of_le hi h.size) hne).trans (h.block i hi hne)⟩
theorem gset {w : World} {g : Nat} (o : Nat) (u : Value) : w.grownBy (w.setCell ⟨g, o, none⟩ u) (some g) :=
  ⟨rfl, rfl, rfl, by simp, fun k _ hk => Below.heap_setCell w _ _ _ (fun e => hk (by rw [e]))⟩
theorem gblk {a b : World} {row : Option Nat} {k : Nat} {o : Obj} (h : a.grownBy b row) (hk : a.heap[k]? = some o) (hne : some k ≠ row) : b.heap[k]? = some o :=
  (h.block k (Array.getElem?_eq_some_iff.1 hk).1 hne).trans hk
theorem gbel {B : Nat} {a b c : World} {g : Nat} (h : Below B a b) (hg : b.grownBy c (some g)) (hB : B ≤ g) (hb : B ≤ b.heap.size) : Below B a c :=
  h.trans ((Below.refl _ _).grown hg hb (fun k hk => by cases hk; exact hB))
theorem res1 {w : World} {b : Nat} {x : Value} {T : TypeId} (h : w.heap[b]? = some (.cells #[x] T (0, 0))) (v : Value) : (w.setCell ⟨b, 0, none⟩ v).cell? ⟨b, 0, none⟩ = some v := (cell1 (set1 (u := v) h)).1


/-! ### Boxes of two and of three cells -/

theorem cell2 {w : World} {b : Nat} {x y : Value} {T : TypeId} (h : w.heap[b]? = some (.cells #[x, y] T (0, 0))) : w.cell? ⟨b, 0, none⟩ = some x ∧ w.cell? ⟨b, 1, none⟩ = some y ∧ w.frozen? ⟨b, 0, none⟩ = false ∧ w.frozen? ⟨b, 1, none⟩ = false ∧ b < w.heap.size :=
  ⟨by rw [cell_of_row w b 0 _ _ _ h]; rfl, by rw [cell_of_row w b 1 _ _ _ h]; rfl, frozen_of_row w b 0 _ _ h, frozen_of_row w b 1 _ _ h, (Array.getElem?_eq_some_iff.1 h).1⟩
theorem set2a {w : World} {b : Nat} {x y u : Value} {T : TypeId} (h : w.heap[b]? = some (.cells #[x, y] T (0, 0))) : (w.setCell ⟨b, 0, none⟩ u).heap[b]? = some (.cells #[u, y] T (0, 0)) := by
  rw [heap_setCell_same w b 0 _ _ _ h]; rfl
theorem set2b {w : World} {b : Nat} {x y u : Value} {T : TypeId} (h : w.heap[b]? = some (.cells #[x, y] T (0, 0))) : (w.setCell ⟨b, 1, none⟩ u).heap[b]? = some (.cells #[x, u] T (0, 0)) := by
  rw [heap_setCell_same w b 1 _ _ _ h]; rfl
theorem set2 {w : World} {b : Nat} {x y u v : Value} {T : TypeId} (h : w.heap[b]? = some (.cells #[x, y] T (0, 0))) : ((w.setCell ⟨b, 0, none⟩ u).setCell ⟨b, 1, none⟩ v).heap[b]? = some (.cells #[u, v] T (0, 0)) := set2b (set2a h)
theorem res2 {w : World} {b : Nat} {x y : Value} {T : TypeId} (h : w.heap[b]? = some (.cells #[x, y] T (0, 0))) (u v : Value) : (w.setCell ⟨b, 0, none⟩ u).cell? ⟨b, 0, none⟩ = some u ∧ ((w.setCell ⟨b, 0, none⟩ u).setCell ⟨b, 1, none⟩ v).cell? ⟨b, 1, none⟩ = some v :=
  ⟨(cell2 (set2a (u := u) h)).1, (cell2 (set2 (u := u) (v := v) h)).2.1⟩
theorem blko {w : World} {b : Nat} {o : Obj} {p : Addr} (h : w.heap[b]? = some o) (u : Value) (hne : b ≠ p.block) : (w.setCell p u).heap[b]? = some o := (Below.heap_setCell w p u b hne).trans h
theorem bset2 {B : Nat} {a w : World} {b : Nat} (h : Below B a w) (hB : B ≤ b) (u v : Value) : Below B a ((w.setCell ⟨b, 0, none⟩ u).setCell ⟨b, 1, none⟩ v) := (h.setCell (p := ⟨b, 0, none⟩) hB u).setCell (p := ⟨b, 1, none⟩) hB v
theorem gset2 {w : World} {g : Nat} (u v : Value) : w.grownBy ((w.setCell ⟨g, 0, none⟩ u).setCell ⟨g, 1, none⟩ v) (some g) := gtrans (gset 0 u) (gset 1 v)

theorem cell3 {w : World} {b : Nat} {x y z : Value} {T : TypeId} (h : w.heap[b]? = some (.cells #[x, y, z] T (0, 0))) : w.cell? ⟨b, 0, none⟩ = some x ∧ w.cell? ⟨b, 1, none⟩ = some y ∧ w.cell? ⟨b, 2, none⟩ = some z ∧ w.frozen? ⟨b, 0, none⟩ = false ∧ w.frozen? ⟨b, 1, none⟩ = false ∧ w.frozen? ⟨b, 2, none⟩ = false ∧ b < w.heap.size :=
  ⟨by rw [cell_of_row w b 0 _ _ _ h]; rfl, by rw [cell_of_row w b 1 _ _ _ h]; rfl, by rw [cell_of_row w b 2 _ _ _ h]; rfl, frozen_of_row w b 0 _ _ h, frozen_of_row w b 1 _ _ h, frozen_of_row w b 2 _ _ h, (Array.getElem?_eq_some_iff.1 h).1⟩
theorem set3a {w : World} {b : Nat} {x y z u : Value} {T : TypeId} (h : w.heap[b]? = some (.cells #[x, y, z] T (0, 0))) : (w.setCell ⟨b, 0, none⟩ u).heap[b]? = some (.cells #[u, y, z] T (0, 0)) := by
  rw [heap_setCell_same w b 0 _ _ _ h]; rfl
theorem set3b {w : World} {b : Nat} {x y z u : Value} {T : TypeId} (h : w.heap[b]? = some (.cells #[x, y, z] T (0, 0))) : (w.setCell ⟨b, 1, none⟩ u).heap[b]? = some (.cells #[x, u, z] T (0, 0)) := by
  rw [heap_setCell_same w b 1 _ _ _ h]; rfl
theorem set3c {w : World} {b : Nat} {x y z u : Value} {T : TypeId} (h : w.heap[b]? = some (.cells #[x, y, z] T (0, 0))) : (w.setCell ⟨b, 2, none⟩ u).heap[b]? = some (.cells #[x, y, u] T (0, 0)) := by
  rw [heap_setCell_same w b 2 _ _ _ h]; rfl
theorem set3 {w : World} {b : Nat} {x y z u v t : Value} {T : TypeId} (h : w.heap[b]? = some (.cells #[x, y, z] T (0, 0))) : (((w.setCell ⟨b, 0, none⟩ u).setCell ⟨b, 1, none⟩ v).setCell ⟨b, 2, none⟩ t).heap[b]? = some (.cells #[u, v, t] T (0, 0)) := set3c (set3b (set3a h))
theorem res3 {w : World} {b : Nat} {x y z : Value} {T : TypeId} (h : w.heap[b]? = some (.cells #[x, y, z] T (0, 0))) (u v t : Value) : (w.setCell ⟨b, 0, none⟩ u).cell? ⟨b, 0, none⟩ = some u ∧ ((w.setCell ⟨b, 0, none⟩ u).setCell ⟨b, 1, none⟩ v).cell? ⟨b, 1, none⟩ = some v ∧ (((w.setCell ⟨b, 0, none⟩ u).setCell ⟨b, 1, none⟩ v).setCell ⟨b, 2, none⟩ t).cell? ⟨b, 2, none⟩ = some t :=
  ⟨(cell3 (set3a (u := u) h)).1, (cell3 (set3b (u := v) (set3a (u := u) h))).2.1, (cell3 (set3 (u := u) (v := v) (t := t) h)).2.2.1⟩
theorem bset3 {B : Nat} {a w : World} {b : Nat} (h : Below B a w) (hB : B ≤ b) (u v t : Value) : Below B a (((w.setCell ⟨b, 0, none⟩ u).setCell ⟨b, 1, none⟩ v).setCell ⟨b, 2, none⟩ t) := ((h.setCell (p := ⟨b, 0, none⟩) hB u).setCell (p := ⟨b, 1, none⟩) hB v).setCell (p := ⟨b, 2, none⟩) hB t
theorem gset3 {w : World} {g : Nat} (u v t : Value) : w.grownBy (((w.setCell ⟨g, 0, none⟩ u).setCell ⟨g, 1, none⟩ v).setCell ⟨g, 2, none⟩ t) (some g) := gtrans (gtrans (gset 0 u) (gset 1 v)) (gset 2 t)
theorem balloc {B : Nat} {a w : World} (h : Below B a w) (hB : B ≤ w.heap.size) (o : Obj) : Below B a (w.alloc o) := h.alloc hB o
/-- A cell of a row of numbers that is known whole. -/
theorem litc {w : World} {g : Nat} {T : TypeId} (l : List Int) (hb : w.heap[g]? = some (.cells (l.map (Value.int .i64)).toArray T (0, 0))) {lo hi : Int} (hl : ∀ x ∈ l, lo ≤ x ∧ x ≤ hi) {q : Int} (h0 : 0 ≤ q) (hq : q < l.length) :
    ∃ (k : Nat) (j : Int), q = (k : Int) ∧ w.cell? ⟨g, k, none⟩ = some (.int .i64 j) ∧ lo ≤ j ∧ j ≤ hi := by
  obtain ⟨k, rfl⟩ := Int.eq_ofNat_of_zero_le h0
  have hk : k < l.length := by omega
  refine ⟨k, l[k], rfl, ?_, hl _ (List.getElem_mem hk)⟩
  rw [cell_of_row w g k _ _ _ hb]
  simp [hk]


theorem blk0 {w w' : World} {base b : Nat} {o : Obj} (h : w.heap[b]? = some o) (hb : Below base w w') (hlt : b < base) : w'.heap[b]? = some o := (hb.block b hlt).trans h
theorem alloc_at0 (w : World) (o1 o2 : Obj) : ((w.alloc o1).alloc o2).heap[w.heap.size]? = some o1 := by rw [heap_alloc_old _ _ (by simp)]; exact heap_alloc_new w _
theorem alloc_at1 (w : World) (o1 o2 : Obj) : ((w.alloc o1).alloc o2).heap[w.heap.size + 1]? = some o2 := by
  have := heap_alloc_new (w.alloc o1) o2
  rw [World.size_alloc] at this; exact this

/-- A slice whose array is a block that is known whole. -/
theorem rd_blk {α : Type} {E : Enc α} {w : World} {b : Nat} {cs : Array Value} {T : TypeId} {xs : List α} (h : w.heap[b]? = some (.cells cs T (0, 0))) (hcs : cs.toList = xs.flatMap E.enc) : Rd E w w.heap.size (some ⟨b, 0, none⟩) xs := fun _ => by
  refine ⟨b, 0, rfl, (Array.getElem?_eq_some_iff.1 h).1, fun i x hi j v hj => ?_⟩
  rw [cell_of_row w b _ _ _ _ h, ← Array.getElem?_toList, hcs, Nat.zero_add]
  exact flat_get E xs i j x v hi hj
/-- The result of a call lies in a box of two cells: made behind the call, or ahead of it. -/
theorem box2_after {wr V w5 : World} (x y : Value) (T : TypeId) (hV : Below wr.heap.size wr V) (hb : Below V.heap.size V w5) :
    ∃ z, Value.pointer (some ⟨w5.heap.size, 0, none⟩) = .pointer (some ⟨z, 0, none⟩) ∧ Hid (Below wr.heap.size wr (w5.alloc (.cells #[x, y] T)) ∧ wr.heap.size ≤ z ∧ (w5.alloc (.cells #[x, y] T)).heap[z]? = some (.cells #[x, y] T (0, 0))) :=
  ⟨_, rfl, bel_trans (bel_trans hV hb) (below1 _ _), Nat.le_trans hV.size hb.size, heap_alloc_new _ _⟩
theorem box2_ahead {wr V w5 : World} {x0 y0 : Value} (x y : Value) {T : TypeId} {z : Nat} (hV : Below wr.heap.size wr V) (hb : Below V.heap.size V w5) (hk : V.heap[z]? = some (.cells #[x0, y0] T (0, 0))) (hz : wr.heap.size ≤ z) :
    ∃ z', Value.pointer (some ⟨z, 0, none⟩) = .pointer (some ⟨z', 0, none⟩) ∧ Hid (Below wr.heap.size wr ((w5.setCell ⟨z, 0, none⟩ x).setCell ⟨z, 1, none⟩ y) ∧ wr.heap.size ≤ z' ∧ ((w5.setCell ⟨z, 0, none⟩ x).setCell ⟨z, 1, none⟩ y).heap[z']? = some (.cells #[x, y] T (0, 0))) :=
  ⟨_, rfl, bset2 (bel_trans hV hb) hz _ _, hz, set2 (blkc hk hb)⟩
theorem below_drew {B : Nat} {a w : World} (h : Below B a w) : Below B a w.drew := ⟨h.os, h.tape, h.output, h.size, h.block⟩
end Go.Proofs.YtonhkadbiepedaaDoor
