/- Words for a region that makes a slice of zeroes, calls, and puts the result into a new box, in any order. -/
import Derived.Test.YtonhkadbiepedaaDoorBox
namespace Go.Proofs.YtonhkadbiepedaaDoor
open Go.RowKit Go.Sort
section
variable {α : Type} {E : Enc α} {xs : List α} {cs : Array Value} {T : TypeId}
theorem rdz1 (v : World) (h : cs.toList = xs.flatMap E.enc) : Rd E (v.alloc (.cells cs T)).drew (v.alloc (.cells cs T)).drew.heap.size (some ⟨v.heap.size, 0, none⟩) xs := rd_blk (w := (v.alloc (.cells cs T)).drew) (heap_alloc_new v _) h
theorem rdz2 (v : World) (o : Obj) (h : cs.toList = xs.flatMap E.enc) : Rd E ((v.alloc o).alloc (.cells cs T)).drew ((v.alloc o).alloc (.cells cs T)).drew.heap.size (some ⟨v.heap.size + 1, 0, none⟩) xs := rd_blk (w := ((v.alloc o).alloc (.cells cs T)).drew) (alloc_at1 v o _) h
theorem rdz3 (v : World) (o : Obj) (h : cs.toList = xs.flatMap E.enc) : Rd E ((v.alloc (.cells cs T)).alloc o).drew ((v.alloc (.cells cs T)).alloc o).drew.heap.size (some ⟨v.heap.size, 0, none⟩) xs := rd_blk (w := ((v.alloc (.cells cs T)).alloc o).drew) (alloc_at0 v _ o) h
end
theorem bz1 {B : World} {v : World} (h : Below B.heap.size B v) (o : Obj) : Below B.heap.size B (v.alloc o).drew := below_drew (bel_trans h (below1 _ _))
theorem bz2 {B : World} {v : World} (h : Below B.heap.size B v) (o o' : Obj) : Below B.heap.size B ((v.alloc o).alloc o').drew := below_drew (bel_trans h (below2 _ _ _))
theorem blkB {v w5 : World} {o z : Obj} (h : Below ((v.alloc o).alloc z).drew.heap.size ((v.alloc o).alloc z).drew w5) : w5.heap[v.heap.size]? = some o := blkc (w := ((v.alloc o).alloc z).drew) (alloc_at0 v o z) h
theorem blkC {v w5 : World} {o z : Obj} (h : Below ((v.alloc z).alloc o).drew.heap.size ((v.alloc z).alloc o).drew w5) : w5.heap[v.heap.size + 1]? = some o := blkc (w := ((v.alloc z).alloc o).drew) (alloc_at1 v z o) h
/-- The three shapes of the end. -/
theorem endA {v w5 : World} {o : Obj} (x y : Value) (T : TypeId) (hb : Below (v.alloc o).drew.heap.size (v.alloc o).drew w5) :
    ∃ z, Value.pointer (some ⟨w5.heap.size, 0, none⟩) = .pointer (some ⟨z, 0, none⟩) ∧ Hid (Below v.heap.size v (w5.alloc (.cells #[x, y] T)) ∧ v.heap.size ≤ z ∧ (w5.alloc (.cells #[x, y] T)).heap[z]? = some (.cells #[x, y] T (0, 0))) :=
  box2_after x y T (bz1 (Below.refl _ _) o) hb
theorem endB {v w5 : World} {z : Obj} {x0 y0 : Value} {T : TypeId} (x y : Value) (hb : Below ((v.alloc (.cells #[x0, y0] T)).alloc z).drew.heap.size ((v.alloc (.cells #[x0, y0] T)).alloc z).drew w5) :
    ∃ z', Value.pointer (some ⟨v.heap.size, 0, none⟩) = .pointer (some ⟨z', 0, none⟩) ∧ Hid (Below v.heap.size v ((w5.setCell ⟨v.heap.size, 0, none⟩ x).setCell ⟨v.heap.size, 1, none⟩ y) ∧ v.heap.size ≤ z' ∧ ((w5.setCell ⟨v.heap.size, 0, none⟩ x).setCell ⟨v.heap.size, 1, none⟩ y).heap[z']? = some (.cells #[x, y] T (0, 0))) :=
  box2_ahead x y (bz2 (Below.refl _ _) _ _) hb (alloc_at0 v _ _) (Nat.le_refl _)
theorem endC {v w5 : World} {z : Obj} {x0 y0 : Value} {T : TypeId} (x y : Value) (hb : Below ((v.alloc z).alloc (.cells #[x0, y0] T)).drew.heap.size ((v.alloc z).alloc (.cells #[x0, y0] T)).drew w5) :
    ∃ z', Value.pointer (some ⟨v.heap.size + 1, 0, none⟩) = .pointer (some ⟨z', 0, none⟩) ∧ Hid (Below v.heap.size v ((w5.setCell ⟨v.heap.size + 1, 0, none⟩ x).setCell ⟨v.heap.size + 1, 1, none⟩ y) ∧ v.heap.size ≤ z' ∧ ((w5.setCell ⟨v.heap.size + 1, 0, none⟩ x).setCell ⟨v.heap.size + 1, 1, none⟩ y).heap[z']? = some (.cells #[x, y] T (0, 0))) :=
  box2_ahead x y (bz2 (Below.refl _ _) _ _) hb (alloc_at1 v _ _) (Nat.le_succ _)
end Go.Proofs.YtonhkadbiepedaaDoor
