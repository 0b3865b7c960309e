/- What the drawing functions leave: data of the right shape, whatever the bytes; first the words, then windows. -/
import Derived.Test.YtonhkadbiepedaaDoorPick
import Derived.Test.YtonhkadbiepedaaDoorWin
import Derived.Test.YtonhkadbiepedaaDoorLib
import Derived.Deep.RegionHeld3
import Derived.Deep.DeepCutAuto
namespace Go.Proofs.YtonhkadbiepedaaDoor
open Go.RowKit Go.Sort

/-! ### Only block g, and what is new, has turned -/

theorem grown_trans' {a b c : World} {row : Option Nat} (h : a.grownBy b row) (k : b.grownBy c row) : a.grownBy c row :=
  ⟨k.os.trans h.os, k.tape.trans h.tape, k.output.trans h.output, Nat.le_trans h.size k.size, fun i hi hne => (k.block i (Nat.lt_of_lt_of_le hi h.size) hne).trans (h.block i hi hne)⟩
theorem grown_below {a b c : World} {row : Option Nat} (h : a.grownBy b row) (k : Below b.heap.size b c) : a.grownBy c row := grown_trans' h (grownBy_of_below k row)
theorem grown_alloc {a w : World} {row : Option Nat} (h : a.grownBy w row) (o : Obj) : a.grownBy (w.alloc o) row := grown_below h (below1 w o)
theorem grown_setNew {a w : World} {row : Option Nat} (h : a.grownBy w row) {p : Addr} (hp : a.heap.size ≤ p.block) (u : Value) : a.grownBy (w.setCell p u) row :=
  ⟨h.os, h.tape, h.output, by simpa [World.setCell] using h.size, fun i hi hne => (Below.heap_setCell w p u i (by omega)).trans (h.block i hi hne)⟩
/-- A step that writes one block that is new to a. -/
theorem grown_new {a b c : World} {row row' : Option Nat} (h : a.grownBy b row) (k : b.grownBy c row') (hr : ∀ k, row' = some k → a.heap.size ≤ k) : a.grownBy c row :=
  ⟨k.os.trans h.os, k.tape.trans h.tape, k.output.trans h.output, Nat.le_trans h.size k.size, fun i hi hne => (k.block i (Nat.lt_of_lt_of_le hi h.size) (fun e => by have := hr i e.symm; omega)).trans (h.block i hi hne)⟩

theorem Rdr.setNew {w : World} {g M : Nat} (h : Rdr w g M) {p : Addr} (hp : g < p.block) (u : Value) : Rdr (w.setCell p u) g M := h.keep ((Below.refl _ _).setCell (by omega) u)
theorem Rdr.grown {w w' : World} {g M : Nat} {row : Option Nat} (h : Rdr w g M) (hg : w.grownBy w' row) (hr : ∀ k, row = some k → g < k) : Rdr w' g M :=
  h.keep ((Below.refl _ _).grown hg (by have := h.lt; omega) (fun k hk => hr k hk))

/-! ### A slice that reads as a list, its array in the blocks lo .. hi - 1 -/

def RdI {α : Type} (E : Enc α) (w : World) (lo hi : Nat) (A : Option Addr) (xs : List α) : Prop :=
  xs ≠ [] → ∃ b off, A = some ⟨b, off, none⟩ ∧ lo ≤ b ∧ b < hi ∧ ∀ i x, xs[i]? = some x → ∀ j v, (E.enc x)[j]? = some v → w.cell? ⟨b, off + i * E.sz + j, none⟩ = some v

section
variable {α : Type} {E : Enc α} {w w' : World} {lo hi lo' hi' : Nat} {A : Option Addr} {xs : List α}
theorem RdI.rd (h : RdI E w lo hi A xs) : Rd E w hi A xs := fun hx => by
  obtain ⟨b, off, hA, _, h2, hc⟩ := h hx
  exact ⟨b, off, hA, h2, hc⟩
theorem RdI.full (h : RdI E w lo hi A xs) (hh : hi ≤ w.heap.size) : Rd E w w.heap.size A xs := h.rd.mono hh
theorem RdI.keep {row : Option Nat} (h : RdI E w lo hi A xs) (hg : w.grownBy w' row) (hr : ∀ k, row = some k → k < lo ∨ hi ≤ k) (hh : hi ≤ w.heap.size) : RdI E w' lo hi A xs := fun hx => by
  obtain ⟨b, off, hA, h1, h2, hc⟩ := h hx
  refine ⟨b, off, hA, h1, h2, fun i x hi' j v hj => (World.cell?_of_block (hg.block b (by omega) (fun e => ?_))).trans (hc i x hi' j v hj)⟩
  have := hr b e.symm
  omega
theorem RdI.next (h : RdI E w lo hi A xs) (hb : Below w.heap.size w w') (hh : hi ≤ w.heap.size) : RdI E w' lo hi A xs := h.keep (grownBy_of_below hb none) (fun _ h => by cases h) hh
theorem RdI.inLo {b off : Nat} (h : RdI E w lo hi (some ⟨b, off, none⟩) xs) (hx : 0 < xs.length) : lo ≤ b ∧ b < hi := by
  obtain ⟨b', off', hA, h1, h2, _⟩ := h (by intro e; simp [e] at hx)
  injection hA with hA
  injection hA with h3
  omega
theorem RdI.drew (h : RdI E w lo hi A xs) : RdI E w.drew lo hi A xs := h
theorem RdI.alloc (h : RdI E w lo hi A xs) (o : Obj) (hh : hi ≤ w.heap.size) : RdI E (w.alloc o) lo hi A xs := h.next (below1 w o) hh
theorem RdI.wide (h : RdI E w lo hi A xs) (h1 : lo' ≤ lo) (h2 : hi ≤ hi') : RdI E w lo' hi' A xs := fun hx => by
  obtain ⟨b, off, hA, g1, g2, hc⟩ := h hx
  exact ⟨b, off, hA, by omega, by omega, hc⟩
theorem RdI.of_own {e : TypeId} {n c : Nat} (h : Own E e w lo (.slice A n c) xs) : RdI E w lo w.heap.size A xs := fun hx => by
  obtain ⟨A', c', hv, _, hf⟩ := h.form
  obtain ⟨g, rfl, h1, h2⟩ := hf hx
  injection hv with hA
  subst hA
  obtain ⟨b, off, hA, _, hc⟩ := h.rd hx
  injection hA with hA
  injection hA with h3 h4
  subst h3; subst h4
  exact ⟨g, 0, rfl, h1, h2, hc⟩
end

/-! ### A box of two numbers and a truth value -/

def B3 (T : TypeId) (w : World) (b : Nat) : Prop := ∃ (x y : Int) (z : Bool), w.heap[b]? = some (.cells #[.int .i64 x, .int .i64 y, .bool z] T (0, 0))

section
variable {T : TypeId} {w w' : World} {b : Nat}
theorem B3.lt (h : B3 T w b) : b < w.heap.size := by obtain ⟨x, y, z, h⟩ := h; exact (Array.getElem?_eq_some_iff.1 h).1
theorem B3.new (w : World) (T : TypeId) (x y : Int) (z : Bool) : B3 T (w.alloc (.cells #[.int .i64 x, .int .i64 y, .bool z] T)) w.heap.size := ⟨x, y, z, heap_alloc_new w _⟩
theorem B3.keep {row : Option Nat} (h : B3 T w b) (hg : w.grownBy w' row) (hne : some b ≠ row) : B3 T w' b := by
  have hl := h.lt
  obtain ⟨x, y, z, h⟩ := h
  exact ⟨x, y, z, (hg.block b hl hne).trans h⟩
theorem B3.alloc (h : B3 T w b) (o : Obj) : B3 T (w.alloc o) b := h.keep (World.grownBy_alloc w o none) (by simp)
theorem B3.far (h : B3 T w b) {p : Addr} (hp : b ≠ p.block) (u : Value) : B3 T (w.setCell p u) b := by
  obtain ⟨x, y, z, h⟩ := h
  exact ⟨x, y, z, (Below.heap_setCell w p u b hp).trans h⟩
theorem B3.set0 (h : B3 T w b) (v : Int) : B3 T (w.setCell ⟨b, 0, none⟩ (.int .i64 v)) b := by
  obtain ⟨x, y, z, h⟩ := h
  exact ⟨v, y, z, by rw [heap_setCell_same w b 0 _ _ _ h]; rfl⟩
theorem B3.set1 (h : B3 T w b) (v : Int) : B3 T (w.setCell ⟨b, 1, none⟩ (.int .i64 v)) b := by
  obtain ⟨x, y, z, h⟩ := h
  exact ⟨x, v, z, by rw [heap_setCell_same w b 1 _ _ _ h]; rfl⟩
theorem B3.cells (h : B3 T w b) : ∃ (x y : Int) (z : Bool), w.cell? ⟨b, 0, none⟩ = some (.int .i64 x) ∧ w.cell? ⟨b, 1, none⟩ = some (.int .i64 y) ∧ w.cell? ⟨b, 2, none⟩ = some (.bool z) ∧
    w.frozen? ⟨b, 0, none⟩ = false ∧ w.frozen? ⟨b, 1, none⟩ = false ∧ w.frozen? ⟨b, 2, none⟩ = false := by
  obtain ⟨x, y, z, h⟩ := h
  exact ⟨x, y, z, cell_of_row w b 0 _ _ _ h, cell_of_row w b 1 _ _ _ h, cell_of_row w b 2 _ _ _ h, frozen_of_row w b 0 _ _ h, frozen_of_row w b 1 _ _ h, frozen_of_row w b 2 _ _ h⟩
end

/-! ### The reader is opened -/

set_option maxHeartbeats 400000 in
theorem callOpen (A : Option Addr) (c : Nat) (bs : List Int) (w : World) (hc : bs.length ≤ c) (hm : bs.length ≤ 1048576) (hr : Rd eU8 w w.heap.size A bs) (hby : ∀ x ∈ bs, 0 ≤ x ∧ x ≤ 255) :
    Calls Tryd.prog 18 #[.slice A bs.length c] w fun e w' => e = .returned (.pointer (some ⟨w.heap.size, 0, none⟩)) ∧ Rdr w' w.heap.size 0 ∧ Below w.heap.size w w' := by
  have main : ∀ (A : Option Addr) (c : Nat) (bs : List Int), bs.length ≤ 2000 → Rd eU8 w w.heap.size A bs → (∀ x ∈ bs, 0 ≤ x ∧ x ≤ 255) → Rdr (w.alloc (.cells #[.slice A bs.length c, .int .i64 0] 53)) w.heap.size 0 :=
    fun A c bs h1 h2 h3 => ⟨A, c, bs, 0, heap_alloc_new w _, by omega, by omega, h1, h2.below (below1 w _), h3⟩
  by_cases hl : bs.length ≤ 2000
  · have MM := Lib.hid (main A c bs hl hr hby)
    clear main hr hby
    go_enter Tryd.func18, Tryd.ntmps18
    go_wp2
    go_ret
    exact ⟨rfl, MM.out, below1 _ _⟩
  · have hA : ∃ ad, A = some ad := by
      obtain ⟨b, off, hA, _⟩ := hr (by intro e; simp [e] at hl)
      exact ⟨_, hA⟩
    obtain ⟨ad, rfl⟩ := hA
    have hlen : (bs.take 2000).length = 2000 := by rw [List.length_take]; omega
    have h2 := main (some ad) c (bs.take 2000) (by omega) (hr.take 2000) (fun x hx => hby x (List.mem_of_mem_take hx))
    rw [hlen] at h2
    have MM := Lib.hid h2
    have h3 : 2000 < bs.length := by omega
    clear main hr hby h2 hl
    go_enter Tryd.func18, Tryd.ntmps18
    go_wp2
    go_ret
    exact ⟨rfl, MM.out, below1 _ _⟩

/-- A box of three cells that is written whole. -/
theorem cells3_set {w : World} {b : Nat} {x y z x' y' z' : Value} (h0 : w.cell? ⟨b, 0, none⟩ = some x') (h1 : w.cell? ⟨b, 1, none⟩ = some y') (h2 : w.cell? ⟨b, 2, none⟩ = some z') :
    (w.setCell ⟨b, 0, none⟩ x).cell? ⟨b, 0, none⟩ = some x ∧ ((w.setCell ⟨b, 0, none⟩ x).setCell ⟨b, 1, none⟩ y).cell? ⟨b, 1, none⟩ = some y ∧ (((w.setCell ⟨b, 0, none⟩ x).setCell ⟨b, 1, none⟩ y).setCell ⟨b, 2, none⟩ z).cell? ⟨b, 2, none⟩ = some z := by
  refine ⟨World.cell?_setCell_same _ _ _ h0, World.cell?_setCell_same _ _ _ ((World.cell?_setCell_other _ _ _ _ (by simp)).trans h1), World.cell?_setCell_same _ _ _ ((World.cell?_setCell_other _ _ _ _ (by simp)).trans ((World.cell?_setCell_other _ _ _ _ (by simp)).trans h2))⟩

/-- The reader, what has turned since w0, and two boxes. -/
def S2 (T : TypeId) (w0 : World) (g M R X : Nat) (wx : World) : Prop := Rdr wx g M ∧ w0.grownBy wx (some g) ∧ B3 T wx R ∧ B3 T wx X

section
variable {T : TypeId} {w0 w w' : World} {g M M' R X : Nat}
theorem S2.more (h : S2 T w0 g M R X w) (hM : M ≤ M') : S2 T w0 g M' R X w := ⟨h.1.more hM, h.2⟩
/-- Behind a pick: 'Rdr w' g M'' and 'w.grownBy w' (some g)'. -/
theorem S2.step (h : S2 T w0 g M R X w) (hr : Rdr w' g M') (hg : w.grownBy w' (some g)) (hR : g < R) (hX : g < X) : S2 T w0 g M' R X w' :=
  ⟨hr, grown_trans' h.2.1 hg, h.2.2.1.keep hg (by simp; omega), h.2.2.2.keep hg (by simp; omega)⟩
theorem S2.drew (h : S2 T w0 g M R X w) : S2 T w0 g M R X w.drew := ⟨h.1, ⟨h.2.1.os, h.2.1.tape, h.2.1.output, h.2.1.size, h.2.1.block⟩, h.2.2.1, h.2.2.2⟩
theorem S2.alloc (h : S2 T w0 g M R X w) (o : Obj) : S2 T w0 g M R X (w.alloc o) := ⟨h.1.alloc o, grown_alloc h.2.1 o, h.2.2.1.alloc o, h.2.2.2.alloc o⟩
theorem S2.set0 (h : S2 T w0 g M R X w) (hg : g < w0.heap.size) (hX : w0.heap.size ≤ X) (hne : R ≠ X) (v : Int) : S2 T w0 g M R X (w.setCell ⟨X, 0, none⟩ (.int .i64 v)) :=
  ⟨h.1.setNew (by show g < X; omega) _, grown_setNew h.2.1 hX _, h.2.2.1.far hne _, h.2.2.2.set0 v⟩
theorem S2.set1 (h : S2 T w0 g M R X w) (hg : g < w0.heap.size) (hX : w0.heap.size ≤ X) (hne : R ≠ X) (v : Int) : S2 T w0 g M R X (w.setCell ⟨X, 1, none⟩ (.int .i64 v)) :=
  ⟨h.1.setNew (by show g < X; omega) _, grown_setNew h.2.1 hX _, h.2.2.1.far hne _, h.2.2.2.set1 v⟩
end


end Go.Proofs.YtonhkadbiepedaaDoor
