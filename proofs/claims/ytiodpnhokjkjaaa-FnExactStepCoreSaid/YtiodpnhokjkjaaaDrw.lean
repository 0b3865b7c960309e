/- What the drawing functions leave: data of the right shape, whatever the bytes; first the words, then windows. -/
import Derived.Test.YtiodpnhokjkjaaaPick
import Derived.Test.YtiodpnhokjkjaaaWin
import Derived.Test.YtiodpnhokjkjaaaLib
import Derived.Deep.RegionHeld3
import Derived.Deep.DeepCutAuto
namespace Go.Proofs.Ytiodpnhokjkjaaa
open Go.RowKit Go.Sort

/-! ### Only block g, and what is new, has turned -/

theorem grown_trans' {a b c : World} {row : Option Nat} (h : a.grownBy b row) (k : b.grownBy c row) : a.grownBy c row :=
  ⟨k.os.trans h.os, k.tape.trans h.tape, k.output.trans h.output, Nat.le_trans h.size k.size, fun i hi hne => (k.block i (Nat.lt_of_lt_of_le hi h.size) hne).trans (h.block i hi hne)⟩
theorem grown_below {a b c : World} {row : Option Nat} (h : a.grownBy b row) (k : Below b.heap.size b c) : a.grownBy c row := grown_trans' h (grownBy_of_below k row)
theorem grown_alloc {a w : World} {row : Option Nat} (h : a.grownBy w row) (o : Obj) : a.grownBy (w.alloc o) row := grown_below h (below1 w o)
theorem grown_setNew {a w : World} {row : Option Nat} (h : a.grownBy w row) {p : Addr} (hp : a.heap.size ≤ p.block) (u : Value) : a.grownBy (w.setCell p u) row :=
  ⟨h.os, h.tape, h.output, by simpa [World.setCell] using h.size, fun i hi hne => (Below.heap_setCell w p u i (by omega)).trans (h.block i hi hne)⟩
/-- A step that writes one block that is new to a. -/
theorem grown_new {a b c : World} {row row' : Option Nat} (h : a.grownBy b row) (k : b.grownBy c row') (hr : ∀ k, row' = some k → a.heap.size ≤ k) : a.grownBy c row :=
  ⟨k.os.trans h.os, k.tape.trans h.tape, k.output.trans h.output, Nat.le_trans h.size k.size, fun i hi hne => (k.block i (Nat.lt_of_lt_of_le hi h.size) (fun e => by have := hr i e.symm; omega)).trans (h.block i hi hne)⟩

theorem Rdr.setNew {w : World} {g M : Nat} (h : Rdr w g M) {p : Addr} (hp : g < p.block) (u : Value) : Rdr (w.setCell p u) g M := h.keep ((Below.refl _ _).setCell (by omega) u)
theorem Rdr.grown {w w' : World} {g M : Nat} {row : Option Nat} (h : Rdr w g M) (hg : w.grownBy w' row) (hr : ∀ k, row = some k → g < k) : Rdr w' g M :=
  h.keep ((Below.refl _ _).grown hg (by have := h.lt; omega) (fun k hk => hr k hk))

/-! ### A slice that reads as a list, its array in the blocks lo .. hi - 1 -/

def RdI {α : Type} (E : Enc α) (w : World) (lo hi : Nat) (A : Option Addr) (xs : List α) : Prop :=
  xs ≠ [] → ∃ b off, A = some ⟨b, off, none⟩ ∧ lo ≤ b ∧ b < hi ∧ ∀ i x, xs[i]? = some x → ∀ j v, (E.enc x)[j]? = some v → w.cell? ⟨b, off + i * E.sz + j, none⟩ = some v

section
variable {α : Type} {E : Enc α} {w w' : World} {lo hi lo' hi' : Nat} {A : Option Addr} {xs : List α}
theorem RdI.rd (h : RdI E w lo hi A xs) : Rd E w hi A xs := fun hx => by
  obtain ⟨b, off, hA, _, h2, hc⟩ := h hx
  exact ⟨b, off, hA, h2, hc⟩
theorem RdI.full (h : RdI E w lo hi A xs) (hh : hi ≤ w.heap.size) : Rd E w w.heap.size A xs := h.rd.mono hh
theorem RdI.keep {row : Option Nat} (h : RdI E w lo hi A xs) (hg : w.grownBy w' row) (hr : ∀ k, row = some k → k < lo ∨ hi ≤ k) (hh : hi ≤ w.heap.size) : RdI E w' lo hi A xs := fun hx => by
  obtain ⟨b, off, hA, h1, h2, hc⟩ := h hx
  refine ⟨b, off, hA, h1, h2, fun i x hi' j v hj => (World.cell?_of_block (hg.block b (by omega) (fun e => ?_))).trans (hc i x hi' j v hj)⟩
  have := hr b e.symm
  omega
theorem RdI.next (h : RdI E w lo hi A xs) (hb : Below w.heap.size w w') (hh : hi ≤ w.heap.size) : RdI E w' lo hi A xs := h.keep (grownBy_of_below hb none) (fun _ h => by cases h) hh
theorem RdI.inLo {b off : Nat} (h : RdI E w lo hi (some ⟨b, off, none⟩) xs) (hx : 0 < xs.length) : lo ≤ b ∧ b < hi := by
  obtain ⟨b', off', hA, h1, h2, _⟩ := h (by intro e; simp [e] at hx)
  injection hA with hA
  injection hA with h3
  omega
theorem RdI.drew (h : RdI E w lo hi A xs) : RdI E w.drew lo hi A xs := h
theorem RdI.alloc (h : RdI E w lo hi A xs) (o : Obj) (hh : hi ≤ w.heap.size) : RdI E (w.alloc o) lo hi A xs := h.next (below1 w o) hh
theorem RdI.wide (h : RdI E w lo hi A xs) (h1 : lo' ≤ lo) (h2 : hi ≤ hi') : RdI E w lo' hi' A xs := fun hx => by
  obtain ⟨b, off, hA, g1, g2, hc⟩ := h hx
  exact ⟨b, off, hA, by omega, by omega, hc⟩
theorem RdI.of_own {e : TypeId} {n c : Nat} (h : Own E e w lo (.slice A n c) xs) : RdI E w lo w.heap.size A xs := fun hx => by
  obtain ⟨A', c', hv, _, hf⟩ := h.form
  obtain ⟨g, rfl, h1, h2⟩ := hf hx
  injection hv with hA
  subst hA
  obtain ⟨b, off, hA, _, hc⟩ := h.rd hx
  injection hA with hA
  injection hA with h3 h4
  subst h3; subst h4
  exact ⟨g, 0, rfl, h1, h2, hc⟩
end

/-! ### A box of two numbers and a truth value -/

def B3 (T : TypeId) (w : World) (b : Nat) : Prop := ∃ (x y : Int) (z : Bool), w.heap[b]? = some (.cells #[.int .i64 x, .int .i64 y, .bool z] T (0, 0))

section
variable {T : TypeId} {w w' : World} {b : Nat}
theorem B3.lt (h : B3 T w b) : b < w.heap.size := by obtain ⟨x, y, z, h⟩ := h; exact (Array.getElem?_eq_some_iff.1 h).1
theorem B3.new (w : World) (T : TypeId) (x y : Int) (z : Bool) : B3 T (w.alloc (.cells #[.int .i64 x, .int .i64 y, .bool z] T)) w.heap.size := ⟨x, y, z, heap_alloc_new w _⟩
theorem B3.keep {row : Option Nat} (h : B3 T w b) (hg : w.grownBy w' row) (hne : some b ≠ row) : B3 T w' b := by
  have hl := h.lt
  obtain ⟨x, y, z, h⟩ := h
  exact ⟨x, y, z, (hg.block b hl hne).trans h⟩
theorem B3.alloc (h : B3 T w b) (o : Obj) : B3 T (w.alloc o) b := h.keep (World.grownBy_alloc w o none) (by simp)
theorem B3.far (h : B3 T w b) {p : Addr} (hp : b ≠ p.block) (u : Value) : B3 T (w.setCell p u) b := by
  obtain ⟨x, y, z, h⟩ := h
  exact ⟨x, y, z, (Below.heap_setCell w p u b hp).trans h⟩
theorem B3.set0 (h : B3 T w b) (v : Int) : B3 T (w.setCell ⟨b, 0, none⟩ (.int .i64 v)) b := by
  obtain ⟨x, y, z, h⟩ := h
  exact ⟨v, y, z, by rw [heap_setCell_same w b 0 _ _ _ h]; rfl⟩
theorem B3.set1 (h : B3 T w b) (v : Int) : B3 T (w.setCell ⟨b, 1, none⟩ (.int .i64 v)) b := by
  obtain ⟨x, y, z, h⟩ := h
  exact ⟨x, v, z, by rw [heap_setCell_same w b 1 _ _ _ h]; rfl⟩
theorem B3.cells (h : B3 T w b) : ∃ (x y : Int) (z : Bool), w.cell? ⟨b, 0, none⟩ = some (.int .i64 x) ∧ w.cell? ⟨b, 1, none⟩ = some (.int .i64 y) ∧ w.cell? ⟨b, 2, none⟩ = some (.bool z) ∧
    w.frozen? ⟨b, 0, none⟩ = false ∧ w.frozen? ⟨b, 1, none⟩ = false ∧ w.frozen? ⟨b, 2, none⟩ = false := by
  obtain ⟨x, y, z, h⟩ := h
  exact ⟨x, y, z, cell_of_row w b 0 _ _ _ h, cell_of_row w b 1 _ _ _ h, cell_of_row w b 2 _ _ _ h, frozen_of_row w b 0 _ _ h, frozen_of_row w b 1 _ _ h, frozen_of_row w b 2 _ _ h⟩
end

/-! ### The reader is opened -/

set_option maxHeartbeats 400000 in
theorem callOpen (A : Option Addr) (c : Nat) (bs : List Int) (w : World) (hc : bs.length ≤ c) (hm : bs.length ≤ 1048576) (hr : Rd eU8 w w.heap.size A bs) (hby : ∀ x ∈ bs, 0 ≤ x ∧ x ≤ 255) :
    Calls Try.prog 45 #[.slice A bs.length c] w fun e w' => e = .returned (.pointer (some ⟨w.heap.size, 0, none⟩)) ∧ Rdr w' w.heap.size 0 ∧ Below w.heap.size w w' := by
  have main : ∀ (A : Option Addr) (c : Nat) (bs : List Int), bs.length ≤ 2000 → Rd eU8 w w.heap.size A bs → (∀ x ∈ bs, 0 ≤ x ∧ x ≤ 255) → Rdr (w.alloc (.cells #[.slice A bs.length c, .int .i64 0] 94)) w.heap.size 0 :=
    fun A c bs h1 h2 h3 => ⟨A, c, bs, 0, heap_alloc_new w _, by omega, by omega, h1, h2.below (below1 w _), h3⟩
  by_cases hl : bs.length ≤ 2000
  · have MM := Lib.hid (main A c bs hl hr hby)
    clear main hr hby
    go_enter Try.func45, Try.ntmps45
    go_wp2
    go_ret
    exact ⟨rfl, MM.out, below1 _ _⟩
  · have hA : ∃ ad, A = some ad := by
      obtain ⟨b, off, hA, _⟩ := hr (by intro e; simp [e] at hl)
      exact ⟨_, hA⟩
    obtain ⟨ad, rfl⟩ := hA
    have hlen : (bs.take 2000).length = 2000 := by rw [List.length_take]; omega
    have h2 := main (some ad) c (bs.take 2000) (by omega) (hr.take 2000) (fun x hx => hby x (List.mem_of_mem_take hx))
    rw [hlen] at h2
    have MM := Lib.hid h2
    have h3 : 2000 < bs.length := by omega
    clear main hr hby h2 hl
    go_enter Try.func45, Try.ntmps45
    go_wp2
    go_ret
    exact ⟨rfl, MM.out, below1 _ _⟩

/-- A box of three cells that is written whole. -/
theorem cells3_set {w : World} {b : Nat} {x y z x' y' z' : Value} (h0 : w.cell? ⟨b, 0, none⟩ = some x') (h1 : w.cell? ⟨b, 1, none⟩ = some y') (h2 : w.cell? ⟨b, 2, none⟩ = some z') :
    (w.setCell ⟨b, 0, none⟩ x).cell? ⟨b, 0, none⟩ = some x ∧ ((w.setCell ⟨b, 0, none⟩ x).setCell ⟨b, 1, none⟩ y).cell? ⟨b, 1, none⟩ = some y ∧ (((w.setCell ⟨b, 0, none⟩ x).setCell ⟨b, 1, none⟩ y).setCell ⟨b, 2, none⟩ z).cell? ⟨b, 2, none⟩ = some z := by
  refine ⟨World.cell?_setCell_same _ _ _ h0, World.cell?_setCell_same _ _ _ ((World.cell?_setCell_other _ _ _ _ (by simp)).trans h1), World.cell?_setCell_same _ _ _ ((World.cell?_setCell_other _ _ _ _ (by simp)).trans ((World.cell?_setCell_other _ _ _ _ (by simp)).trans h2))⟩

/-- The reader, what has turned since w0, and two boxes. -/
def S2 (T : TypeId) (w0 : World) (g M R X : Nat) (wx : World) : Prop := Rdr wx g M ∧ w0.grownBy wx (some g) ∧ B3 T wx R ∧ B3 T wx X

section
variable {T : TypeId} {w0 w w' : World} {g M M' R X : Nat}
theorem S2.more (h : S2 T w0 g M R X w) (hM : M ≤ M') : S2 T w0 g M' R X w := ⟨h.1.more hM, h.2⟩
/-- Behind a pick: 'Rdr w' g M'' and 'w.grownBy w' (some g)'. -/
theorem S2.step (h : S2 T w0 g M R X w) (hr : Rdr w' g M') (hg : w.grownBy w' (some g)) (hR : g < R) (hX : g < X) : S2 T w0 g M' R X w' :=
  ⟨hr, grown_trans' h.2.1 hg, h.2.2.1.keep hg (by simp; omega), h.2.2.2.keep hg (by simp; omega)⟩
theorem S2.drew (h : S2 T w0 g M R X w) : S2 T w0 g M R X w.drew := ⟨h.1, ⟨h.2.1.os, h.2.1.tape, h.2.1.output, h.2.1.size, h.2.1.block⟩, h.2.2.1, h.2.2.2⟩
theorem S2.alloc (h : S2 T w0 g M R X w) (o : Obj) : S2 T w0 g M R X (w.alloc o) := ⟨h.1.alloc o, grown_alloc h.2.1 o, h.2.2.1.alloc o, h.2.2.2.alloc o⟩
theorem S2.set0 (h : S2 T w0 g M R X w) (hg : g < w0.heap.size) (hX : w0.heap.size ≤ X) (hne : R ≠ X) (v : Int) : S2 T w0 g M R X (w.setCell ⟨X, 0, none⟩ (.int .i64 v)) :=
  ⟨h.1.setNew (by show g < X; omega) _, grown_setNew h.2.1 hX _, h.2.2.1.far hne _, h.2.2.2.set0 v⟩
theorem S2.set1 (h : S2 T w0 g M R X w) (hg : g < w0.heap.size) (hX : w0.heap.size ≤ X) (hne : R ≠ X) (v : Int) : S2 T w0 g M R X (w.setCell ⟨X, 1, none⟩ (.int .i64 v)) :=
  ⟨h.1.setNew (by show g < X; omega) _, grown_setNew h.2.1 hX _, h.2.2.1.far hne _, h.2.2.2.set1 v⟩
end

/-! ### Windows -/

set_option maxRecDepth 100000 in
set_option maxHeartbeats 3200000 in
theorem callDrawWindow (g M : Nat) (n : Int) (w : World) (hr : Rdr w g M) (hM : M ≤ 900000) :
    Calls Try.prog 111 #[.pointer (some ⟨g, 0, none⟩), .int .i64 n] w fun e w' => ∃ x : Win, e = .returned x.val ∧ Rdr w' g (M + 7) ∧ w.grownBy w' (some g) := by
  have hgw := hr.lt
  have HR := Lib.hid hr
  clear hr
  go_enter Try.func111, Try.ntmps111
  go_wp2_with fail
  refine (callPick g M _ _ (HR.out.alloc _) (by omega)).mono ?_
  rintro e w1 ⟨k1, rfl, a1, a2, _, hr1, hg1⟩
  have r1 : B3 78 w1 w.heap.size := (B3.new w _ 0 0 false).keep hg1 (by simp; omega)
  have G1 : w.grownBy w1 (some g) := grown_trans' (grown_alloc (World.grownBy.refl w _) _) hg1
  have H1 := Lib.hid (And.intro hr1 (And.intro r1 G1))
  clear hr1 hg1 r1 G1
  go_wp2_with fail
  refine (callPick g (M + 1) _ _ H1.out.1 (by omega)).mono ?_
  rintro e w2 ⟨k2, rfl, b1, b2, _, hr2, hg2⟩
  have r2 : B3 78 w2 w.heap.size := H1.out.2.1.keep hg2 (by simp; omega)
  have G2 : w.grownBy w2 (some g) := grown_trans' H1.out.2.2 hg2
  have H2 := Lib.hid (And.intro hr2 (And.intro r2 G2))
  clear hr2 hg2 r2 G2 H1
  go_wp2_with fail
  refine (callPick g (M + 1 + 1) _ _ H2.out.1 (by omega)).mono ?_
  rintro e w3 ⟨k3, rfl, c1, c2, _, hr3, hg3⟩
  have r3 : B3 78 w3 w.heap.size := H2.out.2.1.keep hg3 (by simp; omega)
  have G3 : w.grownBy w3 (some g) := grown_trans' H2.out.2.2 hg3
  have hs3 : w.heap.size < w3.heap.size := r3.lt
  have H3 : ∀ x y z, Hid (S2 78 w g (M + 3) w.heap.size w3.heap.size (w3.alloc (.cells #[.int .i64 x, .int .i64 y, .bool z] 78))) := fun x y z => ⟨hr3.alloc _, grown_alloc G3 _, r3.alloc _, B3.new w3 _ x y z⟩
  clear hr3 hg3 r3 G3 H2
  go_wp2_with fail
  refine (callOdd g (M + 3) _ _ (H3 _ _ _).out.1 (by omega)).mono ?_
  rintro e w4 ⟨o1, rfl, hr4, hg4⟩
  have H4 := Lib.hid ((H3 _ _ _).out.step hr4 hg4 (by omega) (by omega))
  clear hr4 hg4 H3
  go_upto_if 16 with (fail)
  go_cut [] (fun wx => S2 78 w g (M + 4) w.heap.size w3.heap.size wx)
  case first =>
    obtain ⟨x, y, z, e0, e1, e2, f0, f1, f2⟩ := H4.out.2.2.2.cells
    cases o1
    · go_wp2_with fail
      go_meet
      case rel => exact H4.out
    · go_wp2_with fail
      go_meet
      case rel => exact H4.out.set0 hgw (by omega) (by omega) _
  case rest =>
    have H5 := Lib.hid hcut
    clear hcut H4
    go_wp2_with fail
    refine (callOdd g (M + 4) _ _ H5.out.1 (by omega)).mono ?_
    rintro e w5 ⟨o2, rfl, hr5, hg5⟩
    have H6 := Lib.hid (H5.out.step hr5 hg5 (by omega) (by omega))
    clear hr5 hg5 H5
    go_upto_if 23 with (fail)
    go_cut [] (fun wx => S2 78 w g (M + 7) w.heap.size w3.heap.size wx)
    case first =>
      cases o2
      · go_wp2_with fail
        go_meet
        case rel => exact H6.out.more (by omega)
      · go_wp2_with fail
        refine (callPick g (M + 5) _ _ H6.out.1 (by omega)).mono ?_
        rintro e w6 ⟨k, rfl, d1, d2, _, hr6, hg6⟩
        have H7 := Lib.hid (H6.out.step hr6 hg6 (by omega) (by omega))
        clear hr6 hg6 H6
        obtain ⟨x, y, z, e0, e1, e2, f0, f1, f2⟩ := H7.out.2.2.2.cells
        by_cases hk0 : k = 0
        · subst hk0
          clear e0 e1 e2 f0 f1 f2
          go_wp2_with fail
          refine (callPick g (M + 6) _ _ (H7.out.alloc _).1 (by omega)).mono ?_
          rintro e w7 ⟨q, rfl, d3, d4, _, hr7, hg7⟩
          have H8 := Lib.hid ((H7.out.alloc _).step hr7 hg7 (by omega) (by omega))
          have hs6 : w3.heap.size < w6.heap.size := H7.out.2.2.2.lt
          have hc0 : w7.cell? ⟨w6.heap.size, 0, none⟩ = some (.int .i64 (-1)) := hg7.cell (by rw [World.cell?_alloc_new]; rfl) (by simp; omega)
          have hc1 : w7.cell? ⟨w6.heap.size, 1, none⟩ = some (.int .i64 4096) := hg7.cell (by rw [World.cell?_alloc_new]; rfl) (by simp; omega)
          clear hr7 hg7
          obtain ⟨x, y, z, e0, e1, e2, f0, f1, f2⟩ := H8.out.2.2.2.cells
          have hq : q = 0 ∨ q = 1 := by omega
          rcases hq with rfl | rfl
          · go_wp2_with fail
            go_meet
            case rel => exact (H8.out.set0 hgw (by omega) (by omega) _).more (by omega)
          · go_wp2_with fail
            go_meet
            case rel => exact (H8.out.set0 hgw (by omega) (by omega) _).more (by omega)
        · have hk0' : (k == 0) = false := by rw [beq_eq_false_iff_ne]; exact hk0
          by_cases hk1 : k = 1
          · subst hk1
            go_wp2_with fail
            go_meet
            case rel => exact (H7.out.set1 hgw (by omega) (by omega) _).more (by omega)
          · have hk1' : (k == 1) = false := by rw [beq_eq_false_iff_ne]; exact hk1
            go_wp2_with fail
            go_meet
            case rel => exact (H7.out.set1 hgw (by omega) (by omega) _).more (by omega)
    case rest =>
      have H9 := Lib.hid hcut
      clear hcut H6
      obtain ⟨x, y, z, e0, e1, e2, f0, f1, f2⟩ := H9.out.2.2.2.cells
      obtain ⟨x', y', z', e0', e1', e2', f0', f1', f2'⟩ := H9.out.2.2.1.cells
      obtain ⟨s0, s1, s2⟩ := cells3_set (x := .int .i64 x) (y := .int .i64 y) (z := .bool z) e0' e1' e2'
      go_wp2_with fail
      refine bodyPost_ret (v := (⟨x, y, z⟩ : Win).val) (by simp [results, Try.results111, go_sem, s0, s1, s2]) rfl ⟨⟨x, y, z⟩, rfl, ?_, ?_⟩
      · exact ((H9.out.1.setNew (by show g < w.heap.size; omega) _).setNew (by show g < w.heap.size; omega) _).setNew (by show g < w.heap.size; omega) _
      · exact grown_setNew (grown_setNew (grown_setNew H9.out.2.1 (by show w.heap.size ≤ w.heap.size; omega) _) (by show w.heap.size ≤ w.heap.size; omega) _) (by show w.heap.size ≤ w.heap.size; omega) _

set_option maxRecDepth 100000 in
set_option maxHeartbeats 3200000 in
theorem callDrawWindows (g M : Nat) (most n : Int) (w : World) (hr : Rdr w g M) (hM : M ≤ 800000) (h0 : 0 ≤ most) (h1 : most ≤ 20) :
    Calls Try.prog 107 #[.pointer (some ⟨g, 0, none⟩), .int .i64 most, .int .i64 n] w fun e w' =>
      ∃ A c xs, e = .returned (.slice A (xs : List Win).length c) ∧ Own eWin 78 w' w.heap.size (.slice A xs.length c) xs ∧ xs.length ≤ 40 ∧ Rdr w' g (M + 170) ∧ w.grownBy w' (some g) := by
  have hgw := hr.lt
  have HR := Lib.hid hr
  clear hr
  go_enter Try.func107, Try.ntmps107
  go_wp2_with fail
  refine (callPick g M _ _ (HR.out.alloc _) (by omega)).mono ?_
  rintro e w1 ⟨k1, rfl, a1, a2, _, hr1, hg1⟩
  obtain ⟨j0, rfl⟩ := Int.eq_ofNat_of_zero_le a1
  have hj0 : j0 ≤ 20 := by omega
  clear a1 a2
  have G1 : w.grownBy w1 (some g) := grown_trans' (grown_alloc (World.grownBy.refl w _) _) hg1
  have H1 := Lib.hid (And.intro hr1 G1)
  clear hr1 hg1 G1
  go_wp2_with fail
  go_loopw [7, 8] (fun v i wr => ∃ (j : Nat) (xs : List Win), i = .int .i64 j ∧ Own eWin 78 wr w.heap.size v xs ∧ xs.length + j ≤ j0 ∧ Rdr wr g (M + 1 + 7 * xs.length) ∧ w.grownBy wr (some g)) (fun _ i _ => (intOf i).toNat)
  case atStart => exact ⟨j0, [], rfl, Own.none_, by simp, H1.out.1, H1.out.2⟩
  case round =>
    obtain ⟨j, xs, rfl, hown, hlen, hrd, hgr⟩ := hrel
    have HH := Lib.hid (And.intro hown (And.intro hrd hgr))
    clear hown hrd hgr H1
    by_cases hj : 0 < j
    · obtain ⟨j', rfl⟩ : ∃ j', j = j' + 1 := ⟨j - 1, by omega⟩
      go_wp2_with fail
      refine (callDrawWindow g _ 0 _ HH.out.2.1 (by omega)).mono ?_
      rintro e w2 ⟨x, rfl, hr2, hg2⟩
      have H2 := Lib.hid (And.intro (HH.out.1.kept hg2 (fun k hk => by cases hk; exact hgw)) (And.intro hr2 (grown_trans' HH.out.2.2 hg2)))
      clear hr2 hg2 HH
      go_wp2_with (at_builtin; refine wpList_app _ eiWin rfl (.tmp 18) (.tmp 21) rfl w.heap.size (H2.out.1.alloc _) (Rd.new (xs := [x]) _ _ _ rfl) rfl rfl rfl (by simp; omega) (by have := H2.out.2.2.size; simp; omega) ?_; intro v' w3 row hown3 hg3 hrow3)
      go_roundw
      case rel =>
        refine ⟨j', xs ++ [x], rfl, hown3, by simp; omega, ?_, grown_new (grown_alloc H2.out.2.2 _) hg3 (fun k hk => (hrow3 k hk).1)⟩
        exact ((H2.out.2.1.alloc _).grown hg3 (fun k hk => by have := (hrow3 k hk).1; omega)).more (by simp; omega)
      case measure => simp [intOf]
    · have hj0 : j = 0 := by omega
      subst hj0
      go_wp2_with fail
      refine (callOdd g _ _ _ HH.out.2.1 (by omega)).mono ?_
      rintro e w2 ⟨o1, rfl, hr2, hg2⟩
      have H2 := Lib.hid (And.intro (HH.out.1.kept hg2 (fun k hk => by cases hk; exact hgw)) (And.intro hr2 (grown_trans' HH.out.2.2 hg2)))
      clear hr2 hg2 HH
      cases o1
      · obtain ⟨A, c, hv, _, _⟩ := H2.out.1.form
        subst hv
        go_wp2_with fail
        go_ret
        exact ⟨A, c, xs, rfl, H2.out.1, by omega, H2.out.2.1.more (by omega), H2.out.2.2⟩
      · go_wp2_with fail
        refine (callPick g _ _ _ H2.out.2.1 (by omega)).mono ?_
        rintro e w3 ⟨k, rfl, d1, d2, _, hr3, hg3⟩
        have H3 := Lib.hid (And.intro (H2.out.1.kept hg3 (fun k hk => by cases hk; exact hgw)) (And.intro hr3 (grown_trans' H2.out.2.2 hg3)))
        clear hr3 hg3 H2
        by_cases hk0 : k = 0
        · subst hk0
          go_wp2_with fail
          refine (callDrawWindow g _ 1 _ H3.out.2.1 (by omega)).mono ?_
          rintro e w4 ⟨x, rfl, hr4, hg4⟩
          have H4 := Lib.hid (And.intro (H3.out.1.kept hg4 (fun k hk => by cases hk; exact hgw)) (And.intro hr4 (grown_trans' H3.out.2.2 hg4)))
          clear hr4 hg4 H3
          go_wp2_with (at_builtin; refine wpList_app _ eiWin rfl (.tmp 29) (.tmp 32) rfl w.heap.size (H4.out.1.alloc _) (Rd.new (xs := [x]) _ _ _ rfl) rfl rfl rfl (by simp; omega) (by have := H4.out.2.2.size; simp; omega) ?_; intro v' w5 row hown5 hg5 hrow5)
          obtain ⟨A, c, hv, _, _⟩ := hown5.form
          subst hv
          go_ret
          refine ⟨A, c, xs ++ [x], rfl, hown5, by simp; omega, ?_, grown_new (grown_alloc H4.out.2.2 _) hg5 (fun k hk => (hrow5 k hk).1)⟩
          exact ((H4.out.2.1.alloc _).grown hg5 (fun k hk => by have := (hrow5 k hk).1; omega)).more (by omega)
        · have hk0' : (k == 0) = false := by rw [beq_eq_false_iff_ne]; exact hk0
          go_wp2_with (at_make; refine wpList_mkE (E := eWin) _ Try.underlying79 (z := .agg #[.int .i64 0, .int .i64 0, .bool false]) (m := 24) (by kernel_rfl) (by decide) (⟨0, 0, false⟩ : Win) rfl rfl _ _ rfl w.heap.size 13 13 13 rfl rfl rfl rfl (by decide) H3.out.2.2.size ?_; intro w4 hown4 hb4)
          go_ret
          refine ⟨_, _, List.replicate 13 (⟨0, 0, false⟩ : Win), rfl, hown4, by simp, (H3.out.2.1.next hb4).more (by omega), grown_below H3.out.2.2 hb4⟩

end Go.Proofs.Ytiodpnhokjkjaaa
