/- What the drawing functions leave: data of the right shape, whatever the bytes; first the words, then windows. -/
import Derived.Test.YtaeimnfdedcgkaaPick
import Derived.Test.YtaeimnfdedcgkaaWin
import Derived.Test.YtaeimnfdedcgkaaLib
import Derived.Deep.RegionHeld3
import Derived.Deep.DeepCutAuto
namespace Go.Proofs.Ytaeimnfdedcgkaa
open Go.RowKit Go.Sort

/-! ### Only block g, and what is new, has turned -/

theorem grown_trans' {a b c : World} {row : Option Nat} (h : a.grownBy b row) (k : b.grownBy c row) : a.grownBy c row :=
  ⟨k.os.trans h.os, k.tape.trans h.tape, k.output.trans h.output, Nat.le_trans h.size k.size, fun i hi hne => (k.block i (Nat.lt_of_lt_of_le hi h.size) hne).trans (h.block i hi hne)⟩
theorem grown_below {a b c : World} {row : Option Nat} (h : a.grownBy b row) (k : Below b.heap.size b c) : a.grownBy c row := grown_trans' h (grownBy_of_below k row)
theorem grown_alloc {a w : World} {row : Option Nat} (h : a.grownBy w row) (o : Obj) : a.grownBy (w.alloc o) row := grown_below h (below1 w o)
theorem grown_setNew {a w : World} {row : Option Nat} (h : a.grownBy w row) {p : Addr} (hp : a.heap.size ≤ p.block) (u : Value) : a.grownBy (w.setCell p u) row :=
  ⟨h.os, h.tape, h.output, by simpa [World.setCell] using h.size, fun i hi hne => (Below.heap_setCell w p u i (by omega)).trans (h.block i hi hne)⟩
/-- A step that writes one block that is new to a. -/
theorem grown_new {a b c : World} {row row' : Option Nat} (h : a.grownBy b row) (k : b.grownBy c row') (hr : ∀ k, row' = some k → a.heap.size ≤ k) : a.grownBy c row :=
  ⟨k.os.trans h.os, k.tape.trans h.tape, k.output.trans h.output, Nat.le_trans h.size k.size, fun i hi hne => (k.block i (Nat.lt_of_lt_of_le hi h.size) (fun e => by have := hr i e.symm; omega)).trans (h.block i hi hne)⟩

theorem Rdr.setNew {w : World} {g M : Nat} (h : Rdr w g M) {p : Addr} (hp : g < p.block) (u : Value) : Rdr (w.setCell p u) g M := h.keep ((Below.refl _ _).setCell (by omega) u)
theorem Rdr.grown {w w' : World} {g M : Nat} {row : Option Nat} (h : Rdr w g M) (hg : w.grownBy w' row) (hr : ∀ k, row = some k → g < k) : Rdr w' g M :=
  h.keep ((Below.refl _ _).grown hg (by have := h.lt; omega) (fun k hk => hr k hk))

/-! ### A slice that reads as a list, its array in the blocks lo .. hi - 1 -/

def RdI {α : Type} (E : Enc α) (w : World) (lo hi : Nat) (A : Option Addr) (xs : List α) : Prop :=
  xs ≠ [] → ∃ b off, A = some ⟨b, off, none⟩ ∧ lo ≤ b ∧ b < hi ∧ ∀ i x, xs[i]? = some x → ∀ j v, (E.enc x)[j]? = some v → w.cell? ⟨b, off + i * E.sz + j, none⟩ = some v

section
variable {α : Type} {E : Enc α} {w w' : World} {lo hi lo' hi' : Nat} {A : Option Addr} {xs : List α}
theorem RdI.rd (h : RdI E w lo hi A xs) : Rd E w hi A xs := fun hx => by
  obtain ⟨b, off, hA, _, h2, hc⟩ := h hx
  exact ⟨b, off, hA, h2, hc⟩
theorem RdI.full (h : RdI E w lo hi A xs) (hh : hi ≤ w.heap.size) : Rd E w w.heap.size A xs := h.rd.mono hh
theorem RdI.keep {row : Option Nat} (h : RdI E w lo hi A xs) (hg : w.grownBy w' row) (hr : ∀ k, row = some k → k < lo ∨ hi ≤ k) (hh : hi ≤ w.heap.size) : RdI E w' lo hi A xs := fun hx => by
  obtain ⟨b, off, hA, h1, h2, hc⟩ := h hx
  refine ⟨b, off, hA, h1, h2, fun i x hi' j v hj => (World.cell?_of_block (hg.block b (by omega) (fun e => ?_))).trans (hc i x hi' j v hj)⟩
  have := hr b e.symm
  omega
theorem RdI.next (h : RdI E w lo hi A xs) (hb : Below w.heap.size w w') (hh : hi ≤ w.heap.size) : RdI E w' lo hi A xs := h.keep (grownBy_of_below hb none) (fun _ h => by cases h) hh
theorem RdI.inLo {b off : Nat} (h : RdI E w lo hi (some ⟨b, off, none⟩) xs) (hx : 0 < xs.length) : lo ≤ b ∧ b < hi := by
  obtain ⟨b', off', hA, h1, h2, _⟩ := h (by intro e; simp [e] at hx)
  injection hA with hA
  injection hA with h3
  omega
theorem RdI.drew (h : RdI E w lo hi A xs) : RdI E w.drew lo hi A xs := h
theorem RdI.alloc (h : RdI E w lo hi A xs) (o : Obj) (hh : hi ≤ w.heap.size) : RdI E (w.alloc o) lo hi A xs := h.next (below1 w o) hh
theorem RdI.wide (h : RdI E w lo hi A xs) (h1 : lo' ≤ lo) (h2 : hi ≤ hi') : RdI E w lo' hi' A xs := fun hx => by
  obtain ⟨b, off, hA, g1, g2, hc⟩ := h hx
  exact ⟨b, off, hA, by omega, by omega, hc⟩
theorem RdI.of_own {e : TypeId} {n c : Nat} (h : Own E e w lo (.slice A n c) xs) : RdI E w lo w.heap.size A xs := fun hx => by
  obtain ⟨A', c', hv, _, hf⟩ := h.form
  obtain ⟨g, rfl, h1, h2⟩ := hf hx
  injection hv with hA
  subst hA
  obtain ⟨b, off, hA, _, hc⟩ := h.rd hx
  injection hA with hA
  injection hA with h3 h4
  subst h3; subst h4
  exact ⟨g, 0, rfl, h1, h2, hc⟩
end

/-! ### A box of two numbers and a truth value -/

def B3 (T : TypeId) (w : World) (b : Nat) : Prop := ∃ (x y : Int) (z : Bool), w.heap[b]? = some (.cells #[.int .i64 x, .int .i64 y, .bool z] T (0, 0))

section
variable {T : TypeId} {w w' : World} {b : Nat}
theorem B3.lt (h : B3 T w b) : b < w.heap.size := by obtain ⟨x, y, z, h⟩ := h; exact (Array.getElem?_eq_some_iff.1 h).1
theorem B3.new (w : World) (T : TypeId) (x y : Int) (z : Bool) : B3 T (w.alloc (.cells #[.int .i64 x, .int .i64 y, .bool z] T)) w.heap.size := ⟨x, y, z, heap_alloc_new w _⟩
theorem B3.keep {row : Option Nat} (h : B3 T w b) (hg : w.grownBy w' row) (hne : some b ≠ row) : B3 T w' b := by
  have hl := h.lt
  obtain ⟨x, y, z, h⟩ := h
  exact ⟨x, y, z, (hg.block b hl hne).trans h⟩
theorem B3.alloc (h : B3 T w b) (o : Obj) : B3 T (w.alloc o) b := h.keep (World.grownBy_alloc w o none) (by simp)
theorem B3.far (h : B3 T w b) {p : Addr} (hp : b ≠ p.block) (u : Value) : B3 T (w.setCell p u) b := by
  obtain ⟨x, y, z, h⟩ := h
  exact ⟨x, y, z, (Below.heap_setCell w p u b hp).trans h⟩
theorem B3.set0 (h : B3 T w b) (v : Int) : B3 T (w.setCell ⟨b, 0, none⟩ (.int .i64 v)) b := by
  obtain ⟨x, y, z, h⟩ := h
  exact ⟨v, y, z, by rw [heap_setCell_same w b 0 _ _ _ h]; rfl⟩
theorem B3.set1 (h : B3 T w b) (v : Int) : B3 T (w.setCell ⟨b, 1, none⟩ (.int .i64 v)) b := by
  obtain ⟨x, y, z, h⟩ := h
  exact ⟨x, v, z, by rw [heap_setCell_same w b 1 _ _ _ h]; rfl⟩
theorem B3.cells (h : B3 T w b) : ∃ (x y : Int) (z : Bool), w.cell? ⟨b, 0, none⟩ = some (.int .i64 x) ∧ w.cell? ⟨b, 1, none⟩ = some (.int .i64 y) ∧ w.cell? ⟨b, 2, none⟩ = some (.bool z) ∧
    w.frozen? ⟨b, 0, none⟩ = false ∧ w.frozen? ⟨b, 1, none⟩ = false ∧ w.frozen? ⟨b, 2, none⟩ = false := by
  obtain ⟨x, y, z, h⟩ := h
  exact ⟨x, y, z, cell_of_row w b 0 _ _ _ h, cell_of_row w b 1 _ _ _ h, cell_of_row w b 2 _ _ _ h, frozen_of_row w b 0 _ _ h, frozen_of_row w b 1 _ _ h, frozen_of_row w b 2 _ _ h⟩
end

/-! ### The reader is opened -/

set_option maxHeartbeats 400000 in
theorem callOpen (A : Option Addr) (c : Nat) (bs : List Int) (w : World) (hc : bs.length ≤ c) (hm : bs.length ≤ 1048576) (hr : Rd eU8 w w.heap.size A bs) (hby : ∀ x ∈ bs, 0 ≤ x ∧ x ≤ 255) :
    Calls Try.prog 44 #[.slice A bs.length c] w fun e w' => e = .returned (.pointer (some ⟨w.heap.size, 0, none⟩)) ∧ Rdr w' w.heap.size 0 ∧ Below w.heap.size w w' := by
  have main : ∀ (A : Option Addr) (c : Nat) (bs : List Int), bs.length ≤ 2000 → Rd eU8 w w.heap.size A bs → (∀ x ∈ bs, 0 ≤ x ∧ x ≤ 255) → Rdr (w.alloc (.cells #[.slice A bs.length c, .int .i64 0] 87)) w.heap.size 0 :=
    fun A c bs h1 h2 h3 => ⟨A, c, bs, 0, heap_alloc_new w _, by omega, by omega, h1, h2.below (below1 w _), h3⟩
  by_cases hl : bs.length ≤ 2000
  · have MM := Lib.hid (main A c bs hl hr hby)
    clear main hr hby
    go_enter Try.func44, Try.ntmps44
    go_wp2
    go_ret
    exact ⟨rfl, MM.out, below1 _ _⟩
  · have hA : ∃ ad, A = some ad := by
      obtain ⟨b, off, hA, _⟩ := hr (by intro e; simp [e] at hl)
      exact ⟨_, hA⟩
    obtain ⟨ad, rfl⟩ := hA
    have hlen : (bs.take 2000).length = 2000 := by rw [List.length_take]; omega
    have h2 := main (some ad) c (bs.take 2000) (by omega) (hr.take 2000) (fun x hx => hby x (List.mem_of_mem_take hx))
    rw [hlen] at h2
    have MM := Lib.hid h2
    have h3 : 2000 < bs.length := by omega
    clear main hr hby h2 hl
    go_enter Try.func44, Try.ntmps44
    go_wp2
    go_ret
    exact ⟨rfl, MM.out, below1 _ _⟩

/-- A box of three cells that is written whole. -/
theorem cells3_set {w : World} {b : Nat} {x y z x' y' z' : Value} (h0 : w.cell? ⟨b, 0, none⟩ = some x') (h1 : w.cell? ⟨b, 1, none⟩ = some y') (h2 : w.cell? ⟨b, 2, none⟩ = some z') :
    (w.setCell ⟨b, 0, none⟩ x).cell? ⟨b, 0, none⟩ = some x ∧ ((w.setCell ⟨b, 0, none⟩ x).setCell ⟨b, 1, none⟩ y).cell? ⟨b, 1, none⟩ = some y ∧ (((w.setCell ⟨b, 0, none⟩ x).setCell ⟨b, 1, none⟩ y).setCell ⟨b, 2, none⟩ z).cell? ⟨b, 2, none⟩ = some z := by
  refine ⟨World.cell?_setCell_same _ _ _ h0, World.cell?_setCell_same _ _ _ ((World.cell?_setCell_other _ _ _ _ (by simp)).trans h1), World.cell?_setCell_same _ _ _ ((World.cell?_setCell_other _ _ _ _ (by simp)).trans ((World.cell?_setCell_other _ _ _ _ (by simp)).trans h2))⟩

/-- The reader, what has turned since w0, and two boxes. -/
def S2 (T : TypeId) (w0 : World) (g M R X : Nat) (wx : World) : Prop := Rdr wx g M ∧ w0.grownBy wx (some g) ∧ B3 T wx R ∧ B3 T wx X

section
variable {T : TypeId} {w0 w w' : World} {g M M' R X : Nat}
theorem S2.more (h : S2 T w0 g M R X w) (hM : M ≤ M') : S2 T w0 g M' R X w := ⟨h.1.more hM, h.2⟩
/-- Behind a pick: 'Rdr w' g M'' and 'w.grownBy w' (some g)'. -/
theorem S2.step (h : S2 T w0 g M R X w) (hr : Rdr w' g M') (hg : w.grownBy w' (some g)) (hR : g < R) (hX : g < X) : S2 T w0 g M' R X w' :=
  ⟨hr, grown_trans' h.2.1 hg, h.2.2.1.keep hg (by simp; omega), h.2.2.2.keep hg (by simp; omega)⟩
theorem S2.drew (h : S2 T w0 g M R X w) : S2 T w0 g M R X w.drew := ⟨h.1, ⟨h.2.1.os, h.2.1.tape, h.2.1.output, h.2.1.size, h.2.1.block⟩, h.2.2.1, h.2.2.2⟩
theorem S2.alloc (h : S2 T w0 g M R X w) (o : Obj) : S2 T w0 g M R X (w.alloc o) := ⟨h.1.alloc o, grown_alloc h.2.1 o, h.2.2.1.alloc o, h.2.2.2.alloc o⟩
theorem S2.set0 (h : S2 T w0 g M R X w) (hg : g < w0.heap.size) (hX : w0.heap.size ≤ X) (hne : R ≠ X) (v : Int) : S2 T w0 g M R X (w.setCell ⟨X, 0, none⟩ (.int .i64 v)) :=
  ⟨h.1.setNew (by show g < X; omega) _, grown_setNew h.2.1 hX _, h.2.2.1.far hne _, h.2.2.2.set0 v⟩
theorem S2.set1 (h : S2 T w0 g M R X w) (hg : g < w0.heap.size) (hX : w0.heap.size ≤ X) (hne : R ≠ X) (v : Int) : S2 T w0 g M R X (w.setCell ⟨X, 1, none⟩ (.int .i64 v)) :=
  ⟨h.1.setNew (by show g < X; omega) _, grown_setNew h.2.1 hX _, h.2.2.1.far hne _, h.2.2.2.set1 v⟩
end

/-! ### Windows -/

set_option maxRecDepth 100000 in
set_option maxHeartbeats 3200000 in
theorem callDrawWindow (g M : Nat) (n : Int) (w : World) (hr : Rdr w g M) (hM : M ≤ 900000) :
    Calls Try.prog 85 #[.pointer (some ⟨g, 0, none⟩), .int .i64 n] w fun e w' => ∃ x : Win, e = .returned x.val ∧ Rdr w' g (M + 7) ∧ w.grownBy w' (some g) := by
  have hgw := hr.lt
  have HR := Lib.hid hr
  clear hr
  go_enter Try.func85, Try.ntmps85
  go_wp2_with fail
  refine (callPick g M _ _ (HR.out.alloc _) (by omega)).mono ?_
  rintro e w1 ⟨k1, rfl, a1, a2, _, hr1, hg1⟩
  have r1 : B3 39 w1 w.heap.size := (B3.new w _ 0 0 false).keep hg1 (by simp; omega)
  have G1 : w.grownBy w1 (some g) := grown_trans' (grown_alloc (World.grownBy.refl w _) _) hg1
  have H1 := Lib.hid (And.intro hr1 (And.intro r1 G1))
  clear hr1 hg1 r1 G1
  go_wp2_with fail
  refine (callPick g (M + 1) _ _ H1.out.1 (by omega)).mono ?_
  rintro e w2 ⟨k2, rfl, b1, b2, _, hr2, hg2⟩
  have r2 : B3 39 w2 w.heap.size := H1.out.2.1.keep hg2 (by simp; omega)
  have G2 : w.grownBy w2 (some g) := grown_trans' H1.out.2.2 hg2
  have H2 := Lib.hid (And.intro hr2 (And.intro r2 G2))
  clear hr2 hg2 r2 G2 H1
  go_wp2_with fail
  refine (callPick g (M + 1 + 1) _ _ H2.out.1 (by omega)).mono ?_
  rintro e w3 ⟨k3, rfl, c1, c2, _, hr3, hg3⟩
  have r3 : B3 39 w3 w.heap.size := H2.out.2.1.keep hg3 (by simp; omega)
  have G3 : w.grownBy w3 (some g) := grown_trans' H2.out.2.2 hg3
  have hs3 : w.heap.size < w3.heap.size := r3.lt
  have H3 : ∀ x y z, Hid (S2 39 w g (M + 3) w.heap.size w3.heap.size (w3.alloc (.cells #[.int .i64 x, .int .i64 y, .bool z] 39))) := fun x y z => ⟨hr3.alloc _, grown_alloc G3 _, r3.alloc _, B3.new w3 _ x y z⟩
  clear hr3 hg3 r3 G3 H2
  go_wp2_with fail
  refine (callOdd g (M + 3) _ _ (H3 _ _ _).out.1 (by omega)).mono ?_
  rintro e w4 ⟨o1, rfl, hr4, hg4⟩
  have H4 := Lib.hid ((H3 _ _ _).out.step hr4 hg4 (by omega) (by omega))
  clear hr4 hg4 H3
  go_upto_if 16 with (fail)
  go_cut [] (fun wx => S2 39 w g (M + 4) w.heap.size w3.heap.size wx)
  case first =>
    obtain ⟨x, y, z, e0, e1, e2, f0, f1, f2⟩ := H4.out.2.2.2.cells
    cases o1
    · go_wp2_with fail
      go_meet
      case rel => exact H4.out
    · go_wp2_with fail
      go_meet
      case rel => exact H4.out.set0 hgw (by omega) (by omega) _
  case rest =>
    have H5 := Lib.hid hcut
    clear hcut H4
    go_wp2_with fail
    refine (callOdd g (M + 4) _ _ H5.out.1 (by omega)).mono ?_
    rintro e w5 ⟨o2, rfl, hr5, hg5⟩
    have H6 := Lib.hid (H5.out.step hr5 hg5 (by omega) (by omega))
    clear hr5 hg5 H5
    go_upto_if 23 with (fail)
    go_cut [] (fun wx => S2 39 w g (M + 7) w.heap.size w3.heap.size wx)
    case first =>
      cases o2
      · go_wp2_with fail
        go_meet
        case rel => exact H6.out.more (by omega)
      · go_wp2_with fail
        refine (callPick g (M + 5) _ _ H6.out.1 (by omega)).mono ?_
        rintro e w6 ⟨k, rfl, d1, d2, _, hr6, hg6⟩
        have H7 := Lib.hid (H6.out.step hr6 hg6 (by omega) (by omega))
        clear hr6 hg6 H6
        obtain ⟨x, y, z, e0, e1, e2, f0, f1, f2⟩ := H7.out.2.2.2.cells
        by_cases hk0 : k = 0
        · subst hk0
          clear e0 e1 e2 f0 f1 f2
          go_wp2_with fail
          refine (callPick g (M + 6) _ _ (H7.out.alloc _).1 (by omega)).mono ?_
          rintro e w7 ⟨q, rfl, d3, d4, _, hr7, hg7⟩
          have H8 := Lib.hid ((H7.out.alloc _).step hr7 hg7 (by omega) (by omega))
          have hs6 : w3.heap.size < w6.heap.size := H7.out.2.2.2.lt
          have hc0 : w7.cell? ⟨w6.heap.size, 0, none⟩ = some (.int .i64 (-1)) := hg7.cell (by rw [World.cell?_alloc_new]; rfl) (by simp; omega)
          have hc1 : w7.cell? ⟨w6.heap.size, 1, none⟩ = some (.int .i64 4096) := hg7.cell (by rw [World.cell?_alloc_new]; rfl) (by simp; omega)
          clear hr7 hg7
          obtain ⟨x, y, z, e0, e1, e2, f0, f1, f2⟩ := H8.out.2.2.2.cells
          have hq : q = 0 ∨ q = 1 := by omega
          rcases hq with rfl | rfl
          · go_wp2_with fail
            go_meet
            case rel => exact (H8.out.set0 hgw (by omega) (by omega) _).more (by omega)
          · go_wp2_with fail
            go_meet
            case rel => exact (H8.out.set0 hgw (by omega) (by omega) _).more (by omega)
        · have hk0' : (k == 0) = false := by rw [beq_eq_false_iff_ne]; exact hk0
          by_cases hk1 : k = 1
          · subst hk1
            go_wp2_with fail
            go_meet
            case rel => exact (H7.out.set1 hgw (by omega) (by omega) _).more (by omega)
          · have hk1' : (k == 1) = false := by rw [beq_eq_false_iff_ne]; exact hk1
            go_wp2_with fail
            go_meet
            case rel => exact (H7.out.set1 hgw (by omega) (by omega) _).more (by omega)
    case rest =>
      have H9 := Lib.hid hcut
      clear hcut H6
      obtain ⟨x, y, z, e0, e1, e2, f0, f1, f2⟩ := H9.out.2.2.2.cells
      obtain ⟨x', y', z', e0', e1', e2', f0', f1', f2'⟩ := H9.out.2.2.1.cells
      obtain ⟨s0, s1, s2⟩ := cells3_set (x := .int .i64 x) (y := .int .i64 y) (z := .bool z) e0' e1' e2'
      go_wp2_with fail
      refine bodyPost_ret (v := (⟨x, y, z⟩ : Win).val) (by simp [results, Try.results85, go_sem, s0, s1, s2]) rfl ⟨⟨x, y, z⟩, rfl, ?_, ?_⟩
      · exact ((H9.out.1.setNew (by show g < w.heap.size; omega) _).setNew (by show g < w.heap.size; omega) _).setNew (by show g < w.heap.size; omega) _
      · exact grown_setNew (grown_setNew (grown_setNew H9.out.2.1 (by show w.heap.size ≤ w.heap.size; omega) _) (by show w.heap.size ≤ w.heap.size; omega) _) (by show w.heap.size ≤ w.heap.size; omega) _

set_option maxRecDepth 100000 in
set_option maxHeartbeats 3200000 in
theorem callDrawWindows (g M : Nat) (most n : Int) (w : World) (hr : Rdr w g M) (hM : M ≤ 800000) (h0 : 0 ≤ most) (h1 : most ≤ 20) :
    Calls Try.prog 68 #[.pointer (some ⟨g, 0, none⟩), .int .i64 most, .int .i64 n] w fun e w' =>
      ∃ A c xs, e = .returned (.slice A (xs : List Win).length c) ∧ Own eWin 39 w' w.heap.size (.slice A xs.length c) xs ∧ xs.length ≤ 40 ∧ Rdr w' g (M + 170) ∧ w.grownBy w' (some g) := by
  have hgw := hr.lt
  have HR := Lib.hid hr
  clear hr
  go_enter Try.func68, Try.ntmps68
  go_wp2_with fail
  refine (callPick g M _ _ (HR.out.alloc _) (by omega)).mono ?_
  rintro e w1 ⟨k1, rfl, a1, a2, _, hr1, hg1⟩
  obtain ⟨j0, rfl⟩ := Int.eq_ofNat_of_zero_le a1
  have hj0 : j0 ≤ 20 := by omega
  clear a1 a2
  have G1 : w.grownBy w1 (some g) := grown_trans' (grown_alloc (World.grownBy.refl w _) _) hg1
  have H1 := Lib.hid (And.intro hr1 G1)
  clear hr1 hg1 G1
  go_wp2_with fail
  go_loopw [7, 8] (fun v i wr => ∃ (j : Nat) (xs : List Win), i = .int .i64 j ∧ Own eWin 39 wr w.heap.size v xs ∧ xs.length + j ≤ j0 ∧ Rdr wr g (M + 1 + 7 * xs.length) ∧ w.grownBy wr (some g)) (fun _ i _ => (intOf i).toNat)
  case atStart => exact ⟨j0, [], rfl, Own.none_, by simp, H1.out.1, H1.out.2⟩
  case round =>
    obtain ⟨j, xs, rfl, hown, hlen, hrd, hgr⟩ := hrel
    have HH := Lib.hid (And.intro hown (And.intro hrd hgr))
    clear hown hrd hgr H1
    by_cases hj : 0 < j
    · obtain ⟨j', rfl⟩ : ∃ j', j = j' + 1 := ⟨j - 1, by omega⟩
      go_wp2_with fail
      refine (callDrawWindow g _ 0 _ HH.out.2.1 (by omega)).mono ?_
      rintro e w2 ⟨x, rfl, hr2, hg2⟩
      have H2 := Lib.hid (And.intro (HH.out.1.kept hg2 (fun k hk => by cases hk; exact hgw)) (And.intro hr2 (grown_trans' HH.out.2.2 hg2)))
      clear hr2 hg2 HH
      go_wp2_with (at_builtin; refine wpList_app _ eiWin rfl (.tmp 18) (.tmp 21) rfl w.heap.size (H2.out.1.alloc _) (Rd.new (xs := [x]) _ _ _ rfl) rfl rfl rfl (by simp; omega) (by have := H2.out.2.2.size; simp; omega) ?_; intro v' w3 row hown3 hg3 hrow3)
      go_roundw
      case rel =>
        refine ⟨j', xs ++ [x], rfl, hown3, by simp; omega, ?_, grown_new (grown_alloc H2.out.2.2 _) hg3 (fun k hk => (hrow3 k hk).1)⟩
        exact ((H2.out.2.1.alloc _).grown hg3 (fun k hk => by have := (hrow3 k hk).1; omega)).more (by simp; omega)
      case measure => simp [intOf]
    · have hj0 : j = 0 := by omega
      subst hj0
      go_wp2_with fail
      refine (callOdd g _ _ _ HH.out.2.1 (by omega)).mono ?_
      rintro e w2 ⟨o1, rfl, hr2, hg2⟩
      have H2 := Lib.hid (And.intro (HH.out.1.kept hg2 (fun k hk => by cases hk; exact hgw)) (And.intro hr2 (grown_trans' HH.out.2.2 hg2)))
      clear hr2 hg2 HH
      cases o1
      · obtain ⟨A, c, hv, _, _⟩ := H2.out.1.form
        subst hv
        go_wp2_with fail
        go_ret
        exact ⟨A, c, xs, rfl, H2.out.1, by omega, H2.out.2.1.more (by omega), H2.out.2.2⟩
      · go_wp2_with fail
        refine (callPick g _ _ _ H2.out.2.1 (by omega)).mono ?_
        rintro e w3 ⟨k, rfl, d1, d2, _, hr3, hg3⟩
        have H3 := Lib.hid (And.intro (H2.out.1.kept hg3 (fun k hk => by cases hk; exact hgw)) (And.intro hr3 (grown_trans' H2.out.2.2 hg3)))
        clear hr3 hg3 H2
        by_cases hk0 : k = 0
        · subst hk0
          go_wp2_with fail
          refine (callDrawWindow g _ 1 _ H3.out.2.1 (by omega)).mono ?_
          rintro e w4 ⟨x, rfl, hr4, hg4⟩
          have H4 := Lib.hid (And.intro (H3.out.1.kept hg4 (fun k hk => by cases hk; exact hgw)) (And.intro hr4 (grown_trans' H3.out.2.2 hg4)))
          clear hr4 hg4 H3
          go_wp2_with (at_builtin; refine wpList_app _ eiWin rfl (.tmp 29) (.tmp 32) rfl w.heap.size (H4.out.1.alloc _) (Rd.new (xs := [x]) _ _ _ rfl) rfl rfl rfl (by simp; omega) (by have := H4.out.2.2.size; simp; omega) ?_; intro v' w5 row hown5 hg5 hrow5)
          obtain ⟨A, c, hv, _, _⟩ := hown5.form
          subst hv
          go_ret
          refine ⟨A, c, xs ++ [x], rfl, hown5, by simp; omega, ?_, grown_new (grown_alloc H4.out.2.2 _) hg5 (fun k hk => (hrow5 k hk).1)⟩
          exact ((H4.out.2.1.alloc _).grown hg5 (fun k hk => by have := (hrow5 k hk).1; omega)).more (by omega)
        · have hk0' : (k == 0) = false := by rw [beq_eq_false_iff_ne]; exact hk0
          go_wp2_with (at_make; refine wpList_mkE (E := eWin) _ Try.underlying23 (z := .agg #[.int .i64 0, .int .i64 0, .bool false]) (m := 24) (by kernel_rfl) (by decide) (⟨0, 0, false⟩ : Win) rfl rfl _ _ rfl w.heap.size 13 13 13 rfl rfl rfl rfl (by decide) H3.out.2.2.size ?_; intro w4 hown4 hb4)
          go_ret
          refine ⟨_, _, List.replicate 13 (⟨0, 0, false⟩ : Win), rfl, hown4, by simp, (H3.out.2.1.next hb4).more (by omega), grown_below H3.out.2.2 hb4⟩
set_option maxRecDepth 100000 in
set_option maxHeartbeats 3200000 in
theorem callDrawTransfer (g M : Nat) (n : Int) (w : World) (hr : Rdr w g M) (hM : M ≤ 900000) :
    Calls Try.prog 65 #[.pointer (some ⟨g, 0, none⟩), .int .i64 n] w fun e w' => ∃ x : Trn, e = .returned x.val ∧ Rdr w' g (M + 7) ∧ w.grownBy w' (some g) := by
  have hgw := hr.lt
  have HR := Lib.hid hr
  clear hr
  go_enter Try.func65, Try.ntmps65
  go_wp2_with fail
  refine (callPick g M _ _ (HR.out.alloc _) (by omega)).mono ?_
  rintro e w1 ⟨k1, rfl, a1, a2, _, hr1, hg1⟩
  have r1 : B3 25 w1 w.heap.size := (B3.new w _ 0 0 false).keep hg1 (by simp; omega)
  have G1 : w.grownBy w1 (some g) := grown_trans' (grown_alloc (World.grownBy.refl w _) _) hg1
  have H1 := Lib.hid (And.intro hr1 (And.intro r1 G1))
  clear hr1 hg1 r1 G1
  go_wp2_with fail
  refine (callPick g (M + 1) _ _ H1.out.1 (by omega)).mono ?_
  rintro e w2 ⟨k2, rfl, b1, b2, _, hr2, hg2⟩
  have r2 : B3 25 w2 w.heap.size := H1.out.2.1.keep hg2 (by simp; omega)
  have G2 : w.grownBy w2 (some g) := grown_trans' H1.out.2.2 hg2
  have H2 := Lib.hid (And.intro hr2 (And.intro r2 G2))
  clear hr2 hg2 r2 G2 H1
  go_wp2_with fail
  refine (callPick g (M + 1 + 1) _ _ H2.out.1 (by omega)).mono ?_
  rintro e w3 ⟨k3, rfl, c1, c2, _, hr3, hg3⟩
  have r3 : B3 25 w3 w.heap.size := H2.out.2.1.keep hg3 (by simp; omega)
  have G3 : w.grownBy w3 (some g) := grown_trans' H2.out.2.2 hg3
  have hs3 : w.heap.size < w3.heap.size := r3.lt
  have H3 : ∀ x y z, Hid (S2 25 w g (M + 3) w.heap.size w3.heap.size (w3.alloc (.cells #[.int .i64 x, .int .i64 y, .bool z] 25))) := fun x y z => ⟨hr3.alloc _, grown_alloc G3 _, r3.alloc _, B3.new w3 _ x y z⟩
  clear hr3 hg3 r3 G3 H2
  go_wp2_with fail
  refine (callOdd g (M + 3) _ _ (H3 _ _ _).out.1 (by omega)).mono ?_
  rintro e w4 ⟨o1, rfl, hr4, hg4⟩
  have H4 := Lib.hid ((H3 _ _ _).out.step hr4 hg4 (by omega) (by omega))
  clear hr4 hg4 H3
  go_upto_if 16 with (fail)
  go_cut [] (fun wx => S2 25 w g (M + 4) w.heap.size w3.heap.size wx)
  case first =>
    obtain ⟨x, y, z, e0, e1, e2, f0, f1, f2⟩ := H4.out.2.2.2.cells
    cases o1
    · go_wp2_with fail
      go_meet
      case rel => exact H4.out
    · go_wp2_with fail
      go_meet
      case rel => exact H4.out.set0 hgw (by omega) (by omega) _
  case rest =>
    have H5 := Lib.hid hcut
    clear hcut H4
    go_wp2_with fail
    refine (callOdd g (M + 4) _ _ H5.out.1 (by omega)).mono ?_
    rintro e w5 ⟨o2, rfl, hr5, hg5⟩
    have H6 := Lib.hid (H5.out.step hr5 hg5 (by omega) (by omega))
    clear hr5 hg5 H5
    go_upto_if 23 with (fail)
    go_cut [] (fun wx => S2 25 w g (M + 7) w.heap.size w3.heap.size wx)
    case first =>
      cases o2
      · go_wp2_with fail
        go_meet
        case rel => exact H6.out.more (by omega)
      · go_wp2_with fail
        refine (callPick g (M + 5) _ _ H6.out.1 (by omega)).mono ?_
        rintro e w6 ⟨k, rfl, d1, d2, _, hr6, hg6⟩
        have H7 := Lib.hid (H6.out.step hr6 hg6 (by omega) (by omega))
        clear hr6 hg6 H6
        obtain ⟨x, y, z, e0, e1, e2, f0, f1, f2⟩ := H7.out.2.2.2.cells
        by_cases hk0 : k = 0
        · subst hk0
          clear e0 e1 e2 f0 f1 f2
          go_wp2_with fail
          refine (callPick g (M + 6) _ _ (H7.out.alloc _).1 (by omega)).mono ?_
          rintro e w7 ⟨q, rfl, d3, d4, _, hr7, hg7⟩
          have H8 := Lib.hid ((H7.out.alloc _).step hr7 hg7 (by omega) (by omega))
          have hs6 : w3.heap.size < w6.heap.size := H7.out.2.2.2.lt
          have hc0 : w7.cell? ⟨w6.heap.size, 0, none⟩ = some (.int .i64 0) := hg7.cell (by rw [World.cell?_alloc_new]; rfl) (by simp; omega)
          have hc1 : w7.cell? ⟨w6.heap.size, 1, none⟩ = some (.int .i64 65) := hg7.cell (by rw [World.cell?_alloc_new]; rfl) (by simp; omega)
          clear hr7 hg7
          obtain ⟨x, y, z, e0, e1, e2, f0, f1, f2⟩ := H8.out.2.2.2.cells
          have hq : q = 0 ∨ q = 1 := by omega
          rcases hq with rfl | rfl
          · go_wp2_with fail
            go_meet
            case rel => exact (H8.out.set1 hgw (by omega) (by omega) _).more (by omega)
          · go_wp2_with fail
            go_meet
            case rel => exact (H8.out.set1 hgw (by omega) (by omega) _).more (by omega)
        · have hk0' : (k == 0) = false := by rw [beq_eq_false_iff_ne]; exact hk0
          by_cases hk1 : k = 1
          · subst hk1
            go_wp2_with fail
            go_meet
            case rel => exact (H7.out.set0 hgw (by omega) (by omega) _).more (by omega)
          · have hk1' : (k == 1) = false := by rw [beq_eq_false_iff_ne]; exact hk1
            go_wp2_with fail
            go_meet
            case rel => exact (H7.out.set0 hgw (by omega) (by omega) _).more (by omega)
    case rest =>
      have H9 := Lib.hid hcut
      clear hcut H6
      obtain ⟨x, y, z, e0, e1, e2, f0, f1, f2⟩ := H9.out.2.2.2.cells
      obtain ⟨x', y', z', e0', e1', e2', f0', f1', f2'⟩ := H9.out.2.2.1.cells
      obtain ⟨s0, s1, s2⟩ := cells3_set (x := .int .i64 x) (y := .int .i64 y) (z := .bool z) e0' e1' e2'
      go_wp2_with fail
      refine bodyPost_ret (v := (⟨x, y, z⟩ : Trn).val) (by simp [results, Try.results65, go_sem, s0, s1, s2]) rfl ⟨⟨x, y, z⟩, rfl, ?_, ?_⟩
      · exact ((H9.out.1.setNew (by show g < w.heap.size; omega) _).setNew (by show g < w.heap.size; omega) _).setNew (by show g < w.heap.size; omega) _
      · exact grown_setNew (grown_setNew (grown_setNew H9.out.2.1 (by show w.heap.size ≤ w.heap.size; omega) _) (by show w.heap.size ≤ w.heap.size; omega) _) (by show w.heap.size ≤ w.heap.size; omega) _

set_option maxRecDepth 100000 in
set_option maxHeartbeats 3200000 in
theorem callAccess (g M : Nat) (w : World) (hr : Rdr w g M) (hM : M ≤ 700000) :
    Calls Try.prog 43 #[.pointer (some ⟨g, 0, none⟩)] w fun e w' =>
      ∃ A c xs t, e = .returned (.tuple #[.slice A (xs : List Win).length c, (t : Trn).val]) ∧ RdI eWin w' w.heap.size w'.heap.size A xs ∧ xs.length ≤ c ∧ xs.length ≤ 40 ∧ w.grownBy w' (some g) := by
  have hgw := hr.lt
  have HR := Lib.hid hr
  clear hr
  go_enter Try.func43, Try.ntmps43
  go_wp2_with fail
  refine (callDrawWindows g M 4 14 _ (HR.out.alloc _) (by omega) (by omega) (by omega)).mono ?_
  rintro e w1 ⟨A, c, xs, rfl, hown, hlen, hr1, hg1⟩
  obtain ⟨A', c', hv, hlc, _⟩ := hown.form
  injection hv with hA _ hc
  subst hA; subst hc
  have R1 : B3 25 w1 w.heap.size := (B3.new w _ 0 0 false).keep hg1 (by simp; omega)
  have G1 : w.grownBy w1 (some g) := grown_trans' (grown_alloc (World.grownBy.refl w _) _) hg1
  have I1 : RdI eWin w1 (w.heap.size + 1) w1.heap.size A xs := by have := RdI.of_own hown; simpa using this
  have H1 := Lib.hid (And.intro hr1 (And.intro R1 (And.intro G1 I1)))
  have hs1 : w.heap.size < w1.heap.size := R1.lt
  clear hr1 hg1 R1 G1 I1 hown
  go_wp2_with fail
  refine (callDrawTransfer g _ 12 _ H1.out.1 (by omega)).mono ?_
  rintro e w2 ⟨t, rfl, hr2, hg2⟩
  have hs2 : w1.heap.size ≤ w2.heap.size := hg2.size
  have H2 : ∀ x y z, Hid (S2 25 w g (M + 177) w.heap.size w2.heap.size (w2.alloc (.cells #[.int .i64 x, .int .i64 y, .bool z] 25)) ∧ RdI eWin (w2.alloc (.cells #[.int .i64 x, .int .i64 y, .bool z] 25)) (w.heap.size + 1) w1.heap.size A xs) := fun x y z =>
    ⟨⟨hr2.alloc _, grown_alloc (grown_trans' H1.out.2.2.1 hg2) _, (H1.out.2.1.keep hg2 (by simp; omega)).alloc _, B3.new w2 _ x y z⟩, (H1.out.2.2.2.keep hg2 (fun k hk => by cases hk; left; omega) (Nat.le_refl _)).alloc _ hs2⟩
  clear hr2 hg2 H1
  go_upto_region 3 with (fail)
  go_cut [23] (fun s23 wx => ∃ b : Bool, s23 = .bool b ∧ (b = true → 0 < xs.length) ∧ S2 25 w g (M + 178) w.heap.size w2.heap.size wx ∧ RdI eWin wx (w.heap.size + 1) w1.heap.size A xs)
  case first =>
    by_cases hx : 0 < xs.length
    · have hd : decide ((0 : Int) < (xs.length : Int)) = true := by simpa using hx
      go_wp2_with fail
      refine (callPick g _ _ _ (H2 _ _ _).out.1.1 (by omega)).mono ?_
      rintro e w3 ⟨k, rfl, d1, d2, _, hr3, hg3⟩
      have H3 := Lib.hid (And.intro ((H2 _ _ _).out.1.step hr3 hg3 (by omega) (by omega)) ((H2 _ _ _).out.2.keep hg3 (fun k hk => by cases hk; left; omega) (by simp; omega)))
      clear hr3 hg3 H2
      by_cases hk0 : k = 0
      · subst hk0
        have hs3 : w1.heap.size ≤ w3.heap.size := by have := H3.out.1.2.2.2.lt; omega
        obtain ⟨b, off, rfl, hbB, h1, h2, h3⟩ := (H3.out.2.full hs3).at3 rfl hx rfl
        simp only [Nat.zero_mul, Nat.add_zero] at h1 h2 h3
        go_wp2_with fail
        refine (callL1Window xs[0] _).mono ?_
        rintro e w4 ⟨rfl, hb4⟩
        have H4 := Lib.hid (And.intro (H3.out.1.step (H3.out.1.1.next hb4) (grownBy_of_below hb4 _) (by omega) (by omega)) (H3.out.2.next hb4 hs3))
        clear hb4 h1 h2 h3
        go_wp2_with fail
        go_meet
        case rel => exact ⟨_, rfl, fun _ => hx, H4.out.1, H4.out.2⟩
      · have hk0' : (k == 0) = false := by rw [beq_eq_false_iff_ne]; exact hk0
        go_wp2_with fail
        go_meet
        case rel => exact ⟨false, rfl, (fun h => by cases h), H3.out.1, H3.out.2⟩
    · have hd : decide ((0 : Int) < (xs.length : Int)) = false := by simpa using hx
      go_wp2_with fail
      go_meet
      case rel => exact ⟨false, rfl, (fun h => by cases h), (H2 _ _ _).out.1.more (by omega), (H2 _ _ _).out.2⟩
  case rest =>
    obtain ⟨b, rfl, hbx, hs, hrd⟩ := hcut
    have H5 := Lib.hid (And.intro hs hrd)
    have HBX := Lib.hid hbx
    have hs5 : w1.heap.size ≤ wc.heap.size := by have := hs.2.2.2.lt; omega
    clear hs hrd hbx H2
    go_upto_if 23 with (fail)
    go_cut [] (fun wx => S2 25 w g (M + 180) w.heap.size w2.heap.size wx ∧ RdI eWin wx (w.heap.size + 1) w1.heap.size A xs)
    case first =>
      cases b
      · go_wp2_with fail
        go_meet
        case rel => exact ⟨H5.out.1.more (by omega), H5.out.2⟩
      · have hx := HBX.out rfl
        obtain ⟨b, off, rfl, hbB, h1, h2, h3⟩ := (H5.out.2.full hs5).at3 rfl hx rfl
        simp only [Nat.zero_mul, Nat.add_zero] at h1 h2 h3
        obtain ⟨x, y, z, e0, e1, e2, f0, f1, f2⟩ := H5.out.1.2.2.2.cells
        have hlo := (RdI.inLo H5.out.2 hx).1
        have hhi := (RdI.inLo H5.out.2 hx).2
        go_wp2_with fail
        go_cut [] (fun wx => S2 25 w g (M + 179) w.heap.size w2.heap.size wx ∧ RdI eWin wx (w.heap.size + 1) w1.heap.size (some ⟨b, off, none⟩) xs)
        case first =>
          go_region_held3 (fun w' => w'.cell? ⟨b, off, none⟩ = some (.int .i64 xs[0].base) ∧ w'.cell? ⟨b, off + 1, none⟩ = some (.int .i64 xs[0].size)) (first | exact ⟨h1, h2⟩ | (refine ⟨?_, ?_⟩ <;> assumption) | (refine ⟨?_, ?_⟩ <;> (rw [World.cell?_setCell_other _ _ _ _ (fun e => by injection e with e1 _ _; omega)]; assumption)) | go_keep)
            (first | (go_at_call 53; refine (callPick g _ _ _ H5.out.1.1.drew (by omega)).mono ?_; rintro e w6 ⟨k, rfl, d1, d2, _, hr6, hg6⟩; have n1 : w6.cell? ⟨b, off, none⟩ = some (.int .i64 xs[0].base) := hg6.cell h1 (by simp; omega); have n2 : w6.cell? ⟨b, off + 1, none⟩ = some (.int .i64 xs[0].size) := hg6.cell h2 (by simp; omega); obtain ⟨x', y', z', e0', e1', e2', f0', f1', f2'⟩ := (H5.out.1.drew.step hr6 hg6 (by omega) (by omega)).2.2.2.cells))
          all_goals
            go_wp2_with fail
            go_meet
            case rel => exact ⟨(H5.out.1.drew.step hr6 hg6 (by omega) (by omega)).set0 hgw (by omega) (by omega) _, (H5.out.2.drew.keep hg6 (fun k hk => by cases hk; left; omega) hs5).keep (grown_set 0 _) (fun k hk => by cases hk; right; omega) (by have := hg6.size; simp at this; omega)⟩
        case rest =>
          obtain ⟨hs, hrd⟩ := hcut
          have H7 := Lib.hid (And.intro hs hrd)
          clear h1 h2 h3 e0 e1 e2 f0 f1 f2 hs hrd
          have hs7 : w1.heap.size ≤ wc.heap.size := by have := H7.out.1.2.2.2.lt; omega
          obtain ⟨b', off', hA, hbB, h1, h2, h3⟩ := (H7.out.2.full hs7).at3 rfl hx rfl
          simp only [Option.some.injEq, Addr.mk.injEq, and_true] at hA
          obtain ⟨rfl, rfl⟩ := hA
          simp only [Nat.zero_mul, Nat.add_zero] at h1 h2 h3
          go_wp2_with fail
          all_goals
            refine (callPick g _ _ _ H7.out.1.1 (by omega)).mono ?_
            rintro e w6 ⟨k, rfl, d1, d2, _, hr6, hg6⟩
            have H8 := Lib.hid (And.intro (H7.out.1.step hr6 hg6 (by omega) (by omega)) (H7.out.2.keep hg6 (fun k hk => by cases hk; left; omega) hs7))
            have hs8 : w1.heap.size ≤ w6.heap.size := Nat.le_trans hs7 hg6.size
            clear hr6 hg6 h1 h2 h3 H7
            obtain ⟨x, y, z, e0, e1, e2, f0, f1, f2⟩ := H8.out.1.2.2.2.cells
            go_wp2_with fail
            all_goals go_meet
            all_goals exact ⟨H8.out.1.set1 hgw (by omega) (by omega) _, H8.out.2.keep (grown_set 1 _) (fun k hk => by cases hk; right; omega) hs8⟩
    case rest =>
      obtain ⟨hs, hrd⟩ := hcut
      have H9 := Lib.hid (And.intro hs hrd)
      have hs9 : w1.heap.size ≤ wc.heap.size := by have := hs.2.2.2.lt; omega
      clear hs hrd H5
      obtain ⟨x, y, z, e0, e1, e2, f0, f1, f2⟩ := H9.out.1.2.2.2.cells
      obtain ⟨x', y', z', e0', e1', e2', f0', f1', f2'⟩ := H9.out.1.2.2.1.cells
      obtain ⟨s0, s1, s2⟩ := cells3_set (w := wc) (x := .int .i64 x) (y := .int .i64 y) (z := .bool z) e0' e1' e2'
      go_wp2_with fail
      go_region
      all_goals (try go_wp2)
      all_goals
        refine bodyPost_ret (v := .tuple #[.slice A xs.length c, (⟨x, y, z⟩ : Trn).val]) (by simp [results, Try.results43, go_sem, s0, s1, s2]) rfl ⟨A, c, xs, ⟨x, y, z⟩, rfl, ?_, hlc, hlen, ?_⟩
        · have q1 := H9.out.2.keep (w' := wc.setCell ⟨w.heap.size, 0, none⟩ (.int .i64 x)) (grown_set 0 _) (fun k hk => by cases hk; left; omega) hs9
          have q2 := q1.keep (w' := (wc.setCell ⟨w.heap.size, 0, none⟩ (.int .i64 x)).setCell ⟨w.heap.size, 1, none⟩ (.int .i64 y)) (grown_set 1 _) (fun k hk => by cases hk; left; omega) (by simpa using hs9)
          have q3 := q2.keep (w' := ((wc.setCell ⟨w.heap.size, 0, none⟩ (.int .i64 x)).setCell ⟨w.heap.size, 1, none⟩ (.int .i64 y)).setCell ⟨w.heap.size, 2, none⟩ (.bool z)) (grown_set 2 _) (fun k hk => by cases hk; left; omega) (by simpa using hs9)
          exact q3.drew.wide (by omega) (by simpa using hs9)
        · have q := grown_setNew (grown_setNew (grown_setNew H9.out.1.2.1 (p := ⟨w.heap.size, 0, none⟩) (by show w.heap.size ≤ w.heap.size; omega) (.int .i64 x)) (p := ⟨w.heap.size, 1, none⟩) (by show w.heap.size ≤ w.heap.size; omega) (.int .i64 y)) (p := ⟨w.heap.size, 2, none⟩) (by show w.heap.size ≤ w.heap.size; omega) (.bool z)
          exact ⟨q.os, q.tape, q.output, q.size, q.block⟩

set_option maxHeartbeats 800000 in
theorem callDrawTransferAllowed (A : Option Addr) (c : Nat) (bs : List Int) (w : World) (hc : bs.length ≤ c) (hm : bs.length ≤ 1048576) (hr : Rd eU8 w w.heap.size A bs) (hby : ∀ x ∈ bs, 0 ≤ x ∧ x ≤ 255) :
    Calls Try.prog 12 #[.slice A bs.length c] w fun e w' =>
      ∃ A c xs t, e = .returned (.tuple #[.slice A (xs : List Win).length c, (t : Trn).val]) ∧ Rd eWin w' w'.heap.size A xs ∧ xs.length ≤ 40 ∧ Below w.heap.size w w' := by
  go_enter Try.func12, Try.ntmps12
  go_wp2_with fail
  refine (callOpen A c bs _ hc hm (hr.alloc _) hby).mono ?_
  rintro e w1 ⟨rfl, hr1, hb1⟩
  have hr1' : Rdr w1 (w.heap.size + 1) 0 := by simpa using hr1
  have hs1 : w.heap.size + 1 < w1.heap.size := hr1'.lt
  have R1 : B3 25 w1 w.heap.size := (B3.new w _ 0 0 false).keep (grownBy_of_below hb1 none) (by simp)
  have HB := Lib.hid (bel_trans (below1 _ _) hb1)
  have HR := Lib.hid (And.intro hr1' R1)
  clear hr1 hr1' hb1 R1
  go_wp2_with fail
  refine (callAccess (w.heap.size + 1) 0 _ HR.out.1 (by omega)).mono ?_
  rintro e w2 ⟨A, c, xs, t, rfl, hrd, _, hlen, hg2⟩
  have R2 := HR.out.2.keep hg2 (by simp)
  obtain ⟨x', y', z', e0', e1', e2', f0', f1', f2'⟩ := R2.cells
  obtain ⟨s0, s1, s2⟩ := cells3_set (w := w2) (x := .int .i64 t.place) (y := .int .i64 t.count) (z := .bool t.write) e0' e1' e2'
  have B2 : Below w.heap.size w w2 := HB.out.trans ((Below.refl _ _).grown hg2 (by omega) (fun k hk => by cases hk; omega))
  have H2 := Lib.hid (And.intro hrd B2)
  clear hrd hg2 R2 B2
  go_wp2_with fail
  refine bodyPost_ret (v := .tuple #[.slice A xs.length c, t.val]) (by simp [results, Try.results12, go_sem, s0, s1, s2]) rfl ⟨A, c, xs, t, rfl, ?_, hlen, ?_⟩
  · have q1 := H2.out.1.keep (w' := w2.setCell ⟨w.heap.size, 0, none⟩ (.int .i64 t.place)) (grown_set 0 _) (fun k hk => by cases hk; left; omega) (Nat.le_refl _)
    have q2 := q1.keep (w' := (w2.setCell ⟨w.heap.size, 0, none⟩ (.int .i64 t.place)).setCell ⟨w.heap.size, 1, none⟩ (.int .i64 t.count)) (grown_set 1 _) (fun k hk => by cases hk; left; omega) (by simp)
    have q3 := q2.keep (w' := ((w2.setCell ⟨w.heap.size, 0, none⟩ (.int .i64 t.place)).setCell ⟨w.heap.size, 1, none⟩ (.int .i64 t.count)).setCell ⟨w.heap.size, 2, none⟩ (.bool t.write)) (grown_set 2 _) (fun k hk => by cases hk; left; omega) (by simp)
    have q4 := q3.rd
    simpa using q4
  · exact ((H2.out.2.setCell (by show w.heap.size ≤ w.heap.size; omega) _).setCell (by show w.heap.size ≤ w.heap.size; omega) _).setCell (by show w.heap.size ≤ w.heap.size; omega) _
set_option maxHeartbeats 800000 in
theorem callDrawTransferPart (A : Option Addr) (c : Nat) (bs : List Int) (w : World) (hc : bs.length ≤ c) (hm : bs.length ≤ 1048576) (hr : Rd eU8 w w.heap.size A bs) (hby : ∀ x ∈ bs, 0 ≤ x ∧ x ≤ 255) :
    Calls Try.prog 26 #[.slice A bs.length c] w fun e w' =>
      ∃ A c xs t, e = .returned (.tuple #[.slice A (xs : List Win).length c, (t : Trn).val]) ∧ Rd eWin w' w'.heap.size A xs ∧ xs.length ≤ 40 ∧ Below w.heap.size w w' := by
  go_enter Try.func26, Try.ntmps26
  go_wp2_with fail
  refine (callOpen A c bs _ hc hm (hr.alloc _) hby).mono ?_
  rintro e w1 ⟨rfl, hr1, hb1⟩
  have hr1' : Rdr w1 (w.heap.size + 1) 0 := by simpa using hr1
  have hs1 : w.heap.size + 1 < w1.heap.size := hr1'.lt
  have R1 : B3 25 w1 w.heap.size := (B3.new w _ 0 0 false).keep (grownBy_of_below hb1 none) (by simp)
  have HB := Lib.hid (bel_trans (below1 _ _) hb1)
  have HR := Lib.hid (And.intro hr1' R1)
  clear hr1 hr1' hb1 R1
  go_wp2_with fail
  refine (callAccess (w.heap.size + 1) 0 _ HR.out.1 (by omega)).mono ?_
  rintro e w2 ⟨A, c, xs, t, rfl, hrd, _, hlen, hg2⟩
  have R2 := HR.out.2.keep hg2 (by simp)
  obtain ⟨x', y', z', e0', e1', e2', f0', f1', f2'⟩ := R2.cells
  obtain ⟨s0, s1, s2⟩ := cells3_set (w := w2) (x := .int .i64 t.place) (y := .int .i64 t.count) (z := .bool t.write) e0' e1' e2'
  have B2 : Below w.heap.size w w2 := HB.out.trans ((Below.refl _ _).grown hg2 (by omega) (fun k hk => by cases hk; omega))
  have H2 := Lib.hid (And.intro hrd B2)
  clear hrd hg2 R2 B2
  go_wp2_with fail
  refine bodyPost_ret (v := .tuple #[.slice A xs.length c, t.val]) (by simp [results, Try.results26, go_sem, s0, s1, s2]) rfl ⟨A, c, xs, t, rfl, ?_, hlen, ?_⟩
  · have q1 := H2.out.1.keep (w' := w2.setCell ⟨w.heap.size, 0, none⟩ (.int .i64 t.place)) (grown_set 0 _) (fun k hk => by cases hk; left; omega) (Nat.le_refl _)
    have q2 := q1.keep (w' := (w2.setCell ⟨w.heap.size, 0, none⟩ (.int .i64 t.place)).setCell ⟨w.heap.size, 1, none⟩ (.int .i64 t.count)) (grown_set 1 _) (fun k hk => by cases hk; left; omega) (by simp)
    have q3 := q2.keep (w' := ((w2.setCell ⟨w.heap.size, 0, none⟩ (.int .i64 t.place)).setCell ⟨w.heap.size, 1, none⟩ (.int .i64 t.count)).setCell ⟨w.heap.size, 2, none⟩ (.bool t.write)) (grown_set 2 _) (fun k hk => by cases hk; left; omega) (by simp)
    have q4 := q3.rd
    simpa using q4
  · exact ((H2.out.2.setCell (by show w.heap.size ≤ w.heap.size; omega) _).setCell (by show w.heap.size ≤ w.heap.size; omega) _).setCell (by show w.heap.size ≤ w.heap.size; omega) _
end Go.Proofs.Ytaeimnfdedcgkaa
