/- What DrawHoldSend leaves. -/
import Derived.Test.YtonhkadbiepedaaDrq
import Derived.Test.YtonhkadbiepedaaRow
namespace Go.Proofs.Ytonhkadbiepedaa
open Go.RowKit Go.Sort

theorem kp0 {u : World} {X R : Nat} {x v : Value} (h : u.cell? ⟨X, 0, none⟩ = some x) (hne : R < X) : (u.setCell ⟨R, 0, none⟩ v).cell? ⟨X, 0, none⟩ = some x :=
  (World.cell?_setCell_other _ _ _ _ (fun e => by injection e with e1 _ _; omega)).trans h
theorem kp1 {u : World} {X R : Nat} {x v : Value} {o : Obj} (h : u.cell? ⟨X, 0, none⟩ = some x) (hne : R < X) : ((u.setCell ⟨R, 0, none⟩ v).alloc o).cell? ⟨X, 0, none⟩ = some x :=
  ((below1 _ o).cell (p := ⟨X, 0, none⟩) (block_lt_of_cell (kp0 h hne))).trans (kp0 h hne)
theorem kp2 {u : World} {X R : Nat} {x v : Value} {o o' : Obj} (h : u.cell? ⟨X, 0, none⟩ = some x) (hne : R < X) : (((u.setCell ⟨R, 0, none⟩ v).alloc o).alloc o').cell? ⟨X, 0, none⟩ = some x :=
  ((below1 _ o').cell (p := ⟨X, 0, none⟩) (block_lt_of_cell (kp1 (o := o) h hne))).trans (kp1 h hne)

theorem kq0 {u : World} {X R k : Nat} {x v : Value} (h : u.cell? ⟨X, k, none⟩ = some x) (hne : R < X) : (u.setCell ⟨R, 0, none⟩ v).cell? ⟨X, k, none⟩ = some x :=
  (World.cell?_setCell_other _ _ _ _ (fun e => by injection e with e1 _ _; omega)).trans h
theorem lit_get {xs : List Value} {k : Nat} {v : Value} (h : xs.toArray[k]? = some v) (hk : k < xs.length) : xs[k]'hk = v := by
  rw [List.getElem?_toArray, List.getElem?_eq_getElem hk] at h
  injection h

def ld28 : Op := .load 3 (.tmp 27)
def ld30 : Op := .load 3 (.tmp 29)
set_option maxRecDepth 100000 in
set_option maxHeartbeats 6400000 in
theorem callDrawHoldSend (A : Option Addr) (c : Nat) (bs : List Int) (w : World) (hc : bs.length ≤ c) (hm : bs.length ≤ 1048576) (hr : Rd eU8 w w.heap.size A bs) (hby : ∀ x ∈ bs, 0 ≤ x ∧ x ≤ 255) :
    Calls Try.prog 29 #[.slice A bs.length c] w fun e w' =>
      ∃ A c h kind size m, e = .returned (.tuple #[.agg #[.slice A (h : List Int).length c], .int .i64 kind, .int .i64 size, .int .i64 m]) ∧ Rd eInt w' w'.heap.size A h ∧ h.length ≤ c ∧ h.length ≤ 8 ∧ Below w.heap.size w w' := by
  go_enter Try.func29, Try.ntmps29
  go_wp2_with fail
  refine (callOpen A c bs _ hc hm (hr.alloc _) hby).mono ?_
  rintro e w0 ⟨rfl, hr1, hb1⟩
  have hr1' : Rdr w0 (w.heap.size + 1) 0 := by simpa using hr1
  have HK0 : Hid (w0.heap[w.heap.size]? = some (.cells #[.slice none 0 0] 25 (0, 0))) := blkc (heap_alloc_new w _) hb1
  have HB := Lib.hid (bel_trans (below1 _ _) hb1)
  have HR := Lib.hid hr1'
  have hs0 : w.heap.size + 1 < w0.heap.size := hr1'.lt
  clear hr1 hr1' hb1 hr
  obtain ⟨g, hg⟩ : ∃ g, g = w.heap.size + 1 := ⟨_, rfl⟩
  have hgw : w.heap.size + 1 ≤ g := by omega
  have hgw2 : w.heap.size ≠ g := by omega
  simp only [World.size_alloc]
  rw [← hg] at HR hs0 ⊢
  clear hg
  go_wp2_with fail
  refine (callDrawHold g 0 12 _ HR.out (by omega)).mono ?_
  rintro e wa ⟨A2, c2, h, kind, size, rfl, hown2, hc2, hl2, hr2, hg2⟩
  have hsa : w0.heap.size ≤ wa.heap.size := hg2.size
  have HK1 := Lib.hid (blkc (gblk hg2 HK0.out (by simp; omega)) (below1 wa (.cells #[.slice A2 h.length c2] 25)))
  have HX1 := Lib.hid (heap_alloc_new wa (.cells #[.slice A2 h.length c2] 25))
  have HO1 := Lib.hid ((hown2.more (base' := g + 1) (by omega)).alloc (.cells #[.slice A2 h.length c2] 25))
  have HR1 := Lib.hid (hr2.alloc (.cells #[.slice A2 h.length c2] 25))
  have HB1 := Lib.hid (bel_trans (HB.out.trans ((Below.refl _ _).grown hg2 (by omega) (fun k hk => by cases hk; omega))) (below1 wa (.cells #[.slice A2 h.length c2] 25)))
  have hga : g < wa.heap.size := by omega
  clear hown2 hr2 hg2 HK0 HB HR
  go_upto_region 3 with (fail)
  obtain ⟨w1, hw1⟩ : ∃ w1, w1 = wa.alloc (.cells #[.slice A2 h.length c2] 25) := ⟨_, rfl⟩
  obtain ⟨X, hX⟩ : ∃ X, X = wa.heap.size := ⟨_, rfl⟩
  have hs1 : g < w1.heap.size := by rw [hw1]; simp; omega
  rw [← hw1] at HK1 HX1 HO1 HR1 HB1 ⊢
  rw [← hX] at HX1 hga ⊢
  clear hw1 hX
  have hgX : X ≠ g := by omega
  have hXw : w.heap.size < X := by omega
  have x1 := (cell1 HX1.out).1
  have P1 : ∀ W, Rdr W g 20 → Calls Try.prog 43 #[.pointer (some ⟨g, 0, none⟩), .int .i64 256] W (Picked W g 20 256) := fun W h => callPick g 20 256 W h (by omega)
  have P2 : ∀ W, Rdr W g 21 → Calls Try.prog 43 #[.pointer (some ⟨g, 0, none⟩), .int .i64 7] W (Picked W g 21 7) := fun W h => callPick g 21 7 W h (by omega)
  have RA : Rdr w1.drew g 20 := HR1.out.drew
  have RB : Rdr (w1.alloc (.cells #[.int .i64 0, .int .i64 0, .int .i64 0, .int .i64 0, .int .i64 0, .int .i64 1, .int .i64 2] 3)).drew g 20 := (HR1.out.alloc _).drew
  have GA : w1.grownBy w1.drew (some g) := gr_drew (World.grownBy.refl _ _)
  have GB : w1.grownBy (w1.alloc (.cells #[.int .i64 0, .int .i64 0, .int .i64 0, .int .i64 0, .int .i64 0, .int .i64 1, .int .i64 2] 3)).drew (some g) := gr_drew (grown_alloc (World.grownBy.refl _ _) _)
  have KX : ∀ W, w1.grownBy W (some g) → W.cell? ⟨X, 0, none⟩ = some (.slice A2 h.length c2) := fun W hW => (cell1 (gblk hW HX1.out (by simp; exact hgX))).1
  have KK : ∀ W, w1.grownBy W (some g) → W.heap[w.heap.size]? = some (.cells #[.slice none 0 0] 25 (0, 0)) := fun W hW => gblk hW HK1.out (by simp; exact hgw2)
  have HKX := Lib.hid KX
  have HKK := Lib.hid KK
  clear KX KK
  have hl28 : ld28 = .load 3 (.tmp 27) := rfl
  have hl30 : ld30 = .load 3 (.tmp 29) := rfl
  rw [← hl28, ← hl30]
  go_region_held3 (fun w' => w'.cell? ⟨X, 0, none⟩ = some (.slice A2 h.length c2)) (first | exact x1 | assumption | with_reducible exact kp0 x3 hXw | with_reducible exact kp1 x3 hXw | with_reducible exact kp2 x3 hXw | go_keep)
    (first
      | (go_at_call_of 43 (Value.int IntKind.i64 256)
         refine (P1 _ (by first | with_reducible exact RA | with_reducible exact RB)).mono ?_
         rintro e w2 ⟨p, rfl, a1, a2, _, hr2, hg2⟩
         have HG2 : w1.grownBy w2 (some g) := (by first | with_reducible exact grown_trans' GA hg2 | with_reducible exact grown_trans' GB hg2)
         have hgs2 : g < w2.heap.size := Nat.lt_of_lt_of_le hs1 HG2.size
         have x2 := HKX.out w2 HG2
         (first
          | (have q7 : w2.heap[w1.heap.size]? = some (.cells #[.int .i64 0, .int .i64 0, .int .i64 0, .int .i64 0, .int .i64 0, .int .i64 1, .int .i64 2] 3 (0, 0)) := (by with_reducible exact ga0d hg2 hs1)
             have lq7 : w1.heap.size < w2.heap.size := (cell_lt q7))
          | skip))
      | (go_at_call_of 43 (Value.int IntKind.i64 7)
         refine (P2 _ (by first | with_reducible exact hr2 | with_reducible exact hr2.alloc _ | with_reducible exact (hr2.alloc _).alloc _)).mono ?_
         rintro e w3 ⟨k2, rfl, b1, b2, _, hr3, hg3⟩
         obtain ⟨kk, jj, rfl, hj3, hrow, hk7⟩ := row7 b1 (by omega)
         obtain ⟨x, hx3⟩ := row3 hj3 p (-1) 256
         have HG3 : w1.grownBy w3 (some g) := (by first | with_reducible exact grown_trans' HG2 hg3 | with_reducible exact grown_trans' (grown_alloc HG2 _) hg3 | with_reducible exact grown_trans' (grown_alloc (grown_alloc HG2 _) _) hg3)
         have x3 := HKX.out w3 HG3
         have hi7 : (kk : Int) < 7 := (by omega)
         have hl7 : ∀ (hh : kk < ([.int .i64 0, .int .i64 0, .int .i64 0, .int .i64 0, .int .i64 0, .int .i64 1, .int .i64 2] : List Value).length), ([.int .i64 0, .int .i64 0, .int .i64 0, .int .i64 0, .int .i64 0, .int .i64 1, .int .i64 2] : List Value)[kk]'hh = .int .i64 jj := (fun hh => lit_get hrow hh)
         have hl3 : ∀ (hh : jj < ([.int .i64 p, .int .i64 (-1), .int .i64 256] : List Value).length), ([.int .i64 p, .int .i64 (-1), .int .i64 256] : List Value)[jj]'hh = .int .i64 x := (fun hh => lit_get hx3 hh)
         have hi3 : (jj : Int) < 3 := (by omega)
         obtain ⟨k1, k2, k3⟩ := cell1 (HKK.out w3 HG3)
         have HRS := Lib.hid (res1 (HKK.out w3 HG3) (.slice A2 h.length c2))
         (first
          | (have s7 : w3.heap[w2.heap.size]? = some (.cells #[.int .i64 0, .int .i64 0, .int .i64 0, .int .i64 0, .int .i64 0, .int .i64 1, .int .i64 2] 3 (0, 0)) := (by with_reducible exact gb0 hg3 hgs2)
             have s3 : w3.heap[w2.heap.size + 1]? = some (.cells #[.int .i64 p, .int .i64 (-1), .int .i64 256] 3 (0, 0)) := (by with_reducible exact gb1 hg3 hgs2)
             have l7 := cell_lt s7
             have l3 := cell_lt s3
             have c7 := cellOf s7 hrow
             have c3 := cellOf s3 hx3
             have c7s := kq0 (v := .slice A2 h.length c2) c7 (R := w.heap.size) (by omega)
             have c3s := kq0 (v := .slice A2 h.length c2) c3 (R := w.heap.size) (by omega))
          | (have s3 : w3.heap[w2.heap.size]? = some (.cells #[.int .i64 p, .int .i64 (-1), .int .i64 256] 3 (0, 0)) := (by with_reducible exact gb0 hg3 hgs2)
             have s7 : w3.heap[w2.heap.size + 1]? = some (.cells #[.int .i64 0, .int .i64 0, .int .i64 0, .int .i64 0, .int .i64 0, .int .i64 1, .int .i64 2] 3 (0, 0)) := (by with_reducible exact gb1 hg3 hgs2)
             have l7 := cell_lt s7
             have l3 := cell_lt s3
             have c7 := cellOf s7 hrow
             have c3 := cellOf s3 hx3
             have c7s := kq0 (v := .slice A2 h.length c2) c7 (R := w.heap.size) (by omega)
             have c3s := kq0 (v := .slice A2 h.length c2) c3 (R := w.heap.size) (by omega))
          | (have s3 : w3.heap[w2.heap.size]? = some (.cells #[.int .i64 p, .int .i64 (-1), .int .i64 256] 3 (0, 0)) := (by with_reducible exact ga0 hg3 hgs2)
             have l3 := cell_lt s3
             have c3 := cellOf s3 hx3
             have c3s := kq0 (v := .slice A2 h.length c2) c3 (R := w.heap.size) (by omega))
          | (have s7 : w3.heap[w2.heap.size]? = some (.cells #[.int .i64 0, .int .i64 0, .int .i64 0, .int .i64 0, .int .i64 0, .int .i64 1, .int .i64 2] 3 (0, 0)) := (by with_reducible exact ga0 hg3 hgs2)
             have l7 := cell_lt s7
             have c7 := cellOf s7 hrow
             have c7s := kq0 (v := .slice A2 h.length c2) c7 (R := w.heap.size) (by omega))
          | skip)
         (first
          | (have t7 : w3.heap[w1.heap.size]? = some (.cells #[.int .i64 0, .int .i64 0, .int .i64 0, .int .i64 0, .int .i64 0, .int .i64 1, .int .i64 2] 3 (0, 0)) := (by first | with_reducible exact gblk hg3 q7 (gne lq7 hs1) | with_reducible exact gblk hg3 (blkc q7 (below1 _ _)) (gne lq7 hs1))
             have m7 := cell_lt t7
             have d7 := cellOf t7 hrow
             have d7s := kq0 (v := .slice A2 h.length c2) d7 (R := w.heap.size) (by omega))
          | skip)
         have f7 : (w3.alloc (.cells #[.int .i64 0, .int .i64 0, .int .i64 0, .int .i64 0, .int .i64 0, .int .i64 1, .int .i64 2] 3)).cell? ⟨w3.heap.size, kk, none⟩ = some (.int .i64 jj) := cellOf (heap_alloc_new w3 (.cells #[.int .i64 0, .int .i64 0, .int .i64 0, .int .i64 0, .int .i64 0, .int .i64 1, .int .i64 2] 3)) hrow
         have f3 : (w3.alloc (.cells #[.int .i64 p, .int .i64 (-1), .int .i64 256] 3)).cell? ⟨w3.heap.size, jj, none⟩ = some (.int .i64 x) := cellOf (heap_alloc_new w3 (.cells #[.int .i64 p, .int .i64 (-1), .int .i64 256] 3)) hx3
         have f37 : ((w3.alloc (.cells #[.int .i64 p, .int .i64 (-1), .int .i64 256] 3)).alloc (.cells #[.int .i64 0, .int .i64 0, .int .i64 0, .int .i64 0, .int .i64 0, .int .i64 1, .int .i64 2] 3)).cell? ⟨w3.heap.size + 1, kk, none⟩ = some (.int .i64 jj) := cellOf (alloc_at1 w3 (.cells #[.int .i64 p, .int .i64 (-1), .int .i64 256] 3) (.cells #[.int .i64 0, .int .i64 0, .int .i64 0, .int .i64 0, .int .i64 0, .int .i64 1, .int .i64 2] 3)) hrow
         have f73 : ((w3.alloc (.cells #[.int .i64 0, .int .i64 0, .int .i64 0, .int .i64 0, .int .i64 0, .int .i64 1, .int .i64 2] 3)).alloc (.cells #[.int .i64 p, .int .i64 (-1), .int .i64 256] 3)).cell? ⟨w3.heap.size + 1, jj, none⟩ = some (.int .i64 x) := cellOf (alloc_at1 w3 (.cells #[.int .i64 0, .int .i64 0, .int .i64 0, .int .i64 0, .int .i64 0, .int .i64 1, .int .i64 2] 3) (.cells #[.int .i64 p, .int .i64 (-1), .int .i64 256] 3)) hx3
         have e37 : ((w3.alloc (.cells #[.int .i64 p, .int .i64 (-1), .int .i64 256] 3)).alloc (.cells #[.int .i64 0, .int .i64 0, .int .i64 0, .int .i64 0, .int .i64 0, .int .i64 1, .int .i64 2] 3)).cell? ⟨w3.heap.size, jj, none⟩ = some (.int .i64 x) := cellOf (alloc_at0 w3 (.cells #[.int .i64 p, .int .i64 (-1), .int .i64 256] 3) (.cells #[.int .i64 0, .int .i64 0, .int .i64 0, .int .i64 0, .int .i64 0, .int .i64 1, .int .i64 2] 3)) hx3
         have e73 : ((w3.alloc (.cells #[.int .i64 0, .int .i64 0, .int .i64 0, .int .i64 0, .int .i64 0, .int .i64 1, .int .i64 2] 3)).alloc (.cells #[.int .i64 p, .int .i64 (-1), .int .i64 256] 3)).cell? ⟨w3.heap.size, kk, none⟩ = some (.int .i64 jj) := cellOf (alloc_at0 w3 (.cells #[.int .i64 0, .int .i64 0, .int .i64 0, .int .i64 0, .int .i64 0, .int .i64 1, .int .i64 2] 3) (.cells #[.int .i64 p, .int .i64 (-1), .int .i64 256] 3)) hrow))
  all_goals (try go_wp2)
  all_goals
    have HOw := (HO1.out.more (base' := g + 1) (Nat.le_refl _)).kept HG3 (fun k hk => by cases hk; omega)
    have HOx := HOw.kept (gset (g := w.heap.size) 0 (.slice A2 h.length c2)) (fun k hk => by cases hk; omega)
    have HBx := (HB1.out.trans ((Below.refl _ _).grown HG3 (by omega) (fun k hk => by cases hk; omega))).setCell (p := ⟨w.heap.size, 0, none⟩) (Nat.le_refl _) (.slice A2 h.length c2)
    have hsx : w.heap.size ≤ (w3.setCell ⟨w.heap.size, 0, none⟩ (.slice A2 h.length c2)).heap.size := HBx.size
    refine bodyPost_ret (v := .tuple #[.agg #[.slice A2 h.length c2], .int .i64 kind, .int .i64 size, .int .i64 x]) (by simp [results, Try.results29, go_sem, HRS.out, k3]) rfl ⟨A2, c2, h, kind, size, x, rfl, ?_, hc2, hl2, ?_⟩
    · first
        | with_reducible exact HOx.rd
        | with_reducible exact (HOx.alloc _).rd
        | with_reducible exact ((HOx.alloc _).alloc _).rd
    · first
        | with_reducible exact HBx
        | with_reducible exact HBx.alloc hsx _
        | with_reducible exact (HBx.alloc hsx _).alloc (by simp; omega) _
end Go.Proofs.Ytonhkadbiepedaa
