/- spec.WindowsMeet, clash, apart, PartsApart of the program and of the reference, for every input. -/
import Derived.Test.YtaeimnfdedcgkaaApa
import Derived.Test.YtaeimnfdedcgkaaDrp
namespace Go.Proofs.Ytaeimnfdedcgkaa
open Go.RowKit Go.Sort

theorem blk_nx {w w' : World} {b : Nat} {o : Obj} (h : w.heap[b]? = some o) (hb : Below w.heap.size w w') : w'.heap[b]? = some o :=
  (hb.block b (Array.getElem?_eq_some_iff.1 h).1).trans h
theorem boxes3 (w : World) (X Y R : Obj) : (((w.alloc X).alloc Y).alloc R).heap[w.heap.size]? = some X ∧ (((w.alloc X).alloc Y).alloc R).heap[w.heap.size + 1]? = some Y ∧ (((w.alloc X).alloc Y).alloc R).heap[w.heap.size + 1 + 1]? = some R := by
  have h2 := heap_alloc_new (w.alloc X) Y
  have h3 := heap_alloc_new ((w.alloc X).alloc Y) R
  simp only [World.size_alloc] at h2 h3
  exact ⟨blk_nx (heap_alloc_new w X) (below2 _ _ _), blk_nx h2 (below1 _ _), h3⟩
theorem box3 {w : World} {b : Nat} {x y z : Value} {T : TypeId} (h : w.heap[b]? = some (.cells #[x, y, z] T (0, 0))) :
    w.cell? ⟨b, 0, none⟩ = some x ∧ w.cell? ⟨b, 1, none⟩ = some y ∧ w.cell? ⟨b, 2, none⟩ = some z ∧ w.frozen? ⟨b, 0, none⟩ = false ∧ w.frozen? ⟨b, 1, none⟩ = false ∧ w.frozen? ⟨b, 2, none⟩ = false :=
  ⟨by rw [cell_of_row w b 0 _ _ _ h]; rfl, by rw [cell_of_row w b 1 _ _ _ h]; rfl, by rw [cell_of_row w b 2 _ _ _ h]; rfl, frozen_of_row w b 0 _ _ h, frozen_of_row w b 1 _ _ h, frozen_of_row w b 2 _ _ h⟩

set_option maxRecDepth 100000 in
set_option maxHeartbeats 3200000 in
theorem callSMeet (x y : Win) (hx : winOk x = true) (hy : winOk y = true) (w : World) :
    Calls Try.prog 83 #[x.val, y.val] w fun e w' => ∃ z : Win, e = .returned (.tuple #[z.val, .bool (meets x y)]) ∧ Below w.heap.size w w' := by
  have HX := Lib.hid hx
  have HY := Lib.hid hy
  obtain ⟨x1, x2, x3, x4⟩ := winOk_iff.1 hx
  obtain ⟨y1, y2, y3, y4⟩ := winOk_iff.1 hy
  obtain ⟨xb, xs, xw⟩ := x
  obtain ⟨yb, ys, yw⟩ := y
  simp only at x1 x2 x3 x4 y1 y2 y3 y4
  have s1 : IntKind.i64.wrap (xb + xs) = xb + xs := IntWalk.i64_in _ (by omega)
  have s2 : IntKind.i64.wrap (yb + ys) = yb + ys := IntWalk.i64_in _ (by omega)
  clear hx hy
  by_cases q1 : xb < yb
  · by_cases q2 : yb + ys < xb + xs
    · have s3 : IntKind.i64.wrap ((yb + ys) - yb) = (yb + ys) - yb := IntWalk.i64_in _ (by omega)
      go_enter Try.func83, Try.ntmps83
      go_wp2_with fail
      refine (callL1Window ⟨xb, xs, xw⟩ _).mono ?_
      rintro e w1 ⟨rfl, hb1⟩
      rw [HX.out]
      have HB1 := Lib.hid (bel_trans (below3 _ _ _ _) hb1)
      have HS : Hid (w1.heap[w.heap.size]? = _ ∧ w1.heap[w.heap.size + 1]? = _ ∧ w1.heap[w.heap.size + 1 + 1]? = _) := ⟨blk_nx (boxes3 w _ _ _).1 hb1, blk_nx (boxes3 w _ _ _).2.1 hb1, blk_nx (boxes3 w _ _ _).2.2 hb1⟩
      clear hb1
      obtain ⟨a0, a1, a2, _⟩ := box3 HS.out.1
      obtain ⟨b0, b1, b2, _⟩ := box3 HS.out.2.1
      go_wp2_with fail
      clear a0 a1 a2 b0 b1 b2
      refine (callL1Window ⟨yb, ys, yw⟩ _).mono ?_
      rintro e w2 ⟨rfl, hb2⟩
      rw [HY.out]
      have HB2 := Lib.hid (bel_trans HB1.out hb2)
      have HS2 : Hid (w2.heap[w.heap.size]? = _ ∧ w2.heap[w.heap.size + 1]? = _ ∧ w2.heap[w.heap.size + 1 + 1]? = _) := ⟨blk_nx HS.out.1 hb2, blk_nx HS.out.2.1 hb2, blk_nx HS.out.2.2 hb2⟩
      clear hb2 HB1 HS
      obtain ⟨a0, a1, a2, _⟩ := box3 HS2.out.1
      obtain ⟨b0, b1, b2, _⟩ := box3 HS2.out.2.1
      obtain ⟨c0, c1, c2, f0, f1, f2⟩ := box3 HS2.out.2.2
      by_cases hlt : (yb + ys) ≤ yb
      · exfalso; omega
      · have em : Hid (meets ⟨xb, xs, xw⟩ ⟨yb, ys, yw⟩ = true) := decide_eq_true (by simp only; omega)
        cases xw
        · go_wp2
          obtain ⟨t0, t1, t2⟩ := cells3_set (w := w2) (x := .int .i64 (yb)) (y := .int .i64 ((yb + ys) - yb)) (z := .bool false) c0 c1 c2
          refine bodyPost_ret (v := .tuple #[(⟨yb, (yb + ys) - yb, false⟩ : Win).val, .bool true]) (by simp [results, Try.results83, go_sem, t0, t1, t2]) rfl ?_
          exact ⟨⟨yb, (yb + ys) - yb, false⟩, by rw [em.out], ((HB2.out.setCell (by show w.heap.size ≤ _; simp only; omega) _).setCell (by show w.heap.size ≤ _; simp only; omega) _).setCell (by show w.heap.size ≤ _; simp only; omega) _⟩
        · go_wp2
          obtain ⟨t0, t1, t2⟩ := cells3_set (w := w2) (x := .int .i64 (yb)) (y := .int .i64 ((yb + ys) - yb)) (z := .bool yw) c0 c1 c2
          refine bodyPost_ret (v := .tuple #[(⟨yb, (yb + ys) - yb, yw⟩ : Win).val, .bool true]) (by simp [results, Try.results83, go_sem, t0, t1, t2]) rfl ?_
          exact ⟨⟨yb, (yb + ys) - yb, yw⟩, by rw [em.out], ((HB2.out.setCell (by show w.heap.size ≤ _; simp only; omega) _).setCell (by show w.heap.size ≤ _; simp only; omega) _).setCell (by show w.heap.size ≤ _; simp only; omega) _⟩
    · have s3 : IntKind.i64.wrap ((xb + xs) - yb) = (xb + xs) - yb := IntWalk.i64_in _ (by omega)
      go_enter Try.func83, Try.ntmps83
      go_wp2_with fail
      refine (callL1Window ⟨xb, xs, xw⟩ _).mono ?_
      rintro e w1 ⟨rfl, hb1⟩
      rw [HX.out]
      have HB1 := Lib.hid (bel_trans (below3 _ _ _ _) hb1)
      have HS : Hid (w1.heap[w.heap.size]? = _ ∧ w1.heap[w.heap.size + 1]? = _ ∧ w1.heap[w.heap.size + 1 + 1]? = _) := ⟨blk_nx (boxes3 w _ _ _).1 hb1, blk_nx (boxes3 w _ _ _).2.1 hb1, blk_nx (boxes3 w _ _ _).2.2 hb1⟩
      clear hb1
      obtain ⟨a0, a1, a2, _⟩ := box3 HS.out.1
      obtain ⟨b0, b1, b2, _⟩ := box3 HS.out.2.1
      go_wp2_with fail
      clear a0 a1 a2 b0 b1 b2
      refine (callL1Window ⟨yb, ys, yw⟩ _).mono ?_
      rintro e w2 ⟨rfl, hb2⟩
      rw [HY.out]
      have HB2 := Lib.hid (bel_trans HB1.out hb2)
      have HS2 : Hid (w2.heap[w.heap.size]? = _ ∧ w2.heap[w.heap.size + 1]? = _ ∧ w2.heap[w.heap.size + 1 + 1]? = _) := ⟨blk_nx HS.out.1 hb2, blk_nx HS.out.2.1 hb2, blk_nx HS.out.2.2 hb2⟩
      clear hb2 HB1 HS
      obtain ⟨a0, a1, a2, _⟩ := box3 HS2.out.1
      obtain ⟨b0, b1, b2, _⟩ := box3 HS2.out.2.1
      obtain ⟨c0, c1, c2, f0, f1, f2⟩ := box3 HS2.out.2.2
      by_cases hlt : (xb + xs) ≤ yb
      · have em : Hid (meets ⟨xb, xs, xw⟩ ⟨yb, ys, yw⟩ = false) := decide_eq_false (by simp only; omega)
        go_wp2
        obtain ⟨t0, t1, t2⟩ := cells3_set (w := w2) (x := .int .i64 (0)) (y := .int .i64 (0)) (z := .bool false) c0 c1 c2
        refine bodyPost_ret (v := .tuple #[(⟨0, 0, false⟩ : Win).val, .bool false]) (by simp [results, Try.results83, go_sem, t0, t1, t2]) rfl ?_
        exact ⟨⟨0, 0, false⟩, by rw [em.out], ((HB2.out.setCell (by show w.heap.size ≤ _; simp only; omega) _).setCell (by show w.heap.size ≤ _; simp only; omega) _).setCell (by show w.heap.size ≤ _; simp only; omega) _⟩
      · have em : Hid (meets ⟨xb, xs, xw⟩ ⟨yb, ys, yw⟩ = true) := decide_eq_true (by simp only; omega)
        cases xw
        · go_wp2
          obtain ⟨t0, t1, t2⟩ := cells3_set (w := w2) (x := .int .i64 (yb)) (y := .int .i64 ((xb + xs) - yb)) (z := .bool false) c0 c1 c2
          refine bodyPost_ret (v := .tuple #[(⟨yb, (xb + xs) - yb, false⟩ : Win).val, .bool true]) (by simp [results, Try.results83, go_sem, t0, t1, t2]) rfl ?_
          exact ⟨⟨yb, (xb + xs) - yb, false⟩, by rw [em.out], ((HB2.out.setCell (by show w.heap.size ≤ _; simp only; omega) _).setCell (by show w.heap.size ≤ _; simp only; omega) _).setCell (by show w.heap.size ≤ _; simp only; omega) _⟩
        · go_wp2
          obtain ⟨t0, t1, t2⟩ := cells3_set (w := w2) (x := .int .i64 (yb)) (y := .int .i64 ((xb + xs) - yb)) (z := .bool yw) c0 c1 c2
          refine bodyPost_ret (v := .tuple #[(⟨yb, (xb + xs) - yb, yw⟩ : Win).val, .bool true]) (by simp [results, Try.results83, go_sem, t0, t1, t2]) rfl ?_
          exact ⟨⟨yb, (xb + xs) - yb, yw⟩, by rw [em.out], ((HB2.out.setCell (by show w.heap.size ≤ _; simp only; omega) _).setCell (by show w.heap.size ≤ _; simp only; omega) _).setCell (by show w.heap.size ≤ _; simp only; omega) _⟩
  · by_cases q2 : yb + ys < xb + xs
    · have s3 : IntKind.i64.wrap ((yb + ys) - xb) = (yb + ys) - xb := IntWalk.i64_in _ (by omega)
      go_enter Try.func83, Try.ntmps83
      go_wp2_with fail
      refine (callL1Window ⟨xb, xs, xw⟩ _).mono ?_
      rintro e w1 ⟨rfl, hb1⟩
      rw [HX.out]
      have HB1 := Lib.hid (bel_trans (below3 _ _ _ _) hb1)
      have HS : Hid (w1.heap[w.heap.size]? = _ ∧ w1.heap[w.heap.size + 1]? = _ ∧ w1.heap[w.heap.size + 1 + 1]? = _) := ⟨blk_nx (boxes3 w _ _ _).1 hb1, blk_nx (boxes3 w _ _ _).2.1 hb1, blk_nx (boxes3 w _ _ _).2.2 hb1⟩
      clear hb1
      obtain ⟨a0, a1, a2, _⟩ := box3 HS.out.1
      obtain ⟨b0, b1, b2, _⟩ := box3 HS.out.2.1
      go_wp2_with fail
      clear a0 a1 a2 b0 b1 b2
      refine (callL1Window ⟨yb, ys, yw⟩ _).mono ?_
      rintro e w2 ⟨rfl, hb2⟩
      rw [HY.out]
      have HB2 := Lib.hid (bel_trans HB1.out hb2)
      have HS2 : Hid (w2.heap[w.heap.size]? = _ ∧ w2.heap[w.heap.size + 1]? = _ ∧ w2.heap[w.heap.size + 1 + 1]? = _) := ⟨blk_nx HS.out.1 hb2, blk_nx HS.out.2.1 hb2, blk_nx HS.out.2.2 hb2⟩
      clear hb2 HB1 HS
      obtain ⟨a0, a1, a2, _⟩ := box3 HS2.out.1
      obtain ⟨b0, b1, b2, _⟩ := box3 HS2.out.2.1
      obtain ⟨c0, c1, c2, f0, f1, f2⟩ := box3 HS2.out.2.2
      by_cases hlt : (yb + ys) ≤ xb
      · have em : Hid (meets ⟨xb, xs, xw⟩ ⟨yb, ys, yw⟩ = false) := decide_eq_false (by simp only; omega)
        go_wp2
        obtain ⟨t0, t1, t2⟩ := cells3_set (w := w2) (x := .int .i64 (0)) (y := .int .i64 (0)) (z := .bool false) c0 c1 c2
        refine bodyPost_ret (v := .tuple #[(⟨0, 0, false⟩ : Win).val, .bool false]) (by simp [results, Try.results83, go_sem, t0, t1, t2]) rfl ?_
        exact ⟨⟨0, 0, false⟩, by rw [em.out], ((HB2.out.setCell (by show w.heap.size ≤ _; simp only; omega) _).setCell (by show w.heap.size ≤ _; simp only; omega) _).setCell (by show w.heap.size ≤ _; simp only; omega) _⟩
      · have em : Hid (meets ⟨xb, xs, xw⟩ ⟨yb, ys, yw⟩ = true) := decide_eq_true (by simp only; omega)
        cases xw
        · go_wp2
          obtain ⟨t0, t1, t2⟩ := cells3_set (w := w2) (x := .int .i64 (xb)) (y := .int .i64 ((yb + ys) - xb)) (z := .bool false) c0 c1 c2
          refine bodyPost_ret (v := .tuple #[(⟨xb, (yb + ys) - xb, false⟩ : Win).val, .bool true]) (by simp [results, Try.results83, go_sem, t0, t1, t2]) rfl ?_
          exact ⟨⟨xb, (yb + ys) - xb, false⟩, by rw [em.out], ((HB2.out.setCell (by show w.heap.size ≤ _; simp only; omega) _).setCell (by show w.heap.size ≤ _; simp only; omega) _).setCell (by show w.heap.size ≤ _; simp only; omega) _⟩
        · go_wp2
          obtain ⟨t0, t1, t2⟩ := cells3_set (w := w2) (x := .int .i64 (xb)) (y := .int .i64 ((yb + ys) - xb)) (z := .bool yw) c0 c1 c2
          refine bodyPost_ret (v := .tuple #[(⟨xb, (yb + ys) - xb, yw⟩ : Win).val, .bool true]) (by simp [results, Try.results83, go_sem, t0, t1, t2]) rfl ?_
          exact ⟨⟨xb, (yb + ys) - xb, yw⟩, by rw [em.out], ((HB2.out.setCell (by show w.heap.size ≤ _; simp only; omega) _).setCell (by show w.heap.size ≤ _; simp only; omega) _).setCell (by show w.heap.size ≤ _; simp only; omega) _⟩
    · have s3 : IntKind.i64.wrap ((xb + xs) - xb) = (xb + xs) - xb := IntWalk.i64_in _ (by omega)
      go_enter Try.func83, Try.ntmps83
      go_wp2_with fail
      refine (callL1Window ⟨xb, xs, xw⟩ _).mono ?_
      rintro e w1 ⟨rfl, hb1⟩
      rw [HX.out]
      have HB1 := Lib.hid (bel_trans (below3 _ _ _ _) hb1)
      have HS : Hid (w1.heap[w.heap.size]? = _ ∧ w1.heap[w.heap.size + 1]? = _ ∧ w1.heap[w.heap.size + 1 + 1]? = _) := ⟨blk_nx (boxes3 w _ _ _).1 hb1, blk_nx (boxes3 w _ _ _).2.1 hb1, blk_nx (boxes3 w _ _ _).2.2 hb1⟩
      clear hb1
      obtain ⟨a0, a1, a2, _⟩ := box3 HS.out.1
      obtain ⟨b0, b1, b2, _⟩ := box3 HS.out.2.1
      go_wp2_with fail
      clear a0 a1 a2 b0 b1 b2
      refine (callL1Window ⟨yb, ys, yw⟩ _).mono ?_
      rintro e w2 ⟨rfl, hb2⟩
      rw [HY.out]
      have HB2 := Lib.hid (bel_trans HB1.out hb2)
      have HS2 : Hid (w2.heap[w.heap.size]? = _ ∧ w2.heap[w.heap.size + 1]? = _ ∧ w2.heap[w.heap.size + 1 + 1]? = _) := ⟨blk_nx HS.out.1 hb2, blk_nx HS.out.2.1 hb2, blk_nx HS.out.2.2 hb2⟩
      clear hb2 HB1 HS
      obtain ⟨a0, a1, a2, _⟩ := box3 HS2.out.1
      obtain ⟨b0, b1, b2, _⟩ := box3 HS2.out.2.1
      obtain ⟨c0, c1, c2, f0, f1, f2⟩ := box3 HS2.out.2.2
      by_cases hlt : (xb + xs) ≤ xb
      · exfalso; omega
      · have em : Hid (meets ⟨xb, xs, xw⟩ ⟨yb, ys, yw⟩ = true) := decide_eq_true (by simp only; omega)
        cases xw
        · go_wp2
          obtain ⟨t0, t1, t2⟩ := cells3_set (w := w2) (x := .int .i64 (xb)) (y := .int .i64 ((xb + xs) - xb)) (z := .bool false) c0 c1 c2
          refine bodyPost_ret (v := .tuple #[(⟨xb, (xb + xs) - xb, false⟩ : Win).val, .bool true]) (by simp [results, Try.results83, go_sem, t0, t1, t2]) rfl ?_
          exact ⟨⟨xb, (xb + xs) - xb, false⟩, by rw [em.out], ((HB2.out.setCell (by show w.heap.size ≤ _; simp only; omega) _).setCell (by show w.heap.size ≤ _; simp only; omega) _).setCell (by show w.heap.size ≤ _; simp only; omega) _⟩
        · go_wp2
          obtain ⟨t0, t1, t2⟩ := cells3_set (w := w2) (x := .int .i64 (xb)) (y := .int .i64 ((xb + xs) - xb)) (z := .bool yw) c0 c1 c2
          refine bodyPost_ret (v := .tuple #[(⟨xb, (xb + xs) - xb, yw⟩ : Win).val, .bool true]) (by simp [results, Try.results83, go_sem, t0, t1, t2]) rfl ?_
          exact ⟨⟨xb, (xb + xs) - xb, yw⟩, by rw [em.out], ((HB2.out.setCell (by show w.heap.size ≤ _; simp only; omega) _).setCell (by show w.heap.size ≤ _; simp only; omega) _).setCell (by show w.heap.size ≤ _; simp only; omega) _⟩
end Go.Proofs.Ytaeimnfdedcgkaa
