/- The walk of the law FnHoldSend: true for every input, and nothing that was there is written. -/
import Derived.Test.YtonhkadbiepedaaDrq2
import Derived.Test.YtonhkadbiepedaaHos
import Derived.Test.YtonhkadbiepedaaSam
namespace Go.Proofs.Ytonhkadbiepedaa
open Go.RowKit Go.Sort

theorem holdSend_neg {h : List Int} {kind size m : Int} (e : (holdSend h kind size m).2 < 0) : holdSend h kind size m = ([], -1) := by
  unfold holdSend at e ⊢
  split
  · rename_i q
    exfalso
    rw [if_pos q] at e
    unfold hSend at e
    split at e
    · simp only at e; omega
    · split at e
      · simp only at e; omega
      · simp only at e; split at e <;> omega
  · rfl
theorem holdSend_pos {h : List Int} {kind size m : Int} (e : ¬ (holdSend h kind size m).2 < 0) : holdOk (holdSend h kind size m).1 kind size = true ∧
    ((kind ≠ 1 ∧ (h.length : Int) = size ∧ (holdSend h kind size m).1 = h ∧ (holdSend h kind size m).2 = if kind = 3 then 1 else 0) ∨
     ((kind = 1 ∨ (h.length : Int) ≠ size) ∧ (holdSend h kind size m).2 = 0 ∧ ∃ n, (holdSend h kind size m).1.length = n + 1 ∧ (holdSend h kind size m).1[n]? = some m)) := by
  have q : (holdOk h kind size && valOk m) = true := by
    cases q : (holdOk h kind size && valOk m)
    · unfold holdSend at e; rw [q] at e; exact absurd (show (-1 : Int) < 0 by decide) e
    · rfl
  have e1 : holdSend h kind size m = hSend h kind size m := by unfold holdSend; rw [if_pos q]
  rw [Bool.and_eq_true] at q
  rw [e1]
  refine ⟨hSend_ok q.1 q.2, ?_⟩
  obtain ⟨p1, p2, p3⟩ := holdOk_iff.1 q.1
  unfold hSend
  by_cases k1 : kind = 1
  · rw [if_pos k1]; exact .inr ⟨.inl k1, rfl, 0, rfl, rfl⟩
  · rw [if_neg k1]
    by_cases hl : (h.length : Int) < size
    · rw [if_pos hl]
      exact .inr ⟨.inr (by omega), rfl, h.length, by simp, by simp⟩
    · rw [if_neg hl]; exact .inl ⟨k1, by omega, rfl, rfl⟩

set_option maxRecDepth 100000 in
set_option maxHeartbeats 3200000 in
theorem walkFnHoldSend (A : Option Addr) (c : Nat) (bs : List Int) (w : World) (hc : bs.length ≤ c) (hr : Rd eU8 w w.heap.size A bs) (hby : ∀ x ∈ bs, 0 ≤ x ∧ x ≤ 255) :
    Calls Try.prog 8 #[.slice A bs.length c] w fun e w' => e = .returned (.bool true) ∧ Below w.heap.size w w' := by
  by_cases hl : bs.length ≤ 1048576
  · have HC := Lib.hid (callDrawHoldSend A c bs w hc hl hr hby)
    clear hr hby
    go_enter Try.func8, Try.ntmps8
    go_wp2_with fail
    refine HC.out.mono ?_
    rintro e w1 ⟨Ah, ch, h, kind, size, m, rfl, hrd, hch, hlh, hb1⟩
    have HB1 := Lib.hid hb1
    have HH := Lib.hid hrd
    clear hb1 HC hrd
    have HBa := Lib.hid (below1 w1 (.cells #[.slice Ah h.length ch] 25))
    have HXa := Lib.hid (heap_alloc_new w1 (.cells #[.slice Ah h.length ch] 25))
    obtain ⟨r, hr⟩ : ∃ r, r = holdSend h kind size m := ⟨_, rfl⟩
    have T1 : ∀ W, Below w1.heap.size w1 W → Hid (Calls Try.prog 14 #[.agg #[.slice Ah h.length ch], .int .i64 kind, .int .i64 size, .int .i64 m] W fun e w' => ∃ A' c', e = .returned (.tuple #[.agg #[.slice A' r.1.length c'], .int .i64 r.2]) ∧ Own eInt 3 w' W.heap.size (.slice A' r.1.length c') r.1 ∧ r.1.length ≤ c' ∧ Below W.heap.size W w') := fun W hW => by
      have := callHoldSend Ah ch h kind size m W w1.heap.size hW.size hch (by omega) (HH.out.below hW)
      rw [← hr] at this; exact this
    have T2 : ∀ W, Below w1.heap.size w1 W → Hid (Calls Try.prog 30 #[.agg #[.slice Ah h.length ch], .int .i64 kind, .int .i64 size, .int .i64 m] W fun e w' => ∃ A' c', e = .returned (.tuple #[.agg #[.slice A' r.1.length c'], .int .i64 r.2]) ∧ Own eInt 3 w' W.heap.size (.slice A' r.1.length c') r.1 ∧ r.1.length ≤ c' ∧ Below W.heap.size W w') := fun W hW => by
      have := callSHoldSend Ah ch h kind size m W w1.heap.size hW.size (by omega) (HH.out.below hW)
      rw [← hr] at this; exact this
    have hrl : r.1.length ≤ 5 := by rw [hr]; exact holdSend_len _ _ _ _
    have E3 : ∀ (ys : List Int), ys.length ≤ 100 → ∀ (A A' : Option Addr) (c c' : Nat) (W : World), Rd eInt W W.heap.size A ys → Rd eInt W W.heap.size A' ys → Hid (Calls Try.prog 24 #[.slice A ys.length c, .slice A' ys.length c'] W fun e w' => e = .returned (.bool true) ∧ Below W.heap.size W w') := fun ys hy A A' c c' W h1 h2 => by
      have := callSameInts A A' c c' ys ys W W.heap.size (Nat.le_refl _) (by omega) (by omega) h1 h2
      rw [show decide (ys = ys) = true from decide_eq_true rfl] at this; exact this
    have HR := Lib.hid hr
    clear hr
    obtain ⟨xs, tl⟩ := r
    simp only at hrl
    have hmm : (tl != tl) = false := by simp
    obtain ⟨x1, x2, x3⟩ := cell1 HXa.out
    go_wp2_with fail
    refine (T1 _ HBa.out).out.mono ?_
    rintro e w2 ⟨Ax, cx, rfl, hown2, hc2, hb2⟩
    have hb2a := bel_trans hb2 (below1 w2 (.cells #[.slice Ax xs.length cx] 25))
    have HB2 := Lib.hid (bel_trans HBa.out hb2a)
    have HX2 := Lib.hid (blkc HXa.out hb2a)
    have HY2 := Lib.hid (heap_alloc_new w2 (.cells #[.slice Ax xs.length cx] 25))
    have HR2 := Lib.hid (hown2.alloc (.cells #[.slice Ax xs.length cx] 25)).rd
    clear hb2 hb2a hown2 x1 x2 x3 T1
    obtain ⟨x1, x2, x3⟩ := cell1 HX2.out
    go_wp2_with fail
    refine (T2 _ HB2.out).out.mono ?_
    rintro e w3 ⟨Ay, cy, rfl, hown3, hc3, hb3⟩
    have hb3a := bel_trans hb3 (below1 w3 (.cells #[.slice Ay xs.length cy] 25))
    have HB3 := Lib.hid (bel_trans HB2.out hb3a)
    have HX3 := Lib.hid (blkc HX2.out hb3a)
    have HY3 := Lib.hid (blkc HY2.out hb3a)
    have HR3 := Lib.hid (HR2.out.next hb3a)
    have HS3 := Lib.hid (hown3.alloc (.cells #[.slice Ay xs.length cy] 25)).rd
    clear hb3 hb3a hown3 x1 x2 x3 T2 HX2 HY2 HR2
    obtain ⟨y1, y2, y3⟩ := cell1 HY3.out
    go_wp2_with fail
    refine (E3 xs (by omega) Ax Ay cx cy _ HR3.out HS3.out).out.mono ?_
    rintro e w4 ⟨rfl, hb4⟩
    have HB4 := Lib.hid (bel_trans HB3.out hb4)
    have HX4 := Lib.hid (blkc HX3.out hb4)
    have HY4 := Lib.hid (blkc HY3.out hb4)
    have HR4 := Lib.hid (HR3.out.next hb4)
    have HH4 := Lib.hid (HH.out.below HB4.out)
    have hs4 : w1.heap.size ≤ w4.heap.size := HB4.out.size
    clear hb4 y1 y2 y3 HX3 HY3 HR3 HS3
    obtain ⟨x1, x2, x3⟩ := cell1 HX4.out
    obtain ⟨y1, y2, y3⟩ := cell1 HY4.out
    by_cases hm0 : tl < 0
    · have e := holdSend_neg (h := h) (kind := kind) (size := size) (m := m) (by rw [← HR.out]; exact hm0)
      rw [← HR.out] at e
      injection e with e1 e2
      subst e1
      subst e2
      clear hm0
      go_wp2_with fail
      refine (callAlive _).mono ?_
      rintro e w9 ⟨rfl, hb9⟩
      go_wp2
      go_ret
      exact ⟨rfl, bel_trans HB1.out (bel_trans HB4.out hb9)⟩
    · have d0 : decide (tl < 0) = false := decide_eq_false hm0
      have e := holdSend_pos (h := h) (kind := kind) (size := size) (m := m) (by rw [← HR.out]; exact hm0)
      rw [← HR.out] at e
      obtain ⟨hok, e⟩ := e
      have V : Hid (∀ W, Below w4.heap.size w4 W → Calls Try.prog 11 #[.agg #[.slice Ax xs.length cx], .int .i64 kind, .int .i64 size] W fun e w' => e = .returned (.bool true) ∧ Below W.heap.size W w') := fun W hW => by
        have := callHoldValid Ax cx xs kind size W w4.heap.size hW.size (by omega) (HR4.out.below hW)
        rw [hok] at this; exact this
      clear hok hm0
      rcases e with ⟨k1, hsz, hxh, htl⟩ | ⟨hkz, htl, n, hxn, hxm⟩
      · simp only at hxh htl
        subst hxh
        have n1 : (kind != 1) = true := by rw [bne_iff_ne]; exact k1
        have n2 : ((xs.length : Int) == size) = true := by rw [beq_iff_eq]; exact hsz
        have HSZ := Lib.hid hsz
        clear hsz k1
        have fin : Hid (tl = 0 ∨ (tl = 1 ∧ kind = 3)) := by
          rw [htl]
          by_cases k3 : kind = 3
          · right; exact ⟨if_pos k3, k3⟩
          · left; exact if_neg k3
        clear htl
        go_wp2_with fail
        refine (V.out _ (Below.refl _ _)).mono ?_
        rintro e w5 ⟨rfl, hb5⟩
        have HB5 := Lib.hid (bel_trans HB4.out hb5)
        have HX5 := Lib.hid (blkc HX4.out hb5)
        have HY5 := Lib.hid (blkc HY4.out hb5)
        have HR5 := Lib.hid (HR4.out.next hb5)
        have HH5 := Lib.hid ((HH.out.below HB5.out).mono HB5.out.size)
        clear hb5 x1 x2 x3 y1 y2 y3
        obtain ⟨x1, x2, x3⟩ := cell1 HX5.out
        obtain ⟨y1, y2, y3⟩ := cell1 HY5.out
        rcases fin.out with rfl | ⟨rfl, rfl⟩
        · cases k3 : (kind == 3)
          all_goals
            go_wp2_with fail
            refine (E3 xs (by omega) Ax Ah cx ch _ HR5.out HH5.out).out.mono ?_
            rintro e w6 ⟨rfl, hb6⟩
            go_wp2
            go_ret
            exact ⟨rfl, bel_trans HB1.out (bel_trans HB5.out hb6)⟩
        · go_wp2_with fail
          refine (E3 xs (by omega) Ax Ah cx ch _ HR5.out HH5.out).out.mono ?_
          rintro e w6 ⟨rfl, hb6⟩
          go_wp2
          go_ret
          exact ⟨rfl, bel_trans HB1.out (bel_trans HB5.out hb6)⟩
      · simp only at htl hxn hxm
        subst htl
        have hnl : n < xs.length := by omega
        have hxm2 : xs[n] = m := by rw [List.getElem?_eq_getElem hnl] at hxm; injection hxm
        obtain ⟨b, off, rfl, hbB, h1⟩ := HR4.out.at1 rfl hnl rfl
        rw [hxm2] at h1
        have hi1 : (xs.length : Int) - 1 = (n : Int) := by omega
        have hi2 : (0 : Int) ≤ (n : Int) := by omega
        have hi3 : (n : Int) < (xs.length : Int) := by omega
        have hpos : decide ((0 : Int) < (xs.length : Int)) = true := decide_eq_true (by omega)
        have hpos2 : decide (0 < xs.length) = true := decide_eq_true (by omega)
        have hqm : (m == m) = true := by simp
        have hl1 : (1 : Int) ≤ (xs.length : Int) := by omega
        clear hxn hxm hxm2 d0
        by_cases k1 : kind = 1
        · have n1 : (kind != 1) = false := by rw [k1]; rfl
          have n3 : (kind == 3) = false := by rw [k1]; rfl
          clear k1 hkz
          go_wp2_with fail
          refine (V.out _ (Below.refl _ _)).mono ?_
          rintro e w5 ⟨rfl, hb5⟩
          have HB5 := Lib.hid (bel_trans HB4.out hb5)
          have h15 := (hb5.cell (p := ⟨b, off + n, none⟩) hbB).trans h1
          obtain ⟨z1, z2, z3⟩ := cell1 (blkc HY4.out hb5)
          clear hb5 x1 x2 x3 y1 y2 y3 h1
          go_wp2
          go_ret
          exact ⟨rfl, bel_trans HB1.out HB5.out⟩
        · have n1 : (kind != 1) = true := by rw [bne_iff_ne]; exact k1
          have n2 : ((h.length : Int) == size) = false := by rw [beq_eq_false_iff_ne]; rcases hkz with e | e; exact absurd e k1; exact e
          clear k1 hkz
          cases k3 : (kind == 3)
          all_goals
            go_wp2_with fail
            refine (V.out _ (Below.refl _ _)).mono ?_
            rintro e w5 ⟨rfl, hb5⟩
            have HB5 := Lib.hid (bel_trans HB4.out hb5)
            have h15 := (hb5.cell (p := ⟨b, off + n, none⟩) hbB).trans h1
            obtain ⟨z1, z2, z3⟩ := cell1 (blkc HY4.out hb5)
            clear hb5 x1 x2 x3 y1 y2 y3 h1
            go_wp2
            go_ret
            exact ⟨rfl, bel_trans HB1.out HB5.out⟩
  · have hl' : 1048576 < bs.length := by omega
    clear hr hby hl
    go_enter Try.func8, Try.ntmps8
    go_wp2
    go_ret
    exact ⟨rfl, Below.refl _ _⟩
end Go.Proofs.Ytonhkadbiepedaa
