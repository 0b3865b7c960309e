/- The walk of the law FnCoreValid: true for every input, and nothing that was there is written. -/
import Derived.Test.YtiodpnhokjkjaaaCdw
import Derived.Test.YtiodpnhokjkjaaaCok
namespace Go.Proofs.Ytiodpnhokjkjaaa
open Go.RowKit Go.Sort

theorem core_more {cr : Cor} {os : List Ord3} {cells : Int} (h : coreB cr os cells = true) : coreB ⟨cr.cs ++ [0], cr.at', cr.stop⟩ os cells = false := by
  rw [Bool.eq_false_iff]
  intro h'
  have h1 := (coreB_iff.1 h).2.1
  have h2 := (coreB_iff.1 h').2.1
  simp at h2
  omega
theorem core_end (cs : List Int) (st : Bool) (os : List Ord3) (cells : Int) : coreB ⟨cs, os.length, st⟩ os cells = false := by
  rw [Bool.eq_false_iff]
  intro h'
  have h2 := (coreB_iff.1 h').2.2.1.2
  simp at h2
  omega

set_option maxRecDepth 100000 in
set_option maxHeartbeats 3200000 in
theorem walkFnCoreValid (A : Option Addr) (c : Nat) (bs : List Int) (w : World) (hc : bs.length ≤ c) (hr : Rd eU8 w w.heap.size A bs) (hby : ∀ x ∈ bs, 0 ≤ x ∧ x ≤ 255) :
    Calls Try.prog 7 #[.slice A bs.length c] w fun e w' => e = .returned (.bool true) ∧ Below w.heap.size w w' := by
  by_cases hl : bs.length ≤ 1048576
  · have HC := Lib.hid (callDrawCoreValid A c bs w hc hl hr hby)
    clear hr hby
    go_enter Try.func7, Try.ntmps7
    go_wp2_with fail
    refine HC.out.mono ?_
    rintro e w1 ⟨A1, c1, cr, A2, c2, os, cells, rfl, hl5, hc1, hl21, hc2, hra, hro, hb1⟩
    have CM : Hid (coreB cr os cells = true → coreB ⟨cr.cs ++ [0], cr.at', cr.stop⟩ os cells = false) := core_more
    have CE := Lib.hid (core_end cr.cs cr.stop os cells)
    obtain ⟨cs, at0, st⟩ := cr
    simp only at hl5 hc1 hra CM CE ⊢
    have HB1 := Lib.hid (bel_trans hb1 (below1 w1 (.cells #[.slice A1 cs.length c1, .int .i64 at0, .bool st] 33)))
    have KX := Lib.hid (heap_alloc_new w1 (.cells #[.slice A1 cs.length c1, .int .i64 at0, .bool st] 33))
    have HA := Lib.hid (hra.alloc (.cells #[.slice A1 cs.length c1, .int .i64 at0, .bool st] 33))
    have HO := Lib.hid (hro.alloc (.cells #[.slice A1 cs.length c1, .int .i64 at0, .bool st] 33))
    clear hra hro hb1 HC
    go_upto_region 4 with (fail)
    obtain ⟨u, hu⟩ : ∃ u, u = w1.alloc (.cells #[.slice A1 cs.length c1, .int .i64 at0, .bool st] 33) := ⟨_, rfl⟩
    obtain ⟨X, hX⟩ : ∃ X, X = w1.heap.size := ⟨_, rfl⟩
    rw [← hu] at HB1 KX HA HO ⊢
    rw [← hX] at KX ⊢
    clear hu hX
    have V1 : Hid (∀ W, Below u.heap.size u W → Calls Try.prog 23 #[.agg #[.slice A1 cs.length c1, .int .i64 at0, .bool st], .slice A2 os.length c2, .int .i64 cells] W fun e w' => e = .returned (.bool (coreB ⟨cs, at0, st⟩ os cells)) ∧ Below W.heap.size W w') := fun W hW => callCoreValid A1 c1 ⟨cs, at0, st⟩ A2 c2 os cells W u.heap.size hW.size (by simp; omega) (by omega) (HA.out.below hW) (HO.out.below hW)
    have V2 : Hid (∀ W, Below u.heap.size u W → Calls Try.prog 22 #[.agg #[.slice A1 cs.length c1, .int .i64 at0, .bool st], .slice A2 os.length c2, .int .i64 cells] W fun e w' => e = .returned (.bool (coreB ⟨cs, at0, st⟩ os cells)) ∧ Below W.heap.size W w') := fun W hW => callSCoreValid A1 c1 ⟨cs, at0, st⟩ A2 c2 os cells W u.heap.size hW.size (by simp; omega) (by omega) (HA.out.below hW) (HO.out.below hW)
    obtain ⟨ok, hok⟩ : ∃ ok, ok = coreB ⟨cs, at0, st⟩ os cells := ⟨_, rfl⟩
    rw [← hok] at V1 V2 CM
    have HOKK := Lib.hid hok
    clear hok
    obtain ⟨x0, x1, x2, _, _, _, x6⟩ := cell3 KX.out
    go_wp2_with fail
    refine (V1.out u (Below.refl _ _)).mono ?_
    rintro e w2 ⟨rfl, hb2⟩
    have K2 := Lib.hid (blkc KX.out hb2)
    have B2 := Lib.hid hb2
    clear hb2 x0 x1 x2 x6
    obtain ⟨x0, x1, x2, _, _, _, x6⟩ := cell3 K2.out
    go_wp2_with fail
    refine (V2.out w2 B2.out).mono ?_
    rintro e w3 ⟨rfl, hb3⟩
    have K3 := Lib.hid (blkc K2.out hb3)
    have B3 := Lib.hid (bel_trans B2.out hb3)
    clear hb3 x0 x1 x2 x6 K2 B2
    have R3 := Lib.hid (And.intro (HA.out.next B3.out) (HO.out.next B3.out))
    have BW3 := Lib.hid (bel_trans HB1.out B3.out)
    obtain ⟨x0, x1, x2, _, _, _, x6⟩ := cell3 K3.out
    clear KX HA HO V1 V2 HB1
    obtain ⟨ok2, hok2⟩ : ∃ ok2, ok2 = ok := ⟨_, rfl⟩
    have HK2 := Lib.hid hok2
    clear hok2
    cases ok
    all_goals
      go_upto_region 8 with (fail)
      obtain ⟨Y, hY⟩ : ∃ Y, Y = w3.heap.size := ⟨_, rfl⟩
      have KY : Hid ((w3.alloc (.cells #[.slice A1 cs.length c1, .int .i64 at0, .bool st] 33)).heap[Y]? = some (.cells #[.slice A1 cs.length c1, .int .i64 at0, .bool st] 33 (0, 0))) := by rw [hY]; exact heap_alloc_new w3 _
      have K4 := Lib.hid (blkc K3.out (below1 w3 (.cells #[.slice A1 cs.length c1, .int .i64 at0, .bool st] 33)))
      have R4 := Lib.hid (And.intro (R3.out.1.alloc (.cells #[.slice A1 cs.length c1, .int .i64 at0, .bool st] 33)) (R3.out.2.alloc (.cells #[.slice A1 cs.length c1, .int .i64 at0, .bool st] 33)))
      have BW4 := Lib.hid (bel_trans BW3.out (below1 w3 (.cells #[.slice A1 cs.length c1, .int .i64 at0, .bool st] 33)))
      obtain ⟨w4, hw4⟩ : ∃ w4, w4 = w3.alloc (.cells #[.slice A1 cs.length c1, .int .i64 at0, .bool st] 33) := ⟨_, rfl⟩
      rw [← hw4] at KY K4 R4 BW4 ⊢
      rw [← hY]
      have hXlt : X < Y := by rw [hY]; exact x6
      have hYw : w.heap.size ≤ Y := by rw [hY]; exact BW3.out.size
      have R3' : Hid (Rd eInt w4 Y A1 cs ∧ Rd eOrd w4 Y A2 os) := by rw [hw4, hY]; exact ⟨R3.out.1.below (below1 _ _), R3.out.2.below (below1 _ _)⟩
      clear hw4 hY BW3 R3 K3 x0 x1 x2 x6 B3
      obtain ⟨x0, x1, x2, _, _, _, x6⟩ := cell3 K4.out
      have hXY : X < w4.heap.size := x6
      have hYs : Y < w4.heap.size := (cell3 KY.out).2.2.2.2.2.2
      go_upto_region 9 with (at_builtin; first
        | (refine wpList_app _ eiInt rfl (.tmp 29) (.tmp 31) rfl w4.heap.size Own.none_ (R4.out.1.alloc _) rfl rfl rfl (by simp; omega) (by simp) ?_; intro v1 w6 row1 ho1 hg1 hr1; rw [List.nil_append] at ho1; obtain ⟨A6, c6, hv6, _, _⟩ := ho1.form; subst hv6; have HO1 := Lib.hid ho1; have B46 : Hid (Below w4.heap.size w4 w6) := (below1 w4 (.cells #[] 3)).grown hg1 (by simp) (fun k hk => (hr1 k hk).1); clear ho1 hg1 hr1)
        | (refine wpList_app _ eiInt rfl (.tmp 32) (.tmp 33) rfl w4.heap.size (HO1.out.alloc _) (Rd.new (E := eInt) (xs := [(0 : Int)]) _ _ _ rfl) rfl rfl rfl (by simp; omega) (by have := B46.out.size; simp; omega) ?_; intro v2 w7 row2 ho2 hg2 hr2; obtain ⟨A7, c7, hv7, hc7, _⟩ := ho2.form; subst hv7; have HO2 := Lib.hid ho2; have B47 : Hid (Below w4.heap.size w4 w7) := (bel_trans B46.out (below1 w6 (.cells #[.int .i64 0] 3))).grown hg2 (by have := B46.out.size; simp; omega) (fun k hk => (hr2 k hk).1); clear ho2 hg2 hr2; obtain ⟨y0, y1, y2, y3, y4, y5, y6⟩ := cell3 (blkc KY.out B47.out); obtain ⟨z0, z1, z2, z3, z4, z5, z6⟩ := cell3 (blkc K4.out B47.out)))
      obtain ⟨w8, hw8⟩ : ∃ w8, w8 = w7.setCell ⟨Y, 0, none⟩ (.slice A7 (cs.length + 1) c7) := ⟨_, rfl⟩
      have KX8 : Hid (w8.heap[X]? = some (.cells #[.slice A1 cs.length c1, .int .i64 at0, .bool st] 33 (0, 0))) := by rw [hw8]; exact gblk (gset 0 _) (blkc K4.out B47.out) (by simp; omega)
      have KY8 : Hid (w8.heap[Y]? = some (.cells #[.slice A7 (cs.length + 1) c7, .int .i64 at0, .bool st] 33 (0, 0))) := by rw [hw8]; exact set3a (blkc KY.out B47.out)
      have B8 : Hid (Below Y w4 w8) := by rw [hw8]; exact (B47.out.mono (Nat.le_of_lt hYs)).setCell (p := ⟨Y, 0, none⟩) (Nat.le_refl _) _
      have R8 : Hid (Rd eInt w8 Y A1 cs ∧ Rd eOrd w8 Y A2 os) := ⟨R3'.out.1.below B8.out, R3'.out.2.below B8.out⟩
      have hc7' : (cs ++ [(0 : Int)]).length ≤ c7 := hc7
      have Q8 : Hid (Rd eInt w8 w8.heap.size A7 (cs ++ [0])) := by
        have h := HO2.out
        rw [hw8]
        exact (h.kept (gset 0 _) (fun k hk => by cases hk; exact hYs)).rd
      have BW8 : Hid (Below w.heap.size w w8) := BW4.out.trans (B8.out.mono hYw)
      have hY8 : Y < w8.heap.size := (cell3 KY8.out).2.2.2.2.2.2
      rw [← hw8]
      clear hw8 B47 HO2 B46 HO1 B8 BW4 R4 R3' K4 KY y0 y1 y2 y3 y4 y5 y6 z0 z1 z2 z3 z4 z5 z6 x0 x1 x2 x6
      obtain ⟨x0, x1, x2, _, _, _, x6⟩ := cell3 KX8.out
      go_upto_region 11 with (fail)
      have HBz := Lib.hid (below1 w8 (.cells #[.slice A1 cs.length c1, .int .i64 (os.length : Int), .bool st] 33))
      have KZ := Lib.hid (heap_alloc_new w8 (.cells #[.slice A1 cs.length c1, .int .i64 (os.length : Int), .bool st] 33))
      obtain ⟨w9, hw9⟩ : ∃ w9, w9 = w8.alloc (.cells #[.slice A1 cs.length c1, .int .i64 (os.length : Int), .bool st] 33) := ⟨_, rfl⟩
      obtain ⟨Z, hZ⟩ : ∃ Z, Z = w8.heap.size := ⟨_, rfl⟩
      rw [← hw9] at HBz KZ ⊢
      have HBY : Hid (Below Y w8 w9) := HBz.out.mono (by omega)
      have KY9 := Lib.hid (blkc KY8.out HBz.out)
      have Q9 := Lib.hid (Q8.out.next HBz.out)
      have R9 : Hid (Rd eInt w9 Y A1 cs ∧ Rd eOrd w9 Y A2 os) := ⟨R8.out.1.below HBY.out, R8.out.2.below HBY.out⟩
      have BW9 := Lib.hid (bel_trans BW8.out HBz.out)
      rw [← hZ] at KZ
      rw [← hZ]
      have hY9 : Y ≤ w9.heap.size := by have := HBz.out.size; omega
      clear hw9 hZ HBz HBY Q8 R8 BW8 KY8 KX8 x0 x1 x2 x6
      have V1 : Hid (∀ W, Below w9.heap.size w9 W → Calls Try.prog 23 #[.agg #[.slice A7 (cs.length + 1) c7, .int .i64 at0, .bool st], .slice A2 os.length c2, .int .i64 cells] W fun e w' => e = .returned (.bool (coreB ⟨cs ++ [0], at0, st⟩ os cells)) ∧ Below W.heap.size W w') := fun W hW => by
        have := callCoreValid A7 c7 ⟨cs ++ [0], at0, st⟩ A2 c2 os cells W w9.heap.size hW.size (by simp; omega) (by omega) (Q9.out.below hW) (((R9.out.2.mono hY9)).below hW)
        simpa using this
      have V2 : Hid (∀ W, Below w9.heap.size w9 W → Calls Try.prog 23 #[.agg #[.slice A1 cs.length c1, .int .i64 (os.length : Int), .bool st], .slice A2 os.length c2, .int .i64 cells] W fun e w' => e = .returned (.bool false) ∧ Below W.heap.size W w') := fun W hW => by
        have := callCoreValid A1 c1 ⟨cs, os.length, st⟩ A2 c2 os cells W w9.heap.size hW.size (by simp; omega) (by omega) ((R9.out.1.mono hY9).below hW) ((R9.out.2.mono hY9).below hW)
        rw [CE.out] at this
        exact this
      obtain ⟨y0, y1, y2, _, _, _, y6⟩ := cell3 KY9.out
    · go_wp2_with fail
      refine (callAlive _).mono ?_
      rintro e w10 ⟨rfl, hb10⟩
      go_wp2
      go_ret
      exact ⟨rfl, bel_trans BW9.out hb10⟩
    · rw [CM.out trivial] at V1
      go_wp2_with fail
      refine (V1.out w9 (Below.refl _ _)).mono ?_
      rintro e w10 ⟨rfl, hb10⟩
      have B10 := Lib.hid hb10
      obtain ⟨z0, z1, z2, _, _, _, z6⟩ := cell3 (blkc KZ.out hb10)
      clear hb10
      go_wp2_with fail
      refine (V2.out w10 B10.out).mono ?_
      rintro e w11 ⟨rfl, hb11⟩
      have B11 := Lib.hid (bel_trans B10.out hb11)
      clear hb11
      go_wp2_with fail
      refine (callAlive _).mono ?_
      rintro e w12 ⟨rfl, hb12⟩
      go_wp2
      go_ret
      exact ⟨rfl, bel_trans BW9.out (bel_trans B11.out hb12)⟩
  · have hl' : 1048576 < bs.length := by omega
    clear hr hby hl
    go_enter Try.func7, Try.ntmps7
    go_wp2
    go_ret
    exact ⟨rfl, Below.refl _ _⟩
end Go.Proofs.Ytiodpnhokjkjaaa
