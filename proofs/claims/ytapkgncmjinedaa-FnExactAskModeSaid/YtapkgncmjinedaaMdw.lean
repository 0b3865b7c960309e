/- What the drawing functions of modes leave. -/
import Derived.Test.YtapkgncmjinedaaMdr
import Derived.Test.YtapkgncmjinedaaRgd
import Derived.Test.YtapkgncmjinedaaStp
import Derived.Deep.RegionLaw
namespace Go.Proofs.Ytapkgncmjinedaa
open Go.RowKit Go.Sort
set_option maxRecDepth 100000 in
set_option maxHeartbeats 6400000 in
theorem callDrawModes (g M : Nat) (n : Int) (w : World) (hr : Rdr w g M) (hM : M ≤ 700000) :
    Calls Try.prog 52 #[.pointer (some ⟨g, 0, none⟩), .int .i64 n] w fun e w' =>
      ∃ A c ts now next p, e = .returned (.tuple #[.agg #[.slice A (ts : List Tab).length c, .int .i64 now, .int .i64 next], .int .i64 p]) ∧ OwnT w' w.heap.size (.slice A ts.length c) ts ∧ ts.length ≤ 4 ∧ 1 ≤ p ∧ p ≤ 3 ∧ -10 ≤ now ∧ now ≤ 10 ∧ -10 ≤ next ∧ next ≤ 10 ∧ Rdr w' g (M + 200) ∧ w.grownBy w' (some g) := by
  have hgw := hr.lt
  have HR := Lib.hid (hr.alloc (.cells #[.slice none 0 0, .int .i64 0, .int .i64 0] 25))
  have HZ := Lib.hid (heap_alloc_new w (.cells #[.slice none 0 0, .int .i64 0, .int .i64 0] 25))
  have HG0 : Hid (w.grownBy (w.alloc (.cells #[.slice none 0 0, .int .i64 0, .int .i64 0] 25)) (some g)) := grown_alloc (World.grownBy.refl w _) _
  clear hr
  go_enter Try.func52, Try.ntmps52
  go_wp2_with fail
  refine (callPick g M 3 _ HR.out (by omega)).mono ?_
  rintro e w1 ⟨k1, rfl, a1, a2, _, hr1, hg1⟩
  have ha : k1 < 3 := a2 (by omega)
  have hs1 : w.heap.size < w1.heap.size := by have := hg1.size; simp at this; omega
  have S1 : Hid (MB w g (M + 1) w1.heap.size none 0 [] 0 (-1) (w1.alloc (.cells #[.slice none 0 0, .int .i64 0, .int .i64 (-1)] 25))) :=
    ⟨hr1.alloc _, grown_alloc (grown_trans' HG0.out hg1) _, blkc (gblk hg1 HZ.out (by simp; omega)) (below1 w1 _), heap_alloc_new w1 _, OwnT.none_, hgw, hs1⟩
  clear hr1 hg1 HR HZ HG0 a2
  go_upto_region 3 with (fail)
  obtain ⟨X, hX⟩ : ∃ X, X = w1.heap.size := ⟨_, rfl⟩
  obtain ⟨w2, hw2⟩ : ∃ w2, w2 = w1.alloc (.cells #[.slice none 0 0, .int .i64 0, .int .i64 (-1)] 25) := ⟨_, rfl⟩
  rw [← hX] at S1 ⊢
  rw [← hw2] at S1 ⊢
  clear hw2 hX hs1
  go_wp2_with fail
  refine (callPick g _ 3 w2 S1.out.rdr (by omega)).mono ?_
  rintro e w3 ⟨j0, rfl, b1, b2, _, hr3, hg3⟩
  obtain ⟨j0, rfl⟩ := Int.eq_ofNat_of_zero_le b1
  have hj0 : j0 < 3 := by have := b2 (by omega); omega
  have S3 := Lib.hid (S1.out.step hr3 hg3)
  clear hr3 hg3 b2 S1
  go_wp2_with fail
  go_loopw [8] (fun i wr => ∃ (j : Nat) (A : Option Addr) (c : Nat) (ts : List Tab), i = .int .i64 j ∧ ts.length + j = 1 + j0 ∧ Hid (MB w g (M + 2 + 20 * ts.length) X A c ts 0 (-1) wr)) (fun i _ => (intOf i).toNat)
  case atStart => exact ⟨1 + j0, none, 0, [], by go_num, by simp, S3.out⟩
  case round =>
    clear S3
    obtain ⟨j, A, c, ts, rfl, hjl, SR⟩ := hrel
    by_cases hj : 0 < j
    · obtain ⟨j', rfl⟩ : ∃ j', j = j' + 1 := ⟨j - 1, by omega⟩
      have hM1 : M + 2 + 20 * ts.length ≤ 800000 := by omega
      have hpk : -10 ≤ 1 + k1 := by omega
      have hpk2 : 1 + k1 ≤ 20 := by omega
      obtain ⟨x0, x1, x2, x3, x4, x5, x6⟩ := cell3 SR.out.box
      go_upto_region 6 with (fail)
      have hroom : ts.length + 1 ≤ 1073741824 := by omega
      go_region_law (first
        | (go_simp; go_at_call 86; refine (callDrawSlots g _ (1 + k1) 0 _ SR.out.drew.rdr hM1 hpk hpk2).mono ?_; rintro e w5 ⟨As, cs, xs, rfl, ho5, hl5, hr5, hg5⟩; have S5 := Lib.hid (SR.out.drew.step hr5 hg5); have HO5 := Lib.hid (ho5.more (base' := w.heap.size) SR.out.drew.gr.size); have HL5 := Lib.hid hl5; clear ho5 hr5 hg5 hl5; obtain ⟨y0, y1, y2, y3, y4, y5, y6⟩ := cell3 S5.out.box)
        | (refine step_app (w := w5.alloc (.cells #[.slice As xs.length cs] 33)) (n := 1) (c := 1) eiTab (by rfl) (.tmp 21) (.tmp 25) rfl w.heap.size (xs := ts) (ys := [(⟨As, cs, xs⟩ : Tab)]) (S5.out.own.1.alloc _) (Rd.new (E := eTab) (xs := [(⟨As, cs, xs⟩ : Tab)]) _ _ _ rfl) rfl (by simp [Act.eval]) (by simp [Act.eval]) hroom (by have := S5.out.gr.size; simp; omega) ?_; intro v' w6 row ho6 hg6 hrow6; obtain ⟨A6, c6, hv6, hc6, _⟩ := ho6.form; subst hv6; have HT6 := Lib.hid ((S5.out.own.alloc _).app (p := ⟨As, cs, xs⟩) (HO5.out.alloc _) HL5.out ho6 hg6 hrow6); have HK6 := Lib.hid ((S5.out.alloc _).kept hg6 hrow6); have S7 := Lib.hid ((S5.out.alloc _).app hg6 hrow6 HT6.out); obtain ⟨m0, m1, m2, m3, m4, m5, m6⟩ := cell3 HK6.out.1; clear ho6 hg6 hrow6))
      all_goals
        go_wp2_with fail
        go_roundw
        case rel =>
          refine ⟨j', A6, c6, ts ++ [(⟨As, cs, xs⟩ : Tab)], by go_num, by simp; omega, ?_⟩
          have S8 := S7.out.more (M' := M + 2 + 20 * (ts ++ [(⟨As, cs, xs⟩ : Tab)]).length) (by simp; omega)
          show MB w g _ X A6 c6 _ 0 (-1) _
          simpa using S8
        case measure => simp [intOf]
    · have hj0' : j = 0 := by omega
      subst hj0'
      have hl3 : ts.length ≤ 3 := by omega
      have hl1 : 1 ≤ ts.length := by omega
      obtain ⟨x0, x1, x2, x3, x4, x5, x6⟩ := cell3 SR.out.box
      go_wp2_with fail
      refine (callPick g _ (ts.length : Int) wr SR.out.rdr (by omega)).mono ?_
      rintro e w5 ⟨q1, rfl, d1, d2, _, hr5, hg5⟩
      have hq1 : q1 < ts.length := d2 (by omega)
      have S5' := Lib.hid (SR.out.step hr5 hg5)
      have S5 := Lib.hid (S5'.out.setNow q1)
      clear hr5 hg5 d2 SR x0 x1 x2 x3 x4 x5 x6
      obtain ⟨x0, x1, x2, x3, x4, x5, x6⟩ := cell3 S5'.out.box
      obtain ⟨y0, y1, y2, y3, y4, y5, y6⟩ := cell3 S5.out.box
      go_wp2_with fail
      refine (callPick g _ ((ts.length : Int) + 1) _ S5.out.rdr (by omega)).mono ?_
      rintro e w6 ⟨q2, rfl, e1, e2, _, hr6, hg6⟩
      have hq2 : q2 < ts.length + 1 := e2 (by omega)
      have S6' := Lib.hid (S5.out.step hr6 hg6)
      have S6 := Lib.hid ((S6'.out.setNext (q2 - 1)).more (M' := M + 100) (by omega))
      clear hr6 hg6 e2 S5 S5' x0 x1 x2 x3 x4 x5 x6 y0 y1 y2 y3 y4 y5 y6
      obtain ⟨x0, x1, x2, x3, x4, x5, x6⟩ := cell3 S6'.out.box
      obtain ⟨y0, y1, y2, y3, y4, y5, y6⟩ := cell3 S6.out.box
      go_wp2_with fail
      refine (callOdd g _ _ _ S6.out.rdr (by omega)).mono ?_
      rintro e w7 ⟨o1, rfl, hr7, hg7⟩
      have S7 := Lib.hid (S6.out.step hr7 hg7)
      clear hr7 hg7 S6 S6' x0 x1 x2 x3 x4 x5 x6 y0 y1 y2 y3 y4 y5 y6
      go_upto_if 44 with (fail)
      go_cut [] (fun wx => ∃ (A : Option Addr) (c : Nat) (ts : List Tab) (now next : Int), ts.length ≤ 3 ∧ -10 ≤ now ∧ now ≤ 10 ∧ -10 ≤ next ∧ next ≤ 10 ∧ Hid (MB w g (M + 200) X A c ts now next wx))
      case first =>
        cases o1
        · go_wp2_with fail
          go_meet
          case rel => exact ⟨A, c, ts, q1, q2 - 1, hl3, by omega, by omega, by omega, by omega, S7.out.more (by omega)⟩
        · go_wp2_with fail
          refine (callPick g _ _ _ S7.out.rdr (by omega)).mono ?_
          rintro e w8 ⟨q, rfl, g1, g2, _, hr8, hg8⟩
          have hq4 : q = 0 ∨ q = 1 ∨ q = 2 ∨ q = 3 := by have := g2 (by omega); omega
          have S8 := Lib.hid (S7.out.step hr8 hg8)
          clear hr8 hg8 S7 g2
          have hM1 : M + 100 + 1 + 1 ≤ 1000000 := by omega
          have hgr : g < w8.heap.size := S8.out.rdr.lt
          obtain ⟨x0, x1, x2, _, _, _, x6⟩ := cell3 S8.out.box
          rcases hq4 with rfl | rfl | rfl | rfl
          · go_upto_region 13 with (fail)
            go_region_law (first
              | (go_simp; go_at_call 53; (with_reducible refine (callPick g _ _ _ (S8.out.alloc _).drew.rdr hM1).mono ?_); rintro e w6 ⟨q, rfl, e1, e2, _, hr6, hg6⟩; have hg6' : g < w6.heap.size := hr6.lt; obtain ⟨kk, y, rfl, hy, hy1, hy2⟩ := litc (w := w6) (g := w8.heap.size) [-1, (ts.length : Int)] (gblk (a := (w8.alloc (.cells #[.int .i64 (-1), .int .i64 (ts.length : Int)] 3)).drew) hg6 (heap_alloc_new w8 _) (by simp; omega)) (lo := -10) (hi := 10) (by simp; omega) e1 (by have := e2 (by omega); simp; omega); have hk3 : (kk : Int) < 2 := e2 (by omega); have S6 := Lib.hid ((S8.out.alloc _).drew.step hr6 hg6); clear hr6 hg6 e2; obtain ⟨m0, m1, m2, _, _, _, m6⟩ := cell3 S6.out.box; have SF := Lib.hid (S6.out.setNow y))
              | (go_simp; go_at_call 53; (with_reducible refine (callPick g _ _ _ S8.out.drew.rdr hM1).mono ?_); rintro e w6 ⟨q, rfl, e1, e2, _, hr6, hg6⟩; have hk3' : q < 2 := e2 (by omega); have hg6' : g < w6.heap.size := hr6.lt; have S6 := Lib.hid (S8.out.drew.step hr6 hg6); clear hr6 hg6 e2; obtain ⟨kk, y, rfl, hy, hy1, hy2⟩ := litc (w := w6.alloc (.cells #[.int .i64 (-1), .int .i64 (ts.length : Int)] 3)) (g := w6.heap.size) [-1, (ts.length : Int)] (heap_alloc_new w6 _) (lo := -10) (hi := 10) (by simp; omega) e1 (by simp; omega); obtain ⟨m0, m1, m2, _, _, _, m6⟩ := cell3 S6.out.box; have SF := Lib.hid ((S6.out.setNow y).alloc (.cells #[.int .i64 (-1), .int .i64 (ts.length : Int)] 3))))
            all_goals
              go_wp2_with fail
              go_meet
              case rel => exact ⟨A, c, ts, y, q2 - 1, hl3, by omega, by omega, by omega, by omega, SF.out.more (by omega)⟩
          · go_upto_region 15 with (fail)
            go_region_law (first
              | (go_simp; go_at_call 53; (with_reducible refine (callPick g _ _ _ (S8.out.alloc _).drew.rdr hM1).mono ?_); rintro e w6 ⟨q, rfl, e1, e2, _, hr6, hg6⟩; have hg6' : g < w6.heap.size := hr6.lt; obtain ⟨kk, y, rfl, hy, hy1, hy2⟩ := litc (w := w6) (g := w8.heap.size) [-2, (ts.length : Int)] (gblk (a := (w8.alloc (.cells #[.int .i64 (-2), .int .i64 (ts.length : Int)] 3)).drew) hg6 (heap_alloc_new w8 _) (by simp; omega)) (lo := -10) (hi := 10) (by simp; omega) e1 (by have := e2 (by omega); simp; omega); have hk3 : (kk : Int) < 2 := e2 (by omega); have S6 := Lib.hid ((S8.out.alloc _).drew.step hr6 hg6); clear hr6 hg6 e2; obtain ⟨m0, m1, m2, _, _, _, m6⟩ := cell3 S6.out.box; have SF := Lib.hid (S6.out.setNext y))
              | (go_simp; go_at_call 53; (with_reducible refine (callPick g _ _ _ S8.out.drew.rdr hM1).mono ?_); rintro e w6 ⟨q, rfl, e1, e2, _, hr6, hg6⟩; have hk3' : q < 2 := e2 (by omega); have hg6' : g < w6.heap.size := hr6.lt; have S6 := Lib.hid (S8.out.drew.step hr6 hg6); clear hr6 hg6 e2; obtain ⟨kk, y, rfl, hy, hy1, hy2⟩ := litc (w := w6.alloc (.cells #[.int .i64 (-2), .int .i64 (ts.length : Int)] 3)) (g := w6.heap.size) [-2, (ts.length : Int)] (heap_alloc_new w6 _) (lo := -10) (hi := 10) (by simp; omega) e1 (by simp; omega); obtain ⟨m0, m1, m2, _, _, _, m6⟩ := cell3 S6.out.box; have SF := Lib.hid ((S6.out.setNext y).alloc (.cells #[.int .i64 (-2), .int .i64 (ts.length : Int)] 3))))
            all_goals
              go_wp2_with fail
              go_meet
              case rel => exact ⟨A, c, ts, q1, y, hl3, by omega, by omega, by omega, by omega, SF.out.more (by omega)⟩
          · have S9 := Lib.hid ((S8.out.setFrames (us := []) (A' := some ⟨w8.heap.size, 0, none⟩) (c' := 0) OwnT.none_).alloc (.cells #[] 33))
            go_wp2_with fail
            go_meet
            case rel => exact ⟨some ⟨w8.heap.size, 0, none⟩, 0, [], q1, q2 - 1, by simp, by omega, by omega, by omega, by omega, S9.out.more (by omega)⟩
          · go_upto_region 11 with (fail)
            obtain ⟨b, rfl, hb1, hb2, hb3, ⟨vb, hb4⟩, _⟩ := S8.out.blk hl1
            have hpk : -10 ≤ 1 + k1 := by omega
            have hpk2 : 1 + k1 ≤ 20 := by omega
            have hl0 : (0 : Int) < (ts.length : Int) := by omega
            have hl00 : 0 < ts.length := hl1
            go_region_law (go_simp; go_at_call 86; refine (callDrawSlots g _ (1 + k1) 1 _ S8.out.drew.rdr (by omega) hpk hpk2).mono ?_; rintro e w5 ⟨As, cs, xs, rfl, ho5, hl5, hr5, hg5⟩; have S5 := Lib.hid (S8.out.drew.step hr5 hg5); obtain ⟨b', hbb, c1, c2, c3, ⟨vb', c4⟩, _⟩ := S5.out.blk hl1; simp only [Option.some.injEq, Addr.mk.injEq, and_true] at hbb; subst hbb; have SF := Lib.hid (S5.out.setRow (y := ⟨As, cs, xs⟩) hl1 (ho5.more S8.out.drew.gr.size) hl5); clear ho5 hr5 hg5 hl5; obtain ⟨n0, n1, n2, _, _, _, n6⟩ := cell3 S5.out.box)
            all_goals
              go_wp2_with fail
              go_meet
              case rel => exact ⟨some ⟨b, 0, none⟩, c, ts.set 0 ⟨As, cs, xs⟩, q1, q2 - 1, by rw [List.length_set]; exact hl3, by omega, by omega, by omega, by omega, SF.out.more (by omega)⟩
      case rest =>
        clear S7
        obtain ⟨A, c, ts, now, next, hl3, hn1, hn2, hn3, hn4, SR⟩ := hcut
        obtain ⟨x0, x1, x2, x3, x4, x5, x6⟩ := cell3 SR.out.box
        obtain ⟨y0, y1, y2, y3, y4, y5, y6⟩ := cell3 SR.out.res
        obtain ⟨s0, s1, s2⟩ := res3 SR.out.res (.slice A ts.length c) (.int .i64 now) (.int .i64 next)
        have HF := Lib.hid (And.intro (modes3 SR.out.res (.slice A ts.length c) (.int .i64 now) (.int .i64 next) SR.out.own) (And.intro (((SR.out.rdr.setNew (p := ⟨w.heap.size, 0, none⟩) SR.out.hg (.slice A ts.length c)).setNew (p := ⟨w.heap.size, 1, none⟩) SR.out.hg (.int .i64 now)).setNew (p := ⟨w.heap.size, 2, none⟩) SR.out.hg (.int .i64 next)) (grown_setNew (grown_setNew (grown_setNew SR.out.gr (p := ⟨w.heap.size, 0, none⟩) (Nat.le_refl _) (.slice A ts.length c)) (p := ⟨w.heap.size, 1, none⟩) (Nat.le_refl _) (.int .i64 now)) (p := ⟨w.heap.size, 2, none⟩) (Nat.le_refl _) (.int .i64 next))))
        go_wp2_with fail
        exact bodyPost_ret (v := .tuple #[.agg #[.slice A ts.length c, .int .i64 now, .int .i64 next], .int .i64 (1 + k1)]) (by simp [results, Try.results52, go_sem, s0, s1, s2]) rfl ⟨A, c, ts, now, next, 1 + k1, rfl, HF.out.1, by omega, by omega, by omega, hn1, hn2, hn3, hn4, HF.out.2.1, HF.out.2.2⟩
end Go.Proofs.Ytapkgncmjinedaa
