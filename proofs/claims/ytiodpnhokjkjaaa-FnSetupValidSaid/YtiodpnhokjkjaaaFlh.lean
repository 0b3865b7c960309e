/- What the drawing functions of channels and nets leave. -/
import Derived.Test.YtiodpnhokjkjaaaFlc
import Derived.Test.YtiodpnhokjkjaaaRgd
import Derived.Deep.RegionLaw
namespace Go.Proofs.Ytiodpnhokjkjaaa
open Go.RowKit Go.Sort

theorem set4c {w : World} {b : Nat} {x y z t u : Value} {T : TypeId} (h : w.heap[b]? = some (.cells #[x, y, z, t] T (0, 0))) : (w.setCell ⟨b, 2, none⟩ u).heap[b]? = some (.cells #[x, y, u, t] T (0, 0)) := by
  rw [heap_setCell_same w b 2 _ _ u h]; rfl
theorem set4d {w : World} {b : Nat} {x y z t u : Value} {T : TypeId} (h : w.heap[b]? = some (.cells #[x, y, z, t] T (0, 0))) : (w.setCell ⟨b, 3, none⟩ u).heap[b]? = some (.cells #[x, y, z, u] T (0, 0)) := by
  rw [heap_setCell_same w b 3 _ _ u h]; rfl
theorem frz4 {w : World} {b : Nat} {x y z t : Value} {T : TypeId} (h : w.heap[b]? = some (.cells #[x, y, z, t] T (0, 0))) (o : Nat) : w.frozen? ⟨b, o, none⟩ = false := frozen_of_row w b o _ _ h
/-- The reader and a list of channels. -/
structure CL (w0 : World) (g M : Nat) (A : Option Addr) (c : Nat) (os : List Chn) (wx : World) : Prop where
  rdr : Rdr wx g M
  gr : w0.grownBy wx (some g)
  own : Own eChn 64 wx w0.heap.size (.slice A os.length c) os
  hg : g < w0.heap.size
  hc : os.length ≤ c
/-- The same, and a channel in a box. -/
structure CB4 (w0 : World) (g M X : Nat) (k f t s : Int) (A : Option Addr) (c : Nat) (os : List Chn) (wx : World) : Prop where
  cl : CL w0 g M A c os wx
  box : wx.heap[X]? = some (.cells #[.int .i64 k, .int .i64 f, .int .i64 t, .int .i64 s] 64 (0, 0))
  hX : w0.heap.size ≤ X
  hne : (Value.slice A os.length c).ownBlock ≠ some X ∨ os = [] ∧ ∃ A', (Value.slice A os.length c) = .slice A' 0 0
section
variable {w0 wx w' : World} {g M M' X : Nat} {A : Option Addr} {c : Nat} {os : List Chn} {k f t s : Int}
theorem CL.step (h : CL w0 g M A c os wx) (hr : Rdr w' g M') (hg : wx.grownBy w' (some g)) : CL w0 g M' A c os w' :=
  ⟨hr, grown_trans' h.gr hg, h.own.kept hg (fun k hk => by cases hk; exact h.hg), h.hg, h.hc⟩
theorem CL.alloc (h : CL w0 g M A c os wx) (o : Obj) : CL w0 g M A c os (wx.alloc o) := h.step (h.rdr.next (below1 _ _)) (grownBy_of_below (below1 _ _) _)
theorem CL.more (h : CL w0 g M A c os wx) (hM : M ≤ M') : CL w0 g M' A c os wx := ⟨h.rdr.more hM, h.gr, h.own, h.hg, h.hc⟩
theorem CL.drew (h : CL w0 g M A c os wx) : CL w0 g M A c os wx.drew := ⟨h.rdr, ⟨h.gr.os, h.gr.tape, h.gr.output, h.gr.size, h.gr.block⟩, h.own, h.hg, h.hc⟩
theorem CL.box (h : CL w0 g M A c os wx) (k f t s : Int) : CB4 w0 g M wx.heap.size k f t s A c os (wx.alloc (.cells #[.int .i64 k, .int .i64 f, .int .i64 t, .int .i64 s] 64)) :=
  ⟨h.alloc _, heap_alloc_new wx _, h.gr.size, by
    rcases h.own with ⟨hx, A', hv⟩ | ⟨q, cap, cur, hv, _, hq, _⟩
    · exact .inr ⟨hx, A', hv⟩
    · rw [hv]
      refine .inl fun e => ?_
      simp only [Value.ownBlock, Option.some.injEq] at e
      subst e
      exact absurd (Array.getElem?_eq_some_iff.1 hq).1 (Nat.lt_irrefl _)⟩
theorem CB4.step (h : CB4 w0 g M X k f t s A c os wx) (hr : Rdr w' g M') (hg : wx.grownBy w' (some g)) : CB4 w0 g M' X k f t s A c os w' :=
  ⟨h.cl.step hr hg, gblk hg h.box (by have := h.cl.hg; have := h.hX; simp; omega), h.hX, h.hne⟩
theorem CB4.drew (h : CB4 w0 g M X k f t s A c os wx) : CB4 w0 g M X k f t s A c os wx.drew := ⟨h.cl.drew, h.box, h.hX, h.hne⟩
theorem chn_ne {w w' : World} {base X : Nat} {v : Value} {os : List Chn} (h : Own eChn 64 w base v os) (hne : v.ownBlock ≠ some X ∨ os = [] ∧ ∃ A, v = .slice A 0 0) (hg : w.grownBy w' (some X)) : Own eChn 64 w' base v os := by
  rcases hne with hn | ⟨rfl, A, rfl⟩
  · exact h.keptAt hg (fun k hk => by cases hk; exact hn)
  · exact Own.none_
theorem CB4.setT (h : CB4 w0 g M X k f t s A c os wx) (v : Int) : CB4 w0 g M X k f v s A c os (wx.setCell ⟨X, 2, none⟩ (.int .i64 v)) :=
  ⟨⟨h.cl.rdr.setNew (by have := h.cl.hg; have := h.hX; show g < X; omega) _, grown_setNew h.cl.gr (p := ⟨X, 2, none⟩) h.hX _, chn_ne h.cl.own h.hne (gset 2 _), h.cl.hg, h.cl.hc⟩, set4c h.box, h.hX, h.hne⟩
theorem CB4.setS (h : CB4 w0 g M X k f t s A c os wx) (v : Int) : CB4 w0 g M X k f t v A c os (wx.setCell ⟨X, 3, none⟩ (.int .i64 v)) :=
  ⟨⟨h.cl.rdr.setNew (by have := h.cl.hg; have := h.hX; show g < X; omega) _, grown_setNew h.cl.gr (p := ⟨X, 3, none⟩) h.hX _, chn_ne h.cl.own h.hne (gset 3 _), h.cl.hg, h.cl.hc⟩, set4d h.box, h.hX, h.hne⟩
end

set_option maxRecDepth 100000 in
set_option maxHeartbeats 6400000 in
theorem callDrawChannels (g M : Nat) (parts n : Int) (w : World) (hr : Rdr w g M) (hM : M ≤ 800000) (hp0 : 0 ≤ parts) (hp1 : parts ≤ 10) :
    Calls Try.prog 74 #[.pointer (some ⟨g, 0, none⟩), .int .i64 parts, .int .i64 n] w fun e w' =>
      ∃ A c os, e = .returned (.slice A (os : List Chn).length c) ∧ os.length ≤ 9 ∧ CL w g (M + 30) A c os w' := by
  have hgw := hr.lt
  have HR := Lib.hid hr
  clear hr
  go_enter Try.func74, Try.ntmps74
  go_wp2_with fail
  refine (callPick g M _ _ (HR.out.alloc _) (by omega)).mono ?_
  rintro e w1 ⟨k1, rfl, a1, a2, _, hr1, hg1⟩
  obtain ⟨j0, rfl⟩ := Int.eq_ofNat_of_zero_le a1
  have hj0 : j0 ≤ 5 := by omega
  have H1 := Lib.hid (And.intro hr1 (grown_trans' (grown_alloc (World.grownBy.refl w _) _) hg1))
  clear a1 a2 hr1 hg1
  go_wp2_with fail
  go_loopw [7, 8] (fun v i wr => ∃ (j : Nat) (A : Option Addr) (c : Nat) (os : List Chn), v = .slice A os.length c ∧ i = .int .i64 j ∧ os.length + j ≤ j0 ∧ Hid (CL w g (M + 1 + 4 * os.length) A c os wr)) (fun _ i _ => (intOf i).toNat)
  case atStart => exact ⟨j0, _, 0, [], rfl, rfl, by simp, ⟨H1.out.1, H1.out.2, Own.none_, hgw, Nat.le_refl _⟩⟩
  case round =>
    clear H1
    obtain ⟨j, A, c, os, rfl, rfl, hjj, HH⟩ := hrel
    by_cases hj : 0 < j ∧ 1 < parts
    · obtain ⟨hj, hpp⟩ := hj
      obtain ⟨j', rfl⟩ : ∃ j', j = j' + 1 := ⟨j - 1, by omega⟩
      have hdp : decide (parts > 1) = true := decide_eq_true hpp
      go_wp2_with fail
      refine (callPick g _ _ _ HH.out.rdr (by omega)).mono ?_
      rintro e w2 ⟨p1, rfl, b1, b2, _, hr2, hg2⟩
      have hb3 : p1 < 3 := b2 (by omega)
      have H2 := Lib.hid (HH.out.step hr2 hg2)
      clear hr2 hg2 b2 HH
      go_wp2_with fail
      refine (callPick g _ _ _ H2.out.rdr (by omega)).mono ?_
      rintro e w3 ⟨p2, rfl, c1, c2, _, hr3, hg3⟩
      have hc3 : p2 < parts := c2 (by omega)
      have H3 := Lib.hid (H2.out.step hr3 hg3)
      clear hr3 hg3 c2 H2
      go_wp2_with fail
      refine (callPick g _ _ _ H3.out.rdr (by omega)).mono ?_
      rintro e w4 ⟨p3, rfl, d1, d2, _, hr4, hg4⟩
      have hd3 : p3 < 3 := d2 (by omega)
      have H4 := Lib.hid (H3.out.step hr4 hg4)
      clear hr4 hg4 d2 H3
      go_upto_region 6 with (fail)
      have S5 := Lib.hid (H4.out.box (1 + p1) p2 0 (1 + p3))
      obtain ⟨X, hX⟩ : ∃ X, X = w4.heap.size := ⟨_, rfl⟩
      obtain ⟨u, hu⟩ : ∃ u, u = w4.alloc (.cells #[.int .i64 (1 + p1), .int .i64 p2, .int .i64 0, .int .i64 (1 + p3)] 64) := ⟨_, rfl⟩
      rw [← hX, ← hu] at S5
      rw [← hX, ← hu]
      clear hX hu H4
      obtain ⟨x0, x1, x2, x3⟩ := cell4 S5.out.box
      have xf := frz4 S5.out.box 2
      have hw1 : IntKind.i64.wrap (p2 + 1) = p2 + 1 := IntWalk.i64_in _ (by omega)
      have hw2 : IntKind.i64.wrap (parts - 1) = parts - 1 := IntWalk.i64_in _ (by omega)
      have hpz : (parts == 0) = false := by rw [beq_eq_false_iff_ne]; omega
      have hpz2 : parts ≠ 0 := by omega
      have hXl : X < u.heap.size := (Array.getElem?_eq_some_iff.1 S5.out.box).1
      have hM5 : M + 1 + 4 * os.length + 1 + 1 + 1 ≤ 1000000 := by omega
      go_region_law (go_simp; go_at_call 47; refine (callPick g _ _ _ S5.out.drew.cl.rdr hM5).mono ?_; rintro e w5 ⟨q, rfl, e1, e2, _, hr5, hg5⟩; have e3 : q < parts - 1 := e2 (by omega); have hw3 : IntKind.i64.wrap (p2 + 1 + q) = p2 + 1 + q := IntWalk.i64_in _ (by omega); obtain ⟨T, hT⟩ : ∃ T, T = (p2 + 1 + q) % parts := ⟨_, rfl⟩; have hT1 : Int.tmod (p2 + 1 + q) parts = T := (by rw [Int.tmod_eq_emod_of_nonneg (by omega)]; exact hT.symm); have hT2 : (p2 + 1 + q) % parts = T := hT.symm; have HT := Lib.hid hT; clear hT; have S6 := Lib.hid (S5.out.drew.step hr5 hg5); clear hr5 hg5 e2; obtain ⟨y0, y1, y2, y3⟩ := cell4 S6.out.box; have yf := frz4 S6.out.box 2; have hXl2 : X < w5.heap.size := (Array.getElem?_eq_some_iff.1 S6.out.box).1; have S7 := Lib.hid (S6.out.setT T))
      all_goals
        obtain ⟨z0, z1, z2, z3⟩ := cell4 S7.out.box
        have zf := frz4 S7.out.box 3
        obtain ⟨w7, hw7⟩ : ∃ w7, w7 = w5.setCell ⟨X, 2, none⟩ (.int .i64 T) := ⟨_, rfl⟩
        rw [← hw7] at S7 z0 z1 z2 z3 zf ⊢
        clear hw7 HT hT1 hT2 hw1 hw2 hw3
        by_cases hk : p1 = 0
        · subst hk
          have S7' : Hid (CB4 w g (M + 1 + 4 * os.length + 1 + 1 + 1 + 1) X 1 p2 T (1 + p3) A c os w7) := S7.out
          have S8 := Lib.hid (S7'.out.setS 1)
          go_upto_region 9 with (fail)
          obtain ⟨w8', hw8'⟩ : ∃ w8', w8' = w7.setCell ⟨X, 3, none⟩ (.int .i64 1) := ⟨_, rfl⟩
          rw [← hw8'] at S8 ⊢
          clear hw8' S7 S7' z0 z1 z2 z3 zf
          obtain ⟨v0, v1, v2, v3⟩ := cell4 S8.out.box
          go_wp2_with (at_builtin; refine wpList_app _ eiChn rfl (.tmp 46) (.tmp 48) rfl w.heap.size (S8.out.cl.own.alloc _) (Rd.new (E := eChn) (xs := [(⟨1, p2, T, 1⟩ : Chn)]) _ _ _ rfl) rfl rfl rfl (by simp; omega) (by have := S8.out.cl.gr.size; simp; omega) ?_; intro v' w8 row hown8 hg8 hrow8; obtain ⟨A8, c8, hv8, hc8, _⟩ := hown8.form; subst hv8; have H8 : Hid (CL w g (M + 1 + 4 * (os.length + 1)) A8 c8 (os ++ [(⟨1, p2, T, 1⟩ : Chn)]) w8) := ⟨((S8.out.cl.rdr.alloc _).grown hg8 (fun k hk => by have := (hrow8 k hk).1; omega)).more (by omega), grown_new (grown_alloc S8.out.cl.gr _) hg8 (fun k hk => (hrow8 k hk).1), hown8, hgw, hc8⟩; clear hown8 hg8 hrow8)
          go_roundw
          case rel => exact ⟨j', A8, c8, os ++ [(⟨1, p2, T, 1⟩ : Chn)], by simp, by go_num, by simp; omega, by show CL w g _ A8 c8 _ w8; simpa using H8.out⟩
          case measure => simp [intOf]
        · have hk1 : ((1 + p1) == 1) = false := by rw [beq_eq_false_iff_ne]; omega
          have hk2 : ¬ (1 + p1 = 1) := by omega
          go_wp2_with (at_builtin; refine wpList_app _ eiChn rfl (.tmp 46) (.tmp 48) rfl w.heap.size (S7.out.cl.own.alloc _) (Rd.new (E := eChn) (xs := [(⟨1 + p1, p2, T, 1 + p3⟩ : Chn)]) _ _ _ rfl) rfl rfl rfl (by simp; omega) (by have := S7.out.cl.gr.size; simp; omega) ?_; intro v' w8 row hown8 hg8 hrow8; obtain ⟨A8, c8, hv8, hc8, _⟩ := hown8.form; subst hv8; have H8 : Hid (CL w g (M + 1 + 4 * (os.length + 1)) A8 c8 (os ++ [(⟨1 + p1, p2, T, 1 + p3⟩ : Chn)]) w8) := ⟨((S7.out.cl.rdr.alloc _).grown hg8 (fun k hk => by have := (hrow8 k hk).1; omega)).more (by omega), grown_new (grown_alloc S7.out.cl.gr _) hg8 (fun k hk => (hrow8 k hk).1), hown8, hgw, hc8⟩; clear hown8 hg8 hrow8)
          go_roundw
          case rel => exact ⟨j', A8, c8, os ++ [(⟨1 + p1, p2, T, 1 + p3⟩ : Chn)], by simp, by go_num, by simp; omega, by show CL w g _ A8 c8 _ w8; simpa using H8.out⟩
          case measure => simp [intOf]
    · have hl5 : os.length ≤ 5 := by omega
      have hst : (0 < j → ¬ (1 < parts)) := fun h h2 => hj ⟨h, h2⟩
      have hway : (j = 0 ∧ True) ∨ (0 < j ∧ decide (parts > 1) = false) := by
        rcases Nat.eq_zero_or_pos j with h | h
        · exact .inl ⟨h, trivial⟩
        · exact .inr ⟨h, decide_eq_false (hst h)⟩
      have HW := Lib.hid ((HH.out.more (M' := M + 25) (by omega)))
      clear hst hj HH
      rcases hway with ⟨hj0, _⟩ | ⟨hjp, hdp⟩
      all_goals
        (first | (subst hj0) | (have hdj : decide ((j : Int) > 0) = true := decide_eq_true (by omega)))
        go_wp2_with fail
        refine (callOdd g _ _ _ HW.out.rdr (by omega)).mono ?_
        rintro e w2 ⟨o1, rfl, hr2, hg2⟩
        have S2 := Lib.hid (HW.out.step hr2 hg2)
        clear hr2 hg2 HW
        cases o1
        · go_wp2_with fail
          go_ret
          exact ⟨A, c, os, rfl, by omega, S2.out.more (by omega)⟩
        · go_wp2_with fail
          refine (callPick g _ _ _ S2.out.rdr (by omega)).mono ?_
          rintro e w3 ⟨k, rfl, d1, d2, _, hr3, hg3⟩
          have hk5 : k = 0 ∨ k = 1 ∨ k = 2 ∨ k = 3 ∨ k = 4 := by have := d2 (by omega); omega
          have S3 := Lib.hid (S2.out.step hr3 hg3)
          clear hr3 hg3 S2 d2
          rcases hk5 with rfl | rfl | rfl | rfl | rfl
          · go_wp2_with fail
            refine (callPick g _ _ _ (S3.out.alloc _).rdr (by omega)).mono ?_
            rintro e w4 ⟨q, rfl, f3, f4, _, hr4, hg4⟩
            obtain ⟨kk, y, rfl, hy, _, _⟩ := litc (w := w4) (g := w3.heap.size) [0, 4] (gblk hg4 (heap_alloc_new w3 _) (by simp; have := S3.out.rdr.lt; omega)) (lo := 0) (hi := 4) (by simp) f3 (by have := f4 (by omega); simp; omega)
            have hk2 : (kk : Int) < 2 := f4 (by omega)
            have S4 := Lib.hid ((S3.out.alloc _).step hr4 hg4)
            clear hr4 hg4 S3 f4
            go_wp2_with (at_builtin; refine wpList_app _ eiChn rfl (.tmp 58) (.tmp 65) rfl w.heap.size (S4.out.own.alloc _) (Rd.new (E := eChn) (xs := [(⟨y, 0, 1, 1⟩ : Chn)]) _ _ _ rfl) rfl rfl rfl (by simp; omega) (by have := S4.out.gr.size; simp; omega) ?_; intro v' w8 row hown8 hg8 hrow8; obtain ⟨A8, c8, hv8, hc8, _⟩ := hown8.form; subst hv8; have H8 : Hid (CL w g (M + 30) A8 c8 (os ++ [(⟨y, 0, 1, 1⟩ : Chn)]) w8) := ⟨((S4.out.rdr.alloc _).grown hg8 (fun k hk => by have := (hrow8 k hk).1; omega)).more (by omega), grown_new (grown_alloc S4.out.gr _) hg8 (fun k hk => (hrow8 k hk).1), hown8, hgw, hc8⟩; clear hown8 hg8 hrow8)
            go_ret
            exact ⟨A8, c8, os ++ [(⟨y, 0, 1, 1⟩ : Chn)], by simp, by simp; omega, H8.out⟩
          · go_wp2_with (at_builtin; refine wpList_app _ eiChn rfl (.tmp 69) (.tmp 71) rfl w.heap.size (S3.out.own.alloc _) (Rd.new (E := eChn) (xs := [(⟨2, 0, 0, 1⟩ : Chn)]) _ _ _ rfl) rfl rfl rfl (by simp; omega) (by have := S3.out.gr.size; simp; omega) ?_; intro v' w8 row hown8 hg8 hrow8; obtain ⟨A8, c8, hv8, hc8, _⟩ := hown8.form; subst hv8; have H8 : Hid (CL w g (M + 30) A8 c8 (os ++ [(⟨2, 0, 0, 1⟩ : Chn)]) w8) := ⟨((S3.out.rdr.alloc _).grown hg8 (fun k hk => by have := (hrow8 k hk).1; omega)).more (by omega), grown_new (grown_alloc S3.out.gr _) hg8 (fun k hk => (hrow8 k hk).1), hown8, hgw, hc8⟩; clear hown8 hg8 hrow8)
            go_ret
            exact ⟨A8, c8, os ++ [(⟨2, 0, 0, 1⟩ : Chn)], by simp, by simp; omega, H8.out⟩
          · go_wp2_with (at_builtin; refine wpList_app _ eiChn rfl (.tmp 75) (.tmp 78) rfl w.heap.size (S3.out.own.alloc _) (Rd.new (E := eChn) (xs := [(⟨2, 0, parts, 1⟩ : Chn)]) _ _ _ rfl) rfl rfl rfl (by simp; omega) (by have := S3.out.gr.size; simp; omega) ?_; intro v' w8 row hown8 hg8 hrow8; obtain ⟨A8, c8, hv8, hc8, _⟩ := hown8.form; subst hv8; have H8 : Hid (CL w g (M + 30) A8 c8 (os ++ [(⟨2, 0, parts, 1⟩ : Chn)]) w8) := ⟨((S3.out.rdr.alloc _).grown hg8 (fun k hk => by have := (hrow8 k hk).1; omega)).more (by omega), grown_new (grown_alloc S3.out.gr _) hg8 (fun k hk => (hrow8 k hk).1), hown8, hgw, hc8⟩; clear hown8 hg8 hrow8)
            go_ret
            exact ⟨A8, c8, os ++ [(⟨2, 0, parts, 1⟩ : Chn)], by simp, by simp; omega, H8.out⟩
          · go_wp2_with (at_builtin; refine wpList_app _ eiChn rfl (.tmp 82) (.tmp 84) rfl w.heap.size (S3.out.own.alloc _) (Rd.new (E := eChn) (xs := [(⟨1, 0, 1, 2⟩ : Chn)]) _ _ _ rfl) rfl rfl rfl (by simp; omega) (by have := S3.out.gr.size; simp; omega) ?_; intro v' w8 row hown8 hg8 hrow8; obtain ⟨A8, c8, hv8, hc8, _⟩ := hown8.form; subst hv8; have H8 : Hid (CL w g (M + 30) A8 c8 (os ++ [(⟨1, 0, 1, 2⟩ : Chn)]) w8) := ⟨((S3.out.rdr.alloc _).grown hg8 (fun k hk => by have := (hrow8 k hk).1; omega)).more (by omega), grown_new (grown_alloc S3.out.gr _) hg8 (fun k hk => (hrow8 k hk).1), hown8, hgw, hc8⟩; clear hown8 hg8 hrow8)
            go_ret
            exact ⟨A8, c8, os ++ [(⟨1, 0, 1, 2⟩ : Chn)], by simp, by simp; omega, H8.out⟩
          · go_wp2_with (at_make; refine wpList_mkE (E := eChn) _ Try.underlying23 (z := .agg #[.int .i64 0, .int .i64 0, .int .i64 0, .int .i64 0]) (m := 32) (by kernel_rfl) (by decide) (⟨0, 0, 0, 0⟩ : Chn) rfl rfl _ _ rfl w.heap.size 9 9 9 rfl rfl rfl rfl (by omega) (by have := S3.out.gr.size; omega) ?_; intro w5 hown5 hb5; have S5 : Hid (CL w g (M + 30) (some ⟨w3.heap.size, 0, none⟩) 9 (List.replicate 9 ⟨0, 0, 0, 0⟩) w5) := ⟨(S3.out.rdr.next hb5).more (by omega), grown_below S3.out.gr hb5, hown5, hgw, by simp⟩; clear hown5 hb5)
            go_ret
            exact ⟨_, 9, List.replicate 9 ⟨0, 0, 0, 0⟩, by rw [List.length_replicate] <;> rfl, by simp, S5.out⟩
end Go.Proofs.Ytiodpnhokjkjaaa
