/- What the drawing functions of programs and cores leave. -/
import Derived.Test.YtiodpnhokjkjaaaCor
import Derived.Test.YtiodpnhokjkjaaaRgd
import Derived.Deep.CutBlock
import Derived.Deep.RegionLaw
namespace Go.Proofs.Ytiodpnhokjkjaaa
open Go.RowKit Go.Sort

/-- The reader, an instruction in a box, and the list of those before it. -/
structure PQ (w0 : World) (g M X : Nat) (op a b : Int) (v : Value) (os : List Ord3) (wx : World) : Prop where
  rdr : Rdr wx g M
  gr : w0.grownBy wx (some g)
  box : wx.heap[X]? = some (.cells #[.int .i64 op, .int .i64 a, .int .i64 b] 41 (0, 0))
  own : Own eOrd 41 wx w0.heap.size v os
  hg : g < w0.heap.size
  hX : w0.heap.size ≤ X
  hne : v.ownBlock ≠ some X ∨ os = [] ∧ ∃ A, v = .slice A 0 0
theorem own_ne {w w' : World} {base X : Nat} {v : Value} {os : List Ord3} (h : Own eOrd 41 w base v os) (hne : v.ownBlock ≠ some X ∨ os = [] ∧ ∃ A, v = .slice A 0 0) (hg : w.grownBy w' (some X)) : Own eOrd 41 w' base v os := by
  rcases hne with hn | ⟨rfl, A, rfl⟩
  · exact h.keptAt hg (fun k hk => by cases hk; exact hn)
  · exact Own.none_
section
variable {w0 wx w' : World} {g M M' X : Nat} {op a b a' b' : Int} {v : Value} {os : List Ord3}
theorem PQ.step (s : PQ w0 g M X op a b v os wx) (hr : Rdr w' g M') (hg : wx.grownBy w' (some g)) : PQ w0 g M' X op a b v os w' :=
  ⟨hr, grown_trans' s.gr hg, gblk hg s.box (by have := s.hg; have := s.hX; simp; omega), s.own.kept hg (fun k hk => by cases hk; exact s.hg), s.hg, s.hX, s.hne⟩
theorem PQ.next (s : PQ w0 g M X op a b v os wx) (hb : Below wx.heap.size wx w') : PQ w0 g M X op a b v os w' := s.step (s.rdr.next hb) (grownBy_of_below hb _)
theorem PQ.alloc (s : PQ w0 g M X op a b v os wx) (o : Obj) : PQ w0 g M X op a b v os (wx.alloc o) := s.next (below1 _ _)
theorem PQ.drew (s : PQ w0 g M X op a b v os wx) : PQ w0 g M X op a b v os wx.drew := ⟨s.rdr, ⟨s.gr.os, s.gr.tape, s.gr.output, s.gr.size, s.gr.block⟩, s.box, s.own, s.hg, s.hX, s.hne⟩
theorem PQ.more (s : PQ w0 g M X op a b v os wx) (hM : M ≤ M') : PQ w0 g M' X op a b v os wx := ⟨s.rdr.more hM, s.gr, s.box, s.own, s.hg, s.hX, s.hne⟩
theorem PQ.setA (s : PQ w0 g M X op a b v os wx) (a' : Int) : PQ w0 g M X op a' b v os (wx.setCell ⟨X, 1, none⟩ (.int .i64 a')) :=
  ⟨s.rdr.setNew (by have := s.hg; have := s.hX; show g < X; omega) _, grown_setNew s.gr (p := ⟨X, 1, none⟩) s.hX _, set3b s.box, own_ne s.own s.hne (gset 1 _), s.hg, s.hX, s.hne⟩
theorem PQ.setB (s : PQ w0 g M X op a b v os wx) (b' : Int) : PQ w0 g M X op a b' v os (wx.setCell ⟨X, 2, none⟩ (.int .i64 b')) :=
  ⟨s.rdr.setNew (by have := s.hg; have := s.hX; show g < X; omega) _, grown_setNew s.gr (p := ⟨X, 2, none⟩) s.hX _, set3c s.box, own_ne s.own s.hne (gset 2 _), s.hg, s.hX, s.hne⟩
/-- A new box, with a list that was there. -/
theorem PQ.new (hr : Rdr wx g M) (gr : w0.grownBy wx (some g)) (ho : Own eOrd 41 wx w0.heap.size v os) (hg : g < w0.heap.size) (op a b : Int) : PQ w0 g M wx.heap.size op a b v os (wx.alloc (.cells #[.int .i64 op, .int .i64 a, .int .i64 b] 41)) :=
  ⟨hr.alloc _, grown_alloc gr _, heap_alloc_new wx _, ho.alloc _, hg, gr.size, by
    rcases ho with ⟨hx, A', rfl⟩ | ⟨q, cap, cur, rfl, _, hq, _⟩
    · exact .inr ⟨hx, A', rfl⟩
    · refine .inl fun e => ?_
      simp only [Value.ownBlock, Option.some.injEq] at e
      subst e
      exact absurd (Array.getElem?_eq_some_iff.1 hq).1 (Nat.lt_irrefl _)⟩
end

/-- A whole element of an owned list of instructions is written. -/
theorem own_ord {w : World} {base b n cap : Nat} {os : List Ord3} (h : Own eOrd 41 w base (.slice (some ⟨b, 0, none⟩) n cap) os) (h0 : 0 < os.length) (y : Ord3) :
    Own eOrd 41 (((w.setCell ⟨b, 0, none⟩ (.int .i64 y.op)).setCell ⟨b, 1, none⟩ (.int .i64 y.a)).setCell ⟨b, 2, none⟩ (.int .i64 y.b)) base (.slice (some ⟨b, 0, none⟩) n cap) (os.set 0 y) := by
  obtain ⟨z, zs, rfl⟩ : ∃ z zs, os = z :: zs := by
    cases os with
    | nil => simp at h0
    | cons z zs => exact ⟨z, zs, rfl⟩
  have s1 := h.set (i := 0) (j := 0) (x := z) (y := ⟨y.op, z.a, z.b⟩) (u := .int .i64 y.op) rfl (by decide) rfl
  have s2 := s1.set (i := 0) (j := 1) (x := ⟨y.op, z.a, z.b⟩) (y := ⟨y.op, y.a, z.b⟩) (u := .int .i64 y.a) rfl (by decide) rfl
  have s3 := s2.set (i := 0) (j := 2) (x := ⟨y.op, y.a, z.b⟩) (y := y) (u := .int .i64 y.b) rfl (by decide) rfl
  simpa using s3
theorem rdr3 {w : World} {g M b : Nat} (h : Rdr w g M) (hb : g < b) (x y z : Value) : Rdr (((w.setCell ⟨b, 0, none⟩ x).setCell ⟨b, 1, none⟩ y).setCell ⟨b, 2, none⟩ z) g M :=
  ((h.setNew (p := ⟨b, 0, none⟩) hb _).setNew (p := ⟨b, 1, none⟩) hb _).setNew (p := ⟨b, 2, none⟩) hb _
theorem grown3 {a w : World} {row : Option Nat} {b : Nat} (h : a.grownBy w row) (hb : a.heap.size ≤ b) (x y z : Value) : a.grownBy (((w.setCell ⟨b, 0, none⟩ x).setCell ⟨b, 1, none⟩ y).setCell ⟨b, 2, none⟩ z) row :=
  grown_setNew (grown_setNew (grown_setNew h (p := ⟨b, 0, none⟩) hb _) (p := ⟨b, 1, none⟩) hb _) (p := ⟨b, 2, none⟩) hb _
/-- The reader and the list of instructions. -/
structure PL (w0 : World) (g M : Nat) (A : Option Addr) (c : Nat) (os : List Ord3) (wx : World) : Prop where
  rdr : Rdr wx g M
  gr : w0.grownBy wx (some g)
  own : Own eOrd 41 wx w0.heap.size (.slice A os.length c) os
  hg : g < w0.heap.size
  hc : os.length ≤ c
section
variable {w0 wx w' : World} {g M M' : Nat} {A : Option Addr} {c : Nat} {os : List Ord3}
theorem PL.step (s : PL w0 g M A c os wx) (hr : Rdr w' g M') (hg : wx.grownBy w' (some g)) : PL w0 g M' A c os w' :=
  ⟨hr, grown_trans' s.gr hg, s.own.kept hg (fun k hk => by cases hk; exact s.hg), s.hg, s.hc⟩
theorem PL.alloc (s : PL w0 g M A c os wx) (o : Obj) : PL w0 g M A c os (wx.alloc o) := s.step (s.rdr.next (below1 _ _)) (grownBy_of_below (below1 _ _) _)
theorem PL.more (s : PL w0 g M A c os wx) (hM : M ≤ M') : PL w0 g M' A c os wx := ⟨s.rdr.more hM, s.gr, s.own, s.hg, s.hc⟩
theorem PL.set {b : Nat} (s : PL w0 g M (some ⟨b, 0, none⟩) c os wx) (h0 : 0 < os.length) (hb : w0.heap.size ≤ b) (y : Ord3) : PL w0 g M (some ⟨b, 0, none⟩) c (os.set 0 y) (((wx.setCell ⟨b, 0, none⟩ (.int .i64 y.op)).setCell ⟨b, 1, none⟩ (.int .i64 y.a)).setCell ⟨b, 2, none⟩ (.int .i64 y.b)) :=
  ⟨rdr3 s.rdr (by have := s.hg; omega) _ _ _, grown3 s.gr hb _ _ _, by rw [List.length_set]; exact own_ord s.own h0 y, s.hg, by rw [List.length_set]; exact s.hc⟩
theorem PL.blk (s : PL w0 g M A c os wx) (h0 : 0 < os.length) : ∃ b, A = some ⟨b, 0, none⟩ ∧ w0.heap.size ≤ b ∧ b < wx.heap.size ∧ (∀ o, wx.frozen? ⟨b, o, none⟩ = false) ∧ (∃ x y z, wx.cell? ⟨b, 0, none⟩ = some x ∧ wx.cell? ⟨b, 1, none⟩ = some y ∧ wx.cell? ⟨b, 2, none⟩ = some z) := by
  have hne : os ≠ [] := by intro e; simp [e] at h0
  obtain ⟨A', c', hv, _, hA⟩ := s.own.form
  injection hv with hA'
  subst hA'
  obtain ⟨b, rfl, h1, h2⟩ := hA hne
  obtain ⟨bb, oo, hAA, _, e0, e1, e2⟩ := s.own.rd.at3 rfl h0 rfl
  simp only [Option.some.injEq, Addr.mk.injEq, and_true] at hAA
  obtain ⟨rfl, rfl⟩ := hAA
  simp only [Nat.zero_mul, Nat.add_zero, Nat.zero_add] at e0 e1 e2
  exact ⟨b, rfl, h1, h2, fun o => s.own.frozen hne, _, _, _, e0, e1, e2⟩
end

set_option maxRecDepth 100000 in
set_option maxHeartbeats 6400000 in
theorem callDrawProgram (g M : Nat) (cells n : Int) (w : World) (hr : Rdr w g M) (hM : M ≤ 800000) (hc1 : 1 ≤ cells) (hc8 : cells ≤ 8) :
    Calls Try.prog 83 #[.pointer (some ⟨g, 0, none⟩), .int .i64 cells, .int .i64 4, .int .i64 n] w fun e w' =>
      ∃ A c os, e = .returned (.slice A (os : List Ord3).length c) ∧ 0 < os.length ∧ os.length ≤ 21 ∧ PL w g (M + 60) A c os w' := by
  have hgw := hr.lt
  have HR := Lib.hid hr
  clear hr
  go_enter Try.func83, Try.ntmps83
  go_wp2_with fail
  refine (callPick g M _ _ (HR.out.alloc _) (by omega)).mono ?_
  rintro e w1 ⟨k1, rfl, a1, a2, _, hr1, hg1⟩
  obtain ⟨j0, rfl⟩ := Int.eq_ofNat_of_zero_le a1
  have hj0 : j0 ≤ 6 := by omega
  have H1 := Lib.hid (And.intro hr1 (grown_trans' (grown_alloc (World.grownBy.refl w _) _) hg1))
  clear a1 a2 hr1 hg1
  go_wp2_with fail
  refine (callPick g _ _ _ H1.out.1 (by omega)).mono ?_
  rintro e w2 ⟨calm, rfl, b1, b2, _, hr2, hg2⟩
  have hcalm : calm < 3 := b2 (by omega)
  have H2 := Lib.hid (And.intro hr2 (grown_trans' H1.out.2 hg2))
  clear b2 hr2 hg2 H1
  go_wp2_with fail
  go_loopw [9, 12] (fun v i wr => ∃ (j : Nat) (A : Option Addr) (c : Nat) (os : List Ord3), v = .slice A os.length c ∧ i = .int .i64 j ∧ os.length = j ∧ j ≤ 1 + j0 ∧ Hid (PL w g (M + 2 + 5 * j) A c os wr)) (fun _ i _ => 1 + j0 - (intOf i).toNat)
  case atStart => exact ⟨0, _, 0, [], rfl, rfl, rfl, by omega, ⟨H2.out.1, H2.out.2, Own.none_, hgw, Nat.le_refl _⟩⟩
  case round =>
    obtain ⟨j, A, c, os, rfl, rfl, hlen, hjs, HH⟩ := hrel
    have HL := Lib.hid hlen
    have hl1 : os.length ≤ j := by omega
    have hl2 : j ≤ os.length := by omega
    clear H2 hlen
    by_cases hj : j < 1 + j0
    · have hd1 : decide ((j : Int) < 1 + (j0 : Int)) = true := decide_eq_true (by omega)
      have hcalm0 : calm = 0 ∨ calm = 1 ∨ calm = 2 := by omega
      have P1 : Hid (∀ (n : Int) (W : World), Rdr W g (M + 2 + 5 * j) → Calls Try.prog 47 #[.pointer (some ⟨g, 0, none⟩), .int .i64 n] W (Picked W g (M + 2 + 5 * j) n)) := fun n W h => callPick g _ n W h (by omega)
      rcases hcalm0 with rfl | rfl | rfl
      all_goals
        go_wp2_with fail
        refine (P1.out _ _ (HH.out.rdr.alloc _)).mono ?_
        rintro e w3 ⟨q, rfl, d1, d2, _, hr3, hg3⟩
        obtain ⟨kk, x, rfl, hx, hx0, hx8⟩ := litc (w := w3) (g := wr.heap.size) [1, 2, 3, 4, 5, 6, 5, 6, 7, 2, 0, 8] (gblk hg3 (heap_alloc_new wr _) (by simp; have := HH.out.rdr.lt; omega)) (lo := 0) (hi := 8) (by decide) d1 (by have := d2 (by omega); simp; omega)
        have H3 := Lib.hid ((HH.out.alloc _).step hr3 hg3)
        clear hr3 hg3
        have hq12 : (kk : Int) < 12 := by have := d2 (by omega); omega
        clear d2
        go_upto_block 2 with (fail)
        have S3 := Lib.hid (PQ.new H3.out.rdr H3.out.gr H3.out.own hgw x 0 0)
        obtain ⟨X, hX⟩ : ∃ X, X = w3.heap.size := ⟨_, rfl⟩
        obtain ⟨u3, hu3⟩ : ∃ u3, u3 = w3.alloc (.cells #[.int .i64 x, .int .i64 0, .int .i64 0] 41) := ⟨_, rfl⟩
        rw [← hX, ← hu3] at S3
        rw [← hX, ← hu3]
        clear hX hu3 H3 hx HH
        go_cut [] (fun wx => ∃ a b, Hid (PQ w g (M + 2 + 5 * j + 5) X x a b (.slice A os.length c) os wx))
        case first =>
          obtain ⟨x0, x1, x2, x3, x4, x5, x6⟩ := cell3 S3.out.box
          have hx9 : x = 1 ∨ (x = 2 ∨ x = 3 ∨ x = 4 ∨ x = 5 ∨ x = 6) ∨ x = 7 ∨ x = 0 ∨ x = 8 := by omega
          rcases hx9 with rfl | hx9 | rfl | rfl | rfl
          · go_wp2_with fail
            refine (callPick g _ _ _ S3.out.rdr (by omega)).mono ?_
            rintro e w4 ⟨pa, rfl, _, _, _, hr4, hg4⟩
            have S4 := Lib.hid (S3.out.step hr4 hg4)
            clear hr4 hg4 S3 x0 x1 x2 x3 x4 x5 x6
            obtain ⟨x0, x1, x2, x3, x4, x5, x6⟩ := cell3 S4.out.box
            have S5 := Lib.hid (S4.out.setA pa)
            go_wp2_with fail
            refine (callPick g _ _ _ S5.out.rdr (by omega)).mono ?_
            rintro e w6 ⟨pb, rfl, b3, b4, _, hr6, hg6⟩
            have hpb : pb < 4 := b4 (by omega)
            have S6 := Lib.hid (S5.out.step hr6 hg6)
            clear hr6 hg6 S5 S4 x0 x1 x2 x3 x4 x5 x6 b4
            go_wp2_with fail
            refine (callPick g _ _ _ S6.out.rdr (by omega)).mono ?_
            rintro e w7 ⟨pc, rfl, c3, c4, _, hr7, hg7⟩
            have hpc : pc < 256 := c4 (by omega)
            have S7 := Lib.hid (S6.out.step hr7 hg7)
            clear hr7 hg7 S6 c4
            go_wp2_with fail
            refine (callPick g _ _ _ (S7.out.alloc _).rdr (by omega)).mono ?_
            rintro e w8 ⟨pd, rfl, f3, f4, _, hr8, hg8⟩
            obtain ⟨kk, y, rfl, hy, _, _⟩ := litc (w := w8) (g := w7.heap.size) [pb, pc] (gblk hg8 (heap_alloc_new w7 _) (by simp; have := S7.out.rdr.lt; omega)) (lo := 0) (hi := 255) (by simp; omega) f3 (by have := f4 (by omega); simp; omega)
            have S8 := Lib.hid ((S7.out.alloc _).step hr8 hg8)
            clear hr8 hg8 S7
            have hk2 : (kk : Int) < 2 := f4 (by omega)
            clear f4
            obtain ⟨x0, x1, x2, x3, x4, x5, x6⟩ := cell3 S8.out.box
            go_wp2_with fail
            go_meet
            case rel => exact ⟨pa, y, (S8.out.setB y).more (by omega)⟩
          · rcases hx9 with rfl | rfl | rfl | rfl | rfl
            all_goals
              go_wp2_with fail
              refine (callPick g _ _ _ S3.out.rdr (by omega)).mono ?_
              rintro e w4 ⟨pa, rfl, _, _, _, hr4, hg4⟩
              have S4 := Lib.hid (S3.out.step hr4 hg4)
              clear hr4 hg4 S3 x0 x1 x2 x3 x4 x5 x6
              obtain ⟨x0, x1, x2, x3, x4, x5, x6⟩ := cell3 S4.out.box
              have S5 := Lib.hid (S4.out.setA pa)
              go_wp2_with fail
              refine (callPick g _ _ _ S5.out.rdr (by omega)).mono ?_
              rintro e w6 ⟨pb, rfl, _, _, _, hr6, hg6⟩
              have S6 := Lib.hid (S5.out.step hr6 hg6)
              clear hr6 hg6 S5 S4 x0 x1 x2 x3 x4 x5 x6
              obtain ⟨x0, x1, x2, x3, x4, x5, x6⟩ := cell3 S6.out.box
              go_wp2_with fail
              go_meet
              case rel => exact ⟨pa, pb, (S6.out.setB pb).more (by omega)⟩
          · go_wp2_with fail
            refine (callPick g _ _ _ S3.out.rdr (by omega)).mono ?_
            rintro e w4 ⟨pa, rfl, _, _, _, hr4, hg4⟩
            have S4 := Lib.hid (S3.out.step hr4 hg4)
            clear hr4 hg4 S3 x0 x1 x2 x3 x4 x5 x6
            obtain ⟨x0, x1, x2, x3, x4, x5, x6⟩ := cell3 S4.out.box
            go_wp2_with fail
            go_meet
            case rel => exact ⟨pa, 0, (S4.out.setA pa).more (by omega)⟩
          · go_wp2_with fail
            go_meet
            case rel => exact ⟨0, 0, S3.out.more (by omega)⟩
          · go_wp2_with fail
            go_meet
            case rel => exact ⟨0, 0, S3.out.more (by omega)⟩
        case rest =>
          clear S3
          obtain ⟨a, b, SR⟩ := hcut
          obtain ⟨x0, x1, x2, x3, x4, x5, x6⟩ := cell3 SR.out.box
          go_wp2_with (at_builtin; refine wpList_app _ eiOrd rfl (.tmp 92) (.tmp 94) rfl w.heap.size (SR.out.own.alloc _) (Rd.new (E := eOrd) (xs := [(⟨x, a, b⟩ : Ord3)]) _ _ _ rfl) rfl rfl rfl (by simp; omega) (by have := SR.out.gr.size; simp; omega) ?_; intro v' w7 row hown7 hg7 hrow7; obtain ⟨A7, c7, hv7, hc7, _⟩ := hown7.form; subst hv7; have H7 : Hid (PL w g (M + 2 + 5 * (j + 1)) A7 c7 (os ++ [(⟨x, a, b⟩ : Ord3)]) w7) := ⟨((SR.out.rdr.alloc _).grown hg7 (fun k hk => by have := (hrow7 k hk).1; omega)).more (by omega), grown_new (grown_alloc SR.out.gr _) hg7 (fun k hk => (hrow7 k hk).1), hown7, hgw, hc7⟩; clear hown7 hg7 hrow7)
          go_roundw
          case rel => exact ⟨j + 1, A7, c7, os ++ [(⟨x, a, b⟩ : Ord3)], by simp, by go_num, by simp; omega, by omega, H7.out⟩
          case measure => simp [intOf]; omega
    · have hjj : j = 1 + j0 := by omega
      have hd1 : decide ((j : Int) < 1 + (j0 : Int)) = false := decide_eq_false (by omega)
      have hps : 0 < os.length := by omega
      have hj7 : j ≤ 7 := by omega
      go_wp2_with fail
      refine (callOdd g _ _ _ HH.out.rdr (by omega)).mono ?_
      rintro e w3 ⟨o1, rfl, hr3, hg3⟩
      have S3 := Lib.hid ((HH.out.step hr3 hg3).more (M' := M + 50) (by omega))
      clear hr3 hg3 HH
      cases o1
      · go_wp2_with fail
        go_ret
        exact ⟨A, c, os, rfl, hps, by omega, S3.out.more (by omega)⟩
      · go_wp2_with fail
        refine (callPick g _ _ _ S3.out.rdr (by omega)).mono ?_
        rintro e w4 ⟨k, rfl, d1, d2, _, hr4, hg4⟩
        have hk4 : k = 0 ∨ k = 1 ∨ k = 2 ∨ k = 3 := by omega
        have S4 := Lib.hid (S3.out.step hr4 hg4)
        clear hr4 hg4 S3 d2
        rcases hk4 with rfl | rfl | rfl | rfl
        · go_wp2_with fail
          refine (callPick g _ _ _ (S4.out.alloc _).rdr (by omega)).mono ?_
          rintro e w5 ⟨pd, rfl, f3, f4, _, hr5, hg5⟩
          obtain ⟨kk, y, rfl, hy, _, _⟩ := litc (w := w5) (g := w4.heap.size) [-1, 9] (gblk hg5 (heap_alloc_new w4 _) (by simp; have := S4.out.rdr.lt; omega)) (lo := -1) (hi := 9) (by simp) f3 (by have := f4 (by omega); simp; omega)
          have S5 := Lib.hid ((S4.out.alloc _).step hr5 hg5)
          clear hr5 hg5 S4
          have hk2 : (kk : Int) < 2 := f4 (by omega)
          clear f4
          obtain ⟨b, rfl, hb1, hb2, hbf, xa, xb, xc, hba, hbb, hbc⟩ := S5.out.blk hps
          have F0 := hbf 0
          have F1 := hbf 1
          have F2 := hbf 2
          have SF := Lib.hid (S5.out.set hps hb1 ⟨y, 0, 0⟩)
          go_wp2_with fail
          go_ret
          exact ⟨_, c, os.set 0 ⟨y, 0, 0⟩, by rw [List.length_set] <;> rfl, by rw [List.length_set]; exact hps, by rw [List.length_set]; omega, SF.out.more (by omega)⟩
        · obtain ⟨b, rfl, hb1, hb2, hbf, xa, xb, xc, hba, hbb, hbc⟩ := S4.out.blk hps
          have F0 := hbf 0
          have F1 := hbf 1
          have F2 := hbf 2
          have SF := Lib.hid (S4.out.set hps hb1 ⟨3, cells, 0⟩)
          go_wp2_with fail
          go_ret
          exact ⟨_, c, os.set 0 ⟨3, cells, 0⟩, by rw [List.length_set] <;> rfl, by rw [List.length_set]; exact hps, by rw [List.length_set]; omega, SF.out.more (by omega)⟩
        · obtain ⟨b, rfl, hb1, hb2, hbf, xa, xb, xc, hba, hbb, hbc⟩ := S4.out.blk hps
          have F0 := hbf 0
          have F1 := hbf 1
          have F2 := hbf 2
          have SF := Lib.hid (S4.out.set hps hb1 ⟨4, os.length, 0⟩)
          go_wp2_with fail
          go_ret
          exact ⟨_, c, os.set 0 ⟨4, os.length, 0⟩, by rw [List.length_set] <;> rfl, by rw [List.length_set]; exact hps, by rw [List.length_set]; omega, SF.out.more (by omega)⟩
        · go_wp2_with (at_make; refine wpList_mkE (E := eOrd) _ Try.underlying34 (z := .agg #[.int .i64 0, .int .i64 0, .int .i64 0]) (m := 24) (by kernel_rfl) (by decide) (⟨0, 0, 0⟩ : Ord3) rfl rfl _ _ rfl w.heap.size 21 21 21 rfl rfl rfl rfl (by omega) (by have := S4.out.gr.size; omega) ?_; intro w5 hown5 hb5; have S5 : Hid (PL w g (M + 51) (some ⟨w4.heap.size, 0, none⟩) 21 (List.replicate 21 ⟨0, 0, 0⟩) w5) := ⟨S4.out.rdr.next hb5, grown_below S4.out.gr hb5, hown5, hgw, by simp⟩; clear hown5 hb5)
          go_ret
          exact ⟨_, 21, List.replicate 21 ⟨0, 0, 0⟩, by rw [List.length_replicate] <;> rfl, by simp, by simp, S5.out.more (by omega)⟩
end Go.Proofs.Ytiodpnhokjkjaaa
