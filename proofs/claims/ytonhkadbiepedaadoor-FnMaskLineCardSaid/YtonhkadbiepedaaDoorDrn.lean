/- What the drawing functions of lines leave. -/
import Derived.Test.YtonhkadbiepedaaDoorDrw
import Derived.Test.YtonhkadbiepedaaDoorBox
import Derived.Test.YtonhkadbiepedaaDoorLic
namespace Go.Proofs.YtonhkadbiepedaaDoor
open Go.RowKit Go.Sort

/-- The reader, the result's box, and the box of the lines. -/
structure SN (w0 : World) (g M X : Nat) (wx : World) : Prop where
  rdr : Rdr wx g M
  gr : w0.grownBy wx (some g)
  res : wx.heap[w0.heap.size]? = some (.cells #[.int .i64 0, .int .i64 0] 24 (0, 0))
  box : ∃ f n : Int, wx.heap[X]? = some (.cells #[.int .i64 f, .int .i64 n] 24 (0, 0))
  hg : g < w0.heap.size
  hX : w0.heap.size < X
theorem SN.step {w0 : World} {g M M' X : Nat} {wx w' : World} (s : SN w0 g M X wx) (hr : Rdr w' g M') (hg : wx.grownBy w' (some g)) : SN w0 g M' X w' := by
  obtain ⟨f, n, hb⟩ := s.box
  exact ⟨hr, grown_trans' s.gr hg, gblk hg s.res (by have := s.hg; simp; omega), ⟨f, n, gblk hg hb (by have := s.hg; have := s.hX; simp; omega)⟩, s.hg, s.hX⟩
theorem SN.next {w0 : World} {g M X : Nat} {wx w' : World} (s : SN w0 g M X wx) (hb : Below wx.heap.size wx w') : SN w0 g M X w' := s.step (s.rdr.next hb) (grownBy_of_below hb _)
theorem SN.seta {w0 : World} {g M X : Nat} {wx : World} (s : SN w0 g M X wx) (f : Int) : SN w0 g M X (wx.setCell ⟨X, 0, none⟩ (.int .i64 f)) := by
  obtain ⟨f0, n, hb⟩ := s.box
  have h1 := s.hg
  have h2 := s.hX
  exact ⟨s.rdr.setNew (by show g < X; omega) _, grown_setNew s.gr (p := ⟨X, 0, none⟩) (by show w0.heap.size ≤ X; omega) _, blko s.res _ (by simp; omega), ⟨f, n, set2a hb⟩, h1, h2⟩
theorem SN.setb {w0 : World} {g M X : Nat} {wx : World} (s : SN w0 g M X wx) (n : Int) : SN w0 g M X (wx.setCell ⟨X, 1, none⟩ (.int .i64 n)) := by
  obtain ⟨f0, n0, hb⟩ := s.box
  have h1 := s.hg
  have h2 := s.hX
  exact ⟨s.rdr.setNew (by show g < X; omega) _, grown_setNew s.gr (p := ⟨X, 1, none⟩) (by show w0.heap.size ≤ X; omega) _, blko s.res _ (by simp; omega), ⟨f0, n, set2b hb⟩, h1, h2⟩
theorem SN.more {w0 : World} {g M M' X : Nat} {wx : World} (s : SN w0 g M X wx) (h : M ≤ M') : SN w0 g M' X wx := ⟨s.rdr.more h, s.gr, s.res, s.box, s.hg, s.hX⟩

set_option maxRecDepth 100000 in
set_option maxHeartbeats 1600000 in
theorem callDrawLines (g M : Nat) (n : Int) (w : World) (hr : Rdr w g M) (hM : M ≤ 900000) :
    Calls Tryd.prog 19 #[.pointer (some ⟨g, 0, none⟩), .int .i64 n] w fun e w' => ∃ l : Lin, e = .returned l.val ∧ Rdr w' g (M + 5) ∧ w.grownBy w' (some g) := by
  have hgw := hr.lt
  have HR := Lib.hid hr
  clear hr
  go_enter Tryd.func19, Tryd.ntmps19
  go_wp2_with fail
  refine (callPick g M _ _ (HR.out.alloc _) (by omega)).mono ?_
  rintro e w1 ⟨k1, rfl, a1, a2, _, hr1, hg1⟩
  have K1 : Hid (w1.heap[w.heap.size]? = some (.cells #[.int .i64 0, .int .i64 0] 24 (0, 0))) := gblk hg1 (heap_alloc_new w _) (by simp; omega)
  have H1 := Lib.hid (And.intro hr1 (grown_trans' (grown_alloc (World.grownBy.refl w _) _) hg1))
  clear hr1 hg1
  go_wp2_with fail
  refine (callPick g (M + 1) _ _ H1.out.1 (by omega)).mono ?_
  rintro e w2 ⟨k2, rfl, b1, b2, _, hr2, hg2⟩
  have K2 := Lib.hid (gblk hg2 K1.out (by simp; omega))
  have hs2 : w.heap.size < w2.heap.size := (cell2 K2.out).2.2.2.2
  have S2 : Hid (SN w g (M + 1 + 1) w2.heap.size (w2.alloc (.cells #[.int .i64 k1, .int .i64 k2] 24))) :=
    ⟨hr2.alloc _, grown_alloc (grown_trans' H1.out.2 hg2) _, blkc K2.out (below1 _ _), ⟨k1, k2, heap_alloc_new w2 _⟩, hgw, hs2⟩
  clear hr2 hg2 H1 K1 K2 HR
  go_upto_region 2 with (fail)
  obtain ⟨X, hX⟩ : ∃ X, X = w2.heap.size := ⟨_, rfl⟩
  obtain ⟨w3, hw3⟩ : ∃ w3, w3 = w2.alloc (.cells #[.int .i64 k1, .int .i64 k2] 24) := ⟨_, rfl⟩
  rw [← hX] at S2 hs2 ⊢
  rw [← hw3] at S2 ⊢
  clear hX hw3
  go_wp2_with fail
  refine (callOdd g (M + 1 + 1) _ _ S2.out.rdr (by omega)).mono ?_
  rintro e w4 ⟨o1, rfl, hr4, hg4⟩
  have S4 := Lib.hid (S2.out.step hr4 hg4)
  clear hr4 hg4 S2
  go_upto_if 13 with (fail)
  go_cut [] (fun wx => SN w g (M + 5) X wx)
  case first =>
    cases o1
    · go_wp2_with fail
      go_meet
      case rel => exact S4.out.more (by omega)
    · go_wp2_with fail
      refine (callPick g _ _ _ S4.out.rdr (by omega)).mono ?_
      rintro e w5 ⟨k, rfl, c1, c2, _, hr5, hg5⟩
      have S5 := Lib.hid (S4.out.step hr5 hg5)
      clear hr5 hg5 S4
      by_cases hk : k = 0
      · subst hk
        go_wp2_with fail
        refine (callPick g _ _ _ (S5.out.next (below1 _ _)).rdr (by omega)).mono ?_
        rintro e w6 ⟨q, rfl, d1, d2, _, hr6, hg6⟩
        have hq : q < 2 := by omega
        obtain ⟨kk, x, rfl, hx, _, _⟩ := litc (w := w6) (g := w5.heap.size) [-1, 256] (gblk hg6 (heap_alloc_new w5 _) (by have := S5.out.rdr.lt; simp; omega)) (lo := -1) (hi := 256) (by simp) d1 (by simpa using hq)
        have S6 := Lib.hid ((S5.out.next (below1 _ _)).step hr6 hg6)
        clear hr6 hg6 S5 d2
        obtain ⟨f0, n0, hb6⟩ := S6.out.box
        obtain ⟨x1, x2, x3, x4, x5⟩ := cell2 hb6
        clear hb6
        go_wp2_with fail
        go_meet
        case rel => exact (S6.out.seta _).more (by omega)
      · have hk' : (k == 0) = false := by rw [beq_eq_false_iff_ne]; exact hk
        go_wp2_with fail
        refine (callPick g _ _ _ (S5.out.next (below1 _ _)).rdr (by omega)).mono ?_
        rintro e w6 ⟨q, rfl, d1, d2, _, hr6, hg6⟩
        have hq : q < 2 := by omega
        obtain ⟨kk, x, rfl, hx, _, _⟩ := litc (w := w6) (g := w5.heap.size) [-1, 256] (gblk hg6 (heap_alloc_new w5 _) (by have := S5.out.rdr.lt; simp; omega)) (lo := -1) (hi := 256) (by simp) d1 (by simpa using hq)
        have S6 := Lib.hid ((S5.out.next (below1 _ _)).step hr6 hg6)
        clear hr6 hg6 S5 d2
        obtain ⟨f0, n0, hb6⟩ := S6.out.box
        obtain ⟨x1, x2, x3, x4, x5⟩ := cell2 hb6
        clear hb6
        go_wp2_with fail
        go_meet
        case rel => exact (S6.out.setb _).more (by omega)
  case rest =>
    have S7 := Lib.hid hcut
    clear hcut S4
    obtain ⟨f0, n0, hb⟩ := S7.out.box
    obtain ⟨x1, x2, x3, x4, x5⟩ := cell2 hb
    obtain ⟨y1, y2, y3, y4, y5⟩ := cell2 S7.out.res
    obtain ⟨s0, s1⟩ := res2 S7.out.res (.int .i64 f0) (.int .i64 n0)
    clear hb
    go_wp2_with fail
    refine bodyPost_ret (v := .agg #[.int .i64 f0, .int .i64 n0]) (by simp [results, Tryd.results19, go_sem, s0, s1]) rfl ⟨⟨f0, n0⟩, rfl, ?_, ?_⟩
    · exact (S7.out.rdr.setNew (by show g < w.heap.size; omega) _).setNew (by show g < w.heap.size; omega) _
    · exact grown_setNew (grown_setNew S7.out.gr (p := ⟨w.heap.size, 0, none⟩) (Nat.le_refl _) _) (p := ⟨w.heap.size, 1, none⟩) (Nat.le_refl _) _
set_option maxHeartbeats 800000 in
theorem callDrawServeAll (A : Option Addr) (c : Nat) (bs : List Int) (w : World) (hc : bs.length ≤ c) (hm : bs.length ≤ 1048576) (hr : Rd eU8 w w.heap.size A bs) (hby : ∀ x ∈ bs, 0 ≤ x ∧ x ≤ 255) :
    Calls Tryd.prog 16 #[.slice A bs.length c] w fun e w' => ∃ l : Lin, e = .returned l.val ∧ Below w.heap.size w w' := by
  go_enter Tryd.func16, Tryd.ntmps16
  go_wp2_with fail
  refine (callOpen A c bs _ hc hm (hr.alloc _) hby).mono ?_
  rintro e w1 ⟨rfl, hr1, hb1⟩
  have hr1' : Rdr w1 (w.heap.size + 1) 0 := by simpa using hr1
  have HK1 : Hid (w1.heap[w.heap.size]? = some (linBox ⟨0, 0⟩)) := blkc (heap_alloc_new w _) hb1
  have HB := Lib.hid (bel_trans (below1 _ _) hb1)
  have HR := Lib.hid hr1'
  clear hr1 hr1' hb1
  go_wp2_with fail
  refine (callDrawLines (w.heap.size + 1) 0 _ _ HR.out (by omega)).mono ?_
  rintro e w2 ⟨⟨r, m⟩, rfl, hr2, hg2⟩
  have HK2 := Lib.hid (gblk hg2 HK1.out (by simp))
  have HB2 : Hid (Below w.heap.size w w2) := HB.out.trans ((Below.refl _ _).grown hg2 (by have := HR.out.lt; omega) (fun k hk => by cases hk; omega))
  clear hr2 hg2 HK1 HR HB
  obtain ⟨x1, x2, x3, x4, x5⟩ := cell2 HK2.out
  obtain ⟨s0, s1⟩ := res2 HK2.out (.int .i64 r) (.int .i64 m)
  go_wp2_with fail
  refine bodyPost_ret (v := .agg #[.int .i64 r, .int .i64 m]) (by simp [results, Tryd.results16, go_sem, s0, s1]) rfl ⟨⟨r, m⟩, rfl, bset2 HB2.out (Nat.le_refl _) _ _⟩
theorem set2_far {w : World} {a b : Nat} {u v : Value} (hne : b ≠ a) (o : Nat) : ((w.setCell ⟨a, 0, none⟩ u).setCell ⟨a, 1, none⟩ v).cell? ⟨b, o, none⟩ = w.cell? ⟨b, o, none⟩ := by
  rw [World.cell?_setCell_other _ _ _ _ (fun e => by injection e with e1 _ _; exact hne e1.symm), World.cell?_setCell_other _ _ _ _ (fun e => by injection e with e1 _ _; exact hne e1.symm)]
set_option maxRecDepth 100000 in
set_option maxHeartbeats 1600000 in
theorem callDrawRaiseLine (A : Option Addr) (c : Nat) (bs : List Int) (w : World) (hc : bs.length ≤ c) (hm : bs.length ≤ 1048576) (hr : Rd eU8 w w.heap.size A bs) (hby : ∀ x ∈ bs, 0 ≤ x ∧ x ≤ 255) :
    Calls Tryd.prog 12 #[.slice A bs.length c] w fun e w' => ∃ (l : Lin) (n : Int), e = .returned (.tuple #[l.val, .int .i64 n]) ∧ -1 ≤ n ∧ n ≤ 8 ∧ Below w.heap.size w w' := by
  go_enter Tryd.func12, Tryd.ntmps12
  go_wp2_with fail
  refine (callOpen A c bs _ hc hm (hr.alloc _) hby).mono ?_
  rintro e w1 ⟨rfl, hr1, hb1⟩
  have hr1' : Rdr w1 (w.heap.size + 1) 0 := by simpa using hr1
  have HK1 : Hid (w1.heap[w.heap.size]? = some (linBox ⟨0, 0⟩)) := blkc (heap_alloc_new w _) hb1
  have HB := Lib.hid (bel_trans (below1 _ _) hb1)
  have HR := Lib.hid hr1'
  have hs1 : w.heap.size + 1 < w1.heap.size := hr1'.lt
  clear hr1 hr1' hb1
  go_wp2_with fail
  refine (callDrawLines (w.heap.size + 1) 0 _ _ HR.out (by omega)).mono ?_
  rintro e w2 ⟨⟨r, m⟩, rfl, hr2, hg2⟩
  have HK2 := Lib.hid (blkc (gblk hg2 HK1.out (by simp)) (below1 w2 (linBox ⟨r, m⟩)))
  have hs2 : w1.heap.size ≤ w2.heap.size := hg2.size
  have HX2 : Hid ((w2.alloc (linBox ⟨r, m⟩)).heap[w2.heap.size]? = some (linBox ⟨r, m⟩)) := heap_alloc_new w2 _
  have H2 := Lib.hid (And.intro (hr2.alloc (linBox ⟨r, m⟩)) ((HB.out.trans ((Below.refl _ _).grown hg2 (by omega) (fun k hk => by cases hk; omega))).alloc (by omega) (linBox ⟨r, m⟩)))
  have hne2 : w2.heap.size ≠ w.heap.size := by omega
  obtain ⟨hx1, hx2, _, _, _⟩ := cell2 HX2.out
  clear hr2 hg2 HK1 HR HB
  go_wp2_with fail
  go_region_held3 (fun w' => w'.cell? ⟨w2.heap.size, 0, none⟩ = some (.int .i64 r) ∧ w'.cell? ⟨w2.heap.size, 1, none⟩ = some (.int .i64 m)) (first | exact ⟨hx1, hx2⟩ | exact ⟨n1, n2⟩ | (rw [set2_far hne2, set2_far hne2]; first | exact ⟨n1, n2⟩ | exact ⟨hx1, hx2⟩ | assumption) | assumption | go_keep)
    ((go_at_call 20; refine (callPick (w.heap.size + 1) (0 + 5) 10 _ H2.out.1.drew (by omega)).mono ?_; rintro e w3 ⟨p, rfl, hp1, hp2, _, hr3, hg3⟩; have hp3 : p < 10 := hp2 (by omega); have hw9 : IntKind.i64.wrap (p - 1) = p - 1 := (by rw [IntKind.wrap_i64]; omega); obtain ⟨n1, n2, _, _, _⟩ := cell2 (gblk hg3 HX2.out (by simp; omega)); have HK3 := Lib.hid (gblk hg3 HK2.out (by simp)); have HB3 := Lib.hid (H2.out.2.drew.trans ((Below.refl _ _).grown hg3 (by simp; omega) (fun k hk => by cases hk; omega))); obtain ⟨k1, k2, k3, k4, k5⟩ := cell2 HK3.out; obtain ⟨s0, s1⟩ := res2 HK3.out (.int .i64 r) (.int .i64 m)))
  all_goals (try go_wp2)
  all_goals
    refine bodyPost_ret (v := .tuple #[.agg #[.int .i64 r, .int .i64 m], .int .i64 (p - 1)]) (by simp [results, Tryd.results12, go_sem, s0, s1, hw9]) rfl ⟨⟨r, m⟩, p - 1, rfl, by omega, by omega, ?_⟩
    exact bset2 HB3.out (Nat.le_refl _) _ _
set_option maxRecDepth 100000 in
set_option maxHeartbeats 1600000 in
theorem callDrawMaskLine (A : Option Addr) (c : Nat) (bs : List Int) (w : World) (hc : bs.length ≤ c) (hm : bs.length ≤ 1048576) (hr : Rd eU8 w w.heap.size A bs) (hby : ∀ x ∈ bs, 0 ≤ x ∧ x ≤ 255) :
    Calls Tryd.prog 6 #[.slice A bs.length c] w fun e w' => ∃ (l : Lin) (n : Int) (on : Bool), e = .returned (.tuple #[l.val, .int .i64 n, .bool on]) ∧ -1 ≤ n ∧ n ≤ 8 ∧ Below w.heap.size w w' := by
  go_enter Tryd.func6, Tryd.ntmps6
  go_wp2_with fail
  refine (callOpen A c bs _ hc hm (hr.alloc _) hby).mono ?_
  rintro e w1 ⟨rfl, hr1, hb1⟩
  have hr1' : Rdr w1 (w.heap.size + 1) 0 := by simpa using hr1
  have HK1 : Hid (w1.heap[w.heap.size]? = some (linBox ⟨0, 0⟩)) := blkc (heap_alloc_new w _) hb1
  have HB := Lib.hid (bel_trans (below1 _ _) hb1)
  have HR := Lib.hid hr1'
  have hs1 : w.heap.size + 1 < w1.heap.size := hr1'.lt
  clear hr1 hr1' hb1
  go_wp2_with fail
  refine (callDrawLines (w.heap.size + 1) 0 _ _ HR.out (by omega)).mono ?_
  rintro e w2 ⟨⟨r, m⟩, rfl, hr2, hg2⟩
  have HK2 := Lib.hid (blkc (gblk hg2 HK1.out (by simp)) (below1 w2 (linBox ⟨r, m⟩)))
  have hs2 : w1.heap.size ≤ w2.heap.size := hg2.size
  have HX2 : Hid ((w2.alloc (linBox ⟨r, m⟩)).heap[w2.heap.size]? = some (linBox ⟨r, m⟩)) := heap_alloc_new w2 _
  have H2 := Lib.hid (And.intro (hr2.alloc (linBox ⟨r, m⟩)) ((HB.out.trans ((Below.refl _ _).grown hg2 (by omega) (fun k hk => by cases hk; omega))).alloc (by omega) (linBox ⟨r, m⟩)))
  have hne2 : w2.heap.size ≠ w.heap.size := by omega
  obtain ⟨hx1, hx2, _, _, _⟩ := cell2 HX2.out
  clear hr2 hg2 HK1 HR HB
  go_wp2_with fail
  go_region_held3 (fun w' => w'.cell? ⟨w2.heap.size, 0, none⟩ = some (.int .i64 r) ∧ w'.cell? ⟨w2.heap.size, 1, none⟩ = some (.int .i64 m)) (first | exact ⟨hx1, hx2⟩ | exact ⟨m1, m2⟩ | exact ⟨n1, n2⟩ | (rw [set2_far hne2, set2_far hne2]; first | exact ⟨m1, m2⟩ | exact ⟨n1, n2⟩ | exact ⟨hx1, hx2⟩ | assumption) | assumption | go_keep)
    (first
      | (go_at_call_of 20 (Value.int IntKind.i64 10); refine (callPick (w.heap.size + 1) (0 + 5) 10 _ H2.out.1.drew (by omega)).mono ?_; rintro e w3 ⟨p, rfl, hp1, hp2, _, hr3, hg3⟩; have hp3 : p < 10 := hp2 (by omega); have hw9 : IntKind.i64.wrap (p - 1) = p - 1 := (by rw [IntKind.wrap_i64]; omega); obtain ⟨n1, n2, _, _, _⟩ := cell2 (gblk hg3 HX2.out (by simp; omega)); have HX3 := Lib.hid (gblk hg3 HX2.out (by simp; omega)); have HK3 := Lib.hid (gblk hg3 HK2.out (by simp)); have HB3 := Lib.hid (H2.out.2.drew.trans ((Below.refl _ _).grown hg3 (by simp; omega) (fun k hk => by cases hk; omega))); have HR3 := Lib.hid hr3; clear hr3 hg3)
      | (go_at_call_of 20 (Value.int IntKind.i64 2); refine (callPick (w.heap.size + 1) _ 2 _ HR3.out (by omega)).mono ?_; rintro e w4 ⟨q, rfl, hq1, hq2, _, hr4, hg4⟩; have hs4 : w.heap.size < w3.heap.size := (by have := HR3.out.lt; omega); obtain ⟨m1, m2, _, _, _⟩ := cell2 (gblk hg4 HX3.out (by simp; omega)); have HK4 := Lib.hid (gblk hg4 HK3.out (by simp)); have HB4 := Lib.hid (HB3.out.trans ((Below.refl _ _).grown hg4 (by omega) (fun k hk => by cases hk; omega))); obtain ⟨k1, k2, k3, k4, k5⟩ := cell2 HK4.out; obtain ⟨s0, s1⟩ := res2 HK4.out (.int .i64 r) (.int .i64 m)))
  all_goals (try go_wp2)
  all_goals
    refine bodyPost_ret (v := .tuple #[.agg #[.int .i64 r, .int .i64 m], .int .i64 (p - 1), .bool (q == 0)]) (by simp [results, Tryd.results6, go_sem, s0, s1, hw9]) rfl ⟨⟨r, m⟩, p - 1, (q == 0), rfl, by omega, by omega, ?_⟩
    exact bset2 HB4.out (Nat.le_refl _) _ _
end Go.Proofs.YtonhkadbiepedaaDoor
