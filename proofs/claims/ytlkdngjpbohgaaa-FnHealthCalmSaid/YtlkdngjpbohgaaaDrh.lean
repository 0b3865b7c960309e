/- What the drawing functions of health leave. -/
import Derived.Test.YtlkdngjpbohgaaaDrw
import Derived.Test.YtlkdngjpbohgaaaBox
import Derived.Test.YtlkdngjpbohgaaaHea
namespace Go.Proofs.Ytlkdngjpbohgaaa
open Go.RowKit Go.Sort

theorem RdI.of_rd {α : Type} {E : Enc α} {w : World} {lo B : Nat} {A : Option Addr} {xs : List α} (h : Rd E w B A xs) (hA : xs ≠ [] → ∃ b off, A = some ⟨b, off, none⟩ ∧ lo ≤ b) : RdI E w lo B A xs := fun hx => by
  obtain ⟨b, off, e1, h1, h2⟩ := h hx
  obtain ⟨b', off', e2, h3⟩ := hA hx
  subst e1
  injection e2 with e2
  injection e2 with e3 e4
  exact ⟨b, off, rfl, by omega, h1, h2⟩

/-- The reader, the result's box, and the box of the state. -/
structure SH (w0 : World) (g M X : Nat) (wx : World) : Prop where
  rdr : Rdr wx g M
  gr : w0.grownBy wx (some g)
  res : wx.heap[w0.heap.size]? = some (.cells #[.bool false, .int .i64 0] 32 (0, 0))
  box : ∃ f n, wx.heap[X]? = some (.cells #[.bool f, .int .i64 n] 32 (0, 0))
  hg : g < w0.heap.size
  hX : w0.heap.size < X
theorem SH.step {w0 : World} {g M M' X : Nat} {wx w' : World} (s : SH w0 g M X wx) (hr : Rdr w' g M') (hg : wx.grownBy w' (some g)) : SH w0 g M' X w' := by
  obtain ⟨f, n, hb⟩ := s.box
  exact ⟨hr, grown_trans' s.gr hg, gblk hg s.res (by have := s.hg; simp; omega), ⟨f, n, gblk hg hb (by have := s.hg; have := s.hX; simp; omega)⟩, s.hg, s.hX⟩
theorem SH.next {w0 : World} {g M X : Nat} {wx w' : World} (s : SH w0 g M X wx) (hb : Below wx.heap.size wx w') : SH w0 g M X w' := s.step (s.rdr.next hb) (grownBy_of_below hb _)
theorem SH.seta {w0 : World} {g M X : Nat} {wx : World} (s : SH w0 g M X wx) (f : Bool) : SH w0 g M X (wx.setCell ⟨X, 0, none⟩ (.bool f)) := by
  obtain ⟨f0, n, hb⟩ := s.box
  have h1 := s.hg
  have h2 := s.hX
  exact ⟨s.rdr.setNew (by show g < X; omega) _, grown_setNew s.gr (p := ⟨X, 0, none⟩) (by show w0.heap.size ≤ X; omega) _, blko s.res _ (by simp; omega), ⟨f, n, set2a hb⟩, h1, h2⟩
theorem SH.setb {w0 : World} {g M X : Nat} {wx : World} (s : SH w0 g M X wx) (n : Int) : SH w0 g M X (wx.setCell ⟨X, 1, none⟩ (.int .i64 n)) := by
  obtain ⟨f0, n0, hb⟩ := s.box
  have h1 := s.hg
  have h2 := s.hX
  exact ⟨s.rdr.setNew (by show g < X; omega) _, grown_setNew s.gr (p := ⟨X, 1, none⟩) (by show w0.heap.size ≤ X; omega) _, blko s.res _ (by simp; omega), ⟨f0, n, set2b hb⟩, h1, h2⟩
theorem SH.more {w0 : World} {g M M' X : Nat} {wx : World} (s : SH w0 g M X wx) (h : M ≤ M') : SH w0 g M' X wx := ⟨s.rdr.more h, s.gr, s.res, s.box, s.hg, s.hX⟩

set_option maxRecDepth 100000 in
set_option maxHeartbeats 1600000 in
theorem callDrawHealth (g M : Nat) (n : Int) (w : World) (hr : Rdr w g M) (hM : M ≤ 900000) :
    Calls Try.prog 43 #[.pointer (some ⟨g, 0, none⟩), .int .i64 n] w fun e w' => ∃ h : Hlt, e = .returned h.val ∧ Rdr w' g (M + 5) ∧ w.grownBy w' (some g) := by
  have hgw := hr.lt
  have HR := Lib.hid hr
  clear hr
  go_enter Try.func43, Try.ntmps43
  go_wp2_with fail
  refine (callPick g M _ _ (HR.out.alloc _) (by omega)).mono ?_
  rintro e w1 ⟨k1, rfl, a1, a2, _, hr1, hg1⟩
  have K1 : Hid (w1.heap[w.heap.size]? = some (.cells #[.bool false, .int .i64 0] 32 (0, 0))) := gblk hg1 (heap_alloc_new w _) (by simp; omega)
  have H1 := Lib.hid (And.intro hr1 (grown_trans' (grown_alloc (World.grownBy.refl w _) _) hg1))
  clear hr1 hg1
  go_wp2_with fail
  refine (callPick g (M + 1) _ _ H1.out.1 (by omega)).mono ?_
  rintro e w2 ⟨k2, rfl, b1, b2, _, hr2, hg2⟩
  have K2 := Lib.hid (gblk hg2 K1.out (by simp; omega))
  have hs2 : w.heap.size < w2.heap.size := (cell2 K2.out).2.2.2.2
  obtain ⟨X, hX⟩ : ∃ X, X = w2.heap.size := ⟨_, rfl⟩
  have S2 : ∀ f n, Hid (SH w g (M + 1 + 1) X (w2.alloc (.cells #[.bool f, .int .i64 n] 32))) := fun f n =>
    ⟨hr2.alloc _, grown_alloc (grown_trans' H1.out.2 hg2) _, blkc K2.out (below1 _ _), ⟨f, n, by rw [hX]; exact heap_alloc_new w2 _⟩, hgw, by omega⟩
  clear hr2 hg2 H1 K1 K2
  have hk1 : k1 = 3 ∨ (k1 == 3) = false := by
    by_cases h : k1 = 3
    · exact .inl h
    · exact .inr (by rw [beq_eq_false_iff_ne]; exact h)
  go_upto_region 2 with (fail)
  go_cut [] (fun wx => SH w g (M + 2) X wx)
  case first =>
    by_cases hk2 : k2 = 0
    · subst hk2
      go_wp2
      go_meet
      case rel => rw [hX] at S2 ⊢; exact (S2 true k1).out
    · have hk2' : (k2 == 0) = false := by rw [beq_eq_false_iff_ne]; exact hk2
      rcases hk1 with rfl | hk1
      · go_wp2
        go_meet
        case rel => rw [hX] at S2 ⊢; exact (S2 true 3).out
      · go_wp2
        go_meet
        case rel => rw [hX] at S2 ⊢; exact (S2 false k1).out
  case rest =>
    have S3 := Lib.hid hcut
    clear hcut S2
    rw [← hX]
    clear hX
    go_wp2_with fail
    refine (callOdd g (M + 2) _ _ S3.out.rdr (by omega)).mono ?_
    rintro e w4 ⟨o1, rfl, hr4, hg4⟩
    have S4 := Lib.hid (S3.out.step hr4 hg4)
    clear hr4 hg4 S3
    go_upto_if 22 with (fail)
    go_cut [] (fun wx => SH w g (M + 5) X wx)
    case first =>
      cases o1
      · go_wp2_with fail
        go_meet
        case rel => exact S4.out.more (by omega)
      · go_wp2_with fail
        refine (callPick g _ _ _ S4.out.rdr (by omega)).mono ?_
        rintro e w5 ⟨k, rfl, c1, c2, _, hr5, hg5⟩
        have S5 := Lib.hid (S4.out.step hr5 hg5)
        clear hr5 hg5 S4
        by_cases hk : k = 0
        · subst hk
          go_wp2_with fail
          refine (callPick g _ _ _ (S5.out.next (below1 _ _)).rdr (by omega)).mono ?_
          rintro e w6 ⟨q, rfl, d1, d2, _, hr6, hg6⟩
          have hq : q < 2 := by omega
          obtain ⟨kk, x, rfl, hx, _, _⟩ := litc (w := w6) (g := w5.heap.size) [-1, 4] (gblk hg6 (heap_alloc_new w5 _) (by have := S5.out.rdr.lt; simp; omega)) (lo := -1) (hi := 4) (by simp) d1 (by simpa using hq)
          have S6 := Lib.hid ((S5.out.next (below1 _ _)).step hr6 hg6)
          clear hr6 hg6 S5 d2
          obtain ⟨f0, n0, hb6⟩ := S6.out.box
          obtain ⟨x1, x2, x3, x4, x5⟩ := cell2 hb6
          clear hb6
          go_wp2_with fail
          go_meet
          case rel => exact (S6.out.setb _).more (by omega)
        · have hk' : (k == 0) = false := by rw [beq_eq_false_iff_ne]; exact hk
          obtain ⟨f0, n0, hb5⟩ := S5.out.box
          obtain ⟨x1, x2, x3, x4, x5⟩ := cell2 hb5
          clear hb5
          go_wp2_with fail
          go_meet
          case rel => exact ((S5.out.seta _).setb _).more (by omega)
    case rest =>
      have S7 := Lib.hid hcut
      clear hcut S4
      obtain ⟨f0, n0, hb⟩ := S7.out.box
      obtain ⟨x1, x2, x3, x4, x5⟩ := cell2 hb
      obtain ⟨y1, y2, y3, y4, y5⟩ := cell2 S7.out.res
      obtain ⟨s0, s1⟩ := res2 S7.out.res (.bool f0) (.int .i64 n0)
      clear hb
      go_wp2_with fail
      refine bodyPost_ret (v := .agg #[.bool f0, .int .i64 n0]) (by simp [results, Try.results43, go_sem, s0, s1]) rfl ⟨⟨f0, n0⟩, rfl, ?_, ?_⟩
      · exact (S7.out.rdr.setNew (by show g < w.heap.size; omega) _).setNew (by show g < w.heap.size; omega) _
      · exact grown_setNew (grown_setNew S7.out.gr (p := ⟨w.heap.size, 0, none⟩) (Nat.le_refl _) _) (p := ⟨w.heap.size, 1, none⟩) (Nat.le_refl _) _

set_option maxRecDepth 100000 in
set_option maxHeartbeats 1600000 in
theorem callDrawActions (g M : Nat) (n : Int) (w : World) (hr : Rdr w g M) (hM : M ≤ 900000) :
    Calls Try.prog 44 #[.pointer (some ⟨g, 0, none⟩), .int .i64 n] w fun e w' =>
      ∃ A c xs, e = .returned (.slice A (xs : List Int).length c) ∧ RdI eInt w' w.heap.size w'.heap.size A xs ∧ xs.length ≤ c ∧ xs.length ≤ 4 ∧ Rdr w' g (M + 7) ∧ w.grownBy w' (some g) := by
  have hgw := hr.lt
  have HR := Lib.hid hr
  clear hr
  go_enter Try.func44, Try.ntmps44
  go_wp2_with fail
  refine (callPick g M _ _ HR.out (by omega)).mono ?_
  rintro e w1 ⟨k1, rfl, a1, a2, _, hr1, hg1⟩
  have H1 := Lib.hid (And.intro hr1 hg1)
  clear hr1 hg1
  go_wp2_with fail
  refine (callPick g (M + 1) _ _ H1.out.1 (by omega)).mono ?_
  rintro e w2 ⟨k2, rfl, b1, b2, _, hr2, hg2⟩
  have H2 := Lib.hid (And.intro hr2 (grown_trans' H1.out.2 hg2))
  clear hr2 hg2 H1
  go_wp2_with fail
  refine (callPick g (M + 2) _ _ H2.out.1 (by omega)).mono ?_
  rintro e w3 ⟨k3, rfl, c1, c2, _, hr3, hg3⟩
  have hs3 : w.heap.size ≤ w3.heap.size := by have := H2.out.2.size; have := hg3.size; omega
  have H3 := Lib.hid (And.intro (hr3.alloc (.cells #[.int .i64 k1, .int .i64 k2, .int .i64 k3] 3)) (And.intro (grown_alloc (grown_trans' H2.out.2 hg3) (.cells #[.int .i64 k1, .int .i64 k2, .int .i64 k3] 3)) (Own.lit (E := eInt) (base := w.heap.size) (xs := [k1, k2, k3]) w3 3 #[.int .i64 k1, .int .i64 k2, .int .i64 k3] hs3 (by simp) rfl)))
  clear hr3 hg3 H2 a1 a2 b1 b2 c1 c2
  obtain ⟨v, hv⟩ : ∃ v, v = w3.heap.size := ⟨_, rfl⟩
  go_wp2_with fail
  refine (callOdd g (M + 3) _ _ H3.out.1 (by omega)).mono ?_
  rintro e w4 ⟨o1, rfl, hr4, hg4⟩
  have H4 := Lib.hid (And.intro hr4 (And.intro (grown_trans' H3.out.2.1 hg4) (H3.out.2.2.kept hg4 (fun k hk => by cases hk; omega))))
  rw [← hv] at H4 ⊢
  clear hr4 hg4 H3 hv
  cases o1
  · go_wp2_with fail
    go_ret
    exact ⟨some ⟨v, 0, none⟩, 3, [k1, k2, k3], rfl, RdI.of_own H4.out.2.2, by simp, by simp, H4.out.1.more (by omega), H4.out.2.1⟩
  · go_wp2_with fail
    refine (callPick g _ _ _ H4.out.1 (by omega)).mono ?_
    rintro e w5 ⟨k, rfl, d1, d2, _, hr5, hg5⟩
    have H5 := Lib.hid (And.intro hr5 (And.intro (grown_trans' H4.out.2.1 hg5) (H4.out.2.2.kept hg5 (fun k hk => by cases hk; omega))))
    clear hr5 hg5 H4
    have hk3 : k < 3 := by omega
    by_cases hk : k = 0
    · subst hk
      go_wp2_with fail
      refine (callPick g _ _ _ H5.out.1 (by omega)).mono ?_
      rintro e w6 ⟨i, rfl, e1, e2, _, hr6, hg6⟩
      obtain ⟨ii, rfl⟩ := Int.eq_ofNat_of_zero_le e1
      have hi3 : ii < 3 := by omega
      have hs6 : w.heap.size ≤ w6.heap.size := Nat.le_trans H5.out.2.1.size hg6.size
      have H6 := Lib.hid (And.intro (hr6.alloc (.cells #[.int .i64 (-1), .int .i64 3] 3)) (And.intro (grown_alloc (grown_trans' H5.out.2.1 hg6) (.cells #[.int .i64 (-1), .int .i64 3] 3)) ((H5.out.2.2.kept hg6 (fun k hk => by cases hk; omega)).alloc (.cells #[.int .i64 (-1), .int .i64 3] 3))))
      clear hr6 hg6 H5 e2
      go_wp2_with fail
      refine (callPick g _ _ _ H6.out.1 (by omega)).mono ?_
      rintro e w7 ⟨q, rfl, q1, q2, _, hr7, hg7⟩
      have hq : q < 2 := by omega
      obtain ⟨kk, x, rfl, hx, _, _⟩ := litc (w := w7) (g := w6.heap.size) [-1, 3] (gblk hg7 (heap_alloc_new w6 _) (by simp; omega)) (lo := -1) (hi := 3) (by simp) q1 (by simpa using hq)
      have H7 := Lib.hid (And.intro hr7 (And.intro (grown_trans' H6.out.2.1 hg7) (H6.out.2.2.kept hg7 (fun k hk => by cases hk; omega))))
      clear hr7 hg7 H6 q2
      obtain ⟨hbl, cur, hcur⟩ := H7.out.2.2.blk (by simp)
      obtain ⟨b, off, hA, _, hc⟩ := H7.out.2.2.rd.at1 (k := ii) rfl (by simpa using hi3) rfl
      simp only [Option.some.injEq, Addr.mk.injEq, and_true] at hA
      obtain ⟨rfl, rfl⟩ := hA
      simp only [Nat.zero_add] at hc
      have hfz := H7.out.2.2.frozen (o := ii) (by simp)
      have HO := Lib.hid (H7.out.2.2.set (E := eInt) (i := ii) (j := 0) (x := ([k1, k2, k3] : List Int)[ii]'(by simpa using hi3)) (y := x) (u := .int .i64 x) (List.getElem?_eq_getElem (by simpa using hi3)) (by decide) rfl)
      clear hcur cur
      go_wp2_with fail
      go_ret
      refine ⟨some ⟨v, 0, none⟩, 3, ([k1, k2, k3] : List Int).set ii x, by simp, ?_, by simp, by simp, ?_, ?_⟩
      · have := RdI.of_own HO.out
        simpa using this
      · exact (H7.out.1.setNew (by show g < v; omega) _).more (by omega)
      · exact grown_setNew H7.out.2.1 (p := ⟨v, ii, none⟩) hbl _
    · have hk' : (k == 0) = false := by rw [beq_eq_false_iff_ne]; exact hk
      by_cases hk1 : k = 1
      · subst hk1
        go_wp2_with fail
        go_ret
        refine ⟨some ⟨v, 1, none⟩, 2, [k2, k3], rfl, ?_, by simp, by simp, H5.out.1.more (by omega), H5.out.2.1⟩
        have hb := (H5.out.2.2.blk (by simp)).1
        have := H5.out.2.2.rd.drop (m := 1) (cap := 3) (by simp)
        exact RdI.of_rd this (fun _ => ⟨v, 1, rfl, hb⟩)
      · have hk1' : (k == 1) = false := by rw [beq_eq_false_iff_ne]; exact hk1
        have hsw : w.heap.size ≤ w5.heap.size := H5.out.2.1.size
        go_wp2_with (at_builtin; refine wpList_app _ eiInt rfl (.tmp 18) (.tmp 19) rfl w.heap.size (H5.out.2.2.alloc _) (Rd.new (xs := [(0 : Int)]) _ _ _ rfl) rfl rfl rfl (by simp) (by simp; omega) ?_; intro v' w6 row hown6 hg6 hrow6)
        obtain ⟨A6, c6, hv6, hc6, _⟩ := hown6.form
        subst hv6
        go_ret
        exact ⟨A6, c6, _, rfl, RdI.of_own hown6, hc6, by simp, ((H5.out.1.alloc _).grown hg6 (fun k hk => by have := (hrow6 k hk).1; omega)).more (by omega), grown_new (grown_alloc H5.out.2.1 _) hg6 (fun k hk => (hrow6 k hk).1)⟩

structure SD (w0 : World) (g M X lo hi : Nat) (h : Hlt) (A : Option Addr) (t : List Int) (wx : World) : Prop where
  rdr : Rdr wx g M
  bel : Below w0.heap.size w0 wx
  res : wx.heap[w0.heap.size]? = some (.cells #[.bool false, .int .i64 0] 32 (0, 0))
  box : wx.heap[X]? = some (.cells #[.bool h.frozen, .int .i64 h.restarts] 32 (0, 0))
  tab : RdI eInt wx lo hi A t
  g0 : w0.heap.size < g
  gX : g < X
  Xl : X < lo
  lh : lo ≤ hi
  hw : hi ≤ wx.heap.size
theorem SD.step {w0 : World} {g M M' X lo hi : Nat} {h : Hlt} {A : Option Addr} {t : List Int} {wx w' : World} {row : Option Nat} (s : SD w0 g M X lo hi h A t wx) (hr : Rdr w' g M') (hg : wx.grownBy w' row) (hrow : ∀ k, row = some k → k = g ∨ hi ≤ k) : SD w0 g M' X lo hi h A t w' := by
  obtain ⟨a1, a2, a3, a4, a5, a6, a7, a8, a9, a10⟩ := s
  refine ⟨hr, a2.trans ((Below.refl _ _).grown hg a2.size (fun k hk => by rcases hrow k hk with h | h <;> omega)), gblk hg a3 (fun e => by rcases hrow _ e.symm with h | h <;> omega), gblk hg a4 (fun e => by rcases hrow _ e.symm with h | h <;> omega), a5.keep hg (fun k hk => by rcases hrow k hk with h | h <;> omega) a10, a6, a7, a8, a9, Nat.le_trans a10 hg.size⟩
theorem SD.pick {w0 : World} {g M M' X lo hi : Nat} {h : Hlt} {A : Option Addr} {t : List Int} {wx w' : World} (s : SD w0 g M X lo hi h A t wx) (hr : Rdr w' g M') (hg : wx.grownBy w' (some g)) : SD w0 g M' X lo hi h A t w' := s.step hr hg (fun k hk => by cases hk; exact .inl rfl)
theorem SD.next {w0 : World} {g M X lo hi : Nat} {h : Hlt} {A : Option Addr} {t : List Int} {wx w' : World} (s : SD w0 g M X lo hi h A t wx) (hb : Below wx.heap.size wx w') : SD w0 g M X lo hi h A t w' := s.step (s.rdr.next hb) (grownBy_of_below hb none) (fun k hk => by cases hk)
theorem SD.app {w0 : World} {g M X lo hi : Nat} {h : Hlt} {A : Option Addr} {t : List Int} {wx w' : World} {row : Option Nat} (s : SD w0 g M X lo hi h A t wx) (hg : wx.grownBy w' row) (hrow : ∀ k, row = some k → hi ≤ k) : SD w0 g M X lo hi h A t w' := s.step (s.rdr.grown hg (fun k hk => by have := hrow k hk; have := s.gX; have := s.Xl; have := s.lh; omega)) hg (fun k hk => .inr (hrow k hk))

set_option maxRecDepth 100000 in
set_option maxHeartbeats 3200000 in
theorem callDrawHealthRun (A : Option Addr) (c : Nat) (bs : List Int) (w : World) (hc : bs.length ≤ c) (hm : bs.length ≤ 1048576) (hr : Rd eU8 w w.heap.size A bs) (hby : ∀ x ∈ bs, 0 ≤ x ∧ x ≤ 255) :
    Calls Try.prog 17 #[.slice A bs.length c] w fun e w' =>
      ∃ h A c t A' c' fs, e = .returned (.tuple #[(h : Hlt).val, .slice A (t : List Int).length c, .slice A' (fs : List Int).length c']) ∧ Rd eInt w' w'.heap.size A t ∧ Rd eInt w' w'.heap.size A' fs ∧ t.length ≤ c ∧ t.length ≤ 4 ∧ fs.length ≤ c' ∧ fs.length ≤ 31 ∧ Below w.heap.size w w' := by
  go_enter Try.func17, Try.ntmps17
  go_wp2_with fail
  refine (callOpen A c bs _ hc hm (hr.alloc _) hby).mono ?_
  rintro e w1 ⟨rfl, hr1, hb1⟩
  have hr1' : Rdr w1 (w.heap.size + 1) 0 := by simpa using hr1
  have K1 : Hid (w1.heap[w.heap.size]? = some (.cells #[.bool false, .int .i64 0] 32 (0, 0))) := blkc (heap_alloc_new w _) hb1
  have HB := Lib.hid (bel_trans (below1 _ _) hb1)
  have HR := Lib.hid hr1'
  have hs1 : w.heap.size + 1 < w1.heap.size := hr1'.lt
  clear hr1 hr1' hb1 hr
  obtain ⟨g, hg⟩ : ∃ g, g = w.heap.size + 1 := ⟨_, rfl⟩
  have hgw : w.heap.size < g := by omega
  simp only [World.size_alloc]
  rw [← hg] at HR hs1 ⊢
  clear hg
  go_wp2_with fail
  refine (callDrawHealth g 0 _ _ HR.out (by omega)).mono ?_
  rintro e w2 ⟨⟨hf, hn⟩, rfl, hr2, hg2⟩
  have hs2 : w1.heap.size ≤ w2.heap.size := hg2.size
  have K2 := Lib.hid (blkc (gblk hg2 K1.out (by simp; omega)) (below1 w2 (.cells #[.bool hf, .int .i64 hn] 32)))
  have X2 := Lib.hid (heap_alloc_new w2 (.cells #[.bool hf, .int .i64 hn] 32))
  have H2 := Lib.hid (And.intro (hr2.alloc (.cells #[.bool hf, .int .i64 hn] 32)) (bel_trans (HB.out.trans ((Below.refl _ _).grown hg2 (by omega) (fun k hk => by cases hk; omega))) (below1 w2 (.cells #[.bool hf, .int .i64 hn] 32))))
  obtain ⟨X, hX⟩ : ∃ X, X = w2.heap.size := ⟨_, rfl⟩
  clear hr2 hg2 K1 HR HB
  go_wp2_with fail
  refine (callDrawActions g _ _ _ H2.out.1 (by omega)).mono ?_
  rintro e w3 ⟨At, ct, t, rfl, hrt, hct, hlt, hr3, hg3⟩
  have hs3 : w2.heap.size + 1 ≤ w3.heap.size := by simpa using hg3.size
  simp only [World.size_alloc] at hrt
  have S3 : Hid (SD w g (0 + 5 + 7) X (w2.heap.size + 1) w3.heap.size ⟨hf, hn⟩ At t w3) :=
    ⟨hr3, H2.out.2.trans ((Below.refl _ _).grown hg3 (by simp; omega) (fun k hk => by cases hk; omega)), gblk hg3 K2.out (by simp; omega), by rw [hX]; exact gblk hg3 X2.out (by simp; omega), hrt, hgw, by omega, by omega, hs3, Nat.le_refl _⟩
  clear hr3 hg3 hrt H2 K2 X2
  rw [← hX] at S3 ⊢
  obtain ⟨lo, hlo⟩ : ∃ lo, lo = X + 1 := ⟨_, rfl⟩
  obtain ⟨hi, hhi⟩ : ∃ hi, hi = w3.heap.size := ⟨_, rfl⟩
  rw [← hlo, ← hhi] at S3
  have hh3 : hi ≤ w3.heap.size := by omega
  clear hX hlo hhi hs3 hs2 hs1
  have S4 := Lib.hid (S3.out.next (below1 w3 (.cells #[] 3)))
  go_wp2_with fail
  refine (callPick g _ _ _ S4.out.rdr (by omega)).mono ?_
  rintro e w5 ⟨k1, rfl, a1, a2, _, hr5, hg5⟩
  obtain ⟨j0, rfl⟩ := Int.eq_ofNat_of_zero_le a1
  have hj0 : j0 ≤ 6 := by omega
  have S5 := Lib.hid (S4.out.pick hr5 hg5)
  clear hr5 hg5 a1 a2 S3 S4
  go_wp2_with fail
  go_loopw [8, 9] (fun v i wr => ∃ (j : Nat) (xs : List Int), i = .int .i64 j ∧ Hid (Own eInt 3 wr hi v xs ∧ SD w g (0 + 5 + 7 + 1 + xs.length) X lo hi ⟨hf, hn⟩ At t wr) ∧ xs.length + j ≤ j0) (fun _ i _ => (intOf i).toNat)
  case atStart => exact ⟨j0, [], rfl, ⟨Own.none_, S5.out⟩, by simp⟩
  case round =>
    obtain ⟨j, xs, rfl, HH, hlen⟩ := hrel
    clear S5
    by_cases hj : 0 < j
    · obtain ⟨j', rfl⟩ : ∃ j', j = j' + 1 := ⟨j - 1, by omega⟩
      go_wp2_with fail
      refine (callPick g _ _ _ HH.out.2.rdr (by omega)).mono ?_
      rintro e w6 ⟨p, rfl, b1, b2, _, hr6, hg6⟩
      have H6 := Lib.hid (And.intro (HH.out.1.kept hg6 (fun k hk => by cases hk; have := HH.out.2.gX; have := HH.out.2.Xl; have := HH.out.2.lh; omega)) (HH.out.2.pick hr6 hg6))
      have hs6 := H6.out.2.hw
      clear hr6 hg6 HH
      go_wp2_with (at_builtin; refine wpList_app _ eiInt rfl (.tmp 23) (.tmp 26) rfl hi (H6.out.1.alloc _) (Rd.new (xs := [p]) _ _ _ rfl) rfl rfl rfl (by simp; omega) (by simp; omega) ?_; intro v' w7 row hown7 hg7 hrow7)
      go_roundw
      case rel => exact ⟨j', xs ++ [p], rfl, ⟨hown7, by have := (H6.out.2.next (below1 _ (.cells #[.int .i64 p] 3))).app hg7 (fun k hk => (hrow7 k hk).1); rw [List.length_append]; exact this⟩, by simp; omega⟩
      case measure => simp [intOf]
    · have hj0' : j = 0 := by omega
      subst hj0'
      go_wp2_with fail
      refine (callOdd g _ _ _ HH.out.2.rdr (by omega)).mono ?_
      rintro e w6 ⟨o1, rfl, hr6, hg6⟩
      have H6 := Lib.hid (And.intro (HH.out.1.kept hg6 (fun k hk => by cases hk; have := HH.out.2.gX; have := HH.out.2.Xl; have := HH.out.2.lh; omega)) (HH.out.2.pick hr6 hg6))
      clear hr6 hg6 HH
      go_upto_if 29 with (fail)
      go_cut [8] (fun v wx => ∃ ys : List Int, ys.length ≤ 7 ∧ Hid (Own eInt 3 wx hi v ys ∧ SD w g 30 X lo hi ⟨hf, hn⟩ At t wx))
      case first =>
        cases o1
        · go_wp2_with fail
          go_meet
          case rel => exact ⟨xs, by omega, H6.out.1, H6.out.2.step (H6.out.2.rdr.more (by omega)) (World.grownBy.refl _ none) (fun k hk => by cases hk)⟩
        · go_wp2_with fail
          refine (callPick g _ _ _ (H6.out.2.next (below1 _ _)).rdr (by omega)).mono ?_
          rintro e w7 ⟨q, rfl, q1, q2, _, hr7, hg7⟩
          have hq : q < 2 := by omega
          obtain ⟨kk, x, rfl, hx, _, _⟩ := litc (w := w7) (g := w6.heap.size) [-1, 4] (gblk hg7 (heap_alloc_new w6 _) (by have := H6.out.2.rdr.lt; simp; omega)) (lo := -1) (hi := 4) (by simp) q1 (by simpa using hq)
          have H7 := Lib.hid (And.intro ((H6.out.1.alloc (.cells #[.int .i64 (-1), .int .i64 4] 3)).kept hg7 (fun k hk => by cases hk; have := H6.out.2.gX; have := H6.out.2.Xl; have := H6.out.2.lh; omega)) ((H6.out.2.next (below1 _ _)).pick hr7 hg7))
          have hs7 := H7.out.2.hw
          clear hr7 hg7 H6 q2
          go_wp2_with (at_builtin; refine wpList_app _ eiInt rfl (.tmp 30) (.tmp 36) rfl hi (H7.out.1.alloc _) (Rd.new (xs := [x]) _ _ _ rfl) rfl rfl rfl (by simp; omega) (by simp; omega) ?_; intro v' w8 row hown8 hg8 hrow8)
          go_meet
          case rel =>
            have S8 := (H7.out.2.next (below1 _ (.cells #[.int .i64 x] 3))).app hg8 (fun k hk => (hrow8 k hk).1)
            exact ⟨xs ++ [x], by simp; omega, hown8, S8.step (S8.rdr.more (by omega)) (World.grownBy.refl _ none) (fun k hk => by cases hk)⟩
      case rest =>
        obtain ⟨ys, hyl, HY⟩ := hcut
        clear H6
        go_wp2_with fail
        refine (callOdd g _ _ _ HY.out.2.rdr (by omega)).mono ?_
        rintro e w8 ⟨o2, rfl, hr8, hg8⟩
        have H8 := Lib.hid (And.intro (HY.out.1.kept hg8 (fun k hk => by cases hk; have := HY.out.2.gX; have := HY.out.2.Xl; have := HY.out.2.lh; omega)) (HY.out.2.pick hr8 hg8))
        clear hr8 hg8 HY
        go_upto_if 39 with (fail)
        go_cut [8] (fun v wx => ∃ A c ys, v = .slice A (ys : List Int).length c ∧ ys.length ≤ c ∧ ys.length ≤ 31 ∧ Hid (Own eInt 3 wx hi v ys ∧ SD w g 31 X lo hi ⟨hf, hn⟩ At t wx))
        case first =>
          cases o2
          · obtain ⟨A8, c8, hv8, hc8, _⟩ := H8.out.1.form
            subst hv8
            go_wp2_with fail
            go_meet
            case rel => exact ⟨A8, c8, ys, rfl, hc8, by omega, H8.out.1, H8.out.2⟩
          · have hw8 : hi ≤ w8.heap.size := H8.out.2.hw
            go_wp2_with (at_make; refine wpList_mkE (E := eInt) _ Try.underlying23 (z := .int .i64 0) (m := 8) (by kernel_rfl) (by decide) (0 : Int) rfl rfl _ _ rfl hi 31 31 31 rfl rfl rfl rfl (by decide) hw8 ?_; intro w9 hown9 hb9)
            go_meet
            case rel => exact ⟨_, _, List.replicate 31 (0 : Int), rfl, by simp, by simp, hown9, H8.out.2.next hb9⟩
        case rest =>
          obtain ⟨A9, c9, zs, rfl, hc9, hl9, HZ⟩ := hcut
          clear H8
          obtain ⟨x1, x2, x3, x4, x5⟩ := cell2 HZ.out.2.box
          obtain ⟨y1, y2, y3, y4, y5⟩ := cell2 HZ.out.2.res
          obtain ⟨s0, s1⟩ := res2 HZ.out.2.res (.bool hf) (.int .i64 hn)
          go_wp2_with fail
          refine bodyPost_ret (v := .tuple #[.agg #[.bool hf, .int .i64 hn], .slice At t.length ct, .slice A9 zs.length c9]) (by simp [results, Try.results17, go_sem, s0, s1]) rfl ⟨⟨hf, hn⟩, At, ct, t, A9, c9, zs, rfl, ?_, ?_, hct, hlt, hc9, hl9, ?_⟩
          · have := HZ.out.2.tab.keep (gset2 (w := wc) (g := w.heap.size) (.bool hf) (.int .i64 hn)) (fun k hk => by cases hk; have := HZ.out.2.g0; have := HZ.out.2.gX; have := HZ.out.2.Xl; omega) HZ.out.2.hw
            exact this.full (by simpa using HZ.out.2.hw)
          · exact (HZ.out.1.kept (gset2 (w := wc) (g := w.heap.size) (.bool hf) (.int .i64 hn)) (fun k hk => by cases hk; have := HZ.out.2.g0; have := HZ.out.2.gX; have := HZ.out.2.Xl; have := HZ.out.2.lh; omega)).rd
          · exact bset2 HZ.out.2.bel (Nat.le_refl _) _ _
end Go.Proofs.Ytlkdngjpbohgaaa
