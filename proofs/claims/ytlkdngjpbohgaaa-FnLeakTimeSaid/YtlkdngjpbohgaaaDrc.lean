/- What the drawing functions of caches and places leave. -/
import Derived.Test.YtlkdngjpbohgaaaDrw
import Derived.Test.YtlkdngjpbohgaaaCag
namespace Go.Proofs.Ytlkdngjpbohgaaa
open Go.RowKit Go.Sort

set_option maxRecDepth 100000 in
set_option maxHeartbeats 1600000 in
theorem callDrawPlace (g M : Nat) (n : Int) (w : World) (hr : Rdr w g M) (hM : M ≤ 900000) :
    Calls Try.prog 56 #[.pointer (some ⟨g, 0, none⟩), .int .i64 n] w fun e w' => ∃ p : Int, e = .returned (.int .i64 p) ∧ -1 ≤ p ∧ p ≤ 4096 ∧ Rdr w' g (M + 6) ∧ w.grownBy w' (some g) := by
  have HR := Lib.hid hr
  clear hr
  go_enter Try.func56, Try.ntmps56
  go_wp2_with fail
  refine (callOdd g M _ _ HR.out (by omega)).mono ?_
  rintro e w1 ⟨o1, rfl, hr1, hg1⟩
  have H1 := Lib.hid (And.intro hr1 hg1)
  clear hr1 hg1
  cases o1
  · go_wp2_with fail
    refine (callPick g _ _ _ H1.out.1 (by omega)).mono ?_
    rintro e w2 ⟨k1, rfl, a1, a2, _, hr2, hg2⟩
    have ha : k1 < 64 := by omega
    have H2 := Lib.hid (And.intro hr2 (grown_trans' H1.out.2 hg2))
    clear hr2 hg2 a2
    go_wp2_with fail
    refine (callPick g _ _ _ H2.out.1 (by omega)).mono ?_
    rintro e w3 ⟨k2, rfl, b1, b2, _, hr3, hg3⟩
    have hb : k2 < 256 := by omega
    have H3 := Lib.hid (And.intro hr3 (grown_trans' H2.out.2 hg3))
    clear hr3 hg3 b2
    go_wp2_with fail
    refine (callPick g _ _ _ H3.out.1 (by omega)).mono ?_
    rintro e w4 ⟨k3, rfl, c1, c2, _, hr4, hg4⟩
    have hc : k3 < 256 := by omega
    have H4 := Lib.hid (And.intro hr4 (grown_trans' H3.out.2 hg4))
    have hs4 : g < w4.heap.size := hr4.lt
    clear hr4 hg4 c2
    go_wp2_with fail
    refine (callPick g _ _ _ (H4.out.1.alloc _) (by omega)).mono ?_
    rintro e w5 ⟨q, rfl, d1, d2, _, hr5, hg5⟩
    have hq : q < 3 := by omega
    obtain ⟨kk, x, rfl, hx, hx1, hx2⟩ := litc (w := w5) (g := w4.heap.size) [k1, k2 * 16, k3] (gblk hg5 (heap_alloc_new w4 _) (by simp; omega)) (lo := 0) (hi := 4096) (by simp; omega) d1 (by simpa using hq)
    have H5 := Lib.hid (And.intro hr5 (grown_trans' (grown_alloc H4.out.2 _) hg5))
    clear hr5 hg5 d2
    go_wp2_with fail
    go_ret
    exact ⟨x, rfl, by omega, hx2, H5.out.1.more (by omega), H5.out.2⟩
  · have hs1 : g < w1.heap.size := H1.out.1.lt
    go_wp2_with fail
    refine (callPick g _ _ _ (H1.out.1.alloc _) (by omega)).mono ?_
    rintro e w5 ⟨q, rfl, d1, d2, _, hr5, hg5⟩
    have hq : q < 2 := by omega
    obtain ⟨kk, x, rfl, hx, hx1, hx2⟩ := litc (w := w5) (g := w1.heap.size) [-1, 4096] (gblk hg5 (heap_alloc_new w1 _) (by simp; omega)) (lo := -1) (hi := 4096) (by simp) d1 (by simpa using hq)
    have H5 := Lib.hid (And.intro hr5 (grown_trans' (grown_alloc H1.out.2 _) hg5))
    clear hr5 hg5 d2
    go_wp2_with fail
    go_ret
    exact ⟨x, rfl, hx1, hx2, H5.out.1.more (by omega), H5.out.2⟩

set_option maxRecDepth 100000 in
set_option maxHeartbeats 1600000 in
theorem callDrawPlaces (g M : Nat) (n : Int) (w : World) (hr : Rdr w g M) (hM : M ≤ 800000) :
    Calls Try.prog 68 #[.pointer (some ⟨g, 0, none⟩), .int .i64 n] w fun e w' =>
      ∃ A c xs, e = .returned (.slice A (xs : List Int).length c) ∧ Own eInt 3 w' w.heap.size (.slice A xs.length c) xs ∧ xs.length ≤ c ∧ xs.length ≤ 61 ∧ Rdr w' g (M + 80) ∧ w.grownBy w' (some g) := by
  have hgw := hr.lt
  have HR := Lib.hid hr
  clear hr
  go_enter Try.func68, Try.ntmps68
  go_wp2_with fail
  refine (callPick g M _ _ (HR.out.alloc _) (by omega)).mono ?_
  rintro e w1 ⟨k1, rfl, a1, a2, _, hr1, hg1⟩
  obtain ⟨j0, rfl⟩ := Int.eq_ofNat_of_zero_le a1
  have hj0 : j0 ≤ 8 := by omega
  clear a1 a2
  have H1 := Lib.hid (And.intro hr1 (grown_trans' (grown_alloc (World.grownBy.refl w _) _) hg1))
  clear hr1 hg1
  go_wp2_with fail
  go_loopw [5, 6] (fun v i wr => ∃ (j : Nat) (xs : List Int), i = .int .i64 j ∧ Own eInt 3 wr w.heap.size v xs ∧ xs.length + j ≤ j0 ∧ Rdr wr g (M + 1 + 6 * xs.length) ∧ w.grownBy wr (some g)) (fun _ i _ => (intOf i).toNat)
  case atStart => exact ⟨j0, [], rfl, Own.none_, by simp, H1.out.1, H1.out.2⟩
  case round =>
    obtain ⟨j, xs, rfl, hown, hlen, hrd, hgr⟩ := hrel
    have HH := Lib.hid (And.intro hown (And.intro hrd hgr))
    clear hown hrd hgr H1
    by_cases hj : 0 < j
    · obtain ⟨j', rfl⟩ : ∃ j', j = j' + 1 := ⟨j - 1, by omega⟩
      go_wp2_with fail
      refine (callDrawPlace g _ n _ HH.out.2.1 (by omega)).mono ?_
      rintro e w2 ⟨p, rfl, b1, b2, hr2, hg2⟩
      have H2 := Lib.hid (And.intro (HH.out.1.kept hg2 (fun k hk => by cases hk; exact hgw)) (And.intro hr2 (grown_trans' HH.out.2.2 hg2)))
      clear hr2 hg2 HH
      go_wp2_with (at_builtin; refine wpList_app _ eiInt rfl (.tmp 14) (.tmp 18) rfl w.heap.size (H2.out.1.alloc _) (Rd.new (xs := [p]) _ _ _ rfl) rfl rfl rfl (by simp; omega) (by have := H2.out.2.2.size; simp; omega) ?_; intro v' w3 row hown3 hg3 hrow3)
      go_roundw
      case rel =>
        refine ⟨j', xs ++ [p], rfl, hown3, by simp; omega, ?_, grown_new (grown_alloc H2.out.2.2 _) hg3 (fun k hk => (hrow3 k hk).1)⟩
        exact ((H2.out.2.1.alloc _).grown hg3 (fun k hk => by have := (hrow3 k hk).1; omega)).more (by simp; omega)
      case measure => simp [intOf]
    · have hj0' : j = 0 := by omega
      subst hj0'
      go_wp2_with fail
      refine (callOdd g _ _ _ HH.out.2.1 (by omega)).mono ?_
      rintro e w2 ⟨o1, rfl, hr2, hg2⟩
      have H2 := Lib.hid (And.intro (HH.out.1.kept hg2 (fun k hk => by cases hk; exact hgw)) (And.intro hr2 (grown_trans' HH.out.2.2 hg2)))
      clear hr2 hg2 HH
      cases o1
      · obtain ⟨A, c, hv, hlc, _⟩ := H2.out.1.form
        subst hv
        go_wp2_with fail
        go_ret
        exact ⟨A, c, xs, rfl, H2.out.1, hlc, by omega, H2.out.2.1.more (by omega), H2.out.2.2⟩
      · go_wp2_with (at_make; refine wpList_mkE (E := eInt) _ Try.underlying23 (z := .int .i64 0) (m := 8) (by kernel_rfl) (by decide) (0 : Int) rfl rfl _ _ rfl w.heap.size 61 61 61 rfl rfl rfl rfl (by decide) H2.out.2.2.size ?_; intro w4 hown4 hb4)
        go_ret
        exact ⟨_, _, List.replicate 61 (0 : Int), rfl, hown4, by simp, by simp, (H2.out.2.1.next hb4).more (by omega), grown_below H2.out.2.2 hb4⟩

/-- The reader, the result's box, and a cache in a box. -/
structure SC (w0 : World) (g M X : Nat) (A : Option Addr) (c : Nat) (h : List Int) (wx : World) : Prop where
  rdr : Rdr wx g M
  gr : w0.grownBy wx (some g)
  res : wx.heap[w0.heap.size]? = some (.cells #[.slice none 0 0] 25 (0, 0))
  box : wx.heap[X]? = some (.cells #[.slice A h.length c] 25 (0, 0))
  own : Own eInt 3 wx (w0.heap.size + 1) (.slice A h.length c) h
  hg : g < w0.heap.size
  hX : w0.heap.size < X
  hc : h.length ≤ c
theorem SC.step {w0 : World} {g M M' X : Nat} {A : Option Addr} {c : Nat} {h : List Int} {wx w' : World} (s : SC w0 g M X A c h wx) (hr : Rdr w' g M') (hg : wx.grownBy w' (some g)) : SC w0 g M' X A c h w' :=
  ⟨hr, grown_trans' s.gr hg, gblk hg s.res (by have := s.hg; simp; omega), gblk hg s.box (by have := s.hg; have := s.hX; simp; omega), s.own.kept hg (fun k hk => by cases hk; have := s.hg; omega), s.hg, s.hX, s.hc⟩
theorem SC.drew {w0 : World} {g M X : Nat} {A : Option Addr} {c : Nat} {h : List Int} {wx : World} (s : SC w0 g M X A c h wx) : SC w0 g M X A c h wx.drew :=
  ⟨s.rdr, ⟨s.gr.os, s.gr.tape, s.gr.output, s.gr.size, s.gr.block⟩, s.res, s.box, s.own, s.hg, s.hX, s.hc⟩
theorem SC.next {w0 : World} {g M X : Nat} {A : Option Addr} {c : Nat} {h : List Int} {wx w' : World} (s : SC w0 g M X A c h wx) (hb : Below wx.heap.size wx w') : SC w0 g M X A c h w' :=
  s.step (s.rdr.next hb) (grownBy_of_below hb _)
/-- Another cache is stored into the box. -/
theorem SC.put {w0 : World} {g M X : Nat} {A A' : Option Addr} {c c' : Nat} {h h' : List Int} {wx : World} (s : SC w0 g M X A c h wx) (ho : Own eInt 3 wx (w0.heap.size + 1) (.slice A' h'.length c') h') (hc' : h'.length ≤ c') : SC w0 g M X A' c' h' (wx.setCell ⟨X, 0, none⟩ (.slice A' h'.length c')) := by
  have hgX := s.hg
  have hX := s.hX
  exact ⟨s.rdr.setNew (by show g < X; omega) _, grown_setNew s.gr (p := ⟨X, 0, none⟩) (by show w0.heap.size ≤ X; omega) _, gblk (gset 0 _) s.res (by simp; omega), set1 s.box, ho.keptOther (gset 0 _) (fun k hk => by cases hk; exact .inr ⟨_, _, _, s.box, by decide⟩), s.hg, s.hX, hc'⟩

theorem SC.mk' {w0 : World} {g M X : Nat} {v0 : Value} {A' : Option Addr} {c' : Nat} {h' : List Int} {wx : World} (hr : Rdr wx g M) (gr : w0.grownBy wx (some g)) (res : wx.heap[w0.heap.size]? = some (.cells #[.slice none 0 0] 25 (0, 0))) (box : wx.heap[X]? = some (.cells #[v0] 25 (0, 0))) (ho : Own eInt 3 wx (w0.heap.size + 1) (.slice A' h'.length c') h') (hgX : g < w0.heap.size) (hX : w0.heap.size < X) (hc' : h'.length ≤ c') : SC w0 g M X A' c' h' (wx.setCell ⟨X, 0, none⟩ (.slice A' h'.length c')) :=
  ⟨hr.setNew (by show g < X; omega) _, grown_setNew gr (p := ⟨X, 0, none⟩) (by show w0.heap.size ≤ X; omega) _, gblk (gset 0 _) res (by simp; omega), set1 box, ho.keptOther (gset 0 _) (fun k hk => by cases hk; exact .inr ⟨_, _, _, box, by decide⟩), hgX, hX, hc'⟩

theorem SC.set0 {w0 : World} {g M X ga : Nat} {c : Nat} {h : List Int} {wx : World} (s : SC w0 g M X (some ⟨ga, 0, none⟩) c h wx) (hl : 0 < h.length) (x : Int) : SC w0 g M X (some ⟨ga, 0, none⟩) c (h.set 0 x) (wx.setCell ⟨ga, 0, none⟩ (.int .i64 x)) := by
  have hne : h ≠ [] := by intro e; simp [e] at hl
  obtain ⟨hb, cur, hcur⟩ := s.own.blk hne
  have hgg := s.hg
  have hX : X ≠ ga := fun e => by
    subst e
    have hq := s.box
    rw [hcur] at hq
    injection hq with hq
    injection hq with _ hq
    exact absurd hq (by decide)
  refine ⟨s.rdr.setNew (by show g < ga; omega) _, grown_setNew s.gr (p := ⟨ga, 0, none⟩) (by show w0.heap.size ≤ ga; omega) _, gblk (gset 0 _) s.res (by simp; omega), ?_, ?_, s.hg, s.hX, by rw [List.length_set]; exact s.hc⟩
  · rw [List.length_set]
    exact gblk (gset 0 _) s.box (by simp; exact hX)
  · have := s.own.set (E := eInt) (i := 0) (j := 0) (x := h[0]) (y := x) (u := .int .i64 x) (List.getElem?_eq_getElem hl) (by decide) rfl
    rw [List.length_set]
    simpa using this
theorem litq {q : Int} (h0 : 0 ≤ q) (h1 : q < 2) (a b : Int) : ∃ (kk : Nat) (x : Int), q = (kk : Int) ∧ kk < 2 ∧ (#[Value.int .i64 a, Value.int .i64 b] : Array Value)[kk]? = some (.int .i64 x) := by
  have : q = 0 ∨ q = 1 := by omega
  rcases this with rfl | rfl
  · exact ⟨0, a, rfl, by omega, rfl⟩
  · exact ⟨1, b, rfl, by omega, rfl⟩

set_option maxRecDepth 100000 in
set_option maxHeartbeats 1600000 in
theorem callDrawCache (g M : Nat) (n : Int) (w : World) (hr : Rdr w g M) (hM : M ≤ 800000) :
    Calls Try.prog 55 #[.pointer (some ⟨g, 0, none⟩), .int .i64 n] w fun e w' =>
      ∃ A c h, e = .returned (.agg #[.slice A (h : List Int).length c]) ∧ Own eInt 3 w' w.heap.size (.slice A h.length c) h ∧ h.length ≤ c ∧ h.length ≤ 20 ∧ Rdr w' g (M + 20) ∧ w.grownBy w' (some g) := by
  have hgw := hr.lt
  have HR := Lib.hid hr
  clear hr
  go_enter Try.func55, Try.ntmps55
  go_wp2_with fail
  refine (callPick g M _ _ (HR.out.alloc _) (by omega)).mono ?_
  rintro e w1 ⟨k1, rfl, a1, a2, _, hr1, hg1⟩
  obtain ⟨r, rfl⟩ := Int.eq_ofNat_of_zero_le a1
  have hr4 : r < 4 := by omega
  have hN : ∃ n : Nat, wrap64 ((2 : Int) ^ r) = (n : Int) ∧ lnB (n : Int) = true := by
    have : r = 0 ∨ r = 1 ∨ r = 2 ∨ r = 3 := by omega
    rcases this with rfl | rfl | rfl | rfl
    · exact ⟨1, by decide +kernel, rfl⟩
    · exact ⟨2, by decide +kernel, rfl⟩
    · exact ⟨4, by decide +kernel, rfl⟩
    · exact ⟨8, by decide +kernel, rfl⟩
  obtain ⟨m, hsh, hln⟩ := hN
  have HE0 : Hid (cacheOk (emptyC (m : Int)) = true) := emptyC_ok hln
  have HK1 : Hid (w1.heap[w.heap.size]? = some (.cells #[.slice none 0 0] 25 (0, 0))) := gblk hg1 (heap_alloc_new w _) (by simp; omega)
  have H1 := Lib.hid (And.intro hr1 (grown_trans' (grown_alloc (World.grownBy.refl w _) _) hg1))
  clear hr1 hg1 a1 a2 hln
  go_wp2_with fail
  refine (callSEmptyCache (m : Int) _).mono ?_
  rintro e w2 ⟨A2, c2, rfl, hown2, hc2, hb2⟩
  have hs1 : w.heap.size < w1.heap.size := (cell1 HK1.out).2.2
  obtain ⟨e0, he0⟩ : ∃ e0, e0 = emptyC (m : Int) := ⟨_, rfl⟩
  rw [← he0] at HE0 hown2 hc2 ⊢
  have S2 : Hid (SC w g (M + 1) w2.heap.size A2 c2 e0 (w2.alloc (.cells #[.slice A2 e0.length c2] 25))) :=
    ⟨(H1.out.1.next hb2).alloc _, grown_alloc (grown_below H1.out.2 hb2) _, blkc (blkc HK1.out hb2) (below1 _ _), heap_alloc_new w2 _, (hown2.more (by omega)).alloc _, hgw, by have := hb2.size; omega, hc2⟩
  clear hown2 hc2 hb2 he0 H1 HK1
  go_wp2_with fail
  refine (callPick g _ _ _ S2.out.rdr (by omega)).mono ?_
  rintro e w3 ⟨k2, rfl, b1, b2, _, hr3, hg3⟩
  obtain ⟨j0, rfl⟩ := Int.eq_ofNat_of_zero_le b1
  have hj0 : j0 ≤ 8 := by omega
  have S3 := Lib.hid (S2.out.step hr3 hg3)
  obtain ⟨X, hX⟩ : ∃ X, X = w2.heap.size := ⟨_, rfl⟩
  rw [← hX] at S3 ⊢
  clear hr3 hg3 b1 b2 S2 hX
  go_wp2_with fail
  go_loopw [6] (fun i wr => ∃ (j : Nat) (A : Option Addr) (c : Nat) (h : List Int), i = .int .i64 j ∧ j ≤ j0 ∧ SC w g (M + 2 + (j0 - j)) X A c h wr ∧ Hid (cacheOk h = true)) (fun i _ => (intOf i).toNat)
  case atStart => exact ⟨j0, A2, c2, e0, rfl, by omega, by simpa using S3.out, HE0.out⟩
  case round =>
    obtain ⟨j, A, c, h, rfl, hjj, hsc, hok⟩ := hrel
    have SR := Lib.hid hsc
    clear hsc S3
    obtain ⟨x1, x2, x3⟩ := cell1 SR.out.box
    have hl := cacheOk_len hok.out
    by_cases hj : 0 < j
    · obtain ⟨j', rfl⟩ : ∃ j', j = j' + 1 := ⟨j - 1, by omega⟩
      go_wp2_with fail
      go_region_with (first
          | (go_at_call 45; refine (callPick g _ _ _ SR.out.drew.rdr (by omega)).mono ?_; rintro e w4 ⟨k, rfl, d1, d2, _, hr4, hg4⟩; have S4 := Lib.hid (SR.out.drew.step hr4 hg4); have hk4 : k < 256 := (by omega); have hw8 : IntKind.i64.wrap (k * 8) = k * 8 := (by rw [IntKind.wrap_i64]; omega); have n1 := (cell1 S4.out.box).1)
          | (go_at_call 24; refine (callSTouchCache A c h (k * 8) _ w4.heap.size (Nat.le_refl _) (by omega) S4.out.own.rd).mono ?_; rintro e w5 ⟨A5, c5, rfl, hown5, hc5, hb5⟩; have S5 := Lib.hid (S4.out.next hb5); have hO5 := Lib.hid (hown5.more (base' := w.heap.size + 1) (by have := (cell1 S4.out.box).2.2; have := S4.out.hX; omega)); obtain ⟨y1, y2, y3⟩ := cell1 S5.out.box))
      all_goals
        have hpk : plOk (k * 8) = true := plOk_iff.2 (by omega)
        have htc : tcNew h (k * 8) = tNew h (k * 8) := by unfold tcNew tcOk; rw [hok.out, hpk]; rfl
        have hk9 : Hid (cacheOk (tcNew h (k * 8)) = true) := by show _ = _; rw [htc]; exact cacheOk_new hok.out hpk
        have S6 := Lib.hid (S5.out.put hO5.out hc5)
        clear htc hpk
        go_wp2_with fail
        go_roundw
        case rel => exact ⟨j', A5, c5, tcNew h (k * 8), rfl, by omega, by (have := S6.out; exact ⟨this.rdr.more (by omega), this.gr, this.res, this.box, this.own, this.hg, this.hX, this.hc⟩), hk9.out⟩
        case measure => simp [intOf]
    · have hj0' : j = 0 := by omega
      subst hj0'
      clear x1 x2 x3
      go_wp2_with fail
      refine (callOdd g _ _ _ SR.out.rdr (by omega)).mono ?_
      rintro e w4 ⟨o1, rfl, hr4, hg4⟩
      have S4 := Lib.hid (SR.out.step hr4 hg4)
      clear hr4 hg4 SR
      cases o1
      · obtain ⟨k1, k2, k3⟩ := cell1 S4.out.res
        obtain ⟨x1, x2, x3⟩ := cell1 S4.out.box
        have HRS := Lib.hid (res1 S4.out.res (.slice A h.length c))
        go_wp2_with fail
        refine bodyPost_ret (v := .agg #[.slice A h.length c]) (by simp [results, Try.results55, go_sem, HRS.out]) rfl ⟨A, c, h, rfl, ?_, S4.out.hc, by omega, ?_, ?_⟩
        · exact (S4.out.own.kept (gset 0 _) (fun k hk => by cases hk; omega)).more (by omega)
        · exact (S4.out.rdr.setNew (by show g < w.heap.size; exact hgw) _).more (by omega)
        · exact grown_setNew S4.out.gr (p := ⟨w.heap.size, 0, none⟩) (by show w.heap.size ≤ w.heap.size; omega) _
      · go_wp2_with fail
        refine (callPick g _ _ _ S4.out.rdr (by omega)).mono ?_
        rintro e w5 ⟨k, rfl, d1, d2, _, hr5, hg5⟩
        have hk3 : k < 3 := by omega
        have S5 := Lib.hid (S4.out.step hr5 hg5)
        clear hr5 hg5 S4 d2
        obtain ⟨x1, x2, x3⟩ := cell1 S5.out.box
        have hgX := S5.out.hX
        by_cases hk0 : k = 0
        · subst hk0
          have HO6 := Lib.hid (S5.out.next (below1 w5 (.cells #[.int .i64 (-1), .int .i64 (-1)] 3)))
          obtain ⟨h2, hh2⟩ : ∃ h2, h2 = h ++ [-1, -1] := ⟨_, rfl⟩
          have hl2 : h2.length = h.length + 2 := by rw [hh2]; simp
          have hl2' : h2.length ≤ 18 := by omega
          have HH2 := Lib.hid hh2
          clear hh2 hl2
          go_wp2_with (at_builtin; refine wpList_app _ eiInt rfl (.tmp 34) (.tmp 35) rfl (w.heap.size + 1) HO6.out.own (Rd.new (xs := [(-1 : Int), (-1 : Int)]) _ _ _ rfl) rfl rfl rfl (by simp; omega) (by have := S5.out.gr.size; have := (cell1 S5.out.res).2.2; simp; omega) ?_; intro v' w6 row hown6' hg6 hrow6; have hown6 : Own eInt 3 w6 (w.heap.size + 1) v' h2 := (by rw [HH2.out]; exact hown6'); obtain ⟨A6, c6, hv6, hc6, _⟩ := hown6.form; subst hv6; have hbx := gblk hg6 HO6.out.box (fun e => by obtain ⟨cur, hcur⟩ := (hrow6 _ e.symm).2.2; have hq := HO6.out.box; rw [hcur] at hq; injection hq with hq; injection hq with _ hq; exact absurd hq (by decide)); have S6 := Lib.hid (SC.mk' (HO6.out.rdr.grown hg6 (fun k hk => by have := (hrow6 k hk).1; omega)) (grown_new HO6.out.gr hg6 (fun k hk => by have := (hrow6 k hk).1; omega)) (gblk hg6 HO6.out.res (fun e => by have := (hrow6 _ e.symm).1; omega)) hbx hown6 hgw hgX hc6); clear x1 x2 x3; obtain ⟨x1, x2, x3⟩ := cell1 hbx; obtain ⟨k1, k2, k3⟩ := cell1 S6.out.res; obtain ⟨z1, z2, z3⟩ := cell1 S6.out.box; have HRS := Lib.hid (res1 S6.out.res (.slice A6 h2.length c6)); clear hown6 hown6' hg6 hrow6 hbx)
          refine bodyPost_ret (v := .agg #[.slice A6 h2.length c6]) (by simp [results, Try.results55, go_sem, HRS.out]) rfl ⟨A6, c6, h2, rfl, ?_, S6.out.hc, by omega, ?_, ?_⟩
          · exact (S6.out.own.kept (gset 0 _) (fun k hk => by cases hk; omega)).more (by omega)
          · exact (S6.out.rdr.setNew (by show g < w.heap.size; exact hgw) _).more (by omega)
          · exact grown_setNew S6.out.gr (p := ⟨w.heap.size, 0, none⟩) (by show w.heap.size ≤ w.heap.size; omega) _
        · have hk0' : (k == 0) = false := by rw [beq_eq_false_iff_ne]; exact hk0
          by_cases hk1 : k = 1
          · subst hk1
            have hne : h ≠ [] := by intro e; simp [e] at hl
            obtain ⟨A', c', hv, _, hf⟩ := S5.out.own.form
            injection hv with hA _ hcc
            subst hA
            subst hcc
            obtain ⟨ga, rfl, hga1, hga2⟩ := hf hne
            clear hf
            go_upto_region 12 with (fail)
            go_region_with (go_at_call 45; refine (callPick g _ _ _ (by first | exact S5.out.drew.rdr | exact (S5.out.next (below1 w5 _)).drew.rdr) (by omega)).mono ?_; rintro e w6 ⟨q, rfl, d3, d4, _, hr6, hg6⟩; (first | (have S6 := Lib.hid (S5.out.drew.step hr6 hg6)) | (have S6 := Lib.hid ((S5.out.next (below1 w5 (.cells #[.int .i64 (-2), .int .i64 256] 3))).drew.step hr6 hg6))); obtain ⟨kk, x, rfl, hkk, hx⟩ := litq d3 (by omega) (-2) 256; have hkk0 : (0 : Int) ≤ (kk : Int) := (by omega); have hkk1 : (kk : Int) < 2 := (by omega); have n1 := (cell1 S6.out.box).1; have S7 := Lib.hid (S6.out.next (below1 w6 (.cells #[.int .i64 (-2), .int .i64 256] 3))); have n2 := (cell1 S7.out.box).1; have f1 := S6.out.own.frozen (o := 0) hne; have f2 := S7.out.own.frozen (o := 0) hne; obtain ⟨_, _, hAA, _, e1⟩ := S6.out.own.rd.at1 (k := 0) rfl (by omega) rfl; simp only [Option.some.injEq, Addr.mk.injEq, and_true, Nat.add_zero] at hAA e1; obtain ⟨rfl, rfl⟩ := hAA; obtain ⟨_, _, hAA, _, e2⟩ := S7.out.own.rd.at1 (k := 0) rfl (by omega) rfl; simp only [Option.some.injEq, Addr.mk.injEq, and_true, Nat.add_zero] at hAA e2; obtain ⟨rfl, rfl⟩ := hAA; have hl1 : ∀ W : World, (W.alloc (.cells #[.int .i64 (-2), .int .i64 256] 3)).cell? ⟨W.heap.size, kk, none⟩ = some (.int .i64 x) := (fun W => by rw [World.cell?_alloc_new]; exact hx); (first | (have hl2 : w6.cell? ⟨w5.heap.size, kk, none⟩ = some (.int .i64 x) := (by rw [cell_of_row w6 w5.heap.size kk _ _ _ (gblk hg6 (show (w5.alloc (.cells #[.int .i64 (-2), .int .i64 256] 3)).drew.heap[w5.heap.size]? = some (.cells #[.int .i64 (-2), .int .i64 256] 3) from heap_alloc_new w5 _) (by simp; omega))]; exact hx)) | skip))
            all_goals
              first
              | (have S8 := Lib.hid (S6.out.set0 (by omega) x)
                 have hl8 : (h.set 0 x).length = h.length := List.length_set
                 have hb8 := S8.out.box
                 rw [hl8] at hb8
                 obtain ⟨k1, k2, k3⟩ := cell1 S8.out.res
                 obtain ⟨z1, z2, z3⟩ := cell1 hb8
                 have HRS := Lib.hid (res1 S8.out.res (.slice (some ⟨ga, 0, none⟩) h.length c))
                 have HL8 := Lib.hid hl8
                 clear hb8 hl8
                 go_wp2_with fail
                 refine bodyPost_ret (v := .agg #[.slice (some ⟨ga, 0, none⟩) h.length c]) (by simp [results, Try.results55, go_sem, HRS.out]) rfl ⟨some ⟨ga, 0, none⟩, c, h.set 0 x, by rw [HL8.out], ?_, S8.out.hc, by rw [HL8.out]; omega, ?_, ?_⟩
                 · exact (S8.out.own.kept (gset 0 _) (fun k hk => by cases hk; omega)).more (by omega)
                 · exact (S8.out.rdr.setNew (by show g < w.heap.size; exact hgw) _).more (by omega)
                 · exact grown_setNew S8.out.gr (p := ⟨w.heap.size, 0, none⟩) (by show w.heap.size ≤ w.heap.size; omega) _)
              | (have S8 := Lib.hid ((S6.out.set0 (by omega) x).next (below1 _ (.cells #[.int .i64 (-2), .int .i64 256] 3)))
                 have hl8 : (h.set 0 x).length = h.length := List.length_set
                 have hb8 := S8.out.box
                 rw [hl8] at hb8
                 obtain ⟨k1, k2, k3⟩ := cell1 S8.out.res
                 obtain ⟨z1, z2, z3⟩ := cell1 hb8
                 have HRS := Lib.hid (res1 S8.out.res (.slice (some ⟨ga, 0, none⟩) h.length c))
                 have HL8 := Lib.hid hl8
                 clear hb8 hl8
                 go_wp2_with fail
                 refine bodyPost_ret (v := .agg #[.slice (some ⟨ga, 0, none⟩) h.length c]) (by simp [results, Try.results55, go_sem, HRS.out]) rfl ⟨some ⟨ga, 0, none⟩, c, h.set 0 x, by rw [HL8.out], ?_, S8.out.hc, by rw [HL8.out]; omega, ?_, ?_⟩
                 · exact (S8.out.own.kept (gset 0 _) (fun k hk => by cases hk; omega)).more (by omega)
                 · exact (S8.out.rdr.setNew (by show g < w.heap.size; exact hgw) _).more (by omega)
                 · exact grown_setNew S8.out.gr (p := ⟨w.heap.size, 0, none⟩) (by show w.heap.size ≤ w.heap.size; omega) _)
          · have hk1' : (k == 1) = false := by rw [beq_eq_false_iff_ne]; exact hk1
            have S6 : Hid (SC w g (M + 2 + (j0 - 0) + 1 + 1) X none 0 [] (w5.setCell ⟨X, 0, none⟩ (.slice none 0 0))) := S5.out.put (A' := none) (c' := 0) (h' := []) Own.none_ (Nat.le_refl _)
            obtain ⟨k1, k2, k3⟩ := cell1 S6.out.res
            obtain ⟨z1, z2, z3⟩ := cell1 S6.out.box
            have HRS := Lib.hid (res1 S6.out.res (.slice none 0 0))
            simp only [List.length_nil] at k1 k2 z1 z2
            go_wp2_with fail
            refine bodyPost_ret (v := .agg #[.slice none 0 0]) (by simp [results, Try.results55, go_sem, HRS.out]) rfl ⟨none, 0, [], rfl, ?_, S6.out.hc, by simp, ?_, ?_⟩
            · exact (S6.out.own.kept (gset 0 _) (fun k hk => by cases hk; omega)).more (by omega)
            · exact (S6.out.rdr.setNew (by show g < w.heap.size; exact hgw) _).more (by omega)
            · exact grown_setNew S6.out.gr (p := ⟨w.heap.size, 0, none⟩) (by show w.heap.size ≤ w.heap.size; omega) _
end Go.Proofs.Ytlkdngjpbohgaaa
