/- What the drawing functions DrawModeTick, DrawAskMode and DrawEndFrame leave. -/
import Derived.Test.YtapkgncmjinedaaMdw
namespace Go.Proofs.Ytapkgncmjinedaa
open Go.RowKit Go.Sort

/-- Each frame has room for its slots. -/
def CapT (ts : List Tab) : Prop := ∀ t, t ∈ ts → t.slots.length ≤ t.c ∧ t.slots.length ≤ 20
theorem OwnT.cap {w : World} {base n c : Nat} {A : Option Addr} {ts : List Tab} (h : OwnT w base (.slice A n c) ts) : CapT ts := fun t ht => by
  obtain ⟨A', c', hv, hc, _⟩ := (h.2 t ht).1.form
  injection hv with _ _ hv
  subst hv
  exact ⟨hc, (h.2 t ht).2⟩
theorem OwnT.len {w : World} {base n c : Nat} {A : Option Addr} {ts : List Tab} (h : OwnT w base (.slice A n c) ts) : ts.length ≤ c := by
  obtain ⟨A', c', hv, hc, _⟩ := h.1.form
  injection hv with _ _ hv
  subst hv
  exact hc
/-- The box of the result at the end of the old memory, the reader, and the box of the modes. -/
structure DM (w : World) (g M X B : Nat) (A : Option Addr) (c : Nat) (ts : List Tab) (now next : Int) (wx : World) : Prop where
  rdr : Rdr wx g M
  bel : Below w.heap.size w wx
  res : wx.heap[w.heap.size]? = some (.cells #[.slice none 0 0, .int .i64 0, .int .i64 0] 25 (0, 0))
  box : wx.heap[X]? = some (.cells #[.slice A ts.length c, .int .i64 now, .int .i64 next] 25 (0, 0))
  own : OwnT wx B (.slice A ts.length c) ts
  hg : w.heap.size < g
  hB : g < B
  hX : g < X
section
variable {w wx w' : World} {g M M' X B : Nat} {A : Option Addr} {c : Nat} {ts : List Tab} {now next : Int}
theorem DM.step (s : DM w g M X B A c ts now next wx) (hr : Rdr w' g M') (hg : wx.grownBy w' (some g)) : DM w g M' X B A c ts now next w' := by
  have h1 := s.hg
  have h2 := s.hX
  have h3 := s.rdr.lt
  exact ⟨hr, s.bel.grown hg (by omega) (fun k hk => by cases hk; omega), gblk hg s.res (by simp; omega), gblk hg s.box (by simp; omega), s.own.pick hg s.hB, h1, s.hB, h2⟩
theorem DM.drew (s : DM w g M X B A c ts now next wx) : DM w g M X B A c ts now next wx.drew := ⟨s.rdr, below_drew s.bel, s.res, s.box, s.own, s.hg, s.hB, s.hX⟩
theorem DM.fin (s : DM w g M X B A c ts now next wx) : OwnT (((wx.setCell ⟨w.heap.size, 0, none⟩ (.slice A ts.length c)).setCell ⟨w.heap.size, 1, none⟩ (.int .i64 now)).setCell ⟨w.heap.size, 2, none⟩ (.int .i64 next)) B (.slice A ts.length c) ts ∧ Below w.heap.size w (((wx.setCell ⟨w.heap.size, 0, none⟩ (.slice A ts.length c)).setCell ⟨w.heap.size, 1, none⟩ (.int .i64 now)).setCell ⟨w.heap.size, 2, none⟩ (.int .i64 next)) :=
  ⟨modes3 s.res _ _ _ s.own, bset3 s.bel (Nat.le_refl _) _ _ _⟩
end
set_option maxRecDepth 100000 in
set_option maxHeartbeats 3200000 in
theorem callDrawModeTick (A : Option Addr) (c : Nat) (bs : List Int) (w : World) (hc : bs.length ≤ c) (hm : bs.length ≤ 1048576) (hr : Rd eU8 w w.heap.size A bs) (hby : ∀ x ∈ bs, 0 ≤ x ∧ x ≤ 255) :
    Calls Try.prog 41 #[.slice A bs.length c] w fun e w' =>
      ∃ A c ts now next p t, e = .returned (.tuple #[.agg #[.slice A (ts : List Tab).length c, .int .i64 now, .int .i64 next], .int .i64 p, .int .i64 t]) ∧ RdT w' w'.heap.size A ts ∧ CapT ts ∧ ts.length ≤ c ∧ ts.length ≤ 4 ∧ 1 ≤ p ∧ p ≤ 3 ∧ -10 ≤ now ∧ now ≤ 10 ∧ -10 ≤ next ∧ next ≤ 10 ∧ -1 ≤ t ∧ t ≤ 28 ∧ Below w.heap.size w w' := by
  have HZ := Lib.hid (heap_alloc_new w (.cells #[.slice none 0 0, .int .i64 0, .int .i64 0] 25))
  go_enter Try.func41, Try.ntmps41
  go_wp2_with fail
  refine (callOpen A c bs _ hc hm (hr.alloc _) hby).mono ?_
  rintro e w1 ⟨rfl, hr1, hb1⟩
  have hr1' : Rdr w1 (w.heap.size + 1) 0 := by simpa using hr1
  have HB := Lib.hid (bel_trans (below1 _ _) hb1)
  have HZ1 := Lib.hid (blkc HZ.out hb1)
  have HR := Lib.hid hr1'
  have hs0 : w.heap.size + 1 < w1.heap.size := hr1'.lt
  clear hr1 hr1' hb1 hr HZ
  simp only [World.size_alloc]
  go_wp2_with fail
  refine (callDrawModes (w.heap.size + 1) 0 12 w1 HR.out (by omega)).mono ?_
  rintro e w2 ⟨Am, cm, ts, now, next, p, rfl, ho, hl4, hp1, hp2, hn1, hn2, hn3, hn4, hr2, hg2⟩
  have hs2 : w1.heap.size ≤ w2.heap.size := hg2.size
  have S2 : Hid (DM w (w.heap.size + 1) 200 w2.heap.size w1.heap.size Am cm ts now next (w2.alloc (.cells #[.slice Am ts.length cm, .int .i64 now, .int .i64 next] 25))) :=
    ⟨(hr2.alloc _).more (by omega), (HB.out.grown hg2 (by omega) (fun k hk => by cases hk; omega)).alloc (by omega) _, blkc (gblk hg2 HZ1.out (by simp)) (below1 w2 _), heap_alloc_new w2 _, ho.alloc _, by omega, hs0, by omega⟩
  clear ho hr2 hg2 HR HB HZ1
  go_upto_region 3 with (fail)
  obtain ⟨X, hX⟩ : ∃ X, X = w2.heap.size := ⟨_, rfl⟩
  obtain ⟨u, hu⟩ : ∃ u, u = w2.alloc (.cells #[.slice Am ts.length cm, .int .i64 now, .int .i64 next] 25) := ⟨_, rfl⟩
  rw [← hX] at S2 ⊢
  rw [← hu] at S2 ⊢
  clear hu hX hs2
  obtain ⟨x0, x1, x2, _, _, _, x6⟩ := cell3 S2.out.box
  have hM : 200 ≤ 1000000 := by omega
  go_region_law (go_simp; go_at_call 53; (refine (callPick _ _ _ _ S2.out.drew.rdr hM).mono ?_); rintro e w6 ⟨q, rfl, e1, e2, _, hr6, hg6⟩; have hq : q < 30 := e2 (by omega); have S6 := Lib.hid (S2.out.drew.step hr6 hg6); clear hr6 hg6 e2; obtain ⟨m0, m1, m2, _, _, _, m6⟩ := cell3 S6.out.box; obtain ⟨r0, r1, r2, r3, r4, r5, r6⟩ := cell3 S6.out.res; have HF := Lib.hid S6.out.fin; obtain ⟨f0, f1, f2⟩ := res3 S6.out.res (.slice Am ts.length cm) (.int .i64 now) (.int .i64 next))
  all_goals
    have hwq : IntKind.i64.wrap (q - 1) = q - 1 := IntWalk.i64_in _ (by omega)
    go_wp2_with fail
    exact bodyPost_ret (v := .tuple #[.agg #[.slice Am ts.length cm, .int .i64 now, .int .i64 next], .int .i64 p, .int .i64 (q - 1)]) (by simp [results, Try.results41, go_sem, f0, f1, f2, hwq]) rfl ⟨Am, cm, ts, now, next, p, q - 1, rfl, HF.out.1.rd, HF.out.1.cap, HF.out.1.len, hl4, hp1, hp2, hn1, hn2, hn3, hn4, by omega, by omega, HF.out.2⟩
set_option maxRecDepth 100000 in
set_option maxHeartbeats 3200000 in
theorem callDrawAskMode (A : Option Addr) (c : Nat) (bs : List Int) (w : World) (hc : bs.length ≤ c) (hm : bs.length ≤ 1048576) (hr : Rd eU8 w w.heap.size A bs) (hby : ∀ x ∈ bs, 0 ≤ x ∧ x ≤ 255) :
    Calls Try.prog 38 #[.slice A bs.length c] w fun e w' =>
      ∃ A c ts now next p t, e = .returned (.tuple #[.agg #[.slice A (ts : List Tab).length c, .int .i64 now, .int .i64 next], .int .i64 p, .int .i64 t]) ∧ RdT w' w'.heap.size A ts ∧ CapT ts ∧ ts.length ≤ c ∧ ts.length ≤ 4 ∧ 1 ≤ p ∧ p ≤ 3 ∧ -10 ≤ now ∧ now ≤ 10 ∧ -10 ≤ next ∧ next ≤ 10 ∧ -1 ≤ t ∧ t ≤ 3 ∧ Below w.heap.size w w' := by
  have HZ := Lib.hid (heap_alloc_new w (.cells #[.slice none 0 0, .int .i64 0, .int .i64 0] 25))
  go_enter Try.func38, Try.ntmps38
  go_wp2_with fail
  refine (callOpen A c bs _ hc hm (hr.alloc _) hby).mono ?_
  rintro e w1 ⟨rfl, hr1, hb1⟩
  have hr1' : Rdr w1 (w.heap.size + 1) 0 := by simpa using hr1
  have HB := Lib.hid (bel_trans (below1 _ _) hb1)
  have HZ1 := Lib.hid (blkc HZ.out hb1)
  have HR := Lib.hid hr1'
  have hs0 : w.heap.size + 1 < w1.heap.size := hr1'.lt
  clear hr1 hr1' hb1 hr HZ
  simp only [World.size_alloc]
  go_wp2_with fail
  refine (callDrawModes (w.heap.size + 1) 0 12 w1 HR.out (by omega)).mono ?_
  rintro e w2 ⟨Am, cm, ts, now, next, p, rfl, ho, hl4, hp1, hp2, hn1, hn2, hn3, hn4, hr2, hg2⟩
  have hs2 : w1.heap.size ≤ w2.heap.size := hg2.size
  have S2 : Hid (DM w (w.heap.size + 1) 200 w2.heap.size w1.heap.size Am cm ts now next (w2.alloc (.cells #[.slice Am ts.length cm, .int .i64 now, .int .i64 next] 25))) :=
    ⟨(hr2.alloc _).more (by omega), (HB.out.grown hg2 (by omega) (fun k hk => by cases hk; omega)).alloc (by omega) _, blkc (gblk hg2 HZ1.out (by simp)) (below1 w2 _), heap_alloc_new w2 _, ho.alloc _, by omega, hs0, by omega⟩
  clear ho hr2 hg2 HR HB HZ1
  go_upto_region 3 with (fail)
  obtain ⟨X, hX⟩ : ∃ X, X = w2.heap.size := ⟨_, rfl⟩
  obtain ⟨u, hu⟩ : ∃ u, u = w2.alloc (.cells #[.slice Am ts.length cm, .int .i64 now, .int .i64 next] 25) := ⟨_, rfl⟩
  rw [← hX] at S2 ⊢
  rw [← hu] at S2 ⊢
  clear hu hX hs2
  obtain ⟨x0, x1, x2, _, _, _, x6⟩ := cell3 S2.out.box
  have hM : 200 ≤ 1000000 := by omega
  go_region_law (go_simp; go_at_call 53; (refine (callPick _ _ _ _ S2.out.drew.rdr hM).mono ?_); rintro e w6 ⟨q, rfl, e1, e2, _, hr6, hg6⟩; have hq : q < 5 := e2 (by omega); have S6 := Lib.hid (S2.out.drew.step hr6 hg6); clear hr6 hg6 e2; obtain ⟨m0, m1, m2, _, _, _, m6⟩ := cell3 S6.out.box; obtain ⟨r0, r1, r2, r3, r4, r5, r6⟩ := cell3 S6.out.res; have HF := Lib.hid S6.out.fin; obtain ⟨f0, f1, f2⟩ := res3 S6.out.res (.slice Am ts.length cm) (.int .i64 now) (.int .i64 next))
  all_goals
    have hwq : IntKind.i64.wrap (q - 1) = q - 1 := IntWalk.i64_in _ (by omega)
    go_wp2_with fail
    exact bodyPost_ret (v := .tuple #[.agg #[.slice Am ts.length cm, .int .i64 now, .int .i64 next], .int .i64 p, .int .i64 (q - 1)]) (by simp [results, Try.results38, go_sem, f0, f1, f2, hwq]) rfl ⟨Am, cm, ts, now, next, p, q - 1, rfl, HF.out.1.rd, HF.out.1.cap, HF.out.1.len, hl4, hp1, hp2, hn1, hn2, hn3, hn4, by omega, by omega, HF.out.2⟩
set_option maxRecDepth 100000 in
set_option maxHeartbeats 3200000 in
theorem callDrawEndFrame (A : Option Addr) (c : Nat) (bs : List Int) (w : World) (hc : bs.length ≤ c) (hm : bs.length ≤ 1048576) (hr : Rd eU8 w w.heap.size A bs) (hby : ∀ x ∈ bs, 0 ≤ x ∧ x ≤ 255) :
    Calls Try.prog 30 #[.slice A bs.length c] w fun e w' =>
      ∃ A c ts now next p, e = .returned (.tuple #[.agg #[.slice A (ts : List Tab).length c, .int .i64 now, .int .i64 next], .int .i64 p]) ∧ RdT w' w'.heap.size A ts ∧ CapT ts ∧ ts.length ≤ c ∧ ts.length ≤ 4 ∧ 1 ≤ p ∧ p ≤ 3 ∧ -10 ≤ now ∧ now ≤ 10 ∧ -10 ≤ next ∧ next ≤ 10 ∧ Below w.heap.size w w' := by
  have HZ := Lib.hid (heap_alloc_new w (.cells #[.slice none 0 0, .int .i64 0, .int .i64 0] 25))
  go_enter Try.func30, Try.ntmps30
  go_wp2_with fail
  refine (callOpen A c bs _ hc hm (hr.alloc _) hby).mono ?_
  rintro e w1 ⟨rfl, hr1, hb1⟩
  have hr1' : Rdr w1 (w.heap.size + 1) 0 := by simpa using hr1
  have HB := Lib.hid (bel_trans (below1 _ _) hb1)
  have HZ1 := Lib.hid (blkc HZ.out hb1)
  have HR := Lib.hid hr1'
  have hs0 : w.heap.size + 1 < w1.heap.size := hr1'.lt
  clear hr1 hr1' hb1 hr HZ
  simp only [World.size_alloc]
  go_wp2_with fail
  refine (callDrawModes (w.heap.size + 1) 0 9 w1 HR.out (by omega)).mono ?_
  rintro e w2 ⟨Am, cm, ts, now, next, p, rfl, ho, hl4, hp1, hp2, hn1, hn2, hn3, hn4, hr2, hg2⟩
  have hz2 := gblk hg2 HZ1.out (by simp)
  have HF := Lib.hid (modes3 hz2 (.slice Am ts.length cm) (.int .i64 now) (.int .i64 next) ho)
  have HBF := Lib.hid (bset3 (HB.out.grown hg2 (by omega) (fun k hk => by cases hk; omega)) (Nat.le_refl w.heap.size) (.slice Am ts.length cm) (.int .i64 now) (.int .i64 next))
  obtain ⟨r0, r1, r2, r3, r4, r5, r6⟩ := cell3 hz2
  obtain ⟨f0, f1, f2⟩ := res3 hz2 (.slice Am ts.length cm) (.int .i64 now) (.int .i64 next)
  clear ho hr2 hg2 hz2 HR HB HZ1
  go_wp2_with fail
  exact bodyPost_ret (v := .tuple #[.agg #[.slice Am ts.length cm, .int .i64 now, .int .i64 next], .int .i64 p]) (by simp [results, Try.results30, go_sem, f0, f1, f2]) rfl ⟨Am, cm, ts, now, next, p, rfl, HF.out.rd, HF.out.cap, HF.out.len, hl4, hp1, hp2, hn1, hn2, hn3, hn4, HBF.out⟩
end Go.Proofs.Ytapkgncmjinedaa
