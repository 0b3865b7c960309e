/- What the drawing functions of the laws on logs leave; and when two logs are the same. -/
import Derived.Test.YtapkgncmjinedaaAdr
import Derived.Test.YtapkgncmjinedaaSam
namespace Go.Proofs.Ytapkgncmjinedaa
open Go.RowKit Go.Sort

theorem xor_one {n : Int} (h0 : -100 ≤ n) (h1 : n ≤ 300) : bits BinOp.xor IntKind.i64 n 1 = n + 1 ∨ bits BinOp.xor IntKind.i64 n 1 = n - 1 := by
  have H : ∀ k : Fin 401, bits BinOp.xor IntKind.i64 ((k.val : Int) - 100) 1 = ((k.val : Int) - 100) + 1 ∨ bits BinOp.xor IntKind.i64 ((k.val : Int) - 100) 1 = ((k.val : Int) - 100) - 1 := by decide +kernel
  have h := H ⟨(n + 100).toNat, by omega⟩
  rw [show ((((n + 100).toNat : Nat) : Int) - 100) = n by omega] at h
  exact h
set_option maxRecDepth 100000 in
set_option maxHeartbeats 1600000 in
theorem callSameAudit (A A' : Option Addr) (c c' : Nat) (key sum key' sum' : Int) (es es' : List Int) (w : World) (hm : es.length ≤ 1048576) (hm' : es'.length ≤ 1048576) (h1 : Rd eInt w w.heap.size A es) (h2 : Rd eInt w w.heap.size A' es') :
    Calls Try.prog 29 #[.agg #[.int .i64 key, .slice A es.length c, .int .i64 sum], .agg #[.int .i64 key', .slice A' es'.length c', .int .i64 sum']] w fun e w' => e = .returned (.bool (decide ((key, es, sum) = (key', es', sum')))) ∧ Below w.heap.size w w' := by
  have E : Hid (decide ((key, es, sum) = (key', es', sum')) = ((key == key' && decide (es = es')) && sum == sum')) := by
    show _ = _
    rw [Bool.eq_iff_iff]
    simp [Bool.and_eq_true, and_assoc]
  have K0 := Lib.hid (alloc_at0 w (.cells #[.int .i64 key, .slice A es.length c, .int .i64 sum] 37) (.cells #[.int .i64 key', .slice A' es'.length c', .int .i64 sum'] 37))
  have K1 := Lib.hid (alloc_at1 w (.cells #[.int .i64 key, .slice A es.length c, .int .i64 sum] 37) (.cells #[.int .i64 key', .slice A' es'.length c', .int .i64 sum'] 37))
  have HB := Lib.hid (below2 w (.cells #[.int .i64 key, .slice A es.length c, .int .i64 sum] 37) (.cells #[.int .i64 key', .slice A' es'.length c', .int .i64 sum'] 37))
  have SE : Hid (∀ W, Below w.heap.size w W → Calls Try.prog 17 #[.slice A es.length c, .slice A' es'.length c'] W fun e w' => e = .returned (.bool (decide (es = es'))) ∧ Below W.heap.size W w') := fun W hW =>
    callSameInts A A' c c' es es' W W.heap.size (Nat.le_refl _) (by omega) (by omega) ((h1.below hW).mono hW.size) ((h2.below hW).mono hW.size)
  obtain ⟨b, hb⟩ : ∃ b, b = decide (es = es') := ⟨_, rfl⟩
  rw [← hb] at SE E
  clear h1 h2 hb
  obtain ⟨x0, x1, x2, _, _, _, _⟩ := cell3 K0.out
  obtain ⟨y0, y1, y2, _, _, _, _⟩ := cell3 K1.out
  go_enter Try.func29, Try.ntmps29
  cases hk : (key == key')
  · rw [hk] at E
    go_wp2
    go_ret
    exact ⟨by rw [E.out] <;> rfl, HB.out⟩
  · rw [hk] at E
    go_wp2_with fail
    refine (SE.out _ HB.out).mono ?_
    rintro e w1 ⟨rfl, hb1⟩
    have HB1 := Lib.hid (bel_trans HB.out hb1)
    clear x0 x1 x2 y0 y1 y2
    obtain ⟨x0, x1, x2, _, _, _, _⟩ := cell3 (blkc K0.out hb1)
    obtain ⟨y0, y1, y2, _, _, _, _⟩ := cell3 (blkc K1.out hb1)
    clear hb1
    cases b
    · go_wp2
      go_ret
      exact ⟨by rw [E.out] <;> rfl, HB1.out⟩
    · go_wp2
      go_ret
      exact ⟨by rw [E.out] <;> rfl, HB1.out⟩
/-- The reader, the result's box, and a log in a box. -/
structure DS (w : World) (g M X : Nat) (A : Option Addr) (c : Nat) (key : Int) (es : List Int) (sum : Int) (wx : World) : Prop where
  rdr : Rdr wx g M
  bel : Below w.heap.size w wx
  res : wx.heap[w.heap.size]? = some (.cells #[.int .i64 0, .slice none 0 0, .int .i64 0] 37 (0, 0))
  box : wx.heap[X]? = some (.cells #[.int .i64 key, .slice A es.length c, .int .i64 sum] 37 (0, 0))
  own : Own eInt 3 wx (g + 1) (.slice A es.length c) es
  hg : w.heap.size < g
  hX : g < X
theorem DS.step {w wx w' : World} {g M M' X : Nat} {A : Option Addr} {c : Nat} {key sum : Int} {es : List Int} (s : DS w g M X A c key es sum wx) (hr : Rdr w' g M') (hg : wx.grownBy w' (some g)) : DS w g M' X A c key es sum w' :=
  ⟨hr, s.bel.trans ((Below.refl _ _).grown hg s.bel.size (fun k hk => by cases hk; exact Nat.le_of_lt s.hg)), gblk hg s.res (by have := s.hg; simp; omega), gblk hg s.box (by have := s.hX; simp; omega), s.own.kept hg (fun k hk => by cases hk; omega), s.hg, s.hX⟩
theorem DS.drew {w wx : World} {g M X : Nat} {A : Option Addr} {c : Nat} {key sum : Int} {es : List Int} (s : DS w g M X A c key es sum wx) : DS w g M X A c key es sum wx.drew := ⟨s.rdr, below_drew s.bel, s.res, s.box, s.own, s.hg, s.hX⟩
/-- The result stored. -/
theorem DS.fin {w wx : World} {g M X : Nat} {A : Option Addr} {c : Nat} {key sum : Int} {es : List Int} (s : DS w g M X A c key es sum wx) :
    Rd eInt (((wx.setCell ⟨w.heap.size, 0, none⟩ (.int .i64 key)).setCell ⟨w.heap.size, 1, none⟩ (.slice A es.length c)).setCell ⟨w.heap.size, 2, none⟩ (.int .i64 sum)) (((wx.setCell ⟨w.heap.size, 0, none⟩ (.int .i64 key)).setCell ⟨w.heap.size, 1, none⟩ (.slice A es.length c)).setCell ⟨w.heap.size, 2, none⟩ (.int .i64 sum)).heap.size A es ∧
    Below w.heap.size w (((wx.setCell ⟨w.heap.size, 0, none⟩ (.int .i64 key)).setCell ⟨w.heap.size, 1, none⟩ (.slice A es.length c)).setCell ⟨w.heap.size, 2, none⟩ (.int .i64 sum)) :=
  ⟨(s.own.kept (gset3 _ _ _) (fun k hk => by cases hk; have := s.hg; omega)).rd, bset3 s.bel (Nat.le_refl _) _ _ _⟩

/-- What the laws' draws of a log and a number leave. -/
def AudDrawn2 (w : World) (e : Ending) (w' : World) : Prop :=
  ∃ A c key es sum n, e = .returned (.tuple #[.agg #[.int .i64 key, .slice A (es : List Int).length c, .int .i64 sum], .int .i64 n]) ∧ es.length ≤ 61 ∧ es.length ≤ c ∧ -100 ≤ n ∧ n ≤ 300 ∧ Rd eInt w' w'.heap.size A es ∧ Below w.heap.size w w'
set_option maxRecDepth 100000 in
set_option maxHeartbeats 1600000 in
theorem callDrawAppendAudit (A : Option Addr) (c : Nat) (bs : List Int) (w : World) (hc : bs.length ≤ c) (hm : bs.length ≤ 1048576) (hr : Rd eU8 w w.heap.size A bs) (hby : ∀ x ∈ bs, 0 ≤ x ∧ x ≤ 255) :
    Calls Try.prog 26 #[.slice A bs.length c] w (AudDrawn2 w) := by
  go_enter Try.func26, Try.ntmps26
  go_wp2_with fail
  refine (callOpen A c bs _ hc hm (hr.alloc _) hby).mono ?_
  rintro e w0 ⟨rfl, hr1, hb1⟩
  have hr1' : Rdr w0 (w.heap.size + 1) 0 := by simpa using hr1
  have HK0 : Hid (w0.heap[w.heap.size]? = some (.cells #[.int .i64 0, .slice none 0 0, .int .i64 0] 37 (0, 0))) := blkc (heap_alloc_new w _) hb1
  have HB := Lib.hid (bel_trans (below1 _ _) hb1)
  have HR := Lib.hid hr1'
  have hs0 : w.heap.size + 1 < w0.heap.size := hr1'.lt
  clear hr1 hr1' hb1 hr
  obtain ⟨g, hg⟩ : ∃ g, g = w.heap.size + 1 := ⟨_, rfl⟩
  have hgw : w.heap.size < g := by omega
  simp only [World.size_alloc]
  rw [← hg] at HR hs0 ⊢
  clear hg
  go_wp2_with fail
  refine (callDrawAudit g 0 12 _ HR.out (by omega)).mono ?_
  rintro e wa ⟨A2, c2, key, es, sum, rfl, hl61, hc2, hown2, hr2, hg2⟩
  have hsa : w0.heap.size ≤ wa.heap.size := hg2.size
  have S1 : Hid (DS w g 20 wa.heap.size A2 c2 key es sum (wa.alloc (.cells #[.int .i64 key, .slice A2 es.length c2, .int .i64 sum] 37))) :=
    ⟨hr2.alloc _, (HB.out.trans ((Below.refl _ _).grown hg2 (by omega) (fun k hk => by cases hk; omega))).trans ((below1 wa _).mono (by omega)), blkc (gblk hg2 HK0.out (by simp; omega)) (below1 wa _), heap_alloc_new wa _, (hown2.more (base' := g + 1) (by omega)).alloc _, hgw, by omega⟩
  clear hown2 hr2 hg2 HK0 HB HR
  go_upto_region 3 with (fail)
  obtain ⟨w1, hw1⟩ : ∃ w1, w1 = wa.alloc (.cells #[.int .i64 key, .slice A2 es.length c2, .int .i64 sum] 37) := ⟨_, rfl⟩
  obtain ⟨X, hX⟩ : ∃ X, X = wa.heap.size := ⟨_, rfl⟩
  rw [← hw1, ← hX] at S1
  rw [← hw1, ← hX]
  clear hw1 hX
  have hRX : w.heap.size ≠ X := by have := S1.out.hg; have := S1.out.hX; omega
  obtain ⟨x0, x1, x2, _, _, _, x6⟩ := cell3 S1.out.box
  obtain ⟨y0, y1, y2, y3, y4, y5, y6⟩ := cell3 S1.out.res
  go_region_law (go_simp; go_at_call 53; refine (callPick g _ _ _ S1.out.drew.rdr (by omega)).mono ?_; rintro e w5 ⟨p, rfl, d1, d2, _, hr5, hg5⟩; have d3 : p < 256 := d2 (by omega); have hw5 : IntKind.i64.wrap (p - 5) = p - 5 := IntWalk.i64_in _ (by omega); have S5 := Lib.hid (S1.out.drew.step hr5 hg5); clear hr5 hg5 d2; obtain ⟨n0, n1, n2, _, _, _, n6⟩ := cell3 S5.out.box; obtain ⟨m0, m1, m2, m3, m4, m5, m6⟩ := cell3 S5.out.res; obtain ⟨s0, s1, s2⟩ := res3 S5.out.res (.int .i64 key) (.slice A2 es.length c2) (.int .i64 sum); have HF := Lib.hid S5.out.fin)
  all_goals (try go_wp2_with fail)
  all_goals exact bodyPost_ret (v := .tuple #[.agg #[.int .i64 key, .slice A2 es.length c2, .int .i64 sum], .int .i64 (p - 5)]) (by simp [results, Try.results26, go_sem, s0, s1, s2]) rfl ⟨A2, c2, key, es, sum, (p - 5), rfl, hl61, hc2, by omega, by omega, HF.out.1, HF.out.2⟩
set_option maxRecDepth 100000 in
set_option maxHeartbeats 1600000 in
theorem callDrawAuditSince (A : Option Addr) (c : Nat) (bs : List Int) (w : World) (hc : bs.length ≤ c) (hm : bs.length ≤ 1048576) (hr : Rd eU8 w w.heap.size A bs) (hby : ∀ x ∈ bs, 0 ≤ x ∧ x ≤ 255) :
    Calls Try.prog 22 #[.slice A bs.length c] w (AudDrawn2 w) := by
  go_enter Try.func22, Try.ntmps22
  go_wp2_with fail
  refine (callOpen A c bs _ hc hm (hr.alloc _) hby).mono ?_
  rintro e w0 ⟨rfl, hr1, hb1⟩
  have hr1' : Rdr w0 (w.heap.size + 1) 0 := by simpa using hr1
  have HK0 : Hid (w0.heap[w.heap.size]? = some (.cells #[.int .i64 0, .slice none 0 0, .int .i64 0] 37 (0, 0))) := blkc (heap_alloc_new w _) hb1
  have HB := Lib.hid (bel_trans (below1 _ _) hb1)
  have HR := Lib.hid hr1'
  have hs0 : w.heap.size + 1 < w0.heap.size := hr1'.lt
  clear hr1 hr1' hb1 hr
  obtain ⟨g, hg⟩ : ∃ g, g = w.heap.size + 1 := ⟨_, rfl⟩
  have hgw : w.heap.size < g := by omega
  simp only [World.size_alloc]
  rw [← hg] at HR hs0 ⊢
  clear hg
  go_wp2_with fail
  refine (callDrawAudit g 0 12 _ HR.out (by omega)).mono ?_
  rintro e wa ⟨A2, c2, key, es, sum, rfl, hl61, hc2, hown2, hr2, hg2⟩
  have hsa : w0.heap.size ≤ wa.heap.size := hg2.size
  have S1 : Hid (DS w g 20 wa.heap.size A2 c2 key es sum (wa.alloc (.cells #[.int .i64 key, .slice A2 es.length c2, .int .i64 sum] 37))) :=
    ⟨hr2.alloc _, (HB.out.trans ((Below.refl _ _).grown hg2 (by omega) (fun k hk => by cases hk; omega))).trans ((below1 wa _).mono (by omega)), blkc (gblk hg2 HK0.out (by simp; omega)) (below1 wa _), heap_alloc_new wa _, (hown2.more (base' := g + 1) (by omega)).alloc _, hgw, by omega⟩
  clear hown2 hr2 hg2 HK0 HB HR
  go_upto_region 3 with (fail)
  obtain ⟨w1, hw1⟩ : ∃ w1, w1 = wa.alloc (.cells #[.int .i64 key, .slice A2 es.length c2, .int .i64 sum] 37) := ⟨_, rfl⟩
  obtain ⟨X, hX⟩ : ∃ X, X = wa.heap.size := ⟨_, rfl⟩
  rw [← hw1, ← hX] at S1
  rw [← hw1, ← hX]
  clear hw1 hX
  have hRX : w.heap.size ≠ X := by have := S1.out.hg; have := S1.out.hX; omega
  obtain ⟨x0, x1, x2, _, _, _, x6⟩ := cell3 S1.out.box
  obtain ⟨y0, y1, y2, y3, y4, y5, y6⟩ := cell3 S1.out.res
  have hM1 : 20 ≤ 1000000 := by omega
  have hM2 : 20 + 1 ≤ 1000000 := by omega
  have hwl : IntKind.i64.wrap ((es.length : Int) + 2) = (es.length : Int) + 2 := IntWalk.i64_in _ (by omega)
  go_region_law (first
    | (go_simp; go_at_call 53; (with_reducible refine (callPick g _ _ _ S1.out.drew.rdr hM1).mono ?_); rintro e w5 ⟨p, rfl, d1, d2, _, hr5, hg5⟩; have d3 : p < (es.length : Int) + 2 := d2 (by omega); have S5 := Lib.hid (S1.out.drew.step hr5 hg5); clear hr5 hg5 d2; obtain ⟨n0, n1, n2, _, _, _, n6⟩ := cell3 S5.out.box; obtain ⟨m0, m1, m2, m3, m4, m5, m6⟩ := cell3 S5.out.res)
    | (go_simp; go_at_call 53; (with_reducible refine (callPick g _ _ _ S5.out.rdr hM2).mono ?_); rintro e w6 ⟨q, rfl, e1, e2, _, hr6, hg6⟩; have e3 : q < 14 := e2 (by omega); obtain ⟨t, ht⟩ : ∃ t, t = q / 13 := ⟨_, rfl⟩; have ht1 : Int.tdiv q 13 = t := (by rw [Int.tdiv_eq_ediv_of_nonneg e1]; exact ht.symm); have ht2 : q / 13 = t := ht.symm; have ht3 : 0 ≤ t := (by omega); have ht4 : t ≤ 1 := (by omega); have hwt : IntKind.i64.wrap t = t := IntWalk.i64_in _ (by omega); have hw : IntKind.i64.wrap (p - t) = p - t := IntWalk.i64_in _ (by omega); clear ht; have S6 := Lib.hid (S5.out.step hr6 hg6); clear hr6 hg6 e2; obtain ⟨z0, z1, z2, _, _, _, z6⟩ := cell3 S6.out.box; obtain ⟨u0, u1, u2, u3, u4, u5, u6⟩ := cell3 S6.out.res; obtain ⟨s0, s1, s2⟩ := res3 S6.out.res (.int .i64 key) (.slice A2 es.length c2) (.int .i64 sum); have HF := Lib.hid S6.out.fin))
  all_goals (try go_wp2_with fail)
  all_goals exact bodyPost_ret (v := .tuple #[.agg #[.int .i64 key, .slice A2 es.length c2, .int .i64 sum], .int .i64 (p - t)]) (by simp [results, Try.results22, go_sem, s0, s1, s2]) rfl ⟨A2, c2, key, es, sum, (p - t), rfl, hl61, hc2, by omega, by omega, HF.out.1, HF.out.2⟩
end Go.Proofs.Ytapkgncmjinedaa
