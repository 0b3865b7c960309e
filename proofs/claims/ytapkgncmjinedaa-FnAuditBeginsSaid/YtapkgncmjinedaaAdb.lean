/- What the drawing function of two logs leaves. -/
import Derived.Test.YtapkgncmjinedaaAdx
import Derived.Deep.RegionHeld3
namespace Go.Proofs.Ytapkgncmjinedaa
open Go.RowKit Go.Sort

theorem add_len (key : Int) (es : List Int) (sum e : Int) : (auditAdd key es sum e).1.2.1.length ≤ es.length + 1 := by
  cases q : auditOk key es sum
  · rw [add_bad q]; simp
  · by_cases h : es.length = 60
    · rw [add_full q h]; show es.length ≤ es.length + 1; omega
    · rw [add_good q h]; simp
theorem fin6A {w wx : World} (hb : Below w.heap.size w wx) (h1 : wx.heap[w.heap.size]? = some (.cells #[.int .i64 0, .slice none 0 0, .int .i64 0] 37 (0, 0))) (h2 : wx.heap[w.heap.size + 1]? = some (.cells #[.int .i64 0, .slice none 0 0, .int .i64 0] 37 (0, 0))) (u v t a b d : Value) :
    Below w.heap.size w ((((((wx.setCell ⟨w.heap.size, 0, none⟩ u).setCell ⟨w.heap.size, 1, none⟩ v).setCell ⟨w.heap.size, 2, none⟩ t).setCell ⟨w.heap.size + 1, 0, none⟩ a).setCell ⟨w.heap.size + 1, 1, none⟩ b).setCell ⟨w.heap.size + 1, 2, none⟩ d) ∧
    ((((((wx.setCell ⟨w.heap.size, 0, none⟩ u).setCell ⟨w.heap.size, 1, none⟩ v).setCell ⟨w.heap.size, 2, none⟩ t).setCell ⟨w.heap.size + 1, 0, none⟩ a).setCell ⟨w.heap.size + 1, 1, none⟩ b).setCell ⟨w.heap.size + 1, 2, none⟩ d).heap[w.heap.size]? = some (.cells #[u, v, t] 37 (0, 0)) ∧
    ((((((wx.setCell ⟨w.heap.size, 0, none⟩ u).setCell ⟨w.heap.size, 1, none⟩ v).setCell ⟨w.heap.size, 2, none⟩ t).setCell ⟨w.heap.size + 1, 0, none⟩ a).setCell ⟨w.heap.size + 1, 1, none⟩ b).setCell ⟨w.heap.size + 1, 2, none⟩ d).heap[w.heap.size + 1]? = some (.cells #[a, b, d] 37 (0, 0)) ∧
    (∀ (A : Option Addr) (n c : Nat) (xs : List Int) (B : Nat), w.heap.size + 1 < B → Own eInt 3 wx B (.slice A n c) xs → Own eInt 3 ((((((wx.setCell ⟨w.heap.size, 0, none⟩ u).setCell ⟨w.heap.size, 1, none⟩ v).setCell ⟨w.heap.size, 2, none⟩ t).setCell ⟨w.heap.size + 1, 0, none⟩ a).setCell ⟨w.heap.size + 1, 1, none⟩ b).setCell ⟨w.heap.size + 1, 2, none⟩ d) B (.slice A n c) xs) :=
  ⟨bset3 (bset3 hb (Nat.le_refl _) _ _ _) (by omega) _ _ _, gblk (gset3 (g := w.heap.size + 1) a b d) (set3 h1) (by simp), set3 (gblk (gset3 (g := w.heap.size) u v t) h2 (by simp)), fun A n c xs B hB ho => (ho.kept (gset3 _ _ _) (fun k hk => by cases hk; omega)).kept (gset3 _ _ _) (fun k hk => by cases hk; omega)⟩
theorem fin6B {w wx : World} (hb : Below w.heap.size w wx) (h1 : wx.heap[w.heap.size]? = some (.cells #[.int .i64 0, .slice none 0 0, .int .i64 0] 37 (0, 0))) (h2 : wx.heap[w.heap.size + 1]? = some (.cells #[.int .i64 0, .slice none 0 0, .int .i64 0] 37 (0, 0))) (u v t a b d : Value) :
    Below w.heap.size w ((((((wx.setCell ⟨w.heap.size + 1, 0, none⟩ a).setCell ⟨w.heap.size + 1, 1, none⟩ b).setCell ⟨w.heap.size + 1, 2, none⟩ d).setCell ⟨w.heap.size, 0, none⟩ u).setCell ⟨w.heap.size, 1, none⟩ v).setCell ⟨w.heap.size, 2, none⟩ t) ∧
    ((((((wx.setCell ⟨w.heap.size + 1, 0, none⟩ a).setCell ⟨w.heap.size + 1, 1, none⟩ b).setCell ⟨w.heap.size + 1, 2, none⟩ d).setCell ⟨w.heap.size, 0, none⟩ u).setCell ⟨w.heap.size, 1, none⟩ v).setCell ⟨w.heap.size, 2, none⟩ t).heap[w.heap.size]? = some (.cells #[u, v, t] 37 (0, 0)) ∧
    ((((((wx.setCell ⟨w.heap.size + 1, 0, none⟩ a).setCell ⟨w.heap.size + 1, 1, none⟩ b).setCell ⟨w.heap.size + 1, 2, none⟩ d).setCell ⟨w.heap.size, 0, none⟩ u).setCell ⟨w.heap.size, 1, none⟩ v).setCell ⟨w.heap.size, 2, none⟩ t).heap[w.heap.size + 1]? = some (.cells #[a, b, d] 37 (0, 0)) ∧
    (∀ (A : Option Addr) (n c : Nat) (xs : List Int) (B : Nat), w.heap.size + 1 < B → Own eInt 3 wx B (.slice A n c) xs → Own eInt 3 ((((((wx.setCell ⟨w.heap.size + 1, 0, none⟩ a).setCell ⟨w.heap.size + 1, 1, none⟩ b).setCell ⟨w.heap.size + 1, 2, none⟩ d).setCell ⟨w.heap.size, 0, none⟩ u).setCell ⟨w.heap.size, 1, none⟩ v).setCell ⟨w.heap.size, 2, none⟩ t) B (.slice A n c) xs) :=
  ⟨bset3 (bset3 hb (by omega) _ _ _) (Nat.le_refl _) _ _ _, set3 (gblk (gset3 (g := w.heap.size + 1) a b d) h1 (by simp)), gblk (gset3 (g := w.heap.size) u v t) (set3 h2) (by simp), fun A n c xs B hB ho => (ho.kept (gset3 _ _ _) (fun k hk => by cases hk; omega)).kept (gset3 _ _ _) (fun k hk => by cases hk; omega)⟩
structure DB (w : World) (g M X Y : Nat) (Ab : Option Addr) (cb : Nat) (kb : Int) (eb : List Int) (sb : Int) (Aa : Option Addr) (ca : Nat) (ka : Int) (ea : List Int) (sa : Int) (wx : World) : Prop where
  rdr : Rdr wx g M
  bel : Below w.heap.size w wx
  res1 : wx.heap[w.heap.size]? = some (.cells #[.int .i64 0, .slice none 0 0, .int .i64 0] 37 (0, 0))
  res2 : wx.heap[w.heap.size + 1]? = some (.cells #[.int .i64 0, .slice none 0 0, .int .i64 0] 37 (0, 0))
  boxb : wx.heap[X]? = some (.cells #[.int .i64 kb, .slice Ab eb.length cb, .int .i64 sb] 37 (0, 0))
  boxa : wx.heap[Y]? = some (.cells #[.int .i64 ka, .slice Aa ea.length ca, .int .i64 sa] 37 (0, 0))
  ownb : Own eInt 3 wx (g + 1) (.slice Ab eb.length cb) eb
  owna : Own eInt 3 wx (g + 1) (.slice Aa ea.length ca) ea
  hg : w.heap.size + 1 < g
  hX : g < X
  hY : X < Y
  hcb : eb.length ≤ cb
  hca : ea.length ≤ ca
section
variable {w wx w' : World} {g M M' X Y : Nat} {Ab Aa A' : Option Addr} {cb ca c' : Nat} {kb ka sb sa k' s' : Int} {eb ea e' : List Int}
theorem DB.step (s : DB w g M X Y Ab cb kb eb sb Aa ca ka ea sa wx) (hr : Rdr w' g M') (hg : wx.grownBy w' (some g)) : DB w g M' X Y Ab cb kb eb sb Aa ca ka ea sa w' := by
  have h1 := s.hg
  have h2 := s.hX
  have h3 := s.hY
  exact ⟨hr, s.bel.trans ((Below.refl _ _).grown hg s.bel.size (fun k hk => by cases hk; omega)), gblk hg s.res1 (by simp; omega), gblk hg s.res2 (by simp; omega), gblk hg s.boxb (by simp; omega), gblk hg s.boxa (by simp; omega), s.ownb.kept hg (fun k hk => by cases hk; omega), s.owna.kept hg (fun k hk => by cases hk; omega), h1, h2, h3, s.hcb, s.hca⟩
theorem DB.drew (s : DB w g M X Y Ab cb kb eb sb Aa ca ka ea sa wx) : DB w g M X Y Ab cb kb eb sb Aa ca ka ea sa wx.drew := ⟨s.rdr, below_drew s.bel, s.res1, s.res2, s.boxb, s.boxa, s.ownb, s.owna, s.hg, s.hX, s.hY, s.hcb, s.hca⟩
theorem DB.next (s : DB w g M X Y Ab cb kb eb sb Aa ca ka ea sa wx) (hb : Below wx.heap.size wx w') : DB w g M X Y Ab cb kb eb sb Aa ca ka ea sa w' := s.step (s.rdr.next hb) (grownBy_of_below hb _)
theorem DB.more (s : DB w g M X Y Ab cb kb eb sb Aa ca ka ea sa wx) (hM : M ≤ M') : DB w g M' X Y Ab cb kb eb sb Aa ca ka ea sa wx := ⟨s.rdr.more hM, s.bel, s.res1, s.res2, s.boxb, s.boxa, s.ownb, s.owna, s.hg, s.hX, s.hY, s.hcb, s.hca⟩
/-- Another log in the second box. -/
theorem DB.seta (s : DB w g M X Y Ab cb kb eb sb Aa ca ka ea sa wx) (ho : Own eInt 3 wx (g + 1) (.slice A' e'.length c') e') (hc' : e'.length ≤ c') (k' s' : Int) :
    DB w g M X Y Ab cb kb eb sb A' c' k' e' s' (((wx.setCell ⟨Y, 0, none⟩ (.int .i64 k')).setCell ⟨Y, 1, none⟩ (.slice A' e'.length c')).setCell ⟨Y, 2, none⟩ (.int .i64 s')) := by
  have h1 := s.hg
  have h2 := s.hX
  have h3 := s.hY
  have G := gset3 (w := wx) (g := Y) (.int .i64 k') (.slice A' e'.length c') (.int .i64 s')
  exact ⟨((s.rdr.setNew (p := ⟨Y, 0, none⟩) (by show g < Y; omega) _).setNew (p := ⟨Y, 1, none⟩) (by show g < Y; omega) _).setNew (p := ⟨Y, 2, none⟩) (by show g < Y; omega) _, bset3 s.bel (by omega) _ _ _, gblk G s.res1 (by simp; omega), gblk G s.res2 (by simp; omega), gblk G s.boxb (by simp; omega), set3 s.boxa, s.ownb.keptOther G (fun k hk => by cases hk; exact .inr ⟨_, _, _, s.boxa, by decide⟩), ho.keptOther G (fun k hk => by cases hk; exact .inr ⟨_, _, _, s.boxa, by decide⟩), h1, h2, h3, s.hcb, hc'⟩
end
def AudDrawn4 (w : World) (e : Ending) (w' : World) : Prop :=
  ∃ Ab cb kb eb sb Aa ca ka ea sa, e = .returned (.tuple #[.agg #[.int .i64 kb, .slice Ab eb.length cb, .int .i64 sb], .agg #[.int .i64 ka, .slice Aa ea.length ca, .int .i64 sa]]) ∧ (eb : List Int).length ≤ 70 ∧ (ea : List Int).length ≤ 70 ∧ eb.length ≤ cb ∧ ea.length ≤ ca ∧ Rd eInt w' w'.heap.size Ab eb ∧ Rd eInt w' w'.heap.size Aa ea ∧ Below w.heap.size w w'

set_option maxRecDepth 100000 in
set_option maxHeartbeats 6400000 in
theorem callDrawAuditBegins (A : Option Addr) (c : Nat) (bs : List Int) (w : World) (hc : bs.length ≤ c) (hm : bs.length ≤ 1048576) (hr : Rd eU8 w w.heap.size A bs) (hby : ∀ x ∈ bs, 0 ≤ x ∧ x ≤ 255) :
    Calls Try.prog 34 #[.slice A bs.length c] w (AudDrawn4 w) := by
  go_enter Try.func34, Try.ntmps34
  go_wp2_with fail
  refine (callOpen A c bs _ hc hm ((hr.alloc _).alloc _) hby).mono ?_
  rintro e w0 ⟨rfl, hr1, hb1⟩
  have hr1' : Rdr w0 (w.heap.size + 1 + 1) 0 := by simpa using hr1
  have HK0 : Hid (w0.heap[w.heap.size]? = some (.cells #[.int .i64 0, .slice none 0 0, .int .i64 0] 37 (0, 0))) := blkc (alloc_at0 w (.cells #[.int .i64 0, .slice none 0 0, .int .i64 0] 37) (.cells #[.int .i64 0, .slice none 0 0, .int .i64 0] 37)) hb1
  have HK1 : Hid (w0.heap[w.heap.size + 1]? = some (.cells #[.int .i64 0, .slice none 0 0, .int .i64 0] 37 (0, 0))) := blkc (alloc_at1 w (.cells #[.int .i64 0, .slice none 0 0, .int .i64 0] 37) (.cells #[.int .i64 0, .slice none 0 0, .int .i64 0] 37)) hb1
  have HB := Lib.hid (bel_trans (below2 _ _ _) hb1)
  have HR := Lib.hid hr1'
  have hs0 : w.heap.size + 1 + 1 < w0.heap.size := hr1'.lt
  clear hr1 hr1' hb1 hr
  obtain ⟨g, hg⟩ : ∃ g, g = w.heap.size + 1 + 1 := ⟨_, rfl⟩
  have hgw : w.heap.size + 1 < g := by omega
  simp only [World.size_alloc]
  rw [← hg] at HR hs0 ⊢
  clear hg
  go_wp2_with fail
  refine (callDrawAudit g 0 14 _ HR.out (by omega)).mono ?_
  rintro e wa ⟨Ab, cb, kb, eb, sb, rfl, hl61, hcb, hown2, hr2, hg2⟩
  have hsa : w0.heap.size ≤ wa.heap.size := hg2.size
  have S1 : Hid (DB w g 20 wa.heap.size (wa.heap.size + 1) Ab cb kb eb sb Ab cb kb eb sb ((wa.alloc (.cells #[.int .i64 kb, .slice Ab eb.length cb, .int .i64 sb] 37)).alloc (.cells #[.int .i64 kb, .slice Ab eb.length cb, .int .i64 sb] 37))) :=
    ⟨(hr2.alloc _).alloc _, (HB.out.trans ((Below.refl _ _).grown hg2 (by omega) (fun k hk => by cases hk; omega))).trans ((below2 wa _ _).mono (by omega)), blkc (gblk hg2 HK0.out (by simp; omega)) (below2 wa _ _), blkc (gblk hg2 HK1.out (by simp; omega)) (below2 wa _ _), alloc_at0 wa _ _, alloc_at1 wa _ _, ((hown2.more (base' := g + 1) (by omega)).alloc _).alloc _, ((hown2.more (base' := g + 1) (by omega)).alloc _).alloc _, hgw, by omega, by omega, hcb, hcb⟩
  clear hown2 hr2 hg2 HK0 HK1 HB HR
  go_upto_region 4 with (fail)
  obtain ⟨w1, hw1⟩ : ∃ w1, w1 = (wa.alloc (.cells #[.int .i64 kb, .slice Ab eb.length cb, .int .i64 sb] 37)).alloc (.cells #[.int .i64 kb, .slice Ab eb.length cb, .int .i64 sb] 37) := ⟨_, rfl⟩
  obtain ⟨X, hX⟩ : ∃ X, X = wa.heap.size := ⟨_, rfl⟩
  rw [← hw1, ← hX] at S1
  rw [← hw1, ← hX]
  clear hw1 hX
  obtain ⟨Y, hY⟩ : ∃ Y, Y = X + 1 := ⟨_, rfl⟩
  rw [← hY] at S1 ⊢
  clear hY
  go_wp2_with fail
  refine (callPick g _ _ _ S1.out.rdr (by omega)).mono ?_
  rintro e w2 ⟨k2, rfl, b1, b2, _, hr2, hg2⟩
  obtain ⟨j0, rfl⟩ := Int.eq_ofNat_of_zero_le b1
  have hj0 : j0 ≤ 3 := by have := b2 (by omega); omega
  have S2 := Lib.hid (S1.out.step hr2 hg2)
  clear hr2 hg2 b2 S1
  go_wp2_with fail
  go_loopw [7] (fun i wr => ∃ (j r : Nat) (Aa : Option Addr) (ca : Nat) (ka : Int) (ea : List Int) (sa : Int), i = .int .i64 j ∧ j + r = j0 ∧ ea.length ≤ 61 + r ∧ Hid (DB w g (21 + r) X Y Ab cb kb eb sb Aa ca ka ea sa wr)) (fun i _ => (intOf i).toNat)
  case atStart => exact ⟨j0, 0, Ab, cb, kb, eb, sb, rfl, by omega, by omega, S2.out⟩
  case round =>
    clear S2
    obtain ⟨j, r, Aa, ca, ka, ea, sa, rfl, hjr, hla, SR⟩ := hrel
    by_cases hj : 0 < j
    · obtain ⟨j', rfl⟩ : ∃ j', j = j' + 1 := ⟨j - 1, by omega⟩
      have hM1 : 21 + r ≤ 1000000 := by omega
      have hla2 : ea.length ≤ 1048576 := by omega
      obtain ⟨x0, x1, x2, x3, x4, x5, x6⟩ := cell3 SR.out.boxa
      go_upto_region 7 with (fail)
      go_region_law (first
        | (go_simp; go_at_call 53; refine (callPick g _ _ _ SR.out.drew.rdr hM1).mono ?_; rintro e w5 ⟨p, rfl, d1, d2, _, hr5, hg5⟩; have S5 := Lib.hid (SR.out.drew.step hr5 hg5); clear hr5 hg5 d2; obtain ⟨n0, n1, n2, n3, n4, n5, n6⟩ := cell3 S5.out.boxa)
        | (go_simp; go_at_call 28; refine (callSAppendAudit Aa ca ea ka sa _ w5 w5.heap.size (Nat.le_refl _) hla2 S5.out.owna.rd).mono ?_; rintro e w6 ⟨A6, c6, rfl, ho6, hc6, hb6⟩; have hq6 := add_len ka ea sa p; obtain ⟨q, hq⟩ : ∃ q, q = auditAdd ka ea sa p := ⟨_, rfl⟩; rw [← hq] at ho6 hc6 hq6 ⊢; obtain ⟨⟨kq, eq, sq⟩, bq⟩ := q; simp only at ho6 hc6 hq6 ⊢; have HQ6 := Lib.hid hq6; have S6 := Lib.hid (S5.out.next hb6); have S7 := Lib.hid (S6.out.seta (ho6.more (base' := g + 1) (by have := S5.out.rdr.lt; omega)) hc6 kq sq); obtain ⟨m0, m1, m2, m3, m4, m5, m6⟩ := cell3 S6.out.boxa; clear hq ho6 hc6 hb6 hq6))
      all_goals
        go_wp2_with fail
        go_roundw
        case rel => have := HQ6.out; exact ⟨j', r + 1, A6, c6, kq, eq, sq, by go_num, by omega, by omega, S7.out.more (by omega)⟩
        case measure => simp [intOf]
    · have hj0' : j = 0 := by omega
      subst hj0'
      have hl64 : ea.length ≤ 64 := by omega
      have hM1 : 21 + r ≤ 1000000 := by omega
      go_wp2_with fail
      refine (callOdd g _ _ _ SR.out.rdr hM1).mono ?_
      rintro e w5 ⟨o1, rfl, hr5, hg5⟩
      have S5 := Lib.hid ((SR.out.step hr5 hg5).more (M' := 40) (by omega))
      clear hr5 hg5 SR hM1
      go_upto_if 27 with (fail)
      go_cut [] (fun wx => ∃ (Aa : Option Addr) (ca : Nat) (ka : Int) (ea : List Int) (sa : Int), ea.length ≤ 64 ∧ Hid (DB w g 60 X Y Ab cb kb eb sb Aa ca ka ea sa wx))
      case first =>
        cases o1
        · go_wp2_with fail
          go_meet
          case rel => exact ⟨Aa, ca, ka, ea, sa, hl64, S5.out.more (by omega)⟩
        · go_wp2_with fail
          refine (callDrawAudit g _ 14 _ S5.out.rdr (by omega)).mono ?_
          rintro e w6 ⟨A6, c6, k6, e6, s6, rfl, hl6, hc6, ho6, hr6, hg6⟩
          have S6 := Lib.hid (S5.out.step hr6 hg6)
          have S7 := Lib.hid (S6.out.seta (ho6.more (base' := g + 1) (by have := S5.out.rdr.lt; omega)) hc6 k6 s6)
          obtain ⟨m0, m1, m2, m3, m4, m5, m6⟩ := cell3 S6.out.boxa
          clear ho6 hr6 hg6
          go_wp2_with fail
          go_meet
          case rel => exact ⟨A6, c6, k6, e6, s6, by omega, S7.out⟩
      case rest =>
        clear S5 hl64
        obtain ⟨Aa, ca, ka, ea, sa, hl64, SR⟩ := hcut
        go_wp2_with fail
        refine (callOdd g _ _ _ SR.out.rdr (by omega)).mono ?_
        rintro e w6 ⟨o2, rfl, hr6, hg6⟩
        have S6 := Lib.hid (SR.out.step hr6 hg6)
        clear hr6 hg6 SR
        have hgw2 := S6.out.hg
        have hX2 := S6.out.hX
        have hY2 := S6.out.hY
        obtain ⟨m0, m1, m2, m3, m4, m5, m6⟩ := cell3 S6.out.boxb
        obtain ⟨n0, n1, n2, n3, n4, n5, n6⟩ := cell3 S6.out.boxa
        obtain ⟨p0, p1, p2, p3, p4, p5, p6⟩ := cell3 S6.out.res1
        obtain ⟨q0, q1, q2, q3, q4, q5, q6⟩ := cell3 S6.out.res2
        cases o2
        · -- a, b
          have HFF := Lib.hid (fin6A S6.out.bel S6.out.res1 S6.out.res2 (.int .i64 ka) (.slice Aa ea.length ca) (.int .i64 sa) (.int .i64 kb) (.slice Ab eb.length cb) (.int .i64 sb))
          have HFG := Lib.hid (fin6B S6.out.bel S6.out.res1 S6.out.res2 (.int .i64 ka) (.slice Aa ea.length ca) (.int .i64 sa) (.int .i64 kb) (.slice Ab eb.length cb) (.int .i64 sb))
          have G1 := gset3 (w := w6) (g := w.heap.size) (.int .i64 ka) (.slice Aa ea.length ca) (.int .i64 sa)
          have G2 := gset3 (w := w6) (g := w.heap.size + 1) (.int .i64 kb) (.slice Ab eb.length cb) (.int .i64 sb)
          obtain ⟨i0, i1, i2, _, _, _, _⟩ := cell3 (gblk G1 S6.out.boxa (by simp; omega))
          obtain ⟨j0', j1, j2, _, _, _, _⟩ := cell3 (gblk G1 S6.out.boxb (by simp; omega))
          obtain ⟨i6, i7, i8, i3, i4, i5, _⟩ := cell3 (gblk G1 S6.out.res2 (by simp))
          obtain ⟨l0, l1, l2, _, _, _, _⟩ := cell3 (gblk G2 S6.out.boxa (by simp; omega))
          obtain ⟨v0, v1, v2, _, _, _, _⟩ := cell3 (gblk G2 S6.out.boxb (by simp; omega))
          obtain ⟨l6, l7, l8, l3, l4, l5, _⟩ := cell3 (gblk G2 S6.out.res1 (by simp))
          obtain ⟨f0, f1, f2, _, _, _, _⟩ := cell3 HFF.out.2.1
          obtain ⟨g0, g1, g2, _, _, _, _⟩ := cell3 HFF.out.2.2.1
          obtain ⟨f0', f1', f2', _, _, _, _⟩ := cell3 HFG.out.2.1
          obtain ⟨g0', g1', g2', _, _, _, _⟩ := cell3 HFG.out.2.2.1
          clear G1 G2
          go_upto_region 12 with (fail)
          go_region
          all_goals (try go_wp2)
          all_goals first
            | exact bodyPost_ret (v := .tuple #[.agg #[.int .i64 ka, .slice Aa ea.length ca, .int .i64 sa], .agg #[.int .i64 kb, .slice Ab eb.length cb, .int .i64 sb]]) (by simp [results, Try.results34, go_sem, f0, f1, f2, g0, g1, g2]) rfl ⟨Aa, ca, ka, ea, sa, Ab, cb, kb, eb, sb, rfl, by omega, by omega, S6.out.hca, S6.out.hcb, (HFF.out.2.2.2 _ _ _ _ (g + 1) (by omega) S6.out.owna).drew.rd, (HFF.out.2.2.2 _ _ _ _ (g + 1) (by omega) S6.out.ownb).drew.rd, below_drew HFF.out.1⟩
            | exact bodyPost_ret (v := .tuple #[.agg #[.int .i64 ka, .slice Aa ea.length ca, .int .i64 sa], .agg #[.int .i64 kb, .slice Ab eb.length cb, .int .i64 sb]]) (by simp [results, Try.results34, go_sem, f0', f1', f2', g0', g1', g2']) rfl ⟨Aa, ca, ka, ea, sa, Ab, cb, kb, eb, sb, rfl, by omega, by omega, S6.out.hca, S6.out.hcb, (HFG.out.2.2.2 _ _ _ _ (g + 1) (by omega) S6.out.owna).drew.rd, (HFG.out.2.2.2 _ _ _ _ (g + 1) (by omega) S6.out.ownb).drew.rd, below_drew HFG.out.1⟩
        · -- b, a
          have HFF := Lib.hid (fin6A S6.out.bel S6.out.res1 S6.out.res2 (.int .i64 kb) (.slice Ab eb.length cb) (.int .i64 sb) (.int .i64 ka) (.slice Aa ea.length ca) (.int .i64 sa))
          have HFG := Lib.hid (fin6B S6.out.bel S6.out.res1 S6.out.res2 (.int .i64 kb) (.slice Ab eb.length cb) (.int .i64 sb) (.int .i64 ka) (.slice Aa ea.length ca) (.int .i64 sa))
          have G1 := gset3 (w := w6) (g := w.heap.size) (.int .i64 kb) (.slice Ab eb.length cb) (.int .i64 sb)
          have G2 := gset3 (w := w6) (g := w.heap.size + 1) (.int .i64 ka) (.slice Aa ea.length ca) (.int .i64 sa)
          obtain ⟨i0, i1, i2, _, _, _, _⟩ := cell3 (gblk G1 S6.out.boxa (by simp; omega))
          obtain ⟨j0', j1, j2, _, _, _, _⟩ := cell3 (gblk G1 S6.out.boxb (by simp; omega))
          obtain ⟨i6, i7, i8, i3, i4, i5, _⟩ := cell3 (gblk G1 S6.out.res2 (by simp))
          obtain ⟨l0, l1, l2, _, _, _, _⟩ := cell3 (gblk G2 S6.out.boxa (by simp; omega))
          obtain ⟨v0, v1, v2, _, _, _, _⟩ := cell3 (gblk G2 S6.out.boxb (by simp; omega))
          obtain ⟨l6, l7, l8, l3, l4, l5, _⟩ := cell3 (gblk G2 S6.out.res1 (by simp))
          obtain ⟨f0, f1, f2, _, _, _, _⟩ := cell3 HFF.out.2.1
          obtain ⟨g0, g1, g2, _, _, _, _⟩ := cell3 HFF.out.2.2.1
          obtain ⟨f0', f1', f2', _, _, _, _⟩ := cell3 HFG.out.2.1
          obtain ⟨g0', g1', g2', _, _, _, _⟩ := cell3 HFG.out.2.2.1
          clear G1 G2
          go_upto_region 11 with (fail)
          go_region
          all_goals (try go_wp2)
          all_goals first
            | exact bodyPost_ret (v := .tuple #[.agg #[.int .i64 kb, .slice Ab eb.length cb, .int .i64 sb], .agg #[.int .i64 ka, .slice Aa ea.length ca, .int .i64 sa]]) (by simp [results, Try.results34, go_sem, f0, f1, f2, g0, g1, g2]) rfl ⟨Ab, cb, kb, eb, sb, Aa, ca, ka, ea, sa, rfl, by omega, by omega, S6.out.hcb, S6.out.hca, (HFF.out.2.2.2 _ _ _ _ (g + 1) (by omega) S6.out.ownb).drew.rd, (HFF.out.2.2.2 _ _ _ _ (g + 1) (by omega) S6.out.owna).drew.rd, below_drew HFF.out.1⟩
            | exact bodyPost_ret (v := .tuple #[.agg #[.int .i64 kb, .slice Ab eb.length cb, .int .i64 sb], .agg #[.int .i64 ka, .slice Aa ea.length ca, .int .i64 sa]]) (by simp [results, Try.results34, go_sem, f0', f1', f2', g0', g1', g2']) rfl ⟨Ab, cb, kb, eb, sb, Aa, ca, ka, ea, sa, rfl, by omega, by omega, S6.out.hcb, S6.out.hca, (HFG.out.2.2.2 _ _ _ _ (g + 1) (by omega) S6.out.ownb).drew.rd, (HFG.out.2.2.2 _ _ _ _ (g + 1) (by omega) S6.out.owna).drew.rd, below_drew HFG.out.1⟩
end Go.Proofs.Ytapkgncmjinedaa
