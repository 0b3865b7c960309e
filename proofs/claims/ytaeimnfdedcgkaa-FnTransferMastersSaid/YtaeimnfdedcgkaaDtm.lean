/- What DrawTransferMasters leaves: partitions and a transfer, whatever the bytes. -/
import Derived.Test.YtaeimnfdedcgkaaDrp
namespace Go.Proofs.Ytaeimnfdedcgkaa
open Go.RowKit Go.Sort

theorem OwnP.other {w w' : World} {base X : Nat} {v : Value} {ps : List Prt} (h : OwnP w base v ps) (hg : w.grownBy w' (some X)) (hX : ∃ cur fr, w.heap[X]? = some (.cells cur 25 fr)) : OwnP w' base v ps := by
  obtain ⟨cur, fr, hb⟩ := hX
  exact ⟨h.1.keptOther hg (fun k hk => by cases hk; exact .inr ⟨cur, _, _, hb, by decide⟩), fun p hp => (h.2 p hp).grown hg (fun k hk => by cases hk; exact .inr ⟨cur, _, _, hb, by decide⟩)⟩
theorem RdP.drew' {w : World} {A : Option Addr} {ps : List Prt} (h : RdP w w.heap.size A ps) : RdP w.drew w.drew.heap.size A ps := h

/-- What is known beside the reader: what was there, two boxes, the partitions. -/
structure SM (w0 : World) (g M R X base : Nat) (v : Value) (ps : List Prt) (wx : World) : Prop where
  rdr : Rdr wx g M
  bel : Below w0.heap.size w0 wx
  r : B3 25 wx R
  x : B3 25 wx X
  own : OwnP wx base v ps
  hgw : w0.heap.size ≤ g
  hR : w0.heap.size ≤ R
  hRg : R < g
  hgb : g < base
  hX : base ≤ X
theorem SM.step {w0 : World} {g M M' R X base : Nat} {v : Value} {ps : List Prt} {wx w' : World} (h : SM w0 g M R X base v ps wx) (hr : Rdr w' g M') (hg : wx.grownBy w' (some g)) : SM w0 g M' R X base v ps w' :=
  ⟨hr, h.bel.trans ((Below.refl _ _).grown hg h.bel.size (fun k hk => by cases hk; exact h.hgw)), h.r.keep hg (by have := h.hRg; simp; omega), h.x.keep hg (by have := h.hgb; have := h.hX; simp; omega), h.own.pick hg h.hgb, h.hgw, h.hR, h.hRg, h.hgb, h.hX⟩
theorem SM.drew {w0 : World} {g M R X base : Nat} {v : Value} {ps : List Prt} {wx : World} (h : SM w0 g M R X base v ps wx) : SM w0 g M R X base v ps wx.drew :=
  ⟨h.rdr, ⟨h.bel.os, h.bel.tape, h.bel.output, h.bel.size, h.bel.block⟩, h.r, h.x, h.own, h.hgw, h.hR, h.hRg, h.hgb, h.hX⟩
theorem SM.setX {w0 : World} {g M R X base : Nat} {v : Value} {ps : List Prt} {wx : World} (h : SM w0 g M R X base v ps wx) (o : Nat) (u : Value) (hx : B3 25 (wx.setCell ⟨X, o, none⟩ u) X) : SM w0 g M R X base v ps (wx.setCell ⟨X, o, none⟩ u) :=
  ⟨h.rdr.setNew (by show g < X; have := h.hgb; have := h.hX; omega) u, h.bel.setCell (by show _ ≤ X; have := h.hgb; have := h.hX; have := h.hgw; omega) u, h.r.far (by show R ≠ X; have := h.hRg; have := h.hgb; have := h.hX; omega) u, hx,
    h.own.other (grown_set o u) (by obtain ⟨x, y, z, hb⟩ := h.x; exact ⟨_, _, hb⟩), h.hgw, h.hR, h.hRg, h.hgb, h.hX⟩
/-- The result's box is written: the reader is of no more use. -/
structure SR (w0 : World) (R base : Nat) (v : Value) (ps : List Prt) (wx : World) : Prop where
  bel : Below w0.heap.size w0 wx
  own : OwnP wx base v ps
  hR : w0.heap.size ≤ R
  blk : ∃ cur, wx.heap[R]? = some (.cells cur 25 (0, 0))
theorem SR.setR {w0 : World} {R base : Nat} {v : Value} {ps : List Prt} {wx : World} (h : SR w0 R base v ps wx) (o : Nat) (u : Value) : SR w0 R base v ps (wx.setCell ⟨R, o, none⟩ u) := by
  obtain ⟨cur, hb⟩ := h.blk
  exact ⟨h.bel.setCell (by show _ ≤ R; exact h.hR) u, h.own.other (grown_set o u) ⟨_, _, hb⟩, h.hR, ⟨_, heap_setCell_same wx R o cur _ u hb⟩⟩
theorem SM.setR {w0 : World} {g M R X base : Nat} {v : Value} {ps : List Prt} {wx : World} (h : SM w0 g M R X base v ps wx) (o : Nat) (u : Value) : SR w0 R base v ps (wx.setCell ⟨R, o, none⟩ u) :=
  SR.setR (R := R) ⟨h.bel, h.own, h.hR, by obtain ⟨x, y, z, hb⟩ := h.r; exact ⟨_, hb⟩⟩ o u

set_option maxRecDepth 100000 in
set_option maxHeartbeats 3200000 in
theorem callDrawTransferMasters (A : Option Addr) (c : Nat) (bs : List Int) (w : World) (hc : bs.length ≤ c) (hm : bs.length ≤ 1048576) (hr : Rd eU8 w w.heap.size A bs) (hby : ∀ x ∈ bs, 0 ≤ x ∧ x ≤ 255) :
    Calls Try.prog 33 #[.slice A bs.length c] w fun e w' =>
      ∃ A c ps t, e = .returned (.tuple #[.slice A (ps : List Prt).length c, (t : Trn).val]) ∧ RdP w' w'.heap.size A ps ∧ ps.length ≤ 10 ∧ Below w.heap.size w w' := by
  go_enter Try.func33, Try.ntmps33
  go_wp2_with fail
  refine (callOpen A c bs _ hc hm (hr.alloc _) hby).mono ?_
  rintro e w1 ⟨rfl, hr1, hb1⟩
  have hr1' : Rdr w1 (w.heap.size + 1) 0 := by simpa using hr1
  have hs1 : w.heap.size + 1 < w1.heap.size := hr1'.lt
  have R1 : B3 25 w1 w.heap.size := (B3.new w _ 0 0 false).keep (grownBy_of_below hb1 none) (by simp)
  have HB := Lib.hid (bel_trans (below1 _ _) hb1)
  have HR := Lib.hid (And.intro hr1' R1)
  clear hr1 hr1' hb1 R1
  go_wp2_with fail
  refine (callDrawParts (w.heap.size + 1) 0 12 _ HR.out.1 (by omega)).mono ?_
  rintro e w2 ⟨A2, c2, ps, rfl, hown, hp0, hp1, hr2, hg2⟩
  have H2 := Lib.hid (And.intro hown (And.intro hr2 (And.intro (HR.out.2.keep hg2 (by simp)) (HB.out.trans ((Below.refl _ _).grown hg2 (by omega) (fun k hk => by cases hk; omega))))))
  have hs2 : w1.heap.size ≤ w2.heap.size := hg2.size
  clear hown hr2 hg2 HB HR
  go_wp2_with fail
  refine (callDrawTransfer (w.heap.size + 1) _ 9 _ H2.out.2.1 (by omega)).mono ?_
  rintro e w3 ⟨⟨tp, tc, tw⟩, rfl, hr3, hg3⟩
  have hs3 : w2.heap.size ≤ w3.heap.size := hg3.size
  have H3 : Hid (SM w (w.heap.size + 1) (2000 + 7) w.heap.size w3.heap.size w1.heap.size (.slice A2 ps.length c2) ps (w3.alloc (.cells #[.int .i64 tp, .int .i64 tc, .bool tw] 25))) :=
    ⟨(hr3.more (by omega)).alloc _, (H2.out.2.2.2.trans ((Below.refl _ _).grown hg3 (by omega) (fun k hk => by cases hk; omega))).alloc (by omega) _, (H2.out.2.2.1.keep hg3 (by simp)).alloc _, B3.new w3 _ _ _ _, (H2.out.1.pick hg3 hs1).alloc _, by omega, by omega, by omega, hs1, by omega⟩
  clear hr3 hg3 H2
  obtain ⟨b, off, rfl, hbB, a1, a2⟩ := H3.out.own.rd.1.at2 rfl hp0 rfl
  simp only [Nat.zero_mul, Nat.add_zero, Nat.zero_add] at a1 a2
  have HW := Lib.hid (H3.out.own.rd.2 ps[0] (List.getElem_mem hp0))
  by_cases hwz : 0 < ps[0].wins.length
  · have hd : decide ((0 : Int) < (ps[0].wins.length : Int)) = true := decide_eq_true (by omega)
    go_wp2_with fail
    refine (callPick (w.heap.size + 1) _ _ _ H3.out.rdr (by omega)).mono ?_
    rintro e w4 ⟨k, rfl, d1, d2, _, hr4, hg4⟩
    have hk2 : k < 2 := by omega
    have H4 := Lib.hid (H3.out.step hr4 hg4)
    clear hr4 hg4 H3 a1 a2 d2 HW
    by_cases hk0 : k = 0
    · subst hk0
      obtain ⟨b', off', hAA, hbB', a1, a2⟩ := H4.out.own.rd.1.at2 rfl hp0 rfl
      simp only [Option.some.injEq, Addr.mk.injEq, and_true] at hAA
      obtain ⟨rfl, rfl⟩ := hAA
      simp only [Nat.zero_mul, Nat.add_zero, Nat.zero_add] at a1 a2
      have HW := Lib.hid (H4.out.own.rd.2 ps[0] (List.getElem_mem hp0))
      obtain ⟨b2, off2, hA2, hbB2, g1, g2, g3⟩ := HW.out.1.at3 (k := 0) rfl hwz rfl
      simp only [Nat.zero_mul, Nat.add_zero, Nat.zero_add] at g1 g2 g3
      rw [hA2] at a1
      clear hA2
      obtain ⟨x, y, z, e0, e1, e2, f0, f1, f2⟩ := H4.out.x.cells
      go_wp2_with fail
      go_region
      all_goals (try go_wp2_with fail)
      all_goals
        refine (callPick (w.heap.size + 1) _ _ _ (H4.out.setX 0 _ (H4.out.x.set0 _)).drew.rdr (by omega)).mono ?_
        rintro e w5 ⟨q, rfl, d3, d4, _, hr5, hg5⟩
        have hq2 : q < 2 := by omega
        have H5 := Lib.hid ((H4.out.setX 0 _ (H4.out.x.set0 _)).drew.step hr5 hg5)
        clear hr5 hg5 a1 a2 g1 g2 g3 e0 e1 e2 f0 f1 f2 HW
        obtain ⟨x, y, z, e0, e1, e2, f0, f1, f2⟩ := H5.out.x.cells
        go_wp2_with fail
        have H6 := Lib.hid (H5.out.setX 1 (.int .i64 (1 + q)) (H5.out.x.set1 (1 + q)))
        clear e0 e1 e2 f0 f1 f2
        obtain ⟨x, y, z, e0, e1, e2, f0, f1, f2⟩ := H6.out.x.cells
        obtain ⟨x', y', z', e0', e1', e2', f0', f1', f2'⟩ := H6.out.r.cells
        obtain ⟨s0, s1, s2⟩ := cells3_set (w := w5.setCell ⟨w3.heap.size, 1, none⟩ (.int .i64 (1 + q))) (x := .int .i64 x) (y := .int .i64 y) (z := .bool z) e0' e1' e2'
        go_region
        all_goals (try go_wp2)
        all_goals
          refine bodyPost_ret (v := .tuple #[.slice (some ⟨b, off, none⟩) ps.length c2, (⟨x, y, z⟩ : Trn).val]) (by simp [results, Try.results33, go_sem, s0, s1, s2]) rfl ⟨some ⟨b, off, none⟩, c2, ps, ⟨x, y, z⟩, rfl, ?_, hp1, ?_⟩
          · have q := (((H6.out.setR 0 (.int .i64 x)).setR 1 (.int .i64 y)).setR 2 (.bool z)).own
            exact RdP.drew' q.rd
          · have q := (((H6.out.setR 0 (.int .i64 x)).setR 1 (.int .i64 y)).setR 2 (.bool z)).bel
            exact ⟨q.os, q.tape, q.output, q.size, q.block⟩
    · have hk0' : (k == 0) = false := by rw [beq_eq_false_iff_ne]; exact hk0
      obtain ⟨x, y, z, e0, e1, e2, f0, f1, f2⟩ := H4.out.x.cells
      obtain ⟨x', y', z', e0', e1', e2', f0', f1', f2'⟩ := H4.out.r.cells
      obtain ⟨s0, s1, s2⟩ := cells3_set (w := w4) (x := .int .i64 x) (y := .int .i64 y) (z := .bool z) e0' e1' e2'
      go_wp2_with fail
      go_region
      all_goals (try go_wp2)
      all_goals
        refine bodyPost_ret (v := .tuple #[.slice (some ⟨b, off, none⟩) ps.length c2, (⟨x, y, z⟩ : Trn).val]) (by simp [results, Try.results33, go_sem, s0, s1, s2]) rfl ⟨some ⟨b, off, none⟩, c2, ps, ⟨x, y, z⟩, rfl, ?_, hp1, ?_⟩
        · have q := (((H4.out.setR 0 (.int .i64 x)).setR 1 (.int .i64 y)).setR 2 (.bool z)).own
          exact RdP.drew' q.rd
        · have q := (((H4.out.setR 0 (.int .i64 x)).setR 1 (.int .i64 y)).setR 2 (.bool z)).bel
          exact ⟨q.os, q.tape, q.output, q.size, q.block⟩
  · have hd : decide ((0 : Int) < (ps[0].wins.length : Int)) = false := decide_eq_false (by omega)
    obtain ⟨x, y, z, e0, e1, e2, f0, f1, f2⟩ := H3.out.x.cells
    obtain ⟨x', y', z', e0', e1', e2', f0', f1', f2'⟩ := H3.out.r.cells
    obtain ⟨s0, s1, s2⟩ := cells3_set (w := (w3.alloc (.cells #[.int .i64 tp, .int .i64 tc, .bool tw] 25))) (x := .int .i64 x) (y := .int .i64 y) (z := .bool z) e0' e1' e2'
    go_wp2_with fail
    go_region
    all_goals (try go_wp2)
    all_goals
      refine bodyPost_ret (v := .tuple #[.slice (some ⟨b, off, none⟩) ps.length c2, (⟨x, y, z⟩ : Trn).val]) (by simp [results, Try.results33, go_sem, s0, s1, s2]) rfl ⟨some ⟨b, off, none⟩, c2, ps, ⟨x, y, z⟩, rfl, ?_, hp1, ?_⟩
      · have q := (((H3.out.setR 0 (.int .i64 x)).setR 1 (.int .i64 y)).setR 2 (.bool z)).own
        exact RdP.drew' q.rd
      · have q := (((H3.out.setR 0 (.int .i64 x)).setR 1 (.int .i64 y)).setR 2 (.bool z)).bel
        exact ⟨q.os, q.tape, q.output, q.size, q.block⟩
end Go.Proofs.Ytaeimnfdedcgkaa
