/- A further entry of a log, in the reference, for every input. -/
import Derived.Test.YtapkgncmjinedaaAuw
import Derived.Deep.RegionLaw
namespace Go.Proofs.Ytapkgncmjinedaa
open Go.RowKit Go.Sort

set_option maxRecDepth 100000 in
set_option maxHeartbeats 1600000 in
theorem callOwnAudit (A : Option Addr) (c : Nat) (es : List Int) (key sum : Int) (w : World) (B : Nat) (hB : B ≤ w.heap.size) (hm : es.length ≤ 1048576) (hr : Rd eInt w B A es) :
    Calls Try.prog 70 #[.agg #[.int .i64 key, .slice A es.length c, .int .i64 sum]] w (AudOut w key es sum) := by
  have K0 := Lib.hid (blkc (alloc_at1 w (.cells #[.int .i64 key, .slice A es.length c, .int .i64 sum] 37) (.cells #[.int .i64 0, .slice none 0 0, .int .i64 0] 37)) (below2 _ (.cells #[.int .i64 key, .slice A es.length c, .int .i64 sum] 37) (.cells #[] 3)))
  have J0 := heap_alloc_new ((w.alloc (.cells #[.int .i64 key, .slice A es.length c, .int .i64 sum] 37)).alloc (.cells #[.int .i64 0, .slice none 0 0, .int .i64 0] 37)) (.cells #[.int .i64 key, .slice A es.length c, .int .i64 sum] 37)
  simp only [World.size_alloc] at J0
  have HJ0 := Lib.hid (blkc J0 (below1 _ (.cells #[] 3)))
  have HB0 := Lib.hid (bel_trans (below3 w (.cells #[.int .i64 key, .slice A es.length c, .int .i64 sum] 37) (.cells #[.int .i64 0, .slice none 0 0, .int .i64 0] 37) (.cells #[.int .i64 key, .slice A es.length c, .int .i64 sum] 37)) (below1 _ (.cells #[] 3)))
  have HR := Lib.hid ((hr.below (HB0.out.mono hB)).mono (Nat.le_trans hB HB0.out.size))
  clear hr J0
  go_enter Try.func70, Try.ntmps70
  go_wp2_with (at_builtin; refine wpList_app _ eiInt rfl (.tmp 5) (.tmp 7) rfl (w.heap.size + 1 + 1 + 1) Own.none_ HR.out rfl rfl rfl (by simp; omega) (by simp) ?_; intro v' w4 row hown4' hg4 hrow4; have hown4 : Own eInt 3 w4 (w.heap.size + 1 + 1 + 1) v' es := (by (have := hown4'; simpa using this)); obtain ⟨A4, c4, hv4, hc4, _⟩ := hown4.form; subst hv4; have HO4 := Lib.hid hown4; have HB4 : Hid (Below w.heap.size w w4) := HB0.out.grown hg4 (by simp; omega) (fun k hk => by have := (hrow4 k hk).1; omega); have HJ4 := Lib.hid (aud_box HJ0.out hg4 hrow4); have HK4 := Lib.hid (aud_box K0.out hg4 hrow4); clear hown4 hown4' hg4 hrow4; obtain ⟨y0, y1, y2, y3, y4, y5, y6⟩ := cell3 HJ4.out; obtain ⟨z0, z1, z2, z3, z4, z5, z6⟩ := cell3 HK4.out)
  have HK5 := gblk (gset (w := w4) (g := w.heap.size + 1 + 1) 1 (.slice A4 es.length c4)) HK4.out (by simp <;> omega)
  obtain ⟨s0, s1, s2⟩ := res3 HK5 (.int .i64 key) (.slice A4 es.length c4) (.int .i64 sum)
  clear HK5
  refine bodyPost_ret (v := .agg #[.int .i64 key, .slice A4 es.length c4, .int .i64 sum]) (by simp [results, Try.results70, go_sem, s0, s1, s2]) rfl ⟨A4, c4, rfl, ?_, hc4, ?_⟩
  · exact ((HO4.out.kept (gset 1 _) (fun k hk => by cases hk; omega)).kept (gset3 _ _ _) (fun k hk => by cases hk; omega)).more (by omega)
  · exact bset3 (HB4.out.setCell (p := ⟨w.heap.size + 1 + 1, 1, none⟩) (by show w.heap.size ≤ w.heap.size + 1 + 1; omega) _) (by omega) _ _ _
set_option maxRecDepth 100000 in
set_option maxHeartbeats 6400000 in
theorem callSAppendAudit (A : Option Addr) (c : Nat) (es : List Int) (key sum entry : Int) (w : World) (B : Nat) (hB : B ≤ w.heap.size) (hm : es.length ≤ 1048576) (hr : Rd eInt w B A es) :
    Calls Try.prog 28 #[.agg #[.int .i64 key, .slice A es.length c, .int .i64 sum], .int .i64 entry] w (AppOut w (auditAdd key es sum entry)) := by
  have OWN := Lib.hid (callOwnAudit A c es key sum ((w.alloc (.cells #[.int .i64 key, .slice A es.length c, .int .i64 sum] 37)).alloc (.cells #[.int .i64 0, .slice none 0 0, .int .i64 0] 37)) B (by simp; omega) hm (hr.below ((below2 _ _ _).mono hB)))
  have K0 := Lib.hid (alloc_at0 w (.cells #[.int .i64 key, .slice A es.length c, .int .i64 sum] 37) (.cells #[.int .i64 0, .slice none 0 0, .int .i64 0] 37))
  have K1 := Lib.hid (alloc_at1 w (.cells #[.int .i64 key, .slice A es.length c, .int .i64 sum] 37) (.cells #[.int .i64 0, .slice none 0 0, .int .i64 0] 37))
  have HSZ := Lib.hid (show w.heap.size + 1 + 1 ≤ ((w.alloc (.cells #[.int .i64 key, .slice A es.length c, .int .i64 sum] 37)).alloc (.cells #[.int .i64 0, .slice none 0 0, .int .i64 0] 37)).heap.size by simp)
  have HBAD : Hid (auditOk key es sum = false → auditAdd key es sum entry = ((0, [], 0), false)) := add_bad
  have HFULL : Hid (auditOk key es sum = true → es.length = 60 → auditAdd key es sum entry = ((key, es, sum), false)) := add_full
  have HGOOD : Hid (auditOk key es sum = true → es.length ≠ 60 → auditAdd key es sum entry = ((key, es ++ [entry], mixStep sum entry), true)) := add_good
  obtain ⟨r, hrr⟩ : ∃ r, r = auditAdd key es sum entry := ⟨_, rfl⟩
  rw [← hrr] at HBAD HFULL HGOOD ⊢
  clear hr hrr
  go_enter Try.func28, Try.ntmps28
  go_wp2_with fail
  refine OWN.out.mono ?_
  rintro e w1 ⟨A1, c1, rfl, hown1, hc1, hb1⟩
  have KP1 := Lib.hid (blkc K0.out hb1)
  have HW1 := Lib.hid (bel_trans (below2 w (.cells #[.int .i64 key, .slice A es.length c, .int .i64 sum] 37) (.cells #[.int .i64 0, .slice none 0 0, .int .i64 0] 37)) hb1)
  have hs1 : w.heap.size + 1 < w1.heap.size := (cell3 (blkc K1.out hb1)).2.2.2.2.2.2
  have HB1 := Lib.hid (bset3 HW1.out (Nat.le_refl _) (.int .i64 key) (.slice A1 es.length c1) (.int .i64 sum))
  have KB1 := Lib.hid (set3 (u := .int .i64 key) (v := .slice A1 es.length c1) (t := .int .i64 sum) KP1.out)
  have KR1 := Lib.hid (gblk (gset3 (g := w.heap.size) (.int .i64 key) (.slice A1 es.length c1) (.int .i64 sum)) (blkc K1.out hb1) (by simp))
  have HO1 := Lib.hid ((hown1.more (base' := w.heap.size + 1 + 1) HSZ.out).kept (gset3 (g := w.heap.size) (.int .i64 key) (.slice A1 es.length c1) (.int .i64 sum)) (fun k hk => by cases hk; omega))
  clear hb1 hown1 OWN HSZ HW1 K0 K1
  obtain ⟨p0, p1, p2, p3, p4, p5, p6⟩ := cell3 KP1.out
  go_upto_region 2 with (fail)
  obtain ⟨v1, hv1⟩ : ∃ v1, v1 = (((w1.setCell ⟨w.heap.size, 0, none⟩ (.int .i64 key)).setCell ⟨w.heap.size, 1, none⟩ (.slice A1 es.length c1)).setCell ⟨w.heap.size, 2, none⟩ (.int .i64 sum)) := ⟨_, rfl⟩
  rw [← hv1] at HB1 KB1 KR1 HO1 ⊢
  have hs2 : w.heap.size + 1 < v1.heap.size := by rw [hv1]; simp; omega
  clear hv1 p0 p1 p2 p3 p4 p5 p6 KP1
  have V := Lib.hid (callSAuditValid A1 c1 es key sum v1 v1.heap.size (Nat.le_refl _) hm HO1.out.rd)
  obtain ⟨b0, b1, b2, _, _, _, b6⟩ := cell3 KB1.out
  go_wp2_with fail
  refine V.out.mono ?_
  rintro e w2 ⟨rfl, hb2⟩
  have HB2 := Lib.hid (bel_trans HB1.out hb2)
  have KB2 := Lib.hid (blkc KB1.out hb2)
  have KR2 := Lib.hid (blkc KR1.out hb2)
  have HO2 := Lib.hid (HO1.out.next hb2)
  have hs2 : w.heap.size + 1 < w2.heap.size := (cell3 KR2.out).2.2.2.2.2.2
  clear hb2 V b0 b1 b2 b6 HB1 KB1 KR1 HO1
  cases q1 : auditOk key es sum
  · obtain rfl := HBAD.out q1
    clear HBAD HFULL HGOOD q1
    obtain ⟨a0, a1, a2, a3, a4, a5, a6⟩ := cell3 KR2.out
    obtain ⟨s0, s1, s2⟩ := res3 KR2.out (.int .i64 0) (.slice none 0 0) (.int .i64 0)
    go_wp2_with fail
    exact bodyPost_ret (v := .tuple #[.agg #[.int .i64 0, .slice none 0 0, .int .i64 0], .bool false]) (by simp [results, Try.results28, go_sem, s0, s1, s2]) rfl ⟨none, 0, rfl, Own.none_, Nat.le_refl _, bset3 HB2.out (by omega) _ _ _⟩
  · have HQ := Lib.hid q1
    have hl60 := (auditOk_iff.1 q1).1
    have HS := Lib.hid (auditOk_sum q1)
    have HF1 : Hid (es.length = 60 → r = ((key, es, sum), false)) := HFULL.out q1
    have HG1 : Hid (es.length ≠ 60 → r = ((key, es ++ [entry], mixStep sum entry), true)) := HGOOD.out q1
    clear HBAD HFULL HGOOD q1
    obtain ⟨x0, x1, x2, _, _, _, x6⟩ := cell3 KB2.out
    have RDs : Hid (∀ W, Below w2.heap.size w2 W → Rd eInt W W.heap.size A1 es) := fun W hW => (HO2.out.rd.below hW).mono hW.size
    have CLs : Hid (∀ W, Below w2.heap.size w2 W → W.heap[w.heap.size]? = some (.cells #[.int .i64 key, .slice A1 es.length c1, .int .i64 sum] 37 (0, 0))) := fun W hW => blkc KB2.out hW
    have Ba : Hid (Below w2.heap.size w2 (w2.alloc (.cells #[] 3)).drew) := (below1 _ _).drew
    have Bb : Hid (Below w2.heap.size w2 ((w2.alloc (.cells #[] 3)).alloc (.cells #[.int .i64 0, .slice none 0 0, .int .i64 0] 37)).drew) := (below2 _ _ _).drew
    have Bc : Hid (Below w2.heap.size w2 ((w2.alloc (.cells #[.int .i64 0, .slice none 0 0, .int .i64 0] 37)).alloc (.cells #[] 3)).drew) := (below2 _ _ _).drew
    have Xb : Hid (((w2.alloc (.cells #[] 3)).alloc (.cells #[.int .i64 0, .slice none 0 0, .int .i64 0] 37)).drew.heap[w2.heap.size + 1]? = some (.cells #[.int .i64 0, .slice none 0 0, .int .i64 0] 37 (0, 0))) := alloc_at1 _ _ _
    have Xc : Hid (((w2.alloc (.cells #[.int .i64 0, .slice none 0 0, .int .i64 0] 37)).alloc (.cells #[] 3)).drew.heap[w2.heap.size]? = some (.cells #[.int .i64 0, .slice none 0 0, .int .i64 0] 37 (0, 0))) := alloc_at0 _ _ _
    have hroom : Hid (([] : List Int).length + es.length ≤ 1073741824) := by show 0 + _ ≤ _; omega
    obtain ⟨xa0, xa1, xa2, _, _, _, _⟩ := cell3 (CLs.out _ Ba.out)
    obtain ⟨xb0, xb1, xb2, _, _, _, _⟩ := cell3 (CLs.out _ Bb.out)
    obtain ⟨xc0, xc1, xc2, _, _, _, _⟩ := cell3 (CLs.out _ Bc.out)
    obtain ⟨xd0, xd1, xd2, _, _, _, _⟩ := cell3 (CLs.out _ (below1 w2 (.cells #[.int .i64 0, .slice none 0 0, .int .i64 0] 37)).drew)
    go_upto_region 4 with (fail)
    go_cut [6] (fun s6 wx => ∃ X A' c', s6 = .pointer (some ⟨X, 0, none⟩) ∧ Hid (RAS w2 X w2.heap.size A' c' key es sum wx ∧ es.length ≤ c' ∧ w2.heap.size ≤ X))
    case first =>
      go_region_held3 (fun w' => w'.cell? ⟨w.heap.size, 0, none⟩ = some (.int .i64 key) ∧ w'.cell? ⟨w.heap.size, 1, none⟩ = some (.slice A1 es.length c1) ∧ w'.cell? ⟨w.heap.size, 2, none⟩ = some (.int .i64 sum)) (first | exact ⟨x0, x1, x2⟩ | exact ⟨xa0, xa1, xa2⟩ | exact ⟨xb0, xb1, xb2⟩ | exact ⟨xc0, xc1, xc2⟩ | exact ⟨xd0, xd1, xd2⟩ | (refine ⟨?_, ?_, ?_⟩ <;> assumption) | (refine ⟨?_, ?_, ?_⟩ <;> (rw [World.cell?_setCell_other _ _ _ _ (fun e => by injection e with e1 _ _; omega), World.cell?_setCell_other _ _ _ _ (fun e => by injection e with e1 _ _; omega), World.cell?_setCell_other _ _ _ _ (fun e => by injection e with e1 _ _; omega)]; assumption)) | go_keep)
        (first
          | (refine step_app (w := (w2.alloc (.cells #[] 3)).drew) (n := es.length) (c := c1) eiInt rfl (.tmp 15) (.tmp 17) rfl w2.heap.size (xs := []) (Own.none_ (A := some ⟨w2.heap.size, 0, none⟩)) (RDs.out _ Ba.out) rfl (by simp [Act.eval]) (by simp [Act.eval]) hroom.out Ba.out.size ?_; intro v' w4 row hown4' hg4 hrow4; have hown4 : Own eInt 3 w4 w2.heap.size v' es := hown4'; obtain ⟨A4, c4, hv4, hc4, _⟩ := hown4.form; subst hv4; have hb4 := Ba.out.trans (below_of_row hg4 (fun k hk => (hrow4 k hk).1) Ba.out.size); obtain ⟨n0, n1, n2, _, _, _, _⟩ := cell3 (CLs.out _ hb4); obtain ⟨na0, na1, na2, _, _, _, _⟩ := cell3 (CLs.out _ (bel_trans hb4 (below1 w4 (.cells #[.int .i64 0, .slice none 0 0, .int .i64 0] 37)))); obtain ⟨nb0, nb1, nb2, _, _, _, _⟩ := cell3 (CLs.out _ (bel_trans hb4 (below1 w4 (.cells #[.int .i64 key, .slice A4 es.length c4, .int .i64 sum] 37)))); have hx4 := True.intro)
          | (refine step_app (w := ((w2.alloc (.cells #[] 3)).alloc (.cells #[.int .i64 0, .slice none 0 0, .int .i64 0] 37)).drew) (n := es.length) (c := c1) eiInt rfl (.tmp 15) (.tmp 17) rfl w2.heap.size (xs := []) (Own.none_ (A := some ⟨w2.heap.size, 0, none⟩)) (RDs.out _ Bb.out) rfl (by simp [Act.eval]) (by simp [Act.eval]) hroom.out Bb.out.size ?_; intro v' w4 row hown4' hg4 hrow4; have hown4 : Own eInt 3 w4 w2.heap.size v' es := hown4'; obtain ⟨A4, c4, hv4, hc4, _⟩ := hown4.form; subst hv4; have hb4 := Bb.out.trans (below_of_row hg4 (fun k hk => (hrow4 k hk).1) Bb.out.size); obtain ⟨n0, n1, n2, _, _, _, _⟩ := cell3 (CLs.out _ hb4); have hx4 := aud_box Xb.out hg4 hrow4; obtain ⟨m0, m1, m2, m3, m4, m5, m6⟩ := cell3 hx4)
          | (refine step_app (w := ((w2.alloc (.cells #[.int .i64 0, .slice none 0 0, .int .i64 0] 37)).alloc (.cells #[] 3)).drew) (n := es.length) (c := c1) eiInt rfl (.tmp 15) (.tmp 17) rfl w2.heap.size (xs := []) (Own.none_ (A := some ⟨w2.heap.size + 1, 0, none⟩)) (RDs.out _ Bc.out) rfl (by simp [Act.eval]) (by simp [Act.eval]) hroom.out Bc.out.size ?_; intro v' w4 row hown4' hg4 hrow4; have hown4 : Own eInt 3 w4 w2.heap.size v' es := hown4'; obtain ⟨A4, c4, hv4, hc4, _⟩ := hown4.form; subst hv4; have hb4 := Bc.out.trans (below_of_row hg4 (fun k hk => (hrow4 k hk).1) Bc.out.size); obtain ⟨n0, n1, n2, _, _, _, _⟩ := cell3 (CLs.out _ hb4); have hx4 := aud_box Xc.out hg4 hrow4; obtain ⟨m0, m1, m2, m3, m4, m5, m6⟩ := cell3 hx4))
      all_goals (go_wp2_with fail; go_meet)
      all_goals first | exact aud_after hb4 hown4 hc4 | exact aud_ahead hb4 hown4 hc4 hx4 (Nat.le_refl _) | exact aud_ahead hb4 hown4 hc4 hx4 (Nat.le_succ _)
    case rest =>
      obtain ⟨X, A4, c4, rfl, HC⟩ := hcut
      have hXs := HC.out.2.2
      have hc4 := HC.out.2.1
      have SR := Lib.hid HC.out.1
      have KBc := Lib.hid (blkc KB2.out SR.out.bel)
      have KRc := Lib.hid (blkc KR2.out SR.out.bel)
      have HBc := Lib.hid (bel_trans HB2.out SR.out.bel)
      have KB2' := Lib.hid KB2.out
      have KR2' := Lib.hid KR2.out
      clear HC x0 x1 x2 x6 xa0 xa1 xa2 xb0 xb1 xb2 xc0 xc1 xc2 xd0 xd1 xd2 Ba Bb Bc Xb Xc RDs CLs KB2 KR2 hroom
      obtain ⟨x0, x1, x2, x3, x4, x5, x6⟩ := cell3 SR.out.box
      obtain ⟨b0, b1, b2, _, _, _, b6⟩ := cell3 KBc.out
      by_cases h60 : es.length = 60
      · obtain rfl := HF1.out h60
        have hd : ((es.length : Int) == 60) = true := by rw [h60]; rfl
        have HL60 := Lib.hid h60
        clear h60
        obtain ⟨a0, a1, a2, a3, a4, a5, a6⟩ := cell3 KRc.out
        obtain ⟨s0, s1, s2⟩ := res3 KRc.out (.int .i64 key) (.slice A4 es.length c4) (.int .i64 sum)
        go_wp2_with fail
        exact bodyPost_ret (v := .tuple #[.agg #[.int .i64 key, .slice A4 es.length c4, .int .i64 sum], .bool false]) (by simp [results, Try.results28, go_sem, s0, s1, s2]) rfl ⟨A4, c4, rfl, (SR.out.own.kept (gset3 _ _ _) (fun k hk => by cases hk; omega)).more (by omega), hc4, bset3 HBc.out (by omega) _ _ _⟩
      · have hrg := HG1.out h60
        have hd : ((es.length : Int) == 60) = false := by rw [beq_eq_false_iff_ne]; omega
        obtain ⟨es2, hes2⟩ : ∃ es2, es2 = es ++ [entry] := ⟨_, rfl⟩
        have HE2 := Lib.hid hes2
        have hl2 : es2.length ≤ 61 := by rw [hes2]; simp; omega
        rw [← hes2] at hrg
        have HRG := Lib.hid hrg
        clear hes2 HF1 HG1 hrg h60
        go_upto_region 8 with (at_builtin; refine wpList_app _ eiInt rfl (.tmp 28) (.tmp 30) rfl w2.heap.size (SR.out.own.alloc _) (Rd.new (E := eInt) (xs := [entry]) _ _ _ rfl) rfl rfl rfl (by simp; omega) (by have := SR.out.bel.size; simp; omega) ?_; intro v' w6 row hown5 hg5 hrow5; rw [← HE2.out] at hown5; obtain ⟨A6, c6, hv5, hc5, _⟩ := hown5.form; subst hv5; have HX6 := Lib.hid (aud_box (blkc SR.out.box (below1 wc (.cells #[.int .i64 entry] 3))) hg5 hrow5); have HB6 : Hid (Below w2.heap.size w2 w6) := (bel_trans SR.out.bel (below1 wc (.cells #[.int .i64 entry] 3))).grown hg5 (by have := SR.out.bel.size; simp; omega) (fun k hk => (hrow5 k hk).1); have HO6 := Lib.hid hown5; have HC6 := Lib.hid hc5; clear hown5 hg5 hrow5 hc5; obtain ⟨m0, m1, m2, m3, m4, m5, m6⟩ := cell3 HX6.out)
        have S7 := Lib.hid (RAS.set1 HB6.out HX6.out HO6.out hXs)
        have KR7 := Lib.hid (blkc KRc.out (Below.refl _ _))
        have KB6 : Hid ((w6.setCell ⟨X, 1, none⟩ (.slice A6 es2.length c6)).heap[w.heap.size]? = some (.cells #[.int .i64 key, .slice A1 es.length c1, .int .i64 sum] 37 (0, 0))) := (S7.out.bel.block _ (by omega)).trans KB2'.out
        have KR6 : Hid ((w6.setCell ⟨X, 1, none⟩ (.slice A6 es2.length c6)).heap[w.heap.size + 1]? = some (.cells #[.int .i64 0, .slice none 0 0, .int .i64 0] 37 (0, 0))) := (S7.out.bel.block _ (by omega)).trans KR2'.out
        obtain ⟨v7, hv7⟩ : ∃ v7, v7 = w6.setCell ⟨X, 1, none⟩ (.slice A6 es2.length c6) := ⟨_, rfl⟩
        rw [← hv7] at S7 KB6 KR6 ⊢
        clear hv7 KR7 HX6 HB6 HO6 m0 m1 m2 m3 m4 m5 m6 SR KBc KRc HBc x0 x1 x2 x3 x4 x5 x6 b0 b1 b2 b6
        have hX7 : w2.heap.size ≤ v7.heap.size := S7.out.bel.size
        have MX := callSMix (some ⟨v7.heap.size, 0, none⟩) 1 [entry] sum (v7.alloc (.cells #[.int .i64 entry] 3)) _ (by simp) (Rd.new (E := eInt) (xs := [entry]) v7 _ _ rfl)
        rw [mixN_in HS.out, mixF_one] at MX
        have HMX := Lib.hid MX
        clear MX
        obtain ⟨ns, hns⟩ : ∃ ns, ns = mixStep sum entry := ⟨_, rfl⟩
        rw [← hns] at HMX HRG
        clear hns
        obtain ⟨b0, b1, b2, _, _, _, b6⟩ := cell3 KB6.out
        obtain ⟨x0, x1, x2, x3, x4, x5, x6⟩ := cell3 S7.out.box
        go_wp2_with fail
        refine HMX.out.mono ?_
        rintro e w8 ⟨rfl, rfl⟩
        have S8 := Lib.hid ((S7.out.set2 hXs ns).next (by simp; omega) (below1 _ (.cells #[.int .i64 entry] 3)))
        have KR8 := Lib.hid (blkc (gblk (gset (w := v7) (g := X) 2 (.int .i64 ns)) KR6.out (by simp; omega)) (below1 _ (.cells #[.int .i64 entry] 3)))
        obtain ⟨y0, y1, y2, y3, y4, y5, y6⟩ := cell3 S8.out.box
        obtain ⟨a0, a1, a2, a3, a4, a5, a6⟩ := cell3 KR8.out
        obtain ⟨s0, s1, s2⟩ := res3 KR8.out (.int .i64 key) (.slice A6 es2.length c6) (.int .i64 ns)
        go_upto_region 9 with (fail)
        have HBF := Lib.hid (bset3 (bel_trans HB2.out S8.out.bel) (Nat.le_succ w.heap.size) (.int .i64 key) (.slice A6 es2.length c6) (.int .i64 ns))
        have HOF := Lib.hid ((S8.out.own.kept (gset3 (g := w.heap.size + 1) (.int .i64 key) (.slice A6 es2.length c6) (.int .i64 ns)) (fun k hk => by cases hk; omega)).more (base' := w.heap.size) (by omega))
        obtain ⟨v8, hv8⟩ : ∃ v8, v8 = (v7.setCell ⟨X, 2, none⟩ (.int .i64 ns)).alloc (.cells #[.int .i64 entry] 3) := ⟨_, rfl⟩
        rw [← hv8] at HBF HOF y0 y1 y2 y3 y4 y5 y6 a0 a1 a2 a3 a4 a5 a6 s0 s1 s2 ⊢
        clear hv8 S8 KR8 HMX b0 b1 b2 b6 x0 x1 x2 x3 x4 x5 x6
        go_wp2_with fail
        exact bodyPost_ret (v := .tuple #[.agg #[.int .i64 key, .slice A6 es2.length c6, .int .i64 ns], .bool true]) (by simp [results, Try.results28, go_sem, s0, s1, s2]) rfl (by rw [HRG.out]; exact ⟨A6, c6, rfl, HOF.out, HC6.out, HBF.out⟩)
end Go.Proofs.Ytapkgncmjinedaa
