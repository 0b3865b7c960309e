/- What DrawCoreValid, DrawRunCore and DrawStepCore leave. -/
import Derived.Test.YtiodpnhokjkjaaaCds
namespace Go.Proofs.Ytiodpnhokjkjaaa
open Go.RowKit Go.Sort

def CoreDrawn4 (w : World) (lo hi : Int) (e : Ending) (w' : World) : Prop :=
  ∃ A c cr A2 c2 os cells n, e = .returned (.tuple #[.agg #[.slice A (cr : Cor).cs.length c, .int .i64 cr.at', .bool cr.stop], .slice A2 (os : List Ord3).length c2, .int .i64 cells, .int .i64 n]) ∧ lo ≤ n ∧ n < hi ∧ cr.cs.length ≤ 5 ∧ cr.cs.length ≤ c ∧ os.length ≤ 21 ∧ os.length ≤ c2 ∧ Rd eInt w' w'.heap.size A cr.cs ∧ Rd eOrd w' w'.heap.size A2 os ∧ Below w.heap.size w w'
def CoreDrawn3 (w : World) (e : Ending) (w' : World) : Prop :=
  ∃ A c cr A2 c2 os cells, e = .returned (.tuple #[.agg #[.slice A (cr : Cor).cs.length c, .int .i64 cr.at', .bool cr.stop], .slice A2 (os : List Ord3).length c2, .int .i64 cells]) ∧ cr.cs.length ≤ 5 ∧ cr.cs.length ≤ c ∧ os.length ≤ 21 ∧ os.length ≤ c2 ∧ Rd eInt w' w'.heap.size A cr.cs ∧ Rd eOrd w' w'.heap.size A2 os ∧ Below w.heap.size w w'
set_option maxRecDepth 100000 in
set_option maxHeartbeats 1600000 in
theorem callDrawCoreValid (A : Option Addr) (c : Nat) (bs : List Int) (w : World) (hc : bs.length ≤ c) (hm : bs.length ≤ 1048576) (hr : Rd eU8 w w.heap.size A bs) (hby : ∀ x ∈ bs, 0 ≤ x ∧ x ≤ 255) :
    Calls Try.prog 34 #[.slice A bs.length c] w (CoreDrawn3 w) := by
  go_enter Try.func34, Try.ntmps34
  go_wp2_with fail
  refine (callOpen A c bs _ hc hm (hr.alloc _) hby).mono ?_
  rintro e w0 ⟨rfl, hr1, hb1⟩
  have hr1' : Rdr w0 (w.heap.size + 1) 0 := by simpa using hr1
  have HK0 : Hid (w0.heap[w.heap.size]? = some (.cells #[.slice none 0 0, .int .i64 0, .bool false] 33 (0, 0))) := blkc (heap_alloc_new w _) hb1
  have HB := Lib.hid (bel_trans (below1 _ _) hb1)
  have HR := Lib.hid hr1'
  have hs0 : w.heap.size + 1 < w0.heap.size := hr1'.lt
  clear hr1 hr1' hb1 hr
  simp only [World.size_alloc]
  go_wp2_with fail
  refine (callDrawCore (w.heap.size + 1) 0 2 _ HR.out (by omega)).mono ?_
  rintro e wa ⟨A2, c2, cr, A3, c3, os, cells, rfl, hl5, hc2, hl21, hc3, hown2, hown3, hr2, hg2⟩
  have HK1 := Lib.hid (gblk hg2 HK0.out (by simp))
  have HB1 := Lib.hid (HB.out.trans ((Below.refl _ _).grown hg2 (by omega) (fun k hk => by cases hk; omega)))
  have G3 := gset3 (w := wa) (g := w.heap.size) (.slice A2 cr.cs.length c2) (.int .i64 cr.at') (.bool cr.stop)
  have HF := Lib.hid (And.intro (hown2.kept G3 (fun k hk => by cases hk; omega)).rd (And.intro (hown3.kept G3 (fun k hk => by cases hk; omega)).rd (bset3 HB1.out (Nat.le_refl _) (.slice A2 cr.cs.length c2) (.int .i64 cr.at') (.bool cr.stop))))
  clear hown2 hown3 hr2 hg2 HK0 HB HR G3
  obtain ⟨x0, x1, x2, x3, x4, x5, x6⟩ := cell3 HK1.out
  obtain ⟨s0, s1, s2⟩ := res3 HK1.out (.slice A2 cr.cs.length c2) (.int .i64 cr.at') (.bool cr.stop)
  go_wp2_with fail
  exact bodyPost_ret (v := .tuple #[.agg #[.slice A2 cr.cs.length c2, .int .i64 cr.at', .bool cr.stop], .slice A3 os.length c3, .int .i64 cells]) (by simp [results, Try.results34, go_sem, s0, s1, s2]) rfl ⟨A2, c2, cr, A3, c3, os, cells, rfl, hl5, hc2, hl21, hc3, HF.out.1, HF.out.2.1, HF.out.2.2⟩
set_option maxRecDepth 100000 in
set_option maxHeartbeats 1600000 in
theorem callDrawRunCore (A : Option Addr) (c : Nat) (bs : List Int) (w : World) (hc : bs.length ≤ c) (hm : bs.length ≤ 1048576) (hr : Rd eU8 w w.heap.size A bs) (hby : ∀ x ∈ bs, 0 ≤ x ∧ x ≤ 255) :
    Calls Try.prog 18 #[.slice A bs.length c] w (CoreDrawn4 w (-1) (202)) := by
  go_enter Try.func18, Try.ntmps18
  go_wp2_with fail
  refine (callOpen A c bs _ hc hm (hr.alloc _) hby).mono ?_
  rintro e w0 ⟨rfl, hr1, hb1⟩
  have hr1' : Rdr w0 (w.heap.size + 1) 0 := by simpa using hr1
  have HK0 : Hid (w0.heap[w.heap.size]? = some (.cells #[.slice none 0 0, .int .i64 0, .bool false] 33 (0, 0))) := blkc (heap_alloc_new w _) hb1
  have HB := Lib.hid (bel_trans (below1 _ _) hb1)
  have HR := Lib.hid hr1'
  have hs0 : w.heap.size + 1 < w0.heap.size := hr1'.lt
  clear hr1 hr1' hb1 hr
  obtain ⟨g, hg⟩ : ∃ g, g = w.heap.size + 1 := ⟨_, rfl⟩
  have hgw : w.heap.size + 1 ≤ g := by omega
  simp only [World.size_alloc]
  rw [← hg] at HR hs0 ⊢
  clear hg
  go_wp2_with fail
  refine (callDrawCore g 0 14 _ HR.out (by omega)).mono ?_
  rintro e wa ⟨A2, c2, cr, A3, c3, os, cells, rfl, hl5, hc2, hl21, hc3, hown2, hown3, hr2, hg2⟩
  have hsa : w0.heap.size ≤ wa.heap.size := hg2.size
  have HK1 := Lib.hid (blkc (gblk hg2 HK0.out (by simp; omega)) (below1 wa (.cells #[.slice A2 cr.cs.length c2, .int .i64 cr.at', .bool cr.stop] 33)))
  have HX1 := Lib.hid (heap_alloc_new wa (.cells #[.slice A2 cr.cs.length c2, .int .i64 cr.at', .bool cr.stop] 33))
  have HO1 := Lib.hid ((hown2.more (base' := g + 1) (by omega)).alloc (.cells #[.slice A2 cr.cs.length c2, .int .i64 cr.at', .bool cr.stop] 33))
  have HO2 := Lib.hid ((hown3.more (base' := g + 1) (by omega)).alloc (.cells #[.slice A2 cr.cs.length c2, .int .i64 cr.at', .bool cr.stop] 33))
  have HR1 := Lib.hid (hr2.alloc (.cells #[.slice A2 cr.cs.length c2, .int .i64 cr.at', .bool cr.stop] 33))
  have HB1 := Lib.hid (bel_trans (HB.out.trans ((Below.refl _ _).grown hg2 (by omega) (fun k hk => by cases hk; omega))) (below1 wa (.cells #[.slice A2 cr.cs.length c2, .int .i64 cr.at', .bool cr.stop] 33)))
  have hga : g < wa.heap.size := by omega
  clear hown2 hown3 hr2 hg2 HK0 HB HR
  go_upto_region 3 with (fail)
  obtain ⟨w1, hw1⟩ : ∃ w1, w1 = wa.alloc (.cells #[.slice A2 cr.cs.length c2, .int .i64 cr.at', .bool cr.stop] 33) := ⟨_, rfl⟩
  obtain ⟨X, hX⟩ : ∃ X, X = wa.heap.size := ⟨_, rfl⟩
  have hs1 : g < w1.heap.size := by rw [hw1]; simp; omega
  rw [← hw1] at HK1 HX1 HO1 HO2 HR1 HB1 ⊢
  rw [← hX] at HX1 hga ⊢
  clear hw1 hX
  have hR : w.heap.size ≠ X := by omega
  obtain ⟨R, hRR⟩ : ∃ R, R = w.heap.size := ⟨_, rfl⟩
  have HR0 := Lib.hid hRR
  rw [← hRR] at hgw hR HK1 HB1 ⊢
  clear hRR
  obtain ⟨fin, hfin⟩ : ∃ fin : World → Prop, fin = fun W => W.heap[R]? = some (.cells #[.slice A2 cr.cs.length c2, .int .i64 cr.at', .bool cr.stop] 33 (0, 0)) := ⟨_, rfl⟩
  obtain ⟨D, hD⟩ : ∃ D : World → Prop, D = fun W => W.heap[X]? = some (.cells #[.slice A2 cr.cs.length c2, .int .i64 cr.at', .bool cr.stop] 33 (0, 0)) ∧ (∃ x y z, W.heap[R]? = some (.cells #[x, y, z] 33 (0, 0))) ∧ Own eInt 3 W (g + 1) (.slice A2 cr.cs.length c2) cr.cs ∧ Own eOrd 41 W (g + 1) (.slice A3 os.length c3) os := ⟨_, rfl⟩
  have hDg : ∀ W W', D W → W.grownBy W' (some g) → D W' := fun W W' hd hg => by
    rw [hD] at hd ⊢
    obtain ⟨h1, ⟨x, y, z, h2⟩, h3, h4⟩ := hd
    exact ⟨gblk hg h1 (by simp; omega), ⟨x, y, z, gblk hg h2 (by simp; omega)⟩, h3.kept hg (fun k hk => by cases hk; omega), h4.kept hg (fun k hk => by cases hk; omega)⟩
  have hFg : ∀ W W', W.grownBy W' (some g) → fin W → fin W' := fun W W' hg hf => by
    rw [hfin] at hf ⊢
    exact gblk hg hf (by simp; omega)
  have hBg : R ≤ g := by omega
  have J0 : DJ w g R 200 D 17 false w1.drew := ⟨by omega, fun _ => HR1.out.drew.more (by omega), HB1.out.drew, hs1, by rw [hD]; exact ⟨HX1.out, ⟨_, _, _, HK1.out⟩, HO1.out.drew, HO2.out.drew⟩⟩
  refine wp_region_each (N := 31) (kk := 13) (J := DJ w g R 200 D) (V := VAt [VC (.agg #[.slice A2 cr.cs.length c2, .int .i64 cr.at', .bool cr.stop]), VC (.slice A3 os.length c3), VC (.int .i64 cells), VC (.pointer (some ⟨g, 0, none⟩)), VI (0) (30), VL g R 4 3 (-1) (202), VL g R 7 3 (0) (4), VC (.pointer (some ⟨g, 0, none⟩)), VI (0) (7), VP g R 3 (0) (4), VI (0) (4), VP g R 3 (-1) (202), VI (-1) (202), VF fin, VC (.slice A3 os.length c3), VC (.int .i64 cells), VI (-1) (202)]) (Ext := ExtR g R fin) (by kernel_rfl) (by kernel_rfl) (by rfl)
    (stab_at ⟨VC.stab, VC.stab, VC.stab, VC.stab, VI.stab, VL.stab, VL.stab, VC.stab, VI.stab, VP.stab, VI.stab, VP.stab, VI.stab, VF.stab, VC.stab, VC.stab, VI.stab, trivial⟩) J0 ?_ ?_
  · refine ⟨?_, ?_, ?_, ?_, ?_, ?_, ?_, ?_, ?_, ?_, ?_, ?_, ?_, ?_, ?_, ?_, ?_, trivial⟩
    all_goals
      intro n s a W hJ hks hkd hold hdep K hK
      have hgW := hJ.glt
      have hBW : R ≤ W.heap.size := by omega
      have hBR : R ≤ R := Nat.le_refl R
    · have h6 := ev (show a.eval (.tmp 7) = .pointer (some ⟨X, 0, none⟩) from hold 7 (by kernel_rfl))
      have hd := hJ.dat
      rw [hD] at hd
      obtain ⟨x0, x1, x2, _, _, _, _⟩ := cell3 hd.1
      unfold Oper.wp execOp
      go_simp
      exact hK (.agg #[.slice A2 cr.cs.length c2, .int .i64 cr.at', .bool cr.stop]) _ hJ.weak rfl (ExtR.refl _)
    · have h5 : a.eval (.tmp 8) = (.slice A3 os.length c3) := hold 8 (by kernel_rfl)
      exact wp_val (run_move rfl) (hK _ _ hJ.weak h5 (ExtR.refl _))
    · have h5 : a.eval (.tmp 9) = (.int .i64 cells) := hold 9 (by kernel_rfl)
      exact wp_val (run_move rfl) (hK _ _ hJ.weak h5 (ExtR.refl _))
    · have h5 : a.eval (.tmp 6) = .pointer (some ⟨g, 0, none⟩) := hold 6 (by kernel_rfl)
      exact wp_val (run_move rfl) (hK _ _ hJ.weak h5 (ExtR.refl _))
    · have h12 := ev (show a.eval (.tmp 21) = .pointer (some ⟨g, 0, none⟩) from hdep 3 (by kernel_rfl) _ rfl)
      have hrd := hJ.rdr (hkd (by kernel_rfl))
      unfold Oper.wp execOp
      go_simp
      refine (callPick g _ _ _ hrd (by have := hJ.hn; omega)).mono ?_
      rintro e W5 ⟨p, rfl, d1, d2, _, hr5, hg5⟩
      exact hK (.int .i64 p) _ (hJ.pick hDg hBg hBW hr5 hg5) ⟨p, rfl, d1, d2 (by omega)⟩ (ExtR.grown hg5 (hFg _ _ hg5))
    · obtain ⟨p, h22, p0, p1⟩ : VI (0) (30) W (a.eval (.tmp 22)) := hdep 4 (by kernel_rfl) _ rfl
      have h22 := ev h22
      unfold Oper.wp execOp
      go_simp
      refine hK (.slice (some ⟨W.heap.size, 0, none⟩) 4 4) _ (hJ.alloc hDg hBW _) ⟨W.heap.size, [p, 200, -1, 201], rfl, by omega, by omega, rfl, heap_alloc_new W _, fun x hx => ?_⟩ (ExtR.grown (World.grownBy_alloc W _ _) (hFg _ _ (World.grownBy_alloc W _ _)))
      simp only [List.mem_cons, List.not_mem_nil, or_false] at hx
      omega
    · unfold Oper.wp execOp
      go_simp
      refine hK (.slice (some ⟨W.heap.size, 0, none⟩) 7 7) _ (hJ.alloc hDg hBW _) ⟨W.heap.size, [0, 0, 0, 0, 1, 2, 3], rfl, by omega, by omega, rfl, heap_alloc_new W _, fun x hx => ?_⟩ (ExtR.grown (World.grownBy_alloc W _ _) (hFg _ _ (World.grownBy_alloc W _ _)))
      simp only [List.mem_cons, List.not_mem_nil, or_false] at hx
      omega
    · have h5 : a.eval (.tmp 6) = .pointer (some ⟨g, 0, none⟩) := hold 6 (by kernel_rfl)
      exact wp_val (run_move rfl) (hK _ _ hJ.weak h5 (ExtR.refl _))
    · have h12 := ev (show a.eval (.tmp 25) = .pointer (some ⟨g, 0, none⟩) from hdep 7 (by kernel_rfl) _ rfl)
      have hrd := hJ.rdr (hkd (by kernel_rfl))
      unfold Oper.wp execOp
      go_simp
      refine (callPick g _ _ _ hrd (by have := hJ.hn; omega)).mono ?_
      rintro e W5 ⟨p, rfl, d1, d2, _, hr5, hg5⟩
      exact hK (.int .i64 p) _ (hJ.pick hDg hBg hBW hr5 hg5) ⟨p, rfl, d1, d2 (by omega)⟩ (ExtR.grown hg5 (hFg _ _ hg5))
    · obtain ⟨b, xs, h15, hb1, hb2, hxl, hbx, hxs⟩ : VL g R 7 3 (0) (4) W (a.eval (.tmp 24)) := hdep 6 (by kernel_rfl) _ rfl
      obtain ⟨q, h17, q0, q1⟩ : VI 0 7 W (a.eval (.tmp 26)) := hdep 8 (by kernel_rfl) _ rfl
      obtain ⟨k, rfl⟩ := Int.eq_ofNat_of_zero_le q0
      have h15 := ev h15
      have h17 := ev h17
      have hk : k < xs.length := by omega
      have HX := Lib.hid (hxs xs[k] (List.getElem_mem hk))
      clear hxs
      unfold Oper.wp execOp
      go_simp
      exact hK (.pointer (some ⟨b, k, none⟩)) _ hJ.weak ⟨b, k, _, xs[k], rfl, hb1, hb2, hbx, map_at hk, HX.out.1, HX.out.2⟩ (ExtR.refl _)
    · obtain ⟨b, k, cs, x, h18, hb1, hb2, hbx, hcs, hx0, hx1⟩ : VP g R 3 (0) (4) W (a.eval (.tmp 27)) := hdep 9 (by kernel_rfl) _ rfl
      have hcell := cellOf' hbx hcs
      have h18 := ev h18
      clear hbx hcs
      unfold Oper.wp execOp
      go_simp
      exact hK (.int .i64 x) _ hJ.weak ⟨x, rfl, hx0, hx1⟩ (ExtR.refl _)
    · obtain ⟨b, xs, h15, hb1, hb2, hxl, hbx, hxs⟩ : VL g R 4 3 (-1) (202) W (a.eval (.tmp 23)) := hdep 5 (by kernel_rfl) _ rfl
      obtain ⟨q, h17, q0, q1⟩ : VI 0 4 W (a.eval (.tmp 28)) := hdep 10 (by kernel_rfl) _ rfl
      obtain ⟨k, rfl⟩ := Int.eq_ofNat_of_zero_le q0
      have h15 := ev h15
      have h17 := ev h17
      have hk : k < xs.length := by omega
      have HX := Lib.hid (hxs xs[k] (List.getElem_mem hk))
      clear hxs
      unfold Oper.wp execOp
      go_simp
      exact hK (.pointer (some ⟨b, k, none⟩)) _ hJ.weak ⟨b, k, _, xs[k], rfl, hb1, hb2, hbx, map_at hk, HX.out.1, HX.out.2⟩ (ExtR.refl _)
    · obtain ⟨b, k, cs, x, h18, hb1, hb2, hbx, hcs, hx0, hx1⟩ : VP g R 3 (-1) (202) W (a.eval (.tmp 29)) := hdep 11 (by kernel_rfl) _ rfl
      have hcell := cellOf' hbx hcs
      have h18 := ev h18
      clear hbx hcs
      unfold Oper.wp execOp
      go_simp
      exact hK (.int .i64 x) _ hJ.weak ⟨x, rfl, hx0, hx1⟩ (ExtR.refl _)
    · have h2 := ev (show a.eval (.tmp 2) = .pointer (some ⟨R, 0, none⟩) from hold 2 (by kernel_rfl))
      have h11 := ev (show a.eval (.tmp 18) = (.agg #[.slice A2 cr.cs.length c2, .int .i64 cr.at', .bool cr.stop]) from hdep 0 (by kernel_rfl) _ rfl)
      have hd := hJ.dat
      rw [hD] at hd
      obtain ⟨e1, ⟨x, y, z, e2⟩, e3, e4⟩ := hd
      obtain ⟨y0, y1, y2, y3, y4, y5, y6⟩ := cell3 e2
      have hs := hks rfl
      unfold Oper.wp execOp
      go_simp
      refine hK undef _ ⟨by have := hJ.hn; omega, fun e => by simp at e, bset3 hJ.bel hBR _ _ _, by simp; exact hJ.glt, ?_⟩ ?_ ⟨fun b o hb1 hb2 hb => blko (blko (blko hb _ hb2) _ hb2) _ hb2, fun _ => ?_⟩
      · rw [hD]
        exact ⟨blko (blko (blko e1 _ (by simp; omega)) _ (by simp; omega)) _ (by simp; omega), ⟨_, _, _, set3 e2⟩, e3.kept (gset3 _ _ _) (fun k hk => by cases hk; omega), e4.kept (gset3 _ _ _) (fun k hk => by cases hk; omega)⟩
      · show fin _
        rw [hfin]; exact set3 e2
      · rw [hfin]; exact set3 e2
    · have h5 : a.eval (.tmp 19) = (.slice A3 os.length c3) := hdep 1 (by kernel_rfl) _ rfl
      exact wp_val (run_assign rfl) (hK _ _ hJ.weak h5 (ExtR.refl _))
    · have h5 : a.eval (.tmp 20) = (.int .i64 cells) := hdep 2 (by kernel_rfl) _ rfl
      exact wp_val (run_assign rfl) (hK _ _ hJ.weak h5 (ExtR.refl _))
    · have h5 : VI (-1) (202) W (a.eval (.tmp 30)) := hdep 12 (by kernel_rfl) _ rfl
      exact wp_val (run_assign rfl) (hK _ _ hJ.weak h5 (ExtR.refl _))
  · intro vs n s wx hJ hv
    obtain ⟨xx, hxx, _, _⟩ : VI (-1) (202) wx (vs 16) := hv 16 _ rfl
    have h14 : vs 14 = (.slice A3 os.length c3) := hv 14 _ rfl
    have h15 : vs 15 = (.int .i64 cells) := hv 15 _ rfl
    have hf : fin wx := hv 13 _ rfl
    have hd := hJ.dat
    have hbl := Lib.hid hJ.bel
    rw [hfin] at hf
    rw [hD] at hd
    obtain ⟨s0, s1, s2, _, _, _, _⟩ := cell3 hf
    have HOw := Lib.hid hd.2.2.1.rd
    have HOr := Lib.hid hd.2.2.2.rd
    have HR1' := HR0.out
    clear hv hd hf hD hfin hDg hFg J0 hJ
    simp only [putAll]
    rw [hxx, h14, h15]
    clear hxx h14 h15
    go_wp2_with fail
    exact bodyPost_ret (v := .tuple #[(.agg #[.slice A2 cr.cs.length c2, .int .i64 cr.at', .bool cr.stop]), (.slice A3 os.length c3), .int .i64 cells, .int .i64 xx]) (by simp [results, Try.results18, go_sem, s0, s1, s2]) rfl ⟨A2, c2, cr, A3, c3, os, cells, xx, rfl, ‹_›, ‹_›, hl5, hc2, hl21, hc3, HOw.out, HOr.out, by rw [← HR1']; exact hbl.out⟩
set_option maxRecDepth 100000 in
set_option maxHeartbeats 1600000 in
theorem callDrawStepCore (A : Option Addr) (c : Nat) (bs : List Int) (w : World) (hc : bs.length ≤ c) (hm : bs.length ≤ 1048576) (hr : Rd eU8 w w.heap.size A bs) (hby : ∀ x ∈ bs, 0 ≤ x ∧ x ≤ 255) :
    Calls Try.prog 41 #[.slice A bs.length c] w (CoreDrawn4 w (-1) (9223372036854775808)) := by
  go_enter Try.func41, Try.ntmps41
  go_wp2_with fail
  refine (callOpen A c bs _ hc hm (hr.alloc _) hby).mono ?_
  rintro e w0 ⟨rfl, hr1, hb1⟩
  have hr1' : Rdr w0 (w.heap.size + 1) 0 := by simpa using hr1
  have HK0 : Hid (w0.heap[w.heap.size]? = some (.cells #[.slice none 0 0, .int .i64 0, .bool false] 33 (0, 0))) := blkc (heap_alloc_new w _) hb1
  have HB := Lib.hid (bel_trans (below1 _ _) hb1)
  have HR := Lib.hid hr1'
  have hs0 : w.heap.size + 1 < w0.heap.size := hr1'.lt
  clear hr1 hr1' hb1 hr
  obtain ⟨g, hg⟩ : ∃ g, g = w.heap.size + 1 := ⟨_, rfl⟩
  have hgw : w.heap.size + 1 ≤ g := by omega
  simp only [World.size_alloc]
  rw [← hg] at HR hs0 ⊢
  clear hg
  go_wp2_with fail
  refine (callDrawCore g 0 14 _ HR.out (by omega)).mono ?_
  rintro e wa ⟨A2, c2, cr, A3, c3, os, cells, rfl, hl5, hc2, hl21, hc3, hown2, hown3, hr2, hg2⟩
  have hsa : w0.heap.size ≤ wa.heap.size := hg2.size
  have HK1 := Lib.hid (blkc (gblk hg2 HK0.out (by simp; omega)) (below1 wa (.cells #[.slice A2 cr.cs.length c2, .int .i64 cr.at', .bool cr.stop] 33)))
  have HX1 := Lib.hid (heap_alloc_new wa (.cells #[.slice A2 cr.cs.length c2, .int .i64 cr.at', .bool cr.stop] 33))
  have HO1 := Lib.hid ((hown2.more (base' := g + 1) (by omega)).alloc (.cells #[.slice A2 cr.cs.length c2, .int .i64 cr.at', .bool cr.stop] 33))
  have HO2 := Lib.hid ((hown3.more (base' := g + 1) (by omega)).alloc (.cells #[.slice A2 cr.cs.length c2, .int .i64 cr.at', .bool cr.stop] 33))
  have HR1 := Lib.hid (hr2.alloc (.cells #[.slice A2 cr.cs.length c2, .int .i64 cr.at', .bool cr.stop] 33))
  have HB1 := Lib.hid (bel_trans (HB.out.trans ((Below.refl _ _).grown hg2 (by omega) (fun k hk => by cases hk; omega))) (below1 wa (.cells #[.slice A2 cr.cs.length c2, .int .i64 cr.at', .bool cr.stop] 33)))
  have hga : g < wa.heap.size := by omega
  clear hown2 hown3 hr2 hg2 HK0 HB HR
  go_upto_region 3 with (fail)
  obtain ⟨w1, hw1⟩ : ∃ w1, w1 = wa.alloc (.cells #[.slice A2 cr.cs.length c2, .int .i64 cr.at', .bool cr.stop] 33) := ⟨_, rfl⟩
  obtain ⟨X, hX⟩ : ∃ X, X = wa.heap.size := ⟨_, rfl⟩
  have hs1 : g < w1.heap.size := by rw [hw1]; simp; omega
  rw [← hw1] at HK1 HX1 HO1 HO2 HR1 HB1 ⊢
  rw [← hX] at HX1 hga ⊢
  clear hw1 hX
  have hR : w.heap.size ≠ X := by omega
  obtain ⟨R, hRR⟩ : ∃ R, R = w.heap.size := ⟨_, rfl⟩
  have HR0 := Lib.hid hRR
  rw [← hRR] at hgw hR HK1 HB1 ⊢
  clear hRR
  obtain ⟨fin, hfin⟩ : ∃ fin : World → Prop, fin = fun W => W.heap[R]? = some (.cells #[.slice A2 cr.cs.length c2, .int .i64 cr.at', .bool cr.stop] 33 (0, 0)) := ⟨_, rfl⟩
  obtain ⟨D, hD⟩ : ∃ D : World → Prop, D = fun W => W.heap[X]? = some (.cells #[.slice A2 cr.cs.length c2, .int .i64 cr.at', .bool cr.stop] 33 (0, 0)) ∧ (∃ x y z, W.heap[R]? = some (.cells #[x, y, z] 33 (0, 0))) ∧ Own eInt 3 W (g + 1) (.slice A2 cr.cs.length c2) cr.cs ∧ Own eOrd 41 W (g + 1) (.slice A3 os.length c3) os := ⟨_, rfl⟩
  have hDg : ∀ W W', D W → W.grownBy W' (some g) → D W' := fun W W' hd hg => by
    rw [hD] at hd ⊢
    obtain ⟨h1, ⟨x, y, z, h2⟩, h3, h4⟩ := hd
    exact ⟨gblk hg h1 (by simp; omega), ⟨x, y, z, gblk hg h2 (by simp; omega)⟩, h3.kept hg (fun k hk => by cases hk; omega), h4.kept hg (fun k hk => by cases hk; omega)⟩
  have hFg : ∀ W W', W.grownBy W' (some g) → fin W → fin W' := fun W W' hg hf => by
    rw [hfin] at hf ⊢
    exact gblk hg hf (by simp; omega)
  have hBg : R ≤ g := by omega
  have J0 : DJ w g R 200 D 18 false w1.drew := ⟨by omega, fun _ => HR1.out.drew.more (by omega), HB1.out.drew, hs1, by rw [hD]; exact ⟨HX1.out, ⟨_, _, _, HK1.out⟩, HO1.out.drew, HO2.out.drew⟩⟩
  refine wp_region_each (N := 32) (kk := 14) (J := DJ w g R 200 D) (V := VAt [VC (.agg #[.slice A2 cr.cs.length c2, .int .i64 cr.at', .bool cr.stop]), VC (.slice A3 os.length c3), VC (.int .i64 cells), VC (.pointer (some ⟨g, 0, none⟩)), VI (0) (256), VI (0) (768), VL g R 3 3 (-1) (9223372036854775808), VL g R 6 3 (0) (3), VC (.pointer (some ⟨g, 0, none⟩)), VI (0) (6), VP g R 3 (0) (3), VI (0) (3), VP g R 3 (-1) (9223372036854775808), VI (-1) (9223372036854775808), VF fin, VC (.slice A3 os.length c3), VC (.int .i64 cells), VI (-1) (9223372036854775808)]) (Ext := ExtR g R fin) (by kernel_rfl) (by kernel_rfl) (by rfl)
    (stab_at ⟨VC.stab, VC.stab, VC.stab, VC.stab, VI.stab, VI.stab, VL.stab, VL.stab, VC.stab, VI.stab, VP.stab, VI.stab, VP.stab, VI.stab, VF.stab, VC.stab, VC.stab, VI.stab, trivial⟩) J0 ?_ ?_
  · refine ⟨?_, ?_, ?_, ?_, ?_, ?_, ?_, ?_, ?_, ?_, ?_, ?_, ?_, ?_, ?_, ?_, ?_, ?_, trivial⟩
    all_goals
      intro n s a W hJ hks hkd hold hdep K hK
      have hgW := hJ.glt
      have hBW : R ≤ W.heap.size := by omega
      have hBR : R ≤ R := Nat.le_refl R
    · have h6 := ev (show a.eval (.tmp 7) = .pointer (some ⟨X, 0, none⟩) from hold 7 (by kernel_rfl))
      have hd := hJ.dat
      rw [hD] at hd
      obtain ⟨x0, x1, x2, _, _, _, _⟩ := cell3 hd.1
      unfold Oper.wp execOp
      go_simp
      exact hK (.agg #[.slice A2 cr.cs.length c2, .int .i64 cr.at', .bool cr.stop]) _ hJ.weak rfl (ExtR.refl _)
    · have h5 : a.eval (.tmp 8) = (.slice A3 os.length c3) := hold 8 (by kernel_rfl)
      exact wp_val (run_move rfl) (hK _ _ hJ.weak h5 (ExtR.refl _))
    · have h5 : a.eval (.tmp 9) = (.int .i64 cells) := hold 9 (by kernel_rfl)
      exact wp_val (run_move rfl) (hK _ _ hJ.weak h5 (ExtR.refl _))
    · have h5 : a.eval (.tmp 6) = .pointer (some ⟨g, 0, none⟩) := hold 6 (by kernel_rfl)
      exact wp_val (run_move rfl) (hK _ _ hJ.weak h5 (ExtR.refl _))
    · have h12 := ev (show a.eval (.tmp 21) = .pointer (some ⟨g, 0, none⟩) from hdep 3 (by kernel_rfl) _ rfl)
      have hrd := hJ.rdr (hkd (by kernel_rfl))
      unfold Oper.wp execOp
      go_simp
      refine (callPick g _ _ _ hrd (by have := hJ.hn; omega)).mono ?_
      rintro e W5 ⟨p, rfl, d1, d2, _, hr5, hg5⟩
      exact hK (.int .i64 p) _ (hJ.pick hDg hBg hBW hr5 hg5) ⟨p, rfl, d1, d2 (by omega)⟩ (ExtR.grown hg5 (hFg _ _ hg5))
    · obtain ⟨p, h22, p0, p1⟩ : VI (0) (256) W (a.eval (.tmp 22)) := hdep 4 (by kernel_rfl) _ rfl
      have h22 := ev h22
      have hw1 : IntKind.i64.wrap (p * 3) = p * 3 := IntWalk.i64_in _ (by omega)
      unfold Oper.wp execOp
      go_simp
      exact hK (.int .i64 (p * 3)) _ hJ.weak ⟨p * 3, rfl, by omega, by omega⟩ (ExtR.refl _)
    · obtain ⟨p, h23, p0, p1⟩ : VI (0) (768) W (a.eval (.tmp 23)) := hdep 5 (by kernel_rfl) _ rfl
      have h23 := ev h23
      unfold Oper.wp execOp
      go_simp
      refine hK (.slice (some ⟨W.heap.size, 0, none⟩) 3 3) _ (hJ.alloc hDg hBW _) ⟨W.heap.size, [p, -1, 9223372036854775807], rfl, by omega, by omega, rfl, heap_alloc_new W _, fun x hx => ?_⟩ (ExtR.grown (World.grownBy_alloc W _ _) (hFg _ _ (World.grownBy_alloc W _ _)))
      simp only [List.mem_cons, List.not_mem_nil, or_false] at hx
      omega
    · unfold Oper.wp execOp
      go_simp
      refine hK (.slice (some ⟨W.heap.size, 0, none⟩) 6 6) _ (hJ.alloc hDg hBW _) ⟨W.heap.size, [0, 0, 0, 0, 1, 2], rfl, by omega, by omega, rfl, heap_alloc_new W _, fun x hx => ?_⟩ (ExtR.grown (World.grownBy_alloc W _ _) (hFg _ _ (World.grownBy_alloc W _ _)))
      simp only [List.mem_cons, List.not_mem_nil, or_false] at hx
      omega
    · have h5 : a.eval (.tmp 6) = .pointer (some ⟨g, 0, none⟩) := hold 6 (by kernel_rfl)
      exact wp_val (run_move rfl) (hK _ _ hJ.weak h5 (ExtR.refl _))
    · have h12 := ev (show a.eval (.tmp 26) = .pointer (some ⟨g, 0, none⟩) from hdep 8 (by kernel_rfl) _ rfl)
      have hrd := hJ.rdr (hkd (by kernel_rfl))
      unfold Oper.wp execOp
      go_simp
      refine (callPick g _ _ _ hrd (by have := hJ.hn; omega)).mono ?_
      rintro e W5 ⟨p, rfl, d1, d2, _, hr5, hg5⟩
      exact hK (.int .i64 p) _ (hJ.pick hDg hBg hBW hr5 hg5) ⟨p, rfl, d1, d2 (by omega)⟩ (ExtR.grown hg5 (hFg _ _ hg5))
    · obtain ⟨b, xs, h15, hb1, hb2, hxl, hbx, hxs⟩ : VL g R 6 3 (0) (3) W (a.eval (.tmp 25)) := hdep 7 (by kernel_rfl) _ rfl
      obtain ⟨q, h17, q0, q1⟩ : VI 0 6 W (a.eval (.tmp 27)) := hdep 9 (by kernel_rfl) _ rfl
      obtain ⟨k, rfl⟩ := Int.eq_ofNat_of_zero_le q0
      have h15 := ev h15
      have h17 := ev h17
      have hk : k < xs.length := by omega
      have HX := Lib.hid (hxs xs[k] (List.getElem_mem hk))
      clear hxs
      unfold Oper.wp execOp
      go_simp
      exact hK (.pointer (some ⟨b, k, none⟩)) _ hJ.weak ⟨b, k, _, xs[k], rfl, hb1, hb2, hbx, map_at hk, HX.out.1, HX.out.2⟩ (ExtR.refl _)
    · obtain ⟨b, k, cs, x, h18, hb1, hb2, hbx, hcs, hx0, hx1⟩ : VP g R 3 (0) (3) W (a.eval (.tmp 28)) := hdep 10 (by kernel_rfl) _ rfl
      have hcell := cellOf' hbx hcs
      have h18 := ev h18
      clear hbx hcs
      unfold Oper.wp execOp
      go_simp
      exact hK (.int .i64 x) _ hJ.weak ⟨x, rfl, hx0, hx1⟩ (ExtR.refl _)
    · obtain ⟨b, xs, h15, hb1, hb2, hxl, hbx, hxs⟩ : VL g R 3 3 (-1) (9223372036854775808) W (a.eval (.tmp 24)) := hdep 6 (by kernel_rfl) _ rfl
      obtain ⟨q, h17, q0, q1⟩ : VI 0 3 W (a.eval (.tmp 29)) := hdep 11 (by kernel_rfl) _ rfl
      obtain ⟨k, rfl⟩ := Int.eq_ofNat_of_zero_le q0
      have h15 := ev h15
      have h17 := ev h17
      have hk : k < xs.length := by omega
      have HX := Lib.hid (hxs xs[k] (List.getElem_mem hk))
      clear hxs
      unfold Oper.wp execOp
      go_simp
      exact hK (.pointer (some ⟨b, k, none⟩)) _ hJ.weak ⟨b, k, _, xs[k], rfl, hb1, hb2, hbx, map_at hk, HX.out.1, HX.out.2⟩ (ExtR.refl _)
    · obtain ⟨b, k, cs, x, h18, hb1, hb2, hbx, hcs, hx0, hx1⟩ : VP g R 3 (-1) (9223372036854775808) W (a.eval (.tmp 30)) := hdep 12 (by kernel_rfl) _ rfl
      have hcell := cellOf' hbx hcs
      have h18 := ev h18
      clear hbx hcs
      unfold Oper.wp execOp
      go_simp
      exact hK (.int .i64 x) _ hJ.weak ⟨x, rfl, hx0, hx1⟩ (ExtR.refl _)
    · have h2 := ev (show a.eval (.tmp 2) = .pointer (some ⟨R, 0, none⟩) from hold 2 (by kernel_rfl))
      have h11 := ev (show a.eval (.tmp 18) = (.agg #[.slice A2 cr.cs.length c2, .int .i64 cr.at', .bool cr.stop]) from hdep 0 (by kernel_rfl) _ rfl)
      have hd := hJ.dat
      rw [hD] at hd
      obtain ⟨e1, ⟨x, y, z, e2⟩, e3, e4⟩ := hd
      obtain ⟨y0, y1, y2, y3, y4, y5, y6⟩ := cell3 e2
      have hs := hks rfl
      unfold Oper.wp execOp
      go_simp
      refine hK undef _ ⟨by have := hJ.hn; omega, fun e => by simp at e, bset3 hJ.bel hBR _ _ _, by simp; exact hJ.glt, ?_⟩ ?_ ⟨fun b o hb1 hb2 hb => blko (blko (blko hb _ hb2) _ hb2) _ hb2, fun _ => ?_⟩
      · rw [hD]
        exact ⟨blko (blko (blko e1 _ (by simp; omega)) _ (by simp; omega)) _ (by simp; omega), ⟨_, _, _, set3 e2⟩, e3.kept (gset3 _ _ _) (fun k hk => by cases hk; omega), e4.kept (gset3 _ _ _) (fun k hk => by cases hk; omega)⟩
      · show fin _
        rw [hfin]; exact set3 e2
      · rw [hfin]; exact set3 e2
    · have h5 : a.eval (.tmp 19) = (.slice A3 os.length c3) := hdep 1 (by kernel_rfl) _ rfl
      exact wp_val (run_assign rfl) (hK _ _ hJ.weak h5 (ExtR.refl _))
    · have h5 : a.eval (.tmp 20) = (.int .i64 cells) := hdep 2 (by kernel_rfl) _ rfl
      exact wp_val (run_assign rfl) (hK _ _ hJ.weak h5 (ExtR.refl _))
    · have h5 : VI (-1) (9223372036854775808) W (a.eval (.tmp 31)) := hdep 13 (by kernel_rfl) _ rfl
      exact wp_val (run_assign rfl) (hK _ _ hJ.weak h5 (ExtR.refl _))
  · intro vs n s wx hJ hv
    obtain ⟨xx, hxx, _, _⟩ : VI (-1) (9223372036854775808) wx (vs 17) := hv 17 _ rfl
    have h14 : vs 15 = (.slice A3 os.length c3) := hv 15 _ rfl
    have h15 : vs 16 = (.int .i64 cells) := hv 16 _ rfl
    have hf : fin wx := hv 14 _ rfl
    have hd := hJ.dat
    have hbl := Lib.hid hJ.bel
    rw [hfin] at hf
    rw [hD] at hd
    obtain ⟨s0, s1, s2, _, _, _, _⟩ := cell3 hf
    have HOw := Lib.hid hd.2.2.1.rd
    have HOr := Lib.hid hd.2.2.2.rd
    have HR1' := HR0.out
    clear hv hd hf hD hfin hDg hFg J0 hJ
    simp only [putAll]
    rw [hxx, h14, h15]
    clear hxx h14 h15
    go_wp2_with fail
    exact bodyPost_ret (v := .tuple #[(.agg #[.slice A2 cr.cs.length c2, .int .i64 cr.at', .bool cr.stop]), (.slice A3 os.length c3), .int .i64 cells, .int .i64 xx]) (by simp [results, Try.results41, go_sem, s0, s1, s2]) rfl ⟨A2, c2, cr, A3, c3, os, cells, xx, rfl, ‹_›, ‹_›, hl5, hc2, hl21, hc3, HOw.out, HOr.out, by rw [← HR1']; exact hbl.out⟩
end Go.Proofs.Ytiodpnhokjkjaaa
