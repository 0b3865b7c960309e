/- What DrawLinkSend leaves. -/
import Derived.Test.YtonhkadbiepedaaDlk
import Derived.Test.YtonhkadbiepedaaRgd
namespace Go.Proofs.Ytonhkadbiepedaa
open Go.RowKit Go.Sort

set_option maxRecDepth 100000 in
set_option maxHeartbeats 1600000 in
theorem callDrawLinkSend (A : Option Addr) (c : Nat) (bs : List Int) (w : World) (hc : bs.length ≤ c) (hm : bs.length ≤ 1048576) (hr : Rd eU8 w w.heap.size A bs) (hby : ∀ x ∈ bs, 0 ≤ x ∧ x ≤ 255) :
    Calls Try.prog 16 #[.slice A bs.length c] w fun e w' =>
      ∃ A c d h t v, e = .returned (.tuple #[.agg #[.int .i64 d, .slice A (h : List Pkt).length c], .int .i64 t, .int .i64 v]) ∧ Rd ePkt w' w'.heap.size A h ∧ h.length ≤ c ∧ h.length ≤ 21 ∧ Below w.heap.size w w' := by
  go_enter Try.func16, Try.ntmps16
  go_wp2_with fail
  refine (callOpen A c bs _ hc hm (hr.alloc _) hby).mono ?_
  rintro e w0 ⟨rfl, hr1, hb1⟩
  have hr1' : Rdr w0 (w.heap.size + 1) 0 := by simpa using hr1
  have HK0 : Hid (w0.heap[w.heap.size]? = some (.cells #[.int .i64 0, .slice none 0 0] 36 (0, 0))) := blkc (heap_alloc_new w _) hb1
  have HB := Lib.hid (bel_trans (below1 _ _) hb1)
  have HR := Lib.hid hr1'
  have hs0 : w.heap.size + 1 < w0.heap.size := hr1'.lt
  clear hr1 hr1' hb1 hr
  obtain ⟨g, hg⟩ : ∃ g, g = w.heap.size + 1 := ⟨_, rfl⟩
  have hgw : w.heap.size + 1 ≤ g := by omega
  have hgw2 : w.heap.size ≠ g := by omega
  simp only [World.size_alloc]
  rw [← hg] at HR hs0 ⊢
  clear hg
  go_wp2_with fail
  refine (callDrawLink g 0 12 _ HR.out (by omega)).mono ?_
  rintro e wa ⟨A2, c2, d, h, rfl, hown2, hc2, hl2, hr2, hg2⟩
  have hsa : w0.heap.size ≤ wa.heap.size := hg2.size
  have HK1 := Lib.hid (blkc (gblk hg2 HK0.out (by simp; omega)) (below1 wa (.cells #[.int .i64 d, .slice A2 h.length c2] 36)))
  have HX1 := Lib.hid (heap_alloc_new wa (.cells #[.int .i64 d, .slice A2 h.length c2] 36))
  have HO1 := Lib.hid ((hown2.more (base' := g + 1) (by omega)).alloc (.cells #[.int .i64 d, .slice A2 h.length c2] 36))
  have HR1 := Lib.hid (hr2.alloc (.cells #[.int .i64 d, .slice A2 h.length c2] 36))
  have HB1 := Lib.hid (bel_trans (HB.out.trans ((Below.refl _ _).grown hg2 (by omega) (fun k hk => by cases hk; omega))) (below1 wa (.cells #[.int .i64 d, .slice A2 h.length c2] 36)))
  have hga : g < wa.heap.size := by omega
  clear hown2 hr2 hg2 HK0 HB HR
  go_upto_region 3 with (fail)
  obtain ⟨w1, hw1⟩ : ∃ w1, w1 = wa.alloc (.cells #[.int .i64 d, .slice A2 h.length c2] 36) := ⟨_, rfl⟩
  obtain ⟨X, hX⟩ : ∃ X, X = wa.heap.size := ⟨_, rfl⟩
  have hs1 : g < w1.heap.size := by rw [hw1]; simp; omega
  rw [← hw1] at HK1 HX1 HO1 HR1 HB1 ⊢
  rw [← hX] at HX1 hga ⊢
  clear hw1 hX
  have hR : w.heap.size ≠ X := by omega
  obtain ⟨R, hRR⟩ : ∃ R, R = w.heap.size := ⟨_, rfl⟩
  have HR0 := Lib.hid hRR
  rw [← hRR] at hgw hgw2 hR HK1 HB1 ⊢
  clear hRR
  obtain ⟨fin, hfin⟩ : ∃ fin : World → Prop, fin = fun W => W.heap[R]? = some (.cells #[.int .i64 d, .slice A2 h.length c2] 36 (0, 0)) := ⟨_, rfl⟩
  obtain ⟨D, hD⟩ : ∃ D : World → Prop, D = fun W => W.heap[X]? = some (.cells #[.int .i64 d, .slice A2 h.length c2] 36 (0, 0)) ∧ (∃ x y, W.heap[R]? = some (.cells #[x, y] 36 (0, 0))) ∧ Own ePkt 46 W (g + 1) (.slice A2 h.length c2) h := ⟨_, rfl⟩
  have hDg : ∀ W W', D W → W.grownBy W' (some g) → D W' := fun W W' hd hg => by
    rw [hD] at hd ⊢
    obtain ⟨h1, ⟨x, y, h2⟩, h3⟩ := hd
    exact ⟨gblk hg h1 (by simp; omega), ⟨x, y, gblk hg h2 (by simp; omega)⟩, h3.kept hg (fun k hk => by cases hk; omega)⟩
  have hFg : ∀ W W', W.grownBy W' (some g) → fin W → fin W' := fun W W' hg hf => by
    rw [hfin] at hf ⊢
    exact gblk hg hf (by simp; omega)
  have hBg : R ≤ g := by omega
  have J0 : DJ w g R 40 D 24 false w1.drew := ⟨by omega, fun _ => HR1.out.drew.more (by omega), HB1.out.drew, hs1, by rw [hD]; exact ⟨HX1.out, ⟨_, _, HK1.out⟩, HO1.out.drew⟩⟩
  refine wp_region_each (N := 32) (kk := 21) (J := DJ w g R 40 D) (V := VAt [VC (.agg #[.int .i64 d, .slice A2 h.length c2]), VC (.pointer (some ⟨g, 0, none⟩)), VI 0 40, VL g R 4 3 (-1) 100002, VL g R 8 3 0 4, VC (.pointer (some ⟨g, 0, none⟩)), VI 0 8, VP g R 3 0 4, VI 0 4, VP g R 3 (-1) 100002, VI (-1) 100002, VC (.pointer (some ⟨g, 0, none⟩)), VI 0 256, VL g R 3 3 (-1) 257, VL g R 7 3 0 3, VC (.pointer (some ⟨g, 0, none⟩)), VI 0 7, VP g R 3 0 3, VI 0 3, VP g R 3 (-1) 257, VI (-1) 257, VF fin, VI (-1) 100002, VI (-1) 257]) (Ext := ExtR g R fin) (by kernel_rfl) (by kernel_rfl) (by rfl)
    (stab_at ⟨VC.stab, VC.stab, VI.stab, VL.stab, VL.stab, VC.stab, VI.stab, VP.stab, VI.stab, VP.stab, VI.stab, VC.stab, VI.stab, VL.stab, VL.stab, VC.stab, VI.stab, VP.stab, VI.stab, VP.stab, VI.stab, VF.stab, VI.stab, VI.stab, trivial⟩) J0 ?_ ?_
  · refine ⟨?_, ?_, ?_, ?_, ?_, ?_, ?_, ?_, ?_, ?_, ?_, ?_, ?_, ?_, ?_, ?_, ?_, ?_, ?_, ?_, ?_, ?_, ?_, ?_, trivial⟩
    all_goals
      intro n s a W hJ hks hkd hold hdep K hK
      have hgW := hJ.glt
      have hBW : R ≤ W.heap.size := by omega
      have hBR : R ≤ R := Nat.le_refl R
    · have h6 := ev (show a.eval (.tmp 6) = .pointer (some ⟨X, 0, none⟩) from hold 6 (by kernel_rfl))
      have hd := hJ.dat
      rw [hD] at hd
      obtain ⟨x0, x1, _, _, _⟩ := cell2 hd.1
      unfold Oper.wp execOp
      go_simp
      exact hK (.agg #[.int .i64 d, .slice A2 h.length c2]) _ hJ.weak rfl (ExtR.refl _)
    · have h5 : a.eval (.tmp 5) = .pointer (some ⟨g, 0, none⟩) := hold 5 (by kernel_rfl)
      exact wp_val (run_move rfl) (hK _ _ hJ.weak h5 (ExtR.refl _))
    · have h12 := ev (show a.eval (.tmp 12) = .pointer (some ⟨g, 0, none⟩) from hdep 1 (by kernel_rfl) _ rfl)
      have hrd := hJ.rdr (hkd (by kernel_rfl))
      unfold Oper.wp execOp
      go_simp
      refine (callPick g _ _ _ hrd (by have := hJ.hn; omega)).mono ?_
      rintro e W5 ⟨p, rfl, d1, d2, _, hr5, hg5⟩
      exact hK (.int .i64 p) _ (hJ.pick hDg hBg hBW hr5 hg5) ⟨p, rfl, d1, d2 (by omega)⟩ (ExtR.grown hg5 (hFg _ _ hg5))
    · obtain ⟨p, h13, p0, p1⟩ : VI (0) (40) W (a.eval (.tmp 13)) := hdep 2 (by kernel_rfl) _ rfl
      have h13 := ev h13
      unfold Oper.wp execOp
      go_simp
      refine hK (.slice (some ⟨W.heap.size, 0, none⟩) 4 4) _ (hJ.alloc hDg hBW _) ⟨W.heap.size, [p, -1, 100000, 100001], rfl, by omega, by omega, rfl, heap_alloc_new W _, fun x hx => ?_⟩ (ExtR.grown (World.grownBy_alloc W _ _) (hFg _ _ (World.grownBy_alloc W _ _)))
      simp only [List.mem_cons, List.not_mem_nil, or_false] at hx
      omega
    · unfold Oper.wp execOp
      go_simp
      refine hK (.slice (some ⟨W.heap.size, 0, none⟩) 8 8) _ (hJ.alloc hDg hBW _) ⟨W.heap.size, [0, 0, 0, 0, 0, 1, 2, 3], rfl, by omega, by omega, rfl, heap_alloc_new W _, fun x hx => ?_⟩ (ExtR.grown (World.grownBy_alloc W _ _) (hFg _ _ (World.grownBy_alloc W _ _)))
      simp only [List.mem_cons, List.not_mem_nil, or_false] at hx
      omega
    · have h5 : a.eval (.tmp 5) = .pointer (some ⟨g, 0, none⟩) := hold 5 (by kernel_rfl)
      exact wp_val (run_move rfl) (hK _ _ hJ.weak h5 (ExtR.refl _))
    · have h12 := ev (show a.eval (.tmp 16) = .pointer (some ⟨g, 0, none⟩) from hdep 5 (by kernel_rfl) _ rfl)
      have hrd := hJ.rdr (hkd (by kernel_rfl))
      unfold Oper.wp execOp
      go_simp
      refine (callPick g _ _ _ hrd (by have := hJ.hn; omega)).mono ?_
      rintro e W5 ⟨p, rfl, d1, d2, _, hr5, hg5⟩
      exact hK (.int .i64 p) _ (hJ.pick hDg hBg hBW hr5 hg5) ⟨p, rfl, d1, d2 (by omega)⟩ (ExtR.grown hg5 (hFg _ _ hg5))
    · obtain ⟨b, xs, h15, hb1, hb2, hxl, hbx, hxs⟩ : VL g R 8 3 (0) (4) W (a.eval (.tmp 15)) := hdep 4 (by kernel_rfl) _ rfl
      obtain ⟨q, h17, q0, q1⟩ : VI 0 8 W (a.eval (.tmp 17)) := hdep 6 (by kernel_rfl) _ rfl
      obtain ⟨k, rfl⟩ := Int.eq_ofNat_of_zero_le q0
      have h15 := ev h15
      have h17 := ev h17
      have hk : k < xs.length := by omega
      have HX := Lib.hid (hxs xs[k] (List.getElem_mem hk))
      clear hxs
      unfold Oper.wp execOp
      go_simp
      exact hK (.pointer (some ⟨b, k, none⟩)) _ hJ.weak ⟨b, k, _, xs[k], rfl, hb1, hb2, hbx, map_at hk, HX.out.1, HX.out.2⟩ (ExtR.refl _)
    · obtain ⟨b, k, cs, x, h18, hb1, hb2, hbx, hcs, hx0, hx1⟩ : VP g R 3 (0) (4) W (a.eval (.tmp 18)) := hdep 7 (by kernel_rfl) _ rfl
      have hcell := cellOf' hbx hcs
      have h18 := ev h18
      clear hbx hcs
      unfold Oper.wp execOp
      go_simp
      exact hK (.int .i64 x) _ hJ.weak ⟨x, rfl, hx0, hx1⟩ (ExtR.refl _)
    · obtain ⟨b, xs, h15, hb1, hb2, hxl, hbx, hxs⟩ : VL g R 4 3 (-1) (100002) W (a.eval (.tmp 14)) := hdep 3 (by kernel_rfl) _ rfl
      obtain ⟨q, h17, q0, q1⟩ : VI 0 4 W (a.eval (.tmp 19)) := hdep 8 (by kernel_rfl) _ rfl
      obtain ⟨k, rfl⟩ := Int.eq_ofNat_of_zero_le q0
      have h15 := ev h15
      have h17 := ev h17
      have hk : k < xs.length := by omega
      have HX := Lib.hid (hxs xs[k] (List.getElem_mem hk))
      clear hxs
      unfold Oper.wp execOp
      go_simp
      exact hK (.pointer (some ⟨b, k, none⟩)) _ hJ.weak ⟨b, k, _, xs[k], rfl, hb1, hb2, hbx, map_at hk, HX.out.1, HX.out.2⟩ (ExtR.refl _)
    · obtain ⟨b, k, cs, x, h18, hb1, hb2, hbx, hcs, hx0, hx1⟩ : VP g R 3 (-1) (100002) W (a.eval (.tmp 20)) := hdep 9 (by kernel_rfl) _ rfl
      have hcell := cellOf' hbx hcs
      have h18 := ev h18
      clear hbx hcs
      unfold Oper.wp execOp
      go_simp
      exact hK (.int .i64 x) _ hJ.weak ⟨x, rfl, hx0, hx1⟩ (ExtR.refl _)
    · have h5 : a.eval (.tmp 5) = .pointer (some ⟨g, 0, none⟩) := hold 5 (by kernel_rfl)
      exact wp_val (run_move rfl) (hK _ _ hJ.weak h5 (ExtR.refl _))
    · have h12 := ev (show a.eval (.tmp 22) = .pointer (some ⟨g, 0, none⟩) from hdep 11 (by kernel_rfl) _ rfl)
      have hrd := hJ.rdr (hkd (by kernel_rfl))
      unfold Oper.wp execOp
      go_simp
      refine (callPick g _ _ _ hrd (by have := hJ.hn; omega)).mono ?_
      rintro e W5 ⟨p, rfl, d1, d2, _, hr5, hg5⟩
      exact hK (.int .i64 p) _ (hJ.pick hDg hBg hBW hr5 hg5) ⟨p, rfl, d1, d2 (by omega)⟩ (ExtR.grown hg5 (hFg _ _ hg5))
    · obtain ⟨p, h23, p0, p1⟩ : VI (0) (256) W (a.eval (.tmp 23)) := hdep 12 (by kernel_rfl) _ rfl
      have h23 := ev h23
      unfold Oper.wp execOp
      go_simp
      refine hK (.slice (some ⟨W.heap.size, 0, none⟩) 3 3) _ (hJ.alloc hDg hBW _) ⟨W.heap.size, [p, -1, 256], rfl, by omega, by omega, rfl, heap_alloc_new W _, fun x hx => ?_⟩ (ExtR.grown (World.grownBy_alloc W _ _) (hFg _ _ (World.grownBy_alloc W _ _)))
      simp only [List.mem_cons, List.not_mem_nil, or_false] at hx
      omega
    · unfold Oper.wp execOp
      go_simp
      refine hK (.slice (some ⟨W.heap.size, 0, none⟩) 7 7) _ (hJ.alloc hDg hBW _) ⟨W.heap.size, [0, 0, 0, 0, 0, 1, 2], rfl, by omega, by omega, rfl, heap_alloc_new W _, fun x hx => ?_⟩ (ExtR.grown (World.grownBy_alloc W _ _) (hFg _ _ (World.grownBy_alloc W _ _)))
      simp only [List.mem_cons, List.not_mem_nil, or_false] at hx
      omega
    · have h5 : a.eval (.tmp 5) = .pointer (some ⟨g, 0, none⟩) := hold 5 (by kernel_rfl)
      exact wp_val (run_move rfl) (hK _ _ hJ.weak h5 (ExtR.refl _))
    · have h12 := ev (show a.eval (.tmp 26) = .pointer (some ⟨g, 0, none⟩) from hdep 15 (by kernel_rfl) _ rfl)
      have hrd := hJ.rdr (hkd (by kernel_rfl))
      unfold Oper.wp execOp
      go_simp
      refine (callPick g _ _ _ hrd (by have := hJ.hn; omega)).mono ?_
      rintro e W5 ⟨p, rfl, d1, d2, _, hr5, hg5⟩
      exact hK (.int .i64 p) _ (hJ.pick hDg hBg hBW hr5 hg5) ⟨p, rfl, d1, d2 (by omega)⟩ (ExtR.grown hg5 (hFg _ _ hg5))
    · obtain ⟨b, xs, h15, hb1, hb2, hxl, hbx, hxs⟩ : VL g R 7 3 (0) (3) W (a.eval (.tmp 25)) := hdep 14 (by kernel_rfl) _ rfl
      obtain ⟨q, h17, q0, q1⟩ : VI 0 7 W (a.eval (.tmp 27)) := hdep 16 (by kernel_rfl) _ rfl
      obtain ⟨k, rfl⟩ := Int.eq_ofNat_of_zero_le q0
      have h15 := ev h15
      have h17 := ev h17
      have hk : k < xs.length := by omega
      have HX := Lib.hid (hxs xs[k] (List.getElem_mem hk))
      clear hxs
      unfold Oper.wp execOp
      go_simp
      exact hK (.pointer (some ⟨b, k, none⟩)) _ hJ.weak ⟨b, k, _, xs[k], rfl, hb1, hb2, hbx, map_at hk, HX.out.1, HX.out.2⟩ (ExtR.refl _)
    · obtain ⟨b, k, cs, x, h18, hb1, hb2, hbx, hcs, hx0, hx1⟩ : VP g R 3 (0) (3) W (a.eval (.tmp 28)) := hdep 17 (by kernel_rfl) _ rfl
      have hcell := cellOf' hbx hcs
      have h18 := ev h18
      clear hbx hcs
      unfold Oper.wp execOp
      go_simp
      exact hK (.int .i64 x) _ hJ.weak ⟨x, rfl, hx0, hx1⟩ (ExtR.refl _)
    · obtain ⟨b, xs, h15, hb1, hb2, hxl, hbx, hxs⟩ : VL g R 3 3 (-1) (257) W (a.eval (.tmp 24)) := hdep 13 (by kernel_rfl) _ rfl
      obtain ⟨q, h17, q0, q1⟩ : VI 0 3 W (a.eval (.tmp 29)) := hdep 18 (by kernel_rfl) _ rfl
      obtain ⟨k, rfl⟩ := Int.eq_ofNat_of_zero_le q0
      have h15 := ev h15
      have h17 := ev h17
      have hk : k < xs.length := by omega
      have HX := Lib.hid (hxs xs[k] (List.getElem_mem hk))
      clear hxs
      unfold Oper.wp execOp
      go_simp
      exact hK (.pointer (some ⟨b, k, none⟩)) _ hJ.weak ⟨b, k, _, xs[k], rfl, hb1, hb2, hbx, map_at hk, HX.out.1, HX.out.2⟩ (ExtR.refl _)
    · obtain ⟨b, k, cs, x, h18, hb1, hb2, hbx, hcs, hx0, hx1⟩ : VP g R 3 (-1) (257) W (a.eval (.tmp 30)) := hdep 19 (by kernel_rfl) _ rfl
      have hcell := cellOf' hbx hcs
      have h18 := ev h18
      clear hbx hcs
      unfold Oper.wp execOp
      go_simp
      exact hK (.int .i64 x) _ hJ.weak ⟨x, rfl, hx0, hx1⟩ (ExtR.refl _)
    · have h2 := ev (show a.eval (.tmp 2) = .pointer (some ⟨R, 0, none⟩) from hold 2 (by kernel_rfl))
      have h11 := ev (show a.eval (.tmp 11) = .agg #[.int .i64 d, .slice A2 h.length c2] from hdep 0 (by kernel_rfl) _ rfl)
      have hd := hJ.dat
      rw [hD] at hd
      obtain ⟨e1, ⟨x, y, e2⟩, e3⟩ := hd
      obtain ⟨y0, y1, y2, y3, y4⟩ := cell2 e2
      have hs := hks rfl
      unfold Oper.wp execOp
      go_simp
      refine hK undef _ ⟨by have := hJ.hn; omega, fun e => by simp at e, bset2 hJ.bel hBR _ _, by simp; exact hJ.glt, ?_⟩ ?_ ⟨fun b o hb1 hb2 hb => blko (blko hb _ hb2) _ hb2, fun _ => ?_⟩
      · rw [hD]
        exact ⟨blko (blko e1 _ (by simp; omega)) _ (by simp; omega), ⟨_, _, set2 e2⟩, e3.kept (gset2 _ _) (fun k hk => by cases hk; omega)⟩
      · show fin _
        rw [hfin]; exact set2 e2
      · rw [hfin]; exact set2 e2
    · have h5 : VI (-1) (100002) W (a.eval (.tmp 21)) := hdep 10 (by kernel_rfl) _ rfl
      exact wp_val (run_assign rfl) (hK _ _ hJ.weak h5 (ExtR.refl _))
    · have h5 : VI (-1) (257) W (a.eval (.tmp 31)) := hdep 20 (by kernel_rfl) _ rfl
      exact wp_val (run_assign rfl) (hK _ _ hJ.weak h5 (ExtR.refl _))
  · intro vs n s wx hJ hv
    obtain ⟨x22, h22, _, _⟩ : VI (-1) 100002 wx (vs 22) := hv 22 _ rfl
    obtain ⟨x23, h23, _, _⟩ : VI (-1) 257 wx (vs 23) := hv 23 _ rfl
    have hf : fin wx := hv 21 _ rfl
    have hd := hJ.dat
    have hbl := Lib.hid hJ.bel
    rw [hfin] at hf
    rw [hD] at hd
    obtain ⟨s0, s1, _, _, _⟩ := cell2 hf
    have HOw := Lib.hid hd.2.2.rd
    have HR1' := HR0.out
    clear hv hd hf hD hfin hDg hFg J0 hJ
    simp only [putAll]
    rw [h22, h23]
    clear h22 h23
    go_wp2_with fail
    exact bodyPost_ret (v := .tuple #[.agg #[.int .i64 d, .slice A2 h.length c2], .int .i64 x22, .int .i64 x23]) (by simp [results, Try.results16, go_sem, s0, s1]) rfl ⟨A2, c2, d, h, x22, x23, rfl, HOw.out, hc2, hl2, by rw [← HR1']; exact hbl.out⟩
end Go.Proofs.Ytonhkadbiepedaa
