/- Caches of the reference. -/
import Derived.Test.YtlkdngjpbohgaaaCae
import Derived.Deep.DeepCutAuto
import Derived.Deep.RegionHeld3
namespace Go.Proofs.Ytlkdngjpbohgaaa
open Go.RowKit Go.Sort

set_option maxRecDepth 100000 in
set_option maxHeartbeats 1600000 in
theorem callOwnCache (A : Option Addr) (c : Nat) (h : List Int) (w : World) (B : Nat) (hB : B ≤ w.heap.size) (hm : h.length ≤ 1048576) (hr : Rd eInt w B A h) :
    Calls Try.prog 60 #[.agg #[.slice A h.length c]] w fun e w' => ∃ A' c', e = .returned (.agg #[.slice A' h.length c']) ∧ Own eInt 3 w' w.heap.size (.slice A' h.length c') h ∧ h.length ≤ c' ∧ Below w.heap.size w w' := by
  have hK0 := heap_alloc_new (w.alloc (.cells #[.slice A h.length c] 25)) (.cells #[.slice none 0 0] 25)
  have hJ0 := heap_alloc_new ((w.alloc (.cells #[.slice A h.length c] 25)).alloc (.cells #[.slice none 0 0] 25)) (.cells #[.slice A h.length c] 25)
  simp only [World.size_alloc] at hK0 hJ0
  have HK0 := Lib.hid (blkc (blkc hK0 (below1 _ (.cells #[.slice A h.length c] 25))) (below1 _ (.cells #[] 3)))
  have HJ0 := Lib.hid (blkc hJ0 (below1 _ (.cells #[] 3)))
  have HB0 := Lib.hid (bel_trans (below3 w (.cells #[.slice A h.length c] 25) (.cells #[.slice none 0 0] 25) (.cells #[.slice A h.length c] 25)) (below1 _ (.cells #[] 3)))
  have HR := Lib.hid ((hr.below (HB0.out.mono hB)).mono (Nat.le_trans hB HB0.out.size))
  clear hr hK0 hJ0
  go_enter Try.func60, Try.ntmps60
  go_wp2_with (at_builtin; refine wpList_app _ eiInt rfl (.tmp 5) (.tmp 7) rfl (w.heap.size + 3) Own.none_ HR.out rfl rfl rfl (by simp; omega) (by simp) ?_; intro v' w4 row hown4' hg4 hrow4; have hown4 : Own eInt 3 w4 (w.heap.size + 3) v' h := (by (have := hown4'; simpa using this)); obtain ⟨A4, c4, hv4, hc4, _⟩ := hown4.form; subst hv4; have HO4 := Lib.hid hown4; have HK4 := Lib.hid (gblk hg4 HK0.out (fun e => by have := (hrow4 _ e.symm).1; omega)); have HJ4 := Lib.hid (gblk hg4 HJ0.out (fun e => by have := (hrow4 _ e.symm).1; omega)); have HB4 : Hid (Below w.heap.size w w4) := HB0.out.trans ((Below.refl _ _).grown hg4 HB0.out.size (fun k hk => by have := (hrow4 k hk).1; omega)); clear hown4 hown4' hg4 hrow4; obtain ⟨k1, k2, k3⟩ := cell1 HK4.out; obtain ⟨j1, j2, j3⟩ := cell1 HJ4.out)
  have HK5 := gblk (gset (w := w4) (g := w.heap.size + 1 + 1) 0 (.slice A4 h.length c4)) HK4.out (by simp <;> omega)
  have HRS := Lib.hid (res1 HK5 (.slice A4 h.length c4))
  clear HK5
  refine bodyPost_ret (v := .agg #[.slice A4 h.length c4]) (by simp [results, Try.results60, go_sem, HRS.out]) rfl ⟨A4, c4, rfl, ?_, hc4, ?_⟩
  · exact ((HO4.out.kept (gset 0 _) (fun k hk => by cases hk; omega)).kept (gset 0 _) (fun k hk => by cases hk; omega)).more (by omega)
  · exact (HB4.out.setCell (by show w.heap.size ≤ w.heap.size + 1 + 1; omega) _).setCell (by show w.heap.size ≤ w.heap.size + 1; omega) _

set_option maxRecDepth 100000 in
set_option maxHeartbeats 3200000 in
theorem callSTouchCache (A : Option Addr) (c : Nat) (h : List Int) (p : Int) (w : World) (B : Nat) (hB : B ≤ w.heap.size) (hm : h.length ≤ 1048576) (hr : Rd eInt w B A h) :
    Calls Try.prog 24 #[.agg #[.slice A h.length c], .int .i64 p] w fun e w' => ∃ A' c', e = .returned (.tuple #[.agg #[.slice A' (tcNew h p).length c'], .int .i64 (tcTime h p)]) ∧ Own eInt 3 w' w.heap.size (.slice A' (tcNew h p).length c') (tcNew h p) ∧ (tcNew h p).length ≤ c' ∧ Below w.heap.size w w' := by
  have HR := Lib.hid (hr.below ((below2 w (.cells #[.slice A h.length c] 25) (.cells #[.slice none 0 0] 25)).mono hB))
  have hK0 := heap_alloc_new (w.alloc (.cells #[.slice A h.length c] 25)) (.cells #[.slice none 0 0] 25)
  rw [World.size_alloc] at hK0
  have hJ0 : ((w.alloc (.cells #[.slice A h.length c] 25)).alloc (.cells #[.slice none 0 0] 25)).heap[w.heap.size]? = some (.cells #[.slice A h.length c] 25 (0, 0)) := by rw [heap_alloc_old _ _ (by simp)]; exact heap_alloc_new w _
  have HK0 := Lib.hid hK0
  have HJ0 := Lib.hid hJ0
  clear hr hK0 hJ0
  have no : tcOk h p = false → tcNew h p = [] ∧ tcTime h p = -1 := fun e => by unfold tcNew tcTime; rw [e]; exact ⟨rfl, rfl⟩
  have NO := Lib.hid no
  clear no
  go_enter Try.func24, Try.ntmps24
  go_wp2_with fail
  refine (callOwnCache A c h _ B (by simp; omega) hm HR.out).mono ?_
  rintro e w1 ⟨A1, c1, rfl, hown1, hc1, hb1⟩
  have hk1 := blkc HK0.out hb1
  have hj1 := blkc HJ0.out hb1
  obtain ⟨j1, j2, j3⟩ := cell1 hj1
  have hs1 : w.heap.size + 1 < w1.heap.size := (cell1 hk1).2.2
  have HJ2 := Lib.hid (set1 (u := .slice A1 h.length c1) hj1)
  have HK2 := Lib.hid (gblk (gset (w := w1) (g := w.heap.size) 0 (.slice A1 h.length c1)) hk1 (by simp))
  have HB2 := Lib.hid ((bel_trans (below2 _ _ _) hb1).setCell (p := ⟨w.heap.size, 0, none⟩) (by show w.heap.size ≤ w.heap.size; omega) (.slice A1 h.length c1))
  have HO2 := Lib.hid (hown1.kept (gset (w := w1) (g := w.heap.size) 0 (.slice A1 h.length c1)) (fun k hk => by cases hk; simp <;> omega))
  clear hk1 hj1 hb1 hown1
  cases hc : cacheOk h
  · have HC := Lib.hid hc
    obtain ⟨n1, n2⟩ := NO.out (by unfold tcOk; rw [hc]; rfl)
    have N1 := Lib.hid n1
    have N2 := Lib.hid n2
    clear hc n1 n2
    go_wp2_with fail
    refine (callSCacheValid A1 c1 h _ _ (Nat.le_refl _) hm HO2.out.rd).mono ?_
    rintro e w3 ⟨rfl, hb3⟩
    rw [HC.out]
    have hk := blkc HK2.out hb3
    obtain ⟨k1, k2, k3⟩ := cell1 hk
    have HR1 := Lib.hid (res1 hk (.slice none 0 0))
    have HB3 := Lib.hid (bel_trans HB2.out hb3)
    clear hk hb3 j1 j2 j3
    go_wp2
    refine bodyPost_ret (v := .tuple #[.agg #[.slice none 0 0], .int .i64 (-1)]) (by simp [results, Try.results24, go_sem, HR1.out]) rfl ⟨none, 0, ?_, ?_, ?_, ?_⟩
    · rw [N1.out, N2.out]; rfl
    · rw [N1.out]; exact Own.none_
    · rw [N1.out]; exact Nat.le_refl _
    · exact HB3.out.setCell (by show w.heap.size ≤ w.heap.size + 1; omega) _
  · have HC := Lib.hid hc
    have hl := cacheOk_len hc
    have hne : h ≠ [] := by intro e; simp [e] at hl
    cases hp : inB p 0 4095
    · obtain ⟨n1, n2⟩ := NO.out (by unfold tcOk plOk; rw [hc, hp]; rfl)
      have N1 := Lib.hid n1
      have N2 := Lib.hid n2
      clear hc n1 n2
      go_wp2_with fail
      refine (callSCacheValid A1 c1 h _ _ (Nat.le_refl _) hm HO2.out.rd).mono ?_
      rintro e w3 ⟨rfl, hb3⟩
      rw [HC.out]
      have hk := blkc HK2.out hb3
      obtain ⟨k1, k2, k3⟩ := cell1 hk
      have HR1 := Lib.hid (res1 hk (.slice none 0 0))
      have HB3 := Lib.hid (bel_trans HB2.out hb3)
      clear hk hb3 j1 j2 j3
      go_wp2_with (go_at_call 53; refine (callL1In _ _ _ _).mono ?_; rintro e w' ⟨rfl, rfl⟩)
      refine bodyPost_ret (v := .tuple #[.agg #[.slice none 0 0], .int .i64 (-1)]) (by simp [results, Try.results24, go_sem, HR1.out]) rfl ⟨none, 0, ?_, ?_, ?_, ?_⟩
      · rw [N1.out, N2.out]; rfl
      · rw [N1.out]; exact Own.none_
      · rw [N1.out]; exact Nat.le_refl _
      · exact HB3.out.setCell (by show w.heap.size ≤ w.heap.size + 1; omega) _
    · have hok : tcOk h p = true := by unfold tcOk plOk; rw [hc, hp]; rfl
      have N1 : Hid (tcNew h p = tNew h p) := by show _ = _; unfold tcNew; rw [hok]; rfl
      have N2 : Hid (tcTime h p = tTime h p) := by show _ = _; unfold tcTime; rw [hok]; rfl
      have ET : Hid (tTime h p = if tHit h p then 1 else 8) := rfl
      have EN : Hid (tNew h p = if tHit h p then h else h.set (tLine h p) (p / 16)) := rfl
      obtain ⟨hp0, hp1⟩ := inB_iff.1 hp
      clear hc hok
      go_wp2_with fail
      refine (callSCacheValid A1 c1 h _ _ (Nat.le_refl _) hm HO2.out.rd).mono ?_
      rintro e w3 ⟨rfl, hb3⟩
      rw [HC.out]
      have HK3 := Lib.hid (blkc HK2.out hb3)
      have HJ3 := Lib.hid (blkc HJ2.out hb3)
      have HO3 := Lib.hid (HO2.out.next hb3)
      have HB3 := Lib.hid (bel_trans HB2.out hb3)
      clear hb3 j1 j2 j3
      obtain ⟨j1, j2, j3⟩ := cell1 HJ3.out
      have hs3 : w.heap.size + 1 < w3.heap.size := (cell1 HK3.out).2.2
      have HR3 := Lib.hid ((HO3.out.rd.below (below1 w3 (.cells #[] 3))).mono (B' := (w3.alloc (.cells #[] 3)).heap.size) (by simp))
      have HK3' := Lib.hid (blkc HK3.out (below1 _ (.cells #[] 3)))
      have HJ3' := Lib.hid (blkc HJ3.out (below1 _ (.cells #[] 3)))
      obtain ⟨ln, hln⟩ : ∃ ln, ln = tLine h p := ⟨_, rfl⟩
      have hln2 : p / 16 % (h.length : Int) = (ln : Int) := by
        rw [hln]; unfold tLine
        have := Int.emod_nonneg (p / 16) (show (h.length : Int) ≠ 0 by omega)
        omega
      have hlt2 : ln < h.length := by rw [hln]; exact tLine_lt (by omega) p
      have EX : Hid (tHit h p = (h[ln] == p / 16)) := by
        show _ = _
        rw [tHit_eq (by omega)]; simp only [hln]
      have HLN := Lib.hid hln
      clear hln
      obtain ⟨bk, hbk⟩ : ∃ bk, bk = p / 16 := ⟨_, rfl⟩
      rw [← hbk] at hln2 EX EN
      have hbk2 : p / 16 = bk := hbk.symm
      have hbk0 : 0 ≤ bk ∧ bk ≤ 255 := by omega
      clear hbk
      go_wp2_with (first | (go_at_call 53; refine (callL1In _ _ _ _).mono ?_; rintro e w' ⟨rfl, rfl⟩) | (at_builtin; refine wpList_app _ eiInt rfl (.tmp 19) (.tmp 21) rfl w3.heap.size Own.none_ HR3.out rfl rfl rfl (by simp; omega) (by simp) ?_; intro v' w4 row hown4' hg4 hrow4; have hown4 : Own eInt 3 w4 w3.heap.size v' h := (by (have := hown4'; simpa using this)); obtain ⟨A4, c4, hv4, hc4, hf4⟩ := hown4.form; subst hv4; have HO4 := Lib.hid hown4; have HF4 := Lib.hid (hf4 hne); have HG4 := Lib.hid (gblk hg4 HK3'.out (fun e => by have := (hrow4 _ e.symm).1; omega)); have HGJ4 := Lib.hid (gblk hg4 HJ3'.out (fun e => by have := (hrow4 _ e.symm).1; omega)); have HB4 : Hid (Below w3.heap.size w3 w4) := (below1 _ _).trans ((Below.refl _ _).grown hg4 (by simp) (fun k hk => (hrow4 k hk).1)); clear hown4 hown4' hg4 hrow4 hf4))
      obtain ⟨g4, rfl, hg41, hg42⟩ := HF4.out
      have HO5 := Lib.hid (HO4.out.alloc (.cells #[.slice (some ⟨g4, 0, none⟩) h.length c4] 25))
      have HX5 : Hid ((w4.alloc (.cells #[.slice (some ⟨g4, 0, none⟩) h.length c4] 25)).heap[w4.heap.size]? = some (.cells #[.slice (some ⟨g4, 0, none⟩) h.length c4] 25 (0, 0))) := heap_alloc_new w4 _
      have HK5 := Lib.hid (blkc HG4.out (below1 _ (.cells #[.slice (some ⟨g4, 0, none⟩) h.length c4] 25)))
      have HJ5 := Lib.hid (blkc HGJ4.out (below1 _ (.cells #[.slice (some ⟨g4, 0, none⟩) h.length c4] 25)))
      have HB5 := Lib.hid ((bel_trans HB3.out HB4.out).alloc (bel_trans HB3.out HB4.out).size (.cells #[.slice (some ⟨g4, 0, none⟩) h.length c4] 25))
      have HA5 := Lib.hid (HO3.out.rd.below (HB4.out.trans ((below1 w4 (.cells #[.slice (some ⟨g4, 0, none⟩) h.length c4] 25)).mono HB4.out.size)))
      clear j1 j2 j3
      obtain ⟨w5, hw5⟩ : ∃ w5, w5 = w4.alloc (.cells #[.slice (some ⟨g4, 0, none⟩) h.length c4] 25) := ⟨_, rfl⟩
      rw [← hw5] at HO5 HX5 HK5 HJ5 HB5 HA5 ⊢
      clear hw5 HO4 HG4 HGJ4 HB4
      obtain ⟨ba, oa, rfl, hbaB, a1⟩ := HA5.out.at1 rfl hlt2 rfl
      obtain ⟨x1, x2, x3⟩ := cell1 HX5.out
      obtain ⟨k1, k2, k3⟩ := cell1 HK5.out
      obtain ⟨j1, j2, j3⟩ := cell1 HJ5.out
      have hz0 : ((h.length : Int) == 0) = false := by rw [beq_eq_false_iff_ne]; omega
      have hi1 : (0 : Int) ≤ (ln : Int) := by omega
      have hi2 : (ln : Int) < (h.length : Int) := by omega
      cases q : (h[ln] == bk)
      · rw [q] at EX
        have hf5 := HO5.out.frozen (o := ln) hne
        obtain ⟨bb, oo, hAA, _, b1⟩ := HO5.out.rd.at1 rfl hlt2 rfl
        simp only [Option.some.injEq, Addr.mk.injEq, and_true] at hAA
        obtain ⟨rfl, rfl⟩ := hAA
        simp only [Nat.zero_add] at b1
        have HS5 : Hid (∀ m, Own eInt 3 ((w5.drewN m).setCell ⟨g4, ln, none⟩ (.int .i64 bk)) w3.heap.size (.slice (some ⟨g4, 0, none⟩) h.length c4) (h.set ln bk)) := fun m => by
          have := (HO5.out.drewN m).set (E := eInt) (i := ln) (j := 0) (x := h[ln]) (y := bk) (u := .int .i64 bk) (List.getElem?_eq_getElem hlt2) (by decide) rfl
          simpa using this
        have HTN : Hid (tNew h p = h.set ln bk) := by show _ = _; rw [EN.out, EX.out, HLN.out]; rfl
        have HLN2 := Lib.hid (tNew_len h p)
        have HX6 := Lib.hid (gblk (gset (w := w5) (g := g4) ln (.int .i64 bk)) HX5.out (by simp; omega))
        have HK6 := Lib.hid (gblk (gset (w := w5) (g := g4) ln (.int .i64 bk)) HK5.out (by simp; omega))
        have HR6 : Hid (∀ m, (((w5.drewN m).setCell ⟨g4, ln, none⟩ (.int .i64 bk)).setCell ⟨w.heap.size + 1, 0, none⟩ (.slice (some ⟨g4, 0, none⟩) h.length c4)).cell? ⟨w.heap.size + 1, 0, none⟩ = some (.slice (some ⟨g4, 0, none⟩) h.length c4)) := fun m => res1 (w := (w5.drewN m).setCell ⟨g4, ln, none⟩ (.int .i64 bk)) HK6.out _
        have y1 := (cell1 HX6.out).1
        have y2 := (cell1 HK6.out).2.1
        go_quiet (fail)
        go_wp2_with fail
        go_region
        all_goals (try go_wp2)
        all_goals
          refine bodyPost_ret (v := .tuple #[.agg #[.slice (some ⟨g4, 0, none⟩) h.length c4], .int .i64 8]) (by simp [results, Try.results24, go_sem, HR6.out]) rfl ⟨some ⟨g4, 0, none⟩, c4, ?_, ?_, ?_, ?_⟩
          · rw [N1.out, N2.out, HLN2.out, ET.out, EX.out] <;> rfl
          · rw [N1.out, HLN2.out, HTN.out]
            exact ((HS5.out _).kept (gset 0 _) (fun k hk => by cases hk; omega)).more (by omega)
          · rw [N1.out, HLN2.out]; exact hc4
          · exact ((below_drewN HB5.out _).setCell (by show w.heap.size ≤ g4; omega) _).setCell (by show w.heap.size ≤ w.heap.size + 1; omega) _
      · rw [q] at EX
        have HR6 : Hid (∀ m, ((w5.drewN m).setCell ⟨w.heap.size + 1, 0, none⟩ (.slice (some ⟨g4, 0, none⟩) h.length c4)).cell? ⟨w.heap.size + 1, 0, none⟩ = some (.slice (some ⟨g4, 0, none⟩) h.length c4)) := fun m => res1 (w := w5.drewN m) HK5.out _
        go_quiet (fail)
        go_wp2
        refine bodyPost_ret (v := .tuple #[.agg #[.slice (some ⟨g4, 0, none⟩) h.length c4], .int .i64 1]) (by simp [results, Try.results24, go_sem, HR6.out]) rfl ⟨some ⟨g4, 0, none⟩, c4, ?_, ?_, ?_, ?_⟩
        · rw [N1.out, N2.out, ET.out, EN.out, EX.out] <;> rfl
        · rw [N1.out, EN.out, EX.out]
          exact (((HO5.out.drewN _).kept (gset 0 _) (fun k hk => by cases hk; omega))).more (by omega)
        · rw [N1.out, EN.out, EX.out]; exact hc4
        · exact (below_drewN HB5.out _).setCell (by show w.heap.size ≤ w.heap.size + 1; omega) _
end Go.Proofs.Ytlkdngjpbohgaaa
