/- Caches of the program: TouchCache, TouchTime, LeakTime. -/
import Derived.Test.YtlkdngjpbohgaaaCad
namespace Go.Proofs.Ytlkdngjpbohgaaa
open Go.RowKit Go.Sort

def tcOk (h : List Int) (p : Int) : Bool := cacheOk h && plOk p
def tcNew (h : List Int) (p : Int) : List Int := if tcOk h p then tNew h p else []
def tcTime (h : List Int) (p : Int) : Int := if tcOk h p then tTime h p else -1

set_option maxRecDepth 100000 in
set_option maxHeartbeats 3200000 in
theorem callTouchCache (A : Option Addr) (c : Nat) (h : List Int) (p : Int) (w : World) (B : Nat) (hB : B ≤ w.heap.size) (hm : h.length ≤ 1048576) (hcc : h.length ≤ c) (hr : Rd eInt w B A h) :
    Calls Try.prog 23 #[.agg #[.slice A h.length c], .int .i64 p] w fun e w' => ∃ A' c', e = .returned (.tuple #[.agg #[.slice A' (tcNew h p).length c'], .int .i64 (tcTime h p)]) ∧ Own eInt 3 w' w.heap.size (.slice A' (tcNew h p).length c') (tcNew h p) ∧ (tcNew h p).length ≤ c' ∧ Below w.heap.size w w' := by
  have HR := Lib.hid (hr.below ((below2 w (.cells #[.slice A h.length c] 25) (.cells #[.slice none 0 0] 25)).mono hB))
  have hK0 := heap_alloc_new (w.alloc (.cells #[.slice A h.length c] 25)) (.cells #[.slice none 0 0] 25)
  rw [World.size_alloc] at hK0
  have hJ0 : ((w.alloc (.cells #[.slice A h.length c] 25)).alloc (.cells #[.slice none 0 0] 25)).heap[w.heap.size]? = some (.cells #[.slice A h.length c] 25 (0, 0)) := by rw [heap_alloc_old _ _ (by simp)]; exact heap_alloc_new w _
  have HK0 := Lib.hid hK0
  have HJ0 := Lib.hid hJ0
  clear hr hK0 hJ0
  have no : tcOk h p = false → tcNew h p = [] ∧ tcTime h p = -1 := fun e => by unfold tcNew tcTime; rw [e]; exact ⟨rfl, rfl⟩
  have NO := Lib.hid no
  clear no
  cases hc : cacheOk h
  · have HC := Lib.hid hc
    obtain ⟨n1, n2⟩ := NO.out (by unfold tcOk; rw [hc]; rfl)
    have N1 := Lib.hid n1
    have N2 := Lib.hid n2
    clear hc n1 n2
    go_enter Try.func23, Try.ntmps23
    go_wp2_with fail
    refine (callCacheValid A c h _ B (by simp; omega) hm HR.out).mono ?_
    rintro e w1 ⟨rfl, hb1⟩
    rw [HC.out]
    have hk := blkc HK0.out hb1
    obtain ⟨k1, k2, k3⟩ := cell1 hk
    have HR1 := Lib.hid (res1 hk (.slice none 0 0))
    have HB1 := Lib.hid (bel_trans (below2 _ _ _) hb1)
    clear hk hb1
    go_wp2
    refine bodyPost_ret (v := .tuple #[.agg #[.slice none 0 0], .int .i64 (-1)]) (by simp [results, Try.results23, go_sem, HR1.out]) rfl ⟨none, 0, ?_, ?_, ?_, ?_⟩
    · rw [N1.out, N2.out]; rfl
    · rw [N1.out]; exact Own.none_
    · rw [N1.out]; exact Nat.le_refl _
    · exact HB1.out.setCell (by show w.heap.size ≤ w.heap.size + 1; omega) _
  · have HC := Lib.hid hc
    have hl := cacheOk_len hc
    cases hp : plOk p
    · obtain ⟨n1, n2⟩ := NO.out (by unfold tcOk; rw [hc, hp]; rfl)
      have N1 := Lib.hid n1
      have N2 := Lib.hid n2
      have HP := Lib.hid hp
      clear hc n1 n2 hp
      go_enter Try.func23, Try.ntmps23
      go_wp2_with fail
      refine (callCacheValid A c h _ B (by simp; omega) hm HR.out).mono ?_
      rintro e w1 ⟨rfl, hb1⟩
      rw [HC.out]
      have hk := blkc HK0.out hb1
      obtain ⟨k1, k2, k3⟩ := cell1 hk
      have HR1 := Lib.hid (res1 hk (.slice none 0 0))
      have HB1 := Lib.hid (bel_trans (below2 _ _ _) hb1)
      clear hk hb1
      go_wp2_with fail
      refine (callIsPlace p _).mono ?_
      rintro e w2 ⟨rfl, rfl⟩
      rw [HP.out]
      go_wp2
      refine bodyPost_ret (v := .tuple #[.agg #[.slice none 0 0], .int .i64 (-1)]) (by simp [results, Try.results23, go_sem, HR1.out]) rfl ⟨none, 0, ?_, ?_, ?_, ?_⟩
      · rw [N1.out, N2.out]; rfl
      · rw [N1.out]; exact Own.none_
      · rw [N1.out]; exact Nat.le_refl _
      · exact HB1.out.setCell (by show w.heap.size ≤ w.heap.size + 1; omega) _
    · have hok : tcOk h p = true := by unfold tcOk; rw [hc, hp]; rfl
      have N1 : Hid (tcNew h p = tNew h p) := by show _ = _; unfold tcNew; rw [hok]; rfl
      have N2 : Hid (tcTime h p = tTime h p) := by show _ = _; unfold tcTime; rw [hok]; rfl
      have HP := Lib.hid hp
      obtain ⟨hp0, hp1⟩ := plOk_iff.1 hp
      clear hc hp hok
      go_enter Try.func23, Try.ntmps23
      go_wp2_with fail
      refine (callCacheValid A c h _ B (by simp; omega) hm HR.out).mono ?_
      rintro e w1 ⟨rfl, hb1⟩
      rw [HC.out]
      have HK1 := Lib.hid (blkc HK0.out hb1)
      obtain ⟨j1, j2, j3⟩ := cell1 (blkc HJ0.out hb1)
      have HB1 := Lib.hid (bel_trans (below2 _ _ _) hb1)
      have HR1 := Lib.hid (HR.out.below (hb1.mono (by simp; omega)))
      clear hb1
      go_wp2_with fail
      refine (callIsPlace p _).mono ?_
      rintro e w2 ⟨rfl, rfl⟩
      rw [HP.out]
      go_wp2_with fail
      refine (callCopyInt A c h _ B (Nat.le_trans hB HB1.out.size) hcc (by omega) HR1.out).mono ?_
      rintro e w2 ⟨A1, rfl, hown2, hb2⟩
      obtain ⟨A1', c1', hv, _, hf⟩ := hown2.form
      injection hv with hA _ hcc1
      subst hA
      obtain ⟨g, rfl, hg1, hg2⟩ := hf (by intro e; simp [e] at hl)
      have hs1 := HB1.out.size
      have hs0 : w.heap.size + 1 < w1.heap.size := (cell1 HK1.out).2.2
      have HK2 := Lib.hid (blkc HK1.out hb2)
      have HB2 := Lib.hid (bel_trans HB1.out hb2)
      have HO2 := Lib.hid (hown2.alloc (.cells #[.slice (some ⟨g, 0, none⟩) h.length h.length] 25))
      clear hb2 hown2 hf hcc1 j1 j2 j3
      have HX2 : Hid ((w2.alloc (.cells #[.slice (some ⟨g, 0, none⟩) h.length h.length] 25)).heap[w2.heap.size]? = some (.cells #[.slice (some ⟨g, 0, none⟩) h.length h.length] 25 (0, 0))) := heap_alloc_new w2 _
      have hs2 : w1.heap.size ≤ w2.heap.size := by omega
      go_wp2_with fail
      refine (callTouch g h.length h p _ w1.heap.size (by simp; omega) hl.1 hl.2 hp0 hp1 HO2.out).mono ?_
      rintro e w3 ⟨rfl, hown3, hg3⟩
      have HX3 : Hid (w3.heap[w2.heap.size]? = some (.cells #[.slice (some ⟨g, 0, none⟩) h.length h.length] 25 (0, 0))) := gblk hg3 HX2.out (by simp; omega)
      have hk3 : w3.heap[w.heap.size + 1]? = some (.cells #[.slice none 0 0] 25 (0, 0)) := gblk hg3 (blkc HK2.out (below1 _ _)) (by simp; omega)
      have HO3 := Lib.hid hown3
      have HB3 : Hid (Below w.heap.size w w3) := gbel (HB2.out.alloc HB2.out.size _) hg3 (by omega) (by simp; omega)
      obtain ⟨x1, x2, x3⟩ := cell1 HX3.out
      obtain ⟨k1, k2, k3⟩ := cell1 hk3
      have HR3 := Lib.hid (res1 hk3 (.slice (some ⟨g, 0, none⟩) h.length h.length))
      have HLN := Lib.hid (tNew_len h p)
      obtain ⟨t, ht⟩ : ∃ t, t = tTime h p := ⟨_, rfl⟩
      rw [← ht] at N2 ⊢
      clear hown3 hg3 hk3 ht
      go_wp2
      refine bodyPost_ret (v := .tuple #[.agg #[.slice (some ⟨g, 0, none⟩) h.length h.length], .int .i64 t]) (by simp [results, Try.results23, go_sem, HR3.out]) rfl ⟨some ⟨g, 0, none⟩, h.length, ?_, ?_, ?_, ?_⟩
      · rw [N1.out, N2.out, HLN.out]
      · rw [N1.out]
        exact (HO3.out.kept (gset 0 _) (fun k hk => by cases hk; omega)).more (by omega)
      · rw [N1.out, HLN.out]; exact Nat.le_refl _
      · exact HB3.out.setCell (by show w.heap.size ≤ w.heap.size + 1; omega) _

set_option maxRecDepth 100000 in
set_option maxHeartbeats 1600000 in
theorem callTouchTime (A Ap : Option Addr) (c cp : Nat) (h ps : List Int) (w : World) (B : Nat) (hB : B ≤ w.heap.size) (hm : h.length ≤ 1048576) (hcc : h.length ≤ c) (hmp : ps.length ≤ 1048576) (hr : Rd eInt w B A h) (hrp : Rd eInt w B Ap ps) :
    Calls Try.prog 15 #[.agg #[.slice A h.length c], .slice Ap ps.length cp] w fun e w' => e = .returned (.int .i64 (touchTime h ps)) ∧ Below w.heap.size w w' := by
  have HR := Lib.hid (hr.below ((below1 w (.cells #[.slice A h.length c] 25)).mono hB))
  have HRP := Lib.hid (hrp.below ((below1 w (.cells #[.slice A h.length c] 25)).mono hB))
  have HJ0 : Hid ((w.alloc (.cells #[.slice A h.length c] 25)).heap[w.heap.size]? = some (.cells #[.slice A h.length c] 25 (0, 0))) := heap_alloc_new w _
  have E : Hid (touchTime h ps = if cacheOk h && plsOk ps then runT h ps else -1) := rfl
  clear hr hrp
  cases hc : cacheOk h
  · have HC := Lib.hid hc
    clear hc
    go_enter Try.func15, Try.ntmps15
    go_wp2_with fail
    refine (callCacheValid A c h _ B (by simp; omega) hm HR.out).mono ?_
    rintro e w1 ⟨rfl, hb1⟩
    rw [HC.out]
    go_wp2
    go_ret
    exact ⟨by rw [E.out, HC.out] <;> rfl, bel_trans (below1 _ _) hb1⟩
  · have HC := Lib.hid hc
    clear hc
    cases hp : plsOk ps
    all_goals
      have HP := Lib.hid hp
      clear hp
      go_enter Try.func15, Try.ntmps15
      go_wp2_with fail
      refine (callCacheValid A c h _ B (by simp; omega) hm HR.out).mono ?_
      rintro e w1 ⟨rfl, hb1⟩
      rw [HC.out]
      have HB1 := Lib.hid (bel_trans (below1 _ _) hb1)
      have HJ1 := Lib.hid (blkc HJ0.out hb1)
      have HR1 := Lib.hid (HR.out.below (hb1.mono (by simp; omega)))
      have HRP1 := Lib.hid (HRP.out.below (hb1.mono (by simp; omega)))
      clear hb1
      go_wp2_with fail
      refine (callPlacesOk Ap cp ps _ B (Nat.le_trans hB HB1.out.size) hmp HRP1.out).mono ?_
      rintro e w2 ⟨rfl, hb2⟩
      rw [HP.out]
      have HB2 := Lib.hid (bel_trans HB1.out hb2)
      obtain ⟨j1, j2, j3⟩ := cell1 (blkc HJ1.out hb2)
      have HR2 := Lib.hid (HR1.out.below (hb2.mono (Nat.le_trans hB HB1.out.size)))
      have HRP2 := Lib.hid (HRP1.out.below (hb2.mono (Nat.le_trans hB HB1.out.size)))
      clear hb2
      go_wp2_with fail
    · go_ret
      exact ⟨by rw [E.out, HC.out, HP.out] <;> rfl, HB2.out⟩
    · refine (callTouched A Ap c cp h ps _ B (Nat.le_trans hB HB2.out.size) HC.out hcc HP.out HR2.out HRP2.out).mono ?_
      rintro e w3 ⟨A3, c3, rfl, _, _, hb3⟩
      have E2 : Hid (touchTime h ps = runT h ps) := by show _ = _; rw [E.out, HC.out, HP.out]; rfl
      obtain ⟨t, ht⟩ : ∃ t, t = runT h ps := ⟨_, rfl⟩
      rw [← ht] at E2 ⊢
      clear ht j1 j2 j3
      go_wp2
      go_ret
      exact ⟨by rw [E2.out] <;> rfl, (bel_trans HB2.out hb3).alloc (bel_trans HB2.out hb3).size _⟩

set_option maxRecDepth 100000 in
set_option maxHeartbeats 3200000 in
theorem callLeakTime (Aq Ap : Option Addr) (cq cp : Nat) (n : Int) (qs ps : List Int) (w : World) (B : Nat) (hB : B ≤ w.heap.size) (hmq : qs.length ≤ 1048576) (hmp : ps.length ≤ 1048576) (hrq : Rd eInt w B Aq qs) (hrp : Rd eInt w B Ap ps) :
    Calls Try.prog 35 #[.int .i64 n, .slice Aq qs.length cq, .slice Ap ps.length cp] w fun e w' => e = .returned (.int .i64 (leakTime n qs ps)) ∧ Below w.heap.size w w' := by
  have E : Hid (leakTime n qs ps = if lnB n && (plsOk qs && plsOk ps) then runT (runC (emptyC n) qs) ps - runT (emptyC n) ps else 0) := rfl
  have HRQ := Lib.hid hrq
  have HRP := Lib.hid hrp
  clear hrq hrp
  cases hn : lnB n
  · have HN := Lib.hid hn
    clear hn
    go_enter Try.func35, Try.ntmps35
    go_wp2_with fail
    refine (callLined n _).mono ?_
    rintro e w1 ⟨rfl, rfl⟩
    rw [HN.out]
    go_wp2
    go_ret
    exact ⟨by rw [E.out, HN.out] <;> rfl, Below.refl _ _⟩
  have HN := Lib.hid hn
  clear hn
  cases hq : plsOk qs
  · have HQ := Lib.hid hq
    clear hq
    go_enter Try.func35, Try.ntmps35
    go_wp2_with fail
    refine (callLined n _).mono ?_
    rintro e w1 ⟨rfl, rfl⟩
    rw [HN.out]
    go_wp2_with fail
    refine (callPlacesOk Aq cq qs _ B hB hmq HRQ.out).mono ?_
    rintro e w1 ⟨rfl, hb1⟩
    rw [HQ.out]
    go_wp2
    go_ret
    exact ⟨by rw [E.out, HN.out, HQ.out] <;> rfl, hb1⟩
  have HQ := Lib.hid hq
  clear hq
  cases hp : plsOk ps
  all_goals
    have HP := Lib.hid hp
    clear hp
    go_enter Try.func35, Try.ntmps35
    go_wp2_with fail
    refine (callLined n _).mono ?_
    rintro e w1 ⟨rfl, rfl⟩
    rw [HN.out]
    go_wp2_with fail
    refine (callPlacesOk Aq cq qs _ B hB hmq HRQ.out).mono ?_
    rintro e w1 ⟨rfl, hb1⟩
    rw [HQ.out]
    have HB1 := Lib.hid hb1
    clear hb1
    go_wp2_with fail
    refine (callPlacesOk Ap cp ps _ B (Nat.le_trans hB HB1.out.size) hmp (HRP.out.below (HB1.out.mono hB))).mono ?_
    rintro e w2 ⟨rfl, hb2⟩
    rw [HP.out]
    have HB2 := Lib.hid (bel_trans HB1.out hb2)
    clear hb2
    go_wp2_with fail
  · go_ret
    exact ⟨by rw [E.out, HN.out, HQ.out, HP.out] <;> rfl, HB2.out⟩
  · have hce := emptyC_ok HN.out
    have hlen := cacheOk_len hce
    have HCE := Lib.hid hce
    have HCU : Hid (cacheOk (runC (emptyC n) qs) = true) := runC_ok hce (plsOk_iff.1 HQ.out).2
    have hlu : (runC (emptyC n) qs).length ≤ 16 := by rw [runC_len]; exact hlen.2
    have hsz2 := HB2.out.size
    clear hce
    refine (callEmptyCache n _).mono ?_
    rintro e w3 ⟨A3, c3, rfl, hown3, hc3, hb3⟩
    have HB3 := Lib.hid (bel_trans HB2.out hb3)
    have HO3 := Lib.hid hown3.rd
    clear hb3 hown3
    go_wp2_with fail
    refine (callTouched A3 Aq c3 cq (emptyC n) qs _ w3.heap.size (Nat.le_refl _) HCE.out hc3 HQ.out HO3.out ((HRQ.out.below (HB3.out.mono hB)).mono (Nat.le_trans hB HB3.out.size))).mono ?_
    rintro e w4 ⟨A4, c4, rfl, hown4, hc4, hb4⟩
    have HB4 := Lib.hid (bel_trans HB3.out hb4)
    have HO4 := Lib.hid hown4.rd
    clear hb4 hown4
    have HJ4 : Hid ((w4.alloc (.cells #[.slice A4 (runC (emptyC n) qs).length c4] 25)).heap[w4.heap.size]? = some (.cells #[.slice A4 (runC (emptyC n) qs).length c4] 25 (0, 0))) := heap_alloc_new w4 _
    have HB5 := Lib.hid (HB4.out.alloc HB4.out.size (.cells #[.slice A4 (runC (emptyC n) qs).length c4] 25))
    go_wp2_with fail
    refine (callTouchTime A4 Ap c4 cp (runC (emptyC n) qs) ps _ w4.heap.size (by simp) (by omega) hc4 hmp (HO4.out.below (below1 _ _)) ((HRP.out.below (HB5.out.mono hB)).mono (Nat.le_trans hB HB4.out.size))).mono ?_
    rintro e w5 ⟨rfl, hb5⟩
    have HB6 := Lib.hid (bel_trans HB5.out hb5)
    clear hb5
    have T1 : Hid (touchTime (runC (emptyC n) qs) ps = runT (runC (emptyC n) qs) ps) := by show _ = _; unfold touchTime; rw [HCU.out, HP.out]; rfl
    have T2 : Hid (touchTime (emptyC n) ps = runT (emptyC n) ps) := by show _ = _; unfold touchTime; rw [HCE.out, HP.out]; rfl
    rw [T1.out]
    go_wp2_with fail
    refine (callEmptyCache n _).mono ?_
    rintro e w6 ⟨A6, c6, rfl, hown6, hc6, hb6⟩
    have HB7 := Lib.hid (bel_trans HB6.out hb6)
    have HO6 := Lib.hid hown6.rd
    clear hb6 hown6
    go_wp2_with fail
    refine (callTouchTime A6 Ap c6 cp (emptyC n) ps _ w6.heap.size (Nat.le_refl _) (by omega) hc6 hmp HO6.out ((HRP.out.below (HB7.out.mono hB)).mono (Nat.le_trans hB HB7.out.size))).mono ?_
    rintro e w7 ⟨rfl, hb7⟩
    rw [T2.out]
    have b1 := runT_bd ps (runC (emptyC n) qs)
    have b2 := runT_bd ps (emptyC n)
    have hp60 := (plsOk_iff.1 HP.out).1
    have EE : Hid (leakTime n qs ps = runT (runC (emptyC n) qs) ps - runT (emptyC n) ps) := by show _ = _; rw [E.out, HN.out, HQ.out, HP.out]; rfl
    obtain ⟨x, hx⟩ : ∃ x, x = runT (runC (emptyC n) qs) ps := ⟨_, rfl⟩
    obtain ⟨y, hy⟩ : ∃ y, y = runT (emptyC n) ps := ⟨_, rfl⟩
    rw [← hx] at b1 EE ⊢
    rw [← hy] at b2 EE ⊢
    clear hx hy
    go_wp2
    go_ret
    exact ⟨by rw [EE.out] <;> rfl, bel_trans HB7.out hb7⟩
end Go.Proofs.Ytlkdngjpbohgaaa
