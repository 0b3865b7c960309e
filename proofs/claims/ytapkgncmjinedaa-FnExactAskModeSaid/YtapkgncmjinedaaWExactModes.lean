/- The walks of FnExactEndFrame and FnExactAskMode: true for every argument, and nothing that was there is written. -/
import Derived.Test.YtapkgncmjinedaaXmo
import Derived.Deep.RegionLaw
namespace Go.Proofs.Ytapkgncmjinedaa
open Go.RowKit Go.Sort
set_option maxRecDepth 100000 in
set_option maxHeartbeats 6400000 in
theorem walkFnExactEndFrame (A : Option Addr) (c : Nat) (ts : List Tab) (now next : Int) (n1 : Int) (w : World) (hn : ts.length ≤ 9223372036854775807) (hr : Rd eTab w w.heap.size A ts) (hs : ∀ p, p ∈ ts → Rd eSlt w w.heap.size p.A p.slots ∧ p.slots.length ≤ p.c ∧ p.slots.length ≤ 9223372036854775807) (_h1 : (Lit.int .i64 n1).wf = true) :
    Calls Try.prog 12 #[.agg #[.slice A ts.length c, .int .i64 now, .int .i64 next], .int .i64 n1] w fun e w' => e = .returned (.bool true) ∧ Below w.heap.size w w' := by
  have HV0 := Lib.hid (below1 w (.cells #[.slice A ts.length c, .int .i64 now, .int .i64 next] 59))
  have K0 := Lib.hid (heap_alloc_new w (.cells #[.slice A ts.length c, .int .i64 now, .int .i64 next] 59))
  have HZ := Lib.hid (callSzModes A c ts now next (w.alloc (.cells #[.slice A ts.length c, .int .i64 now, .int .i64 next] 59)) w.heap.size (by simp) hn (fun p hp => (hs p hp).2.2) (hr.below HV0.out))
  have HR := Lib.hid hr
  have HS := Lib.hid hs
  clear hr hs
  obtain ⟨x0, x1, x2, _, _, _, x6⟩ := cell3 K0.out
  go_enter Try.func12, Try.ntmps12
  go_wp2_with fail
  refine HZ.out.mono ?_
  rintro e w1 ⟨r, rfl, hr1, hr0, hb1⟩
  have HB1 := Lib.hid (bel_trans HV0.out hb1)
  have K1 := Lib.hid (blkc K0.out hb1)
  have HRZ := Lib.hid hr0
  have hw1 : w.heap.size < w1.heap.size := (cell3 K1.out).2.2.2.2.2.2
  clear HZ hb1 hr0 K0 HV0 x0 x1 x2 x6
  by_cases h0 : 0 ≤ r
  · have hd : decide (r < 0) = false := decide_eq_false (by omega)
    obtain ⟨hl, hw⟩ := HRZ.out h0
    have HW := Lib.hid hw
    have HP : Hid (∀ W, Below w.heap.size w W → RdT W W.heap.size A ts) := fun W hW => ⟨(HR.out.below hW).mono hW.size, fun p hp => ⟨((HS.out p hp).1.below hW).mono hW.size, HW.out p hp⟩⟩
    have HT : Hid (∀ W, Below w.heap.size w W → Calls Try.prog 45 #[.agg #[.slice A ts.length c, .int .i64 now, .int .i64 next]] W (ToM W ts now next)) := fun W hW => callToModes A c ts now next W W.heap.size (Nat.le_refl _) hl (HP.out W hW)
    have HSM : Hid (∀ W b us, us.map Tab.slots = ts.map Tab.slots → (∀ q, q ∈ us → q.slots.length ≤ q.c) → RdT W W.heap.size (some b) us → Calls Try.prog 33 #[.agg #[.slice (some b) ts.length ts.length, .int .i64 now, .int .i64 next], .int .i64 n1] W (EndRes W (endFrame ts now next n1))) := fun W b us hm hc hq => by
      have h := callSEndFrameA (some b) ts.length us now next n1 W W.heap.size (Nat.le_refl _) (by have := map_len hm; omega) hc hq
      rw [endFrame_map hm, map_len hm] at h
      exact h
    have HIM : Hid (∀ W b us, us.map Tab.slots = ts.map Tab.slots → (∀ q, q ∈ us → q.slots.length ≤ q.c) → RdT W W.heap.size (some b) us → Calls Try.prog 31 #[.agg #[.slice (some b) ts.length ts.length, .int .i64 now, .int .i64 next], .int .i64 n1] W (EndResA W (endFrame ts now next n1))) := fun W b us hm hc hq => by
      have h := callEndFrameA (some b) ts.length us now next n1 W W.heap.size (Nat.le_refl _) (by have := map_len hm; omega) (by have := map_len hm; omega) hc hq
      rw [endFrame_map hm, map_len hm] at h
      exact h
    have HVL := Lib.hid (endFrame_len ts now next n1)
    clear hw HRZ HR HS HP
    obtain ⟨x0, x1, x2, _, _, _, x6⟩ := cell3 K1.out
    go_wp2_with fail
    refine (HT.out w1 HB1.out).mono ?_
    rintro e w2 ⟨b2, us2, rfl, hb2, ho2, hr2, hm2, hbe⟩
    have HRD2 := Lib.hid (tom_rd ho2 hr2 (map_lens hm2 HW.out))
    have HCA2 := Lib.hid (own_cap hr2)
    have HM2 := Lib.hid hm2
    have HB2 := Lib.hid (bel_trans HB1.out hbe)
    have K2 := Lib.hid (blkc K1.out hbe)
    have hw2 : w.heap.size < w2.heap.size := by have := hbe.size; omega
    clear ho2 hr2 hm2 hbe x0 x1 x2 x6 K1 HB1
    go_wp2_with fail
    refine (HSM.out w2 _ us2 HM2.out HCA2.out HRD2.out).mono ?_
    rintro e w3 ⟨A3, c3, vs, n3, m3, rfl, ho3, hr3, hbe⟩
    obtain ⟨S, hS⟩ : ∃ S, S = vs.map Tab.slots := ⟨_, rfl⟩
    rw [← hS] at hr3
    have HVS := Lib.hid hS.symm
    have HSL : Hid (S.length ≤ 1048576) := by have h := HVL.out; rw [hr3] at h; exact Nat.le_trans h hl
    rw [hr3] at HIM
    have hw3 : w.heap.size < w3.heap.size := by have := hbe.size; omega
    have HBx := Lib.hid (bel_trans (bel_trans HB2.out hbe) (below1 w3 (.cells #[.slice A3 vs.length c3, .int .i64 n3, .int .i64 m3] 25)))
    have K4 := Lib.hid (blkc (blkc K2.out hbe) (below1 w3 (.cells #[.slice A3 vs.length c3, .int .i64 n3, .int .i64 m3] 25)))
    have N6 := Lib.hid (heap_alloc_new w3 (.cells #[.slice A3 vs.length c3, .int .i64 n3, .int .i64 m3] 25))
    have R6 : Hid (RdT (w3.alloc (.cells #[.slice A3 vs.length c3, .int .i64 n3, .int .i64 m3] 25)) w3.heap.size A3 vs) := ho3.rd.below (below1 w3 _)
    clear hS hr3 ho3 hbe HRD2 HCA2 HM2 HB2 K2 hw2 HSM HVL
    go_upto_region 6 with (fail)
    obtain ⟨w4, hw4⟩ : ∃ w4, w4 = w3.alloc (.cells #[.slice A3 vs.length c3, .int .i64 n3, .int .i64 m3] 25) := ⟨_, rfl⟩
    obtain ⟨T6, hT6⟩ : ∃ T6, T6 = w3.heap.size := ⟨_, rfl⟩
    have h46 : T6 < w4.heap.size := by rw [hw4, hT6]; simp
    rw [← hw4] at HBx K4 N6 R6 ⊢
    rw [← hT6] at N6 R6 hw3 ⊢
    clear hw4 hT6
    obtain ⟨x0, x1, x2, _, _, _, x6⟩ := cell3 K4.out
    go_wp2_with fail
    refine (HT.out w4 HBx.out).mono ?_
    rintro e w5 ⟨b5, xs, rfl, hb5, ho5, hr5, hm5, hbe⟩
    have HLX := Lib.hid (map_len hm5)
    have HX5 := Lib.hid (tom_rd ho5 hr5 (map_lens hm5 HW.out))
    have HW5 : Hid (∀ q, q ∈ xs → Wr 2 w5 (b5 + 1) w5.heap.size q.A q.slots.length) := fun q hq => (hr5 q hq).wr
    have HCX := Lib.hid (own_cap hr5)
    have HMX := Lib.hid hm5
    have HBy := Lib.hid (bel_trans (bel_trans HBx.out hbe) (below1 w5 (.cells #[.slice (some ⟨b5, 0, none⟩) ts.length ts.length, .int .i64 now, .int .i64 next] 25)))
    have H46 := Lib.hid (bel_trans hbe (below1 w5 (.cells #[.slice (some ⟨b5, 0, none⟩) ts.length ts.length, .int .i64 now, .int .i64 next] 25)))
    have N7 := Lib.hid (heap_alloc_new w5 (.cells #[.slice (some ⟨b5, 0, none⟩) ts.length ts.length, .int .i64 now, .int .i64 next] 25))
    have h45 := hbe.size
    have HX6 : Hid (RdT (w5.alloc (.cells #[.slice (some ⟨b5, 0, none⟩) ts.length ts.length, .int .i64 now, .int .i64 next] 25)) w5.heap.size (some ⟨b5, 0, none⟩) xs) := HX5.out.below (below1 w5 _)
    have HW6 : Hid (∀ q, q ∈ xs → Wr 2 (w5.alloc (.cells #[.slice (some ⟨b5, 0, none⟩) ts.length ts.length, .int .i64 now, .int .i64 next] 25)) (b5 + 1) w5.heap.size q.A q.slots.length) := fun q hq => (HW5.out q hq).below (below1 w5 _) (Nat.le_refl _)
    have K6 := Lib.hid (blkc K4.out H46.out)
    have N66 := Lib.hid (blkc N6.out H46.out)
    have R66 : Hid (RdT (w5.alloc (.cells #[.slice (some ⟨b5, 0, none⟩) ts.length ts.length, .int .i64 now, .int .i64 next] 25)) T6 A3 vs) := R6.out.below (H46.out.mono (by omega))
    clear ho5 hr5 hm5 hbe x0 x1 x2 x6 HX5 HW5 K4 N6 R6 HBx H46
    go_upto_region 7 with (fail)
    obtain ⟨w6, hw6⟩ : ∃ w6, w6 = w5.alloc (.cells #[.slice (some ⟨b5, 0, none⟩) ts.length ts.length, .int .i64 now, .int .i64 next] 25) := ⟨_, rfl⟩
    obtain ⟨T7, hT7⟩ : ∃ T7, T7 = w5.heap.size := ⟨_, rfl⟩
    have h67 : T7 < w6.heap.size := by rw [hw6, hT7]; simp
    rw [← hw6] at HBy N7 HX6 HW6 K6 N66 R66 ⊢
    rw [← hT7] at N7 HX6 HW6 h45 ⊢
    clear hw6 hT7
    obtain ⟨x0, x1, x2, _, _, _, x6⟩ := cell3 N7.out
    go_wp2_with fail
    refine (HIM.out w6 _ xs HMX.out HCX.out (HX6.out.mono2 (by omega))).mono ?_
    rintro e w7 ⟨A7, c7, gs, n7, m7, rfl, ho7, hr, hsep, hbe⟩
    injection hr with e1 e2
    injection e2 with e2 e3
    subst e2; subst e3
    have HGM := Lib.hid (HVS.out.trans e1)
    have HGL : Hid (gs.length ≤ 1048576) := by show gs.length ≤ 1048576; have h := HSL.out; rw [e1] at h; simpa using h
    have HSEP := Lib.hid hsep
    have h78 := hbe.size
    have SF : Hid (XF w A c ts now next T6 T7 w7.heap.size A3 c3 vs n3 m3 b5 T7 xs A7 c7 gs (w7.alloc (.cells #[.slice A7 gs.length c7, .int .i64 n3, .int .i64 m3] 25))) := by
      have hb8 := bel_trans hbe (below1 w7 (.cells #[.slice A7 gs.length c7, .int .i64 n3, .int .i64 m3] 25))
      have k7 := blkc N7.out hb8
      rw [← HLX.out] at k7
      exact ⟨⟨bel_trans HBy.out hb8, blkc K6.out hb8, blkc N66.out hb8, heap_alloc_new w7 _, R66.out.below (hb8.mono (by omega)), by omega, by omega, Nat.le_refl _, by omega, by omega⟩, k7, HX6.out.below (hb8.mono (by omega)), fun q hq => (HW6.out q hq).below hb8 (by omega), (ho7.alloc _).more (by omega), ho7.rd.below (below1 w7 _)⟩
    clear e1 ho7 hsep hbe x0 x1 x2 x6 N7 HX6 HW6 K6 N66 R66 HBy HCX
    go_upto_region 8 with (fail)
    obtain ⟨w8, hw8⟩ : ∃ w8, w8 = w7.alloc (.cells #[.slice A7 gs.length c7, .int .i64 n3, .int .i64 m3] 25) := ⟨_, rfl⟩
    obtain ⟨T8, hT8⟩ : ∃ T8, T8 = w7.heap.size := ⟨_, rfl⟩
    rw [← hw8, ← hT8] at SF ⊢
    clear hw8 hT8 h78 h67 h45 h46 hw3
    have EQ : Hid (∀ W, XS w A c ts now next T6 T7 T8 A3 c3 vs n3 m3 b5 T7 xs A7 c7 gs W → RdT W T8 A7 gs → Calls Try.prog 46 #[.agg #[.slice A7 gs.length c7, .int .i64 n3, .int .i64 m3], .agg #[.slice A3 vs.length c3, .int .i64 n3, .int .i64 m3]] W fun e w' => e = .returned (.bool true) ∧ Below W.heap.size W w') := fun W s hg =>
      callEqModesT A7 A3 c7 c3 gs vs n3 m3 W W.heap.size (Nat.le_refl _) HGL.out HGM.out (hg.mono2 (by have := (Array.getElem?_eq_some_iff.1 s.k8).1; omega)) (s.r6.mono2 (by have := (Array.getElem?_eq_some_iff.1 s.k6).1; omega))
    have F8 := Lib.hid SF
    obtain ⟨a0, a1, a2, _, _, _, _⟩ := cell3 SF.out.st.k8
    obtain ⟨g0, g1, g2, _, _, _, _⟩ := cell3 SF.out.st.k6

    go_wp2_with fail
    refine (EQ.out w8 SF.out.st SF.out.r8).mono ?_
    rintro e w9 ⟨rfl, hb9⟩
    have S9 := Lib.hid (SF.out.keep hb9)
    clear hb9 a0 a1 a2 g0 g1 g2 SF F8
    have Bd := Lib.hid S9.out.st.bel.drew
    have XQ : Hid (∀ W (ba : Nat) ua, ua.map Tab.slots = xs.map Tab.slots → RdT W W.heap.size (some ⟨ba, 0, none⟩) ua → XF w A c ts now next T6 T7 T8 A3 c3 vs n3 m3 b5 T7 xs A7 c7 gs W → Calls Try.prog 46 #[.agg #[.slice (some ⟨b5, 0, none⟩) xs.length xs.length, .int .i64 now, .int .i64 next], .agg #[.slice (some ⟨ba, 0, none⟩) ts.length ts.length, .int .i64 now, .int .i64 next]] W fun e w' => e = .returned (.bool true) ∧ Below W.heap.size W w') := fun W ba ua hm hu s => by
      have h := callEqModesT (some ⟨b5, 0, none⟩) (some ⟨ba, 0, none⟩) xs.length ts.length xs ua now next W W.heap.size (Nat.le_refl _) (by have := HLX.out; omega) hm (s.x7.mono2 (by have := (Array.getElem?_eq_some_iff.1 s.k7).1; omega)) hu
      rw [map_len hm, HLX.out] at h
      rw [HLX.out]
      exact h
    obtain ⟨x0, x1, x2, _, _, _, _⟩ := cell3 S9.out.st.par
    obtain ⟨y0, y1, y2, _, _, _, _⟩ := cell3 S9.out.k7
    go_upto_region 10 with (fail)
    go_region_held3 (fun w' => (w'.cell? ⟨w.heap.size, 0, none⟩ = some (.slice A ts.length c) ∧ w'.cell? ⟨w.heap.size, 1, none⟩ = some (.int .i64 now) ∧ w'.cell? ⟨w.heap.size, 2, none⟩ = some (.int .i64 next)) ∧ (w'.cell? ⟨T7, 0, none⟩ = some (.slice (some ⟨b5, 0, none⟩) xs.length xs.length) ∧ w'.cell? ⟨T7, 1, none⟩ = some (.int .i64 now) ∧ w'.cell? ⟨T7, 2, none⟩ = some (.int .i64 next))) (first | exact ⟨⟨x0, x1, x2⟩, ⟨y0, y1, y2⟩⟩ | (refine ⟨⟨?_, ?_, ?_⟩, ⟨?_, ?_, ?_⟩⟩ <;> assumption) | go_keep)
      (first
        | (go_at_call 45; refine (HT.out w9.drew Bd.out).mono ?_; rintro e wa ⟨ba, ua, rfl, hba, hoa, hra, hma, hbe⟩; have HRA := Lib.hid (tom_rd hoa hra (map_lens hma HW.out)); have HMA := Lib.hid (hma.trans HMX.out.symm); have HBa := Lib.hid ((below_drew (Below.refl w9.heap.size w9)).trans hbe); clear hoa hra hma hbe; obtain ⟨m0, m1, m2, _, _, _, _⟩ := cell3 (blkc S9.out.st.par HBa.out); obtain ⟨k0, k1, k2, _, _, _, _⟩ := cell3 (blkc S9.out.k7 HBa.out))
        | (go_at_call 46; refine (XQ.out wa ba ua HMA.out HRA.out (S9.out.keep HBa.out)).mono ?_; rintro e wb ⟨rfl, hbe⟩; have SB := Lib.hid (S9.out.keep (bel_trans HBa.out hbe)); clear hbe; obtain ⟨o0, o1, o2, _, _, _, _⟩ := cell3 SB.out.st.par; obtain ⟨q0, q1, q2, _, _, _, _⟩ := cell3 SB.out.k7))
    clear XQ Bd S9 HRA HMA HBa x0 x1 x2 y0 y1 y2
    try clear m0 m1 m2 k0 k1 k2
    try clear o0 o1 o2 q0 q1 q2
    have hT7b : T7 < wb.heap.size := (Array.getElem?_eq_some_iff.1 SB.out.k7).1
    have hxl : xs.length ≤ 1048576 := by have := HLX.out; omega
    have CM := Lib.hid (callMarkModesW b5 xs.length xs now next 1 T7 wb (by omega) (by omega) (by omega) hxl
      (fun h => by
        have hne : xs ≠ [] := by intro e; simp [e] at h
        have hx := SB.out.x7.1
        obtain ⟨b', off', hA, hlt', _⟩ := hx hne
        simp only [Option.some.injEq, Addr.mk.injEq, and_true] at hA
        refine ⟨by omega, fun i hi => ?_⟩
        obtain ⟨b2, o2, hA2, _, e0⟩ := hx.at1 rfl hi rfl
        simp only [Option.some.injEq, Addr.mk.injEq, and_true] at hA2
        obtain ⟨rfl, rfl⟩ := hA2
        rw [Nat.zero_add] at e0
        exact e0)
      (fun q hq => ⟨SB.out.w7 q hq, (SB.out.x7.2 q hq).2⟩))
    clear hxl hT7b
    obtain ⟨y0, y1, y2, _, _, _, _⟩ := cell3 SB.out.k7
    go_wp2_with fail
    refine CM.out.mono ?_
    rintro e wc ⟨rk, rfl, hrk, u, hbu, hmk⟩
    have hdk : decide (rk < 0) = false := decide_eq_false (by omega)
    have SC := Lib.hid (SB.out.mark hbu hmk)
    clear hbu hmk CM SB y0 y1 y2
    obtain ⟨a0, a1, a2, _, _, _, _⟩ := cell3 SC.out.1.k8
    obtain ⟨g0, g1, g2, _, _, _, _⟩ := cell3 SC.out.1.k6
    go_wp2_with fail
    refine (EQ.out wc SC.out.1 SC.out.2.2).mono ?_
    rintro e wd ⟨rfl, hbe⟩
    have SD := Lib.hid (SC.out.1.keep hbe)
    have OD := Lib.hid (SC.out.2.1.next hbe)
    have RD : Hid (RdT wd T8 A7 gs) := SC.out.2.2.below (hbe.mono (by have := (Array.getElem?_eq_some_iff.1 SC.out.1.k8).1; omega))
    have HGS : Hid (∀ t, t ∈ gs → t.slots.length ≤ 1048576) := fun t ht => by have := (SC.out.2.1.2 t ht).2; omega
    clear hbe SC EQ a0 a1 a2 g0 g1 g2
    obtain ⟨a0, a1, a2, _, _, _, _⟩ := cell3 SD.out.k8
    obtain ⟨st, hst⟩ : ∃ st, st = stT gs 1 gs.length := ⟨_, rfl⟩
    have hst0 : 0 ≤ st := by rw [hst]; exact (stT_bd (by omega) HGS.out _ (Nat.le_refl _)).1
    have CX := callMarkModesX A7 c7 gs n3 m3 1 T7 T8 wd (by have := (Array.getElem?_eq_some_iff.1 SD.out.k8).1; omega) (by omega) (by omega) HGL.out OD.out HSEP.out RD.out
    rw [← hst] at CX
    have HCX := Lib.hid CX
    have HST := Lib.hid hst
    have hds : decide (st < 0) = false := decide_eq_false (by omega)
    have hdn : (st != st) = false := by simp
    clear CX hst
    go_wp2_with fail
    refine HCX.out.mono ?_
    rintro e we ⟨rfl, ⟨u, hbu, hmk⟩, hoe, hre⟩
    have SE := Lib.hid (SD.out.mark hbu hmk)
    have RE : Hid (Rd eTab we we.heap.size A7 gs ∧ ∀ i (h : i < gs.length), Rd eSlt we we.heap.size gs[i].A (marksS (stT gs 1 i) gs[i].slots.length)) := ⟨hoe.rd, fun i h => (hre i h).rdN⟩
    have HLD : Hid (∀ W, Below we.heap.size we W → Calls Try.prog 48 #[.agg #[.slice A7 gs.length c7, .int .i64 n3, .int .i64 m3], .int .i64 1] W fun e w' => e = .returned (.int .i64 st) ∧ Below W.heap.size W w') := fun W hW => by
      rw [HST.out]
      exact callHeldModes A7 c7 gs n3 m3 1 W we.heap.size hW.size (by omega) (by omega) HGL.out HGS.out (RE.out.1.below hW) (fun i h => (RE.out.2 i h).below hW)
    clear hbu hmk hoe hre HCX SD OD RD a0 a1 a2
    obtain ⟨a0, a1, a2, _, _, _, _⟩ := cell3 SE.out.k8
    go_wp2_with fail
    refine (HLD.out we (Below.refl _ _)).mono ?_
    rintro e wf ⟨rfl, hbe⟩
    have HEf := Lib.hid hbe
    have SFf := Lib.hid (SE.out.keep hbe)
    clear hbe a0 a1 a2
    obtain ⟨x0, x1, x2, _, _, _, _⟩ := cell3 SFf.out.par
    go_wp2_with fail
    refine (HT.out wf SFf.out.bel).mono ?_
    rintro e wg ⟨bg, ug, rfl, hbg, hog, hrg, hmg, hbe⟩
    have HRDg := Lib.hid (tom_rd hog hrg (map_lens hmg HW.out))
    have HCAg := Lib.hid (own_cap hrg)
    have HMg := Lib.hid hmg
    have HEg := Lib.hid (bel_trans HEf.out hbe)
    have SG := Lib.hid (SFf.out.keep hbe)
    clear hog hrg hmg hbe SFf x0 x1 x2 HEf
    go_wp2_with fail
    refine (HIM.out wg _ ug HMg.out HCAg.out HRDg.out).mono ?_
    rintro e wh ⟨A9, c9, hs9, n9, m9, rfl, ho9, hr, _, hbe⟩
    injection hr with e1 e2
    injection e2 with e2 e3
    subst e2; subst e3
    have HGM9 := Lib.hid (HVS.out.trans e1)
    have HGL9 : Hid (hs9.length ≤ 1048576) := by show hs9.length ≤ 1048576; have h := HSL.out; rw [e1] at h; simpa using h
    have hb9 := bel_trans hbe (below1 wh (.cells #[.slice A9 hs9.length c9, .int .i64 n3, .int .i64 m3] 25))
    have HEi := Lib.hid (bel_trans HEg.out hb9)
    have SI := Lib.hid (SG.out.keep hb9)
    have N9 := Lib.hid (heap_alloc_new wh (.cells #[.slice A9 hs9.length c9, .int .i64 n3, .int .i64 m3] 25))
    have R9 : Hid (RdT (wh.alloc (.cells #[.slice A9 hs9.length c9, .int .i64 n3, .int .i64 m3] 25)) wh.heap.size A9 hs9) := ho9.rd.below (below1 wh _)
    clear e1 ho9 hbe hb9 SG HEg HRDg HCAg HMg
    go_upto_region 25 with (fail)
    obtain ⟨wi, hwi⟩ : ∃ wi, wi = wh.alloc (.cells #[.slice A9 hs9.length c9, .int .i64 n3, .int .i64 m3] 25) := ⟨_, rfl⟩
    have hhi : wh.heap.size ≤ wi.heap.size := by rw [hwi]; simp
    rw [← hwi] at HEi SI N9 R9 ⊢
    clear hwi
    obtain ⟨a0, a1, a2, _, _, _, _⟩ := cell3 N9.out
    obtain ⟨g0, g1, g2, _, _, _, _⟩ := cell3 SI.out.k6
    have CQ := Lib.hid (callEqModesT A9 A3 c9 c3 hs9 vs n3 m3 wi wi.heap.size (Nat.le_refl _) HGL9.out HGM9.out (R9.out.mono2 hhi) (SI.out.r6.mono2 (by have := (Array.getElem?_eq_some_iff.1 SI.out.k6).1; omega)))
    clear hhi
    go_wp2_with fail
    refine CQ.out.mono ?_
    rintro e wj ⟨rfl, hbe⟩
    have HEj := Lib.hid (bel_trans HEi.out hbe)
    have SJ := Lib.hid (SI.out.keep hbe)
    clear hbe CQ SI HEi a0 a1 a2 g0 g1 g2 N9 R9
    obtain ⟨a0, a1, a2, _, _, _, _⟩ := cell3 SJ.out.k8
    go_wp2_with fail
    refine (HLD.out wj HEj.out).mono ?_
    rintro e wk ⟨rfl, hbe⟩
    have HFIN := Lib.hid (bel_trans SJ.out.bel hbe)
    clear hbe
    go_wp2
    go_ret
    exact ⟨rfl, HFIN.out⟩
  · have hd : decide (r < 0) = true := decide_eq_true (by omega)
    clear HRZ
    go_wp2
    go_ret
    exact ⟨rfl, HB1.out⟩
set_option maxRecDepth 100000 in
set_option maxHeartbeats 6400000 in
theorem walkFnExactAskMode (A : Option Addr) (c : Nat) (ts : List Tab) (now next : Int) (n1 n2 : Int) (w : World) (hn : ts.length ≤ 9223372036854775807) (hr : Rd eTab w w.heap.size A ts) (hs : ∀ p, p ∈ ts → Rd eSlt w w.heap.size p.A p.slots ∧ p.slots.length ≤ p.c ∧ p.slots.length ≤ 9223372036854775807) (_h1 : (Lit.int .i64 n1).wf = true) (_h2 : (Lit.int .i64 n2).wf = true) :
    Calls Try.prog 13 #[.agg #[.slice A ts.length c, .int .i64 now, .int .i64 next], .int .i64 n1, .int .i64 n2] w fun e w' => e = .returned (.bool true) ∧ Below w.heap.size w w' := by
  have HV0 := Lib.hid (below1 w (.cells #[.slice A ts.length c, .int .i64 now, .int .i64 next] 59))
  have K0 := Lib.hid (heap_alloc_new w (.cells #[.slice A ts.length c, .int .i64 now, .int .i64 next] 59))
  have HZ := Lib.hid (callSzModes A c ts now next (w.alloc (.cells #[.slice A ts.length c, .int .i64 now, .int .i64 next] 59)) w.heap.size (by simp) hn (fun p hp => (hs p hp).2.2) (hr.below HV0.out))
  have HR := Lib.hid hr
  have HS := Lib.hid hs
  clear hr hs
  obtain ⟨x0, x1, x2, _, _, _, x6⟩ := cell3 K0.out
  go_enter Try.func13, Try.ntmps13
  go_wp2_with fail
  refine HZ.out.mono ?_
  rintro e w1 ⟨r, rfl, hr1, hr0, hb1⟩
  have HB1 := Lib.hid (bel_trans HV0.out hb1)
  have K1 := Lib.hid (blkc K0.out hb1)
  have HRZ := Lib.hid hr0
  have hw1 : w.heap.size < w1.heap.size := (cell3 K1.out).2.2.2.2.2.2
  clear HZ hb1 hr0 K0 HV0 x0 x1 x2 x6
  by_cases h0 : 0 ≤ r
  · have hd : decide (r < 0) = false := decide_eq_false (by omega)
    obtain ⟨hl, hw⟩ := HRZ.out h0
    have HW := Lib.hid hw
    have HP : Hid (∀ W, Below w.heap.size w W → RdT W W.heap.size A ts) := fun W hW => ⟨(HR.out.below hW).mono hW.size, fun p hp => ⟨((HS.out p hp).1.below hW).mono hW.size, HW.out p hp⟩⟩
    have HT : Hid (∀ W, Below w.heap.size w W → Calls Try.prog 45 #[.agg #[.slice A ts.length c, .int .i64 now, .int .i64 next]] W (ToM W ts now next)) := fun W hW => callToModes A c ts now next W W.heap.size (Nat.le_refl _) hl (HP.out W hW)
    have HSM : Hid (∀ W b us, us.map Tab.slots = ts.map Tab.slots → (∀ q, q ∈ us → q.slots.length ≤ q.c) → RdT W W.heap.size (some b) us → Calls Try.prog 49 #[.agg #[.slice (some b) ts.length ts.length, .int .i64 now, .int .i64 next], .int .i64 n1, .int .i64 n2] W (AskRes W (askMode ts now next n1 n2))) := fun W b us hm hc hq => by
      have h := callSAskModeA (some b) ts.length us now next n1 n2 W W.heap.size (Nat.le_refl _) (by have := map_len hm; omega) hc hq
      rw [askMode_map hm, map_len hm] at h
      exact h
    have HIM : Hid (∀ W b us, us.map Tab.slots = ts.map Tab.slots → (∀ q, q ∈ us → q.slots.length ≤ q.c) → RdT W W.heap.size (some b) us → Calls Try.prog 50 #[.agg #[.slice (some b) ts.length ts.length, .int .i64 now, .int .i64 next], .int .i64 n1, .int .i64 n2] W (AskResA W (askMode ts now next n1 n2))) := fun W b us hm hc hq => by
      have h := callAskModeA (some b) ts.length us now next n1 n2 W W.heap.size (Nat.le_refl _) (by have := map_len hm; omega) (by have := map_len hm; omega) hc hq
      rw [askMode_map hm, map_len hm] at h
      exact h
    have HVL := Lib.hid (askMode_len ts now next n1 n2)
    clear hw HRZ HR HS HP
    obtain ⟨x0, x1, x2, _, _, _, x6⟩ := cell3 K1.out
    go_wp2_with fail
    refine (HT.out w1 HB1.out).mono ?_
    rintro e w2 ⟨b2, us2, rfl, hb2, ho2, hr2, hm2, hbe⟩
    have HRD2 := Lib.hid (tom_rd ho2 hr2 (map_lens hm2 HW.out))
    have HCA2 := Lib.hid (own_cap hr2)
    have HM2 := Lib.hid hm2
    have HB2 := Lib.hid (bel_trans HB1.out hbe)
    have K2 := Lib.hid (blkc K1.out hbe)
    have hw2 : w.heap.size < w2.heap.size := by have := hbe.size; omega
    clear ho2 hr2 hm2 hbe x0 x1 x2 x6 K1 HB1
    go_wp2_with fail
    refine (HSM.out w2 _ us2 HM2.out HCA2.out HRD2.out).mono ?_
    rintro e w3 ⟨A3, c3, vs, n3, m3, ok, rfl, ho3, hr3, hbe⟩
    obtain ⟨S, hS⟩ : ∃ S, S = vs.map Tab.slots := ⟨_, rfl⟩
    rw [← hS] at hr3
    have HVS := Lib.hid hS.symm
    have HSL : Hid (S.length ≤ 1048576) := by have h := HVL.out; rw [hr3] at h; exact Nat.le_trans h hl
    rw [hr3] at HIM
    have hw3 : w.heap.size < w3.heap.size := by have := hbe.size; omega
    have HBx := Lib.hid (bel_trans (bel_trans HB2.out hbe) (below1 w3 (.cells #[.slice A3 vs.length c3, .int .i64 n3, .int .i64 m3] 25)))
    have K4 := Lib.hid (blkc (blkc K2.out hbe) (below1 w3 (.cells #[.slice A3 vs.length c3, .int .i64 n3, .int .i64 m3] 25)))
    have N6 := Lib.hid (heap_alloc_new w3 (.cells #[.slice A3 vs.length c3, .int .i64 n3, .int .i64 m3] 25))
    have R6 : Hid (RdT (w3.alloc (.cells #[.slice A3 vs.length c3, .int .i64 n3, .int .i64 m3] 25)) w3.heap.size A3 vs) := ho3.rd.below (below1 w3 _)
    clear hS hr3 ho3 hbe HRD2 HCA2 HM2 HB2 K2 hw2 HSM HVL
    go_upto_region 6 with (fail)
    obtain ⟨w4, hw4⟩ : ∃ w4, w4 = w3.alloc (.cells #[.slice A3 vs.length c3, .int .i64 n3, .int .i64 m3] 25) := ⟨_, rfl⟩
    obtain ⟨T6, hT6⟩ : ∃ T6, T6 = w3.heap.size := ⟨_, rfl⟩
    have h46 : T6 < w4.heap.size := by rw [hw4, hT6]; simp
    rw [← hw4] at HBx K4 N6 R6 ⊢
    rw [← hT6] at N6 R6 hw3 ⊢
    clear hw4 hT6
    obtain ⟨x0, x1, x2, _, _, _, x6⟩ := cell3 K4.out
    go_wp2_with fail
    refine (HT.out w4 HBx.out).mono ?_
    rintro e w5 ⟨b5, xs, rfl, hb5, ho5, hr5, hm5, hbe⟩
    have HLX := Lib.hid (map_len hm5)
    have HX5 := Lib.hid (tom_rd ho5 hr5 (map_lens hm5 HW.out))
    have HW5 : Hid (∀ q, q ∈ xs → Wr 2 w5 (b5 + 1) w5.heap.size q.A q.slots.length) := fun q hq => (hr5 q hq).wr
    have HCX := Lib.hid (own_cap hr5)
    have HMX := Lib.hid hm5
    have HBy := Lib.hid (bel_trans (bel_trans HBx.out hbe) (below1 w5 (.cells #[.slice (some ⟨b5, 0, none⟩) ts.length ts.length, .int .i64 now, .int .i64 next] 25)))
    have H46 := Lib.hid (bel_trans hbe (below1 w5 (.cells #[.slice (some ⟨b5, 0, none⟩) ts.length ts.length, .int .i64 now, .int .i64 next] 25)))
    have N7 := Lib.hid (heap_alloc_new w5 (.cells #[.slice (some ⟨b5, 0, none⟩) ts.length ts.length, .int .i64 now, .int .i64 next] 25))
    have h45 := hbe.size
    have HX6 : Hid (RdT (w5.alloc (.cells #[.slice (some ⟨b5, 0, none⟩) ts.length ts.length, .int .i64 now, .int .i64 next] 25)) w5.heap.size (some ⟨b5, 0, none⟩) xs) := HX5.out.below (below1 w5 _)
    have HW6 : Hid (∀ q, q ∈ xs → Wr 2 (w5.alloc (.cells #[.slice (some ⟨b5, 0, none⟩) ts.length ts.length, .int .i64 now, .int .i64 next] 25)) (b5 + 1) w5.heap.size q.A q.slots.length) := fun q hq => (HW5.out q hq).below (below1 w5 _) (Nat.le_refl _)
    have K6 := Lib.hid (blkc K4.out H46.out)
    have N66 := Lib.hid (blkc N6.out H46.out)
    have R66 : Hid (RdT (w5.alloc (.cells #[.slice (some ⟨b5, 0, none⟩) ts.length ts.length, .int .i64 now, .int .i64 next] 25)) T6 A3 vs) := R6.out.below (H46.out.mono (by omega))
    clear ho5 hr5 hm5 hbe x0 x1 x2 x6 HX5 HW5 K4 N6 R6 HBx H46
    go_upto_region 7 with (fail)
    obtain ⟨w6, hw6⟩ : ∃ w6, w6 = w5.alloc (.cells #[.slice (some ⟨b5, 0, none⟩) ts.length ts.length, .int .i64 now, .int .i64 next] 25) := ⟨_, rfl⟩
    obtain ⟨T7, hT7⟩ : ∃ T7, T7 = w5.heap.size := ⟨_, rfl⟩
    have h67 : T7 < w6.heap.size := by rw [hw6, hT7]; simp
    rw [← hw6] at HBy N7 HX6 HW6 K6 N66 R66 ⊢
    rw [← hT7] at N7 HX6 HW6 h45 ⊢
    clear hw6 hT7
    obtain ⟨x0, x1, x2, _, _, _, x6⟩ := cell3 N7.out
    go_wp2_with fail
    refine (HIM.out w6 _ xs HMX.out HCX.out (HX6.out.mono2 (by omega))).mono ?_
    rintro e w7 ⟨A7, c7, gs, n7, m7, ok9, rfl, ho7, hr, hsep, hbe⟩
    injection hr with e1 e2
    injection e2 with e2 e3
    injection e3 with e3 e4
    subst e2; subst e3; subst e4
    have HGM := Lib.hid (HVS.out.trans e1)
    have HGL : Hid (gs.length ≤ 1048576) := by show gs.length ≤ 1048576; have h := HSL.out; rw [e1] at h; simpa using h
    have HSEP := Lib.hid hsep
    have h78 := hbe.size
    have SF : Hid (XF w A c ts now next T6 T7 w7.heap.size A3 c3 vs n3 m3 b5 T7 xs A7 c7 gs (w7.alloc (.cells #[.slice A7 gs.length c7, .int .i64 n3, .int .i64 m3] 25))) := by
      have hb8 := bel_trans hbe (below1 w7 (.cells #[.slice A7 gs.length c7, .int .i64 n3, .int .i64 m3] 25))
      have k7 := blkc N7.out hb8
      rw [← HLX.out] at k7
      exact ⟨⟨bel_trans HBy.out hb8, blkc K6.out hb8, blkc N66.out hb8, heap_alloc_new w7 _, R66.out.below (hb8.mono (by omega)), by omega, by omega, Nat.le_refl _, by omega, by omega⟩, k7, HX6.out.below (hb8.mono (by omega)), fun q hq => (HW6.out q hq).below hb8 (by omega), (ho7.alloc _).more (by omega), ho7.rd.below (below1 w7 _)⟩
    clear e1 ho7 hsep hbe x0 x1 x2 x6 N7 HX6 HW6 K6 N66 R66 HBy HCX
    go_upto_region 8 with (fail)
    obtain ⟨w8, hw8⟩ : ∃ w8, w8 = w7.alloc (.cells #[.slice A7 gs.length c7, .int .i64 n3, .int .i64 m3] 25) := ⟨_, rfl⟩
    obtain ⟨T8, hT8⟩ : ∃ T8, T8 = w7.heap.size := ⟨_, rfl⟩
    rw [← hw8, ← hT8] at SF ⊢
    clear hw8 hT8 h78 h67 h45 h46 hw3
    have EQ : Hid (∀ W, XS w A c ts now next T6 T7 T8 A3 c3 vs n3 m3 b5 T7 xs A7 c7 gs W → RdT W T8 A7 gs → Calls Try.prog 46 #[.agg #[.slice A7 gs.length c7, .int .i64 n3, .int .i64 m3], .agg #[.slice A3 vs.length c3, .int .i64 n3, .int .i64 m3]] W fun e w' => e = .returned (.bool true) ∧ Below W.heap.size W w') := fun W s hg =>
      callEqModesT A7 A3 c7 c3 gs vs n3 m3 W W.heap.size (Nat.le_refl _) HGL.out HGM.out (hg.mono2 (by have := (Array.getElem?_eq_some_iff.1 s.k8).1; omega)) (s.r6.mono2 (by have := (Array.getElem?_eq_some_iff.1 s.k6).1; omega))
    have F8 := Lib.hid SF
    obtain ⟨a0, a1, a2, _, _, _, _⟩ := cell3 SF.out.st.k8
    obtain ⟨g0, g1, g2, _, _, _, _⟩ := cell3 SF.out.st.k6
    have hokk : (ok != ok) = false := by cases ok <;> rfl
    go_wp2_with fail
    refine (EQ.out w8 SF.out.st SF.out.r8).mono ?_
    rintro e w9 ⟨rfl, hb9⟩
    have S9 := Lib.hid (SF.out.keep hb9)
    clear hb9 a0 a1 a2 g0 g1 g2 SF F8
    have Bd := Lib.hid S9.out.st.bel.drew
    have XQ : Hid (∀ W (ba : Nat) ua, ua.map Tab.slots = xs.map Tab.slots → RdT W W.heap.size (some ⟨ba, 0, none⟩) ua → XF w A c ts now next T6 T7 T8 A3 c3 vs n3 m3 b5 T7 xs A7 c7 gs W → Calls Try.prog 46 #[.agg #[.slice (some ⟨b5, 0, none⟩) xs.length xs.length, .int .i64 now, .int .i64 next], .agg #[.slice (some ⟨ba, 0, none⟩) ts.length ts.length, .int .i64 now, .int .i64 next]] W fun e w' => e = .returned (.bool true) ∧ Below W.heap.size W w') := fun W ba ua hm hu s => by
      have h := callEqModesT (some ⟨b5, 0, none⟩) (some ⟨ba, 0, none⟩) xs.length ts.length xs ua now next W W.heap.size (Nat.le_refl _) (by have := HLX.out; omega) hm (s.x7.mono2 (by have := (Array.getElem?_eq_some_iff.1 s.k7).1; omega)) hu
      rw [map_len hm, HLX.out] at h
      rw [HLX.out]
      exact h
    obtain ⟨x0, x1, x2, _, _, _, _⟩ := cell3 S9.out.st.par
    obtain ⟨y0, y1, y2, _, _, _, _⟩ := cell3 S9.out.k7
    go_upto_region 10 with (fail)
    go_region_held3 (fun w' => (w'.cell? ⟨w.heap.size, 0, none⟩ = some (.slice A ts.length c) ∧ w'.cell? ⟨w.heap.size, 1, none⟩ = some (.int .i64 now) ∧ w'.cell? ⟨w.heap.size, 2, none⟩ = some (.int .i64 next)) ∧ (w'.cell? ⟨T7, 0, none⟩ = some (.slice (some ⟨b5, 0, none⟩) xs.length xs.length) ∧ w'.cell? ⟨T7, 1, none⟩ = some (.int .i64 now) ∧ w'.cell? ⟨T7, 2, none⟩ = some (.int .i64 next))) (first | exact ⟨⟨x0, x1, x2⟩, ⟨y0, y1, y2⟩⟩ | (refine ⟨⟨?_, ?_, ?_⟩, ⟨?_, ?_, ?_⟩⟩ <;> assumption) | go_keep)
      (first
        | (go_at_call 45; refine (HT.out w9.drew Bd.out).mono ?_; rintro e wa ⟨ba, ua, rfl, hba, hoa, hra, hma, hbe⟩; have HRA := Lib.hid (tom_rd hoa hra (map_lens hma HW.out)); have HMA := Lib.hid (hma.trans HMX.out.symm); have HBa := Lib.hid ((below_drew (Below.refl w9.heap.size w9)).trans hbe); clear hoa hra hma hbe; obtain ⟨m0, m1, m2, _, _, _, _⟩ := cell3 (blkc S9.out.st.par HBa.out); obtain ⟨k0, k1, k2, _, _, _, _⟩ := cell3 (blkc S9.out.k7 HBa.out))
        | (go_at_call 46; refine (XQ.out wa ba ua HMA.out HRA.out (S9.out.keep HBa.out)).mono ?_; rintro e wb ⟨rfl, hbe⟩; have SB := Lib.hid (S9.out.keep (bel_trans HBa.out hbe)); clear hbe; obtain ⟨o0, o1, o2, _, _, _, _⟩ := cell3 SB.out.st.par; obtain ⟨q0, q1, q2, _, _, _, _⟩ := cell3 SB.out.k7))
    clear XQ Bd S9 HRA HMA HBa x0 x1 x2 y0 y1 y2
    try clear m0 m1 m2 k0 k1 k2
    try clear o0 o1 o2 q0 q1 q2
    have hT7b : T7 < wb.heap.size := (Array.getElem?_eq_some_iff.1 SB.out.k7).1
    have hxl : xs.length ≤ 1048576 := by have := HLX.out; omega
    have CM := Lib.hid (callMarkModesW b5 xs.length xs now next 1 T7 wb (by omega) (by omega) (by omega) hxl
      (fun h => by
        have hne : xs ≠ [] := by intro e; simp [e] at h
        have hx := SB.out.x7.1
        obtain ⟨b', off', hA, hlt', _⟩ := hx hne
        simp only [Option.some.injEq, Addr.mk.injEq, and_true] at hA
        refine ⟨by omega, fun i hi => ?_⟩
        obtain ⟨b2, o2, hA2, _, e0⟩ := hx.at1 rfl hi rfl
        simp only [Option.some.injEq, Addr.mk.injEq, and_true] at hA2
        obtain ⟨rfl, rfl⟩ := hA2
        rw [Nat.zero_add] at e0
        exact e0)
      (fun q hq => ⟨SB.out.w7 q hq, (SB.out.x7.2 q hq).2⟩))
    clear hxl hT7b
    obtain ⟨y0, y1, y2, _, _, _, _⟩ := cell3 SB.out.k7
    go_wp2_with fail
    refine CM.out.mono ?_
    rintro e wc ⟨rk, rfl, hrk, u, hbu, hmk⟩
    have hdk : decide (rk < 0) = false := decide_eq_false (by omega)
    have SC := Lib.hid (SB.out.mark hbu hmk)
    clear hbu hmk CM SB y0 y1 y2
    obtain ⟨a0, a1, a2, _, _, _, _⟩ := cell3 SC.out.1.k8
    obtain ⟨g0, g1, g2, _, _, _, _⟩ := cell3 SC.out.1.k6
    go_wp2_with fail
    refine (EQ.out wc SC.out.1 SC.out.2.2).mono ?_
    rintro e wd ⟨rfl, hbe⟩
    have SD := Lib.hid (SC.out.1.keep hbe)
    have OD := Lib.hid (SC.out.2.1.next hbe)
    have RD : Hid (RdT wd T8 A7 gs) := SC.out.2.2.below (hbe.mono (by have := (Array.getElem?_eq_some_iff.1 SC.out.1.k8).1; omega))
    have HGS : Hid (∀ t, t ∈ gs → t.slots.length ≤ 1048576) := fun t ht => by have := (SC.out.2.1.2 t ht).2; omega
    clear hbe SC EQ a0 a1 a2 g0 g1 g2
    obtain ⟨a0, a1, a2, _, _, _, _⟩ := cell3 SD.out.k8
    obtain ⟨st, hst⟩ : ∃ st, st = stT gs 1 gs.length := ⟨_, rfl⟩
    have hst0 : 0 ≤ st := by rw [hst]; exact (stT_bd (by omega) HGS.out _ (Nat.le_refl _)).1
    have CX := callMarkModesX A7 c7 gs n3 m3 1 T7 T8 wd (by have := (Array.getElem?_eq_some_iff.1 SD.out.k8).1; omega) (by omega) (by omega) HGL.out OD.out HSEP.out RD.out
    rw [← hst] at CX
    have HCX := Lib.hid CX
    have HST := Lib.hid hst
    have hds : decide (st < 0) = false := decide_eq_false (by omega)
    have hdn : (st != st) = false := by simp
    clear CX hst
    go_wp2_with fail
    refine HCX.out.mono ?_
    rintro e we ⟨rfl, ⟨u, hbu, hmk⟩, hoe, hre⟩
    have SE := Lib.hid (SD.out.mark hbu hmk)
    have RE : Hid (Rd eTab we we.heap.size A7 gs ∧ ∀ i (h : i < gs.length), Rd eSlt we we.heap.size gs[i].A (marksS (stT gs 1 i) gs[i].slots.length)) := ⟨hoe.rd, fun i h => (hre i h).rdN⟩
    have HLD : Hid (∀ W, Below we.heap.size we W → Calls Try.prog 48 #[.agg #[.slice A7 gs.length c7, .int .i64 n3, .int .i64 m3], .int .i64 1] W fun e w' => e = .returned (.int .i64 st) ∧ Below W.heap.size W w') := fun W hW => by
      rw [HST.out]
      exact callHeldModes A7 c7 gs n3 m3 1 W we.heap.size hW.size (by omega) (by omega) HGL.out HGS.out (RE.out.1.below hW) (fun i h => (RE.out.2 i h).below hW)
    clear hbu hmk hoe hre HCX SD OD RD a0 a1 a2
    obtain ⟨a0, a1, a2, _, _, _, _⟩ := cell3 SE.out.k8
    go_wp2_with fail
    refine (HLD.out we (Below.refl _ _)).mono ?_
    rintro e wf ⟨rfl, hbe⟩
    have HEf := Lib.hid hbe
    have SFf := Lib.hid (SE.out.keep hbe)
    clear hbe a0 a1 a2
    obtain ⟨x0, x1, x2, _, _, _, _⟩ := cell3 SFf.out.par
    go_wp2_with fail
    refine (HT.out wf SFf.out.bel).mono ?_
    rintro e wg ⟨bg, ug, rfl, hbg, hog, hrg, hmg, hbe⟩
    have HRDg := Lib.hid (tom_rd hog hrg (map_lens hmg HW.out))
    have HCAg := Lib.hid (own_cap hrg)
    have HMg := Lib.hid hmg
    have HEg := Lib.hid (bel_trans HEf.out hbe)
    have SG := Lib.hid (SFf.out.keep hbe)
    clear hog hrg hmg hbe SFf x0 x1 x2 HEf
    go_wp2_with fail
    refine (HIM.out wg _ ug HMg.out HCAg.out HRDg.out).mono ?_
    rintro e wh ⟨A9, c9, hs9, n9, m9, ok8, rfl, ho9, hr, _, hbe⟩
    injection hr with e1 e2
    injection e2 with e2 e3
    injection e3 with e3 e4
    subst e2; subst e3; subst e4
    have HGM9 := Lib.hid (HVS.out.trans e1)
    have HGL9 : Hid (hs9.length ≤ 1048576) := by show hs9.length ≤ 1048576; have h := HSL.out; rw [e1] at h; simpa using h
    have hb9 := bel_trans hbe (below1 wh (.cells #[.slice A9 hs9.length c9, .int .i64 n3, .int .i64 m3] 25))
    have HEi := Lib.hid (bel_trans HEg.out hb9)
    have SI := Lib.hid (SG.out.keep hb9)
    have N9 := Lib.hid (heap_alloc_new wh (.cells #[.slice A9 hs9.length c9, .int .i64 n3, .int .i64 m3] 25))
    have R9 : Hid (RdT (wh.alloc (.cells #[.slice A9 hs9.length c9, .int .i64 n3, .int .i64 m3] 25)) wh.heap.size A9 hs9) := ho9.rd.below (below1 wh _)
    clear e1 ho9 hbe hb9 SG HEg HRDg HCAg HMg
    go_upto_region 25 with (fail)
    obtain ⟨wi, hwi⟩ : ∃ wi, wi = wh.alloc (.cells #[.slice A9 hs9.length c9, .int .i64 n3, .int .i64 m3] 25) := ⟨_, rfl⟩
    have hhi : wh.heap.size ≤ wi.heap.size := by rw [hwi]; simp
    rw [← hwi] at HEi SI N9 R9 ⊢
    clear hwi
    obtain ⟨a0, a1, a2, _, _, _, _⟩ := cell3 N9.out
    obtain ⟨g0, g1, g2, _, _, _, _⟩ := cell3 SI.out.k6
    have CQ := Lib.hid (callEqModesT A9 A3 c9 c3 hs9 vs n3 m3 wi wi.heap.size (Nat.le_refl _) HGL9.out HGM9.out (R9.out.mono2 hhi) (SI.out.r6.mono2 (by have := (Array.getElem?_eq_some_iff.1 SI.out.k6).1; omega)))
    clear hhi
    go_wp2_with fail
    refine CQ.out.mono ?_
    rintro e wj ⟨rfl, hbe⟩
    have HEj := Lib.hid (bel_trans HEi.out hbe)
    have SJ := Lib.hid (SI.out.keep hbe)
    clear hbe CQ SI HEi a0 a1 a2 g0 g1 g2 N9 R9
    obtain ⟨a0, a1, a2, _, _, _, _⟩ := cell3 SJ.out.k8
    go_wp2_with fail
    refine (HLD.out wj HEj.out).mono ?_
    rintro e wk ⟨rfl, hbe⟩
    have HFIN := Lib.hid (bel_trans SJ.out.bel hbe)
    clear hbe
    go_wp2
    go_ret
    exact ⟨rfl, HFIN.out⟩
  · have hd : decide (r < 0) = true := decide_eq_true (by omega)
    clear HRZ
    go_wp2
    go_ret
    exact ⟨rfl, HB1.out⟩
end Go.Proofs.Ytapkgncmjinedaa
