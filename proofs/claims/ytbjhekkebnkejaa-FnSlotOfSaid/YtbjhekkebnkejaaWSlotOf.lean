/- The walk of the law FnSlotOf: true for every input, and nothing that was there is written. -/
import Derived.Test.YtbjhekkebnkejaaSlr
import Derived.Test.YtbjhekkebnkejaaDrs
import Derived.Test.YtbjhekkebnkejaaFrl
namespace Go.Proofs.Ytbjhekkebnkejaa
open Go.RowKit Go.Sort

set_option maxRecDepth 100000 in
set_option maxHeartbeats 3200000 in
theorem walkFnSlotOf (A : Option Addr) (c : Nat) (bs : List Int) (w : World) (hc : bs.length ≤ c) (hr : Rd eU8 w w.heap.size A bs) (hby : ∀ x ∈ bs, 0 ≤ x ∧ x ≤ 255) :
    Calls Try.prog 9 #[.slice A bs.length c] w fun e w' => e = .returned (.bool true) ∧ Below w.heap.size w w' := by
  by_cases hl : bs.length ≤ 1048576
  · have HC := Lib.hid (callDrawSlotOf A c bs w hc hl hr hby)
    clear hr hby
    go_enter Try.func9, Try.ntmps9
    go_wp2_with fail
    refine HC.out.mono ?_
    rintro e w1 ⟨A, c, xs, p, t, rfl, hrd, hlen, hp1, hp2, ht1, ht2, hb1⟩
    have HB1 := Lib.hid hb1
    clear hb1 HC
    have HX := Lib.hid hrd
    clear hrd
    have HBa := Lib.hid (Below.refl w1.heap.size w1)
    have hv : (sltsOk xs p && tkOk t) = false ∨ (sltsOk xs p = true ∧ tkOk t = true) := by
      cases h1 : sltsOk xs p <;> cases h3 : tkOk t <;> simp
    rcases hv with hno | ⟨hs, ht⟩
    · go_wp2_with fail
      refine (callSlotOfNo A c xs p t _ w1.heap.size HBa.out.size (by omega) (by omega) (by omega) hno (HX.out.below HBa.out)).mono ?_
      rintro e w2 ⟨rfl, hb2⟩
      have HB2 := Lib.hid (HBa.out.trans (hb2.mono HBa.out.size))
      clear hb2
      go_wp2_with fail
      refine (callSSlotOfNo A c xs p t _ w1.heap.size HB2.out.size (by omega) (by omega) (by omega) hno (HX.out.below HB2.out)).mono ?_
      rintro e w3 ⟨rfl, hb3⟩
      have HB3 := Lib.hid (HB2.out.trans (hb3.mono HB2.out.size))
      clear hb3
      go_wp2_with fail
      refine (callAlive _).mono ?_
      rintro e w9 ⟨rfl, hb9⟩
      go_wp2
      go_ret
      exact ⟨rfl, bel_trans HB1.out (bel_trans HB3.out hb9)⟩
    · obtain ⟨h0, h1⟩ := inB_iff.1 ht
      obtain ⟨T, rfl⟩ := Int.eq_ofNat_of_zero_le h0
      have hbd := fr_bd hs
      have HS := Lib.hid hs
      have HA : Hid (∀ s ∈ xs, sltOk p s = true) := (sltsOk_iff.1 hs).2.2
      have HT := Lib.hid ht
      clear hs ht
      go_wp2_with fail
      refine (callSlotOfYes A c xs p T (by omega) _ w1.heap.size HBa.out.size (by omega) (by omega) (by omega) HS.out (HX.out.below HBa.out)).mono ?_
      rintro e w2 ⟨⟨k, r, hsl, rfl⟩, hb2⟩
      have HB2 := Lib.hid (HBa.out.trans (hb2.mono HBa.out.size))
      clear hb2
      go_wp2_with fail
      refine (callSSlotOfYes A c xs p T (by omega) _ w1.heap.size HB2.out.size (by omega) (by omega) (by omega) HS.out (HX.out.below HB2.out)).mono ?_
      rintro e w3 ⟨⟨k', r', hsl', rfl⟩, hb3⟩
      have HB3 := Lib.hid (HB2.out.trans (hb3.mono HB2.out.size))
      clear hb3
      obtain ⟨rfl, rfl⟩ := slot_same hsl hsl'
      have hk : k < xs.length := hsl.1
      have hr2 : r < xs[k].ticks.toNat := hsl.2.2
      have HSL := Lib.hid hsl
      have hso := sltOk_iff.1 (HA.out xs[k] (List.getElem_mem hk))
      obtain ⟨m, hmt⟩ : ∃ m : Nat, xs[k].ticks = (m : Int) := ⟨xs[k].ticks.toNat, by omega⟩
      have hm2 : m ≤ 20 := by omega
      have hrm : r < m := by rw [hmt] at hr2; simpa using hr2
      obtain ⟨q, hq⟩ : ∃ q, q = m - r := ⟨_, rfl⟩
      have hq1 : 1 ≤ q ∧ q ≤ m := by omega
      have hqs : (m : Int) - (r : Int) = (q : Int) := by omega
      have HQ : Hid (xs[k].ticks - (r : Int) = (q : Int)) := by show _ = _; rw [hmt]; exact hqs
      have HM := Lib.hid hmt
      have HSN2 : Hid (SlotIs xs ((T + q) % (fr xs).length) ((k + 1) % xs.length) 0) := by
        show SlotIs _ _ _ _
        have := slot_next HS.out hsl
        rwa [hmt, Int.toNat_natCast, ← hq] at this
      have HW : Hid (whoRuns xs p (T : Int) = xs[k].who) := by
        show _ = _
        obtain ⟨hT', e⟩ := slot_who HSL.out
        unfold whoRuns
        rw [HS.out, HT.out, Int.toNat_natCast, whoAt_mod (by omega), e]; rfl
      have k1' : ((k : Int) != (k : Int)) = false := by simp
      have k2' : ((q : Int) != (q : Int)) = false := by simp
      have k3' : decide ((k : Int) ≥ (xs.length : Int)) = false := decide_eq_false (by omega)
      have k4' : decide ((q : Int) < 1) = false := decide_eq_false (by omega)
      have k5' : decide ((q : Int) > (m : Int)) = false := decide_eq_false (by omega)
      have kw : (xs[k].who == xs[k].who) = true := by simp
      rw [HQ.out]
      obtain ⟨b, off, rfl, hbB, g1, g2⟩ := (HX.out.below HB3.out).at2 rfl hk rfl
      rw [HM.out] at g2
      clear hso hmt hq hsl hsl' hr2 hqs
      by_cases hbig : 1000000 < T + q
      · have hno : (sltsOk xs p && tkOk ((T : Int) + (q : Int))) = false := by rw [show tkOk ((T : Int) + (q : Int)) = false from inB_not.2 (by omega), Bool.and_false]
        have HNO := Lib.hid hno
        have hb0 : decide ((T : Int) + (q : Int) > 1000000) = true := decide_eq_true (by omega)
        clear hno
        go_wp2_with fail
        refine (callSlotOfNo _ c xs p ((T : Int) + (q : Int)) _ w1.heap.size HB3.out.size (by omega) (by omega) (by omega) HNO.out (HX.out.below HB3.out)).mono ?_
        rintro e w4 ⟨rfl, hb4⟩
        have HB4 := Lib.hid (HB3.out.trans (hb4.mono HB3.out.size))
        clear hb4
        clear g1 g2
        obtain ⟨b', off', hAA, hbB', g1, g2⟩ := (HX.out.below HB4.out).at2 rfl hk rfl
        simp only [Option.some.injEq, Addr.mk.injEq, and_true] at hAA
        obtain ⟨rfl, rfl⟩ := hAA
        have kk1 := cell_regrown g1
        have C2 : QCall Try.prog 20 #[.slice (some ⟨b, off, none⟩) xs.length c, .int .i64 p, .int .i64 T] w4 (.int .i64 xs[k].who) := QCall.of fun W' hb => by
          have := callWhoRuns (some ⟨b, off, none⟩) c xs p T W' w1.heap.size (Nat.le_trans HB4.out.size hb.size) (by omega) (by omega) (by omega) (HX.out.below (HB4.out.trans (hb.mono HB4.out.size)))
          rw [HW.out] at this
          exact this
        have hw1 : IntKind.i64.wrap ((T : Int) + (q : Int)) = (T : Int) + (q : Int) := by rw [IntKind.wrap_i64]; omega
        have hi1 : (0 : Int) ≤ (k : Int) := by omega
        have hi3 : (k : Int) < (xs.length : Int) := by omega
        clear g1 g2
        go_upto_region 13 with (fail)
        refine wp_region_quiet_below (by kernel_rfl) (by kernel_rfl) ?_
        repeat (first | go_big_quiet_step ((go_at_call 20; exact C2 _ _)) | quiet_step ((go_at_call 20; exact C2 _ _)))
        refine wpQuiet_nil ?_
        intro w6 hw6
        have HB6 := Lib.hid (HB4.out.trans ((below_of_regrown hw6).mono HB4.out.size))
        clear hw6 C2
        go_wp2
        go_ret
        exact ⟨rfl, bel_trans HB1.out HB6.out⟩
      · have HTL : Hid (((T + q : Nat) : Int) = (T : Int) + (q : Int)) := by show _ = _; omega
        have SL := fun X => callSlotOfYes X c xs p (T + q) (by omega)
        rw [HTL.out] at SL
        have SLH := Lib.hid SL
        clear SL
        go_wp2_with fail
        refine (SLH.out _ _ w1.heap.size HB3.out.size (by omega) (by omega) (by omega) HS.out (HX.out.below HB3.out)).mono ?_
        rintro e w4 ⟨⟨k2, r2, hsl2, rfl⟩, hb4⟩
        have HB4 := Lib.hid (HB3.out.trans (hb4.mono HB3.out.size))
        clear hb4
        clear g1 g2
        obtain ⟨b', off', hAA, hbB', g1, g2⟩ := (HX.out.below HB4.out).at2 rfl hk rfl
        simp only [Option.some.injEq, Addr.mk.injEq, and_true] at hAA
        obtain ⟨rfl, rfl⟩ := hAA
        have kk1 := cell_regrown g1
        obtain ⟨hk2, hr0⟩ := slot_same hsl2 HSN2.out
        subst hr0
        have hk2l : k2 < xs.length := hsl2.1
        have hmod : ((k : Int) + 1) % (xs.length : Int) = (k2 : Int) := by rw [hk2]; rfl
        have hwk : IntKind.i64.wrap ((k : Int) + 1) = (k : Int) + 1 := by rw [IntKind.wrap_i64]; omega
        have hk2n : ((k2 : Int) == -1) = false := by rw [beq_eq_false_iff_ne]; omega
        have hk2e : ((k2 : Int) == (k2 : Int)) = true := by simp
        obtain ⟨z, hz⟩ : ∃ z, z = xs[k2].ticks := ⟨_, rfl⟩
        have hzz : (z == z) = true := by simp
        have HZ := Lib.hid hz
        obtain ⟨b', off', hAA, hbB', e1, e2⟩ := (HX.out.below HB4.out).at2 rfl hk2l rfl
        simp only [Option.some.injEq, Addr.mk.injEq, and_true] at hAA
        obtain ⟨rfl, rfl⟩ := hAA
        rw [← hz] at e2
        have kk2 := cell_regrown e2
        have hi4 : (0 : Int) ≤ (k2 : Int) := by omega
        have hi5 : (k2 : Int) < (xs.length : Int) := by omega
        have hzs : z - ((0 : Nat) : Int) = z := by omega
        rw [show xs[k2].ticks - ((0 : Nat) : Int) = z by rw [← HZ.out]; exact hzs]
        clear hz e1 e2 hsl2 hk2
        have C2 : QCall Try.prog 20 #[.slice (some ⟨b, off, none⟩) xs.length c, .int .i64 p, .int .i64 T] w4 (.int .i64 xs[k].who) := QCall.of fun W' hb => by
          have := callWhoRuns (some ⟨b, off, none⟩) c xs p T W' w1.heap.size (Nat.le_trans HB4.out.size hb.size) (by omega) (by omega) (by omega) (HX.out.below (HB4.out.trans (hb.mono HB4.out.size)))
          rw [HW.out] at this
          exact this
        have hw1 : IntKind.i64.wrap ((T : Int) + (q : Int)) = (T : Int) + (q : Int) := by rw [IntKind.wrap_i64]; omega
        have hi1 : (0 : Int) ≤ (k : Int) := by omega
        have hi3 : (k : Int) < (xs.length : Int) := by omega
        clear g1 g2
        go_upto_region 13 with (fail)
        refine wp_region_quiet_below (by kernel_rfl) (by kernel_rfl) ?_
        repeat (first | go_big_quiet_step ((go_at_call 20; exact C2 _ _)) | quiet_step ((go_at_call 20; exact C2 _ _)))
        refine wpQuiet_nil ?_
        intro w6 hw6
        have HB6 := Lib.hid (HB4.out.trans ((below_of_regrown hw6).mono HB4.out.size))
        clear hw6 C2
        go_wp2
        go_ret
        exact ⟨rfl, bel_trans HB1.out HB6.out⟩
  · have hl' : 1048576 < bs.length := by omega
    clear hr hby hl
    go_enter Try.func9, Try.ntmps9
    go_wp2
    go_ret
    exact ⟨rfl, Below.refl _ _⟩
end Go.Proofs.Ytbjhekkebnkejaa
