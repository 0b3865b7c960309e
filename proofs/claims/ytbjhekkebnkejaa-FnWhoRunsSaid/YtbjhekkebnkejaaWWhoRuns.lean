/- The walk of the law FnWhoRuns: true for every input, and nothing that was there is written. -/
import Derived.Test.YtbjhekkebnkejaaSlr
import Derived.Test.YtbjhekkebnkejaaDrs
import Derived.Test.YtbjhekkebnkejaaFrl
namespace Go.Proofs.Ytbjhekkebnkejaa
open Go.RowKit Go.Sort

set_option maxRecDepth 100000 in
set_option maxHeartbeats 3200000 in
theorem walkFnWhoRuns (A : Option Addr) (c : Nat) (bs : List Int) (w : World) (hc : bs.length ≤ c) (hr : Rd eU8 w w.heap.size A bs) (hby : ∀ x ∈ bs, 0 ≤ x ∧ x ≤ 255) :
    Calls Try.prog 6 #[.slice A bs.length c] w fun e w' => e = .returned (.bool true) ∧ Below w.heap.size w w' := by
  by_cases hl : bs.length ≤ 1048576
  · have HC := Lib.hid (callDrawWhoRuns A c bs w hc hl hr hby)
    clear hr hby
    go_enter Try.func6, Try.ntmps6
    go_wp2_with fail
    refine HC.out.mono ?_
    rintro e w1 ⟨A, c, xs, p, t, rfl, hrd, hlen, hp1, hp2, ht1, ht2, hb1⟩
    have HB1 := Lib.hid hb1
    clear hb1 HC
    have HX := Lib.hid hrd
    clear hrd
    have HBa := Lib.hid (Below.refl w1.heap.size w1)
    have hv : (sltsOk xs p && tkOk t) = false ∨ (sltsOk xs p = true ∧ tkOk t = true) := by
      cases h1 : sltsOk xs p <;> cases h3 : tkOk t <;> simp
    rcases hv with hno | ⟨hs, ht⟩
    · have H1 : Hid (whoRuns xs p t = -2) := by show _ = _; unfold whoRuns; rw [hno]; rfl
      clear hno
      go_wp2_with fail
      refine (callWhoRuns A c xs p t _ w1.heap.size HBa.out.size (by omega) (by omega) (by omega) (HX.out.below HBa.out)).mono ?_
      rintro e w2 ⟨rfl, hb2⟩
      rw [H1.out]
      have HB2 := Lib.hid (HBa.out.trans (hb2.mono HBa.out.size))
      clear hb2
      go_wp2_with fail
      refine (callSWhoRuns A c xs p t _ w1.heap.size HB2.out.size (by omega) (by omega) (by omega) (HX.out.below HB2.out)).mono ?_
      rintro e w3 ⟨rfl, hb3⟩
      rw [H1.out]
      have HB3 := Lib.hid (HB2.out.trans (hb3.mono HB2.out.size))
      clear hb3
      go_wp2_with fail
      refine (callAlive _).mono ?_
      rintro e w9 ⟨rfl, hb9⟩
      go_wp2
      go_ret
      exact ⟨rfl, bel_trans HB1.out (bel_trans HB3.out hb9)⟩
    · obtain ⟨h0, h1⟩ := inB_iff.1 ht
      obtain ⟨T, rfl⟩ := Int.eq_ofNat_of_zero_le h0
      have hbd := fr_bd hs
      have HS := Lib.hid hs
      obtain ⟨L, hL⟩ : ∃ L, L = (fr xs).length := ⟨_, rfl⟩
      rw [← hL] at hbd
      obtain ⟨a, ha⟩ : ∃ a, a = whoAt (fr xs) T := ⟨_, rfl⟩
      have hin := who_in hs T
      rw [← ha] at hin
      have H1 : Hid (whoRuns xs p (T : Int) = a) := by
        show _ = _
        unfold whoRuns
        rw [hs, ht, ha]; rfl
      have hl1 : 0 < xs.length := (sltsOk_iff.1 hs).2.1.1
      have H2 : Hid (whoRuns xs p 0 = xs[0].who) := by
        show _ = _
        unfold whoRuns
        rw [hs, show tkOk 0 = true from rfl, ← who_first hs hl1]; rfl
      have H3 : Hid (frameTicks xs p = (L : Int)) := by
        show _ = _
        unfold frameTicks
        rw [hs, hL]; rfl
      have hnn : (a != a) = false := by simp
      have haa : (a == a) = true := by simp
      have ha2 : (a == -2) = false := by rw [beq_eq_false_iff_ne]; omega
      have ha3 : decide (a ≥ -1) = true := decide_eq_true (by omega)
      have ha4 : decide (a < p) = true := decide_eq_true (by omega)
      have hff : (xs[0].who == xs[0].who) = true := by simp
      have HA := Lib.hid ha
      have HL := Lib.hid hL
      have HT := Lib.hid ht
      clear ha hs ht hL
      go_wp2_with fail
      refine (callWhoRuns A c xs p T _ w1.heap.size HBa.out.size (by omega) (by omega) (by omega) (HX.out.below HBa.out)).mono ?_
      rintro e w2 ⟨rfl, hb2⟩
      rw [H1.out]
      have HB2 := Lib.hid (HBa.out.trans (hb2.mono HBa.out.size))
      clear hb2
      go_wp2_with fail
      refine (callSWhoRuns A c xs p T _ w1.heap.size HB2.out.size (by omega) (by omega) (by omega) (HX.out.below HB2.out)).mono ?_
      rintro e w3 ⟨rfl, hb3⟩
      rw [H1.out]
      have HB3 := Lib.hid (HB2.out.trans (hb3.mono HB2.out.size))
      clear hb3
      go_wp2_with fail
      refine (callFrameTicks A c xs p _ w1.heap.size HB3.out.size (by omega) (by omega) (by omega) (HX.out.below HB3.out)).mono ?_
      rintro e w4 ⟨rfl, hb4⟩
      rw [H3.out]
      have HB4 := Lib.hid (HB3.out.trans (hb4.mono HB3.out.size))
      clear hb4
      by_cases hbig : 1000000 < T + L
      · have H5 : Hid (whoRuns xs p ((T : Int) + (L : Int)) = -2) := by
          show _ = _
          unfold whoRuns
          rw [show tkOk ((T : Int) + (L : Int)) = false from inB_not.2 (by omega), Bool.and_false]; rfl
        have hb0 : decide ((T : Int) + (L : Int) > 1000000) = true := decide_eq_true (by omega)
        have ha5 : ((-2 : Int) == a) = false := by rw [beq_eq_false_iff_ne]; omega
        go_wp2_with fail
        refine (callWhoRuns A c xs p ((T : Int) + (L : Int)) _ w1.heap.size HB4.out.size (by omega) (by omega) (by omega) (HX.out.below HB4.out)).mono ?_
        rintro e w5 ⟨rfl, hb5⟩
        rw [H5.out]
        have HB5 := Lib.hid (HB4.out.trans (hb5.mono HB4.out.size))
        clear hb5
        obtain ⟨b, off, rfl, hbB, g1, g2⟩ := (HX.out.below HB5.out).at2 (k := 0) rfl hl1 rfl
        simp only [Nat.zero_mul, Nat.add_zero, Nat.zero_add] at g1 g2
        have k1 := cell_regrown g1
        have C2 : QCall Try.prog 20 #[.slice (some ⟨b, off, none⟩) xs.length c, .int .i64 p, .int .i64 0] w5 (.int .i64 xs[0].who) := QCall.of fun W' hb => by
          have := callWhoRuns (some ⟨b, off, none⟩) c xs p 0 W' w1.heap.size (Nat.le_trans HB5.out.size hb.size) (by omega) (by omega) (by omega) (HX.out.below (HB5.out.trans (hb.mono HB5.out.size)))
          rw [H2.out] at this
          exact this
        have C1 : QCall Try.prog 16 #[.slice (some ⟨b, off, none⟩) xs.length c, .int .i64 p] w5 (.int .i64 L) := QCall.of fun W' hb => by
          have := callFrameTicks (some ⟨b, off, none⟩) c xs p W' w1.heap.size (Nat.le_trans HB5.out.size hb.size) (by omega) (by omega) (by omega) (HX.out.below (HB5.out.trans (hb.mono HB5.out.size)))
          rw [H3.out] at this
          exact this
        have hw1 : IntKind.i64.wrap ((T : Int) + (L : Int)) = (T : Int) + (L : Int) := by rw [IntKind.wrap_i64]; omega
        have hi3 : (0 : Int) < (xs.length : Int) := by omega
        clear g1 g2
        go_upto_region 10 with (fail)
        refine wp_region_quiet_below (by kernel_rfl) (by kernel_rfl) ?_
        repeat (first | go_big_quiet_step ((first | (go_at_call 16; exact C1 _ _) | (go_at_call 20; exact C2 _ _))) | quiet_step ((first | (go_at_call 16; exact C1 _ _) | (go_at_call 20; exact C2 _ _))))
        refine wpQuiet_nil ?_
        intro w6 hw6
        have HB6 := Lib.hid (HB5.out.trans ((below_of_regrown hw6).mono HB5.out.size))
        clear hw6 C1 C2 k1
        go_wp2
        go_ret
        exact ⟨rfl, bel_trans HB1.out HB6.out⟩
      · have H5 : Hid (whoRuns xs p ((T : Int) + (L : Int)) = a) := by
          show _ = _
          unfold whoRuns
          rw [HS.out, show tkOk ((T : Int) + (L : Int)) = true from inB_iff.2 ⟨by omega, by omega⟩, show ((T : Int) + (L : Int)).toNat = T + (fr xs).length by rw [← HL.out]; omega, whoAt_add, ← HA.out]; rfl
        go_wp2_with fail
        refine (callWhoRuns A c xs p ((T : Int) + (L : Int)) _ w1.heap.size HB4.out.size (by omega) (by omega) (by omega) (HX.out.below HB4.out)).mono ?_
        rintro e w5 ⟨rfl, hb5⟩
        rw [H5.out]
        have HB5 := Lib.hid (HB4.out.trans (hb5.mono HB4.out.size))
        clear hb5
        obtain ⟨b, off, rfl, hbB, g1, g2⟩ := (HX.out.below HB5.out).at2 (k := 0) rfl hl1 rfl
        simp only [Nat.zero_mul, Nat.add_zero, Nat.zero_add] at g1 g2
        have k1 := cell_regrown g1
        have C2 : QCall Try.prog 20 #[.slice (some ⟨b, off, none⟩) xs.length c, .int .i64 p, .int .i64 0] w5 (.int .i64 xs[0].who) := QCall.of fun W' hb => by
          have := callWhoRuns (some ⟨b, off, none⟩) c xs p 0 W' w1.heap.size (Nat.le_trans HB5.out.size hb.size) (by omega) (by omega) (by omega) (HX.out.below (HB5.out.trans (hb.mono HB5.out.size)))
          rw [H2.out] at this
          exact this
        have C1 : QCall Try.prog 16 #[.slice (some ⟨b, off, none⟩) xs.length c, .int .i64 p] w5 (.int .i64 L) := QCall.of fun W' hb => by
          have := callFrameTicks (some ⟨b, off, none⟩) c xs p W' w1.heap.size (Nat.le_trans HB5.out.size hb.size) (by omega) (by omega) (by omega) (HX.out.below (HB5.out.trans (hb.mono HB5.out.size)))
          rw [H3.out] at this
          exact this
        have hw1 : IntKind.i64.wrap ((T : Int) + (L : Int)) = (T : Int) + (L : Int) := by rw [IntKind.wrap_i64]; omega
        have hi3 : (0 : Int) < (xs.length : Int) := by omega
        clear g1 g2
        go_upto_region 10 with (fail)
        refine wp_region_quiet_below (by kernel_rfl) (by kernel_rfl) ?_
        repeat (first | go_big_quiet_step ((first | (go_at_call 16; exact C1 _ _) | (go_at_call 20; exact C2 _ _))) | quiet_step ((first | (go_at_call 16; exact C1 _ _) | (go_at_call 20; exact C2 _ _))))
        refine wpQuiet_nil ?_
        intro w6 hw6
        have HB6 := Lib.hid (HB5.out.trans ((below_of_regrown hw6).mono HB5.out.size))
        clear hw6 C1 C2 k1
        go_wp2
        go_ret
        exact ⟨rfl, bel_trans HB1.out HB6.out⟩
  · have hl' : 1048576 < bs.length := by omega
    clear hr hby hl
    go_enter Try.func6, Try.ntmps6
    go_wp2
    go_ret
    exact ⟨rfl, Below.refl _ _⟩
end Go.Proofs.Ytbjhekkebnkejaa
