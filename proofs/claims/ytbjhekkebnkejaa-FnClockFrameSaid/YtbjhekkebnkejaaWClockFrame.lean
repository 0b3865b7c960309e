/- The walk of the law FnClockFrame: true for every input, and nothing that was there is written. -/
import Derived.Test.YtbjhekkebnkejaaSlr
import Derived.Test.YtbjhekkebnkejaaDrs
import Derived.Test.YtbjhekkebnkejaaFrl
namespace Go.Proofs.Ytbjhekkebnkejaa
open Go.RowKit Go.Sort

set_option maxRecDepth 100000 in
set_option maxHeartbeats 3200000 in
theorem walkFnClockFrame (A : Option Addr) (c : Nat) (bs : List Int) (w : World) (hc : bs.length ≤ c) (hr : Rd eU8 w w.heap.size A bs) (hby : ∀ x ∈ bs, 0 ≤ x ∧ x ≤ 255) :
    Calls Try.prog 12 #[.slice A bs.length c] w fun e w' => e = .returned (.bool true) ∧ Below w.heap.size w w' := by
  by_cases hl : bs.length ≤ 1048576
  · have HC := Lib.hid (callDrawOwnTicks A c bs w hc hl hr hby)
    clear hr hby
    go_enter Try.func12, Try.ntmps12
    go_wp2_with fail
    refine HC.out.mono ?_
    rintro e w1 ⟨A, c, xs, p, n, t, rfl, hrd, hlen, hp1, hp2, hn1, hn2, ht1, ht2, hb1⟩
    have HB1 := Lib.hid hb1
    clear hb1 HC
    have HX := Lib.hid hrd
    clear hrd
    have HBa := Lib.hid (Below.refl w1.heap.size w1)
    have hv : (sltsOk xs p && (inB n 0 (p - 1) && tkOk t)) = false ∨ (sltsOk xs p = true ∧ inB n 0 (p - 1) = true ∧ tkOk t = true) := by
      cases h1 : sltsOk xs p <;> cases h2 : inB n 0 (p - 1) <;> cases h3 : tkOk t <;> simp
    rcases hv with hno | ⟨hs, hn, ht⟩
    · have H1 : Hid (ownTicks xs p n t = -1) := by show _ = _; unfold ownTicks; rw [hno]; rfl
      clear hno
      go_wp2_with fail
      refine (callOwnTicks A c xs p n t _ w1.heap.size HBa.out.size (by omega) (by omega) (by omega) (HX.out.below HBa.out)).mono ?_
      rintro e w2 ⟨rfl, hb2⟩
      rw [H1.out]
      have HB2 := Lib.hid (HBa.out.trans (hb2.mono HBa.out.size))
      clear hb2
      go_wp2_with fail
      refine (callSOwnTicks A c xs p n t _ w1.heap.size HB2.out.size (by omega) (by omega) (by omega) (HX.out.below HB2.out)).mono ?_
      rintro e w3 ⟨rfl, hb3⟩
      rw [H1.out]
      have HB3 := Lib.hid (HB2.out.trans (hb3.mono HB2.out.size))
      clear hb3
      go_wp2_with fail
      refine (callAlive _).mono ?_
      rintro e w9 ⟨rfl, hb9⟩
      go_wp2
      go_ret
      exact ⟨rfl, bel_trans HB1.out (bel_trans HB3.out hb9)⟩
    · obtain ⟨h0, h1⟩ := inB_iff.1 ht
      obtain ⟨T, rfl⟩ := Int.eq_ofNat_of_zero_le h0
      have hbd := fr_bd hs
      have HS := Lib.hid hs
      obtain ⟨L, hL⟩ : ∃ L, L = (fr xs).length := ⟨_, rfl⟩
      rw [← hL] at hbd
      obtain ⟨a, ha⟩ : ∃ a : Nat, a = ownAt (fr xs) n T := ⟨_, rfl⟩
      have hle : a ≤ T := by rw [ha]; exact ownAt_le (by omega) n T
      have H1 : Hid (ownTicks xs p n (T : Int) = (a : Int)) := by
        show _ = _
        unfold ownTicks
        rw [hs, hn, ht, ha]; rfl
      have H3 : Hid (frameTicks xs p = (L : Int)) := by
        show _ = _
        unfold frameTicks
        rw [hs, hL]; rfl
      have HA := Lib.hid ha
      have HN := Lib.hid hn
      have HL := Lib.hid hL
      have hnn : ((a : Int) != (a : Int)) = false := by simp
      clear ha hs hn ht hL
      obtain ⟨s, hs⟩ : ∃ s, s = (fr xs).count n := ⟨_, rfl⟩
      have hs1 : s ≤ L := by rw [hs, HL.out]; exact List.count_le_length
      have H4 : Hid (shareOf xs p n = (s : Int)) := by
        show _ = _
        unfold shareOf
        rw [HS.out, HN.out, hs]; rfl
      have HSS := Lib.hid hs
      have has : ((a : Int) + (s : Int) == (a : Int) + (s : Int)) = true := by simp
      clear hs
      go_wp2_with fail
      refine (callOwnTicks A c xs p n T _ w1.heap.size HBa.out.size (by omega) (by omega) (by omega) (HX.out.below HBa.out)).mono ?_
      rintro e w2 ⟨rfl, hb2⟩
      rw [H1.out]
      have HB2 := Lib.hid (HBa.out.trans (hb2.mono HBa.out.size))
      clear hb2
      go_wp2_with fail
      refine (callSOwnTicks A c xs p n T _ w1.heap.size HB2.out.size (by omega) (by omega) (by omega) (HX.out.below HB2.out)).mono ?_
      rintro e w3 ⟨rfl, hb3⟩
      rw [H1.out]
      have HB3 := Lib.hid (HB2.out.trans (hb3.mono HB2.out.size))
      clear hb3
      go_wp2_with fail
      refine (callFrameTicks A c xs p _ w1.heap.size HB3.out.size (by omega) (by omega) (by omega) (HX.out.below HB3.out)).mono ?_
      rintro e w4 ⟨rfl, hb4⟩
      rw [H3.out]
      have HB4 := Lib.hid (HB3.out.trans (hb4.mono HB3.out.size))
      clear hb4
      by_cases hbig : 1000000 < T + L
      · have H5 : Hid (ownTicks xs p n ((T : Int) + (L : Int)) = -1) := by
          show _ = _
          unfold ownTicks
          rw [show tkOk ((T : Int) + (L : Int)) = false from inB_not.2 (by omega), Bool.and_false, Bool.and_false]; rfl
        have hb0 : decide ((T : Int) + (L : Int) > 1000000) = true := decide_eq_true (by omega)
        go_wp2_with fail
        refine (callOwnTicks A c xs p n ((T : Int) + (L : Int)) _ w1.heap.size HB4.out.size (by omega) (by omega) (by omega) (HX.out.below HB4.out)).mono ?_
        rintro e w5 ⟨rfl, hb5⟩
        rw [H5.out]
        have HB5 := Lib.hid (HB4.out.trans (hb5.mono HB4.out.size))
        clear hb5
        go_wp2_with fail
        refine (callFrameTicks A c xs p _ w1.heap.size HB5.out.size (by omega) (by omega) (by omega) (HX.out.below HB5.out)).mono ?_
        rintro e w6 ⟨rfl, hb6⟩
        rw [H3.out]
        have HB6 := Lib.hid (HB5.out.trans (hb6.mono HB5.out.size))
        clear hb6
        go_wp2
        go_ret
        exact ⟨rfl, bel_trans HB1.out HB6.out⟩
      · have H5 : Hid (ownTicks xs p n ((T : Int) + (L : Int)) = (a : Int) + (s : Int)) := by
          show _ = _
          unfold ownTicks
          rw [HS.out, HN.out, show tkOk ((T : Int) + (L : Int)) = true from inB_iff.2 ⟨by omega, by omega⟩, show ((T : Int) + (L : Int)).toNat = T + (fr xs).length by rw [← HL.out]; omega, ownAt_frame (by rw [← HL.out]; omega), ← HA.out, ← HSS.out]; rfl
        have hne1 : ((a : Int) + (s : Int) == -1) = false := by rw [beq_eq_false_iff_ne]; omega
        go_wp2_with fail
        refine (callOwnTicks A c xs p n ((T : Int) + (L : Int)) _ w1.heap.size HB4.out.size (by omega) (by omega) (by omega) (HX.out.below HB4.out)).mono ?_
        rintro e w5 ⟨rfl, hb5⟩
        rw [H5.out]
        have HB5 := Lib.hid (HB4.out.trans (hb5.mono HB4.out.size))
        clear hb5
        go_wp2_with fail
        refine (callShareOf A c xs p n _ w1.heap.size HB5.out.size (by omega) (by omega) (by omega) (HX.out.below HB5.out)).mono ?_
        rintro e w6 ⟨rfl, hb6⟩
        rw [H4.out]
        have HB6 := Lib.hid (HB5.out.trans (hb6.mono HB5.out.size))
        clear hb6
        go_wp2
        go_ret
        exact ⟨rfl, bel_trans HB1.out HB6.out⟩
  · have hl' : 1048576 < bs.length := by omega
    clear hr hby hl
    go_enter Try.func12, Try.ntmps12
    go_wp2
    go_ret
    exact ⟨rfl, Below.refl _ _⟩
end Go.Proofs.Ytbjhekkebnkejaa
