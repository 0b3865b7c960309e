/- The walk of the law FnFrameNext: true for every input, and nothing that was there is written. -/
import Derived.Test.YtbjhekkebnkejaaSlr
import Derived.Test.YtbjhekkebnkejaaDrs
import Derived.Test.YtbjhekkebnkejaaFrl
namespace Go.Proofs.Ytbjhekkebnkejaa
open Go.RowKit Go.Sort

set_option maxRecDepth 100000 in
set_option maxHeartbeats 3200000 in
theorem walkFnFrameNext (A : Option Addr) (c : Nat) (bs : List Int) (w : World) (hc : bs.length ≤ c) (hr : Rd eU8 w w.heap.size A bs) (hby : ∀ x ∈ bs, 0 ≤ x ∧ x ≤ 255) :
    Calls Try.prog 7 #[.slice A bs.length c] w fun e w' => e = .returned (.bool true) ∧ Below w.heap.size w w' := by
  by_cases hl : bs.length ≤ 1048576
  · have HC := Lib.hid (callDrawFrameOf A c bs w hc hl hr hby)
    clear hr hby
    go_enter Try.func7, Try.ntmps7
    go_wp2_with fail
    refine HC.out.mono ?_
    rintro e w1 ⟨A, c, xs, p, t, rfl, hrd, hlen, hp1, hp2, ht1, ht2, hb1⟩
    have HB1 := Lib.hid hb1
    clear hb1 HC
    have HX := Lib.hid hrd
    clear hrd
    have HBa := Lib.hid (Below.refl w1.heap.size w1)
    have hv : (sltsOk xs p && tkOk t) = false ∨ (sltsOk xs p = true ∧ tkOk t = true) := by
      cases h1 : sltsOk xs p <;> cases h3 : tkOk t <;> simp
    rcases hv with hno | ⟨hs, ht⟩
    · have H1 : Hid (frameOf1 xs p t = -1) := by show _ = _; unfold frameOf1; rw [hno]; rfl
      have H2 : Hid (frameOf2 xs p t = -1) := by show _ = _; unfold frameOf2; rw [hno]; rfl
      clear hno
      go_wp2_with fail
      refine (callFrameOf A c xs p t _ w1.heap.size HBa.out.size (by omega) (by omega) (by omega) (HX.out.below HBa.out)).mono ?_
      rintro e w2 ⟨rfl, hb2⟩
      rw [H1.out, H2.out]
      have HB2 := Lib.hid (HBa.out.trans (hb2.mono HBa.out.size))
      clear hb2
      go_wp2_with fail
      refine (callSFrameOf A c xs p t _ w1.heap.size HB2.out.size (by omega) (by omega) (by omega) (HX.out.below HB2.out)).mono ?_
      rintro e w3 ⟨rfl, hb3⟩
      rw [H1.out, H2.out]
      have HB3 := Lib.hid (HB2.out.trans (hb3.mono HB2.out.size))
      clear hb3
      go_wp2_with fail
      refine (callFrameTicks A c xs p _ w1.heap.size HB3.out.size (by omega) (by omega) (by omega) (HX.out.below HB3.out)).mono ?_
      rintro e w4 ⟨rfl, hb4⟩
      have HB4 := Lib.hid (HB3.out.trans (hb4.mono HB3.out.size))
      clear hb4
      go_wp2_with fail
      refine (callAlive _).mono ?_
      rintro e w9 ⟨rfl, hb9⟩
      go_wp2
      go_ret
      exact ⟨rfl, bel_trans HB1.out (bel_trans HB4.out hb9)⟩
    · obtain ⟨h0, h1⟩ := inB_iff.1 ht
      obtain ⟨T, rfl⟩ := Int.eq_ofNat_of_zero_le h0
      have hbd := fr_bd hs
      have HS := Lib.hid hs
      obtain ⟨L, hL⟩ : ∃ L, L = (fr xs).length := ⟨_, rfl⟩
      rw [← hL] at hbd
      obtain ⟨d, hd⟩ : ∃ d, d = T / L := ⟨_, rfl⟩
      obtain ⟨q, hq⟩ : ∃ q, q = d * L := ⟨_, rfl⟩
      have hd1 : d ≤ 1000000 := by have := Nat.div_le_self T L; omega
      have hq1 : q ≤ T := by rw [hq, hd]; exact Nat.div_mul_le_self T L
      have hq2 : T < q + L := by
        have h1 := Nat.div_add_mod T L
        have h2 := Nat.mod_lt T (show 0 < L by omega)
        have h3 : L * (T / L) = T / L * L := Nat.mul_comm _ _
        rw [hq, hd]; omega
      have H1 : Hid (frameOf1 xs p (T : Int) = (d : Int)) := by
        show _ = _
        unfold frameOf1
        rw [hs, ht, hd, hL]; rfl
      have H2 : Hid (frameOf2 xs p (T : Int) = (q : Int)) := by
        show _ = _
        unfold frameOf2
        rw [hs, ht, hq, hd, hL]; rfl
      have H3 : Hid (frameTicks xs p = (L : Int)) := by
        show _ = _
        unfold frameTicks
        rw [hs, hL]; rfl
      have hdL : (d : Int) * (L : Int) = (q : Int) := by rw [hq]; push_cast; rfl
      have n1 : ((d : Int) != (d : Int)) = false := by simp
      have n2 : ((q : Int) != (q : Int)) = false := by simp
      have n3 : ((q : Int) == (q : Int)) = true := by simp
      have hb0 : decide ((T : Int) < (q : Int) + (L : Int)) = true := decide_eq_true (by omega)
      have HD := Lib.hid hd
      have HQ := Lib.hid hq
      have HL := Lib.hid hL
      clear hs ht hd hq hL
      go_wp2_with fail
      refine (callFrameOf A c xs p T _ w1.heap.size HBa.out.size (by omega) (by omega) (by omega) (HX.out.below HBa.out)).mono ?_
      rintro e w2 ⟨rfl, hb2⟩
      rw [H1.out, H2.out]
      have HB2 := Lib.hid (HBa.out.trans (hb2.mono HBa.out.size))
      clear hb2
      go_wp2_with fail
      refine (callSFrameOf A c xs p T _ w1.heap.size HB2.out.size (by omega) (by omega) (by omega) (HX.out.below HB2.out)).mono ?_
      rintro e w3 ⟨rfl, hb3⟩
      rw [H1.out, H2.out]
      have HB3 := Lib.hid (HB2.out.trans (hb3.mono HB2.out.size))
      clear hb3
      go_wp2_with fail
      refine (callFrameTicks A c xs p _ w1.heap.size HB3.out.size (by omega) (by omega) (by omega) (HX.out.below HB3.out)).mono ?_
      rintro e w4 ⟨rfl, hb4⟩
      rw [H3.out]
      have HB4 := Lib.hid (HB3.out.trans (hb4.mono HB3.out.size))
      clear hb4
      by_cases hbig : 1000000 < T + L
      · have hb0 : decide ((T : Int) + (L : Int) > 1000000) = true := decide_eq_true (by omega)
        go_wp2_with fail
        refine (callAlive _).mono ?_
        rintro e w9 ⟨rfl, hb9⟩
        go_wp2
        go_ret
        exact ⟨rfl, bel_trans HB1.out (bel_trans HB4.out hb9)⟩
      · have H4 : Hid (frameOf1 xs p ((T : Int) + (L : Int)) = (d : Int) + 1) := by
          show _ = _
          unfold frameOf1
          rw [HS.out, show tkOk ((T : Int) + (L : Int)) = true from inB_iff.2 ⟨by omega, by omega⟩, ← HL.out, show ((T : Int) + (L : Int)).toNat = T + L by omega, Nat.add_div_right _ (by omega), ← HD.out]; rfl
        have H5 : Hid (frameOf2 xs p ((T : Int) + (L : Int)) = (q : Int) + (L : Int)) := by
          show _ = _
          unfold frameOf2
          rw [HS.out, show tkOk ((T : Int) + (L : Int)) = true from inB_iff.2 ⟨by omega, by omega⟩, ← HL.out, show ((T : Int) + (L : Int)).toNat = T + L by omega, Nat.add_div_right _ (by omega), ← HD.out, Nat.succ_mul, ← HQ.out]; rfl
        have n4 : ((d : Int) + 1 == (d : Int) + 1) = true := by simp
        have n5 : ((q : Int) + (L : Int) == (q : Int) + (L : Int)) = true := by simp
        have HTL : Hid (((T + L : Nat) : Int) = (T : Int) + (L : Int)) := by show _ = _; omega
        have SL := callSlotOfYes A c xs p (T + L) (by omega)
        rw [HTL.out] at SL
        have SLH := Lib.hid SL
        clear SL
        go_wp2_with fail
        refine (callFrameOf A c xs p ((T : Int) + (L : Int)) _ w1.heap.size HB4.out.size (by omega) (by omega) (by omega) (HX.out.below HB4.out)).mono ?_
        rintro e w5 ⟨rfl, hb5⟩
        rw [H4.out, H5.out]
        have HB5 := Lib.hid (HB4.out.trans (hb5.mono HB4.out.size))
        clear hb5
        go_wp2_with fail
        refine (callSlotOfYes A c xs p T (by omega) _ w1.heap.size HB5.out.size (by omega) (by omega) (by omega) HS.out (HX.out.below HB5.out)).mono ?_
        rintro e w6 ⟨⟨k, r, hsl, rfl⟩, hb6⟩
        have HB6 := Lib.hid (HB5.out.trans (hb6.mono HB5.out.size))
        clear hb6
        go_wp2_with fail
        refine (SLH.out _ w1.heap.size HB6.out.size (by omega) (by omega) (by omega) HS.out (HX.out.below HB6.out)).mono ?_
        rintro e w7 ⟨⟨k', r', hsl', rfl⟩, hb7⟩
        have HB7 := Lib.hid (HB6.out.trans (hb7.mono HB6.out.size))
        clear hb7
        have hmod : (T + L) % (fr xs).length = T % (fr xs).length := by rw [← HL.out, Nat.add_mod_right]
        rw [hmod] at hsl'
        obtain ⟨rfl, rfl⟩ := slot_same hsl hsl'
        have n6 : ((k : Int) == (k : Int)) = true := by simp
        have n7 : ((xs[k]'hsl.1).ticks - (r : Int) == (xs[k]'hsl.1).ticks - (r : Int)) = true := by simp
        clear hmod
        go_wp2
        go_ret
        exact ⟨rfl, bel_trans HB1.out HB7.out⟩
  · have hl' : 1048576 < bs.length := by omega
    clear hr hby hl
    go_enter Try.func7, Try.ntmps7
    go_wp2
    go_ret
    exact ⟨rfl, Below.refl _ _⟩
end Go.Proofs.Ytbjhekkebnkejaa
