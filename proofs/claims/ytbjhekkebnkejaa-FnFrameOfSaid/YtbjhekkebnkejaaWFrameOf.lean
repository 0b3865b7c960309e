/- The walk of the law FnFrameOf: true for every input, and nothing that was there is written. -/
import Derived.Test.YtbjhekkebnkejaaSlr
import Derived.Test.YtbjhekkebnkejaaDrs
import Derived.Test.YtbjhekkebnkejaaFrl
namespace Go.Proofs.Ytbjhekkebnkejaa
open Go.RowKit Go.Sort

set_option maxRecDepth 100000 in
set_option maxHeartbeats 3200000 in
theorem walkFnFrameOf (A : Option Addr) (c : Nat) (bs : List Int) (w : World) (hc : bs.length ≤ c) (hr : Rd eU8 w w.heap.size A bs) (hby : ∀ x ∈ bs, 0 ≤ x ∧ x ≤ 255) :
    Calls Try.prog 5 #[.slice A bs.length c] w fun e w' => e = .returned (.bool true) ∧ Below w.heap.size w w' := by
  by_cases hl : bs.length ≤ 1048576
  · have HC := Lib.hid (callDrawFrameOf A c bs w hc hl hr hby)
    clear hr hby
    go_enter Try.func5, Try.ntmps5
    go_wp2_with fail
    refine HC.out.mono ?_
    rintro e w1 ⟨A, c, xs, p, t, rfl, hrd, hlen, hp1, hp2, ht1, ht2, hb1⟩
    have HB1 := Lib.hid hb1
    clear hb1 HC
    have HX := Lib.hid hrd
    clear hrd
    have HBa := Lib.hid (Below.refl w1.heap.size w1)
    have hv : (sltsOk xs p && tkOk t) = false ∨ (sltsOk xs p = true ∧ tkOk t = true) := by
      cases h1 : sltsOk xs p <;> cases h3 : tkOk t <;> simp
    rcases hv with hno | ⟨hs, ht⟩
    · have H1 : Hid (frameOf1 xs p t = -1) := by show _ = _; unfold frameOf1; rw [hno]; rfl
      have H2 : Hid (frameOf2 xs p t = -1) := by show _ = _; unfold frameOf2; rw [hno]; rfl
      clear hno
      go_wp2_with fail
      refine (callFrameOf A c xs p t _ w1.heap.size HBa.out.size (by omega) (by omega) (by omega) (HX.out.below HBa.out)).mono ?_
      rintro e w2 ⟨rfl, hb2⟩
      rw [H1.out, H2.out]
      have HB2 := Lib.hid (HBa.out.trans (hb2.mono HBa.out.size))
      clear hb2
      go_wp2_with fail
      refine (callSFrameOf A c xs p t _ w1.heap.size HB2.out.size (by omega) (by omega) (by omega) (HX.out.below HB2.out)).mono ?_
      rintro e w3 ⟨rfl, hb3⟩
      rw [H1.out, H2.out]
      have HB3 := Lib.hid (HB2.out.trans (hb3.mono HB2.out.size))
      clear hb3
      go_wp2_with fail
      refine (callAlive _).mono ?_
      rintro e w9 ⟨rfl, hb9⟩
      go_wp2
      go_ret
      exact ⟨rfl, bel_trans HB1.out (bel_trans HB3.out hb9)⟩
    · obtain ⟨h0, h1⟩ := inB_iff.1 ht
      obtain ⟨T, rfl⟩ := Int.eq_ofNat_of_zero_le h0
      have hbd := fr_bd hs
      have HS := Lib.hid hs
      obtain ⟨L, hL⟩ : ∃ L, L = (fr xs).length := ⟨_, rfl⟩
      rw [← hL] at hbd
      obtain ⟨d, hd⟩ : ∃ d, d = T / L := ⟨_, rfl⟩
      obtain ⟨q, hq⟩ : ∃ q, q = d * L := ⟨_, rfl⟩
      have hd1 : d ≤ 1000000 := by have := Nat.div_le_self T L; omega
      have hq1 : q ≤ T := by rw [hq, hd]; exact Nat.div_mul_le_self T L
      have hq2 : T < q + L := by
        have h1 := Nat.div_add_mod T L
        have h2 := Nat.mod_lt T (show 0 < L by omega)
        have h3 : L * (T / L) = T / L * L := Nat.mul_comm _ _
        rw [hq, hd]; omega
      have H1 : Hid (frameOf1 xs p (T : Int) = (d : Int)) := by
        show _ = _
        unfold frameOf1
        rw [hs, ht, hd, hL]; rfl
      have H2 : Hid (frameOf2 xs p (T : Int) = (q : Int)) := by
        show _ = _
        unfold frameOf2
        rw [hs, ht, hq, hd, hL]; rfl
      have H3 : Hid (frameTicks xs p = (L : Int)) := by
        show _ = _
        unfold frameTicks
        rw [hs, hL]; rfl
      have hdL : (d : Int) * (L : Int) = (q : Int) := by rw [hq]; push_cast; rfl
      have n1 : ((d : Int) != (d : Int)) = false := by simp
      have n2 : ((q : Int) != (q : Int)) = false := by simp
      have n3 : ((q : Int) == (q : Int)) = true := by simp
      have hb0 : decide ((T : Int) < (q : Int) + (L : Int)) = true := decide_eq_true (by omega)
      have HD := Lib.hid hd
      have HQ := Lib.hid hq
      have HL := Lib.hid hL
      clear hs ht hd hq hL
      go_wp2_with fail
      refine (callFrameOf A c xs p T _ w1.heap.size HBa.out.size (by omega) (by omega) (by omega) (HX.out.below HBa.out)).mono ?_
      rintro e w2 ⟨rfl, hb2⟩
      rw [H1.out, H2.out]
      have HB2 := Lib.hid (HBa.out.trans (hb2.mono HBa.out.size))
      clear hb2
      go_wp2_with fail
      refine (callSFrameOf A c xs p T _ w1.heap.size HB2.out.size (by omega) (by omega) (by omega) (HX.out.below HB2.out)).mono ?_
      rintro e w3 ⟨rfl, hb3⟩
      rw [H1.out, H2.out]
      have HB3 := Lib.hid (HB2.out.trans (hb3.mono HB2.out.size))
      clear hb3
      go_wp2_with fail
      refine (callFrameTicks A c xs p _ w1.heap.size HB3.out.size (by omega) (by omega) (by omega) (HX.out.below HB3.out)).mono ?_
      rintro e w4 ⟨rfl, hb4⟩
      rw [H3.out]
      have HB4 := Lib.hid (HB3.out.trans (hb4.mono HB3.out.size))
      clear hb4
      go_wp2
      go_ret
      exact ⟨rfl, bel_trans HB1.out HB4.out⟩
  · have hl' : 1048576 < bs.length := by omega
    clear hr hby hl
    go_enter Try.func5, Try.ntmps5
    go_wp2
    go_ret
    exact ⟨rfl, Below.refl _ _⟩
end Go.Proofs.Ytbjhekkebnkejaa
