/- The walk of the law FnFrameTicks: true for every input, and nothing that was there is written. -/
import Derived.Test.YtbjhekkebnkejaaSlr
import Derived.Test.YtbjhekkebnkejaaDrs
import Derived.Test.YtbjhekkebnkejaaFrl
namespace Go.Proofs.Ytbjhekkebnkejaa
open Go.RowKit Go.Sort

set_option maxRecDepth 100000 in
set_option maxHeartbeats 3200000 in
theorem walkFnFrameTicks (A : Option Addr) (c : Nat) (bs : List Int) (w : World) (hc : bs.length ≤ c) (hr : Rd eU8 w w.heap.size A bs) (hby : ∀ x ∈ bs, 0 ≤ x ∧ x ≤ 255) :
    Calls Try.prog 3 #[.slice A bs.length c] w fun e w' => e = .returned (.bool true) ∧ Below w.heap.size w w' := by
  by_cases hl : bs.length ≤ 1048576
  · have HC := Lib.hid (callDrawFrameTicks A c bs w hc hl hr hby)
    clear hr hby
    go_enter Try.func3, Try.ntmps3
    go_wp2_with fail
    refine HC.out.mono ?_
    rintro e w1 ⟨A, c, xs, p, rfl, hrd, hlc, hlen, hp1, hp2, hb1⟩
    have HB1 := Lib.hid hb1
    clear hb1 HC
    have HX := Lib.hid hrd
    clear hrd
    have HBa := Lib.hid (Below.refl w1.heap.size w1)
    cases hs : sltsOk xs p
    · have H1 : Hid (frameTicks xs p = -1) := by show _ = _; unfold frameTicks; rw [hs]; rfl
      clear hs
      go_wp2_with fail
      refine (callFrameTicks A c xs p _ w1.heap.size HBa.out.size (by omega) (by omega) (by omega) (HX.out.below HBa.out)).mono ?_
      rintro e w2 ⟨rfl, hb2⟩
      rw [H1.out]
      have HB2 := Lib.hid (HBa.out.trans (hb2.mono HBa.out.size))
      clear hb2
      go_wp2_with fail
      refine (callSFrameTicks A c xs p _ w1.heap.size HB2.out.size (by omega) (by omega) (by omega) (HX.out.below HB2.out)).mono ?_
      rintro e w3 ⟨rfl, hb3⟩
      rw [H1.out]
      have HB3 := Lib.hid (HB2.out.trans (hb3.mono HB2.out.size))
      clear hb3
      go_wp2_with fail
      refine (callAlive _).mono ?_
      rintro e w9 ⟨rfl, hb9⟩
      go_wp2
      go_ret
      exact ⟨rfl, bel_trans HB1.out (bel_trans HB3.out hb9)⟩
    · have hbd := fr_bd hs
      have hlx := (sltsOk_iff.1 hs).2.1
      obtain ⟨L, hL⟩ : ∃ L, L = (fr xs).length := ⟨_, rfl⟩
      rw [← hL] at hbd
      have H1 : Hid (frameTicks xs p = (L : Int)) := by
        show _ = _
        unfold frameTicks
        rw [hs, hL]; rfl
      have HS := Lib.hid hs
      have hnn : ((L : Int) != (L : Int)) = false := by simp
      have hge : decide ((L : Int) ≥ (xs.length : Int)) = true := decide_eq_true (by omega)
      clear hs hL
      go_wp2_with fail
      refine (callFrameTicks A c xs p _ w1.heap.size HBa.out.size (by omega) (by omega) (by omega) (HX.out.below HBa.out)).mono ?_
      rintro e w2 ⟨rfl, hb2⟩
      rw [H1.out]
      have HB2 := Lib.hid (HBa.out.trans (hb2.mono HBa.out.size))
      clear hb2
      go_wp2_with fail
      refine (callSFrameTicks A c xs p _ w1.heap.size HB2.out.size (by omega) (by omega) (by omega) (HX.out.below HB2.out)).mono ?_
      rintro e w3 ⟨rfl, hb3⟩
      rw [H1.out]
      have HB3 := Lib.hid (HB2.out.trans (hb3.mono HB2.out.size))
      clear hb3
      obtain ⟨h, hh⟩ : ∃ h, h = xs.length / 2 := ⟨_, rfl⟩
      have hh1 : 2 * h ≤ xs.length := by omega
      have hh2 : xs.length ≤ 2 * h + 1 := by omega
      have hdiv : (xs.length : Int) / 2 = (h : Int) := by omega
      clear hh
      by_cases h0 : h = 0
      · subst h0
        go_upto_region 10 with (fail)
        go_quiet (fail)
        go_wp2
        go_ret
        exact ⟨rfl, bel_trans HB1.out (below_drewN HB3.out _)⟩
      · have hz : ((h : Int) == 0) = false := by rw [beq_eq_false_iff_ne]; omega
        obtain ⟨b, off, rfl, hbB, _⟩ := HX.out (by intro e; simp [e] at hlx)
        have hlt : h < xs.length := by omega
        obtain ⟨L1, hL1⟩ : ∃ L1, L1 = (fr (xs.take h)).length := ⟨_, rfl⟩
        obtain ⟨L2, hL2⟩ : ∃ L2, L2 = (fr (xs.drop h)).length := ⟨_, rfl⟩
        have E1 : Hid (frameTicks (xs.take h) p = (L1 : Int)) := by
          show _ = _
          unfold frameTicks
          rw [sltsOk_take HS.out (by omega), hL1]; rfl
        have E2 : Hid (frameTicks (xs.drop h) p = (L2 : Int)) := by
          show _ = _
          unfold frameTicks
          rw [sltsOk_drop HS.out hlt, hL2]; rfl
        have hsum : L = L1 + L2 := by
          have := frameTicks_halves HS.out (m := h) (by omega) hlt
          rw [H1.out, E1.out, E2.out] at this; omega
        have heq : ((L : Int) == (L1 : Int) + (L2 : Int)) = true := by rw [beq_iff_eq]; omega
        have hw1 : IntKind.i64.wrap ((L1 : Int) + (L2 : Int)) = (L1 : Int) + (L2 : Int) := by rw [IntKind.wrap_i64]; omega
        have C1 : QCall Try.prog 16 #[.slice (some ⟨b, off, none⟩) h c, .int .i64 p] w3 (.int .i64 L1) := QCall.of fun W' hb => by
          have := callFrameTicks (some ⟨b, off, none⟩) c (xs.take h) p W' w1.heap.size (Nat.le_trans HB3.out.size hb.size) (by rw [List.length_take]; omega) (by omega) (by omega) ((HX.out.below (HB3.out.trans (hb.mono HB3.out.size))).take h)
          rw [List.length_take, Nat.min_eq_left (by omega), E1.out] at this
          exact this
        have C2 : QCall Try.prog 16 #[.slice (some ⟨b, off + h * 2, none⟩) (xs.length - h) (c - h), .int .i64 p] w3 (.int .i64 L2) := QCall.of fun W' hb => by
          have hdr := (HX.out.below (HB3.out.trans (hb.mono HB3.out.size))).drop (m := h) (cap := c) hlc
          rw [if_neg (by omega), Option.map_some, add_off] at hdr
          have := callFrameTicks (some ⟨b, off + h * 2, none⟩) (c - h) (xs.drop h) p W' w1.heap.size (Nat.le_trans HB3.out.size hb.size) (by rw [List.length_drop]; omega) (by omega) (by omega) hdr
          rw [List.length_drop, E2.out] at this
          exact this
        have hch : ¬ (c = h) := by omega
        have hi1 : (0 : Int) ≤ (h : Int) := by omega
        have hi2 : (h : Int) ≤ (c : Int) := by omega
        have hi3 : (h : Int) ≤ (xs.length : Int) := by omega
        clear hL1 hL2 hsum E1 E2
        unfold QCall at C1 C2
        go_upto_region 10 with (fail)
        refine wp_region_quiet_below (by kernel_rfl) (by kernel_rfl) ?_
        repeat (first | go_big_quiet_step ((first | (go_at_call 16; with_reducible exact C1 _ _) | (go_at_call 16; with_reducible exact C2 _ _))) | quiet_step ((first | (go_at_call 16; with_reducible exact C1 _ _) | (go_at_call 16; with_reducible exact C2 _ _))))
        refine wpQuiet_nil ?_
        intro w6 hw6
        have HB6 := Lib.hid (HB3.out.trans ((below_of_regrown hw6).mono HB3.out.size))
        clear hw6 C1 C2
        go_wp2
        go_ret
        exact ⟨rfl, bel_trans HB1.out HB6.out⟩
  · have hl' : 1048576 < bs.length := by omega
    clear hr hby hl
    go_enter Try.func3, Try.ntmps3
    go_wp2
    go_ret
    exact ⟨rfl, Below.refl _ _⟩
end Go.Proofs.Ytbjhekkebnkejaa
