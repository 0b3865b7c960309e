/- The walk of the law FnNextOwn: true for every input, and nothing that was there is written. -/
import Derived.Test.YtbjhekkebnkejaaSlr
import Derived.Test.YtbjhekkebnkejaaDrs
import Derived.Test.YtbjhekkebnkejaaFrl
namespace Go.Proofs.Ytbjhekkebnkejaa
open Go.RowKit Go.Sort

set_option maxRecDepth 100000 in
set_option maxHeartbeats 3200000 in
theorem walkFnNextOwn (A : Option Addr) (c : Nat) (bs : List Int) (w : World) (hc : bs.length ≤ c) (hr : Rd eU8 w w.heap.size A bs) (hby : ∀ x ∈ bs, 0 ≤ x ∧ x ≤ 255) :
    Calls Try.prog 13 #[.slice A bs.length c] w fun e w' => e = .returned (.bool true) ∧ Below w.heap.size w w' := by
  by_cases hl : bs.length ≤ 1048576
  · have HC := Lib.hid (callDrawNextOwn A c bs w hc hl hr hby)
    clear hr hby
    go_enter Try.func13, Try.ntmps13
    go_wp2_with fail
    refine HC.out.mono ?_
    rintro e w1 ⟨A, c, xs, p, n, t, rfl, hrd, hlen, hp1, hp2, hn1, hn2, ht1, ht2, hb1⟩
    have HB1 := Lib.hid hb1
    clear hb1 HC
    have HX := Lib.hid hrd
    clear hrd
    have HBa := Lib.hid (Below.refl w1.heap.size w1)
    have hv : (sltsOk xs p = false) ∨ (sltsOk xs p = true ∧ inB n 0 (p - 1) = false) ∨ (sltsOk xs p = true ∧ inB n 0 (p - 1) = true ∧ tkOk t = false) ∨ (sltsOk xs p = true ∧ inB n 0 (p - 1) = true ∧ tkOk t = true) := by
      cases h1 : sltsOk xs p <;> cases h2 : inB n 0 (p - 1) <;> cases h3 : tkOk t <;> simp
    rcases hv with hs | ⟨hs, hn⟩ | ⟨hs, hn, ht⟩ | ⟨hs, hn, ht⟩
    · have H1 : Hid (nextOwn xs p n t = -1) := by show _ = _; unfold nextOwn; rw [hs]; rfl
      have H3 : Hid (frameTicks xs p = -1) := by show _ = _; unfold frameTicks; rw [hs]; rfl
      clear hs
      go_wp2_with fail
      refine (callNextOwn A c xs p n t _ w1.heap.size HBa.out.size (by omega) (by omega) (by omega) (HX.out.below HBa.out)).mono ?_
      rintro e w2 ⟨rfl, hb2⟩
      rw [H1.out]
      have HB2 := Lib.hid (HBa.out.trans (hb2.mono HBa.out.size))
      clear hb2
      go_wp2_with fail
      refine (callSNextOwn A c xs p n t _ w1.heap.size HB2.out.size (by omega) (by omega) (by omega) (HX.out.below HB2.out)).mono ?_
      rintro e w3 ⟨rfl, hb3⟩
      rw [H1.out]
      have HB3 := Lib.hid (HB2.out.trans (hb3.mono HB2.out.size))
      clear hb3
      go_wp2_with fail
      refine (callFrameTicks A c xs p _ w1.heap.size HB3.out.size (by omega) (by omega) (by omega) (HX.out.below HB3.out)).mono ?_
      rintro e w4 ⟨rfl, hb4⟩
      rw [H3.out]
      have HB4 := Lib.hid (HB3.out.trans (hb4.mono HB3.out.size))
      clear hb4
      go_wp2_with fail
      refine (callAlive _).mono ?_
      rintro e w9 ⟨rfl, hb9⟩
      go_wp2
      go_ret
      exact ⟨rfl, bel_trans HB1.out (bel_trans HB4.out hb9)⟩
    · have hbd := fr_bd hs
      obtain ⟨L, hL⟩ : ∃ L, L = (fr xs).length := ⟨_, rfl⟩
      rw [← hL] at hbd
      have H3 : Hid (frameTicks xs p = (L : Int)) := by
        show _ = _
        unfold frameTicks
        rw [hs, hL]; rfl
      have H1 : Hid (nextOwn xs p n t = -1) := by show _ = _; unfold nextOwn; rw [hs, hn]; rfl
      have hno := inB_not.1 hn
      clear hs hn hL
      by_cases hn0 : n < 0
      · go_wp2_with fail
        refine (callNextOwn A c xs p n t _ w1.heap.size HBa.out.size (by omega) (by omega) (by omega) (HX.out.below HBa.out)).mono ?_
        rintro e w2 ⟨rfl, hb2⟩
        rw [H1.out]
        have HB2 := Lib.hid (HBa.out.trans (hb2.mono HBa.out.size))
        clear hb2
        go_wp2_with fail
        refine (callSNextOwn A c xs p n t _ w1.heap.size HB2.out.size (by omega) (by omega) (by omega) (HX.out.below HB2.out)).mono ?_
        rintro e w3 ⟨rfl, hb3⟩
        rw [H1.out]
        have HB3 := Lib.hid (HB2.out.trans (hb3.mono HB2.out.size))
        clear hb3
        go_wp2_with fail
        refine (callFrameTicks A c xs p _ w1.heap.size HB3.out.size (by omega) (by omega) (by omega) (HX.out.below HB3.out)).mono ?_
        rintro e w4 ⟨rfl, hb4⟩
        rw [H3.out]
        have HB4 := Lib.hid (HB3.out.trans (hb4.mono HB3.out.size))
        clear hb4
        go_wp2_with fail
        refine (callAlive _).mono ?_
        rintro e w9 ⟨rfl, hb9⟩
        go_wp2
        go_ret
        exact ⟨rfl, bel_trans HB1.out (bel_trans HB4.out hb9)⟩
      · have hnp : decide (n ≥ p) = true := decide_eq_true (by omega)
        go_wp2_with fail
        refine (callNextOwn A c xs p n t _ w1.heap.size HBa.out.size (by omega) (by omega) (by omega) (HX.out.below HBa.out)).mono ?_
        rintro e w2 ⟨rfl, hb2⟩
        rw [H1.out]
        have HB2 := Lib.hid (HBa.out.trans (hb2.mono HBa.out.size))
        clear hb2
        go_wp2_with fail
        refine (callSNextOwn A c xs p n t _ w1.heap.size HB2.out.size (by omega) (by omega) (by omega) (HX.out.below HB2.out)).mono ?_
        rintro e w3 ⟨rfl, hb3⟩
        rw [H1.out]
        have HB3 := Lib.hid (HB2.out.trans (hb3.mono HB2.out.size))
        clear hb3
        go_wp2_with fail
        refine (callFrameTicks A c xs p _ w1.heap.size HB3.out.size (by omega) (by omega) (by omega) (HX.out.below HB3.out)).mono ?_
        rintro e w4 ⟨rfl, hb4⟩
        rw [H3.out]
        have HB4 := Lib.hid (HB3.out.trans (hb4.mono HB3.out.size))
        clear hb4
        go_wp2_with fail
        refine (callAlive _).mono ?_
        rintro e w9 ⟨rfl, hb9⟩
        go_wp2
        go_ret
        exact ⟨rfl, bel_trans HB1.out (bel_trans HB4.out hb9)⟩
    · have hbd := fr_bd hs
      obtain ⟨L, hL⟩ : ∃ L, L = (fr xs).length := ⟨_, rfl⟩
      rw [← hL] at hbd
      have H3 : Hid (frameTicks xs p = (L : Int)) := by
        show _ = _
        unfold frameTicks
        rw [hs, hL]; rfl
      have H1 : Hid (nextOwn xs p n t = -1) := by show _ = _; unfold nextOwn; rw [hs, hn, ht]; rfl
      have hno := inB_not.1 ht
      have hnn := inB_iff.1 hn
      clear hs hn ht hL
      have hd1 : decide (n ≥ p) = false := decide_eq_false (by omega)
      by_cases ht0 : t < 0
      · go_wp2_with fail
        refine (callNextOwn A c xs p n t _ w1.heap.size HBa.out.size (by omega) (by omega) (by omega) (HX.out.below HBa.out)).mono ?_
        rintro e w2 ⟨rfl, hb2⟩
        rw [H1.out]
        have HB2 := Lib.hid (HBa.out.trans (hb2.mono HBa.out.size))
        clear hb2
        go_wp2_with fail
        refine (callSNextOwn A c xs p n t _ w1.heap.size HB2.out.size (by omega) (by omega) (by omega) (HX.out.below HB2.out)).mono ?_
        rintro e w3 ⟨rfl, hb3⟩
        rw [H1.out]
        have HB3 := Lib.hid (HB2.out.trans (hb3.mono HB2.out.size))
        clear hb3
        go_wp2_with fail
        refine (callFrameTicks A c xs p _ w1.heap.size HB3.out.size (by omega) (by omega) (by omega) (HX.out.below HB3.out)).mono ?_
        rintro e w4 ⟨rfl, hb4⟩
        rw [H3.out]
        have HB4 := Lib.hid (HB3.out.trans (hb4.mono HB3.out.size))
        clear hb4
        go_wp2_with fail
        refine (callAlive _).mono ?_
        rintro e w9 ⟨rfl, hb9⟩
        go_wp2
        go_ret
        exact ⟨rfl, bel_trans HB1.out (bel_trans HB4.out hb9)⟩
      · have hd3 : decide (t > 1000000) = true := decide_eq_true (by omega)
        go_wp2_with fail
        refine (callNextOwn A c xs p n t _ w1.heap.size HBa.out.size (by omega) (by omega) (by omega) (HX.out.below HBa.out)).mono ?_
        rintro e w2 ⟨rfl, hb2⟩
        rw [H1.out]
        have HB2 := Lib.hid (HBa.out.trans (hb2.mono HBa.out.size))
        clear hb2
        go_wp2_with fail
        refine (callSNextOwn A c xs p n t _ w1.heap.size HB2.out.size (by omega) (by omega) (by omega) (HX.out.below HB2.out)).mono ?_
        rintro e w3 ⟨rfl, hb3⟩
        rw [H1.out]
        have HB3 := Lib.hid (HB2.out.trans (hb3.mono HB2.out.size))
        clear hb3
        go_wp2_with fail
        refine (callFrameTicks A c xs p _ w1.heap.size HB3.out.size (by omega) (by omega) (by omega) (HX.out.below HB3.out)).mono ?_
        rintro e w4 ⟨rfl, hb4⟩
        rw [H3.out]
        have HB4 := Lib.hid (HB3.out.trans (hb4.mono HB3.out.size))
        clear hb4
        go_wp2_with fail
        refine (callAlive _).mono ?_
        rintro e w9 ⟨rfl, hb9⟩
        go_wp2
        go_ret
        exact ⟨rfl, bel_trans HB1.out (bel_trans HB4.out hb9)⟩
    · obtain ⟨h0, h1⟩ := inB_iff.1 ht
      obtain ⟨T, rfl⟩ := Int.eq_ofNat_of_zero_le h0
      have hbd := fr_bd hs
      have HS := Lib.hid hs
      have hin := inB_iff.1 hn
      obtain ⟨L, hL⟩ : ∃ L, L = (fr xs).length := ⟨_, rfl⟩
      rw [← hL] at hbd
      have H3 : Hid (frameTicks xs p = (L : Int)) := by
        show _ = _
        unfold frameTicks
        rw [hs, hL]; rfl
      have HN := Lib.hid hn
      have HL := Lib.hid hL
      have E1 : Hid (nextOwn xs p n (T : Int) = nextAt (fr xs) n T) := by
        show _ = _
        unfold nextOwn
        rw [hs, hn, ht]; rfl
      clear hs hn ht hL
      rcases nextAt_cases (fr xs) n T with ⟨j, hj1, hj2, hj3, hj4⟩ | ⟨hj1, hj2⟩
      · obtain ⟨R, hR⟩ : ∃ R, R = T + j := ⟨_, rfl⟩
        have H1 : Hid (nextOwn xs p n (T : Int) = (R : Int)) := by show _ = _; rw [E1.out, hj4, hR]
        have hjL : j < L := by rw [HL.out]; exact hj1
        have hRT : T ≤ R ∧ R < T + L := by omega
        have hnn : ((R : Int) != (R : Int)) = false := by simp
        have HJ : Hid (∀ i, T ≤ i → i < R → whoAt (fr xs) i ≠ n) := fun i h1 h2 => by
          have := hj3 (i - T) (by omega)
          rwa [show T + (i - T) = i by omega] at this
        have HJ2 : Hid (whoAt (fr xs) R = n) := by show _ = _; rw [hR]; exact hj2
        have hge : decide ((R : Int) ≥ (T : Int) + (L : Int)) = false := decide_eq_false (by omega)
        have hlt0 : decide (R < T) = false := decide_eq_false (by omega)
        have HWR : Hid (∀ k : Nat, whoRuns xs p ((k : Int) % (L : Int)) = whoAt (fr xs) k) := fun k => by
          have hml0 : k % L < L := Nat.mod_lt _ (by omega)
          rw [show (k : Int) % (L : Int) = ((k % L : Nat) : Int) from rfl]
          unfold whoRuns
          rw [HS.out, show tkOk ((k % L : Nat) : Int) = true from inB_iff.2 ⟨by omega, by omega⟩, Int.toNat_natCast, HL.out, whoAt_modEq]; rfl
        have hz0 : ((L : Int) == 0) = false := by rw [beq_eq_false_iff_ne]; omega
        clear hR hj1 hj2 hj3 hj4
        go_wp2_with fail
        refine (callNextOwn A c xs p n T _ w1.heap.size HBa.out.size (by omega) (by omega) (by omega) (HX.out.below HBa.out)).mono ?_
        rintro e w2 ⟨rfl, hb2⟩
        rw [H1.out]
        have HB2 := Lib.hid (HBa.out.trans (hb2.mono HBa.out.size))
        clear hb2
        go_wp2_with fail
        refine (callSNextOwn A c xs p n T _ w1.heap.size HB2.out.size (by omega) (by omega) (by omega) (HX.out.below HB2.out)).mono ?_
        rintro e w3 ⟨rfl, hb3⟩
        rw [H1.out]
        have HB3 := Lib.hid (HB2.out.trans (hb3.mono HB2.out.size))
        clear hb3
        go_wp2_with fail
        refine (callFrameTicks A c xs p _ w1.heap.size HB3.out.size (by omega) (by omega) (by omega) (HX.out.below HB3.out)).mono ?_
        rintro e w4 ⟨rfl, hb4⟩
        rw [H3.out]
        have HB4 := Lib.hid (HB3.out.trans (hb4.mono HB3.out.size))
        clear hb4
        go_wp2
        go_loopw [9] (fun i wr => ∃ k : Nat, T ≤ k ∧ k ≤ R ∧ i = .int .i64 k ∧ Below w1.heap.size w1 wr) (fun i _ => R - (intOf i).toNat)
        case atStart => exact ⟨T, by omega, by omega, rfl, HB4.out⟩
        case round =>
          obtain ⟨k, hk1, hk2, rfl, hbl⟩ := hrel
          have HB := Lib.hid hbl
          clear hbl HB4
          have hwr := HWR.out k
          have HW := Lib.hid hwr
          clear hwr
          by_cases hlt : k < R
          · have hd : decide ((k : Int) < (R : Int)) = true := decide_eq_true (by omega)
            have hq : (whoAt (fr xs) k == n) = false := by rw [beq_eq_false_iff_ne]; exact HJ.out k hk1 hlt
            go_wp2_with fail
            refine (callWhoRuns A c xs p ((k : Int) % (L : Int)) _ w1.heap.size HB.out.size (by omega) (by omega) (by omega) (HX.out.below HB.out)).mono ?_
            rintro e w5 ⟨rfl, hb5⟩
            rw [HW.out]
            go_wp2
            go_roundw
            case rel => first | exact ⟨k + 1, by omega, by omega, by go_num, HB.out.trans (hb5.mono HB.out.size)⟩ | ((repeat apply Exists.intro); exact ⟨⟨k + 1, by omega, by omega, (by go_num : Value.int .i64 ((k : Int) + 1) = Value.int .i64 ((k + 1 : Nat) : Int)), HB.out.trans (hb5.mono HB.out.size)⟩, rfl⟩)
            case measure => simp [intOf]; omega
          · have hke : k = R := by omega
            subst hke
            have hd : decide ((k : Int) < (k : Int)) = false := by simp
            have hq : (n == n) = true := by simp
            go_wp2_with fail
            refine (callWhoRuns A c xs p ((k : Int) % (L : Int)) _ w1.heap.size HB.out.size (by omega) (by omega) (by omega) (HX.out.below HB.out)).mono ?_
            rintro e w5 ⟨rfl, hb5⟩
            rw [HW.out, HJ2.out]
            go_wp2
            go_ret
            exact ⟨rfl, bel_trans HB1.out (HB.out.trans (hb5.mono HB.out.size))⟩
      · have H1 : Hid (nextOwn xs p n (T : Int) = -1) := by show _ = _; rw [E1.out, hj2]
        have H4 : Hid (shareOf xs p n = 0) := by
          show _ = _
          unfold shareOf
          rw [HS.out, HN.out, next_never (by rw [← HL.out]; omega) hj1]; rfl
        have hd1 : decide (n ≥ p) = false := decide_eq_false (by omega)
        have hd2 : decide ((T : Int) > 1000000) = false := decide_eq_false (by omega)
        clear hj1 hj2
        go_wp2_with fail
        refine (callNextOwn A c xs p n T _ w1.heap.size HBa.out.size (by omega) (by omega) (by omega) (HX.out.below HBa.out)).mono ?_
        rintro e w2 ⟨rfl, hb2⟩
        rw [H1.out]
        have HB2 := Lib.hid (HBa.out.trans (hb2.mono HBa.out.size))
        clear hb2
        go_wp2_with fail
        refine (callSNextOwn A c xs p n T _ w1.heap.size HB2.out.size (by omega) (by omega) (by omega) (HX.out.below HB2.out)).mono ?_
        rintro e w3 ⟨rfl, hb3⟩
        rw [H1.out]
        have HB3 := Lib.hid (HB2.out.trans (hb3.mono HB2.out.size))
        clear hb3
        go_wp2_with fail
        refine (callFrameTicks A c xs p _ w1.heap.size HB3.out.size (by omega) (by omega) (by omega) (HX.out.below HB3.out)).mono ?_
        rintro e w4 ⟨rfl, hb4⟩
        rw [H3.out]
        have HB4 := Lib.hid (HB3.out.trans (hb4.mono HB3.out.size))
        clear hb4
        go_wp2_with fail
        refine (callShareOf A c xs p n _ w1.heap.size HB4.out.size (by omega) (by omega) (by omega) (HX.out.below HB4.out)).mono ?_
        rintro e w5 ⟨rfl, hb5⟩
        rw [H4.out]
        have HB5 := Lib.hid (HB4.out.trans (hb5.mono HB4.out.size))
        clear hb5
        go_wp2_with fail
        refine (callAlive _).mono ?_
        rintro e w9 ⟨rfl, hb9⟩
        go_wp2
        go_ret
        exact ⟨rfl, bel_trans HB1.out (bel_trans HB5.out hb9)⟩
  · have hl' : 1048576 < bs.length := by omega
    clear hr hby hl
    go_enter Try.func13, Try.ntmps13
    go_wp2
    go_ret
    exact ⟨rfl, Below.refl _ _⟩
end Go.Proofs.Ytbjhekkebnkejaa
