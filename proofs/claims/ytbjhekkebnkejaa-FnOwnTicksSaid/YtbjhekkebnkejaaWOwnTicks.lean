/- The walk of the law FnOwnTicks: true for every input, and nothing that was there is written. -/
import Derived.Test.YtbjhekkebnkejaaSlr
import Derived.Test.YtbjhekkebnkejaaDrs
import Derived.Test.YtbjhekkebnkejaaFrl
namespace Go.Proofs.Ytbjhekkebnkejaa
open Go.RowKit Go.Sort

set_option maxRecDepth 100000 in
set_option maxHeartbeats 3200000 in
theorem walkFnOwnTicks (A : Option Addr) (c : Nat) (bs : List Int) (w : World) (hc : bs.length ≤ c) (hr : Rd eU8 w w.heap.size A bs) (hby : ∀ x ∈ bs, 0 ≤ x ∧ x ≤ 255) :
    Calls Try.prog 11 #[.slice A bs.length c] w fun e w' => e = .returned (.bool true) ∧ Below w.heap.size w w' := by
  by_cases hl : bs.length ≤ 1048576
  · have HC := Lib.hid (callDrawOwnTicks A c bs w hc hl hr hby)
    clear hr hby
    go_enter Try.func11, Try.ntmps11
    go_wp2_with fail
    refine HC.out.mono ?_
    rintro e w1 ⟨A, c, xs, p, n, t, rfl, hrd, hlen, hp1, hp2, hn1, hn2, ht1, ht2, hb1⟩
    have HB1 := Lib.hid hb1
    clear hb1 HC
    have HX := Lib.hid hrd
    clear hrd
    have HBa := Lib.hid (Below.refl w1.heap.size w1)
    have hv : (sltsOk xs p && (inB n 0 (p - 1) && tkOk t)) = false ∨ (sltsOk xs p = true ∧ inB n 0 (p - 1) = true ∧ tkOk t = true) := by
      cases h1 : sltsOk xs p <;> cases h2 : inB n 0 (p - 1) <;> cases h3 : tkOk t <;> simp
    rcases hv with hno | ⟨hs, hn, ht⟩
    · have H1 : Hid (ownTicks xs p n t = -1) := by show _ = _; unfold ownTicks; rw [hno]; rfl
      clear hno
      go_wp2_with fail
      refine (callOwnTicks A c xs p n t _ w1.heap.size HBa.out.size (by omega) (by omega) (by omega) (HX.out.below HBa.out)).mono ?_
      rintro e w2 ⟨rfl, hb2⟩
      rw [H1.out]
      have HB2 := Lib.hid (HBa.out.trans (hb2.mono HBa.out.size))
      clear hb2
      go_wp2_with fail
      refine (callSOwnTicks A c xs p n t _ w1.heap.size HB2.out.size (by omega) (by omega) (by omega) (HX.out.below HB2.out)).mono ?_
      rintro e w3 ⟨rfl, hb3⟩
      rw [H1.out]
      have HB3 := Lib.hid (HB2.out.trans (hb3.mono HB2.out.size))
      clear hb3
      go_wp2_with fail
      refine (callAlive _).mono ?_
      rintro e w9 ⟨rfl, hb9⟩
      go_wp2
      go_ret
      exact ⟨rfl, bel_trans HB1.out (bel_trans HB3.out hb9)⟩
    · obtain ⟨h0, h1⟩ := inB_iff.1 ht
      obtain ⟨T, rfl⟩ := Int.eq_ofNat_of_zero_le h0
      have hbd := fr_bd hs
      have HS := Lib.hid hs
      obtain ⟨a, ha⟩ : ∃ a : Nat, a = ownAt (fr xs) n T := ⟨_, rfl⟩
      have hle : a ≤ T := by rw [ha]; exact ownAt_le (by omega) n T
      have H1 : Hid (ownTicks xs p n (T : Int) = (a : Int)) := by
        show _ = _
        unfold ownTicks
        rw [hs, hn, ht, ha]; rfl
      have HA := Lib.hid ha
      have HN := Lib.hid hn
      have hnn : ((a : Int) != (a : Int)) = false := by simp
      clear ha hs hn ht
      go_wp2_with fail
      refine (callOwnTicks A c xs p n T _ w1.heap.size HBa.out.size (by omega) (by omega) (by omega) (HX.out.below HBa.out)).mono ?_
      rintro e w2 ⟨rfl, hb2⟩
      rw [H1.out]
      have HB2 := Lib.hid (HBa.out.trans (hb2.mono HBa.out.size))
      clear hb2
      go_wp2_with fail
      refine (callSOwnTicks A c xs p n T _ w1.heap.size HB2.out.size (by omega) (by omega) (by omega) (HX.out.below HB2.out)).mono ?_
      rintro e w3 ⟨rfl, hb3⟩
      rw [H1.out]
      have HB3 := Lib.hid (HB2.out.trans (hb3.mono HB2.out.size))
      clear hb3
      by_cases hm : T = 1000000
      · subst hm
        have hd : decide ((a : Int) ≤ 1000000) = true := decide_eq_true (by omega)
        go_wp2
        go_ret
        exact ⟨rfl, bel_trans HB1.out HB3.out⟩
      · have hm1 : ((T : Int) == 1000000) = false := by rw [beq_eq_false_iff_ne]; omega
        have HZ : Hid (ownTicks xs p n 0 = 0) := by
          show _ = _
          unfold ownTicks
          rw [HS.out, HN.out, show tkOk 0 = true from rfl, show Int.toNat 0 = 0 from rfl, ownAt_zero]; rfl
        have HW : Hid (whoRuns xs p (T : Int) = whoAt (fr xs) T) := by
          show _ = _
          unfold whoRuns
          rw [HS.out, show tkOk (T : Int) = true from inB_iff.2 ⟨by omega, by omega⟩]; rfl
        by_cases hw : whoAt (fr xs) T = n
        · have hq : (whoAt (fr xs) T == n) = true := by simpa using hw
          have HO : Hid (ownTicks xs p n ((T : Int) + 1) = (a : Int) + 1) := by
            show _ = _
            unfold ownTicks
            rw [HS.out, HN.out, show tkOk ((T : Int) + 1) = true from inB_iff.2 ⟨by omega, by omega⟩, show ((T : Int) + 1).toNat = T + 1 by omega, ownAt_succ (by omega), if_pos hw, ← HA.out]; rfl
          clear hw
          go_wp2_with fail
          refine (callOwnTicks A c xs p n ((T : Int) + 1) _ w1.heap.size HB3.out.size (by omega) (by omega) (by omega) (HX.out.below HB3.out)).mono ?_
          rintro e w4 ⟨rfl, hb4⟩
          rw [HO.out]
          have HB4 := Lib.hid (HB3.out.trans (hb4.mono HB3.out.size))
          clear hb4
          go_wp2_with fail
          refine (callWhoRuns A c xs p (T : Int) _ w1.heap.size HB4.out.size (by omega) (by omega) (by omega) (HX.out.below HB4.out)).mono ?_
          rintro e w5 ⟨rfl, hb5⟩
          rw [HW.out]
          have HB5 := Lib.hid (HB4.out.trans (hb5.mono HB4.out.size))
          clear hb5
          go_wp2_with fail
          refine (callOwnTicks A c xs p n 0 _ w1.heap.size HB5.out.size (by omega) (by omega) (by omega) (HX.out.below HB5.out)).mono ?_
          rintro e w6 ⟨rfl, hb6⟩
          rw [HZ.out]
          have HB6 := Lib.hid (HB5.out.trans (hb6.mono HB5.out.size))
          clear hb6
          go_wp2
          go_ret
          exact ⟨rfl, bel_trans HB1.out HB6.out⟩
        · have hq : (whoAt (fr xs) T == n) = false := by simpa using hw
          have HO : Hid (ownTicks xs p n ((T : Int) + 1) = (a : Int)) := by
            show _ = _
            unfold ownTicks
            rw [HS.out, HN.out, show tkOk ((T : Int) + 1) = true from inB_iff.2 ⟨by omega, by omega⟩, show ((T : Int) + 1).toNat = T + 1 by omega, ownAt_succ (by omega), if_neg hw, ← HA.out]; rfl
          clear hw
          go_wp2_with fail
          refine (callOwnTicks A c xs p n ((T : Int) + 1) _ w1.heap.size HB3.out.size (by omega) (by omega) (by omega) (HX.out.below HB3.out)).mono ?_
          rintro e w4 ⟨rfl, hb4⟩
          rw [HO.out]
          have HB4 := Lib.hid (HB3.out.trans (hb4.mono HB3.out.size))
          clear hb4
          go_wp2_with fail
          refine (callWhoRuns A c xs p (T : Int) _ w1.heap.size HB4.out.size (by omega) (by omega) (by omega) (HX.out.below HB4.out)).mono ?_
          rintro e w5 ⟨rfl, hb5⟩
          rw [HW.out]
          have HB5 := Lib.hid (HB4.out.trans (hb5.mono HB4.out.size))
          clear hb5
          go_wp2_with fail
          refine (callOwnTicks A c xs p n 0 _ w1.heap.size HB5.out.size (by omega) (by omega) (by omega) (HX.out.below HB5.out)).mono ?_
          rintro e w6 ⟨rfl, hb6⟩
          rw [HZ.out]
          have HB6 := Lib.hid (HB5.out.trans (hb6.mono HB5.out.size))
          clear hb6
          go_wp2
          go_ret
          exact ⟨rfl, bel_trans HB1.out HB6.out⟩
  · have hl' : 1048576 < bs.length := by omega
    clear hr hby hl
    go_enter Try.func11, Try.ntmps11
    go_wp2
    go_ret
    exact ⟨rfl, Below.refl _ _⟩
end Go.Proofs.Ytbjhekkebnkejaa
