/- The walk of the law FnLongestGap: true for every input, and nothing that was there is written. -/
import Derived.Test.YtbjhekkebnkejaaSlr
import Derived.Test.YtbjhekkebnkejaaDrs
import Derived.Test.YtbjhekkebnkejaaFrl
namespace Go.Proofs.Ytbjhekkebnkejaa
open Go.RowKit Go.Sort

set_option maxRecDepth 100000 in
set_option maxHeartbeats 3200000 in
theorem walkFnLongestGap (A : Option Addr) (c : Nat) (bs : List Int) (w : World) (hc : bs.length ≤ c) (hr : Rd eU8 w w.heap.size A bs) (hby : ∀ x ∈ bs, 0 ≤ x ∧ x ≤ 255) :
    Calls Try.prog 14 #[.slice A bs.length c] w fun e w' => e = .returned (.bool true) ∧ Below w.heap.size w w' := by
  by_cases hl : bs.length ≤ 1048576
  · have HC := Lib.hid (callDrawLongestGap A c bs w hc hl hr hby)
    clear hr hby
    go_enter Try.func14, Try.ntmps14
    go_wp2_with fail
    refine HC.out.mono ?_
    rintro e w1 ⟨A, c, xs, p, n, rfl, hrd, hlen, hp1, hp2, hn1, hn2, hb1⟩
    have HB1 := Lib.hid hb1
    clear hb1 HC
    have HX := Lib.hid hrd
    clear hrd
    have HBa := Lib.hid (Below.refl w1.heap.size w1)
    by_cases hsh : 1 ≤ shareOf xs p n
    · have hv : sltsOk xs p = true ∧ inB n 0 (p - 1) = true := by
        cases h1 : sltsOk xs p <;> cases h2 : inB n 0 (p - 1) <;> simp_all [shareOf]
      obtain ⟨hs, hn⟩ := hv
      have hbd := fr_bd hs
      obtain ⟨L, hL⟩ : ∃ L, L = (fr xs).length := ⟨_, rfl⟩
      obtain ⟨s, hss⟩ : ∃ s, s = (fr xs).count n := ⟨_, rfl⟩
      obtain ⟨gp, hgp⟩ : ∃ gp, gp = gapMost (fr xs) n (2 * (fr xs).length) := ⟨_, rfl⟩
      have H4 : Hid (shareOf xs p n = (s : Int)) := by
        show _ = _
        unfold shareOf
        rw [hs, hn, hss]; rfl
      have hs1 : 1 ≤ s := by have := H4.out; omega
      have h0 : 0 < (fr xs).length := by omega
      have hgs : gp + s ≤ L := by rw [hgp, hss, hL]; exact gap_share h0 (by rw [← hss]; exact hs1)
      have HWL : Hid (∀ t, t < L → nextAt (fr xs) n t - t ≤ gp) := fun t ht => by rw [hgp]; exact wait_le h0 (by rw [← hss]; exact hs1) (by rw [← hL]; exact ht)
      have HWM : Hid (∃ t, t < L ∧ nextAt (fr xs) n t - t = gp) := by rw [hgp, hL]; exact wait_met h0 (by rw [← hss]; exact hs1)
      have HNX : Hid (∀ t, t < L → ∃ j : Nat, j < L ∧ nextAt (fr xs) n t = ((t + j : Nat) : Int)) := fun t _ => by
        obtain ⟨j, h1, _, _, h4⟩ := wait_some h0 (show 1 ≤ (fr xs).count n by rw [← hss]; exact hs1) t
        exact ⟨j, by rw [hL]; exact h1, h4⟩
      rw [← hL] at hbd
      have H1 : Hid (longestGap xs p n = (gp : Int)) := by
        show _ = _
        unfold longestGap
        rw [if_pos hsh, hgp]
      have H3 : Hid (frameTicks xs p = (L : Int)) := by
        show _ = _
        unfold frameTicks
        rw [hs, hL]; rfl
      have HS := Lib.hid hs
      have HN := Lib.hid hn
      have hnn : ((gp : Int) != (gp : Int)) = false := by simp
      clear hs hn hL hss hgp hsh h0
      go_wp2_with fail
      refine (callLongestGap A c xs p n _ w1.heap.size HBa.out.size (by omega) (by omega) (by omega) (HX.out.below HBa.out)).mono ?_
      rintro e w2 ⟨rfl, hb2⟩
      rw [H1.out]
      have HB2 := Lib.hid (HBa.out.trans (hb2.mono HBa.out.size))
      clear hb2
      go_wp2_with fail
      refine (callSLongestGap A c xs p n _ w1.heap.size HB2.out.size (by omega) (by omega) (by omega) (HX.out.below HB2.out)).mono ?_
      rintro e w3 ⟨rfl, hb3⟩
      rw [H1.out]
      have HB3 := Lib.hid (HB2.out.trans (hb3.mono HB2.out.size))
      clear hb3
      go_wp2_with fail
      refine (callFrameTicks A c xs p _ w1.heap.size HB3.out.size (by omega) (by omega) (by omega) (HX.out.below HB3.out)).mono ?_
      rintro e w4 ⟨rfl, hb4⟩
      rw [H3.out]
      have HB4 := Lib.hid (HB3.out.trans (hb4.mono HB3.out.size))
      clear hb4
      obtain ⟨m0, hm0⟩ : ∃ m0 : Bool, m0 = ((gp : Int) == 0) := ⟨_, rfl⟩
      have HM0 : Hid (m0 = true → gp = 0) := fun h => by rw [hm0, beq_iff_eq] at h; omega
      go_wp2
      rw [← hm0]
      clear hm0
      go_loopw [8, 9] (fun a i wr => ∃ (k : Nat) (m : Bool), k ≤ L ∧ i = .int .i64 k ∧ a = .bool m ∧ Below w1.heap.size w1 wr ∧ Hid (∀ i, i < k → nextAt (fr xs) n i - i = gp → m = true)) (fun _ i _ => L - (intOf i).toNat)
      case atStart => exact ⟨0, m0, by omega, rfl, rfl, HB4.out, fun i hi => by omega⟩
      case round =>
        obtain ⟨k, m, hk, rfl, rfl, hbl, hme⟩ := hrel
        have HB := Lib.hid hbl
        clear hbl HB4
        by_cases hlt : k < L
        · have hd : decide ((k : Int) < (L : Int)) = true := decide_eq_true (by omega)
          obtain ⟨j, hj1, hj2⟩ := HNX.out k hlt
          have hwl := HWL.out k hlt
          have hjg : j ≤ gp := by rw [hj2] at hwl; omega
          have HJ := Lib.hid hj2
          have HO : Hid (nextOwn xs p n (k : Int) = (k : Int) + (j : Int)) := by
            show _ = _
            unfold nextOwn
            rw [HS.out, HN.out, show tkOk (k : Int) = true from inB_iff.2 ⟨by omega, by omega⟩, Int.toNat_natCast, hj2]
            simp
          have hsub : (k : Int) + (j : Int) - (k : Int) = (j : Int) := by omega
          have hgt : decide ((j : Int) > (gp : Int)) = false := decide_eq_false (by omega)
          clear hj2 hwl
          cases m
          · by_cases hjq : j = gp
            · have hq : ((j : Int) == (gp : Int)) = true := by rw [hjq]; simp
              clear hjq
              go_wp2_with fail
              refine (callNextOwn A c xs p n k _ w1.heap.size HB.out.size (by omega) (by omega) (by omega) (HX.out.below HB.out)).mono ?_
              rintro e w5 ⟨rfl, hb5⟩
              rw [HO.out]
              go_wp2
              go_roundw
              case rel => exact ⟨k + 1, true, by omega, by go_num, rfl, HB.out.trans (hb5.mono HB.out.size), fun _ _ _ => rfl⟩
              case measure => simp [intOf]; omega
            · have hq : ((j : Int) == (gp : Int)) = false := by rw [beq_eq_false_iff_ne]; omega
              have hst : Hid (∀ i, i < k + 1 → nextAt (fr xs) n i - i = gp → false = true) := fun i hi h => by
                rcases Nat.lt_or_ge i k with h' | h'
                · exact hme.out i h' h
                · exfalso
                  have : i = k := by omega
                  subst this
                  have := HJ.out
                  omega
              clear hjq
              go_wp2_with fail
              refine (callNextOwn A c xs p n k _ w1.heap.size HB.out.size (by omega) (by omega) (by omega) (HX.out.below HB.out)).mono ?_
              rintro e w5 ⟨rfl, hb5⟩
              rw [HO.out]
              go_wp2
              go_roundw
              case rel => exact ⟨k + 1, false, by omega, by go_num, rfl, HB.out.trans (hb5.mono HB.out.size), hst⟩
              case measure => simp [intOf]; omega
          · go_wp2_with fail
            refine (callNextOwn A c xs p n k _ w1.heap.size HB.out.size (by omega) (by omega) (by omega) (HX.out.below HB.out)).mono ?_
            rintro e w5 ⟨rfl, hb5⟩
            rw [HO.out]
            go_wp2
            go_roundw
            case rel => exact ⟨k + 1, true, by omega, by go_num, rfl, HB.out.trans (hb5.mono HB.out.size), fun _ _ _ => rfl⟩
            case measure => simp [intOf]; omega
        · have hke : k = L := by omega
          subst hke
          have hd : decide ((k : Int) < (k : Int)) = false := by simp
          have hmt : m = true := by
            obtain ⟨t, ht, he⟩ := HWM.out
            exact hme.out t ht he
          subst hmt
          have hfin : decide ((gp : Int) + (s : Int) ≤ (k : Int)) = true := decide_eq_true (by omega)
          go_wp2_with fail
          refine (callShareOf A c xs p n _ w1.heap.size HB.out.size (by omega) (by omega) (by omega) (HX.out.below HB.out)).mono ?_
          rintro e w6 ⟨rfl, hb6⟩
          rw [H4.out]
          go_wp2
          go_ret
          exact ⟨rfl, bel_trans HB1.out (HB.out.trans (hb6.mono HB.out.size))⟩
    · have H1 : Hid (longestGap xs p n = -1) := by show _ = _; unfold longestGap; rw [if_neg hsh]
      clear hsh
      go_wp2_with fail
      refine (callLongestGap A c xs p n _ w1.heap.size HBa.out.size (by omega) (by omega) (by omega) (HX.out.below HBa.out)).mono ?_
      rintro e w2 ⟨rfl, hb2⟩
      rw [H1.out]
      have HB2 := Lib.hid (HBa.out.trans (hb2.mono HBa.out.size))
      clear hb2
      go_wp2_with fail
      refine (callSLongestGap A c xs p n _ w1.heap.size HB2.out.size (by omega) (by omega) (by omega) (HX.out.below HB2.out)).mono ?_
      rintro e w3 ⟨rfl, hb3⟩
      rw [H1.out]
      have HB3 := Lib.hid (HB2.out.trans (hb3.mono HB2.out.size))
      clear hb3
      go_wp2_with fail
      refine (callAlive _).mono ?_
      rintro e w9 ⟨rfl, hb9⟩
      go_wp2
      go_ret
      exact ⟨rfl, bel_trans HB1.out (bel_trans HB3.out hb9)⟩
  · have hl' : 1048576 < bs.length := by omega
    clear hr hby hl
    go_enter Try.func14, Try.ntmps14
    go_wp2
    go_ret
    exact ⟨rfl, Below.refl _ _⟩
end Go.Proofs.Ytbjhekkebnkejaa
