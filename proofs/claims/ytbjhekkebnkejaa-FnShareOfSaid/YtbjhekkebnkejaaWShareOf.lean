/- The walk of the law FnShareOf: true for every input, and nothing that was there is written. -/
import Derived.Test.YtbjhekkebnkejaaSlr
import Derived.Test.YtbjhekkebnkejaaDrs
import Derived.Test.YtbjhekkebnkejaaFrl
namespace Go.Proofs.Ytbjhekkebnkejaa
open Go.RowKit Go.Sort

set_option maxRecDepth 100000 in
set_option maxHeartbeats 3200000 in
theorem walkFnShareOf (A : Option Addr) (c : Nat) (bs : List Int) (w : World) (hc : bs.length ≤ c) (hr : Rd eU8 w w.heap.size A bs) (hby : ∀ x ∈ bs, 0 ≤ x ∧ x ≤ 255) :
    Calls Try.prog 8 #[.slice A bs.length c] w fun e w' => e = .returned (.bool true) ∧ Below w.heap.size w w' := by
  by_cases hl : bs.length ≤ 1048576
  · have HC := Lib.hid (callDrawShareOf A c bs w hc hl hr hby)
    clear hr hby
    go_enter Try.func8, Try.ntmps8
    go_wp2_with fail
    refine HC.out.mono ?_
    rintro e w1 ⟨A, c, xs, p, n, rfl, hrd, hlen, hp1, hp2, hn1, hn2, hb1⟩
    have HB1 := Lib.hid hb1
    clear hb1 HC
    have HX := Lib.hid hrd
    clear hrd
    have HBa := Lib.hid (Below.refl w1.heap.size w1)
    have hv : (sltsOk xs p && inB n 0 (p - 1)) = false ∨ (sltsOk xs p = true ∧ inB n 0 (p - 1) = true) := by
      cases h1 : sltsOk xs p <;> cases h2 : inB n 0 (p - 1) <;> simp
    rcases hv with hno | ⟨hs, hn⟩
    · have H1 : Hid (shareOf xs p n = -1) := by show _ = _; unfold shareOf; rw [hno]; rfl
      clear hno
      go_wp2_with fail
      refine (callShareOf A c xs p n _ w1.heap.size HBa.out.size (by omega) (by omega) (by omega) (HX.out.below HBa.out)).mono ?_
      rintro e w2 ⟨rfl, hb2⟩
      rw [H1.out]
      have HB2 := Lib.hid (HBa.out.trans (hb2.mono HBa.out.size))
      clear hb2
      go_wp2_with fail
      refine (callSShareOf A c xs p n _ w1.heap.size HB2.out.size (by omega) (by omega) (by omega) (HX.out.below HB2.out)).mono ?_
      rintro e w3 ⟨rfl, hb3⟩
      rw [H1.out]
      have HB3 := Lib.hid (HB2.out.trans (hb3.mono HB2.out.size))
      clear hb3
      go_wp2_with fail
      refine (callAlive _).mono ?_
      rintro e w9 ⟨rfl, hb9⟩
      go_wp2
      go_ret
      exact ⟨rfl, bel_trans HB1.out (bel_trans HB3.out hb9)⟩
    · have hP := (sltsOk_iff.1 hs).1
      have hall : Hid (∀ s ∈ xs, sltOk p s = true) := (sltsOk_iff.1 hs).2.2
      have hbd := fr_bd hs
      have HS := Lib.hid hs
      have HN := Lib.hid hn
      obtain ⟨L, hL⟩ : ∃ L, L = (fr xs).length := ⟨_, rfl⟩
      rw [← hL] at hbd
      obtain ⟨s, hss⟩ : ∃ s, s = (fr xs).count n := ⟨_, rfl⟩
      have hs1 : s ≤ L := by rw [hss, hL]; exact List.count_le_length
      have H1 : Hid (shareOf xs p n = (s : Int)) := by
        show _ = _
        unfold shareOf
        rw [hs, hn, hss]; rfl
      have H3 : Hid (frameTicks xs p = (L : Int)) := by
        show _ = _
        unfold frameTicks
        rw [hs, hL]; rfl
      have HL := Lib.hid hL
      have HSS := Lib.hid hss
      have hnn : ((s : Int) != (s : Int)) = false := by simp
      clear hs hn hL hss
      go_wp2_with fail
      refine (callShareOf A c xs p n _ w1.heap.size HBa.out.size (by omega) (by omega) (by omega) (HX.out.below HBa.out)).mono ?_
      rintro e w2 ⟨rfl, hb2⟩
      rw [H1.out]
      have HB2 := Lib.hid (HBa.out.trans (hb2.mono HBa.out.size))
      clear hb2
      go_wp2_with fail
      refine (callSShareOf A c xs p n _ w1.heap.size HB2.out.size (by omega) (by omega) (by omega) (HX.out.below HB2.out)).mono ?_
      rintro e w3 ⟨rfl, hb3⟩
      rw [H1.out]
      have HB3 := Lib.hid (HB2.out.trans (hb3.mono HB2.out.size))
      clear hb3
      go_wp2_with fail
      refine (callFrameTicks A c xs p _ w1.heap.size HB3.out.size (by omega) (by omega) (by omega) (HX.out.below HB3.out)).mono ?_
      rintro e w4 ⟨rfl, hb4⟩
      rw [H3.out]
      have HB4 := Lib.hid (HB3.out.trans (hb4.mono HB3.out.size))
      clear hb4
      obtain ⟨P, rfl⟩ := Int.eq_ofNat_of_zero_le hP.1
      go_wp2
      go_loopw [8, 9] (fun s i wr => ∃ k x : Nat, k ≤ P ∧ i = .int .i64 k ∧ s = .int .i64 x ∧ x ≤ L ∧ Below w1.heap.size w1 wr ∧ Hid (x = csum (fr xs) k)) (fun _ i _ => P - (intOf i).toNat)
      case atStart => exact ⟨0, 0, by omega, rfl, rfl, by omega, HB4.out, rfl⟩
      case round =>
        obtain ⟨k, x, hk, rfl, rfl, hx, hbl, hxe⟩ := hrel
        rename World => wo
        have HB := Lib.hid hbl
        clear hbl HB4
        by_cases hlt : k < P
        · have hd : decide ((k : Int) < (P : Int)) = true := decide_eq_true (by omega)
          obtain ⟨y, hy⟩ : ∃ y, y = (fr xs).count (k : Int) := ⟨_, rfl⟩
          have hst : Hid (x + y = csum (fr xs) (k + 1)) := by show _ = _; rw [csum, ← hy, hxe.out]
          have hle2 : x + y ≤ L := by rw [hst.out, HL.out]; exact csum_le (fr xs) (k + 1)
          have HO : Hid (shareOf xs P (k : Int) = (y : Int)) := by
            show _ = _
            unfold shareOf
            rw [HS.out, show inB (k : Int) 0 ((P : Int) - 1) = true from inB_iff.2 ⟨by omega, by omega⟩, hy]; rfl
          clear hy
          go_wp2_with fail
          refine (callShareOf A c xs P k _ w1.heap.size HB.out.size (by omega) (by omega) (by omega) (HX.out.below HB.out)).mono ?_
          rintro e w5 ⟨rfl, hb5⟩
          rw [HO.out]
          go_wp2
          go_roundw
          case rel => exact ⟨k + 1, x + y, by omega, by go_num, by go_num, hle2, HB.out.trans (hb5.mono HB.out.size), hst⟩
          case measure => simp [intOf]; omega
        · have hke : k = P := by omega
          subst hke
          have hd : decide ((k : Int) < (k : Int)) = false := by simp
          go_wp2
          go_loopw [8, 10] (fun s i wr => ∃ j z : Nat, j ≤ xs.length ∧ i = .int .i64 j ∧ s = .int .i64 z ∧ z ≤ x + 20 * j ∧ Below w1.heap.size w1 wr ∧ Hid (z = x + (fr (xs.take j)).count (-1))) (fun _ i _ => xs.length - (intOf i).toNat)
          case atStart => exact ⟨0, x, by omega, rfl, rfl, by omega, HB.out, (show _ = _ from by simp [fr])⟩
          case round =>
            obtain ⟨j, z, hj, rfl, rfl, hz, hbl2, hze⟩ := hrel
            have HB5 := Lib.hid hbl2
            clear hbl2 HB
            by_cases hlt2 : j < xs.length
            · have hd2 : decide ((j : Int) < (xs.length : Int)) = true := decide_eq_true (by omega)
              obtain ⟨b, off, rfl, hbB, g1, g2⟩ := (HX.out.below HB5.out).at2 rfl hlt2 rfl
              have hso := sltOk_iff.1 (hall.out xs[j] (List.getElem_mem hlt2))
              obtain ⟨m, hmt⟩ : ∃ m : Nat, xs[j].ticks = (m : Int) := ⟨xs[j].ticks.toNat, by omega⟩
              have hm2 : m ≤ 20 := by omega
              have hcr := count_rep (fr (xs.take j)) m xs[j].who (-1)
              have hfs := fr_snoc hlt2
              rw [hmt, Int.toNat_natCast] at hfs
              by_cases hw : xs[j].who = -1
              · have hq : decide (xs[j].who < 0) = true := decide_eq_true (by omega)
                have hst : Hid (z + m = x + (fr (xs.take (j + 1))).count (-1)) := by show _ = _; rw [hfs, hcr, if_pos hw, hze.out]; omega
                rw [hmt] at g2
                clear hw hcr hfs hmt hso
                go_wp2
                go_roundw
                case rel => exact ⟨j + 1, z + m, by omega, by go_num, by go_num, by omega, HB5.out, hst⟩
                case measure => simp [intOf]; omega
              · have hq : decide (xs[j].who < 0) = false := decide_eq_false (by omega)
                have hst : Hid (z = x + (fr (xs.take (j + 1))).count (-1)) := by show _ = _; rw [hfs, hcr, if_neg hw, hze.out]; omega
                rw [hmt] at g2
                clear hw hcr hfs hmt hso
                go_wp2
                go_roundw
                case rel => exact ⟨j + 1, z, by omega, by go_num, rfl, by omega, HB5.out, hst⟩
                case measure => simp [intOf]; omega
            · have hje : j = xs.length := by omega
              subst hje
              have hd2 : decide ((xs.length : Int) < (xs.length : Int)) = false := by simp
              have hzz : z = L := by
                rw [hze.out, hxe.out, List.take_length, HL.out]; exact csum_fr HS.out
              subst hzz
              have hfin : ((z : Int) == (z : Int)) = true := by simp
              have hfin2 : ((s : Int) == (s : Int)) = true := by simp
              have HO : Hid (ownTicks xs k n (z : Int) = (s : Int)) := by
                show _ = _
                unfold ownTicks
                rw [HS.out, HN.out, show tkOk (z : Int) = true from inB_iff.2 ⟨by omega, by omega⟩, Int.toNat_natCast, HL.out, ownAt_len (by rw [← HL.out]; omega), ← HSS.out]; rfl
              go_wp2_with fail
              refine (callOwnTicks A c xs k n z _ w1.heap.size HB5.out.size (by omega) (by omega) (by omega) (HX.out.below HB5.out)).mono ?_
              rintro e w6 ⟨rfl, hb6⟩
              rw [HO.out]
              go_wp2
              go_ret
              exact ⟨rfl, bel_trans HB1.out (HB5.out.trans (hb6.mono HB5.out.size))⟩
  · have hl' : 1048576 < bs.length := by omega
    clear hr hby hl
    go_enter Try.func8, Try.ntmps8
    go_wp2
    go_ret
    exact ⟨rfl, Below.refl _ _⟩
end Go.Proofs.Ytbjhekkebnkejaa
