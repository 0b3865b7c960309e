/- The walk of the law FnClockSum: true for every input, and nothing that was there is written. -/
import Derived.Test.YtbjhekkebnkejaaSlr
import Derived.Test.YtbjhekkebnkejaaDrs
import Derived.Test.YtbjhekkebnkejaaFrl
namespace Go.Proofs.Ytbjhekkebnkejaa
open Go.RowKit Go.Sort

set_option maxRecDepth 100000 in
set_option maxHeartbeats 3200000 in
theorem walkFnClockSum (A : Option Addr) (c : Nat) (bs : List Int) (w : World) (hc : bs.length ≤ c) (hr : Rd eU8 w w.heap.size A bs) (hby : ∀ x ∈ bs, 0 ≤ x ∧ x ≤ 255) :
    Calls Try.prog 10 #[.slice A bs.length c] w fun e w' => e = .returned (.bool true) ∧ Below w.heap.size w w' := by
  by_cases hl : bs.length ≤ 1048576
  · have HC := Lib.hid (callDrawOwnTicks A c bs w hc hl hr hby)
    clear hr hby
    go_enter Try.func10, Try.ntmps10
    go_wp2_with fail
    refine HC.out.mono ?_
    rintro e w1 ⟨A, c, xs, p, n, t, rfl, hrd, hlen, hp1, hp2, hn1, hn2, ht1, ht2, hb1⟩
    have HB1 := Lib.hid hb1
    clear hb1 HC
    have HX := Lib.hid hrd
    clear hrd
    have HBa := Lib.hid (Below.refl w1.heap.size w1)
    have hv : (sltsOk xs p && (inB n 0 (p - 1) && tkOk t)) = false ∨ (sltsOk xs p = true ∧ inB n 0 (p - 1) = true ∧ tkOk t = true) := by
      cases h1 : sltsOk xs p <;> cases h2 : inB n 0 (p - 1) <;> cases h3 : tkOk t <;> simp
    rcases hv with hno | ⟨hs, hn, ht⟩
    · have H1 : Hid (ownTicks xs p n t = -1) := by show _ = _; unfold ownTicks; rw [hno]; rfl
      clear hno
      go_wp2_with fail
      refine (callOwnTicks A c xs p n t _ w1.heap.size HBa.out.size (by omega) (by omega) (by omega) (HX.out.below HBa.out)).mono ?_
      rintro e w2 ⟨rfl, hb2⟩
      rw [H1.out]
      have HB2 := Lib.hid (HBa.out.trans (hb2.mono HBa.out.size))
      clear hb2
      go_wp2_with fail
      refine (callSOwnTicks A c xs p n t _ w1.heap.size HB2.out.size (by omega) (by omega) (by omega) (HX.out.below HB2.out)).mono ?_
      rintro e w3 ⟨rfl, hb3⟩
      rw [H1.out]
      have HB3 := Lib.hid (HB2.out.trans (hb3.mono HB2.out.size))
      clear hb3
      go_wp2_with fail
      refine (callAlive _).mono ?_
      rintro e w9 ⟨rfl, hb9⟩
      go_wp2
      go_ret
      exact ⟨rfl, bel_trans HB1.out (bel_trans HB3.out hb9)⟩
    · have hP := (sltsOk_iff.1 hs).1
      obtain ⟨h0, h1⟩ := inB_iff.1 ht
      obtain ⟨T, rfl⟩ := Int.eq_ofNat_of_zero_le h0
      have hbd := fr_bd hs
      have HS := Lib.hid hs
      obtain ⟨L, hL⟩ : ∃ L, L = (fr xs).length := ⟨_, rfl⟩
      rw [← hL] at hbd
      obtain ⟨a, ha⟩ : ∃ a : Nat, a = ownAt (fr xs) n T := ⟨_, rfl⟩
      have hle : a ≤ T := by rw [ha]; exact ownAt_le (by omega) n T
      have H1 : Hid (ownTicks xs p n (T : Int) = (a : Int)) := by
        show _ = _
        unfold ownTicks
        rw [hs, hn, ht, ha]; rfl
      have H3 : Hid (frameTicks xs p = (L : Int)) := by
        show _ = _
        unfold frameTicks
        rw [hs, hL]; rfl
      have HA := Lib.hid ha
      have HN := Lib.hid hn
      have HL := Lib.hid hL
      have hnn : ((a : Int) != (a : Int)) = false := by simp
      clear ha hs hn ht hL
      go_wp2_with fail
      refine (callOwnTicks A c xs p n T _ w1.heap.size HBa.out.size (by omega) (by omega) (by omega) (HX.out.below HBa.out)).mono ?_
      rintro e w2 ⟨rfl, hb2⟩
      rw [H1.out]
      have HB2 := Lib.hid (HBa.out.trans (hb2.mono HBa.out.size))
      clear hb2
      go_wp2_with fail
      refine (callSOwnTicks A c xs p n T _ w1.heap.size HB2.out.size (by omega) (by omega) (by omega) (HX.out.below HB2.out)).mono ?_
      rintro e w3 ⟨rfl, hb3⟩
      rw [H1.out]
      have HB3 := Lib.hid (HB2.out.trans (hb3.mono HB2.out.size))
      clear hb3
      by_cases hbig : 3000 < T
      · have hb0 : decide ((T : Int) > 3000) = true := decide_eq_true (by omega)
        go_wp2_with fail
        refine (callAlive _).mono ?_
        rintro e w9 ⟨rfl, hb9⟩
        go_wp2
        go_ret
        exact ⟨rfl, bel_trans HB1.out (bel_trans HB3.out hb9)⟩
      · obtain ⟨P, rfl⟩ := Int.eq_ofNat_of_zero_le hP.1
        have hb0 : decide ((T : Int) > 3000) = false := decide_eq_false (by omega)
        go_wp2
        go_loopw [8, 9] (fun s i wr => ∃ k x : Nat, k ≤ P ∧ i = .int .i64 k ∧ s = .int .i64 x ∧ x ≤ T ∧ Below w1.heap.size w1 wr ∧ Hid (x = csum (runs (fr xs) T) k)) (fun _ i _ => P - (intOf i).toNat)
        case atStart => exact ⟨0, 0, by omega, rfl, rfl, by omega, HB3.out, rfl⟩
        case round =>
          obtain ⟨k, x, hk, rfl, rfl, hx, hbl, hxe⟩ := hrel
          rename World => wo
          have HB := Lib.hid hbl
          clear hbl HB3
          by_cases hlt : k < P
          · have hd : decide ((k : Int) < (P : Int)) = true := decide_eq_true (by omega)
            obtain ⟨y, hy⟩ : ∃ y, y = (runs (fr xs) T).count (k : Int) := ⟨_, rfl⟩
            have hst : Hid (x + y = csum (runs (fr xs) T) (k + 1)) := by show _ = _; rw [csum, ← hy, hxe.out]
            have hle2 : x + y ≤ T := by rw [hst.out]; have := csum_le (runs (fr xs) T) (k + 1); rw [runs_len] at this; exact this
            have HO : Hid (ownTicks xs P (k : Int) (T : Int) = (y : Int)) := by
              show _ = _
              unfold ownTicks
              rw [HS.out, show inB (k : Int) 0 ((P : Int) - 1) = true from inB_iff.2 ⟨by omega, by omega⟩, show tkOk (T : Int) = true from inB_iff.2 ⟨by omega, by omega⟩, hy, own_runs (by rw [← HL.out]; omega)]; rfl
            clear hy
            go_wp2_with fail
            refine (callOwnTicks A c xs P k T _ w1.heap.size HB.out.size (by omega) (by omega) (by omega) (HX.out.below HB.out)).mono ?_
            rintro e w4 ⟨rfl, hb4⟩
            rw [HO.out]
            go_wp2
            go_roundw
            case rel => exact ⟨k + 1, x + y, by omega, by go_num, by go_num, hle2, HB.out.trans (hb4.mono HB.out.size), hst⟩
            case measure => simp [intOf]; omega
          · have hke : k = P := by omega
            subst hke
            have hd : decide ((k : Int) < (k : Int)) = false := by simp
            go_wp2
            go_loopw [8, 10] (fun s i wr => ∃ j z : Nat, j ≤ T ∧ i = .int .i64 j ∧ s = .int .i64 z ∧ z ≤ x + j ∧ Below w1.heap.size w1 wr ∧ Hid (z = x + (runs (fr xs) j).count (-1))) (fun _ i _ => T - (intOf i).toNat)
            case atStart => exact ⟨0, x, by omega, rfl, rfl, by omega, HB.out, (show _ = _ from by simp [runs])⟩
            case round =>
              obtain ⟨j, z, hj, rfl, rfl, hz, hbl2, hze⟩ := hrel
              have HB5 := Lib.hid hbl2
              clear hbl2 HB
              by_cases hlt2 : j < T
              · have hd2 : decide ((j : Int) < (T : Int)) = true := decide_eq_true (by omega)
                have HW : Hid (whoRuns xs k (j : Int) = whoAt (fr xs) j) := by
                  show _ = _
                  unfold whoRuns
                  rw [HS.out, show tkOk (j : Int) = true from inB_iff.2 ⟨by omega, by omega⟩]; rfl
                have hcs := count_runs_succ (fr xs) (-1) j
                by_cases hw : whoAt (fr xs) j = -1
                · have hq : (whoAt (fr xs) j == -1) = true := by simpa using hw
                  have hst : Hid (z + 1 = x + (runs (fr xs) (j + 1)).count (-1)) := by show _ = _; rw [hcs, if_pos hw, hze.out]; omega
                  clear hw hcs
                  go_wp2_with fail
                  refine (callWhoRuns A c xs k j _ w1.heap.size HB5.out.size (by omega) (by omega) (by omega) (HX.out.below HB5.out)).mono ?_
                  rintro e w4 ⟨rfl, hb4⟩
                  rw [HW.out]
                  go_wp2
                  go_roundw
                  case rel => exact ⟨j + 1, z + 1, by omega, by go_num, by go_num, by omega, HB5.out.trans (hb4.mono HB5.out.size), hst⟩
                  case measure => simp [intOf]; omega
                · have hq : (whoAt (fr xs) j == -1) = false := by simpa using hw
                  have hst : Hid (z = x + (runs (fr xs) (j + 1)).count (-1)) := by show _ = _; rw [hcs, if_neg hw, hze.out]; omega
                  clear hw hcs
                  go_wp2_with fail
                  refine (callWhoRuns A c xs k j _ w1.heap.size HB5.out.size (by omega) (by omega) (by omega) (HX.out.below HB5.out)).mono ?_
                  rintro e w4 ⟨rfl, hb4⟩
                  rw [HW.out]
                  go_wp2
                  go_roundw
                  case rel => exact ⟨j + 1, z, by omega, by go_num, rfl, by omega, HB5.out.trans (hb4.mono HB5.out.size), hst⟩
                  case measure => simp [intOf]; omega
              · have hje : j = T := by omega
                subst hje
                have hd2 : decide ((j : Int) < (j : Int)) = false := by simp
                have hzz : z = j := by rw [hze.out, hxe.out]; exact csum_runs HS.out j
                subst hzz
                have hfin : ((z : Int) == (z : Int)) = true := by simp
                go_wp2
                go_ret
                exact ⟨rfl, bel_trans HB1.out HB5.out⟩
  · have hl' : 1048576 < bs.length := by omega
    clear hr hby hl
    go_enter Try.func10, Try.ntmps10
    go_wp2
    go_ret
    exact ⟨rfl, Below.refl _ _⟩
end Go.Proofs.Ytbjhekkebnkejaa
