/- OwnTicks, NextOwn and LongestGap of the reference, for every input. -/
import Derived.Test.YtbjhekkebnkejaaSls
namespace Go.Proofs.Ytbjhekkebnkejaa
open Go.RowKit Go.Sort

set_option maxRecDepth 100000 in
set_option maxHeartbeats 1600000 in
theorem callSOwnTicks (A : Option Addr) (c : Nat) (xs : List Slt) (parts n tick : Int) (w : World) (B : Nat) (hB : B ≤ w.heap.size) (hm : xs.length ≤ 1048576) (hp1 : -10 ≤ parts) (hp2 : parts ≤ 10) (hr : Rd eSlt w B A xs) :
    Calls Try.prog 33 #[.slice A xs.length c, .int .i64 parts, .int .i64 n, .int .i64 tick] w fun e w' => e = .returned (.int .i64 (ownTicks xs parts n tick)) ∧ Below w.heap.size w w' := by
  have E : Hid (ownTicks xs parts n tick = if sltsOk xs parts && (inB n 0 (parts - 1) && inB tick 0 1000000) then (ownAt (fr xs) n tick.toNat : Int) else -1) := rfl
  cases hok : sltsOk xs parts
  · have HK := Lib.hid hok
    clear hok
    go_enter Try.func33, Try.ntmps33
    go_wp2_with fail
    refine (callSSlotsValid A c xs parts _ B hB hm hp1 hp2 hr).mono ?_
    rintro e w1 ⟨rfl, hb1⟩
    rw [HK.out]
    have HB1 := Lib.hid hb1
    clear hb1
    go_wp2
    go_ret
    exact ⟨by rw [E.out, HK.out] <;> rfl, HB1.out⟩
  · have HK := Lib.hid hok
    clear hok
    cases q0 : inB n 0 (parts - 1)
    · have HQ0 := Lib.hid q0
      go_enter Try.func33, Try.ntmps33
      go_wp2_with fail
      refine (callSSlotsValid A c xs parts _ B hB hm hp1 hp2 hr).mono ?_
      rintro e w1 ⟨rfl, hb1⟩
      rw [HK.out]
      have HB1 := Lib.hid hb1
      clear hb1
      go_wp2_with (go_at_call 49; refine (callL1In _ _ _ _).mono ?_; rintro e w' ⟨rfl, rfl⟩)
      go_ret
      exact ⟨by rw [E.out, HK.out, HQ0.out] <;> rfl, HB1.out⟩
    · have HQ0 := Lib.hid q0
      cases q1 : inB tick 0 1000000
      · have HQ1 := Lib.hid q1
        go_enter Try.func33, Try.ntmps33
        go_wp2_with fail
        refine (callSSlotsValid A c xs parts _ B hB hm hp1 hp2 hr).mono ?_
        rintro e w1 ⟨rfl, hb1⟩
        rw [HK.out]
        have HB1 := Lib.hid hb1
        clear hb1
        go_wp2_with (go_at_call 49; refine (callL1In _ _ _ _).mono ?_; rintro e w' ⟨rfl, rfl⟩)
        go_ret
        exact ⟨by rw [E.out, HK.out, HQ0.out, HQ1.out] <;> rfl, HB1.out⟩
      · have HQ1 := Lib.hid q1
        obtain ⟨h0, h1⟩ := inB_iff.1 q1
        obtain ⟨t, rfl⟩ := Int.eq_ofNat_of_zero_le h0
        have hbd := fr_bd HK.out
        go_enter Try.func33, Try.ntmps33
        go_wp2_with fail
        refine (callSSlotsValid A c xs parts _ B hB hm hp1 hp2 hr).mono ?_
        rintro e w1 ⟨rfl, hb1⟩
        rw [HK.out]
        have HB1 := Lib.hid hb1
        clear hb1
        go_wp2_with (go_at_call 49; refine (callL1In _ _ _ _).mono ?_; rintro e w' ⟨rfl, rfl⟩)
        refine (callSFrameTicksY A c xs parts HK.out _ B (Nat.le_trans hB HB1.out.size) hm hp1 hp2 (hr.below (HB1.out.mono hB))).mono ?_
        rintro e w2 ⟨rfl, hb2⟩
        have HB2 := Lib.hid (bel_trans HB1.out hb2)
        have HR := Lib.hid (hr.below (HB2.out.mono hB))
        clear hb2 hr
        have HA : Hid (∀ s ∈ xs, sltOk parts s = true) := (sltsOk_iff.1 HK.out).2.2
        have HLX := (sltsOk_iff.1 HK.out).2.1.2
        obtain ⟨L, hL⟩ : ∃ L, L = (fr xs).length := ⟨_, rfl⟩
        rw [← hL] at hbd ⊢
        obtain ⟨T, hT⟩ : ∃ T, T = t % L := ⟨_, rfl⟩
        have hTL : T < L := by rw [hT]; exact Nat.mod_lt _ (by omega)
        have hT2 : (t : Int) % (L : Int) = (T : Int) := by rw [hT]; rfl
        have HT := Lib.hid hT
        have HL := Lib.hid hL
        have HHT := Lib.hid hT2
        clear hT hL hT2
        go_wp2
        go_loopw [10, 11, 12, 13] (fun a b s i wr => ∃ k : Nat, k ≤ xs.length ∧ i = .int .i64 k ∧ Below w2.heap.size w2 wr ∧ ∃ x y z : Nat, a = .int .i64 x ∧ b = .int .i64 y ∧ s = .int .i64 z ∧ x ≤ 20 * k ∧ y ≤ 20 * k ∧ z ≤ 20 * k ∧ Hid (x = (fr (xs.take k)).count n ∧ y = ((fr (xs.take k)).take T).count n ∧ z = (fr (xs.take k)).length)) (fun _ _ _ i _ => xs.length - (intOf i).toNat)
        case atStart => exact ⟨0, by omega, rfl, Below.refl _ _, 0, 0, 0, rfl, rfl, rfl, by omega, by omega, by omega, (show _ ∧ _ ∧ _ from by simp [fr])⟩
        case round =>
          obtain ⟨k, hk, rfl, hbl, x, y, z, rfl, rfl, rfl, hx, hy, hz, hxe⟩ := hrel
          have HB := Lib.hid hbl
          clear hbl
          by_cases hlt : k < xs.length
          · obtain ⟨b, off, rfl, hbB, h1, h2⟩ := (HR.out.below (HB.out.mono (Nat.le_trans hB HB2.out.size))).at2 rfl hlt rfl
            have hs := sltOk_iff.1 (HA.out xs[k] (List.getElem_mem hlt))
            obtain ⟨m, hmt⟩ : ∃ m : Nat, xs[k].ticks = (m : Int) := ⟨xs[k].ticks.toNat, by omega⟩
            have hm1 : 1 ≤ m := by omega
            have hm2 : m ≤ 20 := by omega
            have hfs : Hid (fr (xs.take (k + 1)) = fr (xs.take k) ++ List.replicate m xs[k].who) := by
              show _ = _
              rw [fr_snoc hlt, hmt, Int.toNat_natCast]
            have hz1 : Hid (z + m = (fr (xs.take (k + 1))).length) := by show _ = _; rw [hfs.out, List.length_append, List.length_replicate, hxe.out.2.2]
            rw [hmt] at h2
            clear hs hmt
            by_cases he : xs[k].who = n
            · have hd : (xs[k].who == n) = true := by simpa using he
              obtain ⟨v, hv⟩ : ∃ v, v = min m (T - z) := ⟨_, rfl⟩
              have hst : Hid (x + m = (fr (xs.take (k + 1))).count n ∧ y + v = ((fr (xs.take (k + 1))).take T).count n ∧ z + m = (fr (xs.take (k + 1))).length) := by
                refine ⟨?_, ?_, hz1.out⟩
                · rw [hfs.out, count_rep, if_pos he, hxe.out.1]
                · rw [hfs.out, count_take_rep, if_pos he, hxe.out.2.1, hv, hxe.out.2.2]
              have hvm : v ≤ m := by rw [hv]; exact Nat.min_le_left _ _
              have hmx : Hid (max (0 : Int) (min (m : Int) ((T : Int) - (z : Int))) = (v : Int)) := by show _ = _; omega
              have hz0 : ((L : Int) == 0) = false := by rw [beq_eq_false_iff_ne]; omega
              have hi2 : (1 : Int) ≤ (L : Int) := by omega
              have hT2 := HHT.out
              clear he
              have hcase : (T < z ∧ v = 0) ∨ (z ≤ T ∧ T - z < m ∧ v = T - z) ∨ (z ≤ T ∧ m ≤ T - z ∧ m = v) := by omega
              clear hv hvm hmx
              rcases hcase with ⟨hc1, rfl⟩ | ⟨hc1, hc2, rfl⟩ | ⟨hc1, hc2, rfl⟩
              all_goals
                go_wp2
                go_quiet (fail)
                go_wp2
                go_roundw
                case rel => exact ⟨k + 1, by omega, by go_num, below_drewN HB.out _, x + m, _, z + m, by go_num, (by first | rfl | go_num | (congr 1; omega)), by go_num, by omega, by omega, by omega, hst⟩
                case measure => simp [intOf]; omega
            · have hd : (xs[k].who == n) = false := by simpa using he
              have hst : Hid (x = (fr (xs.take (k + 1))).count n ∧ y = ((fr (xs.take (k + 1))).take T).count n ∧ z + m = (fr (xs.take (k + 1))).length) := by
                refine ⟨?_, ?_, hz1.out⟩
                · rw [hfs.out, count_rep, if_neg he, hxe.out.1]; rfl
                · rw [hfs.out, count_take_rep, if_neg he, hxe.out.2.1]; rfl
              clear he
              go_wp2
              go_roundw
              case rel => exact ⟨k + 1, by omega, by go_num, HB.out, x, y, z + m, rfl, rfl, by go_num, by omega, by omega, by omega, hst⟩
              case measure => simp [intOf]; omega
          · have hke : k = xs.length := by omega
            subst hke
            have hd : decide ((xs.length : Int) < xs.length) = false := by simp
            obtain ⟨d, hd⟩ : ∃ d, d = t / L := ⟨_, rfl⟩
            have hd1 : d ≤ 1000000 := by have := Nat.div_le_self t L; omega
            have hd2 : (t : Int) / (L : Int) = (d : Int) := by rw [hd]; rfl
            obtain ⟨p, hp⟩ : ∃ p, p = d * x := ⟨_, rfl⟩
            have hp1 : p ≤ 1000000 * 240 := by rw [hp]; exact Nat.mul_le_mul hd1 (by omega)
            have hp2 : (d : Int) * (x : Int) = (p : Int) := by rw [hp]; push_cast; rfl
            have EE : Hid (ownTicks xs parts n (t : Int) = ((p + y : Nat) : Int)) := by
              show _ = _
              rw [E.out, HK.out, HQ0.out, HQ1.out, Int.toNat_natCast]
              simp only [Bool.and_self, if_true]
              have h := hxe.out
              rw [List.take_length] at h
              unfold ownAt
              rw [← HL.out, hp, hd, h.1, h.2.1, HT.out]
            clear hp hd
            go_wp2
            go_ret
            exact ⟨by rw [EE.out] <;> rfl, bel_trans HB2.out HB.out⟩

set_option maxRecDepth 100000 in
set_option maxHeartbeats 1600000 in
theorem callSNextOwn (A : Option Addr) (c : Nat) (xs : List Slt) (parts n tick : Int) (w : World) (B : Nat) (hB : B ≤ w.heap.size) (hm : xs.length ≤ 1048576) (hp1 : -10 ≤ parts) (hp2 : parts ≤ 10) (hr : Rd eSlt w B A xs) :
    Calls Try.prog 36 #[.slice A xs.length c, .int .i64 parts, .int .i64 n, .int .i64 tick] w fun e w' => e = .returned (.int .i64 (nextOwn xs parts n tick)) ∧ Below w.heap.size w w' := by
  have E : Hid (nextOwn xs parts n tick = if sltsOk xs parts && (inB n 0 (parts - 1) && inB tick 0 1000000) then nextAt (fr xs) n tick.toNat else -1) := rfl
  cases hok : sltsOk xs parts
  · have HK := Lib.hid hok
    clear hok
    go_enter Try.func36, Try.ntmps36
    go_wp2_with fail
    refine (callSSlotsValid A c xs parts _ B hB hm hp1 hp2 hr).mono ?_
    rintro e w1 ⟨rfl, hb1⟩
    rw [HK.out]
    have HB1 := Lib.hid hb1
    clear hb1
    go_wp2
    go_ret
    exact ⟨by rw [E.out, HK.out] <;> rfl, HB1.out⟩
  · have HK := Lib.hid hok
    clear hok
    cases q0 : inB n 0 (parts - 1)
    · have HQ0 := Lib.hid q0
      go_enter Try.func36, Try.ntmps36
      go_wp2_with fail
      refine (callSSlotsValid A c xs parts _ B hB hm hp1 hp2 hr).mono ?_
      rintro e w1 ⟨rfl, hb1⟩
      rw [HK.out]
      have HB1 := Lib.hid hb1
      clear hb1
      go_wp2_with (go_at_call 49; refine (callL1In _ _ _ _).mono ?_; rintro e w' ⟨rfl, rfl⟩)
      go_ret
      exact ⟨by rw [E.out, HK.out, HQ0.out] <;> rfl, HB1.out⟩
    · have HQ0 := Lib.hid q0
      cases q1 : inB tick 0 1000000
      · have HQ1 := Lib.hid q1
        go_enter Try.func36, Try.ntmps36
        go_wp2_with fail
        refine (callSSlotsValid A c xs parts _ B hB hm hp1 hp2 hr).mono ?_
        rintro e w1 ⟨rfl, hb1⟩
        rw [HK.out]
        have HB1 := Lib.hid hb1
        clear hb1
        go_wp2_with (go_at_call 49; refine (callL1In _ _ _ _).mono ?_; rintro e w' ⟨rfl, rfl⟩)
        go_ret
        exact ⟨by rw [E.out, HK.out, HQ0.out, HQ1.out] <;> rfl, HB1.out⟩
      · have HQ1 := Lib.hid q1
        obtain ⟨h0, h1⟩ := inB_iff.1 q1
        obtain ⟨t, rfl⟩ := Int.eq_ofNat_of_zero_le h0
        have hbd := fr_bd HK.out
        go_enter Try.func36, Try.ntmps36
        go_wp2_with fail
        refine (callSSlotsValid A c xs parts _ B hB hm hp1 hp2 hr).mono ?_
        rintro e w1 ⟨rfl, hb1⟩
        rw [HK.out]
        have HB1 := Lib.hid hb1
        clear hb1
        go_wp2_with (go_at_call 49; refine (callL1In _ _ _ _).mono ?_; rintro e w' ⟨rfl, rfl⟩)
        refine (callSFrameTicksY A c xs parts HK.out _ B (Nat.le_trans hB HB1.out.size) hm hp1 hp2 (hr.below (HB1.out.mono hB))).mono ?_
        rintro e w2 ⟨rfl, hb2⟩
        have HB2 := Lib.hid (bel_trans HB1.out hb2)
        have HR := Lib.hid (hr.below (HB2.out.mono hB))
        clear hb2 hr
        have E2 : Hid (nextOwn xs parts n (t : Int) = nextAt (fr xs) n t) := by
          show _ = _
          rw [E.out, HK.out, HQ0.out, HQ1.out]; rfl
        obtain ⟨L, hL⟩ : ∃ L, L = (fr xs).length := ⟨_, rfl⟩
        rw [← hL] at hbd ⊢
        have HL := Lib.hid hL
        clear hL
        go_wp2
        go_loopw [10] (fun a wr => ∃ T : Nat, t ≤ T ∧ T ≤ t + L ∧ a = .int .i64 T ∧ Below w2.heap.size w2 wr ∧ Hid (∀ i, i < T - t → whoAt (fr xs) (t + i) ≠ n)) (fun a _ => t + L - (intOf a).toNat)
        case atStart => exact ⟨t, by omega, by omega, rfl, Below.refl _ _, fun i hi => by omega⟩
        case round =>
          obtain ⟨T, hT1, hT2, rfl, hbl, hno⟩ := hrel
          have HB := Lib.hid hbl
          clear hbl
          by_cases hlt : T < t + L
          · have hml0 : T % L < L := Nat.mod_lt _ (by omega)
            have HW : Hid (whoRuns xs parts ((T : Int) % (L : Int)) = whoAt (fr xs) T) := by
              show _ = _
              rw [show (T : Int) % (L : Int) = ((T % L : Nat) : Int) from rfl]
              unfold whoRuns
              rw [HK.out, show tkOk ((T % L : Nat) : Int) = true from inB_iff.2 ⟨by omega, by omega⟩, Int.toNat_natCast, HL.out, whoAt_modEq]; rfl
            have hz0 : ((L : Int) == 0) = false := by rw [beq_eq_false_iff_ne]; omega
            by_cases he : whoAt (fr xs) T = n
            · have hd : (whoAt (fr xs) T == n) = true := by simpa using he
              have HN : Hid (nextAt (fr xs) n t = (T : Int)) := by
                show _ = _
                have := nextAt_at (f := fr xs) (n := n) (t := t) (j := T - t) (by rw [← HL.out]; omega) (by rw [show t + (T - t) = T by omega, he]) hno.out
                rw [this]; congr 1; omega
              clear he
              go_wp2_with fail
              refine (callSWhoRuns A c xs parts ((T : Int) % (L : Int)) _ B (Nat.le_trans hB (bel_trans HB2.out HB.out).size) hm hp1 hp2 (HR.out.below (HB.out.mono (Nat.le_trans hB HB2.out.size)))).mono ?_
              rintro e w3 ⟨rfl, hb3⟩
              rw [HW.out]
              go_wp2
              go_ret
              exact ⟨by rw [E2.out, HN.out] <;> rfl, bel_trans (bel_trans HB2.out HB.out) hb3⟩
            · have hd : (whoAt (fr xs) T == n) = false := by simpa using he
              have hst : Hid (∀ i, i < T + 1 - t → whoAt (fr xs) (t + i) ≠ n) := fun i hi => by
                rcases Nat.lt_or_ge i (T - t) with h | h
                · exact hno.out i h
                · rw [show t + i = T by omega]; exact he
              clear he
              go_wp2_with fail
              refine (callSWhoRuns A c xs parts ((T : Int) % (L : Int)) _ B (Nat.le_trans hB (bel_trans HB2.out HB.out).size) hm hp1 hp2 (HR.out.below (HB.out.mono (Nat.le_trans hB HB2.out.size)))).mono ?_
              rintro e w3 ⟨rfl, hb3⟩
              rw [HW.out]
              go_wp2
              go_roundw
              case rel => exact ⟨T + 1, by omega, by omega, by go_num, bel_trans HB.out hb3, hst⟩
              case measure => simp [intOf]; omega
          · have hTe : T = t + L := by omega
            have HN : Hid (nextAt (fr xs) n t = -1) := nextAt_none fun i hi => hno.out i (by rw [HL.out] at hTe; omega)
            have hd : decide ((T : Int) < (t : Int) + (L : Int)) = false := decide_eq_false (by omega)
            go_wp2
            go_ret
            exact ⟨by rw [E2.out, HN.out] <;> rfl, bel_trans HB2.out HB.out⟩

set_option maxRecDepth 100000 in
set_option maxHeartbeats 1600000 in
theorem callSLongestGap (A : Option Addr) (c : Nat) (xs : List Slt) (parts n : Int) (w : World) (B : Nat) (hB : B ≤ w.heap.size) (hm : xs.length ≤ 1048576) (hp1 : -10 ≤ parts) (hp2 : parts ≤ 10) (hr : Rd eSlt w B A xs) :
    Calls Try.prog 39 #[.slice A xs.length c, .int .i64 parts, .int .i64 n] w fun e w' => e = .returned (.int .i64 (longestGap xs parts n)) ∧ Below w.heap.size w w' := by
  have E : Hid (longestGap xs parts n = if 1 ≤ shareOf xs parts n then (gapMost (fr xs) n (2 * (fr xs).length) : Int) else -1) := rfl
  by_cases hs : 1 ≤ shareOf xs parts n
  · have hok : sltsOk xs parts = true := by
      unfold shareOf at hs
      split at hs
      · rename_i h; rw [Bool.and_eq_true] at h; exact h.1
      · omega
    have hbd := fr_bd hok
    have HK := Lib.hid hok
    have E2 : Hid (longestGap xs parts n = (gapMost (fr xs) n (2 * (fr xs).length) : Int)) := by show _ = _; rw [E.out, if_pos hs]
    have hd0 : decide (shareOf xs parts n < 1) = false := decide_eq_false (by omega)
    have HSH : Hid (∀ W, B ≤ W.heap.size → Rd eSlt W B A xs → Calls Try.prog 28 #[.slice A xs.length c, .int .i64 parts, .int .i64 n] W fun e w' => e = .returned (.int .i64 (shareOf xs parts n)) ∧ Below W.heap.size W w') := fun W h1 h2 => callSShareOf A c xs parts n W B h1 hm hp1 hp2 h2
    generalize shareOf xs parts n = sh at *
    clear hok hs E
    go_enter Try.func39, Try.ntmps39
    go_wp2_with fail
    refine (HSH.out _ hB hr).mono ?_
    rintro e w1 ⟨rfl, hb1⟩
    have HB1 := Lib.hid hb1
    clear hb1
    go_wp2_with fail
    refine (callSFrameTicksY A c xs parts HK.out _ B (Nat.le_trans hB HB1.out.size) hm hp1 hp2 (hr.below (HB1.out.mono hB))).mono ?_
    rintro e w2 ⟨rfl, hb2⟩
    have HB2 := Lib.hid (bel_trans HB1.out hb2)
    have HR := Lib.hid (hr.below (HB2.out.mono hB))
    have HWR : ∀ k : Nat, k ≤ 1000000 → Hid (whoRuns xs parts (k : Int) = whoAt (fr xs) k) := fun k hk => by
      show _ = _
      unfold whoRuns
      rw [HK.out, show tkOk (k : Int) = true from inB_iff.2 ⟨by omega, by omega⟩, Int.toNat_natCast]; rfl
    clear hb2 hr
    obtain ⟨f, hf⟩ : ∃ f, f = fr xs := ⟨_, rfl⟩
    rw [← hf] at hbd HWR E2 ⊢
    clear hf
    obtain ⟨L, hL⟩ : ∃ L, L = f.length := ⟨_, rfl⟩
    rw [← hL] at hbd E2 ⊢
    have HL := Lib.hid hL
    clear hL
    go_wp2
    go_loopw [8, 9, 10] (fun a b i wr => ∃ k x y : Nat, k ≤ 2 * L ∧ i = .int .i64 k ∧ a = .int .i64 x ∧ b = .int .i64 y ∧ x ≤ k ∧ y ≤ k ∧ Below w2.heap.size w2 wr ∧ Hid (x = gapMost f n k ∧ y = gapRun f n k)) (fun _ _ i _ => 2 * L - (intOf i).toNat)
    case atStart => exact ⟨0, 0, 0, by omega, rfl, rfl, rfl, by omega, by omega, Below.refl _ _, rfl, rfl⟩
    case round =>
      obtain ⟨k, x, y, hk, rfl, rfl, rfl, hx, hy, hbl, hxy⟩ := hrel
      have HB := Lib.hid hbl
      clear hbl
      by_cases hlt : k < 2 * L
      · have hwr := HWR k (by omega)
        by_cases he : whoAt f k = n
        · have hd : (whoAt f k == n) = true := by simpa using he
          have hst : Hid (x = gapMost f n (k + 1) ∧ 0 = gapRun f n (k + 1)) := by
            have h0 : gapRun f n (k + 1) = 0 := by rw [gapRun, if_pos he]
            exact ⟨by rw [gapMost, h0, hxy.out.1]; exact (Nat.max_eq_left (Nat.zero_le _)).symm, h0.symm⟩
          have hmx : ¬ ((x : Int) < 0) := by omega
          clear he
          go_wp2_with fail
          refine (callSWhoRuns A c xs parts (k : Int) _ B (Nat.le_trans hB (bel_trans HB2.out HB.out).size) hm hp1 hp2 (HR.out.below (HB.out.mono (Nat.le_trans hB HB2.out.size)))).mono ?_
          rintro e w3 ⟨rfl, hb3⟩
          rw [hwr.out]
          have HB4 := Lib.hid (bel_trans HB.out hb3)
          clear hb3
          go_wp2
          go_roundw
          case rel => exact ⟨k + 1, x, 0, by omega, by go_num, by first | rfl | go_num | (congr 1; omega), rfl, by omega, by omega, HB4.out, hst⟩
          case measure => simp [intOf]; omega
        · have hd : (whoAt f k == n) = false := by simpa using he
          have h0 : Hid (gapRun f n (k + 1) = y + 1) := by show _ = _; rw [gapRun, if_neg he, hxy.out.2]
          clear he
          by_cases hyx : x < y + 1
          · have hst : Hid (y + 1 = gapMost f n (k + 1) ∧ y + 1 = gapRun f n (k + 1)) := ⟨by rw [gapMost, h0.out, ← hxy.out.1]; exact (Nat.max_eq_right (by omega)).symm, h0.out.symm⟩
            go_wp2_with fail
            refine (callSWhoRuns A c xs parts (k : Int) _ B (Nat.le_trans hB (bel_trans HB2.out HB.out).size) hm hp1 hp2 (HR.out.below (HB.out.mono (Nat.le_trans hB HB2.out.size)))).mono ?_
            rintro e w3 ⟨rfl, hb3⟩
            rw [hwr.out]
            have HB4 := Lib.hid (bel_trans HB.out hb3)
            clear hb3
            go_wp2
            go_roundw
            case rel => exact ⟨k + 1, y + 1, y + 1, by omega, by go_num, by first | rfl | go_num | (congr 1; omega), by go_num, by omega, by omega, HB4.out, hst⟩
            case measure => simp [intOf]; omega
          · have hst : Hid (x = gapMost f n (k + 1) ∧ y + 1 = gapRun f n (k + 1)) := ⟨by rw [gapMost, h0.out, ← hxy.out.1]; exact (Nat.max_eq_left (by omega)).symm, h0.out.symm⟩
            go_wp2_with fail
            refine (callSWhoRuns A c xs parts (k : Int) _ B (Nat.le_trans hB (bel_trans HB2.out HB.out).size) hm hp1 hp2 (HR.out.below (HB.out.mono (Nat.le_trans hB HB2.out.size)))).mono ?_
            rintro e w3 ⟨rfl, hb3⟩
            rw [hwr.out]
            have HB4 := Lib.hid (bel_trans HB.out hb3)
            clear hb3
            go_wp2
            go_roundw
            case rel => exact ⟨k + 1, x, y + 1, by omega, by go_num, by first | rfl | go_num | (congr 1; omega), by go_num, by omega, by omega, HB4.out, hst⟩
            case measure => simp [intOf]; omega
      · have hke : k = 2 * L := by omega
        subst hke
        have HN : Hid (longestGap xs parts n = (x : Int)) := by show _ = _; rw [E2.out, hxy.out.1]
        go_wp2
        go_ret
        exact ⟨by rw [HN.out] <;> rfl, bel_trans HB2.out HB.out⟩
  · have hd0 : decide (shareOf xs parts n < 1) = true := decide_eq_true (by omega)
    have E2 : Hid (longestGap xs parts n = -1) := by show _ = _; rw [E.out, if_neg hs]
    have HSH : Hid (∀ W, B ≤ W.heap.size → Rd eSlt W B A xs → Calls Try.prog 28 #[.slice A xs.length c, .int .i64 parts, .int .i64 n] W fun e w' => e = .returned (.int .i64 (shareOf xs parts n)) ∧ Below W.heap.size W w') := fun W h1 h2 => callSShareOf A c xs parts n W B h1 hm hp1 hp2 h2
    generalize shareOf xs parts n = sh at *
    clear hs E
    go_enter Try.func39, Try.ntmps39
    go_wp2_with fail
    refine (HSH.out _ hB hr).mono ?_
    rintro e w1 ⟨rfl, hb1⟩
    go_wp2
    go_ret
    exact ⟨by rw [E2.out] <;> rfl, hb1⟩
end Go.Proofs.Ytbjhekkebnkejaa
