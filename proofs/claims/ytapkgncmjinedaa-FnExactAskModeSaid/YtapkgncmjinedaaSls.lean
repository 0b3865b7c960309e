/- The functions of slots and frames of the reference, for every input. -/
import Derived.Test.YtapkgncmjinedaaSlu
namespace Go.Proofs.Ytapkgncmjinedaa
open Go.RowKit Go.Sort

set_option maxRecDepth 100000 in
set_option maxHeartbeats 1600000 in
theorem callSSlotsValid (A : Option Addr) (c : Nat) (xs : List Slt) (parts : Int) (w : World) (B : Nat) (hB : B ≤ w.heap.size) (hm : xs.length ≤ 1048576) (hp1 : -10 ≤ parts) (hp2 : parts ≤ 10) (hr : Rd eSlt w B A xs) :
    Calls Try.prog 78 #[.slice A xs.length c, .int .i64 parts] w fun e w' => e = .returned (.bool (sltsOk xs parts)) ∧ Below w.heap.size w w' := by
  have E : Hid (sltsOk xs parts = (inB parts 0 5 && (inB xs.length 1 12 && xs.all (sltOk parts)))) := rfl
  go_enter Try.func78, Try.ntmps78
  go_wp2
  go_loopw [5] (fun i wr => ∃ k : Nat, k ≤ xs.length ∧ i = .int .i64 k ∧ Below w.heap.size w wr ∧ Hid (∀ i (_ : i < k) (h : i < xs.length), sltOk parts xs[i] = true)) (fun i _ => xs.length - (intOf i).toNat)
  case atStart => exact ⟨0, by omega, rfl, Below.refl _ _, fun i hi => by omega⟩
  case round =>
    obtain ⟨k, hk, rfl, hbl, hno⟩ := hrel
    by_cases hlt : k < xs.length
    · obtain ⟨b, off, rfl, hbB, h1, h2⟩ := (hr.below (hbl.mono hB)).at2 rfl hlt rfl
      have HB := Lib.hid hbl
      clear hbl
      have ES : Hid (sltOk parts xs[k] = (inB xs[k].ticks 1 20 && inB xs[k].who (-1) (parts - 1))) := rfl
      cases q1 : inB xs[k].ticks 1 20
      · rw [q1] at ES
        go_wp2_with (go_at_call 67; refine (callL1In _ _ _ _).mono ?_; rintro e w' ⟨rfl, rfl⟩)
        go_ret
        exact ⟨by rw [E.out, all_snoc_false hlt (by rw [ES.out]; rfl), Bool.and_false, Bool.and_false] <;> rfl, HB.out⟩
      · cases q2 : inB xs[k].who (-1) (parts - 1)
        · rw [q1, q2] at ES
          go_wp2_with (go_at_call 67; refine (callL1In _ _ _ _).mono ?_; rintro e w' ⟨rfl, rfl⟩)
          go_ret
          exact ⟨by rw [E.out, all_snoc_false hlt (by rw [ES.out]; rfl), Bool.and_false, Bool.and_false] <;> rfl, HB.out⟩
        · rw [q1, q2] at ES
          have hst : Hid (∀ i (_ : i < k + 1) (h : i < xs.length), sltOk parts xs[i] = true) := fun i hi h => by
            rcases Nat.lt_or_ge i k with h' | h'
            · exact hno.out i h' h
            · have : i = k := by omega
              subst this; exact ES.out
          go_wp2_with (go_at_call 67; refine (callL1In _ _ _ _).mono ?_; rintro e w' ⟨rfl, rfl⟩)
          go_roundw
          case rel => exact ⟨k + 1, by omega, by go_num, HB.out, hst⟩
          case measure => simp [intOf]; omega
    · have hke : k = xs.length := by omega
      subst hke
      have hd : decide ((xs.length : Int) < xs.length) = false := by simp
      have EA : Hid (sltsOk xs parts = (inB xs.length 1 12 && inB parts 0 5)) := by
        show _ = _
        rw [E.out, all_of_get fun i h => hno.out i h h, Bool.and_true, Bool.and_comm]
      cases q1 : inB (xs.length : Int) 1 12
      all_goals
        rw [q1] at EA
        go_wp2_with (go_at_call 67; refine (callL1In _ _ _ _).mono ?_; rintro e w' ⟨rfl, rfl⟩)
        go_ret
        exact ⟨by rw [EA.out] <;> simp, hbl⟩

set_option maxRecDepth 100000 in
set_option maxHeartbeats 1600000 in
theorem callSFrameTicks (A : Option Addr) (c : Nat) (xs : List Slt) (parts : Int) (w : World) (B : Nat) (hB : B ≤ w.heap.size) (hm : xs.length ≤ 1048576) (hp1 : -10 ≤ parts) (hp2 : parts ≤ 10) (hr : Rd eSlt w B A xs) :
    Calls Try.prog 59 #[.slice A xs.length c, .int .i64 parts] w fun e w' => e = .returned (.int .i64 (frameTicks xs parts)) ∧ Below w.heap.size w w' := by
  have E : Hid (frameTicks xs parts = if sltsOk xs parts then ((fr xs).length : Int) else -1) := rfl
  cases hok : sltsOk xs parts
  · have HK := Lib.hid hok
    clear hok
    go_enter Try.func59, Try.ntmps59
    go_wp2_with fail
    refine (callSSlotsValid A c xs parts _ B hB hm hp1 hp2 hr).mono ?_
    rintro e w1 ⟨rfl, hb1⟩
    rw [HK.out]
    have HB1 := Lib.hid hb1
    clear hb1
    go_wp2
    go_ret
    exact ⟨by rw [E.out, HK.out] <;> rfl, HB1.out⟩
  · have HK := Lib.hid hok
    clear hok
    have HA : Hid (∀ s ∈ xs, sltOk parts s = true) := (sltsOk_iff.1 HK.out).2.2
    have hbd := fr_bd HK.out
    go_enter Try.func59, Try.ntmps59
    go_wp2_with fail
    refine (callSSlotsValid A c xs parts _ B hB hm hp1 hp2 hr).mono ?_
    rintro e w1 ⟨rfl, hb1⟩
    rw [HK.out]
    have HB1 := Lib.hid hb1
    clear hb1
    go_wp2
    go_loopw [5, 6] (fun n i wr => ∃ k : Nat, k ≤ xs.length ∧ i = .int .i64 k ∧ Below w1.heap.size w1 wr ∧ ∃ x : Nat, n = .int .i64 x ∧ x ≤ (fr xs).length ∧ Hid (x = (fr (xs.take k)).length)) (fun _ i _ => xs.length - (intOf i).toNat)
    case atStart => exact ⟨0, by omega, rfl, Below.refl _ _, 0, rfl, by omega, rfl⟩
    case round =>
      obtain ⟨k, hk, rfl, hbl, x, rfl, hx, hxe⟩ := hrel
      have HB := Lib.hid hbl
      clear hbl
      by_cases hlt : k < xs.length
      · obtain ⟨b, off, rfl, hbB, h1, h2⟩ := (hr.below ((bel_trans HB1.out HB.out).mono hB)).at2 rfl hlt rfl
        have hs := sltOk_iff.1 (HA.out xs[k] (List.getElem_mem hlt))
        obtain ⟨m, hmt⟩ : ∃ m : Nat, xs[k].ticks = (m : Int) := ⟨xs[k].ticks.toNat, by omega⟩
        have hst : Hid (x + m = (fr (xs.take (k + 1))).length) := by
          show _ = _
          rw [fr_snoc hlt, List.length_append, List.length_replicate, hmt, Int.toNat_natCast, hxe.out]
        have hle : x + m ≤ (fr xs).length := by
          have a := fr_take_mono xs (k := k) (k' := xs.length) hlt hlt
          rw [List.take_length, hmt, Int.toNat_natCast] at a
          have := hxe.out; omega
        rw [hmt] at h2
        clear hmt hs
        go_wp2
        go_roundw
        case rel => exact ⟨k + 1, by omega, by go_num, HB.out, x + m, by go_num, hle, hst⟩
        case measure => simp [intOf]; omega
      · have hke : k = xs.length := by omega
        subst hke
        have hd : decide ((xs.length : Int) < xs.length) = false := by simp
        have EE : Hid (frameTicks xs parts = (x : Int)) := by
          show _ = _
          have := hxe.out
          rw [List.take_length] at this
          rw [E.out, HK.out, this]; rfl
        go_wp2
        go_ret
        exact ⟨by rw [EE.out] <;> rfl, bel_trans HB1.out HB.out⟩
theorem callSFrameTicksY (A : Option Addr) (c : Nat) (xs : List Slt) (parts : Int) (hok : sltsOk xs parts = true) (w : World) (B : Nat) (hB : B ≤ w.heap.size) (hm : xs.length ≤ 1048576) (hp1 : -10 ≤ parts) (hp2 : parts ≤ 10) (hr : Rd eSlt w B A xs) :
    Calls Try.prog 59 #[.slice A xs.length c, .int .i64 parts] w fun e w' => e = .returned (.int .i64 ((fr xs).length : Int)) ∧ Below w.heap.size w w' := by
  have := callSFrameTicks A c xs parts w B hB hm hp1 hp2 hr
  rw [show frameTicks xs parts = ((fr xs).length : Int) from by unfold frameTicks; rw [hok]; rfl] at this
  exact this

set_option maxRecDepth 100000 in
set_option maxHeartbeats 1600000 in
theorem callSWhoRuns (A : Option Addr) (c : Nat) (xs : List Slt) (parts tick : Int) (w : World) (B : Nat) (hB : B ≤ w.heap.size) (hm : xs.length ≤ 1048576) (hp1 : -10 ≤ parts) (hp2 : parts ≤ 10) (hr : Rd eSlt w B A xs) :
    Calls Try.prog 79 #[.slice A xs.length c, .int .i64 parts, .int .i64 tick] w fun e w' => e = .returned (.int .i64 (whoRuns xs parts tick)) ∧ Below w.heap.size w w' := by
  have E : Hid (whoRuns xs parts tick = if sltsOk xs parts && inB tick 0 1000000 then whoAt (fr xs) tick.toNat else -2) := rfl
  cases hok : sltsOk xs parts
  · have HK := Lib.hid hok
    clear hok
    go_enter Try.func79, Try.ntmps79
    go_wp2_with fail
    refine (callSSlotsValid A c xs parts _ B hB hm hp1 hp2 hr).mono ?_
    rintro e w1 ⟨rfl, hb1⟩
    rw [HK.out]
    have HB1 := Lib.hid hb1
    clear hb1
    go_wp2
    go_ret
    exact ⟨by rw [E.out, HK.out] <;> rfl, HB1.out⟩
  · have HK := Lib.hid hok
    clear hok
    cases q0 : inB tick 0 1000000
    · have HQ0 := Lib.hid q0
      go_enter Try.func79, Try.ntmps79
      go_wp2_with fail
      refine (callSSlotsValid A c xs parts _ B hB hm hp1 hp2 hr).mono ?_
      rintro e w1 ⟨rfl, hb1⟩
      rw [HK.out]
      have HB1 := Lib.hid hb1
      clear hb1
      go_wp2_with (go_at_call 67; refine (callL1In _ _ _ _).mono ?_; rintro e w' ⟨rfl, rfl⟩)
      go_ret
      exact ⟨by rw [E.out, HK.out, HQ0.out] <;> rfl, HB1.out⟩
    · have HQ0 := Lib.hid q0
      obtain ⟨h0, h1⟩ := inB_iff.1 q0
      obtain ⟨t, rfl⟩ := Int.eq_ofNat_of_zero_le h0
      have hbd := fr_bd HK.out
      go_enter Try.func79, Try.ntmps79
      go_wp2_with fail
      refine (callSSlotsValid A c xs parts _ B hB hm hp1 hp2 hr).mono ?_
      rintro e w1 ⟨rfl, hb1⟩
      rw [HK.out]
      have HB1 := Lib.hid hb1
      clear hb1
      go_wp2_with (go_at_call 67; refine (callL1In _ _ _ _).mono ?_; rintro e w' ⟨rfl, rfl⟩)
      refine (callSFrameTicksY A c xs parts HK.out _ B (Nat.le_trans hB HB1.out.size) hm hp1 hp2 (hr.below (HB1.out.mono hB))).mono ?_
      rintro e w2 ⟨rfl, hb2⟩
      have HB2 := Lib.hid (bel_trans HB1.out hb2)
      have HR := Lib.hid (hr.below (HB2.out.mono hB))
      clear hb2 hr
      have HA : Hid (∀ s ∈ xs, sltOk parts s = true) := (sltsOk_iff.1 HK.out).2.2
      obtain ⟨T, hT⟩ : ∃ T, T = t % (fr xs).length := ⟨_, rfl⟩
      have hTL : T < (fr xs).length := by rw [hT]; exact Nat.mod_lt _ (by omega)
      have hT2 : (t : Int) % ((fr xs).length : Int) = (T : Int) := by rw [hT]; rfl
      have HT := Lib.hid hT
      clear hT
      go_wp2
      go_loopw [7, 8] (fun a b wr => ∃ k r : Nat, k ≤ xs.length ∧ a = .int .i64 r ∧ b = .int .i64 k ∧ Below w2.heap.size w2 wr ∧ r ≤ T ∧ Hid ((fr (xs.take k)).length + r = T)) (fun _ b _ => xs.length - (intOf b).toNat)
      case atStart => exact ⟨0, T, by omega, by rw [hT2], rfl, Below.refl _ _, by omega, (show _ = _ from by simp [fr])⟩
      case round =>
        obtain ⟨k, r, hk, rfl, rfl, hbl, hrT, hsum⟩ := hrel
        have hlt := slot_round hk hsum.out hTL
        obtain ⟨b, off, rfl, hbB, h1, h2⟩ := (HR.out.below (hbl.mono (Nat.le_trans hB HB2.out.size))).at2 rfl hlt rfl
        have hs := sltOk_iff.1 (HA.out xs[k] (List.getElem_mem hlt))
        obtain ⟨m, hmt⟩ : ∃ m : Nat, xs[k].ticks = (m : Int) := ⟨xs[k].ticks.toNat, by omega⟩
        have hm1 : 1 ≤ m := by omega
        have hm2 : m ≤ 20 := by omega
        have HM := Lib.hid hmt
        rw [hmt] at h2
        clear hs hmt
        have HB := Lib.hid hbl
        clear hbl
        by_cases hrm : r < m
        · have hd : decide ((r : Int) ≥ (m : Int)) = false := decide_eq_false (by omega)
          have HS : Hid (SlotIs xs (t % (fr xs).length) k r) := ⟨hlt, by rw [← HT.out]; exact hsum.out, by rw [HM.out]; simpa using hrm⟩
          have EE : Hid (whoRuns xs parts (t : Int) = xs[k].who) := by
            show _ = _
            obtain ⟨hT', e⟩ := slot_who HS.out
            rw [E.out, HK.out, HQ0.out, Int.toNat_natCast, whoAt_mod (by omega), e]; rfl
          go_wp2
          go_ret
          exact ⟨by rw [EE.out] <;> rfl, bel_trans HB2.out HB.out⟩
        · have hst : Hid ((fr (xs.take (k + 1))).length + (r - m) = T) := by
            show _ = _
            rw [fr_snoc hlt, List.length_append, List.length_replicate, HM.out, Int.toNat_natCast]
            have := hsum.out; omega
          go_wp2
          go_roundw
          case rel => exact ⟨k + 1, r - m, by omega, by go_num, by go_num, HB.out, by omega, hst⟩
          case measure => simp [intOf]; omega




end Go.Proofs.Ytapkgncmjinedaa
