/- The functions of slots and frames of the program, second part. -/
import Derived.Test.YtbjhekkebnkejaaSlt
import Derived.Deep.QuietTactic
namespace Go.Proofs.Ytbjhekkebnkejaa
open Go.RowKit Go.Sort

set_option maxHeartbeats 800000 in
theorem callOwnTicks (A : Option Addr) (c : Nat) (xs : List Slt) (parts n tick : Int) (w : World) (B : Nat) (hB : B ≤ w.heap.size) (hm : xs.length ≤ 1048576) (hp1 : -10 ≤ parts) (hp2 : parts ≤ 10) (hr : Rd eSlt w B A xs) :
    Calls Try.prog 29 #[.slice A xs.length c, .int .i64 parts, .int .i64 n, .int .i64 tick] w fun e w' => e = .returned (.int .i64 (ownTicks xs parts n tick)) ∧ Below w.heap.size w w' := by
  have E : Hid (ownTicks xs parts n tick = if sltsOk xs parts && (inB n 0 (parts - 1) && inB tick 0 1000000) then (ownAt (fr xs) n tick.toNat : Int) else -1) := rfl
  have start := fun W => callSlotsValid A c xs parts W B
  cases hok : sltsOk xs parts
  · have HK := Lib.hid hok
    clear hok start
    go_enter Try.func29, Try.ntmps29
    go_wp2_with fail
    refine (callSlotsValid A c xs parts _ B hB hm hp1 hp2 hr).mono ?_
    rintro e w1 ⟨rfl, hb1⟩
    rw [HK.out]
    go_wp2
    go_ret
    exact ⟨by rw [E.out, HK.out] <;> rfl, hb1⟩
  · have HK := Lib.hid hok
    clear hok start
    cases q1 : inB n 0 (parts - 1)
    · have HQ := Lib.hid q1
      go_enter Try.func29, Try.ntmps29
      go_wp2_with fail
      refine (callSlotsValid A c xs parts _ B hB hm hp1 hp2 hr).mono ?_
      rintro e w1 ⟨rfl, hb1⟩
      rw [HK.out]
      have HB1 := Lib.hid hb1
      clear hb1
      go_wp2_with (go_at_call 47; refine (callIn _ _ _ _).mono ?_; rintro e w' ⟨rfl, rfl⟩)
      go_ret
      exact ⟨by rw [E.out, HK.out, HQ.out] <;> rfl, HB1.out⟩
    · have HQ := Lib.hid q1
      cases q2 : inB tick 0 1000000
      all_goals
        have HQ2 := Lib.hid q2
        go_enter Try.func29, Try.ntmps29
        go_wp2_with fail
        refine (callSlotsValid A c xs parts _ B hB hm hp1 hp2 hr).mono ?_
        rintro e w1 ⟨rfl, hb1⟩
        rw [HK.out]
        have HB1 := Lib.hid hb1
        clear hb1
      · go_wp2_with (go_at_call 47; refine (callIn _ _ _ _).mono ?_; rintro e w' ⟨rfl, rfl⟩)
        go_ret
        exact ⟨by rw [E.out, HK.out, HQ.out, HQ2.out] <;> rfl, HB1.out⟩
      · obtain ⟨h0, h1⟩ := inB_iff.1 q2
        obtain ⟨t, rfl⟩ := Int.eq_ofNat_of_zero_le h0
        have E2 : Hid (ownTicks xs parts n (t : Int) = (ownAt (fr xs) n t : Int)) := by
          show _ = _
          rw [E.out, HK.out, HQ.out, HQ2.out]; rfl
        go_wp2_with (go_at_call 47; refine (callIn _ _ _ _).mono ?_; rintro e w' ⟨rfl, rfl⟩)
        refine (callOwn A c xs parts n t _ B (Nat.le_trans hB HB1.out.size) HK.out (by omega) (hr.below (HB1.out.mono hB))).mono ?_
        rintro e w2 ⟨rfl, hb2⟩
        go_wp2
        go_ret
        exact ⟨by rw [E2.out] <;> rfl, bel_trans HB1.out hb2⟩

set_option maxHeartbeats 800000 in
theorem callShareOf (A : Option Addr) (c : Nat) (xs : List Slt) (parts n : Int) (w : World) (B : Nat) (hB : B ≤ w.heap.size) (hm : xs.length ≤ 1048576) (hp1 : -10 ≤ parts) (hp2 : parts ≤ 10) (hr : Rd eSlt w B A xs) :
    Calls Try.prog 27 #[.slice A xs.length c, .int .i64 parts, .int .i64 n] w fun e w' => e = .returned (.int .i64 (shareOf xs parts n)) ∧ Below w.heap.size w w' := by
  have E : Hid (shareOf xs parts n = if sltsOk xs parts && inB n 0 (parts - 1) then ((fr xs).count n : Int) else -1) := rfl
  cases hok : sltsOk xs parts
  · have HK := Lib.hid hok
    clear hok
    go_enter Try.func27, Try.ntmps27
    go_wp2_with fail
    refine (callSlotsValid A c xs parts _ B hB hm hp1 hp2 hr).mono ?_
    rintro e w1 ⟨rfl, hb1⟩
    rw [HK.out]
    go_wp2
    go_ret
    exact ⟨by rw [E.out, HK.out] <;> rfl, hb1⟩
  · have HK := Lib.hid hok
    clear hok
    cases q1 : inB n 0 (parts - 1)
    all_goals
      have HQ := Lib.hid q1
      go_enter Try.func27, Try.ntmps27
      go_wp2_with fail
      refine (callSlotsValid A c xs parts _ B hB hm hp1 hp2 hr).mono ?_
      rintro e w1 ⟨rfl, hb1⟩
      rw [HK.out]
      have HB1 := Lib.hid hb1
      clear hb1
    · go_wp2_with (go_at_call 47; refine (callIn _ _ _ _).mono ?_; rintro e w' ⟨rfl, rfl⟩)
      go_ret
      exact ⟨by rw [E.out, HK.out, HQ.out] <;> rfl, HB1.out⟩
    · have hbd := fr_bd HK.out
      have E2 : Hid (shareOf xs parts n = (ownAt (fr xs) n (fr xs).length : Int)) := by
        show _ = _
        rw [E.out, HK.out, HQ.out, ownAt_len (by omega)]; rfl
      go_wp2_with (go_at_call 47; refine (callIn _ _ _ _).mono ?_; rintro e w' ⟨rfl, rfl⟩)
      refine (callFrame A c xs parts _ B (Nat.le_trans hB HB1.out.size) HK.out (hr.below (HB1.out.mono hB))).mono ?_
      rintro e w2 ⟨v, rfl, hown, hb2⟩
      obtain ⟨A1, c1, hv, _, _⟩ := hown.form
      subst hv
      have HB2 := Lib.hid (bel_trans HB1.out hb2)
      clear hown hb2
      go_wp2_with fail
      refine (callOwn A c xs parts n (fr xs).length _ B (Nat.le_trans hB HB2.out.size) HK.out (by omega) (hr.below (HB2.out.mono hB))).mono ?_
      rintro e w3 ⟨rfl, hb3⟩
      go_wp2
      go_ret
      exact ⟨by rw [E2.out] <;> rfl, bel_trans HB2.out hb3⟩

def frameOf1 (xs : List Slt) (parts tick : Int) : Int := if sltsOk xs parts && tkOk tick then ((tick.toNat / (fr xs).length : Nat) : Int) else -1
def frameOf2 (xs : List Slt) (parts tick : Int) : Int := if sltsOk xs parts && tkOk tick then ((tick.toNat / (fr xs).length * (fr xs).length : Nat) : Int) else -1
set_option maxHeartbeats 800000 in
theorem callFrameOf (A : Option Addr) (c : Nat) (xs : List Slt) (parts tick : Int) (w : World) (B : Nat) (hB : B ≤ w.heap.size) (hm : xs.length ≤ 1048576) (hp1 : -10 ≤ parts) (hp2 : parts ≤ 10) (hr : Rd eSlt w B A xs) :
    Calls Try.prog 23 #[.slice A xs.length c, .int .i64 parts, .int .i64 tick] w fun e w' => e = .returned (.tuple #[.int .i64 (frameOf1 xs parts tick), .int .i64 (frameOf2 xs parts tick)]) ∧ Below w.heap.size w w' := by
  have E1 : Hid (frameOf1 xs parts tick = if sltsOk xs parts && inB tick 0 1000000 then ((tick.toNat / (fr xs).length : Nat) : Int) else -1) := rfl
  have E2 : Hid (frameOf2 xs parts tick = if sltsOk xs parts && inB tick 0 1000000 then ((tick.toNat / (fr xs).length * (fr xs).length : Nat) : Int) else -1) := rfl
  cases hok : sltsOk xs parts
  · have HK := Lib.hid hok
    clear hok
    go_enter Try.func23, Try.ntmps23
    go_wp2_with fail
    refine (callSlotsValid A c xs parts _ B hB hm hp1 hp2 hr).mono ?_
    rintro e w1 ⟨rfl, hb1⟩
    rw [HK.out]
    go_wp2
    go_ret2
    exact ⟨by rw [E1.out, E2.out, HK.out] <;> rfl, hb1⟩
  · have HK := Lib.hid hok
    clear hok
    cases q : inB tick 0 1000000
    all_goals
      have HQ := Lib.hid q
      go_enter Try.func23, Try.ntmps23
      go_wp2_with fail
      refine (callSlotsValid A c xs parts _ B hB hm hp1 hp2 hr).mono ?_
      rintro e w1 ⟨rfl, hb1⟩
      rw [HK.out]
      have HB1 := Lib.hid hb1
      clear hb1
    · go_wp2_with (go_at_call 47; refine (callIn _ _ _ _).mono ?_; rintro e w' ⟨rfl, rfl⟩)
      go_ret2
      exact ⟨by rw [E1.out, E2.out, HK.out, HQ.out] <;> rfl, HB1.out⟩
    · obtain ⟨h0, h1⟩ := inB_iff.1 q
      obtain ⟨t, rfl⟩ := Int.eq_ofNat_of_zero_le h0
      have hbd := fr_bd HK.out
      go_wp2_with (go_at_call 47; refine (callIn _ _ _ _).mono ?_; rintro e w' ⟨rfl, rfl⟩)
      refine (callFrame A c xs parts _ B (Nat.le_trans hB HB1.out.size) HK.out (hr.below (HB1.out.mono hB))).mono ?_
      rintro e w2 ⟨v, rfl, hown, hb2⟩
      obtain ⟨A1, c1, hv, _, _⟩ := hown.form
      subst hv
      have HB2 := Lib.hid (bel_trans HB1.out hb2)
      clear hown hb2
      obtain ⟨L, hL⟩ : ∃ L, L = (fr xs).length := ⟨_, rfl⟩
      rw [← hL] at hbd ⊢
      obtain ⟨d, hd⟩ : ∃ d, d = t / L := ⟨_, rfl⟩
      have hd1 : d ≤ 1000000 := by have := Nat.div_le_self t L; omega
      have hd2 : (t : Int) / (L : Int) = (d : Int) := by rw [hd]; rfl
      obtain ⟨p, hp⟩ : ∃ p, p = d * L := ⟨_, rfl⟩
      have hp1' : p ≤ t := by rw [hp, hd]; exact Nat.div_mul_le_self t L
      have hp2' : (d : Int) * (L : Int) = (p : Int) := by rw [hp]; push_cast; rfl
      have R1 : Hid (frameOf1 xs parts (t : Int) = (d : Int)) := by
        show _ = _
        rw [E1.out, HK.out, HQ.out, hd, hL]; rfl
      have R2 : Hid (frameOf2 xs parts (t : Int) = (p : Int)) := by
        show _ = _
        rw [E2.out, HK.out, HQ.out, hp, hd, hL]; rfl
      have hz : ((L : Int) == 0) = false := by rw [beq_eq_false_iff_ne]; omega
      have hi1 : (0 : Int) ≤ (t : Int) := by omega
      have hi2 : (1 : Int) ≤ (L : Int) := by omega
      clear hL hd hp
      go_wp2
      go_quiet (fail)
      go_wp2
      go_ret2
      exact ⟨by rw [R1.out, R2.out] <;> rfl, below_drewN HB2.out _⟩

/-- What SlotOf returns of a valid frame. -/
def SlotRet (xs : List Slt) (t : Nat) (e : Ending) : Prop := ∃ (k r : Nat) (h : SlotIs xs (t % (fr xs).length) k r), e = .returned (.tuple #[.int .i64 k, .int .i64 ((xs[k]'h.1).ticks - r)])
set_option maxRecDepth 100000 in
set_option maxHeartbeats 1600000 in
theorem callSlotOfYes (A : Option Addr) (c : Nat) (xs : List Slt) (parts : Int) (t : Nat) (ht : t ≤ 1000000) (w : World) (B : Nat) (hB : B ≤ w.heap.size) (hm : xs.length ≤ 1048576) (hp1 : -10 ≤ parts) (hp2 : parts ≤ 10) (hok : sltsOk xs parts = true) (hr : Rd eSlt w B A xs) :
    Calls Try.prog 25 #[.slice A xs.length c, .int .i64 parts, .int .i64 t] w fun e w' => SlotRet xs t e ∧ Below w.heap.size w w' := by
  have HK := Lib.hid hok
  have q : inB (t : Int) 0 1000000 = true := inB_iff.2 ⟨by omega, by omega⟩
  have hbd := fr_bd hok
  have HA : Hid (∀ s ∈ xs, sltOk parts s = true) := (sltsOk_iff.1 hok).2.2
  clear hok
  go_enter Try.func25, Try.ntmps25
  go_wp2_with fail
  refine (callSlotsValid A c xs parts _ B hB hm hp1 hp2 hr).mono ?_
  rintro e w1 ⟨rfl, hb1⟩
  rw [HK.out]
  have HB1 := Lib.hid hb1
  clear hb1
  go_wp2_with (go_at_call 47; refine (callIn _ _ _ _).mono ?_; rintro e w' ⟨rfl, rfl⟩)
  refine (callFrame A c xs parts _ B (Nat.le_trans hB HB1.out.size) HK.out (hr.below (HB1.out.mono hB))).mono ?_
  rintro e w2 ⟨v, rfl, hown, hb2⟩
  obtain ⟨A1, c1, hv, _, _⟩ := hown.form
  subst hv
  have HB2 := Lib.hid (bel_trans HB1.out hb2)
  have HR := Lib.hid (hr.below (HB2.out.mono hB))
  clear hown hb2 hr
  obtain ⟨T, hT⟩ : ∃ T, T = t % (fr xs).length := ⟨_, rfl⟩
  have hTL : T < (fr xs).length := by rw [hT]; exact Nat.mod_lt _ (by omega)
  have hT2 : (t : Int) % ((fr xs).length : Int) = (T : Int) := by rw [hT]; rfl
  have HT := Lib.hid hT
  clear hT
  go_wp2
  go_loopw [2, 8] (fun a b wr => ∃ k r : Nat, k ≤ xs.length ∧ a = .int .i64 r ∧ b = .int .i64 k ∧ Below w2.heap.size w2 wr ∧ r ≤ T ∧ Hid ((fr (xs.take k)).length + r = T)) (fun _ b _ => xs.length - (intOf b).toNat)
  case atStart => exact ⟨0, T, by omega, by rw [hT2], rfl, Below.refl _ _, by omega, (show _ = _ from by simp [fr])⟩
  case round =>
    obtain ⟨k, r, hk, rfl, rfl, hbl, hrT, hsum⟩ := hrel
    have hlt := slot_round hk hsum.out hTL
    obtain ⟨b, off, rfl, hbB, h1, h2⟩ := (HR.out.below (hbl.mono (Nat.le_trans hB HB2.out.size))).at2 rfl hlt rfl
    have hs := sltOk_iff.1 (HA.out xs[k] (List.getElem_mem hlt))
    obtain ⟨m, hmt⟩ : ∃ m : Nat, xs[k].ticks = (m : Int) := ⟨xs[k].ticks.toNat, by omega⟩
    have hm1 : 1 ≤ m := by omega
    have hm2 : m ≤ 20 := by omega
    have HM := Lib.hid hmt
    rw [hmt] at h2
    clear hs hmt
    have HB := Lib.hid hbl
    clear hbl
    by_cases hrm : r < m
    · have hd : decide ((r : Int) ≥ (m : Int)) = false := decide_eq_false (by omega)
      have HS : Hid (SlotIs xs (t % (fr xs).length) k r) := ⟨hlt, by rw [← HT.out]; exact hsum.out, by rw [HM.out]; simpa using hrm⟩
      go_wp2
      go_quiet (fail)
      go_wp2
      go_ret2
      exact ⟨⟨k, r, HS.out, by rw [HM.out] <;> rfl⟩, below_drewN (bel_trans HB2.out HB.out) _⟩
    · have hst : Hid ((fr (xs.take (k + 1))).length + (r - m) = T) := by
        show _ = _
        rw [fr_snoc hlt, List.length_append, List.length_replicate, HM.out, Int.toNat_natCast]
        have := hsum.out; omega
      go_wp2
      go_roundw
      case rel => exact ⟨k + 1, r - m, by omega, by go_num, by go_num, HB.out, by omega, hst⟩
      case measure => simp [intOf]; omega
set_option maxHeartbeats 800000 in
theorem callSlotOfNo (A : Option Addr) (c : Nat) (xs : List Slt) (parts tick : Int) (w : World) (B : Nat) (hB : B ≤ w.heap.size) (hm : xs.length ≤ 1048576) (hp1 : -10 ≤ parts) (hp2 : parts ≤ 10) (hno : (sltsOk xs parts && tkOk tick) = false) (hr : Rd eSlt w B A xs) :
    Calls Try.prog 25 #[.slice A xs.length c, .int .i64 parts, .int .i64 tick] w fun e w' => e = .returned (.tuple #[.int .i64 (-1), .int .i64 (-1)]) ∧ Below w.heap.size w w' := by
  have hno2 : sltsOk xs parts = false ∨ (sltsOk xs parts = true ∧ inB tick 0 1000000 = false) := by
    rw [Bool.and_eq_false_iff] at hno
    rcases hno with h | h
    · exact .inl h
    · cases h2 : sltsOk xs parts
      · exact .inl rfl
      · exact .inr ⟨rfl, h⟩
  clear hno
  rcases hno2 with hok | ⟨hok, q⟩
  · have HK := Lib.hid hok
    clear hok
    go_enter Try.func25, Try.ntmps25
    go_wp2_with fail
    refine (callSlotsValid A c xs parts _ B hB hm hp1 hp2 hr).mono ?_
    rintro e w1 ⟨rfl, hb1⟩
    rw [HK.out]
    go_wp2
    go_ret2
    exact ⟨rfl, hb1⟩
  · have HK := Lib.hid hok
    clear hok
    go_enter Try.func25, Try.ntmps25
    go_wp2_with fail
    refine (callSlotsValid A c xs parts _ B hB hm hp1 hp2 hr).mono ?_
    rintro e w1 ⟨rfl, hb1⟩
    rw [HK.out]
    have HB1 := Lib.hid hb1
    clear hb1
    go_wp2_with (go_at_call 47; refine (callIn _ _ _ _).mono ?_; rintro e w' ⟨rfl, rfl⟩)
    go_ret2
    exact ⟨rfl, HB1.out⟩

set_option maxRecDepth 100000 in
set_option maxHeartbeats 1600000 in
theorem callNextOwn (A : Option Addr) (c : Nat) (xs : List Slt) (parts n tick : Int) (w : World) (B : Nat) (hB : B ≤ w.heap.size) (hm : xs.length ≤ 1048576) (hp1 : -10 ≤ parts) (hp2 : parts ≤ 10) (hr : Rd eSlt w B A xs) :
    Calls Try.prog 35 #[.slice A xs.length c, .int .i64 parts, .int .i64 n, .int .i64 tick] w fun e w' => e = .returned (.int .i64 (nextOwn xs parts n tick)) ∧ Below w.heap.size w w' := by
  have E : Hid (nextOwn xs parts n tick = if sltsOk xs parts && (inB n 0 (parts - 1) && inB tick 0 1000000) then nextAt (fr xs) n tick.toNat else -1) := rfl
  cases hok : sltsOk xs parts
  · have HK := Lib.hid hok
    clear hok
    go_enter Try.func35, Try.ntmps35
    go_wp2_with fail
    refine (callSlotsValid A c xs parts _ B hB hm hp1 hp2 hr).mono ?_
    rintro e w1 ⟨rfl, hb1⟩
    rw [HK.out]
    go_wp2
    go_ret
    exact ⟨by rw [E.out, HK.out] <;> rfl, hb1⟩
  · have HK := Lib.hid hok
    clear hok
    cases q1 : inB n 0 (parts - 1)
    · have HQ := Lib.hid q1
      go_enter Try.func35, Try.ntmps35
      go_wp2_with fail
      refine (callSlotsValid A c xs parts _ B hB hm hp1 hp2 hr).mono ?_
      rintro e w1 ⟨rfl, hb1⟩
      rw [HK.out]
      have HB1 := Lib.hid hb1
      clear hb1
      go_wp2_with (go_at_call 47; refine (callIn _ _ _ _).mono ?_; rintro e w' ⟨rfl, rfl⟩)
      go_ret
      exact ⟨by rw [E.out, HK.out, HQ.out] <;> rfl, HB1.out⟩
    · have HQ := Lib.hid q1
      cases q2 : inB tick 0 1000000
      all_goals
        have HQ2 := Lib.hid q2
        go_enter Try.func35, Try.ntmps35
        go_wp2_with fail
        refine (callSlotsValid A c xs parts _ B hB hm hp1 hp2 hr).mono ?_
        rintro e w1 ⟨rfl, hb1⟩
        rw [HK.out]
        have HB1 := Lib.hid hb1
        clear hb1
      · go_wp2_with (go_at_call 47; refine (callIn _ _ _ _).mono ?_; rintro e w' ⟨rfl, rfl⟩)
        go_ret
        exact ⟨by rw [E.out, HK.out, HQ.out, HQ2.out] <;> rfl, HB1.out⟩
      · obtain ⟨h0, h1⟩ := inB_iff.1 q2
        obtain ⟨t, rfl⟩ := Int.eq_ofNat_of_zero_le h0
        have hbd := fr_bd HK.out
        have E2 : Hid (nextOwn xs parts n (t : Int) = nextAt (fr xs) n t) := by
          show _ = _
          rw [E.out, HK.out, HQ.out, HQ2.out]; rfl
        go_wp2_with (go_at_call 47; refine (callIn _ _ _ _).mono ?_; rintro e w' ⟨rfl, rfl⟩)
        refine (callFrame A c xs parts _ B (Nat.le_trans hB HB1.out.size) HK.out (hr.below (HB1.out.mono hB))).mono ?_
        rintro e w2 ⟨v, rfl, hown, hb2⟩
        obtain ⟨A1, c1, hv, _, _⟩ := hown.form
        subst hv
        have HB2 := Lib.hid (bel_trans HB1.out hb2)
        have HO := Lib.hid hown.rd
        clear hown hb2 q1 q2 hr
        obtain ⟨L, hL⟩ : ∃ L, L = (fr xs).length := ⟨_, rfl⟩
        rw [← hL] at hbd ⊢
        have HL := Lib.hid hL
        clear hL
        go_wp2
        go_loopw [10] (fun a wr => ∃ T : Nat, t ≤ T ∧ T ≤ t + L ∧ a = .int .i64 T ∧ Below w2.heap.size w2 wr ∧ Hid (∀ i, i < T - t → whoAt (fr xs) (t + i) ≠ n)) (fun a _ => t + L - (intOf a).toNat)
        case atStart => exact ⟨t, by omega, by omega, rfl, Below.refl _ _, fun i hi => by omega⟩
        case round =>
          obtain ⟨T, hT1, hT2, rfl, hbl, hno⟩ := hrel
          have HB := Lib.hid hbl
          clear hbl
          by_cases hlt : T < t + L
          · have hml0 : T % L < L := Nat.mod_lt _ (by omega)
            have hml : T % L < (fr xs).length := by rw [← HL.out]; exact hml0
            obtain ⟨b, off, rfl, hbB, g1⟩ := (HO.out.below HB.out).at1 rfl hml rfl
            have hw : Hid (whoAt (fr xs) T = (fr xs)[T % L]) := by
              show _ = _
              rw [whoAt_mod (by rw [← HL.out]; omega)]
              congr 1; rw [HL.out]
            by_cases he : (fr xs)[T % L] = n
            · have hd : ((fr xs)[T % L] == n) = true := by simpa using he
              have HN : Hid (nextAt (fr xs) n t = (T : Int)) := by
                show _ = _
                have := nextAt_at (f := fr xs) (n := n) (t := t) (j := T - t) (by rw [← HL.out]; omega) (by rw [show t + (T - t) = T by omega, hw.out, he]) hno.out
                rw [this]; congr 1; omega
              clear he
              go_wp2
              go_ret
              exact ⟨by rw [E2.out, HN.out] <;> rfl, bel_trans HB2.out HB.out⟩
            · have hd : ((fr xs)[T % L] == n) = false := by simpa using he
              have hst : Hid (∀ i, i < T + 1 - t → whoAt (fr xs) (t + i) ≠ n) := fun i hi => by
                rcases Nat.lt_or_ge i (T - t) with h | h
                · exact hno.out i h
                · rw [show t + i = T by omega, hw.out]; exact he
              clear he
              go_wp2
              go_roundw
              case rel => exact ⟨T + 1, by omega, by omega, by go_num, HB.out, hst⟩
              case measure => simp [intOf]; omega
          · have hTe : T = t + L := by omega
            have HN : Hid (nextAt (fr xs) n t = -1) := nextAt_none fun i hi => hno.out i (by rw [HL.out] at hTe; omega)
            have hd : decide ((T : Int) < (t : Int) + (L : Int)) = false := decide_eq_false (by omega)
            go_wp2
            go_ret
            exact ⟨by rw [E2.out, HN.out] <;> rfl, bel_trans HB2.out HB.out⟩

set_option maxRecDepth 100000 in
set_option maxHeartbeats 1600000 in
theorem callLongestGap (A : Option Addr) (c : Nat) (xs : List Slt) (parts n : Int) (w : World) (B : Nat) (hB : B ≤ w.heap.size) (hm : xs.length ≤ 1048576) (hp1 : -10 ≤ parts) (hp2 : parts ≤ 10) (hr : Rd eSlt w B A xs) :
    Calls Try.prog 38 #[.slice A xs.length c, .int .i64 parts, .int .i64 n] w fun e w' => e = .returned (.int .i64 (longestGap xs parts n)) ∧ Below w.heap.size w w' := by
  have E : Hid (longestGap xs parts n = if 1 ≤ shareOf xs parts n then (gapMost (fr xs) n (2 * (fr xs).length) : Int) else -1) := rfl
  by_cases hs : 1 ≤ shareOf xs parts n
  · have hok : sltsOk xs parts = true := by
      unfold shareOf at hs
      split at hs
      · rename_i h; rw [Bool.and_eq_true] at h; exact h.1
      · omega
    have hbd := fr_bd hok
    have HK := Lib.hid hok
    have E2 : Hid (longestGap xs parts n = (gapMost (fr xs) n (2 * (fr xs).length) : Int)) := by show _ = _; rw [E.out, if_pos hs]
    have hd0 : decide (shareOf xs parts n < 1) = false := decide_eq_false (by omega)
    have HSH : Hid (∀ W, B ≤ W.heap.size → Rd eSlt W B A xs → Calls Try.prog 27 #[.slice A xs.length c, .int .i64 parts, .int .i64 n] W fun e w' => e = .returned (.int .i64 (shareOf xs parts n)) ∧ Below W.heap.size W w') := fun W h1 h2 => callShareOf A c xs parts n W B h1 hm hp1 hp2 h2
    generalize shareOf xs parts n = sh at *
    clear hok hs E
    go_enter Try.func38, Try.ntmps38
    go_wp2_with fail
    refine (HSH.out _ hB hr).mono ?_
    rintro e w1 ⟨rfl, hb1⟩
    have HB1 := Lib.hid hb1
    clear hb1
    go_wp2_with fail
    refine (callFrame A c xs parts _ B (Nat.le_trans hB HB1.out.size) HK.out (hr.below (HB1.out.mono hB))).mono ?_
    rintro e w2 ⟨v, rfl, hown, hb2⟩
    obtain ⟨A1, c1, hv, _, _⟩ := hown.form
    subst hv
    have HB2 := Lib.hid (bel_trans HB1.out hb2)
    have HO := Lib.hid hown.rd
    clear hown hb2 hr
    obtain ⟨f, hf⟩ : ∃ f, f = fr xs := ⟨_, rfl⟩
    rw [← hf] at hbd HO E2 ⊢
    clear hf
    obtain ⟨L, hL⟩ : ∃ L, L = f.length := ⟨_, rfl⟩
    rw [← hL] at hbd E2 ⊢
    have HL := Lib.hid hL
    clear hL
    go_wp2
    go_loopw [8, 9, 21] (fun a b i wr => ∃ k x y : Nat, k ≤ 2 * L ∧ i = .int .i64 k ∧ a = .int .i64 x ∧ b = .int .i64 y ∧ x ≤ k ∧ y ≤ k ∧ Below w2.heap.size w2 wr ∧ Hid (x = gapMost f n k ∧ y = gapRun f n k)) (fun _ _ i _ => 2 * L - (intOf i).toNat)
    case atStart => exact ⟨0, 0, 0, by omega, rfl, rfl, rfl, by omega, by omega, Below.refl _ _, rfl, rfl⟩
    case round =>
      obtain ⟨k, x, y, hk, rfl, rfl, rfl, hx, hy, hbl, hxy⟩ := hrel
      have HB := Lib.hid hbl
      clear hbl
      by_cases hlt : k < 2 * L
      · have hml0 : k % L < L := Nat.mod_lt _ (by omega)
        have hml : k % L < f.length := by rw [← HL.out]; exact hml0
        obtain ⟨b, off, rfl, hbB, g1⟩ := (HO.out.below HB.out).at1 rfl hml rfl
        have hw : Hid (whoAt f k = f[k % L]) := by
          show _ = _
          rw [whoAt_mod (by rw [← HL.out]; omega)]
          congr 1; rw [HL.out]
        by_cases he : f[k % L] = n
        · have hd : (f[k % L] == n) = true := by simpa using he
          have hst : Hid (x = gapMost f n (k + 1) ∧ 0 = gapRun f n (k + 1)) := by
            have h0 : gapRun f n (k + 1) = 0 := by rw [gapRun, hw.out, if_pos he]
            exact ⟨by rw [gapMost, h0, hxy.out.1]; exact (Nat.max_eq_left (Nat.zero_le _)).symm, h0.symm⟩
          have hmx : ¬ ((x : Int) < 0) := by omega
          clear he
          go_wp2
          go_roundw
          case rel => exact ⟨k + 1, x, 0, by omega, by go_num, by first | rfl | go_num | (congr 1; omega), rfl, by omega, by omega, HB.out, hst⟩
          case measure => simp [intOf]; omega
        · have hd : (f[k % L] == n) = false := by simpa using he
          have h0 : Hid (gapRun f n (k + 1) = y + 1) := by show _ = _; rw [gapRun, hw.out, if_neg he, hxy.out.2]
          clear he
          by_cases hyx : x < y + 1
          · have hst : Hid (y + 1 = gapMost f n (k + 1) ∧ y + 1 = gapRun f n (k + 1)) := ⟨by rw [gapMost, h0.out, ← hxy.out.1]; exact (Nat.max_eq_right (by omega)).symm, h0.out.symm⟩
            go_wp2
            go_roundw
            case rel => exact ⟨k + 1, y + 1, y + 1, by omega, by go_num, by first | rfl | go_num | (congr 1; omega), by go_num, by omega, by omega, HB.out, hst⟩
            case measure => simp [intOf]; omega
          · have hst : Hid (x = gapMost f n (k + 1) ∧ y + 1 = gapRun f n (k + 1)) := ⟨by rw [gapMost, h0.out, ← hxy.out.1]; exact (Nat.max_eq_left (by omega)).symm, h0.out.symm⟩
            go_wp2
            go_roundw
            case rel => exact ⟨k + 1, x, y + 1, by omega, by go_num, by first | rfl | go_num | (congr 1; omega), by go_num, by omega, by omega, HB.out, hst⟩
            case measure => simp [intOf]; omega
      · have hke : k = 2 * L := by omega
        subst hke
        have HN : Hid (longestGap xs parts n = (x : Int)) := by show _ = _; rw [E2.out, hxy.out.1]
        go_wp2
        go_ret
        exact ⟨by rw [HN.out] <;> rfl, bel_trans HB2.out HB.out⟩
  · have hd0 : decide (shareOf xs parts n < 1) = true := decide_eq_true (by omega)
    have E2 : Hid (longestGap xs parts n = -1) := by show _ = _; rw [E.out, if_neg hs]
    have HSH : Hid (∀ W, B ≤ W.heap.size → Rd eSlt W B A xs → Calls Try.prog 27 #[.slice A xs.length c, .int .i64 parts, .int .i64 n] W fun e w' => e = .returned (.int .i64 (shareOf xs parts n)) ∧ Below W.heap.size W w') := fun W h1 h2 => callShareOf A c xs parts n W B h1 hm hp1 hp2 h2
    generalize shareOf xs parts n = sh at *
    clear hs E
    go_enter Try.func38, Try.ntmps38
    go_wp2_with fail
    refine (HSH.out _ hB hr).mono ?_
    rintro e w1 ⟨rfl, hb1⟩
    go_wp2
    go_ret
    exact ⟨by rw [E2.out] <;> rfl, hb1⟩
end Go.Proofs.Ytbjhekkebnkejaa
