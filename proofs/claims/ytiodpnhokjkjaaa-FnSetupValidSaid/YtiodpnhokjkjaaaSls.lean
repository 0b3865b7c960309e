/- The functions of slots and frames of the reference, for every input. -/
import Derived.Test.YtiodpnhokjkjaaaSlu
namespace Go.Proofs.Ytiodpnhokjkjaaa
open Go.RowKit Go.Sort

set_option maxRecDepth 100000 in
set_option maxHeartbeats 1600000 in
theorem callSSlotsValid (A : Option Addr) (c : Nat) (xs : List Slt) (parts : Int) (w : World) (B : Nat) (hB : B ≤ w.heap.size) (hm : xs.length ≤ 1048576) (hp1 : -10 ≤ parts) (hp2 : parts ≤ 10) (hr : Rd eSlt w B A xs) :
    Calls Try.prog 73 #[.slice A xs.length c, .int .i64 parts] w fun e w' => e = .returned (.bool (sltsOk xs parts)) ∧ Below w.heap.size w w' := by
  have E : Hid (sltsOk xs parts = (inB parts 0 5 && (inB xs.length 1 12 && xs.all (sltOk parts)))) := rfl
  go_enter Try.func73, Try.ntmps73
  go_wp2
  go_loopw [5] (fun i wr => ∃ k : Nat, k ≤ xs.length ∧ i = .int .i64 k ∧ Below w.heap.size w wr ∧ Hid (∀ i (_ : i < k) (h : i < xs.length), sltOk parts xs[i] = true)) (fun i _ => xs.length - (intOf i).toNat)
  case atStart => exact ⟨0, by omega, rfl, Below.refl _ _, fun i hi => by omega⟩
  case round =>
    obtain ⟨k, hk, rfl, hbl, hno⟩ := hrel
    by_cases hlt : k < xs.length
    · obtain ⟨b, off, rfl, hbB, h1, h2⟩ := (hr.below (hbl.mono hB)).at2 rfl hlt rfl
      have HB := Lib.hid hbl
      clear hbl
      have ES : Hid (sltOk parts xs[k] = (inB xs[k].ticks 1 20 && inB xs[k].who (-1) (parts - 1))) := rfl
      cases q1 : inB xs[k].ticks 1 20
      · rw [q1] at ES
        go_wp2_with (go_at_call 52; refine (callL1In _ _ _ _).mono ?_; rintro e w' ⟨rfl, rfl⟩)
        go_ret
        exact ⟨by rw [E.out, all_snoc_false hlt (by rw [ES.out]; rfl), Bool.and_false, Bool.and_false] <;> rfl, HB.out⟩
      · cases q2 : inB xs[k].who (-1) (parts - 1)
        · rw [q1, q2] at ES
          go_wp2_with (go_at_call 52; refine (callL1In _ _ _ _).mono ?_; rintro e w' ⟨rfl, rfl⟩)
          go_ret
          exact ⟨by rw [E.out, all_snoc_false hlt (by rw [ES.out]; rfl), Bool.and_false, Bool.and_false] <;> rfl, HB.out⟩
        · rw [q1, q2] at ES
          have hst : Hid (∀ i (_ : i < k + 1) (h : i < xs.length), sltOk parts xs[i] = true) := fun i hi h => by
            rcases Nat.lt_or_ge i k with h' | h'
            · exact hno.out i h' h
            · have : i = k := by omega
              subst this; exact ES.out
          go_wp2_with (go_at_call 52; refine (callL1In _ _ _ _).mono ?_; rintro e w' ⟨rfl, rfl⟩)
          go_roundw
          case rel => exact ⟨k + 1, by omega, by go_num, HB.out, hst⟩
          case measure => simp [intOf]; omega
    · have hke : k = xs.length := by omega
      subst hke
      have hd : decide ((xs.length : Int) < xs.length) = false := by simp
      have EA : Hid (sltsOk xs parts = (inB xs.length 1 12 && inB parts 0 5)) := by
        show _ = _
        rw [E.out, all_of_get fun i h => hno.out i h h, Bool.and_true, Bool.and_comm]
      cases q1 : inB (xs.length : Int) 1 12
      all_goals
        rw [q1] at EA
        go_wp2_with (go_at_call 52; refine (callL1In _ _ _ _).mono ?_; rintro e w' ⟨rfl, rfl⟩)
        go_ret
        exact ⟨by rw [EA.out] <;> simp, hbl⟩






end Go.Proofs.Ytiodpnhokjkjaaa
