/- The walk of the law FnLeakTime: true for every input, and nothing that was there is written. -/
import Derived.Test.YtlkdngjpbohgaaaDrl
import Derived.Test.YtlkdngjpbohgaaaCah
namespace Go.Proofs.Ytlkdngjpbohgaaa
open Go.RowKit Go.Sort

set_option maxRecDepth 100000 in
set_option maxHeartbeats 1600000 in
theorem walkFnLeakTime (A : Option Addr) (c : Nat) (bs : List Int) (w : World) (hc : bs.length ≤ c) (hr : Rd eU8 w w.heap.size A bs) (hby : ∀ x ∈ bs, 0 ≤ x ∧ x ≤ 255) :
    Calls Try.prog 11 #[.slice A bs.length c] w fun e w' => e = .returned (.bool true) ∧ Below w.heap.size w w' := by
  by_cases hl : bs.length ≤ 1048576
  · have HC := Lib.hid (callDrawLeakTime A c bs w hc hl hr hby)
    clear hr hby
    go_enter Try.func11, Try.ntmps11
    go_wp2_with fail
    refine HC.out.mono ?_
    rintro e w1 ⟨n, Aq, cq, qs, Ap, cp, ps, rfl, hrq, hrp, hcq, hlq, hcp, hlp, hb1⟩
    have HB1 := Lib.hid hb1
    have HQ := Lib.hid hrq
    have HP := Lib.hid hrp
    clear hb1 HC hrq hrp
    obtain ⟨d, hd⟩ : ∃ d, d = leakTime n qs ps := ⟨_, rfl⟩
    have hbd := leak_bd (n := n) (before := qs) (places := ps)
    have T1 : ∀ W, Below w1.heap.size w1 W → Hid (Calls Try.prog 35 #[.int .i64 n, .slice Aq qs.length cq, .slice Ap ps.length cp] W fun e w' => e = .returned (.int .i64 d) ∧ Below W.heap.size W w') := fun W hW => by
      have := callLeakTime Aq Ap cq cp n qs ps W w1.heap.size hW.size (by omega) (by omega) (HQ.out.below hW) (HP.out.below hW)
      rw [← hd] at this; exact this
    have T2 : ∀ W, Below w1.heap.size w1 W → Hid (Calls Try.prog 36 #[.int .i64 n, .slice Aq qs.length cq, .slice Ap ps.length cp] W fun e w' => e = .returned (.int .i64 d) ∧ Below W.heap.size W w') := fun W hW => by
      have := callSLeakTime Aq Ap cq cp n qs ps W w1.heap.size hW.size (by omega) (by omega) (HQ.out.below hW) (HP.out.below hW)
      rw [← hd] at this; exact this
    have T3 : ∀ W, Below w1.heap.size w1 W → Hid (Calls Try.prog 35 #[.int .i64 n, .slice none 0 0, .slice Ap ps.length cp] W fun e w' => e = .returned (.int .i64 0) ∧ Below W.heap.size W w') := fun W hW => by
      have := callLeakTime none Ap 0 cp n [] ps W w1.heap.size hW.size (by simp) (by omega) Rd.nil (HP.out.below hW)
      rw [leak_nil] at this; exact this
    rw [← hd] at hbd
    have hdd : (d != d) = false := by simp
    have hle : decide (d ≤ 0) = true := decide_eq_true (by omega)
    have hge : decide (-(ps.length : Int) * 7 ≤ d) = true := decide_eq_true (by omega)
    have hge2 : decide (d ≥ -(ps.length : Int) * 7) = true := decide_eq_true (by omega)
    clear hd
    go_wp2_with fail
    refine (T1 _ (Below.refl _ _)).out.mono ?_
    rintro e w2 ⟨rfl, hb2⟩
    have HB2 := Lib.hid hb2
    clear hb2
    go_wp2_with fail
    refine (T2 _ HB2.out).out.mono ?_
    rintro e w3 ⟨rfl, hb3⟩
    have HB3 := Lib.hid (bel_trans HB2.out hb3)
    clear hb3
    go_wp2_with fail
    refine (T3 _ HB3.out).out.mono ?_
    rintro e w4 ⟨rfl, hb4⟩
    have HB4 := Lib.hid (bel_trans HB3.out hb4)
    clear hb4 T1 T2 T3
    go_wp2_with fail
    refine (callAlive _).mono ?_
    rintro e w9 ⟨rfl, hb9⟩
    go_wp2
    go_ret
    exact ⟨rfl, bel_trans HB1.out (bel_trans HB4.out hb9)⟩
  · have hl' : 1048576 < bs.length := by omega
    clear hr hby hl
    go_enter Try.func11, Try.ntmps11
    go_wp2
    go_ret
    exact ⟨rfl, Below.refl _ _⟩
end Go.Proofs.Ytlkdngjpbohgaaa
