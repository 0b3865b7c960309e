/- The walk of the law FnPlainStarts: true for every input, and nothing that was there is written. -/
import Derived.Test.YtlkdngjpbohgaaaDrp2
import Derived.Test.YtlkdngjpbohgaaaPas
import Derived.Test.YtlkdngjpbohgaaaSam
import Derived.Deep.QuietTactic
import Derived.BigQuiet
namespace Go.Proofs.Ytlkdngjpbohgaaa
open Go.RowKit Go.Sort

set_option maxRecDepth 100000 in
set_option maxHeartbeats 3200000 in
theorem walkFnPlainStarts (A : Option Addr) (c : Nat) (bs : List Int) (w : World) (hc : bs.length ≤ c) (hr : Rd eU8 w w.heap.size A bs) (hby : ∀ x ∈ bs, 0 ≤ x ∧ x ≤ 255) :
    Calls Try.prog 7 #[.slice A bs.length c] w fun e w' => e = .returned (.bool true) ∧ Below w.heap.size w w' := by
  by_cases hl : bs.length ≤ 1048576
  · have HC := Lib.hid (callDrawPlainStarts A c bs w hc hl hr hby)
    clear hr hby
    go_enter Try.func7, Try.ntmps7
    go_wp2_with fail
    refine HC.out.mono ?_
    rintro e w1 ⟨At, ct, ts, An, cn, ns, rfl, hrt, hrn, hct, hlt, hcn, hln, hb1⟩
    have HB1 := Lib.hid hb1
    have HT := Lib.hid hrt
    have HN := Lib.hid hrn
    clear hb1 HC hrt hrn
    obtain ⟨xs, hxs⟩ : ∃ xs, xs = plainStarts ts ns := ⟨_, rfl⟩
    obtain ⟨f, hf⟩ : ∃ f, f = padStarts ts := ⟨_, rfl⟩
    have hxl : xs.length ≤ 12 := by rw [hxs]; unfold plainStarts; rw [padSt_len]; exact (padRuns_len ts ns).1
    have hfl : f.length ≤ 12 := by
      rw [hf]; unfold padStarts; split
      · rename_i h; rw [padSt_len]; exact (padOk_iff.1 h).1
      · simp
    have T1 : ∀ W, Below w1.heap.size w1 W → Hid (Calls Try.prog 27 #[.slice At ts.length ct, .slice An ns.length cn] W fun e w' => ∃ A2 c2, e = .returned (.slice A2 xs.length c2) ∧ Own eInt 3 w' W.heap.size (.slice A2 xs.length c2) xs ∧ xs.length ≤ c2 ∧ Below W.heap.size W w') := fun W hW => by
      have := callPlainStarts At An ct cn ts ns W w1.heap.size hW.size (by omega) (by omega) (HT.out.below hW) (HN.out.below hW)
      rw [← hxs] at this; exact this
    have T2 : ∀ W, Below w1.heap.size w1 W → Hid (Calls Try.prog 28 #[.slice At ts.length ct, .slice An ns.length cn] W fun e w' => ∃ A2 c2, e = .returned (.slice A2 xs.length c2) ∧ Own eInt 3 w' W.heap.size (.slice A2 xs.length c2) xs ∧ xs.length ≤ c2 ∧ Below W.heap.size W w') := fun W hW => by
      have := callSPlainStarts At An ct cn ts ns W w1.heap.size hW.size (by omega) (by omega) (HT.out.below hW) (HN.out.below hW)
      rw [← hxs] at this; exact this
    have T3 : ∀ W, Below w1.heap.size w1 W → Hid (Calls Try.prog 29 #[.slice At ts.length ct] W fun e w' => ∃ A2 c2, e = .returned (.slice A2 f.length c2) ∧ Own eInt 3 w' W.heap.size (.slice A2 f.length c2) f ∧ f.length ≤ c2 ∧ Below W.heap.size W w') := fun W hW => by
      have := callPadStarts At ct ts W w1.heap.size hW.size hct (by omega) (HT.out.below hW)
      rw [← hf] at this; exact this
    have T4 : xs ≠ [] → ∀ W, Below w1.heap.size w1 W → Hid (Calls Try.prog 27 #[.slice At ts.length ct, .slice At ts.length ct] W fun e w' => ∃ A2 c2, e = .returned (.slice A2 f.length c2) ∧ Own eInt 3 w' W.heap.size (.slice A2 f.length c2) f ∧ f.length ≤ c2 ∧ Below W.heap.size W w') := fun hne W hW => by
      have := callPlainStarts At At ct ct ts ts W w1.heap.size hW.size (by omega) (by omega) (HT.out.below hW) (HT.out.below hW)
      rw [hxs] at hne
      rw [plain_same (needOk_iff.1 (plain_earlier hne).1).1, ← hf] at this; exact this
    have EA : Hid (xs ≠ [] → xs.length = f.length ∧ ∀ k (h1 : k < xs.length) (h2 : k < f.length), xs[k] ≤ f[k]) := fun hne => by
      subst hxs; subst hf
      exact ⟨(plain_earlier hne).2.1, (plain_earlier hne).2.2⟩
    have E3 : ∀ (ys : List Int), ys.length ≤ 12 → ∀ (A A' : Option Addr) (c c' : Nat) (W : World), Rd eInt W W.heap.size A ys → Rd eInt W W.heap.size A' ys → Hid (Calls Try.prog 13 #[.slice A ys.length c, .slice A' ys.length c'] W fun e w' => e = .returned (.bool true) ∧ Below W.heap.size W w') := fun ys hy A A' c c' W h1 h2 => by
      have := callSameInts A A' c c' ys ys W W.heap.size (Nat.le_refl _) (by omega) (by omega) h1 h2
      rw [show decide (ys = ys) = true from decide_eq_true rfl] at this; exact this
    clear hxs hf
    go_wp2_with fail
    refine (T1 _ (Below.refl _ _)).out.mono ?_
    rintro e w2 ⟨Ax, cx, rfl, hown2, hc2, hb2⟩
    have HB2 := Lib.hid hb2
    have HX2 := Lib.hid hown2.rd
    clear hb2 hown2 T1
    go_wp2_with fail
    refine (T2 _ HB2.out).out.mono ?_
    rintro e w3 ⟨Ay, cy, rfl, hown3, hc3, hb3⟩
    have HB3 := Lib.hid (bel_trans HB2.out hb3)
    have HX3 := Lib.hid (HX2.out.next hb3)
    have HY3 := Lib.hid hown3.rd
    clear hb3 hown3 T2
    go_wp2_with fail
    refine (E3 xs hxl Ax Ay cx cy _ HX3.out HY3.out).out.mono ?_
    rintro e w4 ⟨rfl, hb4⟩
    have HB4 := Lib.hid (bel_trans HB3.out hb4)
    have HX4 := Lib.hid (HX3.out.next hb4)
    clear hb4 HY3
    go_wp2_with fail
    refine (T3 _ HB4.out).out.mono ?_
    rintro e w5 ⟨Af, cf, rfl, hown5, hc5, hb5⟩
    have HB5 := Lib.hid (bel_trans HB4.out hb5)
    have HX5 := Lib.hid (HX4.out.next hb5)
    have HF5 := Lib.hid hown5.rd
    clear hb5 hown5 T3
    go_wp2_with fail
    go_loopw [7] (fun i wr => ∃ k : Nat, k ≤ xs.length ∧ i = .int .i64 k ∧ Below w5.heap.size w5 wr) (fun i _ => xs.length - (intOf i).toNat)
    case atStart => exact ⟨0, by omega, rfl, Below.refl _ _⟩
    case round =>
      obtain ⟨k, hk, rfl, hbl⟩ := hrel
      have HB := Lib.hid hbl
      clear hbl
      by_cases hlt : k < xs.length
      · have hd : decide ((k : Int) < xs.length) = true := decide_eq_true (by omega)
        have hne : xs ≠ [] := by intro e; simp [e] at hlt
        have ea := EA.out hne
        have hkf : k < f.length := by omega
        have hle := ea.2 k hlt hkf
        obtain ⟨b, off, rfl, hbB, h1⟩ := (HX5.out.below HB.out).at1 rfl hlt rfl
        obtain ⟨b', off', rfl, hbB', h2⟩ := (HF5.out.below HB.out).at1 rfl hkf rfl
        obtain ⟨x, hx⟩ : ∃ x, x = xs[k] := ⟨_, rfl⟩
        obtain ⟨y, hy⟩ : ∃ y, y = f[k] := ⟨_, rfl⟩
        rw [← hx] at h1 hle
        rw [← hy] at h2 hle
        have hd2 : decide (f.length ≤ k) = false := decide_eq_false (by omega)
        have hd3 : decide ((f.length : Int) ≤ (k : Int)) = false := decide_eq_false (by omega)
        have hd4 : decide (y < x) = false := decide_eq_false (by omega)
        have hw0 : (0 : Int) ≤ (k : Int) := by omega
        have hw1 : (k : Int) < (f.length : Int) := by omega
        have hw2 : (k : Int) < (xs.length : Int) := by omega
        clear ea hx hy hne
        go_wp2_with fail
        go_quiet (fail)
        go_wp2_with fail
        go_roundw
        case rel => exact ⟨k + 1, by omega, by go_num, below_drewN HB.out _⟩
        case measure => simp [intOf]; omega
      · have hke : k = xs.length := by omega
        subst hke
        have hd : decide ((xs.length : Int) < xs.length) = false := by simp
        have HBw := Lib.hid (bel_trans HB5.out HB.out)
        have HFw := Lib.hid (HF5.out.next HB.out)
        by_cases hx0 : xs.length = 0
        · have hq : ((xs.length : Int) == 0) = true := by rw [beq_iff_eq]; omega
          clear hx0
          go_wp2_with fail
          refine (callAlive _).mono ?_
          rintro e w9 ⟨rfl, hb9⟩
          go_wp2
          go_ret
          exact ⟨rfl, bel_trans HB1.out (bel_trans HBw.out hb9)⟩
        · have hq : ((xs.length : Int) == 0) = false := by rw [beq_eq_false_iff_ne]; omega
          have hne : xs ≠ [] := by intro e; simp [e] at hx0
          go_wp2_with fail
          refine (T4 hne _ HBw.out).out.mono ?_
          rintro e w6 ⟨Az, cz, rfl, hown6, hc6, hb6⟩
          have HB6 := Lib.hid (bel_trans HBw.out hb6)
          have HF6 := Lib.hid (HFw.out.next hb6)
          have HZ6 := Lib.hid hown6.rd
          clear hb6 hown6
          go_wp2_with fail
          refine (E3 f hfl Az Af cz cf _ HZ6.out HF6.out).out.mono ?_
          rintro e w7 ⟨rfl, hb7⟩
          have HB7 := Lib.hid (bel_trans HB6.out hb7)
          clear hb7
          go_wp2_with fail
          refine (callAlive _).mono ?_
          rintro e w9 ⟨rfl, hb9⟩
          go_wp2
          go_ret
          exact ⟨rfl, bel_trans HB1.out (bel_trans HB7.out hb9)⟩
  · have hl' : 1048576 < bs.length := by omega
    clear hr hby hl
    go_enter Try.func7, Try.ntmps7
    go_wp2
    go_ret
    exact ⟨rfl, Below.refl _ _⟩
end Go.Proofs.Ytlkdngjpbohgaaa
