/- The walk of the law FnLinkRun: true for every input, and nothing that was there is written. -/
import Derived.Test.YtonhkadbiepedaaLnv
import Derived.Test.YtonhkadbiepedaaDlr
import Derived.Test.YtonhkadbiepedaaSam
namespace Go.Proofs.Ytonhkadbiepedaa
open Go.RowKit Go.Sort

set_option maxRecDepth 100000 in
set_option maxHeartbeats 3200000 in
theorem walkFnLinkRun (A : Option Addr) (c : Nat) (bs : List Int) (w : World) (hc : bs.length ≤ c) (hr : Rd eU8 w w.heap.size A bs) (hby : ∀ x ∈ bs, 0 ≤ x ∧ x ≤ 255) :
    Calls Try.prog 7 #[.slice A bs.length c] w fun e w' => e = .returned (.bool true) ∧ Below w.heap.size w w' := by
  by_cases hl : bs.length ≤ 1048576
  · have HC := Lib.hid (callDrawLinkRun A c bs w hc hl hr hby)
    clear hr hby
    go_enter Try.func7, Try.ntmps7
    go_wp2_with fail
    refine HC.out.mono ?_
    rintro e w1 ⟨d, Av, cv, vs, rfl, hrd, hcv, hlv, hb1⟩
    have HB1 := Lib.hid hb1
    have HP := Lib.hid hrd
    clear hb1 HC hrd
    obtain ⟨r, hr⟩ : ∃ r, r = linkRun d vs := ⟨_, rfl⟩
    have hway := linkRun_cases d vs
    rw [← hr] at hway
    have T1 : Hid (∀ W, Below w1.heap.size w1 W → Calls Try.prog 27 #[.int .i64 d, .slice Av vs.length cv] W (RunRes W r)) := fun W hW => by
      rw [hr]
      exact callLinkRun Av cv d vs W w1.heap.size hW.size (by omega) (HP.out.below hW)
    have T2 : Hid (∀ W, Below w1.heap.size w1 W → Calls Try.prog 28 #[.int .i64 d, .slice Av vs.length cv] W (RunRes W r)) := fun W hW => by
      rw [hr]
      exact callSLinkRun Av cv d vs W w1.heap.size hW.size (by omega) (HP.out.below hW)
    have hrl : r.length ≤ 100 := by
      rcases hway with h | ⟨h, _, _⟩
      · rw [h]; simp
      · have := h.length_le; omega
    have HWAY := Lib.hid hway
    clear hway hr
    go_wp2_with fail
    refine (T1.out _ (Below.refl _ _)).mono ?_
    rintro e w2 ⟨Ax, cx, rfl, hown2, hc2, hb2⟩
    have HB2 := Lib.hid hb2
    have HR2 := Lib.hid hown2.rd
    clear hb2 hown2 T1
    go_wp2_with fail
    refine (T2.out _ HB2.out).mono ?_
    rintro e w3 ⟨Ay, cy, rfl, hown3, hc3, hb3⟩
    have HB3 := Lib.hid (bel_trans HB2.out hb3)
    have HR3 := Lib.hid ((HR2.out.below hb3).mono hb3.size)
    have HS3 := Lib.hid hown3.rd
    clear hb3 hown3 T2 HR2
    have SE : Hid (∀ (A A' : Option Addr) (c c' : Nat) (W : World), Rd eInt W W.heap.size A r → Rd eInt W W.heap.size A' r → Calls Try.prog 24 #[.slice A r.length c, .slice A' r.length c'] W fun e w' => e = .returned (.bool true) ∧ Below W.heap.size W w') := fun A A' c c' W h1 h2 => by
      have := callSameInts A A' c c' r r W W.heap.size (Nat.le_refl _) (by omega) (by omega) h1 h2
      rw [show decide (r = r) = true from decide_eq_true rfl] at this; exact this
    go_wp2_with fail
    refine (SE.out _ _ _ _ _ HR3.out HS3.out).mono ?_
    rintro e w4 ⟨rfl, hb4⟩
    have HB4 := Lib.hid (bel_trans HB3.out hb4)
    have HR4 := Lib.hid ((HR3.out.below hb4).mono hb4.size)
    have HP4 := Lib.hid ((HP.out.below HB4.out).mono HB4.out.size)
    clear hb4 HR3 HS3
    by_cases h0 : r.length = 0
    · have hq0 : ((r.length : Int) == 0) = true := by rw [beq_iff_eq]; omega
      clear h0
      go_wp2_with fail
      refine (callAlive _).mono ?_
      rintro e w9 ⟨rfl, hb9⟩
      go_wp2
      go_ret
      exact ⟨rfl, bel_trans HB1.out (bel_trans HB4.out hb9)⟩
    · have hq0 : ((r.length : Int) == 0) = false := by rw [beq_eq_false_iff_ne]; omega
      have hsub : r.Sublist vs := by
        rcases HWAY.out with h | ⟨h, _, _⟩
        · rw [h] at h0; exact absurd rfl h0
        · exact h
      have HALL : Hid (d < 20 → r = vs) := by
        rcases HWAY.out with h | ⟨_, h, _⟩
        · rw [h] at h0; exact absurd rfl h0
        · exact h
      have HSUB := Lib.hid hsub
      clear h0 hsub HWAY
      go_wp2_with fail
      go_loopw [6, 7] (fun u i wr => ∃ (a k : Nat), u = .int .i64 a ∧ i = .int .i64 k ∧ a ≤ r.length ∧ k ≤ vs.length ∧ Hid ((r.drop a).Sublist (vs.drop k)) ∧ Hid (Below w4.heap.size w4 wr)) (fun _ i _ => vs.length - (intOf i).toNat)
      case atStart => exact ⟨0, 0, rfl, rfl, by omega, by omega, HSUB.out, Below.refl _ _⟩
      case round =>
        obtain ⟨a, k, rfl, rfl, ha, hk, HS, HB⟩ := hrel
        by_cases hfin : k < vs.length ∧ a < r.length
        · obtain ⟨hkl, hal⟩ := hfin
          have hd1 : decide ((k : Int) < (vs.length : Int)) = true := decide_eq_true (by omega)
          have hd2 : decide (k < vs.length) = true := decide_eq_true hkl
          have hd3 : decide ((a : Int) < (r.length : Int)) = true := decide_eq_true (by omega)
          have hd4 : decide (a < r.length) = true := decide_eq_true hal
          obtain ⟨b, off, rfl, hbB, h1⟩ := (HP4.out.below HB.out).at1 rfl hkl rfl
          obtain ⟨b', off', rfl, hbB', h2⟩ := (HR4.out.below HB.out).at1 rfl hal rfl
          have hS := HS.out
          rw [List.drop_eq_getElem_cons hkl, List.drop_eq_getElem_cons hal] at hS
          obtain ⟨x, hx⟩ : ∃ x, x = vs[k] := ⟨_, rfl⟩
          obtain ⟨y, hy⟩ : ∃ y, y = r[a] := ⟨_, rfl⟩
          have HY := Lib.hid hy
          rw [← hx, ← hy] at hS
          rw [← hx] at h1
          rw [← hy] at h2
          clear hx hy
          have k1 := cell_regrown h1
          have k2 := cell_regrown h2
          by_cases hxy : x = y
          · have hS2 := Lib.hid (greedy_eq (x := y) (by rw [hxy] at hS; exact hS))
            have hq : (x == y) = true := by rw [beq_iff_eq]; exact hxy
            clear hS hxy
            go_upto_region 13 with (fail)
            go_quiet (fail)
            clear h1 h2 k1 k2
            go_wp2
            go_roundw
            case rel => exact ⟨a + 1, k + 1, by go_num, by go_num, by omega, by omega, hS2.out, below_drewN HB.out _⟩
            case measure => simp [intOf]; omega
          · have hS2 := Lib.hid (greedy_ne hS hxy)
            have hq : (x == y) = false := by rw [beq_eq_false_iff_ne]; exact hxy
            clear hS hxy
            go_upto_region 13 with (fail)
            go_quiet (fail)
            clear h1 h2 k1 k2
            go_wp2
            go_roundw
            case rel => exact ⟨a, k + 1, rfl, by go_num, by omega, by omega, by rw [List.drop_eq_getElem_cons hal, ← HY.out]; exact hS2.out, below_drewN HB.out _⟩
            case measure => simp [intOf]; omega
        · have hae : a = r.length := by
            by_cases hkl : k < vs.length
            · omega
            · have hS := HS.out
              have hkv : vs.drop k = [] := List.drop_eq_nil_of_le (by omega)
              rw [hkv] at hS
              have := hS.length_le
              rw [List.length_drop] at this
              simp at this
              omega
          have hqa : ((a : Int) == (r.length : Int)) = true := by rw [beq_iff_eq]; omega
          have hd3 : decide ((a : Int) < (r.length : Int)) = false := decide_eq_false (by omega)
          have hd4 : decide (a < r.length) = false := decide_eq_false (by omega)
          have HBr := Lib.hid (bel_trans HB4.out HB.out)
          have HRr := Lib.hid ((HR4.out.below HB.out).mono HB.out.size)
          have HPr := Lib.hid ((HP4.out.below HB.out).mono HB.out.size)
          have fin : Hid (∀ W, W = wr → d < 20 → Calls Try.prog 24 #[.slice Ax r.length cx, .slice Av vs.length cv] W fun e w' => e = .returned (.bool true) ∧ Below W.heap.size W w') := fun W hW hd => by
            subst hW
            have e := HALL.out hd
            have := SE.out Ax Av cx cv W HRr.out (by rw [e]; exact HPr.out)
            rw [← e]; exact this
          clear hae HS hfin
          by_cases hd : d < 20
          · have hg : decide (20 ≤ d) = false := decide_eq_false (by omega)
            by_cases hkl : k < vs.length
            all_goals
              (first
                | (have hd1 : decide ((k : Int) < (vs.length : Int)) = true := decide_eq_true (by omega); have hd2 : decide (k < vs.length) = true := decide_eq_true hkl)
                | (have hd1 : decide ((k : Int) < (vs.length : Int)) = false := decide_eq_false (by omega); have hd2 : decide (k < vs.length) = false := decide_eq_false hkl))
              go_wp2_with fail
              refine (fin.out _ rfl hd).mono ?_
              rintro e w9 ⟨rfl, hb9⟩
              go_wp2
              go_ret
              exact ⟨rfl, bel_trans HB1.out (bel_trans HBr.out hb9)⟩
          · have hg : decide (20 ≤ d) = true := decide_eq_true (by omega)
            by_cases hkl : k < vs.length
            all_goals
              (first
                | (have hd1 : decide ((k : Int) < (vs.length : Int)) = true := decide_eq_true (by omega); have hd2 : decide (k < vs.length) = true := decide_eq_true hkl)
                | (have hd1 : decide ((k : Int) < (vs.length : Int)) = false := decide_eq_false (by omega); have hd2 : decide (k < vs.length) = false := decide_eq_false hkl))
              go_wp2
              go_ret
              exact ⟨rfl, bel_trans HB1.out HBr.out⟩
  · have hl' : 1048576 < bs.length := by omega
    clear hr hby hl
    go_enter Try.func7, Try.ntmps7
    go_wp2
    go_ret
    exact ⟨rfl, Below.refl _ _⟩
end Go.Proofs.Ytonhkadbiepedaa
