/- The walk of the law FnServeAll: true for every input, and nothing that was there is written. -/
import Derived.Test.YtonhkadbiepedaaDoorDrn
import Derived.Test.YtonhkadbiepedaaDoorLis
import Derived.Test.YtonhkadbiepedaaDoorSam
import Derived.Test.YtonhkadbiepedaaDoorBox2
namespace Go.Proofs.YtonhkadbiepedaaDoor
open Go.RowKit Go.Sort

theorem add_small {x y : Int} (h0 : 0 ≤ x) (hy : 0 ≤ y) (h1 : x + y ≤ 255) : IntKind.i64.wrap (x + y) = x + y := by rw [IntKind.wrap_i64]; omega

set_option maxRecDepth 100000 in
set_option maxHeartbeats 1600000 in
theorem walkFnServeAll (A : Option Addr) (c : Nat) (bs : List Int) (w : World) (hT : TabW w) (hc : bs.length ≤ c) (hr : Rd eU8 w w.heap.size A bs) (hby : ∀ x ∈ bs, 0 ≤ x ∧ x ≤ 255) :
    Calls Tryd.prog 5 #[.slice A bs.length c] w fun e w' => e = .returned (.bool true) ∧ Below w.heap.size w w' := by
  by_cases hl : bs.length ≤ 1048576
  · have HC := Lib.hid (callDrawServeAll A c bs w hc hl hr hby)
    clear hr hby
    go_enter Tryd.func5, Tryd.ntmps5
    go_wp2_with fail
    refine HC.out.mono ?_
    rintro e w1 ⟨⟨r, m⟩, rfl, hb1⟩
    have HX1 := Lib.hid (heap_alloc_new w1 (linBox ⟨r, m⟩))
    have HB1 := Lib.hid (bel_trans hb1 (below1 w1 (linBox ⟨r, m⟩)))
    have HT1 : Hid (TabW (w1.alloc (linBox ⟨r, m⟩))) := hT.below HB1.out
    have hL8 := all_len ⟨r, m⟩
    obtain ⟨L, hL⟩ : ∃ L, L = allP ⟨r, m⟩ := ⟨_, rfl⟩
    have HA := Lib.hid (callServeAll ⟨r, m⟩ _ HT1.out)
    have HS : ∀ W, Hid (Calls Tryd.prog 17 #[(⟨r, m⟩ : Lin).val] W fun e w' => ∃ A c, e = .returned (.slice A L.length c) ∧ Own eInt 3 w' W.heap.size (.slice A L.length c) L ∧ L.length ≤ c ∧ Below W.heap.size W w') := fun W => by
      have := callSServeAll ⟨r, m⟩ W
      rw [← hL] at this; exact this
    rw [← hL] at HA hL8
    have HL := Lib.hid hL
    have HL8 := Lib.hid hL8
    clear hb1 HC hT hL hL8
    go_upto_region 4 with (fail)
    obtain ⟨v1, hv1⟩ : ∃ v1, v1 = w1.alloc (linBox ⟨r, m⟩) := ⟨_, rfl⟩
    obtain ⟨X, hX⟩ : ∃ X, X = w1.heap.size := ⟨_, rfl⟩
    rw [← hv1] at HX1 HB1 HA HT1 ⊢
    rw [← hX] at HX1 ⊢
    clear hv1 hX HT1
    obtain ⟨x1, x2, _, _, x5⟩ := cell2 HX1.out
    go_wp2_with fail
    refine HA.out.mono ?_
    rintro e w2 ⟨A2, c2, rfl, ho2, hc2, hb2⟩
    have HX2 := Lib.hid (blkc HX1.out hb2)
    have HR2 := Lib.hid ho2.rd
    have HB2 := Lib.hid (bel_trans HB1.out hb2)
    clear x1 x2 x5 HA hb2 ho2 HX1 HB1
    obtain ⟨x1, x2, _, _, x5⟩ := cell2 HX2.out
    go_wp2_with fail
    refine (HS _).out.mono ?_
    rintro e w3 ⟨A3, c3, rfl, ho3, hc3, hb3⟩
    have HX3 := Lib.hid (blkc HX2.out hb3)
    have HR3 := Lib.hid ((HR2.out.below hb3).mono hb3.size)
    have HQ3 := Lib.hid ho3.rd
    have HB3 := Lib.hid (bel_trans HB2.out hb3)
    clear x1 x2 x5 HS hb3 ho3 HX2 HR2 HB2
    go_wp2_with fail
    refine (callSameInts A2 A3 c2 c3 L L w3 _ (Nat.le_refl _) (by have := HL8.out; omega) (by have := HL8.out; omega) HR3.out HQ3.out).mono ?_
    rintro e w4 ⟨rfl, hb4⟩
    have hdq : decide (L = L) = true := decide_eq_true rfl
    have HX4 := Lib.hid (blkc HX3.out hb4)
    have HR4 := Lib.hid ((HR3.out.below hb4).mono hb4.size)
    have HB4 := Lib.hid (bel_trans HB3.out hb4)
    clear hb4 HX3 HR3 HQ3 HB3
    obtain ⟨x1, x2, _, _, x5⟩ := cell2 HX4.out
    cases q : linOk ⟨r, m⟩
    · have HE : Hid (L = []) := by show _ = _; rw [HL.out]; exact all_bad q
      have HV := Lib.hid (callSLinesValid ⟨r, m⟩ w4)
      rw [q] at HV
      have hlz : ((L.length : Int) == 0) = true := by rw [HE.out]; rfl
      go_wp2_with (first | (go_at_call 9; refine HV.out.mono ?_; rintro e w5 ⟨rfl, rfl⟩) | (go_at_call 10; refine (callAlive _).mono ?_; rintro e w6 ⟨rfl, hb6⟩))
      go_ret
      exact ⟨rfl, bel_trans (bel_trans HB4.out (below1 _ _)) hb6⟩
    · have HV := Lib.hid (callSLinesValid ⟨r, m⟩ w4)
      rw [q] at HV
      have HB5 := Lib.hid (bel_trans HB4.out (below1 w4 (linBox ⟨r, m⟩)))
      have HX5 := Lib.hid (blkc HX4.out (below1 w4 (linBox ⟨r, m⟩)))
      have HR5 := Lib.hid ((HR4.out.below (below1 w4 (linBox ⟨r, m⟩))).mono (below1 w4 (linBox ⟨r, m⟩)).size)
      obtain ⟨a, b, hab, ha, hb⟩ := lin_nat q
      injection hab with h1 h2
      subst h1; subst h2
      have HAT : Hid (∀ (k : Nat) (hk : k < L.length), ∃ n : Nat, L[k] = (n : Int) ∧ n < 8 ∧ (∀ (j : Nat) (hj : j < L.length), j + 1 = k → L[j] < (n : Int)) ∧ sumB L (k + 1) = sumB L k + ((2 ^ n : Nat) : Int) ∧ 0 ≤ sumB L k ∧ sumB L (k + 1) ≤ 255) := by
        have := HL.out
        rw [all_ok ha hb] at this
        subst this
        exact fun k hk => bits_at (and_lt ha) hk
      have HEND : Hid (sumB L L.length = ((a &&& (255 - b) : Nat) : Int)) := by
        have := HL.out
        rw [all_ok ha hb] at this
        subst this
        exact sum_end (and_lt ha)
      have ho := and_i64 a b ha hb
      clear HX4 HR4 HB4
      go_upto_region 11 with (go_at_call 9; refine HV.out.mono ?_; rintro e w5 ⟨rfl, rfl⟩)
      go_loopw [5, 6] (fun bv kv wr => ∃ k : Nat, k ≤ L.length ∧ bv = .int .i64 (sumB L k) ∧ kv = .int .i64 k ∧ Below (w4.alloc (linBox ⟨(a : Int), (b : Int)⟩)).heap.size (w4.alloc (linBox ⟨(a : Int), (b : Int)⟩)) wr) (fun _ kv _ => L.length - (intOf kv).toNat)
      case atStart => exact ⟨0, by omega, rfl, rfl, Below.refl _ _⟩
      case round =>
        obtain ⟨k, hk, rfl, rfl, hbl⟩ := hrel
        have HBr := Lib.hid hbl
        clear hbl
        by_cases hlt : k < L.length
        · obtain ⟨n, hn, hn8, hlo, hsum, hs0, hs1⟩ := HAT.out k hlt
          obtain ⟨bb, off, rfl, hbB, h1⟩ := (HR5.out.below HBr.out).at1 rfl hlt rfl
          obtain ⟨s1, s2⟩ := shlw hn8
          obtain ⟨p, hp⟩ : ∃ p : Nat, p = 2 ^ n := ⟨_, rfl⟩
          rw [← hp] at s1 s2 hsum
          clear hp
          have hd : decide ((k : Int) < L.length) = true := decide_eq_true (by omega)
          rw [hn] at h1
          have hadd : IntKind.i64.wrap (sumB L k + (p : Int)) = sumB L k + (p : Int) := add_small hs0 (Int.natCast_nonneg p) (by rw [← hsum]; exact hs1)
          have k1 := cell_regrown h1
          have hv0 : decide ((n : Int) < 0) = false := decide_eq_false (by omega)
          have hv7 : decide ((n : Int) > 7) = false := decide_eq_false (by omega)
          have hv7' : decide (7 < (n : Int)) = false := decide_eq_false (by omega)
          clear hs0 hs1
          rcases Nat.eq_zero_or_pos k with h0 | hpos
          · subst h0
            have HSU := Lib.hid hsum
            clear hn hlo hsum
            rw [Nat.add_zero] at h1
            have k2 := cell_regrown h1
            clear k1
            have hlt0 : (0 : Int) < L.length := by omega
            go_wp2
            go_quiet (fail)
            go_wp2
            go_roundw
            case rel => exact ⟨1, by omega, by rw [HSU.out], by go_num, below_drewN HBr.out _⟩
            case measure => simp [intOf]; omega
          · obtain ⟨k', rfl⟩ : ∃ k', k = k' + 1 := ⟨k - 1, by omega⟩
            have hlt' : k' < L.length := by omega
            have hlo' := hlo k' hlt' rfl
            obtain ⟨bb2, off2, he2, hbB2, h2⟩ := (HR5.out.below HBr.out).at1 rfl hlt' rfl
            injection he2 with he2
            injection he2 with he3 he4
            subst he3; subst he4
            generalize L[k'] = y at h2 hlo'
            have hge : decide ((n : Int) ≤ y) = false := decide_eq_false (by omega)
            have hge2 : decide (y ≥ (n : Int)) = false := decide_eq_false (by omega)
            have HSU := Lib.hid hsum
            clear hn hlo hsum
            have k2 := cell_regrown h2
            have g0 : (0 : Int) ≤ (k' : Int) + 1 := by omega
            have g1 : (k' : Int) + 1 < L.length := by omega
            have g2 : (k' : Int) < L.length := by omega
            have g3 : decide ((0 : Int) < (k' : Int) + 1) = true := decide_eq_true (by omega)
            have hl8 : L.length ≤ 8 := HL8.out
            have g5 : IntKind.i64.wrap (k' : Int) = (k' : Int) := by rw [IntKind.wrap_i64]; omega
            go_wp2
            go_quiet (fail)
            go_wp2
            go_roundw
            case rel => exact ⟨k' + 1 + 1, by omega, by rw [HSU.out], by go_num, below_drewN HBr.out _⟩
            case measure => simp [intOf]; omega
        · obtain rfl : k = L.length := by omega
          have hd : decide ((L.length : Int) < L.length) = false := by simp
          obtain ⟨y1, y2, _, _, y5⟩ := cell2 (blkc HX5.out HBr.out)
          have hsE := HEND.out
          have hqq : (((a &&& (255 - b) : Nat) : Int) == ((a &&& (255 - b) : Nat) : Int)) = true := by simp
          rw [hsE]
          go_wp2
          go_ret
          exact ⟨by simp, bel_trans HB5.out HBr.out⟩
  · have hl' : (1048576 : Int) < bs.length := by omega
    clear hr hby hT
    go_enter Tryd.func5, Tryd.ntmps5
    go_wp2
    go_ret
    exact ⟨rfl, Below.refl _ _⟩
end Go.Proofs.YtonhkadbiepedaaDoor
