/- The walk of the law FnMaskLine: true for every input, and nothing that was there is written. -/
import Derived.Test.YtonhkadbiepedaaDoorDrn
import Derived.Test.YtonhkadbiepedaaDoorLis
import Derived.Test.YtonhkadbiepedaaDoorBox2
namespace Go.Proofs.YtonhkadbiepedaaDoor
open Go.RowKit Go.Sort

theorem mem_take_snoc {L : List Int} {i : Nat} (h : i < L.length) (x : Int) : decide (x ∈ L.take (i + 1)) = (decide (x ∈ L.take i) || (L[i] == x)) := by
  have hm : x ∈ L.take (i + 1) ↔ (x ∈ L.take i ∨ L[i] = x) := by
    rw [List.take_succ_eq_append_getElem h, List.mem_append, List.mem_singleton]
    exact or_congr Iff.rfl ⟨fun e => e.symm, fun e => e.symm⟩
  rw [decide_eq_decide.2 hm, Bool.decide_or]
  rfl
theorem mask_served {a b k : Nat} (on : Bool) (ha : a < 256) (hb : b < 256) (hk : k < 8) : decide ((k : Int) ∈ allP (maskP ⟨(a : Int), (b : Int)⟩ (k : Int) on)) = (!on && a.testBit k) := by
  rw [mask_ok on ha hb hk]
  have hm := mask_bit ⟨b, hb⟩ ⟨k, hk⟩
  simp only [setB, clrB] at hm
  cases on
  · have hb2 : b &&& (255 - 2 ^ k) < 256 := and_lt hb
    simp only [Bool.false_eq_true, if_false]
    rw [all_ok ha hb2, mem_bits ⟨a &&& (255 - (b &&& (255 - 2 ^ k))), and_lt ha⟩ ⟨k, hk⟩]
    have := open_bit (r := a) hb2 hk
    unfold openN at this
    rw [this, hm.2.1]; simp
  · have hb2 : b ||| 2 ^ k < 256 := set_lt hb hk
    simp only [if_true]
    rw [all_ok ha hb2, mem_bits ⟨a &&& (255 - (b ||| 2 ^ k)), and_lt ha⟩ ⟨k, hk⟩]
    have := open_bit (r := a) hb2 hk
    unfold openN at this
    rw [this, hm.1]; simp
theorem mask_mask {l : Lin} {n : Int} (h : (linOk l && inB n 0 7) = true) : maskP (maskP l n true) n false = maskP l n false := by
  rw [Bool.and_eq_true] at h
  obtain ⟨i, rfl⟩ : ∃ i : Nat, n = (i : Int) := ⟨n.toNat, by have := inB_iff.1 h.2; omega⟩
  have hi : i < 8 := by have := inB_iff.1 h.2; omega
  obtain ⟨a, b, rfl, ha, hb⟩ := lin_nat h.1
  have hb2 : b ||| 2 ^ i < 256 := set_lt hb hi
  rw [mask_ok true ha hb hi, mask_ok false ha hb hi]
  simp only [if_true]
  rw [mask_ok false ha hb2 hi]
  have hm := (mask_bit ⟨b, hb⟩ ⟨i, hi⟩).2.2.2.2
  simp only [setB, clrB] at hm
  simp only [Bool.false_eq_true, if_false]
  rw [hm]

set_option maxRecDepth 100000 in
set_option maxHeartbeats 6400000 in
theorem walkFnMaskLine (A : Option Addr) (c : Nat) (bs : List Int) (w : World) (hT : TabW w) (hc : bs.length ≤ c) (hr : Rd eU8 w w.heap.size A bs) (hby : ∀ x ∈ bs, 0 ≤ x ∧ x ≤ 255) :
    Calls Tryd.prog 3 #[.slice A bs.length c] w fun e w' => e = .returned (.bool true) ∧ Below w.heap.size w w' := by
  by_cases hl : bs.length ≤ 1048576
  · have HC := Lib.hid (callDrawMaskLine A c bs w hc hl hr hby)
    clear hr hby
    go_enter Tryd.func3, Tryd.ntmps3
    go_wp2_with fail
    refine HC.out.mono ?_
    rintro e w1 ⟨⟨r, m⟩, n, on, rfl, hn0, hn8, hb1⟩
    have HX1 := Lib.hid (heap_alloc_new w1 (linBox ⟨r, m⟩))
    have HB1 := Lib.hid (bel_trans hb1 (below1 w1 (linBox ⟨r, m⟩)))
    have HTW : ∀ W, Below w.heap.size w W → Hid (TabW W) := fun W h => hT.below h
    obtain ⟨x, hx⟩ : ∃ x, x = maskP ⟨r, m⟩ n on := ⟨_, rfl⟩
    have R1 : ∀ W, Hid (Calls Tryd.prog 7 #[(⟨r, m⟩ : Lin).val, .int .i64 n, .bool on] W fun e w' => e = .returned x.val ∧ Below W.heap.size W w') := fun W => by
      have := callMaskLine ⟨r, m⟩ n on W
      rw [← hx] at this; exact this
    have R2 : ∀ W, Hid (QCall Tryd.prog 8 #[(⟨r, m⟩ : Lin).val, .int .i64 n, .bool on] W x.val) := fun W => by
      refine QCall.of fun W' _ => ?_
      have := callSMaskLine ⟨r, m⟩ n on W'
      rw [← hx] at this; exact this
    have HX := Lib.hid hx
    clear hx hb1 HC hT
    obtain ⟨xr, xm⟩ := x
    go_upto_region 4 with (fail)
    obtain ⟨v1, hv1⟩ : ∃ v1, v1 = w1.alloc (linBox ⟨r, m⟩) := ⟨_, rfl⟩
    obtain ⟨X, hX⟩ : ∃ X, X = w1.heap.size := ⟨_, rfl⟩
    rw [← hv1] at HX1 HB1 ⊢
    rw [← hX] at HX1 ⊢
    clear hv1 hX
    obtain ⟨x1, x2, _, _, x5⟩ := cell2 HX1.out
    go_wp2_with fail
    refine (R1 _).out.mono ?_
    rintro e w2 ⟨rfl, hb2⟩
    have HX2 := Lib.hid (blkc (blkc HX1.out hb2) (below1 w2 (linBox ⟨xr, xm⟩)))
    have HY2 := Lib.hid (heap_alloc_new w2 (linBox ⟨xr, xm⟩))
    have HB2 := Lib.hid (bel_trans (bel_trans HB1.out hb2) (below1 w2 (linBox ⟨xr, xm⟩)))
    clear x1 x2 x5 R1 hb2 HX1 HB1
    go_upto_region 5 with (fail)
    obtain ⟨v2, hv2⟩ : ∃ v2, v2 = w2.alloc (linBox ⟨xr, xm⟩) := ⟨_, rfl⟩
    obtain ⟨Y, hY⟩ : ∃ Y, Y = w2.heap.size := ⟨_, rfl⟩
    rw [← hv2] at HX2 HY2 HB2 ⊢
    rw [← hY] at HY2 ⊢
    clear hv2 hY
    obtain ⟨x1, x2, _, _, x5⟩ := cell2 HX2.out
    obtain ⟨y1, y2, _, _, y5⟩ := cell2 HY2.out
    have neqs := neqLin
    have eqls := eqlLin
    have gdl := guardLin
    have hq1 : (xr == xr) = true := by simp
    have hq2 : (xm == xm) = true := by simp
    refine wp_region_quiet_below (by kernel_rfl) (by kernel_rfl) ?_
    have xx1 := cell_regrown x1
    have xx2 := cell_regrown x2
    have yy1 := cell_regrown y1
    have yy2 := cell_regrown y2
    repeat (first | go_big_quiet_step ((go_at_call 8; exact (R2 _).out _ _)) | quiet_step ((go_at_call 8; exact (R2 _).out _ _)))
    refine wpQuiet_nil ?_
    intro v3 hv3
    have hb3 := below_of_regrown hv3
    have HX3 := Lib.hid (blkc HX2.out hb3)
    have HY3 := Lib.hid (blkc HY2.out hb3)
    have HB3 := Lib.hid (bel_trans HB2.out hb3)
    clear hb3 hv3 x1 x2 x5 y1 y2 y5 xx1 xx2 yy1 yy2 HX2 HY2 HB2 R2
    obtain ⟨x1, x2, _, _, x5⟩ := cell2 HX3.out
    obtain ⟨y1, y2, _, _, y5⟩ := cell2 HY3.out
    have V : ∀ W, Hid (Calls Tryd.prog 9 #[(⟨r, m⟩ : Lin).val] W fun e w' => e = .returned (.bool (linOk ⟨r, m⟩)) ∧ Below W.heap.size W w') := fun W => (callSLinesValid ⟨r, m⟩ W).mono fun e w' ⟨he, hw⟩ => ⟨he, by subst hw; exact below1 _ _⟩
    cases q : (linOk ⟨r, m⟩ && inB n 0 7)
    · have hxz := HX.out
      rw [mask_bad on q] at hxz
      injection hxz with hz1 hz2
      subst hz1; subst hz2
      have hz0 : ((0 : Int) == 0) = true := rfl
      cases q1 : linOk ⟨r, m⟩
      · rw [q1] at V
        go_wp2_with (first | (go_at_call 9; refine (V _).out.mono ?_; rintro e w4 ⟨rfl, hb4⟩; obtain ⟨m1, m2, _, _, _⟩ := cell2 (blkc HY3.out hb4)) | (go_at_call 10; refine (callAlive _).mono ?_; rintro e w6 ⟨rfl, hb6⟩))
        go_ret
        exact ⟨rfl, bel_trans (bel_trans HB3.out hb4) hb6⟩
      · rw [q1] at V
        rw [q1, Bool.true_and, inB_not] at q
        rcases q with q | q
        · have hd1 : decide (n < 0) = true := decide_eq_true q
          go_wp2_with (first | (go_at_call 9; refine (V _).out.mono ?_; rintro e w4 ⟨rfl, hb4⟩; obtain ⟨m1, m2, _, _, _⟩ := cell2 (blkc HY3.out hb4)) | (go_at_call 10; refine (callAlive _).mono ?_; rintro e w6 ⟨rfl, hb6⟩))
          go_ret
          exact ⟨rfl, bel_trans (bel_trans HB3.out hb4) hb6⟩
        · have hd1 : decide (n < 0) = false := decide_eq_false (by omega)
          have hd2 : decide (7 < n) = true := decide_eq_true q
          go_wp2_with (first | (go_at_call 9; refine (V _).out.mono ?_; rintro e w4 ⟨rfl, hb4⟩; obtain ⟨m1, m2, _, _, _⟩ := cell2 (blkc HY3.out hb4)) | (go_at_call 10; refine (callAlive _).mono ?_; rintro e w6 ⟨rfl, hb6⟩))
          go_ret
          exact ⟨rfl, bel_trans (bel_trans HB3.out hb4) hb6⟩
    · have HMM := mask_mask q
      have q0 := q
      rw [Bool.and_eq_true] at q
      obtain ⟨q1, q2⟩ := q
      rw [q1] at V
      have hin := inB_iff.1 q2
      obtain ⟨k, rfl⟩ : ∃ k : Nat, n = (k : Int) := ⟨n.toNat, by omega⟩
      have hk : k < 8 := by omega
      obtain ⟨a, b, hab, ha, hb⟩ := lin_nat q1
      injection hab with e1 e2
      subst e1; subst e2
      have HMS := mask_served on ha hb hk
      rw [← HX.out] at HMS
      have hxa : xr = (a : Int) := by have := HX.out; rw [mask_ok on ha hb hk] at this; injection this
      subst hxa
      obtain ⟨L, hL⟩ : ∃ L, L = allP ⟨(a : Int), xm⟩ := ⟨_, rfl⟩
      have SA : ∀ W, Below w.heap.size w W → Hid (Calls Tryd.prog 11 #[(⟨(a : Int), xm⟩ : Lin).val] W fun e w' => ∃ A c, e = .returned (.slice A L.length c) ∧ Own eInt 3 w' W.heap.size (.slice A L.length c) L ∧ L.length ≤ c ∧ Below W.heap.size W w') := fun W h => by
        have := callServeAll ⟨(a : Int), xm⟩ W (HTW W h).out
        rw [← hL] at this; exact this
      have hL8 : L.length ≤ 8 := by rw [hL]; exact all_len _
      rw [← hL] at HMS
      have HMS' := Lib.hid HMS
      have SHR := shr_bit ha hk
      obtain ⟨u1, hu1⟩ : ∃ u1, u1 = maskP ⟨(a : Int), (b : Int)⟩ (k : Int) true := ⟨_, rfl⟩
      obtain ⟨u2, hu2⟩ : ∃ u2, u2 = maskP ⟨(a : Int), (b : Int)⟩ (k : Int) false := ⟨_, rfl⟩
      rw [← hu1, ← hu2] at HMM
      have M1 : ∀ W, Hid (QCall Tryd.prog 7 #[(⟨(a : Int), (b : Int)⟩ : Lin).val, .int .i64 (k : Int), .bool true] W u1.val) := fun W => by
        refine QCall.of fun W' _ => ?_
        have := callMaskLine ⟨(a : Int), (b : Int)⟩ (k : Int) true W'
        rw [← hu1] at this; exact this
      have M2 : ∀ W, Hid (QCall Tryd.prog 7 #[(⟨(a : Int), (b : Int)⟩ : Lin).val, .int .i64 (k : Int), .bool false] W u2.val) := fun W => by
        refine QCall.of fun W' _ => ?_
        have := callMaskLine ⟨(a : Int), (b : Int)⟩ (k : Int) false W'
        rw [← hu2] at this; exact this
      have M3 : ∀ W, Hid (QCall Tryd.prog 7 #[u1.val, .int .i64 (k : Int), .bool false] W u2.val) := fun W => by
        refine QCall.of fun W' _ => ?_
        have := callMaskLine u1 (k : Int) false W'
        rw [HMM] at this; exact this
      clear HMM hu1 hu2 HX HMS hL q0 q1 q2 HTW
      obtain ⟨p1, p2⟩ := u1
      obtain ⟨p3, p4⟩ := u2
      have N1 : ∀ (W : World) (d : Nat) (os : Array Obj), Calls Tryd.prog 7 #[.agg #[.int .i64 (a : Int), .int .i64 (b : Int)], .int .i64 (k : Int), .bool true] (grow (redrawn W d) os) fun e w'' => e = .returned (.agg #[.int .i64 p1, .int .i64 p2]) ∧ ∃ p : Regrown, w'' = grow (redrawn W p.d) p.os := fun W d os => (M1 W).out d os
      have N2 : ∀ (W : World) (d : Nat) (os : Array Obj), Calls Tryd.prog 7 #[.agg #[.int .i64 (a : Int), .int .i64 (b : Int)], .int .i64 (k : Int), .bool false] (grow (redrawn W d) os) fun e w'' => e = .returned (.agg #[.int .i64 p3, .int .i64 p4]) ∧ ∃ p : Regrown, w'' = grow (redrawn W p.d) p.os := fun W d os => (M2 W).out d os
      have N3 : ∀ (W : World) (d : Nat) (os : Array Obj), Calls Tryd.prog 7 #[.agg #[.int .i64 p1, .int .i64 p2], .int .i64 (k : Int), .bool false] (grow (redrawn W d) os) fun e w'' => e = .returned (.agg #[.int .i64 p3, .int .i64 p4]) ∧ ∃ p : Regrown, w'' = grow (redrawn W p.d) p.os := fun W d os => (M3 W).out d os
      clear M1 M2 M3
      have hq3 : (p3 == p3) = true := by simp
      have hq4 : (p4 == p4) = true := by simp
      go_upto_region 10 with (go_at_call 9; refine (V _).out.mono ?_; rintro e w4 ⟨rfl, hb4⟩; have HX4 := Lib.hid (blkc HX3.out hb4); have HY4 := Lib.hid (blkc HY3.out hb4); have HB4 := Lib.hid (bel_trans HB3.out hb4); clear hb4; obtain ⟨n1, n2, _, _, _⟩ := cell2 HX4.out; obtain ⟨m1, m2, _, _, _⟩ := cell2 HY4.out)
      go_wp2_with fail
      refine (SA _ HB4.out).out.mono ?_
      rintro e w5 ⟨A5, c5, rfl, ho5, hc5, hb5⟩
      have HX5 := Lib.hid (blkc HX4.out hb5)
      have HY5 := Lib.hid (blkc HY4.out hb5)
      have HR5 := Lib.hid ho5.rd
      have HB5 := Lib.hid (bel_trans HB4.out hb5)
      clear hb5 ho5 n1 n2 m1 m2 x1 x2 y1 y2 HX4 HY4 HB4 HX3 HY3 HB3 SA V
      go_upto_region 12 with (fail)
      go_loopw [7, 9] (fun iv kv wr => ∃ i : Nat, i ≤ L.length ∧ kv = .int .i64 i ∧ iv = .bool (decide ((k : Int) ∈ L.take i)) ∧ Below w5.heap.size w5 wr) (fun _ kv _ => L.length - (intOf kv).toNat)
      case atStart => exact ⟨0, by omega, rfl, by simp, Below.refl _ _⟩
      case round =>
        obtain ⟨i, hi, rfl, rfl, hbl⟩ := hrel
        have HBr := Lib.hid hbl
        clear hbl
        by_cases hlt : i < L.length
        · have hd : decide ((i : Int) < L.length) = true := decide_eq_true (by omega)
          have HST := Lib.hid (mem_take_snoc hlt (k : Int))
          obtain ⟨bb, off, rfl, hbB, h1⟩ := (HR5.out.below HBr.out).at1 rfl hlt rfl
          generalize L[i] = y at h1 HST
          cases qm : decide ((k : Int) ∈ L.take i)
          · rw [qm, Bool.false_or] at HST
            go_wp2
            go_roundw
            case rel => exact ⟨i + 1, by omega, by go_num, by rw [HST.out], HBr.out⟩
            case measure => simp [intOf]; omega
          · rw [qm, Bool.true_or] at HST
            go_wp2
            go_roundw
            case rel => exact ⟨i + 1, by omega, by go_num, by rw [HST.out], HBr.out⟩
            case measure => simp [intOf]; omega
        · obtain rfl : i = L.length := by omega
          have hd : decide ((L.length : Int) < L.length) = false := by simp
          rw [List.take_length, HMS'.out]
          obtain ⟨n1, n2, _, _, _⟩ := cell2 (blkc HX5.out HBr.out)
          obtain ⟨m1, m2, _, _, _⟩ := cell2 (blkc HY5.out HBr.out)
          have hqa : ((a : Int) == (a : Int)) = true := by simp
          have nn1 := cell_regrown n1
          have nn2 := cell_regrown n2
          have mm1 := cell_regrown m1
          have mm2 := cell_regrown m2
          have s10 : ((1 : Int) == 1) = true := rfl
          have s01 : ((0 : Int) == 1) = false := rfl
          cases on
          all_goals
            cases qa : a.testBit k
            all_goals
              simp only [qa, Bool.false_eq_true, if_false, if_true] at SHR
              go_upto_region 15 with (fail)
              refine wp_region_quiet_below (by kernel_rfl) (by kernel_rfl) ?_
              repeat (first | go_big_quiet_step ((go_at_call 7; first | with_reducible exact N1 _ _ _ | with_reducible exact N2 _ _ _ | with_reducible exact N3 _ _ _)) | quiet_step ((go_at_call 7; first | with_reducible exact N1 _ _ _ | with_reducible exact N2 _ _ _ | with_reducible exact N3 _ _ _)))
              refine wpQuiet_nil ?_
              intro v6 hv6
              have hb6 := below_of_regrown hv6
              go_wp2
              go_ret
              exact ⟨rfl, bel_trans (bel_trans HB5.out HBr.out) hb6⟩
  · have hl' : (1048576 : Int) < bs.length := by omega
    clear hr hby hT
    go_enter Tryd.func3, Tryd.ntmps3
    go_wp2
    go_ret
    exact ⟨rfl, Below.refl _ _⟩
end Go.Proofs.YtonhkadbiepedaaDoor
