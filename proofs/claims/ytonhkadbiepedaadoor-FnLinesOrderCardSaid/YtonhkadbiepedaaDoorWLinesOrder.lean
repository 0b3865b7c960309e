/- The walk of the law FnLinesOrder: true for every input, and nothing that was there is written. -/
import Derived.Test.YtonhkadbiepedaaDoorDrn
import Derived.Test.YtonhkadbiepedaaDoorLis
import Derived.Test.YtonhkadbiepedaaDoorSam
import Derived.Test.YtonhkadbiepedaaDoorBox2
namespace Go.Proofs.YtonhkadbiepedaaDoor
open Go.RowKit Go.Sort

theorem raise_raise (l : Lin) {n : Int} (k : Nat) (h : linOk l = true) (hn : inB n 0 7 = true) (hk : k < 8) : allP (raiseP (raiseP l n) (k : Int)) = allP (raiseP (raiseP l (k : Int)) n) := by
  obtain ⟨i, rfl⟩ : ∃ i : Nat, n = (i : Int) := ⟨n.toNat, by have := inB_iff.1 hn; omega⟩
  have hi : i < 8 := by have := inB_iff.1 hn; omega
  obtain ⟨a, b, rfl, ha, hb⟩ := lin_nat h
  have h1 : a ||| 2 ^ i < 256 := set_lt ha hi
  have h2 : a ||| 2 ^ k < 256 := set_lt ha hk
  rw [raise_ok ha hb hi, raise_ok ha hb hk, raise_ok h1 hb hk, raise_ok h2 hb hi]
  have := set_comm a i k
  unfold setB at this
  rw [this]

set_option maxRecDepth 100000 in
set_option maxHeartbeats 6400000 in
theorem walkFnLinesOrder (A A' : Option Addr) (c c' : Nat) (bs cs : List Int) (w : World) (hT : TabW w) (hc : bs.length ≤ c) (hc' : cs.length ≤ c') (hr : Rd eU8 w w.heap.size A bs) (hr' : Rd eU8 w w.heap.size A' cs) (hby : ∀ x ∈ bs, 0 ≤ x ∧ x ≤ 255) :
    Calls Tryd.prog 4 #[.slice A bs.length c, .slice A' cs.length c'] w fun e w' => e = .returned (.bool true) ∧ Below w.heap.size w w' := by
  by_cases hl : bs.length ≤ 1048576
  · by_cases hl2 : cs.length ≤ 1048576
    · have HC := Lib.hid (callDrawRaiseLine A c bs w hc hl hr hby)
      clear hr hby hr'
      obtain ⟨k, hkd⟩ : ∃ k : Nat, k = cs.length % 8 := ⟨_, rfl⟩
      have hk8 : k < 8 := by omega
      have hm1 : (cs.length : Int) % 8 = (k : Int) := by omega
      have hm2 : Int.tmod (cs.length : Int) 8 = (k : Int) := by rw [Int.tmod_eq_emod_of_nonneg (by omega)]; exact hm1
      clear hkd
      go_enter Tryd.func4, Tryd.ntmps4
      go_wp2_with fail
      refine HC.out.mono ?_
      rintro e w1 ⟨⟨r, m⟩, n, rfl, hn0, hn8, hb1⟩
      have HX1 := Lib.hid (heap_alloc_new w1 (linBox ⟨r, m⟩))
      have HB1 := Lib.hid (bel_trans hb1 (below1 w1 (linBox ⟨r, m⟩)))
      have HTW : ∀ W, Below w.heap.size w W → Hid (TabW W) := fun W h => hT.below h
      obtain ⟨x, hx⟩ : ∃ x, x = raiseP ⟨r, m⟩ n := ⟨_, rfl⟩
      have R1 : ∀ W, Hid (Calls Tryd.prog 13 #[(⟨r, m⟩ : Lin).val, .int .i64 n] W fun e w' => e = .returned x.val ∧ Below W.heap.size W w') := fun W => by
        have := callRaiseLine ⟨r, m⟩ n W
        rw [← hx] at this; exact this
      have R2 : ∀ W, Hid (QCall Tryd.prog 14 #[(⟨r, m⟩ : Lin).val, .int .i64 n] W x.val) := fun W => by
        refine QCall.of fun W' _ => ?_
        have := callSRaiseLine ⟨r, m⟩ n W'
        rw [← hx] at this; exact this
      have HX := Lib.hid hx
      clear hx hb1 HC hT
      obtain ⟨xr, xm⟩ := x
      go_upto_region 4 with (fail)
      obtain ⟨v1, hv1⟩ : ∃ v1, v1 = w1.alloc (linBox ⟨r, m⟩) := ⟨_, rfl⟩
      obtain ⟨X, hX⟩ : ∃ X, X = w1.heap.size := ⟨_, rfl⟩
      rw [← hv1] at HX1 HB1 ⊢
      rw [← hX] at HX1 ⊢
      clear hv1 hX
      obtain ⟨x1, x2, _, _, x5⟩ := cell2 HX1.out
      go_wp2_with fail
      refine (R1 _).out.mono ?_
      rintro e w2 ⟨rfl, hb2⟩
      have HX2 := Lib.hid (blkc (blkc HX1.out hb2) (below1 w2 (linBox ⟨xr, xm⟩)))
      have HY2 := Lib.hid (heap_alloc_new w2 (linBox ⟨xr, xm⟩))
      have HB2 := Lib.hid (bel_trans (bel_trans HB1.out hb2) (below1 w2 (linBox ⟨xr, xm⟩)))
      clear x1 x2 x5 R1 hb2 HX1 HB1
      go_upto_region 5 with (fail)
      obtain ⟨v2, hv2⟩ : ∃ v2, v2 = w2.alloc (linBox ⟨xr, xm⟩) := ⟨_, rfl⟩
      obtain ⟨Y, hY⟩ : ∃ Y, Y = w2.heap.size := ⟨_, rfl⟩
      rw [← hv2] at HX2 HY2 HB2 ⊢
      rw [← hY] at HY2 ⊢
      clear hv2 hY
      obtain ⟨x1, x2, _, _, x5⟩ := cell2 HX2.out
      obtain ⟨y1, y2, _, _, y5⟩ := cell2 HY2.out
      have neqs := neqLin
      have gdl := guardLin
      have hq1 : (xr == xr) = true := by simp
      have hq2 : (xm == xm) = true := by simp
      refine wp_region_quiet_below (by kernel_rfl) (by kernel_rfl) ?_
      have xx1 := cell_regrown x1
      have xx2 := cell_regrown x2
      have yy1 := cell_regrown y1
      have yy2 := cell_regrown y2
      repeat (first | go_big_quiet_step ((go_at_call 14; exact (R2 _).out _ _)) | quiet_step ((go_at_call 14; exact (R2 _).out _ _)))
      refine wpQuiet_nil ?_
      intro v3 hv3
      have hb3 := below_of_regrown hv3
      have HX3 := Lib.hid (blkc HX2.out hb3)
      have HY3 := Lib.hid (blkc HY2.out hb3)
      have HB3 := Lib.hid (bel_trans HB2.out hb3)
      clear hb3 hv3 x1 x2 x5 y1 y2 y5 xx1 xx2 yy1 yy2 HX2 HY2 HB2 R2
      obtain ⟨x1, x2, _, _, x5⟩ := cell2 HX3.out
      obtain ⟨y1, y2, _, _, y5⟩ := cell2 HY3.out
      have AL : ∀ W, Hid (QCall Tryd.prog 10 #[] W (.bool true)) := fun W => QCall.of fun W' _ => callAlive W'
      have V : ∀ W, Hid (Calls Tryd.prog 9 #[(⟨r, m⟩ : Lin).val] W fun e w' => e = .returned (.bool (linOk ⟨r, m⟩)) ∧ Below W.heap.size W w') := fun W => (callSLinesValid ⟨r, m⟩ W).mono fun e w' ⟨he, hw⟩ => ⟨he, by subst hw; exact below1 _ _⟩
      have QV : ∀ W, Hid (QCall Tryd.prog 9 #[(⟨r, m⟩ : Lin).val] W (.bool (linOk ⟨r, m⟩))) := fun W => QCall.of fun W' _ => (V W').out
      cases q : (linOk ⟨r, m⟩ && inB n 0 7)
      · go_upto_region 8 with (fail)
        refine wp_region_quiet_below (by kernel_rfl) (by kernel_rfl) ?_
        have xx1 := cell_regrown x1
        have xx2 := cell_regrown x2
        cases q1 : linOk ⟨r, m⟩
        · rw [q1] at QV
          repeat (first | go_big_quiet_step (first | (go_at_call 9; exact (QV _).out _ _) | (go_at_call 10; exact (AL _).out _ _)) | quiet_step (first | (go_at_call 9; exact (QV _).out _ _) | (go_at_call 10; exact (AL _).out _ _)))
          refine wpQuiet_nil ?_
          intro v4 hv4
          have hb4 := below_of_regrown hv4
          go_wp2
          go_ret
          exact ⟨rfl, bel_trans HB3.out hb4⟩
        · rw [q1] at QV
          rw [q1, Bool.true_and, inB_not] at q
          rcases q with q | q
          · have hd1 : decide (n < 0) = true := decide_eq_true q
            repeat (first | go_big_quiet_step (first | (go_at_call 9; exact (QV _).out _ _) | (go_at_call 10; exact (AL _).out _ _)) | quiet_step (first | (go_at_call 9; exact (QV _).out _ _) | (go_at_call 10; exact (AL _).out _ _)))
            refine wpQuiet_nil ?_
            intro v4 hv4
            have hb4 := below_of_regrown hv4
            go_wp2
            go_ret
            exact ⟨rfl, bel_trans HB3.out hb4⟩
          · have hd1 : decide (n < 0) = false := decide_eq_false (by omega)
            have hd2 : decide (7 < n) = true := decide_eq_true q
            repeat (first | go_big_quiet_step (first | (go_at_call 9; exact (QV _).out _ _) | (go_at_call 10; exact (AL _).out _ _)) | quiet_step (first | (go_at_call 9; exact (QV _).out _ _) | (go_at_call 10; exact (AL _).out _ _)))
            refine wpQuiet_nil ?_
            intro v4 hv4
            have hb4 := below_of_regrown hv4
            go_wp2
            go_ret
            exact ⟨rfl, bel_trans HB3.out hb4⟩
      · rw [Bool.and_eq_true] at q
        obtain ⟨q1, q2⟩ := q
        have hq2 := inB_iff.1 q2
        have hd1 : decide (n < 0) = false := decide_eq_false (by omega)
        have hd2 : decide (7 < n) = false := decide_eq_false (by omega)
        have hd3 : decide (n > 7) = false := decide_eq_false (by omega)
        have HRR := raise_raise ⟨r, m⟩ k q1 q2 hk8
        rw [← HX.out] at HRR
        rw [q1] at V
        have RA : ∀ W, Hid (Calls Tryd.prog 13 #[(⟨xr, xm⟩ : Lin).val, .int .i64 (k : Int)] W fun e w' => e = .returned (raiseP ⟨xr, xm⟩ (k : Int)).val ∧ Below W.heap.size W w') := fun W => callRaiseLine _ _ W
        have RB : ∀ W, Hid (Calls Tryd.prog 13 #[(⟨r, m⟩ : Lin).val, .int .i64 (k : Int)] W fun e w' => e = .returned (raiseP ⟨r, m⟩ (k : Int)).val ∧ Below W.heap.size W w') := fun W => callRaiseLine _ _ W
        obtain ⟨u1, hu1⟩ : ∃ u1, u1 = raiseP ⟨xr, xm⟩ (k : Int) := ⟨_, rfl⟩
        obtain ⟨u2, hu2⟩ : ∃ u2, u2 = raiseP ⟨r, m⟩ (k : Int) := ⟨_, rfl⟩
        have RC : ∀ W, Hid (Calls Tryd.prog 13 #[u2.val, .int .i64 n] W fun e w' => e = .returned (raiseP u2 n).val ∧ Below W.heap.size W w') := fun W => callRaiseLine _ _ W
        rw [← hu2] at HRR RB
        rw [← hu1] at HRR RA
        obtain ⟨u3, hu3⟩ : ∃ u3, u3 = raiseP u2 n := ⟨_, rfl⟩
        rw [← hu3] at HRR RC
        obtain ⟨L, hL⟩ : ∃ L, L = allP u1 := ⟨_, rfl⟩
        have hL8 : Hid (L.length ≤ 8) := by show _ ≤ _; rw [hL]; exact all_len u1
        have SA : ∀ W, Below w.heap.size w W → Hid (Calls Tryd.prog 11 #[u1.val] W fun e w' => ∃ A c, e = .returned (.slice A L.length c) ∧ Own eInt 3 w' W.heap.size (.slice A L.length c) L ∧ L.length ≤ c ∧ Below W.heap.size W w') := fun W h => by
          have := callServeAll u1 W (HTW W h).out
          rw [← hL] at this; exact this
        have SB : ∀ W, Below w.heap.size w W → Hid (Calls Tryd.prog 11 #[u3.val] W fun e w' => ∃ A c, e = .returned (.slice A L.length c) ∧ Own eInt 3 w' W.heap.size (.slice A L.length c) L ∧ L.length ≤ c ∧ Below W.heap.size W w') := fun W h => by
          have := callServeAll u3 W (HTW W h).out
          rw [← HRR, ← hL] at this; exact this
        have hdL : decide (L = L) = true := decide_eq_true rfl
        clear hu1 hu2 hu3 hL HRR HTW QV HX q1 q2 hq2
        obtain ⟨p1, p2⟩ := u1
        obtain ⟨p3, p4⟩ := u2
        obtain ⟨p5, p6⟩ := u3
        go_upto_region 8 with (fail)
        go_region_held3 (fun w' => (w'.cell? ⟨X, 0, none⟩ = some (.int .i64 r) ∧ w'.cell? ⟨X, 1, none⟩ = some (.int .i64 m)) ∧ w'.cell? ⟨Y, 0, none⟩ = some (.int .i64 xr) ∧ w'.cell? ⟨Y, 1, none⟩ = some (.int .i64 xm)) (first | exact ⟨⟨x1, x2⟩, y1, y2⟩ | exact ⟨⟨n1, n2⟩, m1, m2⟩ | assumption | go_keep)
          (first
            | (go_at_call 9; (with_reducible refine (V _).out.mono ?_); rintro e w4 ⟨rfl, hb4⟩; have HB4 := Lib.hid (bel_trans (below_drew (Below.refl v3.heap.size v3)) hb4); obtain ⟨n1, n2, _, _, _⟩ := cell2 (blkc HX3.out HB4.out); obtain ⟨m1, m2, _, _, _⟩ := cell2 (blkc HY3.out HB4.out); clear hb4)
            | (go_at_call 13; (with_reducible refine (RA _).out.mono ?_); rintro e w5 ⟨rfl, hb5⟩; have HB5 := Lib.hid (bel_trans HB4.out hb5); obtain ⟨n1, n2, _, _, _⟩ := cell2 (blkc HX3.out HB5.out); obtain ⟨m1, m2, _, _, _⟩ := cell2 (blkc HY3.out HB5.out); clear hb5)
            | (go_at_call 11; (with_reducible refine (SA _ (bel_trans HB3.out HB5.out)).out.mono ?_); rintro e w6 ⟨A6, c6, rfl, ho6, hc6, hb6⟩; have HB6 := Lib.hid (bel_trans HB5.out hb6); have HO6 := Lib.hid ho6.rd; obtain ⟨n1, n2, _, _, _⟩ := cell2 (blkc HX3.out HB6.out); obtain ⟨m1, m2, _, _, _⟩ := cell2 (blkc HY3.out HB6.out); clear hb6 ho6)
            | (go_at_call 13; (with_reducible refine (RB _).out.mono ?_); rintro e w7 ⟨rfl, hb7⟩; have HB7 := Lib.hid (bel_trans HB6.out hb7); have HO7 := Lib.hid ((HO6.out.below hb7).mono hb7.size); obtain ⟨n1, n2, _, _, _⟩ := cell2 (blkc HX3.out HB7.out); obtain ⟨m1, m2, _, _, _⟩ := cell2 (blkc HY3.out HB7.out); clear hb7)
            | (go_at_call 13; (with_reducible refine (RC _).out.mono ?_); rintro e w8 ⟨rfl, hb8⟩; have HB8 := Lib.hid (bel_trans HB7.out hb8); have HO8 := Lib.hid ((HO7.out.below hb8).mono hb8.size); obtain ⟨n1, n2, _, _, _⟩ := cell2 (blkc HX3.out HB8.out); obtain ⟨m1, m2, _, _, _⟩ := cell2 (blkc HY3.out HB8.out); clear hb8)
            | (go_at_call 11; (with_reducible refine (SB _ (bel_trans HB3.out HB8.out)).out.mono ?_); rintro e w9 ⟨A9, c9, rfl, ho9, hc9, hb9⟩; have HB9 := Lib.hid (bel_trans HB8.out hb9); have HO9 := Lib.hid ((HO8.out.below hb9).mono hb9.size); have HP9 := Lib.hid ho9.rd; obtain ⟨n1, n2, _, _, _⟩ := cell2 (blkc HX3.out HB9.out); obtain ⟨m1, m2, _, _, _⟩ := cell2 (blkc HY3.out HB9.out); clear hb9 ho9)
            | (go_at_call 15; refine (callSameInts A6 A9 c6 c9 L L w9 _ (Nat.le_refl _) (by have := hL8.out; omega) (by have := hL8.out; omega) HO9.out HP9.out).mono ?_; rintro e w10 ⟨rfl, hb10⟩; have HB10 := Lib.hid (bel_trans HB9.out hb10); obtain ⟨n1, n2, _, _, _⟩ := cell2 (blkc HX3.out HB10.out); obtain ⟨m1, m2, _, _, _⟩ := cell2 (blkc HY3.out HB10.out); clear hb10)
            | (go_at_call 10; (with_reducible refine (callAlive _).mono ?_); rintro e w11 ⟨rfl, hb11⟩; have HB11 := Lib.hid (bel_trans HB10.out hb11); obtain ⟨n1, n2, _, _, _⟩ := cell2 (blkc HX3.out HB11.out); obtain ⟨m1, m2, _, _, _⟩ := cell2 (blkc HY3.out HB11.out); clear hb11))
        all_goals (try go_wp2)
        all_goals go_ret
        all_goals exact ⟨rfl, bel_trans HB3.out HB11.out⟩
    · have hl' : (1048576 : Int) < cs.length := by omega
      clear hr hby hT hr'
      go_enter Tryd.func4, Tryd.ntmps4
      go_wp2
      go_ret
      exact ⟨rfl, Below.refl _ _⟩
  · have hl' : (1048576 : Int) < bs.length := by omega
    clear hr hby hT hr'
    go_enter Tryd.func4, Tryd.ntmps4
    go_wp2
    go_ret
    exact ⟨rfl, Below.refl _ _⟩
end Go.Proofs.YtonhkadbiepedaaDoor
