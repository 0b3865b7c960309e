/- The walk of the law FnStepCore: true for every input, and nothing that was there is written. -/
import Derived.Test.YtiodpnhokjkjaaaCdw
import Derived.Test.YtiodpnhokjkjaaaCom
import Derived.Test.YtiodpnhokjkjaaaSco
import Derived.Test.YtiodpnhokjkjaaaOeq
import Derived.Deep.QuietTactic
namespace Go.Proofs.Ytiodpnhokjkjaaa
open Go.RowKit Go.Sort

set_option maxRecDepth 100000 in
set_option maxHeartbeats 3200000 in
theorem walkFnStepCore (A : Option Addr) (c : Nat) (bs : List Int) (w : World) (hc : bs.length ≤ c) (hr : Rd eU8 w w.heap.size A bs) (hby : ∀ x ∈ bs, 0 ≤ x ∧ x ≤ 255) :
    Calls Try.prog 11 #[.slice A bs.length c] w fun e w' => e = .returned (.bool true) ∧ Below w.heap.size w w' := by
  by_cases hl : bs.length ≤ 1048576
  · have HC := Lib.hid (callDrawStepCore A c bs w hc hl hr hby)
    clear hr hby
    go_enter Try.func11, Try.ntmps11
    go_wp2_with fail
    refine HC.out.mono ?_
    rintro e w1 ⟨A1, c1, cr, A2, c2, os, cells, n, rfl, hn0, hn1, hl5, hc1, hl21, hc2, hra, hro, hb1⟩
    have HB1 := Lib.hid (bel_trans hb1 (below1 w1 (.cells #[.slice A1 cr.cs.length c1, .int .i64 cr.at', .bool cr.stop] 33)))
    have KX := Lib.hid (heap_alloc_new w1 (.cells #[.slice A1 cr.cs.length c1, .int .i64 cr.at', .bool cr.stop] 33))
    have HA := Lib.hid (hra.alloc (.cells #[.slice A1 cr.cs.length c1, .int .i64 cr.at', .bool cr.stop] 33))
    have HO := Lib.hid (hro.alloc (.cells #[.slice A1 cr.cs.length c1, .int .i64 cr.at', .bool cr.stop] 33))
    clear hra hro hb1 HC
    go_upto_region 4 with (fail)
    obtain ⟨u, hu⟩ : ∃ u, u = w1.alloc (.cells #[.slice A1 cr.cs.length c1, .int .i64 cr.at', .bool cr.stop] 33) := ⟨_, rfl⟩
    obtain ⟨X, hX⟩ : ∃ X, X = w1.heap.size := ⟨_, rfl⟩
    rw [← hu] at HB1 KX HA HO ⊢
    rw [← hX] at KX ⊢
    clear hu hX
    have RI : Hid (∀ (t : Int) (W : World), Below u.heap.size u W → Calls Try.prog 42 #[.agg #[.slice A1 cr.cs.length c1, .int .i64 cr.at', .bool cr.stop], .slice A2 os.length c2, .int .i64 cells, .int .i64 t] W (StpOut W (stepRes cr os cells t))) := fun t W hW => callStepCore A1 c1 cr A2 c2 os cells t W W.heap.size (Nat.le_refl _) hc1 (by omega) (by omega) (HA.out.next hW) (HO.out.next hW)
    have RS : Hid (∀ (W : World), Below u.heap.size u W → Calls Try.prog 43 #[.agg #[.slice A1 cr.cs.length c1, .int .i64 cr.at', .bool cr.stop], .slice A2 os.length c2, .int .i64 cells, .int .i64 n] W (StpOut W (stepRes cr os cells n))) := fun W hW => callSStepCore A1 c1 cr A2 c2 os cells n W W.heap.size (Nat.le_refl _) (by omega) (by omega) (HA.out.next hW) (HO.out.next hW)
    have V2 : Hid (∀ W, Below u.heap.size u W → Calls Try.prog 22 #[.agg #[.slice A1 cr.cs.length c1, .int .i64 cr.at', .bool cr.stop], .slice A2 os.length c2, .int .i64 cells] W fun e w' => e = .returned (.bool (coreB cr os cells)) ∧ Below W.heap.size W w') := fun W hW => callSCoreValid A1 c1 cr A2 c2 os cells W u.heap.size hW.size (by omega) (by omega) (HA.out.below hW) (HO.out.below hW)
    have V1 : Hid (∀ (A : Option Addr) (c : Nat) (d : Cor) W, d.cs.length ≤ 1048576 → Rd eInt W W.heap.size A d.cs → Below u.heap.size u W → Calls Try.prog 23 #[.agg #[.slice A d.cs.length c, .int .i64 d.at', .bool d.stop], .slice A2 os.length c2, .int .i64 cells] W fun e w' => e = .returned (.bool (coreB d os cells)) ∧ Below W.heap.size W w') := fun A c d W h1 h2 hW => callCoreValid A c d A2 c2 os cells W W.heap.size (Nat.le_refl _) h1 (by omega) h2 (HO.out.next hW)
    have SC : Hid (∀ (A A' : Option Addr) (c c' : Nat) (d : Cor) (W : World), d.cs.length ≤ 1048576 → Rd eInt W W.heap.size A d.cs → Rd eInt W W.heap.size A' d.cs → Calls Try.prog 20 #[.agg #[.slice A d.cs.length c, .int .i64 d.at', .bool d.stop], .agg #[.slice A' d.cs.length c', .int .i64 d.at', .bool d.stop]] W fun e w' => e = .returned (.bool true) ∧ Below W.heap.size W w') := fun A A' c c' d W h h1 h2 => sameCoreT A A' c c' d h W h1 h2
    have HLEN : Hid ((stepRes cr os cells n).1.cs.length ≤ 5) := by
      show _ ≤ _
      cases q : (coreB cr os cells && decide (0 ≤ n))
      · rw [stepRes_bad q]; simp
      · rw [Bool.and_eq_true, decide_eq_true_iff] at q
        rw [stepRes_good q.1 q.2]
        have h1 := (coreB_iff.1 (corStep_ok n q.1)).2.1
        have h2 := (coreB_iff.1 q.1).2.1
        show (corStep cr os n).cs.length ≤ 5
        omega
    have HRB : Hid ((coreB cr os cells && decide (0 ≤ n)) = false → stepRes cr os cells n = (⟨[], 0, false⟩, ⟨0, 0, 0⟩)) := stepRes_bad
    have HRG : Hid (coreB cr os cells = true → 0 ≤ n → stepRes cr os cells n = (corStep cr os n, corOrd cr os)) := stepRes_good
    have RI1 := RI.out n u (Below.refl _ _)
    obtain ⟨r, hrr⟩ : ∃ r, r = stepRes cr os cells n := ⟨_, rfl⟩
    rw [← hrr] at RS HLEN HRB HRG RI1
    have HRI1 := Lib.hid RI1
    clear hrr RI1
    obtain ⟨x0, x1, x2, _, _, _, x6⟩ := cell3 KX.out
    go_wp2_with fail
    refine HRI1.out.mono ?_
    rintro e w2 ⟨A3, c3, rfl, hown2, hc3, hb2⟩
    have hl5r := HLEN.out
    obtain ⟨⟨rs, ra, rt⟩, ⟨op, oa, ob⟩⟩ := r
    simp only at hown2 hc3 hl5r RS ⊢
    have HB2 := Lib.hid (bel_trans hb2 (below2 w2 (.cells #[.slice A3 rs.length c3, .int .i64 ra, .bool rt] 33) (.cells #[.int .i64 op, .int .i64 oa, .int .i64 ob] 41)))
    have KX2 := Lib.hid (blkc KX.out HB2.out)
    have KY := Lib.hid (alloc_at0 w2 (.cells #[.slice A3 rs.length c3, .int .i64 ra, .bool rt] 33) (.cells #[.int .i64 op, .int .i64 oa, .int .i64 ob] 41))
    have KO := Lib.hid (alloc_at1 w2 (.cells #[.slice A3 rs.length c3, .int .i64 ra, .bool rt] 33) (.cells #[.int .i64 op, .int .i64 oa, .int .i64 ob] 41))
    have HY := Lib.hid ((hown2.rd.alloc (.cells #[.slice A3 rs.length c3, .int .i64 ra, .bool rt] 33)).alloc (.cells #[.int .i64 op, .int .i64 oa, .int .i64 ob] 41))
    go_upto_region 5 with (fail)
    obtain ⟨u2, hu2⟩ : ∃ u2, u2 = (w2.alloc (.cells #[.slice A3 rs.length c3, .int .i64 ra, .bool rt] 33)).alloc (.cells #[.int .i64 op, .int .i64 oa, .int .i64 ob] 41) := ⟨_, rfl⟩
    obtain ⟨Y, hY⟩ : ∃ Y, Y = w2.heap.size := ⟨_, rfl⟩
    rw [← hu2] at HB2 KX2 KY KO HY ⊢
    rw [← hY] at KY KO ⊢
    clear hu2 hY hown2 hb2 x0 x1 x2 x6 HRI1 KX
    obtain ⟨x0, x1, x2, _, _, _, x6⟩ := cell3 KX2.out
    go_wp2_with fail
    refine (RS.out u2 HB2.out).mono ?_
    rintro e w3 ⟨A4, c4, rfl, hown4, hc4, hb4⟩
    simp only at hown4 hc4 ⊢
    have HB3 := Lib.hid (bel_trans HB2.out (bel_trans hb4 (below2 w3 (.cells #[.slice A4 rs.length c4, .int .i64 ra, .bool rt] 33) (.cells #[.int .i64 op, .int .i64 oa, .int .i64 ob] 41))))
    have HB23 := Lib.hid (bel_trans hb4 (below2 w3 (.cells #[.slice A4 rs.length c4, .int .i64 ra, .bool rt] 33) (.cells #[.int .i64 op, .int .i64 oa, .int .i64 ob] 41)))
    have KX3 := Lib.hid (blkc KX2.out HB23.out)
    have KY3 := Lib.hid (blkc KY.out HB23.out)
    have KO3 := Lib.hid (blkc KO.out HB23.out)
    have KP := Lib.hid (alloc_at0 w3 (.cells #[.slice A4 rs.length c4, .int .i64 ra, .bool rt] 33) (.cells #[.int .i64 op, .int .i64 oa, .int .i64 ob] 41))
    have KQ := Lib.hid (alloc_at1 w3 (.cells #[.slice A4 rs.length c4, .int .i64 ra, .bool rt] 33) (.cells #[.int .i64 op, .int .i64 oa, .int .i64 ob] 41))
    have HP := Lib.hid ((hown4.rd.alloc (.cells #[.slice A4 rs.length c4, .int .i64 ra, .bool rt] 33)).alloc (.cells #[.int .i64 op, .int .i64 oa, .int .i64 ob] 41))
    have HY3 := Lib.hid (HY.out.next HB23.out)
    go_upto_region 6 with (fail)
    obtain ⟨u3, hu3⟩ : ∃ u3, u3 = (w3.alloc (.cells #[.slice A4 rs.length c4, .int .i64 ra, .bool rt] 33)).alloc (.cells #[.int .i64 op, .int .i64 oa, .int .i64 ob] 41) := ⟨_, rfl⟩
    obtain ⟨P, hP⟩ : ∃ P, P = w3.heap.size := ⟨_, rfl⟩
    rw [← hu3] at HB3 KX3 KY3 KO3 KP KQ HP HY3 ⊢
    rw [← hP] at KP KQ ⊢
    clear hu3 hP hown4 hb4 x0 x1 x2 x6 RS HB2 HB23 KX2 KY KO HY
    obtain ⟨x0, x1, x2, _, _, _, x6⟩ := cell3 KY3.out
    obtain ⟨y0, y1, y2, _, _, _, y6⟩ := cell3 KP.out
    go_wp2_with fail
    refine (SC.out A3 A4 c3 c4 ⟨rs, ra, rt⟩ u3 (by show rs.length ≤ _; omega) HY3.out HP.out).mono ?_
    rintro e w4 ⟨rfl, hb4⟩
    have HB4 := Lib.hid (bel_trans HB3.out hb4)
    have KX4 := Lib.hid (blkc KX3.out hb4)
    have KY4 := Lib.hid (blkc KY3.out hb4)
    have KO4 := Lib.hid (blkc KO3.out hb4)
    have KQ4 := Lib.hid (blkc KQ.out hb4)
    have HY4 := Lib.hid (HY3.out.next hb4)
    clear hb4 x0 x1 x2 x6 y0 y1 y2 y6 KX3 KY3 KO3 KP KQ HP HY3 HB3
    obtain ⟨x0, x1, x2, _, _, _, x6⟩ := cell3 KO4.out
    obtain ⟨y0, y1, y2, _, _, _, y6⟩ := cell3 KQ4.out
    have neqs := neqOrd
    have eqs := eqlOrd
    have gdo := guardOrd
    go_upto_region 8 with (fail)
    clear x0 x1 x2 x6 y0 y1 y2 y6 KQ4 neqs
    obtain ⟨x0, x1, x2, _, _, _, x6⟩ := cell3 KX4.out
    have BW4 := Lib.hid (bel_trans HB1.out HB4.out)
    by_cases hbad : (coreB cr os cells && decide (0 ≤ n)) = false
    · have hr0 := HRB.out hbad
      simp only [Prod.mk.injEq, Cor.mk.injEq, Ord3.mk.injEq] at hr0
      obtain ⟨⟨rfl, rfl, rfl⟩, rfl, rfl, rfl⟩ := hr0
      have hway : ∀ (q : Bool), coreB cr os cells = q → (q = false ∨ (q = true ∧ decide (n < 0) = true)) := fun q hq => by
        rw [hq] at hbad
        cases q
        · exact .inl rfl
        · rw [Bool.true_and, decide_eq_false_iff_not] at hbad
          exact .inr ⟨rfl, decide_eq_true (by omega)⟩
      obtain ⟨q, hq⟩ : ∃ q, q = coreB cr os cells := ⟨_, rfl⟩
      have hway2 := hway q hq.symm
      rw [← hq] at V2
      clear hq hway hbad HRB HRG
      rcases hway2 with rfl | ⟨rfl, hd⟩
      all_goals
        go_wp2_with fail
        refine (V2.out w4 HB4.out).mono ?_
        rintro e w5 ⟨rfl, hb5⟩
        have BW5 := Lib.hid (bel_trans BW4.out hb5)
        have KO5 := Lib.hid (blkc KO4.out hb5)
        have HY5 := Lib.hid (HY4.out.next hb5)
        obtain ⟨y0, y1, y2, _, _, _, y6⟩ := cell3 (blkc KY4.out hb5)
        clear hb5
        go_wp2_with fail
        refine (SC.out A3 none c3 0 ⟨[], 0, false⟩ w5 (by simp) HY5.out Rd.nil).mono ?_
        rintro e w6 ⟨rfl, hb6⟩
        have BW6 := Lib.hid (bel_trans BW5.out hb6)
        obtain ⟨z0, z1, z2, _, _, _, z6⟩ := cell3 (blkc KO5.out hb6)
        clear hb6
        go_wp2_with fail
        refine (callAlive _).mono ?_
        rintro e w8 ⟨rfl, hb8⟩
        go_wp2
        go_ret
        exact ⟨rfl, bel_trans BW6.out hb8⟩
    · have hgood := (Bool.not_eq_false _).mp hbad
      rw [Bool.and_eq_true, decide_eq_true_iff] at hgood
      obtain ⟨q1, q2⟩ := hgood
      have HG := Lib.hid (HRG.out q1 q2)
      have HQ := Lib.hid q1
      have hd1 : decide (n < 0) = false := decide_eq_false (by omega)
      rw [q1] at V2
      have HLR : Hid (rs.length = cr.cs.length) := by
        have h1 := (coreB_iff.1 (corStep_ok n q1)).2.1
        have h2 := (coreB_iff.1 q1).2.1
        have h3 := HG.out
        simp only [Prod.mk.injEq] at h3
        rw [← h3.1] at h1
        show _ = _
        simp only at h1
        omega
      have HSET : Hid (∃ i : Nat, ∀ j, j ≠ i → rs[j]? = cr.cs[j]?) := by
        obtain ⟨i, hi⟩ := corStep_set cr os n
        have h3 := HG.out
        simp only [Prod.mk.injEq] at h3
        rw [← h3.1] at hi
        exact ⟨i, hi⟩
      have HXC : Hid (coreB ⟨rs, ra, rt⟩ os cells = true) := by
        have h3 := HG.out
        simp only [Prod.mk.injEq] at h3
        show _ = true
        rw [h3.1]; exact corStep_ok n q1
      have HST : Hid (cr.stop = true → cr = ⟨rs, ra, rt⟩) := fun h => by
        have h3 := HG.out
        simp only [Prod.mk.injEq] at h3
        rw [h3.1]; unfold corStep; rw [if_pos h]
      have HLA : Hid (op ≠ 7 → (stepRes cr os cells 1).1 = ⟨rs, ra, rt⟩) := fun h => by
        have h3 := HG.out
        simp only [Prod.mk.injEq] at h3
        rw [stepRes_good q1 (by decide), h3.1]
        exact corStep_time _ _ (by rw [← h3.2]; exact h)
      have HL1 : Hid ((stepRes cr os cells 1).1.cs.length ≤ 5) := by
        rw [stepRes_good q1 (by decide)]
        have h1 := (coreB_iff.1 (corStep_ok 1 q1)).2.1
        have h2 := (coreB_iff.1 q1).2.1
        show (corStep cr os 1).cs.length ≤ 5
        omega
      clear q1 q2 hbad HRB HRG hn0 hn1
      go_wp2_with fail
      refine (V2.out w4 HB4.out).mono ?_
      rintro e w5 ⟨rfl, hb5⟩
      have BW5 := Lib.hid (bel_trans BW4.out hb5)
      have BU5 := Lib.hid (bel_trans HB4.out hb5)
      have KX5 := Lib.hid (blkc KX4.out hb5)
      have KY5 := Lib.hid (blkc KY4.out hb5)
      have KO5 := Lib.hid (blkc KO4.out hb5)
      have RY5 := Lib.hid (HY4.out.next hb5)
      have RX5 := Lib.hid (HA.out.next BU5.out)
      clear hb5 x0 x1 x2 x6 BW4 HB4 KX4 KY4 KO4 HY4 V2 eqs
      obtain ⟨ii, hii⟩ := HSET.out
      have HII := Lib.hid hii
      clear hii HSET
      go_wp2_with fail
      go_loopw [11, 12] (fun v i wr => ∃ j ch : Nat, i = .int .i64 j ∧ v = .int .i64 ch ∧ (ch = 0 ∨ (ch = 1 ∧ ii < j)) ∧ j ≤ cr.cs.length ∧ Hid (Below w5.heap.size w5 wr)) (fun _ i _ => cr.cs.length - (intOf i).toNat)
      case atStart => exact ⟨0, 0, rfl, rfl, .inl rfl, by omega, Below.refl _ _⟩
      case round =>
        obtain ⟨j, ch, rfl, rfl, hch, hjl, HBr⟩ := hrel
        have KXr := Lib.hid (blkc KX5.out HBr.out)
        have KYr := Lib.hid (blkc KY5.out HBr.out)
        obtain ⟨x0, x1, x2, _, _, _, x6⟩ := cell3 KXr.out
        obtain ⟨y0, y1, y2, _, _, _, y6⟩ := cell3 KYr.out
        have hch2 : ch ≤ 1 := by omega
        have HCH := Lib.hid hch
        clear hch
        by_cases hj : j < cr.cs.length
        · have hd : decide ((j : Int) < (cr.cs.length : Int)) = true := decide_eq_true (by omega)
          have hdn : decide (j < cr.cs.length) = true := decide_eq_true hj
          have hjr : j < rs.length := by have := HLR.out; omega
          obtain ⟨ba, offa, rfl, _, oa1⟩ := (RX5.out.next HBr.out).at1 rfl hj rfl
          obtain ⟨bb, offb, rfl, _, ob1⟩ := (RY5.out.next HBr.out).at1 rfl hjr rfl
          have HNE : Hid (j ≠ ii → rs[j] = cr.cs[j]) := fun h => by
            have := HII.out j h
            rw [List.getElem?_eq_getElem hj, List.getElem?_eq_getElem hjr] at this
            exact Option.some.inj this
          obtain ⟨va, hva⟩ : ∃ va, va = cr.cs[j] := ⟨_, rfl⟩
          obtain ⟨vb, hvb⟩ : ∃ vb, vb = rs[j] := ⟨_, rfl⟩
          rw [← hva] at oa1 HNE
          rw [← hvb] at ob1 HNE
          clear hva hvb
          go_upto_region 14 with (fail)
          go_quiet (fail)
          by_cases hv : vb = va
          · subst hv
            go_wp2_with fail
            go_roundw
            case rel => exact ⟨j + 1, ch, by go_num, rfl, by have := HCH.out; omega, by omega, below_drewN HBr.out _⟩
            case measure => simp [intOf]; omega
          · have hji : j = ii := Classical.byContradiction fun h => hv (HNE.out h)
            have hb1 : (vb == va) = false := by rw [beq_eq_false_iff_ne]; exact hv
            have hb2 : (vb != va) = true := by rw [bne, hb1]; rfl
            go_wp2_with fail
            go_roundw
            case rel => exact ⟨j + 1, ch + 1, by go_num, by go_num, by have := HCH.out; omega, by omega, below_drewN HBr.out _⟩
            case measure => simp [intOf]; omega
        · have hd : decide ((j : Int) < (cr.cs.length : Int)) = false := decide_eq_false (by omega)
          have hdn : decide (j < cr.cs.length) = false := decide_eq_false hj
          have hd3 : decide ((ch : Int) ≤ 1) = true := decide_eq_true (by omega)
          have hd4 : decide (ch ≤ 1) = true := decide_eq_true hch2
          have BUr := Lib.hid (bel_trans BU5.out HBr.out)
          have BWr := Lib.hid (bel_trans BW5.out HBr.out)
          have RYr := Lib.hid (RY5.out.next HBr.out)
          have KOr := Lib.hid (blkc KO5.out HBr.out)
          have C1 := RI.out 1 wr BUr.out
          obtain ⟨l, hl⟩ : ∃ l, l = stepRes cr os cells 1 := ⟨_, rfl⟩
          rw [← hl] at HLA HL1 C1
          have HC1 := Lib.hid C1
          clear C1 hl BU5 BW5 RY5 RX5 KX5 KY5 KO5 HCH RI HBr
          go_wp2_with fail
          refine HC1.out.mono ?_
          rintro e w7 ⟨A7, c7, rfl, hown7, hc7, hb7⟩
          have hl5s := HL1.out
          obtain ⟨⟨ls, la, lt⟩, ⟨lop, lx, ly⟩⟩ := l
          simp only at hown7 hc7 hl5s HLA ⊢
          have HB7 := Lib.hid (bel_trans hb7 (below2 w7 (.cells #[.slice A7 ls.length c7, .int .i64 la, .bool lt] 33) (.cells #[.int .i64 lop, .int .i64 lx, .int .i64 ly] 41)))
          have KZ := Lib.hid (alloc_at0 w7 (.cells #[.slice A7 ls.length c7, .int .i64 la, .bool lt] 33) (.cells #[.int .i64 lop, .int .i64 lx, .int .i64 ly] 41))
          have HZ := Lib.hid ((hown7.rd.alloc (.cells #[.slice A7 ls.length c7, .int .i64 la, .bool lt] 33)).alloc (.cells #[.int .i64 lop, .int .i64 lx, .int .i64 ly] 41))
          go_upto_region 17 with (fail)
          obtain ⟨v, hv⟩ : ∃ v, v = (w7.alloc (.cells #[.slice A7 ls.length c7, .int .i64 la, .bool lt] 33)).alloc (.cells #[.int .i64 lop, .int .i64 lx, .int .i64 ly] 41) := ⟨_, rfl⟩
          obtain ⟨Z, hZ⟩ : ∃ Z, Z = w7.heap.size := ⟨_, rfl⟩
          rw [← hv] at HB7 KZ HZ ⊢
          rw [← hZ] at KZ ⊢
          clear hv hZ hown7 hb7 HC1 x0 x1 x2 x6 y0 y1 y2 y6
          have KXv := Lib.hid (blkc KXr.out HB7.out)
          have KYv := Lib.hid (blkc KYr.out HB7.out)
          have KOv := Lib.hid (blkc KOr.out HB7.out)
          have RYv := Lib.hid (RYr.out.next HB7.out)
          have BUv := Lib.hid (bel_trans BUr.out HB7.out)
          have BWv := Lib.hid (bel_trans BWr.out HB7.out)
          clear HB7 KXr KYr KOr RYr BUr BWr
          obtain ⟨y0, y1, y2, _, _, _, y6⟩ := cell3 KYv.out
          have VV := V1.out A3 c3 ⟨rs, ra, rt⟩ v (by show rs.length ≤ _; omega) RYv.out BUv.out
          rw [HXC.out] at VV
          have HVV := Lib.hid VV
          clear VV V1 HXC
          go_wp2_with fail
          refine HVV.out.mono ?_
          rintro e w10 ⟨rfl, hb10⟩
          have HB10 := Lib.hid hb10
          have KX10 := Lib.hid (blkc KXv.out hb10)
          have KY10 := Lib.hid (blkc KYv.out hb10)
          have KO10 := Lib.hid (blkc KOv.out hb10)
          have KZ10 := Lib.hid (blkc KZ.out hb10)
          clear hb10 y0 y1 y2 y6 KXv KYv KOv KZ HVV
          obtain ⟨x0, x1, x2, _, _, _, x6⟩ := cell3 KX10.out
          obtain ⟨y0, y1, y2, _, _, _, y6⟩ := cell3 KY10.out
          have HEND : Hid (∀ (W : World), Below v.heap.size v W → cr.stop = true → Calls Try.prog 20 #[.agg #[.slice A3 rs.length c3, .int .i64 ra, .bool rt], .agg #[.slice A1 cr.cs.length c1, .int .i64 cr.at', .bool cr.stop]] W fun e w' => e = .returned (.bool true) ∧ Below W.heap.size W w') := fun W hW hs => by
            have he := HST.out hs
            have h1 := HA.out.next (bel_trans BUv.out hW)
            rw [he] at h1 ⊢
            exact SC.out A3 A1 c3 c1 ⟨rs, ra, rt⟩ W (by show rs.length ≤ _; omega) (RYv.out.next hW) h1
          have HLT : Hid (∀ (W : World), Below v.heap.size v W → op ≠ 7 → Calls Try.prog 20 #[.agg #[.slice A7 ls.length c7, .int .i64 la, .bool lt], .agg #[.slice A3 rs.length c3, .int .i64 ra, .bool rt]] W fun e w' => e = .returned (.bool true) ∧ Below W.heap.size W w') := fun W hW ho => by
            have he := HLA.out ho
            simp only [Cor.mk.injEq] at he
            obtain ⟨rfl, rfl, rfl⟩ := he
            exact SC.out A7 A3 c7 c3 ⟨ls, la, lt⟩ W (by show ls.length ≤ _; omega) (HZ.out.next hW) (RYv.out.next hW)
          cases hst : cr.stop
          · rw [hst] at x2
            obtain ⟨o0, o1, o2, _, _, _, o6⟩ := cell3 KO10.out
            obtain ⟨z0, z1, z2, _, _, _, z6⟩ := cell3 KZ10.out
            by_cases hop : op = 7
            · subst hop
              go_wp2_with fail
              go_ret
              exact ⟨rfl, bel_trans BWv.out HB10.out⟩
            · have hopb : (op == 7) = false := by rw [beq_eq_false_iff_ne]; exact hop
              have C4 := Lib.hid (HLT.out w10 HB10.out hop)
              go_wp2_with fail
              refine C4.out.mono ?_
              rintro e w12 ⟨rfl, hb12⟩
              go_wp2_with fail
              go_ret
              exact ⟨rfl, bel_trans BWv.out (bel_trans HB10.out hb12)⟩
          · have C3 := Lib.hid (HEND.out w10 HB10.out hst)
            rw [hst] at x2 C3
            go_wp2_with fail
            refine C3.out.mono ?_
            rintro e w11 ⟨rfl, hb11⟩
            have HB11 := Lib.hid (bel_trans HB10.out hb11)
            have KY11 := Lib.hid (blkc KY10.out hb11)
            have KO11 := Lib.hid (blkc KO10.out hb11)
            have KZ11 := Lib.hid (blkc KZ10.out hb11)
            clear hb11 x0 x1 x2 x6 y0 y1 y2 y6
            obtain ⟨y0, y1, y2, _, _, _, y6⟩ := cell3 KY11.out
            obtain ⟨o0, o1, o2, _, _, _, o6⟩ := cell3 KO11.out
            obtain ⟨z0, z1, z2, _, _, _, z6⟩ := cell3 KZ11.out
            by_cases hop : op = 7
            · subst hop
              go_wp2_with fail
              go_ret
              exact ⟨rfl, bel_trans BWv.out HB11.out⟩
            · have hopb : (op == 7) = false := by rw [beq_eq_false_iff_ne]; exact hop
              have C4 := Lib.hid (HLT.out w11 HB11.out hop)
              go_wp2_with fail
              refine C4.out.mono ?_
              rintro e w12 ⟨rfl, hb12⟩
              go_wp2_with fail
              go_ret
              exact ⟨rfl, bel_trans BWv.out (bel_trans HB11.out hb12)⟩
  · have hl' : 1048576 < bs.length := by omega
    clear hr hby hl
    go_enter Try.func11, Try.ntmps11
    go_wp2
    go_ret
    exact ⟨rfl, Below.refl _ _⟩
end Go.Proofs.Ytiodpnhokjkjaaa
