/- The walk of the law FnRunCore: true for every input, and nothing that was there is written. -/
import Derived.Test.YtiodpnhokjkjaaaCdw
import Derived.Test.YtiodpnhokjkjaaaCou
import Derived.Test.YtiodpnhokjkjaaaCol
import Derived.Test.YtiodpnhokjkjaaaSco
import Derived.Deep.RegionHeld3
namespace Go.Proofs.Ytiodpnhokjkjaaa
open Go.RowKit Go.Sort

theorem run_half {cr : Cor} {os : List Ord3} {cells : Int} {n : Nat} (h : coreB cr os cells = true) (hn : n ≤ 200) (ht : os.any (fun o => o.op == 7) = false) :
    runCore (corRun cr os (n / 2)) os cells ((n - n / 2 : Nat) : Int) = corRun cr os n := by
  rw [runCore_good (corRun_ok h _) (inB_iff.2 ⟨by omega, by omega⟩), corRun_add h (fun o ho e => ?_)]
  · rw [show n / 2 + (n - n / 2) = n by omega]
  · rw [List.any_eq_false] at ht
    exact ht o ho (by rw [e]; rfl)

set_option maxRecDepth 100000 in
set_option maxHeartbeats 3200000 in
theorem walkFnRunCore (A : Option Addr) (c : Nat) (bs : List Int) (w : World) (hc : bs.length ≤ c) (hr : Rd eU8 w w.heap.size A bs) (hby : ∀ x ∈ bs, 0 ≤ x ∧ x ≤ 255) :
    Calls Try.prog 4 #[.slice A bs.length c] w fun e w' => e = .returned (.bool true) ∧ Below w.heap.size w w' := by
  by_cases hl : bs.length ≤ 1048576
  · have HC := Lib.hid (callDrawRunCore A c bs w hc hl hr hby)
    clear hr hby
    go_enter Try.func4, Try.ntmps4
    go_wp2_with fail
    refine HC.out.mono ?_
    rintro e w1 ⟨A1, c1, cr, A2, c2, os, cells, n, rfl, hn0, hn1, hl5, hc1, hl21, hc2, hra, hro, hb1⟩
    have HB1 := Lib.hid (bel_trans hb1 (below1 w1 (.cells #[.slice A1 cr.cs.length c1, .int .i64 cr.at', .bool cr.stop] 33)))
    have KX := Lib.hid (heap_alloc_new w1 (.cells #[.slice A1 cr.cs.length c1, .int .i64 cr.at', .bool cr.stop] 33))
    have HA := Lib.hid (hra.alloc (.cells #[.slice A1 cr.cs.length c1, .int .i64 cr.at', .bool cr.stop] 33))
    have HO := Lib.hid (hro.alloc (.cells #[.slice A1 cr.cs.length c1, .int .i64 cr.at', .bool cr.stop] 33))
    clear hra hro hb1 HC
    go_upto_region 4 with (fail)
    obtain ⟨u, hu⟩ : ∃ u, u = w1.alloc (.cells #[.slice A1 cr.cs.length c1, .int .i64 cr.at', .bool cr.stop] 33) := ⟨_, rfl⟩
    obtain ⟨X, hX⟩ : ∃ X, X = w1.heap.size := ⟨_, rfl⟩
    rw [← hu] at HB1 KX HA HO ⊢
    rw [← hX] at KX ⊢
    clear hu hX
    have RI : Hid (∀ (A : Option Addr) (c : Nat) (d : Cor) (t : Int) (W : World), d.cs.length ≤ c → d.cs.length ≤ 1048576 → Rd eInt W W.heap.size A d.cs → Below u.heap.size u W → Calls Try.prog 19 #[.agg #[.slice A d.cs.length c, .int .i64 d.at', .bool d.stop], .slice A2 os.length c2, .int .i64 cells, .int .i64 t] W (CorRes W (runCore d os cells t))) := fun A c d t W h1 h2 h3 hW => callRunCore A c d A2 c2 os cells t W W.heap.size (Nat.le_refl _) h1 h2 (by omega) h3 (HO.out.next hW)
    have RS : Hid (∀ (W : World), Below u.heap.size u W → Calls Try.prog 21 #[.agg #[.slice A1 cr.cs.length c1, .int .i64 cr.at', .bool cr.stop], .slice A2 os.length c2, .int .i64 cells, .int .i64 n] W (CorRes W (runCore cr os cells n))) := fun W hW => callSRunCore A1 c1 cr A2 c2 os cells n W W.heap.size (Nat.le_refl _) (by omega) (by omega) (HA.out.next hW) (HO.out.next hW)
    have V2 : Hid (∀ W, Below u.heap.size u W → Calls Try.prog 22 #[.agg #[.slice A1 cr.cs.length c1, .int .i64 cr.at', .bool cr.stop], .slice A2 os.length c2, .int .i64 cells] W fun e w' => e = .returned (.bool (coreB cr os cells)) ∧ Below W.heap.size W w') := fun W hW => callSCoreValid A1 c1 cr A2 c2 os cells W u.heap.size hW.size (by omega) (by omega) (HA.out.below hW) (HO.out.below hW)
    have V1 : Hid (∀ (A : Option Addr) (c : Nat) (d : Cor) W, d.cs.length ≤ 1048576 → Rd eInt W W.heap.size A d.cs → Below u.heap.size u W → Calls Try.prog 23 #[.agg #[.slice A d.cs.length c, .int .i64 d.at', .bool d.stop], .slice A2 os.length c2, .int .i64 cells] W fun e w' => e = .returned (.bool (coreB d os cells)) ∧ Below W.heap.size W w') := fun A c d W h1 h2 hW => callCoreValid A c d A2 c2 os cells W W.heap.size (Nat.le_refl _) h1 (by omega) h2 (HO.out.next hW)
    have SC : Hid (∀ (A A' : Option Addr) (c c' : Nat) (d : Cor) (W : World), d.cs.length ≤ 1048576 → Rd eInt W W.heap.size A d.cs → Rd eInt W W.heap.size A' d.cs → Calls Try.prog 20 #[.agg #[.slice A d.cs.length c, .int .i64 d.at', .bool d.stop], .agg #[.slice A' d.cs.length c', .int .i64 d.at', .bool d.stop]] W fun e w' => e = .returned (.bool true) ∧ Below W.heap.size W w') := fun A A' c c' d W h h1 h2 => sameCoreT A A' c c' d h W h1 h2
    have HLEN : Hid ((runCore cr os cells n).cs.length ≤ 5) := by
      show _ ≤ _
      cases q : (coreB cr os cells && inB n 0 200)
      · rw [runCore_bad q]; simp
      · rw [Bool.and_eq_true] at q
        obtain ⟨k, hk⟩ := Int.eq_ofNat_of_zero_le (inB_iff.1 q.2).1
        subst hk
        rw [runCore_good q.1 q.2, corRun_len q.1]
        exact hl5
    have HRB : Hid ((coreB cr os cells && inB n 0 200) = false → runCore cr os cells n = ⟨[], 0, false⟩) := runCore_bad
    have HRG : Hid (∀ k : Nat, n = k → coreB cr os cells = true → inB (k : Int) 0 200 = true → runCore cr os cells n = corRun cr os k) := fun k e h h' => by rw [e]; exact runCore_good h h'
    obtain ⟨r, hrr⟩ : ∃ r, r = runCore cr os cells n := ⟨_, rfl⟩
    rw [← hrr] at RS HLEN HRB HRG
    have RI1 := RI.out A1 c1 cr n u hc1 (by omega) HA.out (Below.refl _ _)
    rw [← hrr] at RI1
    have HRI1 := Lib.hid RI1
    clear hrr RI1
    obtain ⟨x0, x1, x2, _, _, _, x6⟩ := cell3 KX.out
    go_wp2_with fail
    refine HRI1.out.mono ?_
    rintro e w2 ⟨A3, c3, rfl, hown2, hc3, hb2⟩
    have hl5r := HLEN.out
    obtain ⟨rs, ra, rt⟩ := r
    simp only at hown2 hc3 hl5r RS ⊢
    have HBY := Lib.hid (bel_trans hb2 (below1 w2 (.cells #[.slice A3 rs.length c3, .int .i64 ra, .bool rt] 33)))
    have KX2 := Lib.hid (blkc KX.out HBY.out)
    have KY := Lib.hid (heap_alloc_new w2 (.cells #[.slice A3 rs.length c3, .int .i64 ra, .bool rt] 33))
    have HY := Lib.hid (hown2.rd.alloc (.cells #[.slice A3 rs.length c3, .int .i64 ra, .bool rt] 33))
    go_upto_region 5 with (fail)
    obtain ⟨u2, hu2⟩ : ∃ u2, u2 = w2.alloc (.cells #[.slice A3 rs.length c3, .int .i64 ra, .bool rt] 33) := ⟨_, rfl⟩
    obtain ⟨Y, hY⟩ : ∃ Y, Y = w2.heap.size := ⟨_, rfl⟩
    rw [← hu2] at HBY KX2 KY HY ⊢
    rw [← hY] at KY ⊢
    clear hu2 hY hown2 hb2 x0 x1 x2 x6 HRI1 KX
    obtain ⟨x0, x1, x2, _, _, _, x6⟩ := cell3 KX2.out
    obtain ⟨y0, y1, y2, _, _, _, y6⟩ := cell3 KY.out
    go_region_held3 (fun w' => w'.cell? ⟨X, 0, none⟩ = some (.slice A1 cr.cs.length c1) ∧ w'.cell? ⟨X, 1, none⟩ = some (.int .i64 cr.at') ∧ w'.cell? ⟨X, 2, none⟩ = some (.bool cr.stop) ∧ w'.cell? ⟨Y, 0, none⟩ = some (.slice A3 rs.length c3) ∧ w'.cell? ⟨Y, 1, none⟩ = some (.int .i64 ra) ∧ w'.cell? ⟨Y, 2, none⟩ = some (.bool rt)) (first | exact ⟨x0, x1, x2, y0, y1, y2⟩ | (refine ⟨?_, ?_, ?_, ?_, ?_, ?_⟩ <;> assumption) | assumption | go_keep)
      (first
        | (go_at_call 21; (with_reducible refine (RS.out u2.drew HBY.out.drew).mono ?_); rintro e w5 ⟨A5, c5, rfl, hown5, hc5, hb5⟩; have HB5 : Hid (Below u2.heap.size u2 w5) := ⟨hb5.os, hb5.tape, hb5.output, hb5.size, hb5.block⟩; have KX5 := Lib.hid (blkc KX2.out HB5.out); have KY5 := Lib.hid (blkc KY.out HB5.out); have HO5 := Lib.hid hown5.rd; clear hown5 hb5; obtain ⟨xa0, xa1, xa2, _, _, _, _⟩ := cell3 KX5.out; obtain ⟨ya0, ya1, ya2, _, _, _, _⟩ := cell3 KY5.out)
        | (go_at_call 20; (with_reducible refine (SC.out A3 A5 c3 c5 ⟨rs, ra, rt⟩ w5 (by show rs.length ≤ 1048576; omega) (HY.out.next HB5.out) HO5.out).mono ?_); rintro e w6 ⟨rfl, hb6⟩; have HB6 := Lib.hid (bel_trans HB5.out hb6); have KX6 := Lib.hid (blkc KX5.out hb6); have KY6 := Lib.hid (blkc KY5.out hb6); clear hb6; obtain ⟨xb0, xb1, xb2, _, _, _, _⟩ := cell3 KX6.out; obtain ⟨yb0, yb1, yb2, _, _, _, _⟩ := cell3 KY6.out))
    have BW6 := Lib.hid (bel_trans HB1.out (bel_trans HBY.out HB6.out))
    have BU6 := Lib.hid (bel_trans HBY.out HB6.out)
    have RY6 := Lib.hid (HY.out.next HB6.out)
    clear HB6 HB5 HO5 KX5 KY5 xa0 xa1 xa2 ya0 ya1 ya2 xb0 xb1 xb2 yb0 yb1 yb2 x0 x1 x2 x6 y0 y1 y2 y6 KX2 KY HY HBY RS HB1 hc5
    obtain ⟨x0, x1, x2, _, _, _, x6⟩ := cell3 KX6.out
    by_cases hbad : (coreB cr os cells && inB n 0 200) = false
    · have hr0 := HRB.out hbad
      simp only [Cor.mk.injEq] at hr0
      obtain ⟨rfl, rfl, rfl⟩ := hr0
      have hway : ∀ (q : Bool), coreB cr os cells = q → (q = false ∨ (q = true ∧ decide (n < 0) = true) ∨ (q = true ∧ decide (n < 0) = false ∧ decide (n > 200) = true)) := fun q hq => by
        rw [hq] at hbad
        cases q
        · exact .inl rfl
        · refine .inr ?_
          rw [Bool.true_and, ← Bool.not_eq_true, inB_iff] at hbad
          by_cases h : n < 0
          · exact .inl ⟨rfl, decide_eq_true h⟩
          · exact .inr ⟨rfl, decide_eq_false h, decide_eq_true (by omega)⟩
      obtain ⟨q, hq⟩ : ∃ q, q = coreB cr os cells := ⟨_, rfl⟩
      have hway2 := hway q hq.symm
      rw [← hq] at V2
      clear hq hway hbad HRB HRG
      rcases hway2 with rfl | ⟨rfl, hd⟩ | ⟨rfl, hd, hd2⟩
      all_goals
        go_wp2_with fail
        refine (V2.out w6 BU6.out).mono ?_
        rintro e w7 ⟨rfl, hb7⟩
        have BW7 := Lib.hid (bel_trans BW6.out hb7)
        obtain ⟨y0, y1, y2, _, _, _, y6⟩ := cell3 (blkc KY6.out hb7)
        clear hb7
        go_wp2_with fail
        refine (callAlive _).mono ?_
        rintro e w8 ⟨rfl, hb8⟩
        go_wp2
        go_ret
        exact ⟨rfl, bel_trans BW7.out hb8⟩
    · have hgood := (Bool.not_eq_false _).mp hbad
      rw [Bool.and_eq_true] at hgood
      obtain ⟨q1, q2⟩ := hgood
      obtain ⟨k, rfl⟩ := Int.eq_ofNat_of_zero_le (inB_iff.1 q2).1
      have hk200 : k ≤ 200 := by have := (inB_iff.1 q2).2; omega
      have HG := Lib.hid (HRG.out k rfl q1 q2)
      have HQ := Lib.hid q1
      have hd1 : decide ((k : Int) < 0) = false := decide_eq_false (by omega)
      have hd2 : decide ((k : Int) > 200) = false := decide_eq_false (by omega)
      rw [q1] at V2
      clear q1 q2 hbad HRB HRG hn0 hn1
      go_wp2_with fail
      refine (V2.out w6 BU6.out).mono ?_
      rintro e w7 ⟨rfl, hb7⟩
      have BW7 := Lib.hid (bel_trans BW6.out hb7)
      have BU7 := Lib.hid (bel_trans BU6.out hb7)
      have KX7 := Lib.hid (blkc KX6.out hb7)
      have KY7 := Lib.hid (blkc KY6.out hb7)
      have RY7 := Lib.hid (RY6.out.next hb7)
      clear hb7 x0 x1 x2 x6 BW6 BU6 KX6 KY6 RY6 V2
      have HO7 := Lib.hid (HO.out.below BU7.out)
      go_wp2_with fail
      go_loopw [8, 9] (fun v i wr => ∃ j : Nat, i = .int .i64 j ∧ v = .bool ((os.take j).any (fun o => o.op == 7)) ∧ j ≤ os.length ∧ wr = w7) (fun _ i _ => os.length - (intOf i).toNat)
      case atStart => exact ⟨0, rfl, rfl, by omega, rfl⟩
      case round =>
        obtain ⟨j, rfl, rfl, hjl, rfl⟩ := hrel
        by_cases hj : j < os.length
        · have hd : decide ((j : Int) < (os.length : Int)) = true := decide_eq_true (by omega)
          have hdn : decide (j < os.length) = true := decide_eq_true hj
          obtain ⟨b, off, rfl, hbB, o1, o2, o3⟩ := HO7.out.at3 rfl hj rfl
          have HT : Hid ((os.take (j + 1)).any (fun o => o.op == 7) = ((os.take j).any (fun o => o.op == 7) || (os[j].op == 7))) := by
            show _ = _
            rw [List.take_succ_eq_append_getElem hj, List.any_append]
            simp
          obtain ⟨tj, htj⟩ : ∃ tj, tj = (os.take j).any (fun o => o.op == 7) := ⟨_, rfl⟩
          rw [← htj] at HT
          rw [← htj]
          clear htj
          obtain ⟨opj, hopj⟩ : ∃ opj, opj = os[j].op := ⟨_, rfl⟩
          rw [← hopj] at o1 HT
          clear hopj
          cases tj
          all_goals
            go_wp2_with fail
            go_roundw
            case rel => exact ⟨j + 1, by go_num, by rw [HT.out]; simp, by omega, by first | rfl | trivial⟩
            case measure => simp [intOf]; omega
        · have hd : decide ((j : Int) < (os.length : Int)) = false := decide_eq_false (by omega)
          have hdn : decide (j < os.length) = false := decide_eq_false hj
          have HTM : Hid ((os.take j).any (fun o => o.op == 7) = os.any (fun o => o.op == 7)) := by
            show _ = _
            rw [List.take_of_length_le (by omega)]
          rw [HTM.out]
          clear HTM
          obtain ⟨m, hm⟩ : ∃ m, m = k / 2 := ⟨_, rfl⟩
          obtain ⟨d, hdd⟩ : ∃ d, d = k - k / 2 := ⟨_, rfl⟩
          have e1 : (k : Int) / 2 = (m : Int) := by omega
          have e2 : Int.tdiv (k : Int) 2 = (m : Int) := by rw [Int.tdiv_eq_ediv_of_nonneg (by omega)]; exact e1
          have e3 : (k : Int) - (m : Int) = (d : Int) := by omega
          have e4 : IntKind.i64.wrap ((k : Int) - (m : Int)) = (d : Int) := by rw [IntKind.wrap_i64]; omega
          have hd200 : d ≤ 200 := by omega
          have hm200 : m ≤ 200 := by omega
          obtain ⟨tm, htm⟩ : ∃ tm, tm = os.any (fun o => o.op == 7) := ⟨_, rfl⟩
          have HH : Hid (tm = false → runCore (corRun cr os m) os cells d = ⟨rs, ra, rt⟩) := fun h => by
            rw [hm, hdd, run_half HQ.out hk200 (by rw [← htm]; exact h), HG.out]
          have HXC : Hid (coreB ⟨rs, ra, rt⟩ os cells = true) := by show _ = true; rw [HG.out]; exact corRun_ok HQ.out k
          have HST : Hid (cr.stop = true → cr = ⟨rs, ra, rt⟩) := fun h => by rw [HG.out, corRun_stop h]
          have HR1 : Hid (runCore cr os cells m = corRun cr os m) := runCore_good HQ.out (inB_iff.2 ⟨by omega, by omega⟩)
          have hL1 : (corRun cr os m).cs.length ≤ 5 := by rw [corRun_len HQ.out]; exact hl5
          have hL2 : (runCore (corRun cr os m) os cells d).cs.length ≤ 5 := by rw [runCore_good (corRun_ok HQ.out m) (inB_iff.2 ⟨by omega, by omega⟩), corRun_len (corRun_ok HQ.out m)]; exact hL1
          have C1 := RI.out A1 c1 cr m wr hc1 (by omega) (HA.out.next BU7.out) BU7.out
          rw [HR1.out] at C1
          have HC1 := Lib.hid C1
          clear C1 HR1
          have C2 : Hid (∀ A c W, (corRun cr os m).cs.length ≤ c → Rd eInt W W.heap.size A (corRun cr os m).cs → Below u.heap.size u W → Calls Try.prog 19 #[.agg #[.slice A (corRun cr os m).cs.length c, .int .i64 (corRun cr os m).at', .bool (corRun cr os m).stop], .slice A2 os.length c2, .int .i64 cells, .int .i64 (d : Int)] W (CorRes W (runCore (corRun cr os m) os cells d))) := fun A c W h1 h2 h3 => RI.out A c (corRun cr os m) d W h1 (by omega) h2 h3
          obtain ⟨h2, hh2⟩ : ∃ h2, h2 = runCore (corRun cr os m) os cells d := ⟨_, rfl⟩
          rw [← hh2] at hL2 C2 HH
          obtain ⟨h1, hh1⟩ : ∃ h1, h1 = corRun cr os m := ⟨_, rfl⟩
          rw [← hh1] at hL1 C2 HC1
          rw [← htm]
          clear hh1 hh2 htm hm hdd HG HQ hj hjl HO7 RI
          obtain ⟨x0, x1, x2, _, _, _, x6⟩ := cell3 KX7.out
          go_wp2_with fail
          refine HC1.out.mono ?_
          rintro e w8 ⟨A8, c8, rfl, hown8, hc8, hb8⟩
          have BU8 := Lib.hid (bel_trans BU7.out hb8)
          have HR8 := Lib.hid hown8.rd
          have HB8 := Lib.hid hb8
          clear hown8 hb8 HC1 x0 x1 x2 x6
          go_wp2_with fail
          refine (C2.out A8 c8 w8 hc8 HR8.out BU8.out).mono ?_
          rintro e w9 ⟨A9, c9, rfl, hown9, hc9, hb9⟩
          have HB9 := Lib.hid (bel_trans HB8.out hb9)
          have HR9 := Lib.hid hown9.rd
          clear hown9 hb9 C2 HR8 BU8 HB8
          obtain ⟨hs, ha, ht⟩ := h2
          simp only at hL2 hc9 HR9 ⊢
          have HBZ := Lib.hid (bel_trans HB9.out (below1 w9 (.cells #[.slice A9 hs.length c9, .int .i64 ha, .bool ht] 33)))
          have KZ := Lib.hid (heap_alloc_new w9 (.cells #[.slice A9 hs.length c9, .int .i64 ha, .bool ht] 33))
          have HZ := Lib.hid (HR9.out.alloc (.cells #[.slice A9 hs.length c9, .int .i64 ha, .bool ht] 33))
          go_upto_region 15 with (fail)
          obtain ⟨v, hv⟩ : ∃ v, v = w9.alloc (.cells #[.slice A9 hs.length c9, .int .i64 ha, .bool ht] 33) := ⟨_, rfl⟩
          obtain ⟨Z, hZ⟩ : ∃ Z, Z = w9.heap.size := ⟨_, rfl⟩
          rw [← hv] at HBZ KZ HZ ⊢
          rw [← hZ] at KZ ⊢
          clear hv hZ HR9 HB9
          have KXv := Lib.hid (blkc KX7.out HBZ.out)
          have KYv := Lib.hid (blkc KY7.out HBZ.out)
          have RYv := Lib.hid (RY7.out.next HBZ.out)
          have BUv := Lib.hid (bel_trans BU7.out HBZ.out)
          have BWv := Lib.hid (bel_trans BW7.out HBZ.out)
          clear HBZ KX7 KY7 RY7 BU7 BW7
          obtain ⟨y0, y1, y2, _, _, _, y6⟩ := cell3 KYv.out
          have VV := V1.out A3 c3 ⟨rs, ra, rt⟩ v (by show rs.length ≤ _; omega) RYv.out BUv.out
          rw [HXC.out] at VV
          have HVV := Lib.hid VV
          clear VV V1 HXC
          go_wp2_with fail
          refine HVV.out.mono ?_
          rintro e w10 ⟨rfl, hb10⟩
          have HB10 := Lib.hid hb10
          have KX10 := Lib.hid (blkc KXv.out hb10)
          have KY10 := Lib.hid (blkc KYv.out hb10)
          have KZ10 := Lib.hid (blkc KZ.out hb10)
          clear hb10 y0 y1 y2 y6 KXv KYv KZ HVV
          obtain ⟨x0, x1, x2, _, _, _, x6⟩ := cell3 KX10.out
          obtain ⟨y0, y1, y2, _, _, _, y6⟩ := cell3 KY10.out
          obtain ⟨z0, z1, z2, _, _, _, z6⟩ := cell3 KZ10.out
          have HEND : Hid (∀ (W : World), Below v.heap.size v W → W.heap[X]? = some (.cells #[.slice A1 cr.cs.length c1, .int .i64 cr.at', .bool cr.stop] 33 (0, 0)) → W.heap[Y]? = some (.cells #[.slice A3 rs.length c3, .int .i64 ra, .bool rt] 33 (0, 0)) → cr.stop = true → Calls Try.prog 20 #[.agg #[.slice A3 rs.length c3, .int .i64 ra, .bool rt], .agg #[.slice A1 cr.cs.length c1, .int .i64 cr.at', .bool cr.stop]] W fun e w' => e = .returned (.bool true) ∧ Below W.heap.size W w') := fun W hW _ _ hs => by
            have he := HST.out hs
            have h1 := HA.out.next (bel_trans BUv.out hW)
            rw [he] at h1 ⊢
            exact SC.out A3 A1 c3 c1 ⟨rs, ra, rt⟩ W (by show rs.length ≤ _; omega) (RYv.out.next hW) h1
          cases tm
          · have he := HH.out rfl
            simp only [Cor.mk.injEq] at he
            obtain ⟨rfl, rfl, rfl⟩ := he
            go_wp2_with fail
            refine (SC.out A9 A3 c9 c3 ⟨hs, ha, ht⟩ w10 (by show hs.length ≤ _; omega) (HZ.out.next HB10.out) (RYv.out.next HB10.out)).mono ?_
            rintro e w11 ⟨rfl, hb11⟩
            have HB11 := Lib.hid (bel_trans HB10.out hb11)
            have KX11 := Lib.hid (blkc KX10.out hb11)
            have KY11 := Lib.hid (blkc KY10.out hb11)
            clear hb11 x0 x1 x2 x6 y0 y1 y2 y6 z0 z1 z2 z6
            obtain ⟨x0, x1, x2, _, _, _, x6⟩ := cell3 KX11.out
            obtain ⟨y0, y1, y2, _, _, _, y6⟩ := cell3 KY11.out
            cases hst : cr.stop
            · rw [hst] at x2
              go_wp2_with fail
              go_ret
              exact ⟨rfl, bel_trans BWv.out HB11.out⟩
            · have C3 := Lib.hid (HEND.out w11 HB11.out KX11.out KY11.out hst)
              rw [hst] at x2 C3
              go_wp2_with fail
              refine C3.out.mono ?_
              rintro e w12 ⟨rfl, hb12⟩
              go_wp2_with fail
              go_ret
              exact ⟨rfl, bel_trans BWv.out (bel_trans HB11.out hb12)⟩
          · cases hst : cr.stop
            · rw [hst] at x2
              go_wp2_with fail
              go_ret
              exact ⟨rfl, bel_trans BWv.out HB10.out⟩
            · have C3 := Lib.hid (HEND.out w10 HB10.out KX10.out KY10.out hst)
              rw [hst] at x2 C3
              go_wp2_with fail
              refine C3.out.mono ?_
              rintro e w12 ⟨rfl, hb12⟩
              go_wp2_with fail
              go_ret
              exact ⟨rfl, bel_trans BWv.out (bel_trans HB10.out hb12)⟩
  · have hl' : 1048576 < bs.length := by omega
    clear hr hby hl
    go_enter Try.func4, Try.ntmps4
    go_wp2
    go_ret
    exact ⟨rfl, Below.refl _ _⟩
end Go.Proofs.Ytiodpnhokjkjaaa
