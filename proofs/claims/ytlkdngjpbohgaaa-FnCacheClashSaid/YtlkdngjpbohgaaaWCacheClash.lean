/- The walk of the law FnCacheClash: true for every input, and nothing that was there is written. -/
import Derived.Test.YtlkdngjpbohgaaaDrd
import Derived.Test.YtlkdngjpbohgaaaSam
namespace Go.Proofs.Ytlkdngjpbohgaaa
open Go.RowKit Go.Sort

set_option maxRecDepth 100000 in
set_option maxHeartbeats 3200000 in
theorem walkFnCacheClash (A : Option Addr) (c : Nat) (bs : List Int) (w : World) (hc : bs.length ≤ c) (hr : Rd eU8 w w.heap.size A bs) (hby : ∀ x ∈ bs, 0 ≤ x ∧ x ≤ 255) :
    Calls Try.prog 8 #[.slice A bs.length c] w fun e w' => e = .returned (.bool true) ∧ Below w.heap.size w w' := by
  by_cases hl : bs.length ≤ 1048576
  · have HC := Lib.hid (callDrawTouchCache A c bs w hc hl hr hby)
    clear hr hby
    go_enter Try.func8, Try.ntmps8
    go_wp2_with fail
    refine HC.out.mono ?_
    rintro e w1 ⟨A, c, h, p, rfl, hrd, hcc, hlh, hp1, hp2, hb1⟩
    have HB1 := Lib.hid hb1
    clear hb1 HC
    have HXB : Hid ((w1.alloc (.cells #[.slice A h.length c] 25)).heap[w1.heap.size]? = some (.cells #[.slice A h.length c] 25 (0, 0))) := heap_alloc_new w1 _
    have HX := Lib.hid hrd
    have HBa := Lib.hid (below1 w1 (.cells #[.slice A h.length c] 25))
    clear hrd
    cases hok : cacheOk h
    · have HOK := Lib.hid hok
      clear hok
      have hcx := (cell1 HXB.out).1
      have k1 := cell_regrown hcx
      have C1 : QCall Try.prog 25 #[.agg #[.slice A h.length c]] (w1.alloc (.cells #[.slice A h.length c] 25)) (.bool false) := QCall.of fun W' hb => by
        have := callCacheValid A c h W' w1.heap.size (Nat.le_trans HBa.out.size hb.size) (by omega) (HX.out.below (bel_trans HBa.out hb))
        rw [HOK.out] at this
        exact this
      have C2 : QCall Try.prog 30 #[.agg #[.slice A h.length c]] (w1.alloc (.cells #[.slice A h.length c] 25)) (.bool false) := QCall.of fun W' hb => by
        have := callSCacheValid A c h W' w1.heap.size (Nat.le_trans HBa.out.size hb.size) (by omega) (HX.out.below (bel_trans HBa.out hb))
        rw [HOK.out] at this
        exact this
      go_upto_region 4 with (fail)
      refine wp_region_quiet_below (by kernel_rfl) (by kernel_rfl) ?_
      clear hcx
      repeat (first | go_big_quiet_step ((first | (go_at_call 25; exact C1 _ _) | (go_at_call 30; exact C2 _ _))) | quiet_step ((first | (go_at_call 25; exact C1 _ _) | (go_at_call 30; exact C2 _ _))))
      refine wpQuiet_nil ?_
      intro w2 hw2
      have hb2 := below_of_regrown hw2
      have HB2 := Lib.hid (bel_trans HBa.out hb2)
      have HXB2 := Lib.hid (blkc HXB.out hb2)
      have hcx := (cell1 HXB2.out).1
      clear hw2 hb2 k1 C1 C2
      go_wp2_with fail
      refine (callSCacheValid A c h _ w1.heap.size HB2.out.size (by omega) (HX.out.below HB2.out)).mono ?_
      rintro e w3 ⟨rfl, hb3⟩
      rw [HOK.out]
      have HB3 := Lib.hid (bel_trans HB2.out hb3)
      have HXB3 := Lib.hid (blkc HXB2.out hb3)
      clear hb3
      try clear hcx
      have hcx := (cell1 HXB3.out).1
      go_wp2_with fail
      refine (callAlive _).mono ?_
      rintro e w9 ⟨rfl, hb9⟩
      go_wp2
      go_ret
      exact ⟨rfl, bel_trans HB1.out (bel_trans HB3.out hb9)⟩
    · have HOK := Lib.hid hok
      have hl := cacheOk_len hok
      clear hok
      have hcx := (cell1 HXB.out).1
      have k1 := cell_regrown hcx
      have C1 : QCall Try.prog 25 #[.agg #[.slice A h.length c]] (w1.alloc (.cells #[.slice A h.length c] 25)) (.bool true) := QCall.of fun W' hb => by
        have := callCacheValid A c h W' w1.heap.size (Nat.le_trans HBa.out.size hb.size) (by omega) (HX.out.below (bel_trans HBa.out hb))
        rw [HOK.out] at this
        exact this
      have C2 : QCall Try.prog 30 #[.agg #[.slice A h.length c]] (w1.alloc (.cells #[.slice A h.length c] 25)) (.bool true) := QCall.of fun W' hb => by
        have := callSCacheValid A c h W' w1.heap.size (Nat.le_trans HBa.out.size hb.size) (by omega) (HX.out.below (bel_trans HBa.out hb))
        rw [HOK.out] at this
        exact this
      go_upto_region 4 with (fail)
      refine wp_region_quiet_below (by kernel_rfl) (by kernel_rfl) ?_
      clear hcx
      repeat (first | go_big_quiet_step ((first | (go_at_call 25; exact C1 _ _) | (go_at_call 30; exact C2 _ _))) | quiet_step ((first | (go_at_call 25; exact C1 _ _) | (go_at_call 30; exact C2 _ _))))
      refine wpQuiet_nil ?_
      intro w2 hw2
      have hb2 := below_of_regrown hw2
      have HB2 := Lib.hid (bel_trans HBa.out hb2)
      have HXB2 := Lib.hid (blkc HXB.out hb2)
      have hcx := (cell1 HXB2.out).1
      clear hw2 hb2 k1 C1 C2
      go_wp2_with fail
      refine (callSCacheValid A c h _ w1.heap.size HB2.out.size (by omega) (HX.out.below HB2.out)).mono ?_
      rintro e w3 ⟨rfl, hb3⟩
      rw [HOK.out]
      have HB3 := Lib.hid (bel_trans HB2.out hb3)
      have HXB3 := Lib.hid (blkc HXB2.out hb3)
      clear hb3
      try clear hcx
      have hcx := (cell1 HXB3.out).1
      by_cases hpr : p < 0 ∨ 4096 ≤ p
      · by_cases hp0 : p < 0
        · have d1 : decide (p < 0) = true := decide_eq_true hp0
          go_wp2_with fail
          refine (callAlive _).mono ?_
          rintro e w9 ⟨rfl, hb9⟩
          go_wp2
          go_ret
          exact ⟨rfl, bel_trans HB1.out (bel_trans HB3.out hb9)⟩
        · have d1 : decide (p < 0) = false := decide_eq_false hp0
          have d2 : decide (p ≥ 4096) = true := decide_eq_true (by omega)
          go_wp2_with fail
          refine (callAlive _).mono ?_
          rintro e w9 ⟨rfl, hb9⟩
          go_wp2
          go_ret
          exact ⟨rfl, bel_trans HB1.out (bel_trans HB3.out hb9)⟩
      · have hpok : plOk p = true := plOk_iff.2 (by omega)
        have htc : tcOk h p = true := by unfold tcOk; rw [HOK.out, hpok]; rfl
        obtain ⟨c1', c2', c3'⟩ := clash_line HOK.out hpok
        obtain ⟨q, hq⟩ : ∃ q, q = (p + 16 * (h.length : Int)) % 4096 := ⟨_, rfl⟩
        rw [← hq] at c1' c2' c3'
        have hqq : (p + 16 * (h.length : Int)) % 4096 = q := hq.symm
        have N1 : Hid (tcNew h p = tNew h p) := by show _ = _; unfold tcNew; rw [htc]; rfl
        have HTT : Hid (touchTime (tNew h p) [q, p, q, p] = 32) := by
          show _ = _
          unfold touchTime
          rw [cacheOk_new HOK.out hpok, plsOk_iff.2 ⟨by simp, fun x hx => by
            simp only [List.mem_cons, List.mem_nil_iff, or_false] at hx
            rcases hx with rfl | rfl | rfl | rfl <;> assumption⟩]
          exact clash_time (by omega) c2' c3'
        have d1 : decide (p < 0) = false := decide_eq_false (by omega)
        have d2 : decide (p ≥ 4096) = false := decide_eq_false (by omega)
        have hnl := tNew_len h p
        have HNL := Lib.hid hnl
        clear hpok htc c1' c2' c3' hq hnl
        go_wp2_with fail
        refine (callTouchCache A c h p _ w1.heap.size HB3.out.size (by omega) hcc (HX.out.below HB3.out)).mono ?_
        rintro e w4 ⟨A4, c4, rfl, hown4, hc4, hb4⟩
        rw [N1.out] at hown4 hc4 ⊢
        rw [HNL.out] at hown4 hc4 ⊢
        have HO4 := Lib.hid hown4.rd
        have HB4 := Lib.hid (bel_trans HB3.out hb4)
        have HXB4 : Hid ((w4.alloc (.cells #[.slice A4 h.length c4] 25)).heap[w4.heap.size]? = some (.cells #[.slice A4 h.length c4] 25 (0, 0))) := heap_alloc_new w4 _
        have HTC : ∀ (W : World) (A' : Option Addr) (c' : Nat), Below w4.heap.size w4 W → Rd eInt W W.heap.size A' [q, p, q, p] → Hid (Calls Try.prog 15 #[.agg #[.slice A4 h.length c4], .slice A' 4 c'] W fun e w' => e = .returned (.int .i64 32) ∧ Below W.heap.size W w') := fun W A' c' hW hr => by
          have := callTouchTime A4 A' c4 c' (tNew h p) [q, p, q, p] W W.heap.size (Nat.le_refl _) (by rw [HNL.out]; omega) (by rw [HNL.out]; exact hc4) (by simp) ((HO4.out.below hW).mono hW.size) hr
          rw [HTT.out, HNL.out] at this
          exact this
        have HRD : Hid (Rd eInt ((w4.alloc (.cells #[.slice A4 h.length c4] 25)).alloc (.cells #[.int .i64 q, .int .i64 p, .int .i64 q, .int .i64 p] 3)) ((w4.alloc (.cells #[.slice A4 h.length c4] 25)).alloc (.cells #[.int .i64 q, .int .i64 p, .int .i64 q, .int .i64 p] 3)).heap.size (some ⟨w4.heap.size + 1, 0, none⟩) [q, p, q, p]) := by
          have := Rd.new (E := eInt) (xs := [q, p, q, p]) (w4.alloc (.cells #[.slice A4 h.length c4] 25)) 3 #[.int .i64 q, .int .i64 p, .int .i64 q, .int .i64 p] rfl
          rw [World.size_alloc w4] at this
          exact this
        clear hb4 hown4 hcx
        go_wp2_with fail
        refine (HTC _ (some ⟨w4.heap.size + 1, 0, none⟩) 4 (below2 w4 _ _) HRD.out).out.mono ?_
        rintro e w5 ⟨rfl, hb5⟩
        go_wp2
        go_ret
        exact ⟨rfl, bel_trans HB1.out (bel_trans HB4.out (bel_trans (below2 _ _ _) hb5))⟩
  · have hl' : 1048576 < bs.length := by omega
    clear hr hby hl
    go_enter Try.func8, Try.ntmps8
    go_wp2
    go_ret
    exact ⟨rfl, Below.refl _ _⟩
end Go.Proofs.Ytlkdngjpbohgaaa
