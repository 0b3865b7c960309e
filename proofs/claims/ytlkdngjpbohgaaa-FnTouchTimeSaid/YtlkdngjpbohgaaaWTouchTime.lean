/- The walk of the law FnTouchTime: true for every input, and nothing that was there is written. -/
import Derived.Test.YtlkdngjpbohgaaaDrd
import Derived.Test.YtlkdngjpbohgaaaSam
namespace Go.Proofs.Ytlkdngjpbohgaaa
open Go.RowKit Go.Sort

set_option maxRecDepth 100000 in
set_option maxHeartbeats 3200000 in
theorem walkFnTouchTime (A : Option Addr) (c : Nat) (bs : List Int) (w : World) (hc : bs.length ≤ c) (hr : Rd eU8 w w.heap.size A bs) (hby : ∀ x ∈ bs, 0 ≤ x ∧ x ≤ 255) :
    Calls Try.prog 10 #[.slice A bs.length c] w fun e w' => e = .returned (.bool true) ∧ Below w.heap.size w w' := by
  by_cases hl : bs.length ≤ 1048576
  · have HC := Lib.hid (callDrawTouchTime A c bs w hc hl hr hby)
    clear hr hby
    go_enter Try.func10, Try.ntmps10
    go_wp2_with fail
    refine HC.out.mono ?_
    rintro e w1 ⟨A, c, h, Ap, cp, ps, rfl, hrd, hrp, hcc, hlh, hcp, hlp, hb1⟩
    have HB1 := Lib.hid hb1
    clear hb1 HC
    have HXB : Hid ((w1.alloc (.cells #[.slice A h.length c] 25)).heap[w1.heap.size]? = some (.cells #[.slice A h.length c] 25 (0, 0))) := heap_alloc_new w1 _
    have HX := Lib.hid hrd
    have HBa := Lib.hid (below1 w1 (.cells #[.slice A h.length c] 25))
    clear hrd
    have HP := Lib.hid hrp
    clear hrp
    cases q : (cacheOk h && plsOk ps)
    · have H1 : Hid (touchTime h ps = -1) := by show _ = _; unfold touchTime; rw [q]; rfl
      clear q
      go_wp2_with fail
      refine (callTouchTime A Ap c cp h ps _ w1.heap.size HBa.out.size (by omega) hcc (by omega) (HX.out.below HBa.out) (HP.out.below HBa.out)).mono ?_
      rintro e w2 ⟨rfl, hb2⟩
      rw [H1.out]
      have HB2 := Lib.hid (bel_trans HBa.out hb2)
      have HXB2 := Lib.hid (blkc HXB.out hb2)
      clear hb2
      try clear hcx
      have hcx := (cell1 HXB2.out).1
      go_wp2_with fail
      refine (callSTouchTime A Ap c cp h ps _ w1.heap.size HB2.out.size (by omega) (by omega) (HX.out.below HB2.out) (HP.out.below HB2.out)).mono ?_
      rintro e w3 ⟨rfl, hb3⟩
      rw [H1.out]
      have HB3 := Lib.hid (bel_trans HB2.out hb3)
      have HXB3 := Lib.hid (blkc HXB2.out hb3)
      clear hb3
      try clear hcx
      have hcx := (cell1 HXB3.out).1
      go_wp2_with fail
      refine (callAlive _).mono ?_
      rintro e w9 ⟨rfl, hb9⟩
      go_wp2
      go_ret
      exact ⟨rfl, bel_trans HB1.out (bel_trans HB3.out hb9)⟩
    · rw [Bool.and_eq_true] at q
      obtain ⟨hok, hpo⟩ := q
      obtain ⟨t, ht⟩ : ∃ t, t = runT h ps := ⟨_, rfl⟩
      obtain ⟨m, hm⟩ : ∃ m, m = ps.length / 2 := ⟨_, rfl⟩
      obtain ⟨t2, ht2⟩ : ∃ t2, t2 = runT h (ps.take m) := ⟨_, rfl⟩
      have hbd := runT_bd ps h
      have htk := runT_take h ps m
      have hp60 := (plsOk_iff.1 hpo).1
      rw [← ht] at hbd htk
      rw [← ht2] at htk
      have H1 : Hid (touchTime h ps = t) := by show _ = _; unfold touchTime; rw [hok, hpo, ht]; rfl
      have hpt : plsOk (ps.take m) = true := plsOk_iff.2 ⟨by rw [List.length_take]; omega, fun p hp => (plsOk_iff.1 hpo).2 p (List.mem_of_mem_take hp)⟩
      have H2 : Hid (touchTime h (ps.take m) = t2) := by show _ = _; unfold touchTime; rw [hok, hpt, ht2]; rfl
      have H3 : Hid (touchTime h [] = 0) := by show _ = _; unfold touchTime; rw [hok]; rfl
      have hm2 : m ≤ ps.length := by omega
      have hdiv : (ps.length : Int) / 2 = (m : Int) := by omega
      have hdiv2 : Int.tdiv (ps.length : Int) 2 = (m : Int) := by rw [Int.tdiv_eq_ediv_of_nonneg (by omega)]; omega
      have hwr : IntKind.i64.wrap (m : Int) = (m : Int) := by rw [IntKind.wrap_i64]; omega
      have hmc : m ≤ cp := by omega
      have hnn : (t != t) = false := by simp
      have d1 : decide (t ≥ (ps.length : Int)) = true := decide_eq_true (by omega)
      have d2 : decide (t ≤ (ps.length : Int) * 8) = true := decide_eq_true (by omega)
      have d3 : decide (t2 ≤ t) = true := decide_eq_true (by omega)
      have d4 : decide (t2 ≥ 0) = true := decide_eq_true (by omega)
      clear hok hpo ht ht2 hm hpt
      go_wp2_with fail
      refine (callTouchTime A Ap c cp h ps _ w1.heap.size HBa.out.size (by omega) hcc (by omega) (HX.out.below HBa.out) (HP.out.below HBa.out)).mono ?_
      rintro e w2 ⟨rfl, hb2⟩
      rw [H1.out]
      have HB2 := Lib.hid (bel_trans HBa.out hb2)
      have HXB2 := Lib.hid (blkc HXB.out hb2)
      clear hb2
      try clear hcx
      have hcx := (cell1 HXB2.out).1
      go_wp2_with fail
      refine (callSTouchTime A Ap c cp h ps _ w1.heap.size HB2.out.size (by omega) (by omega) (HX.out.below HB2.out) (HP.out.below HB2.out)).mono ?_
      rintro e w3 ⟨rfl, hb3⟩
      rw [H1.out]
      have HB3 := Lib.hid (bel_trans HB2.out hb3)
      have HXB3 := Lib.hid (blkc HXB2.out hb3)
      clear hb3
      try clear hcx
      have hcx := (cell1 HXB3.out).1
      have hi1 : (0 : Int) ≤ (m : Int) := by omega
      have hi2 : (m : Int) ≤ (cp : Int) := by omega
      have k1 := cell_regrown hcx
      have C1 : QCall Try.prog 15 #[.agg #[.slice A h.length c], .slice Ap m cp] w3 (.int .i64 t2) := QCall.of fun W' hb => by
        have := callTouchTime A Ap c cp h (ps.take m) W' w1.heap.size (Nat.le_trans HB3.out.size hb.size) (by omega) hcc (by rw [List.length_take]; omega) (HX.out.below (bel_trans HB3.out hb)) ((HP.out.below (bel_trans HB3.out hb)).take m)
        rw [List.length_take, Nat.min_eq_left hm2, H2.out] at this
        exact this
      go_upto_region 9 with (fail)
      refine wp_region_quiet_below (by kernel_rfl) (by kernel_rfl) ?_
      clear hcx
      repeat (first | go_big_quiet_step ((go_at_call 15; exact C1 _ _)) | quiet_step ((go_at_call 15; exact C1 _ _)))
      refine wpQuiet_nil ?_
      intro w4 hw4
      have hb4 := below_of_regrown hw4
      have HB4 := Lib.hid (bel_trans HB3.out hb4)
      have hcx := (cell1 (blkc HXB3.out hb4)).1
      clear hw4 hb4 k1 C1
      go_wp2_with fail
      refine (callTouchTime A none c 0 h [] _ w1.heap.size HB4.out.size (by omega) hcc (by simp) (HX.out.below HB4.out) Rd.nil).mono ?_
      rintro e w5 ⟨rfl, hb5⟩
      rw [H3.out]
      go_wp2
      go_ret
      exact ⟨rfl, bel_trans HB1.out (bel_trans HB4.out hb5)⟩
  · have hl' : 1048576 < bs.length := by omega
    clear hr hby hl
    go_enter Try.func10, Try.ntmps10
    go_wp2
    go_ret
    exact ⟨rfl, Below.refl _ _⟩
end Go.Proofs.Ytlkdngjpbohgaaa
