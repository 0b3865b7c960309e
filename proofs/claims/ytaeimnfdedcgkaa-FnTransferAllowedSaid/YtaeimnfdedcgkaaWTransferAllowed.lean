/- The walk of the law FnTransferAllowed: true for every input, and nothing that was there is written. -/
import Derived.Test.YtaeimnfdedcgkaaTrn
import Derived.Test.YtaeimnfdedcgkaaDrw
namespace Go.Proofs.Ytaeimnfdedcgkaa
open Go.RowKit Go.Sort

set_option maxRecDepth 100000 in
set_option maxHeartbeats 3200000 in
theorem walkFnTransferAllowed (A : Option Addr) (c : Nat) (bs : List Int) (w : World) (hc : bs.length ≤ c) (hr : Rd eU8 w w.heap.size A bs) (hby : ∀ x ∈ bs, 0 ≤ x ∧ x ≤ 255) :
    Calls Try.prog 3 #[.slice A bs.length c] w fun e w' => e = .returned (.bool true) ∧ Below w.heap.size w w' := by
  by_cases hl : bs.length ≤ 1048576
  · have HC := Lib.hid (callDrawTransferAllowed A c bs w hc hl hr hby)
    clear hr hby
    go_enter Try.func3, Try.ntmps3
    go_wp2_with fail
    refine HC.out.mono ?_
    rintro e w1 ⟨A, c, xs, ⟨tp, tc, tw⟩, rfl, hrd, hlen, hb1⟩
    have HX : Hid (Rd eWin w1 w1.heap.size A xs ∧ xs.length ≤ 1073741824) := ⟨hrd, by omega⟩
    have HB1 := Lib.hid hb1
    clear hrd hb1 hlen HC
    have HK1 : Hid ((w1.alloc (.cells #[.int .i64 tp, .int .i64 tc, .bool tw] 25)).heap[w1.heap.size]? = some (.cells #[.int .i64 tp, .int .i64 tc, .bool tw] 25 (0, 0))) := heap_alloc_new w1 _
    go_wp2_with fail
    refine (callTrnAllowed A c xs ⟨tp, tc, tw⟩ _ w1.heap.size (by simp) HX.out.2 (HX.out.1.below (below1 _ _))).mono ?_
    rintro e w2 ⟨rfl, hb2⟩
    have HK2 := Lib.hid (blk_next HK1.out hb2)
    have HB2 := Lib.hid (bel_trans (below1 _ _) hb2)
    clear hb2 HK1
    generalize hok : trnAllowed xs ⟨tp, tc, tw⟩ = ok
    have HOK := Lib.hid hok
    clear hok
    have c0 := cell_of_row w2 w1.heap.size 0 _ _ _ HK2.out
    have c1 := cell_of_row w2 w1.heap.size 1 _ _ _ HK2.out
    have c2 := cell_of_row w2 w1.heap.size 2 _ _ _ HK2.out
    simp only [List.getElem?_toArray, List.getElem?_cons_zero, List.getElem?_cons_succ] at c0 c1 c2
    go_wp2_with fail
    refine (callSTrnAllowed A c xs ⟨tp, tc, tw⟩ _ w1.heap.size HB2.out.size HX.out.2 (HX.out.1.below HB2.out)).mono ?_
    rintro e w3 ⟨rfl, hb3⟩
    rw [HOK.out]
    have HK3 := Lib.hid (blk_next HK2.out hb3)
    have HB3 := Lib.hid (bel_trans HB2.out hb3)
    clear hb3 HK2 HB2 c0 c1 c2
    cases ok
    · go_wp2_with fail
      refine (callAlive _).mono ?_
      rintro e w4 ⟨rfl, hb4⟩
      go_wp2
      go_ret
      exact ⟨rfl, bel_trans HB1.out (bel_trans HB3.out hb4)⟩
    · have c0 := cell_of_row w3 w1.heap.size 0 _ _ _ HK3.out
      have c1 := cell_of_row w3 w1.heap.size 1 _ _ _ HK3.out
      have c2 := cell_of_row w3 w1.heap.size 2 _ _ _ HK3.out
      simp only [List.getElem?_toArray, List.getElem?_cons_zero, List.getElem?_cons_succ] at c0 c1 c2
      go_wp2_with fail
      clear c0 c1 c2
      obtain ⟨W, hW⟩ : ∃ W, W = w3.alloc (.cells #[.int .i64 tp, .int .i64 tc, .bool false] 25) := ⟨_, rfl⟩
      rw [← hW]
      have K4 : Hid (W.heap[w1.heap.size]? = some (.cells #[.int .i64 tp, .int .i64 tc, .bool tw] 25 (0, 0)) ∧ W.heap[w3.heap.size]? = some (.cells #[.int .i64 tp, .int .i64 tc, .bool false] 25 (0, 0)) ∧ Below w1.heap.size w1 W) := by
        subst hW
        exact ⟨blk_next HK3.out (below1 _ _), heap_alloc_new w3 _, bel_trans HB3.out (below1 _ _)⟩
      clear hW HK3 HB3
      obtain ⟨t1, t2, t3, t4⟩ := trnOk_iff.1 (allowed_iff.1 HOK.out).1
      obtain ⟨cn, rfl⟩ := Int.eq_ofNat_of_zero_le (show 0 ≤ tc by simp only at t1; omega)
      simp only at t1 t2 t3 t4
      have cfacts : ∀ W' : World, W'.heap[w1.heap.size]? = some (.cells #[.int .i64 tp, .int .i64 cn, .bool tw] 25 (0, 0)) → W'.cell? ⟨w1.heap.size, 0, none⟩ = some (.int .i64 tp) ∧ W'.cell? ⟨w1.heap.size, 1, none⟩ = some (.int .i64 cn) ∧ W'.cell? ⟨w1.heap.size, 2, none⟩ = some (.bool tw) :=
        fun W' h => ⟨cell_of_row W' _ 0 _ _ _ h, cell_of_row W' _ 1 _ _ _ h, cell_of_row W' _ 2 _ _ _ h⟩
      have CF := Lib.hid cfacts
      clear cfacts
      go_loopw [7] (fun i wr => ∃ k : Nat, k ≤ cn ∧ i = .int .i64 k ∧ Below W.heap.size W wr) (fun i _ => cn - (intOf i).toNat)
      case atStart => exact ⟨0, by omega, rfl, Below.refl _ _⟩
      case round =>
        obtain ⟨k, hk, rfl, hbl⟩ := hrel
        have HB := Lib.hid hbl
        have K5 : Hid (wr.heap[w1.heap.size]? = some (.cells #[.int .i64 tp, .int .i64 cn, .bool tw] 25 (0, 0)) ∧ wr.heap[w3.heap.size]? = some (.cells #[.int .i64 tp, .int .i64 cn, .bool false] 25 (0, 0)) ∧ Below w1.heap.size w1 wr) :=
          ⟨blk_next K4.out.1 hbl, blk_next K4.out.2.1 hbl, bel_trans K4.out.2.2 hbl⟩
        clear hbl
        obtain ⟨c0, c1, c2⟩ := CF.out wr K5.out.1
        by_cases hlt : k < cn
        · have HS := Lib.hid (allowed_single HOK.out k (by omega))
          go_wp2_with fail
          refine (callTrnAllowed A c xs ⟨tp + k, 1, tw⟩ _ w1.heap.size K5.out.2.2.size HX.out.2 (HX.out.1.below K5.out.2.2)).mono ?_
          rintro e w5 ⟨rfl, hb5⟩
          rw [HS.out]
          have HB5 := Lib.hid (bel_trans HB.out hb5)
          clear hb5 HB c0 c1 c2
          go_wp2
          go_roundw
          case rel => exact ⟨k + 1, by omega, by go_num, HB5.out⟩
          case measure => simp [intOf]; omega
        · have hke : k = cn := by omega
          subst hke
          have d0 := cell_of_row wr w3.heap.size 0 _ _ _ K5.out.2.1
          have d1 := cell_of_row wr w3.heap.size 1 _ _ _ K5.out.2.1
          have d2 := cell_of_row wr w3.heap.size 2 _ _ _ K5.out.2.1
          simp only [List.getElem?_toArray, List.getElem?_cons_zero, List.getElem?_cons_succ] at d0 d1 d2
          have k0 := cell_regrown c0
          have k1 := cell_regrown c1
          have k2 := cell_regrown c2
          have k3 := cell_regrown d0
          have k4 := cell_regrown d1
          have k5 := cell_regrown d2
          have C1 : QCall Try.prog 13 #[.slice A xs.length c, .agg #[.int .i64 tp, .int .i64 k, .bool false]] wr (.bool true) := QCall.of fun W' hb => by
            have := callTrnAllowed A c xs ⟨tp, k, false⟩ W' w1.heap.size (bel_trans K5.out.2.2 hb).size HX.out.2 (HX.out.1.below (bel_trans K5.out.2.2 hb))
            rw [allowed_read HOK.out] at this
            exact this
          have C2 : QCall Try.prog 16 #[.slice A xs.length c, .agg #[.int .i64 tp, .int .i64 k, .bool tw]] wr (.int .i64 k) := QCall.of fun W' hb => by
            have := callTrnPart A c xs ⟨tp, k, tw⟩ W' w1.heap.size (bel_trans K5.out.2.2 hb).size HX.out.2 (HX.out.1.below (bel_trans K5.out.2.2 hb))
            rw [allowed_part HOK.out] at this
            exact this
          clear d0 d1 d2
          go_wp2
          refine wp_region_quiet_below (by kernel_rfl) (by kernel_rfl) ?_
          clear c0 c1 c2
          repeat (first | go_big_quiet_step ((first | (go_at_call 13; exact C1 _ _) | (go_at_call 16; exact C2 _ _))) | quiet_step ((first | (go_at_call 13; exact C1 _ _) | (go_at_call 16; exact C2 _ _))))
          refine wpQuiet_nil ?_
          intro w6 hw6
          have HB6 := Lib.hid (below_of_regrown hw6)
          clear hw6 k0 k1 k2 k3 k4 k5
          go_wp2
          go_ret
          exact ⟨rfl, bel_trans HB1.out (bel_trans K5.out.2.2 HB6.out)⟩
  · have hl' : 1048576 < bs.length := by omega
    clear hr hby hl
    go_enter Try.func3, Try.ntmps3
    go_wp2
    go_ret
    exact ⟨rfl, Below.refl _ _⟩
end Go.Proofs.Ytaeimnfdedcgkaa
