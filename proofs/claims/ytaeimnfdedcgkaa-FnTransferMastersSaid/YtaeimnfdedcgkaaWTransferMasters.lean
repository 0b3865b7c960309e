/- The walk of the law FnTransferMasters: true for every input, and nothing that was there is written. -/
import Derived.Test.YtaeimnfdedcgkaaMst
import Derived.Test.YtaeimnfdedcgkaaSam
import Derived.Test.YtaeimnfdedcgkaaDtm
namespace Go.Proofs.Ytaeimnfdedcgkaa
open Go.RowKit Go.Sort

theorem mst_pre (ps : List Prt) (t : Trn) (k : Nat) : ∀ d, ∃ r, mst ps t (k + d) = mst ps t k ++ r
  | 0 => ⟨[], by simp⟩
  | d + 1 => by
    obtain ⟨r, h⟩ := mst_pre ps t k d
    rw [← Nat.add_assoc, mst, h, List.append_assoc]
    exact ⟨_, rfl⟩
theorem mst_at {ps : List Prt} {t : Trn} {k : Nat} (hk : k < ps.length) (h : trnAllowed ps[k].wins t = true) : ∃ h' : (mst ps t k).length < (mst ps t ps.length).length, (mst ps t ps.length)[(mst ps t k).length] = (k : Int) := by
  obtain ⟨r, e⟩ := mst_pre ps t (k + 1) (ps.length - (k + 1))
  rw [show k + 1 + (ps.length - (k + 1)) = ps.length by omega, mst_yes hk h, List.append_assoc] at e
  have hl : (mst ps t k).length < (mst ps t ps.length).length := by rw [e]; simp
  refine ⟨hl, ?_⟩
  have : (mst ps t ps.length)[(mst ps t k).length]? = some (k : Int) := by
    rw [e, List.getElem?_append_right (Nat.le_refl _), Nat.sub_self]; rfl
  rw [List.getElem?_eq_getElem hl] at this
  injection this

set_option maxRecDepth 100000 in
set_option maxHeartbeats 3200000 in
theorem walkFnTransferMasters (A : Option Addr) (c : Nat) (bs : List Int) (w : World) (hc : bs.length ≤ c) (hr : Rd eU8 w w.heap.size A bs) (hby : ∀ x ∈ bs, 0 ≤ x ∧ x ≤ 255) :
    Calls Try.prog 10 #[.slice A bs.length c] w fun e w' => e = .returned (.bool true) ∧ Below w.heap.size w w' := by
  by_cases hl : bs.length ≤ 1048576
  · have HC := Lib.hid (callDrawTransferMasters A c bs w hc hl hr hby)
    clear hr hby
    go_enter Try.func10, Try.ntmps10
    go_wp2_with fail
    refine HC.out.mono ?_
    rintro e w1 ⟨A, c, ps, ⟨tp, tc, tw⟩, rfl, hrd, hlen, hb1⟩
    have HB1 := Lib.hid hb1
    have HX := Lib.hid hrd
    clear hrd hb1 HC
    have HK1 : Hid ((w1.alloc (.cells #[.int .i64 tp, .int .i64 tc, .bool tw] 25)).heap[w1.heap.size]? = some (.cells #[.int .i64 tp, .int .i64 tc, .bool tw] 25 (0, 0))) := heap_alloc_new w1 _
    go_wp2_with fail
    refine (callMasters A c ps ⟨tp, tc, tw⟩ _ w1.heap.size (by simp) (by omega) (HX.out.below (below1 _ _))).mono ?_
    rintro e w2 ⟨v2, rfl, hown2, hb2⟩
    have HK2 := Lib.hid (blk_next HK1.out hb2)
    have HB2 := Lib.hid (bel_trans (below1 _ _) hb2)
    obtain ⟨A2, c2, hv2, _, _⟩ := hown2.form
    subst hv2
    have HR2 := Lib.hid hown2.rd
    clear hb2 hown2 HK1
    obtain ⟨ms, hms⟩ : ∃ ms, ms = masters ps ⟨tp, tc, tw⟩ := ⟨_, rfl⟩
    rw [← hms] at HR2 ⊢
    have hml : ms.length ≤ 10 := by
      rw [hms]; unfold masters
      split
      · have := mst_len ps ⟨tp, tc, tw⟩ ps.length; omega
      · simp
    have HMS := Lib.hid hms
    obtain ⟨c0, c1, c2', _⟩ := box3 HK2.out
    clear hms
    go_wp2_with fail
    refine (callSMasters A c ps ⟨tp, tc, tw⟩ _ w1.heap.size HB2.out.size (by omega) (HX.out.below HB2.out)).mono ?_
    rintro e w3 ⟨v3, rfl, hown3, hb3⟩
    have HK3 := Lib.hid (blk_next HK2.out hb3)
    have HB3 := Lib.hid (bel_trans HB2.out hb3)
    rw [← HMS.out] at hown3
    obtain ⟨A3, c3, hv3, _, _⟩ := hown3.form
    subst hv3
    have HR3 := Lib.hid hown3.rd
    have HR2' := Lib.hid (HR2.out.next hb3)
    clear hb3 hown3 HK2 c0 c1 c2' HB2 HR2
    go_wp2_with fail
    refine (callSameInts A2 A3 c2 c3 ms ms _ _ (Nat.le_refl _) (by omega) (by omega) HR2'.out HR3.out).mono ?_
    rintro e w4 ⟨rfl, hb4⟩
    rw [show decide (ms = ms) = true from decide_eq_true rfl]
    have HK4 := Lib.hid (blk_next HK3.out hb4)
    have HB4 := Lib.hid (bel_trans HB3.out hb4)
    have HR4 := Lib.hid (HR2'.out.next hb4)
    clear hb4 HK3 HB3 HR2' HR3
    go_wp2
    go_loopw [6, 7] (fun a i wr => ∃ k j : Nat, k ≤ ps.length ∧ i = .int .i64 k ∧ a = .int .i64 j ∧ j ≤ k ∧ (k = 0 ∨ prtsOk ps = true) ∧ Below w4.heap.size w4 wr ∧ Hid (j = (mst ps ⟨tp, tc, tw⟩ k).length)) (fun _ i _ => ps.length - (intOf i).toNat)
    case atStart => exact ⟨0, 0, by omega, rfl, rfl, by omega, .inl rfl, Below.refl _ _, rfl⟩
    case round =>
      obtain ⟨k, j, hk, rfl, rfl, hjk, hv, hbl, hj⟩ := hrel
      have HB := Lib.hid hbl
      have HBB := Lib.hid (bel_trans HB4.out hbl)
      have HV := Lib.hid hv
      clear hbl hv
      by_cases hlt : k < ps.length
      · have hd : decide ((k : Int) < ps.length) = true := decide_eq_true (by omega)
        cases q1 : prtsOk ps
        · have hk0 : k = 0 := by rcases HV.out with h | h
                                 · exact h
                                 · rw [q1] at h; cases h
          subst hk0
          have H1 := Lib.hid q1
          have hm0 : ms = [] := by rw [HMS.out]; exact masters_inv q1
          have hj0 : j = 0 := by omega
          subst hm0
          subst hj0
          clear q1
          go_wp2_with fail
          refine (callSPartsValid A c ps _ w1.heap.size HBB.out.size (by omega) (HX.out.below HBB.out)).mono ?_
          rintro e w5 ⟨rfl, hb5⟩
          rw [H1.out]
          go_wp2_with fail
          refine (callAlive _).mono ?_
          rintro e w9 ⟨rfl, hb9⟩
          go_wp2
          go_ret
          exact ⟨rfl, bel_trans HB1.out (bel_trans HBB.out (bel_trans hb5 hb9))⟩
        · have H1 := Lib.hid q1
          clear q1
          go_wp2_with fail
          refine (callSPartsValid A c ps _ w1.heap.size HBB.out.size (by omega) (HX.out.below HBB.out)).mono ?_
          rintro e w5 ⟨rfl, hb5⟩
          rw [H1.out]
          have HB5 := Lib.hid (bel_trans HB.out hb5)
          have HBB5 := Lib.hid (bel_trans HBB.out hb5)
          have HKX := Lib.hid (blk_next (blk_next HK4.out HB.out) hb5)
          clear hb5 HB HBB
          obtain ⟨b, off, rfl, hbB, h1, h2⟩ := (HX.out.1.below HBB5.out).at2 rfl hlt rfl
          have HWK := Lib.hid (HX.out.wins hlt)
          obtain ⟨a0, a1, a2, _⟩ := box3 HKX.out
          have k0 := cell_regrown a0
          have k1 := cell_regrown a1
          have k2 := cell_regrown a2
          have k3 := cell_regrown h1
          have hMe : Hid (ms = mst ps ⟨tp, tc, tw⟩ ps.length) := by show _ = _; rw [HMS.out]; unfold masters; rw [H1.out]; rfl
          cases hq : trnAllowed ps[k].wins ⟨tp, tc, tw⟩
          all_goals
            have HQ := Lib.hid hq
            have C1 : QCall Try.prog 13 #[.slice ps[k].A ps[k].wins.length ps[k].c, .agg #[.int .i64 tp, .int .i64 tc, .bool tw]] w5 (.bool _) := QCall.of fun W' hb => by
              have := callTrnAllowed ps[k].A ps[k].c ps[k].wins ⟨tp, tc, tw⟩ W' w1.heap.size (Nat.le_trans HBB5.out.size hb.size) HWK.out.2 (HWK.out.1.below (bel_trans HBB5.out hb))
              rw [HQ.out] at this
              exact this
            clear hq
            go_upto_region 11 with (fail)
            refine wp_region_quiet_below (by kernel_rfl) (by kernel_rfl) ?_
            clear a0 a1 a2 h1 h2
            repeat (first | go_big_quiet_step ((go_at_call 13; exact C1 _ _)) | quiet_step ((go_at_call 13; exact C1 _ _)))
            refine wpQuiet_nil ?_
            intro w6 hw6
            have hb6 := below_of_regrown hw6
            have HB6 := Lib.hid (bel_trans HB5.out hb6)
            clear hw6 hb6 k0 k1 k2 k3 C1 HB5 HKX
          · have hst := Lib.hid (mst_no hlt HQ.out)
            go_wp2
            go_roundw
            case rel => exact ⟨k + 1, j, by omega, by go_num, rfl, by omega, (by first | exact .inr trivial | exact .inr H1.out | trivial), HB6.out, by show _ = _; rw [hst.out]; exact hj.out⟩
            case measure => simp [intOf]; omega
          · have hst := Lib.hid (mst_yes hlt HQ.out)
            obtain ⟨hat1, hat2⟩ := mst_at hlt HQ.out
            have hjm : j < ms.length := by rw [hMe.out, hj.out]; exact hat1
            have hje : Hid (ms[j] = (k : Int)) := by
              show _ = _
              have : ms[j]? = some (k : Int) := by rw [hMe.out, hj.out, List.getElem?_eq_getElem hat1, hat2]
              rw [List.getElem?_eq_getElem hjm] at this
              injection this
            obtain ⟨b2, off2, rfl, hbB2, g1⟩ := (HR4.out.below HB6.out).at1 rfl hjm rfl
            rw [hje.out] at g1
            have hge : decide ((j : Int) ≥ ms.length) = false := decide_eq_false (by omega)
            have hkk : ((k : Int) != (k : Int)) = false := by simp
            clear hat1 hat2
            go_wp2
            go_roundw
            case rel => exact ⟨k + 1, j + 1, by omega, by go_num, by go_num, by omega, (by first | exact .inr trivial | exact .inr H1.out | trivial), HB6.out, by show _ = _; rw [hst.out, List.length_append, ← hj.out]; rfl⟩
            case measure => simp [intOf]; omega
      · have hke : k = ps.length := by omega
        subst hke
        have hd : decide ((ps.length : Int) < ps.length) = false := by simp
        have hjl : j = ms.length := by
          rw [hj.out, HMS.out]
          unfold masters
          rcases HV.out with h | h
          · rw [show mst ps ⟨tp, tc, tw⟩ ps.length = [] by rw [h]; rfl]; split <;> rfl
          · rw [h]; rfl
        have hfin : ((j : Int) == (ms.length : Int)) = true := by rw [hjl]; simp
        clear hjl
        go_wp2_with fail
        refine (callAlive _).mono ?_
        rintro e w9 ⟨rfl, hb9⟩
        go_wp2
        go_ret
        exact ⟨rfl, bel_trans HB1.out (bel_trans HBB.out hb9)⟩
  · have hl' : 1048576 < bs.length := by omega
    clear hr hby hl
    go_enter Try.func10, Try.ntmps10
    go_wp2
    go_ret
    exact ⟨rfl, Below.refl _ _⟩
end Go.Proofs.Ytaeimnfdedcgkaa
