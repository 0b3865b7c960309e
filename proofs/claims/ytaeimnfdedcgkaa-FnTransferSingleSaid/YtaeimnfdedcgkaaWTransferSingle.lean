/- The walk of the law FnTransferSingle: true for every input, and nothing that was there is written. -/
import Derived.Test.YtaeimnfdedcgkaaTrn
import Derived.Test.YtaeimnfdedcgkaaDrw
namespace Go.Proofs.Ytaeimnfdedcgkaa
open Go.RowKit Go.Sort

theorem single_al {xs : List Win} {t : Trn} (ht : trnOk t = true) (hw : winsOk xs = true) (k : Nat) (hk : (k : Int) < t.count) : trnAllowed xs ⟨t.place + k, 1, t.write⟩ = al xs t k := by
  obtain ⟨a, b, d, e⟩ := trnOk_iff.1 ht
  rw [trnAllowed_split, trnOk_iff.2 ⟨by simp, by simp, by simp only; omega, by simp only; omega⟩, hw]
  simp only [Bool.true_and]
  have e1 : al xs ⟨t.place + k, 1, t.write⟩ 0 = al xs t k := by unfold al; simp
  cases h : al xs t k
  · have : partOf xs ⟨t.place + k, 1, t.write⟩ = 0 := lead_eq (fun i hi => by omega) (.inr ⟨by simp, by rw [e1, h]⟩)
    rw [this]; rfl
  · have : partOf xs ⟨t.place + k, 1, t.write⟩ = 1 := lead_eq (m := 1) (fun i hi => by rw [show i = 0 by omega, e1, h]) (.inl rfl)
    rw [this]; rfl

set_option maxRecDepth 100000 in
set_option maxHeartbeats 3200000 in
theorem walkFnTransferSingle (A : Option Addr) (c : Nat) (bs : List Int) (w : World) (hc : bs.length ≤ c) (hr : Rd eU8 w w.heap.size A bs) (hby : ∀ x ∈ bs, 0 ≤ x ∧ x ≤ 255) :
    Calls Try.prog 8 #[.slice A bs.length c] w fun e w' => e = .returned (.bool true) ∧ Below w.heap.size w w' := by
  by_cases hl : bs.length ≤ 1048576
  · have HC := Lib.hid (callDrawTransferPart A c bs w hc hl hr hby)
    clear hr hby
    go_enter Try.func8, Try.ntmps8
    go_wp2_with fail
    refine HC.out.mono ?_
    rintro e w1 ⟨A, c, xs, ⟨tp, tc, tw⟩, rfl, hrd, hlen, hb1⟩
    have HX : Hid (Rd eWin w1 w1.heap.size A xs ∧ xs.length ≤ 1073741824) := ⟨hrd, by omega⟩
    have HB1 := Lib.hid hb1
    clear hrd hb1 hlen HC
    have HK1 : Hid ((w1.alloc (.cells #[.int .i64 tp, .int .i64 tc, .bool tw] 25)).heap[w1.heap.size]? = some (.cells #[.int .i64 tp, .int .i64 tc, .bool tw] 25 (0, 0))) := heap_alloc_new w1 _
    go_wp2_with fail
    refine (callTrnPart A c xs ⟨tp, tc, tw⟩ _ w1.heap.size (by simp) HX.out.2 (HX.out.1.below (below1 _ _))).mono ?_
    rintro e w2 ⟨rfl, hb2⟩
    have HK2 := Lib.hid (blk_next HK1.out hb2)
    have HB2 := Lib.hid (bel_trans (below1 _ _) hb2)
    clear hb2 HK1
    generalize hok : trnPart xs ⟨tp, tc, tw⟩ = n
    have HOK := Lib.hid hok
    clear hok
    have c0 := cell_of_row w2 w1.heap.size 0 _ _ _ HK2.out
    have c1 := cell_of_row w2 w1.heap.size 1 _ _ _ HK2.out
    have c2 := cell_of_row w2 w1.heap.size 2 _ _ _ HK2.out
    simp only [List.getElem?_toArray, List.getElem?_cons_zero, List.getElem?_cons_succ] at c0 c1 c2
    go_wp2_with fail
    refine (callSTrnPart A c xs ⟨tp, tc, tw⟩ _ w1.heap.size HB2.out.size HX.out.2 (HX.out.1.below HB2.out)).mono ?_
    rintro e w3 ⟨rfl, hb3⟩
    rw [HOK.out]
    have HK3 := Lib.hid (blk_next HK2.out hb3)
    have HB3 := Lib.hid (bel_trans HB2.out hb3)
    clear hb3 HK2 HB2 c0 c1 c2
    have hnn : (n != n) = false := by simp
    by_cases hn : n < 0
    · go_wp2_with fail
      refine (callAlive _).mono ?_
      rintro e w4 ⟨rfl, hb4⟩
      go_wp2
      go_ret
      exact ⟨rfl, bel_trans HB1.out (bel_trans HB3.out hb4)⟩
    · have hv : winsOk xs = true ∧ trnOk ⟨tp, tc, tw⟩ = true := by
        have h := HOK.out
        unfold trnPart at h
        split at h
        · rename_i hh; rw [Bool.and_eq_true] at hh; exact hh
        · omega
      obtain ⟨cn, rfl⟩ := Int.eq_ofNat_of_zero_le (show 0 ≤ tc by have := trnOk_iff.1 hv.2; simp only at this; omega)
      have hnv : Hid (n = (lead (al xs ⟨tp, cn, tw⟩) cn : Nat)) := by
        have h := HOK.out
        unfold trnPart at h
        rw [hv.1, hv.2] at h
        simp only [Bool.and_self, if_true] at h
        exact h.symm
      have HV := Lib.hid hv
      clear hv
      have hn64 : cn ≤ 64 := by have := trnOk_iff.1 HV.out.2; simp only at this; omega
      have c0 := cell_of_row w3 w1.heap.size 0 _ _ _ HK3.out
      have c1 := cell_of_row w3 w1.heap.size 1 _ _ _ HK3.out
      have c2 := cell_of_row w3 w1.heap.size 2 _ _ _ HK3.out
      simp only [List.getElem?_toArray, List.getElem?_cons_zero, List.getElem?_cons_succ] at c0 c1 c2
      go_wp2_with fail
      refine (callSplit1 ⟨tp, cn, tw⟩ HV.out.2 _).mono ?_
      rintro e w4 ⟨A2, c2', rfl, hrs, hb4⟩
      have HS : Hid (Rd eTrn w4 w4.heap.size A2 (singles ⟨tp, cn, tw⟩ cn)) := hrs
      have HB4 := Lib.hid (bel_trans HB3.out hb4)
      have HK4 := Lib.hid (blk_next HK3.out hb4)
      rw [show (Int.toNat (⟨tp, cn, tw⟩ : Trn).count) = cn from rfl]
      clear hrs hb4 HK3 HB3 c0 c1 c2
      go_wp2_with fail
      go_loopw [7] (fun i wr => ∃ k : Nat, k ≤ cn ∧ i = .int .i64 k ∧ Below w4.heap.size w4 wr ∧ Hid (∀ i, i < k → al xs ⟨tp, cn, tw⟩ i = true)) (fun i _ => cn - (intOf i).toNat)
      case atStart => exact ⟨0, by omega, rfl, Below.refl _ _, fun i hi => by omega⟩
      case round =>
        obtain ⟨k, hk, rfl, hbl, hal⟩ := hrel
        have d1 := cell_of_row wr w1.heap.size 1 _ _ _ (blk_next HK4.out hbl)
        simp only [List.getElem?_toArray, List.getElem?_cons_zero, List.getElem?_cons_succ] at d1
        have HB := Lib.hid hbl
        clear hbl
        by_cases hlt : k < cn
        · have hd : decide ((k : Int) < (cn : Int)) = true := by simpa using hlt
          obtain ⟨b, off, rfl, hbB, h1, h2, h3⟩ := (HS.out.below HB.out).at3 (k := k) rfl (by rw [singles_len]; exact hlt) (by rw [singles_get]; rfl)
          simp only at h1 h2 h3
          go_wp2_with fail
          refine (callTrnAllowed A c xs ⟨tp + k, 1, tw⟩ _ w1.heap.size (bel_trans HB4.out HB.out).size HX.out.2 (HX.out.1.below (bel_trans HB4.out HB.out))).mono ?_
          rintro e w5 ⟨rfl, hb5⟩
          have hsa := single_al HV.out.2 HV.out.1 k (show (k : Int) < (⟨tp, cn, tw⟩ : Trn).count by simp only; omega)
          rw [hsa]
          have HB5 := Lib.hid (bel_trans HB.out hb5)
          have e1 := cell_of_row w5 w1.heap.size 1 _ _ _ (blk_next (blk_next HK4.out HB.out) hb5)
          simp only [List.getElem?_toArray, List.getElem?_cons_zero, List.getElem?_cons_succ] at e1
          clear hb5 hsa h1 h2 h3 d1
          cases ha : al xs ⟨tp, cn, tw⟩ k
          · have hne : (((k : Nat) : Int) == n) = true := by
              rw [beq_iff_eq, hnv.out, lead_eq (m := cn) hal (.inr ⟨hlt, ha⟩)]
            have HA := Lib.hid ha
            clear ha
            go_wp2
            go_ret
            exact ⟨rfl, bel_trans HB1.out (bel_trans HB4.out HB5.out)⟩
          · have HA := Lib.hid ha
            clear ha
            go_wp2
            go_roundw
            case rel => exact ⟨k + 1, by omega, by go_num, HB5.out, fun i hi => by
              rcases Nat.lt_or_ge i k with h' | h'
              · exact hal i h'
              · rw [show i = k by omega]; exact HA.out⟩
            case measure => simp [intOf]; omega
        · have hke : k = cn := by omega
          subst hke
          have hne : (((k : Nat) : Int) == n) = true := by
            rw [beq_iff_eq, hnv.out, lead_eq (m := k) hal (.inl rfl)]
          have hd : decide ((k : Int) < (k : Int)) = false := by simp
          go_wp2
          go_ret
          exact ⟨rfl, bel_trans HB1.out (bel_trans HB4.out HB.out)⟩
  · have hl' : 1048576 < bs.length := by omega
    clear hr hby hl
    go_enter Try.func8, Try.ntmps8
    go_wp2
    go_ret
    exact ⟨rfl, Below.refl _ _⟩
end Go.Proofs.Ytaeimnfdedcgkaa
