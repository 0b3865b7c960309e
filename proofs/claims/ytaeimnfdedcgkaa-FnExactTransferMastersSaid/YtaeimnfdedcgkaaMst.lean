/- TransferMasters of the program and of the reference, for every input: the numbers of the partitions whose windows allow the transfer, in memory of the call's own. -/
import Derived.Test.YtaeimnfdedcgkaaTrn
import Derived.Test.YtaeimnfdedcgkaaPrt
import Derived.Test.YtaeimnfdedcgkaaApd
namespace Go.Proofs.Ytaeimnfdedcgkaa
open Go.RowKit Go.Sort

def mst (ps : List Prt) (t : Trn) : Nat → List Int
  | 0 => []
  | k + 1 => mst ps t k ++ match ps[k]? with
    | some p => if trnAllowed p.wins t then [(k : Int)] else []
    | none => []
def masters (ps : List Prt) (t : Trn) : List Int := if prtsOk ps then mst ps t ps.length else []

theorem mst_yes {ps : List Prt} {t : Trn} {k : Nat} (hk : k < ps.length) (h : trnAllowed ps[k].wins t = true) : mst ps t (k + 1) = mst ps t k ++ [(k : Int)] := by
  simp only [mst, List.getElem?_eq_getElem hk, h, if_true]
theorem mst_no {ps : List Prt} {t : Trn} {k : Nat} (hk : k < ps.length) (h : trnAllowed ps[k].wins t = false) : mst ps t (k + 1) = mst ps t k := by
  simp only [mst, List.getElem?_eq_getElem hk, h, Bool.false_eq_true, if_false, List.append_nil]
theorem mst_len (ps : List Prt) (t : Trn) : ∀ k, (mst ps t k).length ≤ k
  | 0 => Nat.le_refl _
  | k + 1 => by
    have := mst_len ps t k
    simp only [mst, List.length_append]
    split
    · split <;> simp <;> omega
    · simp; omega
theorem mst_bad {ps : List Prt} {t : Trn} (h : trnOk t = false) : ∀ k, mst ps t k = []
  | 0 => rfl
  | k + 1 => by
    simp only [mst, mst_bad h k, List.nil_append]
    split
    · rename_i p _
      rw [show trnAllowed p.wins t = false by unfold trnAllowed; rw [h]; rfl]
      rfl
    · rfl
theorem masters_bad {ps : List Prt} {t : Trn} (h : trnOk t = false) : masters ps t = [] := by unfold masters; rw [mst_bad h]; split <;> rfl
theorem masters_inv {ps : List Prt} {t : Trn} (h : prtsOk ps = false) : masters ps t = [] := by unfold masters; rw [h]; rfl

set_option maxRecDepth 100000 in
set_option maxHeartbeats 3200000 in
theorem callMasters (A : Option Addr) (c : Nat) (ps : List Prt) (t : Trn) (w : World) (B : Nat) (hB : B ≤ w.heap.size) (hm : ps.length ≤ 1048576) (hr : RdP w B A ps) :
    Calls Try.prog 34 #[.slice A ps.length c, t.val] w fun e w' => ∃ v, e = .returned v ∧ Own eInt 3 w' w.heap.size v (masters ps t) ∧ Below w.heap.size w w' := by
  have HR := Lib.hid hr
  clear hr
  cases q1 : prtsOk ps
  · have EM := Lib.hid (masters_inv (t := t) q1)
    have H1 := Lib.hid q1
    clear q1
    go_enter Try.func34, Try.ntmps34
    go_wp2_with fail
    refine (callPartsValid A c ps _ B (by simp; omega) (by omega) (HR.out.below ((below1 _ _).mono hB))).mono ?_
    rintro e w1 ⟨rfl, hb1⟩
    rw [H1.out]
    go_wp2
    go_ret
    exact ⟨_, rfl, by rw [EM.out]; exact Own.nil, bel_trans (below1 _ _) hb1⟩
  have H1 := Lib.hid q1
  clear q1
  cases q2 : trnOk t
  · have EM := Lib.hid (masters_bad (ps := ps) q2)
    have H2 := Lib.hid q2
    clear q2
    obtain ⟨b0, b1, b2, _⟩ := box3 (heap_alloc_new w (.cells #[.int .i64 t.place, .int .i64 t.count, .bool t.write] 25))
    go_enter Try.func34, Try.ntmps34
    go_wp2_with fail
    refine (callPartsValid A c ps _ B (by simp; omega) (by omega) (HR.out.below ((below1 _ _).mono hB))).mono ?_
    rintro e w1 ⟨rfl, hb1⟩
    rw [H1.out]
    obtain ⟨a0, a1, a2, _⟩ := box3 (blk_nx (heap_alloc_new w (.cells #[.int .i64 t.place, .int .i64 t.count, .bool t.write] 25)) hb1)
    go_wp2_with fail
    refine (callTrnValid t _).mono ?_
    rintro e w2 ⟨rfl, hb2⟩
    rw [H2.out]
    go_wp2
    go_ret
    exact ⟨_, rfl, by rw [EM.out]; exact Own.nil, bel_trans (bel_trans (below1 _ _) hb1) hb2⟩
  have H2 := Lib.hid q2
  obtain ⟨t1, t2, t3, t4⟩ := trnOk_iff.1 q2
  clear q2
  have EM : Hid (masters ps t = mst ps t ps.length) := by show _ = _; unfold masters; rw [H1.out]; rfl
  obtain ⟨cn, hcn⟩ := Int.eq_ofNat_of_zero_le (show 0 ≤ t.count by omega)
  have HD : Hid (∀ k (h : k < ps.length), trnAllowed ps[k].wins t = ((partOf ps[k].wins t : Int) == t.count)) := fun k h => by
    rw [trnAllowed_split, H2.out, prtOk_wins (prtsOk_mem H1.out (List.getElem_mem h)), Bool.true_and, Bool.true_and, hcn]
    rw [Bool.eq_iff_iff, beq_iff_eq, beq_iff_eq]; omega
  obtain ⟨tp, tc, tw⟩ := t
  simp only at t1 t2 t3 t4 hcn
  subst hcn
  go_enter Try.func34, Try.ntmps34
  go_wp2_with fail
  refine (callPartsValid A c ps _ B (by simp; omega) (by omega) (HR.out.below ((below1 _ _).mono hB))).mono ?_
  rintro e w1 ⟨rfl, hb1⟩
  rw [H1.out]
  have HK1 := Lib.hid (blk_nx (heap_alloc_new w (.cells #[.int .i64 tp, .int .i64 cn, .bool tw] 25)) hb1)
  have HB1 := Lib.hid (bel_trans (below1 _ _) hb1)
  clear hb1
  obtain ⟨a0, a1, a2, _⟩ := box3 HK1.out
  go_wp2_with fail
  clear a0 a1 a2
  refine (callTrnValid ⟨tp, cn, tw⟩ _).mono ?_
  rintro e w2 ⟨rfl, hb2⟩
  rw [H2.out]
  have HK2 := Lib.hid (blk_nx HK1.out hb2)
  have HB2 := Lib.hid (bel_trans HB1.out hb2)
  clear hb2 HK1 HB1
  go_wp2
  go_loopw [5, 18] (fun v i wr => ∃ k : Nat, k ≤ ps.length ∧ i = .int .i64 k ∧ Below w.heap.size w wr ∧ Hid (wr.heap[w.heap.size]? = some (.cells #[.int .i64 tp, .int .i64 cn, .bool tw] 25 (0, 0))) ∧ Own eInt 3 wr (w.heap.size + 1) v (mst ps ⟨tp, cn, tw⟩ k)) (fun _ i _ => ps.length - (intOf i).toNat)
  case atStart => exact ⟨0, by omega, rfl, HB2.out, HK2, Own.nil⟩
  case round =>
    obtain ⟨k, hk, rfl, hbl, hK, hown⟩ := hrel
    have hsz : w.heap.size < wr.heap.size := (Array.getElem?_eq_some_iff.1 hK.out).1
    have HB := Lib.hid (And.intro hbl hown)
    clear hbl hown HB2 HK2
    by_cases hlt : k < ps.length
    · have hd : decide ((k : Int) < ps.length) = true := decide_eq_true (by omega)
      obtain ⟨b, off, rfl, hbB, h1, h2⟩ := (HR.out.1.below (HB.out.1.mono hB)).at2 rfl hlt rfl
      have HWK := Lib.hid (HR.out.wins hlt)
      have HBX : Hid ((wr.alloc (.cells #[.slice ps[k].A ps[k].wins.length ps[k].c, .int .i64 ps[k].cells] 37)).heap[wr.heap.size]? = some (.cells #[.slice ps[k].A ps[k].wins.length ps[k].c, .int .i64 ps[k].cells] 37 (0, 0))) := heap_alloc_new wr _
      have HKX : Hid ((wr.alloc (.cells #[.slice ps[k].A ps[k].wins.length ps[k].c, .int .i64 ps[k].cells] 37)).heap[w.heap.size]? = some (.cells #[.int .i64 tp, .int .i64 cn, .bool tw] 25 (0, 0))) := blk_nx hK.out (below1 _ _)
      have HB3 := Lib.hid (bel_trans HB.out.1 (below1 wr (.cells #[.slice ps[k].A ps[k].wins.length ps[k].c, .int .i64 ps[k].cells] 37)))
      have HO3 := Lib.hid (HB.out.2.alloc (.cells #[.slice ps[k].A ps[k].wins.length ps[k].c, .int .i64 ps[k].cells] 37))
      go_wp2
      clear h1 h2
      generalize hW : wr.alloc (.cells #[.slice ps[k].A ps[k].wins.length ps[k].c, .int .i64 ps[k].cells] 37) = wx at HBX HKX HB3 HO3 ⊢
      have hsx : w.heap.size < wx.heap.size := (Array.getElem?_eq_some_iff.1 HKX.out).1
      obtain ⟨a0, a1, a2, _⟩ := box3 HKX.out
      obtain ⟨b0, b1⟩ := box2 HBX.out
      have k0 := cell_regrown a0
      have k1 := cell_regrown a1
      have k2 := cell_regrown a2
      have k3 := cell_regrown b0
      have k4 := cell_regrown b1
      have C1 : QCall Try.prog 51 #[.agg #[.int .i64 tp, .int .i64 cn, .bool tw], .slice ps[k].A ps[k].wins.length ps[k].c] wx (.int .i64 (partOf ps[k].wins ⟨tp, cn, tw⟩ : Nat)) := QCall.of fun W' hb =>
        callPart ps[k].A ps[k].c ps[k].wins ⟨tp, cn, tw⟩ H2.out W' B (Nat.le_trans (Nat.le_trans hB HB3.out.size) hb.size) HWK.out.2 (HWK.out.1.below ((bel_trans HB3.out hb).mono hB))
      have HP : Hid (trnAllowed ps[k].wins ⟨tp, cn, tw⟩ = ((partOf ps[k].wins ⟨tp, cn, tw⟩ : Int) == (cn : Int))) := HD.out k hlt
      have hpl := lead_le (al ps[k].wins ⟨tp, cn, tw⟩) cn
      have hpp : partOf ps[k].wins ⟨tp, cn, tw⟩ = lead (al ps[k].wins ⟨tp, cn, tw⟩) cn := rfl
      rw [← hpp] at hpl
      clear hpp
      generalize partOf ps[k].wins ⟨tp, cn, tw⟩ = m at C1 HP hpl
      refine wp_region_quiet_below (by kernel_rfl) (by kernel_rfl) ?_
      clear a0 a1 a2 b0 b1
      repeat (first | go_big_quiet_step ((go_at_call 51; exact C1 _ _)) | quiet_step ((go_at_call 51; exact C1 _ _)))
      refine wpQuiet_nil ?_
      intro w6 hw6
      have hb6 := below_of_regrown hw6
      have HB6 := Lib.hid (bel_trans HB3.out hb6)
      have HK6 := Lib.hid (blk_nx HKX.out hb6)
      have HO6 := Lib.hid (HO3.out.next hb6)
      have hs6 : w.heap.size < w6.heap.size := (Array.getElem?_eq_some_iff.1 HK6.out).1
      clear hw6 hb6 k0 k1 k2 k3 k4 C1 HB3 HKX HO3 HBX hW hsx
      by_cases hmc : m = cn
      · have hq : ((m : Int) == (cn : Int)) = true := by rw [hmc]; simp
        have hst := Lib.hid (mst_yes hlt (HP.out.trans hq))
        have hlen := mst_len ps ⟨tp, cn, tw⟩ k
        go_wp2_with (at_builtin; refine wpList_app _ eiInt rfl (.tmp 30) (.tmp 32) rfl (w.heap.size + 1) (HO6.out.alloc _) (Rd.new (xs := [(k : Int)]) _ _ _ rfl) rfl rfl rfl (by simp; omega) (by simp; omega) ?_; intro v' w7 row hown7 hg7 hrow7)
        go_roundw
        case rel =>
          refine ⟨k + 1, by omega, by go_num, ?_, ?_, ?_⟩
          · exact HB6.out.trans (((below1 _ _).mono HB6.out.size).trans ((below_of_row hg7 (fun k hk => (hrow7 k hk).1) (by simp; omega)).mono (by omega)))
          · exact (hg7.block _ (by simp; omega) (fun e => by have := (hrow7 _ e.symm).1; omega)).trans (blk_nx HK6.out (below1 _ _))
          · rw [hst.out]; exact hown7
        case measure => simp [intOf]; omega
      · have hq : ((m : Int) == (cn : Int)) = false := by rw [beq_eq_false_iff_ne]; omega
        have hst := Lib.hid (mst_no hlt (HP.out.trans hq))
        go_wp2
        go_roundw
        case rel => exact ⟨k + 1, by omega, by go_num, HB6.out, HK6, by rw [hst.out]; exact HO6.out⟩
        case measure => simp [intOf]; omega
    · have hke : k = ps.length := by omega
      subst hke
      have hd : decide ((ps.length : Int) < ps.length) = false := by simp
      obtain ⟨A', c', hv, hc, _⟩ := HB.out.2.form
      subst hv
      have HO := Lib.hid (HB.out.2.clip)
      go_wp2_with fail
      refine (callClipInt A' _ c' hc _).mono ?_
      rintro e w3 ⟨rfl, rfl⟩
      go_wp2
      go_ret
      exact ⟨_, rfl, by rw [EM.out]; exact HO.out.more (by omega), HB.out.1⟩
set_option maxRecDepth 100000 in
set_option maxHeartbeats 3200000 in
theorem callSMasters (A : Option Addr) (c : Nat) (ps : List Prt) (t : Trn) (w : World) (B : Nat) (hB : B ≤ w.heap.size) (hm : ps.length ≤ 1048576) (hr : RdP w B A ps) :
    Calls Try.prog 36 #[.slice A ps.length c, t.val] w fun e w' => ∃ v, e = .returned v ∧ Own eInt 3 w' w.heap.size v (masters ps t) ∧ Below w.heap.size w w' := by
  have HR := Lib.hid hr
  clear hr
  have EM : Hid (masters ps t = if prtsOk ps then mst ps t ps.length else []) := rfl
  have HS := Lib.hid (Own.lit (E := eInt) (xs := []) (w.alloc (.cells #[.int .i64 t.place, .int .i64 t.count, .bool t.write] 25)) 3 #[] (base := w.heap.size + 1) (by simp) (by simp) rfl)
  go_enter Try.func36, Try.ntmps36
  go_wp2
  go_loopw [5, 6] (fun v i wr => ∃ k : Nat, k ≤ ps.length ∧ i = .int .i64 k ∧ (k = 0 ∨ prtsOk ps = true) ∧ Below w.heap.size w wr ∧ Hid (wr.heap[w.heap.size]? = some (.cells #[.int .i64 t.place, .int .i64 t.count, .bool t.write] 25 (0, 0))) ∧ Own eInt 3 wr (w.heap.size + 1) v (mst ps t k)) (fun _ i _ => ps.length - (intOf i).toNat)
  case atStart => exact ⟨0, by omega, rfl, .inl rfl, below2 _ _ _, blk_nx (heap_alloc_new w _) (below1 _ _), by have := HS.out; simp only [World.size_alloc, List.length_nil] at this; exact this⟩
  case round =>
    obtain ⟨k, hk, rfl, hv, hbl, hK, hown⟩ := hrel
    have hsz : w.heap.size < wr.heap.size := (Array.getElem?_eq_some_iff.1 hK.out).1
    have HB := Lib.hid (And.intro hbl hown)
    have HV := Lib.hid hv
    clear hbl hown hv HS
    by_cases hlt : k < ps.length
    · have hd : decide ((k : Int) < ps.length) = true := decide_eq_true (by omega)
      cases q1 : prtsOk ps
      · have hk0 : k = 0 := by rcases HV.out with h | h
                               · exact h
                               · rw [q1] at h; cases h
        subst hk0
        have H1 := Lib.hid q1
        clear q1
        go_wp2_with fail
        refine (callSPartsValid A c ps _ B (Nat.le_trans hB HB.out.1.size) (by omega) (HR.out.below (HB.out.1.mono hB))).mono ?_
        rintro e w1 ⟨rfl, hb1⟩
        rw [H1.out]
        go_wp2
        go_ret
        exact ⟨_, rfl, by rw [EM.out, H1.out]; exact (HB.out.2.next hb1).more (by omega), bel_trans HB.out.1 hb1⟩
      · have H1 := Lib.hid q1
        clear q1
        go_wp2_with fail
        refine (callSPartsValid A c ps _ B (Nat.le_trans hB HB.out.1.size) (by omega) (HR.out.below (HB.out.1.mono hB))).mono ?_
        rintro e w1 ⟨rfl, hb1⟩
        rw [H1.out]
        have HB3 := Lib.hid (bel_trans HB.out.1 hb1)
        have HO3 := Lib.hid (HB.out.2.next hb1)
        have HKX := Lib.hid (blk_nx hK.out hb1)
        clear hb1 HB hK
        obtain ⟨b, off, rfl, hbB, h1, h2⟩ := (HR.out.1.below (HB3.out.mono hB)).at2 rfl hlt rfl
        have HWK := Lib.hid (HR.out.wins hlt)
        obtain ⟨a0, a1, a2, _⟩ := box3 HKX.out
        have k0 := cell_regrown a0
        have k1 := cell_regrown a1
        have k2 := cell_regrown a2
        have k3 := cell_regrown h1
        cases hq : trnAllowed ps[k].wins t
        all_goals
          have HQ := Lib.hid hq
          have C1 : QCall Try.prog 14 #[.slice ps[k].A ps[k].wins.length ps[k].c, .agg #[.int .i64 t.place, .int .i64 t.count, .bool t.write]] w1 (.bool _) := QCall.of fun W' hb => by
            have := callSTrnAllowed ps[k].A ps[k].c ps[k].wins t W' B (Nat.le_trans (Nat.le_trans hB HB3.out.size) hb.size) HWK.out.2 (HWK.out.1.below ((bel_trans HB3.out hb).mono hB))
            rw [HQ.out] at this
            exact this
          clear hq
          go_upto_region 5 with (fail)
          refine wp_region_quiet_below (by kernel_rfl) (by kernel_rfl) ?_
          clear a0 a1 a2 h1 h2
          repeat (first | go_big_quiet_step ((go_at_call 14; exact C1 _ _)) | quiet_step ((go_at_call 14; exact C1 _ _)))
          refine wpQuiet_nil ?_
          intro w6 hw6
          have hb6 := below_of_regrown hw6
          have HB6 := Lib.hid (bel_trans HB3.out hb6)
          have HK6 := Lib.hid (blk_nx HKX.out hb6)
          have HO6 := Lib.hid (HO3.out.next hb6)
          have hs6 : w.heap.size < w6.heap.size := (Array.getElem?_eq_some_iff.1 HK6.out).1
          clear hw6 hb6 k0 k1 k2 k3 C1 HB3 HKX HO3
        · have hst := Lib.hid (mst_no hlt HQ.out)
          go_wp2
          go_roundw
          case rel => exact ⟨k + 1, by omega, by go_num, (by first | exact .inr trivial | exact .inr H1.out | trivial), HB6.out, HK6, by rw [hst.out]; exact HO6.out⟩
          case measure => simp [intOf]; omega
        · have hst := Lib.hid (mst_yes hlt HQ.out)
          have hlen := mst_len ps t k
          go_wp2_with (at_builtin; refine wpList_app _ eiInt rfl (.tmp 25) (.tmp 27) rfl (w.heap.size + 1) (HO6.out.alloc _) (Rd.new (xs := [(k : Int)]) _ _ _ rfl) rfl rfl rfl (by simp; omega) (by simp; omega) ?_; intro v' w7 row hown7 hg7 hrow7)
          go_roundw
          case rel =>
            refine ⟨k + 1, by omega, by go_num, (by first | exact .inr trivial | exact .inr H1.out | trivial), ?_, ?_, ?_⟩
            · exact HB6.out.trans (((below1 _ _).mono HB6.out.size).trans ((below_of_row hg7 (fun k hk => (hrow7 k hk).1) (by simp; omega)).mono (by omega)))
            · exact (hg7.block _ (by simp; omega) (fun e => by have := (hrow7 _ e.symm).1; omega)).trans (blk_nx HK6.out (below1 _ _))
            · rw [hst.out]; exact hown7
          case measure => simp [intOf]; omega
    · have hke : k = ps.length := by omega
      subst hke
      have hd : decide ((ps.length : Int) < ps.length) = false := by simp
      have EM2 : Hid (masters ps t = mst ps t ps.length) := by
        show _ = _
        rw [EM.out]
        rcases HV.out with h | h
        · split
          · rfl
          · rw [h]; rfl
        · rw [if_pos h]
      go_wp2
      go_ret
      exact ⟨_, rfl, by rw [EM2.out]; exact HB.out.2.more (by omega), HB.out.1⟩
end Go.Proofs.Ytaeimnfdedcgkaa
