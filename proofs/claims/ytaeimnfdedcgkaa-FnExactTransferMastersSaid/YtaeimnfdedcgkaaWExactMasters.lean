/- The walk of FnExactTransferMasters: true for every argument, and nothing that was there is written. -/
import Derived.Test.YtaeimnfdedcgkaaExPmk
import Derived.Test.YtaeimnfdedcgkaaExInt
import Derived.Test.YtaeimnfdedcgkaaExTransfer
import Derived.Test.YtaeimnfdedcgkaaWExactShared
import Derived.Test.YtaeimnfdedcgkaaMst
import Derived.Deep.RegionLaw
namespace Go.Proofs.Ytaeimnfdedcgkaa
open Go.RowKit Go.Sort
theorem mst_same {qs ps : List Prt} (h : SameP qs ps) (t : Trn) : ∀ k, mst qs t k = mst ps t k
  | 0 => rfl
  | k + 1 => by
    simp only [mst, mst_same h t k]
    by_cases hi : k < qs.length
    · have hp : k < ps.length := by have := h.1; omega
      rw [List.getElem?_eq_getElem hi, List.getElem?_eq_getElem hp]
      simp only [(h.2 k hi hp).1]
    · rw [List.getElem?_eq_none (by omega), List.getElem?_eq_none (by have := h.1; omega)]
theorem masters_same {qs ps : List Prt} (h : SameP qs ps) (t : Trn) : masters qs t = masters ps t := by
  unfold masters
  rw [prtsOk_same h, h.1, mst_same h t]
theorem masters_len (ps : List Prt) (t : Trn) : (masters ps t).length ≤ ps.length := by
  unfold masters; split
  · exact mst_len ps t _
  · simp
set_option maxRecDepth 100000 in
set_option maxHeartbeats 3200000 in
theorem walkFnExactTransferMasters (A : Option Addr) (c : Nat) (ps : List Prt) (t : Trn) (w : World) (hn : ps.length ≤ 9223372036854775807) (hr : Rd ePrt w w.heap.size A ps) (hs : ∀ p, p ∈ ps → Rd eWin w w.heap.size p.A p.wins ∧ p.wins.length ≤ p.c ∧ p.wins.length ≤ 9223372036854775807) :
    Calls Try.prog 11 #[.slice A ps.length c, .agg #[.int .i64 t.place, .int .i64 t.count, .bool t.write]] w fun e w' => e = .returned (.bool true) ∧ Below w.heap.size w w' := by
  have HV0 := Lib.hid (below1 w (.cells #[.int .i64 t.place, .int .i64 t.count, .bool t.write] 59))
  have K0 := Lib.hid (heap_alloc_new w (.cells #[.int .i64 t.place, .int .i64 t.count, .bool t.write] 59))
  have HZ := Lib.hid (callSzPartS A c ps (w.alloc (.cells #[.int .i64 t.place, .int .i64 t.count, .bool t.write] 59)) w.heap.size (by simp) hn (fun p hp => (hs p hp).2.2) (hr.below HV0.out))
  have HR := Lib.hid hr
  have HS := Lib.hid hs
  clear hr hs
  go_enter Try.func11, Try.ntmps11
  go_wp2_with fail
  refine HZ.out.mono ?_
  rintro e w1 ⟨r, rfl, hr1, hr0, hb1⟩
  have HB1 := Lib.hid (bel_trans HV0.out hb1)
  have K1 := Lib.hid (blkc K0.out hb1)
  have HRZ := Lib.hid hr0
  clear HZ hb1 hr0 K0 HV0
  by_cases h0 : 0 ≤ r
  · have hd : decide (r < 0) = false := decide_eq_false (by omega)
    obtain ⟨hl, hw⟩ := HRZ.out h0
    have HW := Lib.hid hw
    have HP : Hid (∀ W, Below w.heap.size w W → RdP W W.heap.size A ps) := fun W hW => ⟨(HR.out.below hW).mono hW.size, fun p hp => ⟨((HS.out p hp).1.below hW).mono hW.size, HW.out p hp⟩⟩
    have HT : Hid (∀ W, Below w.heap.size w W → Calls Try.prog 24 #[.slice A ps.length c] W (ToP W ps)) := fun W hW => callToPartS A c ps W W.heap.size (Nat.le_refl _) hl (HP.out W hW)
    have HTT : Hid (∀ W, Calls Try.prog 38 #[.agg #[.int .i64 t.place, .int .i64 t.count, .bool t.write]] W fun e w' => e = .returned (.agg #[.int .i64 t.place, .int .i64 t.count, .bool t.write]) ∧ Below W.heap.size W w') := fun W => callToTransfer t W
    obtain ⟨V, hV⟩ : ∃ V, V = masters ps t := ⟨_, rfl⟩
    have hVl : V.length ≤ 1048576 := by rw [hV]; have := masters_len ps t; omega
    have HSM : Hid (∀ W (b : Addr) qs, Below w.heap.size w W → SameP qs ps → RdP W W.heap.size (some b) qs → Calls Try.prog 36 #[.slice (some b) ps.length ps.length, .agg #[.int .i64 t.place, .int .i64 t.count, .bool t.write]] W fun e w' => ∃ v, e = .returned v ∧ Own eInt 3 w' W.heap.size v V ∧ Below W.heap.size W w') := fun W b qs _ hsm hq => by
      have h := callSMasters (some b) ps.length qs t W W.heap.size (Nat.le_refl _) (by have := hsm.1; omega) hq
      rw [masters_same hsm t, ← hV, hsm.1] at h
      exact h
    have HIM : Hid (∀ W (b : Addr) qs, Below w.heap.size w W → SameP qs ps → RdP W W.heap.size (some b) qs → Calls Try.prog 34 #[.slice (some b) ps.length ps.length, .agg #[.int .i64 t.place, .int .i64 t.count, .bool t.write]] W fun e w' => ∃ v, e = .returned v ∧ Own eInt 3 w' W.heap.size v V ∧ Below W.heap.size W w') := fun W b qs _ hsm hq => by
      have h := callMasters (some b) ps.length qs t W W.heap.size (Nat.le_refl _) (by have := hsm.1; omega) hq
      rw [masters_same hsm t, ← hV, hsm.1] at h
      exact h
    clear hw HRZ HR HS hV HP
    have Bd := Lib.hid (HB1.out.drew)
    obtain ⟨x0, x1, x2, _, _, _, x6⟩ := cell3 K1.out
    go_upto_region 5 with (fail)
    go_region_held3 (fun w' => w'.cell? ⟨w.heap.size, 0, none⟩ = some (.int .i64 t.place) ∧ w'.cell? ⟨w.heap.size, 1, none⟩ = some (.int .i64 t.count) ∧ w'.cell? ⟨w.heap.size, 2, none⟩ = some (.bool t.write)) (first | exact ⟨x0, x1, x2⟩ | (refine ⟨?_, ?_, ?_⟩ <;> assumption) | go_keep)
      (first
        | (go_at_call 24; refine (HT.out w1.drew Bd.out).mono ?_; rintro e w4a ⟨rfl, qs, hq, hsm⟩; have HPa := Lib.hid (hq.rd (hsm.len HW.out)); have HSa := Lib.hid hsm; have HBa := Lib.hid (below_drew (Below.refl w1.heap.size w1) |>.trans hq.bel); clear hq hsm; obtain ⟨m0, m1, m2, _, _, _, _⟩ := cell3 (blkc K1.out HBa.out))
        | (go_at_call 38; refine (HTT.out w4a).mono ?_; rintro e w4b ⟨rfl, hb⟩; have HBb := Lib.hid (bel_trans HBa.out hb); have HPb : Hid (RdP w4b w4b.heap.size (some ⟨w1.drew.heap.size, 0, none⟩) qs) := ⟨HPa.out.1.next hb, fun p hp => ⟨(HPa.out.2 p hp).1.next hb, (HPa.out.2 p hp).2⟩⟩; clear hb; obtain ⟨n0, n1, n2, _, _, _, _⟩ := cell3 (blkc K1.out HBb.out))
        | (go_at_call 36; refine (HSM.out w4b _ qs (bel_trans HB1.out HBb.out) HSa.out HPb.out).mono ?_; rintro e w4 ⟨v, rfl, ho, hb⟩; have HOw4 := Lib.hid ho; have HCw4 := Lib.hid (bel_trans HBb.out hb); clear ho hb; obtain ⟨o0, o1, o2, _, _, _, _⟩ := cell3 (blkc K1.out HCw4.out)))
    obtain ⟨A0, c0, hv0, _, _⟩ := HOw4.out.form
    subst hv0
    have HB4 := Lib.hid (bel_trans HB1.out HCw4.out)
    have K4 := Lib.hid (blkc K1.out HCw4.out)
    have R4 := Lib.hid HOw4.out.rd
    clear HPa HSa HBa HPb HBb HOw4 HCw4 Bd x0 x1 x2 x6 K1
    try clear m0 m1 m2
    try clear n0 n1 n2
    try clear o0 o1 o2
    go_wp2_with fail
    refine (HT.out w4 HB4.out).mono ?_
    rintro e w5 ⟨rfl, xs, hx, hsx⟩
    have HB45 := Lib.hid hx.bel
    have HX := Lib.hid hx
    have HSX := Lib.hid hsx
    have HLX := Lib.hid hsx.1
    have hlx : xs.length ≤ 1048576 := by rw [hsx.1]; exact hl
    have HWX := Lib.hid (hsx.len HW.out)
    have K5 := Lib.hid (blkc K4.out hx.bel)
    clear hx hsx
    obtain ⟨x0, x1, x2, _, _, _, x6⟩ := cell3 K5.out
    go_wp2_with fail
    refine (HTT.out w5).mono ?_
    rintro e w6 ⟨rfl, hb6⟩
    have HB46 := Lib.hid (bel_trans HB45.out hb6)
    have HX6 := Lib.hid (HX.out.keep hb6)
    have H56 := Lib.hid hb6.size
    have HD6 := Lib.hid hb6
    clear hb6 x0 x1 x2 x6
    go_wp2_with fail
    refine (HIM.out w6 _ xs (bel_trans HB4.out HB46.out) HSX.out (HX6.out.rd HWX.out)).mono ?_
    rintro e w7 ⟨v7, rfl, ho7, hb7⟩
    obtain ⟨A7, c7, hv7, _, _⟩ := ho7.form
    subst hv7
    have HO7 := Lib.hid ho7
    have HB47 := Lib.hid (bel_trans HB46.out hb7)
    have HX7 := Lib.hid (HX6.out.keep hb7)
    have HD7 := Lib.hid (bel_trans HD6.out hb7)
    have HS67 := Lib.hid hb7.size
    clear ho7 hb7 HX6
    go_wp2_with fail
    refine (callEqIntST A7 A0 c7 c0 V w7 w7.heap.size (Nat.le_refl _) hVl HO7.out.rd (R4.out.next HB47.out)).mono ?_
    rintro e w8 ⟨rfl, hb8⟩
    have HB48 := Lib.hid (bel_trans HB47.out hb8)
    have HO8 := Lib.hid (HO7.out.next hb8)
    have HX8 := Lib.hid (HX7.out.keep hb8)
    have HD8 := Lib.hid (bel_trans HD7.out hb8)
    have HS68 := Lib.hid (Nat.le_trans HS67.out hb8.size)
    clear hb8 HO7 HX7 HB47
    go_wp2_with fail
    refine (HT.out w8 (bel_trans HB4.out HB48.out)).mono ?_
    rintro e w9 ⟨rfl, ys, hy, hsy⟩
    have HB49 := Lib.hid (bel_trans HB48.out hy.bel)
    have HO9 := Lib.hid (HO8.out.next hy.bel)
    have HX9 := Lib.hid (HX8.out.keep hy.bel)
    have HD9 := Lib.hid (bel_trans HD8.out hy.bel)
    have HS69 := Lib.hid (Nat.le_trans HS68.out hy.bel.size)
    have CE := callEqPartST (some ⟨w4.heap.size, 0, none⟩) (some ⟨w8.heap.size, 0, none⟩) ps.length ps.length xs ys w9 w9.heap.size (Nat.le_refl _) hlx (hsy.trans HSX.out.symm) (HX9.out.rd HWX.out) (hy.rd (hsy.len HW.out))
    rw [HLX.out, hsy.1] at CE
    have HCE := Lib.hid CE
    clear hy hsy CE HO8 HX8 HB48
    go_wp2_with fail
    refine HCE.out.mono ?_
    rintro e wa ⟨rfl, hba⟩
    have HB4a := Lib.hid (bel_trans HB49.out hba)
    have HOa := Lib.hid (HO9.out.next hba)
    have HXa := Lib.hid (HX9.out.keep hba)
    have HDa := Lib.hid (bel_trans HD9.out hba)
    have HS6 := Lib.hid (Nat.le_trans HS69.out hba.size)
    clear hba HCE HO9 HX9 HB49
    have HMKS := Lib.hid (HX.out.marksAt HDa.out)
    have h46 : w4.heap.size ≤ w6.heap.size := HB46.out.size
    have CM := callMarkPartS w4.heap.size ps.length xs 1 w5.heap.size wa (by omega) (by omega) hlx HMKS.out.2.2.2 HMKS.out.1 HMKS.out.2.1 (fun q hq => ⟨HMKS.out.2.2.1 q hq, HWX.out q hq⟩)
    rw [HLX.out] at CM
    have HCM := Lib.hid CM
    clear CM HMKS HX HXa
    go_wp2_with fail
    refine HCM.out.mono ?_
    rintro e wb ⟨rk, rfl, hrk, hmk⟩
    have hdk : decide (rk < 0) = false := decide_eq_false (by omega)
    have HBwb := Lib.hid ((bel_trans HB4.out HB4a.out).trans (hmk.below (by have := HB4.out.size; omega)))
    have HOb := Lib.hid (hmk.own HOa.out H56.out)
    have Kb : Hid (wb.heap[w.heap.size]? = some (.cells #[.int .i64 t.place, .int .i64 t.count, .bool t.write] 59 (0, 0))) := (hmk.block _ (.inl (cell3 K4.out).2.2.2.2.2.2)).trans (blkc K4.out HB4a.out)
    have R4b : Hid (Rd eInt wb w4.heap.size A0 V) := hmk.rdLow (R4.out.below HB4a.out) (Nat.le_refl _)
    have hs6b : w6.heap.size ≤ wb.heap.size := by rw [hmk.size]; exact HS6.out
    clear hmk HCM HOa HB4a R4 HS6
    go_wp2_with fail
    refine (callEqIntST A7 A0 c7 c0 V wb wb.heap.size (Nat.le_refl _) hVl HOb.out.rdN (R4b.out.mono (by omega))).mono ?_
    rintro e wc ⟨rfl, hbc⟩
    have HOc := Lib.hid (HOb.out.next hbc)
    have R4c : Hid (Rd eInt wc w4.heap.size A0 V) := R4b.out.below (hbc.mono (by omega))
    have Kc := Lib.hid (blkc Kb.out hbc)
    have HBwc := Lib.hid (bel_trans HBwb.out hbc)
    have hs6c : w6.heap.size ≤ wc.heap.size := Nat.le_trans hs6b hbc.size
    clear hbc HOb R4b HBwb hs6b
    go_wp2_with fail
    refine (callMarkIntS A7 c7 V 1 w6.heap.size wc (by omega) (by omega) hVl HOc.out).mono ?_
    rintro e wd ⟨rfl, hmk, hod⟩
    have HOd := Lib.hid hod
    have R4d : Hid (Rd eInt wd w4.heap.size A0 V) := hmk.rdLow R4c.out h46
    have Kd : Hid (wd.heap[w.heap.size]? = some (.cells #[.int .i64 t.place, .int .i64 t.count, .bool t.write] 59 (0, 0))) := (hmk.block _ (.inl (by have := (cell3 K4.out).2.2.2.2.2.2; omega))).trans Kc.out
    have HBwd := Lib.hid (HBwc.out.trans (hmk.below (by have := HB4.out.size; omega)))
    have hs6d : w6.heap.size ≤ wd.heap.size := by rw [hmk.size]; exact hs6c
    have hdq : decide ((1 : Int) + (V.length : Int) < 0) = false := decide_eq_false (by omega)
    have hdn : ((1 : Int) + (V.length : Int) != (1 : Int) + (V.length : Int)) = false := by simp
    clear hmk hod HOc R4c HBwc hs6c
    go_wp2_with fail
    refine (callHeldIntS A7 c7 V.length 1 wd wd.heap.size (Nat.le_refl _) (by omega) (by omega) hVl (by have h := HOd.out.rdN; exact h)).mono ?_
    rintro e we ⟨rfl, hbe⟩
    have HOe := Lib.hid (HOd.out.next hbe)
    have R4e : Hid (Rd eInt we w4.heap.size A0 V) := R4d.out.below (hbe.mono (by omega))
    have HBe := Lib.hid (bel_trans HBwd.out hbe)
    have Ke := Lib.hid (blkc Kd.out hbe)
    have hse : w4.heap.size ≤ we.heap.size := by have := hbe.size; omega
    clear hbe HOd R4d HBwd hs6d
    have Bd := Lib.hid (HBe.out.drew)
    obtain ⟨x0, x1, x2, _, _, _, x6⟩ := cell3 Ke.out
    go_upto_region 24 with (fail)
    go_region_held3 (fun w' => w'.cell? ⟨w.heap.size, 0, none⟩ = some (.int .i64 t.place) ∧ w'.cell? ⟨w.heap.size, 1, none⟩ = some (.int .i64 t.count) ∧ w'.cell? ⟨w.heap.size, 2, none⟩ = some (.bool t.write)) (first | exact ⟨x0, x1, x2⟩ | (refine ⟨?_, ?_, ?_⟩ <;> assumption) | go_keep)
      (first
        | (go_at_call 24; refine (HT.out we.drew Bd.out).mono ?_; rintro e wga ⟨rfl, qs, hq, hsm⟩; have HPa := Lib.hid (hq.rd (hsm.len HW.out)); have HSa := Lib.hid hsm; have HBa := Lib.hid (below_drew (Below.refl we.heap.size we) |>.trans hq.bel); clear hq hsm; obtain ⟨m0, m1, m2, _, _, _, _⟩ := cell3 (blkc Ke.out HBa.out))
        | (go_at_call 38; refine (HTT.out wga).mono ?_; rintro e wgb ⟨rfl, hb⟩; have HBb := Lib.hid (bel_trans HBa.out hb); have HPb : Hid (RdP wgb wgb.heap.size (some ⟨we.drew.heap.size, 0, none⟩) qs) := ⟨HPa.out.1.next hb, fun p hp => ⟨(HPa.out.2 p hp).1.next hb, (HPa.out.2 p hp).2⟩⟩; clear hb; obtain ⟨n0, n1, n2, _, _, _, _⟩ := cell3 (blkc Ke.out HBb.out))
        | (go_at_call 34; refine (HIM.out wgb _ qs (bel_trans HBe.out HBb.out) HSa.out HPb.out).mono ?_; rintro e wg ⟨v, rfl, ho, hb⟩; have HOwg := Lib.hid ho; have HCwg := Lib.hid (bel_trans HBb.out hb); clear ho hb; obtain ⟨o0, o1, o2, _, _, _, _⟩ := cell3 (blkc Ke.out HCwg.out)))
    obtain ⟨A9, c9, hv9, _, _⟩ := HOwg.out.form
    subst hv9
    have HOg := Lib.hid (HOe.out.next HCwg.out)
    have R4g : Hid (Rd eInt wg w4.heap.size A0 V) := R4e.out.below (HCwg.out.mono hse)
    have HR9 := Lib.hid HOwg.out.rd
    have HBg := Lib.hid (bel_trans HBe.out HCwg.out)
    have hsg : w4.heap.size ≤ wg.heap.size := Nat.le_trans hse HCwg.out.size
    clear HPa HSa HBa HPb HBb HOwg HCwg Bd x0 x1 x2 x6 HOe R4e HBe
    try clear m0 m1 m2
    try clear n0 n1 n2
    try clear o0 o1 o2
    go_wp2_with fail
    refine (callEqIntST A9 A0 c9 c0 V wg wg.heap.size (Nat.le_refl _) hVl HR9.out (R4g.out.mono hsg)).mono ?_
    rintro e wh ⟨rfl, hbh⟩
    have HOh := Lib.hid (HOg.out.next hbh)
    have HBh := Lib.hid (bel_trans HBg.out hbh)
    clear hbh HOg HR9 HBg
    go_wp2_with fail
    refine (callHeldIntS A7 c7 V.length 1 wh wh.heap.size (Nat.le_refl _) (by omega) (by omega) hVl (by have h := HOh.out.rdN; exact h)).mono ?_
    rintro e wi ⟨rfl, hbi⟩
    have HBi := Lib.hid (bel_trans HBh.out hbi)
    go_wp2
    go_ret
    exact ⟨rfl, HBi.out⟩
  · have hd : decide (r < 0) = true := decide_eq_true (by omega)
    clear HRZ
    go_wp2
    go_ret
    exact ⟨rfl, HB1.out⟩
end Go.Proofs.Ytaeimnfdedcgkaa
