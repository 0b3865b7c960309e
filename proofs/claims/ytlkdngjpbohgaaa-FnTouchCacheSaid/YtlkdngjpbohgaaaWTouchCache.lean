/- The walk of the law FnTouchCache: true for every input, and nothing that was there is written. -/
import Derived.Test.YtlkdngjpbohgaaaDrd
import Derived.Test.YtlkdngjpbohgaaaSam
namespace Go.Proofs.Ytlkdngjpbohgaaa
open Go.RowKit Go.Sort

set_option maxRecDepth 100000 in
set_option maxHeartbeats 3200000 in
theorem walkFnTouchCache (A : Option Addr) (c : Nat) (bs : List Int) (w : World) (hc : bs.length ≤ c) (hr : Rd eU8 w w.heap.size A bs) (hby : ∀ x ∈ bs, 0 ≤ x ∧ x ≤ 255) :
    Calls Try.prog 6 #[.slice A bs.length c] w fun e w' => e = .returned (.bool true) ∧ Below w.heap.size w w' := by
  by_cases hl : bs.length ≤ 1048576
  · have HC := Lib.hid (callDrawTouchCache A c bs w hc hl hr hby)
    clear hr hby
    go_enter Try.func6, Try.ntmps6
    go_wp2_with fail
    refine HC.out.mono ?_
    rintro e w1 ⟨A, c, h, p, rfl, hrd, hcc, hlh, hp1, hp2, hb1⟩
    have HB1 := Lib.hid hb1
    clear hb1 HC
    have HXB : Hid ((w1.alloc (.cells #[.slice A h.length c] 25)).heap[w1.heap.size]? = some (.cells #[.slice A h.length c] 25 (0, 0))) := heap_alloc_new w1 _
    have HX := Lib.hid hrd
    have HBa := Lib.hid (below1 w1 (.cells #[.slice A h.length c] 25))
    clear hrd
    obtain ⟨x, hx⟩ : ∃ x, x = tcNew h p := ⟨_, rfl⟩
    obtain ⟨tt, htt⟩ : ∃ tt, tt = tcTime h p := ⟨_, rfl⟩
    have hxl : x.length ≤ 20 := by
      rw [hx]; unfold tcNew; split
      · rw [tNew_len]; exact hlh
      · simp
    have T1 : ∀ W, Below w1.heap.size w1 W → Hid (Calls Try.prog 23 #[.agg #[.slice A h.length c], .int .i64 p] W fun e w' => ∃ A' c', e = .returned (.tuple #[.agg #[.slice A' x.length c'], .int .i64 tt]) ∧ Own eInt 3 w' W.heap.size (.slice A' x.length c') x ∧ x.length ≤ c' ∧ Below W.heap.size W w') := fun W hW => by
      have := callTouchCache A c h p W w1.heap.size hW.size (by omega) hcc (HX.out.below hW)
      rw [← hx, ← htt] at this; exact this
    have T2 : ∀ W, Below w1.heap.size w1 W → Hid (Calls Try.prog 24 #[.agg #[.slice A h.length c], .int .i64 p] W fun e w' => ∃ A' c', e = .returned (.tuple #[.agg #[.slice A' x.length c'], .int .i64 tt]) ∧ Own eInt 3 w' W.heap.size (.slice A' x.length c') x ∧ x.length ≤ c' ∧ Below W.heap.size W w') := fun W hW => by
      have := callSTouchCache A c h p W w1.heap.size hW.size (by omega) (HX.out.below hW)
      rw [← hx, ← htt] at this; exact this
    have E3 : ∀ (A A' : Option Addr) (c c' : Nat) (W : World), Rd eInt W W.heap.size A x → Rd eInt W W.heap.size A' x → Hid (Calls Try.prog 13 #[.slice A x.length c, .slice A' x.length c'] W fun e w' => e = .returned (.bool true) ∧ Below W.heap.size W w') := fun A A' c c' W h1 h2 => by
      have := callSameInts A A' c c' x x W W.heap.size (Nat.le_refl _) (by omega) (by omega) h1 h2
      rw [show decide (x = x) = true from decide_eq_true rfl] at this; exact this
    have HXX := Lib.hid hx
    have HTT := Lib.hid htt
    have hnn : (tt != tt) = false := by simp
    clear hx htt
    have hcx := (cell1 HXB.out).1
    go_wp2_with fail
    refine (T1 _ HBa.out).out.mono ?_
    rintro e w2 ⟨A2, c2, rfl, hown2, hc2, hb2⟩
    have HB2 := Lib.hid ((bel_trans HBa.out hb2).alloc (bel_trans HBa.out hb2).size (.cells #[.slice A2 x.length c2] 25))
    have HP2 := Lib.hid (blkc (blkc HXB.out hb2) (below1 w2 (.cells #[.slice A2 x.length c2] 25)))
    have HQ2 : Hid ((w2.alloc (.cells #[.slice A2 x.length c2] 25)).heap[w2.heap.size]? = some (.cells #[.slice A2 x.length c2] 25 (0, 0))) := heap_alloc_new w2 _
    have HR2 := Lib.hid (hown2.rd.alloc (.cells #[.slice A2 x.length c2] 25))
    clear hb2 hown2 hcx
    have hcx := (cell1 HP2.out).1
    go_wp2_with fail
    refine (T2 _ HB2.out).out.mono ?_
    rintro e w3 ⟨A3, c3, rfl, hown3, hc3, hb3⟩
    have hba := bel_trans hb3 (below1 w3 (.cells #[.slice A3 x.length c3] 25))
    have HB3 := Lib.hid (bel_trans HB2.out hba)
    have HP3 := Lib.hid (blkc HP2.out hba)
    have HQ3 := Lib.hid (blkc HQ2.out hba)
    have HR3 := Lib.hid (HR2.out.next hba)
    have HS3 := Lib.hid (hown3.rd.alloc (.cells #[.slice A3 x.length c3] 25))
    have HT3 : Hid ((w3.alloc (.cells #[.slice A3 x.length c3] 25)).heap[w3.heap.size]? = some (.cells #[.slice A3 x.length c3] 25 (0, 0))) := heap_alloc_new w3 _
    clear hb3 hown3 hcx hba T1 T2
    have hcq := (cell1 HQ3.out).1
    have hct := (cell1 HT3.out).1
    go_wp2_with fail
    refine (E3 A2 A3 c2 c3 _ HR3.out HS3.out).out.mono ?_
    rintro e w4 ⟨rfl, hb4⟩
    have HB4 := Lib.hid (bel_trans HB3.out hb4)
    have HP4 := Lib.hid (blkc HP3.out hb4)
    have HQ4 := Lib.hid (blkc HQ3.out hb4)
    have HR4 := Lib.hid (HR3.out.next hb4)
    clear hb4 hcq hct
    have hcq := (cell1 HQ4.out).1
    have hcp := (cell1 HP4.out).1
    cases hok : tcOk h p
    · have ht1 : tt = -1 := by rw [HTT.out]; unfold tcTime; rw [hok]; rfl
      have hx0 : x = [] := by rw [HXX.out]; unfold tcNew; rw [hok]; rfl
      subst hx0
      subst ht1
      clear hok
      go_wp2_with fail
      refine (callAlive _).mono ?_
      rintro e w9 ⟨rfl, hb9⟩
      go_wp2
      go_ret
      exact ⟨rfl, bel_trans HB1.out (bel_trans HB4.out hb9)⟩
    · have hoo := hok
      unfold tcOk at hoo
      rw [Bool.and_eq_true] at hoo
      obtain ⟨hco, hpo⟩ := hoo
      have hl := cacheOk_len hco
      obtain ⟨hp0, hp4⟩ := plOk_iff.1 hpo
      have hxn : x = tNew h p := by rw [HXX.out]; unfold tcNew; rw [hok]; rfl
      have htn : tt = tTime h p := by rw [HTT.out]; unfold tcTime; rw [hok]; rfl
      have hxlen : x.length = h.length := by rw [hxn]; exact tNew_len h p
      have hxok : cacheOk x = true := by rw [hxn]; exact cacheOk_new hco hpo
      obtain ⟨m, hm⟩ : ∃ m, m = p % 16 := ⟨_, rfl⟩
      obtain ⟨r, hr⟩ : ∃ r, r = p - m := ⟨_, rfl⟩
      have hr0 : 0 ≤ r ∧ r ≤ 4095 ∧ r / 16 = p / 16 := by omega
      have hro : plOk r = true := plOk_iff.2 (by omega)
      have hrt : tHit x r = true := by rw [hxn]; exact tHit_self (by omega) p r hr0.2.2.symm
      have K1 : tcNew x r = x := by unfold tcNew tcOk tNew; rw [hxok, hro, hrt]; rfl
      have K2 : tcTime x r = 1 := by unfold tcTime tcOk tTime; rw [hxok, hro, hrt]; rfl
      have T3 : ∀ W, Rd eInt W W.heap.size A2 x → Hid (Calls Try.prog 23 #[.agg #[.slice A2 x.length c2], .int .i64 r] W fun e w' => ∃ A' c', e = .returned (.tuple #[.agg #[.slice A' x.length c'], .int .i64 1]) ∧ Own eInt 3 w' W.heap.size (.slice A' x.length c') x ∧ x.length ≤ c' ∧ Below W.heap.size W w') := fun W hW => by
        have := callTouchCache A2 c2 x r W W.heap.size (Nat.le_refl _) (by omega) hc2 hW
        rw [K1, K2] at this; exact this
      have T4 : ∀ W, Rd eInt W W.heap.size A2 x → Hid (Calls Try.prog 25 #[.agg #[.slice A2 x.length c2]] W fun e w' => e = .returned (.bool true) ∧ Below W.heap.size W w') := fun W hW => by
        have := callCacheValid A2 c2 x W W.heap.size (Nat.le_refl _) (by omega) hW
        rw [hxok] at this; exact this
      have DF : Hid (diffs x h h.length = if tHit h p then 0 else 1) := by show _ = _; rw [hxn]; exact diffs_touch (by omega) p
      have TF : Hid (tt = if tHit h p then 1 else 8) := by show _ = _; rw [htn]; rfl
      have htb : 1 ≤ tt ∧ tt ≤ 8 := by rw [htn]; exact tTime_bd h p
      have hrr : p - m = r := hr.symm
      have hrm : p % 16 = m := hm.symm
      have hrt2 : Int.tmod p 16 = m := by rw [Int.tmod_eq_emod_of_nonneg (by omega)]; exact hm.symm
      have HXL := Lib.hid hxlen
      have d0 : decide (tt < 0) = false := decide_eq_false (by omega)
      clear hok hco hpo hxn htn hxok hro hrt K1 K2 hr hm hxlen
      go_wp2_with fail
      refine (T3 _ HR4.out).out.mono ?_
      rintro e w5 ⟨A5, c5, rfl, hown5, hc5, hb5⟩
      have hba := bel_trans hb5 (below1 w5 (.cells #[.slice A5 x.length c5] 25))
      have HB5 := Lib.hid (bel_trans HB4.out hba)
      have HP5 := Lib.hid (blkc HP4.out hba)
      have HQ5 := Lib.hid (blkc HQ4.out hba)
      have HR5 := Lib.hid (HR4.out.next hba)
      have HS5 := Lib.hid (hown5.rd.alloc (.cells #[.slice A5 x.length c5] 25))
      have HT5 : Hid ((w5.alloc (.cells #[.slice A5 x.length c5] 25)).heap[w5.heap.size]? = some (.cells #[.slice A5 x.length c5] 25 (0, 0))) := heap_alloc_new w5 _
      have HH5 := Lib.hid (HX.out.below HB5.out)
      obtain ⟨v5, hv5⟩ : ∃ v5, v5 = w5.alloc (.cells #[.slice A5 x.length c5] 25) := ⟨_, rfl⟩
      rw [← hv5] at HB5 HP5 HQ5 HR5 HS5 HT5 HH5
      clear hb5 hown5 hba hcq hcp T3
      go_wp2
      rw [← hv5]
      clear hv5
      go_loopw [11, 12] (fun a i wr => ∃ k d : Nat, k ≤ h.length ∧ i = .int .i64 k ∧ a = .int .i64 d ∧ d ≤ k ∧ Below v5.heap.size v5 wr ∧ Hid (d = diffs x h k)) (fun _ i _ => h.length - (intOf i).toNat)
      case atStart => exact ⟨0, 0, by omega, rfl, rfl, by omega, Below.refl _ _, rfl⟩
      case round =>
        obtain ⟨k, d, hk, rfl, rfl, hd, hbl, hde⟩ := hrel
        have HB := Lib.hid hbl
        have HPr := Lib.hid (blkc HP5.out hbl)
        have HQr := Lib.hid (blkc HQ5.out hbl)
        have HTr := Lib.hid (blkc HT5.out hbl)
        have HRr := Lib.hid (HR5.out.next hbl)
        have HSr := Lib.hid (HS5.out.next hbl)
        clear hbl
        have hcp := (cell1 HPr.out).1
        by_cases hlt : k < h.length
        · have hlt2 : k < x.length := by rw [HXL.out]; exact hlt
          have hlx : x.length = h.length := HXL.out
          have hcq := (cell1 HQr.out).1
          obtain ⟨b1, o1, rfl, _, a1⟩ := (HH5.out.below (HB.out.mono (by have := HB5.out.size; omega))).at1 rfl hlt rfl
          obtain ⟨b2, o2, rfl, _, a2⟩ := HRr.out.at1 rfl hlt2 rfl
          have hi1 : (0 : Int) ≤ (k : Int) := by omega
          have hi2 : (k : Int) < (h.length : Int) := by omega
          have hi3 : (k : Int) < (x.length : Int) := by omega
          have hds : diffs x h (k + 1) = diffs x h k + if x[k] = h[k] then 0 else 1 := by
            rw [diffs, List.getD_eq_getElem?_getD, List.getD_eq_getElem?_getD, List.getElem?_eq_getElem hlt, List.getElem?_eq_getElem hlt2]; rfl
          have HDS := Lib.hid hds
          clear hds hlx
          by_cases he : x[k] = h[k]
          · have hq : (x[k] != h[k]) = false := by rw [he]; simp
            have hst : Hid (d = diffs x h (k + 1)) := by show _ = _; rw [HDS.out, if_pos he]; exact hde.out
            clear he
            go_wp2
            go_quiet (fail)
            go_wp2
            go_roundw
            case rel => exact ⟨k + 1, d, by omega, by go_num, rfl, by omega, below_drewN HB.out _, hst⟩
            case measure => simp [intOf]; omega
          · have hq : (x[k] != h[k]) = true := by rw [bne_iff_ne]; exact he
            have hst : Hid (d + 1 = diffs x h (k + 1)) := by show _ = _; rw [HDS.out, if_neg he, hde.out]
            clear he
            go_wp2
            go_quiet (fail)
            go_wp2
            go_roundw
            case rel => exact ⟨k + 1, d + 1, by omega, by go_num, by go_num, by omega, below_drewN HB.out _, hst⟩
            case measure => simp [intOf]; omega
        · have hke : k = h.length := by omega
          subst hke
          have hdl : decide ((h.length : Int) < (h.length : Int)) = false := by simp
          have hct := (cell1 HTr.out).1
          have hcq := (cell1 HQr.out).1
          have hdd := hde.out
          rw [DF.out] at hdd
          have htf := TF.out
          have hfin : (d = 0 ∧ tt = 1) ∨ (d = 1 ∧ tt = 8) := by
            cases hh : tHit h p
            · rw [hh] at hdd htf; exact .inr ⟨hdd, htf⟩
            · rw [hh] at hdd htf; exact .inl ⟨hdd, htf⟩
          clear hdd htf DF TF
          rcases hfin with ⟨rfl, rfl⟩ | ⟨rfl, rfl⟩
          all_goals
            go_wp2_with fail
            refine (E3 A5 A2 c5 c2 _ HSr.out HRr.out).out.mono ?_
            rintro e w6 ⟨rfl, hb6⟩
            have hcq6 := (cell1 (blkc HQr.out hb6)).1
            have HB6 := Lib.hid (bel_trans HB.out hb6)
            have HR6 := Lib.hid (HRr.out.next hb6)
            clear hb6 hct hcq hcp
            go_wp2_with fail
            refine (T4 _ HR6.out).out.mono ?_
            rintro e w7 ⟨rfl, hb7⟩
            go_wp2
            go_ret
            exact ⟨rfl, bel_trans HB1.out (HB5.out.trans ((bel_trans HB6.out hb7).mono HB5.out.size))⟩
  · have hl' : 1048576 < bs.length := by omega
    clear hr hby hl
    go_enter Try.func6, Try.ntmps6
    go_wp2
    go_ret
    exact ⟨rfl, Below.refl _ _⟩
end Go.Proofs.Ytlkdngjpbohgaaa
