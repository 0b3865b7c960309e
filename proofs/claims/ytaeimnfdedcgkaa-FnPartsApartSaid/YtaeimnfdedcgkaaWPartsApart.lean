/- The walk of the law FnPartsApart: true for every input, and nothing that was there is written. -/
import Derived.Test.YtaeimnfdedcgkaaApf
namespace Go.Proofs.Ytaeimnfdedcgkaa
open Go.RowKit Go.Sort

theorem apart_take {ps : List Prt} (h : (prtsOk ps && apartL ps) = true) (m : Nat) : (prtsOk (ps.take m) && apartL (ps.take m)) = true := by
  rw [Bool.and_eq_true] at h ⊢
  refine ⟨?_, apartL_yes fun j hj i hi => ?_⟩
  · have h1 := h.1
    unfold prtsOk at h1 ⊢
    rw [Bool.and_eq_true, List.all_eq_true, decide_eq_true_iff] at h1 ⊢
    exact ⟨by rw [List.length_take]; omega, fun x hx => h1.2 x (List.mem_of_mem_take hx)⟩
  · have hj' := hj
    rw [List.length_take] at hj'
    have := apartL_of h.2 j (by omega) i hi
    simpa [List.getElem_take] using this

theorem apart_not {ps : List Prt} (h : apartL ps = true) {i j : Nat} (hi : i < ps.length) (hj : j < ps.length) (hne : i ≠ j) : wclash ps[i].wins ps[j].wins = false := by
  have : clash ps[i].wins ps[j].wins = false := by
    rcases Nat.lt_or_ge i j with h' | h'
    · rw [clash_comm]; exact apartL_of h j hj i h'
    · exact apartL_of h i hi j (by omega)
  unfold wclash
  rw [this, Bool.and_false]

set_option maxRecDepth 100000 in
set_option maxHeartbeats 3200000 in
theorem walkFnPartsApart (A : Option Addr) (c : Nat) (bs : List Int) (w : World) (hc : bs.length ≤ c) (hr : Rd eU8 w w.heap.size A bs) (hby : ∀ x ∈ bs, 0 ≤ x ∧ x ≤ 255) :
    Calls Try.prog 9 #[.slice A bs.length c] w fun e w' => e = .returned (.bool true) ∧ Below w.heap.size w w' := by
  by_cases hl : bs.length ≤ 1048576
  · have HC := Lib.hid (callDrawPartsApart A c bs w hc hl hr hby)
    clear hr hby
    go_enter Try.func9, Try.ntmps9
    go_wp2_with fail
    refine HC.out.mono ?_
    rintro e w1 ⟨A, c, ps, rfl, hrd, hlen, hlc, hb1⟩
    have HX := Lib.hid hrd
    have HB1 := Lib.hid hb1
    clear hrd hb1 HC
    have hm : ps.length ≤ 1048576 := by omega
    go_wp2_with fail
    refine (callPartsApart A c ps _ w1.heap.size (Nat.le_refl _) hm hlc HX.out).mono ?_
    rintro e w2 ⟨rfl, hb2⟩
    have HB2 := Lib.hid hb2
    clear hb2
    cases hq : (prtsOk ps && apartL ps)
    · have HQ := Lib.hid hq
      clear hq
      go_wp2_with fail
      refine (callSPartsApart A c ps _ w1.heap.size HB2.out.size hm (HX.out.below HB2.out)).mono ?_
      rintro e w3 ⟨rfl, hb3⟩
      rw [HQ.out]
      have HB3 := Lib.hid (bel_trans HB2.out hb3)
      clear hb3 HB2
      go_wp2_with fail
      refine (callAlive _).mono ?_
      rintro e w4 ⟨rfl, hb4⟩
      go_wp2
      go_ret
      exact ⟨rfl, bel_trans HB1.out (bel_trans HB3.out hb4)⟩
    · have HQ := Lib.hid hq
      have HA : Hid (apartL ps = true) := by rw [Bool.and_eq_true] at hq; exact hq.2
      clear hq
      go_wp2_with fail
      refine (callSPartsApart A c ps _ w1.heap.size HB2.out.size hm (HX.out.below HB2.out)).mono ?_
      rintro e w3 ⟨rfl, hb3⟩
      rw [HQ.out]
      have HB3 := Lib.hid (bel_trans HB2.out hb3)
      clear hb3 HB2
      go_wp2
      go_loopw [5] (fun i wr => ∃ k : Nat, k ≤ ps.length ∧ i = .int .i64 k ∧ Below w1.heap.size w1 wr) (fun i _ => ps.length - (intOf i).toNat)
      case atStart => exact ⟨0, by omega, rfl, HB3.out⟩
      case round =>
        obtain ⟨k, hk, rfl, hbl⟩ := hrel
        rename World => wo
        have HB := Lib.hid hbl
        clear hbl HB3
        by_cases hlt : k < ps.length
        · have hd : decide ((k : Int) < ps.length) = true := decide_eq_true (by omega)
          go_wp2
          go_loopw [6] (fun i w5 => ∃ j : Nat, j ≤ ps.length ∧ i = .int .i64 j ∧ Below w1.heap.size w1 w5) (fun i _ => ps.length - (intOf i).toNat)
          case atStart => exact ⟨0, by omega, rfl, HB.out⟩
          case round =>
            obtain ⟨j, hj, rfl, hbl2⟩ := hrel
            rename World => w5
            have HB5 := Lib.hid hbl2
            clear hbl2 HB
            by_cases hlt2 : j < ps.length
            · have hd2 : decide ((j : Int) < ps.length) = true := decide_eq_true (by omega)
              by_cases hjk : j = k
              · subst hjk
                have hne : ((j : Int) != (j : Int)) = false := by simp
                have hne' : (((j : Int)) == (j : Int)) = true := by simp
                go_upto_region 15 with (fail)
                go_quiet (fail)
                go_wp2
                go_roundw
                case rel => exact ⟨j + 1, by omega, by go_num, below_drewN HB5.out _⟩
                case measure => simp [intOf]; omega
              · have hne : (((j : Int)) == (k : Int)) = false := by rw [beq_eq_false_iff_ne]; omega
                have hne2 : (((j : Int)) != (k : Int)) = true := by unfold bne; rw [hne]; rfl
                obtain ⟨b, off, rfl, hbB, a1, a2⟩ := (HX.out.1.below HB5.out).at2 rfl hlt rfl
                obtain ⟨b', off', hA, hbB', h1, h2⟩ := (HX.out.1.below HB5.out).at2 rfl hlt2 rfl
                simp only [Option.some.injEq, Addr.mk.injEq, and_true] at hA
                obtain ⟨rfl, rfl⟩ := hA
                have k1 := cell_regrown a1
                have k2 := cell_regrown h1
                have HWK := Lib.hid (HX.out.wins hlt)
                have HWJ := Lib.hid (HX.out.wins hlt2)
                have C1 : QCall Try.prog 32 #[.slice ps[j].A ps[j].wins.length ps[j].c, .slice ps[k].A ps[k].wins.length ps[k].c] w5 (.bool false) := QCall.of fun W' hb => by
                  have := callWinClash ps[j].A ps[k].A ps[j].c ps[k].c ps[j].wins ps[k].wins W' w1.heap.size (Nat.le_trans HB5.out.size hb.size) HWJ.out.2 HWK.out.2 (HWJ.out.1.below (bel_trans HB5.out hb)) (HWK.out.1.below (bel_trans HB5.out hb))
                  rw [apart_not HA.out hlt2 hlt hjk] at this
                  exact this
                go_upto_region 15 with (fail)
                refine wp_region_quiet_below (by kernel_rfl) (by kernel_rfl) ?_
                clear a1 a2 h1 h2
                repeat (first | go_big_quiet_step ((go_at_call 32; exact C1 _ _)) | quiet_step ((go_at_call 32; exact C1 _ _)))
                refine wpQuiet_nil ?_
                intro w6 hw6
                have HB6 := Lib.hid (bel_trans HB5.out (below_of_regrown hw6))
                clear hw6 k1 k2 C1
                go_wp2
                go_roundw
                case rel => exact ⟨j + 1, by omega, by go_num, HB6.out⟩
                case measure => simp [intOf]; omega
            · have hje : j = ps.length := by omega
              subst hje
              have hd2 : decide ((ps.length : Int) < ps.length) = false := by simp
              go_wp2
              go_roundw
              case rel => exact ⟨k + 1, by omega, by go_num, HB5.out⟩
              case measure => simp [intOf]; omega
        · have hke : k = ps.length := by omega
          subst hke
          have hd : decide ((ps.length : Int) < ps.length) = false := by simp
          have hdiv : Int.tdiv (ps.length : Int) 2 = ((ps.length / 2 : Nat) : Int) := by rw [Int.tdiv_eq_ediv_of_nonneg (by omega)]; omega
          have hwr : IntKind.i64.wrap ((ps.length / 2 : Nat) : Int) = ((ps.length / 2 : Nat) : Int) := IntWalk.i64_in _ (by omega)
          have hle : ps.length / 2 ≤ c := by omega
          go_wp2_with fail
          have HP := callPartsApart A c (ps.take (ps.length / 2)) wo w1.heap.size HB.out.size (by rw [List.length_take]; omega) (by rw [List.length_take]; omega) ⟨(HX.out.1.below HB.out).take _, fun p hp => (HX.out.below HB.out).2 p (List.mem_of_mem_take hp)⟩
          rw [List.length_take, Nat.min_eq_left (by omega), apart_take HQ.out] at HP
          refine HP.mono ?_
          rintro e w7 ⟨rfl, hb7⟩
          go_wp2
          go_ret
          exact ⟨rfl, bel_trans HB1.out (bel_trans HB.out hb7)⟩
  · have hl' : 1048576 < bs.length := by omega
    clear hr hby hl
    go_enter Try.func9, Try.ntmps9
    go_wp2
    go_ret
    exact ⟨rfl, Below.refl _ _⟩
end Go.Proofs.Ytaeimnfdedcgkaa
