/- The reference's PartsApart, for every input. -/
import Derived.Test.YtaeimnfdedcgkaaApe
namespace Go.Proofs.Ytaeimnfdedcgkaa
open Go.RowKit Go.Sort

set_option maxRecDepth 100000 in
set_option maxHeartbeats 3200000 in
theorem callSPartsApart (A : Option Addr) (c : Nat) (ps : List Prt) (w : World) (B : Nat) (hB : B ≤ w.heap.size) (hm : ps.length ≤ 1048576) (hr : RdP w B A ps) :
    Calls Try.prog 31 #[.slice A ps.length c] w fun e w' => e = .returned (.bool (prtsOk ps && apartL ps)) ∧ Below w.heap.size w w' := by
  have HR := Lib.hid hr
  clear hr
  cases q1 : prtsOk ps
  · have H1 := Lib.hid q1
    clear q1
    go_enter Try.func31, Try.ntmps31
    go_wp2_with fail
    refine (callSPartsValid A c ps _ B hB (by omega) HR.out).mono ?_
    rintro e w1 ⟨rfl, hb1⟩
    rw [H1.out]
    go_wp2
    go_ret
    exact ⟨rfl, hb1⟩
  have H1 := Lib.hid q1
  clear q1
  have HOK : Hid (∀ p ∈ ps, winsOk p.wins = true) := fun p hp => prtOk_wins (prtsOk_mem H1.out hp)
  have EY := Lib.hid (@apartL_yes ps)
  have EN := Lib.hid (@apartL_no ps)
  go_enter Try.func31, Try.ntmps31
  go_wp2_with fail
  refine (callSPartsValid A c ps _ B hB (by omega) HR.out).mono ?_
  rintro e w1 ⟨rfl, hb1⟩
  rw [H1.out]
  have HB1 := Lib.hid hb1
  clear hb1
  go_wp2
  go_loopw [3] (fun i wr => ∃ k : Nat, k ≤ ps.length ∧ i = .int .i64 k ∧ Below w.heap.size w wr ∧ Hid (∀ j (hj : j < ps.length) (i : Nat) (hi : i < j), j < k → clash ps[j].wins ps[i].wins = false)) (fun i _ => ps.length - (intOf i).toNat)
  case atStart => exact ⟨0, by omega, rfl, HB1.out, fun _ _ _ _ hi => by omega⟩
  case round =>
    obtain ⟨k, hk, rfl, hbl, hno⟩ := hrel
    rename World => wo
    have HB := Lib.hid hbl
    clear hbl HB1
    by_cases hlt : k < ps.length
    · have hd : decide ((k : Int) < ps.length) = true := decide_eq_true (by omega)
      go_wp2
      go_loopw [4] (fun i w2 => ∃ j : Nat, j ≤ k ∧ i = .int .i64 j ∧ Below w.heap.size w w2 ∧ Hid (∀ i (hi : i < k), i < j → clash ps[k].wins ps[i].wins = false)) (fun i _ => k - (intOf i).toNat)
      case atStart => exact ⟨0, by omega, rfl, HB.out, fun i _ hi => by omega⟩
      case round =>
        obtain ⟨j, hj, rfl, hbl2, hnj⟩ := hrel
        rename World => w2
        have HB3 := Lib.hid hbl2
        clear hbl2 HB
        by_cases hlt2 : j < k
        · have hd2 : decide ((j : Int) < k) = true := decide_eq_true (by omega)
          have hltj : j < ps.length := by omega
          obtain ⟨b, off, rfl, hbB, a1, a2⟩ := (HR.out.1.below (HB3.out.mono hB)).at2 rfl hlt rfl
          obtain ⟨b', off', hA, hbB', h1, h2⟩ := (HR.out.1.below (HB3.out.mono hB)).at2 rfl hltj rfl
          simp only [Option.some.injEq, Addr.mk.injEq, and_true] at hA
          obtain ⟨rfl, rfl⟩ := hA
          have k1 := cell_regrown a1
          have k2 := cell_regrown h1
          have HWK := Lib.hid (HR.out.wins hlt)
          have HWJ := Lib.hid (HR.out.wins hltj)
          have EC : Hid (wclash ps[j].wins ps[k].wins = clash ps[k].wins ps[j].wins) := by
            show wclash _ _ = _
            unfold wclash
            rw [HOK.out _ (List.getElem_mem hlt), HOK.out _ (List.getElem_mem hltj), clash_comm]
            rfl
          cases hq : clash ps[k].wins ps[j].wins
          all_goals
            have HQ := Lib.hid hq
            have C1 : QCall Try.prog 63 #[.slice ps[j].A ps[j].wins.length ps[j].c, .slice ps[k].A ps[k].wins.length ps[k].c] w2 (.bool _) := QCall.of fun W' hb => by
              have := callSWinClash ps[j].A ps[k].A ps[j].c ps[k].c ps[j].wins ps[k].wins W' B (Nat.le_trans (Nat.le_trans hB HB3.out.size) hb.size) HWJ.out.2 HWK.out.2 (HWJ.out.1.below ((bel_trans HB3.out hb).mono hB)) (HWK.out.1.below ((bel_trans HB3.out hb).mono hB))
              rw [EC.out, HQ.out] at this
              exact this
            clear hq
            go_upto_region 9 with (fail)
            refine wp_region_quiet_below (by kernel_rfl) (by kernel_rfl) ?_
            clear a1 a2 h1 h2
            repeat (first | go_big_quiet_step ((go_at_call 63; exact C1 _ _)) | quiet_step ((go_at_call 63; exact C1 _ _)))
            refine wpQuiet_nil ?_
            intro w6 hw6
            have HB6 := Lib.hid (bel_trans HB3.out (below_of_regrown hw6))
            clear hw6 k1 k2 C1
          · have hne2 : Hid (∀ i (h : i < k), i < j + 1 → clash ps[k].wins ps[i].wins = false) := fun i hi hij => by
              rcases Nat.lt_or_ge i j with h' | h'
              · exact hnj.out i hi h'
              · have : i = j := by omega
                subst this; exact HQ.out
            go_wp2
            go_roundw
            case rel => exact ⟨j + 1, by omega, by go_num, HB6.out, hne2⟩
            case measure => simp [intOf]; omega
          · have HN : Hid (apartL ps = false) := EN.out fun h => by have := h k hlt j hlt2; rw [HQ.out] at this; cases this
            go_wp2
            go_ret
            exact ⟨by rw [HN.out] <;> rfl, HB6.out⟩
        · have hje : j = k := by omega
          subst hje
          have hd2 : decide ((j : Int) < j) = false := by simp
          have hne : Hid (∀ l (hl : l < ps.length) (i : Nat) (hi : i < l), l < j + 1 → clash ps[l].wins ps[i].wins = false) := fun l hl i hi hlk => by
            rcases Nat.lt_or_ge l j with h' | h'
            · exact hno.out l hl i hi h'
            · have : l = j := by omega
              subst this
              exact hnj.out i hi hi
          go_wp2
          go_roundw
          case rel => exact ⟨j + 1, by omega, by go_num, HB3.out, hne⟩
          case measure => simp [intOf]; omega
    · have hke : k = ps.length := by omega
      subst hke
      have hd : decide ((ps.length : Int) < ps.length) = false := by simp
      go_wp2
      go_ret
      exact ⟨by rw [EY.out (fun j hj i hi => hno.out j hj i hi hj)] <;> rfl, HB.out⟩
end Go.Proofs.Ytaeimnfdedcgkaa
