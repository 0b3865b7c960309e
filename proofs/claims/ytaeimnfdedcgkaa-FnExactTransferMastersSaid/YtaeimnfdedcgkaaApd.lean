/- WindowsClash, apart, PartsApart of the program and of the reference, for every input. -/
import Derived.Test.YtaeimnfdedcgkaaApc
namespace Go.Proofs.Ytaeimnfdedcgkaa
open Go.RowKit Go.Sort

theorem box2 {w : World} {b : Nat} {x y : Value} {T : TypeId} (h : w.heap[b]? = some (.cells #[x, y] T (0, 0))) :
    w.cell? ⟨b, 0, none⟩ = some x ∧ w.cell? ⟨b, 1, none⟩ = some y :=
  ⟨by rw [cell_of_row w b 0 _ _ _ h]; rfl, by rw [cell_of_row w b 1 _ _ _ h]; rfl⟩

def wclash (xs ys : List Win) : Bool := winsOk xs && winsOk ys && clash xs ys
/-- No windows of two partitions clash. -/
noncomputable def apartL (ps : List Prt) : Bool := @decide (∀ j (hj : j < ps.length) (i : Nat) (hi : i < j), clash ps[j].wins ps[i].wins = false) (Classical.propDecidable _)
theorem apartL_yes {ps : List Prt} (h : ∀ j (hj : j < ps.length) (i : Nat) (hi : i < j), clash ps[j].wins ps[i].wins = false) : apartL ps = true := by unfold apartL; exact @decide_eq_true _ (_) h
theorem apartL_no {ps : List Prt} (h : ¬ ∀ j (hj : j < ps.length) (i : Nat) (hi : i < j), clash ps[j].wins ps[i].wins = false) : apartL ps = false := by unfold apartL; exact @decide_eq_false _ (_) h
theorem apartL_of {ps : List Prt} (h : apartL ps = true) : ∀ j (hj : j < ps.length) (i : Nat) (hi : i < j), clash ps[j].wins ps[i].wins = false := by unfold apartL at h; exact @of_decide_eq_true _ (_) h

set_option maxHeartbeats 800000 in
theorem callWinClash (A A' : Option Addr) (c c' : Nat) (xs ys : List Win) (w : World) (B : Nat) (hB : B ≤ w.heap.size) (hm : xs.length ≤ 1073741824) (hm' : ys.length ≤ 1073741824) (hr : Rd eWin w B A xs) (hr' : Rd eWin w B A' ys) :
    Calls Try.prog 32 #[.slice A xs.length c, .slice A' ys.length c'] w fun e w' => e = .returned (.bool (wclash xs ys)) ∧ Below w.heap.size w w' := by
  have E : Hid (wclash xs ys = (winsOk xs && winsOk ys && clash xs ys)) := rfl
  cases h1 : winsOk xs
  · have H1 := Lib.hid h1
    clear h1
    go_enter Try.func32, Try.ntmps32
    go_wp2_with fail
    refine (callWindowsValid A c xs _ B hB hm hr).mono ?_
    rintro e w1 ⟨rfl, hb1⟩
    rw [H1.out]
    go_wp2
    go_ret
    exact ⟨by rw [E.out, H1.out] <;> rfl, hb1⟩
  · have H1 := Lib.hid h1
    clear h1
    cases h2 : winsOk ys
    · have H2 := Lib.hid h2
      clear h2
      go_enter Try.func32, Try.ntmps32
      go_wp2_with fail
      refine (callWindowsValid A c xs _ B hB hm hr).mono ?_
      rintro e w1 ⟨rfl, hb1⟩
      rw [H1.out]
      go_wp2_with fail
      refine (callWindowsValid A' c' ys _ B (Nat.le_trans hB hb1.size) hm' (hr'.below (hb1.mono hB))).mono ?_
      rintro e w2 ⟨rfl, hb2⟩
      rw [H2.out]
      go_wp2
      go_ret
      exact ⟨by rw [E.out, H1.out, H2.out] <;> rfl, bel_trans hb1 hb2⟩
    · have H2 := Lib.hid h2
      clear h2
      go_enter Try.func32, Try.ntmps32
      go_wp2_with fail
      refine (callWindowsValid A c xs _ B hB hm hr).mono ?_
      rintro e w1 ⟨rfl, hb1⟩
      rw [H1.out]
      go_wp2_with fail
      refine (callWindowsValid A' c' ys _ B (Nat.le_trans hB hb1.size) hm' (hr'.below (hb1.mono hB))).mono ?_
      rintro e w2 ⟨rfl, hb2⟩
      rw [H2.out]
      have hb := bel_trans hb1 hb2
      clear hb1 hb2
      go_wp2_with fail
      refine (callClash A A' c c' xs ys _ B (Nat.le_trans hB hb.size) hm hm' (fun x hx => winsOk_mem H1.out hx) (fun x hx => winsOk_mem H2.out hx) (hr.below (hb.mono hB)) (hr'.below (hb.mono hB))).mono ?_
      rintro e w3 ⟨rfl, hb3⟩
      go_wp2
      go_ret
      exact ⟨by rw [E.out, H1.out, H2.out] <;> rfl, bel_trans hb hb3⟩

set_option maxRecDepth 100000 in
set_option maxHeartbeats 3200000 in
theorem callApart (A : Option Addr) (c : Nat) (ps : List Prt) (w : World) (B : Nat) (hB : B ≤ w.heap.size) (hm : ps.length ≤ 1048576) (hc : ps.length ≤ c) (hok : ∀ p ∈ ps, winsOk p.wins = true) (hr : RdP w B A ps) :
    Calls Try.prog 62 #[.slice A ps.length c] w fun e w' => e = .returned (.bool (apartL ps)) ∧ Below w.heap.size w w' := by
  have HR := Lib.hid hr
  have HOK := Lib.hid hok
  have EY := Lib.hid (@apartL_yes ps)
  have EN := Lib.hid (@apartL_no ps)
  clear hr hok
  go_enter Try.func62, Try.ntmps62
  go_wp2
  go_loopw [9] (fun i wr => ∃ k : Nat, k ≤ ps.length ∧ i = .int .i64 k ∧ Below w.heap.size w wr ∧ Hid (∀ j (hj : j < ps.length) (i : Nat) (hi : i < j), j < k → clash ps[j].wins ps[i].wins = false)) (fun i _ => ps.length - (intOf i).toNat)
  case atStart => exact ⟨0, by omega, rfl, Below.refl _ _, fun _ _ _ _ hi => by omega⟩
  case round =>
    obtain ⟨k, hk, rfl, hbl, hno⟩ := hrel
    rename World => wo
    have HB := Lib.hid hbl
    clear hbl
    by_cases hlt : k < ps.length
    · have hd : decide ((k : Int) < ps.length) = true := decide_eq_true (by omega)
      obtain ⟨b, off, rfl, hbB, h1, h2⟩ := (HR.out.1.below (HB.out.mono hB)).at2 rfl hlt rfl
      have HBX : Hid ((wo.alloc (.cells #[.slice ps[k].A ps[k].wins.length ps[k].c, .int .i64 ps[k].cells] 37)).heap[wo.heap.size]? = some (.cells #[.slice ps[k].A ps[k].wins.length ps[k].c, .int .i64 ps[k].cells] 37 (0, 0))) := heap_alloc_new wo _
      have HB2 := Lib.hid (bel_trans HB.out (below1 wo (.cells #[.slice ps[k].A ps[k].wins.length ps[k].c, .int .i64 ps[k].cells] 37)))
      go_wp2
      clear h1 h2
      go_loopw [18] (fun i w2 => ∃ j : Nat, j ≤ k ∧ i = .int .i64 j ∧ Below w.heap.size w w2 ∧ Hid (w2.heap[wo.heap.size]? = some (.cells #[.slice ps[k].A ps[k].wins.length ps[k].c, .int .i64 ps[k].cells] 37 (0, 0))) ∧ Hid (∀ i (hi : i < k), i < j → clash ps[k].wins ps[i].wins = false)) (fun i _ => k - (intOf i).toNat)
      case atStart => exact ⟨0, by omega, rfl, HB2.out, HBX, fun i _ hi => by omega⟩
      case round =>
        obtain ⟨j, hj, rfl, hbl2, HX2, hnj⟩ := hrel
        rename World => w2
        have HB3 := Lib.hid hbl2
        clear hbl2 HB2 HBX
        by_cases hlt2 : j < k
        · have hd2 : decide ((j : Int) < k) = true := decide_eq_true (by omega)
          have hltj : j < ps.length := by omega
          obtain ⟨b', off', hA, hbB', h1, h2⟩ := (HR.out.1.below (HB3.out.mono hB)).at2 rfl hltj rfl
          simp only [Option.some.injEq, Addr.mk.injEq, and_true] at hA
          obtain ⟨rfl, rfl⟩ := hA
          obtain ⟨a0, a1⟩ := box2 HX2.out
          have hbw : wo.heap.size < w2.heap.size := (Array.getElem?_eq_some_iff.1 HX2.out).1
          have HX3 : Hid ((w2.alloc (.cells #[.slice ps[j].A ps[j].wins.length ps[j].c, .int .i64 ps[j].cells] 37)).heap[wo.heap.size]? = some (.cells #[.slice ps[k].A ps[k].wins.length ps[k].c, .int .i64 ps[k].cells] 37 (0, 0))) := blk_nx HX2.out (below1 _ _)
          have HB4 := Lib.hid (bel_trans HB3.out (below1 w2 (.cells #[.slice ps[j].A ps[j].wins.length ps[j].c, .int .i64 ps[j].cells] 37)))
          have HWK := Lib.hid (HR.out.wins hlt)
          have HWJ := Lib.hid (HR.out.wins hltj)
          go_wp2_with fail
          clear h1 h2 a0 a1
          refine (callClash ps[k].A ps[j].A ps[k].c ps[j].c ps[k].wins ps[j].wins _ B (Nat.le_trans hB HB4.out.size) HWK.out.2 HWJ.out.2 (fun x hx => winsOk_mem (HOK.out _ (List.getElem_mem hlt)) hx) (fun x hx => winsOk_mem (HOK.out _ (List.getElem_mem hltj)) hx) (HWK.out.1.below (HB4.out.mono hB)) (HWJ.out.1.below (HB4.out.mono hB))).mono ?_
          rintro e w3 ⟨rfl, hb3⟩
          have HX4 := Lib.hid (blk_nx HX3.out hb3)
          have HB5 := Lib.hid (bel_trans HB4.out hb3)
          clear hb3 HX3 HB4 HB3 HX2
          cases hq : clash ps[k].wins ps[j].wins
          · have HQ := Lib.hid hq
            clear hq
            have hne2 : Hid (∀ i (h : i < k), i < j + 1 → clash ps[k].wins ps[i].wins = false) := fun i hi hij => by
              rcases Nat.lt_or_ge i j with h' | h'
              · exact hnj.out i hi h'
              · have : i = j := by omega
                subst this; exact HQ.out
            go_wp2
            go_roundw
            case rel => exact ⟨j + 1, by omega, by go_num, HB5.out, HX4.out, hne2⟩
            case measure => simp [intOf]; omega
          · have HQ : Hid (apartL ps = false) := EN.out fun h => by have := h k hlt j hlt2; rw [hq] at this; cases this
            clear hq
            go_wp2
            go_ret
            exact ⟨by rw [HQ.out] <;> rfl, HB5.out⟩
        · have hje : j = k := by omega
          subst hje
          have hd2 : decide ((j : Int) < j) = false := by simp
          have hne : Hid (∀ l (hl : l < ps.length) (i : Nat) (hi : i < l), l < j + 1 → clash ps[l].wins ps[i].wins = false) := fun l hl i hi hlk => by
            rcases Nat.lt_or_ge l j with h' | h'
            · exact hno.out l hl i hi h'
            · have : l = j := by omega
              subst this
              exact hnj.out i hi hi
          go_wp2
          go_roundw
          case rel => exact ⟨j + 1, by omega, by go_num, HB3.out, hne⟩
          case measure => simp [intOf]; omega
    · have hke : k = ps.length := by omega
      subst hke
      have hd : decide ((ps.length : Int) < ps.length) = false := by simp
      go_wp2
      go_ret
      exact ⟨by rw [EY.out (fun j hj i hi => hno.out j hj i hi hj)] <;> rfl, HB.out⟩

theorem callPartsApart (A : Option Addr) (c : Nat) (ps : List Prt) (w : World) (B : Nat) (hB : B ≤ w.heap.size) (hm : ps.length ≤ 1048576) (hc : ps.length ≤ c) (hr : RdP w B A ps) :
    Calls Try.prog 30 #[.slice A ps.length c] w fun e w' => e = .returned (.bool (prtsOk ps && apartL ps)) ∧ Below w.heap.size w w' := by
  cases h1 : prtsOk ps
  · have H1 := Lib.hid h1
    clear h1
    go_enter Try.func30, Try.ntmps30
    go_wp2_with fail
    refine (callPartsValid A c ps _ B hB (by omega) hr).mono ?_
    rintro e w1 ⟨rfl, hb1⟩
    rw [H1.out]
    go_wp2
    go_ret
    exact ⟨rfl, hb1⟩
  · have H1 := Lib.hid h1
    clear h1
    go_enter Try.func30, Try.ntmps30
    go_wp2_with fail
    refine (callPartsValid A c ps _ B hB (by omega) hr).mono ?_
    rintro e w1 ⟨rfl, hb1⟩
    rw [H1.out]
    go_wp2_with fail
    refine (callApart A c ps _ B (Nat.le_trans hB hb1.size) hm hc (fun p hp => prtOk_wins (prtsOk_mem H1.out hp)) (hr.below (hb1.mono hB))).mono ?_
    rintro e w2 ⟨rfl, hb2⟩
    go_wp2
    go_ret
    exact ⟨by rw [Bool.true_and] <;> rfl, bel_trans hb1 hb2⟩
end Go.Proofs.Ytaeimnfdedcgkaa
