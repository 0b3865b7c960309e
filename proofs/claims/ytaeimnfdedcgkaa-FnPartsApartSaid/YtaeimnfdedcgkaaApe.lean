/- The reference's WindowsClash and PartsApart, for every input. -/
import Derived.Test.YtaeimnfdedcgkaaApd
import Derived.Deep.DeepCutAuto
import Derived.Deep.RegionHeld3
namespace Go.Proofs.Ytaeimnfdedcgkaa
open Go.RowKit Go.Sort

set_option maxRecDepth 100000 in
set_option maxHeartbeats 3200000 in
theorem callSWinClash (A A' : Option Addr) (c c' : Nat) (xs ys : List Win) (w : World) (B : Nat) (hB : B ≤ w.heap.size) (hm : xs.length ≤ 1073741824) (hm' : ys.length ≤ 1073741824) (hr : Rd eWin w B A xs) (hr' : Rd eWin w B A' ys) :
    Calls Try.prog 63 #[.slice A xs.length c, .slice A' ys.length c'] w fun e w' => e = .returned (.bool (wclash xs ys)) ∧ Below w.heap.size w w' := by
  have E : Hid (wclash xs ys = (winsOk xs && winsOk ys && clash xs ys)) := rfl
  have HR := Lib.hid hr
  have HR' := Lib.hid hr'
  clear hr hr'
  cases q1 : winsOk xs
  · have H1 := Lib.hid q1
    clear q1
    go_enter Try.func63, Try.ntmps63
    go_wp2_with fail
    refine (callSWindowsValid A c xs _ B hB hm HR.out).mono ?_
    rintro e w1 ⟨rfl, hb1⟩
    rw [H1.out]
    go_wp2
    go_ret
    exact ⟨by rw [E.out, H1.out] <;> rfl, hb1⟩
  have H1 := Lib.hid q1
  clear q1
  cases q2 : winsOk ys
  · have H2 := Lib.hid q2
    clear q2
    go_enter Try.func63, Try.ntmps63
    go_wp2_with fail
    refine (callSWindowsValid A c xs _ B hB hm HR.out).mono ?_
    rintro e w1 ⟨rfl, hb1⟩
    rw [H1.out]
    go_wp2_with fail
    refine (callSWindowsValid A' c' ys _ B (Nat.le_trans hB hb1.size) hm' (HR'.out.below (hb1.mono hB))).mono ?_
    rintro e w2 ⟨rfl, hb2⟩
    rw [H2.out]
    go_wp2
    go_ret
    exact ⟨by rw [E.out, H1.out, H2.out] <;> rfl, bel_trans hb1 hb2⟩
  have H2 := Lib.hid q2
  clear q2
  have E2 : Hid (wclash xs ys = xs.any fun x => ys.any (clashP x)) := by show _ = _; rw [E.out, H1.out, H2.out]; rfl
  have HX : Hid (∀ x ∈ xs, winOk x = true) := fun x hx => winsOk_mem H1.out hx
  have HY : Hid (∀ x ∈ ys, winOk x = true) := fun x hx => winsOk_mem H2.out hx
  clear E
  go_enter Try.func63, Try.ntmps63
  go_wp2_with fail
  refine (callSWindowsValid A c xs _ B hB hm HR.out).mono ?_
  rintro e w1 ⟨rfl, hb1⟩
  rw [H1.out]
  go_wp2_with fail
  refine (callSWindowsValid A' c' ys _ B (Nat.le_trans hB hb1.size) hm' (HR'.out.below (hb1.mono hB))).mono ?_
  rintro e w2 ⟨rfl, hb2⟩
  rw [H2.out]
  have HB2 := Lib.hid (bel_trans hb1 hb2)
  clear hb1 hb2
  go_wp2
  go_loopw [5] (fun i wr => ∃ k : Nat, k ≤ xs.length ∧ i = .int .i64 k ∧ Below w.heap.size w wr ∧ Hid (∀ i (h : i < xs.length), i < k → ys.any (clashP xs[i]) = false)) (fun i _ => xs.length - (intOf i).toNat)
  case atStart => exact ⟨0, by omega, rfl, HB2.out, fun i _ hi => by omega⟩
  case round =>
    obtain ⟨k, hk, rfl, hbl, hno⟩ := hrel
    rename World => wo
    have HB := Lib.hid hbl
    clear hbl HB2
    by_cases hlt : k < xs.length
    · have hd : decide ((k : Int) < xs.length) = true := decide_eq_true (by omega)
      go_wp2
      go_loopw [6] (fun i w2 => ∃ j : Nat, j ≤ ys.length ∧ i = .int .i64 j ∧ Below w.heap.size w w2 ∧ Hid (∀ i (h : i < ys.length), i < j → clashP xs[k] ys[i] = false)) (fun i _ => ys.length - (intOf i).toNat)
      case atStart => exact ⟨0, by omega, rfl, HB.out, fun i _ hi => by omega⟩
      case round =>
        obtain ⟨j, hj, rfl, hbl2, hnj⟩ := hrel
        rename World => w2
        have HB3 := Lib.hid hbl2
        clear hbl2 HB
        by_cases hlt2 : j < ys.length
        · have hd2 : decide ((j : Int) < ys.length) = true := decide_eq_true (by omega)
          obtain ⟨b, off, rfl, hbB, a1, a2, a3⟩ := (HR.out.below (HB3.out.mono hB)).at3 rfl hlt rfl
          obtain ⟨b', off', rfl, hbB', h1, h2, h3⟩ := (HR'.out.below (HB3.out.mono hB)).at3 rfl hlt2 rfl
          have hs2 := HB3.out.size
          have hbw : b < w2.heap.size := by omega
          have hbw' : b' < w2.heap.size := by omega
          go_upto_region 9 with (fail)
          go_cut [7, 8] from 23 to 55 (fun s7 s8 wx => s8 = .bool (meets xs[k] ys[j]) ∧ Below w.heap.size w wx)
          case first =>
            go_region_with (go_at_call 83; refine (callSMeet xs[k] ys[j] (HX.out _ (List.getElem_mem hlt)) (HY.out _ (List.getElem_mem hlt2)) _).mono ?_; rintro e w3 ⟨z, rfl, hb3⟩; first | (have hm := blk_nx (w := (w2.alloc (.cells #[.int .i64 0, .int .i64 0, .bool false] 39)).drew) (heap_alloc_new w2 _) hb3; obtain ⟨m0, m1, m2, m3, m4, m5⟩ := box3 hm) | skip)
            all_goals
              go_wp2_with fail
              go_meet
              case rel => first
                | exact ⟨rfl, bel_trans (bel_trans HB3.out.drew hb3) (below1 _ _)⟩
                | exact ⟨rfl, (((bel_trans (bel_trans HB3.out (below1 _ _)).drew hb3).setCell (by show w.heap.size ≤ _; simp only; omega) _).setCell (by show w.heap.size ≤ _; simp only; omega) _).setCell (by show w.heap.size ≤ _; simp only; omega) _⟩
          case rest =>
            obtain ⟨rfl, hbc⟩ := hcut
            have HBC := Lib.hid hbc
            clear hbc HB3 h1 h2 h3 a1 a2 a3
            have EP : Hid (clashP xs[k] ys[j] = (meets xs[k] ys[j] && (xs[k].write || ys[j].write))) := rfl
            have hno2 : Hid (clashP xs[k] ys[j] = true → wclash xs ys = true) := fun h => by rw [E2.out]; exact any_of_get hlt (any_of_get hlt2 h)
            have hne2 : Hid (clashP xs[k] ys[j] = false → ∀ i (h : i < ys.length), i < j + 1 → clashP xs[k] ys[i] = false) := fun h i hi hij => by
              rcases Nat.lt_or_ge i j with h' | h'
              · exact hnj.out i hi h'
              · have : i = j := by omega
                subst this; exact h
            obtain ⟨b2, off2, hA, _, a1, a2, a3⟩ := (HR.out.below (HBC.out.mono hB)).at3 rfl hlt rfl
            simp only [Option.some.injEq, Addr.mk.injEq, and_true] at hA
            obtain ⟨rfl, rfl⟩ := hA
            obtain ⟨b3, off3, hA, _, h1, h2, h3⟩ := (HR'.out.below (HBC.out.mono hB)).at3 rfl hlt2 rfl
            simp only [Option.some.injEq, Addr.mk.injEq, and_true] at hA
            obtain ⟨rfl, rfl⟩ := hA
            cases hq1 : meets xs[k] ys[j]
            · rw [hq1] at EP
              clear hq1 hno2
              go_wp2
              clear h1 h2 h3 a1 a2 a3
              go_roundw
              case rel => exact ⟨j + 1, by omega, by go_num, HBC.out, hne2.out EP.out⟩
              case measure => simp [intOf]; omega
            · cases hq2 : xs[k].write
              · cases hq3 : ys[j].write
                · rw [hq1, hq2, hq3] at EP
                  go_wp2
                  clear h1 h2 h3 a1 a2 a3
                  go_roundw
                  case rel => exact ⟨j + 1, by omega, by go_num, HBC.out, hne2.out EP.out⟩
                  case measure => simp [intOf]; omega
                · rw [hq1, hq2, hq3] at EP
                  go_wp2
                  go_ret
                  exact ⟨by rw [hno2.out EP.out] <;> rfl, HBC.out⟩
              · rw [hq1, hq2, Bool.true_or] at EP
                go_wp2
                go_ret
                exact ⟨by rw [hno2.out EP.out] <;> rfl, HBC.out⟩
        · have hje : j = ys.length := by omega
          subst hje
          have hd2 : decide ((ys.length : Int) < ys.length) = false := by simp
          have hne : Hid (∀ i (h : i < xs.length), i < k + 1 → ys.any (clashP xs[i]) = false) := fun i hi hik => by
            rcases Nat.lt_or_ge i k with h' | h'
            · exact hno.out i hi h'
            · have : i = k := by omega
              subst this
              exact any_none (fun i hi => hnj.out i hi hi)
          go_wp2
          go_roundw
          case rel => exact ⟨k + 1, by omega, by go_num, HB3.out, hne⟩
          case measure => simp [intOf]; omega
    · have hke : k = xs.length := by omega
      subst hke
      have hd : decide ((xs.length : Int) < xs.length) = false := by simp
      go_wp2
      go_ret
      exact ⟨by rw [E2.out, any_none (fun i hi => hno.out i hi hi)] <;> rfl, HB.out⟩
end Go.Proofs.Ytaeimnfdedcgkaa
