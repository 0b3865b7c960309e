/- Beginnings of logs in the reference, for every input. -/
import Derived.Test.YtapkgncmjinedaaAbg
namespace Go.Proofs.Ytapkgncmjinedaa
open Go.RowKit Go.Sort

theorem take_all {es es' : List Int} (hl : es'.length ≤ es.length) (h : ∀ i (h1 : i < es'.length) (h2 : i < es.length), es'[i] = es[i]) : es.take es'.length = es' :=
  List.ext_getElem (by rw [List.length_take]; omega) (fun i h1 h2 => by rw [List.getElem_take]; exact (h i h2 (by omega)).symm)
theorem take_not {es es' : List Int} {k : Nat} (h1 : k < es'.length) (h2 : k < es.length) (h : es'[k] ≠ es[k]) : decide (es.take es'.length = es') = false := decide_eq_false fun e => by
  have h3 : (es.take es'.length)[k]? = es'[k]? := by rw [e]
  rw [List.getElem?_take_of_lt h1, List.getElem?_eq_getElem h2, List.getElem?_eq_getElem h1] at h3
  exact h (Option.some.inj h3).symm
set_option maxRecDepth 100000 in
set_option maxHeartbeats 3200000 in
theorem callSAuditBegins (A A' : Option Addr) (c c' : Nat) (key sum key' sum' : Int) (es es' : List Int) (w : World) (B : Nat) (hB : B ≤ w.heap.size) (hm : es.length ≤ 1048576) (hm' : es'.length ≤ 1048576) (hr : Rd eInt w B A es) (hr' : Rd eInt w B A' es') :
    Calls Try.prog 36 #[.agg #[.int .i64 key, .slice A es.length c, .int .i64 sum], .agg #[.int .i64 key', .slice A' es'.length c', .int .i64 sum']] w fun e w' => e = .returned (.bool (auditBegins key es sum key' es' sum')) ∧ Below w.heap.size w w' := by
  have E := Lib.hid (begins_split key es sum key' es' sum')
  have K0 := Lib.hid (alloc_at0 w (.cells #[.int .i64 key, .slice A es.length c, .int .i64 sum] 37) (.cells #[.int .i64 key', .slice A' es'.length c', .int .i64 sum'] 37))
  have K1 := Lib.hid (alloc_at1 w (.cells #[.int .i64 key, .slice A es.length c, .int .i64 sum] 37) (.cells #[.int .i64 key', .slice A' es'.length c', .int .i64 sum'] 37))
  have HB := Lib.hid (below2 w (.cells #[.int .i64 key, .slice A es.length c, .int .i64 sum] 37) (.cells #[.int .i64 key', .slice A' es'.length c', .int .i64 sum'] 37))
  have V0 : Hid (∀ W, Below w.heap.size w W → Calls Try.prog 66 #[.agg #[.int .i64 key, .slice A es.length c, .int .i64 sum]] W fun e w' => e = .returned (.bool (auditOk key es sum)) ∧ Below W.heap.size W w') := fun W hW => callSAuditValid A c es key sum W B (Nat.le_trans hB hW.size) hm (hr.below (hW.mono hB))
  have V1 : Hid (∀ W, Below w.heap.size w W → Calls Try.prog 66 #[.agg #[.int .i64 key', .slice A' es'.length c', .int .i64 sum']] W fun e w' => e = .returned (.bool (auditOk key' es' sum')) ∧ Below W.heap.size W w') := fun W hW => callSAuditValid A' c' es' key' sum' W B (Nat.le_trans hB hW.size) hm' (hr'.below (hW.mono hB))
  have HR := Lib.hid hr
  have HR' := Lib.hid hr'
  obtain ⟨r, hrr⟩ : ∃ r, r = auditBegins key es sum key' es' sum' := ⟨_, rfl⟩
  rw [← hrr] at E ⊢
  clear hr hr' hrr
  obtain ⟨x0, x1, x2, _, _, _, x6⟩ := cell3 K0.out
  obtain ⟨y0, y1, y2, _, _, _, y6⟩ := cell3 K1.out
  go_enter Try.func36, Try.ntmps36
  go_wp2_with fail
  refine (V0.out _ HB.out).mono ?_
  rintro e w2 ⟨rfl, hb2⟩
  have HB2 := Lib.hid (bel_trans HB.out hb2)
  have K02 := Lib.hid (blkc K0.out hb2)
  have K12 := Lib.hid (blkc K1.out hb2)
  clear hb2 x0 x1 x2 x6 y0 y1 y2 y6 K0 K1 HB V0
  obtain ⟨y0, y1, y2, _, _, _, y6⟩ := cell3 K12.out
  cases q0 : auditOk key es sum
  · rw [q0] at E
    go_wp2
    go_ret
    exact ⟨by rw [E.out] <;> rfl, HB2.out⟩
  · rw [q0] at E
    clear q0
    go_wp2_with fail
    refine (V1.out _ HB2.out).mono ?_
    rintro e w3 ⟨rfl, hb3⟩
    have HB3 := Lib.hid (bel_trans HB2.out hb3)
    have K03 := Lib.hid (blkc K02.out hb3)
    have K13 := Lib.hid (blkc K12.out hb3)
    clear hb3 y0 y1 y2 y6 K02 K12 HB2 V1
    obtain ⟨x0, x1, x2, _, _, _, x6⟩ := cell3 K03.out
    obtain ⟨y0, y1, y2, _, _, _, y6⟩ := cell3 K13.out
    cases q1 : auditOk key' es' sum'
    · rw [q1] at E
      go_wp2
      go_ret
      exact ⟨by rw [E.out] <;> rfl, HB3.out⟩
    · rw [q1] at E
      clear q1
      cases q2 : (key == key')
      · rw [q2] at E
        have hkn : (key != key') = true := by rw [bne, q2]; rfl
        go_wp2
        go_ret
        exact ⟨by rw [E.out] <;> rfl, HB3.out⟩
      · rw [q2] at E
        have hkn : (key != key') = false := by rw [bne, q2]; rfl
        by_cases q3 : es'.length ≤ es.length
        · have hd : decide (es'.length ≤ es.length) = true := decide_eq_true q3
          have hdg : decide ((es'.length : Int) > (es.length : Int)) = false := decide_eq_false (by omega)
          have hdg2 : decide (es.length < es'.length) = false := decide_eq_false (by omega)
          rw [hd] at E
          have HTA : Hid ((∀ i (h1 : i < es'.length) (h2 : i < es.length), es'[i] = es[i]) → decide (es.take es'.length = es') = true) := fun h => decide_eq_true (take_all q3 h)
          have HTN : Hid (∀ k (h1 : k < es'.length) (h2 : k < es.length), es'[k] ≠ es[k] → decide (es.take es'.length = es') = false) := fun k h1 h2 h => take_not h1 h2 h
          obtain ⟨b, hb⟩ : ∃ b, b = decide (es.take es'.length = es') := ⟨_, rfl⟩
          rw [← hb] at E HTA HTN
          clear hb
          go_wp2
          go_loopw [5] (fun i wr => ∃ k : Nat, i = .int .i64 k ∧ k ≤ es'.length ∧ Hid (∀ i (h1 : i < es'.length) (h2 : i < es.length), i < k → es'[i] = es[i]) ∧ Hid (Below w3.heap.size w3 wr)) (fun i _ => es'.length - (intOf i).toNat)
          case atStart => exact ⟨0, rfl, by omega, fun i _ _ h => by omega, Below.refl _ _⟩
          case round =>
            clear x0 x1 x2 x6 y0 y1 y2 y6
            obtain ⟨k, rfl, hk, hno, HBr⟩ := hrel
            obtain ⟨x0, x1, x2, _, _, _, x6⟩ := cell3 (blkc K03.out HBr.out)
            obtain ⟨y0, y1, y2, _, _, _, y6⟩ := cell3 (blkc K13.out HBr.out)
            by_cases hlt : k < es'.length
            · have hlt2 : k < es.length := by omega
              have hd2 : decide ((k : Int) < (es'.length : Int)) = true := decide_eq_true (by omega)
              have hdn2 : decide (k < es'.length) = true := decide_eq_true hlt
              have HBA := Lib.hid (HB3.out.trans (HBr.out.mono HB3.out.size))
              obtain ⟨b1, off1, rfl, _, h1⟩ := (HR'.out.below (HBA.out.mono hB)).at1 rfl hlt rfl
              obtain ⟨b2, off2, rfl, _, h2⟩ := (HR.out.below (HBA.out.mono hB)).at1 rfl hlt2 rfl
              have k1 := cell_regrown h1
              have k2 := cell_regrown h2
              have k3 := cell_regrown x1
              have k4 := cell_regrown y1
              by_cases hq : es'[k] = es[k]
              · have HQ := Lib.hid hq
                have hne : (es'[k] != es[k]) = false := by rw [hq]; simp
                have hst : Hid (∀ i (h1 : i < es'.length) (h2 : i < es.length), i < k + 1 → es'[i] = es[i]) := fun i h h' hi => by
                  rcases Nat.lt_or_ge i k with h'' | h''
                  · exact hno.out i h h' h''
                  · have : i = k := by omega
                    subst this; exact HQ.out
                clear hq
                go_upto_region 6 with (fail)
                go_quiet (fail)
                clear h1 h2 k1 k2 k3 k4
                go_wp2
                go_roundw
                case rel => exact ⟨k + 1, by go_num, by omega, hst, below_drewN HBr.out _⟩
                case measure => simp [intOf]; omega
              · have hne : (es'[k] != es[k]) = true := by rw [bne_iff_ne]; exact hq
                have HN := Lib.hid (HTN.out k hlt hlt2 hq)
                clear hq
                go_upto_region 6 with (fail)
                go_quiet (fail)
                clear h1 h2 k1 k2 k3 k4
                go_wp2
                go_ret
                exact ⟨by rw [E.out, HN.out] <;> rfl, below_drewN HBA.out _⟩
            · have hd2 : decide ((k : Int) < (es'.length : Int)) = false := decide_eq_false (by omega)
              have hdn2 : decide (k < es'.length) = false := decide_eq_false hlt
              have HY := Lib.hid (HTA.out (fun i h h' => hno.out i h h' (by omega)))
              have HBA := Lib.hid (HB3.out.trans (HBr.out.mono HB3.out.size))
              go_wp2
              go_ret
              exact ⟨by rw [E.out, HY.out] <;> rfl, HBA.out⟩
        · have hd : decide (es'.length ≤ es.length) = false := decide_eq_false q3
          have hdg : decide ((es'.length : Int) > (es.length : Int)) = true := decide_eq_true (by omega)
          have hdg2 : decide (es.length < es'.length) = true := decide_eq_true (by omega)
          rw [hd] at E
          go_wp2
          go_ret
          exact ⟨by rw [E.out] <;> rfl, HB3.out⟩
end Go.Proofs.Ytapkgncmjinedaa
