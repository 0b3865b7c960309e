/- Beginnings of logs, for every input. -/
import Derived.Test.YtapkgncmjinedaaAux
import Derived.BigQuiet
namespace Go.Proofs.Ytapkgncmjinedaa
open Go.RowKit Go.Sort

theorem begins_split (k : Int) (es : List Int) (s k' : Int) (es' : List Int) (s' : Int) : auditBegins k es s k' es' s' = ((((auditOk k es s && auditOk k' es' s') && (k == k')) && decide (es'.length ≤ es.length)) && decide (es.take es'.length = es')) := rfl
set_option maxRecDepth 100000 in
set_option maxHeartbeats 1600000 in
theorem callEqualInt (A A' : Option Addr) (c c' : Nat) (xs ys : List Int) (w : World) (B : Nat) (hB : B ≤ w.heap.size) (hm' : ys.length ≤ 1073741824) (hr : Rd eInt w B A xs) (hr' : Rd eInt w B A' ys) :
    Calls Try.prog 75 #[.slice A xs.length c, .slice A' ys.length c'] w fun e w' => e = .returned (.bool (decide (xs = ys))) ∧ Below w.heap.size w w' := by
  have HR := Lib.hid hr
  have HR' := Lib.hid hr'
  clear hr hr'
  by_cases hl : xs.length = ys.length
  · have hd0 : ((xs.length : Int) != (ys.length : Int)) = false := by rw [hl]; simp
    go_enter Try.func75, Try.ntmps75
    go_wp2
    go_loopw [5, 13] (fun n i wr => ∃ k : Nat, k ≤ xs.length ∧ i = .int .i64 k ∧ Below w.heap.size w wr ∧ Hid (∀ i (h : i < xs.length) (h' : i < ys.length), i < k → xs[i] = ys[i])) (fun _ i _ => xs.length - (intOf i).toNat)
    case atStart => exact ⟨0, by omega, rfl, Below.refl _ _, fun i _ _ hi => by omega⟩
    case round =>
      obtain ⟨k, hk, rfl, hbl, hno⟩ := hrel
      have HB := Lib.hid hbl
      clear hbl
      by_cases hlt : k < xs.length
      · have hlt' : k < ys.length := by omega
        have hd : decide ((k : Int) < xs.length) = true := decide_eq_true (by omega)
        have hdn : decide (k < xs.length) = true := decide_eq_true hlt
        obtain ⟨b, off, rfl, hbB, h1⟩ := (HR.out.below (HB.out.mono hB)).at1 rfl hlt rfl
        obtain ⟨b', off', rfl, hbB', h2⟩ := (HR'.out.below (HB.out.mono hB)).at1 rfl hlt' rfl
        have k1 := cell_regrown h1
        have k2 := cell_regrown h2
        by_cases hq : xs[k] = ys[k]
        · have HQ := Lib.hid hq
          have hne : (xs[k] != ys[k]) = false := by rw [hq]; simp
          have hst : Hid (∀ i (h : i < xs.length) (h' : i < ys.length), i < k + 1 → xs[i] = ys[i]) := fun i h h' hi => by
            rcases Nat.lt_or_ge i k with h'' | h''
            · exact hno.out i h h' h''
            · have : i = k := by omega
              subst this; exact HQ.out
          clear hq
          go_upto_region 6 with (fail)
          go_quiet (fail)
          clear h1 h2 k1 k2
          go_wp2
          go_roundw
          case rel => exact ⟨k + 1, by omega, by go_num, below_drewN HB.out _, hst⟩
          case measure => simp [intOf]; omega
        · have hne : (xs[k] != ys[k]) = true := by rw [bne_iff_ne]; exact hq
          have HN : Hid (decide (xs = ys) = false) := decide_eq_false fun e => hq (by subst e; rfl)
          clear hq
          go_upto_region 6 with (fail)
          go_quiet (fail)
          clear h1 h2 k1 k2
          go_wp2
          go_ret
          exact ⟨by rw [HN.out] <;> rfl, below_drewN HB.out _⟩
      · have hd : decide ((k : Int) < xs.length) = false := decide_eq_false (by omega)
        have hdn : decide (k < xs.length) = false := decide_eq_false hlt
        have HF : Hid (decide (xs = ys) = true) := decide_eq_true (List.ext_getElem hl (fun i h h' => hno.out i h h' (by omega)))
        go_wp2
        go_ret
        exact ⟨by rw [HF.out] <;> rfl, HB.out⟩
  · have hd0 : ((xs.length : Int) != (ys.length : Int)) = true := by rw [bne_iff_ne]; omega
    have HF : Hid (decide (xs = ys) = false) := decide_eq_false (fun e => hl (by rw [e]))
    go_enter Try.func75, Try.ntmps75
    go_wp2
    go_ret
    exact ⟨by rw [HF.out] <;> rfl, Below.refl _ _⟩
set_option maxRecDepth 100000 in
set_option maxHeartbeats 3200000 in
theorem callAuditBegins (A A' : Option Addr) (c c' : Nat) (key sum key' sum' : Int) (es es' : List Int) (w : World) (B : Nat) (hB : B ≤ w.heap.size) (hc : es.length ≤ c) (hm : es.length ≤ 1048576) (hm' : es'.length ≤ 1048576) (hr : Rd eInt w B A es) (hr' : Rd eInt w B A' es') :
    Calls Try.prog 35 #[.agg #[.int .i64 key, .slice A es.length c, .int .i64 sum], .agg #[.int .i64 key', .slice A' es'.length c', .int .i64 sum']] w fun e w' => e = .returned (.bool (auditBegins key es sum key' es' sum')) ∧ Below w.heap.size w w' := by
  have E := Lib.hid (begins_split key es sum key' es' sum')
  have K0 := Lib.hid (alloc_at0 w (.cells #[.int .i64 key, .slice A es.length c, .int .i64 sum] 37) (.cells #[.int .i64 key', .slice A' es'.length c', .int .i64 sum'] 37))
  have K1 := Lib.hid (alloc_at1 w (.cells #[.int .i64 key, .slice A es.length c, .int .i64 sum] 37) (.cells #[.int .i64 key', .slice A' es'.length c', .int .i64 sum'] 37))
  have HB := Lib.hid (below2 w (.cells #[.int .i64 key, .slice A es.length c, .int .i64 sum] 37) (.cells #[.int .i64 key', .slice A' es'.length c', .int .i64 sum'] 37))
  have C0 : QCall Try.prog 37 #[.agg #[.int .i64 key, .slice A es.length c, .int .i64 sum]] ((w.alloc (.cells #[.int .i64 key, .slice A es.length c, .int .i64 sum] 37)).alloc (.cells #[.int .i64 key', .slice A' es'.length c', .int .i64 sum'] 37)) (.bool (auditOk key es sum)) := QCall.of fun W' hb => callAuditValid A c es key sum W' B (Nat.le_trans hB (Nat.le_trans HB.out.size hb.size)) hm (hr.below ((HB.out.trans (hb.mono HB.out.size)).mono hB))
  have C1 : QCall Try.prog 37 #[.agg #[.int .i64 key', .slice A' es'.length c', .int .i64 sum']] ((w.alloc (.cells #[.int .i64 key, .slice A es.length c, .int .i64 sum] 37)).alloc (.cells #[.int .i64 key', .slice A' es'.length c', .int .i64 sum'] 37)) (.bool (auditOk key' es' sum')) := QCall.of fun W' hb => callAuditValid A' c' es' key' sum' W' B (Nat.le_trans hB (Nat.le_trans HB.out.size hb.size)) hm' (hr'.below ((HB.out.trans (hb.mono HB.out.size)).mono hB))
  have C2 : Hid (es'.length ≤ es.length → QCall Try.prog 75 #[.slice A es'.length c, .slice A' es'.length c'] ((w.alloc (.cells #[.int .i64 key, .slice A es.length c, .int .i64 sum] 37)).alloc (.cells #[.int .i64 key', .slice A' es'.length c', .int .i64 sum'] 37)) (.bool (decide (es.take es'.length = es')))) := fun h => QCall.of fun W' hb => by
    have := callEqualInt A A' c c' (es.take es'.length) es' W' B (Nat.le_trans hB (Nat.le_trans HB.out.size hb.size)) (by omega) ((hr.take _).below ((HB.out.trans (hb.mono HB.out.size)).mono hB)) (hr'.below ((HB.out.trans (hb.mono HB.out.size)).mono hB))
    rw [List.length_take, Nat.min_eq_left h] at this
    exact this
  clear hr hr'
  obtain ⟨x0, x1, x2, _, _, _, x6⟩ := cell3 K0.out
  obtain ⟨y0, y1, y2, _, _, _, y6⟩ := cell3 K1.out
  have k0 := cell_regrown x0
  have k1 := cell_regrown x1
  have k2 := cell_regrown x2
  have k3 := cell_regrown y0
  have k4 := cell_regrown y1
  have k5 := cell_regrown y2
  clear x0 x1 x2 x6 y0 y1 y2 y6 K0 K1
  obtain ⟨q0, hq0⟩ : ∃ q0, q0 = auditOk key es sum := ⟨_, rfl⟩
  obtain ⟨q1, hq1⟩ : ∃ q1, q1 = auditOk key' es' sum' := ⟨_, rfl⟩
  rw [← hq0] at C0 E
  rw [← hq1] at C1 E
  clear hq0 hq1
  unfold QCall at C0 C1
  cases q2 : (key == key')
  · rw [q2] at E
    clear C2
    have C2 := C0
    cases q0 <;> cases q1
    all_goals
      go_enter Try.func35, Try.ntmps35
      go_upto_region 2 with (fail)
      refine wp_region_quiet_below (by kernel_rfl) (by kernel_rfl) ?_
      repeat (first | go_big_quiet_step ((first | (go_at_call 37; with_reducible exact C0 _ _) | (go_at_call 37; with_reducible exact C1 _ _) | (go_at_call 75; with_reducible exact C2 _ _))) | quiet_step ((first | (go_at_call 37; with_reducible exact C0 _ _) | (go_at_call 37; with_reducible exact C1 _ _) | (go_at_call 75; with_reducible exact C2 _ _))))
      refine wpQuiet_nil ?_
      intro w1 hw1
      have HB2 := Lib.hid (below_of_regrown hw1)
      clear hw1
      go_wp2
      go_ret
      exact ⟨by rw [E.out] <;> rfl, HB.out.trans (HB2.out.mono HB.out.size)⟩
  · rw [q2] at E
    by_cases q3 : es'.length ≤ es.length
    · have hd : decide (es'.length ≤ es.length) = true := decide_eq_true q3
      have hdi : decide ((es'.length : Int) ≤ (es.length : Int)) = true := decide_eq_true (by omega)
      rw [hd] at E
      have D2 := C2.out q3
      clear C2
      obtain ⟨b, hb⟩ : ∃ b, b = decide (es.take es'.length = es') := ⟨_, rfl⟩
      rw [← hb] at E D2
      unfold QCall at D2
      have C2 := D2
      have h9 : (0 : Int) ≤ (es'.length : Int) := by omega
      have h8 : (es'.length : Int) ≤ (c : Int) := by omega
      clear hb D2
      cases q0 <;> cases q1
      all_goals
        go_enter Try.func35, Try.ntmps35
        go_upto_region 2 with (fail)
        refine wp_region_quiet_below (by kernel_rfl) (by kernel_rfl) ?_
        repeat (first | go_big_quiet_step ((first | (go_at_call 37; with_reducible exact C0 _ _) | (go_at_call 37; with_reducible exact C1 _ _) | (go_at_call 75; with_reducible exact C2 _ _))) | quiet_step ((first | (go_at_call 37; with_reducible exact C0 _ _) | (go_at_call 37; with_reducible exact C1 _ _) | (go_at_call 75; with_reducible exact C2 _ _))))
        refine wpQuiet_nil ?_
        intro w1 hw1
        have HB2 := Lib.hid (below_of_regrown hw1)
        clear hw1
        go_wp2
        go_ret
        exact ⟨by rw [E.out] <;> rfl, HB.out.trans (HB2.out.mono HB.out.size)⟩
    · have hd : decide (es'.length ≤ es.length) = false := decide_eq_false q3
      have hdi : decide ((es'.length : Int) ≤ (es.length : Int)) = false := decide_eq_false (by omega)
      rw [hd] at E
      clear C2
      have C2 := C0
      cases q0 <;> cases q1
      all_goals
        go_enter Try.func35, Try.ntmps35
        go_upto_region 2 with (fail)
        refine wp_region_quiet_below (by kernel_rfl) (by kernel_rfl) ?_
        repeat (first | go_big_quiet_step ((first | (go_at_call 37; with_reducible exact C0 _ _) | (go_at_call 37; with_reducible exact C1 _ _) | (go_at_call 75; with_reducible exact C2 _ _))) | quiet_step ((first | (go_at_call 37; with_reducible exact C0 _ _) | (go_at_call 37; with_reducible exact C1 _ _) | (go_at_call 75; with_reducible exact C2 _ _))))
        refine wpQuiet_nil ?_
        intro w1 hw1
        have HB2 := Lib.hid (below_of_regrown hw1)
        clear hw1
        go_wp2
        go_ret
        exact ⟨by rw [E.out] <;> rfl, HB.out.trans (HB2.out.mono HB.out.size)⟩
end Go.Proofs.Ytapkgncmjinedaa
