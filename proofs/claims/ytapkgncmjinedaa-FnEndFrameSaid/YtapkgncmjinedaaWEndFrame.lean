/- The walk of the law FnEndFrame: true for every input, and nothing that was there is written. -/
import Derived.Test.YtapkgncmjinedaaMdx
import Derived.Test.YtapkgncmjinedaaMpl
import Derived.Test.YtapkgncmjinedaaMdm
import Derived.Test.YtapkgncmjinedaaSam
import Derived.BigQuiet
namespace Go.Proofs.Ytapkgncmjinedaa
open Go.RowKit Go.Sort

theorem RdT.alloc {w : World} {A : Option Addr} {ts : List Tab} (h : RdT w w.heap.size A ts) (o : Obj) : RdT (w.alloc o) (w.alloc o).heap.size A ts := h.next (below1 w o)

set_option maxRecDepth 100000 in
set_option maxHeartbeats 3200000 in
theorem walkFnEndFrame (A : Option Addr) (c : Nat) (bs : List Int) (w : World) (hc : bs.length ≤ c) (hr : Rd eU8 w w.heap.size A bs) (hby : ∀ x ∈ bs, 0 ≤ x ∧ x ≤ 255) :
    Calls Try.prog 6 #[.slice A bs.length c] w fun e w' => e = .returned (.bool true) ∧ Below w.heap.size w w' := by
  by_cases hl : bs.length ≤ 1048576
  · have HC := Lib.hid (callDrawEndFrame A c bs w hc hl hr hby)
    clear hr hby
    go_enter Try.func6, Try.ntmps6
    go_wp2_with fail
    refine HC.out.mono ?_
    rintro e w1 ⟨At, ct, ts, now, next, p, rfl, hrd, hcap, hct, hl4, hp1, hp2, _, _, _, _, hb1⟩
    have HB1 := Lib.hid (bel_trans hb1 (below1 w1 (.cells #[.slice At ts.length ct, .int .i64 now, .int .i64 next] 25)))
    have K0 := Lib.hid (heap_alloc_new w1 (.cells #[.slice At ts.length ct, .int .i64 now, .int .i64 next] 25))
    have HR := Lib.hid (hrd.alloc (.cells #[.slice At ts.length ct, .int .i64 now, .int .i64 next] 25))
    have HCAP := Lib.hid hcap
    clear hrd hb1 HC hcap
    go_upto_region 4 with (fail)
    obtain ⟨u, hu⟩ : ∃ u, u = w1.alloc (.cells #[.slice At ts.length ct, .int .i64 now, .int .i64 next] 25) := ⟨_, rfl⟩
    obtain ⟨X, hX⟩ : ∃ X, X = w1.heap.size := ⟨_, rfl⟩
    rw [← hu] at HB1 K0 HR ⊢
    rw [← hX] at K0 ⊢
    clear hu hX
    have CS : Hid (∀ (W : World), Below u.heap.size u W → Calls Try.prog 33 #[.agg #[.slice At ts.length ct, .int .i64 now, .int .i64 next], .int .i64 p] W (EndRes W (endFrame ts now next p))) :=
      fun W hW => callSEndFrame At ct ts now next p W u.heap.size hW.size (by omega) (by omega) (by omega) HCAP.out (HR.out.below hW)
    obtain ⟨x0, x1, x2, _, _, _, x6⟩ := cell3 K0.out
    go_wp2_with fail
    refine (callEndFrame At ct ts now next p u u.heap.size (Nat.le_refl _) hct (by omega) (by omega) (by omega) HCAP.out HR.out).mono ?_
    rintro e w2 ⟨A2, c2, us, now2, next2, rfl, ho2, hres, hb2⟩
    have HRES := Lib.hid hres
    rw [hres] at CS
    have HB3 := Lib.hid (bel_trans hb2 (below1 w2 (.cells #[.slice A2 us.length c2, .int .i64 now2, .int .i64 next2] 25)))
    have KX := Lib.hid (blkc (blkc K0.out hb2) (below1 w2 (.cells #[.slice A2 us.length c2, .int .i64 now2, .int .i64 next2] 25)))
    have KY := Lib.hid (heap_alloc_new w2 (.cells #[.slice A2 us.length c2, .int .i64 now2, .int .i64 next2] 25))
    have HO := Lib.hid (ho2.alloc (.cells #[.slice A2 us.length c2, .int .i64 now2, .int .i64 next2] 25))
    have hXY : X < w2.heap.size := (cell3 (blkc K0.out hb2)).2.2.2.2.2.2
    clear hres ho2 hb2 x0 x1 x2 x6 K0
    go_upto_region 5 with (fail)
    obtain ⟨w3, hw3⟩ : ∃ w3, w3 = w2.alloc (.cells #[.slice A2 us.length c2, .int .i64 now2, .int .i64 next2] 25) := ⟨_, rfl⟩
    obtain ⟨Y, hY⟩ : ∃ Y, Y = w2.heap.size := ⟨_, rfl⟩
    rw [← hw3] at HB3 KX KY HO ⊢
    rw [← hY] at KY hXY ⊢
    clear hw3 hY
    obtain ⟨x0, x1, x2, _, _, _, x6⟩ := cell3 KX.out
    obtain ⟨y0, y1, y2, _, _, _, y6⟩ := cell3 KY.out
    have HUR := Lib.hid HO.out.rd
    have C1 : Hid (Calls Try.prog 33 #[.agg #[.slice At ts.length ct, .int .i64 now, .int .i64 next], .int .i64 p] w3.drew (fun e w' => ∃ A5 c5 vs, e = .returned (.agg #[.slice A5 (vs : List Tab).length c5, .int .i64 now2, .int .i64 next2]) ∧ RdT w' w'.heap.size A5 vs ∧ vs.map Tab.slots = us.map Tab.slots ∧ Below w3.heap.size w3 w')) := by
      refine (CS.out w3.drew HB3.out.drew).mono ?_
      rintro e w' ⟨A5, c5, vs, n5, m5, rfl, ho5, hr5, hb5⟩
      injection hr5 with e1 e2
      injection e2 with e2 e3
      subst e2; subst e3
      exact ⟨A5, c5, vs, rfl, ho5.rd, e1.symm, bel_trans (below_drew (Below.refl _ _)) hb5⟩
    clear CS
    have hus : us.length ≤ 4 := by
      have h := HRES.out
      cases q : modOk ts now next p
      · rw [endFrame_bad q] at h; injection h with h _
        have := congrArg List.length h; simp at this; omega
      · rw [endFrame_ok q] at h; injection h with h _
        have := map_len h; omega
    go_region_held3 (fun w' => (w'.cell? ⟨X, 0, none⟩ = some (.slice At ts.length ct) ∧ w'.cell? ⟨X, 1, none⟩ = some (.int .i64 now) ∧ w'.cell? ⟨X, 2, none⟩ = some (.int .i64 next)) ∧ (w'.cell? ⟨Y, 0, none⟩ = some (.slice A2 us.length c2) ∧ w'.cell? ⟨Y, 1, none⟩ = some (.int .i64 now2) ∧ w'.cell? ⟨Y, 2, none⟩ = some (.int .i64 next2))) (first | exact ⟨⟨x0, x1, x2⟩, ⟨y0, y1, y2⟩⟩ | (refine ⟨⟨?_, ?_, ?_⟩, ⟨?_, ?_, ?_⟩⟩ <;> assumption) | go_keep)
      (first
        | (go_at_call 33; refine C1.out.mono ?_; rintro e w5 ⟨A5, c5, vs, rfl, hr5, hm5, hb5⟩; have HR5 := Lib.hid hr5; have HM5 := Lib.hid hm5; have HB5 := Lib.hid hb5; clear hr5 hm5 hb5; obtain ⟨n0, n1, n2, _, _, _, _⟩ := cell3 (blkc KX.out HB5.out); obtain ⟨m0, m1, m2, _, _, _, _⟩ := cell3 (blkc KY.out HB5.out))
        | (go_at_call 32; refine (callSameModesT A2 A5 c2 c5 us vs now2 next2 w5 w5.heap.size (Nat.le_refl _) (by omega) HM5.out.symm (HUR.out.next HB5.out) HR5.out).mono ?_; rintro e w6 ⟨rfl, hb6⟩; have HB6 := Lib.hid (bel_trans HB5.out hb6); clear hb6; obtain ⟨o0, o1, o2, _, _, _, _⟩ := cell3 (blkc KX.out HB6.out); obtain ⟨q0, q1, q2, _, _, _, _⟩ := cell3 (blkc KY.out HB6.out)))
    clear C1 HR5 HM5 HB5 x0 x1 x2 x6 y0 y1 y2 y6
    have HKX := Lib.hid (blkc KX.out HB6.out)
    have HKY := Lib.hid (blkc KY.out HB6.out)
    clear o0 o1 o2 q0 q1 q2 n0 n1 n2 m0 m1 m2
    obtain ⟨x0, x1, x2, _, _, _, x6⟩ := cell3 HKX.out
    obtain ⟨y0, y1, y2, _, _, _, y6⟩ := cell3 HKY.out
    have HB36 := Lib.hid (bel_trans HB3.out HB6.out)
    by_cases hz : us.length = 0
    · have hd : ((us.length : Int) == 0) = true := by rw [hz]; rfl
      go_wp2_with fail
      refine (callAlive _).mono ?_
      rintro e w7 ⟨rfl, hb7⟩
      have HB7 := Lib.hid (bel_trans HB1.out (bel_trans HB36.out hb7))
      go_wp2
      go_ret
      exact ⟨rfl, HB7.out⟩
    · have hd : ((us.length : Int) == 0) = false := by rw [beq_eq_false_iff_ne]; omega
      have q : modOk ts now next p = true := by
        cases q : modOk ts now next p
        · have h := HRES.out
          rw [endFrame_bad q] at h; injection h with h _
          have := congrArg List.length h; simp at this; omega
        · rfl
      have hres := HRES.out
      rw [endFrame_ok q] at hres
      injection hres with e1 e2
      injection e2 with e2 e3
      have HW : Hid (now2 = if 0 ≤ next then next else now) := e2.symm
      have EA : Hid (endFrame us now2 next2 p = (us.map Tab.slots, now2, next2)) := by
        show _ = _
        rw [← e2, ← e3]; exact endFrame_again q e1.symm
      have hq : modOk us now2 next2 p = true := by rw [modOk_map e1.symm, ← e2, ← e3]; exact modOk_end q
      have hcapu : CapT us := HO.out.cap
      have hcu : us.length ≤ c2 := HO.out.len
      have CE := callEndFrame A2 c2 us now2 next2 p w6.drew w6.drew.heap.size (Nat.le_refl _) hcu (by omega) (by omega) (by omega) hcapu (HUR.out.next (HB6.out.trans (below_drew (Below.refl _ _))))
      rw [EA.out] at CE
      have HCE := Lib.hid CE
      obtain rfl : next2 = -1 := e3.symm
      have hn2 : (now2 == now2) = true := by simp
      clear CE e1 e2 q hq hcapu hcu EA HRES
      have FIN : Hid (∀ want, want = now2 → want = now2) := fun _ h => h
      have hY6 : Y < w6.heap.size := y6
      have hX6 : X < w6.heap.size := x6
      have LAST : Hid (∀ w8 w9, Below w6.heap.size w6 w8 → Below w8.heap.size w8 w9 → Below w.heap.size w w9) := fun w8 w9 h8 h9 => bel_trans HB1.out (bel_trans HB36.out (bel_trans h8 h9))
      by_cases h : 0 ≤ next
      · have hd2 : decide (next ≥ 0) = true := decide_eq_true h
        have hw := HW.out
        rw [if_pos h] at hw
        subst hw
        go_upto_region 12 with (fail)
        go_region_held3 (fun w' => w'.cell? ⟨Y, 0, none⟩ = some (.slice A2 us.length c2) ∧ w'.cell? ⟨Y, 1, none⟩ = some (.int .i64 now2) ∧ w'.cell? ⟨Y, 2, none⟩ = some (.int .i64 (-1))) (first | exact ⟨y0, y1, y2⟩ | (refine ⟨?_, ?_, ?_⟩ <;> assumption) | go_keep)
          (first
            | (go_at_call 31; refine HCE.out.mono ?_; rintro e w7 ⟨A7, c7, vs, n7, m7, rfl, ho7, hr7, hb7⟩; injection hr7 with e1 e2; injection e2 with e2 e3; subst e2; subst e3; have HM7 := Lib.hid e1; have HR7 := Lib.hid ho7.rd; have HB7 := Lib.hid (bel_trans (below_drew (Below.refl _ w6)) hb7); clear ho7 hb7 e1; obtain ⟨m0, m1, m2, _, _, _, _⟩ := cell3 (blkc HKY.out HB7.out))
            | (go_at_call 32; refine (callSameModesT A7 A2 c7 c2 vs us _ (-1) w7 w7.heap.size (Nat.le_refl _) (by have := map_len HM7.out; omega) HM7.out.symm HR7.out (HUR.out.next (bel_trans HB6.out HB7.out))).mono ?_; rintro e w8 ⟨rfl, hb8⟩; have HB8 := Lib.hid (LAST.out _ _ HB7.out hb8); obtain ⟨q0, q1, q2, _, _, _, _⟩ := cell3 (blkc HKY.out (bel_trans HB7.out hb8)); clear hb8))
        go_wp2_with fail
        go_ret
        exact ⟨rfl, HB8.out⟩
      · have hd2 : decide (next ≥ 0) = false := decide_eq_false h
        have hw := HW.out
        rw [if_neg h] at hw
        subst hw
        go_upto_region 12 with (fail)
        go_region_held3 (fun w' => w'.cell? ⟨Y, 0, none⟩ = some (.slice A2 us.length c2) ∧ w'.cell? ⟨Y, 1, none⟩ = some (.int .i64 now2) ∧ w'.cell? ⟨Y, 2, none⟩ = some (.int .i64 (-1))) (first | exact ⟨y0, y1, y2⟩ | (refine ⟨?_, ?_, ?_⟩ <;> assumption) | go_keep)
          (first
            | (go_at_call 31; refine HCE.out.mono ?_; rintro e w7 ⟨A7, c7, vs, n7, m7, rfl, ho7, hr7, hb7⟩; injection hr7 with e1 e2; injection e2 with e2 e3; subst e2; subst e3; have HM7 := Lib.hid e1; have HR7 := Lib.hid ho7.rd; have HB7 := Lib.hid (bel_trans (below_drew (Below.refl _ w6)) hb7); clear ho7 hb7 e1; obtain ⟨m0, m1, m2, _, _, _, _⟩ := cell3 (blkc HKY.out HB7.out))
            | (go_at_call 32; refine (callSameModesT A7 A2 c7 c2 vs us _ (-1) w7 w7.heap.size (Nat.le_refl _) (by have := map_len HM7.out; omega) HM7.out.symm HR7.out (HUR.out.next (bel_trans HB6.out HB7.out))).mono ?_; rintro e w8 ⟨rfl, hb8⟩; have HB8 := Lib.hid (LAST.out _ _ HB7.out hb8); obtain ⟨q0, q1, q2, _, _, _, _⟩ := cell3 (blkc HKY.out (bel_trans HB7.out hb8)); clear hb8))
        go_wp2_with fail
        go_ret
        exact ⟨rfl, HB8.out⟩
  · have hl' : 1048576 < bs.length := by omega
    clear hr hby hl
    go_enter Try.func6, Try.ntmps6
    go_wp2
    go_ret
    exact ⟨rfl, Below.refl _ _⟩
end Go.Proofs.Ytapkgncmjinedaa
