/- The walk of the law FnAskMode: true for every input, and nothing that was there is written. -/
import Derived.Test.YtapkgncmjinedaaMdx
import Derived.Test.YtapkgncmjinedaaMpl
import Derived.Test.YtapkgncmjinedaaMdm
import Derived.Test.YtapkgncmjinedaaSam
import Derived.BigQuiet
namespace Go.Proofs.Ytapkgncmjinedaa
open Go.RowKit Go.Sort

theorem RdT.alloc1 {w : World} {A : Option Addr} {ts : List Tab} (h : RdT w w.heap.size A ts) (o : Obj) : RdT (w.alloc o) (w.alloc o).heap.size A ts := h.next (below1 w o)
/-- What the law asks of AskMode's result. -/
theorem ask_cases {ts us : List Tab} {now next p n now2 next2 : Int} {ok : Bool} (h : askMode ts now next p n = (us.map Tab.slots, now2, next2, ok)) :
    (us.length ≤ 4) ∧ (ok = false → us.length = 0 ∨ (us.map Tab.slots = ts.map Tab.slots ∧ now2 = now ∧ next2 = next)) ∧
    (ok = true → us.map Tab.slots = ts.map Tab.slots ∧ now2 = now ∧ next2 = n ∧ modOk us now n p = true ∧ modOk ts now next p = true ∧ askMode us now n p 0 = (us.map Tab.slots, now, 0, true)) := by
  cases q : modOk ts now next p
  · rw [askMode_bad q] at h
    injection h with e1 e2; injection e2 with e2 e3; injection e3 with e3 e4
    have hl := congrArg List.length e1
    simp only [List.length_nil, List.length_map] at hl
    refine ⟨by omega, fun _ => .inl hl.symm, fun h => ?_⟩
    rw [← e4] at h; cases h
  · rw [askMode_ok q] at h
    injection h with e1 e2; injection e2 with e2 e3; injection e3 with e3 e4
    have hl := map_len e1
    have hb := modOk_next q
    refine ⟨by omega, fun h => .inr ⟨e1.symm, e2.symm, ?_⟩, fun h => ?_⟩
    · rw [h] at e4
      rw [← e3]; unfold askNext; rw [e4]; rfl
    · rw [h] at e4
      have hin := inB_iff.1 e4
      have h1 : modOk us now n p = true := by rw [modOk_map e1.symm]; exact modOk_mk q hb.2.2.1 hb.2.2.2.1 (by omega) (by omega)
      refine ⟨e1.symm, e2.symm, ?_, h1, rfl, ?_⟩
      · rw [← e3]; unfold askNext; rw [e4]; rfl
      · have h0 : inB 0 0 ((us.length : Int) - 1) = true := inB_iff.2 (by omega)
        rw [askMode_ok h1, h0]
        unfold askNext; rw [h0]; rfl

set_option maxRecDepth 100000 in
set_option maxHeartbeats 6400000 in
theorem walkFnAskMode (A : Option Addr) (c : Nat) (bs : List Int) (w : World) (hc : bs.length ≤ c) (hr : Rd eU8 w w.heap.size A bs) (hby : ∀ x ∈ bs, 0 ≤ x ∧ x ≤ 255) :
    Calls Try.prog 14 #[.slice A bs.length c] w fun e w' => e = .returned (.bool true) ∧ Below w.heap.size w w' := by
  by_cases hl : bs.length ≤ 1048576
  · have HC := Lib.hid (callDrawAskMode A c bs w hc hl hr hby)
    clear hr hby
    go_enter Try.func14, Try.ntmps14
    go_wp2_with fail
    refine HC.out.mono ?_
    rintro e w1 ⟨At, ct, ts, now, next, p, n, rfl, hrd, hcap, hct, hl4, hp1, hp2, _, _, _, _, _, _, hb1⟩
    have HB1 := Lib.hid (bel_trans hb1 (below1 w1 (.cells #[.slice At ts.length ct, .int .i64 now, .int .i64 next] 25)))
    have K0 := Lib.hid (heap_alloc_new w1 (.cells #[.slice At ts.length ct, .int .i64 now, .int .i64 next] 25))
    have HR := Lib.hid (hrd.alloc1 (.cells #[.slice At ts.length ct, .int .i64 now, .int .i64 next] 25))
    have HCAP := Lib.hid hcap
    clear hrd hb1 HC hcap
    go_upto_region 4 with (fail)
    obtain ⟨u, hu⟩ : ∃ u, u = w1.alloc (.cells #[.slice At ts.length ct, .int .i64 now, .int .i64 next] 25) := ⟨_, rfl⟩
    obtain ⟨X, hX⟩ : ∃ X, X = w1.heap.size := ⟨_, rfl⟩
    rw [← hu] at HB1 K0 HR ⊢
    rw [← hX] at K0 ⊢
    clear hu hX
    have CS : Hid (∀ (W : World), Below u.heap.size u W → Calls Try.prog 49 #[.agg #[.slice At ts.length ct, .int .i64 now, .int .i64 next], .int .i64 p, .int .i64 n] W (AskRes W (askMode ts now next p n))) :=
      fun W hW => callSAskMode At ct ts now next p n W u.heap.size hW.size (by omega) (by omega) (by omega) HCAP.out (HR.out.below hW)
    obtain ⟨x0, x1, x2, _, _, _, x6⟩ := cell3 K0.out
    go_wp2_with fail
    refine (callAskMode At ct ts now next p n u u.heap.size (Nat.le_refl _) hct (by omega) (by omega) (by omega) HCAP.out HR.out).mono ?_
    rintro e w2 ⟨A2, c2, us, now2, next2, ok, rfl, ho2, hres, hb2⟩
    have HRES := Lib.hid hres
    rw [hres] at CS
    have HB3 := Lib.hid (bel_trans hb2 (below1 w2 (.cells #[.slice A2 us.length c2, .int .i64 now2, .int .i64 next2] 25)))
    have KX := Lib.hid (blkc (blkc K0.out hb2) (below1 w2 (.cells #[.slice A2 us.length c2, .int .i64 now2, .int .i64 next2] 25)))
    have KY := Lib.hid (heap_alloc_new w2 (.cells #[.slice A2 us.length c2, .int .i64 now2, .int .i64 next2] 25))
    have HO := Lib.hid (ho2.alloc (.cells #[.slice A2 us.length c2, .int .i64 now2, .int .i64 next2] 25))
    have hXY : X < w2.heap.size := (cell3 (blkc K0.out hb2)).2.2.2.2.2.2
    clear hres ho2 hb2 x0 x1 x2 x6 K0
    go_upto_region 5 with (fail)
    obtain ⟨w3, hw3⟩ : ∃ w3, w3 = w2.alloc (.cells #[.slice A2 us.length c2, .int .i64 now2, .int .i64 next2] 25) := ⟨_, rfl⟩
    obtain ⟨Y, hY⟩ : ∃ Y, Y = w2.heap.size := ⟨_, rfl⟩
    rw [← hw3] at HB3 KX KY HO ⊢
    rw [← hY] at KY hXY ⊢
    clear hw3 hY
    obtain ⟨x0, x1, x2, _, _, _, x6⟩ := cell3 KX.out
    have HUR := Lib.hid HO.out.rd
    have AC := Lib.hid (ask_cases HRES.out)
    have hus : us.length ≤ 4 := AC.out.1
    go_wp2_with fail
    refine (CS.out w3 HB3.out).mono ?_
    rintro e w5 ⟨A5, c5, vs, n5, m5, ok5, rfl, ho5, hr5, hb5⟩
    injection hr5 with e1 e2
    injection e2 with e2 e3
    injection e3 with e3 e4
    subst e2; subst e3; subst e4
    have HM5 := Lib.hid e1
    have hvs : vs.length ≤ 4 := by have := map_len e1; omega
    have HB6 := Lib.hid (bel_trans hb5 (below1 w5 (.cells #[.slice A5 vs.length c5, .int .i64 now2, .int .i64 next2] 25)))
    have KX6 := Lib.hid (blkc KX.out HB6.out)
    have KY6 := Lib.hid (blkc KY.out HB6.out)
    have KZ6 := Lib.hid (heap_alloc_new w5 (.cells #[.slice A5 vs.length c5, .int .i64 now2, .int .i64 next2] 25))
    have HV6 := Lib.hid (ho5.rd.alloc1 (.cells #[.slice A5 vs.length c5, .int .i64 now2, .int .i64 next2] 25))
    have hYZ : Y < w5.heap.size := (cell3 (blkc KY.out hb5)).2.2.2.2.2.2
    clear e1 ho5 hb5 x0 x1 x2 x6 KX KY CS HRES
    go_upto_region 6 with (fail)
    obtain ⟨w6, hw6⟩ : ∃ w6, w6 = w5.alloc (.cells #[.slice A5 vs.length c5, .int .i64 now2, .int .i64 next2] 25) := ⟨_, rfl⟩
    obtain ⟨Z, hZ⟩ : ∃ Z, Z = w5.heap.size := ⟨_, rfl⟩
    rw [← hw6] at HB6 KX6 KY6 KZ6 HV6 ⊢
    rw [← hZ] at KZ6 hYZ ⊢
    clear hw6 hZ
    have HB36 := Lib.hid (bel_trans HB3.out HB6.out)
    have HU6 := Lib.hid (HUR.out.next HB6.out)
    obtain ⟨y0, y1, y2, _, _, _, y6⟩ := cell3 KY6.out
    obtain ⟨z0, z1, z2, _, _, _, z6⟩ := cell3 KZ6.out
    have hokk : (ok != ok) = false := by cases ok <;> rfl
    go_wp2_with fail
    refine (callSameModesT A2 A5 c2 c5 us vs now2 next2 w6 w6.heap.size (Nat.le_refl _) (by omega) HM5.out HU6.out HV6.out).mono ?_
    rintro e w7 ⟨rfl, hb7⟩
    have HB7 := Lib.hid (bel_trans HB36.out hb7)
    have KX7 := Lib.hid (blkc KX6.out hb7)
    have KY7 := Lib.hid (blkc KY6.out hb7)
    have HU7 := Lib.hid (HU6.out.next hb7)
    clear hb7 y0 y1 y2 y6 z0 z1 z2 z6 KX6 KY6 KZ6 HV6 HU6 HB36 HM5 hYZ
    obtain ⟨y0, y1, y2, _, _, _, y6⟩ := cell3 KY7.out
    obtain ⟨x0, x1, x2, _, _, _, x6⟩ := cell3 KX7.out
    cases ok
    · have HF := Lib.hid (AC.out.2.1 rfl)
      clear AC
      by_cases hz : us.length = 0
      · have hd : ((us.length : Int) == 0) = true := by rw [hz]; rfl
        go_wp2_with fail
        refine (callAlive _).mono ?_
        rintro e w8 ⟨rfl, hb8⟩
        have HB8 := Lib.hid (bel_trans HB1.out (bel_trans HB7.out hb8))
        go_wp2
        go_ret
        exact ⟨rfl, HB8.out⟩
      · have hd : ((us.length : Int) == 0) = false := by rw [beq_eq_false_iff_ne]; omega
        obtain ⟨hm, rfl, rfl⟩ := HF.out.resolve_left hz
        have HM := Lib.hid hm
        clear hm HF
        go_wp2_with fail
        refine (callSameModesT A2 At c2 ct us ts now2 next2 w7 w7.heap.size (Nat.le_refl _) (by omega) HM.out HU7.out (HR.out.next HB7.out)).mono ?_
        rintro e w8 ⟨rfl, hb8⟩
        have HB8 := Lib.hid (bel_trans HB7.out hb8)
        clear hb8
        go_wp2_with fail
        refine (callAlive _).mono ?_
        rintro e w9 ⟨rfl, hb9⟩
        have HB9 := Lib.hid (bel_trans HB1.out (bel_trans HB8.out hb9))
        go_wp2
        go_ret
        exact ⟨rfl, HB9.out⟩
    · obtain ⟨hm, rfl, rfl, hq1, hq, hag⟩ := AC.out.2.2 rfl
      have HM := Lib.hid hm
      have HQ1 := Lib.hid hq1
      have HTK : Hid (∀ t, modeTick us now2 next2 p t = modeTick ts now2 next p t) := fun t => modeTick_map hm (hq1.trans hq.symm)
      have CA := callAskMode A2 c2 us now2 next2 p 0 w7 w7.heap.size (Nat.le_refl _) HO.out.len (by omega) (by omega) (by omega) HO.out.cap HU7.out
      rw [hag] at CA
      have HCA := Lib.hid CA
      clear CA hm hq1 hq hag AC hokk
      go_wp2_with fail
      refine HCA.out.mono ?_
      rintro e w8 ⟨A8, c8, vs8, n8, m8, ok8, rfl, ho8, hr8, hb8⟩
      injection hr8 with e1 e2
      injection e2 with e2 e3
      injection e3 with e3 e4
      subst e2; subst e3; subst e4
      have HB9 := Lib.hid (bel_trans HB7.out (bel_trans hb8 (below1 w8 (.cells #[.slice A8 vs8.length c8, .int .i64 now2, .int .i64 0] 25))))
      have H79 := Lib.hid (bel_trans hb8 (below1 w8 (.cells #[.slice A8 vs8.length c8, .int .i64 now2, .int .i64 0] 25)))
      have KX9 := Lib.hid (blkc KX7.out H79.out)
      have KY9 := Lib.hid (blkc KY7.out H79.out)
      have KV9 := Lib.hid (heap_alloc_new w8 (.cells #[.slice A8 vs8.length c8, .int .i64 now2, .int .i64 0] 25))
      have HU9 := Lib.hid (HU7.out.next H79.out)
      have HT9 := Lib.hid (HR.out.next HB9.out)
      clear ho8 hb8 HCA e1 H79 KX7 KY7 HU7 HB7 HR x0 x1 x2 x6 y0 y1 y2 y6
      go_upto_region 11 with (fail)
      obtain ⟨w9, hw9⟩ : ∃ w9, w9 = w8.alloc (.cells #[.slice A8 vs8.length c8, .int .i64 now2, .int .i64 0] 25) := ⟨_, rfl⟩
      obtain ⟨V, hV⟩ : ∃ V, V = w8.heap.size := ⟨_, rfl⟩
      rw [← hw9] at HB9 KX9 KY9 KV9 HU9 HT9 ⊢
      rw [← hV] at KV9 ⊢
      clear hw9 hV
      go_wp2_with fail
      go_loopw [12] (fun i wr => ∃ k : Nat, i = .int .i64 k ∧ k ≤ 30 ∧ Hid (Below w9.heap.size w9 wr)) (fun i _ => 30 - (intOf i).toNat)
      case atStart => exact ⟨0, rfl, by omega, Below.refl _ _⟩
      case round =>
        obtain ⟨k, rfl, hk, HBr⟩ := hrel
        have KXr := Lib.hid (blkc KX9.out HBr.out)
        have KYr := Lib.hid (blkc KY9.out HBr.out)
        obtain ⟨x0, x1, x2, _, _, _, x6⟩ := cell3 KXr.out
        obtain ⟨y0, y1, y2, _, _, _, y6⟩ := cell3 KYr.out
        by_cases hlt : k < 30
        · have hd : decide ((k : Int) < 30) = true := decide_eq_true (by omega)
          obtain ⟨T, hT⟩ : ∃ T, T = modeTick ts now2 next p k := ⟨_, rfl⟩
          have C1 : QCall Try.prog 21 #[.agg #[.slice A2 us.length c2, .int .i64 now2, .int .i64 next2], .int .i64 p, .int .i64 k] wr (.int .i64 T) := QCall.of fun W' hb => by
            have h := callModeTick A2 c2 us now2 next2 p k W' w9.heap.size (HBr.out.trans (hb.mono HBr.out.size)).size (by omega) (by omega) (by omega) (HU9.out.below (HBr.out.trans (hb.mono HBr.out.size)))
            rw [HTK.out, ← hT] at h
            exact h
          have C2 : QCall Try.prog 21 #[.agg #[.slice At ts.length ct, .int .i64 now2, .int .i64 next], .int .i64 p, .int .i64 k] wr (.int .i64 T) := QCall.of fun W' hb => by
            have h := callModeTick At ct ts now2 next p k W' w9.heap.size (HBr.out.trans (hb.mono HBr.out.size)).size (by omega) (by omega) (by omega) (HT9.out.below (HBr.out.trans (hb.mono HBr.out.size)))
            rw [← hT] at h
            exact h
          unfold QCall at C1 C2
          have k0 := cell_regrown x0
          have k1 := cell_regrown x1
          have k2 := cell_regrown x2
          have k3 := cell_regrown y0
          have k4 := cell_regrown y1
          have k5 := cell_regrown y2
          have hTT : (T != T) = false := by simp
          clear hT
          go_upto_region 14 with (fail)
          clear x0 x1 x2 y0 y1 y2
          refine wp_region_quiet_below (by kernel_rfl) (by kernel_rfl) ?_
          repeat (first | go_big_quiet_step (first | (go_at_call 21; first | with_reducible exact C1 _ _ | with_reducible exact C2 _ _)) | quiet_step (first | (go_at_call 21; first | with_reducible exact C1 _ _ | with_reducible exact C2 _ _)))
          refine wpQuiet_nil ?_
          intro w10 hw10
          have HB10 := Lib.hid (below_of_regrown hw10)
          clear hw10 k0 k1 k2 k3 k4 k5 C1 C2
          go_wp2
          go_roundw
          case rel => exact ⟨k + 1, by go_num, by omega, HBr.out.trans (HB10.out.mono HBr.out.size)⟩
          case measure => simp [intOf]; omega
        · have hke : k = 30 := by omega
          subst hke
          have hd : decide (((30 : Nat) : Int) < 30) = false := rfl
          have e1 : (now2 == now2) = true := by simp
          have e2 : (next2 == next2) = true := by simp
          have e3 : ((0 : Int) == 0) = true := rfl
          obtain ⟨v0, v1, v2, _, _, _, v6⟩ := cell3 (blkc KV9.out HBr.out)
          have CV := callModesValid A2 c2 us now2 next2 p wr w9.heap.size HBr.out.size (by omega) (by omega) (by omega) (HU9.out.below HBr.out)
          rw [HQ1.out] at CV
          have HCV := Lib.hid CV
          clear CV
          go_wp2_with fail
          refine HCV.out.mono ?_
          rintro e w10 ⟨rfl, hb10⟩
          have HB10 := Lib.hid (bel_trans HB1.out (bel_trans (bel_trans HB9.out HBr.out) hb10))
          clear hb10
          go_wp2
          go_ret
          exact ⟨rfl, HB10.out⟩
  · have hl' : 1048576 < bs.length := by omega
    clear hr hby hl
    go_enter Try.func14, Try.ntmps14
    go_wp2
    go_ret
    exact ⟨rfl, Below.refl _ _⟩
end Go.Proofs.Ytapkgncmjinedaa
