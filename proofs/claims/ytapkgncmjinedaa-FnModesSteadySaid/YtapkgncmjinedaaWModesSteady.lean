/- The walk of the law FnModesSteady: true for every input, and nothing that was there is written. -/
import Derived.Test.YtapkgncmjinedaaMdx
import Derived.Test.YtapkgncmjinedaaMru
import Derived.Test.YtapkgncmjinedaaSam
import Derived.BigQuiet
namespace Go.Proofs.Ytapkgncmjinedaa
open Go.RowKit Go.Sort

/-- Three frames of one table. -/
theorem run_steady {ts : List Tab} {parts : Int} {n : Nat} {hn : n < ts.length} (q : modOk ts n (-1) parts = true) (hcur : tabAt ts n = ts[n]) :
    runModes ts n (-1) parts [(n : Int), n, n] = fr ts[n].slots ++ (fr ts[n].slots ++ fr ts[n].slots) := by
  have hin : inB (n : Int) 0 ((ts.length : Int) - 1) = true := inB_iff.2 (by omega)
  have hst : stepNow ts.length n (-1) n = n := by
    unfold stepNow askNext; rw [if_pos hin]; unfold endNow; rw [if_pos (by omega)]
  unfold runModes
  rw [q]
  show runFrames ts n (-1) [(n : Int), n, n] = _
  simp only [runFrames, hst, hcur, List.append_nil]
theorem three_mod (f : List Int) {t : Nat} (ht : t < (f ++ (f ++ f)).length) (hm : t % f.length < (f ++ (f ++ f)).length) : (f ++ (f ++ f))[t] = (f ++ (f ++ f))[t % f.length] := by
  have hf : 0 < f.length := by simp only [List.length_append] at ht; omega
  have hlt := Nat.mod_lt t hf
  have e0 : (f ++ (f ++ f))[t % f.length] = f[t % f.length] := List.getElem_append_left hlt
  rw [e0]
  by_cases h1 : t < f.length
  · rw [List.getElem_append_left h1]; congr 1; exact (Nat.mod_eq_of_lt h1).symm
  · rw [List.getElem_append_right (by omega)]
    by_cases h2 : t - f.length < f.length
    · rw [List.getElem_append_left h2]; congr 1
      rw [Nat.mod_eq_sub_mod (by omega), Nat.mod_eq_of_lt h2]
    · rw [List.getElem_append_right (by omega)]
      simp only [List.length_append] at ht
      congr 1
      rw [Nat.mod_eq_sub_mod (by omega), Nat.mod_eq_sub_mod (by omega), Nat.mod_eq_of_lt (by omega)]

set_option maxRecDepth 100000 in
set_option maxHeartbeats 6400000 in
theorem walkFnModesSteady (A : Option Addr) (c : Nat) (bs : List Int) (w : World) (hc : bs.length ≤ c) (hr : Rd eU8 w w.heap.size A bs) (hby : ∀ x ∈ bs, 0 ≤ x ∧ x ≤ 255) :
    Calls Try.prog 10 #[.slice A bs.length c] w fun e w' => e = .returned (.bool true) ∧ Below w.heap.size w w' := by
  by_cases hl : bs.length ≤ 1048576
  · have HC := Lib.hid (callDrawAskMode A c bs w hc hl hr hby)
    clear hr hby
    go_enter Try.func10, Try.ntmps10
    go_wp2_with fail
    refine HC.out.mono ?_
    rintro e w1 ⟨At, ct, ts, now, next, p, n0, rfl, hrd, _, hct, hl4, hp1, hp2, _, _, _, _, _, _, hb1⟩
    have HB1 := Lib.hid (bel_trans hb1 (below1 w1 (.cells #[.slice At ts.length ct, .int .i64 now, .int .i64 next] 25)))
    have K0 := Lib.hid (heap_alloc_new w1 (.cells #[.slice At ts.length ct, .int .i64 now, .int .i64 next] 25))
    have hsw : w.heap.size ≤ w1.heap.size := hb1.size
    have HR : Hid (RdT (w1.alloc (.cells #[.slice At ts.length ct, .int .i64 now, .int .i64 next] 25)) w1.heap.size At ts) := hrd.below (below1 w1 _)
    clear hrd hb1 HC
    go_upto_region 4 with (fail)
    obtain ⟨u, hu⟩ : ∃ u, u = w1.alloc (.cells #[.slice At ts.length ct, .int .i64 now, .int .i64 next] 25) := ⟨_, rfl⟩
    have hXu : w1.heap.size < u.heap.size := by rw [hu]; simp
    obtain ⟨X, hX⟩ : ∃ X, X = w1.heap.size := ⟨_, rfl⟩
    have HwX : Hid (w.heap.size ≤ X) := by rw [hX]; exact hsw
    rw [← hu] at HB1 K0 HR ⊢
    rw [← hX] at K0 HR hXu ⊢
    clear hu hX hsw
    obtain ⟨x0, x1, x2, x3, x4, x5, x6⟩ := cell3 K0.out
    obtain ⟨q0, hq0⟩ : ∃ q0, q0 = modOk ts now next p := ⟨_, rfl⟩
    have C1 : QCall Try.prog 39 #[.agg #[.slice At ts.length ct, .int .i64 now, .int .i64 next], .int .i64 p] u (.bool q0) := QCall.of fun W' hb => by
      rw [hq0]; exact callModesValid At ct ts now next p W' X (by have := hb.size; omega) (by omega) (by omega) (by omega) (HR.out.below (hb.mono (by omega)))
    have C2 : QCall Try.prog 40 #[.agg #[.slice At ts.length ct, .int .i64 now, .int .i64 next], .int .i64 p] u (.bool q0) := QCall.of fun W' hb => by
      rw [hq0]; exact callSModesValid At ct ts now next p W' X (by have := hb.size; omega) (by omega) (by omega) (by omega) (HR.out.below (hb.mono (by omega)))
    have CV : Hid (∀ W', Below u.heap.size u W' → Calls Try.prog 40 #[.agg #[.slice At ts.length ct, .int .i64 now, .int .i64 next], .int .i64 p] W' fun e w' => e = .returned (.bool q0) ∧ Below W'.heap.size W' w') := fun W' hb => by
      rw [hq0]; exact callSModesValid At ct ts now next p W' X (by have := hb.size; omega) (by omega) (by omega) (by omega) (HR.out.below (hb.mono (by omega)))
    have HQ0 := Lib.hid hq0
    have hne : (q0 != q0) = false := by cases q0 <;> rfl
    clear hq0
    unfold QCall at C1 C2
    have k0 := cell_regrown x0
    have k1 := cell_regrown x1
    have k2 := cell_regrown x2
    clear x0 x1 x2 x3 x4 x5 x6
    refine wp_region_quiet_below (by kernel_rfl) (by kernel_rfl) ?_
    repeat (first | go_big_quiet_step (first | (go_at_call 39; with_reducible exact C1 _ _) | (go_at_call 40; with_reducible exact C2 _ _)) | quiet_step (first | (go_at_call 39; with_reducible exact C1 _ _) | (go_at_call 40; with_reducible exact C2 _ _)))
    refine wpQuiet_nil ?_
    intro w2 hw2
    have HB2 := Lib.hid (below_of_regrown hw2)
    clear hw2 k0 k1 k2 C1 C2
    obtain ⟨x0, x1, x2, x3, x4, x5, x6⟩ := cell3 (blkc K0.out HB2.out)
    go_wp2_with fail
    refine (CV.out w2 HB2.out).mono ?_
    rintro e w3 ⟨rfl, hb3⟩
    have HB3 := Lib.hid (bel_trans HB2.out hb3)
    have K3 := Lib.hid (blkc K0.out HB3.out)
    clear hb3 CV hne HB2 x0 x1 x2 x3 x4 x5 x6 K0
    obtain ⟨x0, x1, x2, x3, x4, x5, x6⟩ := cell3 K3.out
    cases q0
    · go_wp2_with fail
      refine (callAlive _).mono ?_
      rintro e w4 ⟨rfl, hb4⟩
      have HB4 := Lib.hid (bel_trans HB1.out (bel_trans HB3.out hb4))
      go_wp2
      go_ret
      exact ⟨rfl, HB4.out⟩
    · have hq := HQ0.out.symm
      have hb := modOk_next hq
      have hq1 : modOk ts now (-1) p = true := modOk_mk hq hb.2.2.1 hb.2.2.2.1 (by omega) (by omega)
      obtain ⟨n, hn, rfl, hcur, hs, _⟩ := mod_cur hq1
      have hfb := fr_bd hs
      have ER := Lib.hid (run_steady (hn := hn) hq1 hcur)
      obtain ⟨f, hf⟩ : ∃ f, f = fr ts[n].slots := ⟨_, rfl⟩
      have HS := Lib.hid hs
      have HF := Lib.hid hf
      rw [← hf] at ER hfb
      clear hf hs hcur hq1 hq hb HQ0
      have K4 := Lib.hid (set3c (u := .int .i64 (-1)) K3.out)
      have HR4 : Hid (RdT (w3.setCell ⟨X, 2, none⟩ (.int .i64 (-1))) X At ts) := (HR.out.below (HB3.out.mono (by omega))).below ((Below.refl _ _).setCell (p := ⟨X, 2, none⟩) (Nat.le_refl X) _)
      have HB4 : Hid (Below w.heap.size w (w3.setCell ⟨X, 2, none⟩ (.int .i64 (-1)))) := (bel_trans HB1.out HB3.out).setCell (p := ⟨X, 2, none⟩) HwX.out _
      have hX4 : X < (w3.setCell ⟨X, 2, none⟩ (.int .i64 (-1))).heap.size := (cell3 K4.out).2.2.2.2.2.2
      go_upto_region 9 with (fail)
      obtain ⟨w4, hw4⟩ : ∃ w4, w4 = w3.setCell ⟨X, 2, none⟩ (.int .i64 (-1)) := ⟨_, rfl⟩
      rw [← hw4] at K4 HR4 HB4 hX4 ⊢
      clear hw4 x0 x1 x2 x3 x4 x5 x6 K3 HB3 HR HB1
      obtain ⟨x0, x1, x2, x3, x4, x5, x6⟩ := cell3 K4.out
      have CR := Lib.hid (callRunModes At ct ts n (-1) p (some ⟨w4.heap.size, 0, none⟩) 3 [(n : Int), n, n] (w4.alloc (.cells #[.int .i64 n, .int .i64 n, .int .i64 n] 3)) (w4.alloc (.cells #[.int .i64 n, .int .i64 n, .int .i64 n] 3)).heap.size (Nat.le_refl _) (by omega) (by simp) (by omega) (by omega)
        (RdT.mono' (HR4.out.below ((below1 w4 _).mono (by omega))) (by simp; omega)) (Rd.new (E := eInt) (xs := [(n : Int), n, n]) _ _ _ rfl))
      rw [ER.out] at CR
      go_wp2_with fail
      refine CR.out.mono ?_
      rintro e w5 ⟨A5, c5, rfl, hlc5, ho5, hb5⟩
      have HB5 := Lib.hid (bel_trans (below1 w4 _) hb5)
      obtain ⟨L, hL⟩ : ∃ L, L = f ++ (f ++ f) := ⟨_, rfl⟩
      have hLL : L.length = 3 * f.length := by rw [hL]; simp; omega
      have HLL := Lib.hid hLL
      have HLE := Lib.hid hL
      rw [← hL] at ho5 hlc5 ⊢
      have HL5 := Lib.hid ho5.rd
      have hl720 : L.length ≤ 720 := by omega
      obtain ⟨bt, ot, rfl, hbT, h1⟩ := (HR4.out.below (HB5.out.mono (by omega))).1.at1 rfl hn rfl
      have hd2 : decide ((n : Int) < (ts.length : Int)) = true := decide_eq_true (by omega)
      have FT := callFrameTicks ts[n].A ts[n].c ts[n].slots p w5 X (by have := HB5.out.size; omega) (HR4.out.slots hn).2 (by omega) (by omega) ((HR4.out.slots hn).1.below (HB5.out.mono (by omega)))
      rw [show frameTicks ts[n].slots p = (f.length : Int) from by unfold frameTicks; rw [HS.out, HF.out]; rfl] at FT
      have HFT := Lib.hid FT
      clear FT hL hLL ho5 hb5 CR x0 x1 x2 x3 x4 x5 x6 ER
      obtain ⟨x0, x1, x2, x3, x4, x5, x6⟩ := cell3 (blkc K4.out HB5.out)
      go_wp2_with fail
      refine HFT.out.mono ?_
      rintro e w6 ⟨rfl, hb6⟩
      have HL6 := Lib.hid (HL5.out.next hb6)
      have HB6 := Lib.hid (bel_trans HB4.out (bel_trans HB5.out hb6))
      clear hb6 HFT HL5 HB5 x0 x1 x2 x3 x4 x5 x6 h1 hbT K4 HR4 HB4
      obtain ⟨T, hT⟩ : ∃ T, T = f.length := ⟨_, rfl⟩
      have HT := Lib.hid hT
      rw [← hT] at hfb ⊢
      clear hT
      go_wp2_with fail
      go_loopw [8] (fun i wr => ∃ t : Nat, i = .int .i64 t ∧ t ≤ L.length ∧ Hid (Below w6.heap.size w6 wr)) (fun i _ => L.length - (intOf i).toNat)
      case atStart => exact ⟨0, rfl, by omega, Below.refl _ _⟩
      case round =>
        obtain ⟨t, rfl, ht, HBr⟩ := hrel
        by_cases hlt : t < L.length
        · have hd : decide ((t : Int) < (L.length : Int)) = true := decide_eq_true (by omega)
          have hmt : t % T < T := Nat.mod_lt t (by omega)
          have hlm : t % T < L.length := by have := HLL.out; have := HT.out; omega
          have HE : Hid (L[t] = L[t % T]) := by
            have e := HLE.out
            have e2 := HT.out
            subst e; subst e2
            exact three_mod f hlt hlm
          obtain ⟨b, off, rfl, hb, h1⟩ := (HL6.out.next HBr.out).at1 rfl hlt rfl
          obtain ⟨b', off', hbb, hb', h2⟩ := (HL6.out.next HBr.out).at1 rfl hlm rfl
          simp only [Option.some.injEq, Addr.mk.injEq, and_true] at hbb
          obtain ⟨rfl, rfl⟩ := hbb
          rw [← HE.out] at h2
          obtain ⟨x, hx⟩ : ∃ x, x = L[t] := ⟨_, rfl⟩
          rw [← hx] at h1 h2
          clear hx HE
          have hxx : (x != x) = false := by simp
          have hT0 : T ≠ 0 := by omega
          have hd3 : decide (((t % T : Nat) : Int) < (L.length : Int)) = true := decide_eq_true (by omega)
          go_upto_region 14 with (fail)
          go_quiet (fail)
          go_wp2
          go_roundw
          case rel => exact ⟨t + 1, by go_num, by omega, below_drewN HBr.out _⟩
          case measure => simp [intOf]; omega
        · have hte : t = L.length := by omega
          have hd : decide ((t : Int) < (L.length : Int)) = false := decide_eq_false (by omega)
          have hfin : (((L.length : Nat) : Int) == 3 * (T : Int)) = true := by rw [HLL.out, ← HT.out]; simp
          clear hte
          go_wp2
          go_ret
          exact ⟨rfl, bel_trans HB6.out HBr.out⟩
  · have hl' : 1048576 < bs.length := by omega
    clear hr hby hl
    go_enter Try.func10, Try.ntmps10
    go_wp2
    go_ret
    exact ⟨rfl, Below.refl _ _⟩
end Go.Proofs.Ytapkgncmjinedaa
