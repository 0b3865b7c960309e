/- The walk of the law FnRunModes: true for every input, and nothing that was there is written. -/
import Derived.Test.YtapkgncmjinedaaMdz
import Derived.Test.YtapkgncmjinedaaSam
import Derived.BigQuiet
namespace Go.Proofs.Ytapkgncmjinedaa
open Go.RowKit Go.Sort

theorem RdT.alloc2 {w : World} {A : Option Addr} {ts : List Tab} (h : RdT w w.heap.size A ts) (o : Obj) : RdT (w.alloc o) (w.alloc o).heap.size A ts := h.next (below1 w o)
/-- What a run that is not empty tells. -/
theorem run_some {ts : List Tab} {now next p : Int} {asks : List Int} (h : (runModes ts now next p asks).length ≠ 0) :
    modOk ts now next p = true ∧ asks.length ≤ 10 ∧ asks ≠ [] ∧ runModes ts now next p asks = runFrames ts now next asks := by
  unfold runModes at h ⊢
  cases q : modOk ts now next p
  · rw [q] at h; simp at h
  · rw [q] at h
    by_cases h10 : asks.length ≤ 10
    · rw [decide_eq_true h10] at h ⊢
      refine ⟨rfl, h10, ?_, rfl⟩
      intro e
      subst e
      simp [runFrames] at h
    · rw [decide_eq_false h10] at h; simp at h
theorem run_part {ts : List Tab} {now next p : Int} {asks : List Int} (h : (runModes ts now next p asks).length ≠ 0) (m : Nat) :
    ∃ zs, runModes ts now next p asks = runModes ts now next p (asks.take m) ++ zs := by
  obtain ⟨q, h10, _, e⟩ := run_some h
  have e2 : runModes ts now next p (asks.take m) = runFrames ts now next (asks.take m) := by
    unfold runModes
    rw [q, decide_eq_true (by rw [List.length_take]; omega)]; rfl
  rw [e, e2]
  have := runFrames_app (ts := ts) (asks.take m) (asks.drop m) now next
  rw [List.take_append_drop] at this
  exact this
theorem run_first {ts : List Tab} {now next p : Int} {asks : List Int} (h : (runModes ts now next p asks).length ≠ 0) :
    ∃ zs, runModes ts now next p asks = fr (tabAt ts now).slots ++ zs := by
  obtain ⟨q, h10, hne, e⟩ := run_some h
  rw [e]
  rcases asks with _ | ⟨a, l⟩
  · exact absurd rfl hne
  · exact ⟨_, rfl⟩

set_option maxRecDepth 100000 in
set_option maxHeartbeats 6400000 in
theorem walkFnRunModes (A : Option Addr) (c : Nat) (bs : List Int) (w : World) (hc : bs.length ≤ c) (hr : Rd eU8 w w.heap.size A bs) (hby : ∀ x ∈ bs, 0 ≤ x ∧ x ≤ 255) :
    Calls Try.prog 3 #[.slice A bs.length c] w fun e w' => e = .returned (.bool true) ∧ Below w.heap.size w w' := by
  by_cases hl : bs.length ≤ 1048576
  · have HC := Lib.hid (callDrawRunModes A c bs w hc hl hr hby)
    clear hr hby
    go_enter Try.func3, Try.ntmps3
    go_wp2_with fail
    refine HC.out.mono ?_
    rintro e w1 ⟨At, ct, ts, now, next, p, Aa, ca, asks, rfl, hrd, hcap, hct, hl4, hp1, hp2, hra, hca, hla, hb1⟩
    have HB1 := Lib.hid (bel_trans hb1 (below1 w1 (.cells #[.slice At ts.length ct, .int .i64 now, .int .i64 next] 25)))
    have K0 := Lib.hid (heap_alloc_new w1 (.cells #[.slice At ts.length ct, .int .i64 now, .int .i64 next] 25))
    have HR := Lib.hid (hrd.alloc2 (.cells #[.slice At ts.length ct, .int .i64 now, .int .i64 next] 25))
    have HA := Lib.hid (hra.alloc (.cells #[.slice At ts.length ct, .int .i64 now, .int .i64 next] 25))
    have HCAP := Lib.hid hcap
    clear hrd hb1 HC hcap hra
    go_upto_region 4 with (fail)
    obtain ⟨u, hu⟩ : ∃ u, u = w1.alloc (.cells #[.slice At ts.length ct, .int .i64 now, .int .i64 next] 25) := ⟨_, rfl⟩
    obtain ⟨X, hX⟩ : ∃ X, X = w1.heap.size := ⟨_, rfl⟩
    rw [← hu] at HB1 K0 HR HA ⊢
    rw [← hX] at K0 ⊢
    clear hu hX
    obtain ⟨L, hL⟩ : ∃ L, L = runModes ts now next p asks := ⟨_, rfl⟩
    have CI := callRunModes At ct ts now next p Aa ca asks u u.heap.size (Nat.le_refl _) (by omega) (by omega) (by omega) (by omega) HR.out HA.out
    have CS : Hid (∀ W, Below u.heap.size u W → Calls Try.prog 18 #[.agg #[.slice At ts.length ct, .int .i64 now, .int .i64 next], .int .i64 p, .slice Aa asks.length ca] W fun e w' => ∃ Ao co, e = .returned (.slice Ao L.length co) ∧ Own eInt 3 w' W.heap.size (.slice Ao L.length co) L ∧ Below W.heap.size W w') := fun W hW => by
      rw [hL]
      exact callSRunModes At ct ts now next p Aa ca asks W u.heap.size hW.size (by omega) (by omega) (by omega) (by omega) HCAP.out (HR.out.below hW) (HA.out.below hW)
    rw [← hL] at CI
    have HL := Lib.hid hL
    have HCI := Lib.hid CI
    clear hL CI
    obtain ⟨x0, x1, x2, x3, x4, x5, x6⟩ := cell3 K0.out
    go_wp2_with fail
    refine HCI.out.mono ?_
    rintro e w2 ⟨A2, c2, rfl, hlc, ho2, hb2⟩
    have HB2 := Lib.hid hb2
    have HO2 := Lib.hid ho2.rd
    clear ho2 hb2 HCI x0 x1 x2 x3 x4 x5 x6
    obtain ⟨x0, x1, x2, x3, x4, x5, x6⟩ := cell3 (blkc K0.out HB2.out)
    have hL24 : L.length ≤ 2640 := by
      have e := HL.out
      by_cases h0 : L.length = 0
      · omega
      · rw [e] at h0 ⊢
        obtain ⟨q, h10, _, e2⟩ := run_some h0
        rw [e2]
        have := runFrames_len asks q
        omega
    go_wp2_with fail
    refine (CS.out w2 HB2.out).mono ?_
    rintro e w3 ⟨A3, c3, rfl, ho3, hb3⟩
    have HB3 := Lib.hid (bel_trans HB2.out hb3)
    have HO3 := Lib.hid ho3.rd
    have HI3 := Lib.hid (HO2.out.next hb3)
    clear ho3 hb3 HB2 HO2 CS x0 x1 x2 x3 x4 x5 x6
    have SI := callSameInts A2 A3 c2 c3 L L w3 w3.heap.size (Nat.le_refl _) (by omega) (by omega) HI3.out HO3.out
    rw [decide_eq_true (rfl : L = L)] at SI
    have HSI := Lib.hid SI
    clear SI
    go_wp2_with fail
    refine HSI.out.mono ?_
    rintro e w4 ⟨rfl, hb4⟩
    have HB4 := Lib.hid (bel_trans HB3.out hb4)
    have HI4 := Lib.hid (HI3.out.next hb4)
    have K4 := Lib.hid (blkc K0.out HB4.out)
    clear hb4 HB3 HO3 HI3 K0 HSI
    obtain ⟨x0, x1, x2, x3, x4, x5, x6⟩ := cell3 K4.out
    by_cases h0 : L.length = 0
    · have hd : ((L.length : Int) == 0) = true := by rw [h0]; rfl
      go_wp2_with fail
      refine (callAlive _).mono ?_
      rintro e w5 ⟨rfl, hb5⟩
      have HB5 := Lib.hid (bel_trans HB1.out (bel_trans HB4.out hb5))
      go_wp2
      go_ret
      exact ⟨rfl, HB5.out⟩
    · have hd : ((L.length : Int) == 0) = false := by rw [beq_eq_false_iff_ne]; omega
      have hL0 := h0
      rw [HL.out] at hL0
      obtain ⟨q, h10, hne, _⟩ := run_some hL0
      obtain ⟨n, hn, rfl, hcur, hs, _⟩ := mod_cur q
      have hfb := fr_bd hs
      obtain ⟨zs, hzs⟩ := run_first hL0
      rw [hcur, ← HL.out] at hzs
      obtain ⟨f, hf⟩ : ∃ f, f = fr ts[n].slots := ⟨_, rfl⟩
      rw [← hf] at hzs hfb
      have HZS := Lib.hid hzs
      have HTK : Hid (∀ t (ht : t < f.length), modeTick ts n next p t = f[t]) := fun t ht => by subst hf; exact modeTick_fr q hcur ht
      have hR4 := HR.out.below HB4.out
      obtain ⟨bt, ot, rfl, hbT, h1⟩ := hR4.1.at1 rfl hn rfl
      have hd2 : decide ((n : Int) < (ts.length : Int)) = true := decide_eq_true (by omega)
      have FT := callFrameTicks ts[n].A ts[n].c ts[n].slots p w4 u.heap.size HB4.out.size (hR4.slots hn).2 (by omega) (by omega) (hR4.slots hn).1
      rw [show frameTicks ts[n].slots p = (f.length : Int) from by unfold frameTicks; rw [hs, hf]; rfl] at FT
      have HFT := Lib.hid FT
      have HL0 := Lib.hid hL0
      obtain ⟨m, hm⟩ : ∃ m, m = asks.length / 2 := ⟨_, rfl⟩
      have hm1 : m < asks.length := by have : asks.length ≠ 0 := fun e => hne (List.length_eq_zero_iff.1 e); omega
      have hdiv2 : Int.tdiv (asks.length : Int) 2 = (m : Int) := by rw [Int.tdiv_eq_ediv_of_nonneg (by omega)]; omega
      have HDIV := Lib.hid hdiv2
      obtain ⟨ys, hys⟩ := run_part hL0 m
      rw [← HL.out] at hys
      obtain ⟨P, hP⟩ : ∃ P, P = runModes ts n next p (asks.take m) := ⟨_, rfl⟩
      rw [← hP] at hys
      have HYS := Lib.hid hys
      have hPL : P.length ≤ L.length := by rw [hys]; simp
      have hfL : f.length ≤ L.length := by rw [hzs]; simp
      have CP : Hid (∀ W, Below u.heap.size u W → Calls Try.prog 16 #[.agg #[.slice (some ⟨bt, ot, none⟩) ts.length ct, .int .i64 n, .int .i64 next], .int .i64 p, .slice Aa m ca] W fun e w' => ∃ Ao co, e = .returned (.slice Ao P.length co) ∧ P.length ≤ co ∧ Own eInt 3 w' W.heap.size (.slice Ao P.length co) P ∧ Below W.heap.size W w') := fun W hW => by
        have h := callRunModes (some ⟨bt, ot, none⟩) ct ts n next p Aa ca (asks.take m) W u.heap.size hW.size (by omega) (by rw [List.length_take]; omega) (by omega) (by omega) (HR.out.below hW) ((HA.out.below hW).take m)
        rw [← hP, List.length_take, Nat.min_eq_left (by omega)] at h
        exact h
      clear FT hR4 hs hcur hzs hys hf q hL0 hm hdiv2 hP hne
      go_wp2_with fail
      refine HFT.out.mono ?_
      rintro e w5 ⟨rfl, hb5⟩
      have HB5 := Lib.hid (bel_trans HB4.out hb5)
      have HI5 := Lib.hid (HI4.out.next hb5)
      have K5 := Lib.hid (blkc K4.out hb5)
      clear hb5 HFT HI4 HB4 x0 x1 x2 x3 x4 x5 x6 h1 hbT K4
      go_wp2_with fail
      go_loopw [8] (fun i wr => ∃ t : Nat, i = .int .i64 t ∧ t ≤ f.length ∧ Hid (Below w5.heap.size w5 wr)) (fun i _ => f.length - (intOf i).toNat)
      case atStart => exact ⟨0, rfl, by omega, Below.refl _ _⟩
      case round =>
        obtain ⟨t, rfl, ht, HBr⟩ := hrel
        have HBur := Lib.hid (bel_trans HB5.out HBr.out)
        by_cases hlt : t < f.length
        · have hd3 : decide ((t : Int) < (f.length : Int)) = true := decide_eq_true (by omega)
          have htL : t < L.length := by omega
          have hd4 : decide ((t : Int) ≥ (L.length : Int)) = false := decide_eq_false (by omega)
          have hd5 : decide ((t : Int) < (L.length : Int)) = true := decide_eq_true (by omega)
          obtain ⟨b, off, hAA, hb, h1⟩ := (HI5.out.next HBr.out).at1 rfl htL rfl
          subst hAA
          obtain ⟨x, hx⟩ : ∃ x, x = L[t] := ⟨_, rfl⟩
          have C1 : QCall Try.prog 21 #[.agg #[.slice (some ⟨bt, ot, none⟩) ts.length ct, .int .i64 n, .int .i64 next], .int .i64 p, .int .i64 t] wr (.int .i64 x) := QCall.of fun W' hbW => by
            have hW' := bel_trans HBur.out hbW
            have h := callModeTick (some ⟨bt, ot, none⟩) ct ts n next p t W' u.heap.size hW'.size (by omega) (by omega) (by omega) (HR.out.below hW')
            rw [HTK.out t hlt] at h
            have e : x = f[t] := by
              rw [hx]
              have e := HZS.out
              subst e
              exact List.getElem_append_left hlt
            rw [← e] at h
            exact h
          rw [← hx] at h1
          clear hx
          have hxx : (x != x) = false := by simp
          obtain ⟨x0, x1, x2, x3, x4, x5, x6⟩ := cell3 (blkc K5.out HBr.out)
          have k0 := cell_regrown x0
          have k1 := cell_regrown x1
          have k2 := cell_regrown x2
          have k3 := cell_regrown h1
          unfold QCall at C1
          go_upto_region 13 with (fail)
          clear x0 x1 x2 x3 x4 x5 x6 h1
          refine wp_region_quiet_below (by kernel_rfl) (by kernel_rfl) ?_
          repeat (first | go_big_quiet_step (first | (go_at_call 21; with_reducible exact C1 _ _)) | quiet_step (first | (go_at_call 21; with_reducible exact C1 _ _)))
          refine wpQuiet_nil ?_
          intro w6 hw6
          have HB6 := Lib.hid (below_of_regrown hw6)
          clear hw6 k0 k1 k2 k3 C1
          go_wp2
          go_roundw
          case rel => exact ⟨t + 1, by go_num, by omega, HBr.out.trans (HB6.out.mono HBr.out.size)⟩
          case measure => simp [intOf]; omega
        · have hte : t = f.length := by omega
          have hd3 : decide ((t : Int) < (f.length : Int)) = false := decide_eq_false (by omega)
          clear hte
          have HIr := Lib.hid (HI5.out.next HBr.out)
          have Kr := Lib.hid (blkc K5.out HBr.out)
          obtain ⟨x0, x1, x2, x3, x4, x5, x6⟩ := cell3 Kr.out
          have hdiv := HDIV.out
          have hwr : IntKind.i64.wrap (m : Int) = (m : Int) := by rw [IntKind.wrap_i64]; omega
          have hi1 : (0 : Int) ≤ (m : Int) := by omega
          have hi2 : (m : Int) ≤ (ca : Int) := by omega
          have HBd : Hid (Below u.heap.size u wr.drew) := HBur.out.drew
          go_upto_region 15 with (fail)
          go_region_law (go_simp; go_at_call 16; refine (CP.out wr.drew HBd.out).mono ?_; rintro e w6 ⟨A6, c6, rfl, hlc6, ho6, hb6⟩; have HO6 := Lib.hid ho6.rd; have HB6 := Lib.hid (bel_trans (below_drew (Below.refl _ wr)) hb6); clear ho6 hb6)
          all_goals
            have hd6 : decide ((P.length : Int) ≤ (L.length : Int)) = true := decide_eq_true (by omega)
            have hi3 : (P.length : Int) ≤ (c2 : Int) := by omega
            have hi4 : (0 : Int) ≤ (P.length : Int) := by omega
            have hPT : L.take P.length = P := by rw [HYS.out]; simp
            have SI := callSameInts A6 A2 c6 c2 P (L.take P.length) w6 w6.heap.size (Nat.le_refl _) (by omega) (by rw [List.length_take]; omega) HO6.out ((HIr.out.next HB6.out).take P.length)
            rw [List.length_take, Nat.min_eq_left hPL, hPT, decide_eq_true (rfl : P = P)] at SI
            have HSI := Lib.hid SI
            clear SI hPT hdiv
            go_wp2_with fail
            refine HSI.out.mono ?_
            rintro e w7 ⟨rfl, hb7⟩
            have HB7 := Lib.hid (bel_trans HB1.out (bel_trans HBur.out (bel_trans HB6.out hb7)))
            go_wp2
            go_ret
            exact ⟨rfl, HB7.out⟩
  · have hl' : 1048576 < bs.length := by omega
    clear hr hby hl
    go_enter Try.func3, Try.ntmps3
    go_wp2
    go_ret
    exact ⟨rfl, Below.refl _ _⟩
end Go.Proofs.Ytapkgncmjinedaa
