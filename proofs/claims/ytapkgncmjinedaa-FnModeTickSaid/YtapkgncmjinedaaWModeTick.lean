/- The walk of the law FnModeTick: true for every input, and nothing that was there is written. -/
import Derived.Test.YtapkgncmjinedaaMdx
import Derived.Test.YtapkgncmjinedaaMdt
import Derived.Test.YtapkgncmjinedaaSam
namespace Go.Proofs.Ytapkgncmjinedaa
open Go.RowKit Go.Sort

theorem RdT.alloc {w : World} {A : Option Addr} {ts : List Tab} (h : RdT w w.heap.size A ts) (o : Obj) : RdT (w.alloc o) (w.alloc o).heap.size A ts := h.next (below1 w o)
theorem modeTick_end {ts : List Tab} {now next parts t : Int} (h : ((fr (tabAt ts now).slots).length : Int) ≤ t ∨ t < 0) : modeTick ts now next parts t = -2 := by
  refine modeTick_out ?_
  rw [Bool.eq_false_iff]; intro h'; have := inB_iff.1 h'; omega
/-- A tick of a frame: the one that runs, and what WhoRuns tells. -/
theorem modeTick_who {ts : List Tab} {now next parts : Int} {n : Nat} {hn : n < ts.length} {t : Int} (q : modOk ts now next parts = true) (hcur : tabAt ts now = ts[n]) (hs : sltsOk ts[n].slots parts = true) (h0 : 0 ≤ t) (h1 : t < ((fr ts[n].slots).length : Int)) :
    modeTick ts now next parts t = whoRuns ts[n].slots parts t ∧ -1 ≤ modeTick ts now next parts t := by
  have hbd := fr_bd hs
  have hin : inB t 0 ((fr (tabAt ts now).slots).length - 1) = true := by rw [hcur]; exact inB_iff.2 (by omega)
  have hk : t.toNat < (fr ts[n].slots).length := by omega
  rw [modeTick_in q hin, hcur]
  have ht : tkOk t = true := inB_iff.2 (by omega)
  refine ⟨by unfold whoRuns; rw [hs, ht]; rfl, ?_⟩
  rw [whoAt_lt hk]
  exact (fr_mem hs (List.getElem_mem hk)).1

set_option maxRecDepth 100000 in
set_option maxHeartbeats 3200000 in
theorem walkFnModeTick (A : Option Addr) (c : Nat) (bs : List Int) (w : World) (hc : bs.length ≤ c) (hr : Rd eU8 w w.heap.size A bs) (hby : ∀ x ∈ bs, 0 ≤ x ∧ x ≤ 255) :
    Calls Try.prog 11 #[.slice A bs.length c] w fun e w' => e = .returned (.bool true) ∧ Below w.heap.size w w' := by
  by_cases hl : bs.length ≤ 1048576
  · have HC := Lib.hid (callDrawModeTick A c bs w hc hl hr hby)
    clear hr hby
    go_enter Try.func11, Try.ntmps11
    go_wp2_with fail
    refine HC.out.mono ?_
    rintro e w1 ⟨At, ct, ts, now, next, p, t, rfl, hrd, _, _, hl4, hp1, hp2, _, _, _, _, ht1, ht2, hb1⟩
    have HB1 := Lib.hid (bel_trans hb1 (below1 w1 (.cells #[.slice At ts.length ct, .int .i64 now, .int .i64 next] 25)))
    have K0 := Lib.hid (heap_alloc_new w1 (.cells #[.slice At ts.length ct, .int .i64 now, .int .i64 next] 25))
    have HR := Lib.hid (hrd.alloc (.cells #[.slice At ts.length ct, .int .i64 now, .int .i64 next] 25))
    clear hrd hb1 HC
    go_upto_region 4 with (fail)
    obtain ⟨u, hu⟩ : ∃ u, u = w1.alloc (.cells #[.slice At ts.length ct, .int .i64 now, .int .i64 next] 25) := ⟨_, rfl⟩
    obtain ⟨X, hX⟩ : ∃ X, X = w1.heap.size := ⟨_, rfl⟩
    rw [← hu] at HB1 K0 HR ⊢
    rw [← hX] at K0 ⊢
    clear hu hX
    have CI : Hid (∀ (W : World) (t : Int), Below u.heap.size u W → Calls Try.prog 21 #[.agg #[.slice At ts.length ct, .int .i64 now, .int .i64 next], .int .i64 p, .int .i64 t] W fun e w' => e = .returned (.int .i64 (modeTick ts now next p t)) ∧ Below W.heap.size W w') :=
      fun W t hW => callModeTick At ct ts now next p t W u.heap.size hW.size (by omega) (by omega) (by omega) (HR.out.below hW)
    have CS : Hid (∀ (W : World), Below u.heap.size u W → Calls Try.prog 42 #[.agg #[.slice At ts.length ct, .int .i64 now, .int .i64 next], .int .i64 p, .int .i64 t] W fun e w' => e = .returned (.int .i64 (modeTick ts now next p t)) ∧ Below W.heap.size W w') :=
      fun W hW => callSModeTick At ct ts now next p t W u.heap.size hW.size (by omega) (by omega) (by omega) (HR.out.below hW)
    have CV : Hid (∀ (W : World), Below u.heap.size u W → Calls Try.prog 40 #[.agg #[.slice At ts.length ct, .int .i64 now, .int .i64 next], .int .i64 p] W fun e w' => e = .returned (.bool (modOk ts now next p)) ∧ Below W.heap.size W w') :=
      fun W hW => callSModesValid At ct ts now next p W u.heap.size hW.size (by omega) (by omega) (by omega) (HR.out.below hW)
    obtain ⟨N, hN⟩ : ∃ N, N = modeTick ts now next p t := ⟨_, rfl⟩
    have CN := CI.out u t (Below.refl _ _)
    rw [← hN] at CN CS
    have HN := Lib.hid hN
    clear hN
    have hne : (N != N) = false := by simp
    obtain ⟨x0, x1, x2, _, _, _, x6⟩ := cell3 K0.out
    have HCN := Lib.hid CN
    clear CN
    go_wp2_with fail
    refine HCN.out.mono ?_
    rintro e w2 ⟨rfl, hb2⟩
    have HB2 := Lib.hid hb2
    obtain ⟨x0, x1, x2, _, _, _, x6⟩ := cell3 (blkc K0.out HB2.out)
    clear hb2 HCN
    go_wp2_with fail
    refine (CS.out w2 HB2.out).mono ?_
    rintro e w3 ⟨rfl, hb3⟩
    have HB3 := Lib.hid (bel_trans HB2.out hb3)
    obtain ⟨x0, x1, x2, _, _, _, x6⟩ := cell3 (blkc K0.out HB3.out)
    clear hb3 CS HB2
    go_wp2_with fail
    refine (CV.out w3 HB3.out).mono ?_
    rintro e w4 ⟨rfl, hb4⟩
    have HB4 := Lib.hid (bel_trans HB3.out hb4)
    obtain ⟨x0, x1, x2, _, _, _, x6⟩ := cell3 (blkc K0.out HB4.out)
    clear hb4 CV HB3 hne
    cases q : modOk ts now next p
    · obtain rfl : N = -2 := HN.out.trans (modeTick_bad q)
      clear q
      go_wp2_with fail
      refine (callAlive _).mono ?_
      rintro e w5 ⟨rfl, hb5⟩
      have HB5 := Lib.hid (bel_trans HB1.out (bel_trans HB4.out hb5))
      go_wp2
      go_ret
      exact ⟨rfl, HB5.out⟩
    · obtain ⟨n, hn, rfl, hcur, hs, _⟩ := mod_cur q
      have hbd := fr_bd hs
      obtain ⟨T, hT⟩ : ∃ T : Nat, T = (fr ts[n].slots).length := ⟨_, rfl⟩
      have RW := HR.out.slots hn
      have CF : Hid (∀ (W : World), Below u.heap.size u W → Calls Try.prog 20 #[.slice ts[n].A ts[n].slots.length ts[n].c, .int .i64 p] W fun e w' => e = .returned (.int .i64 (T : Int)) ∧ Below W.heap.size W w') := fun W hW => by
        have h := callFrameTicks ts[n].A ts[n].c ts[n].slots p W u.heap.size hW.size RW.2 (by omega) (by omega) (RW.1.below hW)
        have e : frameTicks ts[n].slots p = (T : Int) := by unfold frameTicks; rw [hs, hT]; rfl
        rw [e] at h; exact h
      have CE : Hid (∀ (W : World), Below u.heap.size u W → Calls Try.prog 21 #[.agg #[.slice At ts.length ct, .int .i64 n, .int .i64 next], .int .i64 p, .int .i64 (T : Int)] W fun e w' => e = .returned (.int .i64 (-2)) ∧ Below W.heap.size W w') := fun W hW => by
        have h := CI.out W (T : Int) hW
        rw [modeTick_end (.inl (by rw [hcur, hT]; exact Int.le_refl _))] at h; exact h
      have CW : Hid (∀ (W : World), Below u.heap.size u W → Calls Try.prog 43 #[.slice ts[n].A ts[n].slots.length ts[n].c, .int .i64 p, .int .i64 t] W fun e w' => e = .returned (.int .i64 (whoRuns ts[n].slots p t)) ∧ Below W.heap.size W w') := fun W hW =>
        callWhoRuns ts[n].A ts[n].c ts[n].slots p t W u.heap.size hW.size RW.2 (by omega) (by omega) (RW.1.below hW)
      obtain ⟨b, off, rfl, hbB, h1⟩ := HR.out.1.at1 rfl hn rfl
      have KB := Lib.hid h1
      have HBB := Lib.hid hbB
      have h2 : w4.cell? ⟨b, off + n, none⟩ = some (.slice ts[n].A ts[n].slots.length ts[n].c) := (HB4.out.cell (p := ⟨b, off + n, none⟩) hbB).trans h1
      have hd0 : decide ((n : Int) < (ts.length : Int)) = true := decide_eq_true (by omega)
      have HIN : Hid (0 ≤ t → t < (T : Int) → N = whoRuns ts[n].slots p t ∧ -1 ≤ N) := fun a b => by
        rw [hT] at b
        have := modeTick_who q hcur hs a b
        rw [← HN.out] at this; exact this
      have HOUT : Hid (((T : Int) ≤ t ∨ t < 0) → N = -2) := fun h => HN.out.trans (modeTick_end (by rw [hcur, ← hT]; exact h))
      clear q hcur hs h1 CI HN hT hbd
      clear RW hbB HR
      obtain ⟨Q, hQ⟩ : ∃ Q, Q = whoRuns ts[n].slots p t := ⟨_, rfl⟩
      rw [← hQ] at CW HIN
      clear hQ
      go_wp2_with fail
      refine (CF.out w4 HB4.out).mono ?_
      rintro e w5 ⟨rfl, hb5⟩
      have HB5 := Lib.hid (bel_trans HB4.out hb5)
      have h3 : w5.cell? ⟨b, off + n, none⟩ = some (.slice ts[n].A ts[n].slots.length ts[n].c) := (HB5.out.cell (p := ⟨b, off + n, none⟩) HBB.out).trans KB.out
      obtain ⟨x0, x1, x2, _, _, _, x6⟩ := cell3 (blkc K0.out HB5.out)
      clear hb5 CF HB4 h2
      by_cases hin : 0 ≤ t ∧ t < (T : Int)
      · obtain ⟨h5, h6⟩ := HIN.out hin.1 hin.2
        subst h5
        have e1 : (N == -2) = false := by rw [beq_eq_false_iff_ne]; omega
        have e2 : decide (t < 0) = false := decide_eq_false (by omega)
        have e3 : decide (t ≥ (T : Int)) = false := decide_eq_false (by omega)
        have e4 : (N == N) = true := by simp
        clear HIN HOUT hin
        go_wp2_with fail
        refine (CW.out w5 HB5.out).mono ?_
        rintro e w6 ⟨rfl, hb6⟩
        have HB6 := Lib.hid (bel_trans HB5.out hb6)
        obtain ⟨x0, x1, x2, _, _, _, x6⟩ := cell3 (blkc K0.out HB6.out)
        clear hb6 CW HB5 h3
        go_wp2_with fail
        refine (CE.out w6 HB6.out).mono ?_
        rintro e w7 ⟨rfl, hb7⟩
        have HB7 := Lib.hid (bel_trans HB1.out (bel_trans HB6.out hb7))
        go_wp2
        go_ret
        exact ⟨rfl, HB7.out⟩
      · obtain rfl : N = -2 := HOUT.out (by omega)
        obtain ⟨o, ho⟩ : ∃ o, o = decide (t < 0) := ⟨_, rfl⟩
        have ho' := Lib.hid ho
        cases o
        · have e2 : decide (t < 0) = false := ho.symm
          have e3 : decide (t ≥ (T : Int)) = true := decide_eq_true (by have := of_decide_eq_false e2; omega)
          clear HIN HOUT hin ho ho'
          go_wp2_with fail
          refine (CE.out w5 HB5.out).mono ?_
          rintro e w7 ⟨rfl, hb7⟩
          have HB7 := Lib.hid (bel_trans HB1.out (bel_trans HB5.out hb7))
          go_wp2
          go_ret
          exact ⟨rfl, HB7.out⟩
        · have e2 : decide (t < 0) = true := ho.symm
          clear HIN HOUT hin ho ho'
          go_wp2_with fail
          refine (CE.out w5 HB5.out).mono ?_
          rintro e w7 ⟨rfl, hb7⟩
          have HB7 := Lib.hid (bel_trans HB1.out (bel_trans HB5.out hb7))
          go_wp2
          go_ret
          exact ⟨rfl, HB7.out⟩
  · have hl' : 1048576 < bs.length := by omega
    clear hr hby hl
    go_enter Try.func11, Try.ntmps11
    go_wp2
    go_ret
    exact ⟨rfl, Below.refl _ _⟩
end Go.Proofs.Ytapkgncmjinedaa
