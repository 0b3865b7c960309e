/- The functions of links of the reference, for every input. -/
import Derived.Test.YtonhkadbiepedaaLkf
namespace Go.Proofs.Ytonhkadbiepedaa
open Go.RowKit Go.Sort

theorem lo_pre {ps : List Pkt} : ∀ k, k ≤ ps.length → (∀ i (h : i < ps.length), i < k → pktOk (lastAt ps i) ps[i] = true) → 0 ≤ lastAt ps k
  | 0, _, _ => Int.le_refl _
  | k + 1, hk, h => by
    have ih := lo_pre k (by omega) (fun i hi hik => h i hi (by omega))
    rw [lastAt_succ (by omega)]
    have := (pktOk_iff.1 (h k (by omega) (by omega))).1.1
    omega
theorem pktOk_split {last : Int} {p : Pkt} (hlo : 0 ≤ last) : pktOk last p = ((inB p.due 0 100050 && inB p.value 0 255) && decide (last ≤ p.due)) := by
  rw [Bool.eq_iff_iff, pktOk_iff, Bool.and_eq_true, Bool.and_eq_true, inB_iff, inB_iff, decide_eq_true_iff]
  omega

set_option maxRecDepth 100000 in
set_option maxHeartbeats 3200000 in
theorem callSLinkValid (A : Option Addr) (c : Nat) (d : Int) (ps : List Pkt) (w : World) (B : Nat) (hB : B ≤ w.heap.size) (hm : ps.length ≤ 1048576) (hr : Rd ePkt w B A ps) :
    Calls Try.prog 25 #[.agg #[.int .i64 d, .slice A ps.length c]] w fun e w' => e = .returned (.bool (linkOk d ps)) ∧ Below w.heap.size w w' := by
  have HR := Lib.hid hr
  have E : Hid (linkOk d ps = ((chainB ps && inB d 0 50) && decide (ps.length ≤ 20))) := rfl
  have HK := Lib.hid (heap_alloc_new w (.cells #[.int .i64 d, .slice A ps.length c] 36))
  have HBa := Lib.hid (below1 w (.cells #[.int .i64 d, .slice A ps.length c] 36))
  clear hr
  go_enter Try.func25, Try.ntmps25
  go_wp2_with fail
  go_loopw [3] (fun i wr => ∃ k : Nat, k ≤ ps.length ∧ i = .int .i64 k ∧ Hid (Below w.heap.size w wr ∧ wr.heap[w.heap.size]? = some (.cells #[.int .i64 d, .slice A ps.length c] 36 (0, 0)) ∧ ∀ i (h : i < ps.length), i < k → pktOk (lastAt ps i) ps[i] = true)) (fun i _ => ps.length - (intOf i).toNat)
  case atStart => exact ⟨0, by omega, rfl, HBa.out, HK.out, fun i _ hi => by omega⟩
  case round =>
    obtain ⟨k, hk, rfl, HH⟩ := hrel
    clear HK HBa
    obtain ⟨x1, x2, _, _, x5⟩ := cell2 HH.out.2.1
    by_cases hlt : k < ps.length
    · have hd : decide ((k : Int) < ps.length) = true := decide_eq_true (by omega)
      have hi1 : (k : Int) < (ps.length : Int) := by omega
      obtain ⟨b, off, rfl, hbB, h1, h2⟩ := (HR.out.below (HH.out.1.mono hB)).at2 rfl hlt rfl
      have hbw : b < wr.heap.size := Nat.lt_of_lt_of_le hbB (Nat.le_trans hB HH.out.1.size)
      have bad : Hid (pktOk (lastAt ps k) ps[k] = false → linkOk d ps = false) := fun h => by
        have : chainB ps = false := by
          cases q : chainB ps
          · rfl
          · have := chainB_iff.1 q k hlt; rw [h] at this; cases this
        rw [E.out, this]; rfl
      have good : Hid (pktOk (lastAt ps k) ps[k] = true → ∀ i (h : i < ps.length), i < k + 1 → pktOk (lastAt ps i) ps[i] = true) := fun hx i h hi => by
        rcases Nat.lt_or_ge i k with h' | h'
        · exact HH.out.2.2 i h h'
        · have : i = k := by omega
          subst this; exact hx
      rw [pktOk_split (lo_pre k hk HH.out.2.2)] at bad good
      have HP : Hid (∀ (m : Nat) (hm : k = m + 1), lastAt ps k = (ps[m]'(by omega)).due ∧ wr.cell? ⟨b, off + m * 2, none⟩ = some (.int .i64 (ps[m]'(by omega)).due)) := fun m hm1 => by
        obtain ⟨b', off', hA, _, g1, _⟩ := (HR.out.below (HH.out.1.mono hB)).at2 rfl (k := m) (by omega) rfl
        injection hA with hA
        injection hA with hA1 hA2 _
        subst hA1 hA2
        refine ⟨?_, g1⟩
        subst hm1
        exact lastAt_succ (by omega)
      have HZ : Hid (k = 0 → lastAt ps k = 0) := fun h => by rw [h]; rfl
      obtain ⟨s, hs⟩ : ∃ s, s = lastAt ps k := ⟨_, rfl⟩
      obtain ⟨p, hp⟩ : ∃ p, p = ps[k] := ⟨_, rfl⟩
      rw [← hs] at HZ
      rw [← hs, ← hp] at bad
      have good2 : Hid (((inB p.due 0 100050 && inB p.value 0 255) && decide (s ≤ p.due)) = true → ∀ i (h : i < ps.length), i < k + 1 → pktOk (lastAt ps i) ps[i] = true) := by rw [hs, hp]; exact good
      clear good
      rw [← hp] at h1 h2
      have HP2 : Hid (∀ (m : Nat) (hm : k = m + 1), s = (ps[m]'(by omega)).due ∧ wr.cell? ⟨b, off + m * 2, none⟩ = some (.int .i64 (ps[m]'(by omega)).due)) := by rw [hs]; exact HP
      clear HP hs hp
      obtain ⟨due, val⟩ := p
      simp only at h1 h2
      have HBX := Lib.hid (bel_trans HH.out.1 (below1 wr (.cells #[.int .i64 due, .int .i64 val] 46)))
      have HKX := Lib.hid (blkc HH.out.2.1 (below1 wr (.cells #[.int .i64 due, .int .i64 val] 46)))
      have HPX := Lib.hid (heap_alloc_new wr (.cells #[.int .i64 due, .int .i64 val] 46))
      have HPC : Hid (∀ (m : Nat) (hm : k = m + 1), s = (ps[m]'(by omega)).due ∧ (wr.alloc (.cells #[.int .i64 due, .int .i64 val] 46)).cell? ⟨b, off + m * 2, none⟩ = some (.int .i64 (ps[m]'(by omega)).due)) := fun m hm1 => ⟨(HP2.out m hm1).1, ((below1 wr _).cell (p := ⟨b, off + m * 2, none⟩) hbw).trans (HP2.out m hm1).2⟩
      clear HP2
      go_upto_region 5 with (fail)
      obtain ⟨wx, hwx⟩ : ∃ wx, wx = wr.alloc (.cells #[.int .i64 due, .int .i64 val] 46) := ⟨_, rfl⟩
      obtain ⟨X, hX⟩ : ∃ X, X = wr.heap.size := ⟨_, rfl⟩
      rw [← hwx] at HBX HKX HPX HPC ⊢
      rw [← hX] at HPX ⊢
      clear hwx hX h1 h2 x1 x2 x5 HH
      obtain ⟨y0, y1, _, _, _⟩ := cell2 HPX.out
      obtain ⟨x0, x1, _, _, _⟩ := cell2 HKX.out
      have k0 := cell_regrown y0
      have k1 := cell_regrown y1
      have k2 := cell_regrown x0
      have k3 := cell_regrown x1
      have HL1 : ∀ W : World, Hid (Calls Try.prog 38 #[.int .i64 due, .int .i64 0, .int .i64 100050] W fun e w' => e = .returned (.bool (inB due 0 100050)) ∧ W = w') := fun W => callL1In _ _ _ W
      have HL2 : ∀ W : World, Hid (Calls Try.prog 38 #[.int .i64 val, .int .i64 0, .int .i64 255] W fun e w' => e = .returned (.bool (inB val 0 255)) ∧ W = w') := fun W => callL1In _ _ _ W
      cases q1 : inB due 0 100050
      · rw [q1] at HL1
        have hb := Lib.hid (bad.out (by show (inB due 0 100050 && _ && _) = false; rw [q1]; rfl))
        go_quiet (first | (go_at_call_of 38 (Value.int IntKind.i64 100050); exact quiet_left (HL1 _).out) | (go_at_call_of 38 (Value.int IntKind.i64 255); exact quiet_left (HL2 _).out))
        go_wp2
        go_ret
        exact ⟨by rw [hb.out] <;> rfl, below_drewN HBX.out _⟩
      · cases q2 : inB val 0 255
        · rw [q1] at HL1
          rw [q2] at HL2
          have hb := Lib.hid (bad.out (by show (inB due 0 100050 && inB val 0 255 && _) = false; rw [q1, q2]; rfl))
          go_quiet (first | (go_at_call_of 38 (Value.int IntKind.i64 100050); exact quiet_left (HL1 _).out) | (go_at_call_of 38 (Value.int IntKind.i64 255); exact quiet_left (HL2 _).out))
          go_wp2
          go_ret
          exact ⟨by rw [hb.out] <;> rfl, below_drewN HBX.out _⟩
        · rw [q1] at HL1
          rw [q2] at HL2
          have q3 := (inB_iff.1 q1).1
          by_cases hk0 : k = 0
          · have HG := Lib.hid (good2.out (by show (inB due 0 100050 && inB val 0 255 && decide (s ≤ due)) = true; rw [q1, q2, decide_eq_true (by rw [HZ.out hk0]; exact q3)]; rfl))
            have hp : decide ((0 : Int) < (k : Int)) = false := decide_eq_false (by omega)
            have hp2 : ¬ 0 < k := by omega
            clear hk0
            go_quiet (first | (go_at_call_of 38 (Value.int IntKind.i64 100050); exact quiet_left (HL1 _).out) | (go_at_call_of 38 (Value.int IntKind.i64 255); exact quiet_left (HL2 _).out))
            go_wp2
            go_roundw
            case rel => exact ⟨k + 1, by omega, by go_num, below_drewN HBX.out _, HKX.out, HG.out⟩
            case measure => simp [intOf]; omega
          · obtain ⟨m, hm1⟩ : ∃ m, k = m + 1 := ⟨k - 1, by omega⟩
            obtain ⟨e1, e2⟩ := HPC.out m hm1
            have hp : decide ((0 : Int) < (k : Int)) = true := decide_eq_true (by omega)
            have hp2 : 0 < k := by omega
            have hwm : IntKind.i64.wrap ((k : Int) - 1) = (m : Int) := (IntWalk.i64_in _ (by omega)).trans (by omega)
            have hm0 : (0 : Int) ≤ (m : Int) := by omega
            have hm2 : (m : Int) < (ps.length : Int) := by omega
            rw [← e1] at e2
            have k4 := cell_regrown e2
            clear hm1 e1 hk0
            by_cases hsd : s ≤ due
            · have HG := Lib.hid (good2.out (by show (inB due 0 100050 && inB val 0 255 && decide (s ≤ due)) = true; rw [q1, q2, decide_eq_true hsd]; rfl))
              have hc2 : decide (due < s) = false := decide_eq_false (by omega)
              have hc3 : ¬ due < s := by omega
              clear hsd
              go_quiet (first | (go_at_call_of 38 (Value.int IntKind.i64 100050); exact quiet_left (HL1 _).out) | (go_at_call_of 38 (Value.int IntKind.i64 255); exact quiet_left (HL2 _).out))
              go_wp2
              go_roundw
              case rel => exact ⟨k + 1, by omega, by go_num, below_drewN HBX.out _, HKX.out, HG.out⟩
              case measure => simp [intOf]; omega
            · have hb := Lib.hid (bad.out (by show (inB due 0 100050 && inB val 0 255 && decide (s ≤ due)) = false; rw [q1, q2, decide_eq_false hsd]; rfl))
              have hc2 : decide (due < s) = true := decide_eq_true (by omega)
              have hc3 : due < s := by omega
              clear hsd
              go_quiet (first | (go_at_call_of 38 (Value.int IntKind.i64 100050); exact quiet_left (HL1 _).out) | (go_at_call_of 38 (Value.int IntKind.i64 255); exact quiet_left (HL2 _).out))
              go_wp2
              go_ret
              exact ⟨by rw [hb.out] <;> rfl, below_drewN HBX.out _⟩
    · have hke : k = ps.length := by omega
      subst hke
      have hd : decide ((ps.length : Int) < ps.length) = false := by simp
      have EC : Hid (chainB ps = true) := chainB_iff.2 fun i hi => HH.out.2.2 i hi hi
      have EE : Hid (linkOk d ps = (inB d 0 50 && decide (ps.length ≤ 20))) := by show _ = _; rw [E.out, EC.out, Bool.true_and]
      cases q1 : inB d 0 50
      · go_wp2_with (go_at_call 38; refine (callL1In _ _ _ _).mono ?_; rintro e w' ⟨rfl, rfl⟩)
        go_ret
        exact ⟨by rw [EE.out, q1] <;> rfl, HH.out.1⟩
      · by_cases hl : ps.length ≤ 20
        · have dl : decide ((ps.length : Int) ≤ 20) = true := decide_eq_true (by omega)
          go_wp2_with (go_at_call 38; refine (callL1In _ _ _ _).mono ?_; rintro e w' ⟨rfl, rfl⟩)
          go_ret
          exact ⟨by rw [EE.out, q1, decide_eq_true hl] <;> rfl, HH.out.1⟩
        · have dl : decide ((ps.length : Int) ≤ 20) = false := decide_eq_false (by omega)
          go_wp2_with (go_at_call 38; refine (callL1In _ _ _ _).mono ?_; rintro e w' ⟨rfl, rfl⟩)
          go_ret
          exact ⟨by rw [EE.out, q1, decide_eq_false hl] <;> rfl, HH.out.1⟩
end Go.Proofs.Ytonhkadbiepedaa
