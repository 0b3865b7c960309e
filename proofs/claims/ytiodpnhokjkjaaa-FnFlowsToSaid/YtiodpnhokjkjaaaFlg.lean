/- FlowsTo of the reference, for every input; and when two lists of flags are the same. -/
import Derived.Test.YtiodpnhokjkjaaaFlf
namespace Go.Proofs.Ytiodpnhokjkjaaa
open Go.RowKit Go.Sort

set_option maxRecDepth 100000 in
set_option maxHeartbeats 3200000 in
theorem callSFlowsTo (A : Option Addr) (c : Nat) (cs : List Chn) (parts n : Int) (w : World) (B : Nat) (hB : B ≤ w.heap.size) (hm : cs.length ≤ 1048576) (hp1 : -10 ≤ parts) (hp2 : parts ≤ 10) (hr : Rd eChn w B A cs) :
    Calls Try.prog 16 #[.slice A cs.length c, .int .i64 parts, .int .i64 n] w (FlRes w (flowRes cs parts n)) := by
  have V := Lib.hid (callSChannelsValid A c cs parts w B hB hm hp1 hp2 hr)
  have HBAD : Hid ((chansB cs parts && inB n 0 (parts - 1)) = false → flowRes cs parts n = []) := flowRes_bad
  cases q1 : chansB cs parts
  · rw [q1] at V HBAD
    have HE : Hid (flowRes cs parts n = []) := HBAD.out rfl
    rw [HE.out]
    clear q1 HBAD hr
    go_enter Try.func16, Try.ntmps16
    go_wp2_with fail
    refine V.out.mono ?_
    rintro e w1 ⟨rfl, hb1⟩
    have HB1 := Lib.hid hb1
    clear hb1
    go_wp2
    go_ret
    exact ⟨some ⟨w1.heap.size, 0, none⟩, 0, rfl, Own.none_, bel_trans HB1.out (below1 _ _)⟩
  · cases q2 : inB n 0 (parts - 1)
    · rw [q1] at V
      rw [q1, q2] at HBAD
      have HE : Hid (flowRes cs parts n = []) := HBAD.out rfl
      rw [HE.out]
      clear q1 HBAD hr
      go_enter Try.func16, Try.ntmps16
      go_wp2_with fail
      refine V.out.mono ?_
      rintro e w1 ⟨rfl, hb1⟩
      have HB1 := Lib.hid hb1
      clear hb1
      go_wp2_with (go_at_call 52; refine (callL1In _ _ _ _).mono ?_; rintro e w' ⟨rfl, rfl⟩)
      go_ret
      exact ⟨some ⟨w1.heap.size, 0, none⟩, 0, rfl, Own.none_, bel_trans HB1.out (below1 _ _)⟩
    · have hp := chans_parts q1
      have hnn := inB_iff.1 q2
      obtain ⟨p, rfl⟩ := Int.eq_ofNat_of_zero_le hp.1
      obtain ⟨n, rfl⟩ := Int.eq_ofNat_of_zero_le hnn.1
      have HE := Lib.hid (flowRes_good q1 q2)
      rw [HE.out]
      have hn : n < p := by omega
      obtain ⟨D, hD⟩ : ∃ D : Nat → Nat → Bool, D = fun (a b : Nat) => dirB cs a b := ⟨_, rfl⟩
      have HC0 : Hid (∀ (a b : Nat) (W : World), a < p → b < p → Below w.heap.size w W → Calls Try.prog 53 #[.slice A cs.length c, .int .i64 p, .int .i64 a, .int .i64 b] W fun e w' => e = .returned (.bool (D a b)) ∧ Below W.heap.size W w') := fun a b W ha hb hW => by
        rw [hD]; exact callSFlowDirect A c cs p a b W B (Nat.le_trans hB hW.size) hm q1 (inB_iff.2 ⟨by omega, by omega⟩) (inB_iff.2 ⟨by omega, by omega⟩) (hr.below (hW.mono hB))
      have HEND : Hid (stF D p n p 0 0 = flowsB (fun (a b : Nat) => dirB cs a b) p n) := by show _ = _; rw [← hD]; exact stF_end
      have hfl : (flowsB (fun (a b : Nat) => dirB cs a b) p n).length = p := flows_len
      obtain ⟨fin, hfin⟩ : ∃ fin, fin = flowsB (fun (a b : Nat) => dirB cs a b) p n := ⟨_, rfl⟩
      rw [← hfin] at HEND hfl ⊢
      have HFL := Lib.hid hfl
      rw [q1] at V
      clear hr hD hfin hfl HBAD HE q1
      go_enter Try.func16, Try.ntmps16
      go_wp2_with fail
      refine V.out.mono ?_
      rintro e w1 ⟨rfl, hb1⟩
      have HB1 := Lib.hid hb1
      have HC : Hid (∀ (a b : Nat) (W : World), a < p → b < p → Below w1.heap.size w1 W → Calls Try.prog 53 #[.slice A cs.length c, .int .i64 p, .int .i64 a, .int .i64 b] W fun e w' => e = .returned (.bool (D a b)) ∧ Below W.heap.size W w') := fun a b W ha hb hW => HC0.out a b W ha hb (bel_trans HB1.out hW)
      clear hb1 HC0 hp
      go_upto_region 5 with (first
        | (go_at_call 52; refine (callL1In _ _ _ _).mono ?_; rintro e w' ⟨rfl, rfl⟩)
        | (at_make; refine wpList_mkE (E := eBool) _ Try.underlying26 (z := .bool false) (m := 1) (by kernel_rfl) (by decide) false rfl rfl _ _ rfl w1.heap.size p p p rfl rfl rfl rfl (by omega) (Nat.le_refl _) ?_; intro w2 hown1 hb1; have S1 : Hid (FS w1 w1.heap.size p (List.replicate p false) w2) := ⟨hb1, hown1, by simp⟩; clear hown1 hb1; have hnl : n < (List.replicate p false).length := (by simp; exact hn); obtain ⟨x0, x1, x2, x3⟩ := S1.out.at hnl; have hni : (n : Int) < (p : Int) := (by omega); have hni0 : (0 : Int) ≤ (n : Int) := (by omega); have hdn : decide (n < p) = true := decide_eq_true hn))
      have S2 := Lib.hid (S1.out.set hnl true)
      have E0 := Lib.hid (stF_0 (D := D) (p := p) (n := n))
      rw [← E0.out] at S2
      obtain ⟨w3, hw3⟩ : ∃ w3, w3 = w2.setCell ⟨w1.heap.size, n, none⟩ (.bool true) := ⟨_, rfl⟩
      obtain ⟨g, hg⟩ : ∃ g, g = w1.heap.size := ⟨_, rfl⟩
      rw [← hg] at S2 x0 x1 x2 x3 hw3 ⊢
      rw [← hw3] at S2 ⊢
      have HBW : Hid (∀ wx o, FS w1 g p o wx → Below w1.heap.size w1 wx) := fun _ _ h => h.bel
      clear hw3 hg S1 E0 x0 x1 x2 x3 hnl
      go_wp2_with fail
      go_loopw [8, 9, 10] (fun i _ _ wr => ∃ r : Nat, i = .int .i64 r ∧ r ≤ p ∧ Hid (FS w1 g p (stF D p n r 0 0) wr)) (fun i _ _ _ => p - (intOf i).toNat)
      case atStart => exact ⟨0, rfl, by omega, S2.out⟩
      case round =>
        clear S2
        obtain ⟨r, rfl, hrp, SR⟩ := hrel
        by_cases hlt : r < p
        · have hd : decide (r < p) = true := decide_eq_true hlt
          have hdi : decide ((r : Int) < (p : Int)) = true := decide_eq_true (by omega)
          go_wp2_with fail
          go_loopw [9, 10] (fun i _ wr => ∃ a : Nat, i = .int .i64 a ∧ a ≤ p ∧ Hid (FS w1 g p (stF D p n r a 0) wr)) (fun i _ _ => p - (intOf i).toNat)
          case atStart => exact ⟨0, rfl, by omega, SR.out⟩
          case round =>
            clear SR hd hdi
            obtain ⟨a, rfl, hap, SA⟩ := hrel
            by_cases hla : a < p
            · have hd : decide (a < p) = true := decide_eq_true hla
              have hdi : decide ((a : Int) < (p : Int)) = true := decide_eq_true (by omega)
              go_wp2_with fail
              go_loopw [10] (fun i wr => ∃ b : Nat, i = .int .i64 b ∧ b ≤ p ∧ Hid (FS w1 g p (stF D p n r a b) wr)) (fun i _ => p - (intOf i).toNat)
              case atStart => exact ⟨0, rfl, by omega, SA.out⟩
              case round =>
                clear SA hd hdi
                obtain ⟨b, rfl, hbp, SB⟩ := hrel
                by_cases hlb : b < p
                · have hd : decide (b < p) = true := decide_eq_true hlb
                  have hdi : decide ((b : Int) < (p : Int)) = true := decide_eq_true (by omega)
                  have hda : decide (a < p) = true := decide_eq_true hla
                  have ia0 : (0 : Int) ≤ (a : Int) := by omega
                  have ia1 : (a : Int) < (p : Int) := by omega
                  have ib0 : (0 : Int) ≤ (b : Int) := by omega
                  have ib1 : (b : Int) < (p : Int) := by omega
                  have ES := Lib.hid (stF_step (D := D) (n := n) r hla hlb)
                  obtain ⟨o, ho⟩ : ∃ o, o = stF D p n r a b := ⟨_, rfl⟩
                  rw [← ho] at SB ES
                  clear ho
                  have hlo := SB.out.len
                  have hao : a < o.length := by omega
                  have hbo : b < o.length := by omega
                  obtain ⟨x0, x1, x2, x3⟩ := SB.out.at hao
                  obtain ⟨y0, y1, _, _⟩ := SB.out.at hbo
                  rw [getD_get hao, getD_get hbo] at ES
                  obtain ⟨oa, hoa⟩ : ∃ oa, oa = o[a] := ⟨_, rfl⟩
                  obtain ⟨ob, hob⟩ : ∃ ob, ob = o[b] := ⟨_, rfl⟩
                  rw [← hoa] at x0 ES
                  rw [← hob] at y0 ES
                  have HLO := Lib.hid hlo
                  clear hoa hob hlo
                  cases oa
                  · cases ob
                    · have SN := Lib.hid (SB.out.set hao false)
                      go_wp2_with fail
                      go_roundw
                      case rel => exact ⟨b + 1, by go_num, by omega, by rw [ES.out]; exact SN.out⟩
                      case measure => simp [intOf]; omega
                    · go_wp2_with fail
                      refine (HC.out a b _ hla hlb SB.out.bel).mono ?_
                      rintro e w5 ⟨rfl, hb5⟩
                      have S5 := Lib.hid (SB.out.next hb5)
                      clear hb5 x0 x1 x2 x3 y0 y1
                      obtain ⟨x0, x1, x2, x3⟩ := S5.out.at hao
                      have SN := Lib.hid (S5.out.set hao (D a b))
                      obtain ⟨d, hd'⟩ : ∃ d, d = D a b := ⟨_, rfl⟩
                      rw [← hd'] at SN ES ⊢
                      clear hd'
                      cases d
                      all_goals
                        go_wp2_with fail
                        go_roundw
                        case rel => exact ⟨b + 1, by go_num, by omega, by rw [ES.out]; exact SN.out⟩
                        case measure => simp [intOf]; omega
                  · have SN := Lib.hid (SB.out.set hao true)
                    go_wp2_with fail
                    go_roundw
                    case rel => exact ⟨b + 1, by go_num, by omega, by rw [ES.out]; exact SN.out⟩
                    case measure => simp [intOf]; omega
                · have hd : decide (b < p) = false := decide_eq_false hlb
                  have hdi : decide ((b : Int) < (p : Int)) = false := decide_eq_false (by omega)
                  obtain rfl : b = p := by omega
                  have EA := Lib.hid (stF_a (D := D) (p := b) (n := n) r a)
                  go_wp2_with fail
                  go_roundw
                  case rel => exact ⟨a + 1, by go_num, by omega, by rw [← EA.out]; exact SB.out⟩
                  case measure => simp [intOf]; omega
            · have hd : decide (a < p) = false := decide_eq_false hla
              have hdi : decide ((a : Int) < (p : Int)) = false := decide_eq_false (by omega)
              obtain rfl : a = p := by omega
              have ER := Lib.hid (stF_r (D := D) (p := a) (n := n) r)
              go_wp2_with fail
              go_roundw
              case rel => exact ⟨r + 1, by go_num, by omega, by rw [← ER.out]; exact SA.out⟩
              case measure => simp [intOf]; omega
        · have hd : decide (r < p) = false := decide_eq_false hlt
          have hdi : decide ((r : Int) < (p : Int)) = false := decide_eq_false (by omega)
          obtain rfl : r = p := by omega
          have SF := SR.out
          rw [HEND.out] at SF
          have HSF := Lib.hid SF
          clear SF SR
          go_wp2_with fail
          go_ret
          exact ⟨some ⟨g, 0, none⟩, r, by rw [HFL.out] <;> rfl, by rw [HFL.out]; exact HSF.out.own.more HB1.out.size, bel_trans HB1.out HSF.out.bel⟩
set_option maxRecDepth 100000 in
set_option maxHeartbeats 1600000 in
theorem callSameFlags (A A' : Option Addr) (c c' : Nat) (xs : List Bool) (w : World) (B : Nat) (hB : B ≤ w.heap.size) (hm : xs.length ≤ 1048576) (hr : Rd eBool w B A xs) (hr' : Rd eBool w B A' xs) :
    Calls Try.prog 15 #[.slice A xs.length c, .slice A' xs.length c'] w fun e w' => e = .returned (.bool true) ∧ Below w.heap.size w w' := by
  have HR := Lib.hid hr
  have HR' := Lib.hid hr'
  clear hr hr'
  have hd0 : ((xs.length : Int) != (xs.length : Int)) = false := by simp
  go_enter Try.func15, Try.ntmps15
  go_wp2
  go_loopw [5] (fun i wr => ∃ k : Nat, k ≤ xs.length ∧ i = .int .i64 k ∧ Below w.heap.size w wr) (fun i _ => xs.length - (intOf i).toNat)
  case atStart => exact ⟨0, by omega, rfl, Below.refl _ _⟩
  case round =>
    obtain ⟨k, hk, rfl, hbl⟩ := hrel
    have HB := Lib.hid hbl
    clear hbl
    by_cases hlt : k < xs.length
    · have hd : decide ((k : Int) < xs.length) = true := decide_eq_true (by omega)
      have hdn : decide (k < xs.length) = true := decide_eq_true hlt
      obtain ⟨b, off, rfl, hbB, h1⟩ := (HR.out.below (HB.out.mono hB)).at1 rfl hlt rfl
      obtain ⟨b', off', rfl, hbB', h2⟩ := (HR'.out.below (HB.out.mono hB)).at1 rfl hlt rfl
      have k1 := cell_regrown h1
      have k2 := cell_regrown h2
      have hne : (xs[k] != xs[k]) = false := by simp
      go_upto_region 6 with (fail)
      go_quiet (fail)
      clear h1 h2 k1 k2
      go_wp2
      go_roundw
      case rel => exact ⟨k + 1, by omega, by go_num, below_drewN HB.out _⟩
      case measure => simp [intOf]; omega
    · have hd : decide ((k : Int) < xs.length) = false := decide_eq_false (by omega)
      have hdn : decide (k < xs.length) = false := decide_eq_false hlt
      go_wp2
      go_ret
      exact ⟨rfl, HB.out⟩
end Go.Proofs.Ytiodpnhokjkjaaa
