/- The walk of the law FnFlowsTo: true for every input, and nothing that was there is written. -/
import Derived.Test.YtiodpnhokjkjaaaFli
import Derived.Test.YtiodpnhokjkjaaaFlg
namespace Go.Proofs.Ytiodpnhokjkjaaa
open Go.RowKit Go.Sort

set_option maxRecDepth 100000 in
set_option maxHeartbeats 3200000 in
theorem walkFnFlowsTo (A : Option Addr) (c : Nat) (bs : List Int) (w : World) (hc : bs.length ≤ c) (hr : Rd eU8 w w.heap.size A bs) (hby : ∀ x ∈ bs, 0 ≤ x ∧ x ≤ 255) :
    Calls Try.prog 5 #[.slice A bs.length c] w fun e w' => e = .returned (.bool true) ∧ Below w.heap.size w w' := by
  by_cases hl : bs.length ≤ 1048576
  · have HC := Lib.hid (callDrawFlowsTo A c bs w hc hl hr hby)
    clear hr hby
    go_enter Try.func5, Try.ntmps5
    go_wp2_with fail
    refine HC.out.mono ?_
    rintro e u ⟨A1, c1, os, p, n, rfl, hl9, hc1, hp0, hp1, hra, hb1⟩
    have HB1 := Lib.hid hb1
    have HA := Lib.hid hra
    clear hra hb1 HC
    have FI : Hid (∀ (n : Int) (W : World), Below u.heap.size u W → Calls Try.prog 14 #[.slice A1 os.length c1, .int .i64 p, .int .i64 n] W (FlRes W (flowRes os p n))) := fun n W hW => callFlowsTo A1 c1 os p n W W.heap.size (Nat.le_refl _) (by omega) (by omega) (by omega) (HA.out.next hW)
    have FSp : Hid (∀ (W : World), Below u.heap.size u W → Calls Try.prog 16 #[.slice A1 os.length c1, .int .i64 p, .int .i64 n] W (FlRes W (flowRes os p n))) := fun W hW => callSFlowsTo A1 c1 os p n W W.heap.size (Nat.le_refl _) (by omega) (by omega) (by omega) (HA.out.next hW)
    have FT : Hid (∀ (m : Nat) (W : World), m ≤ os.length → Below u.heap.size u W → Calls Try.prog 14 #[.slice A1 m c1, .int .i64 p, .int .i64 n] W (FlRes W (flowRes (os.take m) p n))) := fun m W hm hW => by
      have := callFlowsTo A1 c1 (os.take m) p n W W.heap.size (Nat.le_refl _) (by rw [List.length_take]; omega) (by omega) (by omega) ((HA.out.next hW).take m)
      rw [List.length_take, Nat.min_eq_left hm] at this
      exact this
    have FD : Hid (∀ (a b : Int) (W : World), Below u.heap.size u W → Calls Try.prog 24 #[.slice A1 os.length c1, .int .i64 p, .int .i64 a, .int .i64 b] W fun e w' => e = .returned (.bool (flowDir os p a b)) ∧ Below W.heap.size W w') := fun a b W hW => callFlowDirect A1 c1 os p a b W W.heap.size (Nat.le_refl _) (by omega) (by omega) (by omega) (HA.out.next hW)
    have hlen : (flowRes os p n).length ≤ 5 := by
      cases q : (chansB os p && inB n 0 (p - 1))
      · rw [flowRes_bad q]; simp
      · rw [Bool.and_eq_true] at q
        have h5 := chans_parts q.1
        have hn := inB_iff.1 q.2
        obtain ⟨p, rfl⟩ := Int.eq_ofNat_of_zero_le h5.1
        obtain ⟨n, rfl⟩ := Int.eq_ofNat_of_zero_le hn.1
        rw [flowRes_good q.1 q.2, flows_len]; omega
    have HPL := Lib.hid hlen
    have F1 := FI.out n u (Below.refl _ _)
    have HRB : Hid ((chansB os p && inB n 0 (p - 1)) = false → flowRes os p n = []) := flowRes_bad
    have HRG : Hid (∀ (P N : Nat), p = P → n = N → chansB os p = true → inB n 0 (p - 1) = true → flowRes os p n = flowsB (fun (a b : Nat) => dirB os a b) P N) := fun P N h1 h2 h3 h4 => by
      subst h1; subst h2
      exact flowRes_good h3 h4
    obtain ⟨r, hr⟩ : ∃ r, r = flowRes os p n := ⟨_, rfl⟩
    rw [← hr] at F1 FSp HRB HRG HPL
    have HF1 := Lib.hid F1
    clear F1 hr hlen
    go_wp2_with fail
    refine HF1.out.mono ?_
    rintro e w2 ⟨A3, c3, rfl, hown2, hb2⟩
    have HB2 := Lib.hid hb2
    have HX := Lib.hid hown2.rd
    clear hown2 hb2 HF1
    go_wp2_with fail
    refine (FSp.out w2 HB2.out).mono ?_
    rintro e w3 ⟨A4, c4, rfl, hown4, hb3⟩
    have HB3 := Lib.hid (bel_trans HB2.out hb3)
    have HX3 := Lib.hid (HX.out.next hb3)
    have HP := Lib.hid hown4.rd
    clear hown4 hb3 FSp HX HB2
    have SF := Lib.hid (callSameFlags A3 A4 c3 c4 r w3 w3.heap.size (Nat.le_refl _) (by have := HPL.out; omega) HX3.out HP.out)
    go_wp2_with fail
    refine SF.out.mono ?_
    rintro e w4 ⟨rfl, hb4⟩
    have HB4 := Lib.hid (bel_trans HB3.out hb4)
    have HX4 := Lib.hid (HX3.out.next hb4)
    have BW4 := Lib.hid (bel_trans HB1.out HB4.out)
    clear hb4 HP HX3 HB3 SF
    by_cases hbad : (chansB os p && inB n 0 (p - 1)) = false
    · obtain rfl := HRB.out hbad
      clear hbad HRB HRG
      go_wp2_with fail
      refine (callAlive _).mono ?_
      rintro e w5 ⟨rfl, hb5⟩
      go_wp2
      go_ret
      exact ⟨rfl, bel_trans BW4.out hb5⟩
    · have hgood := (Bool.not_eq_false _).mp hbad
      rw [Bool.and_eq_true] at hgood
      obtain ⟨q1, q2⟩ := hgood
      have h5 := chans_parts q1
      have hnn := inB_iff.1 q2
      obtain ⟨P, rfl⟩ := Int.eq_ofNat_of_zero_le h5.1
      obtain ⟨N, rfl⟩ := Int.eq_ofNat_of_zero_le hnn.1
      have hNP : N < P := by omega
      have hP5 : P ≤ 5 := by omega
      have HG := Lib.hid (HRG.out P N rfl rfl q1 q2)
      have HL : Hid (r.length = P) := by show _ = _; rw [HG.out, flows_len]
      have HQ := Lib.hid q1
      have HCL : Hid (∀ a b, a < P → b < P → dirB os (a : Nat) (b : Nat) = true → r.getD b false = true → r.getD a false = true) := fun a b ha hb hd hx => by
        rw [HG.out] at hx ⊢
        exact flows_closed hNP ha hb hd hx
      have HSELF : Hid (r.getD N false = true) := by show _ = _; rw [HG.out]; exact flows_self hNP
      have hr0 : ((r.length : Int) == 0) = false := by have := HL.out; rw [beq_eq_false_iff_ne]; omega
      have hr1 : ¬ (r = []) := by intro e; have := HL.out; simp [e] at this; omega
      have HR0 := Lib.hid hr0
      have HR1 := Lib.hid hr1
      have hrl2 : r.length ≠ 0 := by have := HL.out; omega
      clear q1 q2 hbad HRB HRG h5 hnn hr1
      go_wp2_with fail
      clear FT hr0 HR0 HR1 hrl2
      have HB44 := Lib.hid (Below.refl w4.heap.size w4)
      go_loopw [7, 8, 9, 10] (fun i _ _ _ wr => ∃ a : Nat, i = .int .i64 a ∧ a ≤ P ∧ Hid (Below w4.heap.size w4 wr)) (fun i _ _ _ _ => P - (intOf i).toNat)
      case atStart => exact ⟨0, rfl, by omega, Below.refl _ _⟩
      case round =>
        clear HB44
        obtain ⟨a, rfl, ha, BAr⟩ := hrel
        by_cases hla : a < P
        · have hd : decide (a < P) = true := decide_eq_true hla
          have hdi : decide ((a : Int) < (P : Int)) = true := decide_eq_true (by omega)
          have hal : a < r.length := by have := HL.out; omega
          have ia0 : (0 : Int) ≤ (a : Int) := by omega
          have ia2 : (a : Int) < (r.length : Int) := by omega
          have HFD : Hid (∀ b : Nat, b < P → r.getD b false = true → r.getD a false = false → flowDir os P a b = false) := fun b hb h1 h2 => by
            unfold flowDir
            rw [Bool.eq_false_iff]
            intro h
            rw [Bool.and_eq_true] at h
            have := HCL.out a b hla hb h.2 h1
            rw [this] at h2; cases h2
          rw [getD_get hal] at HFD
          obtain ⟨va, hva⟩ : ∃ va, va = r[a] := ⟨_, rfl⟩
          rw [← hva] at HFD
          have HVA := Lib.hid hva
          clear hva
          go_wp2_with fail
          go_loopw [8] (fun i wr => ∃ b : Nat, i = .int .i64 b ∧ b ≤ P ∧ Hid (Below w4.heap.size w4 wr)) (fun i _ => P - (intOf i).toNat)
          case atStart => exact ⟨0, rfl, by omega, BAr.out⟩
          case round =>
            clear BAr hd hdi
            obtain ⟨b, rfl, hb, BBr⟩ := hrel
            obtain ⟨bx, offx, hA3, _, oa⟩ := (HX4.out.next BBr.out).at1 rfl hal rfl
            rw [← HVA.out] at oa
            subst hA3
            by_cases hlb : b < P
            · have hdb : decide (b < P) = true := decide_eq_true hlb
              have hdbi : decide ((b : Int) < (P : Int)) = true := decide_eq_true (by omega)
              have hbl : b < r.length := by have := HL.out; omega
              have ib0 : (0 : Int) ≤ (b : Int) := by omega
              have ib2 : (b : Int) < (r.length : Int) := by omega
              obtain ⟨bx2, offx2, hA32, _, ob⟩ := (HX4.out.next BBr.out).at1 rfl hbl rfl
              simp only [Option.some.injEq, Addr.mk.injEq, and_true] at hA32
              obtain ⟨rfl, rfl⟩ := hA32
              have HF2 := Lib.hid (HFD.out b hlb)
              rw [getD_get hbl] at HF2
              obtain ⟨vb, hvb⟩ : ∃ vb, vb = r[b] := ⟨_, rfl⟩
              rw [← hvb] at ob HF2
              clear hvb
              cases vb
              · go_wp2_with fail
                go_roundw
                case rel => exact ⟨b + 1, by go_num, by omega, BBr.out⟩
                case measure => simp [intOf]; omega
              · cases va
                · have CD := FD.out a b wr (bel_trans HB4.out BBr.out)
                  rw [HF2.out rfl rfl] at CD
                  have HCD := Lib.hid CD
                  clear CD
                  go_wp2_with fail
                  refine HCD.out.mono ?_
                  rintro e w6 ⟨rfl, hb6⟩
                  have BB6 := Lib.hid (bel_trans BBr.out hb6)
                  clear hb6
                  go_wp2_with fail
                  go_roundw
                  case rel => exact ⟨b + 1, by go_num, by omega, BB6.out⟩
                  case measure => simp [intOf]; omega
                · go_wp2_with fail
                  go_roundw
                  case rel => exact ⟨b + 1, by go_num, by omega, BBr.out⟩
                  case measure => simp [intOf]; omega
            · have hdb : decide (b < P) = false := decide_eq_false hlb
              have hdbi : decide ((b : Int) < (P : Int)) = false := decide_eq_false (by omega)
              have BAr := BBr
              cases va
              · go_wp2_with fail
                go_roundw
                case rel => exact ⟨a + 1, by go_num, by omega, BAr.out⟩
                case measure => simp [intOf]; omega
              · have HRA : Hid (r.getD a false = true) := by show _ = _; rw [getD_get hal]; exact HVA.out.symm
                have FY := FI.out a wr (bel_trans HB4.out BAr.out)
                have HYG : Hid (flowRes os P a = flowsB (fun (a b : Nat) => dirB os a b) P a) := flowRes_good HQ.out (inB_iff.2 ⟨by omega, by omega⟩)
                have HYX : Hid (∀ b, b < P → (flowRes os P a).getD b false = true → r.getD b false = true) := fun b _ h => by
                  rw [HYG.out] at h
                  exact flows_sub (S := fun i => r.getD i false = true) HRA.out (fun a b ha hb hd hx => HCL.out a b ha hb hd hx) h
                have HYL : Hid ((flowRes os P a).length = P) := by show _ = _; rw [HYG.out, flows_len]
                obtain ⟨y, hy⟩ : ∃ y, y = flowRes os P a := ⟨_, rfl⟩
                rw [← hy] at FY HYX HYL
                have HFY := Lib.hid FY
                clear FY hy HYG
                go_wp2_with fail
                refine HFY.out.mono ?_
                rintro e w5 ⟨A5, c5, rfl, hown5, hb5⟩
                have HYR := Lib.hid hown5.rd
                have HXR := Lib.hid (HX4.out.next (bel_trans BAr.out hb5))
                have B45 := Lib.hid (bel_trans BAr.out hb5)
                clear hown5 hb5 HFY hdb hdbi hlb hb oa
                go_wp2_with fail
                go_loopw [10] (fun i wr => ∃ b : Nat, i = .int .i64 b ∧ b ≤ P ∧ Hid (Below w5.heap.size w5 wr)) (fun i _ => P - (intOf i).toNat)
                case atStart => exact ⟨0, rfl, by omega, Below.refl _ _⟩
                case round =>
                  clear BAr BBr
                  obtain ⟨b, rfl, hb, BBr⟩ := hrel
                  by_cases hlb : b < P
                  · have hdb : decide (b < P) = true := decide_eq_true hlb
                    have hdbi : decide ((b : Int) < (P : Int)) = true := decide_eq_true (by omega)
                    have hyl : b < y.length := by have := HYL.out; omega
                    have hxl : b < r.length := by have := HL.out; omega
                    have hgy : decide ((b : Int) ≥ (y.length : Int)) = false := decide_eq_false (by omega)
                    have hgy2 : decide (y.length ≤ b) = false := decide_eq_false (by omega)
                    obtain ⟨by', offy, rfl, _, oy⟩ := (HYR.out.next BBr.out).at1 rfl hyl rfl
                    obtain ⟨bx', offx', hAx, _, ox⟩ := (HXR.out.next BBr.out).at1 rfl hxl rfl
                    simp only [Option.some.injEq, Addr.mk.injEq, and_true] at hAx
                    obtain ⟨rfl, rfl⟩ := hAx
                    have HI := Lib.hid (HYX.out b hlb)
                    rw [getD_get hyl, getD_get hxl] at HI
                    obtain ⟨vy, hvy⟩ : ∃ vy, vy = y[b] := ⟨_, rfl⟩
                    obtain ⟨vx, hvx⟩ : ∃ vx, vx = r[b] := ⟨_, rfl⟩
                    rw [← hvy] at oy HI
                    rw [← hvx] at ox HI
                    clear hvy hvx
                    have ib0 : (0 : Int) ≤ (b : Int) := by omega
                    have ib1 : (b : Int) < (y.length : Int) := by omega
                    have ib2 : (b : Int) < (r.length : Int) := by omega
                    cases vy
                    · go_wp2
                      go_roundw
                      case rel => exact ⟨b + 1, by go_num, by omega, BBr.out⟩
                      case measure => simp [intOf]; omega
                    · have hx1 : vx = true := HI.out rfl
                      subst hx1
                      go_wp2
                      go_roundw
                      case rel => exact ⟨b + 1, by go_num, by omega, BBr.out⟩
                      case measure => simp [intOf]; omega
                  · have hdb : decide (b < P) = false := decide_eq_false hlb
                    have hdbi : decide ((b : Int) < (P : Int)) = false := decide_eq_false (by omega)
                    go_wp2_with fail
                    go_roundw
                    case rel => exact ⟨a + 1, by go_num, by omega, bel_trans B45.out BBr.out⟩
                    case measure => simp [intOf]; omega
        · have hd : decide (a < P) = false := decide_eq_false hla
          have hdi : decide ((a : Int) < (P : Int)) = false := decide_eq_false (by omega)
          have hnl : N < r.length := by have := HL.out; omega
          have in0 : (0 : Int) ≤ (N : Int) := by omega
          have in2 : (N : Int) < (r.length : Int) := by omega
          obtain ⟨bx, offx, rfl, _, ox⟩ := (HX4.out.next BAr.out).at1 rfl hnl rfl
          have HS := Lib.hid HSELF.out
          rw [getD_get hnl] at HS
          rw [HS.out] at ox
          go_wp2_with fail
          go_ret
          exact ⟨rfl, bel_trans BW4.out BAr.out⟩
  · have hl' : 1048576 < bs.length := by omega
    clear hr hby hl
    go_enter Try.func5, Try.ntmps5
    go_wp2
    go_ret
    exact ⟨rfl, Below.refl _ _⟩
end Go.Proofs.Ytiodpnhokjkjaaa
