/- Who may have influence: FlowsTo, FlowDirect of the program; channels and flows of the reference, for every input. -/
import Derived.Test.YtiodpnhokjkjaaaFld
namespace Go.Proofs.Ytiodpnhokjkjaaa
open Go.RowKit Go.Sort

theorem chnB_spec (parts k f t s : Int) : chnB parts ⟨k, f, t, s⟩ = (((((inB k 1 3 && inB f 0 (parts - 1)) && inB t 0 (parts - 1)) && !(f == t)) && inB s 1 4) && !(k == 1 && s != 1)) := by
  have e : chnB parts ⟨k, f, t, s⟩ = (((sizedB k s && inB f 0 (parts - 1)) && inB t 0 (parts - 1)) && !(f == t)) := rfl
  rw [e]
  have h : sizedB k s = ((inB k 1 3 && inB s 1 4) && !(k == 1 && s != 1)) := by
    unfold sizedB
    rw [Bool.eq_iff_iff]
    simp only [Bool.and_eq_true, Bool.or_eq_true, beq_iff_eq, inB_iff, Bool.not_eq_true', Bool.and_eq_false_iff, beq_eq_false_iff_ne, bne_eq_false_iff_eq]
    omega
  rw [h]
  cases inB k 1 3 <;> cases inB s 1 4 <;> cases inB f 0 (parts - 1) <;> cases inB t 0 (parts - 1) <;> cases (f == t) <;> cases (k == 1 && s != 1) <;> rfl
def FlRes (w : World) (r : List Bool) (e : Ending) (w' : World) : Prop :=
  ∃ A c, e = .returned (.slice A r.length c) ∧ Own eBool 4 w' w.heap.size (.slice A r.length c) r ∧ Below w.heap.size w w'
theorem flowRes_bad {cs : List Chn} {parts n : Int} (h : (chansB cs parts && inB n 0 (parts - 1)) = false) : flowRes cs parts n = [] := by unfold flowRes; rw [h]; rfl
theorem flowRes_good {cs : List Chn} {p n : Nat} (h : chansB cs p = true) (hn : inB (n : Int) 0 ((p : Int) - 1) = true) : flowRes cs p n = flowsB (fun (a b : Nat) => dirB cs a b) p n := by
  unfold flowRes; rw [h, hn]; rfl
theorem chans_parts {cs : List Chn} {parts : Int} (h : chansB cs parts = true) : 0 ≤ parts ∧ parts ≤ 5 := by
  unfold chansB at h
  rw [Bool.and_eq_true, Bool.and_eq_true] at h
  exact inB_iff.1 h.1.1
set_option maxHeartbeats 1600000 in
theorem callFlowsTo (A : Option Addr) (c : Nat) (cs : List Chn) (parts n : Int) (w : World) (B : Nat) (hB : B ≤ w.heap.size) (hm : cs.length ≤ 1048576) (hp1 : -10 ≤ parts) (hp2 : parts ≤ 10) (hr : Rd eChn w B A cs) :
    Calls Try.prog 14 #[.slice A cs.length c, .int .i64 parts, .int .i64 n] w (FlRes w (flowRes cs parts n)) := by
  have V := Lib.hid (callChannelsValid A c cs parts w B hB hm hp1 hp2 hr)
  have HBAD : Hid ((chansB cs parts && inB n 0 (parts - 1)) = false → flowRes cs parts n = []) := flowRes_bad
  cases q1 : chansB cs parts
  · rw [q1] at V HBAD
    have HE : Hid (flowRes cs parts n = []) := HBAD.out rfl
    rw [HE.out]
    clear q1 HBAD hr
    go_enter Try.func14, Try.ntmps14
    go_wp2_with fail
    refine V.out.mono ?_
    rintro e w1 ⟨rfl, hb1⟩
    have HB1 := Lib.hid hb1
    clear hb1
    go_wp2
    go_ret
    exact ⟨none, 0, rfl, Own.none_, HB1.out⟩
  · cases q2 : inB n 0 (parts - 1)
    · rw [q1] at V
      rw [q1, q2] at HBAD
      have HE : Hid (flowRes cs parts n = []) := HBAD.out rfl
      rw [HE.out]
      clear q1 HBAD hr
      go_enter Try.func14, Try.ntmps14
      go_wp2_with fail
      refine V.out.mono ?_
      rintro e w1 ⟨rfl, hb1⟩
      have HB1 := Lib.hid hb1
      clear hb1
      go_wp2_with (go_at_call 49; refine (callIn _ _ _ _).mono ?_; rintro e w' ⟨rfl, rfl⟩)
      go_ret
      exact ⟨none, 0, rfl, Own.none_, HB1.out⟩
    · have hp := chans_parts q1
      have hn := inB_iff.1 q2
      obtain ⟨p, rfl⟩ := Int.eq_ofNat_of_zero_le hp.1
      obtain ⟨m, rfl⟩ := Int.eq_ofNat_of_zero_le hn.1
      have HE := Lib.hid (flowRes_good q1 q2)
      rw [HE.out]
      have HF : Hid (∀ W, Below w.heap.size w W → Calls Try.prog 50 #[.slice A cs.length c, .int .i64 p, .int .i64 m] W fun e w' => ∃ g, e = .returned (.slice (some ⟨g, 0, none⟩) p p) ∧ FS W g p (flowsB (fun (a b : Nat) => dirB cs a b) p m) w') := fun W hW => callFlows A c cs p m W B (Nat.le_trans hB hW.size) hm (by omega) (by omega) (hr.below (hW.mono hB))
      have hfl : (flowsB (fun (a b : Nat) => dirB cs a b) p m).length = p := flows_len
      obtain ⟨r, hr'⟩ : ∃ r, r = flowsB (fun (a b : Nat) => dirB cs a b) p m := ⟨_, rfl⟩
      rw [← hr'] at HF hfl ⊢
      have HFL := Lib.hid hfl
      rw [q1] at V
      clear HBAD hr hr' hfl HE q1
      go_enter Try.func14, Try.ntmps14
      go_wp2_with fail
      refine V.out.mono ?_
      rintro e w1 ⟨rfl, hb1⟩
      have HB1 := Lib.hid hb1
      clear hb1
      go_wp2_with (go_at_call 49; refine (callIn _ _ _ _).mono ?_; rintro e w' ⟨rfl, rfl⟩)
      refine (HF.out _ HB1.out).mono ?_
      rintro e w2 ⟨g, rfl, hs⟩
      have HS := Lib.hid hs
      clear hs
      go_wp2
      go_ret
      exact ⟨some ⟨g, 0, none⟩, p, by rw [HFL.out] <;> rfl, by rw [HFL.out]; exact HS.out.own.more HB1.out.size, bel_trans HB1.out HS.out.bel⟩
set_option maxHeartbeats 1600000 in
theorem callFlowDirect (A : Option Addr) (c : Nat) (cs : List Chn) (parts f t : Int) (w : World) (B : Nat) (hB : B ≤ w.heap.size) (hm : cs.length ≤ 1048576) (hp1 : -10 ≤ parts) (hp2 : parts ≤ 10) (hr : Rd eChn w B A cs) :
    Calls Try.prog 24 #[.slice A cs.length c, .int .i64 parts, .int .i64 f, .int .i64 t] w fun e w' => e = .returned (.bool (flowDir cs parts f t)) ∧ Below w.heap.size w w' := by
  have E : Hid (flowDir cs parts f t = (((chansB cs parts && inB f 0 (parts - 1)) && inB t 0 (parts - 1)) && dirB cs f t)) := rfl
  have V := Lib.hid (callChannelsValid A c cs parts w B hB hm hp1 hp2 hr)
  have HD : Hid (∀ W, Below w.heap.size w W → Calls Try.prog 62 #[.slice A cs.length c, .int .i64 f, .int .i64 t] W fun e w' => e = .returned (.bool (dirB cs f t)) ∧ Below W.heap.size W w') := fun W hW => callDirect A c cs f t W B (Nat.le_trans hB hW.size) hm (hr.below (hW.mono hB))
  obtain ⟨r, hr'⟩ : ∃ r, r = flowDir cs parts f t := ⟨_, rfl⟩
  obtain ⟨d, hd⟩ : ∃ d, d = dirB cs f t := ⟨_, rfl⟩
  rw [← hr'] at E ⊢
  rw [← hd] at E HD
  clear hr hr' hd
  cases q1 : chansB cs parts
  · rw [q1] at V E
    go_enter Try.func24, Try.ntmps24
    go_wp2_with fail
    refine V.out.mono ?_
    rintro e w1 ⟨rfl, hb1⟩
    go_wp2
    go_ret
    exact ⟨by rw [E.out] <;> rfl, hb1⟩
  · rw [q1] at V E
    cases q2 : inB f 0 (parts - 1)
    · rw [q2] at E
      go_enter Try.func24, Try.ntmps24
      go_wp2_with fail
      refine V.out.mono ?_
      rintro e w1 ⟨rfl, hb1⟩
      go_wp2_with (go_at_call 49; refine (callIn _ _ _ _).mono ?_; rintro e w' ⟨rfl, rfl⟩)
      go_ret
      exact ⟨by rw [E.out] <;> rfl, hb1⟩
    · cases q3 : inB t 0 (parts - 1)
      · rw [q2, q3] at E
        go_enter Try.func24, Try.ntmps24
        go_wp2_with fail
        refine V.out.mono ?_
        rintro e w1 ⟨rfl, hb1⟩
        go_wp2_with (go_at_call 49; refine (callIn _ _ _ _).mono ?_; rintro e w' ⟨rfl, rfl⟩)
        go_ret
        exact ⟨by rw [E.out] <;> rfl, hb1⟩
      · rw [q2, q3] at E
        go_enter Try.func24, Try.ntmps24
        go_wp2_with fail
        refine V.out.mono ?_
        rintro e w1 ⟨rfl, hb1⟩
        have HB1 := Lib.hid hb1
        clear hb1
        go_wp2_with (go_at_call 49; refine (callIn _ _ _ _).mono ?_; rintro e w' ⟨rfl, rfl⟩)
        refine (HD.out _ HB1.out).mono ?_
        rintro e w2 ⟨rfl, hb2⟩
        go_wp2
        go_ret
        exact ⟨by rw [E.out] <;> rfl, bel_trans HB1.out hb2⟩
end Go.Proofs.Ytiodpnhokjkjaaa
