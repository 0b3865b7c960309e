/- Channels and flows of the reference, for every input; and when two lists of flags are the same. -/
import Derived.Test.YtiodpnhokjkjaaaFle
import Derived.Deep.QuietTactic
namespace Go.Proofs.Ytiodpnhokjkjaaa
open Go.RowKit Go.Sort

set_option maxRecDepth 100000 in
set_option maxHeartbeats 6400000 in
theorem callSChannelsValid (A : Option Addr) (c : Nat) (cs : List Chn) (parts : Int) (w : World) (B : Nat) (hB : B ≤ w.heap.size) (hm : cs.length ≤ 1048576) (hp1 : -10 ≤ parts) (hp2 : parts ≤ 10) (hr : Rd eChn w B A cs) :
    Calls Try.prog 51 #[.slice A cs.length c, .int .i64 parts] w fun e w' => e = .returned (.bool (chansB cs parts)) ∧ Below w.heap.size w w' := by
  have HR := Lib.hid hr
  have HBADC : Hid (∀ (k : Nat) (h : k < cs.length), chnB parts cs[k] = false → chansB cs parts = false) := fun k h hb => by
    unfold chansB
    rw [all_snoc_false h hb, Bool.and_false]
  have HEND : Hid ((∀ (k : Nat) (h : k < cs.length), chnB parts cs[k] = true) → chansB cs parts = (decide (cs.length ≤ 8) && inB parts 0 5)) := fun h => by
    unfold chansB
    rw [all_of_get (fun i hi => h i hi), Bool.and_true, Bool.and_comm]
  obtain ⟨r, hr'⟩ : ∃ r, r = chansB cs parts := ⟨_, rfl⟩
  rw [← hr'] at HBADC HEND ⊢
  clear hr hr'
  go_enter Try.func51, Try.ntmps51
  go_wp2_with fail
  go_loopw [5] (fun i wr => ∃ k : Nat, i = .int .i64 k ∧ k ≤ cs.length ∧ Hid (∀ (j : Nat) (h : j < cs.length), j < k → chnB parts cs[j] = true) ∧ Hid (Below w.heap.size w wr)) (fun i _ => cs.length - (intOf i).toNat)
  case atStart => exact ⟨0, rfl, by omega, fun _ _ h => by omega, Below.refl _ _⟩
  case round =>
    obtain ⟨k, rfl, hk, HOK, HB⟩ := hrel
    by_cases hlt : k < cs.length
    · have hd : decide (k < cs.length) = true := decide_eq_true hlt
      have hdi : decide ((k : Int) < (cs.length : Int)) = true := decide_eq_true (by omega)
      obtain ⟨b, off, rfl, hbB, o1, o2, o3, o4⟩ := (HR.out.below (HB.out.mono hB)).at4 rfl hlt rfl
      have HX := Lib.hid (HBADC.out k hlt)
      have HNX : Hid (chnB parts cs[k] = true → ∀ (j : Nat) (h : j < cs.length), j < k + 1 → chnB parts cs[j] = true) := fun h1 j h h2 => by
        rcases Nat.lt_or_ge j k with h3 | h3
        · exact HOK.out j h h3
        · obtain rfl : j = k := by omega
          exact h1
      obtain ⟨x, hx⟩ : ∃ x, x = cs[k] := ⟨_, rfl⟩
      rw [← hx] at o1 o2 o3 o4 HX HNX
      clear hx
      obtain ⟨kk, f, t, s⟩ := x
      have ES := Lib.hid (chnB_spec parts kk f t s)
      obtain ⟨ok, hok⟩ : ∃ ok, ok = chnB parts ⟨kk, f, t, s⟩ := ⟨_, rfl⟩
      rw [← hok] at HX HNX ES
      simp only at o1 o2 o3 o4
      have HB2 := Lib.hid (bel_trans HB.out (below1 wr (.cells #[.int .i64 kk, .int .i64 f, .int .i64 t, .int .i64 s] 64)))
      clear hok HOK
      obtain ⟨x0, x1, x2, x3⟩ := cell4 (heap_alloc_new wr (.cells #[.int .i64 kk, .int .i64 f, .int .i64 t, .int .i64 s] 64))
      go_upto_region 5 with (fail)
      obtain ⟨u, hu⟩ : ∃ u, u = wr.alloc (.cells #[.int .i64 kk, .int .i64 f, .int .i64 t, .int .i64 s] 64) := ⟨_, rfl⟩
      obtain ⟨X, hX⟩ : ∃ X, X = wr.heap.size := ⟨_, rfl⟩
      rw [← hu] at HB2 x0 x1 x2 x3 ⊢
      rw [← hX] at x0 x1 x2 x3 ⊢
      clear hu hX o1 o2 o3 o4
      by_cases hgood : inB kk 1 3 = true ∧ inB f 0 (parts - 1) = true ∧ inB t 0 (parts - 1) = true ∧ (f == t) = false ∧ inB s 1 4 = true ∧ ((kk == 1) = false ∨ ((kk == 1) = true ∧ (s != 1) = false))
      · obtain ⟨g1, g2, g3, g4, g5, g6⟩ := hgood
        rw [g1, g2, g3, g4, g5] at ES
        have HN1 : Hid (∀ (j : Nat) (h : j < cs.length), j < k + 1 → chnB parts cs[j] = true) := HNX.out (by
          rw [ES.out]
          rcases g6 with h | ⟨h1, h2⟩
          · rw [h]; rfl
          · rw [h1, h2]; rfl)
        rcases g6 with h6 | ⟨h6, h7⟩
        all_goals
          go_wp2_with (go_at_call 52; refine (callL1In _ _ _ _).mono ?_; rintro e w' ⟨rfl, rfl⟩)
          go_roundw
          case rel => exact ⟨k + 1, by go_num, by omega, HN1.out, HB2.out⟩
          case measure => simp [intOf]; omega
      · have HF : Hid (r = false) := HX.out (by
          rw [ES.out]
          rw [Bool.eq_false_iff]
          intro h
          rw [Bool.and_eq_true, Bool.and_eq_true, Bool.and_eq_true, Bool.and_eq_true, Bool.and_eq_true, Bool.not_eq_true', Bool.not_eq_true', Bool.and_eq_false_iff] at h
          obtain ⟨⟨⟨⟨⟨h1, h2⟩, h3⟩, h4⟩, h5⟩, h6⟩ := h
          refine hgood ⟨h1, h2, h3, h4, h5, ?_⟩
          cases hq : (kk == 1)
          · exact .inl rfl
          · refine .inr ⟨rfl, ?_⟩
            rcases h6 with h6 | h6
            · rw [hq] at h6; cases h6
            · exact h6)
        clear ES HX HNX HEND HBADC
        cases g1 : inB kk 1 3
        · go_wp2_with (go_at_call 52; refine (callL1In _ _ _ _).mono ?_; rintro e w' ⟨rfl, rfl⟩)
          go_ret
          exact ⟨by rw [HF.out] <;> rfl, HB2.out⟩
        · cases g2 : inB f 0 (parts - 1)
          · go_wp2_with (go_at_call 52; refine (callL1In _ _ _ _).mono ?_; rintro e w' ⟨rfl, rfl⟩)
            go_ret
            exact ⟨by rw [HF.out] <;> rfl, HB2.out⟩
          · cases g3 : inB t 0 (parts - 1)
            · go_wp2_with (go_at_call 52; refine (callL1In _ _ _ _).mono ?_; rintro e w' ⟨rfl, rfl⟩)
              go_ret
              exact ⟨by rw [HF.out] <;> rfl, HB2.out⟩
            · cases g4 : (f == t)
              · cases g5 : inB s 1 4
                · go_wp2_with (go_at_call 52; refine (callL1In _ _ _ _).mono ?_; rintro e w' ⟨rfl, rfl⟩)
                  go_ret
                  exact ⟨by rw [HF.out] <;> rfl, HB2.out⟩
                · cases g6 : (kk == 1)
                  · exact absurd ⟨g1, g2, g3, g4, g5, .inl g6⟩ hgood
                  · cases g7 : (s != 1)
                    · exact absurd ⟨g1, g2, g3, g4, g5, .inr ⟨g6, g7⟩⟩ hgood
                    · clear hgood
                      go_wp2_with (go_at_call 52; refine (callL1In _ _ _ _).mono ?_; rintro e w' ⟨rfl, rfl⟩)
                      go_ret
                      exact ⟨by rw [HF.out] <;> rfl, HB2.out⟩
              · go_wp2_with (go_at_call 52; refine (callL1In _ _ _ _).mono ?_; rintro e w' ⟨rfl, rfl⟩)
                go_ret
                exact ⟨by rw [HF.out] <;> rfl, HB2.out⟩
    · have hd : decide (k < cs.length) = false := decide_eq_false hlt
      have hdi : decide ((k : Int) < (cs.length : Int)) = false := decide_eq_false (by omega)
      have HE := Lib.hid (HEND.out (fun j h => HOK.out j h (by omega)))
      clear HEND HBADC
      by_cases h8 : cs.length ≤ 8
      · have d8 : decide (cs.length ≤ 8) = true := decide_eq_true h8
        have d8i : decide ((cs.length : Int) ≤ 8) = true := decide_eq_true (by omega)
        rw [d8] at HE
        go_wp2_with (go_at_call 52; refine (callL1In _ _ _ _).mono ?_; rintro e w' ⟨rfl, rfl⟩)
        go_ret
        exact ⟨by rw [HE.out] <;> rfl, HB.out⟩
      · have d8 : decide (cs.length ≤ 8) = false := decide_eq_false h8
        have d8i : decide ((cs.length : Int) ≤ 8) = false := decide_eq_false (by omega)
        rw [d8] at HE
        go_wp2_with (go_at_call 52; refine (callL1In _ _ _ _).mono ?_; rintro e w' ⟨rfl, rfl⟩)
        go_ret
        exact ⟨by rw [HE.out] <;> rfl, HB.out⟩
set_option maxRecDepth 100000 in
set_option maxHeartbeats 6400000 in
theorem callSFlowDirect (A : Option Addr) (c : Nat) (cs : List Chn) (parts f t : Int) (w : World) (B : Nat) (hB : B ≤ w.heap.size) (hm : cs.length ≤ 1048576) (hok : chansB cs parts = true) (hf : inB f 0 (parts - 1) = true) (ht : inB t 0 (parts - 1) = true) (hr : Rd eChn w B A cs) :
    Calls Try.prog 53 #[.slice A cs.length c, .int .i64 parts, .int .i64 f, .int .i64 t] w fun e w' => e = .returned (.bool (dirB cs f t)) ∧ Below w.heap.size w w' := by
  have hp := chans_parts hok
  have V := callSChannelsValid A c cs parts w B hB hm (by omega) (by omega) hr
  rw [hok] at V
  have HV := Lib.hid V
  have HR := Lib.hid hr
  have E0 : Hid (((f == t) || (cs.take 0).any (carries f t)) = (f == t)) := by show _ = _; simp
  have ES : Hid (∀ (k : Nat) (h : k < cs.length), ((f == t) || (cs.take (k + 1)).any (carries f t)) = (((f == t) || (cs.take k).any (carries f t)) || carries f t cs[k])) := fun k h => by
    rw [List.take_succ_eq_append_getElem h, List.any_append, ← Bool.or_assoc]; simp
  have EN : Hid (((f == t) || (cs.take cs.length).any (carries f t)) = dirB cs f t) := by show _ = _; rw [List.take_length]; rfl
  obtain ⟨fnd, hfnd⟩ : ∃ fnd : Nat → Bool, fnd = fun k => ((f == t) || (cs.take k).any (carries f t)) := ⟨_, rfl⟩
  have F0 : Hid (fnd 0 = (f == t)) := by rw [hfnd]; exact E0.out
  have FS' : Hid (∀ (k : Nat) (h : k < cs.length), fnd (k + 1) = (fnd k || carries f t cs[k])) := by rw [hfnd]; exact ES.out
  have FE : Hid (fnd cs.length = dirB cs f t) := by rw [hfnd]; exact EN.out
  obtain ⟨r, hr'⟩ : ∃ r, r = dirB cs f t := ⟨_, rfl⟩
  rw [← hr'] at FE ⊢
  clear V hr hr' hfnd E0 ES EN
  go_enter Try.func53, Try.ntmps53
  go_wp2_with fail
  refine HV.out.mono ?_
  rintro e w1 ⟨rfl, hb1⟩
  have HB1 := Lib.hid hb1
  clear hb1
  go_wp2_with (go_at_call 52; refine (callL1In _ _ _ _).mono ?_; rintro e w' ⟨rfl, rfl⟩)
  clear hok hf ht
  go_loopw [9, 10] (fun v i wr => ∃ k : Nat, i = .int .i64 k ∧ v = .bool (fnd k) ∧ k ≤ cs.length ∧ Hid (Below w.heap.size w wr)) (fun _ i _ => cs.length - (intOf i).toNat)
  case atStart => exact ⟨0, rfl, by rw [F0.out], by omega, HB1.out⟩
  case round =>
    obtain ⟨k, rfl, rfl, hk, HB⟩ := hrel
    by_cases hlt : k < cs.length
    · have hd : decide (k < cs.length) = true := decide_eq_true hlt
      have hdi : decide ((k : Int) < (cs.length : Int)) = true := decide_eq_true (by omega)
      obtain ⟨b, off, rfl, hbB, o1, o2, o3, o4⟩ := (HR.out.below (HB.out.mono hB)).at4 rfl hlt rfl
      have HS := Lib.hid (FS'.out k hlt)
      obtain ⟨x, hx⟩ : ∃ x, x = cs[k] := ⟨_, rfl⟩
      rw [← hx] at o1 o2 o3 o4 HS
      clear hx
      obtain ⟨kk, a, b', s⟩ := x
      have EC : Hid (carries f t ⟨kk, a, b', s⟩ = ((a == f && b' == t) || ((kk == 3 && a == t) && b' == f))) := rfl
      rw [EC.out] at HS
      simp only at o1 o2 o3 o4
      have HB2 := Lib.hid (bel_trans HB.out (below1 wr (.cells #[.int .i64 kk, .int .i64 a, .int .i64 b', .int .i64 s] 64)))
      clear EC
      obtain ⟨x0, x1, x2, x3⟩ := cell4 (heap_alloc_new wr (.cells #[.int .i64 kk, .int .i64 a, .int .i64 b', .int .i64 s] 64))
      go_upto_region 8 with (fail)
      obtain ⟨u, hu⟩ : ∃ u, u = wr.alloc (.cells #[.int .i64 kk, .int .i64 a, .int .i64 b', .int .i64 s] 64) := ⟨_, rfl⟩
      obtain ⟨X, hX⟩ : ∃ X, X = wr.heap.size := ⟨_, rfl⟩
      rw [← hu] at HB2 x0 x1 x2 x3 ⊢
      rw [← hX] at x0 x1 x2 x3 ⊢
      clear hu hX o1 o2 o3 o4
      obtain ⟨q, hq⟩ : ∃ q, q = fnd k := ⟨_, rfl⟩
      rw [← hq] at HS ⊢
      clear hq
      cases q
      · cases q1 : (a == f) <;> cases q2 : (b' == t) <;> cases q3 : (kk == 3) <;> cases q4 : (a == t)
        all_goals
          rw [q1, q2, q3, q4] at HS
          go_wp2
          go_roundw
          case rel => exact ⟨k + 1, by go_num, by rw [HS.out] <;> rfl, by omega, HB2.out⟩
          case measure => simp [intOf]; omega
      · go_wp2
        go_roundw
        case rel => exact ⟨k + 1, by go_num, by rw [HS.out] <;> rfl, by omega, HB2.out⟩
        case measure => simp [intOf]; omega
    · have hd : decide (k < cs.length) = false := decide_eq_false hlt
      have hdi : decide ((k : Int) < (cs.length : Int)) = false := decide_eq_false (by omega)
      obtain rfl : k = cs.length := by omega
      rw [FE.out]
      go_wp2
      go_ret
      exact ⟨rfl, HB.out⟩
end Go.Proofs.Ytiodpnhokjkjaaa
