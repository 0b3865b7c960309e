/- LinkRun of the reference, for every input. -/
import Derived.Test.YtonhkadbiepedaaLns
import Derived.Test.YtonhkadbiepedaaWLinkTake
namespace Go.Proofs.Ytonhkadbiepedaa
open Go.RowKit Go.Sort

theorem allB_false {vs : List Int} {t : Nat} (h : t < vs.length) (hv : vB vs[t] = false) : vs.all vB = false := all_snoc_false h hv
set_option maxRecDepth 100000 in
set_option maxHeartbeats 6400000 in
theorem callSLinkRun (A : Option Addr) (c : Nat) (d : Int) (vs : List Int) (w : World) (B : Nat) (hB : B ≤ w.heap.size) (hm : vs.length ≤ 1000) (hr : Rd eInt w B A vs) :
    Calls Try.prog 28 #[.int .i64 d, .slice A vs.length c] w (RunRes w (linkRun d vs)) := by
  have hbad := linkRun_bad (d := d) (vs := vs)
  have HR := Lib.hid hr
  clear hr
  cases q1 : inB d 0 50
  · rw [q1] at hbad
    rw [hbad rfl]
    clear hbad
    go_enter Try.func28, Try.ntmps28
    go_wp2_with (go_at_call 38; refine (callL1In _ _ _ _).mono ?_; rintro e w' ⟨rfl, rfl⟩)
    go_ret
    exact ⟨some ⟨w.heap.size, 0, none⟩, 0, rfl, Own.none_, Nat.le_refl _, below1 _ _⟩
  · by_cases hl : vs.length ≤ 40
    · have hd : decide (40 < (vs.length : Int)) = false := decide_eq_false (by omega)
      have hd2 : decide (40 < vs.length) = false := decide_eq_false (by omega)
      rw [q1, decide_eq_true hl] at hbad
      have hb := inB_iff.1 q1
      obtain ⟨dn, hdn⟩ := Int.eq_ofNat_of_zero_le hb.1
      have hE : Hid (vs.all vB = true → linkRun d vs = (runL d vs (vs.length + dn)).2) := fun hall => by
        unfold linkRun
        rw [q1, decide_eq_true hl, hall]
        simp [hdn]
      have hE2 : Hid (vs.all vB = false → linkRun d vs = []) := fun hall => hbad (by rw [hall]; rfl)
      have HI : Hid (∀ t, t ≤ 1000 → (∀ i (h : i < vs.length), i < t → vB vs[i] = true) → RunI d vs t (runL d vs t).1 (runL d vs t).2) := fun t ht hv => runL_ok hb.1 hb.2 hl t ht hv
      have HM : Hid (∀ t, t ≤ 1000 → (∀ i (h : i < vs.length), i < t + 1 → vB vs[i] = true) → MidI d vs t (midL d vs (runL d vs t).1 t) (runL d vs t).2) := fun t ht hv => (HI.out t ht (fun i h hi => hv i h (by omega))).mid hb.1 hb.2 ht (fun h => hv t h (by omega))
      have HS : Hid (∀ t (h : t < vs.length), midL d vs (runL d vs t).1 t = if linkFull d (runL d vs t).1 t then (runL d vs t).1 else (runL d vs t).1 ++ [⟨(t : Int) + d, vs[t]⟩]) := fun t h => by
        unfold midL; rw [List.getElem?_eq_getElem h]; rfl
      have HN : Hid (∀ t, vs.length ≤ t → midL d vs (runL d vs t).1 t = (runL d vs t).1) := fun t h => by
        unfold midL; rw [List.getElem?_eq_none h]
      have HT : Hid (∀ t, (runL d vs (t + 1)).1 = (midL d vs (runL d vs t).1 t).drop (cutN (midL d vs (runL d vs t).1 t) t) ∧ (runL d vs (t + 1)).2 = (runL d vs t).2 ++ ((midL d vs (runL d vs t).1 t).take (cutN (midL d vs (runL d vs t).1 t) t)).map Pkt.value) := fun t => ⟨rfl, rfl⟩
      have hdn50 : dn ≤ 50 := by omega
      obtain ⟨hd0, hd50⟩ := hb
      obtain ⟨r, hr⟩ : ∃ r, r = linkRun d vs := ⟨_, rfl⟩
      rw [← hr] at hE hE2 ⊢
      have HDN := Lib.hid hdn
      clear hbad hdn hr
      go_enter Try.func28, Try.ntmps28
      go_wp2_with (go_at_call 38; refine (callL1In _ _ _ _).mono ?_; rintro e w' ⟨rfl, rfl⟩)
      have S0 : Hid (LRS w (w.heap.size + 1) d (runL d vs 0).1 none 0 (.slice (some ⟨w.heap.size, 0, none⟩) 0 0) (runL d vs 0).2 ((w.alloc (.cells #[] 3)).alloc (.cells #[.int .i64 d, .slice none 0 0] 36))) :=
        ⟨below2 _ _ _, alloc_at1 _ _ _, Own.none_, Nat.le_refl _, Own.none_, by omega⟩
      obtain ⟨X, hX⟩ : ∃ X, X = w.heap.size + 1 := ⟨_, rfl⟩
      rw [← hX] at S0 ⊢
      clear hX
      go_loopw [5, 7] (fun v i wr => ∃ (t : Nat) (A9 : Option Addr) (c9 : Nat), t ≤ vs.length + dn ∧ i = .int .i64 t ∧ Hid (LRS w X d (runL d vs t).1 A9 c9 v (runL d vs t).2 wr) ∧ Hid (∀ i (h : i < vs.length), i < t → vB vs[i] = true)) (fun _ i _ => vs.length + dn - (intOf i).toNat)
      case atStart => exact ⟨0, none, 0, by omega, rfl, S0.out, fun i _ hi => by omega⟩
      case round =>
        clear S0
        obtain ⟨t, A9, c9, ht, rfl, SR, HV⟩ := hrel
        have hXw := SR.out.hX
        by_cases hlt : t < vs.length + dn
        · have hd3 : decide ((t : Int) < (vs.length : Int) + d) = true := decide_eq_true (by have := HDN.out; omega)
          have HIt := Lib.hid (HI.out t (by omega) HV.out)
          have HSt := Lib.hid (HS.out t)
          have HNt := Lib.hid (HN.out t)
          have HTt := Lib.hid (HT.out t)
          have HMt := Lib.hid (HM.out t (by omega))
          obtain ⟨P, hP⟩ : ∃ P, P = (runL d vs t).1 := ⟨_, rfl⟩
          obtain ⟨O, hO⟩ : ∃ O, O = (runL d vs t).2 := ⟨_, rfl⟩
          obtain ⟨Q, hQ⟩ : ∃ Q, Q = midL d vs P t := ⟨_, rfl⟩
          rw [← hP, ← hO] at SR HIt
          rw [← hP, ← hO, ← hQ] at HMt HTt
          rw [← hP, ← hQ] at HSt HNt
          have hPl : P.length ≤ 20 := (linkOk_iff.1 HIt.out.ok).2.2
          have HOl : O.length ≤ 40 := by
            have := HIt.out.sub.length_le
            rw [List.length_append, List.length_take] at this; omega
          clear hP hO hQ
          have htl : (t : Int) ≤ 100000 := by omega
          have ht0 : (0 : Int) ≤ (t : Int) := by omega
          by_cases hlv : t < vs.length
          · have hd4 : decide ((t : Int) < (vs.length : Int)) = true := decide_eq_true (by omega)
            have hd5 : decide (t < vs.length) = true := decide_eq_true hlv
            obtain ⟨b, off, rfl, hbB, h1⟩ := (HR.out.below (SR.out.bel.mono hB)).at1 rfl hlv rfl
            have hbw : b < wr.heap.size := Nat.lt_of_lt_of_le hbB (Nat.le_trans hB SR.out.bel.size)
            have HQE := Lib.hid (HSt.out hlv)
            have HB := Lib.hid (allB_false (vs := vs) hlv)
            have HV0 : Hid (vB vs[t] = true → ∀ i (h : i < vs.length), i < t + 1 → vB vs[i] = true) := fun h0 i h hi => by
              rcases Nat.lt_or_ge i t with g | g
              · exact HV.out i h g
              · have : i = t := by omega
                subst this; exact h0
            obtain ⟨v, hv⟩ : ∃ v, v = vs[t] := ⟨_, rfl⟩
            rw [← hv] at h1 HQE HB HV0
            clear hv
            cases q2 : inB v 0 255
            · have hr0 := hE2.out (HB.out q2)
              subst hr0
              go_wp2_with (go_at_call 38; refine (callL1In _ _ _ _).mono ?_; rintro e w' ⟨rfl, rfl⟩)
              go_ret
              have hbz := bel_trans SR.out.bel (below1 wr (.cells #[] 3))
              exact ⟨some ⟨wr.heap.size, 0, none⟩, 0, rfl, Own.none_, Nat.le_refl _, hbz⟩
            · have HV1 : Hid (∀ i (h : i < vs.length), i < t + 1 → vB vs[i] = true) := HV0.out q2
              have HMM := Lib.hid (HMt.out HV1.out)
              have hQl : Q.length ≤ 20 := (linkOk_iff.1 HMM.out.ok).2.2
              have hg := linkSend_good (d := d) (ps := P) (tick := (t : Int)) (v := v) (by rw [HIt.out.ok, inB_iff.2 ⟨ht0, htl⟩, q2]; rfl)
              rw [← HQE.out] at hg
              have HTE0 := linkTake_good HMM.out.ok ht0 htl
              obtain ⟨D, hD⟩ : ∃ D, D = Q.drop (cutN Q t) := ⟨_, rfl⟩
              obtain ⟨G, hG⟩ : ∃ G, G = (Q.take (cutN Q t)).map Pkt.value := ⟨_, rfl⟩
              have hGl : G.length ≤ 20 := by rw [hG, List.length_map, List.length_take]; omega
              rw [← hD, ← hG] at HTE0 HTt
              have HTE := Lib.hid HTE0
              have CS : Hid (∀ W, LRS w X d P A9 c9 u5 O W → Calls Try.prog 18 #[.agg #[.int .i64 d, .slice A9 P.length c9], .int .i64 t, .int .i64 v] W fun e w' => ∃ A1 c1, e = .returned (.tuple #[.agg #[.int .i64 d, .slice A1 Q.length c1], .bool (!linkFull d P t)]) ∧ Own ePkt 46 w' W.heap.size (.slice A1 Q.length c1) Q ∧ Q.length ≤ c1 ∧ Below W.heap.size W w') := fun W s => by
                have := callSLinkSend A9 c9 d P t v W W.heap.size (Nat.le_refl _) (by omega) s.own.rd
                rw [hg] at this; exact this
              obtain ⟨ff, hff⟩ : ∃ ff, ff = !linkFull d P t := ⟨_, rfl⟩
              rw [← hff] at CS
              clear hff hD hG hg HTE0
              obtain ⟨x0, x1, x2, x3, x4⟩ := cell2 SR.out.box
              have SV : Hid (LRS w X d P A9 c9 u5 O (wr.alloc (.cells #[.int .i64 0, .slice none 0 0] 36)).drew) := (SR.out.next (below1 wr _)).drew
              obtain ⟨xa0, xa1, _, _, _⟩ := cell2 SV.out.box
              have hVs : Hid (wr.heap.size < (wr.alloc (.cells #[.int .i64 0, .slice none 0 0] 36)).drew.heap.size) := by show wr.heap.size < (wr.alloc _).heap.size; rw [World.size_alloc]; omega
              go_wp2_with (go_at_call 38; refine (callL1In _ _ _ _).mono ?_; rintro e w' ⟨rfl, rfl⟩)
              go_region_law? (go_simp; go_at_call 18; first
                | ((with_reducible refine (CS.out _ SR.out.drew).mono ?_); rintro e w5 ⟨A5, c5, rfl, ho5, hc5, hb5⟩; obtain ⟨n0, n1, n2, n3, n4⟩ := cell2 (blkc SR.out.drew.box hb5); obtain ⟨k0, k1, k2, k3, k4⟩ := cell2 (blkc (blkc SR.out.drew.box hb5) (below1 w5 (.cells #[.int .i64 d, .slice A5 Q.length c5] 36))); have S5 := Lib.hid ((SR.out.drew.set hb5 ho5 hc5).next (below1 _ (.cells #[.int .i64 d, .slice A5 Q.length c5] 36))))
                | ((with_reducible refine (CS.out _ SV.out).mono ?_); rintro e w5 ⟨A5, c5, rfl, ho5, hc5, hb5⟩; have hz5 := blkc (w := (wr.alloc (.cells #[.int .i64 0, .slice none 0 0] 36)).drew) (heap_alloc_new wr _) hb5; have hX5 := blkc SV.out.box hb5; obtain ⟨m1, m2, m3, m4, m5⟩ := cell2 hz5; have hzz := set2 (u := .int .i64 d) (v := .slice A5 Q.length c5) hz5; obtain ⟨t0, t1, _, _, _⟩ := cell2 hzz; have hXX := blko (blko hX5 (p := ⟨wr.heap.size, 0, none⟩) (.int .i64 d) (by show X ≠ wr.heap.size; omega)) (p := ⟨wr.heap.size, 1, none⟩) (.slice A5 Q.length c5) (by show X ≠ wr.heap.size; omega); obtain ⟨n0, n1, n2, n3, n4⟩ := cell2 hXX; have S5 := Lib.hid (SR.out.set (bset2 (bel_trans (below1 wr (.cells #[.int .i64 0, .slice none 0 0] 36)).drew hb5) (Nat.le_refl _) (.int .i64 d) (.slice A5 Q.length c5)) ((ho5.kept (gset2 (g := wr.heap.size) (.int .i64 d) (.slice A5 Q.length c5)) (fun k hk => by cases hk; exact hVs.out)).more (base' := wr.heap.size) (Nat.le_of_lt hVs.out)) hc5)))
              all_goals
                have CT := Lib.hid (callSLinkTake A5 c5 d Q t _ _ (Nat.le_refl _) (by omega) S5.out.own.rd)
                rw [HTE.out] at CT
                obtain ⟨x0, x1, x2, x3, x4⟩ := cell2 S5.out.box
                go_wp2_with fail
                refine CT.out.mono ?_
                rintro e w8 ⟨B1, e1, B2, e2, rfl, ho8, hc8, hg8, hcg8, hb8⟩
                simp only at ho8 hc8 hg8 hcg8
                have S8 := Lib.hid ((S5.out.set hb8 ho8 hc8).next (below1 _ (.cells #[.int .i64 d, .slice B1 D.length e1] 36)))
                have HG8 := Lib.hid ((hg8.kept (gset2 (g := X) (.int .i64 d) (.slice B1 D.length e1)) (fun k hk => by cases hk; omega)).alloc (.cells #[.int .i64 d, .slice B1 D.length e1] 36)).rd
                obtain ⟨n0, n1, n2, n3, n4⟩ := cell2 (blkc S5.out.box hb8)
                have hsz : X + 1 ≤ (((w8.setCell ⟨X, 0, none⟩ (.int .i64 d)).setCell ⟨X, 1, none⟩ (.slice B1 D.length e1)).alloc (.cells #[.int .i64 d, .slice B1 D.length e1] 36)).heap.size := by simp; omega
                have HSZ := Lib.hid hsz
                clear ho8 hg8 x0 x1 x2 x3 x4 CT hsz
                go_wp2_with (at_builtin; refine wpList_app _ eiInt rfl (.tmp 61) (.tmp 62) rfl (X + 1) S8.out.out HG8.out rfl rfl rfl (by omega) HSZ.out ?_; intro v' w9 row hown9 hg9 hrow9)
                go_roundw
                case rel =>
                  refine ⟨t + 1, B1, e1, by omega, by go_num, ?_, HV1⟩
                  have := S8.out.app hown9 hg9 hrow9
                  rw [HTt.out.1, HTt.out.2]; exact this
                case measure => simp [intOf]; omega
          · have hd4 : decide ((t : Int) < (vs.length : Int)) = false := decide_eq_false (by omega)
            have hd5 : decide (t < vs.length) = false := decide_eq_false hlv
            have hPQ := HNt.out (by omega)
            have HV1 : Hid (∀ i (h : i < vs.length), i < t + 1 → vB vs[i] = true) := fun i h hi => HV.out i h (by omega)
            have HMM := Lib.hid (HMt.out HV1.out)
            have hQl : Q.length ≤ 20 := (linkOk_iff.1 HMM.out.ok).2.2
            have HTE0 := linkTake_good HMM.out.ok ht0 htl
            obtain ⟨D, hD⟩ : ∃ D, D = Q.drop (cutN Q t) := ⟨_, rfl⟩
            obtain ⟨G, hG⟩ : ∃ G, G = (Q.take (cutN Q t)).map Pkt.value := ⟨_, rfl⟩
            have hGl : G.length ≤ 20 := by rw [hG, List.length_map, List.length_take]; omega
            rw [← hD, ← hG] at HTE0 HTt
            have HTE := Lib.hid HTE0
            obtain ⟨A5, hA5⟩ : ∃ A5, A5 = A9 := ⟨_, rfl⟩
            obtain ⟨c5, hc5⟩ : ∃ c5, c5 = c9 := ⟨_, rfl⟩
            rw [← hPQ, ← hA5, ← hc5] at SR
            have S5 := SR
            clear hPQ hA5 hc5 hD hG HTE0 SR
            have CT := Lib.hid (callSLinkTake A5 c5 d Q t _ _ (Nat.le_refl _) (by omega) S5.out.own.rd)
            rw [HTE.out] at CT
            obtain ⟨x0, x1, x2, x3, x4⟩ := cell2 S5.out.box
            go_wp2_with fail
            refine CT.out.mono ?_
            rintro e w8 ⟨B1, e1, B2, e2, rfl, ho8, hc8, hg8, hcg8, hb8⟩
            simp only at ho8 hc8 hg8 hcg8
            have S8 := Lib.hid ((S5.out.set hb8 ho8 hc8).next (below1 _ (.cells #[.int .i64 d, .slice B1 D.length e1] 36)))
            have HG8 := Lib.hid ((hg8.kept (gset2 (g := X) (.int .i64 d) (.slice B1 D.length e1)) (fun k hk => by cases hk; omega)).alloc (.cells #[.int .i64 d, .slice B1 D.length e1] 36)).rd
            obtain ⟨n0, n1, n2, n3, n4⟩ := cell2 (blkc S5.out.box hb8)
            have hsz : X + 1 ≤ (((w8.setCell ⟨X, 0, none⟩ (.int .i64 d)).setCell ⟨X, 1, none⟩ (.slice B1 D.length e1)).alloc (.cells #[.int .i64 d, .slice B1 D.length e1] 36)).heap.size := by simp; omega
            have HSZ := Lib.hid hsz
            clear ho8 hg8 x0 x1 x2 x3 x4 CT hsz
            go_wp2_with (at_builtin; refine wpList_app _ eiInt rfl (.tmp 61) (.tmp 62) rfl (X + 1) S8.out.out HG8.out rfl rfl rfl (by omega) HSZ.out ?_; intro v' w9 row hown9 hg9 hrow9)
            go_roundw
            case rel =>
              refine ⟨t + 1, B1, e1, by omega, by go_num, ?_, HV1⟩
              have := S8.out.app hown9 hg9 hrow9
              rw [HTt.out.1, HTt.out.2]; exact this
            case measure => simp [intOf]; omega
        · have hd3 : decide ((t : Int) < (vs.length : Int) + d) = false := decide_eq_false (by have := HDN.out; omega)
          have hall : vs.all vB = true := all_of_get fun i hi => HV.out i hi (by omega)
          have hE3 := hE.out hall
          have hte : vs.length + dn = t := by omega
          rw [hte] at hE3
          have HE3 := Lib.hid hE3
          clear hte hE3 hall
          have HOW := Lib.hid SR.out.out
          have HBW := Lib.hid SR.out.bel
          obtain ⟨O, hO⟩ : ∃ O, O = (runL d vs t).2 := ⟨_, rfl⟩
          rw [← hO] at HOW HE3
          clear hO HI HM HS HN HT
          obtain ⟨A2, c2, hv2, hc2, _⟩ := HOW.out.form
          subst hv2
          go_wp2_with fail
          go_ret
          rw [HE3.out]
          exact ⟨A2, c2, rfl, HOW.out.more (by omega), hc2, HBW.out⟩
    · have hd : decide (40 < (vs.length : Int)) = true := decide_eq_true (by omega)
      have hd2 : decide (40 < vs.length) = true := decide_eq_true (by omega)
      rw [q1, decide_eq_false hl] at hbad
      rw [hbad rfl]
      clear hbad
      go_enter Try.func28, Try.ntmps28
      go_wp2_with (go_at_call 38; refine (callL1In _ _ _ _).mono ?_; rintro e w' ⟨rfl, rfl⟩)
      go_ret
      exact ⟨some ⟨w.heap.size, 0, none⟩, 0, rfl, Own.none_, Nat.le_refl _, below1 _ _⟩
end Go.Proofs.Ytonhkadbiepedaa
