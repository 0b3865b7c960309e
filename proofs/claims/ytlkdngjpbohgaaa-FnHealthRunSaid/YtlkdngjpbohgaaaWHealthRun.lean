/- The walk of the law FnHealthRun: true for every input, and nothing that was there is written. -/
import Derived.Test.YtlkdngjpbohgaaaDrh
import Derived.Test.YtlkdngjpbohgaaaHew
namespace Go.Proofs.Ytlkdngjpbohgaaa
open Go.RowKit Go.Sort

theorem hVal_of {h : Hlt} {t fs : List Int} (e : hAll h t fs = false) : healthRun h t fs = ⟨false, 0⟩ := by unfold healthRun; rw [e]; rfl

set_option maxRecDepth 100000 in
set_option maxHeartbeats 6400000 in
theorem walkFnHealthRun (A : Option Addr) (c : Nat) (bs : List Int) (w : World) (hc : bs.length ≤ c) (hr : Rd eU8 w w.heap.size A bs) (hby : ∀ x ∈ bs, 0 ≤ x ∧ x ≤ 255) :
    Calls Try.prog 5 #[.slice A bs.length c] w fun e w' => e = .returned (.bool true) ∧ Below w.heap.size w w' := by
  by_cases hl : bs.length ≤ 1048576
  · have HC := Lib.hid (callDrawHealthRun A c bs w hc hl hr hby)
    clear hr hby
    go_enter Try.func5, Try.ntmps5
    go_wp2_with fail
    refine HC.out.mono ?_
    rintro e w1 ⟨⟨hf, hn⟩, At, ct, t, Af, cf, fs, rfl, hrt, hrf, hct, hlt, hcf, hlf, hb1⟩
    have HB1 := Lib.hid hb1
    have HT := Lib.hid hrt
    have HF := Lib.hid hrf
    clear hb1 HC hrt hrf
    have HXB : Hid ((w1.alloc (.cells #[.bool hf, .int .i64 hn] 32)).heap[w1.heap.size]? = some (.cells #[.bool hf, .int .i64 hn] 32 (0, 0))) := heap_alloc_new w1 _
    have HBa := Lib.hid (below1 w1 (.cells #[.bool hf, .int .i64 hn] 32))
    obtain ⟨x, hx⟩ : ∃ x, x = healthRun ⟨hf, hn⟩ t fs := ⟨_, rfl⟩
    have T1 : ∀ W, Below w1.heap.size w1 W → Hid (Calls Try.prog 18 #[.agg #[.bool hf, .int .i64 hn], .slice At t.length ct, .slice Af fs.length cf] W fun e w' => e = .returned x.val ∧ Below W.heap.size W w') := fun W hW => by
      have := callHealthRun At Af ct cf ⟨hf, hn⟩ t fs W w1.heap.size hW.size (by omega) (by omega) (HT.out.below hW) (HF.out.below hW)
      rw [← hx] at this; exact this
    have T2 : ∀ W, Below w1.heap.size w1 W → QCall Try.prog 19 #[.agg #[.bool hf, .int .i64 hn], .slice At t.length ct, .slice Af fs.length cf] W x.val := fun W hW => QCall.of fun W' hb => by
      have hW' := bel_trans hW hb
      have := callSHealthRun At Af ct cf ⟨hf, hn⟩ t fs W' w1.heap.size hW'.size (by omega) (by omega) (HT.out.below hW') (HF.out.below hW')
      rw [← hx] at this; exact this
    have HX := Lib.hid hx
    clear hx
    obtain ⟨xf, xn⟩ := x
    have neqs := neqHlt
    have eqls := eqlHlt
    have gdh := guardHlt
    have hq1 : (xf == xf) = true := by simp
    have hq2 : (xn == xn) = true := by simp
    have hcx := cell2 HXB.out
    obtain ⟨k1, k2, _, _, k5⟩ := cell2 HXB.out
    clear hcx
    go_wp2_with fail
    refine (T1 _ HBa.out).out.mono ?_
    rintro e w2 ⟨rfl, hb2⟩
    have HB2 := Lib.hid (bel_trans (bel_trans HBa.out hb2) (below1 w2 (.cells #[.bool xf, .int .i64 xn] 32)))
    have HP2 := Lib.hid (blkc (blkc HXB.out hb2) (below1 w2 (.cells #[.bool xf, .int .i64 xn] 32)))
    have HQ2 := Lib.hid (heap_alloc_new w2 (.cells #[.bool xf, .int .i64 xn] 32))
    obtain ⟨v2, hv2⟩ : ∃ v2, v2 = w2.alloc (.cells #[.bool xf, .int .i64 xn] 32) := ⟨_, rfl⟩
    rw [← hv2] at HB2 HP2 HQ2
    have C1 := T2 _ HB2.out
    clear hb2 k1 k2 k5 T2
    obtain ⟨a1, a2, _, _, a5⟩ := cell2 HP2.out
    obtain ⟨b1, b2, _, _, b5⟩ := cell2 HQ2.out
    have ra1 := cell_regrown a1
    have ra2 := cell_regrown a2
    have rb1 := cell_regrown b1
    have rb2 := cell_regrown b2
    clear a1 a2 b1 b2
    go_upto_region 5 with (fail)
    rw [← hv2]
    clear hv2
    refine wp_region_quiet_below (by kernel_rfl) (by kernel_rfl) ?_
    repeat (first | go_big_quiet_step ((go_at_call 19; exact C1 _ _)) | quiet_step ((go_at_call 19; exact C1 _ _)))
    refine wpQuiet_nil ?_
    intro w3 hw3
    have hb3 := below_of_regrown hw3
    have HB3 := Lib.hid (bel_trans HB2.out hb3)
    have HP3 := Lib.hid (blkc HP2.out hb3)
    have HQ3 := Lib.hid (blkc HQ2.out hb3)
    clear hw3 hb3 C1 ra1 ra2 rb1 rb2
    obtain ⟨a1, a2, _, _, a5⟩ := cell2 HP3.out
    obtain ⟨b1, b2, _, _, b5⟩ := cell2 HQ3.out
    obtain ⟨q1, hq1⟩ : ∃ v, v = hOk ⟨hf, hn⟩ := ⟨_, rfl⟩
    obtain ⟨q2, hq2⟩ : ∃ v, v = tabOk t := ⟨_, rfl⟩
    have V1 : ∀ W, Hid (Calls Try.prog 20 #[.agg #[.bool hf, .int .i64 hn]] W fun e w' => e = .returned (.bool q1) ∧ Below W.heap.size W w') := fun W => by
      have := callSHealthValid ⟨hf, hn⟩ W
      rw [← hq1] at this; exact this
    have V2 : ∀ W, Below w1.heap.size w1 W → Hid (Calls Try.prog 21 #[.slice At t.length ct] W fun e w' => e = .returned (.bool q2) ∧ Below W.heap.size W w') := fun W hW => by
      have := callSHealthTable At ct t W w1.heap.size hW.size (by omega) (HT.out.below hW)
      rw [← hq2] at this; exact this
    have HQA := Lib.hid hq1
    have HQB := Lib.hid hq2
    clear hq1 hq2
    go_wp2_with fail
    refine (V1 _).out.mono ?_
    rintro e w4 ⟨rfl, hb4⟩
    have HB4 := Lib.hid (bel_trans HB3.out hb4)
    have HP4 := Lib.hid (blkc HP3.out hb4)
    have HQ4 := Lib.hid (blkc HQ3.out hb4)
    clear hb4 a1 a2 b1 b2
    have zero : Hid (hArg ⟨hf, hn⟩ t = false → xf = false ∧ xn = 0) := fun h => by
      have e := HX.out
      rw [hVal_of (by unfold hAll; rw [h]; rfl)] at e
      injection e with e1 e2
      exact ⟨e1, e2⟩
    cases q1
    · obtain ⟨rfl, rfl⟩ := zero.out (by unfold hArg; rw [← HQA.out]; rfl)
      obtain ⟨b1, b2, _, _, b5⟩ := cell2 HQ4.out
      go_wp2_with fail
      refine (callAlive _).mono ?_
      rintro e w9 ⟨rfl, hb9⟩
      go_wp2
      go_ret
      exact ⟨rfl, bel_trans HB1.out (bel_trans HB4.out hb9)⟩
    · go_wp2_with fail
      refine (V2 _ HB4.out).out.mono ?_
      rintro e w5 ⟨rfl, hb5⟩
      have HB5 := Lib.hid (bel_trans HB4.out hb5)
      have HP5 := Lib.hid (blkc HP4.out hb5)
      have HQ5 := Lib.hid (blkc HQ4.out hb5)
      clear hb5
      cases q2
      · obtain ⟨rfl, rfl⟩ := zero.out (by unfold hArg; rw [← HQA.out, ← HQB.out]; rfl)
        obtain ⟨b1, b2, _, _, b5⟩ := cell2 HQ5.out
        go_wp2_with fail
        refine (callAlive _).mono ?_
        rintro e w9 ⟨rfl, hb9⟩
        go_wp2
        go_ret
        exact ⟨rfl, bel_trans HB1.out (bel_trans HB5.out hb9)⟩
      · have HAR : Hid (hArg ⟨hf, hn⟩ t = true) := by show _ = _; unfold hArg; rw [← HQA.out, ← HQB.out]; rfl
        clear zero V1 V2
        go_wp2_with fail
        go_loopw [7] (fun i wr => ∃ k : Nat, k ≤ fs.length ∧ i = .int .i64 k ∧ Below w5.heap.size w5 wr ∧ Hid (∀ i (_ : i < k) (h : i < fs.length), fltOk fs[i] = true)) (fun i _ => fs.length - (intOf i).toNat)
        case atStart => exact ⟨0, by omega, rfl, Below.refl _ _, fun i hi => by omega⟩
        case round =>
          obtain ⟨k, hk, rfl, hbl, hno⟩ := hrel
          have HB := Lib.hid (bel_trans HB5.out hbl)
          have HP := Lib.hid (blkc HP5.out hbl)
          have HQ := Lib.hid (blkc HQ5.out hbl)
          have HBl := Lib.hid hbl
          clear hbl
          obtain ⟨a1, a2, _, _, a5⟩ := cell2 HP.out
          obtain ⟨b1, b2, _, _, b5⟩ := cell2 HQ.out
          by_cases hlt : k < fs.length
          · have hd : decide ((k : Int) < fs.length) = true := decide_eq_true (by omega)
            obtain ⟨b, off, rfl, hbB, h1⟩ := (HF.out.below HB.out).at1 rfl hlt rfl
            have bad : Hid (fltOk fs[k] = false → xf = false ∧ xn = 0) := fun h => by
              have e := HX.out
              rw [hVal_of (by unfold hAll; rw [all_snoc_false hlt h, Bool.and_false])] at e
              injection e with e1 e2
              exact ⟨e1, e2⟩
            have good : Hid (fltOk fs[k] = true → ∀ i (_ : i < k + 1) (h : i < fs.length), fltOk fs[i] = true) := fun hx i hi h => by
              rcases Nat.lt_or_ge i k with h' | h'
              · exact hno.out i h' h
              · have : i = k := by omega
                subst this; exact hx
            obtain ⟨y, hy⟩ : ∃ y, y = fs[k] := ⟨_, rfl⟩
            rw [← hy] at h1 bad good
            clear hy
            by_cases h0 : y < 0
            · have d1 : decide (y < 0) = true := decide_eq_true h0
              obtain ⟨rfl, rfl⟩ := bad.out (inB_not.2 (.inl h0))
              go_wp2
              go_ret
              exact ⟨rfl, bel_trans HB1.out HB.out⟩
            · have d1 : decide (y < 0) = false := decide_eq_false h0
              by_cases h3 : 3 < y
              · have d2 : decide (3 < y) = true := decide_eq_true h3
                obtain ⟨rfl, rfl⟩ := bad.out (inB_not.2 (.inr h3))
                go_wp2
                go_ret
                exact ⟨rfl, bel_trans HB1.out HB.out⟩
              · have d2 : decide (3 < y) = false := decide_eq_false h3
                have hst := Lib.hid (good.out (inB_iff.2 ⟨by omega, by omega⟩))
                go_wp2
                go_roundw
                case rel => exact ⟨k + 1, by omega, by go_num, HBl.out, hst⟩
                case measure => simp [intOf]; omega
          · have hke : k = fs.length := by omega
            subst hke
            have hd : decide ((fs.length : Int) < fs.length) = false := by simp
            by_cases h30 : 30 < fs.length
            · have d3 : decide ((30 : Int) < (fs.length : Int)) = true := decide_eq_true (by omega)
              have e := HX.out
              rw [hVal_of (by unfold hAll; rw [decide_eq_false (show ¬ fs.length ≤ 30 by omega), Bool.and_false, Bool.false_and])] at e
              injection e with e1 e2
              subst e1
              subst e2
              go_wp2
              go_ret
              exact ⟨rfl, bel_trans HB1.out HB.out⟩
            · have d3 : decide ((30 : Int) < (fs.length : Int)) = false := decide_eq_false (by omega)
              have HALL : Hid (hAll ⟨hf, hn⟩ t fs = true) := by
                show _ = _; unfold hAll; rw [HAR.out, decide_eq_true (show fs.length ≤ 30 by omega), all_of_get fun i h => hno.out i h h]; rfl
              obtain ⟨n0, n3, nf⟩ := hOk_iff.1 HQA.out.symm
              simp only at n0 n3
              obtain ⟨z, hz⟩ : ∃ z, z = healthRun ⟨hf, hn⟩ [1, 0, 0] [1, 1, 1] := ⟨_, rfl⟩
              have hzf : z.frozen = true := by rw [hz]; exact healthRun_end HQA.out.symm
              obtain ⟨zf, zn⟩ := z
              simp only at hzf
              subst hzf
              have TZ : Hid (Calls Try.prog 18 #[.agg #[.bool hf, .int .i64 hn], .slice (some ⟨wr.heap.size, 0, none⟩) 3 3, .slice (some ⟨wr.heap.size + 1, 0, none⟩) 3 3] ((wr.alloc (.cells #[.int .i64 1, .int .i64 0, .int .i64 0] 3)).alloc (.cells #[.int .i64 1, .int .i64 1, .int .i64 1] 3)) fun e w' => e = .returned (.agg #[.bool true, .int .i64 zn]) ∧ Below ((wr.alloc (.cells #[.int .i64 1, .int .i64 0, .int .i64 0] 3)).alloc (.cells #[.int .i64 1, .int .i64 1, .int .i64 1] 3)).heap.size ((wr.alloc (.cells #[.int .i64 1, .int .i64 0, .int .i64 0] 3)).alloc (.cells #[.int .i64 1, .int .i64 1, .int .i64 1] 3)) w') := by
                have r1 := (Rd.new (E := eInt) (xs := [1, 0, 0]) wr 3 #[.int .i64 1, .int .i64 0, .int .i64 0] rfl).alloc (.cells #[.int .i64 1, .int .i64 1, .int .i64 1] 3)
                have r2 := Rd.new (E := eInt) (xs := [1, 1, 1]) (wr.alloc (.cells #[.int .i64 1, .int .i64 0, .int .i64 0] 3)) 3 #[.int .i64 1, .int .i64 1, .int .i64 1] rfl
                have hsz : (wr.alloc (.cells #[.int .i64 1, .int .i64 0, .int .i64 0] 3)).heap.size = wr.heap.size + 1 := World.size_alloc _ _
                have := callHealthRun (some ⟨wr.heap.size, 0, none⟩) (some ⟨(wr.alloc (.cells #[.int .i64 1, .int .i64 0, .int .i64 0] 3)).heap.size, 0, none⟩) 3 3 ⟨hf, hn⟩ [1, 0, 0] [1, 1, 1] _ _ (Nat.le_refl _) (by decide) (by decide) r1 r2
                rw [← hz, hsz] at this
                exact this
              clear hz
              go_wp2_with fail
              refine TZ.out.mono ?_
              rintro e w6 ⟨rfl, hb6⟩
              have hb6' := bel_trans (below2 wr _ _) hb6
              have HB7 := Lib.hid (bel_trans (bel_trans HB.out hb6') (below1 w6 (.cells #[.bool true, .int .i64 zn] 32)))
              have HP7 := Lib.hid (blkc (blkc HP.out hb6') (below1 w6 (.cells #[.bool true, .int .i64 zn] 32)))
              have HQ7 := Lib.hid (blkc (blkc HQ.out hb6') (below1 w6 (.cells #[.bool true, .int .i64 zn] 32)))
              have HZ7 := Lib.hid (heap_alloc_new w6 (.cells #[.bool true, .int .i64 zn] 32))
              obtain ⟨v7, hv7⟩ : ∃ v7, v7 = w6.alloc (.cells #[.bool true, .int .i64 zn] 32) := ⟨_, rfl⟩
              rw [← hv7] at HB7 HP7 HQ7 HZ7
              clear hb6 hb6' TZ a1 a2 a5 b1 b2 b5 hd d3 n0 n3 nf
              by_cases h0 : fs.length = 0
              · obtain rfl : fs = [] := List.eq_nil_of_length_eq_zero h0
                have e := HX.out
                have ee : healthRun ⟨hf, hn⟩ t [] = ⟨hf, hn⟩ := by unfold healthRun; rw [HALL.out]; rfl
                rw [ee] at e
                injection e with e1 e2
                subst e1
                subst e2
                have C1 : ∀ A c, QCall Try.prog 18 #[.agg #[.bool xf, .int .i64 xn], .slice At t.length ct, .slice A 0 c] v7 (.agg #[.bool xf, .int .i64 xn]) := fun A c => QCall.of fun W' hb => by
                  have hW' := bel_trans HB7.out hb
                  have := callHealthRun At A ct c ⟨xf, xn⟩ t [] W' w1.heap.size hW'.size (by omega) (by simp) (HT.out.below hW') Rd.nil
                  rw [ee] at this; exact this
                obtain ⟨a1, a2, _, _, a5⟩ := cell2 HP7.out
                obtain ⟨b1, b2, _, _, b5⟩ := cell2 HQ7.out
                obtain ⟨c1, c2, _, _, c5⟩ := cell2 HZ7.out
                have ra1 := cell_regrown a1
                have ra2 := cell_regrown a2
                have rb1 := cell_regrown b1
                have rb2 := cell_regrown b2
                have rc1 := cell_regrown c1
                clear a1 a2 b1 b2 c1 c2 ee h0
                simp only [List.length_nil]
                go_upto_region 18 with (fail)
                rw [← hv7]
                clear hv7
                refine wp_region_quiet_below (by kernel_rfl) (by kernel_rfl) ?_
                repeat (first | go_big_quiet_step ((go_at_call 18; exact C1 _ _ _ _)) | quiet_step ((go_at_call 18; exact C1 _ _ _ _)))
                refine wpQuiet_nil ?_
                intro w8 hw8
                have HB8 := Lib.hid (bel_trans HB7.out (below_of_regrown hw8))
                clear hw8 C1 ra1 ra2 rb1 rb2 rc1
                go_wp2
                go_ret
                exact ⟨rfl, bel_trans HB1.out HB8.out⟩
              · obtain ⟨m, hm⟩ : ∃ m, m = fs.length / 2 := ⟨_, rfl⟩
                have hm1 : m < fs.length := by omega
                obtain ⟨b, off, rfl, hbB, hx0⟩ := (HF.out.below HB7.out).at1 (k := 0) rfl (by omega) rfl
                clear hx0
                have hdiv : (fs.length : Int) / 2 = (m : Int) := by omega
                have hdiv2 : Int.tdiv (fs.length : Int) 2 = (m : Int) := by rw [Int.tdiv_eq_ediv_of_nonneg (by omega)]; omega
                have hwr : IntKind.i64.wrap (m : Int) = (m : Int) := by rw [IntKind.wrap_i64]; omega
                have hhv := healthRun_halves HALL.out m
                obtain ⟨y, hy⟩ : ∃ y, y = healthRun ⟨hf, hn⟩ t (fs.take m) := ⟨_, rfl⟩
                rw [← hy, ← HX.out] at hhv
                have C1 : QCall Try.prog 18 #[.agg #[.bool hf, .int .i64 hn], .slice At t.length ct, .slice (some ⟨b, off, none⟩) m cf] v7 y.val := QCall.of fun W' hb => by
                  have hW' := bel_trans HB7.out hb
                  have := callHealthRun At (some ⟨b, off, none⟩) ct cf ⟨hf, hn⟩ t (fs.take m) W' w1.heap.size hW'.size (by omega) (by rw [List.length_take]; omega) (HT.out.below hW') ((HF.out.below hW').take m)
                  rw [List.length_take, Nat.min_eq_left (by omega), ← hy] at this
                  exact this
                obtain ⟨yf, yn⟩ := y
                have C2 : QCall Try.prog 18 #[.agg #[.bool yf, .int .i64 yn], .slice At t.length ct, .slice (some ⟨b, off + m, none⟩) (fs.length - m) (cf - m)] v7 (.agg #[.bool xf, .int .i64 xn]) := QCall.of fun W' hb => by
                  have hW' := bel_trans HB7.out hb
                  have hdr := (HF.out.below hW').drop (m := m) (cap := cf) hcf
                  rw [if_neg (by omega), Option.map_some, add_off] at hdr
                  have := callHealthRun At (some ⟨b, off + m, none⟩) ct (cf - m) ⟨yf, yn⟩ t (fs.drop m) W' w1.heap.size hW'.size (by omega) (by rw [List.length_drop]; omega) (HT.out.below hW') (by simpa using hdr)
                  rw [List.length_drop, hhv] at this
                  exact this
                have hch : ¬ (cf = m) := by omega
                have hi1 : (0 : Int) ≤ (m : Int) := by omega
                have hi2 : (m : Int) ≤ (cf : Int) := by omega
                have hi3 : (m : Int) ≤ (fs.length : Int) := by omega
                obtain ⟨a1, a2, _, _, a5⟩ := cell2 HP7.out
                obtain ⟨b1, b2, _, _, b5⟩ := cell2 HQ7.out
                obtain ⟨c1, c2, _, _, c5⟩ := cell2 HZ7.out
                have ra1 := cell_regrown a1
                have ra2 := cell_regrown a2
                have rb1 := cell_regrown b1
                have rb2 := cell_regrown b2
                have rc1 := cell_regrown c1
                clear a1 a2 b1 b2 c1 c2 hm hhv hy h0
                unfold QCall at C1 C2
                go_upto_region 18 with (fail)
                rw [← hv7]
                clear hv7
                refine wp_region_quiet_below (by kernel_rfl) (by kernel_rfl) ?_
                repeat (first | go_big_quiet_step ((first | (go_at_call 18; with_reducible exact C1 _ _) | (go_at_call 18; with_reducible exact C2 _ _))) | quiet_step ((first | (go_at_call 18; with_reducible exact C1 _ _) | (go_at_call 18; with_reducible exact C2 _ _))))
                refine wpQuiet_nil ?_
                intro w8 hw8
                have HB8 := Lib.hid (bel_trans HB7.out (below_of_regrown hw8))
                clear hw8 C1 C2 ra1 ra2 rb1 rb2 rc1
                go_wp2
                go_ret
                exact ⟨rfl, bel_trans HB1.out HB8.out⟩
  · have hl' : 1048576 < bs.length := by omega
    clear hr hby hl
    go_enter Try.func5, Try.ntmps5
    go_wp2
    go_ret
    exact ⟨rfl, Below.refl _ _⟩
end Go.Proofs.Ytlkdngjpbohgaaa
