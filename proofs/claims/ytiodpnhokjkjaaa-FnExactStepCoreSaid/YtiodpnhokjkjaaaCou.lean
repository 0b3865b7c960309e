/- RunCore of the reference, for every input. -/
import Derived.Test.YtiodpnhokjkjaaaCov
import Derived.Test.YtiodpnhokjkjaaaStp
import Derived.Deep.RegionLaw
import Derived.Deep.RegionHeld3
import Derived.Deep.RegionHeldLaw
namespace Go.Proofs.Ytiodpnhokjkjaaa
open Go.RowKit Go.Sort

set_option maxRecDepth 100000 in
set_option maxHeartbeats 3200000 in
theorem callSRunCore (A : Option Addr) (c : Nat) (cr : Cor) (Ao : Option Addr) (co : Nat) (os : List Ord3) (cells steps : Int) (w : World) (B : Nat) (hB : B ≤ w.heap.size) (hm : cr.cs.length ≤ 1048576) (hm2 : os.length ≤ 1048576) (hr : Rd eInt w B A cr.cs) (hr2 : Rd eOrd w B Ao os) :
    Calls Try.prog 21 #[.agg #[.slice A cr.cs.length c, .int .i64 cr.at', .bool cr.stop], .slice Ao os.length co, .int .i64 cells, .int .i64 steps] w (CorRes w (runCore cr os cells steps)) := by
  have S := Lib.hid (callOwnCore A c cr ((w.alloc (.cells #[.slice A cr.cs.length c, .int .i64 cr.at', .bool cr.stop] 33)).alloc (.cells #[.slice none 0 0, .int .i64 0, .bool false] 33)) B (by simp; omega) hm (hr.below ((below2 _ _ _).mono hB)))
  have HRO := Lib.hid hr2
  have K0 := Lib.hid (alloc_at0 w (.cells #[.slice A cr.cs.length c, .int .i64 cr.at', .bool cr.stop] 33) (.cells #[.slice none 0 0, .int .i64 0, .bool false] 33))
  have K1 := Lib.hid (alloc_at1 w (.cells #[.slice A cr.cs.length c, .int .i64 cr.at', .bool cr.stop] 33) (.cells #[.slice none 0 0, .int .i64 0, .bool false] 33))
  have HBAD : Hid ((coreB cr os cells && inB steps 0 200) = false → runCore cr os cells steps = ⟨[], 0, false⟩) := runCore_bad
  have HGOOD : Hid (∀ n : Nat, steps = n → coreB cr os cells = true → inB (n : Int) 0 200 = true → runCore cr os cells steps = corRun cr os n) := fun n e h h' => by rw [e]; exact runCore_good h h'
  obtain ⟨r, hrr⟩ : ∃ r, r = runCore cr os cells steps := ⟨_, rfl⟩
  rw [← hrr] at HBAD HGOOD ⊢
  have HSO := Lib.hid (show w.heap.size + 1 + 1 ≤ ((w.alloc (.cells #[.slice A cr.cs.length c, .int .i64 cr.at', .bool cr.stop] 33)).alloc (.cells #[.slice none 0 0, .int .i64 0, .bool false] 33)).heap.size by simp)
  clear hr hr2 hrr
  go_enter Try.func21, Try.ntmps21
  go_wp2_with fail
  refine S.out.mono ?_
  rintro e w1 ⟨A1, c1, rfl, hown1, hc1, hb1⟩
  have KB0 := Lib.hid (blkc K0.out hb1)
  have HW1 := Lib.hid (bel_trans (below2 w (.cells #[.slice A cr.cs.length c, .int .i64 cr.at', .bool cr.stop] 33) (.cells #[.slice none 0 0, .int .i64 0, .bool false] 33)) hb1)
  have hs1 : w.heap.size + 1 < w1.heap.size := (cell3 (blkc K1.out hb1)).2.2.2.2.2.2
  have HB1 := Lib.hid (bset3 HW1.out (Nat.le_refl _) (.slice A1 cr.cs.length c1) (.int .i64 cr.at') (.bool cr.stop))
  have KB := Lib.hid (set3 (u := .slice A1 cr.cs.length c1) (v := .int .i64 cr.at') (t := .bool cr.stop) KB0.out)
  have KR := Lib.hid (gblk (gset3 (g := w.heap.size) (.slice A1 cr.cs.length c1) (.int .i64 cr.at') (.bool cr.stop)) (blkc K1.out hb1) (by simp))
  have HO := Lib.hid ((hown1.more (base' := w.heap.size + 1 + 1) HSO.out).kept (gset3 (g := w.heap.size) (.slice A1 cr.cs.length c1) (.int .i64 cr.at') (.bool cr.stop)) (fun k hk => by cases hk; omega))
  clear hb1 hown1 S HSO HW1
  obtain ⟨p0, p1, p2, p3, p4, p5, p6⟩ := cell3 KB0.out
  go_upto_region 2 with (fail)
  obtain ⟨v1, hv1⟩ : ∃ v1, v1 = (((w1.setCell ⟨w.heap.size, 0, none⟩ (.slice A1 cr.cs.length c1)).setCell ⟨w.heap.size, 1, none⟩ (.int .i64 cr.at')).setCell ⟨w.heap.size, 2, none⟩ (.bool cr.stop)) := ⟨_, rfl⟩
  rw [← hv1] at HB1 KB KR HO ⊢
  have hs2 : w.heap.size + 1 + 1 ≤ v1.heap.size := by rw [hv1]; simp; omega
  clear hv1 p0 p1 p2 p3 p4 p5 p6 KB0 K0 K1
  have V : Hid (Calls Try.prog 22 #[.agg #[.slice A1 cr.cs.length c1, .int .i64 cr.at', .bool cr.stop], .slice Ao os.length co, .int .i64 cells] v1 fun e w' => e = .returned (.bool (coreB cr os cells)) ∧ Below v1.heap.size v1 w') :=
    callSCoreValid A1 c1 cr Ao co os cells v1 v1.heap.size (Nat.le_refl _) hm hm2 HO.out.rd ((HRO.out.below (HB1.out.mono hB)).mono (Nat.le_trans hB HB1.out.size))
  obtain ⟨b0, b1, b2, _, _, _, _⟩ := cell3 KB.out
  go_wp2_with fail
  refine V.out.mono ?_
  rintro e w2 ⟨rfl, hb2⟩
  have HB2 := Lib.hid (bel_trans HB1.out hb2)
  have KR2 := Lib.hid (blkc KR.out hb2)
  have KB2 := Lib.hid (blkc KB.out hb2)
  have HO2 := Lib.hid (HO.out.next hb2)
  have hs3 : w.heap.size + 1 + 1 ≤ w2.heap.size := Nat.le_trans hs2 hb2.size
  clear hb2 b0 b1 b2 V HB1 KB KR HO hs2
  cases q1 : coreB cr os cells
  · obtain rfl := HBAD.out (by rw [q1]; rfl)
    clear HBAD HGOOD q1
    obtain ⟨a0, a1, a2, a3, a4, a5, a6⟩ := cell3 KR2.out
    obtain ⟨s0, s1, s2⟩ := res3 KR2.out (.slice none 0 0) (.int .i64 0) (.bool false)
    go_wp2
    exact bodyPost_ret (v := .agg #[.slice none 0 0, .int .i64 0, .bool false]) (by simp [results, Try.results21, go_sem, s0, s1, s2]) rfl ⟨none, 0, rfl, Own.none_, Nat.le_refl _, bset3 HB2.out (by omega) _ _ _⟩
  · cases q2 : inB steps 0 200
    · obtain rfl := HBAD.out (by rw [q1, q2]; rfl)
      clear HBAD HGOOD q1
      obtain ⟨a0, a1, a2, a3, a4, a5, a6⟩ := cell3 KR2.out
      obtain ⟨s0, s1, s2⟩ := res3 KR2.out (.slice none 0 0) (.int .i64 0) (.bool false)
      go_wp2_with (go_at_call 52; refine (callL1In _ _ _ _).mono ?_; rintro e w' ⟨rfl, rfl⟩)
      exact bodyPost_ret (v := .agg #[.slice none 0 0, .int .i64 0, .bool false]) (by simp [results, Try.results21, go_sem, s0, s1, s2]) rfl ⟨none, 0, rfl, Own.none_, Nat.le_refl _, bset3 HB2.out (by omega) _ _ _⟩
    · have hs := inB_iff.1 q2
      obtain ⟨n, hn⟩ := Int.eq_ofNat_of_zero_le hs.1
      subst hn
      have HG := Lib.hid (HGOOD.out n rfl q1 q2)
      have hn200 : n ≤ 200 := by omega
      have HOK := Lib.hid q1
      have hcl := (coreB_iff.1 q1).2.1
      have hpc := (progB_iff.1 (coreB_iff.1 q1).1).2.1
      have hcs8 : cr.cs.length ≤ 8 := by omega
      have HRL := Lib.hid (corRun_len q1)
      have HRK := Lib.hid (corRun_ok q1)
      clear HBAD HGOOD q1 hcl hpc
      obtain ⟨x0, x1, x2, _, _, _, x6⟩ := cell3 KB2.out
      go_upto_region 4 with (go_at_call 52; refine (callL1In _ _ _ _).mono ?_; rintro e w' ⟨rfl, rfl⟩)
      obtain ⟨cs, at0, st⟩ := cr
      simp only at *
      obtain ⟨Z, hZ⟩ : ∃ Z, Z = Obj.cells #[.slice none 0 0, .int .i64 0, .bool false] 33 := ⟨_, rfl⟩
      have Ba : Hid (Below w2.heap.size w2 (w2.alloc (.cells #[] 3)).drew) := (below1 _ _).drew
      have Bb : Hid (Below w2.heap.size w2 ((w2.alloc (.cells #[] 3)).alloc (.cells #[.slice none 0 0, .int .i64 0, .bool false] 33)).drew) := (below2 _ _ _).drew
      have Bc : Hid (Below w2.heap.size w2 ((w2.alloc (.cells #[.slice none 0 0, .int .i64 0, .bool false] 33)).alloc (.cells #[] 3)).drew) := (below2 _ _ _).drew
      have Xb : Hid (((w2.alloc (.cells #[] 3)).alloc (.cells #[.slice none 0 0, .int .i64 0, .bool false] 33)).drew.heap[w2.heap.size + 1]? = some (.cells #[.slice none 0 0, .int .i64 0, .bool false] 33 (0, 0))) := alloc_at1 _ _ _
      have Xc : Hid (((w2.alloc (.cells #[.slice none 0 0, .int .i64 0, .bool false] 33)).alloc (.cells #[] 3)).drew.heap[w2.heap.size]? = some (.cells #[.slice none 0 0, .int .i64 0, .bool false] 33 (0, 0))) := alloc_at0 _ _ _
      have RDs : Hid (∀ W, Below w2.heap.size w2 W → Rd eInt W W.heap.size A1 cs) := fun W hW => (HO2.out.rd.below hW).mono hW.size
      have CLs : Hid (∀ W, Below w2.heap.size w2 W → W.heap[w.heap.size]? = some (.cells #[.slice A1 cs.length c1, .int .i64 at0, .bool st] 33 (0, 0))) := fun W hW => blkc KB2.out hW
      have hroom : Hid (([] : List Int).length + cs.length ≤ 1073741824) := by show 0 + _ ≤ _; omega
      obtain ⟨xa0, xa1, xa2, _, _, _, _⟩ := cell3 (CLs.out _ Ba.out)
      obtain ⟨xb0, xb1, xb2, _, _, _, _⟩ := cell3 (CLs.out _ Bb.out)
      obtain ⟨xc0, xc1, xc2, _, _, _, _⟩ := cell3 (CLs.out _ Bc.out)
      obtain ⟨xd0, xd1, xd2, _, _, _, _⟩ := cell3 (CLs.out _ (below1 w2 (.cells #[.slice none 0 0, .int .i64 0, .bool false] 33)).drew)
      clear hZ
      go_cut [9] (fun s9 wx => ∃ X A' c', s9 = .pointer (some ⟨X, 0, none⟩) ∧ Hid (RCS w2 X w2.heap.size A' c' ⟨cs, at0, st⟩ wx ∧ cs.length ≤ c' ∧ w2.heap.size ≤ X))
      case first =>
        go_region_held3 (fun w' => w'.cell? ⟨w.heap.size, 0, none⟩ = some (.slice A1 cs.length c1) ∧ w'.cell? ⟨w.heap.size, 1, none⟩ = some (.int .i64 at0) ∧ w'.cell? ⟨w.heap.size, 2, none⟩ = some (.bool st)) (first | exact ⟨x0, x1, x2⟩ | exact ⟨xa0, xa1, xa2⟩ | exact ⟨xb0, xb1, xb2⟩ | exact ⟨xc0, xc1, xc2⟩ | exact ⟨xd0, xd1, xd2⟩ | (refine ⟨?_, ?_, ?_⟩ <;> assumption) | (refine ⟨?_, ?_, ?_⟩ <;> (rw [World.cell?_setCell_other _ _ _ _ (fun e => by injection e with e1 _ _; omega), World.cell?_setCell_other _ _ _ _ (fun e => by injection e with e1 _ _; omega), World.cell?_setCell_other _ _ _ _ (fun e => by injection e with e1 _ _; omega)]; assumption)) | go_keep)
          (first
            | (refine step_app (w := (w2.alloc (.cells #[] 3)).drew) (n := cs.length) (c := c1) eiInt rfl (.tmp 26) (.tmp 28) rfl w2.heap.size (xs := []) (Own.none_ (A := some ⟨w2.heap.size, 0, none⟩)) (RDs.out _ Ba.out) rfl (by simp [Act.eval]) (by simp [Act.eval]) hroom.out Ba.out.size ?_; intro v' w4 row hown4' hg4 hrow4; have hown4 : Own eInt 3 w4 w2.heap.size v' cs := hown4'; obtain ⟨A4, c4, hv4, hc4, _⟩ := hown4.form; subst hv4; have hb4 := Ba.out.trans (below_of_row hg4 (fun k hk => (hrow4 k hk).1) Ba.out.size); obtain ⟨n0, n1, n2, _, _, _, _⟩ := cell3 (CLs.out _ hb4); obtain ⟨na0, na1, na2, _, _, _, _⟩ := cell3 (CLs.out _ (bel_trans hb4 (below1 w4 (.cells #[.slice none 0 0, .int .i64 0, .bool false] 33)))); obtain ⟨nb0, nb1, nb2, _, _, _, _⟩ := cell3 (CLs.out _ (bel_trans hb4 (below1 w4 (.cells #[.slice A4 cs.length c4, .int .i64 at0, .bool st] 33)))); have hx4 := True.intro)
            | (refine step_app (w := ((w2.alloc (.cells #[] 3)).alloc (.cells #[.slice none 0 0, .int .i64 0, .bool false] 33)).drew) (n := cs.length) (c := c1) eiInt rfl (.tmp 26) (.tmp 28) rfl w2.heap.size (xs := []) (Own.none_ (A := some ⟨w2.heap.size, 0, none⟩)) (RDs.out _ Bb.out) rfl (by simp [Act.eval]) (by simp [Act.eval]) hroom.out Bb.out.size ?_; intro v' w4 row hown4' hg4 hrow4; have hown4 : Own eInt 3 w4 w2.heap.size v' cs := hown4'; obtain ⟨A4, c4, hv4, hc4, _⟩ := hown4.form; subst hv4; have hb4 := Bb.out.trans (below_of_row hg4 (fun k hk => (hrow4 k hk).1) Bb.out.size); obtain ⟨n0, n1, n2, _, _, _, _⟩ := cell3 (CLs.out _ hb4); have hx4 := core_box Xb.out hg4 hrow4; obtain ⟨m0, m1, m2, m3, m4, m5, m6⟩ := cell3 hx4)
            | (refine step_app (w := ((w2.alloc (.cells #[.slice none 0 0, .int .i64 0, .bool false] 33)).alloc (.cells #[] 3)).drew) (n := cs.length) (c := c1) eiInt rfl (.tmp 26) (.tmp 28) rfl w2.heap.size (xs := []) (Own.none_ (A := some ⟨w2.heap.size + 1, 0, none⟩)) (RDs.out _ Bc.out) rfl (by simp [Act.eval]) (by simp [Act.eval]) hroom.out Bc.out.size ?_; intro v' w4 row hown4' hg4 hrow4; have hown4 : Own eInt 3 w4 w2.heap.size v' cs := hown4'; obtain ⟨A4, c4, hv4, hc4, _⟩ := hown4.form; subst hv4; have hb4 := Bc.out.trans (below_of_row hg4 (fun k hk => (hrow4 k hk).1) Bc.out.size); obtain ⟨n0, n1, n2, _, _, _, _⟩ := cell3 (CLs.out _ hb4); have hx4 := core_box Xc.out hg4 hrow4; obtain ⟨m0, m1, m2, m3, m4, m5, m6⟩ := cell3 hx4))
        all_goals (go_wp2_with fail; go_meet)
        trace_state
        all_goals first | exact core_after hb4 hown4 hc4 | exact core_ahead hb4 hown4 hc4 hx4 (Nat.le_refl _) | exact core_ahead hb4 hown4 hc4 hx4 (Nat.le_succ _)
      case rest =>
        obtain ⟨X, A2, c2, rfl, HC⟩ := hcut
        have hXs := HC.out.2.2
        have hcc2 := HC.out.2.1
        have S0 : Hid (RCS w2 X w2.heap.size A2 c2 (corRun ⟨cs, at0, st⟩ os 0) wc) := HC.out.1
        clear HC x0 x1 x2 x6 xa0 xa1 xa2 xb0 xb1 xb2 xc0 xc1 xc2 xd0 xd1 xd2 Ba Bb Bc Xb Xc RDs CLs hroom
        go_wp2_with fail
        go_loopw [10] (fun i wr => ∃ (k : Nat) (A9 : Option Addr) (c9 : Nat), k ≤ n ∧ i = .int .i64 k ∧ cs.length ≤ c9 ∧ Hid (RCS w2 X w2.heap.size A9 c9 (corRun ⟨cs, at0, st⟩ os k) wr)) (fun i _ => n - (intOf i).toNat)
        case atStart => exact ⟨0, A2, c2, by omega, rfl, hcc2, S0.out⟩
        case round =>
          clear S0 hcc2
          obtain ⟨k, A9, c9, hk, rfl, hc9, SR⟩ := hrel
          have HBr := Lib.hid (bel_trans HB2.out SR.out.bel)
          have KRr := Lib.hid (blkc KR2.out SR.out.bel)
          have HRr := Lib.hid ((HRO.out.below (HBr.out.mono hB)).mono (Nat.le_trans hB HBr.out.size))
          have HL := Lib.hid (HRL.out k)
          have HLS := Lib.hid (HRL.out (k + 1))
          by_cases hlt : k < n
          · have hd : decide ((k : Int) < (n : Int)) = true := decide_eq_true (by omega)
            have hd2 : decide (k < n) = true := decide_eq_true hlt
            have CS := Lib.hid (callSStepCore A9 c9 (corRun ⟨cs, at0, st⟩ os k) Ao co os cells (k : Int) wr wr.heap.size (Nat.le_refl _) (by rw [HL.out]; exact hm) hm2 SR.out.own.rd HRr.out)
            rw [stepRes_good (HRK.out k) (by omega)] at CS
            have hXs' : X < wr.heap.size := (cell3 SR.out.box).2.2.2.2.2.2
            have HSR := Lib.hid SR.out.box
            obtain ⟨q, hq⟩ : ∃ q, q = corRun ⟨cs, at0, st⟩ os k := ⟨_, rfl⟩
            obtain ⟨q2, hq2⟩ : ∃ q2, q2 = corRun ⟨cs, at0, st⟩ os (k + 1) := ⟨_, rfl⟩
            have hqq : corStep q os (k : Int) = q2 := by rw [hq, hq2]; rfl
            have hq2l : q2.cs.length ≤ c9 ∨ True := .inr trivial
            obtain ⟨oo, hoo⟩ : ∃ oo, oo = corOrd q os := ⟨_, rfl⟩
            rw [← hq] at CS HSR
            rw [hqq, ← hoo] at CS
            have HQ2 := Lib.hid hq2
            have HLQ : Hid (q2.cs.length = cs.length) := by show _ = _; rw [hq2]; exact HLS.out
            clear hq hq2 hqq hoo hq2l
            obtain ⟨x0, x1, x2, x3, x4, x5, x6⟩ := cell3 HSR.out
            go_wp2_with fail
            refine CS.out.mono ?_
            rintro e w5 ⟨A5, c5, rfl, ho5, hc5, hb5⟩
            simp only at ho5 hc5
            have HB5 := Lib.hid hb5
            have HX5 := Lib.hid (blkc HSR.out hb5)
            have HO5 := Lib.hid ho5
            obtain ⟨n0, n1, n2, n3, n4, n5, n6⟩ := cell3 HX5.out
            clear ho5 hb5 CS x0 x1 x2 x3 x4 x5 x6
            have S5 : Hid (∀ o1 o2 : Obj, RCS w2 X w2.heap.size A5 c5 q2 (((((w5.setCell ⟨X, 0, none⟩ (.slice A5 q2.cs.length c5)).setCell ⟨X, 1, none⟩ (.int .i64 q2.at')).setCell ⟨X, 2, none⟩ (.bool q2.stop)).alloc o1).alloc o2)) := fun o1 o2 =>
              ⟨((((bset3 (SR.out.bel.trans (HB5.out.mono SR.out.bel.size)) hXs _ _ _).alloc (by simp; have := HB5.out.size; have := SR.out.bel.size; omega) o1)).alloc (by simp; have := HB5.out.size; have := SR.out.bel.size; omega) o2), blkc (blkc (set3 HX5.out) (below1 _ o1)) (below1 _ o2), (((HO5.out.more (base' := w2.heap.size) SR.out.bel.size).keptOther (gset3 _ _ _) (fun k hk => by cases hk; exact .inr ⟨_, _, _, HX5.out, by decide⟩)).alloc o1).alloc o2⟩
            go_wp2_with fail
            go_roundw
            case rel => exact ⟨k + 1, A5, c5, by omega, by go_num, by rw [← HLQ.out]; exact hc5, by rw [← HQ2.out]; exact S5.out _ _⟩
            case measure => simp [intOf]; omega
          · have hd : decide ((k : Int) < (n : Int)) = false := decide_eq_false (by omega)
            have hd2 : decide (k < n) = false := decide_eq_false hlt
            have hke : n = k := by omega
            rw [hke] at HG
            clear hke
            have HSR := Lib.hid SR.out.box
            have HOr := Lib.hid SR.out.own
            have hcc : (corRun ⟨cs, at0, st⟩ os k).cs.length ≤ c9 := by rw [HL.out]; exact hc9
            obtain ⟨rr, hrr⟩ : ∃ rr, rr = corRun ⟨cs, at0, st⟩ os k := ⟨_, rfl⟩
            rw [← hrr] at HG HSR HOr hcc
            clear hrr HL HLS HRL HRK SR
            obtain ⟨x0, x1, x2, x3, x4, x5, x6⟩ := cell3 HSR.out
            obtain ⟨y0, y1, y2, y3, y4, y5, y6⟩ := cell3 KRr.out
            obtain ⟨s0, s1, s2⟩ := res3 KRr.out (.slice A9 rr.cs.length c9) (.int .i64 rr.at') (.bool rr.stop)
            go_wp2_with fail
            exact bodyPost_ret (v := .agg #[.slice A9 rr.cs.length c9, .int .i64 rr.at', .bool rr.stop]) (by simp [results, Try.results21, go_sem, s0, s1, s2]) rfl (by rw [HG.out]; exact ⟨A9, c9, rfl, (HOr.out.kept (gset3 _ _ _) (fun k hk => by cases hk; omega)).more (by omega), hcc, bset3 HBr.out (by omega) _ _ _⟩)
end Go.Proofs.Ytiodpnhokjkjaaa
