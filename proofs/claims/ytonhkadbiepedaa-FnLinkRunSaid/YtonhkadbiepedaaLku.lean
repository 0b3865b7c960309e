/- LinkSend of the reference, for every input. -/
import Derived.Test.YtonhkadbiepedaaLkt
namespace Go.Proofs.Ytonhkadbiepedaa
open Go.RowKit Go.Sort

/-- A box stays what it is where a row of another type grows. -/
theorem link_box {wc w7 : World} {n : Nat} {r : Obj} {row : Option Nat} {z : Nat} {cs : Array Value} {T e : TypeId} (hne : T ≠ e) (h : wc.heap[z]? = some (.cells cs T (0, 0))) (hg : ((wc.drewN n).alloc r).grownBy w7 row) (hr : ∀ k, row = some k → ∃ cur, ((wc.drewN n).alloc r).heap[k]? = some (.cells cur e (0, 0))) : w7.heap[z]? = some (.cells cs T (0, 0)) := by
  have hz0 : ((wc.drewN n).alloc r).heap[z]? = some (.cells cs T (0, 0)) := blkc (w := wc.drewN n) h (below1 _ r)
  refine (hg.block z (Array.getElem?_eq_some_iff.1 hz0).1 (fun e' => ?_)).trans hz0
  obtain ⟨cur, hcur⟩ := hr z e'.symm
  rw [hz0] at hcur
  injection hcur with hcur
  injection hcur with _ ht _
  exact hne ht
set_option maxRecDepth 100000 in
set_option maxHeartbeats 3200000 in
theorem callSLinkSend (A : Option Addr) (c : Nat) (d : Int) (ps : List Pkt) (tick v : Int) (w : World) (B : Nat) (hB : B ≤ w.heap.size) (hm : ps.length ≤ 1000) (hr : Rd ePkt w B A ps) :
    Calls Try.prog 18 #[.agg #[.int .i64 d, .slice A ps.length c], .int .i64 tick, .int .i64 v] w fun e w' => ∃ A1 c1, e = .returned (.tuple #[.agg #[.int .i64 (linkSend d ps tick v).1.1, .slice A1 (linkSend d ps tick v).1.2.length c1], .bool (linkSend d ps tick v).2]) ∧ Own ePkt 46 w' w.heap.size (.slice A1 (linkSend d ps tick v).1.2.length c1) (linkSend d ps tick v).1.2 ∧ (linkSend d ps tick v).1.2.length ≤ c1 ∧ Below w.heap.size w w' := by
  have HR := Lib.hid hr
  have V : Hid (∀ W, Below w.heap.size w W → Calls Try.prog 25 #[.agg #[.int .i64 d, .slice A ps.length c]] W fun e w' => e = .returned (.bool (linkOk d ps)) ∧ Below W.heap.size W w') := fun W hW => callSLinkValid A c d ps W B (Nat.le_trans hB hW.size) (by omega) (hr.below (hW.mono hB))
  have C : Hid (∀ W, Below w.heap.size w W → Calls Try.prog 46 #[.agg #[.int .i64 d, .slice A ps.length c]] W fun e w' => ∃ A' c', e = .returned (.agg #[.int .i64 d, .slice A' ps.length c']) ∧ Own ePkt 46 w' W.heap.size (.slice A' ps.length c') ps ∧ ps.length ≤ c' ∧ Below W.heap.size W w') := fun W hW => callL23Copy A c d ps W B (Nat.le_trans hB hW.size) hm (hr.below (hW.mono hB))
  clear hr
  have K0 := Lib.hid (alloc_at0 w (.cells #[.int .i64 d, .slice A ps.length c] 36) (.cells #[.int .i64 0, .slice none 0 0] 36))
  have K1 := Lib.hid (alloc_at1 w (.cells #[.int .i64 d, .slice A ps.length c] 36) (.cells #[.int .i64 0, .slice none 0 0] 36))
  have HBAD : ((linkOk d ps && inB tick 0 100000) && inB v 0 255) = false → linkSend d ps tick v = ((0, []), false) := fun h => by unfold linkSend; rw [h]; rfl
  cases q1 : linkOk d ps
  · rw [q1] at V HBAD
    rw [HBAD rfl]
    clear HBAD C q1
    go_enter Try.func18, Try.ntmps18
    go_wp2_with fail
    refine (V.out _ (below2 w _ _)).mono ?_
    rintro e w1 ⟨rfl, hb1⟩
    have HB1 := Lib.hid (bel_trans (below2 w _ _) hb1)
    have KR := Lib.hid (blkc K1.out hb1)
    clear hb1
    obtain ⟨a1, a2, a3, a4, a5⟩ := cell2 KR.out
    obtain ⟨s0, s1⟩ := res2 KR.out (.int .i64 0) (.slice none 0 0)
    go_wp2
    exact bodyPost_ret (v := .tuple #[.agg #[.int .i64 0, .slice none 0 0], .bool false]) (by simp [results, Try.results18, go_sem, s0, s1]) rfl ⟨none, 0, rfl, Own.none_, Nat.le_refl _, bset2 HB1.out (by omega) _ _⟩
  · cases q2 : inB tick 0 100000
    · rw [q1, q2] at HBAD
      rw [q1] at V
      rw [HBAD rfl]
      clear HBAD C q1
      go_enter Try.func18, Try.ntmps18
      go_wp2_with fail
      refine (V.out _ (below2 w _ _)).mono ?_
      rintro e w1 ⟨rfl, hb1⟩
      have HB1 := Lib.hid (bel_trans (below2 w _ _) hb1)
      have KR := Lib.hid (blkc K1.out hb1)
      clear hb1
      obtain ⟨a1, a2, a3, a4, a5⟩ := cell2 KR.out
      obtain ⟨s0, s1⟩ := res2 KR.out (.int .i64 0) (.slice none 0 0)
      go_wp2_with (go_at_call 38; refine (callL1In _ _ _ _).mono ?_; rintro e w' ⟨rfl, rfl⟩)
      exact bodyPost_ret (v := .tuple #[.agg #[.int .i64 0, .slice none 0 0], .bool false]) (by simp [results, Try.results18, go_sem, s0, s1]) rfl ⟨none, 0, rfl, Own.none_, Nat.le_refl _, bset2 HB1.out (by omega) _ _⟩
    · cases q3 : inB v 0 255
      · rw [q1, q2, q3] at HBAD
        rw [q1] at V
        rw [HBAD rfl]
        clear HBAD C q1
        go_enter Try.func18, Try.ntmps18
        go_wp2_with fail
        refine (V.out _ (below2 w _ _)).mono ?_
        rintro e w1 ⟨rfl, hb1⟩
        have HB1 := Lib.hid (bel_trans (below2 w _ _) hb1)
        have KR := Lib.hid (blkc K1.out hb1)
        clear hb1
        obtain ⟨a1, a2, a3, a4, a5⟩ := cell2 KR.out
        obtain ⟨s0, s1⟩ := res2 KR.out (.int .i64 0) (.slice none 0 0)
        go_wp2_with (go_at_call 38; refine (callL1In _ _ _ _).mono ?_; rintro e w' ⟨rfl, rfl⟩)
        exact bodyPost_ret (v := .tuple #[.agg #[.int .i64 0, .slice none 0 0], .bool false]) (by simp [results, Try.results18, go_sem, s0, s1]) rfl ⟨none, 0, rfl, Own.none_, Nat.le_refl _, bset2 HB1.out (by omega) _ _⟩
      · rw [linkSend_good (d := d) (ps := ps) (tick := tick) (v := v) (by rw [q1, q2, q3]; rfl)]
        have hdb := (linkOk_iff.1 q1).2.1
        have htb := inB_iff.1 q2
        have hwrap : IntKind.i64.wrap (tick + d) = tick + d := IntWalk.i64_in _ (by omega)
        have EF := Lib.hid (linkFull_iff (d := d) (ps := ps) (tick := tick))
        rw [q1] at V
        clear HBAD q1
        obtain ⟨f, hf⟩ : ∃ f, f = linkFull d ps tick := ⟨_, rfl⟩
        rw [← hf] at EF ⊢
        clear hf
        obtain ⟨R, hR⟩ : ∃ R, R = if f then ps else ps ++ [(⟨tick + d, v⟩ : Pkt)] := ⟨_, rfl⟩
        rw [← hR]
        have HRR := Lib.hid hR
        clear hR
        simp only
        go_enter Try.func18, Try.ntmps18
        go_wp2_with fail
        refine (V.out _ (below2 w _ _)).mono ?_
        rintro e u ⟨rfl, hb1⟩
        have HB1 := Lib.hid (bel_trans (below2 w _ _) hb1)
        have KB := Lib.hid (blkc K0.out hb1)
        have KR := Lib.hid (blkc K1.out hb1)
        clear hb1
        have hsu : w.heap.size + 1 < u.heap.size := (cell2 KR.out).2.2.2.2
        obtain ⟨b1, b2, b3, b4, b5⟩ := cell2 KB.out
        go_wp2_with (go_at_call 38; refine (callL1In _ _ _ _).mono ?_; rintro e w' ⟨rfl, rfl⟩)
        refine (C.out _ HB1.out).mono ?_
        rintro e w2 ⟨A1, c1, rfl, hown, hc1, hb2⟩
        have HC0 : Hid (Below u.heap.size u (w2.alloc (.cells #[.int .i64 d, .slice A1 ps.length c1] 36)) ∧ u.heap.size ≤ w2.heap.size ∧ (w2.alloc (.cells #[.int .i64 d, .slice A1 ps.length c1] 36)).heap[w2.heap.size]? = some (.cells #[.int .i64 d, .slice A1 ps.length c1] 36 (0, 0)) ∧ Own ePkt 46 (w2.alloc (.cells #[.int .i64 d, .slice A1 ps.length c1] 36)) u.heap.size (.slice A1 ps.length c1) ps) := ⟨bel_trans hb2 (below1 _ _), hb2.size, heap_alloc_new _ _, hown.alloc _⟩
        have HKB0 := Lib.hid (blkc (blkc KB.out hb2) (below1 w2 (.cells #[.int .i64 d, .slice A1 ps.length c1] 36)))
        have kb0 := (cell2 HKB0.out).2.1
        have kb1 := (cell2 (blkc KB.out hb2)).1
        have kb2 := (cell2 (blkc KB.out hb2)).2.1
        clear hown hb2 b1 b2 b3 b4 b5 C V
        go_upto_region 5 with (fail)
        clear kb0 kb1 kb2 HKB0
        obtain ⟨wc, hwc⟩ : ∃ wc, wc = w2.alloc (.cells #[.int .i64 d, .slice A1 ps.length c1] 36) := ⟨_, rfl⟩
        obtain ⟨z, hz⟩ : ∃ z, z = w2.heap.size := ⟨_, rfl⟩
        rw [← hwc, ← hz] at HC0
        rw [← hwc, ← hz]
        have HC := HC0
        clear hwc hz HC0
        have HBx := Lib.hid (bel_trans HB1.out HC.out.1)
        have HK0 := Lib.hid (blkc KB.out HC.out.1)
        have HK1 := Lib.hid (blkc KR.out HC.out.1)
        have huz := HC.out.2.1
        clear KB KR K0 K1 HB1
        obtain ⟨x0, x1, _, _, _⟩ := cell2 HK0.out
        obtain ⟨y0, y1, y2, y3, y4⟩ := cell2 HK1.out
        obtain ⟨z0, z1, z2, z3, z4⟩ := cell2 HC.out.2.2.1
        have j0 := cell_regrown x0
        have j1 := cell_regrown x1
        have HFU : Hid (∀ m, (((wc.drewN m).setCell ⟨w.heap.size + 1, 0, none⟩ (.int .i64 d)).cell? ⟨w.heap.size + 1, 0, none⟩ = some (.int .i64 d)) ∧ ((((wc.drewN m).setCell ⟨w.heap.size + 1, 0, none⟩ (.int .i64 d)).setCell ⟨w.heap.size + 1, 1, none⟩ (.slice A1 ps.length c1)).cell? ⟨w.heap.size + 1, 1, none⟩ = some (.slice A1 ps.length c1)) ∧ Own ePkt 46 (((wc.drewN m).setCell ⟨w.heap.size + 1, 0, none⟩ (.int .i64 d)).setCell ⟨w.heap.size + 1, 1, none⟩ (.slice A1 ps.length c1)) w.heap.size (.slice A1 ps.length c1) ps ∧ Below w.heap.size w (((wc.drewN m).setCell ⟨w.heap.size + 1, 0, none⟩ (.int .i64 d)).setCell ⟨w.heap.size + 1, 1, none⟩ (.slice A1 ps.length c1))) := fun m => by
          have hk : (wc.drewN m).heap[w.heap.size + 1]? = some (.cells #[.int .i64 0, .slice none 0 0] 36 (0, 0)) := HK1.out
          exact ⟨(res2 hk (.int .i64 d) (.slice A1 ps.length c1)).1, (res2 hk (.int .i64 d) (.slice A1 ps.length c1)).2, ((HC.out.2.2.2.drewN m).kept (gset2 _ _) (fun k hk => by cases hk; omega)).more (by omega), bset2 (below_drewN HBx.out m) (by omega) _ _⟩
        by_cases h20 : ps.length = 20
        · have hq : ((ps.length : Int) == 20) = true := by rw [beq_iff_eq]; omega
          have hf : f = true := by rw [EF.out, decide_eq_true h20]; rfl
          subst hf
          have hRp : R = ps := HRR.out
          subst hRp
          clear EF h20
          go_quiet (fail)
          go_wp2
          exact bodyPost_ret (v := .tuple #[.agg #[.int .i64 d, .slice A1 R.length c1], .bool false]) (by simp [results, Try.results18, go_sem, (HFU.out _).1, (HFU.out _).2.1]) rfl ⟨A1, c1, rfl, (HFU.out _).2.2.1, hc1, (HFU.out _).2.2.2⟩
        · have hq : ((ps.length : Int) == 20) = false := by rw [beq_eq_false_iff_ne]; omega
          rw [decide_eq_false h20, Bool.false_or] at EF
          by_cases h0 : 0 < ps.length
          · have hp : decide ((0 : Int) < (ps.length : Int)) = true := decide_eq_true (by omega)
            have hp2 : decide (0 < ps.length) = true := decide_eq_true h0
            obtain ⟨m, hm1⟩ : ∃ m, ps.length = m + 1 := ⟨ps.length - 1, by omega⟩
            have hwm : IntKind.i64.wrap ((ps.length : Int) - 1) = (m : Int) := (IntWalk.i64_in _ (by omega)).trans (by omega)
            have hi0 : (0 : Int) ≤ (m : Int) := by omega
            have hi1 : (m : Int) < (ps.length : Int) := by omega
            have hmlt : m < ps.length := by omega
            obtain ⟨b, off, rfl, hbB, h1, h2⟩ := (HR.out.below (HBx.out.mono hB)).at2 rfl hmlt rfl
            rw [decide_eq_true h0, Bool.true_and, show lastAt ps ps.length = ps[m].due by rw [hm1]; exact lastAt_succ hmlt] at EF
            obtain ⟨due, hdue⟩ : ∃ due, due = ps[m].due := ⟨_, rfl⟩
            rw [← hdue] at EF h1
            clear hdue h2 hm1 hmlt h20
            have k1 := cell_regrown h1
            by_cases hlt : tick + d < due
            · have hd : decide (tick + d < due) = true := decide_eq_true hlt
              have hf : f = true := by rw [EF.out, hd]
              subst hf
              have hRp : R = ps := HRR.out
              subst hRp
              clear EF
              go_quiet (fail)
              go_wp2
              exact bodyPost_ret (v := .tuple #[.agg #[.int .i64 d, .slice A1 R.length c1], .bool false]) (by simp [results, Try.results18, go_sem, (HFU.out _).1, (HFU.out _).2.1]) rfl ⟨A1, c1, rfl, (HFU.out _).2.2.1, hc1, (HFU.out _).2.2.2⟩
            · have hd : decide (tick + d < due) = false := decide_eq_false hlt
              have hf : f = false := by rw [EF.out, hd]
              subst hf
              clear EF HFU
              go_quiet (fail)
              clear h1 k1 j0 j1
              go_wp2_with (at_builtin; refine wpList_app _ eiPkt rfl (.tmp 51) (.tmp 58) rfl u.heap.size ((HC.out.2.2.2.drewN _).alloc _) (Rd.new (E := ePkt) (xs := [⟨tick + d, v⟩]) _ _ _ rfl) rfl rfl rfl (by simp only [List.length_cons, List.length_nil]; omega) (by have := HC.out.1.size; simp; omega) ?_; intro v' w7 row hown7 hg7 hrow7; have hq : R = ps ++ [(⟨tick + d, v⟩ : Pkt)] := HRR.out; rw [← hq] at hown7; clear hq; obtain ⟨A7, c7, hv7, hc7, _⟩ := hown7.form; subst hv7; have HZ7 : Hid (w7.heap[z]? = some (.cells #[.int .i64 d, .slice A1 ps.length c1] 36 (0, 0))) := Lib.hid (link_box (T := 36) (e := 46) (by decide) (HC.out.2.2.1) hg7 (fun k hk => (hrow7 k hk).2.2)); have HK7 : Hid (w7.heap[w.heap.size + 1]? = some (.cells #[.int .i64 0, .slice none 0 0] 36 (0, 0))) := Lib.hid (link_box (T := 36) (e := 46) (by decide) HK1.out hg7 (fun k hk => (hrow7 k hk).2.2)); have hlast := below_of_row (base := u.heap.size) hg7 (fun k hk => (hrow7 k hk).1) (by have := HC.out.1.size; simp; omega); have HB7 : Hid (Below w.heap.size w w7) := (by show Below _ _ _; refine Below.trans ?_ (hlast.mono (by omega)); exact bel_trans (below_drewN HBx.out _) (below1 _ _)); have HO7 := Lib.hid hown7; clear hown7 hg7 hrow7 hlast; have HZ9 := Lib.hid (set2b (u := .slice A7 R.length c7) HZ7.out); have HK9 := Lib.hid (blko HK7.out (p := ⟨z, 1, none⟩) (.slice A7 R.length c7) (by show w.heap.size + 1 ≠ z; omega)); have HB9 := Lib.hid (HB7.out.setCell (p := ⟨z, 1, none⟩) (by show w.heap.size ≤ z; omega) (.slice A7 R.length c7)); have HO9 := Lib.hid (HO7.out.keptOther (gset (g := z) 1 (.slice A7 R.length c7)) (fun k hk => by cases hk; exact .inr ⟨_, _, _, HZ7.out, by decide⟩)); obtain ⟨z0, z1, z2, z3, z4⟩ := cell2 HZ7.out; obtain ⟨t0, t1, _, _, _⟩ := cell2 HZ9.out; obtain ⟨y0, y1, y2, y3, y4⟩ := cell2 HK9.out; obtain ⟨s0, s1⟩ := res2 HK9.out (.int .i64 d) (.slice A7 R.length c7))
              exact bodyPost_ret (v := .tuple #[.agg #[.int .i64 d, .slice A7 R.length c7], .bool true]) (by simp [results, Try.results18, go_sem, s0, s1]) rfl ⟨A7, c7, rfl, (HO9.out.kept (gset2 (g := w.heap.size + 1) _ _) (fun k hk => by cases hk; omega)).more (base' := w.heap.size) (by omega), hc7, bset2 HB9.out (by omega) _ _⟩
          · have hp : decide ((0 : Int) < (ps.length : Int)) = false := decide_eq_false (by omega)
            have hp2 : decide (0 < ps.length) = false := decide_eq_false h0
            have hf : f = false := by rw [EF.out, decide_eq_false h0]; rfl
            subst hf
            clear EF HFU h20
            go_quiet (fail)
            clear j0 j1
            go_wp2_with (at_builtin; refine wpList_app _ eiPkt rfl (.tmp 51) (.tmp 58) rfl u.heap.size ((HC.out.2.2.2.drewN _).alloc _) (Rd.new (E := ePkt) (xs := [⟨tick + d, v⟩]) _ _ _ rfl) rfl rfl rfl (by simp only [List.length_cons, List.length_nil]; omega) (by have := HC.out.1.size; simp; omega) ?_; intro v' w7 row hown7 hg7 hrow7; have hq : R = ps ++ [(⟨tick + d, v⟩ : Pkt)] := HRR.out; rw [← hq] at hown7; clear hq; obtain ⟨A7, c7, hv7, hc7, _⟩ := hown7.form; subst hv7; have HZ7 : Hid (w7.heap[z]? = some (.cells #[.int .i64 d, .slice A1 ps.length c1] 36 (0, 0))) := Lib.hid (link_box (T := 36) (e := 46) (by decide) (HC.out.2.2.1) hg7 (fun k hk => (hrow7 k hk).2.2)); have HK7 : Hid (w7.heap[w.heap.size + 1]? = some (.cells #[.int .i64 0, .slice none 0 0] 36 (0, 0))) := Lib.hid (link_box (T := 36) (e := 46) (by decide) HK1.out hg7 (fun k hk => (hrow7 k hk).2.2)); have hlast := below_of_row (base := u.heap.size) hg7 (fun k hk => (hrow7 k hk).1) (by have := HC.out.1.size; simp; omega); have HB7 : Hid (Below w.heap.size w w7) := (by show Below _ _ _; refine Below.trans ?_ (hlast.mono (by omega)); exact bel_trans (below_drewN HBx.out _) (below1 _ _)); have HO7 := Lib.hid hown7; clear hown7 hg7 hrow7 hlast; have HZ9 := Lib.hid (set2b (u := .slice A7 R.length c7) HZ7.out); have HK9 := Lib.hid (blko HK7.out (p := ⟨z, 1, none⟩) (.slice A7 R.length c7) (by show w.heap.size + 1 ≠ z; omega)); have HB9 := Lib.hid (HB7.out.setCell (p := ⟨z, 1, none⟩) (by show w.heap.size ≤ z; omega) (.slice A7 R.length c7)); have HO9 := Lib.hid (HO7.out.keptOther (gset (g := z) 1 (.slice A7 R.length c7)) (fun k hk => by cases hk; exact .inr ⟨_, _, _, HZ7.out, by decide⟩)); obtain ⟨z0, z1, z2, z3, z4⟩ := cell2 HZ7.out; obtain ⟨t0, t1, _, _, _⟩ := cell2 HZ9.out; obtain ⟨y0, y1, y2, y3, y4⟩ := cell2 HK9.out; obtain ⟨s0, s1⟩ := res2 HK9.out (.int .i64 d) (.slice A7 R.length c7))
            exact bodyPost_ret (v := .tuple #[.agg #[.int .i64 d, .slice A7 R.length c7], .bool true]) (by simp [results, Try.results18, go_sem, s0, s1]) rfl ⟨A7, c7, rfl, (HO9.out.kept (gset2 (g := w.heap.size + 1) _ _) (fun k hk => by cases hk; omega)).more (base' := w.heap.size) (by omega), hc7, bset2 HB9.out (by omega) _ _⟩
end Go.Proofs.Ytonhkadbiepedaa
