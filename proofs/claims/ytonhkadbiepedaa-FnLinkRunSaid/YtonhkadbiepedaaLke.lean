/- Link.send of the program, for every input. -/
import Derived.Test.YtonhkadbiepedaaLkd
namespace Go.Proofs.Ytonhkadbiepedaa
open Go.RowKit Go.Sort

/-- A link that a call made lies in a box: made behind the call, or ahead of it. -/
theorem link_after {wr w5 : World} {A : Option Addr} {c : Nat} {d : Int} {xs : List Pkt} {T : TypeId} {e : TypeId} (hb : Below wr.drew.heap.size wr.drew w5) (ho : Own ePkt e w5 wr.drew.heap.size (.slice A xs.length c) xs) (hc : xs.length ≤ c) :
    ∃ z A', Value.pointer (some ⟨w5.heap.size, 0, none⟩) = .pointer (some ⟨z, 0, none⟩) ∧ Hid (Below wr.heap.size wr (w5.alloc (.cells #[.int .i64 d, .slice A xs.length c] T)) ∧ wr.heap.size ≤ z ∧ (w5.alloc (.cells #[.int .i64 d, .slice A xs.length c] T)).heap[z]? = some (.cells #[.int .i64 d, .slice A' xs.length c] T (0, 0)) ∧ Own ePkt e (w5.alloc (.cells #[.int .i64 d, .slice A xs.length c] T)) wr.heap.size (.slice A' xs.length c) xs ∧ xs.length ≤ c) := by
  have hb' : Below wr.heap.size wr w5 := Below.trans (Below.refl _ _).drew hb
  exact ⟨_, A, rfl, bel_trans hb' (below1 _ _), hb'.size, heap_alloc_new _ _, ho.alloc _, hc⟩
theorem link_ahead {wr w5 : World} {A : Option Addr} {c : Nat} {d : Int} {xs : List Pkt} {v0 v1 : Value} {T : TypeId} {e : TypeId} (hb : Below (wr.alloc (.cells #[v0, v1] T)).drew.heap.size (wr.alloc (.cells #[v0, v1] T)).drew w5) (ho : Own ePkt e w5 (wr.alloc (.cells #[v0, v1] T)).drew.heap.size (.slice A xs.length c) xs) (hc : xs.length ≤ c) :
    ∃ z A', Value.pointer (some ⟨wr.heap.size, 0, none⟩) = .pointer (some ⟨z, 0, none⟩) ∧ Hid (Below wr.heap.size wr ((w5.setCell ⟨wr.heap.size, 0, none⟩ (.int .i64 d)).setCell ⟨wr.heap.size, 1, none⟩ (.slice A xs.length c)) ∧ wr.heap.size ≤ z ∧ ((w5.setCell ⟨wr.heap.size, 0, none⟩ (.int .i64 d)).setCell ⟨wr.heap.size, 1, none⟩ (.slice A xs.length c)).heap[z]? = some (.cells #[.int .i64 d, .slice A' xs.length c] T (0, 0)) ∧ Own ePkt e ((w5.setCell ⟨wr.heap.size, 0, none⟩ (.int .i64 d)).setCell ⟨wr.heap.size, 1, none⟩ (.slice A xs.length c)) wr.heap.size (.slice A' xs.length c) xs ∧ xs.length ≤ c) := by
  have hb' : Below (wr.alloc (.cells #[v0, v1] T)).heap.size (wr.alloc (.cells #[v0, v1] T)) w5 := Below.trans (Below.refl _ _).drew hb
  have ho' : Own ePkt e w5 (wr.alloc (.cells #[v0, v1] T)).heap.size (.slice A xs.length c) xs := ho
  rw [World.size_alloc] at ho'
  exact ⟨_, A, rfl, bset2 (bel_trans (below1 wr _) hb') (Nat.le_refl _) _ _, Nat.le_refl _, set2 (blkc (heap_alloc_new wr _) hb'), (ho'.kept (gset2 _ _) (fun k hk => by cases hk; omega)).more (by omega), hc⟩

theorem linkFull_iff {d : Int} {ps : List Pkt} {tick : Int} : linkFull d ps tick = (decide (ps.length = 20) || (decide (0 < ps.length) && decide (tick + d < lastAt ps ps.length))) := rfl
set_option maxRecDepth 100000 in
set_option maxHeartbeats 3200000 in
theorem callLSend (A : Option Addr) (c : Nat) (d : Int) (ps : List Pkt) (tick v : Int) (w : World) (B : Nat) (hB : B ≤ w.heap.size) (hc : ps.length ≤ c) (hm : ps.length ≤ 1000) (hd0 : 0 ≤ d) (hd1 : d ≤ 50) (ht0 : 0 ≤ tick) (ht1 : tick ≤ 100000) (hr : Rd ePkt w B A ps) :
    Calls Try.prog 45 #[.agg #[.int .i64 d, .slice A ps.length c], .int .i64 tick, .int .i64 v] w fun e w' => ∃ A1, e = .returned (.tuple #[.agg #[.int .i64 d, .slice A1 (if linkFull d ps tick then ps else ps ++ [⟨tick + d, v⟩]).length (if linkFull d ps tick then ps else ps ++ [⟨tick + d, v⟩]).length], .bool (!linkFull d ps tick)]) ∧ Own ePkt 46 w' w.heap.size (.slice A1 (if linkFull d ps tick then ps else ps ++ [⟨tick + d, v⟩]).length (if linkFull d ps tick then ps else ps ++ [⟨tick + d, v⟩]).length) (if linkFull d ps tick then ps else ps ++ [⟨tick + d, v⟩]) ∧ Below w.heap.size w w' := by
  have HR := Lib.hid hr
  have EF := Lib.hid (linkFull_iff (d := d) (ps := ps) (tick := tick))
  have hwrap : IntKind.i64.wrap (tick + d) = tick + d := IntWalk.i64_in _ (by omega)
  have hV := below2 w (.cells #[.int .i64 d, .slice A ps.length c] 36) (.cells #[.int .i64 0, .slice none 0 0] 36)
  have K0 := Lib.hid (alloc_at0 w (.cells #[.int .i64 d, .slice A ps.length c] 36) (.cells #[.int .i64 0, .slice none 0 0] 36))
  have K1 := Lib.hid (alloc_at1 w (.cells #[.int .i64 d, .slice A ps.length c] 36) (.cells #[.int .i64 0, .slice none 0 0] 36))
  clear hr
  obtain ⟨f, hf⟩ : ∃ f, f = linkFull d ps tick := ⟨_, rfl⟩
  rw [← hf] at EF ⊢
  clear hf
  obtain ⟨R, hR⟩ : ∃ R, R = if f then ps else ps ++ [(⟨tick + d, v⟩ : Pkt)] := ⟨_, rfl⟩
  rw [← hR]
  have HRR := Lib.hid hR
  clear hR
  go_enter Try.func45, Try.ntmps45
  go_upto_region 2 with (fail)
  obtain ⟨u, hu⟩ : ∃ u, u = ((w.alloc (.cells #[.int .i64 d, .slice A ps.length c] 36)).alloc (.cells #[.int .i64 0, .slice none 0 0] 36)) := ⟨_, rfl⟩
  rw [← hu] at hV K0 K1 ⊢
  clear hu
  have HV := Lib.hid hV
  clear hV
  have hsu : w.heap.size + 1 < u.heap.size := (cell2 K1.out).2.2.2.2
  obtain ⟨x0, x1, x2, x3, x4⟩ := cell2 K0.out
  have D0 : Hid (Below u.heap.size u u.drew) := (Below.refl _ _).drew
  have D1 : Hid (Below u.heap.size u (u.alloc (.cells #[.int .i64 0, .slice none 0 0] 36)).drew) := (below1 u _).drew
  have C : ∀ W, Below u.heap.size u W → Hid (Calls Try.prog 61 #[.slice A ps.length c] W fun e w' => ∃ A', e = .returned (.slice A' ps.length ps.length) ∧ Own ePkt 46 w' W.heap.size (.slice A' ps.length ps.length) ps ∧ Below W.heap.size W w') := fun W hW =>
    callCopyPkt A c ps W B (Nat.le_trans hB (Nat.le_trans HV.out.size hW.size)) hc (by omega) (HR.out.below ((bel_trans HV.out hW).mono hB))
  go_cut [9] (fun s9 wx => ∃ z A', s9 = .pointer (some ⟨z, 0, none⟩) ∧ Hid (Below u.heap.size u wx ∧ u.heap.size ≤ z ∧ wx.heap[z]? = some (.cells #[.int .i64 d, .slice A' ps.length ps.length] 36 (0, 0)) ∧ Own ePkt 46 wx u.heap.size (.slice A' ps.length ps.length) ps ∧ ps.length ≤ ps.length))
  case first =>
    have KA := Lib.hid (blkc K0.out (below1 u (.cells #[.int .i64 0, .slice none 0 0] 36)))
    obtain ⟨xa0, xa1, _, _, _⟩ := cell2 KA.out
    go_region_held3 (fun w' => w'.cell? ⟨w.heap.size, 0, none⟩ = some (.int .i64 d) ∧ w'.cell? ⟨w.heap.size, 1, none⟩ = some (.slice A ps.length c)) (first | exact ⟨x0, x1⟩ | exact ⟨xa0, xa1⟩ | (refine ⟨?_, ?_⟩ <;> assumption) | (refine ⟨?_, ?_⟩ <;> (rw [World.cell?_setCell_other _ _ _ _ (fun e => by injection e with e1 _ _; omega), World.cell?_setCell_other _ _ _ _ (fun e => by injection e with e1 _ _; omega)]; assumption)) | go_keep)
      ((go_at_call 61; first
        | ((with_reducible refine (C u.drew D0.out).out.mono ?_); rintro e w5 ⟨A5, rfl, hown5, hb5⟩; have K5 := Lib.hid (blkc K0.out (bel_trans D0.out hb5)); obtain ⟨n0, n1, _, _, _⟩ := cell2 K5.out; obtain ⟨na0, na1, _, _, _⟩ := cell2 (blkc K5.out (below1 w5 (.cells #[.int .i64 0, .slice none 0 0] 36))); obtain ⟨nb0, nb1, _, _, _⟩ := cell2 (blkc K5.out (below1 w5 (.cells #[.int .i64 d, .slice A5 ps.length ps.length] 36))); have hm5 := True.intro)
        | ((with_reducible refine (C (u.alloc (.cells #[.int .i64 0, .slice none 0 0] 36)).drew D1.out).out.mono ?_); rintro e w5 ⟨A5, rfl, hown5, hb5⟩; obtain ⟨n0, n1, _, _, _⟩ := cell2 (blkc K0.out (bel_trans D1.out hb5)); have hm5 := blkc (w := (u.alloc (.cells #[.int .i64 0, .slice none 0 0] 36)).drew) (heap_alloc_new u _) hb5; obtain ⟨m1, m2, m3, m4, m5⟩ := cell2 hm5)))
    all_goals (go_wp2_with fail; go_meet)
    all_goals first | exact link_after hb5 hown5 (Nat.le_refl _) | exact link_ahead hb5 hown5 (Nat.le_refl _)
  case rest =>
    obtain ⟨z, A1, rfl, HC⟩ := hcut
    clear C D0 D1 x0 x1 x2 x3 x4
    have HBx := Lib.hid (bel_trans HV.out HC.out.1)
    have HK0 := Lib.hid (blkc K0.out HC.out.1)
    have HK1 := Lib.hid (blkc K1.out HC.out.1)
    obtain ⟨x0, x1, _, _, _⟩ := cell2 HK0.out
    obtain ⟨y0, y1, y2, y3, y4⟩ := cell2 HK1.out
    obtain ⟨z0, z1, z2, z3, z4⟩ := cell2 HC.out.2.2.1
    have huz := HC.out.2.1
    have HFU : Hid (∀ m, (((wc.drewN m).setCell ⟨w.heap.size + 1, 0, none⟩ (.int .i64 d)).cell? ⟨w.heap.size + 1, 0, none⟩ = some (.int .i64 d)) ∧ ((((wc.drewN m).setCell ⟨w.heap.size + 1, 0, none⟩ (.int .i64 d)).setCell ⟨w.heap.size + 1, 1, none⟩ (.slice A1 ps.length ps.length)).cell? ⟨w.heap.size + 1, 1, none⟩ = some (.slice A1 ps.length ps.length)) ∧ Own ePkt 46 (((wc.drewN m).setCell ⟨w.heap.size + 1, 0, none⟩ (.int .i64 d)).setCell ⟨w.heap.size + 1, 1, none⟩ (.slice A1 ps.length ps.length)) w.heap.size (.slice A1 ps.length ps.length) ps ∧ Below w.heap.size w (((wc.drewN m).setCell ⟨w.heap.size + 1, 0, none⟩ (.int .i64 d)).setCell ⟨w.heap.size + 1, 1, none⟩ (.slice A1 ps.length ps.length))) := fun m => by
      have hk : (wc.drewN m).heap[w.heap.size + 1]? = some (.cells #[.int .i64 0, .slice none 0 0] 36 (0, 0)) := HK1.out
      exact ⟨(res2 hk (.int .i64 d) (.slice A1 ps.length ps.length)).1, (res2 hk (.int .i64 d) (.slice A1 ps.length ps.length)).2, ((HC.out.2.2.2.1.drewN m).kept (gset2 _ _) (fun k hk => by cases hk; omega)).more (by omega), bset2 (below_drewN HBx.out m) (by omega) _ _⟩
    by_cases h20 : ps.length = 20
    · have hq : ((ps.length : Int) == 20) = true := by rw [beq_iff_eq]; omega
      have hf : f = true := by rw [EF.out, decide_eq_true h20]; rfl
      subst hf
      have hRp : R = ps := HRR.out
      subst hRp
      clear EF h20
      go_upto_region 3 with (fail)
      go_quiet (fail)
      go_wp2
      refine bodyPost_ret (v := .tuple #[.agg #[.int .i64 d, .slice A1 R.length R.length], .bool false]) (by simp [results, Try.results45, go_sem, (HFU.out _).1, (HFU.out _).2.1]) rfl ⟨A1, rfl, (HFU.out _).2.2.1, (HFU.out _).2.2.2⟩
    · have hq : ((ps.length : Int) == 20) = false := by rw [beq_eq_false_iff_ne]; omega
      rw [decide_eq_false h20, Bool.false_or] at EF
      by_cases h0 : 0 < ps.length
      · have hp : decide ((0 : Int) < (ps.length : Int)) = true := decide_eq_true (by omega)
        have hp2 : decide (0 < ps.length) = true := decide_eq_true h0
        obtain ⟨m, hm1⟩ : ∃ m, ps.length = m + 1 := ⟨ps.length - 1, by omega⟩
        have hwm : IntKind.i64.wrap ((ps.length : Int) - 1) = (m : Int) := (IntWalk.i64_in _ (by omega)).trans (by omega)
        have hi0 : (0 : Int) ≤ (m : Int) := by omega
        have hi1 : (m : Int) < (ps.length : Int) := by omega
        have hmlt : m < ps.length := by omega
        obtain ⟨b, off, rfl, hbB, h1, h2⟩ := (HR.out.below (HBx.out.mono hB)).at2 rfl hmlt rfl
        rw [decide_eq_true h0, Bool.true_and, show lastAt ps ps.length = ps[m].due by rw [hm1]; exact lastAt_succ hmlt] at EF
        obtain ⟨due, hdue⟩ : ∃ due, due = ps[m].due := ⟨_, rfl⟩
        rw [← hdue] at EF h1
        clear hdue h2 hm1 hmlt h20
        have k1 := cell_regrown h1
        by_cases hlt : tick + d < due
        · have hd : decide (tick + d < due) = true := decide_eq_true hlt
          have hf : f = true := by rw [EF.out, hd]
          subst hf
          have hRp : R = ps := HRR.out
          subst hRp
          clear EF
          go_upto_region 3 with (fail)
          go_quiet (fail)
          go_wp2
          refine bodyPost_ret (v := .tuple #[.agg #[.int .i64 d, .slice A1 R.length R.length], .bool false]) (by simp [results, Try.results45, go_sem, (HFU.out _).1, (HFU.out _).2.1]) rfl ⟨A1, rfl, (HFU.out _).2.2.1, (HFU.out _).2.2.2⟩
        · have hd : decide (tick + d < due) = false := decide_eq_false hlt
          have hf : f = false := by rw [EF.out, hd]
          subst hf
          clear EF HFU
          go_upto_region 3 with (fail)
          go_quiet (fail)
          clear h1 k1
          go_wp2_with (at_builtin; refine wpList_app _ eiPkt rfl (.tmp 41) (.tmp 48) rfl u.heap.size ((HC.out.2.2.2.1.drewN _).alloc _) (Rd.new (E := ePkt) (xs := [⟨tick + d, v⟩]) _ _ _ rfl) rfl rfl rfl (by simp only [List.length_cons, List.length_nil]; omega) (by have := HC.out.1.size; simp; omega) ?_; intro v' w7 row hown7 hg7 hrow7)
          have hq : R = ps ++ [(⟨tick + d, v⟩ : Pkt)] := HRR.out
          clear HRR
          have hql : R.length ≤ 1001 := by rw [hq]; simp; omega
          rw [← hq] at hown7
          clear hq
          obtain ⟨A7, c7, hv7, hc7, _⟩ := hown7.form
          subst hv7
          have HZ7 : Hid (w7.heap[z]? = some (.cells #[.int .i64 d, .slice A1 ps.length ps.length] 36 (0, 0))) := by
            have hz0 : ∀ (n : Nat) (o : Obj), ((wc.drewN n).alloc o).heap[z]? = some (.cells #[.int .i64 d, .slice A1 ps.length ps.length] 36 (0, 0)) := fun n o => blkc (w := wc.drewN n) HC.out.2.2.1 (below1 _ o)
            refine (hg7.block z (Array.getElem?_eq_some_iff.1 (hz0 _ _)).1 (fun e => ?_)).trans (hz0 _ _)
            obtain ⟨_, _, cur, hcur⟩ := hrow7 z e.symm
            rw [hz0] at hcur
            injection hcur with hcur
            injection hcur with _ ht _
            exact absurd ht (by decide)
          have HK7 : Hid (w7.heap[w.heap.size + 1]? = some (.cells #[.int .i64 0, .slice none 0 0] 36 (0, 0))) := by
            have hz0 : ∀ (n : Nat) (o : Obj), ((wc.drewN n).alloc o).heap[w.heap.size + 1]? = some (.cells #[.int .i64 0, .slice none 0 0] 36 (0, 0)) := fun n o => blkc (w := wc.drewN n) HK1.out (below1 _ o)
            refine (hg7.block (w.heap.size + 1) (Array.getElem?_eq_some_iff.1 (hz0 _ _)).1 (fun e => ?_)).trans (hz0 _ _)
            have := (hrow7 _ e.symm).1
            omega
          have hlast := below_of_row (base := u.heap.size) hg7 (fun k hk => (hrow7 k hk).1) (by have := HC.out.1.size; simp; omega)
          have HB7 : Hid (Below w.heap.size w w7) := by
            show Below _ _ _
            refine Below.trans ?_ (hlast.mono (by omega))
            exact bel_trans (below_drewN HBx.out _) (below1 _ _)
          have HO7 := Lib.hid hown7
          clear hown7 hg7 hrow7 HC HK1 HBx
          obtain ⟨z0, z1, z2, z3, z4⟩ := cell2 HZ7.out
          have z4' := z4
          obtain ⟨y0, y1, y2, y3, y4⟩ := cell2 HK7.out
          go_wp2_with fail
          refine (callCopyPkt A7 c7 R w7 w7.heap.size (Nat.le_refl _) hc7 (by omega) HO7.out.rd).mono ?_
          rintro e w8 ⟨A8, rfl, hown8, hb8⟩
          clear z0 z1 z2 z3 z4 y0 y1 y2 y3 y4
          have HZ8 := Lib.hid (blkc HZ7.out hb8)
          have HK8 := Lib.hid (blko (blkc HK7.out hb8) (p := ⟨z, 1, none⟩) (.slice A8 R.length R.length) (by show w.heap.size + 1 ≠ z; omega))
          have HZ9 := Lib.hid (set2b (u := .slice A8 R.length R.length) HZ8.out)
          have HB8 := Lib.hid ((bel_trans HB7.out hb8).setCell (p := ⟨z, 1, none⟩) (by show w.heap.size ≤ z; omega) (.slice A8 R.length R.length))
          have HO8 := Lib.hid ((hown8.more (base' := z + 1) z4').kept (gset (g := z) 1 (.slice A8 R.length R.length)) (fun k hk => by cases hk; omega))
          clear hown8 hb8
          obtain ⟨z0, z1, z2, z3, z4⟩ := cell2 HZ8.out
          obtain ⟨t0, t1, _, _, _⟩ := cell2 HZ9.out
          obtain ⟨y0, y1, y2, y3, y4⟩ := cell2 HK8.out
          obtain ⟨s0, s1⟩ := res2 HK8.out (.int .i64 d) (.slice A8 R.length R.length)
          go_wp2
          refine bodyPost_ret (v := .tuple #[.agg #[.int .i64 d, .slice A8 R.length R.length], .bool true]) (by simp [results, Try.results45, go_sem, s0, s1]) rfl ?_
          exact ⟨A8, rfl, (HO8.out.kept (gset2 (g := w.heap.size + 1) (.int .i64 d) (.slice A8 R.length R.length)) (fun k hk => by cases hk; omega)).more (base' := w.heap.size) (by omega), bset2 HB8.out (by omega) _ _⟩
      · have hp : decide ((0 : Int) < (ps.length : Int)) = false := decide_eq_false (by omega)
        have hp2 : decide (0 < ps.length) = false := decide_eq_false h0
        have hf : f = false := by rw [EF.out, decide_eq_false h0]; rfl
        subst hf
        clear EF HFU h20
        go_upto_region 3 with (fail)
        go_quiet (fail)
        go_wp2_with (at_builtin; refine wpList_app _ eiPkt rfl (.tmp 41) (.tmp 48) rfl u.heap.size ((HC.out.2.2.2.1.drewN _).alloc _) (Rd.new (E := ePkt) (xs := [⟨tick + d, v⟩]) _ _ _ rfl) rfl rfl rfl (by simp only [List.length_cons, List.length_nil]; omega) (by have := HC.out.1.size; simp; omega) ?_; intro v' w7 row hown7 hg7 hrow7)
        have hq : R = ps ++ [(⟨tick + d, v⟩ : Pkt)] := HRR.out
        clear HRR
        have hql : R.length ≤ 1001 := by rw [hq]; simp; omega
        rw [← hq] at hown7
        clear hq
        obtain ⟨A7, c7, hv7, hc7, _⟩ := hown7.form
        subst hv7
        have HZ7 : Hid (w7.heap[z]? = some (.cells #[.int .i64 d, .slice A1 ps.length ps.length] 36 (0, 0))) := by
          have hz0 : ∀ (n : Nat) (o : Obj), ((wc.drewN n).alloc o).heap[z]? = some (.cells #[.int .i64 d, .slice A1 ps.length ps.length] 36 (0, 0)) := fun n o => blkc (w := wc.drewN n) HC.out.2.2.1 (below1 _ o)
          refine (hg7.block z (Array.getElem?_eq_some_iff.1 (hz0 _ _)).1 (fun e => ?_)).trans (hz0 _ _)
          obtain ⟨_, _, cur, hcur⟩ := hrow7 z e.symm
          rw [hz0] at hcur
          injection hcur with hcur
          injection hcur with _ ht _
          exact absurd ht (by decide)
        have HK7 : Hid (w7.heap[w.heap.size + 1]? = some (.cells #[.int .i64 0, .slice none 0 0] 36 (0, 0))) := by
          have hz0 : ∀ (n : Nat) (o : Obj), ((wc.drewN n).alloc o).heap[w.heap.size + 1]? = some (.cells #[.int .i64 0, .slice none 0 0] 36 (0, 0)) := fun n o => blkc (w := wc.drewN n) HK1.out (below1 _ o)
          refine (hg7.block (w.heap.size + 1) (Array.getElem?_eq_some_iff.1 (hz0 _ _)).1 (fun e => ?_)).trans (hz0 _ _)
          have := (hrow7 _ e.symm).1
          omega
        have hlast := below_of_row (base := u.heap.size) hg7 (fun k hk => (hrow7 k hk).1) (by have := HC.out.1.size; simp; omega)
        have HB7 : Hid (Below w.heap.size w w7) := by
          show Below _ _ _
          refine Below.trans ?_ (hlast.mono (by omega))
          exact bel_trans (below_drewN HBx.out _) (below1 _ _)
        have HO7 := Lib.hid hown7
        clear hown7 hg7 hrow7 HC HK1 HBx
        obtain ⟨z0, z1, z2, z3, z4⟩ := cell2 HZ7.out
        have z4' := z4
        obtain ⟨y0, y1, y2, y3, y4⟩ := cell2 HK7.out
        go_wp2_with fail
        refine (callCopyPkt A7 c7 R w7 w7.heap.size (Nat.le_refl _) hc7 (by omega) HO7.out.rd).mono ?_
        rintro e w8 ⟨A8, rfl, hown8, hb8⟩
        clear z0 z1 z2 z3 z4 y0 y1 y2 y3 y4
        have HZ8 := Lib.hid (blkc HZ7.out hb8)
        have HK8 := Lib.hid (blko (blkc HK7.out hb8) (p := ⟨z, 1, none⟩) (.slice A8 R.length R.length) (by show w.heap.size + 1 ≠ z; omega))
        have HZ9 := Lib.hid (set2b (u := .slice A8 R.length R.length) HZ8.out)
        have HB8 := Lib.hid ((bel_trans HB7.out hb8).setCell (p := ⟨z, 1, none⟩) (by show w.heap.size ≤ z; omega) (.slice A8 R.length R.length))
        have HO8 := Lib.hid ((hown8.more (base' := z + 1) z4').kept (gset (g := z) 1 (.slice A8 R.length R.length)) (fun k hk => by cases hk; omega))
        clear hown8 hb8
        obtain ⟨z0, z1, z2, z3, z4⟩ := cell2 HZ8.out
        obtain ⟨t0, t1, _, _, _⟩ := cell2 HZ9.out
        obtain ⟨y0, y1, y2, y3, y4⟩ := cell2 HK8.out
        obtain ⟨s0, s1⟩ := res2 HK8.out (.int .i64 d) (.slice A8 R.length R.length)
        go_wp2
        refine bodyPost_ret (v := .tuple #[.agg #[.int .i64 d, .slice A8 R.length R.length], .bool true]) (by simp [results, Try.results45, go_sem, s0, s1]) rfl ?_
        exact ⟨A8, rfl, (HO8.out.kept (gset2 (g := w.heap.size + 1) (.int .i64 d) (.slice A8 R.length R.length)) (fun k hk => by cases hk; omega)).more (base' := w.heap.size) (by omega), bset2 HB8.out (by omega) _ _⟩
end Go.Proofs.Ytonhkadbiepedaa
