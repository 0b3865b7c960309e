/- Caches of the reference: LeakTime. -/
import Derived.Test.YtlkdngjpbohgaaaCag
namespace Go.Proofs.Ytlkdngjpbohgaaa
open Go.RowKit Go.Sort

theorem touchTime_nn {h ps : List Int} (h1 : cacheOk h = true) (h2 : plsOk ps = true) : ¬ touchTime h ps < 0 := by
  have := runT_bd ps h
  unfold touchTime
  rw [h1, h2]
  show ¬ runT h ps < 0
  omega
theorem touchTime_ok {h ps : List Int} (e : ¬ touchTime h ps < 0) : cacheOk h = true ∧ plsOk ps = true := by
  unfold touchTime at e
  cases h1 : cacheOk h
  · rw [h1] at e; exact absurd (show (-1 : Int) < 0 by decide) e
  · cases h2 : plsOk ps
    · rw [h1, h2] at e; exact absurd (show (-1 : Int) < 0 by decide) e
    · exact ⟨rfl, rfl⟩
theorem touchTime_bd (h ps : List Int) : -1 ≤ touchTime h ps ∧ touchTime h ps ≤ 480 := by
  have := runT_bd ps h
  unfold touchTime
  split
  · rename_i q
    rw [Bool.and_eq_true] at q
    have := (plsOk_iff.1 q.2).1
    omega
  · omega
theorem leak_neg {n : Int} {qs ps : List Int} (e : touchTime (emptyC n) qs < 0 ∨ touchTime (emptyC n) ps < 0) : leakTime n qs ps = 0 := by
  unfold leakTime
  split
  · rename_i q
    rw [Bool.and_eq_true, Bool.and_eq_true] at q
    rcases e with e | e
    · exact absurd e (touchTime_nn (emptyC_ok q.1) q.2.1)
    · exact absurd e (touchTime_nn (emptyC_ok q.1) q.2.2)
  · rfl
theorem leak_pos {n : Int} {qs ps : List Int} (e1 : ¬ touchTime (emptyC n) qs < 0) (e2 : ¬ touchTime (emptyC n) ps < 0) : leakTime n qs ps = touchTime (runC (emptyC n) qs) ps - touchTime (emptyC n) ps := by
  obtain ⟨hc, hq⟩ := touchTime_ok e1
  obtain ⟨_, hp⟩ := touchTime_ok e2
  have hn : lnB n = true := by
    cases q : lnB n
    · have : emptyC n = [] := by unfold emptyC; rw [q]; rfl
      rw [this, cacheOk_nil] at hc; cases hc
    · rfl
  have hu : cacheOk (runC (emptyC n) qs) = true := runC_ok hc (plsOk_iff.1 hq).2
  unfold leakTime touchTime
  rw [hn, hq, hp, hc, hu]
  rfl

set_option maxRecDepth 100000 in
set_option maxHeartbeats 3200000 in
theorem callSLeakTime (Aq Ap : Option Addr) (cq cp : Nat) (n : Int) (qs ps : List Int) (w : World) (B : Nat) (hB : B ≤ w.heap.size) (hmq : qs.length ≤ 1048576) (hmp : ps.length ≤ 1048576) (hrq : Rd eInt w B Aq qs) (hrp : Rd eInt w B Ap ps) :
    Calls Try.prog 36 #[.int .i64 n, .slice Aq qs.length cq, .slice Ap ps.length cp] w fun e w' => e = .returned (.int .i64 (leakTime n qs ps)) ∧ Below w.heap.size w w' := by
  have HRQ := Lib.hid hrq
  have HRP := Lib.hid hrp
  clear hrq hrp
  obtain ⟨ec, hec⟩ : ∃ ec, ec = emptyC n := ⟨_, rfl⟩
  have hel : ec.length ≤ 16 := by
    rw [hec]
    cases q : lnB n
    · have : emptyC n = [] := by unfold emptyC; rw [q]; rfl
      rw [this]; simp
    · have := emptyC_len q; have := lnB_bd q; omega
  obtain ⟨tq, htq⟩ : ∃ t, t = touchTime ec qs := ⟨_, rfl⟩
  obtain ⟨tp, htp⟩ : ∃ t, t = touchTime ec ps := ⟨_, rfl⟩
  have LN : Hid (tq < 0 ∨ tp < 0 → leakTime n qs ps = 0) := fun e => leak_neg (by rw [← hec, ← htq, ← htp]; exact e)
  have LP : Hid (¬ tq < 0 → ¬ tp < 0 → leakTime n qs ps = touchTime (runC ec qs) ps - tp) := fun e1 e2 => by
    rw [htq, hec] at e1
    rw [htp, hec] at e2
    rw [leak_pos e1 e2, ← hec, ← htp]
  have OK : Hid (¬ tq < 0 → cacheOk ec = true ∧ plsOk qs = true) := fun e => touchTime_ok (by rw [← htq]; exact e)
  have hbq : -1 ≤ tq ∧ tq ≤ 480 := by rw [htq]; exact touchTime_bd _ _
  have hbp : -1 ≤ tp ∧ tp ≤ 480 := by rw [htp]; exact touchTime_bd _ _
  have E1 : ∀ W, Hid (Calls Try.prog 14 #[.int .i64 n] W fun e w' => ∃ A c, e = .returned (.agg #[.slice A ec.length c]) ∧ Own eInt 3 w' W.heap.size (.slice A ec.length c) ec ∧ ec.length ≤ c ∧ Below W.heap.size W w') := fun W => by
    have := callSEmptyCache n W
    rw [← hec] at this; exact this
  have HTQ := Lib.hid htq
  have HTP := Lib.hid htp
  clear hec htq htp
  go_enter Try.func36, Try.ntmps36
  go_wp2_with fail
  refine (E1 _).out.mono ?_
  rintro e w1 ⟨A, c, rfl, hown, hc, hb1⟩
  have HO := Lib.hid hown.rd
  have HB1 := Lib.hid hb1
  have hs1 := hb1.size
  clear hown hb1 E1
  have HXB : Hid ((w1.alloc (.cells #[.slice A ec.length c] 25)).heap[w1.heap.size]? = some (.cells #[.slice A ec.length c] 25 (0, 0))) := heap_alloc_new w1 _
  have HBa := Lib.hid (below1 w1 (.cells #[.slice A ec.length c] 25))
  have HQ1 := Lib.hid ((HRQ.out.below (HB1.out.mono hB)).mono (Nat.le_trans hB hs1))
  have HP1 := Lib.hid ((HRP.out.below (HB1.out.mono hB)).mono (Nat.le_trans hB hs1))
  have TQ : ∀ W, Below w1.heap.size w1 W → Hid (Calls Try.prog 33 #[.agg #[.slice A ec.length c], .slice Aq qs.length cq] W fun e w' => e = .returned (.int .i64 tq) ∧ Below W.heap.size W w') := fun W hW => by
    have := callSTouchTime A Aq c cq ec qs W w1.heap.size hW.size (by omega) hmq (HO.out.below hW) (HQ1.out.below hW)
    rw [← HTQ.out] at this; exact this
  have TP : ∀ W, Below w1.heap.size w1 W → Hid (Calls Try.prog 33 #[.agg #[.slice A ec.length c], .slice Ap ps.length cp] W fun e w' => e = .returned (.int .i64 tp) ∧ Below W.heap.size W w') := fun W hW => by
    have := callSTouchTime A Ap c cp ec ps W w1.heap.size hW.size (by omega) hmp (HO.out.below hW) (HP1.out.below hW)
    rw [← HTP.out] at this; exact this
  have hcx := (cell1 HXB.out).1
  go_wp2_with fail
  refine (TQ _ HBa.out).out.mono ?_
  rintro e w2 ⟨rfl, hb2⟩
  have HB2 := Lib.hid (bel_trans HBa.out hb2)
  have HX2 := Lib.hid (blkc HXB.out hb2)
  clear hb2 hcx
  by_cases hq : tq < 0
  · have d1 : decide (tq < 0) = true := decide_eq_true hq
    go_wp2
    go_ret
    exact ⟨by rw [LN.out (by omega)] <;> rfl, bel_trans HB1.out HB2.out⟩
  · have d1 : decide (tq < 0) = false := decide_eq_false hq
    have hcx := (cell1 HX2.out).1
    go_wp2_with fail
    refine (TP _ HB2.out).out.mono ?_
    rintro e w3 ⟨rfl, hb3⟩
    have HB3 := Lib.hid (bel_trans HB2.out hb3)
    have HX3 := Lib.hid (blkc HX2.out hb3)
    clear hb3 hcx
    by_cases hp : tp < 0
    · have d2 : decide (tp < 0) = true := decide_eq_true hp
      go_wp2
      go_ret
      exact ⟨by rw [LN.out (by omega)] <;> rfl, bel_trans HB1.out HB3.out⟩
    · have d2 : decide (tp < 0) = false := decide_eq_false hp
      obtain ⟨hcx, hcx2, hcx3⟩ := cell1 HX3.out
      have HC := Lib.hid (OK.out (by omega)).1
      have HPL := Lib.hid (OK.out (by omega)).2
      have HLP := Lib.hid (LP.out (by omega) (by omega))
      have HXN : Hid ((w3.alloc (.cells #[.slice A ec.length c] 25)).heap[w3.heap.size]? = some (.cells #[.slice A ec.length c] 25 (0, 0))) := heap_alloc_new w3 _
      have HBN := Lib.hid (below1 w3 (.cells #[.slice A ec.length c] 25))
      have HRN : Hid (Rd eInt (w3.alloc (.cells #[.slice A ec.length c] 25)) (w3.alloc (.cells #[.slice A ec.length c] 25)).heap.size A ec) := (HO.out.below (bel_trans HB3.out HBN.out)).mono (by have := HB3.out.size; simp; omega)
      have hs3 := HB3.out.size
      go_wp2
      go_loopw [9] (fun i wr => ∃ (k : Nat) (A' : Option Addr) (c' : Nat), k ≤ qs.length ∧ i = .int .i64 k ∧ Below w3.heap.size w3 wr ∧ Hid (wr.heap[w3.heap.size]? = some (.cells #[.slice A' ec.length c'] 25 (0, 0)) ∧ Rd eInt wr wr.heap.size A' (runC ec (qs.take k)))) (fun i _ => qs.length - (intOf i).toNat)
      case atStart => exact ⟨0, A, c, by omega, rfl, HBN.out, HXN.out, HRN.out⟩
      case round =>
        obtain ⟨k, A', c', hk, rfl, hbl, hH⟩ := hrel
        have HB := Lib.hid hbl
        have hsz : w3.heap.size < wr.heap.size := (cell1 hH.out.1).2.2
        have HX := Lib.hid (blkc HX3.out hbl)
        have HQr := Lib.hid (HQ1.out.below ((HB3.out.trans (hbl.mono hs3))))
        clear hbl hcx hcx2
        by_cases hlt : k < qs.length
        · have hd : decide ((k : Int) < qs.length) = true := decide_eq_true (by omega)
          obtain ⟨bp, offp, rfl, hbpB, hpc⟩ := HQr.out.at1 rfl hlt rfl
          have hlen : (runC ec (qs.take k)).length = ec.length := runC_len _ _
          obtain ⟨j1, j2, j3⟩ := cell1 hH.out.1
          have hbps : bp < wr.heap.size := by omega
          obtain ⟨q, hq⟩ : ∃ q, q = runC ec (qs.take k) := ⟨_, rfl⟩
          obtain ⟨p, hp⟩ : ∃ p, p = qs[k] := ⟨_, rfl⟩
          have hok : tcOk q p = true := by
            unfold tcOk
            rw [hq, hp, runC_ok HC.out (fun x hx => (plsOk_iff.1 HPL.out).2 x (List.mem_of_mem_take hx)), (plsOk_iff.1 HPL.out).2 qs[k] (List.getElem_mem hlt)]; rfl
          have e2 : tcNew q p = runC ec (qs.take (k + 1)) := by
            rw [runC_snoc ec qs hlt, ← hq, ← hp]; unfold tcNew; rw [hok]; rfl
          obtain ⟨z, hz0⟩ : ∃ z, z = runC ec (qs.take (k + 1)) := ⟨_, rfl⟩
          have hzl : z.length = ec.length := by rw [hz0]; exact runC_len _ _
          rw [← hq] at hlen
          rw [← hp] at hpc
          obtain ⟨y, hy⟩ : ∃ y, y = tcTime q p := ⟨_, rfl⟩
          have HT : ∀ W, Below wr.heap.size wr W → Hid (Calls Try.prog 24 #[.agg #[.slice A' ec.length c'], .int .i64 p] W fun e w' => ∃ A9 c9, e = .returned (.tuple #[.agg #[.slice A9 ec.length c9], .int .i64 y]) ∧ Own eInt 3 w' W.heap.size (.slice A9 ec.length c9) z ∧ Below wr.heap.size wr w' ∧ w'.cell? ⟨w3.heap.size, 0, none⟩ = some (.slice A' ec.length c') ∧ w'.cell? ⟨bp, offp + k, none⟩ = some (.int .i64 p) ∧ Below W.heap.size W w') := fun W hW => by
            have := callSTouchCache A' c' q p W wr.heap.size hW.size (by omega) (by rw [hq]; exact hH.out.2.below hW)
            rw [hlen, e2, ← hz0, hzl, ← hy] at this
            refine this.mono fun e w' ⟨A9, c9, h1, h2, h3, h4⟩ => ⟨A9, c9, h1, h2, bel_trans hW h4, ((bel_trans hW h4).cell (by show w3.heap.size < wr.heap.size; omega)).trans j1, ((bel_trans hW h4).cell (by show bp < wr.heap.size; omega)).trans hpc, h4⟩
          have HZ := Lib.hid hz0
          clear hq hp hok e2 hz0 hy hlen
          have HBW := Lib.hid (Below.refl wr.heap.size wr)
          have u1 := World.new_ne wr _ j1
          have u2 := World.new_ne wr _ hpc
          go_upto_region 8 with (fail)
          go_cut [10, 11] (fun a t w6 => ∃ (X : Nat) (A4 : Option Addr) (c4 : Nat), a = .pointer (some ⟨X, 0, none⟩) ∧ t = .int .i64 y ∧ wr.heap.size ≤ X ∧ Below wr.heap.size wr w6 ∧ Hid (w6.heap[X]? = some (.cells #[.slice A4 ec.length c4] 25 (0, 0)) ∧ Own eInt 3 w6 wr.heap.size (.slice A4 ec.length c4) z))
          case first =>
            go_region_held3 (fun w' => w'.cell? ⟨w3.heap.size, 0, none⟩ = some (.slice A' ec.length c') ∧ w'.cell? ⟨bp, offp + k, none⟩ = some (.int .i64 p)) (first | exact ⟨j1, hpc⟩ | (refine ⟨?_, ?_⟩ <;> assumption) | go_keep)
              (first | (go_at_call 24; refine (HT _ (by first | exact HBW.out | exact HBW.out.drew | exact (HBW.out.drew).alloc (by simp) _)).out.mono ?_; rintro e w6 ⟨A6, c6, rfl, hown6, hb6, n1, n2, hbW⟩; (first | (have hz := blkc (w := (wr.alloc (.cells #[.slice none 0 0] 25)).drew) (heap_alloc_new wr _) hbW; obtain ⟨z1, z2, z3⟩ := cell1 hz) | skip)))
            · go_wp2_with fail
              go_meet
              case rel => exact ⟨w6.heap.size, A6, c6, rfl, rfl, hb6.size, hb6.alloc hb6.size _, heap_alloc_new w6 _, (hown6.more (by simp)).alloc _⟩
            · go_wp2_with fail
              go_meet
              case rel => exact ⟨wr.heap.size, A6, c6, rfl, rfl, Nat.le_refl _, hb6.setCell (by show wr.heap.size ≤ wr.heap.size; omega) _, set1 hz, (hown6.kept (gset 0 _) (fun k hk => by cases hk; simp)).more (by simp)⟩
          case rest =>
            obtain ⟨X, A4, c4, rfl, rfl, hXw, hbc, hc4⟩ := hcut
            have HB6 := Lib.hid (bel_trans HB.out hbc)
            have HJ6 := Lib.hid (blkc hH.out.1 hbc)
            clear hbc j1 j2 hpc u1 u2 HT HBW
            obtain ⟨x1, x2, x3⟩ := cell1 hc4.out.1
            obtain ⟨j1, j2, j4⟩ := cell1 HJ6.out
            have HS := Lib.hid (set1 (u := .slice A4 ec.length c4) HJ6.out)
            have HRD : Hid (Rd eInt (wc.setCell ⟨w3.heap.size, 0, none⟩ (.slice A4 ec.length c4)) (wc.setCell ⟨w3.heap.size, 0, none⟩ (.slice A4 ec.length c4)).heap.size A4 (runC ec (qs.take (k + 1)))) := by
              have := hc4.out.2.kept (gset (w := wc) (g := w3.heap.size) 0 (.slice A4 ec.length c4)) (fun k hk => by cases hk; exact hsz)
              have := this.rd
              rw [HZ.out] at this
              exact this
            go_wp2
            go_roundw
            case rel => exact ⟨k + 1, A4, c4, by omega, by go_num, HB6.out.setCell (by show w3.heap.size ≤ w3.heap.size; omega) _, HS.out, HRD.out⟩
            case measure => simp [intOf]; omega
        · have hke : k = qs.length := by omega
          subst hke
          have hd : decide ((qs.length : Int) < qs.length) = false := by simp
          have HR9 : Hid (Rd eInt wr wr.heap.size A' (runC ec qs)) := by have := hH.out.2; rw [List.take_length] at this; exact this
          obtain ⟨tx, htx⟩ : ∃ t, t = touchTime (runC ec qs) ps := ⟨_, rfl⟩
          have hbx : -1 ≤ tx ∧ tx ≤ 480 := by rw [htx]; exact touchTime_bd _ _
          have hlx : (runC ec qs).length = ec.length := runC_len _ _
          have HLX : Hid (leakTime n qs ps = tx - tp) := by show _ = _; rw [HLP.out, htx]
          have hsr := HB.out.size
          have HB9 := Lib.hid (HB3.out.trans (HB.out.mono hs3))
          have C1 : QCall Try.prog 33 #[.agg #[.slice A' ec.length c'], .slice Ap ps.length cp] wr (.int .i64 tx) := QCall.of fun W' hb => by
            have := callSTouchTime A' Ap c' cp (runC ec qs) ps W' wr.heap.size hb.size (by omega) hmp (HR9.out.below hb) ((HP1.out.below (HB9.out.trans (hb.mono (by omega)))).mono (by omega))
            rw [hlx, ← htx] at this; exact this
          have C2 : QCall Try.prog 33 #[.agg #[.slice A ec.length c], .slice Ap ps.length cp] wr (.int .i64 tp) := QCall.of fun W' hb => (TP W' (HB9.out.trans (hb.mono (by omega)))).out
          have j1 := (cell1 hH.out.1).1
          have j2 := (cell1 HX.out).1
          have k1 := cell_regrown j1
          have k2 := cell_regrown j2
          clear htx hlx
          go_upto_region 10 with (fail)
          refine wp_region_quiet_below (by kernel_rfl) (by kernel_rfl) ?_
          clear j1 j2
          iterate 3 (first | go_big_quiet_step ((go_at_call 33; exact C1 _ _)) | quiet_step ((go_at_call 33; exact C1 _ _)))
          repeat (first | go_big_quiet_step ((go_at_call 33; exact C2 _ _)) | quiet_step ((go_at_call 33; exact C2 _ _)))
          refine wpQuiet_nil ?_
          intro w9 hw9
          have hb9 := below_of_regrown hw9
          go_wp2
          go_ret
          exact ⟨by rw [HLX.out] <;> rfl, bel_trans HB1.out (HB3.out.trans ((bel_trans HB.out hb9).mono hs3))⟩
end Go.Proofs.Ytlkdngjpbohgaaa
