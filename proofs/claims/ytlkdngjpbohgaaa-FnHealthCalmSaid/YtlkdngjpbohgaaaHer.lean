/- HealthRun of the program and of the reference, for every input. -/
import Derived.Test.YtlkdngjpbohgaaaHes
import Derived.Deep.DeepCutAuto
namespace Go.Proofs.Ytlkdngjpbohgaaa
open Go.RowKit Go.Sort

theorem hRun_bd {h : Hlt} (hh : hOk h = true) : 0 ≤ h.restarts ∧ h.restarts ≤ 3 := ⟨(hOk_iff.1 hh).1, (hOk_iff.1 hh).2.1⟩

/-- A value that a call made is put into a new block, before the call or after it. -/
theorem drawnA {w wr w5 : World} {o1 o2 : Obj} (cs : Array Value) (T : TypeId) (h : Below w.heap.size w wr) (hb : Below wr.drew.heap.size wr.drew w5) (k1 : wr.heap[w.heap.size]? = some o1) (k2 : wr.heap[w.heap.size + 1]? = some o2) :
    ∃ z, Value.pointer (some ⟨w5.heap.size, 0, none⟩) = .pointer (some ⟨z, 0, none⟩) ∧ Below w.heap.size w (w5.alloc (.cells cs T)) ∧ w.heap.size + 1 < z ∧ Hid ((w5.alloc (.cells cs T)).heap[z]? = some (.cells cs T (0, 0)) ∧ (w5.alloc (.cells cs T)).heap[w.heap.size]? = some o1 ∧ (w5.alloc (.cells cs T)).heap[w.heap.size + 1]? = some o2) := by
  have hb' : Below wr.heap.size wr w5 := Below.trans (Below.refl _ _).drew hb
  have q1 := blkc k1 hb'
  have q2 := blkc k2 hb'
  exact ⟨_, rfl, bel_trans (bel_trans h hb') (below1 _ _), (Array.getElem?_eq_some_iff.1 q2).1, heap_alloc_new w5 _, blkc q1 (below1 _ _), blkc q2 (below1 _ _)⟩
theorem drawnB {w wr w5 : World} {o1 o2 : Obj} {x y : Value} {T : TypeId} (u v : Value) (h : Below w.heap.size w wr) (hb : Below (wr.alloc (.cells #[x, y] T)).drew.heap.size (wr.alloc (.cells #[x, y] T)).drew w5) (k1 : wr.heap[w.heap.size]? = some o1) (k2 : wr.heap[w.heap.size + 1]? = some o2) :
    ∃ z, Value.pointer (some ⟨wr.heap.size, 0, none⟩) = .pointer (some ⟨z, 0, none⟩) ∧ Below w.heap.size w ((w5.setCell ⟨wr.heap.size, 0, none⟩ u).setCell ⟨wr.heap.size, 1, none⟩ v) ∧ w.heap.size + 1 < z ∧ Hid (((w5.setCell ⟨wr.heap.size, 0, none⟩ u).setCell ⟨wr.heap.size, 1, none⟩ v).heap[z]? = some (.cells #[u, v] T (0, 0)) ∧ ((w5.setCell ⟨wr.heap.size, 0, none⟩ u).setCell ⟨wr.heap.size, 1, none⟩ v).heap[w.heap.size]? = some o1 ∧ ((w5.setCell ⟨wr.heap.size, 0, none⟩ u).setCell ⟨wr.heap.size, 1, none⟩ v).heap[w.heap.size + 1]? = some o2) := by
  have hb' : Below (wr.alloc (.cells #[x, y] T)).heap.size (wr.alloc (.cells #[x, y] T)) w5 := Below.trans (Below.refl _ _).drew hb
  have hb2 := bel_trans (below1 wr _) hb'
  have q1 := blkc k1 hb2
  have q2 := blkc k2 hb2
  have l2 : w.heap.size + 1 < wr.heap.size := (Array.getElem?_eq_some_iff.1 k2).1
  have q3 : w5.heap[wr.heap.size]? = some (.cells #[x, y] T (0, 0)) := blkc (heap_alloc_new wr _) hb'
  exact ⟨_, rfl, bset2 (bel_trans h hb2) (by omega) u v, l2, set2 q3, blko (blko q1 _ (by simp; omega)) _ (by simp; omega), blko (blko q2 _ (by simp; omega)) _ (by simp; omega)⟩

theorem callFaultBad (n : Int) (w : World) : Calls Try.prog 50 #[.int .i64 n] w fun e w' => e = .returned (.bool (!fltOk n)) ∧ Below w.heap.size w w' := by
  have E : Hid (fltOk n = inB n 0 3) := rfl
  go_enter Try.func50, Try.ntmps50
  go_wp2_with fail
  have K : Calls Try.prog 51 #[.int .i64 n] w fun e w' => e = .returned (.bool (inB n 0 3)) ∧ w = w' := by
    go_enter Try.func51, Try.ntmps51
    go_wp2_with (go_at_call 61; refine (callIn _ _ _ _).mono ?_; rintro e w' ⟨rfl, rfl⟩)
    go_ret
    exact ⟨rfl, rfl⟩
  refine K.mono ?_
  rintro e w' ⟨rfl, rfl⟩
  clear K
  go_wp2
  go_ret
  exact ⟨by rw [E.out] <;> rfl, Below.refl _ _⟩
theorem egFaultBad : ∀ (args : Array Value) (w : World), (callFunc 50 args).run Try.prog w = .ok (.enter 50 args) w := enters_fn Try.func50 (by kernel_rfl) rfl

set_option maxRecDepth 100000 in
set_option maxHeartbeats 3200000 in
theorem callHealthRun (A Af : Option Addr) (c cf : Nat) (h : Hlt) (t fs : List Int) (w : World) (B : Nat) (hB : B ≤ w.heap.size) (hm : t.length ≤ 1048576) (hmf : fs.length ≤ 1048576) (hr : Rd eInt w B A t) (hrf : Rd eInt w B Af fs) :
    Calls Try.prog 18 #[h.val, .slice A t.length c, .slice Af fs.length cf] w fun e w' => e = .returned (healthRun h t fs).val ∧ Below w.heap.size w w' := by
  have hmk := run_makeFunc Try.prog
  have HR := Lib.hid hr
  have HF := Lib.hid hrf
  have HC := fun (W : World) (hW : Below w.heap.size w W) => Lib.hid (callContainsInt Af cf fs 50 #[] (fun x => !fltOk x) W B (Nat.le_trans hB hW.size) (by omega) (hrf.below (hW.mono hB)) egFaultBad (fun x _ w' _ => callFaultBad x w'))
  have E : Hid (healthRun h t fs = if ((hOk h && tabOk t) && decide (fs.length ≤ 30)) && !(fs.any fun x => !fltOk x) then hRun h t fs else ⟨false, 0⟩) := by
    show _ = _; rw [not_any_not]; rfl
  clear hr hrf
  have E2 : Hid ((fs.any fun x => !fltOk x) = false → ∀ x ∈ fs, fltOk x = true) := fun e x hx => by
    have := List.any_eq_false.1 e x hx
    simpa using this
  generalize (fs.any fun x => !fltOk x) = q at *
  obtain ⟨fz, n⟩ := h
  obtain ⟨v1, h1⟩ : ∃ v, v = hOk ⟨fz, n⟩ := ⟨_, rfl⟩
  obtain ⟨v2, h2⟩ : ∃ v, v = tabOk t := ⟨_, rfl⟩
  have V1 : ∀ W, Hid (Calls Try.prog 47 #[.agg #[.bool fz, .int .i64 n]] W fun e w' => e = .returned (.bool v1) ∧ Below W.heap.size W w') := fun W => by
    have := callHealthValid ⟨fz, n⟩ W
    rw [← h1] at this; exact this
  have V2 : ∀ W, Below w.heap.size w W → Hid (Calls Try.prog 48 #[.slice A t.length c] W fun e w' => e = .returned (.bool v2) ∧ Below W.heap.size W w') := fun W hW => by
    have := callHealthTable A c t W B (Nat.le_trans hB hW.size) hm (HR.out.below (hW.mono hB))
    rw [← h2] at this; exact this
  rw [← h1, ← h2] at E
  have H1 := Lib.hid h1
  have H2 := Lib.hid h2
  clear h1 h2
  have KB : Hid (((w.alloc (.cells #[.bool fz, .int .i64 n] 32)).alloc (.cells #[.bool false, .int .i64 0] 32)).heap[w.heap.size]? = some (.cells #[.bool fz, .int .i64 n] 32 (0, 0))) := by
    show _ = _; rw [heap_alloc_old _ _ (by simp)]; exact heap_alloc_new w _
  have KR : Hid (((w.alloc (.cells #[.bool fz, .int .i64 n] 32)).alloc (.cells #[.bool false, .int .i64 0] 32)).heap[w.heap.size + 1]? = some (.cells #[.bool false, .int .i64 0] 32 (0, 0))) := by
    have := heap_alloc_new (w.alloc (.cells #[.bool fz, .int .i64 n] 32)) (.cells #[.bool false, .int .i64 0] 32)
    rw [World.size_alloc] at this; exact this
  have fin : ∀ (W : World) (x y : Value), Below w.heap.size w W → Hid (Below w.heap.size w ((W.setCell ⟨w.heap.size + 1, 0, none⟩ x).setCell ⟨w.heap.size + 1, 1, none⟩ y)) := fun W x y hW => bset2 hW (by omega) x y
  go_enter Try.func18, Try.ntmps18
  go_wp2_with fail
  refine (V1 _).out.mono ?_
  rintro e w1 ⟨rfl, hb1⟩
  have KB1 := Lib.hid (blkc KB.out hb1)
  have KR1 := Lib.hid (blkc KR.out hb1)
  have HB1 := Lib.hid (bel_trans (below2 w _ _) hb1)
  clear hb1 KB KR V1
  cases v1
  · obtain ⟨j1, j2, j3, j4, j5⟩ := cell2 KR1.out
    obtain ⟨s0, s1⟩ := res2 KR1.out (.bool false) (.int .i64 0)
    go_wp2
    refine bodyPost_ret (v := .agg #[.bool false, .int .i64 0]) (by simp [results, Try.results18, go_sem, s0, s1]) rfl ⟨by rw [E.out] <;> rfl, (fin _ _ _ HB1.out).out⟩
  · go_wp2_with fail
    refine (V2 _ HB1.out).out.mono ?_
    rintro e w2 ⟨rfl, hb2⟩
    have KB2 := Lib.hid (blkc KB1.out hb2)
    have KR2 := Lib.hid (blkc KR1.out hb2)
    have HB2 := Lib.hid (bel_trans HB1.out hb2)
    clear hb2 KB1 KR1 V2 HB1
    cases v2
    · obtain ⟨j1, j2, j3, j4, j5⟩ := cell2 KR2.out
      obtain ⟨s0, s1⟩ := res2 KR2.out (.bool false) (.int .i64 0)
      go_wp2
      refine bodyPost_ret (v := .agg #[.bool false, .int .i64 0]) (by simp [results, Try.results18, go_sem, s0, s1]) rfl ⟨by rw [E.out] <;> rfl, (fin _ _ _ HB2.out).out⟩
    · by_cases hl : fs.length ≤ 30
      · have dl : decide ((30 : Int) < (fs.length : Int)) = false := decide_eq_false (by omega)
        rw [decide_eq_true hl] at E
        go_wp2_with fail
        refine (HC _ HB2.out).out.mono ?_
        rintro e w3 ⟨rfl, hb3⟩
        have KB3 := Lib.hid (blkc KB2.out hb3)
        have KR3 := Lib.hid (blkc KR2.out hb3)
        have HB3 := Lib.hid (bel_trans HB2.out hb3)
        clear hb3 KB2 KR2 HC HB2
        cases q
        · have HA := Lib.hid (E2.out rfl)
          clear E2
          have hn := hRun_bd H1.out.symm
          go_wp2_with fail
          go_loopw [29] (fun i wr => ∃ k : Nat, k ≤ fs.length ∧ i = .int .i64 k ∧ Below w.heap.size w wr ∧ Hid (wr.heap[w.heap.size]? = some (.cells #[.bool (hRun ⟨fz, n⟩ t (fs.take k)).frozen, .int .i64 (hRun ⟨fz, n⟩ t (fs.take k)).restarts] 32 (0, 0)) ∧ wr.heap[w.heap.size + 1]? = some (.cells #[.bool false, .int .i64 0] 32 (0, 0)))) (fun i _ => fs.length - (intOf i).toNat)
          case atStart => exact ⟨0, by omega, rfl, HB3.out, KB3.out, KR3.out⟩
          case round =>
            obtain ⟨k, hk, rfl, hbl, hH⟩ := hrel
            have HB := Lib.hid hbl
            clear hbl
            obtain ⟨j1, j2, j3, j4, j5⟩ := cell2 hH.out.2
            have HG : Hid (hOk (hRun ⟨fz, n⟩ t (fs.take k)) = true) := hRun_ok _ H1.out.symm
            by_cases hlt : k < fs.length
            · have hd : decide ((k : Int) < fs.length) = true := decide_eq_true (by omega)
              have HS := Lib.hid (hRun_snoc ⟨fz, n⟩ t fs k hlt)
              obtain ⟨g, hg⟩ : ∃ g, g = hRun ⟨fz, n⟩ t (fs.take k) := ⟨_, rfl⟩
              rw [← hg] at HS hH HG
              clear hg
              obtain ⟨gf, gn⟩ := g
              obtain ⟨k1, k2, k3, k4, k5⟩ := cell2 hH.out.1
              obtain ⟨b, off, rfl, hbB, h1⟩ := (HF.out.below (HB.out.mono hB)).at1 rfl hlt rfl
              obtain ⟨x, hx⟩ : ∃ x, x = fs[k] := ⟨_, rfl⟩
              have hxo := Lib.hid (HA.out _ (List.getElem_mem hlt))
              rw [← hx] at h1 HS hxo
              clear hx
              obtain ⟨r, hrr⟩ : ∃ r, r = hAfter ⟨gf, gn⟩ t x := ⟨_, rfl⟩
              have C : Hid (Calls Try.prog 52 #[.agg #[.bool gf, .int .i64 gn], .slice A t.length c, .int .i64 x] wr fun e w' => e = .returned (.tuple #[r.1.val, .int .i64 r.2]) ∧ Below wr.heap.size wr w') := by
                have := callAfter A c ⟨gf, gn⟩ t x wr B (Nat.le_trans hB HB.out.size) HG.out H2.out.symm hxo.out (HR.out.below (HB.out.mono hB))
                rw [← hrr] at this; exact this
              rw [← hrr] at HS
              clear hrr
              obtain ⟨⟨rf, rn⟩, ra⟩ := r
              go_wp2_with fail
              refine C.out.mono ?_
              rintro e w5 ⟨rfl, hb5⟩
              have KB5 := Lib.hid (blkc hH.out.1 hb5)
              have KR5 := Lib.hid (blko (blko (blkc hH.out.2 hb5) (p := ⟨w.heap.size, 0, none⟩) (.bool rf) (by simp)) (p := ⟨w.heap.size, 1, none⟩) (.int .i64 rn) (by simp))
              have HB5 := Lib.hid (bset2 (bel_trans HB.out hb5) (Nat.le_refl _) (.bool rf) (.int .i64 rn))
              clear hb5 k1 k2 k3 k4 k5 j1 j2 j3 j4 j5 C h1
              obtain ⟨k1, k2, k3, k4, k5⟩ := cell2 KB5.out
              have KS5 := Lib.hid (set2 (u := .bool rf) (v := .int .i64 rn) KB5.out)
              go_wp2_with fail
              go_roundw
              case rel => exact ⟨k + 1, by omega, by go_num, HB5.out, by rw [HS.out]; exact ⟨KS5.out, KR5.out⟩⟩
              case measure => simp [intOf]; omega
            · have hke : k = fs.length := by omega
              subst hke
              have hd : decide ((fs.length : Int) < fs.length) = false := by simp
              have EE : Hid (healthRun ⟨fz, n⟩ t fs = hRun ⟨fz, n⟩ t fs) := by show _ = _; rw [E.out]; rfl
              rw [List.take_length] at hH
              obtain ⟨g, hg⟩ : ∃ g, g = hRun ⟨fz, n⟩ t fs := ⟨_, rfl⟩
              rw [← hg] at EE hH
              clear hg HG
              obtain ⟨gf, gn⟩ := g
              obtain ⟨k1, k2, k3, k4, k5⟩ := cell2 hH.out.1
              obtain ⟨s0, s1⟩ := res2 hH.out.2 (.bool gf) (.int .i64 gn)
              go_wp2_with fail
              refine bodyPost_ret (v := .agg #[.bool gf, .int .i64 gn]) (by simp [results, Try.results18, go_sem, s0, s1]) rfl ⟨by rw [EE.out], (fin _ _ _ HB.out).out⟩
        · obtain ⟨j1, j2, j3, j4, j5⟩ := cell2 KR3.out
          obtain ⟨s0, s1⟩ := res2 KR3.out (.bool false) (.int .i64 0)
          go_wp2
          refine bodyPost_ret (v := .agg #[.bool false, .int .i64 0]) (by simp [results, Try.results18, go_sem, s0, s1]) rfl ⟨by rw [E.out] <;> rfl, (fin _ _ _ HB3.out).out⟩
      · have dl : decide ((30 : Int) < (fs.length : Int)) = true := decide_eq_true (by omega)
        rw [decide_eq_false hl] at E
        obtain ⟨j1, j2, j3, j4, j5⟩ := cell2 KR2.out
        obtain ⟨s0, s1⟩ := res2 KR2.out (.bool false) (.int .i64 0)
        go_wp2
        refine bodyPost_ret (v := .agg #[.bool false, .int .i64 0]) (by simp [results, Try.results18, go_sem, s0, s1]) rfl ⟨by rw [E.out] <;> rfl, (fin _ _ _ HB2.out).out⟩

set_option maxRecDepth 100000 in
set_option maxHeartbeats 3200000 in
theorem callSHealthRun (A Af : Option Addr) (c cf : Nat) (h : Hlt) (t fs : List Int) (w : World) (B : Nat) (hB : B ≤ w.heap.size) (hm : t.length ≤ 1048576) (hmf : fs.length ≤ 1048576) (hr : Rd eInt w B A t) (hrf : Rd eInt w B Af fs) :
    Calls Try.prog 19 #[h.val, .slice A t.length c, .slice Af fs.length cf] w fun e w' => e = .returned (healthRun h t fs).val ∧ Below w.heap.size w w' := by
  have HR := Lib.hid hr
  have HF := Lib.hid hrf
  have E : Hid (healthRun h t fs = if ((hOk h && tabOk t) && decide (fs.length ≤ 30)) && fs.all fltOk then hRun h t fs else ⟨false, 0⟩) := rfl
  clear hr hrf
  obtain ⟨fz, n⟩ := h
  obtain ⟨v1, h1⟩ : ∃ v, v = hOk ⟨fz, n⟩ := ⟨_, rfl⟩
  obtain ⟨v2, h2⟩ : ∃ v, v = tabOk t := ⟨_, rfl⟩
  have V1 : ∀ W, Hid (Calls Try.prog 20 #[.agg #[.bool fz, .int .i64 n]] W fun e w' => e = .returned (.bool v1) ∧ Below W.heap.size W w') := fun W => by
    have := callSHealthValid ⟨fz, n⟩ W
    rw [← h1] at this; exact this
  have V2 : ∀ W, Below w.heap.size w W → Hid (Calls Try.prog 21 #[.slice A t.length c] W fun e w' => e = .returned (.bool v2) ∧ Below W.heap.size W w') := fun W hW => by
    have := callSHealthTable A c t W B (Nat.le_trans hB hW.size) hm (HR.out.below (hW.mono hB))
    rw [← h2] at this; exact this
  rw [← h1, ← h2] at E
  have H1 := Lib.hid h1
  have H2 := Lib.hid h2
  clear h1 h2
  have KB : Hid (((w.alloc (.cells #[.bool fz, .int .i64 n] 32)).alloc (.cells #[.bool false, .int .i64 0] 32)).heap[w.heap.size]? = some (.cells #[.bool fz, .int .i64 n] 32 (0, 0))) := by
    show _ = _; rw [heap_alloc_old _ _ (by simp)]; exact heap_alloc_new w _
  have KR : Hid (((w.alloc (.cells #[.bool fz, .int .i64 n] 32)).alloc (.cells #[.bool false, .int .i64 0] 32)).heap[w.heap.size + 1]? = some (.cells #[.bool false, .int .i64 0] 32 (0, 0))) := by
    have := heap_alloc_new (w.alloc (.cells #[.bool fz, .int .i64 n] 32)) (.cells #[.bool false, .int .i64 0] 32)
    rw [World.size_alloc] at this; exact this
  have fin : ∀ (W : World) (x y : Value), Below w.heap.size w W → Hid (Below w.heap.size w ((W.setCell ⟨w.heap.size + 1, 0, none⟩ x).setCell ⟨w.heap.size + 1, 1, none⟩ y)) := fun W x y hW => bset2 hW (by omega) x y
  by_cases hl : fs.length ≤ 30
  · have dl : decide ((30 : Int) < (fs.length : Int)) = false := decide_eq_false (by omega)
    rw [decide_eq_true hl] at E
    go_enter Try.func19, Try.ntmps19
    go_wp2_with fail
    refine (V1 _).out.mono ?_
    rintro e w1 ⟨rfl, hb1⟩
    have KB1 := Lib.hid (blkc KB.out hb1)
    have KR1 := Lib.hid (blkc KR.out hb1)
    have HB1 := Lib.hid (bel_trans (below2 w _ _) hb1)
    clear hb1 KB KR V1
    cases v1
    · obtain ⟨j1, j2, j3, j4, j5⟩ := cell2 KR1.out
      obtain ⟨s0, s1⟩ := res2 KR1.out (.bool false) (.int .i64 0)
      go_wp2
      refine bodyPost_ret (v := .agg #[.bool false, .int .i64 0]) (by simp [results, Try.results19, go_sem, s0, s1]) rfl ⟨by rw [E.out] <;> rfl, (fin _ _ _ HB1.out).out⟩
    · go_wp2_with fail
      refine (V2 _ HB1.out).out.mono ?_
      rintro e w2 ⟨rfl, hb2⟩
      have KB2 := Lib.hid (blkc KB1.out hb2)
      have KR2 := Lib.hid (blkc KR1.out hb2)
      have HB2 := Lib.hid (bel_trans HB1.out hb2)
      clear hb2 KB1 KR1 V2 HB1
      cases v2
      · obtain ⟨j1, j2, j3, j4, j5⟩ := cell2 KR2.out
        obtain ⟨s0, s1⟩ := res2 KR2.out (.bool false) (.int .i64 0)
        go_wp2
        refine bodyPost_ret (v := .agg #[.bool false, .int .i64 0]) (by simp [results, Try.results19, go_sem, s0, s1]) rfl ⟨by rw [E.out] <;> rfl, (fin _ _ _ HB2.out).out⟩
      · have EN : Hid (healthRun ⟨fz, n⟩ t fs = if fs.all fltOk then hRun ⟨fz, n⟩ t fs else ⟨false, 0⟩) := by show _ = _; rw [E.out]; rfl
        have hn := hRun_bd H1.out.symm
        go_wp2_with fail
        go_loopw [7] (fun i wr => ∃ k : Nat, k ≤ fs.length ∧ i = .int .i64 k ∧ Below w.heap.size w wr ∧ Hid (wr.heap[w.heap.size]? = some (.cells #[.bool (hRun ⟨fz, n⟩ t (fs.take k)).frozen, .int .i64 (hRun ⟨fz, n⟩ t (fs.take k)).restarts] 32 (0, 0)) ∧ wr.heap[w.heap.size + 1]? = some (.cells #[.bool false, .int .i64 0] 32 (0, 0)) ∧ ∀ i (_ : i < k) (h : i < fs.length), fltOk fs[i] = true)) (fun i _ => fs.length - (intOf i).toNat)
        case atStart => exact ⟨0, by omega, rfl, HB2.out, KB2.out, KR2.out, fun i hi => by omega⟩
        case round =>
          obtain ⟨k, hk, rfl, hbl, hH⟩ := hrel
          have HB := Lib.hid hbl
          clear hbl
          obtain ⟨j1, j2, j3, j4, j5⟩ := cell2 hH.out.2.1
          have HG : Hid (hOk (hRun ⟨fz, n⟩ t (fs.take k)) = true) := hRun_ok _ H1.out.symm
          by_cases hlt : k < fs.length
          · have hd : decide ((k : Int) < fs.length) = true := decide_eq_true (by omega)
            have HS := Lib.hid (hRun_snoc ⟨fz, n⟩ t fs k hlt)
            obtain ⟨g, hg⟩ : ∃ g, g = hRun ⟨fz, n⟩ t (fs.take k) := ⟨_, rfl⟩
            rw [← hg] at HS hH HG
            clear hg
            obtain ⟨gf, gn⟩ := g
            obtain ⟨k1, k2, k3, k4, k5⟩ := cell2 hH.out.1
            obtain ⟨b, off, rfl, hbB, h1⟩ := (HF.out.below (HB.out.mono hB)).at1 rfl hlt rfl
            have HAN : Hid (fltOk fs[k] = true → ∀ i (_ : i < k + 1) (h : i < fs.length), fltOk fs[i] = true) := fun hx i hi h => by
              rcases Nat.lt_or_ge i k with h' | h'
              · exact hH.out.2.2 i h' h
              · have : i = k := by omega
                subst this; exact hx
            have HAF : Hid (fltOk fs[k] = false → fs.all fltOk = false) := fun hx => all_snoc_false hlt hx
            obtain ⟨x, hx⟩ : ∃ x, x = fs[k] := ⟨_, rfl⟩
            rw [← hx] at h1 HS HAN HAF
            clear hx
            have EX : Hid (fltOk x = inB x 0 3) := rfl
            cases hxo : inB x 0 3
            · rw [hxo] at EX
              obtain ⟨s0, s1⟩ := res2 hH.out.2.1 (.bool false) (.int .i64 0)
              go_wp2_with (go_at_call 53; refine (callL1In _ _ _ _).mono ?_; rintro e w' ⟨rfl, rfl⟩)
              refine bodyPost_ret (v := .agg #[.bool false, .int .i64 0]) (by simp [results, Try.results19, go_sem, s0, s1]) rfl ⟨by rw [EN.out, HAF.out EX.out] <;> rfl, (fin _ _ _ HB.out).out⟩
            · rw [hxo] at EX
              obtain ⟨r, hrr⟩ : ∃ r, r = hAfter ⟨gf, gn⟩ t x := ⟨_, rfl⟩
              have C : ∀ W, Below wr.heap.size wr W → Hid (Calls Try.prog 54 #[.agg #[.bool gf, .int .i64 gn], .slice A t.length c, .int .i64 x] W fun e w' => e = .returned (.tuple #[r.1.val, .int .i64 r.2]) ∧ Below W.heap.size W w') := fun W hW => by
                have := callSHealthStep A c ⟨gf, gn⟩ t x W B (Nat.le_trans (Nat.le_trans hB HB.out.size) hW.size) HG.out H2.out.symm EX.out ((HR.out.below (HB.out.mono hB)).below (hW.mono (Nat.le_trans hB HB.out.size)))
                rw [← hrr] at this; exact this
              rw [← hrr] at HS
              clear hrr
              obtain ⟨⟨rf, rn⟩, ra⟩ := r
              have hbw : b < wr.heap.size := Nat.lt_of_lt_of_le hbB (Nat.le_trans hB HB.out.size)
              have HAT := Lib.hid (HAN.out EX.out)
              clear HAN HAF
              go_wp2_with (go_at_call 53; refine (callL1In _ _ _ _).mono ?_; rintro e w' ⟨rfl, rfl⟩)
              go_cut [8] from 24 to 47 (fun s8 wx => ∃ z : Nat, s8 = .pointer (some ⟨z, 0, none⟩) ∧ Below w.heap.size w wx ∧ w.heap.size + 1 < z ∧ Hid (wx.heap[z]? = some (.cells #[.bool rf, .int .i64 rn] 32 (0, 0)) ∧ wx.heap[w.heap.size]? = some (.cells #[.bool gf, .int .i64 gn] 32 (0, 0)) ∧ wx.heap[w.heap.size + 1]? = some (.cells #[.bool false, .int .i64 0] 32 (0, 0))))
              case first =>
                go_region_with (go_at_call 54; first | (refine (C _ ((Below.refl _ _).drew)).out.mono ?_; rintro e w5 ⟨rfl, hb5⟩; have HW := Lib.hid (Below.drew hb5)) | (refine (C _ (below1 wr _).drew).out.mono ?_; rintro e w5 ⟨rfl, hb5⟩; have hm5 := blkc (w := (wr.alloc (.cells #[.bool false, .int .i64 0] 32)).drew) (heap_alloc_new wr _) hb5; obtain ⟨m1, m2, m3, m4, m5⟩ := cell2 hm5))
                all_goals (go_wp2_with fail; go_meet)
                all_goals first | exact drawnA _ _ HB.out hb5 hH.out.1 hH.out.2.1 | exact drawnB _ _ HB.out hb5 hH.out.1 hH.out.2.1
              case rest =>
                obtain ⟨z, rfl, hbc, hz, hZ⟩ := hcut
                have HBC := Lib.hid hbc
                clear hbc k1 k2 k3 k4 k5 j1 j2 j3 j4 j5 C h1
                obtain ⟨m1, m2, m3, m4, m5⟩ := cell2 hZ.out.1
                obtain ⟨k1, k2, k3, k4, k5⟩ := cell2 hZ.out.2.1
                have KS := Lib.hid (set2 (u := .bool rf) (v := .int .i64 rn) hZ.out.2.1)
                have KR5 := Lib.hid (blko (blko hZ.out.2.2 (p := ⟨w.heap.size, 0, none⟩) (.bool rf) (by simp)) (p := ⟨w.heap.size, 1, none⟩) (.int .i64 rn) (by simp))
                have HB5 := Lib.hid (bset2 HBC.out (Nat.le_refl _) (.bool rf) (.int .i64 rn))
                go_wp2_with fail
                go_roundw
                case rel => exact ⟨k + 1, by omega, by go_num, HB5.out, by rw [HS.out]; exact ⟨KS.out, KR5.out, HAT.out⟩⟩
                case measure => simp [intOf]; omega
          · have hke : k = fs.length := by omega
            subst hke
            have hd : decide ((fs.length : Int) < fs.length) = false := by simp
            have EE : Hid (healthRun ⟨fz, n⟩ t fs = hRun ⟨fz, n⟩ t fs) := by show _ = _; rw [EN.out, all_of_get fun i h => hH.out.2.2 i h h] <;> rfl
            rw [List.take_length] at hH
            obtain ⟨g, hg⟩ : ∃ g, g = hRun ⟨fz, n⟩ t fs := ⟨_, rfl⟩
            rw [← hg] at EE hH
            clear hg HG
            obtain ⟨gf, gn⟩ := g
            obtain ⟨k1, k2, k3, k4, k5⟩ := cell2 hH.out.1
            obtain ⟨s0, s1⟩ := res2 hH.out.2.1 (.bool gf) (.int .i64 gn)
            go_wp2_with fail
            refine bodyPost_ret (v := .agg #[.bool gf, .int .i64 gn]) (by simp [results, Try.results19, go_sem, s0, s1]) rfl ⟨by rw [EE.out], (fin _ _ _ HB.out).out⟩
  · have dl : decide ((30 : Int) < (fs.length : Int)) = true := decide_eq_true (by omega)
    rw [decide_eq_false hl, Bool.and_false] at E
    go_enter Try.func19, Try.ntmps19
    go_wp2
    refine bodyPost_ret (v := .agg #[.bool false, .int .i64 0]) (by simp [results, Try.results19, go_sem]) rfl ⟨by rw [E.out] <;> rfl, below2 _ _ _⟩
end Go.Proofs.Ytlkdngjpbohgaaa
